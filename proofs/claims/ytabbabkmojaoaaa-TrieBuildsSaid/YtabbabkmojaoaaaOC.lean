/- several texts in one: TDS TES TQS BQS BLS -/
import Derived.Test.YtabbabkmojaoaaaOB
import Derived.Test.YtabbabkmojaoaaaND
import Derived.Test.YtabbabkmojaoaaaNE
import Derived.Test.YtabbabkmojaoaaaNF
import Derived.Test.YtabbabkmojaoaaaNR
set_option linter.unusedVariables false
set_option linter.unusedSimpArgs false
set_option maxRecDepth 100000
set_option maxHeartbeats 16000000
namespace Go.Proofs.Ytabbabkmojaoaaa.VS
open Go.RowKit
structure SpanD where
 f:Int
 t:Int
 v:El
instance:Inhabited SpanD:=⟨⟨0,0,ByteArray.empty⟩⟩
def SpansAt (w:World) (a:Option Addr) (l:List SpanD):Prop:=
 ∀i (h:i<l.length),∃b o,a=some ⟨b,o,none⟩∧w.cell? ⟨b,o+i*3,none⟩=some (.int .i32 l[i].f)∧w.cell? ⟨b,o+i*3+1,none⟩=some (.int .i32 l[i].t)∧w.cell? ⟨b,o+i*3+2,none⟩=some (.string l[i].v)
theorem SpansAt.get {w:World}{b o:Nat}{l:List SpanD}(h:SpansAt w (some ⟨b,o,none⟩) l)(i:Nat)(hi:i<l.length):
  w.cell? ⟨b,o+i*3,none⟩=some (.int .i32 l[i].f)∧w.cell? ⟨b,o+i*3+1,none⟩=some (.int .i32 l[i].t)∧w.cell? ⟨b,o+i*3+2,none⟩=some (.string l[i].v):=by
 obtain⟨b',o',e,hc⟩:=h i hi;simp only[Option.some.injEq,Addr.mk.injEq,and_true]at e;obtain⟨rfl,rfl⟩:=e;exact hc
theorem SpansAt.some {w:World}{a:Option Addr}{l:List SpanD}(h:SpansAt w a l)(hn:0<l.length):∃b o,a=Option.some ⟨b,o,none⟩:=by
 obtain⟨b,o,e,_⟩:=h 0 hn;exact⟨b,o,e⟩
theorem SpansAt.below {w w':World}{B:Nat}{a:Option Addr}{l:List SpanD}(h:SpansAt w a l)(hb:Below B w w')(hB:∀b o,a=Option.some ⟨b,o,none⟩→0<l.length→b<B):SpansAt w' a l:=by
 intro i hi;obtain⟨b,o,rfl,h1,h2,h3⟩:=h i hi;have hl:=hB b o rfl (by omega);exact⟨b,o,rfl,by rw[hb.cell (p:=⟨b,o+i*3,none⟩) hl];exact h1,by rw[hb.cell (p:=⟨b,o+i*3+1,none⟩) hl];exact h2,by rw[hb.cell (p:=⟨b,o+i*3+2,none⟩) hl];exact h3⟩
theorem SpansAt.lt {w:World}{a:Option Addr}{l:List SpanD}(h:SpansAt w a l):∀b o,a=Option.some ⟨b,o,none⟩→0<l.length→b<w.heap.size:=fun b o e h0=>by
 obtain⟨b',o',e2,h3, -⟩:=h 0 h0;rw[e2]at e;simp only[Option.some.injEq,Addr.mk.injEq,and_true]at e;obtain⟨rfl, -⟩:=e;exact World.block_lt_of_cell? w _ h3
theorem kGh (w:World)(bo bs br go N n c:Nat)(a:Option Addr)(l:List SpanD)(rest:El)(os:List Int)(r:Nat)(hN:os.length=N)(hN2:N≤1114112)(hr:r<N)(hl:l.length=n)(hn:n≤2097152)
  (h1:w.cell? ⟨bo,0,none⟩=some (.slice (some ⟨go,0,none⟩) N N))(h2:Ints .i32 w (some ⟨go,0,none⟩) os)(h3:w.cell? ⟨bs,0,none⟩=some (.slice a n c))(h4:SpansAt w a l)(h5:w.cell? ⟨br,0,none⟩=some (.string rest))
  (hx:os[r]=0∨∃i:Nat,i<n∧os[r]=(i:Int)+1):
  Calls Try.prog 125 #[.int .i32 (r:Nat),.pointer (some ⟨bo,0,none⟩),.pointer (some ⟨bs,0,none⟩),.pointer (some ⟨br,0,none⟩)] w fun e w'=>
   e= .returned (val8 (if os[r]=0 then rest else(l.getD (os[r] - 1).toNat default).v))∧w=w':=by
 have c1:=h2.get r (by omega);rw[Nat.zero_add]at c1
 have H2:=jH h2;clear h2
 have H4:=jH h4;clear h4
 generalize os[r]=x at*
 have hri:(r:Int)<(N:Int):=by omega
 go_enter Try.func125,Try.ntmps125
 rcases hx with rfl | ⟨i,hi,rfl⟩
 ·go_wp2
  go_ret
  exact⟨rfl,rfl⟩
 ·obtain⟨b,o,rfl⟩:=H4.out.some (by omega);obtain⟨-, -,c2⟩:=H4.out.get i (by omega)
  have e:(l.getD ((i:Int)+1 - 1).toNat default)=l[i]'(by omega):=by
   rw[show((i:Int)+1 - 1).toNat=i by omega];simp[show i<l.length by omega]
  rw[if_neg (by omega),e];clear e;generalize l[i]'(by omega)=s at*
  have hi1:(0:Int)<(i:Int)+1:=by omega
  have hi2:(i:Int)<(n:Int):=by omega
  go_wp2
  go_ret
  exact⟨rfl,rfl⟩
def badS (s:SpanD):Prop:=s.f<0∨1114111<s.t∨s.t<s.f
def kFd (x:Int) (s:SpanD):Bool:=decide (s.f≤x∧x≤s.t)
def ownF (l:List SpanD) (x:Int):Int:=match l.findIdx? (kFd x)with
 | some i=>(i:Int)+1
 | none=>0
def osF (N:Nat) (l:List SpanD):List Int:=(List.range N).map (fun x=>ownF l (x:Nat))
def osG (N:Nat) (l:List SpanD) (f r v:Int):List Int:=(List.range N).map (fun x=>if f≤((x:Nat):Int)∧((x:Nat):Int)<r then v else ownF l (x:Nat))
def meetS (l:List SpanD) (k:Nat):Prop:=∃x:Int,kFd x (l.getD k default)=true∧ownF (l.take k) x≠0
def fS (rest:El) (l:List SpanD) (r:Nat):El:=if ownF l (r:Nat)=0 then rest else(l.getD (ownF l (r:Nat) - 1).toNat default).v
theorem ownF_le (l:List SpanD)(x:Int):ownF l x=0∨∃i:Nat,i<l.length∧ownF l x=(i:Int)+1:=by
 unfold ownF
 cases h:l.findIdx? (kFd x)with
 | none=>exact .inl rfl
 | some i=>exact .inr ⟨i,(List.findIdx?_eq_some_iff_getElem.1 h).1,rfl⟩
theorem kFw (l:List SpanD)(s:SpanD)(x:Int):ownF (l++[s]) x=if ownF l x=0 then(if kFd x s=true then(l.length:Int)+1 else 0)else ownF l x:=by
 unfold ownF;rw[List.findIdx?_append]
 cases h:l.findIdx? (kFd x)with
 | some i=>simp;omega
 | none=>
  simp only[Option.none_or,List.findIdx?_cons,List.findIdx?_nil]
  by_cases hs:kFd x s=true
  ·simp[hs]
  ·simp[hs]
theorem kGn (N:Nat)(l:List SpanD)(f v:Int):osG N l f f v=osF N l:=by
 unfold osG osF
 apply List.map_congr_left
 intro x _;rw[if_neg (by omega)]
theorem kHm (N:Nat)(l:List SpanD)(f:Int)(r:Nat)(v:Int)(hr:r<N)(hf:f≤(r:Int)):(osG N l f r v).set r v=osG N l f ((r:Int)+1) v:=by
 apply List.ext_getElem?
 intro i
 by_cases e:r=i
 ·subst e;rw[List.getElem?_set_self (by simp[osG];exact hr)];simp only[osG,List.getElem?_map,List.getElem?_range hr,Option.map_some];rw[if_pos (by omega)]
 ·rw[List.getElem?_set_ne e];simp only[osG,List.getElem?_map]
  by_cases hi:i<N
  ·rw[List.getElem?_range hi];simp only[Option.map_some]
   by_cases h:f≤(i:Int)∧(i:Int)<r
   ·rw[if_pos h,if_pos (by omega)]
   ·rw[if_neg h,if_neg (by omega)]
  ·rw[List.getElem?_eq_none (by simp;omega)]
   rfl
theorem kKc (N:Nat)(l:List SpanD)(f:Int)(r:Nat)(v:Int)(hr:r<N):(osG N l f r v)[r]? =some (ownF l r):=by
 simp only[osG,List.getElem?_map,List.getElem?_range hr,Option.map_some];rw[if_neg (by omega)]
theorem kI4 (N:Nat)(l:List SpanD)(k:Nat)(hk:k<l.length)(hm:¬meetS l k):osG N (l.take k) (l[k]).f ((l[k]).t+1) ((k:Int)+1)=osF N (l.take (k+1)):=by
 unfold osG osF
 apply List.map_congr_left
 intro x _;rw[List.take_succ_eq_append_getElem hk,kFw]
 have hl:(l.take k).length=k:=by rw[List.length_take];omega
 rw[hl]
 by_cases h:(l[k]).f≤((x:Nat):Int)∧((x:Nat):Int)<(l[k]).t+1
 ·have hs:kFd (x:Nat) l[k]=true:=decide_eq_true ⟨h.1,by omega⟩
  have h0:ownF (l.take k) (x:Nat)=0:=Classical.byContradiction fun hn=>hm ⟨(x:Nat),by rw[show l.getD k default=l[k] by simp[hk]];exact hs,hn⟩
  rw[if_pos h,if_pos h0,if_pos hs]
 ·have hs:¬kFd (x:Nat) l[k]=true:=fun e=>by have:=of_decide_eq_true e;omega
  rw[if_neg h,if_neg hs]
  split
  ·rename_i h0;exact h0
  ·rfl
theorem kI3 (N:Nat):osF N []=List.replicate N 0:=by
 rw[List.eq_replicate_iff];refine⟨by simp[osF],fun x hx=> ?_⟩;obtain⟨y, -,rfl⟩:=List.mem_map.1 hx
 rfl
theorem kI2 (N:Nat)(l:List SpanD)(r:Nat)(hr:r<N):(osF N l)[r]? =some (ownF l r):=by
 simp only[osF,List.getElem?_map,List.getElem?_range hr,Option.map_some]
theorem kFv (N:Nat)(l:List SpanD):(osF N l).length=N:=by simp[osF]
theorem kCq (N:Nat)(l:List SpanD)(f r v:Int):(osG N l f r v).length=N:=by simp[osG]
theorem kIz {l:List SpanD}{k:Nat}(hk:k<l.length)(h:∀x:Int,(l[k]).f≤x→x≤(l[k]).t→ownF (l.take k) x=0):¬meetS l k:=by
 rintro⟨x,h1,h2⟩;rw[show l.getD k default=l[k] by simp[hk]]at h1;have h3:=of_decide_eq_true h1;exact h2 (h x h3.1 h3.2)
theorem kHs {l:List SpanD}{k:Nat}(hk:k<l.length){x:Int}(h1:(l[k]).f≤x)(h2:x≤(l[k]).t)(h:ownF (l.take k) x≠0):meetS l k:=
 ⟨x,by rw[show l.getD k default=l[k] by simp[hk]];exact decide_eq_true ⟨h1,h2⟩,h⟩
end Go.Proofs.Ytabbabkmojaoaaa.VS

namespace Go.Proofs.Ytabbabkmojaoaaa.VS
open Go.RowKit
instance (s:SpanD):Decidable (badS s):=by unfold badS;infer_instance
def kEx (w:World) (rest:El) (l:List SpanD) (e:Ending) (w':World):Prop:=
 Below w.heap.size w w'∧
  ((∃i,i<l.length∧badS (l.getD i default)∧(∀j,j<i→¬badS (l.getD j default))∧e= .returned (.tuple #[.pointer none,.int .i64 (i:Nat),.int .i64 110]))∨
  ((∀j,j<l.length→¬badS (l.getD j default))∧∃k,k<l.length∧meetS l k∧(∀j,j<k→¬meetS l j)∧e= .returned (.tuple #[.pointer none,.int .i64 (k:Nat),.int .i64 111]))∨
  ((∀j,j<l.length→¬badS (l.getD j default))∧(∀j,j<l.length→¬meetS l j)∧∃g,e= .returned (.tuple #[.pointer (some ⟨g,0,none⟩),.int .i64 0,.int .i64 0])∧w.heap.size≤g∧
   ∃am cm al cl,kBz val8 1 129 138 120 122 w' g (mkF (fS rest l) 17408) (mkF (fS rest l) 17408).lows (mkF (fS rest l) 17408).mids am cm al cl))
def Bl1 (w0:World) (n:Nat) (l:List SpanD) (i:Value) (wr:World):Prop:=
 ∃k:Nat,k≤n∧i= .int .i64 k∧(∀j,j<k→¬badS (l.getD j default))∧Below w0.heap.size w0 wr
def Bl2 (w3:World) (go N n:Nat) (l:List SpanD) (i:Value) (wr:World):Prop:=
 ∃k:Nat,k≤n∧i= .int .i64 k∧(∀j,j<k→¬meetS l j)∧Own go 21 wr (some ⟨go,0,none⟩) N N (ivs .i32 (osF N (l.take k)))∧w3.grownBy wr (some go)
def Bl3 (W:World) (go N k:Nat) (l:List SpanD) (f t:Int) (v:Value) (wr:World):Prop:=
 ∃r:Nat,v= .int .i32 (r:Nat)∧f≤(r:Int)∧(r:Int)≤t+1∧(∀x:Int,f≤x→x<(r:Int)→ownF (l.take k) x=0)∧Own go 21 wr (some ⟨go,0,none⟩) N N (ivs .i32 (osG N (l.take k) f r ((k:Int)+1)))∧W.grownBy wr (some go)
theorem kEh (rest:El)(a:Option Addr)(n c:Nat)(l:List SpanD)(w:World)(hl:l.length=n)(hn:n≤2097152)(hs:SpansAt w a l)(hwf:∀s∈l, -2147483648≤s.f∧s.f≤2147483647∧ -2147483648≤s.t∧s.t≤2147483647):
  Calls Try.prog 106 #[.string rest,.slice a n c] w fun e w'=>kEx w rest l e w':=by
 have HL:=jH hl;clear hl
 have HS:=jH hs;clear hs
 have HWf:=jH hwf;clear hwf
 obtain⟨bR,hbR⟩:∃bR,bR=w.heap.size:=⟨_,rfl⟩
 have HW0:Hid (Below w.heap.size w ((w.alloc (.cells #[.string rest] 9)).alloc (.cells #[.slice a n c] 190))∧((w.alloc (.cells #[.string rest] 9)).alloc (.cells #[.slice a n c] 190)).heap[bR]? =some (.cells #[.string rest] 9 (0,0))∧
   ((w.alloc (.cells #[.string rest] 9)).alloc (.cells #[.slice a n c] 190)).heap[bR+1]? =some (.cells #[.slice a n c] 190 (0,0))∧((w.alloc (.cells #[.string rest] 9)).alloc (.cells #[.slice a n c] 190)).heap.size=bR+1+1):=jH (by
  rw[hbR]
  refine⟨((Below.refl _ w).alloc jR _).alloc (by simp) _,?_,?_,by simp⟩
  ·rw[Below.heap_alloc _ _ _ (by simp)];exact jN w _
  ·have:=jN (w.alloc (.cells #[.string rest] 9)) (.cells #[.slice a n c] 190)
   simpa using this)
 go_enter Try.func106,Try.ntmps106
 go_upto_region 1 with(fail)
 rw[←hbR];generalize ((w.alloc (.cells #[.string rest] 9)).alloc (.cells #[.slice a n c] 190))=w0 at*
 have HBr:=jH hbR;clear hbR
 have HS0:=jH (HS.out.below HW0.out.1 (fun b o e h0=>HS.out.lt b o e h0));have q1:=jK w0 (bR+1) 0 _ _ (0,0) HW0.out.2.2.1;simp at q1;go_wp2
 go_loopw [15] (Bl1 w0 n l) (fun i _=>n - (intOf i).toNat)
 case atStart=>exact⟨0,Nat.zero_le _,rfl,fun j hj=>by omega,Below.refl _ _⟩
 case round=>
  obtain⟨k,hk,rfl,hgood,hbel⟩:=hrel
  have HGd:=jH hgood;clear hgood
  have HBe:=jH hbel;clear hbel
  by_cases hkn:k<n
  ·have hki:(k:Int)<(n:Int):=by omega
   have hkl:k<l.length:=by rw[HL.out];exact hkn
   obtain⟨b,o,ha⟩:=HS0.out.some (by omega);subst ha;obtain⟨c1,c2,c3⟩:=(HS0.out.below HBe.out (fun b o e h0=>HS0.out.lt b o e h0)).get k hkl;have hwk:=HWf.out l[k] (List.getElem_mem hkl);have HGk:=jH (show l.getD k default=l[k] by simp[hkl]);generalize l[k]=s at*
   by_cases hb:badS s
   ·have HBad:=jH hb
    have hcs:(s.f<0)∨(¬s.f<0∧1114111<s.t)∨(¬s.f<0∧¬1114111<s.t∧s.t<s.f):=by unfold badS at hb;omega
    clear hb;rcases hcs with h1 | ⟨h1,h2⟩ | ⟨h1,h2,h3⟩
    all_goals
     go_wp2
     go_ret3
     exact⟨(HW0.out.1.trans (HBe.out.mono HW0.out.1.size)).alloc (Nat.le_trans HW0.out.1.size HBe.out.size) _,.inl ⟨k,hkl,by rw[HGk.out];exact HBad.out,HGd.out,rfl⟩⟩
   ·have HBad:=jH hb
    have hcs:¬s.f<0∧¬1114111<s.t∧¬s.t<s.f:=by unfold badS at hb;omega
    obtain⟨h1,h2,h3⟩:=hcs;clear hb;go_wp2
    refine⟨⟨k+1,by omega,by go_num,fun j hj=> ?_,HBe.out.alloc HBe.out.size _⟩,by simp[intOf];omega⟩
    by_cases e:j=k
    ·rw[e,HGk.out];exact HBad.out
    ·exact HGd.out j (by omega)
  ·obtain rfl:k=n:=by omega
   have hki:¬(k:Int)<(k:Int):=by omega
   obtain⟨w1,rfl⟩:∃w1,w1=wr:=⟨_,rfl⟩
   obtain⟨N,hN⟩:∃N:Nat,N=1114112:=⟨_,rfl⟩
   have HNN:=jH hN;clear hN
   go_wp2_with (at_make;refine kJa Try.elem32 rfl rfl (.const (.int .i64 1114112)) (.const (.int .i64 1114112)) rfl N (by have:=HNN.out;omega) (by have:=HNN.out;unfold maxLen;omega) (by rw[HNN.out];rfl) (by rw[HNN.out];rfl) ?_)
   intro w2 hown hb2 hs2
   go_upto_region 8 with(fail)
   obtain⟨go,hgo⟩:∃go,go=w1.heap.size:=⟨_,rfl⟩
   rw[←hgo]at hown hs2 ⊢
   obtain⟨w3,hw3⟩:∃w3,w3=w2.alloc (.cells #[.slice (some ⟨go,0,none⟩) N N] 60):=⟨_,rfl⟩
   have hB23:Below w2.heap.size w2 w3:=by rw[hw3];exact(Below.refl _ _).alloc jR _
   have HBo:Hid (w3.heap[go+1]? =some (.cells #[.slice (some ⟨go,0,none⟩) N N] 60 (0,0))):=jH (by rw[←hs2,hw3];exact jN w2 _)
   have hs3:w3.heap.size=go+1+1:=by rw[hw3];simp[hs2]
   rw[←hw3];clear hw3
   have HO3:Hid (Own go 21 w3 (some ⟨go,0,none⟩) N N (ivs .i32 (osF N (l.take 0)))):=jH (by
    rw[List.take_zero,kI3,←kF5]
    exact hown.below hB23 jR)
   have HB13:Hid (Below w1.heap.size w1 w3):=jH (kBq hb2 hB23);have HB03:Hid (Below w0.heap.size w0 w3):=jH (kBq HBe.out HB13.out)
   have hw01:w0.heap.size≤go:=by rw[hgo];exact HBe.out.size
   have HS3:=jH (HS0.out.below HB03.out (fun b o e h0=>HS0.out.lt b o e h0));have HSl:=jH (fun b o e h0=>HS0.out.lt b o e h0)
   have hbR2:bR+1<w0.heap.size:=by rw[HW0.out.2.2.2];omega
   have HbS3:=jH ((HB03.out.block (bR+1) hbR2).trans HW0.out.2.2.1);have HbR3:=jH ((HB03.out.block bR (by omega)).trans HW0.out.2.1);have HW3:=jH (HW0.out.1.trans (HB03.out.mono HW0.out.1.size));clear hown hb2 hs2 hB23 q1 HB13 HBe hgo;have q1:=jK w3 (bR+1) 0 _ _ (0,0) HbS3.out;simp at q1;have HGd2:=jH HGd.out;go_wp2
   go_loopw [40] (Bl2 w3 go N k l) (fun i _=>k - (intOf i).toNat)
   case atStart=>exact⟨0,Nat.zero_le _,rfl,fun j hj=>by omega,HO3.out,World.grownBy.refl _ _⟩
   case round=>
    obtain⟨m,hm,rfl,hnm,hown,hgr⟩:=hrel
    have HNm:=jH hnm;clear hnm
    have HOw:=jH hown;clear hown
    have HGr:=jH hgr;clear hgr
    obtain⟨w4,rfl⟩:∃w4,w4=wr:=⟨_,rfl⟩
    by_cases hmk:m<k
    ·have hmi:(m:Int)<(k:Int):=by omega
     have hml:m<l.length:=by rw[HL.out];exact hmk
     obtain⟨b,o,ha⟩:=HS3.out.some (by omega);subst ha
     have hbgo:b<go:=by have:=HSl.out b o rfl (by omega);omega
     obtain⟨d1,d2,d3⟩:=HS3.out.get m hml;have c1:=HGr.out.cell d1 (by simp;omega);have c2:=HGr.out.cell d2 (by simp;omega);have c3:=HGr.out.cell d3 (by simp;omega);clear d1 d2 d3
     have hgm:¬badS l[m]:=by have:=HGd2.out m hmk;rwa[show l.getD m default=l[m] by simp[hml]]at this
     have hwk:=HWf.out l[m] (List.getElem_mem hml);have HEnd:=jH (fun h=>kI4 N l m hml h);have HNoM:=jH (fun h=>kIz hml h);have HYes:=jH (fun(x:Int) h1 h2 h3=>kHs (x:=x) hml h1 h2 h3);generalize l[m]=s at*;obtain⟨f,t,v⟩:=s;simp only at c1 c2 c3 hwk HEnd HNoM HYes
     have hcs:¬f<0∧¬1114111<t∧¬t<f:=by unfold badS at hgm;simp only at hgm;omega
     clear hgm;obtain⟨h1,h2,h3⟩:=hcs
     obtain⟨fn,rfl⟩:∃fn:Nat,f=(fn:Int):=⟨f.toNat,by omega⟩
     have htn:t≤1114111:=by omega
     have hg4:go+1+1≤w4.heap.size:=by rw[←hs3];exact HGr.out.size
     go_upto_region 12 with(fail)
     obtain⟨w5,hw5⟩:∃w5,w5=w4.alloc (.cells #[.int .i32 (fn:Nat),.int .i32 t,.string v] 163):=⟨_,rfl⟩
     have HG5:Hid (w4.grownBy w5 (some go)):=jH (by rw[hw5];exact World.grownBy_alloc _ _ _);have HC5:Hid (w5.heap[w4.heap.size]? =some (.cells #[.int .i32 (fn:Nat),.int .i32 t,.string v] 163 (0,0))):=jH (by rw[hw5];exact jN w4 _);have HO5:Hid (Own go 21 w5 (some ⟨go,0,none⟩) N N (ivs .i32 (osF N (l.take m)))):=jH (by rw[hw5];exact World.ownsRow.alloc HOw.out _);rw[←hw5];clear hw5 c1 c2 c3
     obtain⟨b5,hb5⟩:∃b5,b5=w4.heap.size:=⟨_,rfl⟩
     rw[←hb5]at HC5 hg4 ⊢;clear hb5;have HH:=jH (And.intro h1 (And.intro h2 h3));clear h1 h2 h3
     go_loopw [12] (Bl3 w5 go N m l fn t) (fun v _=>(t+1 - (intOf v)).toNat)
     case atStart=>exact⟨fn,rfl,Int.le_refl _,by have:=HH.out;omega,fun x h1 h2=>by omega,by rw[kGn];exact HO5.out,World.grownBy.refl _ _⟩
     case round=>
      obtain⟨r,rfl,hr1,hr2,hz,hown,hgr⟩:=hrel
      have HZr:=jH hz;clear hz
      have HOr:=jH hown;clear hown
      have HGr5:=jH hgr;clear hgr
      have e1:=jK w5 b5 1 _ _ (0,0) HC5.out;simp at e1;have e2:=HGr5.out.cell e1 (by simp;omega);clear e1
      by_cases hrt:(r:Int)≤t
      ·have hrN:r<N:=by have:=HNN.out;omega
       have hrNi:(r:Int)<(N:Int):=by omega
       have p0:=jK w3 (go+1) 0 _ _ (0,0) HBo.out;simp at p0;have p1:=HG5.out.cell (HGr.out.cell p0 (by simp)) (by simp);have p2:=HGr5.out.cell p1 (by simp);clear p0 p1;have x1:=HOr.out.cell r (by rw[kCy,kCq];exact hrN)
       have x2:(ivs .i32 (osG N (l.take m) fn r ((m:Int)+1)))[r]'(by rw[kCy,kCq];exact hrN)= .int .i32 (ownF (l.take m) r):=by
        have:=kKc N (l.take m) fn r ((m:Int)+1) hrN;simp only[ivs,List.getElem_map];rw[List.getElem?_eq_getElem (by rw[kCq];exact hrN)]at this;rw[Option.some.inj this]
       rw[x2]at x1;clear x2;have f1:=HOr.out.unfrozen r
       by_cases h0:ownF (l.take m) r=0
       ·rw[h0]at x1
        have HZ0:=jH h0;clear h0
        go_wp2
        refine⟨⟨r+1,by go_num,by omega,by omega,fun x hx1 hx2=> ?_,?_,kAm HGr5.out (kAe wr go r _)⟩,by simp[intOf];omega⟩
        ·by_cases e:x=(r:Int)
         ·rw[e];exact HZ0.out
         ·exact HZr.out x hx1 (by omega)
        ·have ho:=HOr.out.store r (.int .i32 ((m:Int)+1));rw[kJu,kHm N (l.take m) fn r ((m:Int)+1) hrN hr1]at ho;rw[show((r+1:Nat):Int)=(r:Int)+1 by omega];exact ho
       ·have hM:=jH (HYes.out r hr1 hrt h0)
        have h0b:(ownF (l.take m) r != 0)=true:=by simpa using h0
        generalize ownF (l.take m) r=y at*;go_wp2
        go_ret3
        have hb:Below w.heap.size w wr:=HW3.out.trans (kBa (kAm HGr.out (kAm HG5.out HGr5.out)) (fun k e=>by cases e;have:=HW0.out.1.size;omega) HW3.out.size);exact⟨hb,.inr (.inl ⟨fun j hj=>HGd2.out j (by have:=HL.out;omega),m,hml,hM.out,HNm.out,rfl⟩)⟩
      ·have hrt2:(r:Int)=t+1:=by omega
       have hm2:=HNoM.out (fun x h1 h2=>HZr.out x h1 (by omega));have ho2:=HEnd.out hm2;have HO6:Hid (Own go 21 wr (some ⟨go,0,none⟩) N N (ivs .i32 (osF N (l.take (m+1))))):=jH (by rw[←ho2,←hrt2];exact HOr.out);have HM6:=jH hm2;have HG6:=jH (kAm HGr.out (kAm HG5.out HGr5.out));clear hm2 ho2 hrt2;go_wp2
       refine⟨⟨m+1,by omega,by go_num,fun j hj=> ?_,HO6.out,HG6.out⟩,by simp[intOf];omega⟩
       by_cases e:j=m
       ·rw[e];exact HM6.out
       ·exact HNm.out j (by omega)
    ·obtain rfl:m=k:=by omega
     have hmi:¬(m:Int)<(m:Int):=by omega
     have HOl:Hid (Own go 21 w4 (some ⟨go,0,none⟩) N N (ivs .i32 (osF N l))):=jH (by
      have:=HOw.out
      rwa[List.take_of_length_le (by have:=HL.out;omega)]at this)
     have HB4:=jH (HW3.out.trans (kBa HGr.out (fun k e=>by cases e;have:=HW0.out.1.size;omega) HW3.out.size));have p0:=jK w3 (go+1) 0 _ _ (0,0) HBo.out;simp at p0;have p1:=jK w3 bR 0 _ _ (0,0) HbR3.out;simp at p1;have K0:=jH (HGr.out.cell p0 (by simp));have K1:=jH (HGr.out.cell q1 (by simp;omega));have K2:=jH (HGr.out.cell p1 (by simp;omega))
     have KS:Hid (SpansAt w4 a l):=jH (fun i hi=>by
      obtain⟨b,o,e,h1,h2,h3⟩:=HS3.out i hi;have hb:=HSl.out b o e (by omega)
      exact⟨b,o,e,HGr.out.cell h1 (by simp;omega),HGr.out.cell h2 (by simp;omega),HGr.out.cell h3 (by simp;omega)⟩)
     have hg4:go+1+1≤w4.heap.size:=by rw[←hs3];exact HGr.out.size
     clear p0 p1 q1
     go_wp2_with fail
     refine(kFo 125 #[.pointer (some ⟨go+1,0,none⟩),.pointer (some ⟨bR+1,0,none⟩),.pointer (some ⟨bR,0,none⟩)] w4 (fS rest l) (fun _ W=>Below w4.heap.size w4 W) (enters_of Try.func125 (by kernel_rfl) rfl)
      (fun _ W W' h1 h2=>h1.trans h2) ?call (Below.refl _ _)).mono ?_
     case call=>
      intro r W hr hJ hW
      have hrN:r<N:=by rw[HNN.out];exact hr
      have hlen:(osF N l).length=N:=kFv N l
      have hos:(osF N l)[r]'(by rw[hlen];exact hrN)=ownF l (r:Nat):=by
       have:=kI2 N l r hrN;rw[List.getElem?_eq_getElem (by rw[hlen];exact hrN)]at this;exact Option.some.inj this
      refine(kGh W (go+1) (bR+1) bR go N m c a l rest (osF N l) r hlen (by rw[HNN.out];exact Nat.le_refl _) hrN HL.out hn ((hJ.cell (p:=⟨go+1,0,none⟩) (by show go+1<_;omega)).trans K0.out) ((HOl.out.below hJ jR).ints) ((hJ.cell (p:=⟨bR+1,0,none⟩) (by show bR+1<_;omega)).trans K1.out) (KS.out.below hJ (fun b o e h0=>KS.out.lt b o e h0)) ((hJ.cell (p:=⟨bR,0,none⟩) (by show bR<_;omega)).trans K2.out) (by rw[hos];have:=ownF_le l (r:Nat);rw[HL.out]at this;exact this)).mono ?_;rintro e W' ⟨rfl,rfl⟩;refine⟨?_,hJ,⟨rfl,rfl,rfl,Nat.le_refl _,fun _ _ _=>rfl⟩⟩;rw[hos]
      rfl
     rintro e w6 ⟨g,rfl,hg,hmk,hJ6⟩
     have HJ6:=jH hJ6;clear hJ6
     have HMk:=jH hmk;clear hmk
     go_wp2
     go_ret3
     exact⟨kBq HB4.out HJ6.out,.inr (.inr ⟨fun j hj=>HGd2.out j (by have:=HL.out;omega),fun j hj=>HNm.out j (by have:=HL.out;omega),g,rfl,by have:=HB4.out.size;omega,HMk.out⟩)⟩
theorem kD9 (rest:El)(a:Option Addr)(n c:Nat)(l:List SpanD)(w:World)(hl:l.length=n)(hn:n≤1048576)(hs:SpansAt w a l)(hwf:∀s∈l, -2147483648≤s.f∧s.f≤2147483647∧ -2147483648≤s.t∧s.t≤2147483647):
  Calls Try.prog 106 #[.string rest,.slice a n c] w fun e w'=>kEx w rest l e w':=
 kEh rest a n c l w hl (by omega) hs hwf
end Go.Proofs.Ytabbabkmojaoaaa.VS

namespace Go.Proofs.Ytabbabkmojaoaaa.VS
open Go.RowKit
theorem inv8 (f:Nat→El):∀k,k≤17408→kLp (blkF f) k (mkF f k):=by
 intro k
 induction k with
 | zero=>intro _;exact kLp.zero _ _ rfl rfl rfl
 | succ k ih=>
  intro hk;obtain⟨h1,h2, -⟩:=kC4 f k;exact(ih (by omega)).next h1 h2 (kAu f k) (by omega)
structure kBu (f:Nat→El) (S:MkS El):Prop where
 made:kJn (blkF f) S
 ml:S.mids.length≤272
 ll:S.lows.length≤17408
 eq:∃K,K=17408∧S=mkF f K
theorem kL8 (f:Nat→El):∀K,K=17408→kBu f (mkF f K):=fun K hK=>by
 obtain⟨hw, -,hl,hm⟩:=kC4 f K;refine⟨⟨?_,hw⟩,by omega,by omega,K,hK,rfl⟩;have:=inv8 f K (by omega);subst hK;exact this
def kA1 (S:MkS El):kAy El:=⟨S.top,S.mids,S.lows⟩
theorem kHq {f:Nat→El}{S:MkS El}(hM:kBu f S){w:World}{g:Nat}{am:Option Addr}{cm:Nat}{al:Option Addr}{cl:Nat}
  (h:kBz val8 1 129 138 120 122 w g S S.lows S.mids am cm al cl):kAj val8 138 64 w g (kA1 S):=by
 refine⟨am,cm,al,cl,h.tr,?_,?_⟩
 ·exact kAx h.rm (fun l hl=>by rw[kAh (sz:=1) (fun _=>rfl),hM.made.ok.mid l hl])
 ·exact kAx h.rl (fun l hl=>by rw[kAh (sz:=1) (fun _=>rfl),hM.made.ok.low l hl])
theorem kBu.trie {f:Nat→El}{S:MkS El}(hM:kBu f S):kA5 (kA1 S):=by
 refine⟨hM.made.ok.top,hM.made.ok.mid,hM.made.ok.low,fun k hk=> ?_,fun m hm k hk=> ?_,hM.ml,hM.ll⟩
 ·obtain⟨c,hc,rfl⟩:=List.mem_iff_getElem.1 hk
  have hc2:c<272:=by have:=hM.made.ok.top;unfold kA1 at hc;simp only at hc;omega
  obtain⟨i,m,h1,h2, -⟩:=hM.made.inv.tp c (by omega);rw[show S.top[c]? =some ((kA1 S).top[c])from List.getElem?_eq_getElem hc]at h1;have e:=Option.some.inj h1;rw[e];exact(List.getElem?_eq_some_iff.1 h2).1
 ·obtain⟨c, -,hr⟩:=hM.made.inv.md m hm;exact hr.lt (hM.made.ok.mid m hm) k hk
theorem kBu.pos {f:Nat→El}{S:MkS El}(hM:kBu f S):0<S.lows.length∧0<S.mids.length:=by
 have h1:=hM.made.inv.hl 0 (by omega);obtain⟨i,m, -,h2, -⟩:=hM.made.inv.tp 0 (by omega);exact⟨List.length_pos_of_mem h1,List.length_pos_of_mem (List.mem_of_getElem? h2)⟩
theorem kBu.look {f:Nat→El}{S:MkS El}(hM:kBu f S)(r:Nat)(hr:r≤1114111):kAl (ByteArray.empty:El) (kA1 S) r=f r:=by
 obtain⟨i,m,h1,h2,h3⟩:=hM.made.inv.tp (r / 4096) (by omega);obtain⟨j,h4,h5⟩:=h3 (r / 64 % 64) (by omega);unfold kAl kA1;simp only
 have e1:S.top.getD (r / 4096) 0=i:=by rw[List.getD_eq_getElem?_getD,h1];rfl
 have e2:S.mids.getD i []=m:=by rw[List.getD_eq_getElem?_getD,h2];rfl
 have e3:m.getD (r / 64 % 64) 0=j:=by rw[List.getD_eq_getElem?_getD,h4];rfl
 have e4:S.lows.getD j []=blkF f (64*(r / 4096)+r / 64 % 64):=by rw[List.getD_eq_getElem?_getD,h5];rfl
 rw[e1,e2,e3,e4];unfold blkF;rw[List.getD_eq_getElem?_getD,List.getElem?_map,List.getElem?_range (by omega)];simp only[Option.map_some,Option.getD_some]
 congr 1
 omega
end Go.Proofs.Ytabbabkmojaoaaa.VS

namespace Go.Proofs.Ytabbabkmojaoaaa.VS
open Go.RowKit
def BldQ (w:World) (rest:El) (l:List SpanD) (e:Ending) (w':World):Prop:=
 Below w.heap.size w w'∧
  ((∃i,i<l.length∧badS (l.getD i default)∧(∀j,j<i→¬badS (l.getD j default))∧e= .returned (.tuple #[.pointer none,.int .i64 (i:Nat),.int .i64 110]))∨
  ((∀j,j<l.length→¬badS (l.getD j default))∧∃k,k<l.length∧meetS l k∧(∀j,j<k→¬meetS l j)∧e= .returned (.tuple #[.pointer none,.int .i64 (k:Nat),.int .i64 111]))∨
  ((∀j,j<l.length→¬badS (l.getD j default))∧(∀j,j<l.length→¬meetS l j)∧∃g S,e= .returned (.tuple #[.pointer (some ⟨g,0,none⟩),.int .i64 0,.int .i64 0])∧w.heap.size≤g∧
   kBu (fS rest l) S∧kAj val8 138 64 w' g (kA1 S)))
theorem kHv {w:World}{rest:El}{l:List SpanD}{e:Ending}{w':World}(h:kEx w rest l e w'):BldQ w rest l e w':=by
 obtain⟨h1,h2⟩:=h;refine⟨h1,?_⟩
 rcases h2 with h2 | h2 | ⟨h3,h4,g,h5,h6,am,cm,al,cl,h7⟩
 ·exact .inl h2
 ·exact .inr (.inl h2)
 ·have hM:=kL8 (fS rest l) 17408 rfl;generalize mkF (fS rest l) 17408=S at*;exact .inr (.inr ⟨h3,h4,g,S,h5,h6,hM,kHq hM h7⟩)
end Go.Proofs.Ytabbabkmojaoaaa.VS

namespace Go.Proofs.Ytabbabkmojaoaaa.VS
open Go.RowKit
def spV (of:Int→El) (l:List Go.Proofs.Ytabbabkmojaoaaa.SpanD):List SpanD:=l.map (fun s=>⟨s.f,s.t,of s.v⟩)
theorem kA8 (of:Int→El)(l:List Go.Proofs.Ytabbabkmojaoaaa.SpanD):(spV of l).length=l.length:=by simp[spV]
theorem kE9 (of:Int→El)(l:List Go.Proofs.Ytabbabkmojaoaaa.SpanD)(i:Nat)(hi:i<l.length):(spV of l).getD i default=⟨(l.getD i default).f,(l.getD i default).t,of (l.getD i default).v⟩:=by
 simp[spV,hi]
theorem kDz {of:Int→El}{l:List Go.Proofs.Ytabbabkmojaoaaa.SpanD}{i:Nat}(hi:i<l.length):badS ((spV of l).getD i default)↔Go.Proofs.Ytabbabkmojaoaaa.badS (l.getD i default):=by
 rw[kE9 of l i hi]
 rfl
theorem kE6 (of:Int→El)(l:List Go.Proofs.Ytabbabkmojaoaaa.SpanD)(x:Int):ownF (spV of l) x=Go.Proofs.Ytabbabkmojaoaaa.ownF l x:=by
 unfold ownF
 try unfold Go.Proofs.Ytabbabkmojaoaaa.ownF
 unfold spV;rw[List.findIdx?_map]
 rfl
theorem kHp (of:Int→El)(l:List Go.Proofs.Ytabbabkmojaoaaa.SpanD)(k:Nat):(spV of l).take k=spV of (l.take k):=by simp[spV]
theorem kD0 {of:Int→El}{l:List Go.Proofs.Ytabbabkmojaoaaa.SpanD}{k:Nat}(hk:k<l.length):meetS (spV of l) k↔Go.Proofs.Ytabbabkmojaoaaa.meetS l k:=by
 unfold meetS
 try unfold Go.Proofs.Ytabbabkmojaoaaa.meetS
 rw[kE9 of l k hk,kHp]
 constructor
 ·rintro⟨x,h1,h2⟩;exact⟨x,h1,by rw[kE6]at h2;exact h2⟩
 ·rintro⟨x,h1,h2⟩;exact⟨x,h1,by rw[kE6];exact h2⟩
theorem kL2 (of:Int→El)(rest:Int)(l:List Go.Proofs.Ytabbabkmojaoaaa.SpanD)(r:Nat):fS (of rest) (spV of l) r=of (Go.Proofs.Ytabbabkmojaoaaa.fS rest l r):=by
 unfold fS
 try unfold Go.Proofs.Ytabbabkmojaoaaa.fS
 rw[kE6]
 by_cases h:Go.Proofs.Ytabbabkmojaoaaa.ownF l (r:Nat)=0
 ·rw[if_pos h,if_pos h]
 ·rw[if_neg h,if_neg h]
  rcases Go.Proofs.Ytabbabkmojaoaaa.ownF_le l (r:Nat)with h1 | ⟨i,hi,h1⟩
  ·exact absurd h1 h
  ·rw[h1,show((i:Int)+1 - 1).toNat=i by omega,kE9 of l i hi]
theorem kBy (of:Int→El)(l:List Go.Proofs.Ytabbabkmojaoaaa.SpanD):(flatO of l).length=l.length*3:=by
 induction l with
 | nil=>rfl
 | cons s l ih=>rw[flatO,List.flatMap_cons,←flatO,List.length_append,ih,List.length_cons];simp;omega
theorem kFg (of:Int→El):∀(l:List Go.Proofs.Ytabbabkmojaoaaa.SpanD) (i:Nat) (hi:i<l.length),(flatO of l)[i*3]? =some (.int .i32 l[i].f)∧(flatO of l)[i*3+1]? =some (.int .i32 l[i].t)∧(flatO of l)[i*3+2]? =some (val8 (of l[i].v))
 | [],i,hi=>absurd hi (by simp)
 | s :: l,0,_=>by simp[flatO]
 | s :: l,i+1,hi=>by
  have e:flatO of (s :: l)= .int .i32 s.f :: .int .i32 s.t :: val8 (of s.v) :: flatO of l:=rfl;have h:=kFg of l i (by simpa using hi);rw[e,show(i+1)*3=i*3+1+1+1 by omega]
  simpa using h
theorem kDv {B:Nat}{E:TypeId}{w:World}{a:Option Addr}{n c:Nat}{of:Int→El}{l:List Go.Proofs.Ytabbabkmojaoaaa.SpanD}{ys:List Value}(h:w.ownsRow B E 3 (.slice a n c) n (flatO of l++ys)):SpansAt w a (spV of l):=by
 intro i hi;rw[kA8]at hi
 have hln:l.length*3≤n*3:=by have:=h.1;rw[List.length_append,kBy]at this;omega
 rcases h.2 with⟨-,h0⟩ | ⟨g,cap,cur,e,hb,hg, -⟩
 ·omega
 ·simp only[Value.slice.injEq]at e;obtain⟨rfl, -,rfl⟩:=e;obtain⟨g1,g2,g3⟩:=kFg of l i hi
  have e2:(spV of l)[i]'(by rw[kA8];exact hi)=⟨l[i].f,l[i].t,of l[i].v⟩:=by simp[spV]
  rw[e2];have hl:=kBy of l
  refine⟨g,0,rfl,?_,?_,?_⟩
  ·rw[Nat.zero_add,World.ownsRow.cellAt h (i*3) (by omega),List.getElem?_append_left (by omega)];exact g1
  ·rw[Nat.zero_add,World.ownsRow.cellAt h (i*3+1) (by omega),List.getElem?_append_left (by omega)];exact g2
  ·rw[Nat.zero_add,World.ownsRow.cellAt h (i*3+2) (by omega),List.getElem?_append_left (by omega)];exact g3
def kDx (w:World) (of:Int→El) (rest:Int) (l:List Go.Proofs.Ytabbabkmojaoaaa.SpanD) (e:Ending) (w':World):Prop:=
 Below w.heap.size w w'∧
  ((∃i,i<l.length∧Go.Proofs.Ytabbabkmojaoaaa.badS (l.getD i default)∧(∀j,j<i→¬Go.Proofs.Ytabbabkmojaoaaa.badS (l.getD j default))∧e= .returned (.tuple #[.pointer none,.int .i64 (i:Nat),.int .i64 110]))∨
  ((∀j,j<l.length→¬Go.Proofs.Ytabbabkmojaoaaa.badS (l.getD j default))∧∃k,k<l.length∧Go.Proofs.Ytabbabkmojaoaaa.meetS l k∧(∀j,j<k→¬Go.Proofs.Ytabbabkmojaoaaa.meetS l j)∧e= .returned (.tuple #[.pointer none,.int .i64 (k:Nat),.int .i64 111]))∨
  (Go.Proofs.Ytabbabkmojaoaaa.okS l∧∃g S,e= .returned (.tuple #[.pointer (some ⟨g,0,none⟩),.int .i64 0,.int .i64 0])∧w.heap.size≤g∧kBu (fun r=>of (Go.Proofs.Ytabbabkmojaoaaa.fS rest l r)) S∧kAj val8 138 64 w' g (kA1 S)))
theorem kE3 (w:World)(of:Int→El)(rest:Int)(l:List Go.Proofs.Ytabbabkmojaoaaa.SpanD)(a:Option Addr)(n c:Nat)(hl:l.length=n)(hn:n≤60)(hs:SpansAt w a (spV of l))(hwf:∀s∈l, -2147483648≤s.f∧s.f≤2147483647∧ -2147483648≤s.t∧s.t≤2147483647):
  Calls Try.prog 106 #[val8 (of rest),.slice a n c] w fun e w'=>∃tv av ev,e= .returned (.tuple #[tv,av,ev])∧kDx w of rest l e w':=by
 have eF:fS (of rest) (spV of l)=fun r=>of (Go.Proofs.Ytabbabkmojaoaaa.fS rest l r):=funext (kL2 of rest l)
 refine(kD9 (of rest) a n c (spV of l) w (by rw[kA8];exact hl) (by omega) hs (fun s hs=>by
  obtain⟨s',hs',rfl⟩:=List.mem_map.1 hs
  exact hwf s' hs')).mono ?_
 intro e w' hq;obtain⟨hb,hq⟩:=kHv hq;rw[kA8]at hq
 have key:kDx w of rest l e w'→∃tv av ev,e= .returned (.tuple #[tv,av,ev])∧kDx w of rest l e w':=fun h=>by
  have h':=h;obtain⟨-,⟨i, -, -, -,h2⟩ | ⟨-,i, -, -, -,h2⟩ | ⟨-,g,S,h2, -⟩⟩:=h'
  all_goals exact⟨_,_,_,h2,h⟩
 refine key ⟨hb,?_⟩
 rcases hq with⟨i,hi,h1,h2,h3⟩ | ⟨h0,k,hk,h1,h2,h3⟩ | ⟨h1,h2,g,S,h3,h4,h5,h6⟩
 ·exact .inl ⟨i,hi,(kDz hi).1 h1,fun j hj h=>h2 j hj ((kDz (by omega)).2 h),h3⟩
 ·exact .inr (.inl ⟨fun j hj h=>h0 j hj ((kDz hj).2 h),k,hk,(kD0 hk).1 h1,fun j hj h=>h2 j hj ((kD0 (by omega)).2 h),h3⟩)
 ·rw[eF]at h5;exact .inr (.inr ⟨⟨fun j hj h=>h1 j hj ((kDz hj).2 h),fun j hj h=>h2 j hj ((kD0 hj).2 h)⟩,g,S,h3,h4,h5,h6⟩)
def kLr (of:Int→El) (rest:Int) (l:List Go.Proofs.Ytabbabkmojaoaaa.SpanD) (w1 w2:World) (tv av ev fv pv nv:Value):Prop:=
 (∃i er:Int,er≠0∧tv= .pointer none∧av= .int .i64 i∧ev= .int .i64 er∧fv= .agg #[.slice none 0 0,.slice none 0 0]∧pv= .int .i64 i∧nv= .int .i64 er)∨
 (∃g S,tv= .pointer (some ⟨g,0,none⟩)∧av= .int .i64 0∧ev= .int .i64 0∧pv= .int .i64 0∧nv= .int .i64 0∧kBu (fun r=>of (Go.Proofs.Ytabbabkmojaoaaa.fS rest l r)) S∧kAj val8 138 64 w1 g (kA1 S)∧kH9 w2 fv (kAt (Go.Proofs.Ytabbabkmojaoaaa.fS rest l) 1114112))
theorem kIm {w w1 v w2:World}{of:Int→El}{rest:Int}{l:List Go.Proofs.Ytabbabkmojaoaaa.SpanD}{e1 e2:Ending}(h1:kDx w of rest l e1 w1)(h2:kK3 v rest l e2 w2):
  ∃tv av ev fv pv nv,e1= .returned (.tuple #[tv,av,ev])∧e2= .returned (.tuple #[fv,pv,nv])∧kLr of rest l w1 w2 tv av ev fv pv nv:=by
 obtain⟨-,h1⟩:=h1;obtain⟨-,fv,h2⟩:=h2
 rcases h1 with⟨i,hi,b1,b2,rfl⟩ | ⟨b0,k,hk,b1,b2,rfl⟩ | ⟨ok1,g,S,rfl, -,hM,hT⟩<;>rcases h2 with⟨j,hj,c1,c2,rfl,rfl⟩ | ⟨c0,m,hm,c1,c2,rfl,rfl⟩ | ⟨ok2,rfl,hF⟩
 ·have:i=j:=by
   rcases Nat.lt_trichotomy i j with h | h | h
   ·exact absurd b1 (c2 i h)
   ·exact h
   ·exact absurd c1 (b2 j h)
  subst this;exact⟨_,_,_,_,_,_,rfl,rfl,.inl ⟨_,_,by decide,rfl,rfl,rfl,rfl,rfl,rfl⟩⟩
 ·exact absurd b1 (c0 i hi)
 ·exact absurd b1 (ok2.1 i hi)
 ·exact absurd c1 (b0 j hj)
 ·have:k=m:=by
   rcases Nat.lt_trichotomy k m with h | h | h
   ·exact absurd b1 (c2 k h)
   ·exact h
   ·exact absurd c1 (b2 m h)
  subst this;exact⟨_,_,_,_,_,_,rfl,rfl,.inl ⟨_,_,by decide,rfl,rfl,rfl,rfl,rfl,rfl⟩⟩
 ·exact absurd b1 (ok2.2 k hk)
 ·exact absurd c1 (ok1.1 j hj)
 ·exact absurd c1 (ok1.2 m hm)
 ·exact⟨_,_,_,_,_,_,rfl,rfl,.inr ⟨g,S,rfl,rfl,rfl,rfl,rfl,hM,hT,hF⟩⟩
end Go.Proofs.Ytabbabkmojaoaaa.VS
