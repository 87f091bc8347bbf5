/- several texts in one: UPA0 UPA -/
import Derived.Test.YtbmphakfgoompaaGreatOH
import Derived.Deep.RegionHeld3
import Derived.Deep.RegionLaw
import Derived.Test.YtbmphakfgoompaaGreatOE5
import Derived.Deep.CutRange
import Derived.Deep.CutBlock
import Derived.BigRegion
set_option linter.unusedVariables false
set_option linter.unusedSimpArgs false
set_option maxRecDepth 100000
set_option maxHeartbeats 16000000
namespace Go.Proofs.YtbmphakfgoompaaGreat
open Go.RowKit
def kFq (F:Nat→Int) (f t:Nat) (v:Int) (r:Nat):Int:=if f≤r∧r≤t then v else F r
structure kHo (F:Nat→Int) (f t r:Nat) (l:List kAr):Prop where
 sp:∀s∈l,∃a b:Nat,s.f=(a:Nat)∧s.t=(b:Nat)∧a≤b∧b<r∧∀q,a≤q→q≤b→F q=s.v∧¬(f≤q∧q≤t)
 ap:kKv l
 cov:∀q:Nat,q<r→¬(f≤q∧q≤t)→∃s∈l,s.f≤(q:Nat)∧((q:Nat):Int)≤s.t
theorem kHo.nil (F:Nat→Int)(f t:Nat):kHo F f t 0 []:=⟨fun s hs=>by simp at hs,List.Pairwise.nil,fun q hq=>by omega⟩
theorem kHo.push {F:Nat→Int}{f t r:Nat}{l:List kAr}(h:kHo F f t r l)(a b:Nat)(v:Int)(h1:r≤a)(h2:a≤b)(hv:∀q,a≤q→q≤b→F q=v∧¬(f≤q∧q≤t))(hg:∀q,r≤q→q<a→f≤q∧q≤t):
  kHo F f t (b+1) (l++[⟨(a:Nat),(b:Nat),v⟩]):=by
 refine⟨fun s hs=> ?_,?_,fun q hq hn=> ?_⟩
 ·rcases List.mem_append.1 hs with hs | hs
  ·obtain⟨x,y,e1,e2,e3,e4,e5⟩:=h.sp s hs;exact⟨x,y,e1,e2,e3,by omega,e5⟩
  ·rw[List.mem_singleton.1 hs];exact⟨a,b,rfl,rfl,h2,by omega,hv⟩
 ·refine List.pairwise_append.2 ⟨h.ap,List.pairwise_singleton _ _,fun s hs u hu x hx=> ?_⟩;rw[List.mem_singleton.1 hu]at hx;obtain⟨x1,y,e1,e2,e3,e4,e5⟩:=h.sp s hs;simp only[kJb,decide_eq_true_eq]at hx;omega
 ·by_cases e:q<r
  ·obtain⟨s,hs,h3⟩:=h.cov q e hn;exact⟨s,List.mem_append_left _ hs,h3⟩
  ·by_cases e2:q<a
   ·exact absurd (hg q (by omega) e2) hn
   ·exact⟨_,List.mem_append_right _ (List.mem_singleton.2 rfl),by show((a:Nat):Int)≤_;omega,by show _≤((b:Nat):Int);omega⟩
theorem kHo.skip {F:Nat→Int}{f t r r':Nat}{l:List kAr}(h:kHo F f t r l)(h1:r≤r')(hg:∀q,r≤q→q<r'→f≤q∧q≤t):kHo F f t r' l:=by
 refine⟨fun s hs=> ?_,h.ap,fun q hq hn=> ?_⟩
 ·obtain⟨x,y,e1,e2,e3,e4,e5⟩:=h.sp s hs;exact⟨x,y,e1,e2,e3,by omega,e5⟩
 ·by_cases e:q<r
  ·exact h.cov q e hn
  ·exact absurd (hg q (by omega) hq) hn
def kPj (f r te:Nat):Nat:=if r<f then min te (f - 1)+1 else r
theorem kHo.one {F:Nat→Int}{f t r te:Nat}{l:List kAr}{v:Int}(h:kHo F f t r l)(hft:f≤t)(hr:r≤te)(hv:∀q,r≤q→q≤te→F q=v)(h1:r<f):kHo F f t (kPj f r te) (l++[⟨(r:Nat),(min te (f - 1):Nat),v⟩]):=by
 unfold kPj;rw[if_pos h1];exact h.push r (min te (f - 1)) v jR (by omega) (fun q h2 h3=>⟨hv q h2 (by omega),by omega⟩) (fun q h2 h3=>by omega)
theorem kHo.same {F:Nat→Int}{f t r te:Nat}{l:List kAr}(h:kHo F f t r l)(h1:¬r<f):kHo F f t (kPj f r te) l:=by
 unfold kPj;rw[if_neg h1];exact h
theorem kTx {f t r te:Nat}(hr:r≤te):r≤kPj f r te∧kPj f r te≤te+1:=by
 unfold kPj
 split<;>omega
theorem kHo.two {F:Nat→Int}{f t r te:Nat}{l:List kAr}{v:Int}(h:kHo F f t (kPj f r te) l)(hft:f≤t)(hr:r≤te)(hv:∀q,r≤q→q≤te→F q=v)(h1:t<te):kHo F f t (te+1) (l++[⟨(max r (t+1):Nat),(te:Nat),v⟩]):=by
 refine h.push (max r (t+1)) te v ?_ (by omega) (fun q h2 h3=>⟨hv q (by omega) h3,by omega⟩) (fun q h2 h3=> ?_)
 ·unfold kPj;split<;>omega
 ·unfold kPj at h2
  split at h2<;>omega
theorem kHo.over {F:Nat→Int}{f t r te:Nat}{l:List kAr}(h:kHo F f t (kPj f r te) l)(hft:f≤t)(hr:r≤te)(h1:¬t<te):kHo F f t (te+1) l:=by
 refine h.skip (kTx (t:=t) hr).2 (fun q h2 h3=> ?_);unfold kPj at h2
 split at h2<;>omega
theorem kHo.okS {F:Nat→Int}{f t r:Nat}{l:List kAr}(h:kHo F f t r l)(hr:r≤1114112):okS l:=by
 refine⟨fun j hj=> ?_,(kI1 l).2 h.ap⟩;rw[show l.getD j default=l[j] by simp[hj]];obtain⟨a,b,e1,e2,e3,e4, -⟩:=h.sp _ (List.getElem_mem hj);unfold kNa;omega
theorem kHo.gives {F:Nat→Int}{f t r:Nat}{l:List kAr}(h:kHo F f t r l)(v:Int){q:Nat}(hq:q<r):fS v l q=kFq F f t v q:=by
 unfold kFq
 by_cases e:f≤q∧q≤t
 ·rw[if_pos e]
  refine kTb fun s hs hx=> ?_
  obtain⟨a,b,e1,e2,e3,e4,e5⟩:=h.sp s hs;simp only[kJb,decide_eq_true_eq]at hx;exact(e5 q (by omega) (by omega)).2 e
 ·rw[if_neg e];obtain⟨s,hs,h1,h2⟩:=h.cov q hq e;obtain⟨a,b,e1,e2,e3,e4,e5⟩:=h.sp s hs;rw[kQf h.ap hs (by simp only[kJb,decide_eq_true_eq];exact⟨h1,h2⟩)];exact((e5 q (by omega) (by omega)).1).symm
theorem kMs {F G:Nat→Int}:∀(n:Nat),(∀r,r<n→F r=G r)→kAk F n=kAk G n
 | 0,_=>rfl
 | n+1,h=>by rw[kAk,kAk,kMs n (fun r hr=>h r (by omega)),h n (by omega)]
def Bds (F:Nat→Int) (K:List Nat):Prop:=∀r,0<r→r<1114112→F r=F (r - 1)∨r∈K
theorem Bds.patch {F:Nat→Int}{K:List Nat}(h:Bds F K)(f t:Nat)(v:Int):Bds (kFq F f t v) (f :: (t+1) :: K):=by
 intro r h1 h2
 by_cases e1:r=f
 ·exact .inr (by simp[e1])
 ·by_cases e2:r=t+1
  ·exact .inr (by simp[e2])
  ·rcases h r h1 h2 with h3 | h3
   ·refine .inl ?_;unfold kFq
    by_cases e3:f≤r∧r≤t
    ·rw[if_pos e3,if_pos (by omega)]
    ·rw[if_neg e3,if_neg (by omega)];exact h3
   ·exact .inr (by simp[h3])
theorem kQg (K:List Nat)(n:Nat):(K.filter (fun x=>decide (x<n))).length≤(K.filter (fun x=>decide (x<n+1))).length∧(n∈K→(K.filter (fun x=>decide (x<n))).length+1≤(K.filter (fun x=>decide (x<n+1))).length):=by
 induction K with
 | nil=>simp
 | cons k K ih=>
  obtain⟨h1,h2⟩:=ih;simp only[List.filter_cons,List.mem_cons]
  by_cases e:k<n
  ·rw[if_pos (decide_eq_true e),if_pos (decide_eq_true (by omega:k<n+1))];simp only[List.length_cons];refine⟨by omega,fun h=> ?_⟩
   rcases h with rfl | h
   ·omega
   ·have:=h2 h;omega
  ·rw[if_neg (by simpa using e)]
   by_cases e2:k=n
   ·subst e2;rw[if_pos (decide_eq_true (by omega:k<k+1))];simp only[List.length_cons];exact⟨by omega,fun _=>by omega⟩
   ·rw[if_neg (by simp;omega)];refine⟨h1,fun h=> ?_⟩
    rcases h with h | h
    ·exact absurd h.symm e2
    ·exact h2 h
theorem kRa {F:Nat→Int}(n:Nat):∃A y,kAk F (n+1)=A++[y]∧y.2=F n:=by
 rw[kAk]
 rcases kE0 (kAk F n) (n:Nat) (F n)with⟨y,h1,h2,h3⟩ | h3
 ·exact⟨_,_,h3,rfl⟩
 ·exact⟨_,_,h3,rfl⟩
theorem kOk {F:Nat→Int}{K:List Nat}(h:Bds F K):∀n,n≤1114112→(kAk F n).length≤(K.filter (fun x=>decide (x<n))).length+1
 | 0,_=>by simp[kAk]
 | 1,_=>by
  rw[kAk];have:=kFv (kAk F 0) ((0:Nat):Int) (F 0);simp only[kAk,List.length_nil]at this ⊢;omega
 | n+2,hn=>by
  have ih:=kOk h (n+1) (by omega);obtain⟨f1,f2⟩:=kQg K (n+1);rw[show n+1+1=n+2 from rfl]at f1 f2
  rcases h (n+1) (by omega) (by omega)with h1 | h1
  ·have h2:(kAk F (n+2)).length≤(kAk F (n+1)).length:=by
    rw[show kAk F (n+2)=kEz (kAk F (n+1)) ((n+1:Nat):Int) (F (n+1))from rfl];obtain⟨A,y,e1,e2⟩:=kRa (F:=F) n;rw[e1];unfold kEz;rw[show(A++[y]).getLast? =some y by simp];simp only;rw[if_pos (by rw[e2,h1];rfl)];simp
   omega
  ·have h2:=kFv (kAk F (n+1)) ((n+1:Nat):Int) (F (n+1));have h3:=f2 h1;rw[show kAk F (n+2)=kEz (kAk F (n+1)) ((n+1:Nat):Int) (F (n+1))from rfl];omega
theorem kMr {F:Nat→Int}{K:List Nat}(h:Bds F K):(kAk F 1114112).length≤K.length+1:=by
 have:=kOk h 1114112 jR;have h2:=List.length_filter_le (fun x=>decide (x<1114112)) K;omega
end Go.Proofs.YtbmphakfgoompaaGreat

namespace Go.Proofs.YtbmphakfgoompaaGreat
open Go.RowKit
attribute [local go_sem] Oper.semAt_some
theorem kKg (w:World)(x y z:Value)(E:TypeId)(j:Nat)(v:Value)(h:[x,y,z][j]? =some v):(w.alloc (.cells #[x,y,z] E)).cell? ⟨w.heap.size,j,none⟩=some v:=by
 rw[jK _ w.heap.size j _ _ (0,0) (jN w _)]
 simpa using h
theorem alloc3 (w:World)(o1 o2 o3:Obj):Below w.heap.size w (((w.alloc o1).alloc o2).alloc o3)∧(((w.alloc o1).alloc o2).alloc o3).heap[w.heap.size]? =some o1∧(((w.alloc o1).alloc o2).alloc o3).heap[w.heap.size+1]? =some o2∧
  (((w.alloc o1).alloc o2).alloc o3).heap[w.heap.size+2]? =some o3∧(((w.alloc o1).alloc o2).alloc o3).heap.size=w.heap.size+3:=by
 refine⟨(((Below.refl _ w).alloc jR o1).alloc (by simp) o2).alloc (by simp;omega) o3,?_,?_,?_,by simp⟩
 ·rw[Below.heap_alloc _ _ _ (by simp;omega),Below.heap_alloc _ _ _ (by simp)];exact World.alloc_heap_new w o1
 ·rw[Below.heap_alloc _ _ _ (by simp)];have:=World.alloc_heap_new (w.alloc o1) o2
  simpa using this
 ·have:=World.alloc_heap_new ((w.alloc o1).alloc o2) o3
  simpa using this
def PdR (N:Nat) (w1:World) (n:Nat) (F:Nat→Int) (f t:Nat) (fv lv iv:Value) (wr:World):Prop:=
 ∃(i r:Nat) (l:List kAr) (a:Option Addr) (c:Nat),i≤n∧iv= .int .i64 (i:Nat)∧fv= .int .i32 (r:Nat)∧r≤N∧kGv F N i r∧lv= .slice a l.length c∧l.length≤2*i∧wr.ownsRow w1.heap.size 88 3 (.slice a l.length c) l.length (kFn l)∧kHo F f t r l∧Below w1.heap.size w1 wr
theorem kEe (N:Nat)(hN:N=1114112)(w:World)(fv:Value)(F:Nat→Int)(hf:kC0 w fv (kAk F N))(hlen:(kAk F N).length≤1000)(wh:Int)(f t:Nat)(v:Int)(hft:f≤t)(ht:t≤1114111)(hv: -2147483648≤v∧v≤2147483647):
  Calls Tryz.prog 9 #[fv,.agg #[.int .i64 wh,.int .i32 (f:Nat),.int .i32 (t:Nat),.int .i32 v]] w fun e w'=>∃gv,e= .returned gv∧kC0 w' gv (kAk (kFq F f t v) N)∧Below w.heap.size w w':=by
 obtain⟨aT,cT,aV,cV,rfl,hT,hV, -, -⟩:=hf
 have HNN:=jH hN;clear hN
 have hA:=alloc3 w (.cells #[.slice aT (kAk F N).length cT,.slice aV (kAk F N).length cV] 35) (.cells #[.int .i64 wh,.int .i32 (f:Nat),.int .i32 (t:Nat),.int .i32 v] 41) (.cells #[.slice none 0 0,.slice none 0 0] 35)
 have HA:=jH hA;clear hA
 have HT:=jH hT;have HV:=jH hV
 have HLt:=jH (kE7 F N);have HIn:=jH (fun(i r:Nat) (h:kGv F N i r) (hi:i<(kAk F N).length) (q:Nat) (h1:r≤q) (h2:(q:Int)≤((kAk F N)[i]).1)=>h.val hi h1 h2);clear hT hV
 obtain⟨n,hn⟩:∃n,n=(kAk F N).length:=⟨_,rfl⟩
 have Hn:=jH hn;rw[←hn]at HA hlen ⊢;clear hn
 go_enter Tryz.func9,Tryz.ntmps9
 go_upto_region 1 with(fail)
 obtain⟨b0,hb0⟩:∃b0,b0=w.heap.size:=⟨_,rfl⟩
 rw[←hb0]at HA ⊢;generalize ((w.alloc (.cells #[.slice aT n cT,.slice aV n cV] 35)).alloc (.cells #[.int .i64 wh,.int .i32 (f:Nat),.int .i32 (t:Nat),.int .i32 v] 41)).alloc (.cells #[.slice none 0 0,.slice none 0 0] 35)=w1 at*;obtain⟨hb,h0,h1,h2,hz⟩:=HA.out
 obtain⟨b1,hb1⟩:∃b1,b1=b0+1:=⟨_,rfl⟩
 obtain⟨b2,hb2⟩:∃b2,b2=b1+1:=⟨_,rfl⟩
 rw[show b0+2=b2 by omega]at h2;rw[←hb1]at h1 ⊢;rw[←hb2]
 have HB:=jH hb;have HA0:=jH h0;have HA1:=jH h1;have HA2:=jH h2
 have Hb0:Hid (b0<w1.heap.size):=jH (by omega);have Hb1:Hid (b1<w1.heap.size):=jH (by omega);have Hb2:Hid (b0≤b2∧b2<w1.heap.size):=jH (by omega);have HE:=jH hb0;have HbB:Hid (Below w.heap.size w w1):=jH (by rw[←hb0];exact hb);clear hb h0 h1 h2 hz hb1 hb2 HA hb0;have HTL:Hid (((kAk F N).map (·.1)).length=n):=jH (by rw[List.length_map];exact Hn.out.symm);have HVL:Hid (((kAk F N).map (·.2)).length=n):=jH (by rw[List.length_map];exact Hn.out.symm);go_wp2
 go_loopw [5,6,7] (PdR N w1 n F f t) (fun _ _ i _=>n - (intOf i).toNat)
 case atStart=>exact⟨0,0,[],none,0,Nat.zero_le _,rfl,rfl,Nat.zero_le _,kGv.zero F N,rfl,Nat.le_refl _,World.ownsRow_nil w1 _ _ 3,kHo.nil F f t,Below.refl _ _⟩
 case round=>
  obtain⟨i,r,l,a,c,hi,rfl,rfl,hr,hin,rfl,hll,hown,hpat,hbel⟩:=hrel
  have HO:=jH hown;have HP:=jH hpat;have HBe:=jH hbel;have HI:=jH hin
  clear hown hpat hbel hin
  by_cases hin':i<n
  ·have hii:(i:Int)<(n:Int):=by omega
   obtain⟨bT,oT,e1⟩:=HT.out.some (by rw[HTL.out];omega);obtain⟨bV,oV,e2⟩:=HV.out.some (by rw[HVL.out];omega);subst e1;subst e2
   have hil:i<(kAk F N).length:=by rw[←Hn.out];exact hin'
   obtain⟨te,hto⟩:∃te:Nat,((kAk F N)[i]).1=(te:Nat):=⟨((kAk F N)[i]).1.toNat,by have:=HI.out.ge i hil jR;omega⟩
   obtain⟨vr,hvr⟩:∃vr,vr=((kAk F N)[i]).2:=⟨_,rfl⟩
   have hrt:r≤te:=by have:=HI.out.ge i hil jR;omega
   have htM:te<N:=by have:=HLt.out _ (List.getElem_mem hil);omega
   have htN:te≤1114111:=by have:=HNN.out;omega
   have HVr:Hid (∀q,r≤q→q≤te→F q=vr):=jH (fun q h1 h2=>by rw[hvr];exact(HIn.out i r HI.out hil q h1 (by omega)).symm);have HNext:Hid (kGv F N (i+1) (te+1)):=jH (HI.out.over hil hto)
   have HCt:Hid (∀W,Below w1.heap.size w1 W→i<n→W.cell? ⟨bT,oT+i,none⟩=some (.int .i32 (te:Nat))):=jH (fun W hb _=>by
    have hl:i<((kAk F N).map (·.1)).length:=by rw[HTL.out];exact hin'
    have:=((HT.out.below HbB.out jR).below hb jR).get i hl
    rw[this,List.getElem_map,hto])
   have HCv:Hid (∀W,Below w1.heap.size w1 W→i<n→W.cell? ⟨bV,oV+i,none⟩=some (.int .i64 vr)):=jH (fun W hb _=>by
    have hl:i<((kAk F N).map (·.2)).length:=by rw[HVL.out];exact hin'
    have:=((HV.out.below HbB.out jR).below hb jR).get i hl
    rw[this,List.getElem_map,hvr])
   clear hto hvr hil HI;have ct:=HCt.out wr HBe.out hin';have hx0:=(HBe.out.block b0 Hb0.out).trans HA0.out;have hx1:=(HBe.out.block b1 Hb1.out).trans HA1.out;have q0:=jK wr b0 0 _ _ (0,0) hx0;have q1:=jK wr b0 1 _ _ (0,0) hx0;have p1:=jK wr b1 1 _ _ (0,0) hx1;have p2:=jK wr b1 2 _ _ (0,0) hx1;have p3:=jK wr b1 3 _ _ (0,0) hx1;simp at q0 q1 p1 p2 p3;clear hx0 hx1;have cv:=HCv.out wr HBe.out hin'
   obtain⟨l1,hl1⟩:∃l1,l1=if r<f then l++[⟨(r:Nat),(min te (f - 1):Nat),vr⟩]else l:=⟨_,rfl⟩
   have Hl1:=jH hl1
   have hll1:l1.length≤2*i+1:=by
    rw[hl1]
    split
    ·rw[List.length_append];simp;omega
    ·omega
   have HP1:Hid (kHo F f t (kPj f r te) l1):=jH (by
    rw[hl1]
    by_cases e:r<f
    ·rw[if_pos e];exact HP.out.one hft hrt HVr.out e
    ·rw[if_neg e];exact HP.out.same e)
   clear hl1 HP
   have hbnd1:(l.length+1)*16≤140737488355328:=by omega
   have hbnd2:l.length<140737488355328:=by omega
   obtain⟨m1,hm1⟩:∃m1:Nat,m1=min te (f - 1):=⟨_,rfl⟩
   rw[←hm1]at Hl1
   obtain⟨fm,hfm⟩:∃fm:Int,fm=(f:Int) - 1:=⟨_,rfl⟩
   have hw:IntKind.i32.wrap ((f:Int) - 1)=fm:=by rw[hfm];exact IntWalk.i32_in _ (by omega)
   have hmi:r<f→(if fm<((te:Nat):Int)then fm else(te:Int))=(m1:Nat):=fun h=>by split<;>omega
   clear hfm hm1
   go_upto_if 27 with(fail)
   go_cut [6]from 24 to 42 (fun v wx=>∃a1 c1,v= .slice a1 l1.length c1∧wx.ownsRow w1.heap.size 88 3 (.slice a1 l1.length c1) l1.length (kFn l1)∧Below w1.heap.size w1 wx)
   case first=>
    by_cases h1:r<f
    ·have HD:=jH (Hl1.out.trans (if_pos h1))
     have h1i:(r:Int)<(f:Int):=by omega
     have hmi:=hmi h1
     go_upto_region 8 with(fail)
     go_region_law (refine kJy Tryz.elemSpI rfl (.tmp 28) (.tmp 41) rfl (World.ownsRow.drew (World.ownsRow.alloc HO.out _)) (by simp;have:=HBe.out.size;omega) hbnd1 hbnd2 wr.heap.size [.int .i32 (r:Nat),.int .i32 (m1:Nat),.int .i64 vr] rfl (fun j v hv=>by rw[show(wr.alloc _).drew.cell? ⟨wr.heap.size,j,none⟩=(wr.alloc _).cell? ⟨wr.heap.size,j,none⟩from rfl];exact kKg wr _ _ _ _ j v hv) (by intro u hu;simp at hu;rcases hu with rfl | rfl | rfl<;>rfl) rfl rfl ?_;intro a9 c9 w9 ho9 hg9 hn9)
     all_goals
      have hba:=(Below.refl _ wr).alloc jR (.cells #[.int .i32 (r:Nat),.int .i32 (m1:Nat),.int .i64 vr] 88);have HBw:Hid (Below w1.heap.size w1 w9):=jH (HBe.out.trans ((hba.drew.mono HBe.out.size).trans (kAv hg9 (fun y e=>(World.ownsRow.lt HO.out y e).1) (by have:=HBe.out.size;simp;omega))));have HO9:Hid (w9.ownsRow w1.heap.size 88 3 (.slice a9 l1.length c9) l1.length (kFn l1)):=jH (by rw[HD.out,kHx,List.length_append];exact ho9);have HLe:Hid (l.length+1=l1.length):=jH (by rw[HD.out,List.length_append];rfl);clear ho9 hg9 hn9 hba
      go_wp2_with fail
      go_meet
      case rel=>exact⟨a9,c9,by rw[←HLe.out],HO9.out,HBw.out⟩
    ·have HD:=jH (Hl1.out.trans (if_neg h1))
     have h1i:¬(r:Int)<(f:Int):=by omega
     go_wp2
     go_meet
     case rel=>exact⟨_,_,by rw[HD.out],by rw[HD.out];exact HO.out,HBe.out⟩
   case rest=>
   obtain⟨a1,c1,rfl,ho1,hb1⟩:=hcut;clear HO HBe q0 q1 p1 p2 p3 ct cv hmi hw hbnd1 hbnd2
   have HO:=jH ho1;have HBe:=jH hb1
   clear ho1 hb1;have hx0:=(HBe.out.block b0 Hb0.out).trans HA0.out;have hx1:=(HBe.out.block b1 Hb1.out).trans HA1.out;have q0:=jK wc b0 0 _ _ (0,0) hx0;have q1:=jK wc b0 1 _ _ (0,0) hx0;have p1:=jK wc b1 1 _ _ (0,0) hx1;have p2:=jK wc b1 2 _ _ (0,0) hx1;have p3:=jK wc b1 3 _ _ (0,0) hx1;simp at q0 q1 p1 p2 p3;clear hx0 hx1;have cv:=HCv.out wc HBe.out hin'
   obtain⟨l2,hl2⟩:∃l2,l2=if t<te then l1++[⟨(max r (t+1):Nat),(te:Nat),vr⟩]else l1:=⟨_,rfl⟩
   have Hl2:=jH hl2
   have hll2:l2.length≤2*(i+1):=by
    rw[hl2]
    split
    ·rw[List.length_append];simp;omega
    ·omega
   have HP2:Hid (kHo F f t (te+1) l2):=jH (by
    rw[hl2]
    by_cases e:t<te
    ·rw[if_pos e];exact HP1.out.two hft hrt HVr.out e
    ·rw[if_neg e];exact HP1.out.over hft hrt e)
   clear hl2 HP1
   have hbnd1:(l1.length+1)*16≤140737488355328:=by omega
   have hbnd2:l1.length<140737488355328:=by omega
   obtain⟨m2,hm2⟩:∃m2:Nat,m2=max r (t+1):=⟨_,rfl⟩
   rw[←hm2]at Hl2
   obtain⟨tm,htm⟩:∃tm:Int,tm=(t:Int)+1:=⟨_,rfl⟩
   have hw:IntKind.i32.wrap ((t:Int)+1)=tm:=by rw[htm];exact IntWalk.i32_in _ (by omega)
   have hmi:(if((r:Nat):Int)<tm then tm else(r:Int))=(m2:Nat):=by split<;>omega
   clear htm hm2
   go_upto_if 46 with(fail)
   go_cut [6]from 43 to 61 (fun v wx=>∃a1 c1,v= .slice a1 l2.length c1∧wx.ownsRow w1.heap.size 88 3 (.slice a1 l2.length c1) l2.length (kFn l2)∧Below w1.heap.size w1 wx)
   case first=>
    by_cases h2:t<te
    ·have HD:=jH (Hl2.out.trans (if_pos h2))
     have h2i:(t:Int)<(te:Int):=by omega
     go_upto_region 10 with(fail)
     go_region_law (refine kJy Tryz.elemSpI rfl (.tmp 47) (.tmp 60) rfl (World.ownsRow.drew (World.ownsRow.alloc HO.out _)) (by simp;have:=HBe.out.size;omega) hbnd1 hbnd2 wc.heap.size [.int .i32 (m2:Nat),.int .i32 (te:Nat),.int .i64 vr] rfl (fun j v hv=>by rw[show(wc.alloc _).drew.cell? ⟨wc.heap.size,j,none⟩=(wc.alloc _).cell? ⟨wc.heap.size,j,none⟩from rfl];exact kKg wc _ _ _ _ j v hv) (by intro u hu;simp at hu;rcases hu with rfl | rfl | rfl<;>rfl) rfl rfl ?_;intro a9 c9 w9 ho9 hg9 hn9)
     all_goals
      have hba:=(Below.refl _ wc).alloc jR (.cells #[.int .i32 (m2:Nat),.int .i32 (te:Nat),.int .i64 vr] 88);have HBw:Hid (Below w1.heap.size w1 w9):=jH (HBe.out.trans ((hba.drew.mono HBe.out.size).trans (kAv hg9 (fun y e=>(World.ownsRow.lt HO.out y e).1) (by have:=HBe.out.size;simp;omega))));have HO9:Hid (w9.ownsRow w1.heap.size 88 3 (.slice a9 l2.length c9) l2.length (kFn l2)):=jH (by rw[HD.out,kHx,List.length_append];exact ho9);have HLe:Hid (l1.length+1=l2.length):=jH (by rw[HD.out,List.length_append];rfl);clear ho9 hg9 hn9 hba
      go_wp2_with fail
      go_meet
      case rel=>exact⟨a9,c9,by rw[←HLe.out],HO9.out,HBw.out⟩
    ·have HD:=jH (Hl2.out.trans (if_neg h2))
     have h2i:¬(t:Int)<(te:Int):=by omega
     go_wp2
     go_meet
     case rel=>exact⟨_,_,by rw[HD.out],by rw[HD.out];exact HO.out,HBe.out⟩
   case rest=>
   obtain⟨a2,c2,rfl,ho2,hb2⟩:=hcut;clear HO HBe q0 q1 p1 p2 p3 cv hmi hw hbnd1 hbnd2
   have HO:=jH ho2;have HBe:=jH hb2
   clear ho2 hb2;go_wp2
   go_roundw
   case rel=>exact⟨i+1,te+1,l2,a2,c2,by omega,by go_num,by go_num,by omega,HNext.out,rfl,hll2,HO.out,HP2.out,HBe.out⟩
   case measure=>simp[intOf];omega
  ·have hin2:i=n:=by omega
   have HRN:Hid (N≤r):=jH (HI.out.done (by rw[←Hn.out];omega))
   have hii:¬(i:Int)<(n:Int):=by omega
   have hx0:=(HBe.out.block b0 Hb0.out).trans HA0.out;have hx1:=(HBe.out.block b1 Hb1.out).trans HA1.out;have q0:=jK wr b0 0 _ _ (0,0) hx0;have p3:=jK wr b1 3 _ _ (0,0) hx1;simp at q0 p3;clear hx0 hx1
   have hrr:r=N:=by have:=HRN.out;omega
   have hN9:=HNN.out;have HPe:=jH (show okS l∧∀q,q<N→fS v l q=kFq F f t v q from⟨HP.out.okS (by omega),fun q hq=>HP.out.gives v (by omega)⟩)
   have HSw:Hid (∀s∈l, -2147483648≤s.f∧s.f≤2147483647∧ -2147483648≤s.t∧s.t≤2147483647):=jH (fun s hs=>by
    obtain⟨x,y,e1,e2,e3,e4, -⟩:=HP.out.sp s hs
    omega)
   have HBd:=jH (kC8 v a l.length c l wr rfl (by omega) (kCe rfl HO.out) HSw.out)
   obtain⟨ll,hll3⟩:∃ll,ll=l.length:=⟨_,rfl⟩
   rw[←hll3]at HBd ⊢;clear hll3 hrr HO HP HSw HRN hN9
   go_wp2_with fail
   refine HBd.out.mono ?_;rintro e w5 ⟨hb,gv,hg⟩
   have hg2:e= .returned (.tuple #[gv,.int .i64 0,.int .i64 0])∧kC0 w5 gv (kAk (kFq F f t v) N):=by
    rcases hg with⟨k,hk,hk2, -⟩ | ⟨-,k,hk,hk2, -⟩ | ⟨-,hg1,hg2, -⟩
    ·exact absurd hk2 (HPe.out.1.1 k hk)
    ·exact absurd hk2 (HPe.out.1.2 k hk)
    ·exact⟨hg1,by rw[←kMs N HPe.out.2,HNN.out];rw[HNN.out]at *;exact hg2⟩
   obtain⟨rfl,hg2⟩:=hg2;obtain⟨xT,dT,xV,dV,rfl,g1,g2,g3,g4⟩:=hg2;have HG:=jH (show kC0 w5 (.agg #[.slice xT (kAk (kFq F f t v) N).length dT,.slice xV (kAk (kFq F f t v) N).length dV]) (kAk (kFq F f t v) N)from⟨_,_,_,_,rfl,g1,g2,g3,g4⟩)
   obtain⟨ln,hln⟩:∃ln,ln=(kAk (kFq F f t v) N).length:=⟨_,rfl⟩
   rw[←hln]at HG ⊢;have HB5:=jH (HBe.out.trans (hb.mono HBe.out.size));clear hg hb g1 g2 g3 g4 HPe HBd HBe q0 p3 hln;have HN6:=jH (And.intro (jN w5 (.cells #[.slice xT ln dT,.slice xV ln dV] 35)) ((Below.refl _ w5).alloc jR (.cells #[.slice xT ln dT,.slice xV ln dV] 35)));have hA5:=jN w5 (.cells #[.slice none 0 0,.slice none 0 0] 35);have r0:=jK (w5.alloc (.cells #[.slice none 0 0,.slice none 0 0] 35)) w5.heap.size 0 _ _ (0,0) hA5;have r1:=jK (w5.alloc (.cells #[.slice none 0 0,.slice none 0 0] 35)) w5.heap.size 1 _ _ (0,0) hA5;have f0:=jO (w5.alloc (.cells #[.slice none 0 0,.slice none 0 0] 35)) w5.heap.size 0 _ _ hA5;have f1:=jO (w5.alloc (.cells #[.slice none 0 0,.slice none 0 0] 35)) w5.heap.size 1 _ _ hA5;simp only[jG,jI,jJ]at r0 r1;clear hA5
   go_upto_region 13 with(fail)
   clear r0 r1 f0 f1
   obtain⟨b9,hb9⟩:∃b9,b9=w5.heap.size:=⟨_,rfl⟩
   rw[←hb9]at HN6 ⊢
   have HE9:=jH hb9;clear hb9
   generalize w5.alloc (.cells #[.slice xT ln dT,.slice xV ln dV] 35)=w6 at*;have HB6:=jH (HB5.out.trans (HN6.out.2.mono (by rw[HE9.out];exact HB5.out.size)));have HG6:=jH (HG.out.below (by rw[←HE9.out];exact HN6.out.2));have h2:=(HB6.out.block b2 Hb2.out.2).trans HA2.out;have c0:=jK w6 b9 0 _ _ (0,0) HN6.out.1;have c1:=jK w6 b9 1 _ _ (0,0) HN6.out.1;have d0:=jK w6 b2 0 _ _ (0,0) h2;have d1:=jK w6 b2 1 _ _ (0,0) h2;have f0:=jO w6 b2 0 _ _ h2;have f1:=jO w6 b2 1 _ _ h2;simp at c0 c1 d0 d1
   have H2:=jH h2;clear h2
   go_wp2
   have y1:=jP w6 b2 0 _ _ (.slice xT ln dT) H2.out;have y2:=jP _ b2 1 _ _ (.slice xV ln dV) y1;have r0:((w6.setCell ⟨b2,0,none⟩ (.slice xT ln dT)).setCell ⟨b2,1,none⟩ (.slice xV ln dV)).cell? ⟨b2,0,none⟩=some (.slice xT ln dT):=jK _ b2 0 _ _ (0,0) y2;have r1:((w6.setCell ⟨b2,0,none⟩ (.slice xT ln dT)).setCell ⟨b2,1,none⟩ (.slice xV ln dV)).cell? ⟨b2,1,none⟩=some (.slice xV ln dV):=jK _ b2 1 _ _ (0,0) y2;have g9:=(HG6.out.box H2.out (fun k z e=>by cases e) (fun k z e=>by cases e) 0 (.slice xT ln dT)).box y1 (fun k z e=>by cases e) (fun k z e=>by cases e) 1 (.slice xV ln dV);have hbw:=(HbB.out.trans (HB6.out.mono HbB.out.size)).setCell (p:=⟨b2,0,none⟩) (by show _≤b2;have:=Hb2.out.1;have:=HE.out;omega) (.slice xT ln dT);have hbv:=hbw.setCell (p:=⟨b2,1,none⟩) (by show _≤b2;have:=Hb2.out.1;have:=HE.out;omega) (.slice xV ln dV);refine jS (v:= .agg #[.slice xT ln dT,.slice xV ln dV]) (by simp[results,Tryz.results9,go_sem,r0,r1]) rfl ?_;exact⟨_,rfl,g9,hbv⟩
end Go.Proofs.YtbmphakfgoompaaGreat
