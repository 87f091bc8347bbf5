/- several texts in one: TW1 TQ TR PD -/
import Derived.Test.YtabbabkmojaoaaaProg
import Derived.Test.YtabbabkmojaoaaaNA
import Derived.Deep.QuietTactic
import Derived.BigQuiet
import Derived.Lib.Hide
import Derived.Test.YtabbabkmojaoaaaND
import Derived.Deep.RegionHeld3
import Derived.Deep.RegionLaw
set_option linter.unusedVariables false
set_option linter.unusedSimpArgs false
set_option maxRecDepth 100000
set_option maxHeartbeats 16000000
namespace Go.Proofs.Ytabbabkmojaoaaa
open Go.RowKit
variable {α : Type}
theorem kBn (w:World)(g:Nat)(T:kAy Int)(hk:kA5 T)(h0:0<T.low.length)(h:kAj val8 114 64 w g T):
  Calls Try.prog 60 #[.pointer (some ⟨g,0,none⟩)] w fun e w'=>e= .returned (.bool true)∧w=w':=by
 obtain⟨am,cm,al,cl,h1,h2,h3⟩:=h;have c2:=kAj.cell_low (val:=val8) hk h1
 have h0i:(0:Int)<(T.low.length:Int):=by omega
 have d0:decide ((0:Int)<(T.low.length:Int))=true:=decide_eq_true h0i
 have H1:=jH h1;clear h1
 have H2:=jH h2;clear h2
 have H3:=jH h3;clear h3
 clear hk;generalize T.low.length=n at*
 go_enter Try.func60,Try.ntmps60
 go_wp2
 go_ret
 exact⟨rfl,rfl⟩
theorem kDm (w:World)(g:Nat)(T:kAy Int)(hk:kA5 T)(h0:0<T.low.length)(h:kAj val8 114 64 w g T):
  Calls Try.prog 15 #[.pointer (some ⟨g,0,none⟩)] w fun e w'=>e= .returned (.tuple #[.int .i64 (T.mid.length:Nat),.int .i64 (T.low.length:Nat)])∧∃n,w'=w.drewN n:=by
 have HT:=jH (kBn w g T hk h0 h);obtain⟨am,cm,al,cl,h1,h2,h3⟩:=h;have c2:=kAj.cell_low (val:=val8) hk h1;have c1:=kAj.cell_mid (val:=val8) hk h1
 have H1:=jH h1;clear h1
 have H2:=jH h2;clear h2
 have H3:=jH h3;clear h3
 clear hk;generalize T.low.length=n at*;generalize T.mid.length=m at*
 go_enter Try.func15,Try.ntmps15
 go_wp2_with fail
 refine HT.out.mono ?_;rintro e w1 ⟨rfl,rfl⟩;clear HT;go_wp2
 go_quiet (fail)
 go_wp2
 go_ret2
 exact⟨rfl,_,rfl⟩
theorem kAn {β:Type}{l:List β}{i:Nat}{d:β}(h:i<l.length):l.getD i d=l[i]:=by simp[List.getD_eq_getElem?_getD,h]
structure kNd (val:α→Value) (w:World) (g:Nat) (T:kAy α) (r:Nat) (am:Option Addr) (cm:Nat) (al:Option Addr) (cl i j:Nat) (v:α):Prop where
 mid:w.cell? ⟨g,272,none⟩=some (.slice am T.mid.length cm)
 low:w.cell? ⟨g,273,none⟩=some (.slice al T.low.length cl)
 top:w.cell? ⟨g,r / 64 / 64,none⟩=some (.int .u16 (i:Nat))
 il:i<T.mid.length
 jl:j<T.low.length
 m:∃b o,am=some ⟨b,o,none⟩∧w.cell? ⟨b,o+i*64+r / 64 % 64,none⟩=some (.int .u16 (j:Nat))
 l:∃b o,al=some ⟨b,o,none⟩∧w.cell? ⟨b,o+j*64+r % 64,none⟩=some (val v)
theorem kMx {val:α→Value}(hv:∀a,(val a).cells.toList=[val a]){ty:TypeId}{w:World}{g:Nat}{T:kAy α}(hk:kA5 T)(h:kAj val ty 64 w g T)(d:α)(r:Nat)(hr:r≤1114111):
  ∃am cm al cl i j,kNd val w g T r am cm al cl i j (kAl d T r):=by
 obtain⟨am,cm,al,cl,h1,h2,h3⟩:=h;have ht:=kAj.cell_top (val:=val) hk h1 (r / 64 / 64) (by omega)
 have htl:r / 64 / 64<T.top.length:=by rw[hk.top];omega
 obtain⟨i,hi⟩:∃i,i=T.top.getD (r / 64 / 64) 0:=⟨_,rfl⟩
 have hil:i<T.mid.length:=by
  rw[hi,kAn (d:=0) htl];exact hk.topN _ (List.getElem_mem htl)
 have hml:(T.mid[i]).length=64:=hk.mid _ (List.getElem_mem hil)
 obtain⟨j,hj⟩:∃j,j=(T.mid[i]).getD (r / 64 % 64) 0:=⟨_,rfl⟩
 have hmj:r / 64 % 64<(T.mid[i]).length:=by rw[hml];omega
 have hjl:j<T.low.length:=by
  rw[hj,kAn (d:=0) hmj];exact hk.midN _ (List.getElem_mem hil) _ (List.getElem_mem hmj)
 have hll:(T.low[j]).length=64:=hk.low _ (List.getElem_mem hjl)
 have hlj:r % 64<(T.low[j]).length:=by rw[hll];omega
 have hlook:kAl d T r=(T.low[j])[r % 64]:=by
  unfold kAl;rw[show r / 4096=r / 64 / 64 by omega,←hi,kAn (d:=[]) hil,←hj,kAn (d:=[]) hjl,kAn (d:=d) hlj]
 obtain⟨bm,om,ham⟩:=h2.some (by omega);obtain⟨bl,ol,hal⟩:=h3.some (by omega);subst ham hal
 refine⟨_,cm,_,cl,i,j,kAj.cell_mid (val:=val) hk h1,kAj.cell_low (val:=val) hk h1,by rw[ht,←hi];rfl,hil,hjl,⟨bm,om,rfl,?_⟩,⟨bl,ol,rfl,?_⟩⟩
 ·have:=h2.cell kA0 i hil (r / 64 % 64) hmj;rw[this,hj,kAn (d:=0) hmj]
  rfl
 ·rw[h3.cell hv j hjl (r % 64) hlj,hlook]
theorem kDh (w:World)(g:Nat)(T:kAy Int)(hk:kA5 T)(h0:0<T.low.length)(h:kAj val8 114 64 w g T)(r:Int)(hr1: -2147483648≤r)(hr2:r≤2147483647):
  Calls Try.prog 18 #[.pointer (some ⟨g,0,none⟩),.int .i32 r] w fun e w'=>e= .returned (val8 (kAl 0 T (kDe r)))∧∃n,w'=w.drewN n:=by
 have HT:=jH (kBn w g T hk h0 h)
 obtain⟨q,hq⟩:∃q:Nat,q=kDe r:=⟨_,rfl⟩
 have hql:q≤1114111:=by rw[hq];exact kFk r
 obtain⟨am,cm,al,cl,i,j,c1,c2,c3,hi,hj,⟨bm,om,rfl,c4⟩,⟨bl,ol,rfl,c5⟩⟩:=kMx kBt hk h 0 q hql;have hml:=hk.midL;have hll:=hk.lowL;rw[←hq];generalize kAl 0 T q=v at*;clear h hk h0;generalize T.mid.length=nm at*;generalize T.low.length=nl at*
 have g1:(0:Int)≤(i:Int):=by omega
 have g2:(i:Int)<(nm:Int):=by omega
 have g3:(0:Int)≤(j:Int):=by omega
 have g4:(j:Int)<(nl:Int):=by omega
 have k1:(0:Int)≤(q:Int) / 64:=by omega
 have k2:(0:Int)≤(q:Int) / 64 / 64:=by omega
 have k3:(q:Int) / 64 / 64<272:=by omega
 have k4:(0:Int)≤(q:Int) / 64 % 64:=by omega
 have k5:(q:Int) / 64 % 64<64:=by omega
 have k6:(0:Int)≤(q:Int) % 64:=by omega
 have k7:(q:Int) % 64<64:=by omega
 by_cases h1:0≤r∧r≤1114111
 ·obtain⟨h1,h2⟩:=h1
  obtain rfl:r=(q:Int):=by rw[hq];unfold kDe;rw[if_neg (by omega)];omega
  clear hq
  have n1:¬(q:Int)<0:=by omega
  have n2:¬(1114111:Int)<(q:Int):=by omega
  go_enter Try.func18,Try.ntmps18
  go_wp2_with fail
  refine HT.out.mono ?_;rintro e w1 ⟨rfl,rfl⟩;clear HT;go_wp2
  go_quiet (fail)
  go_wp2
  go_ret
  exact⟨rfl,_,rfl⟩
 ·have hq':q=65533:=by rw[hq];unfold kDe;rw[if_pos (by omega)]
  clear hq;have HQ:=jH hq'
  obtain⟨q0,hq0⟩:∃q0:Int,q0=65533:=⟨_,rfl⟩
  have hqq:(q:Int)=q0:=by rw[hq0,hq'];rfl
  by_cases h2:r<0
  ·have n1:decide (r<0)=true:=decide_eq_true h2;subst hq';clear hq0 hqq
   go_enter Try.func18,Try.ntmps18
   go_wp2_with fail
   refine HT.out.mono ?_;rintro e w1 ⟨rfl,rfl⟩;clear HT;go_wp2
   go_quiet (fail)
   go_wp2
   go_ret
   exact⟨rfl,_,rfl⟩
  ·have n1:¬r<0:=h2
   have n2:(1114111:Int)<r:=by omega
   have d1:decide (r<0)=false:=decide_eq_false h2;have d2:decide ((1114111:Int)<r)=true:=decide_eq_true n2;subst hq';clear hq0 hqq
   go_enter Try.func18,Try.ntmps18
   go_wp2_with fail
   refine HT.out.mono ?_;rintro e w1 ⟨rfl,rfl⟩;clear HT;go_wp2
   go_quiet (fail)
   go_wp2
   go_ret
   exact⟨rfl,_,rfl⟩
end Go.Proofs.Ytabbabkmojaoaaa

namespace Go.Proofs.Ytabbabkmojaoaaa
open Go.RowKit
theorem inv8 (f:Nat→Int):∀k,k≤17408→kLp (blkF f) k (mkF f k):=by
 intro k
 induction k with
 | zero=>intro _;exact kLp.zero _ _ rfl rfl rfl
 | succ k ih=>
  intro hk;obtain⟨h1,h2, -⟩:=kC4 f k;exact(ih (by omega)).next h1 h2 (kAu f k) (by omega)
structure kBu (f:Nat→Int) (S:MkS Int):Prop where
 made:kJn (blkF f) S
 ml:S.mids.length≤272
 ll:S.lows.length≤17408
 eq:∃K,K=17408∧S=mkF f K
theorem kL8 (f:Nat→Int):∀K,K=17408→kBu f (mkF f K):=fun K hK=>by
 obtain⟨hw, -,hl,hm⟩:=kC4 f K;refine⟨⟨?_,hw⟩,by omega,by omega,K,hK,rfl⟩;have:=inv8 f K (by omega);subst hK;exact this
def kA1 (S:MkS Int):kAy Int:=⟨S.top,S.mids,S.lows⟩
section
variable {α : Type} {val : α → Value}
theorem kK8 {m:Nat}:∀(L:List (List α)) (i j:Nat) (hi:i<L.length),(∀l∈L,(kAf val l).length=m)→j<m→(L.flatMap (kAf val))[i*m+j]? =(kAf val L[i])[j]?
 | [],i,j,hi,_,_=>absurd hi (by simp)
 | l :: L,0,j,_,h,hj=>by
  rw[List.flatMap_cons,Nat.zero_mul,Nat.zero_add,List.getElem?_append_left (by rw[h l (by simp)];exact hj)]
  rfl
 | l :: L,i+1,j,hi,h,hj=>by
  have hl:=h l (by simp);rw[List.flatMap_cons,List.getElem?_append_right (by rw[hl,Nat.add_mul];omega),hl,show(i+1)*m+j - m=i*m+j by rw[Nat.add_mul];omega];rw[kK8 L i j (by simpa using hi) (fun l hl=>h l (by simp[hl])) hj]
  rfl
theorem kAx {B m:Nat}{E:TypeId}{w:World}{a:Option Addr}{c:Nat}{L:List (List α)}(h:w.ownsRow B E m (.slice a L.length c) L.length (L.flatMap (kAf val)))(hm:∀l∈L,(kAf val l).length=m):kAg val m w a L:=by
 intro i hi
 rcases h.2 with⟨-,h0⟩ | ⟨g,cap,cur,e,hb,hg,hnc,hcm,hcs,hcells⟩
 ·omega
 ·simp only[Value.slice.injEq]at e;obtain⟨rfl, -,rfl⟩:=e;refine⟨g,0,rfl,fun j v hv=> ?_⟩
  have hj:j<m:=by have:=(List.getElem?_eq_some_iff.1 hv).1;rw[hm _ (List.getElem_mem hi)]at this;exact this
  have hf:=kK8 L i j hi hm hj;rw[Nat.zero_add,World.ownsRow.cellAt h (i*m+j) (by have h1:=(List.getElem?_eq_some_iff.1 (hf.trans hv)).1;have h2:=h.1;omega),hf];exact hv
end
theorem kHq {f:Nat→Int}{S:MkS Int}(hM:kBu f S){w:World}{g:Nat}{am:Option Addr}{cm:Nat}{al:Option Addr}{cl:Nat}
  (h:kBz val8 1 135 114 120 119 w g S S.lows S.mids am cm al cl):kAj val8 114 64 w g (kA1 S):=by
 refine⟨am,cm,al,cl,h.tr,?_,?_⟩
 ·exact kAx h.rm (fun l hl=>by rw[kAh (sz:=1) (fun _=>rfl),hM.made.ok.mid l hl])
 ·exact kAx h.rl (fun l hl=>by rw[kAh (sz:=1) (fun _=>rfl),hM.made.ok.low l hl])
theorem kBu.trie {f:Nat→Int}{S:MkS Int}(hM:kBu f S):kA5 (kA1 S):=by
 refine⟨hM.made.ok.top,hM.made.ok.mid,hM.made.ok.low,fun k hk=> ?_,fun m hm k hk=> ?_,hM.ml,hM.ll⟩
 ·obtain⟨c,hc,rfl⟩:=List.mem_iff_getElem.1 hk
  have hc2:c<272:=by have:=hM.made.ok.top;unfold kA1 at hc;simp only at hc;omega
  obtain⟨i,m,h1,h2, -⟩:=hM.made.inv.tp c (by omega);rw[show S.top[c]? =some ((kA1 S).top[c])from List.getElem?_eq_getElem hc]at h1;have e:=Option.some.inj h1;rw[e];exact(List.getElem?_eq_some_iff.1 h2).1
 ·obtain⟨c, -,hr⟩:=hM.made.inv.md m hm;exact hr.lt (hM.made.ok.mid m hm) k hk
theorem kBu.pos {f:Nat→Int}{S:MkS Int}(hM:kBu f S):0<S.lows.length∧0<S.mids.length:=by
 have h1:=hM.made.inv.hl 0 (by omega);obtain⟨i,m, -,h2, -⟩:=hM.made.inv.tp 0 (by omega);exact⟨List.length_pos_of_mem h1,List.length_pos_of_mem (List.mem_of_getElem? h2)⟩
theorem kBu.look {f:Nat→Int}{S:MkS Int}(hM:kBu f S)(r:Nat)(hr:r≤1114111):kAl 0 (kA1 S) r=f r:=by
 obtain⟨i,m,h1,h2,h3⟩:=hM.made.inv.tp (r / 4096) (by omega);obtain⟨j,h4,h5⟩:=h3 (r / 64 % 64) (by omega);unfold kAl kA1;simp only
 have e1:S.top.getD (r / 4096) 0=i:=by rw[List.getD_eq_getElem?_getD,h1];rfl
 have e2:S.mids.getD i []=m:=by rw[List.getD_eq_getElem?_getD,h2];rfl
 have e3:m.getD (r / 64 % 64) 0=j:=by rw[List.getD_eq_getElem?_getD,h4];rfl
 have e4:S.lows.getD j []=blkF f (64*(r / 4096)+r / 64 % 64):=by rw[List.getD_eq_getElem?_getD,h5];rfl
 rw[e1,e2,e3,e4];unfold blkF;rw[List.getD_eq_getElem?_getD,List.getElem?_map,List.getElem?_range (by omega)];simp only[Option.map_some,Option.getD_some]
 congr 1
 omega
def BldQ (w:World) (rest:Int) (l:List SpanD) (e:Ending) (w':World):Prop:=
 Below w.heap.size w w'∧
  ((∃i,i<l.length∧badS (l.getD i default)∧(∀j,j<i→¬badS (l.getD j default))∧e= .returned (.tuple #[.pointer none,.int .i64 (i:Nat),.int .i64 110]))∨
  ((∀j,j<l.length→¬badS (l.getD j default))∧∃k,k<l.length∧meetS l k∧(∀j,j<k→¬meetS l j)∧e= .returned (.tuple #[.pointer none,.int .i64 (k:Nat),.int .i64 111]))∨
  ((∀j,j<l.length→¬badS (l.getD j default))∧(∀j,j<l.length→¬meetS l j)∧∃g S,e= .returned (.tuple #[.pointer (some ⟨g,0,none⟩),.int .i64 0,.int .i64 0])∧w.heap.size≤g∧
   kBu (fS rest l) S∧kAj val8 114 64 w' g (kA1 S)))
theorem kHv {w:World}{rest:Int}{l:List SpanD}{e:Ending}{w':World}(h:kEx w rest l e w'):BldQ w rest l e w':=by
 obtain⟨h1,h2⟩:=h;refine⟨h1,?_⟩
 rcases h2 with h2 | h2 | ⟨h3,h4,g,h5,h6,am,cm,al,cl,h7⟩
 ·exact .inl h2
 ·exact .inr (.inl h2)
 ·have hM:=kL8 (fS rest l) 17408 rfl;generalize mkF (fS rest l) 17408=S at*;exact .inr (.inr ⟨h3,h4,g,S,h5,h6,hM,kHq hM h7⟩)
end Go.Proofs.Ytabbabkmojaoaaa

namespace Go.Proofs.Ytabbabkmojaoaaa
open Go.RowKit
theorem Try.elemI16:kLo Try.prog 76 91 (.int .u16 0) 2:=⟨Try.underlying76,by kernel_rfl,by kernel_rfl⟩
theorem Try.elemI8:kLo Try.prog 77 5 (.int .u8 0) 1:=⟨Try.underlying77,by kernel_rfl,by kernel_rfl⟩
theorem kGc (ad:Addr)(n c:Nat)(xs:List Value)(w:World)(hn:xs.length=n)(hlt:n≤1048576)(hc:kEz w (some ad) xs)(h1:∀u∈xs,u.oneCell'=true):
  Calls Try.prog 87 #[.slice (some ad) n c] w fun e w'=>∃a' c',e= .returned (.slice a' n c')∧Own w.heap.size 91 w' a' n c' xs∧Below w.heap.size w w':=by
 have HC:=jH hc;clear hc
 have HN:=jH hn;clear hn
 have hnil:∀w:World,(binOp .eql 76 (.slice (some ad) n c) (.slice none 0 0)).run Try.prog w= .ok (.bool false) w:=fun w=>Lib.run_eql_slice_nil w _ _ _ _ _ _ _ Try.underlying76
 have HO:Hid (Own w.heap.size 91 (w.alloc (.cells #[] 91)) (some ⟨w.heap.size,0,none⟩) 0 0 []):=jH ⟨by simp,.inr ⟨w.heap.size,0,#[],rfl,Nat.le_refl _,jN w _,Nat.le_refl _,Nat.zero_le _,rfl,rfl⟩⟩
 have HV:Hid (kEz (w.alloc (.cells #[] 91)) (some ad) xs):=jH (fun j hj=>by
  obtain⟨b,o,e,h⟩:=HC.out j hj
  exact⟨b,o,e,kBb h _⟩)
 go_enter Try.func87,Try.ntmps87
 go_wp2_with (at_builtin;refine kK0 Try.elemI16 rfl (.tmp 5) (.tmp 6) rfl HO.out (by simp) HN.out HV.out (by simp) h1 (by omega) (by unfold maxLen;omega) rfl rfl ?_)
 intro a2 cap2 w2 hown2 hg hb;have HB:=jH (((Below.refl _ w).alloc jR (.cells #[] 91)).trans (HO.out.app hg (by simp)));have HO2:Hid (Own w.heap.size 91 w2 a2 n cap2 xs):=jH (by simpa using hown2);clear hg hb hown2;go_wp2
 go_ret
 exact⟨_,_,rfl,HO2.out,HB.out⟩
theorem kE1 {F:Fence}{nF:Nat}{P:Program}{md:Region.Mode}{ops:Array Oper}{Q:Exit→Act→World→Prop}{C:World→Prop}{M:List Nat}{i:Nat}{o:Oper}{f:Nat}{l:Array Bool}{act:Act}{t e:TypeId}{z:Value}{bytes:Nat}(el:kLo P t e z bytes){w:World}(hr:Region.ready md ops l=[i])(hi:ops[i]? =some o)(hc:kDb o=true)
  (hwt:Region.wanted o (yielded ops act.tmps)=true)(s x:Operand)
  (ho:o.op= .call {callee:= .builtin .append,args:= #[s,x],argTypes:= #[t,t]}){B:Nat}{a:Option Addr}{n cap:Nat}{xs:List Value}(hown:Own B e w a n cap xs)(hB:B≤w.heap.size)
  {ad:Addr}{m c:Nat}{ys:List Value}(hys:ys.length=m)(hsrc:kEz w (some ad) ys)(hone:∀u∈ys,u.oneCell'=true)(hn:(n+m)*bytes≤140737488355328)(hm:n+m≤maxLen)
  (hs:act.eval s= .slice a n cap)(hx:act.eval x= .slice (some ad) m c)
  (hC:∀w',w.grownBy w' (Value.slice a n cap).ownBlock→C w')
  (h:∀a' cap' w',Own B e w' a' (n+m) cap' (xs++ys)→w.grownBy w' (Value.slice a n cap).ownBlock→kBk w (.slice a n cap) (.slice a' (n+m) cap')→kGx F nF P md ops Q M C f (l.setIfInBounds i true) (act.put o.dst (.slice a' (n+m) cap')) w'):
  kGx F nF P md ops Q M C (f+1) l act w:=by
 obtain⟨i',hi',hz,h1,hb⟩:=info_parts el.inf
 have hcell:∀j v,ys[j]? =some v→w.cell? (ad.add j)=some v:=by
  intro j v hv;obtain⟨hj,hv2⟩:=List.getElem?_eq_some_iff.1 hv;obtain⟨b,o,h3,h4⟩:=hsrc j hj;obtain rfl:=Option.some.inj h3;rw[Addr.add_lit,h4,hv2]
 obtain⟨v',w',hr',h2,h3,h4⟩:=kGp (P:=P) w B t o.type e i' z 1 bytes el.und hi' hz h1 hb el.one (by decide) _ n xs hown ad m c ys (by simpa using hys) hcell hone hm hn hB
 have hv':∃a' cap',v'= .slice a' (n+m) cap':=by
  rcases h2.2 with⟨rfl,h0⟩ | ⟨g,cap',cur,rfl,_⟩
  ·exact⟨none,0,by rw[h0]⟩
  ·exact⟨_,_,rfl⟩
 obtain⟨a',cap',rfl⟩:=hv';refine kC9 hr hi hc hwt (v:= .slice a' (n+m) cap') (w':=w') ?_ (hC w' h3) (h a' cap' w' h2 h3 h4);unfold execOp;simp only[ho,resolve,invoke,builtin,Sem.run_bind,Sem.run_pure,Result.andThen_ok,List.map_toArray,List.map_cons,List.map_nil,hs,hx,hr']
theorem kFi {B B':Nat}{E:TypeId}{w w':World}{a:Option Addr}{n c:Nat}{xs:List Value}(h:Own B E w a n c xs)(hB:B'≤B)(hk:∀k,(Value.slice a n c).ownBlock=some k→w'.heap[k]? =w.heap[k]?):Own B' E w' a n c xs:=by
 refine⟨h.1,?_⟩
 rcases h.2 with hn | ⟨g,cap,cur,e,hb,hg,rest⟩
 ·exact .inl hn
 ·exact .inr ⟨g,cap,cur,e,by omega,by rw[hk g (by rw[e];rfl)];exact hg,rest⟩
def kB7 {α:Type} (val:α→Value) (L:List (List α)):List Value:=L.flatMap (fun l=>l.map val)
theorem kFr {α:Type}(val:α→Value)(L:List (List α))(l:List α):kB7 val (L++[l])=kB7 val L++l.map val:=by simp[kB7]
theorem kA4 (b:List Nat):kAf kAb b=b.map kAb:=by
 induction b with
 | nil=>rfl
 | cons a l ih=>rw[kAf,List.flatMap_cons,←kAf,ih,kA0];rfl
theorem kD1 (b:List Nat):∀u∈b.map kAb,u.oneCell'=true:=fun u hu=>by
 obtain⟨x, -,rfl⟩:=List.mem_map.1 hu
 rfl
theorem kHr (b:List Int):∀u∈b.map val8,u.oneCell'=true:=fun u hu=>by
 obtain⟨x, -,rfl⟩:=List.mem_map.1 hu
 rfl
def PaM (W0:World) (bp n:Nat) (at_:Option Addr) (ct:Nat) (L:List (List Nat)) (i:Value) (wr:World):Prop:=
 ∃(k:Nat) (a:Option Addr) (c:Nat),k≤n∧i= .int .i64 k∧wr.heap[bp]? =some (.cells #[.slice at_ 272 ct,.slice a (64*k) c,.slice none 0 0] 79 (0,0))∧
  Own W0.heap.size 91 wr a (64*k) c (kB7 kAb (L.take k))∧But W0.heap.size (fun b=>b=bp) W0 wr
def PaL (W0:World) (bp n:Nat) (at_:Option Addr) (ct:Nat) (am:Option Addr) (nm cm:Nat) (L:List (List Int)) (i:Value) (wr:World):Prop:=
 ∃(k:Nat) (a:Option Addr) (c:Nat),k≤n∧i= .int .i64 k∧wr.heap[bp]? =some (.cells #[.slice at_ 272 ct,.slice am nm cm,.slice a (64*k) c] 79 (0,0))∧
  Own W0.heap.size 5 wr a (64*k) c (kB7 val8 (L.take k))∧But W0.heap.size (fun b=>b=bp) W0 wr
def kKr (a:Option Addr):Option Nat:=a.map (·.block)
theorem kCx (a:Option Addr)(n c:Nat):(Value.slice a n c).ownBlock=kKr a:=by cases a<;>rfl
def Dis3 (aT aM aL:Option Addr):Prop:=(∀k,kKr aT=some k→kKr aM≠some k∧kKr aL≠some k)∧∀k,kKr aM=some k→kKr aL≠some k
theorem kCr (w:World)(g:Nat)(T:kAy Int)(hk:kA5 T)(h0:0<T.low.length)(h:kAj val8 114 64 w g T):
  Calls Try.prog 44 #[.pointer (some ⟨g,0,none⟩)] w fun e w'=>∃at_ ct am cm al cl,e= .returned (.agg #[.slice at_ 272 ct,.slice am (64*T.mid.length) cm,.slice al (64*T.low.length) cl])∧
   Own w.heap.size 91 w' at_ 272 ct (T.top.map kAb)∧Own w.heap.size 91 w' am (64*T.mid.length) cm (kB7 kAb T.mid)∧Own w.heap.size 5 w' al (64*T.low.length) cl (kB7 val8 T.low)∧Below w.heap.size w w'∧Dis3 at_ am al:=by
 obtain⟨bz,hbz⟩:∃bz,bz=w.heap.size:=⟨_,rfl⟩
 have hgl:g<w.heap.size:=by obtain⟨am,cm,al,cl,h1, -⟩:=h;exact(jL h1)
 have HK:=jH hk;clear hk
 have H:=jH h;clear h
 refine kB8 Try.func44 rfl ?_;simp only[Try.ntmps44,List.size_toArray,List.length_cons,List.length_nil,Nat.reduceAdd,Nat.reduceSub,Array.replicate_succ,Array.replicate_zero,List.push_toArray,List.append_toArray,List.nil_append,List.cons_append]
 have HW1:Hid (Below w.heap.size w ((w.alloc (.cells #[.slice none 0 0,.slice none 0 0,.slice none 0 0] 79)).alloc (.cells #[.slice none 0 0,.slice none 0 0,.slice none 0 0] 79))∧
   ((w.alloc (.cells #[.slice none 0 0,.slice none 0 0,.slice none 0 0] 79)).alloc (.cells #[.slice none 0 0,.slice none 0 0,.slice none 0 0] 79)).heap[bz]? =some (.cells #[.slice none 0 0,.slice none 0 0,.slice none 0 0] 79 (0,0))∧
   ((w.alloc (.cells #[.slice none 0 0,.slice none 0 0,.slice none 0 0] 79)).alloc (.cells #[.slice none 0 0,.slice none 0 0,.slice none 0 0] 79)).heap[bz+1]? =some (.cells #[.slice none 0 0,.slice none 0 0,.slice none 0 0] 79 (0,0))∧
   ((w.alloc (.cells #[.slice none 0 0,.slice none 0 0,.slice none 0 0] 79)).alloc (.cells #[.slice none 0 0,.slice none 0 0,.slice none 0 0] 79)).heap.size=bz+1+1):=jH (by
  rw[hbz]
  refine⟨((Below.refl _ w).alloc jR _).alloc (by simp) _,?_,?_,by simp⟩
  ·rw[Below.heap_alloc _ _ _ (by simp)];exact jN w _
  ·have:=jN (w.alloc (.cells #[.slice none 0 0,.slice none 0 0,.slice none 0 0] 79)) (.cells #[.slice none 0 0,.slice none 0 0,.slice none 0 0] 79)
   simpa using this)
 go_upto_region 2 with(fail)
 rw[←hbz];generalize ((w.alloc (.cells #[.slice none 0 0,.slice none 0 0,.slice none 0 0] 79)).alloc (.cells #[.slice none 0 0,.slice none 0 0,.slice none 0 0] 79))=w1 at*;have HBz:=jH hbz;have H1:=jH (H.out.below HW1.out.1 jR)
 have hgz:g<bz:=by rw[hbz];exact hgl
 clear hbz
 go_wp2_with fail
 refine(kBn w1 g T HK.out h0 H1.out).mono ?_;rintro e w2 ⟨rfl,rfl⟩;obtain⟨am0,cm0,al0,cl0,hg1,hg2,hg3⟩:=H1.out
 have HG1:=jH hg1;clear hg1
 have HG2:=jH hg2;clear hg2
 have HG3:=jH hg3;clear hg3
 have HVt:Hid (kEz w1 (some ⟨g,0,none⟩) (T.top.map kAb)):=jH (fun j hj=>by
  refine⟨g,0,rfl,?_⟩
  have hj2:j<272:=by rw[List.length_map,HK.out.top]at hj;exact hj
  rw[Nat.zero_add,kAj.cell_top (val:=val8) HK.out HG1.out j hj2,List.getElem_map]
  rw[kAn (d:=0) (by rw[HK.out.top];exact hj2)])
 go_wp2_with fail
 refine(kGc ⟨g,0,none⟩ 272 272 (T.top.map kAb) w1 (by rw[List.length_map,HK.out.top]) (by omega) HVt.out (kD1 _)).mono ?_;rintro e w3 ⟨at_,ct,rfl,ho,hb⟩;have HOt:=jH ho;have HB3:=jH hb;have HZ3:=jH ((hb.block bz (by rw[HW1.out.2.2.2];omega)).trans HW1.out.2.1);have HP3:=jH ((hb.block (bz+1) (by rw[HW1.out.2.2.2];omega)).trans HW1.out.2.2.1);clear ho hb HVt;have p0:=jK w3 (bz+1) 0 _ _ (0,0) HP3.out;have f0:=jO w3 (bz+1) 0 _ _ HP3.out;simp at p0
 obtain⟨bp,hbp⟩:∃bp,bp=bz+1:=⟨_,rfl⟩
 have HBp:=jH hbp;clear hbp
 go_upto_region 5 with(fail)
 have hbp:=HBp.out;rw[←hbp]at HP3 p0 f0 ⊢
 obtain⟨w4,hw4⟩:∃w4,w4=w3.setCell ⟨bp,0,none⟩ (.slice at_ 272 ct):=⟨_,rfl⟩
 have HP4:Hid (w4.heap[bp]? =some (.cells #[.slice at_ 272 ct,.slice none 0 0,.slice none 0 0] 79 (0,0))):=jH (by
  have:=jP w3 bp 0 _ _ (.slice at_ 272 ct) HP3.out;rw[hw4]
  simpa using this)
 have HZ4:Hid (w4.heap[bz]? =some (.cells #[.slice none 0 0,.slice none 0 0,.slice none 0 0] 79 (0,0))):=jH (by
  rw[hw4,jQ w3 ⟨bp,0,none⟩ bz _ (by simp;omega)]
  exact HZ3.out)
 have HB4:Hid (Below bz w w4):=jH (by
  rw[hw4,HBz.out]
  exact(kBq HW1.out.1 HB3.out).setCell (p:=⟨bp,0,none⟩) (by show w.heap.size≤bp;rw[hbp,HBz.out];omega) _)
 have hs4:bp<w4.heap.size:=(jL HP4.out)
 have HOt4:Hid (Own w1.heap.size 91 w4 at_ 272 ct (T.top.map kAb)):=jH (by
  rw[hw4];refine HOt.out.kept (kAe w3 bp 0 _) ?_
  cases e:(Value.slice at_ 272 ct).ownBlock with
  | none=>exact .inl rfl
  | some k=>exact .inr (fun e2=>by cases e2;have:=(World.ownsRow.lt HOt.out _ e).1;have:=HW1.out.2.2.2;omega))
 have hs14:w1.heap.size≤w4.heap.size:=by rw[hw4];simpa using HB3.out.size
 rw[←hw4];clear hw4 HP3 p0 f0 HOt HZ3 HB3
 have hbp2:bz<bp:=by omega
 clear hbp;obtain⟨am1,cm1,al1,cl1,hh1,hh2,hh3⟩:=H.out;have HT4:=jH (H.out.below HB4.out (by rw[HBz.out];exact Nat.le_refl _));have HM0:=jH hh2;have HL0:=jH hh3;have g4:w4.heap[g]? =some (.cells (kD7 T am1 cm1 al1 cl1).toArray 114 (0,0)):=(HB4.out.block g hgz).trans hh1
 have HG4:=jH g4;clear g4 hh1 hh2 hh3
 have c1:=kAj.cell_mid (val:=val8) HK.out HG4.out
 obtain⟨nm,hnm⟩:∃nm,nm=T.mid.length:=⟨_,rfl⟩
 have hnm2:nm≤272:=by rw[hnm];exact HK.out.midL
 rw[←hnm]at c1
 have HNm:=jH hnm;clear hnm
 go_wp2
 go_loopw [23] (PaM w4 bp nm at_ ct T.mid) (fun i _=>nm - (intOf i).toNat)
 case atStart=>exact⟨0,none,0,Nat.zero_le _,rfl,HP4.out,Own.nil _ _ _,But.refl _ _ _⟩
 case round=>
  obtain⟨k,a,c,hk,rfl,hcell,hown,hbut⟩:=hrel
  have HCe:=jH hcell;clear hcell
  have HOw:=jH hown;clear hown
  have HBt:=jH hbut;clear hbut
  by_cases hkn:k<nm
  ·have hki:(k:Int)<(nm:Int):=by omega
   have hkl:k<T.mid.length:=by rw[←HNm.out];exact hkn
   obtain⟨b,o,ha⟩:=HM0.out.some (by omega);subst ha;have hr:=HM0.out.get k hkl
   have hbl:b<bz:=by
    have hml:=HK.out.mid _ (List.getElem_mem hkl);have h2:=hr 0 (kAb (T.mid[k][0]'(by omega))) (kCe kA0 _ 0 (by omega));rw[HBz.out];exact World.block_lt_of_cell? w _ h2
   have HR:Hid (wr.rangeAt b (o+k*64) (kAf kAb T.mid[k])):=jH (fun j v hv=>HBt.out.cell ((HB4.out.cell (p:=⟨b,o+k*64+j,none⟩) hbl).trans (hr j v hv)) (by omega) (by show ¬b=bp;omega))
   have hbs:(kAf kAb T.mid[k]).length=64:=by rw[kAh (sz:=1) (fun _=>rfl),HK.out.mid _ (List.getElem_mem hkl)]
   clear hr
   go_upto_region 7 with(fail)
   refine wp_region_list ?_;refine kAc (v:= .pointer (some ⟨b,o+k*64,none⟩)) (w':=wr) rfl (by go_simp) ?_;refine wpList_load_mid rfl 120 (.tmp 25) rfl b (o+k*64) rfl (kAf kAb T.mid[k]) (.array 64 91) HR.out Try.underlying120 rfl (by rw[hbs];kernel_rfl) ?_;refine kAc (v:= .pointer (some ⟨wr.heap.size,0,none⟩)) (w':=wr.alloc (.cells (kAf kAb (List.replicate 64 0)).toArray 120)) rfl (by kernel_rfl) ?_
   obtain⟨b8,hb8⟩:∃b8,b8=wr.heap.size:=⟨_,rfl⟩
   have hA7:=jN wr (.cells (kAf kAb (List.replicate 64 0)).toArray 120);have hB7:Below wr.heap.size wr (wr.alloc (.cells (kAf kAb (List.replicate 64 0)).toArray 120)):=(Below.refl _ _).alloc jR _;rw[←hb8]at hA7 hB7 ⊢;generalize hw7:wr.alloc (.cells (kAf kAb (List.replicate 64 0)).toArray 120)=w7 at*
   have hT7:w7.there b8 0 (kAf kAb T.mid[k]).toArray.size:=fun j hj=>by
    rw[Nat.zero_add,jK w7 b8 j _ _ (0,0) hA7];refine⟨?_,jO w7 b8 j _ _ hA7⟩;rw[List.getElem?_toArray,kA4,List.getElem?_map,List.getElem?_replicate,if_pos (by simpa [hbs]using hj)]
    rfl
   refine wpList_store_mid rfl 120 (.tmp 5) (.tmp 26) rfl b8 0 (kAf kAb T.mid[k]).toArray rfl rfl hT7 (by rw[List.size_toArray,hbs];kernel_rfl) (by rw[kA4];exact all_oneCell_toArray (kD1 _)) ?_;have HR8:Hid ((w7.setCells b8 0 (kAf kAb T.mid[k]).toArray.toList).rangeAt b8 0 (kAf kAb T.mid[k])):=jH (World.rangeAt_setCells_same w7 b8 0 _ (by simpa using hT7))
   have HB8:Hid (Below wr.heap.size wr (w7.setCells b8 0 (kAf kAb T.mid[k]).toArray.toList)):=jH (by
    rw[←hb8]
    exact hB7.trans (kBa (kC3 b8 _ 0 w7) (fun k e=>by cases e;exact Nat.le_refl _) (by rw[hb8];exact hB7.size)))
   generalize (w7.setCells b8 0 (kAf kAb T.mid[k]).toArray.toList)=w8 at*;clear hT7 hA7 hB7 hw7
   have HB8e:=jH hb8;clear hb8
   have HV8:Hid (kEz w8 (some ⟨b8,0,none⟩) (T.mid[k].map kAb)):=jH (fun j hj=>⟨b8,0,rfl,HR8.out j _ (by rw[kA4];exact List.getElem?_eq_getElem hj)⟩)
   have hlen8:(T.mid[k].map kAb).length=64:=by rw[List.length_map];exact HK.out.mid _ (List.getElem_mem hkl)
   have hbpr:bp<wr.heap.size:=(jL HCe.out)
   have HC8:=jH ((HB8.out.block bp hbpr).trans HCe.out);have HO8:Hid (Own w4.heap.size 91 w8 a (64*k) c (kB7 kAb (T.mid.take k))):=jH (HOw.out.below HB8.out jR);have d0:=jK w8 bp 1 _ _ (0,0) HC8.out;have e0:=jO w8 bp 1 _ _ HC8.out;simp at d0
   have hok:∀q,(Value.slice a (64*k) c).ownBlock=some q→w4.heap.size≤q:=fun q e=>(World.ownsRow.lt HO8.out q e).1
   have hbase:w4.heap.size≤w8.heap.size:=Nat.le_trans HBt.out.size HB8.out.size;have HKB:=jH (fun(w':World) (hg:w8.drew.grownBy w' (Value.slice a (64*k) c).ownBlock)=>show w'.cell? ⟨bp,1,none⟩=some (.slice a (64*k) c)∧w'.frozen? ⟨bp,1,none⟩=false from⟨kAv hg d0 (fun q e=>by have:=hok q e;omega),jO w' bp 1 _ _ ((kAr hg (jL HC8.out) (fun q e=>by have:=hok q e;omega)).trans HC8.out)⟩);go_wp2
   have d1:w8.drew.cell? ⟨bp,1,none⟩=some (.slice a (64*k) c):=d0;have e1:w8.drew.frozen? ⟨bp,1,none⟩=false:=e0
   have hbn1:(64*k+64)*2≤140737488355328:=by omega
   have hbn2:64*k+64≤maxLen:=by unfold maxLen;omega
   refine wp_region_noPanic ?_;refine(wpIn_wide (n:=2)).1 ?_;refine kAi [4,5] (fun w':World=>w'.cell? ⟨bp,1,none⟩=some (.slice a (64*k) c)∧w'.frozen? ⟨bp,1,none⟩=false) (by kernel_rfl) ?_;have HCx:Hid ((fun w':World=>w'.cell? ⟨bp,1,none⟩=some (.slice a (64*k) c)∧w'.frozen? ⟨bp,1,none⟩=false) w8.drew):=jH ⟨d1,e1⟩;have HO9:Hid (Own w4.heap.size 91 w8.drew a (64*k) c (kB7 kAb (T.mid.take k))):=jH (World.ownsRow.drew HO8.out);have HV9:Hid (kEz w8.drew (some ⟨b8,0,none⟩) (T.mid[k].map kAb)):=jH HV8.out;have HB9:Hid (Below wr.heap.size wr w8.drew):=jH HB8.out.drew;have HC9:Hid (w8.drew.heap[bp]? =some (.cells #[.slice at_ 272 ct,.slice a (64*k) c,.slice none 0 0] 79 (0,0))):=jH HC8.out;have hbase9:w4.heap.size≤w8.drew.heap.size:=hbase;clear d0 e0 d1 e1;generalize w8.drew=w9 at*;refine' kAd (i:=0) (v:=_) [1,3,4,5] (by kernel_rfl) rfl (by kernel_rfl) (fun _ _ _ h=>h) (by rfl) (by rintro w' ⟨c0,c1⟩;go_simp;try with_reducible rfl) HCx.out ?_;simp only[jA,jB,jC,Act.put,jD,jE,jF];refine' kAd (i:=1) (v:=_) [3,4,5] (by kernel_rfl) rfl (by kernel_rfl) (fun _ _ _ h=>h) (by rfl) (by rintro w' ⟨c0,c1⟩;go_simp;try with_reducible rfl) HCx.out ?_;simp only[jA,jB,jC,Act.put,jD,jE,jF];refine' kAd (i:=2) (v:=_) [3,4,5] (by kernel_rfl) rfl (by kernel_rfl) (fun _ _ _ h=>h) (by rfl) (by rintro w' ⟨c0,c1⟩;go_simp;try with_reducible rfl) HCx.out ?_;simp only[jA,jB,jC,Act.put,jD,jE,jF];refine kE1 (i:=3) Try.elemI16 (by kernel_rfl) rfl (by kernel_rfl) (by rfl) (.tmp 28) (.tmp 29) rfl HO9.out hbase9 hlen8 HV9.out (kD1 _) hbn1 hbn2 rfl rfl (fun w' hg=>HKB.out w' hg) ?_;intro a2 c2 w10 ho10 hg10 hn10;simp only[jA,jB,jC,Act.put,jD,jE,jF];refine kA3 4 (by rfl) (by kernel_rfl) (by kernel_rfl) ?_;simp only[List.drop_succ_cons,List.drop_zero];obtain⟨d2,e2⟩:=HKB.out w10 hg10
   have hbp9:bp<w9.heap.size:=(jL HC9.out)
   have HC10:=jH ((kAr hg10 hbp9 (fun q e=>by have:=hok q e;omega)).trans HC9.out);have HO10:=jH ho10;have HG10:=jH hg10;clear ho10 hg10 hn10
   gi_wp2
   show Exit.inBlock 1 _ Exit.normal _ _
   have HC11:Hid ((w10.setCell ⟨bp,1,none⟩ (.slice a2 (64*k+64) c2)).heap[bp]? =some (.cells #[.slice at_ 272 ct,.slice a2 (64*k+64) c2,.slice none 0 0] 79 (0,0))):=jH (by
    have:=jP w10 bp 1 _ _ (.slice a2 (64*k+64) c2) HC10.out
    simpa using this)
   have HO11:Hid (Own w4.heap.size 91 (w10.setCell ⟨bp,1,none⟩ (.slice a2 (64*k+64) c2)) a2 (64*k+64) c2 (kB7 kAb (T.mid.take (k+1)))):=jH (by
    rw[List.take_succ_eq_append_getElem hkl,kFr];refine HO10.out.kept (kAe w10 bp 1 _) ?_
    cases e:(Value.slice a2 (64*k+64) c2).ownBlock with
    | none=>exact .inl rfl
    | some q=>exact .inr (fun e2=>by cases e2;have:=(World.ownsRow.lt HO10.out _ e).1;omega))
   have HB11:Hid (But w4.heap.size (fun b=>b=bp) w4 (w10.setCell ⟨bp,1,none⟩ (.slice a2 (64*k+64) c2))):=jH
    (((HBt.out.trans (But.of_below (HB9.out.mono HBt.out.size))).grown HG10.out hbase9 (fun q e=> .inr (hok q e))).setCell bp 1 _ (.inl rfl))
   generalize (w10.setCell ⟨bp,1,none⟩ (.slice a2 (64*k+64) c2))=w11 at*;clear d2 e2;go_wp2
   exact⟨⟨k+1,a2,c2,by omega,by go_num,HC11.out,HO11.out,HB11.out⟩,by simp[intOf];omega⟩
  ·obtain rfl:k=nm:=by omega
   have hki:¬(k:Int)<(k:Int):=by omega
   have htk:T.mid.take k=T.mid:=List.take_of_length_le (by rw[HNm.out];exact Nat.le_refl _);rw[htk]at HOw;clear htk
   obtain⟨w5,rfl⟩:∃w5,w5=wr:=⟨_,rfl⟩
   have c2:=(kAj.cell_low (val:=val8) HK.out HG4.out)
   have c3:=HBt.out.cell c2 (by omega) (by show ¬g=bp;omega);clear c2
   obtain⟨nl,hnl⟩:∃nl,nl=T.low.length:=⟨_,rfl⟩
   have hnl2:nl≤17408:=by rw[hnl];exact HK.out.lowL
   rw[←hnl]at c3
   have HNl:=jH hnl;clear hnl
   go_wp2
   obtain⟨nmm,hnmm⟩:∃nmm,nmm=k:=⟨_,rfl⟩
   have HCe2:Hid (w5.heap[bp]? =some (.cells #[.slice at_ 272 ct,.slice a (64*nmm) c,.slice none 0 0] 79 (0,0))):=jH (by rw[hnmm];exact HCe.out);have HOw2:Hid (Own w4.heap.size 91 w5 a (64*nmm) c (kB7 kAb T.mid)):=jH (by rw[hnmm];exact HOw.out);have HNmm:=jH (show nmm=T.mid.length by rw[hnmm];exact HNm.out);have hs5:w4.heap.size≤w5.heap.size:=HBt.out.size;clear hnmm HCe HOw
   obtain⟨am,ham⟩:∃am,am=a:=⟨_,rfl⟩
   obtain⟨cm,hcm⟩:∃cm,cm=c:=⟨_,rfl⟩
   rw[←ham,←hcm]at HCe2 HOw2;clear ham hcm
   go_loopw [38] (PaL w5 bp nl at_ ct am (64*nmm) cm T.low) (fun i _=>nl - (intOf i).toNat)
   case atStart=>exact⟨0,none,0,Nat.zero_le _,rfl,HCe2.out,Own.nil _ _ _,But.refl _ _ _⟩
   case round=>
    obtain⟨k,a,c,hk,rfl,hcell,hown,hbut⟩:=hrel
    have HDe:=jH hcell;clear hcell
    have HOx:=jH hown;clear hown
    have HBu:=jH hbut;clear hbut
    by_cases hkn:k<nl
    ·have hki:(k:Int)<(nl:Int):=by omega
     have hkl:k<T.low.length:=by rw[←HNl.out];exact hkn
     obtain⟨b,o,ha⟩:=HL0.out.some (by omega);subst ha;have hr:=HL0.out.get k hkl
     have hbl:b<bz:=by
      have hml:=HK.out.low _ (List.getElem_mem hkl);have h2:=hr 0 (val8 (T.low[k][0]'(by omega))) (kCe kBt _ 0 (by omega));rw[HBz.out];exact World.block_lt_of_cell? w _ h2
     have HR:Hid (wr.rangeAt b (o+k*64) (kAf val8 T.low[k])):=jH (fun j v hv=>HBu.out.cell (HBt.out.cell ((HB4.out.cell (p:=⟨b,o+k*64+j,none⟩) hbl).trans (hr j v hv)) (by omega) (by show ¬b=bp;omega)) (by omega) (by show ¬b=bp;omega))
     have hbs:(kAf val8 T.low[k]).length=64:=by rw[kAh (sz:=1) (fun _=>rfl),HK.out.low _ (List.getElem_mem hkl)]
     clear hr
     go_upto_region 12 with(fail)
     refine wp_region_list ?_;refine kAc (v:= .pointer (some ⟨b,o+k*64,none⟩)) (w':=wr) rfl (by go_simp) ?_;refine wpList_load_mid rfl 119 (.tmp 40) rfl b (o+k*64) rfl (kAf val8 T.low[k]) (.array 64 5) HR.out Try.underlying119 rfl (by rw[hbs];kernel_rfl) ?_;refine kAc (v:= .pointer (some ⟨wr.heap.size,0,none⟩)) (w':=wr.alloc (.cells (kAf val8 (List.replicate 64 0)).toArray 119)) rfl (by kernel_rfl) ?_
     obtain⟨b8,hb8⟩:∃b8,b8=wr.heap.size:=⟨_,rfl⟩
     have hA7:=jN wr (.cells (kAf val8 (List.replicate 64 0)).toArray 119);have hB7:Below wr.heap.size wr (wr.alloc (.cells (kAf val8 (List.replicate 64 0)).toArray 119)):=(Below.refl _ _).alloc jR _;rw[←hb8]at hA7 hB7 ⊢;generalize hw7:wr.alloc (.cells (kAf val8 (List.replicate 64 0)).toArray 119)=w7 at*
     have hT7:w7.there b8 0 (kAf val8 T.low[k]).toArray.size:=fun j hj=>by
      rw[Nat.zero_add,jK w7 b8 j _ _ (0,0) hA7];refine⟨?_,jO w7 b8 j _ _ hA7⟩;rw[List.getElem?_toArray,kA7,List.getElem?_map,List.getElem?_replicate,if_pos (by simpa [hbs]using hj)]
      rfl
     refine wpList_store_mid rfl 119 (.tmp 7) (.tmp 41) rfl b8 0 (kAf val8 T.low[k]).toArray rfl rfl hT7 (by rw[List.size_toArray,hbs];kernel_rfl) (by rw[kA7];exact all_oneCell_toArray (kHr _)) ?_;have HR8:Hid ((w7.setCells b8 0 (kAf val8 T.low[k]).toArray.toList).rangeAt b8 0 (kAf val8 T.low[k])):=jH (World.rangeAt_setCells_same w7 b8 0 _ (by simpa using hT7))
     have HB8:Hid (Below wr.heap.size wr (w7.setCells b8 0 (kAf val8 T.low[k]).toArray.toList)):=jH (by
      rw[←hb8]
      exact hB7.trans (kBa (kC3 b8 _ 0 w7) (fun k e=>by cases e;exact Nat.le_refl _) (by rw[hb8];exact hB7.size)))
     generalize (w7.setCells b8 0 (kAf val8 T.low[k]).toArray.toList)=w8 at*;clear hT7 hA7 hB7 hw7
     have HB8e:=jH hb8;clear hb8
     have HV8:Hid (kEz w8 (some ⟨b8,0,none⟩) (T.low[k].map val8)):=jH (fun j hj=>⟨b8,0,rfl,HR8.out j _ (by rw[kA7];exact List.getElem?_eq_getElem hj)⟩)
     have hlen8:(T.low[k].map val8).length=64:=by rw[List.length_map];exact HK.out.low _ (List.getElem_mem hkl)
     have hbpr:bp<wr.heap.size:=(jL HDe.out)
     have HC8:=jH ((HB8.out.block bp hbpr).trans HDe.out);have HO8:Hid (Own w5.heap.size 5 w8 a (64*k) c (kB7 val8 (T.low.take k))):=jH (HOx.out.below HB8.out jR);have d0:=jK w8 bp 2 _ _ (0,0) HC8.out;have e0:=jO w8 bp 2 _ _ HC8.out;simp at d0
     have hok:∀q,(Value.slice a (64*k) c).ownBlock=some q→w5.heap.size≤q:=fun q e=>(World.ownsRow.lt HO8.out q e).1
     have hbase:w5.heap.size≤w8.heap.size:=Nat.le_trans HBu.out.size HB8.out.size;have HKB:=jH (fun(w':World) (hg:w8.drew.grownBy w' (Value.slice a (64*k) c).ownBlock)=>show w'.cell? ⟨bp,2,none⟩=some (.slice a (64*k) c)∧w'.frozen? ⟨bp,2,none⟩=false from⟨kAv hg d0 (fun q e=>by have:=hok q e;omega),jO w' bp 2 _ _ ((kAr hg (jL HC8.out) (fun q e=>by have:=hok q e;omega)).trans HC8.out)⟩);go_wp2
     have d1:w8.drew.cell? ⟨bp,2,none⟩=some (.slice a (64*k) c):=d0;have e1:w8.drew.frozen? ⟨bp,2,none⟩=false:=e0
     have hbn1:(64*k+64)*1≤140737488355328:=by omega
     have hbn2:64*k+64≤maxLen:=by unfold maxLen;omega
     refine wp_region_noPanic ?_;refine(wpIn_wide (n:=2)).1 ?_;refine kAi [4,5] (fun w':World=>w'.cell? ⟨bp,2,none⟩=some (.slice a (64*k) c)∧w'.frozen? ⟨bp,2,none⟩=false) (by kernel_rfl) ?_;have HCx:Hid ((fun w':World=>w'.cell? ⟨bp,2,none⟩=some (.slice a (64*k) c)∧w'.frozen? ⟨bp,2,none⟩=false) w8.drew):=jH ⟨d1,e1⟩;have HO9:Hid (Own w5.heap.size 5 w8.drew a (64*k) c (kB7 val8 (T.low.take k))):=jH (World.ownsRow.drew HO8.out);have HV9:Hid (kEz w8.drew (some ⟨b8,0,none⟩) (T.low[k].map val8)):=jH HV8.out;have HB9:Hid (Below wr.heap.size wr w8.drew):=jH HB8.out.drew;have HC9:Hid (w8.drew.heap[bp]? =some (.cells #[.slice at_ 272 ct,.slice am (64*nmm) cm,.slice a (64*k) c] 79 (0,0))):=jH HC8.out;have hbase9:w5.heap.size≤w8.drew.heap.size:=hbase;clear d0 e0 d1 e1;generalize w8.drew=w9 at*;refine' kAd (i:=0) (v:=_) [1,3,4,5] (by kernel_rfl) rfl (by kernel_rfl) (fun _ _ _ h=>h) (by rfl) (by rintro w' ⟨c0,c1⟩;go_simp;try with_reducible rfl) HCx.out ?_;simp only[jA,jB,jC,Act.put,jD,jE,jF];refine' kAd (i:=1) (v:=_) [3,4,5] (by kernel_rfl) rfl (by kernel_rfl) (fun _ _ _ h=>h) (by rfl) (by rintro w' ⟨c0,c1⟩;go_simp;try with_reducible rfl) HCx.out ?_;simp only[jA,jB,jC,Act.put,jD,jE,jF];refine' kAd (i:=2) (v:=_) [3,4,5] (by kernel_rfl) rfl (by kernel_rfl) (fun _ _ _ h=>h) (by rfl) (by rintro w' ⟨c0,c1⟩;go_simp;try with_reducible rfl) HCx.out ?_;simp only[jA,jB,jC,Act.put,jD,jE,jF];refine kE1 (i:=3) Try.elemI8 (by kernel_rfl) rfl (by kernel_rfl) (by rfl) (.tmp 43) (.tmp 44) rfl HO9.out hbase9 hlen8 HV9.out (kHr _) hbn1 hbn2 rfl rfl (fun w' hg=>HKB.out w' hg) ?_;intro a2 c2 w10 ho10 hg10 hn10;simp only[jA,jB,jC,Act.put,jD,jE,jF];refine kA3 4 (by rfl) (by kernel_rfl) (by kernel_rfl) ?_;simp only[List.drop_succ_cons,List.drop_zero];obtain⟨d2,e2⟩:=HKB.out w10 hg10
     have hbp9:bp<w9.heap.size:=(jL HC9.out)
     have HC10:=jH ((kAr hg10 hbp9 (fun q e=>by have:=hok q e;omega)).trans HC9.out);have HO10:=jH ho10;have HG10:=jH hg10;clear ho10 hg10 hn10
     gi_wp2
     show Exit.inBlock 1 _ Exit.normal _ _
     have HC11:Hid ((w10.setCell ⟨bp,2,none⟩ (.slice a2 (64*k+64) c2)).heap[bp]? =some (.cells #[.slice at_ 272 ct,.slice am (64*nmm) cm,.slice a2 (64*k+64) c2] 79 (0,0))):=jH (by
      have:=jP w10 bp 2 _ _ (.slice a2 (64*k+64) c2) HC10.out
      simpa using this)
     have HO11:Hid (Own w5.heap.size 5 (w10.setCell ⟨bp,2,none⟩ (.slice a2 (64*k+64) c2)) a2 (64*k+64) c2 (kB7 val8 (T.low.take (k+1)))):=jH (by
      rw[List.take_succ_eq_append_getElem hkl,kFr];refine HO10.out.kept (kAe w10 bp 2 _) ?_
      cases e:(Value.slice a2 (64*k+64) c2).ownBlock with
      | none=>exact .inl rfl
      | some q=>exact .inr (fun e2=>by cases e2;have:=(World.ownsRow.lt HO10.out _ e).1;omega))
     have HB11:Hid (But w5.heap.size (fun b=>b=bp) w5 (w10.setCell ⟨bp,2,none⟩ (.slice a2 (64*k+64) c2))):=jH
      (((HBu.out.trans (But.of_below (HB9.out.mono HBu.out.size))).grown HG10.out hbase9 (fun q e=> .inr (hok q e))).setCell bp 2 _ (.inl rfl))
     generalize (w10.setCell ⟨bp,2,none⟩ (.slice a2 (64*k+64) c2))=w11 at*;clear d2 e2;go_wp2
     exact⟨⟨k+1,a2,c2,by omega,by go_num,HC11.out,HO11.out,HB11.out⟩,by simp[intOf];omega⟩
    ·obtain rfl:k=nl:=by omega
     have hki:¬(k:Int)<(k:Int):=by omega
     have htk:T.low.take k=T.low:=List.take_of_length_le (by rw[HNl.out];exact Nat.le_refl _);rw[htk]at HOx;clear htk
     have hz4:bz<w4.heap.size:=(jL HZ4.out)
     have HZr:=jH (HBu.out.keep (HBt.out.keep HZ4.out hz4 (by show ¬bz=bp;omega)) (by omega) (by show ¬bz=bp;omega));have p0:=jK wr bp 0 _ _ (0,0) HDe.out;have p1:=jK wr bp 1 _ _ (0,0) HDe.out;have p2:=jK wr bp 2 _ _ (0,0) HDe.out;have z0:=jK wr bz 0 _ _ (0,0) HZr.out;have z1:=jK wr bz 1 _ _ (0,0) HZr.out;have z2:=jK wr bz 2 _ _ (0,0) HZr.out;have y0:=jO wr bz 0 _ _ HZr.out;have y1:=jO wr bz 1 _ _ HZr.out;have y2:=jO wr bz 2 _ _ HZr.out;simp at p0 p1 p2 z0 z1 z2;go_wp2
     obtain⟨W,hW⟩:∃W,W=((wr.setCell ⟨bz,0,none⟩ (.slice at_ 272 ct)).setCell ⟨bz,1,none⟩ (.slice am (64*nmm) cm)).setCell ⟨bz,2,none⟩ (.slice a (64*k) c):=⟨_,rfl⟩
     rw[←hW]
     have hC:W.heap[bz]? =some (.cells #[.slice at_ 272 ct,.slice am (64*nmm) cm,.slice a (64*k) c] 79 (0,0)):=by
      rw[hW];have e1:=jP wr bz 0 _ _ (.slice at_ 272 ct) HZr.out;have e2:=jP _ bz 1 _ _ (.slice am (64*nmm) cm) e1;have e3:=jP _ bz 2 _ _ (.slice a (64*k) c) e2
      simpa using e3
     have hO:∀q,q≠bz→W.heap[q]? =wr.heap[q]? :=fun q hq=>by
      rw[hW,jQ _ ⟨bz,2,none⟩ q _ hq,jQ _ ⟨bz,1,none⟩ q _ hq,jQ _ ⟨bz,0,none⟩ q _ hq]
     have hBe:Below bz wr W:=by
      rw[hW];exact(((Below.refl bz wr).setCell (p:=⟨bz,0,none⟩) jR _).setCell (p:=⟨bz,1,none⟩) jR _).setCell (p:=⟨bz,2,none⟩) jR _
     have v0:=jK W bz 0 _ _ (0,0) hC;have v1:=jK W bz 1 _ _ (0,0) hC;have v2:=jK W bz 2 _ _ (0,0) hC;simp at v0 v1 v2;clear hW;have hs1:=HW1.out.2.2.2;have hbpe:=HBp.out;refine kCz (v:= .agg #[.slice at_ 272 ct,.slice am (64*nmm) cm,.slice a (64*k) c]) (by simp[results,Try.results44,go_sem,v0,v1,v2]) ?_
     have hDis:Dis3 at_ am a:=by
      have l1:∀q,kKr am=some q→w4.heap.size≤q∧q<w5.heap.size:=fun q e=>World.ownsRow.lt HOw2.out q ((kCx _ _ _).trans e)
      have l2:∀q,kKr a=some q→w5.heap.size≤q:=fun q e=>(World.ownsRow.lt HOx.out q ((kCx _ _ _).trans e)).1
      have l3:∀q,kKr at_=some q→q<w4.heap.size:=fun q e=>(World.ownsRow.lt HOt4.out q ((kCx _ _ _).trans e)).2
      refine⟨fun q e=>⟨fun e2=> ?_,fun e2=> ?_⟩,fun q e e2=> ?_⟩
      ·have h1:=l3 q e;have h2:=(l1 q e2).1;omega
      ·have h1:=l3 q e;have h2:=l2 q e2;have h3:=hs5;omega
      ·have h1:=(l1 q e).2;have h2:=l2 q e2;omega
     refine⟨at_,ct,am,cm,a,c,by rw[HNmm.out,HNl.out],?_,?_,?_,?_,hDis⟩
     ·refine kFi HOt4.out (by rw[hs1,HBz.out];omega) (fun q e=> ?_);have hl:=World.ownsRow.lt HOt4.out q e;rw[hO q (by omega),HBu.out.block q (by omega) (by show ¬q=bp;omega),HBt.out.block q (by omega) (by show ¬q=bp;omega)]
     ·rw[←HNmm.out];refine kFi HOw2.out (by rw[←HBz.out];omega) (fun q e=> ?_);have hl:=World.ownsRow.lt HOw2.out q e;rw[hO q (by omega),HBu.out.block q (by omega) (by show ¬q=bp;omega)]
     ·rw[←HNl.out];refine kFi HOx.out (by rw[←HBz.out];omega) (fun q e=> ?_);have hl:=World.ownsRow.lt HOx.out q e;rw[hO q (by omega)]
     ·rw[←HBz.out];exact((HB4.out.trans (HBt.out.below bz (by omega) (fun q hq=>by have:q=bp:=hq;omega))).trans (HBu.out.below bz (by omega) (fun q hq=>by have:q=bp:=hq;omega))).trans hBe
theorem kCi (w:World)(g:Nat)(T:kAy Int)(hk:kA5 T)(h0:0<T.low.length)(h:kAj val8 114 64 w g T):
  Calls Try.prog 44 #[.pointer (some ⟨g,0,none⟩)] w fun e w'=>∃at_ ct am cm al cl,e= .returned (.agg #[.slice at_ 272 ct,.slice am (64*T.mid.length) cm,.slice al (64*T.low.length) cl])∧
   Own w.heap.size 91 w' at_ 272 ct (T.top.map kAb)∧Own w.heap.size 91 w' am (64*T.mid.length) cm (kB7 kAb T.mid)∧Own w.heap.size 5 w' al (64*T.low.length) cl (kB7 val8 T.low)∧Below w.heap.size w w':=
 (kCr w g T hk h0 h).mono (by
  rintro e w' ⟨at_,ct,am,cm,al,cl,rfl,o1,o2,o3,hb, -⟩
  exact⟨at_,ct,am,cm,al,cl,rfl,o1,o2,o3,hb⟩)
end Go.Proofs.Ytabbabkmojaoaaa

