/- several texts in one: UEG UE5 -/
import Derived.Test.YtbmphakfgoompaaGreatOH
import Derived.Test.YtbmphakfgoompaaGreatOTD
import Derived.Test.YtbmphakfgoompaaGreatOE2
import Derived.Test.YtbmphakfgoompaaGreatOE1
import Derived.BigRegion
set_option linter.unusedVariables false
set_option linter.unusedSimpArgs false
set_option maxRecDepth 100000
set_option maxHeartbeats 16000000
namespace Go.Proofs.YtbmphakfgoompaaGreat
open Go.RowKit
attribute [local go_sem] Oper.semAt_some
def kFn (l:List kAr):List Value:=l.flatMap (fun s=>[.int .i32 s.f,.int .i32 s.t,.int .i64 s.v])
theorem kHx (l:List kAr)(s:kAr):kFn (l++[s])=kFn l++[.int .i32 s.f,.int .i32 s.t,.int .i64 s.v]:=by unfold kFn;rw[List.flatMap_append];rfl
theorem kQj (l:List kAr):∀(i:Nat) (hi:i<l.length),(kFn l)[i*3]? =some (.int .i32 l[i].f)∧(kFn l)[i*3+1]? =some (.int .i32 l[i].t)∧(kFn l)[i*3+2]? =some (.int .i64 l[i].v):=by
 induction l with
 | nil=>intro i hi;simp at hi
 | cons s l ih=>
  intro i hi
  cases i with
  | zero=>exact⟨rfl,rfl,rfl⟩
  | succ i=>
   have e:kFn (s :: l)=[.int .i32 s.f,.int .i32 s.t,.int .i64 s.v]++kFn l:=rfl;have:=ih i (by simp at hi;omega);rw[e,show(i+1)*3=i*3+3 by omega,show i*3+3+1=i*3+1+3 by omega,show i*3+3+2=i*3+2+3 by omega];exact this
theorem kCe {B:Nat}{E:TypeId}{w:World}{a:Option Addr}{n c:Nat}{l:List kAr}(hl:l.length=n)(h:w.ownsRow B E 3 (.slice a n c) n (kFn l)):kGw .i64 w a l:=by
 intro i hi
 rcases h.2 with⟨e,h0⟩ | ⟨g,cap',cur,e,hb,hg,hnc,hcm,hcs,ht⟩
 ·omega
 ·simp only[Value.slice.injEq]at e;obtain⟨rfl,_,rfl⟩:=e;obtain⟨h1,h2,h3⟩:=kQj l i hi
  have k:∀j,j<3→w.cell? ⟨g,0+i*3+j,none⟩=(kFn l)[i*3+j]? :=fun j hj=>by
   rw[jK w g _ _ _ (0,0) hg,Nat.zero_add,←Array.getElem?_toList,←ht,List.getElem?_take_of_lt (by omega)]
  exact⟨g,0,rfl,(k 0 (by omega)).trans h1,(k 1 (by omega)).trans h2,(k 2 (by omega)).trans h3⟩
theorem kQ9 {B B' s:Nat}{E:TypeId}{w w':World}{a:Option Addr}{n m cap:Nat}{xs:List Value}(h:w.ownsRow B E s (.slice a n cap) m xs)(hb:Below B' w w')(hB:w.heap.size≤B'):w'.ownsRow B E s (.slice a n cap) m xs:=by
 refine⟨h.1,?_⟩
 rcases h.2 with hn | ⟨g,cap,cur,e,hbg,hgg,rest⟩
 ·exact .inl hn
 ·exact .inr ⟨g,cap,cur,e,hbg,by rw[hb.block g (by have:=(jL hgg);omega)];exact hgg,rest⟩
theorem Tryz.elemSpI:kFh Tryz.prog 83 88 (.agg #[.int .i32 0,.int .i32 0,.int .i64 0]) 3 16:=⟨Tryz.underlying83,by kernel_rfl,by kernel_rfl,by decide⟩
end Go.Proofs.YtbmphakfgoompaaGreat

namespace Go.Proofs.YtbmphakfgoompaaGreat
open Go.RowKit
def ApE (v u:Value):Prop:=∀g,v.ownBlock=some g→u.ownBlock≠some g
def upd {α:Type} (f:Nat→α) (k:Nat) (x:α) (j:Nat):α:=if j=k then x else f j
theorem kFe {α:Type}(f:Nat→α)(k:Nat)(x:α):upd f k x k=x:=if_pos rfl
theorem kBr {α:Type}(f:Nat→α){k j:Nat}(x:α)(h:j≠k):upd f k x j=f j:=if_neg h
structure kDm (B:Nat) (w:World) (bl:Nat) (A:Nat→Option Addr) (C:Nat→Nat) (R:Nat→List kAr):Prop where
 box:w.heap[bl]? =some (.cells #[.slice (A 0) (R 0).length (C 0),.slice (A 1) (R 1).length (C 1),.slice (A 2) (R 2).length (C 2),.slice (A 3) (R 3).length (C 3)] 84 (0,0))
 own:∀j,j<4→w.ownsRow B 88 3 (.slice (A j) (R j).length (C j)) (R j).length (kFn (R j))
 ap:∀i j,i<4→j<4→i≠j→ApE (.slice (A i) (R i).length (C i)) (.slice (A j) (R j).length (C j))
 low:bl<B
theorem kDm.below {B bl:Nat}{w w':World}{A:Nat→Option Addr}{C:Nat→Nat}{R:Nat→List kAr}(h:kDm B w bl A C R)(hb:Below w.heap.size w w'):kDm B w' bl A C R:=
 ⟨(hb.block bl (jL h.box)).trans h.box,fun j hj=>kQ9 (h.own j hj) hb jR,h.ap,h.low⟩
theorem kDm.cell {B bl:Nat}{w:World}{A:Nat→Option Addr}{C:Nat→Nat}{R:Nat→List kAr}(h:kDm B w bl A C R){k:Nat}(hk:k<4):w.cell? ⟨bl,k,none⟩=some (.slice (A k) (R k).length (C k)):=by
 have:=jK w bl k _ _ (0,0) h.box
 have hc:k=0∨k=1∨k=2∨k=3:=by omega
 rcases hc with rfl | rfl | rfl | rfl<;>exact this
theorem kDm.push {B bl:Nat}{w w9:World}{A:Nat→Option Addr}{C:Nat→Nat}{R:Nat→List kAr}(h:kDm B w bl A C R){k:Nat}(hk:k<4)(s:kAr){a9:Option Addr}{c9:Nat}
  (ho:w9.ownsRow B 88 3 (.slice a9 ((R k).length+1) c9) ((R k).length+1) (kFn (R k)++[.int .i32 s.f,.int .i32 s.t,.int .i64 s.v]))(hg:w.grownBy w9 (Value.slice (A k) (R k).length (C k)).ownBlock)(hn:kBe w (.slice (A k) (R k).length (C k)) (.slice a9 ((R k).length+1) c9)):
  kDm B (w9.setCell ⟨bl,k,none⟩ (.slice a9 ((R k).length+1) c9)) bl (upd A k a9) (upd C k c9) (upd R k (R k++[s])):=by
 have hlt:=fun j hj=>World.ownsRow.lt (h.own j hj)
 have hbl:w9.heap[bl]? =w.heap[bl]? :=hg.block bl (jL h.box) (fun e=>by have:=(hlt k hk bl e.symm).1;have:=h.low;omega)
 have hne:∀(v:Value),(∀g,v.ownBlock=some g→B≤g)→v.ownBlock=none∨v.ownBlock≠some bl:=fun v hv=>by
  cases e:v.ownBlock with
  | none=>exact .inl rfl
  | some g=>exact .inr (fun h2=>by have:=hv g e;have:=h.low;cases h2;omega)
 have hlen:(R k++[s]).length=(R k).length+1:=by simp
 have e1:∀j,j≠k→(Value.slice (upd A k a9 j) (upd R k (R k++[s]) j).length (upd C k c9 j))= .slice (A j) (R j).length (C j):=fun j hj=>by rw[kBr _ _ hj,kBr _ _ hj,kBr _ _ hj]
 have e2:(Value.slice (upd A k a9 k) (upd R k (R k++[s]) k).length (upd C k c9 k))= .slice a9 ((R k).length+1) c9:=by rw[kFe,kFe,kFe,hlen]
 have h9:∀g,(Value.slice a9 ((R k).length+1) c9).ownBlock=some g→B≤g∧g<w9.heap.size:=fun g e=>World.ownsRow.lt ho g e
 refine⟨?_,?_,?_,h.low⟩
 ·rw[jP w9 bl k _ _ _ (hbl.trans h.box)]
  have hc:k=0∨k=1∨k=2∨k=3:=by omega
  rcases hc with rfl | rfl | rfl | rfl
  ·rw[e2,e1 1 (by omega),e1 2 (by omega),e1 3 (by omega)];rfl
  ·rw[e2,e1 0 (by omega),e1 2 (by omega),e1 3 (by omega)];rfl
  ·rw[e2,e1 0 (by omega),e1 1 (by omega),e1 3 (by omega)];rfl
  ·rw[e2,e1 0 (by omega),e1 1 (by omega),e1 2 (by omega)];rfl
 ·intro j hj
  by_cases e:j=k
  ·subst e;rw[e2,kFe,hlen,kHx];exact World.ownsRow.kept ho (kAd w9 bl j _) (hne _ (fun g e=>(h9 g e).1))
  ·rw[e1 j e,kBr _ _ e];refine World.ownsRow.kept (World.ownsRow.kept (h.own j hj) hg ?_) (kAd w9 bl k _) (hne _ (fun g e=>(hlt j hj g e).1))
   cases e3:(Value.slice (A j) (R j).length (C j)).ownBlock with
   | none=>exact .inl rfl
   | some g=>exact .inr (fun e4=>h.ap j k hj hk e g e3 e4.symm)
 ·intro i j hi hj hij
  by_cases ei:i=k
  ·subst ei;rw[e2,e1 j (fun e=>hij e.symm)];intro g eg
   rcases hn with hn | ⟨g2,hn,hg2⟩
   ·rw[hn]at eg;exact h.ap i j hi hj hij g eg
   ·rw[hn]at eg;cases eg;intro e5;have:=(hlt j hj g e5).2;omega
  ·by_cases ej:j=k
   ·subst ej;rw[e2,e1 i ei];intro g eg e5
    rcases hn with hn | ⟨g2,hn,hg2⟩
    ·rw[hn]at e5;exact h.ap i j hi hj hij g eg e5
    ·rw[hn]at e5;cases e5;have:=(hlt i hi g eg).2;omega
   ·rw[e1 i ei,e1 j ej];exact h.ap i j hi hj hij
def nxI (E:List Nat) (i:Nat):Nat:=if i<E.length then E.getD i 0 else 1114112
def RS (D:kAs) (E:List Nat) (i k j:Nat):List kAr:=if j<k then kEf (fvs D j) E (i+1)else kEf (fvs D j) E i
theorem kTi (D:kAs)(E:List Nat)(i:Nat):RS D E i 0=fun j=>kEf (fvs D j) E i:=by funext j;exact if_neg (by omega)
theorem RS_at (D:kAs)(E:List Nat)(i k:Nat):RS D E i k k=kEf (fvs D k) E i:=if_neg (by omega)
theorem kTh {D:kAs}{E:List Nat}{i k:Nat}{s:kAr}(h:kIr (fvs D k) E i=[s]):upd (RS D E i k) k (RS D E i k k++[s])=RS D E i (k+1):=by
 funext j
 unfold upd RS
 by_cases e:j=k
 ·subst e;rw[if_pos rfl,if_neg (Nat.lt_irrefl _),if_pos (Nat.lt_succ_self _),kHj,h]
 ·rw[if_neg e]
  by_cases e2:j<k
  ·rw[if_pos e2,if_pos (by omega)]
  ·rw[if_neg e2,if_neg (by omega)]
theorem RS_end (D:kAs)(E:List Nat)(i:Nat){A:Nat→Option Addr}{C:Nat→Nat}{B bl:Nat}{w:World}(h:kDm B w bl A C (RS D E i 4)):kDm B w bl A C (fun j=>kEf (fvs D j) E (i+1)):=by
 have e:∀j,j<4→RS D E i 4 j=kEf (fvs D j) E (i+1):=fun j hj=>if_pos hj
 refine⟨?_,fun j hj=> ?_,fun p q hp hq hpq=> ?_,h.low⟩
 ·have:=h.box;rw[e 0 (by omega),e 1 (by omega),e 2 (by omega),e 3 (by omega)]at this;exact this
 ·have:=h.own j hj;rw[e j hj]at this;exact this
 ·have:=h.ap p q hp hq hpq;rw[e p hp,e q hq]at this;exact this
def FkB (D:kAs) (n:Nat) (v0:Int) (k:Nat) (v:Int):Prop:=(0≤v0∧v=v0)∨(v0<0∧((v= -1∧∀j,j<k→fvs D j n≠nv)∨(v=(n:Nat)∧∃j,j<k∧fvs D j n=nv)))
theorem FkB.next {D:kAs}{n k:Nat}{v0 v:Int}(h:FkB D n v0 k v):FkB D n v0 (k+1) (if fvs D k n=nv∧v<0 then(n:Nat)else v):=by
 rcases h with⟨h1,rfl⟩ | ⟨h1,⟨rfl,h2⟩ | ⟨rfl,j,h2,h3⟩⟩
 ·exact .inl ⟨h1,by rw[if_neg (by omega)]⟩
 ·refine .inr ⟨h1,?_⟩
  by_cases e:fvs D k n=nv
  ·exact .inr ⟨by rw[if_pos ⟨e,by omega⟩],k,by omega,e⟩
  ·refine .inl ⟨by rw[if_neg (fun h=>e h.1)],fun j hj=> ?_⟩
   by_cases ej:j=k
   ·subst ej;exact e
   ·exact h2 j (by omega)
 ·exact .inr ⟨h1,.inr ⟨by rw[if_neg (by omega)],j,by omega,h3⟩⟩
theorem FkB.done {D:kAs}{n m:Nat}{v0 v:Int}(h:FkB D n v0 4 v)(hb:kGc (kHs D) n v0)(hn:n≤1114111)(hc:∀r,n≤r→r<m→kHs D r=kHs D n):kGc (kHs D) m v:=by
 rcases h with⟨h1,rfl⟩ | ⟨h1,h2⟩
 ·exact hb.stay h1
 ·have hb1:v0= -1∧∀r,r<n→kHs D r=false:=by
   rcases hb with h3 | ⟨r,h3, -⟩
   ·exact h3
   ·omega
  rcases h2 with⟨rfl,h3⟩ | ⟨rfl,j,h3,h4⟩
  ·have hz:kHs D n=false:=by
    unfold kHs;rw[beq_false_of_ne (h3 0 (by omega)),beq_false_of_ne (h3 1 (by omega)),beq_false_of_ne (h3 2 (by omega)),beq_false_of_ne (h3 3 (by omega))]
    rfl
   refine .inl ⟨rfl,fun r hr=> ?_⟩
   by_cases e:r<n
   ·exact hb1.2 r e
   ·rw[hc r (by omega) hr,hz]
  ·refine .inr ⟨n,rfl,hn,?_,hb1.2⟩
   have hj:j=0∨j=1∨j=2∨j=3:=by omega
   unfold kHs
   rcases hj with rfl | rfl | rfl | rfl<;>simp[h4]
theorem kKq {F G:Nat→Int}:∀n,(∀r,r<n→F r=G r)→kAk F n=kAk G n
 | 0,_=>rfl
 | n+1,h=>by rw[kAk,kAk,kKq n (fun r hr=>h r (by omega)),h n (by omega)]
end Go.Proofs.YtbmphakfgoompaaGreat
