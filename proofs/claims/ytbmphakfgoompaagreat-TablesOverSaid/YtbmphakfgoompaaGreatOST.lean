/- several texts in one: TI TB2 TT0 -/
import Derived.Test.YtbmphakfgoompaaGreatOTD
import Derived.Test.YtbmphakfgoompaaGreatOS8
import Derived.Laws.BytesArg
import Derived.Deep.RegionLaw
import Derived.Lib.QuietBelow
import Derived.Great.BuildSlice
import Derived.Test.YtbmphakfgoompaaGreatOR
set_option linter.unusedVariables false
set_option linter.unusedSimpArgs false
set_option maxRecDepth 100000
set_option maxHeartbeats 16000000
namespace Go.Proofs.YtbmphakfgoompaaGreat
open Go.RowKit
end Go.Proofs.YtbmphakfgoompaaGreat

namespace Go.Proofs.YtbmphakfgoompaaGreat
def kRx (f:Nat→Int):List (kA3 Int)→Nat→Nat→Prop
 | [],a,b=>a=b
 | s :: l,a,b=>s.f=a∧s.f≤s.t∧(∀r,s.f≤r→r≤s.t→f r=s.v)∧kRx f l (s.t+1) b
theorem kJ0 {f:Nat→Int}:∀ {l:List (kA3 Int)} {a b:Nat} {s:kA3 Int},kRx f l a b→s.f=b→s.f≤s.t→(∀r,s.f≤r→r≤s.t→f r=s.v)→kRx f (l++[s]) a (s.t+1)
 | [],a,b,s,h,h1,h2,h3=>⟨by rw[h1];exact(show a=b from h).symm,h2,h3,rfl⟩
 | x :: l,a,b,s,⟨k1,k2,k3,k4⟩,h1,h2,h3=>⟨k1,k2,k3,kJ0 k4 h1 h2 h3⟩
theorem kRo {f:Nat→Int}:∀ {l:List (kA3 Int)} {a b:Nat},kRx f l a b→a≤b
 | [],a,b,h=>Nat.le_of_eq h
 | x :: l,a,b,⟨k1,k2,k3,k4⟩=>by have:=kRo k4;omega
theorem kLr {f:Nat→Int}:∀ {l:List (kA3 Int)} {a b:Nat},kRx f l a b→∀r,a≤r→r<b→∃s∈l,s.f≤r∧r≤s.t
 | [],a,b,h,r,h1,h2=>by have:a=b:=h;omega
 | x :: l,a,b,⟨k1,k2,k3,k4⟩,r,h1,h2=>by
  by_cases h:r≤x.t
  ·exact⟨x,by simp,by omega,h⟩
  ·obtain⟨s,hs,h3⟩:=kLr k4 r (by omega) h2;exact⟨s,by simp[hs],h3⟩
theorem kS4 (f:Nat→Int)(n:Nat)(hn:n≠0):kRx f (spT neV f n).1 0 (spT neV f n).2∧∀r,(spT neV f n).2≤r→r<n→f r=f (spT neV f n).2:=by
 induction n with
 | zero=>exact absurd rfl hn
 | succ n ih=>
  by_cases h0:n=0
  ·subst h0;rw[kIf];exact⟨rfl,fun r _ h=>by rw[show r=0 by omega]⟩
  ·obtain⟨h1,h2⟩:=ih h0;have hlt:=kOn neV f n h0
   by_cases h:neV (f n) (f (spT neV f n).2)=true
   ·rw[kIe h0 h];refine⟨?_,fun r h3 h4=>by rw[show r=n by omega]⟩;have:=kJ0 (s:=⟨(spT neV f n).2,n - 1,f (spT neV f n).2⟩) h1 rfl (by show(spT neV f n).2≤n - 1;omega) (fun r h3 h4=>h2 r h3 (by have:r≤n - 1:=h4;omega));rwa[show n - 1+1=n by omega]at this
   ·rw[kMu h0 h];refine⟨h1,fun r h3 h4=> ?_⟩
    by_cases e:r=n
    ·rw[e];have:¬(f n != f (spT neV f n).2)=true:=h
     simpa using this
    ·exact h2 r h3 (by omega)
theorem kOp (f:Nat→Int)(n:Nat)(hn:n≠0):kRx f (spL neV f n) 0 n:=by
 obtain⟨h1,h2⟩:=kS4 f n hn;have hlt:=kOn neV f n hn;have:=kJ0 (s:=⟨(spT neV f n).2,n - 1,f (spT neV f n).2⟩) h1 rfl (by show(spT neV f n).2≤n - 1;omega) (fun r h3 h4=>h2 r h3 (by have:r≤n - 1:=h4;omega));rwa[show n - 1+1=n by omega]at this
def kKv (l:List kAr):Prop:=l.Pairwise (fun s t=>∀x:Int,¬(kJb x s=true∧kJb x t=true))
theorem kJl {l:List kAr}{x:Int}(h:kPu l x≠0):∃i,∃h:i<l.length,kJb x l[i]=true∧kPu l x=(i:Int)+1:=by
 unfold kPu at h ⊢
 cases e:l.findIdx? (kJb x)with
 | none=>rw[e]at h;exact absurd rfl h
 | some i=>
  obtain⟨hi,h1, -⟩:=List.findIdx?_eq_some_iff_getElem.1 e;exact⟨i,hi,h1,rfl⟩
theorem kI1 (l:List kAr):(∀j,j<l.length→¬kNp l j)↔kKv l:=by
 unfold kKv;rw[List.pairwise_iff_getElem]
 constructor
 ·intro h i j hi hj hij x ⟨h1,h2⟩;refine h j hj ⟨x,by simpa [hj]using h2,fun e=> ?_⟩
  have hit:i<(l.take j).length:=by rw[List.length_take];omega
  unfold kPu at e
  cases e2:(l.take j).findIdx? (kJb x)with
  | none=>
   have:=List.findIdx?_eq_none_iff.1 e2 (l.take j)[i] (List.getElem_mem hit);rw[List.getElem_take,h1]at this;cases this
  | some k=>rw[e2]at e;simp only at e;omega
 ·rintro h j hj ⟨x,h1,h2⟩;obtain⟨i,hi,h3, -⟩:=kJl h2;rw[List.length_take]at hi;rw[List.getElem_take]at h3;exact h i j (by omega) hj (by omega) x ⟨h3,by simpa [hj]using h1⟩
theorem kQf {rest:Int}{l:List kAr}(ha:kKv l){r:Nat}{s:kAr}(hs:s∈l)(h:kJb (r:Nat) s=true):fS rest l r=s.v:=by
 have h0:kPu l (r:Nat)≠0:=fun e=>by
  unfold kPu at e
  cases e2:l.findIdx? (kJb (r:Nat))with
  | none=>have:=List.findIdx?_eq_none_iff.1 e2 s hs;rw[h]at this;cases this
  | some k=>rw[e2]at e;simp only at e;omega
 obtain⟨i,hi,h1,h2⟩:=kJl h0;unfold fS;rw[if_neg h0,h2,show((i:Int)+1 - 1).toNat=i by omega];obtain⟨j,hj,rfl⟩:=List.mem_iff_getElem.1 hs
 have:i=j:=by
  rcases Nat.lt_trichotomy i j with h3 | h3 | h3
  ·exact absurd ⟨h1,h⟩ (List.pairwise_iff_getElem.1 ha i j hi hj h3 (r:Nat))
  ·exact h3
  ·exact absurd ⟨h,h1⟩ (List.pairwise_iff_getElem.1 ha j i hj hi h3 (r:Nat))
 subst this;simp[hi]
theorem kTb {rest:Int}{l:List kAr}{r:Nat}(h:∀s∈l,¬kJb (r:Nat) s=true):fS rest l r=rest:=by
 have h0:kPu l (r:Nat)=0:=by
  unfold kPu;rw[List.findIdx?_eq_none_iff.2 (fun s hs=>by have:=h s hs;simpa using this)]
 unfold fS;rw[if_pos h0]
end Go.Proofs.YtbmphakfgoompaaGreat

namespace Go.Proofs.YtbmphakfgoompaaGreat
open Go.RowKit
attribute [local go_sem] Oper.semAt_some kN1
theorem kH5 {w W:World}(h:Below w.heap.size w W):kJ2 w W:=fun k hk=>h.block k hk
theorem kC3 (w:World)(x:Value)(t:TypeId):Below w.heap.size w (w.alloc (.cells #[x] t))∧(w.alloc (.cells #[x] t)).heap[w.heap.size]? =some (.cells #[x] t (0,0))∧(w.alloc (.cells #[x] t)).heap.size=w.heap.size+1:=
 ⟨(Below.refl _ w).alloc jR _,jN w _,World.size_alloc w _⟩
theorem kIv {w:World}{b:Nat}{x:Value}{t:TypeId}(h:w.heap[b]? =some (.cells #[x] t (0,0))):w.cell? ⟨b,0,none⟩=some x:=jK w b 0 _ _ (0,0) h
theorem kJx (w:World)(x y:Value)(t:TypeId):Below w.heap.size w ((w.alloc (.cells #[x] t)).setRow w.heap.size #[y])∧((w.alloc (.cells #[x] t)).setRow w.heap.size #[y]).heap[w.heap.size]? =some (.cells #[y] t (0,0))∧((w.alloc (.cells #[x] t)).setRow w.heap.size #[y]).heap.size=w.heap.size+1:=by
 obtain⟨f1,f2,f3⟩:=kC3 w x t;refine⟨⟨f1.os,f1.tape,f1.output,by rw[setRow_size];exact f1.size,fun k hk=>by rw[setRow_other _ w.heap.size k _ (by omega)];exact f1.block k hk⟩,setRow_heap _ w.heap.size _ #[y] _ _ f2,by rw[setRow_size];exact f3⟩
end Go.Proofs.YtbmphakfgoompaaGreat
