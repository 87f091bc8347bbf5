/- several texts in one: UE1 UE3 -/
import Derived.Test.YtbmphakfgoompaaGreatOC
import Derived.Test.YtbmphakfgoompaaGreatOQ
import Derived.Test.YtbmphakfgoompaaGreatOH
import Derived.Deep.CutRange
set_option linter.unusedVariables false
set_option linter.unusedSimpArgs false
set_option maxRecDepth 100000
set_option maxHeartbeats 16000000
namespace Go.Proofs.YtbmphakfgoompaaGreat
open Go.RowKit
def kI6 (l:List kAr):List Int:=l.flatMap (fun s=>[s.f,wrap32 (s.t+1)])
def kI5 (l:List kAr):List Int:=l.flatMap (fun s=>[s.f,wrap32 (s.f+1)])
def kG0 (l:List TwD):List Int:=l.flatMap (fun s=>[s.a,wrap32 (s.a+1)])
def kCq (D:kAs):List Int:=[0]++kI6 D.l1++kI5 D.l2++kG0 D.l3++kG0 D.l4
structure kD1 (D:kAs) (E:List Nat):Prop where
 sorted:E.Pairwise (· ≤ ·)
 mem:∀x:Nat,x∈E↔((x:Int)∈kCq D∧x≤1114111)
structure kD2 (D:kAs):Prop where
 r:0≤D.rest∧D.rest≤255
 w1:∀s∈D.l1,wf32 s.f∧wf32 s.t∧0≤s.v∧s.v≤255
 w2:∀s∈D.l2,wf32 s.f∧wf32 s.t∧0≤s.v∧s.v≤255
 w3:∀s∈D.l3,wf32 s.a∧wf32 s.s
 w4:∀s∈D.l4,wf32 s.a∧wf32 s.s
theorem kRu {x:Int}{r:Nat}(hx:wf32 x)(hr:r≤1114111)(h:x+1=(r:Nat)):wrap32 (x+1)=(r:Nat):=by
 unfold wrap32;omega
theorem kF0 {α β:Type}{p q:α→Bool}{v:α→β}:∀ {l:List α} (z:β),(∀s∈l,p s=q s)→kEh p v z l=kEh q v z l
 | [],_,_=>rfl
 | s :: l,z,h=>by
  unfold kEh;rw[List.foldl_cons,List.foldl_cons,h s (by simp)];exact kF0 (l:=l) _ (fun s hs=>h s (by simp[hs]))
def kL2 (E:List Nat) (a r:Nat):Prop:=∀x∈E,a<x→¬x≤r
theorem kD1.noL {D:kAs}{E:List Nat}(h:kD1 D E){a r:Nat}(hr:r≤1114111)(hn:kL2 E a r){x:Int}(hx:x∈kCq D):¬((a:Int)<x∧x≤(r:Nat)):=by
 rintro⟨h1,h2⟩
 obtain⟨y,rfl⟩:∃y:Nat,x=(y:Nat):=⟨x.toNat,by omega⟩
 exact hn y ((h.mem y).2 ⟨hx,by omega⟩) (by omega) (by omega)
theorem kMh {D:kAs}{s:kAr}(hs:s∈D.l1):s.f∈kCq D∧wrap32 (s.t+1)∈kCq D:=by
 simp only[kCq,kI6,List.mem_append,List.mem_flatMap];exact⟨.inl (.inl (.inl (.inr ⟨s,hs,by simp⟩))),.inl (.inl (.inl (.inr ⟨s,hs,by simp⟩)))⟩
theorem kMi {D:kAs}{s:kAr}(hs:s∈D.l2):s.f∈kCq D∧wrap32 (s.f+1)∈kCq D:=by
 simp only[kCq,kI5,List.mem_append,List.mem_flatMap];exact⟨.inl (.inl (.inr ⟨s,hs,by simp⟩)),.inl (.inl (.inr ⟨s,hs,by simp⟩))⟩
theorem kMj {D:kAs}{s:TwD}(hs:s∈D.l3):s.a∈kCq D∧wrap32 (s.a+1)∈kCq D:=by
 simp only[kCq,kG0,List.mem_append,List.mem_flatMap];exact⟨.inl (.inr ⟨s,hs,by simp⟩),.inl (.inr ⟨s,hs,by simp⟩)⟩
theorem kMk {D:kAs}{s:TwD}(hs:s∈D.l4):s.a∈kCq D∧wrap32 (s.a+1)∈kCq D:=by
 simp only[kCq,kG0,List.mem_append,List.mem_flatMap];exact⟨.inr ⟨s,hs,by simp⟩,.inr ⟨s,hs,by simp⟩⟩
theorem kD1.key {D:kAs}{E:List Nat}(h:kD1 D E){a r:Nat}(hr:r≤1114111)(ha:a≤r)(hn:kL2 E a r){k:Int}(hw:wf32 k)(h1:k∈kCq D)(h2:wrap32 (k+1)∈kCq D)(hne:a≠r):k≠(r:Nat)∧k≠(a:Nat):=by
 constructor
 ·rintro rfl;exact h.noL hr hn h1 ⟨by omega,Int.le_refl _⟩
 ·rintro rfl;have:=h.noL hr hn h2;rw[kRu (r:=a+1) hw (by omega) (by omega)]at this;exact this ⟨by omega,by omega⟩
structure kPz (D:kAs) (a r:Nat):Prop where
 cls:D.cls r=D.cls a
 oth:D.oth r=D.oth a
 side:D.side r=D.side a
 twin:D.twin r - (r:Nat)=D.twin a - (a:Nat)∧(a≠r→D.twin r=(r:Nat))
 mir:D.mir r=D.mir a
 has:D.has r=D.has a
theorem kD1.same {D:kAs}{E:List Nat}(h:kD1 D E)(hw:kD2 D){a r:Nat}(hr:r≤1114111)(ha:a≤r)(hn:kL2 E a r):kPz D a r:=by
 by_cases hne:a=r
 ·subst hne;exact⟨rfl,rfl,rfl,⟨rfl,fun h=>absurd rfl h⟩,rfl,rfl⟩
 ·have hc:D.cls r=D.cls a:=by
   unfold kAs.cls;rw[kGz,kGz];refine kF0 _ (fun s hs=> ?_);have e1:=h.noL hr hn (kMh hs).1;have e2:=h.noL hr hn (kMh hs).2;refine decide_eq_decide.2 ⟨fun⟨h1,h2⟩=>⟨by omega,by omega⟩,fun⟨h1,h2⟩=>⟨by omega,?_⟩⟩;refine Decidable.byContradiction (fun h3=>e2 ?_)
   obtain⟨y,hy⟩:∃y:Nat,s.t+1=(y:Nat):=⟨(s.t+1).toNat,by omega⟩
   rw[kRu (r:=y) (hw.w1 s hs).2.1 (by omega) hy];omega
  have hb:brG D.l2 (r:Nat)=brG D.l2 (a:Nat):=by
   unfold brG;refine kF0 _ (fun s hs=> ?_);obtain⟨k1,k2⟩:=h.key hr ha hn (hw.w2 s hs).1 (kMi hs).1 (kMi hs).2 hne;rw[beq_false_of_ne k1,beq_false_of_ne k2]
  have h3:∀s∈D.l3,(s.a==(r:Int))=false∧(s.a==(a:Int))=false:=fun s hs=>by
   obtain⟨k1,k2⟩:=h.key hr ha hn (hw.w3 s hs).1 (kMj hs).1 (kMj hs).2 hne;exact⟨beq_false_of_ne k1,beq_false_of_ne k2⟩
  have h4:twG D.l4 (r:Nat)=twG D.l4 (a:Nat):=by
   unfold twG;refine kF0 _ (fun s hs=> ?_);obtain⟨k1,k2⟩:=h.key hr ha hn (hw.w4 s hs).1 (kMk hs).1 (kMk hs).2 hne;rw[beq_false_of_ne k1,beq_false_of_ne k2]
  have t1:twG D.l3 (r:Nat)=(0,false):=kEq (fun s hs=>(h3 s hs).1);have t2:twG D.l3 (a:Nat)=(0,false):=kEq (fun s hs=>(h3 s hs).2)
  have t3:D.twin r=(r:Nat):=by unfold kAs.twin;rw[t1];rfl
  have t4:D.twin a=(a:Nat):=by unfold kAs.twin;rw[t2];rfl
  exact⟨hc,by unfold kAs.oth;rw[hb],by unfold kAs.side;rw[hb],⟨by rw[t3,t4];omega,fun _=>t3⟩,by unfold kAs.mir;rw[h4],by unfold kAs.has;rw[h4]⟩
structure kPy (D:kAs) (r:Nat):Prop where
 c:0≤D.cls r∧D.cls r≤255
 o:wf32 (D.oth r)
 s:0≤D.side r∧D.side r≤255
 t:wf32 (D.twin r)
 m:wf32 (D.mir r)
theorem kD2.val {D:kAs}(h:kD2 D)(r:Nat)(hr:r≤1114111):kPy D r:=by
 have hb:wf32 (brG D.l2 (r:Nat)).1∧0≤(brG D.l2 (r:Nat)).2∧(brG D.l2 (r:Nat)).2≤255:=by
  unfold brG
  rcases kCt (fun s:kAr=>s.f==((r:Nat):Int)) (fun s=>(s.t,s.v)) D.l2 (0,0)with e | ⟨s,hs, -,e⟩
  ·rw[e];unfold wf32;simp
  ·rw[e];exact(h.w2 s hs).2
 have ht:∀l:List TwD,(∀s∈l,wf32 s.a∧wf32 s.s)→wf32 (twG l (r:Nat)).1:=by
  intro l hl;unfold twG
  rcases kCt (fun s:TwD=>s.a==((r:Nat):Int)) (fun s=>(s.s,true)) l (0,false)with e | ⟨s,hs, -,e⟩
  ·rw[e];unfold wf32;simp
  ·rw[e];exact(hl s hs).2
 refine⟨?_,hb.1,hb.2,?_,ht _ h.w4⟩
 ·unfold kAs.cls;rw[kGz]
  rcases kCt (fun s:kAr=>decide (s.f≤((r:Nat):Int)∧((r:Nat):Int)≤s.t)) (fun s=>s.v) D.l1 D.rest with e | ⟨s,hs, -,e⟩
  ·rw[e];exact h.r
  ·rw[e];exact(h.w1 s hs).2.2
 ·unfold kAs.twin
  split
  ·exact ht _ h.w3
  ·unfold wf32;omega
def nv:Int:= -1099511627776
def fvC (c:Int):Int:=if c<1∨23<c then nv else c
def fvB (o s:Int):Int:=if 2<s∨(s≠0∧kA9 o=false)then nv else if s=1 then o+1 else if s=2 then -o - 1 else 0
def fvT (t r:Int):Int:=if t=r then 0 else if kA9 t=false then nv else t+1
def fvM (x:Int) (is:Bool):Int:=if is=true then(if kA9 x=false then nv else x+1)else 0
def fvs (D:kAs) (k r:Nat):Int:=match k with
 | 0=>fvC (D.cls r)
 | 1=>fvB (D.oth r) (D.side r)
 | 2=>fvT (D.twin r) (r:Nat)
 | _=>fvM (D.mir r) (D.has r)
theorem kPz.fvs {D:kAs}{a r:Nat}(h:kPz D a r)(k:Nat):fvs D k r=fvs D k a:=by
 unfold Go.Proofs.YtbmphakfgoompaaGreat.fvs
 match k with
 | 0=>simp only[h.cls]
 | 1=>simp only[h.oth,h.side]
 | 2=>
  simp only
  by_cases e:a=r
  ·rw[e]
  ·have h1:=h.twin.2 e;have h2:=h.twin.1;unfold fvT;rw[if_pos h1,if_pos (by omega)]
 | (k+3)=>simp only[h.mir,h.has]
def kHs (D:kAs) (r:Nat):Bool:=(fvs D 0 r==nv||fvs D 1 r==nv)||(fvs D 2 r==nv||fvs D 3 r==nv)
theorem kP1 (D:kAs)(hs:∀r,0≤D.side r)(r:Nat):kHs D r=kH9 D.cls D.oth D.side D.twin D.mir D.has r:=by
 have e0:(fvs D 0 r==nv)=pkC D.cls r:=by
  simp only[fvs,fvC,pkC,kDo]
  by_cases h:D.cls r<1∨23<D.cls r
  ·rw[if_pos h,decide_eq_false (by omega)];rfl
  ·rw[if_neg h,decide_eq_true (by omega)];exact beq_false_of_ne (by unfold nv;omega)
 have e1:(fvs D 1 r==nv)=pkB D.oth D.side r:=by
  have h0:=hs r;simp only[fvs,fvB,pkB,kIo];generalize D.side r=s at*;generalize D.oth r=o at*;unfold kA9
  by_cases h:0≤o∧o≤1114111
  ·rw[decide_eq_true h]
   by_cases h2:2<s
   ·rw[if_pos (.inl h2),beq_false_of_ne (show s≠0 by omega),decide_eq_false (show ¬(s=1∨s=2) by omega)];rfl
   ·rw[if_neg (by simp;omega)]
    have hc:s=0∨s=1∨s=2:=by omega
    rcases hc with rfl | rfl | rfl
    ·rfl
    ·simp[nv];omega
    ·simp[nv];omega
  ·rw[decide_eq_false h]
   by_cases h2:s=0
   ·subst h2;rfl
   ·rw[if_pos (.inr ⟨h2,rfl⟩),beq_false_of_ne h2];simp
 have e2:(fvs D 2 r==nv)=pkT D.twin r:=by
  simp only[fvs,fvT,pkT];generalize D.twin r=s at*;unfold kA9
  by_cases h:s=(r:Nat)
  ·rw[if_pos h,h];simp[nv]
  ·rw[if_neg h,beq_false_of_ne h]
   by_cases h2:0≤s∧s≤1114111
   ·rw[decide_eq_true h2];simp[nv];omega
   ·rw[decide_eq_false h2];simp
 have e3:(fvs D 3 r==nv)=pkM D.mir D.has r:=by
  simp only[fvs,fvM,pkM];generalize D.mir r=s at*;generalize D.has r=b at*;unfold kA9
  cases b
  ·simp[nv]
  ·by_cases h2:0≤s∧s≤1114111
   ·rw[decide_eq_true h2];simp[nv];omega
   ·rw[decide_eq_false h2];simp
 unfold kHs kH9;rw[e0,e1,e2,e3]
 cases pkC D.cls r<;>cases pkB D.oth D.side r<;>cases pkT D.twin r<;>rfl
theorem kSc {D:kAs}{r:Nat}(hs:0≤D.side r)(h:kHs D r=false):fvs D 0 r=D.cls r∧fvs D 1 r=bkF D.oth D.side r∧fvs D 2 r=twP D.twin r∧fvs D 3 r=miF D.mir D.has r:=by
 simp only[kHs,Bool.or_eq_false_iff,beq_eq_false_iff_ne]at h;obtain⟨⟨h0,h1⟩,h2,h3⟩:=h
 refine⟨?_,?_,?_,?_⟩
 ·simp only[fvs,fvC]at h0 ⊢
  split
  ·rename_i e;rw[if_pos e]at h0;exact absurd rfl h0
  ·rfl
 ·simp only[fvs,fvB,bkF,kGl]at h1 ⊢
  split
  ·rename_i e;rw[if_pos e]at h1;exact absurd rfl h1
  ·rename_i e
   have hc:D.side r=0∨D.side r=1∨D.side r=2:=by omega
   rcases hc with e2 | e2 | e2
   ·rw[e2];rfl
   ·rw[e2];rfl
   ·rw[e2];simp;omega
 ·simp only[fvs,fvT,twP]at h2 ⊢
  split
  ·rfl
  ·rename_i e;rw[if_neg e]at h2
   split
   ·rename_i e2;rw[if_pos e2]at h2;exact absurd rfl h2
   ·rfl
 ·simp only[fvs,fvM,miF]at h3 ⊢
  split
  ·rename_i e;rw[if_pos e]at h3
   split
   ·rename_i e2;rw[if_pos e2]at h3;exact absurd rfl h3
   ·rfl
  ·rfl
def nxt (E:List Nat) (j:Nat):Nat:=if j+1<E.length then E.getD (j+1) 0 else 1114112
def kIr (g:Nat→Int) (E:List Nat) (j:Nat):List kAr:=if nxt E j≤E.getD j 0 then []else [⟨(E.getD j 0:Nat),(nxt E j:Int) - 1,g (E.getD j 0)⟩]
def kEf (g:Nat→Int) (E:List Nat) (i:Nat):List kAr:=(List.range i).flatMap (kIr g E)
theorem kHj (g:Nat→Int)(E:List Nat)(i:Nat):kEf g E (i+1)=kEf g E i++kIr g E i:=by
 unfold kEf;rw[List.range_succ,List.flatMap_append];simp
theorem kRh (g:Nat→Int)(E:List Nat)(i:Nat):(kIr g E i).length≤1:=by unfold kIr;split<;>simp
theorem kF2 (g:Nat→Int)(E:List Nat):∀i,(kEf g E i).length≤i
 | 0=>by simp[kEf]
 | i+1=>by rw[kHj,List.length_append];have:=kF2 g E i;have:=kRh g E i;omega
theorem kLn {g:Nat→Int}{E:List Nat}{i:Nat}{s:kAr}(h:s∈kEf g E i):∃j,j<i∧E.getD j 0<nxt E j∧s=⟨(E.getD j 0:Nat),(nxt E j:Int) - 1,g (E.getD j 0)⟩:=by
 unfold kEf at h;obtain⟨j,hj,hs⟩:=List.mem_flatMap.1 h;unfold kIr at hs
 split at hs
 ·cases hs
 ·exact⟨j,by simpa using hj,by omega,List.mem_singleton.1 hs⟩
structure kJ3 (E:List Nat):Prop where
 sorted:E.Pairwise (· ≤ ·)
 le:∀x∈E,x≤1114111
 zero:0∈E
theorem kD1.rise {D:kAs}{E:List Nat}(h:kD1 D E):kJ3 E:=⟨h.sorted,fun x hx=>((h.mem x).1 hx).2,(h.mem 0).2 ⟨by simp[kCq],by omega⟩⟩
theorem kH0 {E:List Nat}{j:Nat}(h:j<E.length):E.getD j 0=E[j]:=by simp[h]
theorem kJ3.mono {E:List Nat}(h:kJ3 E){i j:Nat}(hij:i≤j)(hj:j<E.length):E.getD i 0≤E.getD j 0:=by
 rw[kH0 hj,kH0 (by omega)]
 by_cases e:i=j
 ·subst e;exact Nat.le_refl _
 ·exact List.pairwise_iff_getElem.1 h.sorted i j (by omega) hj (by omega)
theorem kJ3.top {E:List Nat}(h:kJ3 E){j:Nat}(hj:j<E.length):E.getD j 0≤1114111:=by
 rw[kH0 hj];exact h.le _ (List.getElem_mem hj)
theorem kJ3.first {E:List Nat}(h:kJ3 E):0<E.length∧E.getD 0 0=0:=by
 obtain⟨j,hj,e⟩:=List.getElem_of_mem h.zero;refine⟨by omega,?_⟩;have:=h.mono (Nat.zero_le j) hj;rw[kH0 hj,e]at this;omega
theorem kJ3.nxt_mono {E:List Nat}(h:kJ3 E){i j:Nat}(hij:i<j)(hj:j<E.length):nxt E i≤E.getD j 0:=by
 unfold nxt;rw[if_pos (by omega)];exact h.mono (by omega) hj
theorem kJ3.nxt_le {E:List Nat}(h:kJ3 E){j:Nat}(hj:j<E.length):E.getD j 0≤nxt E j∧nxt E j≤1114112:=by
 unfold nxt
 split
 ·rename_i e
  have:=h.mono (Nat.le_succ j) e;have:=h.top e;exact⟨by assumption,by omega⟩
 ·have:=h.top hj;omega
theorem kJ3.noEdge {E:List Nat}(h:kJ3 E){j r:Nat}(hj:j<E.length)(hr:r<nxt E j):kL2 E (E.getD j 0) r:=by
 intro x hx h1 h2;obtain⟨k,hk,rfl⟩:=List.getElem_of_mem hx
 by_cases hkj:k≤j
 ·have:=h.mono hkj hj;rw[kH0 hk]at this;omega
 ·have:=h.nxt_mono (i:=j) (j:=k) (by omega) hk;rw[kH0 hk]at this;omega
theorem kJ3.own {E:List Nat}(h:kJ3 E){r:Nat}(hr:r≤1114111):∀n,n≤E.length→0<n→(n<E.length→r<E.getD n 0)→∃j,j<n∧E.getD j 0≤r∧r<nxt E j
 | 0,_,h0,_=>absurd h0 (by omega)
 | n+1,hn,_,hg=>by
  by_cases e:E.getD n 0≤r
  ·refine⟨n,by omega,e,?_⟩;unfold nxt
   split
   ·rename_i h1;exact hg h1
   ·omega
  ·have hn0:0<n:=by
    rcases Nat.eq_zero_or_pos n with rfl | h0
    ·rw[h.first.2]at e;omega
    ·exact h0
   obtain⟨j,h1,h2,h3⟩:=h.own hr n (by omega) hn0 (fun _=>by omega);exact⟨j,by omega,h2,h3⟩
theorem kJ3.apart {E:List Nat}(h:kJ3 E)(g:Nat→Int):∀i,i≤E.length→kKv (kEf g E i)
 | 0,_=>by simp[kEf,kKv]
 | i+1,hi=>by
  rw[kHj];unfold kKv
  refine List.pairwise_append.2 ⟨h.apart g i (by omega),?_,?_⟩
  ·unfold kIr;split<;>simp
  ·intro s hs t ht x hx;obtain⟨j,hj,hlt,rfl⟩:=kLn hs;have:=h.nxt_mono hj (show i<E.length by omega);unfold kIr at ht
   split at ht
   ·cases ht
   ·rename_i e
    have e2:=List.mem_singleton.1 ht;subst e2;have h1:=of_decide_eq_true hx.1;have h2:=of_decide_eq_true hx.2;simp only at h1 h2;omega
theorem kJ3.okS {E:List Nat}(h:kJ3 E)(g:Nat→Int):okS (kEf g E E.length):=by
 refine⟨fun j hj=> ?_,(kI1 _).2 (h.apart g _ jR)⟩
 have hm:(kEf g E E.length).getD j default∈kEf g E E.length:=by
  rw[List.getD_eq_getElem?_getD,List.getElem?_eq_getElem hj];exact List.getElem_mem hj
 obtain⟨k,hk,hlt,e⟩:=kLn hm;rw[e];have:=(h.nxt_le hk).2;unfold kNa;simp only;omega
theorem kJ3.gives {E:List Nat}(h:kJ3 E){g:Nat→Int}(hg:∀a r,r≤1114111→a≤r→kL2 E a r→g r=g a){r:Nat}(hr:r≤1114111):fS 0 (kEf g E E.length) r=g r:=by
 obtain⟨j,h1,h2,h3⟩:=h.own hr E.length jR h.first.1 (fun h=>absurd h (by omega))
 have hm:(⟨(E.getD j 0:Nat),(nxt E j:Int) - 1,g (E.getD j 0)⟩:kAr)∈kEf g E E.length:=by
  unfold kEf;refine List.mem_flatMap.2 ⟨j,by simpa using h1,?_⟩;unfold kIr;rw[if_neg (by omega)];simp
 rw[kQf (h.apart g _ jR) hm (decide_eq_true ⟨by simp only;omega,by simp only;omega⟩)];exact(hg _ r hr h2 (h.noEdge h1 h3)).symm
def kGc (p:Nat→Bool) (n:Nat) (v:Int):Prop:=(v= -1∧∀r,r<n→p r=false)∨∃r:Nat,v=(r:Nat)∧r≤1114111∧p r=true∧∀q,q<r→p q=false
theorem kGc.skip {p:Nat→Bool}{n m:Nat}{v:Int}(h:kGc p n v)(hm:m≤n):kGc p m v:=h.imp (fun⟨h1,h2⟩=>⟨h1,fun r hr=>h2 r (by omega)⟩) id
theorem kGc.stay {p:Nat→Bool}{n m:Nat}{v:Int}(h:kGc p n v)(hv:0≤v):kGc p m v:=by
 rcases h with⟨h1, -⟩ | h1
 ·omega
 ·exact .inr h1
end Go.Proofs.YtbmphakfgoompaaGreat

namespace Go.Proofs.YtbmphakfgoompaaGreat
open Go.RowKit
theorem kNt (r:Int)(w:World):Calls Tryz.prog 55 #[.int .i32 r] w fun e w'=>e= .returned (.bool (kA9 r))∧w'=w:=by
 by_cases h1:0≤r
 ·by_cases h2:r≤1114111
  ·have e:kA9 r=true:=decide_eq_true ⟨h1,h2⟩;rw[e]
   go_enter Tryz.func55,Tryz.ntmps55
   go_wp2
   go_ret
   exact⟨rfl,rfl⟩
  ·have e:kA9 r=false:=decide_eq_false (by omega);rw[e]
   go_enter Tryz.func55,Tryz.ntmps55
   go_wp2
   go_ret
   exact⟨rfl,rfl⟩
 ·have e:kA9 r=false:=decide_eq_false (by omega);rw[e]
  go_enter Tryz.func55,Tryz.ntmps55
  go_wp2
  go_ret
  exact⟨rfl,rfl⟩
structure FoR (w:World) (b4 b5:Nat) (x0 x1 x2 x3:Int) (wx:World):Prop where
 res:wx.heap[b4]? =some (.cells #[.int .i64 0,.int .i64 0,.int .i64 0,.int .i64 0] 85 (0,0))
 val:wx.heap[b5]? =some (.cells #[.int .i64 x0,.int .i64 x1,.int .i64 x2,.int .i64 x3] 85 (0,0))
 low:w.heap.size≤b4∧b4<b5
 bel:Below w.heap.size w wx
theorem FoR.next {w:World}{b4 b5:Nat}{x0 x1 x2 x3:Int}{wx wy:World}(h:FoR w b4 b5 x0 x1 x2 x3 wx)(hb:Below wx.heap.size wx wy):FoR w b4 b5 x0 x1 x2 x3 wy:=
 ⟨(hb.block b4 (jL h.res)).trans h.res,(hb.block b5 (jL h.val)).trans h.val,h.low,h.bel.trans (hb.mono h.bel.size)⟩
theorem FoR.put0 {w:World}{b4 b5:Nat}{x0 x1 x2 x3:Int}{wx:World}(h:FoR w b4 b5 x0 x1 x2 x3 wx)(v:Int):FoR w b4 b5 v x1 x2 x3 (wx.setCell ⟨b5,0,none⟩ (.int .i64 v)):=
 ⟨(jQ wx ⟨b5,0,none⟩ b4 _ (by have:=h.low.2;simp;omega)).trans h.res,jP wx b5 0 _ _ (.int .i64 v) h.val,h.low,h.bel.setCell (p:=⟨b5,0,none⟩) (by show _≤b5;have:=h.low;omega) _⟩
theorem FoR.put1 {w:World}{b4 b5:Nat}{x0 x1 x2 x3:Int}{wx:World}(h:FoR w b4 b5 x0 x1 x2 x3 wx)(v:Int):FoR w b4 b5 x0 v x2 x3 (wx.setCell ⟨b5,1,none⟩ (.int .i64 v)):=
 ⟨(jQ wx ⟨b5,1,none⟩ b4 _ (by have:=h.low.2;simp;omega)).trans h.res,jP wx b5 1 _ _ (.int .i64 v) h.val,h.low,h.bel.setCell (p:=⟨b5,1,none⟩) (by show _≤b5;have:=h.low;omega) _⟩
theorem FoR.put2 {w:World}{b4 b5:Nat}{x0 x1 x2 x3:Int}{wx:World}(h:FoR w b4 b5 x0 x1 x2 x3 wx)(v:Int):FoR w b4 b5 x0 x1 v x3 (wx.setCell ⟨b5,2,none⟩ (.int .i64 v)):=
 ⟨(jQ wx ⟨b5,2,none⟩ b4 _ (by have:=h.low.2;simp;omega)).trans h.res,jP wx b5 2 _ _ (.int .i64 v) h.val,h.low,h.bel.setCell (p:=⟨b5,2,none⟩) (by show _≤b5;have:=h.low;omega) _⟩
theorem FoR.put3 {w:World}{b4 b5:Nat}{x0 x1 x2 x3:Int}{wx:World}(h:FoR w b4 b5 x0 x1 x2 x3 wx)(v:Int):FoR w b4 b5 x0 x1 x2 v (wx.setCell ⟨b5,3,none⟩ (.int .i64 v)):=
 ⟨(jQ wx ⟨b5,3,none⟩ b4 _ (by have:=h.low.2;simp;omega)).trans h.res,jP wx b5 3 _ _ (.int .i64 v) h.val,h.low,h.bel.setCell (p:=⟨b5,3,none⟩) (by show _≤b5;have:=h.low;omega) _⟩
theorem FoR.cell {w:World}{b4 b5:Nat}{x0 x1 x2 x3:Int}{wx:World}(h:FoR w b4 b5 x0 x1 x2 x3 wx):
  wx.cell? ⟨b5,0,none⟩=some (.int .i64 x0)∧wx.cell? ⟨b5,1,none⟩=some (.int .i64 x1)∧wx.cell? ⟨b5,2,none⟩=some (.int .i64 x2)∧wx.cell? ⟨b5,3,none⟩=some (.int .i64 x3)∧(∀j,wx.frozen? ⟨b5,j,none⟩=false):=
 ⟨jK wx b5 0 _ _ (0,0) h.val,jK wx b5 1 _ _ (0,0) h.val,jK wx b5 2 _ _ (0,0) h.val,jK wx b5 3 _ _ (0,0) h.val,fun j=>jO wx b5 j _ _ h.val⟩
theorem kQm (w:World)(pm:Nat)(D:kAs)(h:kFi w pm D)(r:Nat)(hr:r≤1114111)(hv:kPy D r):
  Calls Tryz.prog 25 #[.pointer (some ⟨pm,0,none⟩),.int .i32 (r:Nat)] w fun e w'=>e= .returned (.agg #[.int .i64 (fvs D 0 r),.int .i64 (fvs D 1 r),.int .i64 (fvs D 2 r),.int .i64 (fvs D 3 r)])∧Below w.heap.size w w':=by
 have HC:=jH (fun(W:World) (hb:Below w.heap.size w W)=>kNn W pm D (h.below hb) (r:Nat));have HBr:=jH (fun(W:World) (hb:Below w.heap.size w W)=>kLd W pm D (h.below hb) (r:Nat));have HT:=jH (fun(W:World) (hb:Below w.heap.size w W)=>kPc W pm D (h.below hb) (r:Nat));have HMi:=jH (fun(W:World) (hb:Below w.heap.size w W)=>kMg W pm D (h.below hb) (r:Nat));rw[kEw hr]at HC HBr HT HMi;have HF:=jH (show fvs D 0 r=fvC (D.cls r)∧fvs D 1 r=fvB (D.oth r) (D.side r)∧fvs D 2 r=fvT (D.twin r) (r:Nat)∧fvs D 3 r=fvM (D.mir r) (D.has r)from⟨rfl,rfl,rfl,rfl⟩);have hc:=hv.c;have ho:=hv.o;have hs:=hv.s;have ht:=hv.t;have hm:=hv.m;unfold wf32 at ho ht hm;clear hv h;generalize fvs D 0 r=f0 at*;generalize fvs D 1 r=f1 at*;generalize fvs D 2 r=f2 at*;generalize fvs D 3 r=f3 at*;generalize D.cls r=C at*;generalize D.oth r=O at*;generalize D.side r=S at*;generalize D.twin r=T at*;generalize D.mir r=M at*;generalize D.has r=Hs at*;obtain⟨e0,e1,e2,e3⟩:=HF.out
 have HF0:=jH e0;have HF1:=jH e1;have HF2:=jH e2;have HF3:=jH e3
 clear e0 e1 e2 e3 HF;have hA:=jN w (.cells #[.int .i64 0,.int .i64 0,.int .i64 0,.int .i64 0] 85);have hB:=(Below.refl _ w).alloc jR (.cells #[.int .i64 0,.int .i64 0,.int .i64 0,.int .i64 0] 85);have hZ:=World.size_alloc w (.cells #[.int .i64 0,.int .i64 0,.int .i64 0,.int .i64 0] 85)
 obtain⟨b4,hb4⟩:∃b4,b4=w.heap.size:=⟨_,rfl⟩
 go_enter Tryz.func25,Tryz.ntmps25
 go_upto_region 1 with(fail)
 rw[←hb4]at hA hZ ⊢;generalize w.alloc (.cells #[.int .i64 0,.int .i64 0,.int .i64 0,.int .i64 0] 85)=w0 at*
 have HA:=jH hA;have HB:=jH hB;have HZ:=jH hZ;have Hb4:=jH hb4
 clear hA hB hZ hb4
 go_wp2_with fail
 refine(HC.out _ HB.out).mono ?_;rintro e w1 ⟨rfl,hb⟩;have HB1:=jH (HB.out.trans (hb.mono HB.out.size));have HA1:=jH ((hb.block b4 (jL HA.out)).trans HA.out);clear hb HA HB HC
 obtain⟨b5,hb5⟩:∃b5,b5=w1.heap.size:=⟨_,rfl⟩
 have HFo:=jH (show FoR w b4 b5 C 0 0 0 (w1.alloc (.cells #[.int .i64 C,.int .i64 0,.int .i64 0,.int .i64 0] 85))from
  ⟨(Below.heap_alloc w1 _ b4 (jL HA1.out)).trans HA1.out,by rw[hb5];exact jN w1 _,⟨by rw[Hb4.out];exact Nat.le_refl _,by rw[hb5];exact(jL HA1.out)⟩,HB1.out.alloc HB1.out.size _⟩)
 go_upto_region 2 with(fail)
 rw[←hb5];clear HB1 HA1 HZ Hb4 hb5;generalize w1.alloc (.cells #[.int .i64 C,.int .i64 0,.int .i64 0,.int .i64 0] 85)=wx at*;obtain⟨k0,k1,k2,k3,kf⟩:=HFo.out.cell;have kf0:=kf 0;clear kf
 obtain⟨bb,hbb⟩:∃bb,bb=decide (C<1∨23<C):=⟨_,rfl⟩
 have HBb:=jH hbb;clear hbb
 go_cut [23]from 16 to 23 (fun v wy=>v= .bool bb∧wy=wx)
 case first=>
  by_cases y1:C<1
  ·have HD:=jH (HBb.out.trans (decide_eq_true (.inl y1)));go_wp2
   go_meet
   case rel=>exact⟨by rw[HD.out],rfl⟩
  ·by_cases y2:23<C
   ·have HD:=jH (HBb.out.trans (decide_eq_true (.inr y2)));go_wp2
    go_meet
    case rel=>exact⟨by rw[HD.out],rfl⟩
   ·have HD:=jH (HBb.out.trans (decide_eq_false (by omega)));go_wp2
    go_meet
    case rel=>exact⟨by rw[HD.out],rfl⟩
 case rest=>
 obtain⟨rfl,rfl⟩:=hcut
 go_step
 go_cut [5]from 24 to 23 (fun v wy=>v= .pointer (some ⟨b5,0,none⟩)∧FoR w b4 b5 f0 0 0 0 wy)
 case first=>
  cases bb
  ·have HY:Hid (f0=C):=jH (by rw[HF0.out];exact if_neg (of_decide_eq_false HBb.out.symm));go_wp2
   go_meet
   case rel=>exact⟨rfl,by rw[HY.out];exact HFo.out⟩
  ·have HY:Hid (f0=nv):=jH (by rw[HF0.out];exact if_pos (of_decide_eq_true HBb.out.symm));go_wp2
   go_meet
   case rel=>exact⟨rfl,by rw[HY.out];exact HFo.out.put0 nv⟩
 case rest=>
 obtain⟨rfl,hfo⟩:=hcut;clear HFo k0 k1 k2 k3 kf0 HBb HF0 hc;have HFo:=jH hfo;clear hfo
 go_wp2_with fail
 refine(HBr.out _ HFo.out.bel).mono ?_;rintro e w2 ⟨rfl,hb⟩;have HFo2:=jH (HFo.out.next hb);clear hb HFo HBr;obtain⟨k0,k1,k2,k3,kf⟩:=HFo2.out.cell;have kf1:=kf 1;clear kf
 obtain⟨bb,hbb⟩:∃bb,bb=decide (2<S∨(S≠0∧kA9 O=false)):=⟨_,rfl⟩
 have HBb:=jH hbb;clear hbb
 go_upto_region 5 with(fail)
 go_cut [41]from 31 to 41 (fun v wy=>v= .bool bb∧wy=w2)
 case first=>
  by_cases y1:2<S
  ·have HD:=jH (HBb.out.trans (decide_eq_true (.inl y1)));go_wp2
   go_meet
   case rel=>exact⟨by rw[HD.out],rfl⟩
  ·by_cases y2:S=0
   ·have HD:=jH (HBb.out.trans (decide_eq_false (fun h=>h.elim y1 (fun h=>h.1 y2))))
    have y3:(S != 0)=false:=by simp[y2]
    clear y2;go_wp2
    go_meet
    case rel=>exact⟨by rw[HD.out],rfl⟩
   ·have y3:(S != 0)=true:=by simp[y2]
    have HY1:=jH y1;have HY2:=jH y2;clear y2
    go_wp2_with fail
    refine(kNt O w2).mono ?_;rintro e w3 ⟨rfl,rfl⟩
    have HD:=jH (HBb.out.trans (show decide (2<S∨(S≠0∧kA9 O=false))= !kA9 O from by
     cases kA9 O
     ·exact decide_eq_true (.inr ⟨HY2.out,rfl⟩)
     ·exact decide_eq_false (fun h=>h.elim (by have:=HY1.out;omega) (fun h=>by cases h.2))))
    generalize kA9 O=po at*
    cases po
    ·go_wp2
     go_meet
     case rel=>exact⟨by rw[HD.out];rfl,rfl⟩
    ·go_wp2
     go_meet
     case rel=>exact⟨by rw[HD.out];rfl,rfl⟩
 case rest=>
 obtain⟨rfl,rfl⟩:=hcut
 go_step
 go_cut [5]from 42 to 41 (fun v wy=>v= .pointer (some ⟨b5,0,none⟩)∧FoR w b4 b5 f0 f1 0 0 wy)
 case first=>
  cases bb
  ·have HN:Hid (¬(2<S∨(S≠0∧kA9 O=false))):=jH (of_decide_eq_false HBb.out.symm)
   by_cases y1:S=1
   ·have HY:Hid (f1=O+1):=jH (by rw[HF1.out];unfold fvB;rw[if_neg HN.out,if_pos y1])
    have hd:(S==1)=true:=by simp[y1]
    go_wp2
    go_meet
    case rel=>exact⟨rfl,by rw[HY.out];exact HFo2.out.put1 _⟩
   ·have hd:(S==1)=false:=by simp[y1]
    by_cases y2:S=2
    ·have HY:Hid (f1= -O - 1):=jH (by rw[HF1.out];unfold fvB;rw[if_neg HN.out,if_neg y1,if_pos y2])
     have hd2:(S==2)=true:=by simp[y2]
     go_wp2
     go_meet
     case rel=>exact⟨rfl,by rw[HY.out];exact HFo2.out.put1 _⟩
    ·have HY:Hid (f1=0):=jH (by rw[HF1.out];unfold fvB;rw[if_neg HN.out,if_neg y1,if_neg y2])
     have hd2:(S==2)=false:=by simp[y2]
     go_wp2
     go_meet
     case rel=>exact⟨rfl,by rw[HY.out];exact HFo2.out⟩
  ·have HY:Hid (f1=nv):=jH (by rw[HF1.out];exact if_pos (of_decide_eq_true HBb.out.symm));go_wp2
   go_meet
   case rel=>exact⟨rfl,by rw[HY.out];exact HFo2.out.put1 nv⟩
 case rest=>
 obtain⟨rfl,hfo⟩:=hcut;clear HFo2 k0 k1 k2 k3 kf1 HBb HF1 hs ho;have HFo:=jH hfo;clear hfo
 go_wp2_with fail
 refine(HT.out _ HFo.out.bel).mono ?_;rintro e w2 ⟨rfl,hb⟩;have HFo2:=jH (HFo.out.next hb);clear hb HFo HT;obtain⟨k0,k1,k2,k3,kf⟩:=HFo2.out.cell;have kf2:=kf 2;clear kf
 obtain⟨bb,hbb⟩:∃bb,bb=(T != ((r:Nat):Int)):=⟨_,rfl⟩
 have HBb:=jH hbb;clear hbb
 go_upto_region 12 with(fail)
 go_cut [61]from 59 to 61 (fun v wy=>v= .bool bb∧wy=w2)
 case first=>
  have HD:=HBb.out.symm
  cases bb
  ·go_wp2
   go_meet
   case rel=>exact⟨rfl,rfl⟩
  ·go_wp2
   go_meet
   case rel=>exact⟨rfl,rfl⟩
 case rest=>
 obtain⟨rfl,rfl⟩:=hcut
 go_step
 go_cut [5]from 62 to 61 (fun v wy=>v= .pointer (some ⟨b5,0,none⟩)∧FoR w b4 b5 f0 f1 f2 0 wy)
 case first=>
  cases bb
  ·have HY:Hid (f2=0):=jH (by rw[HF2.out];exact if_pos (by simpa using HBb.out.symm));go_wp2
   go_meet
   case rel=>exact⟨rfl,by rw[HY.out];exact HFo2.out⟩
  ·have HY0:Hid (f2=if kA9 T=false then nv else T+1):=jH (by rw[HF2.out];exact if_neg (by simpa using HBb.out.symm))
   go_wp2_with fail
   refine(kNt T _).mono ?_;rintro e w3 ⟨rfl,rfl⟩;have HFo3:=jH (HFo2.out.put2 (T+1));generalize wc.setCell ⟨b5,2,none⟩ (.int .i64 (T+1))=w4 at*;clear k0 k1 k2 k3 kf2;obtain⟨k0,k1,k2,k3,kf⟩:=HFo3.out.cell;have kf2:=kf 2;clear kf;generalize kA9 T=po at*
   cases po
   ·have HY:Hid (f2=nv):=jH (by rw[HY0.out];rfl);go_wp2
    go_meet
    case rel=>exact⟨rfl,by rw[HY.out];exact HFo3.out.put2 nv⟩
   ·have HY:Hid (f2=T+1):=jH (by rw[HY0.out];rfl);go_wp2
    go_meet
    case rel=>exact⟨rfl,by rw[HY.out];exact HFo3.out⟩
 case rest=>
 obtain⟨rfl,hfo⟩:=hcut;clear HFo2 k0 k1 k2 k3 kf2 HBb HF2 ht;have HFo:=jH hfo;clear hfo
 go_wp2_with fail
 refine(HMi.out _ HFo.out.bel).mono ?_;rintro e w2 ⟨rfl,hb⟩;have HFo2:=jH (HFo.out.next hb);clear hb HFo HMi;obtain⟨k0,k1,k2,k3,kf⟩:=HFo2.out.cell;have kf3:=kf 3;clear kf
 go_upto_region 17 with(fail)
 go_cut [76]from 76 to 76 (fun v wy=>v= .bool Hs∧wy=w2)
 case first=>
  go_wp2
  go_meet
  case rel=>exact⟨rfl,rfl⟩
 case rest=>
 obtain⟨rfl,rfl⟩:=hcut
 go_step
 go_cut [5]from 77 to 76 (fun v wy=>v= .pointer (some ⟨b5,0,none⟩)∧FoR w b4 b5 f0 f1 f2 f3 wy)
 case first=>
  cases Hs
  ·have HY:Hid (f3=0):=jH (by rw[HF3.out];rfl);go_wp2
   go_meet
   case rel=>exact⟨rfl,by rw[HY.out];exact HFo2.out⟩
  ·have HY0:Hid (f3=if kA9 M=false then nv else M+1):=jH (by rw[HF3.out];rfl)
   go_wp2_with fail
   refine(kNt M _).mono ?_;rintro e w3 ⟨rfl,rfl⟩;have HFo3:=jH (HFo2.out.put3 (M+1));generalize wc.setCell ⟨b5,3,none⟩ (.int .i64 (M+1))=w4 at*;clear k0 k1 k2 k3 kf3;obtain⟨k0,k1,k2,k3,kf⟩:=HFo3.out.cell;have kf3:=kf 3;clear kf;generalize kA9 M=po at*
   cases po
   ·have HY:Hid (f3=nv):=jH (by rw[HY0.out];rfl);go_wp2
    go_meet
    case rel=>exact⟨rfl,by rw[HY.out];exact HFo3.out.put3 nv⟩
   ·have HY:Hid (f3=M+1):=jH (by rw[HY0.out];rfl);go_wp2
    go_meet
    case rel=>exact⟨rfl,by rw[HY.out];exact HFo3.out⟩
 case rest=>
 obtain⟨rfl,hfo⟩:=hcut;clear HFo2 k0 k1 k2 k3 kf3 HF3 hm;have HFo:=jH hfo;obtain⟨k0,k1,k2,k3, -⟩:=hfo.cell;have p0:=jK wc b4 0 _ _ (0,0) hfo.res;have p1:=jK wc b4 1 _ _ (0,0) hfo.res;have p2:=jK wc b4 2 _ _ (0,0) hfo.res;have p3:=jK wc b4 3 _ _ (0,0) hfo.res;have g0:=jO wc b4 0 _ _ hfo.res;have g1:=jO wc b4 1 _ _ hfo.res;have g2:=jO wc b4 2 _ _ hfo.res;have g3:=jO wc b4 3 _ _ hfo.res;simp at p0 p1 p2 p3;clear hfo;have y0:=jP wc b4 0 _ _ (.int .i64 f0) HFo.out.res;have y1:=jP _ b4 1 _ _ (.int .i64 f1) y0;have y2:=jP _ b4 2 _ _ (.int .i64 f2) y1;have y3:=jP _ b4 3 _ _ (.int .i64 f3) y2;have HY3:=jH y3;have HL:=jH HFo.out.low.1;clear y0 y1 y2 y3;go_wp2
 have r0:=jK _ b4 0 _ _ (0,0) HY3.out;have r1:=jK _ b4 1 _ _ (0,0) HY3.out;have r2:=jK _ b4 2 _ _ (0,0) HY3.out;have r3:=jK _ b4 3 _ _ (0,0) HY3.out;simp at r0 r1 r2 r3;refine jS (v:= .agg #[.int .i64 f0,.int .i64 f1,.int .i64 f2,.int .i64 f3]) (by simp[results,Tryz.results25,go_sem,r0,r1,r2,r3]) rfl ?_;exact⟨rfl,(((HFo.out.bel.setCell (p:=⟨b4,0,none⟩) HL.out _).setCell (p:=⟨b4,1,none⟩) HL.out _).setCell (p:=⟨b4,2,none⟩) HL.out _).setCell (p:=⟨b4,3,none⟩) HL.out _⟩
end Go.Proofs.YtbmphakfgoompaaGreat
