/- several texts in one: UE2 -/
import Derived.Test.YtbmphakfgoompaaGreatOE1
import Derived.Test.YtbmphakfgoompaaGreatOB
import Derived.Test.YtbmphakfgoompaaGreatOTC
import Derived.Deep.CutRange
import Derived.Deep.CutBlock
set_option linter.unusedVariables false
set_option linter.unusedSimpArgs false
set_option maxRecDepth 100000
set_option maxHeartbeats 16000000
namespace Go.Proofs.YtbmphakfgoompaaGreat
open Go.RowKit
def kPm (L:List Nat):List Value:=ivs .i32 (kA2 L)
theorem kD5 (L:List Nat):(kPm L).length=L.length:=by simp[kPm,ivs,kA2]
theorem kSw (L:List Nat)(j:Nat)(h:j<L.length):(kPm L)[j]'(by rw[kD5];exact h)= .int .i32 (L[j]:Nat):=by simp[kPm,ivs,kA2]
theorem kLk (L:List Nat)(j v:Nat):(kPm L).set j (.int .i32 (v:Nat))=kPm (L.set j v):=by simp[kPm,ivs,kA2,List.map_set]
def kIm (L:List Nat) (k u:Nat):List Nat:=L.take k++u :: L.drop k
theorem kDd {L:List Nat}{k:Nat}(u:Nat)(hk:k≤L.length):(kIm L k u).length=L.length+1:=by
 simp only[kIm,List.length_append,List.length_take,List.length_cons,List.length_drop];omega
theorem kK6 {L:List Nat}{k:Nat}(u v:Nat)(hk:k≤L.length):(kIm L k u).set k v=kIm L k v:=by
 unfold kIm;rw[List.set_append_right _ _ (by simp;omega)];simp[Nat.min_eq_left hk]
theorem kTq {L:List Nat}{k:Nat}(u:Nat)(hk:k<L.length):(kIm L (k+1) u)[k]? =some L[k]:=by
 unfold kIm;rw[List.getElem?_append_left (by simp;omega),List.getElem?_take];simp[hk]
theorem kQq {L:List Nat}{k:Nat}(hk:k<L.length):kIm L (k+1) L[k]=kIm L k L[k]:=by
 unfold kIm;rw[List.take_succ_eq_append_getElem hk,List.drop_eq_getElem_cons hk,List.append_assoc]
 rfl
theorem kSe (L:List Nat)(u:Nat):kIm L L.length u=L++[u]:=by simp[kIm]
structure ETo (A:List Int) (L:List Nat):Prop where
 sorted:L.Pairwise (· ≤ ·)
 mem:∀x:Nat,x∈L↔((x:Int)∈A∧x≤1114111)
 len:L.length≤A.length
theorem ETo.nil:ETo [] []:=⟨by simp,fun x=>by simp,Nat.le_refl _⟩
theorem ETo.skip {A:List Int}{L:List Nat}(h:ETo A L){z:Int}(hz:z<0∨1114111<z):ETo (A++[z]) L:=⟨h.sorted,fun x=>by
 rw[h.mem x,List.mem_append,List.mem_singleton]
 constructor
 ·rintro⟨h1,h2⟩;exact⟨.inl h1,h2⟩
 ·rintro⟨h1 | h1,h2⟩
  ·exact⟨h1,h2⟩
  ·omega,by rw[List.length_append];have:=h.len;omega⟩
theorem ETo.ins {A:List Int}{L:List Nat}(h:ETo A L){y k:Nat}(hy:y≤1114111)(hk:k≤L.length)(h1:∀j (hj:j<L.length),k≤j→y<L[j])(h2:∀m,k=m+1→∀hm:m<L.length,L[m]≤y):ETo (A++[(y:Int)]) (kIm L k y):=by
 have hl:∀a∈L.take k,a≤y:=by
  intro a ha;obtain⟨j,hj,rfl⟩:=List.getElem_of_mem ha;rw[List.length_take]at hj;rw[List.getElem_take]
  obtain⟨m,rfl⟩:∃m,k=m+1:=⟨k - 1,by omega⟩
  have h3:=h2 m rfl (by omega)
  by_cases e:j=m
  ·subst e;exact h3
  ·have:=List.pairwise_iff_getElem.1 h.sorted j m (by omega) (by omega) (by omega);omega
 have hr:∀a∈L.drop k,y<a:=by
  intro a ha;obtain⟨j,hj,rfl⟩:=List.getElem_of_mem ha;rw[List.getElem_drop];exact h1 _ _ (by omega)
 refine⟨?_,fun x=> ?_,by rw[kDd _ hk,List.length_append];have:=h.len;simp;omega⟩
 ·unfold kIm;have hs:=h.sorted;rw[←List.take_append_drop k L]at hs;obtain⟨s1,s2,s3⟩:=List.pairwise_append.1 hs;refine List.pairwise_append.2 ⟨s1,List.pairwise_cons.2 ⟨fun a ha=>Nat.le_of_lt (hr a ha),s2⟩,fun a ha b hb=> ?_⟩
  rcases List.mem_cons.1 hb with rfl | hb
  ·exact hl a ha
  ·exact s3 a ha b hb
 ·have e:x∈kIm L k y↔x∈L∨x=y:=by
   unfold kIm
   have:x∈L↔x∈L.take k∨x∈L.drop k:=by
    conv=>lhs;rw[←List.take_append_drop k L]
    exact List.mem_append
   rw[List.mem_append,List.mem_cons,this]
   constructor
   ·rintro(h | h | h)
    ·exact .inl (.inl h)
    ·exact .inr h
    ·exact .inl (.inr h)
   ·rintro((h | h) | h)
    ·exact .inl h
    ·exact .inr (.inr h)
    ·exact .inr (.inl h)
  rw[e,h.mem x,List.mem_append,List.mem_singleton]
  constructor
  ·rintro(⟨a,b⟩ | rfl)
   ·exact⟨.inl a,b⟩
   ·exact⟨.inr rfl,hy⟩
  ·rintro⟨a | a,b⟩
   ·exact .inl ⟨a,b⟩
   ·exact .inr (by omega)
def EdR (w:World) (m:Nat) (P:Nat→List Int) (iv sv:Value) (wr:World):Prop:=
 ∃(k:Nat) (a:Option Addr) (c N:Nat),k≤m∧iv= .int .i64 (k:Nat)∧sv= .slice a N c∧Own w.heap.size 21 wr a N c (ivs .i32 (P k))∧Below w.heap.size w wr
def EdO (w:World) (A:List Int) (iv sv:Value) (wr:World):Prop:=
 ∃(k:Nat) (a:Option Addr) (c:Nat) (L:List Nat),k≤A.length∧iv= .int .i64 (k:Nat)∧sv= .slice a L.length c∧ETo (A.take k) L∧Own w.heap.size 21 wr a L.length c (kPm L)∧Below w.heap.size w wr
def EdI (w:World) (g c:Nat) (L:List Nat) (y:Nat) (kv:Value) (wr:World):Prop:=
 ∃k u:Nat,k≤L.length∧kv= .int .i64 (k:Nat)∧(∀j (hj:j<L.length),k≤j→y<L[j])∧Own w.heap.size 21 wr (some ⟨g,0,none⟩) (L.length+1) c (kPm (kIm L k u))∧Below w.heap.size w wr
theorem kHm (w:World)(u v:Value)(E:TypeId):kKe (w.alloc (.cells #[u,v] E)).drew (some ⟨w.heap.size,0,none⟩) [u,v]:=by
 intro i hi
 have hc:i=0∨i=1:=by simp at hi;omega
 rcases hc with rfl | rfl
 ·exact⟨w.heap.size,0,rfl,jK (w.alloc (.cells #[u,v] E)) w.heap.size 0 #[u,v] E (0,0) (jN w _)⟩
 ·exact⟨w.heap.size,0,rfl,jK (w.alloc (.cells #[u,v] E)) w.heap.size 1 #[u,v] E (0,0) (jN w _)⟩
theorem Tryz.elemRun:kKx Tryz.prog 30 21 (.int .i32 0) 4:=⟨Tryz.underlying30,by kernel_rfl,by kernel_rfl⟩
theorem kO2 {l:List kAr}{k:Nat}(h:k<l.length):kI6 (l.take (k+1))=kI6 (l.take k)++[l[k].f,wrap32 (l[k].t+1)]:=by unfold kI6;rw[List.take_succ_eq_append_getElem h,List.flatMap_append];rfl
theorem kO1 {l:List kAr}{k:Nat}(h:k<l.length):kI5 (l.take (k+1))=kI5 (l.take k)++[l[k].f,wrap32 (l[k].f+1)]:=by unfold kI5;rw[List.take_succ_eq_append_getElem h,List.flatMap_append];rfl
theorem kKi {l:List TwD}{k:Nat}(h:k<l.length):kG0 (l.take (k+1))=kG0 (l.take k)++[l[k].a,wrap32 (l[k].a+1)]:=by unfold kG0;rw[List.take_succ_eq_append_getElem h,List.flatMap_append];rfl
theorem kEp:∀l:List kAr,(kI6 l).length=2*l.length
 | []=>rfl
 | s :: l=>by have:=kEp l;simp[kI6]at this ⊢;omega
theorem kFm:∀l:List kAr,(kI5 l).length=2*l.length
 | []=>rfl
 | s :: l=>by have:=kFm l;simp[kI5]at this ⊢;omega
theorem kG1:∀l:List TwD,(kG0 l).length=2*l.length
 | []=>rfl
 | s :: l=>by have:=kG1 l;simp[kG0]at this ⊢;omega
theorem kD9 (a b:Int):ivs .i32 [a,wrap32 b]=[.int .i32 a,.int .i32 (IntKind.i32.wrap b)]:=by
 simp[ivs,wrap32,IntKind.wrap_i32]
def kQ1 (D:kAs) (k:Nat):List Int:=[0]++kI6 (D.l1.take k)
def kPv (D:kAs) (k:Nat):List Int:=[0]++kI6 D.l1++kI5 (D.l2.take k)
def kPw (D:kAs) (k:Nat):List Int:=[0]++kI6 D.l1++kI5 D.l2++kG0 (D.l3.take k)
def kPx (D:kAs) (k:Nat):List Int:=[0]++kI6 D.l1++kI5 D.l2++kG0 D.l3++kG0 (D.l4.take k)
theorem kQ2 (D:kAs){k:Nat}(h:k<D.l1.length):kQ1 D (k+1)=kQ1 D k++[D.l1[k].f,wrap32 (D.l1[k].t+1)]:=by unfold kQ1;rw[kO2 h];simp
theorem kQ3 (D:kAs){k:Nat}(h:k<D.l2.length):kPv D (k+1)=kPv D k++[D.l2[k].f,wrap32 (D.l2[k].f+1)]:=by unfold kPv;rw[kO1 h];simp
theorem kQ5 (D:kAs){k:Nat}(h:k<D.l3.length):kPw D (k+1)=kPw D k++[D.l3[k].a,wrap32 (D.l3[k].a+1)]:=by unfold kPw;rw[kKi h];simp
theorem kQ7 (D:kAs){k:Nat}(h:k<D.l4.length):kPx D (k+1)=kPx D k++[D.l4[k].a,wrap32 (D.l4[k].a+1)]:=by unfold kPx;rw[kKi h];simp
theorem kQ4 (D:kAs):kPv D 0=kQ1 D D.l1.length:=by simp[kQ1,kPv,kI5]
theorem kQ6 (D:kAs):kPw D 0=kPv D D.l2.length:=by simp[kPw,kPv,kG0]
theorem kQ8 (D:kAs):kPx D 0=kPw D D.l3.length:=by simp[kPx,kPw,kG0]
theorem kSr (D:kAs):kPx D D.l4.length=kCq D:=by simp[kPx,kCq]
theorem kSo (D:kAs){k:Nat}(h:k≤D.l1.length):(kQ1 D k).length=1+2*k:=by simp[kQ1,kEp,Nat.min_eq_left h];omega
theorem kSp (D:kAs){k:Nat}(h:k≤D.l2.length):(kPv D k).length=1+2*D.l1.length+2*k:=by simp[kPv,kEp,kFm,Nat.min_eq_left h];omega
theorem kSq (D:kAs){k:Nat}(h:k≤D.l3.length):(kPw D k).length=1+2*D.l1.length+2*D.l2.length+2*k:=by simp[kPw,kEp,kFm,kG1,Nat.min_eq_left h];omega
theorem kSs (D:kAs){k:Nat}(h:k≤D.l4.length):(kPx D k).length=1+2*D.l1.length+2*D.l2.length+2*D.l3.length+2*k:=by simp[kPx,kEp,kFm,kG1,Nat.min_eq_left h];omega
theorem kO3 (w:World)(pm:Nat)(D:kAs)(h:kFi w pm D):
  Calls Tryz.prog 24 #[.pointer (some ⟨pm,0,none⟩)] w fun e w'=>Below w.heap.size w w'∧∃a c L,e= .returned (.slice a L.length c)∧ETo (kCq D) L∧Ints .i32 w' a (kA2 L):=by
 obtain⟨a1,n1,c1,a2,n2,c2,a3,n3,c3,a4,n4,c4,hr,hm⟩:=h;have q1:=jK w pm 1 _ _ (0,0) hr;have q2:=jK w pm 2 _ _ (0,0) hr;have q3:=jK w pm 3 _ _ (0,0) hr;have q4:=jK w pm 4 _ _ (0,0) hr;simp at q1 q2 q3 q4;have HC:=jH (And.intro q1 (And.intro q2 (And.intro q3 q4)));have HPm:=jH (World.block_lt_of_cell? w _ q1);have HM:=jH hm;have b1:=hm.b1;have b2:=hm.b2;have b3:=hm.b3;have b4:=hm.b4;clear hr hm q1 q2 q3 q4;have HZ:=jH (show Own w.heap.size 21 (w.alloc (.cells #[.int .i32 0] 21)) (some ⟨w.heap.size,0,none⟩) 1 1 (ivs .i32 (kQ1 D 0))from Own.lit w #[.int .i32 0] jR (by simp[maxLen]));have HB0:=jH ((Below.refl _ w).alloc jR (.cells #[.int .i32 0] 21))
 go_enter Tryz.func24,Tryz.ntmps24
 go_wp2
 go_loopw [4,3] (EdR w n1 (kQ1 D)) (fun i _ _=>n1 - (intOf i).toNat)
 case atStart=>exact⟨0,some ⟨w.heap.size,0,none⟩,1,1,Nat.zero_le _,rfl,rfl,HZ.out,HB0.out⟩
 case round=>
  obtain⟨k,b5,d5,N,hk,rfl,rfl,ho,hbel⟩:=hrel;have HO:=jH ho
  have hN:N=1+2*k:=by
   have:=ho.lenI;rw[kSo D (by rw[HM.out.h1];exact hk)]at this
   have:=HM.out.h1;have:=HM.out.h2;have:=HM.out.h3
   omega
  have HNn:=jH hN;clear hN
  have hN:N≤8388609:=by have:=HNn.out;omega
  have HBe:=jH hbel;obtain⟨q1,q2,q3,q4⟩:=HC.out;have qx:=(hbel.cell (p:=⟨pm,1,none⟩) HPm.out).trans q1;clear q1 q2 q3 q4 ho hbel
  by_cases hkn:k<n1
  ·have hki:(k:Int)<(n1:Int):=by omega
   have hkl:k<D.l1.length:=by rw[HM.out.h1];exact hkn
   obtain⟨b,o,ha⟩:=HM.out.s1.some (by omega);subst ha;obtain⟨k1,k2,k3⟩:=(HM.out.s1.keep HBe.out).get k hkl;have HNx:=jH (kQ2 D hkl)
   obtain⟨s,hs⟩:∃s,s=D.l1[k]:=⟨_,rfl⟩
   rw[←hs]at k1 k2 k3 HNx;clear hs
   have hbnd1:(N+2)*4≤140737488355328:=by omega
   have hbnd2:N+2≤maxLen:=by unfold maxLen;omega
   have hws:w.heap.size≤wr.heap.size:=HBe.out.size
   go_upto_block 1 with(fail)
   go_cut [3]from 12 to 40 (fun v wx=>∃a9 c9,v= .slice a9 (N+2) c9∧Own w.heap.size 21 wx a9 (N+2) c9 (ivs .i32 (kQ1 D (k+1)))∧Below w.heap.size w wx)
   case first=>
    go_upto_region 5 with(fail)
    go_region_law (refine kCm Tryz.elemRun rfl (.tmp 21) (.tmp 39) rfl (World.ownsRow.drew (World.ownsRow.alloc HO.out _)) (by simp;omega) (ys:=[.int .i32 s.f,.int .i32 (IntKind.i32.wrap (s.t+1))]) rfl (kHm wr _ _ _) (by simp) (by intro u hu;simp at hu;rcases hu with rfl | rfl<;>rfl) hbnd1 hbnd2 rfl rfl ?_;intro a9 c9 w9 ho9 hg9 hn9)
    all_goals
     have HN9:=jH (show Own w.heap.size 21 w9 a9 (N+2) c9 (ivs .i32 (kQ1 D (k+1)))from by rw[HNx.out,kBi,kD9];exact ho9);have HB9:Hid (Below w.heap.size w w9):=jH (HBe.out.trans (kAv hg9 (fun x e=>(World.ownsRow.lt HO.out x e).1) (by simp;omega) |> fun h=>((((Below.refl _ wr).alloc jR _).drew).mono hws).trans h));clear ho9 hg9 hn9
     go_wp2_with fail
     go_meet
     case rel=>exact⟨a9,c9,rfl,HN9.out,HB9.out⟩
   case rest=>
    obtain⟨a9,c9,rfl,hn9,hb9⟩:=hcut
    have HN9:=jH hn9;have HB9:=jH hb9
    clear hn9 hb9;go_wp2
    go_roundw
    case rel=>exact⟨k+1,a9,c9,N+2,by omega,by go_num,rfl,HN9.out,HB9.out⟩
    case measure=>simp[intOf];omega
  ·obtain rfl:n1=k:=by omega
   have hki:¬(n1:Int)<(n1:Int):=by omega
   go_wp2
   go_loopw [5,3] (EdR w n2 (kPv D)) (fun i _ _=>n2 - (intOf i).toNat)
   case atStart=>exact⟨0,b5,d5,N,Nat.zero_le _,rfl,rfl,by rw[kQ4,HM.out.h1];exact HO.out,HBe.out⟩
   case round=>
    clear HO HBe hN HNn;obtain⟨k,b5,d5,N,hk,rfl,rfl,ho,hbel⟩:=hrel;have HO:=jH ho
    have hN:N=1+2*n1+2*k:=by
     have:=ho.lenI;rw[kSp D (by rw[HM.out.h2];exact hk)]at this
     have:=HM.out.h1;have:=HM.out.h2;have:=HM.out.h3
     omega
    have HNn:=jH hN;clear hN
    have hN:N≤8388609:=by have:=HNn.out;omega
    have HBe:=jH hbel;obtain⟨q1,q2,q3,q4⟩:=HC.out;have qx:=(hbel.cell (p:=⟨pm,2,none⟩) HPm.out).trans q2;clear q1 q2 q3 q4 ho hbel
    by_cases hkn:k<n2
    ·have hki:(k:Int)<(n2:Int):=by omega
     have hkl:k<D.l2.length:=by rw[HM.out.h2];exact hkn
     obtain⟨b,o,ha⟩:=HM.out.s2.some (by omega);subst ha;obtain⟨k1,k2,k3⟩:=(HM.out.s2.keep HBe.out).get k hkl;have HNx:=jH (kQ3 D hkl)
     obtain⟨s,hs⟩:∃s,s=D.l2[k]:=⟨_,rfl⟩
     rw[←hs]at k1 k2 k3 HNx;clear hs
     have hbnd1:(N+2)*4≤140737488355328:=by omega
     have hbnd2:N+2≤maxLen:=by unfold maxLen;omega
     have hws:w.heap.size≤wr.heap.size:=HBe.out.size
     go_upto_block 3 with(fail)
     go_cut [3]from 41 to 69 (fun v wx=>∃a9 c9,v= .slice a9 (N+2) c9∧Own w.heap.size 21 wx a9 (N+2) c9 (ivs .i32 (kPv D (k+1)))∧Below w.heap.size w wx)
     case first=>
      go_upto_region 9 with(fail)
      go_region_law (refine kCm Tryz.elemRun rfl (.tmp 50) (.tmp 68) rfl (World.ownsRow.drew (World.ownsRow.alloc HO.out _)) (by simp;omega) (ys:=[.int .i32 s.f,.int .i32 (IntKind.i32.wrap (s.f+1))]) rfl (kHm wr _ _ _) (by simp) (by intro u hu;simp at hu;rcases hu with rfl | rfl<;>rfl) hbnd1 hbnd2 rfl rfl ?_;intro a9 c9 w9 ho9 hg9 hn9)
      all_goals
       have HN9:=jH (show Own w.heap.size 21 w9 a9 (N+2) c9 (ivs .i32 (kPv D (k+1)))from by rw[HNx.out,kBi,kD9];exact ho9);have HB9:Hid (Below w.heap.size w w9):=jH (HBe.out.trans (kAv hg9 (fun x e=>(World.ownsRow.lt HO.out x e).1) (by simp;omega) |> fun h=>((((Below.refl _ wr).alloc jR _).drew).mono hws).trans h));clear ho9 hg9 hn9
       go_wp2_with fail
       go_meet
       case rel=>exact⟨a9,c9,rfl,HN9.out,HB9.out⟩
     case rest=>
      obtain⟨a9,c9,rfl,hn9,hb9⟩:=hcut
      have HN9:=jH hn9;have HB9:=jH hb9
      clear hn9 hb9;go_wp2
      go_roundw
      case rel=>exact⟨k+1,a9,c9,N+2,by omega,by go_num,rfl,HN9.out,HB9.out⟩
      case measure=>simp[intOf];omega
    ·obtain rfl:n2=k:=by omega
     have hki:¬(n2:Int)<(n2:Int):=by omega
     go_wp2
     go_loopw [6,3] (EdR w n3 (kPw D)) (fun i _ _=>n3 - (intOf i).toNat)
     case atStart=>exact⟨0,b5,d5,N,Nat.zero_le _,rfl,rfl,by rw[kQ6,HM.out.h2];exact HO.out,HBe.out⟩
     case round=>
      clear HO HBe hN HNn;obtain⟨k,b5,d5,N,hk,rfl,rfl,ho,hbel⟩:=hrel;have HO:=jH ho
      have hN:N=1+2*n1+2*n2+2*k:=by
       have:=ho.lenI;rw[kSq D (by rw[HM.out.h3];exact hk)]at this
       have:=HM.out.h1;have:=HM.out.h2;have:=HM.out.h3
       omega
      have HNn:=jH hN;clear hN
      have hN:N≤8388609:=by have:=HNn.out;omega
      have HBe:=jH hbel;obtain⟨q1,q2,q3,q4⟩:=HC.out;have qx:=(hbel.cell (p:=⟨pm,3,none⟩) HPm.out).trans q3;clear q1 q2 q3 q4 ho hbel
      by_cases hkn:k<n3
      ·have hki:(k:Int)<(n3:Int):=by omega
       have hkl:k<D.l3.length:=by rw[HM.out.h3];exact hkn
       obtain⟨b,o,ha⟩:=HM.out.s3.some (by omega);subst ha;obtain⟨k1,k2⟩:=(HM.out.s3.keep HBe.out).get k hkl;have HNx:=jH (kQ5 D hkl)
       obtain⟨s,hs⟩:∃s,s=D.l3[k]:=⟨_,rfl⟩
       rw[←hs]at k1 k2 HNx;clear hs
       have hbnd1:(N+2)*4≤140737488355328:=by omega
       have hbnd2:N+2≤maxLen:=by unfold maxLen;omega
       have hws:w.heap.size≤wr.heap.size:=HBe.out.size
       go_upto_block 5 with(fail)
       go_cut [3]from 70 to 98 (fun v wx=>∃a9 c9,v= .slice a9 (N+2) c9∧Own w.heap.size 21 wx a9 (N+2) c9 (ivs .i32 (kPw D (k+1)))∧Below w.heap.size w wx)
       case first=>
        go_upto_region 13 with(fail)
        go_region_law (refine kCm Tryz.elemRun rfl (.tmp 79) (.tmp 97) rfl (World.ownsRow.drew (World.ownsRow.alloc HO.out _)) (by simp;omega) (ys:=[.int .i32 s.a,.int .i32 (IntKind.i32.wrap (s.a+1))]) rfl (kHm wr _ _ _) (by simp) (by intro u hu;simp at hu;rcases hu with rfl | rfl<;>rfl) hbnd1 hbnd2 rfl rfl ?_;intro a9 c9 w9 ho9 hg9 hn9)
        all_goals
         have HN9:=jH (show Own w.heap.size 21 w9 a9 (N+2) c9 (ivs .i32 (kPw D (k+1)))from by rw[HNx.out,kBi,kD9];exact ho9);have HB9:Hid (Below w.heap.size w w9):=jH (HBe.out.trans (kAv hg9 (fun x e=>(World.ownsRow.lt HO.out x e).1) (by simp;omega) |> fun h=>((((Below.refl _ wr).alloc jR _).drew).mono hws).trans h));clear ho9 hg9 hn9
         go_wp2_with fail
         go_meet
         case rel=>exact⟨a9,c9,rfl,HN9.out,HB9.out⟩
       case rest=>
        obtain⟨a9,c9,rfl,hn9,hb9⟩:=hcut
        have HN9:=jH hn9;have HB9:=jH hb9
        clear hn9 hb9;go_wp2
        go_roundw
        case rel=>exact⟨k+1,a9,c9,N+2,by omega,by go_num,rfl,HN9.out,HB9.out⟩
        case measure=>simp[intOf];omega
      ·obtain rfl:n3=k:=by omega
       have hki:¬(n3:Int)<(n3:Int):=by omega
       go_wp2
       go_loopw [7,3] (EdR w n4 (kPx D)) (fun i _ _=>n4 - (intOf i).toNat)
       case atStart=>exact⟨0,b5,d5,N,Nat.zero_le _,rfl,rfl,by rw[kQ8,HM.out.h3];exact HO.out,HBe.out⟩
       case round=>
        clear HO HBe hN HNn;obtain⟨k,b5,d5,N,hk,rfl,rfl,ho,hbel⟩:=hrel;have HO:=jH ho
        have hN:N=1+2*n1+2*n2+2*n3+2*k:=by
         have:=ho.lenI;rw[kSs D (by rw[HM.out.h4];exact hk)]at this
         have:=HM.out.h1;have:=HM.out.h2;have:=HM.out.h3
         omega
        have HNn:=jH hN;clear hN
        have hN:N≤8388609:=by have:=HNn.out;omega
        have HBe:=jH hbel;obtain⟨q1,q2,q3,q4⟩:=HC.out;have qx:=(hbel.cell (p:=⟨pm,4,none⟩) HPm.out).trans q4;clear q1 q2 q3 q4 ho hbel
        by_cases hkn:k<n4
        ·have hki:(k:Int)<(n4:Int):=by omega
         have hkl:k<D.l4.length:=by rw[HM.out.h4];exact hkn
         obtain⟨b,o,ha⟩:=HM.out.s4.some (by omega);subst ha;obtain⟨k1,k2⟩:=(HM.out.s4.keep HBe.out).get k hkl;have HNx:=jH (kQ7 D hkl)
         obtain⟨s,hs⟩:∃s,s=D.l4[k]:=⟨_,rfl⟩
         rw[←hs]at k1 k2 HNx;clear hs
         have hbnd1:(N+2)*4≤140737488355328:=by omega
         have hbnd2:N+2≤maxLen:=by unfold maxLen;omega
         have hws:w.heap.size≤wr.heap.size:=HBe.out.size
         go_upto_block 7 with(fail)
         go_cut [3]from 99 to 127 (fun v wx=>∃a9 c9,v= .slice a9 (N+2) c9∧Own w.heap.size 21 wx a9 (N+2) c9 (ivs .i32 (kPx D (k+1)))∧Below w.heap.size w wx)
         case first=>
          go_upto_region 17 with(fail)
          go_region_law (refine kCm Tryz.elemRun rfl (.tmp 108) (.tmp 126) rfl (World.ownsRow.drew (World.ownsRow.alloc HO.out _)) (by simp;omega) (ys:=[.int .i32 s.a,.int .i32 (IntKind.i32.wrap (s.a+1))]) rfl (kHm wr _ _ _) (by simp) (by intro u hu;simp at hu;rcases hu with rfl | rfl<;>rfl) hbnd1 hbnd2 rfl rfl ?_;intro a9 c9 w9 ho9 hg9 hn9)
          all_goals
           have HN9:=jH (show Own w.heap.size 21 w9 a9 (N+2) c9 (ivs .i32 (kPx D (k+1)))from by rw[HNx.out,kBi,kD9];exact ho9);have HB9:Hid (Below w.heap.size w w9):=jH (HBe.out.trans (kAv hg9 (fun x e=>(World.ownsRow.lt HO.out x e).1) (by simp;omega) |> fun h=>((((Below.refl _ wr).alloc jR _).drew).mono hws).trans h));clear ho9 hg9 hn9
           go_wp2_with fail
           go_meet
           case rel=>exact⟨a9,c9,rfl,HN9.out,HB9.out⟩
         case rest=>
          obtain⟨a9,c9,rfl,hn9,hb9⟩:=hcut
          have HN9:=jH hn9;have HB9:=jH hb9
          clear hn9 hb9;go_wp2
          go_roundw
          case rel=>exact⟨k+1,a9,c9,N+2,by omega,by go_num,rfl,HN9.out,HB9.out⟩
          case measure=>simp[intOf];omega
        ·obtain rfl:n4=k:=by omega
         have hki:¬(n4:Int)<(n4:Int):=by omega
         have HO7:Hid (Own w.heap.size 21 wr b5 N d5 (ivs .i32 (kCq D))):=jH (by rw[←kSr D,HM.out.h4];exact HO.out);clear HO;have HBe7:=jH HBe.out;clear HBe
         obtain⟨A,hA⟩:∃A,A=kCq D:=⟨_,rfl⟩
         rw[←hA]at HO7;have hAl:A.length=N:=HO7.out.lenI;have HAl:=jH hAl;have HAe:=jH hA;clear hA hAl
         obtain⟨w7,rfl⟩:∃w7,w7=wr:=⟨_,rfl⟩
         have HB7:=jH (Below.refl w7.heap.size w7);have HBd:=jH (show N≤8388609 by omega);clear hN HNn;have hNb:=HBd.out;go_wp2
         go_loopw [9,8] (EdO w7 A) (fun i _ _=>N - (intOf i).toNat)
         case atStart=>exact⟨0,none,0,[],Nat.zero_le _,rfl,rfl,ETo.nil,Own.nil _ _ _,HB7.out⟩
         case round=>
          obtain⟨i,a8,c8,L,hi,rfl,rfl,hE,ho8,hbel⟩:=hrel
          have HE:=jH hE;have HO8:=jH ho8;have HBi:=jH hbel
          have hLl:L.length≤N:=by have:=hE.len;rw[List.length_take]at this;have:=HAl.out;omega
          have HLl:=jH hLl;rw[HAl.out]at hi;clear hE ho8 hbel
          by_cases hin:i<N
          ·have hii:(i:Int)<(N:Int):=by omega
           have hil:i<A.length:=by rw[HAl.out];exact hin
           obtain⟨g5,hg5, -⟩:=HO7.out.at (by omega);subst hg5
           have HCx:=jH (fun(W:World) (hb:Below w7.heap.size w7 W)=>(show W.cell? ⟨g5,0+i,none⟩=some (.int .i32 A[i])from by
            have:=(HO7.out.below hb jR).cell i (by rw[kCx];exact hil)
            rw[Nat.zero_add,this];simp[ivs]))
           have HTk:=jH (List.take_succ_eq_append_getElem hil)
           obtain⟨x,hx⟩:∃x,x=A[i]:=⟨_,rfl⟩
           rw[←hx]at HCx HTk;clear hx;have hcx:=HCx.out wr HBi.out;simp only[Nat.zero_add]at hcx
           by_cases hx1:x<0
           ·have HSk:=jH (HE.out.skip (.inl hx1));go_wp2
            go_roundw
            case rel=>exact⟨i+1,a8,c8,L,by omega,by go_num,rfl,by rw[HTk.out];exact HSk.out,HO8.out,HBi.out⟩
            case measure=>simp[intOf];omega
           ·by_cases hx2:1114111<x
            ·have HSk:=jH (HE.out.skip (.inr hx2));go_wp2
             go_roundw
             case rel=>exact⟨i+1,a8,c8,L,by omega,by go_num,rfl,by rw[HTk.out];exact HSk.out,HO8.out,HBi.out⟩
             case measure=>simp[intOf];omega
            ·obtain⟨y,rfl⟩:∃y:Nat,x=(y:Nat):=⟨x.toNat,by omega⟩
             have HIns:=jH (fun k hk h1 h2=>HE.out.ins (y:=y) (k:=k) (by omega) hk h1 h2);have hws:w7.heap.size≤wr.heap.size:=HBi.out.size
             go_wp2_with (at_builtin;refine kDl Tryz.elemRun rfl (.tmp 148) (.tmp 149) rfl HO8.out HBi.out.size (by omega) (by omega) _ rfl _ rfl rfl ?_)
             intro a9 c9 w9 ho9 hg9 hn9;have HN9:Hid (Own w7.heap.size 21 w9 a9 (L.length+1) c9 (kPm (kIm L L.length 0))):=jH (by rw[kSe];simpa [kPm,kA2,ivs]using ho9);have HB9:Hid (Below w7.heap.size w7 w9):=jH (HBi.out.trans (kAv hg9 (fun x e=>(World.ownsRow.lt HO8.out x e).1) hws));clear ho9 hg9 hn9 hcx;obtain⟨g9,hg9, -⟩:=HN9.out.at (by omega);subst hg9
             obtain⟨m,hm⟩:∃m,m=L.length:=⟨_,rfl⟩
             have HmL:=jH hm;rw[←hm]at hLl ⊢;clear hm;go_wp2
             go_loopw [10] (EdI w7 g9 c9 L y) (fun i _=>(intOf i).toNat)
             case atStart=>exact⟨L.length,0,Nat.le_refl _,by rw[HmL.out],fun j hj h=>by omega,HN9.out,HB9.out⟩
             case round=>
              clear HN9 HB9;obtain⟨k,u,hk,rfl,hgt,ho,hbel⟩:=hrel
              have HGt:=jH hgt;have HO9:=jH ho;have HBk:=jH hbel
              have hcx:=HCx.out _ hbel;simp only[Nat.zero_add]at hcx
              have hws2:∀nq:Nat,Below wr.heap.size wr (wr.drewN nq):=fun nq=>below_drewN (Below.refl _ _) nq
              have HW2:=jH hws2;clear hws2;have hcm:m=L.length:=HmL.out
              by_cases hk0:k=0
              ·subst hk0
               have hkz:¬(0:Int)<((0:Nat):Int):=by omega
               have HI:=jH (HIns.out 0 (Nat.zero_le _) (fun j hj h=>HGt.out j hj h) (fun m hm=>by omega));clear hgt ho hbel hcm
               go_upto_region 25 with(fail)
               refine wp_region_quiet_lit (by kernel_rfl) (by kernel_rfl) ?_
               iterate 14 (go_big_quiet_step (fail))
               refine wpQuiet_nil ?_;rintro _ ⟨nq,rfl⟩;have HOq:=jH (HO9.out.below (HW2.out nq) jR);have HBq:=jH (below_drewN HBk.out nq);generalize wr.drewN nq=wq at*;clear hcx;have hcx:=HCx.out wq HBq.out;simp only[Nat.zero_add]at hcx
               obtain⟨old,hck⟩:∃old,wq.cell? ⟨g9,0,none⟩=some old:=⟨_,HOq.out.cell 0 (by rw[kD5,kDd _ (Nat.zero_le _)];omega)⟩
               have hfz:=HOq.out.unfrozen 0;have HOs:=jH (HOq.out.store 0 (.int .i32 (y:Nat)));have HBs:=jH (HBq.out.setCell (p:=⟨g9,0,none⟩) (by have:=World.ownsRow.lt HOq.out g9 rfl;exact this.1) (.int .i32 (y:Nat)));go_wp2
               go_roundw
               case rel=>exact⟨i+1,some ⟨g9,0,none⟩,c9,kIm L 0 y,by omega,by go_num,by rw[kDd _ (Nat.zero_le _),HmL.out],by rw[HTk.out];exact HI.out,by rw[kDd _ (Nat.zero_le _)];have:=HOs.out;rw[kLk,kK6 _ _ (Nat.zero_le _)]at this;exact this,HBs.out⟩
               case measure=>simp[intOf];omega
              ·obtain⟨q,hq⟩:∃q,k=q+1:=⟨k - 1,by omega⟩
               have hql:q<L.length:=by omega
               have hk1:(0:Int)<(k:Int):=by omega
               have hki:(k:Int) - 1=(q:Int):=by omega
               have hkd:decide ((0:Int)<(k:Int))=true:=decide_eq_true hk1
               have hk2:0<k:=by omega
               have hkd2:decide (0<k)=true:=decide_eq_true hk2;have HQ:=jH hq;have HQl:=jH hql
               obtain⟨z,hz⟩:∃z,z=L[q]:=⟨_,rfl⟩
               have HZq:=jH hz
               have HCq:=jH (fun(W:World) (h:Own w7.heap.size 21 W (some ⟨g9,0,none⟩) (L.length+1) c9 (kPm (kIm L k u)))=>(show W.cell? ⟨g9,q,none⟩=some (.int .i32 (z:Nat))from by
                have hl:q<(kPm (kIm L k u)).length:=by rw[kD5,kDd _ hk];omega
                rw[h.cell q hl]
                have h2:(kIm L k u)[q]? =some z:=by rw[hq,hz];exact kTq u hql
                have h3:q<(kIm L k u).length:=by rw[kDd _ hk];omega
                rw[List.getElem?_eq_getElem h3]at h2
                rw[kSw _ q h3,Option.some.inj h2]))
               have HDn:=jH (show kIm L k z=kIm L q z by rw[hq,hz];exact kQq hql)
               have hqm1:q<m+1:=by omega
               have hkm1:k<m+1:=by omega
               have hcz:=HCq.out wr HO9.out;clear hz hq hk0 hgt ho hbel hcm
               by_cases hv:y<z
               ·have hv2:(y:Int)<(z:Int):=by omega
                have hd:decide ((y:Int)<(z:Int))=true:=decide_eq_true hv2;have hd2:decide (y<z)=true:=decide_eq_true hv
                have HGn:=jH (fun j (hj:j<L.length) (h:q≤j)=>(show y<L[j]from by
                 by_cases e:j=q
                 ·subst e;have h9:=hv;rw[HZq.out]at h9;exact h9
                 ·exact HGt.out j hj (by have:=HQ.out;omega)))
                go_upto_region 25 with(fail)
                refine wp_region_quiet_lit (by kernel_rfl) (by kernel_rfl) ?_
                iterate 14 (go_big_quiet_step (fail))
                refine wpQuiet_nil ?_;rintro _ ⟨nq,rfl⟩;have HOq:=jH (HO9.out.below (HW2.out nq) jR);have HBq:=jH (below_drewN HBk.out nq);generalize wr.drewN nq=wq at*;clear hcx hcz;have hcz:=HCq.out wq HOq.out
                obtain⟨old,hck⟩:∃old,wq.cell? ⟨g9,k,none⟩=some old:=⟨_,HOq.out.cell k (by rw[kD5,kDd _ hk];omega)⟩
                have hfz:=HOq.out.unfrozen k;have HOs:=jH (HOq.out.store k (.int .i32 (z:Nat)));have HBs:=jH (HBq.out.setCell (p:=⟨g9,k,none⟩) (by have:=World.ownsRow.lt HOq.out g9 rfl;exact this.1) (.int .i32 (z:Nat)));go_wp2
                go_roundw
                case rel=>exact⟨q,z,by have:=HQl.out;omega,by go_num,HGn.out,by have:=HOs.out;rw[kLk,kK6 _ _ hk,HDn.out]at this;exact this,HBs.out⟩
                case measure=>simp[intOf];omega
               ·have hv2:¬(y:Int)<(z:Int):=by omega
                have hd:decide ((y:Int)<(z:Int))=false:=decide_eq_false hv2;have hd2:decide (y<z)=false:=decide_eq_false hv
                have HI:=jH (HIns.out k hk (fun j hj h=>HGt.out j hj h) (fun m hm hl=>by
                 have e:m=q:=by have:=HQ.out;omega
                 subst e;have h9:=Nat.not_lt.1 hv;rw[HZq.out]at h9
                 exact h9))
                go_upto_region 25 with(fail)
                refine wp_region_quiet_lit (by kernel_rfl) (by kernel_rfl) ?_
                iterate 14 (go_big_quiet_step (fail))
                refine wpQuiet_nil ?_;rintro _ ⟨nq,rfl⟩;have HOq:=jH (HO9.out.below (HW2.out nq) jR);have HBq:=jH (below_drewN HBk.out nq);generalize wr.drewN nq=wq at*;clear hcx hcz;have hcx:=HCx.out wq HBq.out;simp only[Nat.zero_add]at hcx
                obtain⟨old,hck⟩:∃old,wq.cell? ⟨g9,k,none⟩=some old:=⟨_,HOq.out.cell k (by rw[kD5,kDd _ hk];omega)⟩
                have hfz:=HOq.out.unfrozen k;have HOs:=jH (HOq.out.store k (.int .i32 (y:Nat)));have HBs:=jH (HBq.out.setCell (p:=⟨g9,k,none⟩) (by have:=World.ownsRow.lt HOq.out g9 rfl;exact this.1) (.int .i32 (y:Nat)));go_wp2
                go_roundw
                case rel=>exact⟨i+1,some ⟨g9,0,none⟩,c9,kIm L k y,by omega,by go_num,by rw[kDd _ hk,HmL.out],by rw[HTk.out];exact HI.out,by rw[kDd _ hk];have:=HOs.out;rw[kLk,kK6 _ _ hk]at this;exact this,HBs.out⟩
                case measure=>simp[intOf];omega
          ·have hii:¬(i:Int)<(N:Int):=by omega
           have hin2:i=N:=by omega
           have HEn:=jH (show ETo A L from by have:=HE.out;rw[hin2,←HAl.out,List.take_length]at this;exact this);have HB9:=jH (HBe7.out.trans (HBi.out.mono HBe7.out.size));go_wp2
           go_ret
           exact⟨HB9.out,a8,c8,L,rfl,by rw[←HAe.out];exact HEn.out,HO8.out.ints⟩
end Go.Proofs.YtbmphakfgoompaaGreat
