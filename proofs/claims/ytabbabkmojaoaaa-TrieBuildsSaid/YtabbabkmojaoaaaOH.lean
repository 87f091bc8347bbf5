/- several texts in one: LMS UNS CUS FCS -/
import Derived.Test.YtabbabkmojaoaaaNS
import Derived.Test.YtabbabkmojaoaaaOG
import Derived.Test.YtabbabkmojaoaaaNT
import Derived.Test.YtabbabkmojaoaaaNK
import Derived.Test.YtabbabkmojaoaaaNH
import Derived.Test.YtabbabkmojaoaaaOD
import Derived.Test.YtabbabkmojaoaaaNF
import Derived.Laws.Cover3
import Derived.Test.YtabbabkmojaoaaaNL
set_option linter.unusedVariables false
set_option linter.unusedSimpArgs false
set_option maxRecDepth 100000
set_option maxHeartbeats 16000000
namespace Go.Proofs.Ytabbabkmojaoaaa.VS
open Go.RowKit
theorem kIl {F:Nat→Int}{f:Nat→El}{of:Int→El}{N:Nat}(hf:∀r,r<N→f r=of (F r))(k:Nat)(hk:64*(k+1)≤N):blkF f k=(Go.Proofs.Ytabbabkmojaoaaa.blkF F k).map of:=by
 apply List.ext_getElem
 ·simp[blkF,Go.Proofs.Ytabbabkmojaoaaa.blkF]
 ·intro i h1 h2;simp[blkF]at h1;simp[blkF,Go.Proofs.Ytabbabkmojaoaaa.blkF,hf (64*k+i) (by omega)]
theorem kH8 {F:Nat→Int}{f:Nat→El}{of:Int→El}{N:Nat}(hi:kKn of)(hf:∀r,r<N→f r=of (F r))(hr:∀r,r<N→kI7 (F r)):∀k,64*k≤N→mkF f k=kMl of (Go.Proofs.Ytabbabkmojaoaaa.mkF F k)∧∀l∈(Go.Proofs.Ytabbabkmojaoaaa.mkF F k).lows,∀x∈l,kI7 x
 | 0,_=>⟨rfl,fun l hl=>by cases hl⟩
 | k+1,hk=>by
  obtain⟨h1,h2⟩:=kH8 hi hf hr k (by omega)
  have hb:∀x∈Go.Proofs.Ytabbabkmojaoaaa.blkF F k,kI7 x:=fun x hx=>by
   simp only[Go.Proofs.Ytabbabkmojaoaaa.blkF,List.mem_map,List.mem_range]at hx;obtain⟨i,hi,rfl⟩:=hx;exact hr _ (by omega)
  rw[mkF,Go.Proofs.Ytabbabkmojaoaaa.mkF,h1,kIl hf k (by omega)];exact⟨kKo hi hb h2,kJo hb h2⟩
theorem lkOk {F:Nat→Int}{f:Nat→El}{of:Int→El}{S:MkS El}{N M:Nat}(hN:N=1114112)(hM:M=17408)(hS:kBu f S)(hi:kKn of)(hf:∀r,r<N→f r=of (F r))(hr:∀r,r<N→0≤F r∧F r≤255):kK2 (kA1 S) (Go.Proofs.Ytabbabkmojaoaaa.mkF F M) F of N:=by
 obtain⟨K,hK,hSe⟩:=hS.eq;obtain⟨h1,h2⟩:=kH8 hi hf hr M (by omega)
 have hSM:S=kMl of (Go.Proofs.Ytabbabkmojaoaaa.mkF F M):=by rw[hSe,show K=M by omega,h1]
 refine⟨hS.trie,hS.pos.1,?_,?_,?_,fun r hr'=> ?_,hr,hi,h2⟩
 ·show S.top=_
  rw[hSM];rfl
 ·show S.mids=_
  rw[hSM];rfl
 ·show S.lows=_
  rw[hSM];rfl
 ·rw[hS.look r (by omega),hf r hr']
end Go.Proofs.Ytabbabkmojaoaaa.VS

namespace Go.Proofs.Ytabbabkmojaoaaa.VS
open Go.RowKit
theorem kCv {P:Program}{o:Oper}{a:Act}{w:World}(ty:TypeId)(x y:Operand)(ok:Bool)(ho:o.op= .lookup ty x y ok)(xv yv v:Value)(hx:a.eval x=xv)(hy:a.eval y=yv)(hr:(Instr.lookup ty xv yv ok).run P w= .ok v w):(execOp a.eval o).run P w= .ok (.value v) w:=by
 unfold execOp;simp only[ho,hx,hy,Sem.run_bind,Sem.run_pure,Result.andThen_ok,hr]
def UnL (eqB:El→El→Bool) (L:List (List El)) (n:Nat):Prop:=∀k (h:k<L.length),k<n→kAo eqB L[k] (L.take k)=none
def UnR (w:World) (L:List (List El)) (i:Value) (wr:World):Prop:=∃k:Nat,k≤L.length∧i= .int .i64 (k:Nat)∧UnL (fun a b=>decide (a=b)) L k∧kBw val8 (fun _=> .int .i64 1) wr w.heap.size (L.take k)∧Below w.heap.size w wr
theorem unlike_walk (w:World)(a:Option Addr)(n c:Nat)(L:List (List El))(hn:L.length=n)(hn2:n≤1048576)(hl:∀l∈L,l.length=64)(h:kAg val8 64 w a L):
  Calls Try.prog 130 #[.slice a n c] w fun e w'=>(e= .returned (.bool true)∧Below w.heap.size w w'∧UnL (fun a b=>decide (a=b)) L n)∨(e= .returned (.bool false)∧Below w.heap.size w w'∧¬UnL (fun a b=>decide (a=b)) L n):=by
 have HN:=jH hn;clear hn
 have HLl:=jH hl;clear hl
 have HA:=jH h;clear h
 go_enter Try.func130,Try.ntmps130
 go_upto_region 1 with(fail)
 refine wp_region_list ?_;refine kAc (v:= .map (some w.heap.size)) (w':=w.alloc (.map #[] 0)) rfl (by kernel_rfl) ?_;have hA0:=jN w (.map #[] 0);have hB0:Below w.heap.size w (w.alloc (.map #[] 0)):=(Below.refl _ _).alloc jR _;have hz0:=World.size_alloc w (.map #[] 0)
 obtain⟨b0,hb0⟩:∃b0,b0=w.heap.size:=⟨_,rfl⟩
 rw[←hb0];have HB0:=jH hB0;have HA0:Hid (kBw val8 (fun _=> .int .i64 1) (w.alloc (.map #[] 0)) w.heap.size (L.take 0)):=jH hA0;have HBz:=jH hb0;clear hA0 hB0 hz0 hb0;generalize w.alloc (.map #[] 0)=w1 at*;go_wp2
 go_loopw [9] (UnR w L) (fun i _=>n - (intOf i).toNat)
 case atStart=>exact⟨0,Nat.zero_le _,rfl,fun k h hk=>by omega,HA0.out,HB0.out⟩
 case round=>
  obtain⟨k,hk,rfl,hun,hmap,hbel⟩:=hrel
  have HUn:=jH hun;clear hun
  have HMp:=jH hmap;clear hmap
  have HBe:=jH hbel;clear hbel
  by_cases hkn:k<n
  ·have hki:(k:Int)<(n:Int):=by omega
   have hkl:k<L.length:=by rw[HN.out];exact hkn
   obtain⟨ba,oa,ha⟩:=HA.out.some (by omega);subst ha;have HR:Hid (wr.rangeAt ba (oa+k*64) (kAf val8 L[k])):=jH (kAs (HA.out.get k hkl) HBe.out jR);have hl64:(L[k]).length=64:=HLl.out _ (List.getElem_mem hkl);have HTk:Hid (L.take (k+1)=L.take k++[L[k]]):=jH (List.take_succ_eq_append_getElem hkl)
   have HUs:Hid (kAo (fun a b=>decide (a=b)) L[k] (L.take k)=none→UnL (fun a b=>decide (a=b)) L (k+1)):=jH (fun h j hj hj2=>by
    by_cases e:j=k
    ·subst e;exact h
    ·exact HUn.out j hj (by omega))
   have HUf:Hid (¬kAo (fun a b=>decide (a=b)) L[k] (L.take k)=none→¬UnL (fun a b=>decide (a=b)) L n):=jH (fun h h2=>h (h2 k hkl hkn));generalize L[k]=l at*
   have hbs:(kAf val8 l).length=64:=by rw[kAh (sz:=1) (fun _=>rfl),hl64]
   have hlt:(L.take k).length=k:=by rw[List.length_take];omega
   have HLt:Hid (∀m∈L.take k,m.length=64):=jH (fun m hm=>HLl.out m (List.mem_of_mem_take hm))
   go_upto_region 4 with(fail)
   refine wp_region_list ?_;refine kAc (v:= .pointer (some ⟨ba,oa+k*64,none⟩)) (w':=wr) rfl (by go_simp) ?_;refine wpList_load_mid rfl 122 (.tmp 11) rfl ba (oa+k*64) rfl (kAf val8 l) (.array 64 9) HR.out Try.underlying122 rfl (by rw[hbs];kernel_rfl) ?_;refine kAc (v:= .pointer (some ⟨wr.heap.size,0,none⟩)) (w':=wr.alloc (.cells (kAf val8 (List.replicate 64 (ByteArray.empty:El))).toArray 122)) rfl (by kernel_rfl) ?_
   obtain⟨b7,hb7⟩:∃b7,b7=wr.heap.size:=⟨_,rfl⟩
   have hA1:=jN wr (.cells (kAf val8 (List.replicate 64 (ByteArray.empty:El))).toArray 122);have hB1:Below wr.heap.size wr (wr.alloc (.cells (kAf val8 (List.replicate 64 (ByteArray.empty:El))).toArray 122)):=(Below.refl _ _).alloc jR _;rw[←hb7]at hA1 hB1 ⊢;generalize wr.alloc (.cells (kAf val8 (List.replicate 64 (ByteArray.empty:El))).toArray 122)=v1 at*;refine wpList_store_row rfl 122 (.tmp 5) (.tmp 12) rfl b7 (kAf val8 l).toArray rfl rfl 122 _ hA1 (by rw[List.size_toArray,hbs];kernel_rfl) (by rw[List.size_toArray,List.size_toArray,hbs,kAh (sz:=1) (fun _=>rfl)];rfl) (all_oneCell_toArray (fun u hu=>kB6 l u (by simpa using hu))) ?_;have hA2:=setRow_heap v1 b7 _ (kAf val8 l).toArray _ _ hA1
   have hB2:Below b7 wr (v1.setRow b7 (kAf val8 l).toArray):=⟨hB1.os,hB1.tape,hB1.output,by rw[setRow_size];exact hB1.size,fun k hk=>by rw[setRow_other v1 b7 k _ (by omega)];exact hB1.block k hk⟩
   generalize v1.setRow b7 (kAf val8 l).toArray=v2 at*
   have HR2:Hid (v2.rangeAt b7 0 (kAf val8 l)):=jH (by
    have:=World.rangeAt_of_block hA2 0 (kAf val8 l).length
    simpa using this)
   have hmb:w.heap.size<wr.heap.size:=(jL HMp.out)
   have HMp2:Hid (kBw val8 (fun _=> .int .i64 1) v2 w.heap.size (L.take k)):=jH ((hB2.block _ (by omega)).trans HMp.out);have HB2:Hid (Below w.heap.size w v2):=jH (HBe.out.trans (hB2.mono (by omega)));have HB7:=jH hb7;clear hA1 hB1 hA2 hB2 hb7 v1 HR HMp HBe
   obtain⟨u,hu⟩:∃u:Int,u=(if kAo (fun a b=>decide (a=b)) l (L.take k)=none then 0 else 1):=⟨_,rfl⟩
   have HLk:Hid ((Instr.lookup 252 (.map (some w.heap.size)) (kEn val8 l) false).run Try.prog v2= .ok (.int .i64 u) v2):=jH (by
    rw[Try.k8.lookupG (te:=3) Try.underlying252 (z:= .int .i64 0) (fun w=>by kernel_rfl) HMp2.out l hl64 HLt.out false,hu]
    cases kAo (fun a b=>decide (a=b)) l (L.take k)<;>rfl)
   have hbz:w.heap.size=b0:=HBz.out.symm;rw[hbz]at HLk
   have HU:=jH hu;clear hu
   go_upto_region 5 with(fail)
   refine wp_region_list ?_;refine kAc (v:= .map (some b0)) (w':=v2) rfl (by rfl) ?_;refine wpList_load_mid rfl 122 (.tmp 5) rfl b7 0 (by first | rfl | (rw[HB7.out];rfl)) (kAf val8 l) (.array 64 9) HR2.out Try.underlying122 rfl (by rw[hbs];kernel_rfl) ?_;refine kAc (v:= .int .i64 u) (w':=v2) rfl (kCv 252 (.tmp 13) (.tmp 14) false rfl (.map (some b0)) (kEn val8 l) _ rfl rfl HLk.out) ?_
   by_cases hf:kAo (fun a b=>decide (a=b)) l (L.take k)=none
   ·have hu0:u=0:=by rw[HU.out,if_pos hf]
    have HF:=jH hf;clear hf
    have HU2:=jH (HUs.out HF.out);have HSt:=jH (Try.k8.storeG Try.underlying252 (te:=3) HMp2.out l hl64 HLt.out HF.out (.int .i64 1) rfl)
    have HMp3:Hid (kBw val8 (fun _=> .int .i64 1) (kG8 v2 w.heap.size (.map (kDd val8 (fun _=> .int .i64 1) 0 (L.take k++[l])).toArray (L.take k++[l]).length)) w.heap.size (L.take (k+1))):=jH (by
     rw[HTk.out]
     exact kE7 v2 _ (jL HMp2.out))
    have HB3:Hid (Below w.heap.size w (kG8 v2 w.heap.size (.map (kDd val8 (fun _=> .int .i64 1) 0 (L.take k++[l])).toArray (L.take k++[l]).length))):=jH (HB2.out.trans (kGz v2 _ _ jR));rw[hbz]at HSt HMp3 HB3;generalize (kG8 v2 b0 (.map (kDd val8 (fun _=> .int .i64 1) 0 (L.take k++[l])).toArray (L.take k++[l]).length))=v3 at*;subst hu0;clear hbz
    go_upto_region 7 with(fail)
    refine wp_region_list ?_;refine kAc (v:= .map (some b0)) (w':=v2) rfl (by rfl) ?_;refine wpList_load_mid rfl 122 (.tmp 5) rfl b7 0 (by first | rfl | (rw[HB7.out];rfl)) (kAf val8 l) (.array 64 9) HR2.out Try.underlying122 rfl (by rw[hbs];kernel_rfl) ?_;refine kAz rfl 252 (.tmp 17) (.tmp 18) (.const (.int .i64 1)) rfl (.map (some b0)) (kEn val8 l) (.int .i64 1) rfl rfl rfl HSt.out ?_;go_wp2
    go_roundw
    case rel=>exact⟨k+1,by omega,by go_num,HU2.out,by rw[HBz.out]at HMp3;exact HMp3.out,by rw[HBz.out]at HB3;exact HB3.out⟩
    case measure=>simp[intOf];omega
   ·have hu1:u=1:=by rw[HU.out,if_neg hf]
    have HF:=jH (HUf.out hf);clear hf
    subst hu1;go_wp2
    go_ret
    exact .inr ⟨rfl,HB2.out,HF.out⟩
  ·obtain rfl:k=n:=by have:=HN.out;omega
   have hki:¬(k:Int)<(k:Int):=by omega
   go_wp2
   go_ret
   exact .inl ⟨rfl,HBe.out,HUn.out⟩
end Go.Proofs.Ytabbabkmojaoaaa.VS

namespace Go.Proofs.Ytabbabkmojaoaaa.VS
open Go.RowKit
attribute [local go_sem] Oper.semAt_some
def kKt (b o:Nat) (q:Nat):Array Value:= #[.slice (some ⟨b,o+64*q,none⟩) 64 64]
theorem kEy (a:Option Addr)(n c:Nat)(w:World):Calls Try.prog 144 #[.slice a n c,.int .i64 64] w fun e w'=>e= .returned (.func (.func 151) #[] #[.pointer (some ⟨w.heap.size,0,none⟩),.pointer (some ⟨w.heap.size+1,0,none⟩)])∧
  w'.cell? ⟨w.heap.size,0,none⟩=some (.slice a n c)∧w'.cell? ⟨w.heap.size+1,0,none⟩=some (.int .i64 64)∧Below w.heap.size w w'∧w'.heap.size=w.heap.size+2:=by
 have HA:=jH (jN w (.cells #[.slice a n c] 165));have HB:=jH ((Below.refl _ w).alloc jR (.cells #[.slice a n c] 165));have HS:=jH (World.size_alloc w (.cells #[.slice a n c] 165))
 go_enter Try.func144,Try.ntmps144
 go_wp2
 go_ret
 generalize w.alloc (.cells #[.slice a n c] 165)=w1 at*;have c0:=jK _ w.heap.size 0 _ _ (0,0) HA.out;have hA:=(Below.refl _ w1).alloc jR (.cells #[.int .i64 64] 3);have c1:=jK _ w1.heap.size 0 _ _ (0,0) (jN w1 (.cells #[.int .i64 64] 3));have hs:=HS.out;refine⟨by simp[hs],(hA.cell (p:=⟨w.heap.size,0,none⟩) (by show w.heap.size<_;omega)).trans c0,by rw[←hs];exact c1,HB.out.trans (hA.mono (by omega)),by simp;omega⟩
def ChR (J:(Nat→Prop)→List Nat→World→Prop) (w:World) (K b2 b3:Nat) (i:Value) (wr:World) (sl n64:Value):Prop:=
 ∃q,q≤K∧i= .int .i64 ((64*q:Nat):Int)∧J (fun _=>False) (List.range q) wr∧wr.cell? ⟨b2,0,none⟩=some sl∧wr.cell? ⟨b3,0,none⟩=some n64
theorem kDk (b o c K:Nat)(hK:K≤1048576)(hc:64*K≤c)(hc2:c≤maxLen)(b2 b3:Nat)(R:Nat→Prop)(w:World)(hR1:R b2)(hR2:R b3)
  (c1:w.cell? ⟨b2,0,none⟩=some (.slice (some ⟨b,o,none⟩) (64*K) c))(c2:w.cell? ⟨b3,0,none⟩=some (.int .i64 64)):
  kM6 Try.prog 151 #[.pointer (some ⟨b2,0,none⟩),.pointer (some ⟨b3,0,none⟩)] (kKt b o) R (fun xs=>xs=List.range K) (fun pre=>∃q,q≤K∧pre=List.range q) K w:=by
 intro l J Jx W hW hJ hJx hY h1;refine callsIn_wide.2 ?_;have HY:=jH hY;have HJ:=jH hJ;have d1:=(hW.cell (p:=⟨b2,0,none⟩) (World.block_lt_of_cell? w _ c1)).trans c1;have d2:=(hW.cell (p:=⟨b3,0,none⟩) (World.block_lt_of_cell? w _ c2)).trans c2;have H1:=jH h1
 have D1:=jH d1;have D2:=jH d2
 have HRr:=jH (And.intro hR1 hR2);clear hJ hJx hY h1 hW c1 c2 d1 d2 hR1 hR2
 go_enter Try.func151,Try.ntmps151
 go_wp2
 go_loopw [4] (fun i wr=>ChR J w K b2 b3 i wr (.slice (some ⟨b,o,none⟩) (64*K) c) (.int .i64 64)) (fun i _=>64*K - (intOf i).toNat)
 case atStart=>exact⟨0,Nat.zero_le _,rfl,H1.out,D1.out,D2.out⟩
 case round=>
  obtain⟨q,hq,rfl,hj,e1,e2⟩:=hrel
  have HJq:=jH hj;clear hj
  obtain⟨n,hn⟩:∃n,n=64*K:=⟨_,rfl⟩
  obtain⟨p,hp⟩:∃p,p=64*q:=⟨_,rfl⟩
  rw[←hn]at e1;rw[←hp]
  have E1:=jH e1;have E2:=jH e2
  by_cases hqn:q<K
  ·have hpi:(p:Int)<(n:Int):=by omega
   have hpn:p≤n:=by omega
   have hnc:n≤c:=by omega
   have hcm:c≤9223372036854775807:=by unfold maxLen at hc2;exact hc2
   have HPq:=jH (And.intro hn hp);clear hn hp
   have hnm:¬((n:Int) - (p:Int)<64):=by have:=HPq.out;omega
   have dnm:decide ((n:Int) - (p:Int)<64)=false:=decide_eq_false hnm
   have hnm2:¬(((n - p:Nat):Int)<64):=by have:=HPq.out;omega
   have dnm2:decide (((n - p:Nat):Int)<64)=false:=decide_eq_false hnm2
   have hcp:¬c=p:=by omega
   have hmn:∀(w:World) (ts:Array TypeId) (t:TypeId),(Builtin.min_ ts t #[.int .i64 64,.int .i64 ((n - p:Nat):Int)]).run Try.prog w= .ok (.int .i64 64) w:=fun w ts t=>by
    rw[run_min_int2,if_neg hnm2]
   go_wp2
   go_quiet (fail)
   have e3:(wr.drewN nq).cell? ⟨b2,0,none⟩=some (.slice (some ⟨b,o,none⟩) n c):=e1;have e4:(wr.drewN nq).cell? ⟨b3,0,none⟩=some (.int .i64 64):=e2;have hj2:J (fun _=>False) (List.range q) (wr.drewN nq):=HJ.out _ _ _ _ _ HJq.out ⟨rfl,rfl,rfl,Nat.le_refl _,fun _ _ _=>rfl⟩ (kB4.refl _ _ _);generalize wr.drewN nq=W1 at*;clear e1 e2 E1 E2 HJq hmn;obtain⟨fn,tmps,assign,body,hy,hR⟩:=HY.out (fun _=>False) (List.range q) q W1 hj2 (by rw[List.length_range];exact hqn) ⟨q+1,hqn,List.range_succ.symm⟩
   dsimp only[kKt]at hy
   rw[←HPq.out.2]at hy;rw[←List.range_succ]at hR
   have HRy:=jH hR;clear hR hj2
   have E3:=jH e3;have E4:=jH e4
   have h64a:(p:Int)+64≤(c:Int):=by have:=HPq.out;omega
   have h64n:p+64≤c:=by omega
   have hpz:(0:Int)≤(p:Int)+64:=by omega
   have hpp:(p:Int)≤(p:Int)+64:=by omega
   go_upto_region 4 with(fail)
   refine(wpIn_wide (n:=2)).1 ?_
   gi_wp2
   refine HRy.out.mono ?_
   rintro e W3 (⟨rfl,hJ3,hk3⟩ | ⟨rfl,hx3,hk3⟩)
   ·have HJ3:=jH hJ3;have f3:=jH (hk3.cell E3.out (.inr HRr.out.1));have f4:=jH (hk3.cell E4.out (.inr HRr.out.2))
    have hq1:(p:Int)+64=((64*(q+1):Nat):Int):=by have:=HPq.out;omega
    have HQ1:=jH hq1;clear hq1
    have e4':=f4.out;clear hJ3 hk3 hy e3 e4
    gi_wp2
    go_wp2
    go_roundw
    case rel=>exact⟨q+1,by omega,by rw[←HQ1.out],HJ3.out,by rw[←HPq.out.1];exact f3.out,f4.out⟩
    case measure=>simp[intOf];have:=HPq.out;omega
   ·have HX3:=jH hx3;clear hx3 hk3 hy e3 e4
    gi_wp2
    go_wp2
    refine jS (results_none rfl _ _ _) rfl ?_;exact⟨⟨_,rfl⟩,.inr ⟨_,_,⟨_,hqn,rfl⟩,HX3.out⟩⟩
  ·obtain rfl:q=K:=by omega
   have hpi:¬(p:Int)<(n:Int):=by omega
   clear hn hp E1 E2;go_wp2
   go_end0
   exact⟨⟨_,rfl⟩,.inl ⟨fun _=>False,HJq.out⟩⟩
def ckL (zs:List El) (q:Nat):List El:=(zs.drop (64*q)).take 64
def cksL (zs:List El) (K:Nat):List (List El):=(List.range K).map (ckL zs)
theorem ckL_length (zs:List El)(K q:Nat)(hz:zs.length=64*K)(hq:q<K):(ckL zs q).length=64:=by
 unfold ckL;rw[List.length_take,List.length_drop];omega
theorem kIn (zs:List El)(q j:Nat)(hj:j<64):(ckL zs q)[j]? =zs[64*q+j]? :=by
 unfold ckL;simp[List.getElem?_take,hj]
theorem kE4 (zs:List El)(K:Nat):cksL zs (K+1)=cksL zs K++[ckL zs K]:=by
 unfold cksL;rw[List.range_succ,List.map_append]
 rfl
theorem cksL_length (zs:List El)(K:Nat):(cksL zs K).length=K:=by simp[cksL]
structure CuI (w:World) (z bo:Nat) (zs:List El) (T:Nat→Prop) (pre:List Nat) (W:World):Prop where
 bel:Below w.heap.size w W
 tn:∀k,T k→bo<k∧k<W.heap.size
 q:pre=List.range pre.length
 row:∃a c,W.heap[bo]? =some (.cells #[.slice a pre.length c] 121 (0,0))∧W.ownsRow w.heap.size 122 64 (.slice a pre.length c) pre.length ((cksL zs pre.length).flatMap (kAf val8))∧∀k,(Value.slice a pre.length c).ownBlock=some k→¬T k∧z≤k
 sz:z≤W.heap.size
theorem CuI.abide (w:World)(z bo:Nat)(zs:List El)(hbo:w.heap.size≤bo):kD8 (CuI w z bo zs):=by
 rintro T T' pre W W' ⟨h1,h2,h3,⟨a,c,h4,h5,h6⟩,h7⟩ ho hw
 have hl:=(jL h4)
 refine⟨h1.trans (ho.below _ h1.size (fun k hk=>by have:=(h2 k hk).1;omega)),fun k hk=> ?_,h3,⟨a,c,ho.cellsBlock h4 (fun h=>Nat.lt_irrefl _ (h2 _ h).1),kF6 h5 ho (fun k e=>(h6 k e).1),fun k e=>⟨fun ht=> ?_,(h6 k e).2⟩⟩,Nat.le_trans h7 ho.size⟩
 ·rcases hw k hk with h | h
  ·have:=h2 k h;have:=ho.size;omega
  ·omega
 ·rcases hw k ht with h | h
  ·exact(h6 k e).1 h
  ·have:=(World.ownsRow.lt h5 k e).2;omega
theorem cut_walk (w:World)(b o c K:Nat)(zs:List El)(hK:K≤1048576)(hc:64*K≤c)(hc2:c≤maxLen)(hz:zs.length=64*K)(hr:w.rangeAt b o (kAf val8 zs))(hb:b<w.heap.size):
  Calls Try.prog 126 #[.slice (some ⟨b,o,none⟩) (64*K) c] w fun e w'=>∃a c',e= .returned (.slice a K c')∧w'.ownsRow w.heap.size 122 64 (.slice a K c') K ((cksL zs K).flatMap (kAf val8))∧Below w.heap.size w w':=by
 have HR:=jH hr;clear hr
 have hA1:=jN w (.cells #[.slice none 0 0] 121);have hB1:=(Below.refl _ w).alloc jR (.cells #[.slice none 0 0] 121);have hz1:=World.size_alloc w (.cells #[.slice none 0 0] 121)
 have HA1:=jH hA1;have HB1:=jH hB1;have HZ1:=jH hz1
 clear hA1 hB1 hz1
 obtain⟨bo,hbo⟩:∃bo,bo=w.heap.size:=⟨_,rfl⟩
 refine kB8 Try.func126 rfl ?_;simp only[Try.ntmps126,List.size_toArray,List.length_cons,List.length_nil,Nat.reduceAdd,Nat.reduceSub,Array.replicate_succ,Array.replicate_zero,List.push_toArray,List.append_toArray,List.nil_append,List.cons_append]
 go_wp2_with fail
 generalize w.alloc (.cells #[.slice none 0 0] 121)=w1 at*;refine(kEy (some ⟨b,o,none⟩) (64*K) c w1).mono ?_;rintro e w2 ⟨rfl,c2,c3,hb2,hz2⟩;have HZ2:=jH hz2;have HSt:=jH (kDk b o c K hK hc hc2 w1.heap.size (w1.heap.size+1) (fun k=>k<w2.heap.size∧k≠bo) w2 ⟨by omega,by have:=HZ1.out;omega⟩ ⟨by omega,by have:=HZ1.out;omega⟩ c2 c3);have HB2:=jH hb2;have HI0:Hid (CuI w w2.heap.size bo zs (fun _=>False) [] w2):=jH ⟨HB1.out.trans (hb2.mono HB1.out.size),fun _ h=>h.elim,rfl,⟨none,0,by rw[hbo];exact(hb2.block _ (by have:=HZ1.out;omega)).trans HA1.out,World.ownsRow_nil _ _ _ _,fun k e=>by cases e⟩,Nat.le_refl _⟩;have HBo:=jH hbo;clear c2 c3 hb2 hz2;rw[←hbo];clear hbo;go_wp2
 refine kDg (gf:=151) (lb:= #[.pointer (some ⟨w1.heap.size,0,none⟩),.pointer (some ⟨w1.heap.size+1,0,none⟩)]) rfl (enters_of Try.func151 (by kernel_rfl) rfl) HSt.out (Below.refl _ _) (fun k hk=>hk.1) (fun _=>rfl)
  (CuI w w2.heap.size bo zs) (fun _ _ _ _=>False) (CuI.abide w _ bo zs (by rw[HBo.out];exact Nat.le_refl _)) (fun _ _ _ _ _ _ h=>h.elim) HI0.out
  (fun tmps T q a' W=>a'={tmps:=(tmps.setIfInBounds 7 (.slice (some ⟨b,o+64*q,none⟩) 64 64)).setIfInBounds 4 (.slice (some ⟨b,o+64*q,none⟩) 64 64),defers:=[]}) (fun T x a' W W' h ho=>h) ?assign ?body ?done ?stop
 case stop=>
  rintro D c T pre W - - - h;exact h.elim
 case assign=>
  rintro l T pre x W K hi hK
  have HK:=jH hK;clear hK
  simp only[kKt]
  gi_wp2
  exact HK.out _ _ (kDc.refl _ _ _) hi rfl
 case body=>
  rintro lp Tt pre q a' W hTl hl - hst hA hlen ⟨q',hq',hpq⟩;subst hA
  have hq:q=pre.length∧q<K:=by
   have h1:=hst.q
   have h2:pre.length+1=q':=by have:=congrArg List.length hpq;simpa using this
   rw[←h2,List.range_succ]at hpq;obtain⟨h3,h4⟩:=List.append_inj' hpq rfl
   have h5:q=pre.length:=by simpa using h4
   exact⟨h5,by omega⟩
  obtain⟨hq1,hqK⟩:=hq;clear hpq hq' hlen;obtain⟨hbel,htn,hpre,⟨a0,c0,hcell,hown,hblk⟩,hsz⟩:=hst;rw[←hq1]at hcell hown hblk
  have HBe:=jH hbel;have HTn:=jH htn;have HPr:=jH hpre;have HCe:=jH hcell;have HOw:=jH hown;have HBk:=jH hblk;have HQ:=jH hq1
  have HRk:Hid (W.rangeAt b (o+64*q) (kAf val8 (ckL zs q))):=jH (fun j v hv=>by
   rw[kA7,List.getElem?_map]at hv
   have hj:j<64:=by
    by_cases hj:j<64
    ·exact hj
    ·rw[List.getElem?_eq_none (by rw[ckL_length zs K q hz hqK];omega)]at hv;cases hv
   rw[kIn zs q j hj]at hv;have h1:=HR.out (64*q+j) v (by rw[kA7,List.getElem?_map];exact hv);rw[Nat.add_assoc]
   exact(HBe.out.cell (p:=⟨b,o+(64*q+j),none⟩) hb).trans h1)
  have hcl:=ckL_length zs K q hz hqK;have HSu:=jH (kE4 zs q);clear hbel htn hpre hcell hown hblk hq1;generalize ckL zs q=l at*
  have hbs:(kAf val8 l).length=64:=by rw[kAh (sz:=1) (fun _=>rfl),hcl]
  have p0:W.cell? ⟨bo,0,none⟩=some (.slice a0 q c0):=jK W bo 0 _ _ (0,0) HCe.out;have hbw:b<W.heap.size:=Nat.lt_of_lt_of_le hb HBe.out.size
  have hbob:bo≠b:=by rw[HBo.out];omega
  simp only[List.setIfInBounds_toArray,List.set_cons_zero,List.set_cons_succ]
  gi_wp2
  refine kAi [6] (fun w':World=>w'.cell? ⟨bo,0,none⟩=some (.slice a0 q c0)∧w'.rangeAt b (o+64*q) (kAf val8 l)) (by kernel_rfl) ?_;have HCx:Hid ((fun w':World=>w'.cell? ⟨bo,0,none⟩=some (.slice a0 q c0)∧w'.rangeAt b (o+64*q) (kAf val8 l)) W.drew):=jH ⟨p0,HRk.out⟩;have HO3:Hid (W.drew.ownsRow w.heap.size 122 64 (.slice a0 q c0) q ((cksL zs q).flatMap (kAf val8))):=jH (World.ownsRow.drew HOw.out);have HD:Hid (Below W.heap.size W W.drew):=jH (Below.refl _ W).drew;clear p0;generalize W.drew=w3 at*;have hw3:w.heap.size≤w3.heap.size:=Nat.le_trans HBe.out.size HD.out.size;refine' kAd (i:=0) (v:=_) [5,6] (by kernel_rfl) rfl (by kernel_rfl) (fun _ _ _ h=>h) (by rfl) (by rintro w' ⟨c0,c1⟩;go_simp;try with_reducible rfl) HCx.out ?_;simp only[jA,jB,jC,Act.put,jD,jE,jF];refine' kAd (i:=1) (v:=_) [2,3,4,5,6] (by kernel_rfl) rfl (by kernel_rfl) (fun _ _ _ h=>h) (by rfl) (by rintro w' ⟨c0,c1⟩;go_simp;try with_reducible rfl) HCx.out ?_;simp only[jA,jB,jC,Act.put,jD,jE,jF];refine' kAd (i:=2) (v:= .pointer (some ⟨b,o+64*q,none⟩)) [3,4,5,6] (by kernel_rfl) rfl (by kernel_rfl) (fun _ _ _ h=>h) (by rfl) (by rintro w' ⟨c0,c1⟩;have ha:=run_arrayAt (P:= Try.prog) w' 122 9 64 (some ⟨b,o+64*q,none⟩) 64 64 Try.underlying122 jR;go_simp;try with_reducible rfl) HCx.out ?_;simp only[jA,jB,jC,Act.put,jD,jE,jF];refine' kAd (i:=3) (v:=_) [4,5,6] (by kernel_rfl) rfl (by kernel_rfl) (fun _ _ _ h=>h) (by rfl) (by exact fun w' hC=>by refine kCp 122 (.tmp 10) ?_ b (o+64*q) ?_ (kAf val8 l) (.array 64 9) hC.2 Try.underlying122 rfl (by rw[hbs];kernel_rfl)<;>rfl) HCx.out ?_;simp only[jA,jB,jC,Act.put,jD,jE,jF];refine kC9 (i:=4) (v:= .slice (some ⟨w3.heap.size,0,none⟩) 1 1) (w':=w3.alloc (.cells (kAf val8 l).toArray 122)) (by kernel_rfl) rfl (by kernel_rfl) (by rfl) (by go_simp;exact congrArg (fun c=>w3.alloc (.cells c 122)) (kEg (kAf val8 l) _ (by rw[hbs];rfl))) ⟨kBb HCx.out.1 _,World.rangeAt_alloc HCx.out.2 _⟩ ?_;simp only[jA,jB,jC,Act.put,jD,jE,jF]
  have hbow:bo<w2.heap.size:=by have:=HZ1.out;have:=HZ2.out;have:=HBo.out;omega
  refine kEf (i:=5) Try.elemB8 (by kernel_rfl) rfl (by kernel_rfl) (by rfl) (.tmp 8) (.tmp 12) rfl HO3.out (by omega) (by omega) hw3 (kAf val8 l) hbs (fun u hu=>kB6 l u (by simpa using hu)) 122 rfl rfl (fun w' hg=>⟨kAv hg HCx.out.1 (fun k e=>by have:=(HBk.out k e).2;omega),kBh hg HCx.out.2 (fun k e=>by have:=(HBk.out k e).2;have:=HB1.out.size;have:=HB2.out.size;omega)⟩) ?_;intro a' c' w5 ho5 hg5 hn5;simp only[jA,jB,jC,Act.put,jD,jE,jF];refine kA3 6 (by rfl) (by kernel_rfl) (by kernel_rfl) ?_;simp only[List.drop_succ_cons,List.drop_zero];have h5c:w5.heap[bo]? =some (.cells #[.slice a0 q c0] 121 (0,0)):=(kAr hg5 (by have:=HD.out.size;omega) (fun k e=>by have:=(HBk.out k e).2;omega)).trans ((HD.out.block bo (by omega)).trans HCe.out);have p1:w5.cell? ⟨bo,0,none⟩=some (.slice a0 q c0):=jK w5 bo 0 _ _ (0,0) h5c;have f1:=jO w5 bo 0 _ _ h5c;have h6c:=jP w5 bo 0 _ _ (.slice a' (q+1) c') h5c
  have H5c:=jH h6c;have H5:=jH ho5;have HG5:=jH hg5;have HN5:=jH hn5
  clear h5c h6c ho5 hg5 hn5
  gi_wp2
  have hnb:=HN5.out;have hgw:W.grownBy w5 (Value.slice a0 q c0).ownBlock:=kAm ⟨HD.out.os,HD.out.tape,HD.out.output,HD.out.size,fun k hk _=>HD.out.block k hk⟩ HG5.out
  have hblk5:∀k,(Value.slice a' (q+1) c').ownBlock=some k→¬Tt k∧w2.heap.size≤k:=fun k e=>by
   rcases hnb with h | ⟨g,h,hg⟩
   ·rw[h]at e;exact HBk.out k e
   ·rw[h]at e;cases e;have:=HD.out.size;exact⟨fun ht=>by have:=(HTn.out _ ht).2;omega,by omega⟩
  have hsz6:(w5.setCell ⟨bo,0,none⟩ (.slice a' (q+1) c')).heap.size=w5.heap.size:=by simp
  refine⟨⟨by rw[hsz6];exact hgw.size,fun k hk hT=> ?_⟩,⟨?_,fun k hk=>⟨(HTn.out k hk).1,?_⟩,?_,⟨a',c',?_,?_,?_⟩,?_⟩⟩
  ·have hkb:k≠bo:=by
    rcases hT with h | h
    ·have:=(HTn.out k h).1;omega
    ·exact h.2
   rw[jQ w5 ⟨bo,0,none⟩ k _ hkb];refine hgw.block k hk (fun e=> ?_);have:=HBk.out k e.symm
   rcases hT with h | h
   ·exact this.1 h
   ·omega
  ·exact(HBe.out.trans (kBa hgw (fun k e=>by have:=(HBk.out k e).2;have:=HB1.out.size;have:=HB2.out.size;omega) HBe.out.size)).setCell (p:=⟨bo,0,none⟩) (by show w.heap.size≤bo;rw[HBo.out];exact Nat.le_refl _) _
  ·rw[hsz6];exact Nat.lt_of_lt_of_le (HTn.out k hk).2 hgw.size
  ·rw[List.length_append,List.length_singleton,List.range_succ,←HPr.out,←HQ.out]
  ·have e:(pre++[q]).length=q+1:=by rw[List.length_append,List.length_singleton,HQ.out]
   rw[e];exact H5c.out
  ·have e:(pre++[q]).length=q+1:=by rw[List.length_append,List.length_singleton,HQ.out]
   rw[e,HSu.out,List.flatMap_append];simp only[List.flatMap_cons,List.flatMap_nil,List.append_nil];refine H5.out.kept (kAe w5 bo 0 _) ?_
   cases e2:(Value.slice a' (q+1) c').ownBlock with
   | none=>exact .inl rfl
   | some k=>exact .inr (fun e3=>by cases e3;have:=(hblk5 _ e2).2;omega)
  ·have e:(pre++[q]).length=q+1:=by rw[List.length_append,List.length_singleton,HQ.out]
   rw[e];exact hblk5
  ·rw[hsz6];exact Nat.le_trans hsz hgw.size
 case done=>
  rintro D Tt xs w20 hD hTD rfl hst hDk;obtain⟨hbel,htn, -,⟨a0,c0,hcell,hown,hblk⟩,hsz⟩:=hst;rw[List.length_range]at hcell hown hblk;have p0:w20.cell? ⟨bo,0,none⟩=some (.slice a0 K c0):=jK w20 bo 0 _ _ (0,0) hcell
  have HBe:=jH hbel;have HOw:=jH hown;have HBk:=jH hblk;have HDk:=jH hDk;have HTD:=jH hTD
  have hwD:w.heap.size≤D:=by have:=HB1.out.size;have:=HB2.out.size;omega
  clear hbel htn hcell hown hblk hDk hTD;go_wp2
  refine kE5 HDk.out (kCz (results_tmp rfl _ _ _) ?_);refine⟨a0,c0,rfl,?_,kF2 HBe.out D _ hwD⟩;refine HOw.out.kept (grownBy_putObj' w20 D _) ?_
  cases e2:(Value.slice a0 K c0).ownBlock with
  | none=>exact .inl rfl
  | some k=>exact .inr (fun e3=>by cases e3;exact(HBk.out _ e2).1 HTD.out)
end Go.Proofs.Ytabbabkmojaoaaa.VS

namespace Go.Proofs.Ytabbabkmojaoaaa.VS
open Go.RowKit
theorem kHg (xs ys:Array Value)(x y:Operand)(w:World):(eqGuard .eql 122 x y (.agg xs) (.agg ys)).run Try.prog w= .ok () w:=run_eqGuard_agg w .eql 122 x y xs ys (by kernel_rfl)
theorem kIs {P:Program}(w:World)(t:TypeId)(xs ys:Array Value)(b:Bool)(h:(Op.equal t (.agg xs) (.agg ys)).run P w= .ok b w):(binOp .eql t (.agg xs) (.agg ys)).run P w= .ok (.bool b) w:=by
 simp[binOp,h]
theorem kIt (l:List El)(hl:l.length=64)(w:World):(binOp .eql 122 (.agg (kAf val8 l).toArray) (.agg (kAf val8 l).toArray)).run Try.prog w= .ok (.bool true) w:=by
 have:= Try.k8.equal w l l hl hl;rw[kGj l l rfl]at this
 simpa using kIs w _ _ _ _ this
structure kGd (w:World) (g bt:Nat) (T:kAy El):Prop where
 tr:kAj val8 138 64 w g T
 tp:T.top.length=272
 ml:∀m∈T.mid,m.length=64
 ll:∀l∈T.low,l.length=64
 mn:T.mid.length≤1048576
 ln:T.low.length≤1048576
 ct:w.cell? ⟨bt,0,none⟩=some (.pointer (some ⟨g,0,none⟩))
theorem kGd.below {w w':World}{g bt:Nat}{T:kAy El}(h:kGd w g bt T)(hb:Below w.heap.size w w'):kGd w' g bt T:=
 ⟨h.tr.below hb jR,h.tp,h.ml,h.ll,h.mn,h.ln,(hb.cell (p:=⟨bt,0,none⟩) (World.block_lt_of_cell? w _ h.ct)).trans h.ct⟩
theorem kGd.low {w:World}{g bt:Nat}{T:kAy El}(h:kGd w g bt T):∃a c,w.cell? ⟨g,273,none⟩=some (.slice a T.low.length c)∧kAg val8 64 w a T.low:=by
 obtain⟨am,cm,al,cl,h1,h2,h3⟩:=h.tr;refine⟨al,cl,?_,h3⟩;rw[jK w g 273 _ _ (0,0) h1];simp[kD7,h.tp]
theorem kGd.mid {w:World}{g bt:Nat}{T:kAy El}(h:kGd w g bt T):∃a c,w.cell? ⟨g,272,none⟩=some (.slice a T.mid.length c)∧kAg kAb 64 w a T.mid:=by
 obtain⟨am,cm,al,cl,h1,h2,h3⟩:=h.tr;refine⟨am,cm,?_,h2⟩;rw[jK w g 272 _ _ (0,0) h1];simp[kD7,h.tp]
theorem kDu (w:World)(g bt:Nat)(T:kAy El)(h:kGd w g bt T)(no:Nat)(hno:no<T.low.length):
  Calls Try.prog 127 #[.int .u16 (no:Nat),.pointer (some ⟨bt,0,none⟩)] w fun e w'=>e= .returned (.bool true)∧Below w.heap.size w w':=by
 obtain⟨a,c,c1,hbl⟩:=h.low;obtain⟨b,o,rfl⟩:=hbl.some (by omega);have HR:=jH (hbl.get no hno);have hl:=h.ll _ (List.getElem_mem hno);have c0:=h.ct;have hln:=h.ln;clear h hbl;generalize T.low[no]=l at*;generalize T.low.length=nl at*
 have hs:(kAf val8 l).length=64:=by rw[kAh (sz:=1) (fun _=>rfl),hl]
 have g1:(0:Int)≤(no:Int):=by omega
 have g2:(no:Int)<(nl:Int):=by omega
 go_enter Try.func127,Try.ntmps127
 go_upto_region 1 with(fail)
 refine wp_region_still_lit (by kernel_rfl) (by kernel_rfl) ?_
 iterate 6 still_step
 refine kAw rfl 122 (.tmp 9) rfl b (o+no*64) rfl (kAf val8 l) _ (show w.drew.rangeAt b (o+no*64) (kAf val8 l)from HR.out) Try.underlying122 rfl (by rw[hs];kernel_rfl) ?_
 iterate 6 still_step
 refine kAw rfl 122 (.tmp 16) rfl b (o+no*64) rfl (kAf val8 l) _ (show w.drew.rangeAt b (o+no*64) (kAf val8 l)from HR.out) Try.underlying122 rfl (by rw[hs];kernel_rfl) ?_;refine kC8 rfl .eql 122 (.tmp 10) (.tmp 17) _ rfl (.agg (kAf val8 l).toArray) (.agg (kAf val8 l).toArray) _ rfl rfl (kHg _ _ _ _ _) (kIt l hl _) ?_
 still_step
 refine wpStill_nil ?_;go_wp2
 go_ret
 exact⟨rfl,(Below.refl _ w).drew⟩
theorem kFy (w:World)(g bt b5:Nat)(T:kAy El)(h:kGd w g bt T)(no:Nat)(hno:no<T.low.length)(h5:w.cell? ⟨b5,0,none⟩=some (.func (.func 127) #[] #[.pointer (some ⟨bt,0,none⟩)])):
  Calls Try.prog 129 #[.int .u16 (no:Nat),.pointer (some ⟨b5,0,none⟩)] w fun e w'=>e= .returned (.bool false)∧Below w.heap.size w w':=by
 have HS:=jH (kDu w g bt T h no hno);clear h
 go_enter Try.func129,Try.ntmps129
 go_wp2_with fail
 refine HS.out.mono ?_;rintro e w1 ⟨rfl,hb⟩
 have HB:=jH hb;clear hb
 go_wp2
 go_ret
 exact⟨rfl,HB.out⟩
theorem kFx (w:World)(g bt b5:Nat)(T:kAy El)(h:kGd w g bt T)(no:Nat)(hno:no<T.mid.length)(hmid:∀m∈T.mid,∀k∈m,k<T.low.length)(h5:w.cell? ⟨b5,0,none⟩=some (.func (.func 127) #[] #[.pointer (some ⟨bt,0,none⟩)])):
  Calls Try.prog 128 #[.int .u16 (no:Nat),.pointer (some ⟨bt,0,none⟩),.pointer (some ⟨b5,0,none⟩)] w fun e w'=>e= .returned (.bool true)∧Below w.heap.size w w':=by
 obtain⟨a,c,c1,hbl⟩:=h.mid;obtain⟨b,o,rfl⟩:=hbl.some (by omega);have hl:=h.ml _ (List.getElem_mem hno);have HNA:Hid (kCm w (some ⟨b,o+no*64,none⟩) T.mid[no]):=jH (fun i hi=>⟨b,o+no*64,rfl,hbl.cell kA0 no hno i hi⟩)
 have HCf:=jH (kEa w b (o+no*64) 64 64 T.mid[no] 129 #[.pointer (some ⟨b5,0,none⟩)] hl (by omega) HNA.out (enters_of Try.func129 (by kernel_rfl) rfl)
  (fun x W hx hb=>kFy W g bt b5 T (h.below hb) x (hmid _ (List.getElem_mem hno) x hx) ((hb.cell (p:=⟨b5,0,none⟩) (World.block_lt_of_cell? w _ h5)).trans h5)))
 have c0:=h.ct;have hmn:=h.mn;clear h hbl hl hmid HNA;generalize T.mid.length=nm at*
 have g1:(0:Int)≤(no:Int):=by omega
 have g2:(no:Int)<(nm:Int):=by omega
 go_enter Try.func128,Try.ntmps128
 go_wp2_with fail
 refine HCf.out.mono ?_;rintro e w1 ⟨rfl,hb⟩
 have HB:=jH hb;clear hb
 go_wp2
 go_ret
 exact⟨rfl,HB.out⟩
end Go.Proofs.Ytabbabkmojaoaaa.VS
