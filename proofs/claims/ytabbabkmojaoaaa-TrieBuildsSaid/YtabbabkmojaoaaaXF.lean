/- several texts in one: LMT UNT CUT THT FCT -/
import Derived.Test.YtabbabkmojaoaaaNS
import Derived.Test.YtabbabkmojaoaaaXE
import Derived.Test.YtabbabkmojaoaaaNK
import Derived.Test.YtabbabkmojaoaaaNH
import Derived.Test.YtabbabkmojaoaaaXC
import Derived.Test.YtabbabkmojaoaaaNF
import Derived.Laws.Cover3
import Derived.Test.YtabbabkmojaoaaaXB
import Derived.Test.YtabbabkmojaoaaaNL
set_option linter.unusedVariables false
set_option linter.unusedSimpArgs false
set_option maxRecDepth 100000
set_option maxHeartbeats 16000000
namespace Go.Proofs.Ytabbabkmojaoaaa.VT
open Go.RowKit
theorem kIl {F:Nat→Int}{f:Nat→El}{of:Int→El}{N:Nat}(hf:∀r,r<N→f r=of (F r))(k:Nat)(hk:64*(k+1)≤N):blkF f k=(Go.Proofs.Ytabbabkmojaoaaa.blkF F k).map of:=by
 apply List.ext_getElem
 ·simp[blkF,Go.Proofs.Ytabbabkmojaoaaa.blkF]
 ·intro i h1 h2;simp[blkF]at h1;simp[blkF,Go.Proofs.Ytabbabkmojaoaaa.blkF,hf (64*k+i) (by omega)]
theorem kH8 {F:Nat→Int}{f:Nat→El}{of:Int→El}{N:Nat}(hi:kKn of)(hf:∀r,r<N→f r=of (F r))(hr:∀r,r<N→kI7 (F r)):∀k,64*k≤N→mkF f k=kMl of (Go.Proofs.Ytabbabkmojaoaaa.mkF F k)∧∀l∈(Go.Proofs.Ytabbabkmojaoaaa.mkF F k).lows,∀x∈l,kI7 x
 | 0,_=>⟨rfl,fun l hl=>by cases hl⟩
 | k+1,hk=>by
  obtain⟨h1,h2⟩:=kH8 hi hf hr k (by omega)
  have hb:∀x∈Go.Proofs.Ytabbabkmojaoaaa.blkF F k,kI7 x:=fun x hx=>by
   simp only[Go.Proofs.Ytabbabkmojaoaaa.blkF,List.mem_map,List.mem_range]at hx;obtain⟨i,hi,rfl⟩:=hx;exact hr _ (by omega)
  rw[mkF,Go.Proofs.Ytabbabkmojaoaaa.mkF,h1,kIl hf k (by omega)];exact⟨kKo hi hb h2,kJo hb h2⟩
theorem lkOk {F:Nat→Int}{f:Nat→El}{of:Int→El}{S:MkS El}{N M:Nat}(hN:N=1114112)(hM:M=17408)(hS:kBu f S)(hi:kKn of)(hf:∀r,r<N→f r=of (F r))(hr:∀r,r<N→0≤F r∧F r≤255):kK2 (kA1 S) (Go.Proofs.Ytabbabkmojaoaaa.mkF F M) F of N:=by
 obtain⟨K,hK,hSe⟩:=hS.eq;obtain⟨h1,h2⟩:=kH8 hi hf hr M (by omega)
 have hSM:S=kMl of (Go.Proofs.Ytabbabkmojaoaaa.mkF F M):=by rw[hSe,show K=M by omega,h1]
 refine⟨hS.trie,hS.pos.1,?_,?_,?_,fun r hr'=> ?_,hr,hi,h2⟩
 ·show S.top=_
  rw[hSM];rfl
 ·show S.mids=_
  rw[hSM];rfl
 ·show S.lows=_
  rw[hSM];rfl
 ·rw[hS.look r (by omega),hf r hr']
end Go.Proofs.Ytabbabkmojaoaaa.VT

namespace Go.Proofs.Ytabbabkmojaoaaa.VT
open Go.RowKit
theorem kCv {P:Program}{o:Oper}{a:Act}{w:World}(ty:TypeId)(x y:Operand)(ok:Bool)(ho:o.op= .lookup ty x y ok)(xv yv v:Value)(hx:a.eval x=xv)(hy:a.eval y=yv)(hr:(Instr.lookup ty xv yv ok).run P w= .ok v w):(execOp a.eval o).run P w= .ok (.value v) w:=by
 unfold execOp;simp only[ho,hx,hy,Sem.run_bind,Sem.run_pure,Result.andThen_ok,hr]
def UnL (eqB:El→El→Bool) (L:List (List El)) (n:Nat):Prop:=∀k (h:k<L.length),k<n→kAo eqB L[k] (L.take k)=none
def UnR (w:World) (L:List (List El)) (i:Value) (wr:World):Prop:=∃k:Nat,k≤L.length∧i= .int .i64 (k:Nat)∧UnL (fun a b=>decide (a=b)) L k∧kBw val8 (fun _=> .int .i64 1) wr w.heap.size (L.take k)∧Below w.heap.size w wr
theorem unlike_walk (w:World)(a:Option Addr)(n c:Nat)(L:List (List El))(hn:L.length=n)(hn2:n≤1048576)(hl:∀l∈L,l.length=64)(h:kAg val8 128 w a L):
  Calls Try.prog 141 #[.slice a n c] w fun e w'=>(e= .returned (.bool true)∧Below w.heap.size w w'∧UnL (fun a b=>decide (a=b)) L n)∨(e= .returned (.bool false)∧Below w.heap.size w w'∧¬UnL (fun a b=>decide (a=b)) L n):=by
 have HN:=jH hn;clear hn
 have HLl:=jH hl;clear hl
 have HA:=jH h;clear h
 go_enter Try.func141,Try.ntmps141
 go_upto_region 1 with(fail)
 refine wp_region_list ?_;refine kAc (v:= .map (some w.heap.size)) (w':=w.alloc (.map #[] 0)) rfl (by kernel_rfl) ?_;have hA0:=jN w (.map #[] 0);have hB0:Below w.heap.size w (w.alloc (.map #[] 0)):=(Below.refl _ _).alloc jR _;have hz0:=World.size_alloc w (.map #[] 0)
 obtain⟨b0,hb0⟩:∃b0,b0=w.heap.size:=⟨_,rfl⟩
 rw[←hb0];have HB0:=jH hB0;have HA0:Hid (kBw val8 (fun _=> .int .i64 1) (w.alloc (.map #[] 0)) w.heap.size (L.take 0)):=jH hA0;have HBz:=jH hb0;clear hA0 hB0 hz0 hb0;generalize w.alloc (.map #[] 0)=w1 at*;go_wp2
 go_loopw [9] (UnR w L) (fun i _=>n - (intOf i).toNat)
 case atStart=>exact⟨0,Nat.zero_le _,rfl,fun k h hk=>by omega,HA0.out,HB0.out⟩
 case round=>
  obtain⟨k,hk,rfl,hun,hmap,hbel⟩:=hrel
  have HUn:=jH hun;clear hun
  have HMp:=jH hmap;clear hmap
  have HBe:=jH hbel;clear hbel
  by_cases hkn:k<n
  ·have hki:(k:Int)<(n:Int):=by omega
   have hkl:k<L.length:=by rw[HN.out];exact hkn
   obtain⟨ba,oa,ha⟩:=HA.out.some (by omega);subst ha;have HR:Hid (wr.rangeAt ba (oa+k*128) (kAf val8 L[k])):=jH (kAs (HA.out.get k hkl) HBe.out jR);have hl64:(L[k]).length=64:=HLl.out _ (List.getElem_mem hkl);have HTk:Hid (L.take (k+1)=L.take k++[L[k]]):=jH (List.take_succ_eq_append_getElem hkl)
   have HUs:Hid (kAo (fun a b=>decide (a=b)) L[k] (L.take k)=none→UnL (fun a b=>decide (a=b)) L (k+1)):=jH (fun h j hj hj2=>by
    by_cases e:j=k
    ·subst e;exact h
    ·exact HUn.out j hj (by omega))
   have HUf:Hid (¬kAo (fun a b=>decide (a=b)) L[k] (L.take k)=none→¬UnL (fun a b=>decide (a=b)) L n):=jH (fun h h2=>h (h2 k hkl hkn));generalize L[k]=l at*
   have hbs:(kAf val8 l).length=128:=by rw[kBx,hl64]
   have hlt:(L.take k).length=k:=by rw[List.length_take];omega
   have HLt:Hid (∀m∈L.take k,m.length=64):=jH (fun m hm=>HLl.out m (List.mem_of_mem_take hm))
   go_upto_region 4 with(fail)
   refine wp_region_list ?_;refine kAc (v:= .pointer (some ⟨ba,oa+k*128,none⟩)) (w':=wr) rfl (by go_simp) ?_;refine wpList_load_mid rfl 244 (.tmp 11) rfl ba (oa+k*128) rfl (kAf val8 l) (.array 64 105) HR.out Try.underlying244 rfl (by rw[hbs];kernel_rfl) ?_;refine kAc (v:= .pointer (some ⟨wr.heap.size,0,none⟩)) (w':=wr.alloc (.cells (kAf val8 (List.replicate 64 (((0:Int),ByteArray.empty):El))).toArray 244)) rfl (by kernel_rfl) ?_
   obtain⟨b7,hb7⟩:∃b7,b7=wr.heap.size:=⟨_,rfl⟩
   have hA1:=jN wr (.cells (kAf val8 (List.replicate 64 (((0:Int),ByteArray.empty):El))).toArray 244);have hB1:Below wr.heap.size wr (wr.alloc (.cells (kAf val8 (List.replicate 64 (((0:Int),ByteArray.empty):El))).toArray 244)):=(Below.refl _ _).alloc jR _;rw[←hb7]at hA1 hB1 ⊢;generalize wr.alloc (.cells (kAf val8 (List.replicate 64 (((0:Int),ByteArray.empty):El))).toArray 244)=v1 at*;refine wpList_store_row rfl 244 (.tmp 5) (.tmp 12) rfl b7 (kAf val8 l).toArray rfl rfl 244 _ hA1 (by rw[List.size_toArray,hbs];kernel_rfl) (by rw[List.size_toArray,List.size_toArray,hbs,kBx];rfl) (all_oneCell_toArray (fun u hu=>kB6 l u (by simpa using hu))) ?_;have hA2:=setRow_heap v1 b7 _ (kAf val8 l).toArray _ _ hA1
   have hB2:Below b7 wr (v1.setRow b7 (kAf val8 l).toArray):=⟨hB1.os,hB1.tape,hB1.output,by rw[setRow_size];exact hB1.size,fun k hk=>by rw[setRow_other v1 b7 k _ (by omega)];exact hB1.block k hk⟩
   generalize v1.setRow b7 (kAf val8 l).toArray=v2 at*
   have HR2:Hid (v2.rangeAt b7 0 (kAf val8 l)):=jH (by
    have:=World.rangeAt_of_block hA2 0 (kAf val8 l).length
    simpa using this)
   have hmb:w.heap.size<wr.heap.size:=(jL HMp.out)
   have HMp2:Hid (kBw val8 (fun _=> .int .i64 1) v2 w.heap.size (L.take k)):=jH ((hB2.block _ (by omega)).trans HMp.out);have HB2:Hid (Below w.heap.size w v2):=jH (HBe.out.trans (hB2.mono (by omega)));have HB7:=jH hb7;clear hA1 hB1 hA2 hB2 hb7 v1 HR HMp HBe
   obtain⟨u,hu⟩:∃u:Int,u=(if kAo (fun a b=>decide (a=b)) l (L.take k)=none then 0 else 1):=⟨_,rfl⟩
   have HLk:Hid ((Instr.lookup 266 (.map (some w.heap.size)) (kEn val8 l) false).run Try.prog v2= .ok (.int .i64 u) v2):=jH (by
    rw[Try.k8.lookupG (te:=3) Try.underlying266 (z:= .int .i64 0) (fun w=>by kernel_rfl) HMp2.out l hl64 HLt.out false,hu]
    cases kAo (fun a b=>decide (a=b)) l (L.take k)<;>rfl)
   have hbz:w.heap.size=b0:=HBz.out.symm;rw[hbz]at HLk
   have HU:=jH hu;clear hu
   go_upto_region 5 with(fail)
   refine wp_region_list ?_;refine kAc (v:= .map (some b0)) (w':=v2) rfl (by rfl) ?_;refine wpList_load_mid rfl 244 (.tmp 5) rfl b7 0 (by first | rfl | (rw[HB7.out];rfl)) (kAf val8 l) (.array 64 105) HR2.out Try.underlying244 rfl (by rw[hbs];kernel_rfl) ?_;refine kAc (v:= .int .i64 u) (w':=v2) rfl (kCv 266 (.tmp 13) (.tmp 14) false rfl (.map (some b0)) (kEn val8 l) _ rfl rfl HLk.out) ?_
   by_cases hf:kAo (fun a b=>decide (a=b)) l (L.take k)=none
   ·have hu0:u=0:=by rw[HU.out,if_pos hf]
    have HF:=jH hf;clear hf
    have HU2:=jH (HUs.out HF.out);have HSt:=jH (Try.k8.storeG Try.underlying266 (te:=3) HMp2.out l hl64 HLt.out HF.out (.int .i64 1) rfl)
    have HMp3:Hid (kBw val8 (fun _=> .int .i64 1) (kG8 v2 w.heap.size (.map (kDd val8 (fun _=> .int .i64 1) 0 (L.take k++[l])).toArray (L.take k++[l]).length)) w.heap.size (L.take (k+1))):=jH (by
     rw[HTk.out]
     exact kE7 v2 _ (jL HMp2.out))
    have HB3:Hid (Below w.heap.size w (kG8 v2 w.heap.size (.map (kDd val8 (fun _=> .int .i64 1) 0 (L.take k++[l])).toArray (L.take k++[l]).length))):=jH (HB2.out.trans (kGz v2 _ _ jR));rw[hbz]at HSt HMp3 HB3;generalize (kG8 v2 b0 (.map (kDd val8 (fun _=> .int .i64 1) 0 (L.take k++[l])).toArray (L.take k++[l]).length))=v3 at*;subst hu0;clear hbz
    go_upto_region 7 with(fail)
    refine wp_region_list ?_;refine kAc (v:= .map (some b0)) (w':=v2) rfl (by rfl) ?_;refine wpList_load_mid rfl 244 (.tmp 5) rfl b7 0 (by first | rfl | (rw[HB7.out];rfl)) (kAf val8 l) (.array 64 105) HR2.out Try.underlying244 rfl (by rw[hbs];kernel_rfl) ?_;refine kAz rfl 266 (.tmp 17) (.tmp 18) (.const (.int .i64 1)) rfl (.map (some b0)) (kEn val8 l) (.int .i64 1) rfl rfl rfl HSt.out ?_;go_wp2
    go_roundw
    case rel=>exact⟨k+1,by omega,by go_num,HU2.out,by rw[HBz.out]at HMp3;exact HMp3.out,by rw[HBz.out]at HB3;exact HB3.out⟩
    case measure=>simp[intOf];omega
   ·have hu1:u=1:=by rw[HU.out,if_neg hf]
    have HF:=jH (HUf.out hf);clear hf
    subst hu1;go_wp2
    go_ret
    exact .inr ⟨rfl,HB2.out,HF.out⟩
  ·obtain rfl:k=n:=by have:=HN.out;omega
   have hki:¬(k:Int)<(k:Int):=by omega
   go_wp2
   go_ret
   exact .inl ⟨rfl,HBe.out,HUn.out⟩
end Go.Proofs.Ytabbabkmojaoaaa.VT

namespace Go.Proofs.Ytabbabkmojaoaaa.VT
open Go.RowKit
attribute [local go_sem] Oper.semAt_some
def kKt (b o:Nat) (q:Nat):Array Value:= #[.slice (some ⟨b,o+64*q*2,none⟩) 64 64]
theorem kEy (a:Option Addr)(n c:Nat)(w:World):Calls Try.prog 150 #[.slice a n c,.int .i64 64] w fun e w'=>e= .returned (.func (.func 152) #[] #[.pointer (some ⟨w.heap.size,0,none⟩),.pointer (some ⟨w.heap.size+1,0,none⟩)])∧
  w'.cell? ⟨w.heap.size,0,none⟩=some (.slice a n c)∧w'.cell? ⟨w.heap.size+1,0,none⟩=some (.int .i64 64)∧Below w.heap.size w w'∧w'.heap.size=w.heap.size+2:=by
 have HA:=jH (jN w (.cells #[.slice a n c] 204));have HB:=jH ((Below.refl _ w).alloc jR (.cells #[.slice a n c] 204));have HS:=jH (World.size_alloc w (.cells #[.slice a n c] 204))
 go_enter Try.func150,Try.ntmps150
 go_wp2
 go_ret
 generalize w.alloc (.cells #[.slice a n c] 204)=w1 at*;have c0:=jK _ w.heap.size 0 _ _ (0,0) HA.out;have hA:=(Below.refl _ w1).alloc jR (.cells #[.int .i64 64] 3);have c1:=jK _ w1.heap.size 0 _ _ (0,0) (jN w1 (.cells #[.int .i64 64] 3));have hs:=HS.out;refine⟨by simp[hs],(hA.cell (p:=⟨w.heap.size,0,none⟩) (by show w.heap.size<_;omega)).trans c0,by rw[←hs];exact c1,HB.out.trans (hA.mono (by omega)),by simp;omega⟩
def ChR (J:(Nat→Prop)→List Nat→World→Prop) (w:World) (K b2 b3:Nat) (i:Value) (wr:World) (sl n64:Value):Prop:=
 ∃q,q≤K∧i= .int .i64 ((64*q:Nat):Int)∧J (fun _=>False) (List.range q) wr∧wr.cell? ⟨b2,0,none⟩=some sl∧wr.cell? ⟨b3,0,none⟩=some n64
theorem kDk (b o c K:Nat)(hK:K≤1048576)(hc:64*K≤c)(hc2:c≤maxLen)(b2 b3:Nat)(R:Nat→Prop)(w:World)(hR1:R b2)(hR2:R b3)
  (c1:w.cell? ⟨b2,0,none⟩=some (.slice (some ⟨b,o,none⟩) (64*K) c))(c2:w.cell? ⟨b3,0,none⟩=some (.int .i64 64)):
  kM6 Try.prog 152 #[.pointer (some ⟨b2,0,none⟩),.pointer (some ⟨b3,0,none⟩)] (kKt b o) R (fun xs=>xs=List.range K) (fun pre=>∃q,q≤K∧pre=List.range q) K w:=by
 intro l J Jx W hW hJ hJx hY h1;refine callsIn_wide.2 ?_;have HY:=jH hY;have HJ:=jH hJ;have d1:=(hW.cell (p:=⟨b2,0,none⟩) (World.block_lt_of_cell? w _ c1)).trans c1;have d2:=(hW.cell (p:=⟨b3,0,none⟩) (World.block_lt_of_cell? w _ c2)).trans c2;have H1:=jH h1
 have D1:=jH d1;have D2:=jH d2
 have HRr:=jH (And.intro hR1 hR2);clear hJ hJx hY h1 hW c1 c2 d1 d2 hR1 hR2
 go_enter Try.func152,Try.ntmps152
 go_wp2
 go_loopw [4] (fun i wr=>ChR J w K b2 b3 i wr (.slice (some ⟨b,o,none⟩) (64*K) c) (.int .i64 64)) (fun i _=>64*K - (intOf i).toNat)
 case atStart=>exact⟨0,Nat.zero_le _,rfl,H1.out,D1.out,D2.out⟩
 case round=>
  obtain⟨q,hq,rfl,hj,e1,e2⟩:=hrel
  have HJq:=jH hj;clear hj
  obtain⟨n,hn⟩:∃n,n=64*K:=⟨_,rfl⟩
  obtain⟨p,hp⟩:∃p,p=64*q:=⟨_,rfl⟩
  rw[←hn]at e1;rw[←hp]
  have E1:=jH e1;have E2:=jH e2
  by_cases hqn:q<K
  ·have hpi:(p:Int)<(n:Int):=by omega
   have hpn:p≤n:=by omega
   have hnc:n≤c:=by omega
   have hcm:c≤9223372036854775807:=by unfold maxLen at hc2;exact hc2
   have HPq:=jH (And.intro hn hp);clear hn hp
   have hnm:¬((n:Int) - (p:Int)<64):=by have:=HPq.out;omega
   have dnm:decide ((n:Int) - (p:Int)<64)=false:=decide_eq_false hnm
   have hnm2:¬(((n - p:Nat):Int)<64):=by have:=HPq.out;omega
   have dnm2:decide (((n - p:Nat):Int)<64)=false:=decide_eq_false hnm2
   have hcp:¬c=p:=by omega
   have hmn:∀(w:World) (ts:Array TypeId) (t:TypeId),(Builtin.min_ ts t #[.int .i64 64,.int .i64 ((n - p:Nat):Int)]).run Try.prog w= .ok (.int .i64 64) w:=fun w ts t=>by
    rw[run_min_int2,if_neg hnm2]
   go_wp2
   go_quiet (fail)
   have e3:(wr.drewN nq).cell? ⟨b2,0,none⟩=some (.slice (some ⟨b,o,none⟩) n c):=e1;have e4:(wr.drewN nq).cell? ⟨b3,0,none⟩=some (.int .i64 64):=e2;have hj2:J (fun _=>False) (List.range q) (wr.drewN nq):=HJ.out _ _ _ _ _ HJq.out ⟨rfl,rfl,rfl,Nat.le_refl _,fun _ _ _=>rfl⟩ (kB4.refl _ _ _);generalize wr.drewN nq=W1 at*;clear e1 e2 E1 E2 HJq hmn;obtain⟨fn,tmps,assign,body,hy,hR⟩:=HY.out (fun _=>False) (List.range q) q W1 hj2 (by rw[List.length_range];exact hqn) ⟨q+1,hqn,List.range_succ.symm⟩
   dsimp only[kKt]at hy
   rw[←HPq.out.2]at hy;rw[←List.range_succ]at hR
   have HRy:=jH hR;clear hR hj2
   have E3:=jH e3;have E4:=jH e4
   have h64a:(p:Int)+64≤(c:Int):=by have:=HPq.out;omega
   have h64n:p+64≤c:=by omega
   have hpz:(0:Int)≤(p:Int)+64:=by omega
   have hpp:(p:Int)≤(p:Int)+64:=by omega
   go_upto_region 4 with(fail)
   refine(wpIn_wide (n:=2)).1 ?_
   gi_wp2
   refine HRy.out.mono ?_
   rintro e W3 (⟨rfl,hJ3,hk3⟩ | ⟨rfl,hx3,hk3⟩)
   ·have HJ3:=jH hJ3;have f3:=jH (hk3.cell E3.out (.inr HRr.out.1));have f4:=jH (hk3.cell E4.out (.inr HRr.out.2))
    have hq1:(p:Int)+64=((64*(q+1):Nat):Int):=by have:=HPq.out;omega
    have HQ1:=jH hq1;clear hq1
    have e4':=f4.out;clear hJ3 hk3 hy e3 e4
    gi_wp2
    go_wp2
    go_roundw
    case rel=>exact⟨q+1,by omega,by rw[←HQ1.out],HJ3.out,by rw[←HPq.out.1];exact f3.out,f4.out⟩
    case measure=>simp[intOf];have:=HPq.out;omega
   ·have HX3:=jH hx3;clear hx3 hk3 hy e3 e4
    gi_wp2
    go_wp2
    refine jS (results_none rfl _ _ _) rfl ?_;exact⟨⟨_,rfl⟩,.inr ⟨_,_,⟨_,hqn,rfl⟩,HX3.out⟩⟩
  ·obtain rfl:q=K:=by omega
   have hpi:¬(p:Int)<(n:Int):=by omega
   clear hn hp E1 E2;go_wp2
   go_end0
   exact⟨⟨_,rfl⟩,.inl ⟨fun _=>False,HJq.out⟩⟩
def ckL (zs:List El) (q:Nat):List El:=(zs.drop (64*q)).take 64
def cksL (zs:List El) (K:Nat):List (List El):=(List.range K).map (ckL zs)
theorem ckL_length (zs:List El)(K q:Nat)(hz:zs.length=64*K)(hq:q<K):(ckL zs q).length=64:=by
 unfold ckL;rw[List.length_take,List.length_drop];omega
theorem kMn (zs:List El)(q j:Nat)(v:Value)(hz:64*q≤zs.length)(h:(kAf val8 (ckL zs q))[j]? =some v):(kAf val8 zs)[64*q*2+j]? =some v:=by
 have e:zs=zs.take (64*q)++(ckL zs q++(zs.drop (64*q)).drop 64):=by unfold ckL;rw[List.take_append_drop,List.take_append_drop]
 have hl:(kAf val8 (zs.take (64*q))).length=64*q*2:=by rw[kBx,List.length_take];omega
 have e2:kAf val8 zs=kAf val8 (zs.take (64*q))++(kAf val8 (ckL zs q)++kAf val8 ((zs.drop (64*q)).drop 64)):=by
  conv=>lhs;rw[e]
  simp[kAf]
 rw[e2,List.getElem?_append_right (by omega),hl,Nat.add_sub_cancel_left,List.getElem?_append_left (List.getElem?_eq_some_iff.1 h).1];exact h
theorem kE4 (zs:List El)(K:Nat):cksL zs (K+1)=cksL zs K++[ckL zs K]:=by
 unfold cksL;rw[List.range_succ,List.map_append]
 rfl
theorem cksL_length (zs:List El)(K:Nat):(cksL zs K).length=K:=by simp[cksL]
structure CuI (w:World) (z bo:Nat) (zs:List El) (T:Nat→Prop) (pre:List Nat) (W:World):Prop where
 bel:Below w.heap.size w W
 tn:∀k,T k→bo<k∧k<W.heap.size
 q:pre=List.range pre.length
 row:∃a c,W.heap[bo]? =some (.cells #[.slice a pre.length c] 241 (0,0))∧W.ownsRow w.heap.size 244 128 (.slice a pre.length c) pre.length ((cksL zs pre.length).flatMap (kAf val8))∧∀k,(Value.slice a pre.length c).ownBlock=some k→¬T k∧z≤k
 sz:z≤W.heap.size
theorem CuI.abide (w:World)(z bo:Nat)(zs:List El)(hbo:w.heap.size≤bo):kD8 (CuI w z bo zs):=by
 rintro T T' pre W W' ⟨h1,h2,h3,⟨a,c,h4,h5,h6⟩,h7⟩ ho hw
 have hl:=(jL h4)
 refine⟨h1.trans (ho.below _ h1.size (fun k hk=>by have:=(h2 k hk).1;omega)),fun k hk=> ?_,h3,⟨a,c,ho.cellsBlock h4 (fun h=>Nat.lt_irrefl _ (h2 _ h).1),kF6 h5 ho (fun k e=>(h6 k e).1),fun k e=>⟨fun ht=> ?_,(h6 k e).2⟩⟩,Nat.le_trans h7 ho.size⟩
 ·rcases hw k hk with h | h
  ·have:=h2 k h;have:=ho.size;omega
  ·omega
 ·rcases hw k ht with h | h
  ·exact(h6 k e).1 h
  ·have:=(World.ownsRow.lt h5 k e).2;omega
theorem cut_walk (w:World)(b o c K:Nat)(zs:List El)(hK:K≤1048576)(hc:64*K≤c)(hc2:c≤maxLen)(hz:zs.length=64*K)(hr:w.rangeAt b o (kAf val8 zs))(hb:b<w.heap.size):
  Calls Try.prog 137 #[.slice (some ⟨b,o,none⟩) (64*K) c] w fun e w'=>∃a c',e= .returned (.slice a K c')∧w'.ownsRow w.heap.size 244 128 (.slice a K c') K ((cksL zs K).flatMap (kAf val8))∧Below w.heap.size w w':=by
 have HR:=jH hr;clear hr
 have hA1:=jN w (.cells #[.slice none 0 0] 241);have hB1:=(Below.refl _ w).alloc jR (.cells #[.slice none 0 0] 241);have hz1:=World.size_alloc w (.cells #[.slice none 0 0] 241)
 have HA1:=jH hA1;have HB1:=jH hB1;have HZ1:=jH hz1
 clear hA1 hB1 hz1
 obtain⟨bo,hbo⟩:∃bo,bo=w.heap.size:=⟨_,rfl⟩
 refine kB8 Try.func137 rfl ?_;simp only[Try.ntmps137,List.size_toArray,List.length_cons,List.length_nil,Nat.reduceAdd,Nat.reduceSub,Array.replicate_succ,Array.replicate_zero,List.push_toArray,List.append_toArray,List.nil_append,List.cons_append]
 go_wp2_with fail
 generalize w.alloc (.cells #[.slice none 0 0] 241)=w1 at*;refine(kEy (some ⟨b,o,none⟩) (64*K) c w1).mono ?_;rintro e w2 ⟨rfl,c2,c3,hb2,hz2⟩;have HZ2:=jH hz2;have HSt:=jH (kDk b o c K hK hc hc2 w1.heap.size (w1.heap.size+1) (fun k=>k<w2.heap.size∧k≠bo) w2 ⟨by omega,by have:=HZ1.out;omega⟩ ⟨by omega,by have:=HZ1.out;omega⟩ c2 c3);have HB2:=jH hb2;have HI0:Hid (CuI w w2.heap.size bo zs (fun _=>False) [] w2):=jH ⟨HB1.out.trans (hb2.mono HB1.out.size),fun _ h=>h.elim,rfl,⟨none,0,by rw[hbo];exact(hb2.block _ (by have:=HZ1.out;omega)).trans HA1.out,World.ownsRow_nil _ _ _ _,fun k e=>by cases e⟩,Nat.le_refl _⟩;have HBo:=jH hbo;clear c2 c3 hb2 hz2;rw[←hbo];clear hbo;go_wp2
 refine kDg (gf:=152) (lb:= #[.pointer (some ⟨w1.heap.size,0,none⟩),.pointer (some ⟨w1.heap.size+1,0,none⟩)]) rfl (enters_of Try.func152 (by kernel_rfl) rfl) HSt.out (Below.refl _ _) (fun k hk=>hk.1) (fun _=>rfl)
  (CuI w w2.heap.size bo zs) (fun _ _ _ _=>False) (CuI.abide w _ bo zs (by rw[HBo.out];exact Nat.le_refl _)) (fun _ _ _ _ _ _ h=>h.elim) HI0.out
  (fun tmps T q a' W=>a'={tmps:=(tmps.setIfInBounds 7 (.slice (some ⟨b,o+64*q*2,none⟩) 64 64)).setIfInBounds 4 (.slice (some ⟨b,o+64*q*2,none⟩) 64 64),defers:=[]}) (fun T x a' W W' h ho=>h) ?assign ?body ?done ?stop
 case stop=>
  rintro D c T pre W - - - h;exact h.elim
 case assign=>
  rintro l T pre x W K hi hK
  have HK:=jH hK;clear hK
  simp only[kKt]
  gi_wp2
  exact HK.out _ _ (kDc.refl _ _ _) hi rfl
 case body=>
  rintro lp Tt pre q a' W hTl hl - hst hA hlen ⟨q',hq',hpq⟩;subst hA
  have hq:q=pre.length∧q<K:=by
   have h1:=hst.q
   have h2:pre.length+1=q':=by have:=congrArg List.length hpq;simpa using this
   rw[←h2,List.range_succ]at hpq;obtain⟨h3,h4⟩:=List.append_inj' hpq rfl
   have h5:q=pre.length:=by simpa using h4
   exact⟨h5,by omega⟩
  obtain⟨hq1,hqK⟩:=hq;clear hpq hq' hlen;obtain⟨hbel,htn,hpre,⟨a0,c0,hcell,hown,hblk⟩,hsz⟩:=hst;rw[←hq1]at hcell hown hblk
  have HBe:=jH hbel;have HTn:=jH htn;have HPr:=jH hpre;have HCe:=jH hcell;have HOw:=jH hown;have HBk:=jH hblk;have HQ:=jH hq1
  have HRk:Hid (W.rangeAt b (o+64*q*2) (kAf val8 (ckL zs q))):=jH (fun j v hv=>by
   have h1:=HR.out (64*q*2+j) v (kMn zs q j v (by omega) hv);rw[Nat.add_assoc]
   exact(HBe.out.cell (p:=⟨b,o+(64*q*2+j),none⟩) hb).trans h1)
  have hcl:=ckL_length zs K q hz hqK;have HSu:=jH (kE4 zs q);clear hbel htn hpre hcell hown hblk hq1;generalize ckL zs q=l at*
  have hbs:(kAf val8 l).length=128:=by rw[kBx,hcl]
  have p0:W.cell? ⟨bo,0,none⟩=some (.slice a0 q c0):=jK W bo 0 _ _ (0,0) HCe.out;have hbw:b<W.heap.size:=Nat.lt_of_lt_of_le hb HBe.out.size
  have hbob:bo≠b:=by rw[HBo.out];omega
  simp only[List.setIfInBounds_toArray,List.set_cons_zero,List.set_cons_succ]
  gi_wp2
  refine kAi [6] (fun w':World=>w'.cell? ⟨bo,0,none⟩=some (.slice a0 q c0)∧w'.rangeAt b (o+64*q*2) (kAf val8 l)) (by kernel_rfl) ?_;have HCx:Hid ((fun w':World=>w'.cell? ⟨bo,0,none⟩=some (.slice a0 q c0)∧w'.rangeAt b (o+64*q*2) (kAf val8 l)) W.drew):=jH ⟨p0,HRk.out⟩;have HO3:Hid (W.drew.ownsRow w.heap.size 244 128 (.slice a0 q c0) q ((cksL zs q).flatMap (kAf val8))):=jH (World.ownsRow.drew HOw.out);have HD:Hid (Below W.heap.size W W.drew):=jH (Below.refl _ W).drew;clear p0;generalize W.drew=w3 at*;have hw3:w.heap.size≤w3.heap.size:=Nat.le_trans HBe.out.size HD.out.size;refine' kAd (i:=0) (v:=_) [5,6] (by kernel_rfl) rfl (by kernel_rfl) (fun _ _ _ h=>h) (by rfl) (by rintro w' ⟨c0,c1⟩;go_simp;try with_reducible rfl) HCx.out ?_;simp only[jA,jB,jC,Act.put,jD,jE,jF];refine' kAd (i:=1) (v:=_) [2,3,4,5,6] (by kernel_rfl) rfl (by kernel_rfl) (fun _ _ _ h=>h) (by rfl) (by rintro w' ⟨c0,c1⟩;go_simp;try with_reducible rfl) HCx.out ?_;simp only[jA,jB,jC,Act.put,jD,jE,jF];refine' kAd (i:=2) (v:= .pointer (some ⟨b,o+64*q*2,none⟩)) [3,4,5,6] (by kernel_rfl) rfl (by kernel_rfl) (fun _ _ _ h=>h) (by rfl) (by rintro w' ⟨c0,c1⟩;have ha:=run_arrayAt (P:= Try.prog) w' 244 105 64 (some ⟨b,o+64*q*2,none⟩) 64 64 Try.underlying244 jR;go_simp;try with_reducible rfl) HCx.out ?_;simp only[jA,jB,jC,Act.put,jD,jE,jF];refine' kAd (i:=3) (v:=_) [4,5,6] (by kernel_rfl) rfl (by kernel_rfl) (fun _ _ _ h=>h) (by rfl) (by exact fun w' hC=>by refine kCp 244 (.tmp 10) ?_ b (o+64*q*2) ?_ (kAf val8 l) (.array 64 105) hC.2 Try.underlying244 rfl (by rw[hbs];kernel_rfl)<;>rfl) HCx.out ?_;simp only[jA,jB,jC,Act.put,jD,jE,jF];refine kC9 (i:=4) (v:= .slice (some ⟨w3.heap.size,0,none⟩) 1 1) (w':=w3.alloc (.cells (kAf val8 l).toArray 244)) (by kernel_rfl) rfl (by kernel_rfl) (by rfl) (by go_simp;exact congrArg (fun c=>w3.alloc (.cells c 244)) (kEg (kAf val8 l) _ (by rw[hbs];rfl))) ⟨kBb HCx.out.1 _,World.rangeAt_alloc HCx.out.2 _⟩ ?_;simp only[jA,jB,jC,Act.put,jD,jE,jF]
  have hbow:bo<w2.heap.size:=by have:=HZ1.out;have:=HZ2.out;have:=HBo.out;omega
  refine kEf (i:=5) Try.elemB8 (by kernel_rfl) rfl (by kernel_rfl) (by rfl) (.tmp 8) (.tmp 12) rfl HO3.out (by omega) (by omega) hw3 (kAf val8 l) hbs (fun u hu=>kB6 l u (by simpa using hu)) 244 rfl rfl (fun w' hg=>⟨kAv hg HCx.out.1 (fun k e=>by have:=(HBk.out k e).2;omega),kBh hg HCx.out.2 (fun k e=>by have:=(HBk.out k e).2;have:=HB1.out.size;have:=HB2.out.size;omega)⟩) ?_;intro a' c' w5 ho5 hg5 hn5;simp only[jA,jB,jC,Act.put,jD,jE,jF];refine kA3 6 (by rfl) (by kernel_rfl) (by kernel_rfl) ?_;simp only[List.drop_succ_cons,List.drop_zero];have h5c:w5.heap[bo]? =some (.cells #[.slice a0 q c0] 241 (0,0)):=(kAr hg5 (by have:=HD.out.size;omega) (fun k e=>by have:=(HBk.out k e).2;omega)).trans ((HD.out.block bo (by omega)).trans HCe.out);have p1:w5.cell? ⟨bo,0,none⟩=some (.slice a0 q c0):=jK w5 bo 0 _ _ (0,0) h5c;have f1:=jO w5 bo 0 _ _ h5c;have h6c:=jP w5 bo 0 _ _ (.slice a' (q+1) c') h5c
  have H5c:=jH h6c;have H5:=jH ho5;have HG5:=jH hg5;have HN5:=jH hn5
  clear h5c h6c ho5 hg5 hn5
  gi_wp2
  have hnb:=HN5.out;have hgw:W.grownBy w5 (Value.slice a0 q c0).ownBlock:=kAm ⟨HD.out.os,HD.out.tape,HD.out.output,HD.out.size,fun k hk _=>HD.out.block k hk⟩ HG5.out
  have hblk5:∀k,(Value.slice a' (q+1) c').ownBlock=some k→¬Tt k∧w2.heap.size≤k:=fun k e=>by
   rcases hnb with h | ⟨g,h,hg⟩
   ·rw[h]at e;exact HBk.out k e
   ·rw[h]at e;cases e;have:=HD.out.size;exact⟨fun ht=>by have:=(HTn.out _ ht).2;omega,by omega⟩
  have hsz6:(w5.setCell ⟨bo,0,none⟩ (.slice a' (q+1) c')).heap.size=w5.heap.size:=by simp
  refine⟨⟨by rw[hsz6];exact hgw.size,fun k hk hT=> ?_⟩,⟨?_,fun k hk=>⟨(HTn.out k hk).1,?_⟩,?_,⟨a',c',?_,?_,?_⟩,?_⟩⟩
  ·have hkb:k≠bo:=by
    rcases hT with h | h
    ·have:=(HTn.out k h).1;omega
    ·exact h.2
   rw[jQ w5 ⟨bo,0,none⟩ k _ hkb];refine hgw.block k hk (fun e=> ?_);have:=HBk.out k e.symm
   rcases hT with h | h
   ·exact this.1 h
   ·omega
  ·exact(HBe.out.trans (kBa hgw (fun k e=>by have:=(HBk.out k e).2;have:=HB1.out.size;have:=HB2.out.size;omega) HBe.out.size)).setCell (p:=⟨bo,0,none⟩) (by show w.heap.size≤bo;rw[HBo.out];exact Nat.le_refl _) _
  ·rw[hsz6];exact Nat.lt_of_lt_of_le (HTn.out k hk).2 hgw.size
  ·rw[List.length_append,List.length_singleton,List.range_succ,←HPr.out,←HQ.out]
  ·have e:(pre++[q]).length=q+1:=by rw[List.length_append,List.length_singleton,HQ.out]
   rw[e];exact H5c.out
  ·have e:(pre++[q]).length=q+1:=by rw[List.length_append,List.length_singleton,HQ.out]
   rw[e,HSu.out,List.flatMap_append];simp only[List.flatMap_cons,List.flatMap_nil,List.append_nil];refine H5.out.kept (kAe w5 bo 0 _) ?_
   cases e2:(Value.slice a' (q+1) c').ownBlock with
   | none=>exact .inl rfl
   | some k=>exact .inr (fun e3=>by cases e3;have:=(hblk5 _ e2).2;omega)
  ·have e:(pre++[q]).length=q+1:=by rw[List.length_append,List.length_singleton,HQ.out]
   rw[e];exact hblk5
  ·rw[hsz6];exact Nat.le_trans hsz hgw.size
 case done=>
  rintro D Tt xs w20 hD hTD rfl hst hDk;obtain⟨hbel,htn, -,⟨a0,c0,hcell,hown,hblk⟩,hsz⟩:=hst;rw[List.length_range]at hcell hown hblk;have p0:w20.cell? ⟨bo,0,none⟩=some (.slice a0 K c0):=jK w20 bo 0 _ _ (0,0) hcell
  have HBe:=jH hbel;have HOw:=jH hown;have HBk:=jH hblk;have HDk:=jH hDk;have HTD:=jH hTD
  have hwD:w.heap.size≤D:=by have:=HB1.out.size;have:=HB2.out.size;omega
  clear hbel htn hcell hown hblk hDk hTD;go_wp2
  refine kE5 HDk.out (kCz (results_tmp rfl _ _ _) ?_);refine⟨a0,c0,rfl,?_,kF2 HBe.out D _ hwD⟩;refine HOw.out.kept (grownBy_putObj' w20 D _) ?_
  cases e2:(Value.slice a0 K c0).ownBlock with
  | none=>exact .inl rfl
  | some k=>exact .inr (fun e3=>by cases e3;exact(HBk.out _ e2).1 HTD.out)
end Go.Proofs.Ytabbabkmojaoaaa.VT

namespace Go.Proofs.Ytabbabkmojaoaaa.VT
open Go.RowKit
theorem kDw (w:World)(g:Nat)(T:kAy El)(hk:kA5 T)(h0:0<T.low.length)(h:kAj val8 243 128 w g T):
  Calls Try.prog 136 #[.pointer (some ⟨g,0,none⟩)] w fun e w'=>e= .returned (.bool true)∧w=w':=by
 obtain⟨am,cm,al,cl,h1,h2,h3⟩:=h;have c2:=kAj.cell_low (val:=val8) hk h1
 have h0i:(0:Int)<(T.low.length:Int):=by omega
 have d0:decide ((0:Int)<(T.low.length:Int))=true:=decide_eq_true h0i
 have H1:=jH h1;clear h1
 have H2:=jH h2;clear h2
 have H3:=jH h3;clear h3
 clear hk;generalize T.low.length=n at*
 go_enter Try.func136,Try.ntmps136
 go_wp2
 go_ret
 exact⟨rfl,rfl⟩
theorem kC8 {P:Program}{ops:Array Oper}{w:World}{Q:Act→Prop}{rest:List Oper}{o:Oper}{a:Act}(hg:o.guard=none)(bo:BinOp)(t:TypeId)(x y:Operand)(t2:TypeId)(ho:o.op= .binOp bo t x y t2)(xv yv v:Value)(hx:a.eval x=xv)(hy:a.eval y=yv)
  (hG:(eqGuard bo t x y xv yv).run P w= .ok () w)(hr:(binOp bo t xv yv).run P w= .ok v w)(h:wpStill P ops w Q rest (a.put o.dst v)):wpStill P ops w Q (o :: rest) a:=by
 refine kFb hg ?_ h;unfold execOp;simp only[ho,hx,hy,Sem.run_bind,Sem.run_pure,Result.andThen_ok,hG,hr]
theorem kIr (xs ys:Array Value)(x y:Operand)(w:World):(eqGuard .neq 244 x y (.agg xs) (.agg ys)).run Try.prog w= .ok () w:=run_eqGuard_agg w .neq 244 x y xs ys (by kernel_rfl)
theorem kIx {P:Program}(w:World)(t:TypeId)(xs ys:Array Value)(b:Bool)(h:(Op.equal t (.agg xs) (.agg ys)).run P w= .ok b w):(binOp .neq t (.agg xs) (.agg ys)).run P w= .ok (.bool (!b)) w:=by
 simp[binOp,h]
theorem kGj (l m:List El)(h:l.length=m.length):eqL (fun a b=>decide (a=b)) l m=decide (l=m):=by
 by_cases e:l=m
 ·rw[(kF4 l m h).2 e];simp[e]
 ·cases e2:eqL (fun a b=>decide (a=b)) l m
  ·simp[e]
  ·exact absurd ((kF4 l m h).1 e2) e
theorem kIy (l m:List El)(hl:l.length=64)(hm:m.length=64)(w:World):(binOp .neq 244 (.agg (kAf val8 l).toArray) (.agg (kAf val8 m).toArray)).run Try.prog w= .ok (.bool (!decide (l=m))) w:=by
 have:= Try.k8.equal w l m hl hm;rw[kGj l m (by omega)]at this;exact kIx w _ _ _ _ this
def SaO (w:World) (T1 T2:kAy El) (v:Value) (wr:World):Prop:=∃c:Nat,c≤272∧v= .int .i64 (c:Nat)∧(∀k,k<64*c→kBd T1 k=kBd T2 k)∧∃n,wr=w.drewN n
def SaI (w:World) (T1 T2:kAy El) (c:Nat) (v:Value) (wr:World):Prop:=∃j:Nat,j≤64∧v= .int .i64 (j:Nat)∧(∀k,k<64*c+j→kBd T1 k=kBd T2 k)∧∃n,wr=w.drewN n
theorem kGr {T1 T2:kAy El}(h1:kA5 T1)(h2:kA5 T2):(∀k,k<17408→kBd T1 k=kBd T2 k)↔∀r,r≤1114111→kAl ((0:Int),ByteArray.empty) T1 r=kAl ((0:Int),ByteArray.empty) T2 r:=by
 constructor
 ·intro h r hr;have e:=h (r / 64) (by omega);rw[show r=64*(r / 64)+r % 64 by omega,←kBs ((0:Int),ByteArray.empty) T1 (r / 64) (r % 64) (by omega),←kBs ((0:Int),ByteArray.empty) T2 (r / 64) (r % 64) (by omega),e]
 ·intro h k hk
  apply List.ext_getElem?
  intro j;have l1:=kBc h1 k hk;have l2:=kBc h2 k hk
  by_cases hj:j<64
  ·have:=h (64*k+j) (by omega);rw[←kBs ((0:Int),ByteArray.empty) T1 k j hj,←kBs ((0:Int),ByteArray.empty) T2 k j hj,kAn (by omega),kAn (by omega)]at this;rw[List.getElem?_eq_getElem (by omega),List.getElem?_eq_getElem (by omega),this]
  ·rw[List.getElem?_eq_none (by omega),List.getElem?_eq_none (by omega)]
structure TopC (w:World) (g:Nat) (T:kAy El) (c cm cl i bm om bl ol:Nat):Prop where
 mid:w.cell? ⟨g,272,none⟩=some (.slice (some ⟨bm,om,none⟩) T.mid.length cm)
 low:w.cell? ⟨g,273,none⟩=some (.slice (some ⟨bl,ol,none⟩) T.low.length cl)
 top:w.cell? ⟨g,c,none⟩=some (.int .u16 (i:Nat))
 il:i<T.mid.length
 m:∀j,j<64→∃q,w.cell? ⟨bm,om+i*64+j,none⟩=some (.int .u16 (q:Nat))∧q<T.low.length∧w.rangeAt bl (ol+q*128) (kAf val8 (kBd T (64*c+j)))
theorem kNc {w:World}{g:Nat}{T:kAy El}(hk:kA5 T)(h0:0<T.low.length)(h:kAj val8 243 128 w g T)(c:Nat)(hc:c<272):∃cm cl i bm om bl ol,TopC w g T c cm cl i bm om bl ol:=by
 obtain⟨am,cm,al,cl,h1,h2,h3⟩:=h;have ht:=kAj.cell_top (val:=val8) hk h1 c hc
 have htl:c<T.top.length:=by rw[hk.top];exact hc
 obtain⟨i,hi⟩:∃i,i=T.top.getD c 0:=⟨_,rfl⟩
 have hil:i<T.mid.length:=by
  rw[hi,kAn (d:=0) htl];exact hk.topN _ (List.getElem_mem htl)
 have hml:(T.mid[i]).length=64:=hk.mid _ (List.getElem_mem hil);obtain⟨bm,om,rfl⟩:=h2.some (by omega);obtain⟨bl,ol,rfl⟩:=h3.some h0;refine⟨cm,cl,i,bm,om,bl,ol,kAj.cell_mid (val:=val8) hk h1,kAj.cell_low (val:=val8) hk h1,by rw[ht,←hi];rfl,hil,fun j hj=> ?_⟩
 have hmj:j<(T.mid[i]).length:=by rw[hml];exact hj
 have hjl:(T.mid[i]).getD j 0<T.low.length:=by
  rw[kAn (d:=0) hmj];exact hk.midN _ (List.getElem_mem hil) _ (List.getElem_mem hmj)
 refine⟨(T.mid[i]).getD j 0,?_,hjl,?_⟩
 ·rw[h2.cell kA0 i hil j hmj,kAn (d:=0) hmj]
  rfl
 ·have e:kBd T (64*c+j)=T.low[(T.mid[i]).getD j 0]:=by
   unfold kBd;rw[show(64*c+j) / 64=c by omega,show(64*c+j) % 64=j by omega,←hi,kAn (d:=[]) hil,kAn (d:=[]) hjl]
  rw[e];exact h3.get _ hjl
theorem kGe (w:World)(g1 g2:Nat)(T1 T2:kAy El)(hk1:kA5 T1)(hk2:kA5 T2)(h01:0<T1.low.length)(h02:0<T2.low.length)(ht1:kAj val8 243 128 w g1 T1)(ht2:kAj val8 243 128 w g2 T2):
  Calls Try.prog 113 #[.pointer (some ⟨g1,0,none⟩),.pointer (some ⟨g2,0,none⟩)] w fun e w'=>∃b n,e= .returned (.bool b)∧w'=w.drewN n∧(b=true↔∀r,r≤1114111→kAl ((0:Int),ByteArray.empty) T1 r=kAl ((0:Int),ByteArray.empty) T2 r):=by
 have HTh1:=jH (kDw w g1 T1 hk1 h01 ht1);have HTh2:=jH (kDw w g2 T2 hk2 h02 ht2);have HC1:=jH (kNc hk1 h01 ht1);have HC2:=jH (kNc hk2 h02 ht2);have HS:=jH (kGr hk1 hk2);have HL1:=jH (kBc hk1);have HL2:=jH (kBc hk2);have hm1:=hk1.midL;have hm2:=hk2.midL;have hl1:=hk1.lowL;have hl2:=hk2.lowL;clear ht1 ht2 hk1 hk2
 go_enter Try.func113,Try.ntmps113
 go_wp2_with fail
 refine HTh1.out.mono ?_;rintro e w1 ⟨rfl,rfl⟩
 go_wp2_with fail
 refine HTh2.out.mono ?_;rintro e w1 ⟨rfl,rfl⟩;go_wp2
 go_loopw [17] (SaO w T1 T2) (fun i _=>272 - (intOf i).toNat)
 case atStart=>exact⟨0,Nat.zero_le _,rfl,fun k hk=>by omega,0,rfl⟩
 case round=>
  obtain⟨c,hc,rfl,hsame,q,rfl⟩:=hrel
  have HSm:=jH hsame;clear hsame
  by_cases hcn:c<272
  ·have hci:(c:Int)<272:=by omega
   obtain⟨cm1,cl1,i1,bm1,om1,bl1,ol1,hc1⟩:=HC1.out c hcn;obtain⟨cm2,cl2,i2,bm2,om2,bl2,ol2,hc2⟩:=HC2.out c hcn;have p1:w.cell? ⟨g1,272,none⟩=_:=hc1.mid;have p2:w.cell? ⟨g1,c,none⟩=_:=hc1.top;have p3:w.cell? ⟨g2,272,none⟩=_:=hc2.mid;have p4:w.cell? ⟨g2,c,none⟩=_:=hc2.top;have i1l:=hc1.il;have i2l:=hc2.il
   have H1:=jH hc1;clear hc1
   have H2:=jH hc2;clear hc2
   generalize hnm1:T1.mid.length=nm1 at*;generalize hnm2:T2.mid.length=nm2 at*;have HN:=jH (And.intro hnm1 hnm2);clear hnm1 hnm2
   have g1':(0:Int)≤(i1:Int):=by omega
   have g2':(i1:Int)<(nm1:Int):=by omega
   have g3':(0:Int)≤(i2:Int):=by omega
   have g4':(i2:Int)<(nm2:Int):=by omega
   have g5':(0:Int)≤(c:Int):=by omega
   go_wp2
   go_quiet (fail)
   clear p1 p2 p3 p4;go_wp2
   go_loopw [42] (SaI w T1 T2 c) (fun i _=>64 - (intOf i).toNat)
   case atStart=>exact⟨0,Nat.zero_le _,rfl,HSm.out,q+nq,by rw[World.drewN_drewN]⟩
   case round=>
    obtain⟨j,hj,rfl,hsame,q,rfl⟩:=hrel
    have HSm2:=jH hsame;clear hsame
    by_cases hjn:j<64
    ·have hji:(j:Int)<64:=by omega
     obtain⟨k1,m1,l1,r1⟩:=H1.out.m j hjn;obtain⟨k2,m2,l2,r2⟩:=H2.out.m j hjn;have p1:(w.drewN q).cell? ⟨g1,273,none⟩=_:=H1.out.low;have p3:(w.drewN q).cell? ⟨g2,273,none⟩=_:=H2.out.low;have m1:(w.drewN q).cell? ⟨bm1,om1+i1*64+j,none⟩=_:=m1;have m2:(w.drewN q).cell? ⟨bm2,om2+i2*64+j,none⟩=_:=m2;have r1:(w.drewN q).rangeAt bl1 (ol1+k1*128) (kAf val8 (kBd T1 (64*c+j))):=r1;have r2:(w.drewN q).rangeAt bl2 (ol2+k2*128) (kAf val8 (kBd T2 (64*c+j))):=r2
     obtain⟨wr,hwr⟩:∃wr,wr=w.drewN q:=⟨_,rfl⟩
     rw[←hwr]at p1 p3 m1 m2 r1 r2 ⊢
     have HWr:=jH hwr;clear hwr
     have e1:=HL1.out (64*c+j) (by omega);have e2:=HL2.out (64*c+j) (by omega)
     obtain⟨b1,hb1⟩:∃b1,b1=kBd T1 (64*c+j):=⟨_,rfl⟩
     obtain⟨b2,hb2⟩:∃b2,b2=kBd T2 (64*c+j):=⟨_,rfl⟩
     rw[←hb1]at e1 r1;rw[←hb2]at e2 r2
     have hs1:(kAf val8 b1).length=128:=by rw[kBx,e1]
     have hs2:(kAf val8 b2).length=128:=by rw[kBx,e2]
     have R1:=jH r1;clear r1
     have R2:=jH r2;clear r2
     have HB:=jH (And.intro hb1 hb2);clear hb1 hb2
     generalize hnl1:T1.low.length=nl1 at*;generalize hnl2:T2.low.length=nl2 at*;clear hnl1 hnl2
     have g1':(0:Int)≤(k1:Int):=by omega
     have g2':(k1:Int)<(nl1:Int):=by omega
     have g3':(0:Int)≤(k2:Int):=by omega
     have g4':(k2:Int)<(nl2:Int):=by omega
     have g5':(0:Int)≤(j:Int):=by omega
     go_upto_region 10 with(fail)
     refine wp_region_still_lit (by kernel_rfl) (by kernel_rfl) ?_
     iterate 10 still_step
     refine kAw rfl 244 (.tmp 54) rfl bl1 (ol1+k1*128) rfl (kAf val8 b1) _ (show(wr.drew).rangeAt bl1 (ol1+k1*128) (kAf val8 b1)from R1.out) Try.underlying244 rfl (by rw[hs1];kernel_rfl) ?_
     iterate 10 still_step
     refine kAw rfl 244 (.tmp 65) rfl bl2 (ol2+k2*128) rfl (kAf val8 b2) _ (show(wr.drew).rangeAt bl2 (ol2+k2*128) (kAf val8 b2)from R2.out) Try.underlying244 rfl (by rw[hs2];kernel_rfl) ?_;refine kC8 rfl .neq 244 (.tmp 55) (.tmp 66) _ rfl (.agg (kAf val8 b1).toArray) (.agg (kAf val8 b2).toArray) _ rfl rfl (kIr _ _ _ _ _) (kIy b1 b2 e1 e2 _) ?_;refine wpStill_nil ?_;clear p1 p3 m1 m2
     by_cases hbb:b1=b2
     ·have hd:decide (b1=b2)=true:=decide_eq_true hbb;rw[hd]
      have HSm3:Hid (∀k,k<64*c+(j+1)→kBd T1 k=kBd T2 k):=jH (fun k hk=>by
       by_cases e:k=64*c+j
       ·rw[e,←HB.out.1,←HB.out.2,hbb]
       ·exact HSm2.out k (by omega))
      clear hbb hd;go_wp2
      go_roundw
      case rel=>exact⟨j+1,by omega,by go_num,HSm3.out,q+1,by rw[HWr.out];rfl⟩
      case measure=>simp[intOf];omega
     ·have hd:decide (b1=b2)=false:=decide_eq_false hbb;rw[hd];have HNe:Hid (¬ ∀r,r≤1114111→kAl ((0:Int),ByteArray.empty) T1 r=kAl ((0:Int),ByteArray.empty) T2 r):=jH (fun h=>hbb (by rw[HB.out.1,HB.out.2];exact HS.out.2 h _ (by omega)));clear hbb hd;go_wp2
      go_ret
      exact⟨false,q+1,rfl,by rw[HWr.out];rfl,fun h=>absurd h (by simp),fun h=>absurd h HNe.out⟩
    ·obtain rfl:j=64:=by omega
     have HSm3:Hid (∀k,k<64*(c+1)→kBd T1 k=kBd T2 k):=jH HSm2.out;go_wp2
     go_roundw
     case rel=>exact⟨c+1,by omega,by go_num,HSm3.out,q,rfl⟩
     case measure=>simp[intOf];omega
  ·obtain rfl:c=272:=by omega
   have HSe:=jH (HS.out.1 HSm.out);go_wp2
   go_ret
   exact⟨true,q,rfl,rfl,fun _=>HSe.out,fun _=>rfl⟩
end Go.Proofs.Ytabbabkmojaoaaa.VT

namespace Go.Proofs.Ytabbabkmojaoaaa.VT
open Go.RowKit
theorem kHg (xs ys:Array Value)(x y:Operand)(w:World):(eqGuard .eql 244 x y (.agg xs) (.agg ys)).run Try.prog w= .ok () w:=run_eqGuard_agg w .eql 244 x y xs ys (by kernel_rfl)
theorem kIs {P:Program}(w:World)(t:TypeId)(xs ys:Array Value)(b:Bool)(h:(Op.equal t (.agg xs) (.agg ys)).run P w= .ok b w):(binOp .eql t (.agg xs) (.agg ys)).run P w= .ok (.bool b) w:=by
 simp[binOp,h]
theorem kIt (l:List El)(hl:l.length=64)(w:World):(binOp .eql 244 (.agg (kAf val8 l).toArray) (.agg (kAf val8 l).toArray)).run Try.prog w= .ok (.bool true) w:=by
 have:= Try.k8.equal w l l hl hl;rw[kGj l l rfl]at this
 simpa using kIs w _ _ _ _ this
structure kGd (w:World) (g bt:Nat) (T:kAy El):Prop where
 tr:kAj val8 243 128 w g T
 tp:T.top.length=272
 ml:∀m∈T.mid,m.length=64
 ll:∀l∈T.low,l.length=64
 mn:T.mid.length≤1048576
 ln:T.low.length≤1048576
 ct:w.cell? ⟨bt,0,none⟩=some (.pointer (some ⟨g,0,none⟩))
theorem kGd.below {w w':World}{g bt:Nat}{T:kAy El}(h:kGd w g bt T)(hb:Below w.heap.size w w'):kGd w' g bt T:=
 ⟨h.tr.below hb jR,h.tp,h.ml,h.ll,h.mn,h.ln,(hb.cell (p:=⟨bt,0,none⟩) (World.block_lt_of_cell? w _ h.ct)).trans h.ct⟩
theorem kGd.low {w:World}{g bt:Nat}{T:kAy El}(h:kGd w g bt T):∃a c,w.cell? ⟨g,273,none⟩=some (.slice a T.low.length c)∧kAg val8 128 w a T.low:=by
 obtain⟨am,cm,al,cl,h1,h2,h3⟩:=h.tr;refine⟨al,cl,?_,h3⟩;rw[jK w g 273 _ _ (0,0) h1];simp[kD7,h.tp]
theorem kGd.mid {w:World}{g bt:Nat}{T:kAy El}(h:kGd w g bt T):∃a c,w.cell? ⟨g,272,none⟩=some (.slice a T.mid.length c)∧kAg kAb 64 w a T.mid:=by
 obtain⟨am,cm,al,cl,h1,h2,h3⟩:=h.tr;refine⟨am,cm,?_,h2⟩;rw[jK w g 272 _ _ (0,0) h1];simp[kD7,h.tp]
theorem kDu (w:World)(g bt:Nat)(T:kAy El)(h:kGd w g bt T)(no:Nat)(hno:no<T.low.length):
  Calls Try.prog 138 #[.int .u16 (no:Nat),.pointer (some ⟨bt,0,none⟩)] w fun e w'=>e= .returned (.bool true)∧Below w.heap.size w w':=by
 obtain⟨a,c,c1,hbl⟩:=h.low;obtain⟨b,o,rfl⟩:=hbl.some (by omega);have HR:=jH (hbl.get no hno);have hl:=h.ll _ (List.getElem_mem hno);have c0:=h.ct;have hln:=h.ln;clear h hbl;generalize T.low[no]=l at*;generalize T.low.length=nl at*
 have hs:(kAf val8 l).length=128:=by rw[kBx,hl]
 have g1:(0:Int)≤(no:Int):=by omega
 have g2:(no:Int)<(nl:Int):=by omega
 go_enter Try.func138,Try.ntmps138
 go_upto_region 1 with(fail)
 refine wp_region_still_lit (by kernel_rfl) (by kernel_rfl) ?_
 iterate 6 still_step
 refine kAw rfl 244 (.tmp 9) rfl b (o+no*128) rfl (kAf val8 l) _ (show w.drew.rangeAt b (o+no*128) (kAf val8 l)from HR.out) Try.underlying244 rfl (by rw[hs];kernel_rfl) ?_
 iterate 6 still_step
 refine kAw rfl 244 (.tmp 16) rfl b (o+no*128) rfl (kAf val8 l) _ (show w.drew.rangeAt b (o+no*128) (kAf val8 l)from HR.out) Try.underlying244 rfl (by rw[hs];kernel_rfl) ?_;refine kC8 rfl .eql 244 (.tmp 10) (.tmp 17) _ rfl (.agg (kAf val8 l).toArray) (.agg (kAf val8 l).toArray) _ rfl rfl (kHg _ _ _ _ _) (kIt l hl _) ?_
 still_step
 refine wpStill_nil ?_;go_wp2
 go_ret
 exact⟨rfl,(Below.refl _ w).drew⟩
theorem kFy (w:World)(g bt b5:Nat)(T:kAy El)(h:kGd w g bt T)(no:Nat)(hno:no<T.low.length)(h5:w.cell? ⟨b5,0,none⟩=some (.func (.func 138) #[] #[.pointer (some ⟨bt,0,none⟩)])):
  Calls Try.prog 140 #[.int .u16 (no:Nat),.pointer (some ⟨b5,0,none⟩)] w fun e w'=>e= .returned (.bool false)∧Below w.heap.size w w':=by
 have HS:=jH (kDu w g bt T h no hno);clear h
 go_enter Try.func140,Try.ntmps140
 go_wp2_with fail
 refine HS.out.mono ?_;rintro e w1 ⟨rfl,hb⟩
 have HB:=jH hb;clear hb
 go_wp2
 go_ret
 exact⟨rfl,HB.out⟩
theorem kFx (w:World)(g bt b5:Nat)(T:kAy El)(h:kGd w g bt T)(no:Nat)(hno:no<T.mid.length)(hmid:∀m∈T.mid,∀k∈m,k<T.low.length)(h5:w.cell? ⟨b5,0,none⟩=some (.func (.func 138) #[] #[.pointer (some ⟨bt,0,none⟩)])):
  Calls Try.prog 139 #[.int .u16 (no:Nat),.pointer (some ⟨bt,0,none⟩),.pointer (some ⟨b5,0,none⟩)] w fun e w'=>e= .returned (.bool true)∧Below w.heap.size w w':=by
 obtain⟨a,c,c1,hbl⟩:=h.mid;obtain⟨b,o,rfl⟩:=hbl.some (by omega);have hl:=h.ml _ (List.getElem_mem hno);have HNA:Hid (kCm w (some ⟨b,o+no*64,none⟩) T.mid[no]):=jH (fun i hi=>⟨b,o+no*64,rfl,hbl.cell kA0 no hno i hi⟩)
 have HCf:=jH (kEa w b (o+no*64) 64 64 T.mid[no] 140 #[.pointer (some ⟨b5,0,none⟩)] hl (by omega) HNA.out (enters_of Try.func140 (by kernel_rfl) rfl)
  (fun x W hx hb=>kFy W g bt b5 T (h.below hb) x (hmid _ (List.getElem_mem hno) x hx) ((hb.cell (p:=⟨b5,0,none⟩) (World.block_lt_of_cell? w _ h5)).trans h5)))
 have c0:=h.ct;have hmn:=h.mn;clear h hbl hl hmid HNA;generalize T.mid.length=nm at*
 have g1:(0:Int)≤(no:Int):=by omega
 have g2:(no:Int)<(nm:Int):=by omega
 go_enter Try.func139,Try.ntmps139
 go_wp2_with fail
 refine HCf.out.mono ?_;rintro e w1 ⟨rfl,hb⟩
 have HB:=jH hb;clear hb
 go_wp2
 go_ret
 exact⟨rfl,HB.out⟩
end Go.Proofs.Ytabbabkmojaoaaa.VT
