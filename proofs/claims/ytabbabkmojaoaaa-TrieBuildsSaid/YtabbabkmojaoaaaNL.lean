/- several texts in one: UNN CUN FA FB -/
import Derived.Test.YtabbabkmojaoaaaNK
import Derived.Test.YtabbabkmojaoaaaNH
import Derived.Test.YtabbabkmojaoaaaNF
import Derived.Laws.Cover3
set_option linter.unusedVariables false
set_option linter.unusedSimpArgs false
set_option maxRecDepth 100000
set_option maxHeartbeats 16000000
namespace Go.Proofs.Ytabbabkmojaoaaa.VN
open Go.RowKit
abbrev El:=Nat
abbrev val8:El→Value:=kAb
theorem kB6 (b:List El):∀u∈(kAf val8 b).toArray.toList,u.oneCell'=true:=kG0 b
theorem Try.k8:kG6 Try.prog 120 91 64 1 val8 (fun a b=>decide (a=b)):= Try.k16
theorem kA7 (b:List El):kAf val8 b=b.map val8:=kA4 b
theorem Try.elemB8:kEs Try.prog 111 120 (.agg (Array.replicate 64 (.int .u16 0))) 64 128:= Try.elemB16
theorem kCv {P:Program}{o:Oper}{a:Act}{w:World}(ty:TypeId)(x y:Operand)(ok:Bool)(ho:o.op= .lookup ty x y ok)(xv yv v:Value)(hx:a.eval x=xv)(hy:a.eval y=yv)(hr:(Instr.lookup ty xv yv ok).run P w= .ok v w):(execOp a.eval o).run P w= .ok (.value v) w:=by
 unfold execOp;simp only[ho,hx,hy,Sem.run_bind,Sem.run_pure,Result.andThen_ok,hr]
def UnL (eqB:El→El→Bool) (L:List (List El)) (n:Nat):Prop:=∀k (h:k<L.length),k<n→kAo eqB L[k] (L.take k)=none
def UnR (w:World) (L:List (List El)) (i:Value) (wr:World):Prop:=∃k:Nat,k≤L.length∧i= .int .i64 (k:Nat)∧UnL (fun a b=>decide (a=b)) L k∧kBw val8 (fun _=> .int .i64 1) wr w.heap.size (L.take k)∧Below w.heap.size w wr
theorem unlike_walk (w:World)(a:Option Addr)(n c:Nat)(L:List (List El))(hn:L.length=n)(hn2:n≤1048576)(hl:∀l∈L,l.length=64)(h:kAg val8 64 w a L):
  Calls Try.prog 98 #[.slice a n c] w fun e w'=>(e= .returned (.bool true)∧Below w.heap.size w w'∧UnL (fun a b=>decide (a=b)) L n)∨(e= .returned (.bool false)∧Below w.heap.size w w'∧¬UnL (fun a b=>decide (a=b)) L n):=by
 have HN:=jH hn;clear hn
 have HLl:=jH hl;clear hl
 have HA:=jH h;clear h
 go_enter Try.func98,Try.ntmps98
 go_upto_region 1 with(fail)
 refine wp_region_list ?_;refine kAc (v:= .map (some w.heap.size)) (w':=w.alloc (.map #[] 0)) rfl (by kernel_rfl) ?_;have hA0:=jN w (.map #[] 0);have hB0:Below w.heap.size w (w.alloc (.map #[] 0)):=(Below.refl _ _).alloc jR _;have hz0:=World.size_alloc w (.map #[] 0)
 obtain⟨b0,hb0⟩:∃b0,b0=w.heap.size:=⟨_,rfl⟩
 rw[←hb0];have HB0:=jH hB0;have HA0:Hid (kBw val8 (fun _=> .int .i64 1) (w.alloc (.map #[] 0)) w.heap.size (L.take 0)):=jH hA0;have HBz:=jH hb0;clear hA0 hB0 hz0 hb0;generalize w.alloc (.map #[] 0)=w1 at*;go_wp2
 go_loopw [9] (UnR w L) (fun i _=>n - (intOf i).toNat)
 case atStart=>exact⟨0,Nat.zero_le _,rfl,fun k h hk=>by omega,HA0.out,HB0.out⟩
 case round=>
  obtain⟨k,hk,rfl,hun,hmap,hbel⟩:=hrel
  have HUn:=jH hun;clear hun
  have HMp:=jH hmap;clear hmap
  have HBe:=jH hbel;clear hbel
  by_cases hkn:k<n
  ·have hki:(k:Int)<(n:Int):=by omega
   have hkl:k<L.length:=by rw[HN.out];exact hkn
   obtain⟨ba,oa,ha⟩:=HA.out.some (by omega);subst ha;have HR:Hid (wr.rangeAt ba (oa+k*64) (kAf val8 L[k])):=jH (kAs (HA.out.get k hkl) HBe.out jR);have hl64:(L[k]).length=64:=HLl.out _ (List.getElem_mem hkl);have HTk:Hid (L.take (k+1)=L.take k++[L[k]]):=jH (List.take_succ_eq_append_getElem hkl)
   have HUs:Hid (kAo (fun a b=>decide (a=b)) L[k] (L.take k)=none→UnL (fun a b=>decide (a=b)) L (k+1)):=jH (fun h j hj hj2=>by
    by_cases e:j=k
    ·subst e;exact h
    ·exact HUn.out j hj (by omega))
   have HUf:Hid (¬kAo (fun a b=>decide (a=b)) L[k] (L.take k)=none→¬UnL (fun a b=>decide (a=b)) L n):=jH (fun h h2=>h (h2 k hkl hkn));generalize L[k]=l at*
   have hbs:(kAf val8 l).length=64:=by rw[kAh (sz:=1) (fun _=>rfl),hl64]
   have hlt:(L.take k).length=k:=by rw[List.length_take];omega
   have HLt:Hid (∀m∈L.take k,m.length=64):=jH (fun m hm=>HLl.out m (List.mem_of_mem_take hm))
   go_upto_region 4 with(fail)
   refine wp_region_list ?_;refine kAc (v:= .pointer (some ⟨ba,oa+k*64,none⟩)) (w':=wr) rfl (by go_simp) ?_;refine wpList_load_mid rfl 120 (.tmp 11) rfl ba (oa+k*64) rfl (kAf val8 l) (.array 64 91) HR.out Try.underlying120 rfl (by rw[hbs];kernel_rfl) ?_;refine kAc (v:= .pointer (some ⟨wr.heap.size,0,none⟩)) (w':=wr.alloc (.cells (kAf val8 (List.replicate 64 (0:El))).toArray 120)) rfl (by kernel_rfl) ?_
   obtain⟨b7,hb7⟩:∃b7,b7=wr.heap.size:=⟨_,rfl⟩
   have hA1:=jN wr (.cells (kAf val8 (List.replicate 64 (0:El))).toArray 120);have hB1:Below wr.heap.size wr (wr.alloc (.cells (kAf val8 (List.replicate 64 (0:El))).toArray 120)):=(Below.refl _ _).alloc jR _;rw[←hb7]at hA1 hB1 ⊢;generalize wr.alloc (.cells (kAf val8 (List.replicate 64 (0:El))).toArray 120)=v1 at*;refine wpList_store_row rfl 120 (.tmp 5) (.tmp 12) rfl b7 (kAf val8 l).toArray rfl rfl 120 _ hA1 (by rw[List.size_toArray,hbs];kernel_rfl) (by rw[List.size_toArray,List.size_toArray,hbs,kAh (sz:=1) (fun _=>rfl)];rfl) (all_oneCell_toArray (fun u hu=>kB6 l u (by simpa using hu))) ?_;have hA2:=setRow_heap v1 b7 _ (kAf val8 l).toArray _ _ hA1
   have hB2:Below b7 wr (v1.setRow b7 (kAf val8 l).toArray):=⟨hB1.os,hB1.tape,hB1.output,by rw[setRow_size];exact hB1.size,fun k hk=>by rw[setRow_other v1 b7 k _ (by omega)];exact hB1.block k hk⟩
   generalize v1.setRow b7 (kAf val8 l).toArray=v2 at*
   have HR2:Hid (v2.rangeAt b7 0 (kAf val8 l)):=jH (by
    have:=World.rangeAt_of_block hA2 0 (kAf val8 l).length
    simpa using this)
   have hmb:w.heap.size<wr.heap.size:=(jL HMp.out)
   have HMp2:Hid (kBw val8 (fun _=> .int .i64 1) v2 w.heap.size (L.take k)):=jH ((hB2.block _ (by omega)).trans HMp.out);have HB2:Hid (Below w.heap.size w v2):=jH (HBe.out.trans (hB2.mono (by omega)));have HB7:=jH hb7;clear hA1 hB1 hA2 hB2 hb7 v1 HR HMp HBe
   obtain⟨u,hu⟩:∃u:Int,u=(if kAo (fun a b=>decide (a=b)) l (L.take k)=none then 0 else 1):=⟨_,rfl⟩
   have HLk:Hid ((Instr.lookup 231 (.map (some w.heap.size)) (kEn val8 l) false).run Try.prog v2= .ok (.int .i64 u) v2):=jH (by
    rw[Try.k8.lookupG (te:=3) Try.underlying231 (z:= .int .i64 0) (fun w=>by kernel_rfl) HMp2.out l hl64 HLt.out false,hu]
    cases kAo (fun a b=>decide (a=b)) l (L.take k)<;>rfl)
   have hbz:w.heap.size=b0:=HBz.out.symm;rw[hbz]at HLk
   have HU:=jH hu;clear hu
   go_upto_region 5 with(fail)
   refine wp_region_list ?_;refine kAc (v:= .map (some b0)) (w':=v2) rfl (by rfl) ?_;refine wpList_load_mid rfl 120 (.tmp 5) rfl b7 0 (by first | rfl | (rw[HB7.out];rfl)) (kAf val8 l) (.array 64 91) HR2.out Try.underlying120 rfl (by rw[hbs];kernel_rfl) ?_;refine kAc (v:= .int .i64 u) (w':=v2) rfl (kCv 231 (.tmp 13) (.tmp 14) false rfl (.map (some b0)) (kEn val8 l) _ rfl rfl HLk.out) ?_
   by_cases hf:kAo (fun a b=>decide (a=b)) l (L.take k)=none
   ·have hu0:u=0:=by rw[HU.out,if_pos hf]
    have HF:=jH hf;clear hf
    have HU2:=jH (HUs.out HF.out);have HSt:=jH (Try.k8.storeG Try.underlying231 (te:=3) HMp2.out l hl64 HLt.out HF.out (.int .i64 1) rfl)
    have HMp3:Hid (kBw val8 (fun _=> .int .i64 1) (kG8 v2 w.heap.size (.map (kDd val8 (fun _=> .int .i64 1) 0 (L.take k++[l])).toArray (L.take k++[l]).length)) w.heap.size (L.take (k+1))):=jH (by
     rw[HTk.out]
     exact kE7 v2 _ (jL HMp2.out))
    have HB3:Hid (Below w.heap.size w (kG8 v2 w.heap.size (.map (kDd val8 (fun _=> .int .i64 1) 0 (L.take k++[l])).toArray (L.take k++[l]).length))):=jH (HB2.out.trans (kGz v2 _ _ jR));rw[hbz]at HSt HMp3 HB3;generalize (kG8 v2 b0 (.map (kDd val8 (fun _=> .int .i64 1) 0 (L.take k++[l])).toArray (L.take k++[l]).length))=v3 at*;subst hu0;clear hbz
    go_upto_region 7 with(fail)
    refine wp_region_list ?_;refine kAc (v:= .map (some b0)) (w':=v2) rfl (by rfl) ?_;refine wpList_load_mid rfl 120 (.tmp 5) rfl b7 0 (by first | rfl | (rw[HB7.out];rfl)) (kAf val8 l) (.array 64 91) HR2.out Try.underlying120 rfl (by rw[hbs];kernel_rfl) ?_;refine kAz rfl 231 (.tmp 17) (.tmp 18) (.const (.int .i64 1)) rfl (.map (some b0)) (kEn val8 l) (.int .i64 1) rfl rfl rfl HSt.out ?_;go_wp2
    go_roundw
    case rel=>exact⟨k+1,by omega,by go_num,HU2.out,by rw[HBz.out]at HMp3;exact HMp3.out,by rw[HBz.out]at HB3;exact HB3.out⟩
    case measure=>simp[intOf];omega
   ·have hu1:u=1:=by rw[HU.out,if_neg hf]
    have HF:=jH (HUf.out hf);clear hf
    subst hu1;go_wp2
    go_ret
    exact .inr ⟨rfl,HB2.out,HF.out⟩
  ·obtain rfl:k=n:=by have:=HN.out;omega
   have hki:¬(k:Int)<(k:Int):=by omega
   go_wp2
   go_ret
   exact .inl ⟨rfl,HBe.out,HUn.out⟩
end Go.Proofs.Ytabbabkmojaoaaa.VN

namespace Go.Proofs.Ytabbabkmojaoaaa.VN
open Go.RowKit
attribute [local go_sem] Oper.semAt_some
def kKt (b o:Nat) (q:Nat):Array Value:= #[.slice (some ⟨b,o+64*q,none⟩) 64 64]
theorem kEy (a:Option Addr)(n c:Nat)(w:World):Calls Try.prog 120 #[.slice a n c,.int .i64 64] w fun e w'=>e= .returned (.func (.func 142) #[] #[.pointer (some ⟨w.heap.size,0,none⟩),.pointer (some ⟨w.heap.size+1,0,none⟩)])∧
  w'.cell? ⟨w.heap.size,0,none⟩=some (.slice a n c)∧w'.cell? ⟨w.heap.size+1,0,none⟩=some (.int .i64 64)∧Below w.heap.size w w'∧w'.heap.size=w.heap.size+2:=by
 have HA:=jH (jN w (.cells #[.slice a n c] 76));have HB:=jH ((Below.refl _ w).alloc jR (.cells #[.slice a n c] 76));have HS:=jH (World.size_alloc w (.cells #[.slice a n c] 76))
 go_enter Try.func120,Try.ntmps120
 go_wp2
 go_ret
 generalize w.alloc (.cells #[.slice a n c] 76)=w1 at*;have c0:=jK _ w.heap.size 0 _ _ (0,0) HA.out;have hA:=(Below.refl _ w1).alloc jR (.cells #[.int .i64 64] 3);have c1:=jK _ w1.heap.size 0 _ _ (0,0) (jN w1 (.cells #[.int .i64 64] 3));have hs:=HS.out;refine⟨by simp[hs],(hA.cell (p:=⟨w.heap.size,0,none⟩) (by show w.heap.size<_;omega)).trans c0,by rw[←hs];exact c1,HB.out.trans (hA.mono (by omega)),by simp;omega⟩
def ChR (J:(Nat→Prop)→List Nat→World→Prop) (w:World) (K b2 b3:Nat) (i:Value) (wr:World) (sl n64:Value):Prop:=
 ∃q,q≤K∧i= .int .i64 ((64*q:Nat):Int)∧J (fun _=>False) (List.range q) wr∧wr.cell? ⟨b2,0,none⟩=some sl∧wr.cell? ⟨b3,0,none⟩=some n64
theorem kDk (b o c K:Nat)(hK:K≤1048576)(hc:64*K≤c)(hc2:c≤maxLen)(b2 b3:Nat)(R:Nat→Prop)(w:World)(hR1:R b2)(hR2:R b3)
  (c1:w.cell? ⟨b2,0,none⟩=some (.slice (some ⟨b,o,none⟩) (64*K) c))(c2:w.cell? ⟨b3,0,none⟩=some (.int .i64 64)):
  kM6 Try.prog 142 #[.pointer (some ⟨b2,0,none⟩),.pointer (some ⟨b3,0,none⟩)] (kKt b o) R (fun xs=>xs=List.range K) (fun pre=>∃q,q≤K∧pre=List.range q) K w:=by
 intro l J Jx W hW hJ hJx hY h1;refine callsIn_wide.2 ?_;have HY:=jH hY;have HJ:=jH hJ;have d1:=(hW.cell (p:=⟨b2,0,none⟩) (World.block_lt_of_cell? w _ c1)).trans c1;have d2:=(hW.cell (p:=⟨b3,0,none⟩) (World.block_lt_of_cell? w _ c2)).trans c2;have H1:=jH h1
 have D1:=jH d1;have D2:=jH d2
 have HRr:=jH (And.intro hR1 hR2);clear hJ hJx hY h1 hW c1 c2 d1 d2 hR1 hR2
 go_enter Try.func142,Try.ntmps142
 go_wp2
 go_loopw [4] (fun i wr=>ChR J w K b2 b3 i wr (.slice (some ⟨b,o,none⟩) (64*K) c) (.int .i64 64)) (fun i _=>64*K - (intOf i).toNat)
 case atStart=>exact⟨0,Nat.zero_le _,rfl,H1.out,D1.out,D2.out⟩
 case round=>
  obtain⟨q,hq,rfl,hj,e1,e2⟩:=hrel
  have HJq:=jH hj;clear hj
  obtain⟨n,hn⟩:∃n,n=64*K:=⟨_,rfl⟩
  obtain⟨p,hp⟩:∃p,p=64*q:=⟨_,rfl⟩
  rw[←hn]at e1;rw[←hp]
  have E1:=jH e1;have E2:=jH e2
  by_cases hqn:q<K
  ·have hpi:(p:Int)<(n:Int):=by omega
   have hpn:p≤n:=by omega
   have hnc:n≤c:=by omega
   have hcm:c≤9223372036854775807:=by unfold maxLen at hc2;exact hc2
   have HPq:=jH (And.intro hn hp);clear hn hp
   have hnm:¬((n:Int) - (p:Int)<64):=by have:=HPq.out;omega
   have dnm:decide ((n:Int) - (p:Int)<64)=false:=decide_eq_false hnm
   have hnm2:¬(((n - p:Nat):Int)<64):=by have:=HPq.out;omega
   have dnm2:decide (((n - p:Nat):Int)<64)=false:=decide_eq_false hnm2
   have hcp:¬c=p:=by omega
   have hmn:∀(w:World) (ts:Array TypeId) (t:TypeId),(Builtin.min_ ts t #[.int .i64 64,.int .i64 ((n - p:Nat):Int)]).run Try.prog w= .ok (.int .i64 64) w:=fun w ts t=>by
    rw[run_min_int2,if_neg hnm2]
   go_wp2
   go_quiet (fail)
   have e3:(wr.drewN nq).cell? ⟨b2,0,none⟩=some (.slice (some ⟨b,o,none⟩) n c):=e1;have e4:(wr.drewN nq).cell? ⟨b3,0,none⟩=some (.int .i64 64):=e2;have hj2:J (fun _=>False) (List.range q) (wr.drewN nq):=HJ.out _ _ _ _ _ HJq.out ⟨rfl,rfl,rfl,Nat.le_refl _,fun _ _ _=>rfl⟩ (kB4.refl _ _ _);generalize wr.drewN nq=W1 at*;clear e1 e2 E1 E2 HJq hmn;obtain⟨fn,tmps,assign,body,hy,hR⟩:=HY.out (fun _=>False) (List.range q) q W1 hj2 (by rw[List.length_range];exact hqn) ⟨q+1,hqn,List.range_succ.symm⟩
   dsimp only[kKt]at hy
   rw[←HPq.out.2]at hy;rw[←List.range_succ]at hR
   have HRy:=jH hR;clear hR hj2
   have E3:=jH e3;have E4:=jH e4
   have h64a:(p:Int)+64≤(c:Int):=by have:=HPq.out;omega
   have h64n:p+64≤c:=by omega
   have hpz:(0:Int)≤(p:Int)+64:=by omega
   have hpp:(p:Int)≤(p:Int)+64:=by omega
   go_upto_region 4 with(fail)
   refine(wpIn_wide (n:=2)).1 ?_
   gi_wp2
   refine HRy.out.mono ?_
   rintro e W3 (⟨rfl,hJ3,hk3⟩ | ⟨rfl,hx3,hk3⟩)
   ·have HJ3:=jH hJ3;have f3:=jH (hk3.cell E3.out (.inr HRr.out.1));have f4:=jH (hk3.cell E4.out (.inr HRr.out.2))
    have hq1:(p:Int)+64=((64*(q+1):Nat):Int):=by have:=HPq.out;omega
    have HQ1:=jH hq1;clear hq1
    have e4':=f4.out;clear hJ3 hk3 hy e3 e4
    gi_wp2
    go_wp2
    go_roundw
    case rel=>exact⟨q+1,by omega,by rw[←HQ1.out],HJ3.out,by rw[←HPq.out.1];exact f3.out,f4.out⟩
    case measure=>simp[intOf];have:=HPq.out;omega
   ·have HX3:=jH hx3;clear hx3 hk3 hy e3 e4
    gi_wp2
    go_wp2
    refine jS (results_none rfl _ _ _) rfl ?_;exact⟨⟨_,rfl⟩,.inr ⟨_,_,⟨_,hqn,rfl⟩,HX3.out⟩⟩
  ·obtain rfl:q=K:=by omega
   have hpi:¬(p:Int)<(n:Int):=by omega
   clear hn hp E1 E2;go_wp2
   go_end0
   exact⟨⟨_,rfl⟩,.inl ⟨fun _=>False,HJq.out⟩⟩
def ckL (zs:List El) (q:Nat):List El:=(zs.drop (64*q)).take 64
def cksL (zs:List El) (K:Nat):List (List El):=(List.range K).map (ckL zs)
theorem ckL_length (zs:List El)(K q:Nat)(hz:zs.length=64*K)(hq:q<K):(ckL zs q).length=64:=by
 unfold ckL;rw[List.length_take,List.length_drop];omega
theorem kIn (zs:List El)(q j:Nat)(hj:j<64):(ckL zs q)[j]? =zs[64*q+j]? :=by
 unfold ckL;simp[List.getElem?_take,hj]
theorem kE4 (zs:List El)(K:Nat):cksL zs (K+1)=cksL zs K++[ckL zs K]:=by
 unfold cksL;rw[List.range_succ,List.map_append]
 rfl
theorem cksL_length (zs:List El)(K:Nat):(cksL zs K).length=K:=by simp[cksL]
structure CuI (w:World) (z bo:Nat) (zs:List El) (T:Nat→Prop) (pre:List Nat) (W:World):Prop where
 bel:Below w.heap.size w W
 tn:∀k,T k→bo<k∧k<W.heap.size
 q:pre=List.range pre.length
 row:∃a c,W.heap[bo]? =some (.cells #[.slice a pre.length c] 111 (0,0))∧W.ownsRow w.heap.size 120 64 (.slice a pre.length c) pre.length ((cksL zs pre.length).flatMap (kAf val8))∧∀k,(Value.slice a pre.length c).ownBlock=some k→¬T k∧z≤k
 sz:z≤W.heap.size
theorem CuI.abide (w:World)(z bo:Nat)(zs:List El)(hbo:w.heap.size≤bo):kD8 (CuI w z bo zs):=by
 rintro T T' pre W W' ⟨h1,h2,h3,⟨a,c,h4,h5,h6⟩,h7⟩ ho hw
 have hl:=(jL h4)
 refine⟨h1.trans (ho.below _ h1.size (fun k hk=>by have:=(h2 k hk).1;omega)),fun k hk=> ?_,h3,⟨a,c,ho.cellsBlock h4 (fun h=>Nat.lt_irrefl _ (h2 _ h).1),kF6 h5 ho (fun k e=>(h6 k e).1),fun k e=>⟨fun ht=> ?_,(h6 k e).2⟩⟩,Nat.le_trans h7 ho.size⟩
 ·rcases hw k hk with h | h
  ·have:=h2 k h;have:=ho.size;omega
  ·omega
 ·rcases hw k ht with h | h
  ·exact(h6 k e).1 h
  ·have:=(World.ownsRow.lt h5 k e).2;omega
theorem cut_walk (w:World)(b o c K:Nat)(zs:List El)(hK:K≤1048576)(hc:64*K≤c)(hc2:c≤maxLen)(hz:zs.length=64*K)(hr:w.rangeAt b o (kAf val8 zs))(hb:b<w.heap.size):
  Calls Try.prog 90 #[.slice (some ⟨b,o,none⟩) (64*K) c] w fun e w'=>∃a c',e= .returned (.slice a K c')∧w'.ownsRow w.heap.size 120 64 (.slice a K c') K ((cksL zs K).flatMap (kAf val8))∧Below w.heap.size w w':=by
 have HR:=jH hr;clear hr
 have hA1:=jN w (.cells #[.slice none 0 0] 111);have hB1:=(Below.refl _ w).alloc jR (.cells #[.slice none 0 0] 111);have hz1:=World.size_alloc w (.cells #[.slice none 0 0] 111)
 have HA1:=jH hA1;have HB1:=jH hB1;have HZ1:=jH hz1
 clear hA1 hB1 hz1
 obtain⟨bo,hbo⟩:∃bo,bo=w.heap.size:=⟨_,rfl⟩
 refine kB8 Try.func90 rfl ?_;simp only[Try.ntmps90,List.size_toArray,List.length_cons,List.length_nil,Nat.reduceAdd,Nat.reduceSub,Array.replicate_succ,Array.replicate_zero,List.push_toArray,List.append_toArray,List.nil_append,List.cons_append]
 go_wp2_with fail
 generalize w.alloc (.cells #[.slice none 0 0] 111)=w1 at*;refine(kEy (some ⟨b,o,none⟩) (64*K) c w1).mono ?_;rintro e w2 ⟨rfl,c2,c3,hb2,hz2⟩;have HZ2:=jH hz2;have HSt:=jH (kDk b o c K hK hc hc2 w1.heap.size (w1.heap.size+1) (fun k=>k<w2.heap.size∧k≠bo) w2 ⟨by omega,by have:=HZ1.out;omega⟩ ⟨by omega,by have:=HZ1.out;omega⟩ c2 c3);have HB2:=jH hb2;have HI0:Hid (CuI w w2.heap.size bo zs (fun _=>False) [] w2):=jH ⟨HB1.out.trans (hb2.mono HB1.out.size),fun _ h=>h.elim,rfl,⟨none,0,by rw[hbo];exact(hb2.block _ (by have:=HZ1.out;omega)).trans HA1.out,World.ownsRow_nil _ _ _ _,fun k e=>by cases e⟩,Nat.le_refl _⟩;have HBo:=jH hbo;clear c2 c3 hb2 hz2;rw[←hbo];clear hbo;go_wp2
 refine kDg (gf:=142) (lb:= #[.pointer (some ⟨w1.heap.size,0,none⟩),.pointer (some ⟨w1.heap.size+1,0,none⟩)]) rfl (enters_of Try.func142 (by kernel_rfl) rfl) HSt.out (Below.refl _ _) (fun k hk=>hk.1) (fun _=>rfl)
  (CuI w w2.heap.size bo zs) (fun _ _ _ _=>False) (CuI.abide w _ bo zs (by rw[HBo.out];exact Nat.le_refl _)) (fun _ _ _ _ _ _ h=>h.elim) HI0.out
  (fun tmps T q a' W=>a'={tmps:=(tmps.setIfInBounds 7 (.slice (some ⟨b,o+64*q,none⟩) 64 64)).setIfInBounds 4 (.slice (some ⟨b,o+64*q,none⟩) 64 64),defers:=[]}) (fun T x a' W W' h ho=>h) ?assign ?body ?done ?stop
 case stop=>
  rintro D c T pre W - - - h;exact h.elim
 case assign=>
  rintro l T pre x W K hi hK
  have HK:=jH hK;clear hK
  simp only[kKt]
  gi_wp2
  exact HK.out _ _ (kDc.refl _ _ _) hi rfl
 case body=>
  rintro lp Tt pre q a' W hTl hl - hst hA hlen ⟨q',hq',hpq⟩;subst hA
  have hq:q=pre.length∧q<K:=by
   have h1:=hst.q
   have h2:pre.length+1=q':=by have:=congrArg List.length hpq;simpa using this
   rw[←h2,List.range_succ]at hpq;obtain⟨h3,h4⟩:=List.append_inj' hpq rfl
   have h5:q=pre.length:=by simpa using h4
   exact⟨h5,by omega⟩
  obtain⟨hq1,hqK⟩:=hq;clear hpq hq' hlen;obtain⟨hbel,htn,hpre,⟨a0,c0,hcell,hown,hblk⟩,hsz⟩:=hst;rw[←hq1]at hcell hown hblk
  have HBe:=jH hbel;have HTn:=jH htn;have HPr:=jH hpre;have HCe:=jH hcell;have HOw:=jH hown;have HBk:=jH hblk;have HQ:=jH hq1
  have HRk:Hid (W.rangeAt b (o+64*q) (kAf val8 (ckL zs q))):=jH (fun j v hv=>by
   rw[kA7,List.getElem?_map]at hv
   have hj:j<64:=by
    by_cases hj:j<64
    ·exact hj
    ·rw[List.getElem?_eq_none (by rw[ckL_length zs K q hz hqK];omega)]at hv;cases hv
   rw[kIn zs q j hj]at hv;have h1:=HR.out (64*q+j) v (by rw[kA7,List.getElem?_map];exact hv);rw[Nat.add_assoc]
   exact(HBe.out.cell (p:=⟨b,o+(64*q+j),none⟩) hb).trans h1)
  have hcl:=ckL_length zs K q hz hqK;have HSu:=jH (kE4 zs q);clear hbel htn hpre hcell hown hblk hq1;generalize ckL zs q=l at*
  have hbs:(kAf val8 l).length=64:=by rw[kAh (sz:=1) (fun _=>rfl),hcl]
  have p0:W.cell? ⟨bo,0,none⟩=some (.slice a0 q c0):=jK W bo 0 _ _ (0,0) HCe.out;have hbw:b<W.heap.size:=Nat.lt_of_lt_of_le hb HBe.out.size
  have hbob:bo≠b:=by rw[HBo.out];omega
  simp only[List.setIfInBounds_toArray,List.set_cons_zero,List.set_cons_succ]
  gi_wp2
  refine kAi [6] (fun w':World=>w'.cell? ⟨bo,0,none⟩=some (.slice a0 q c0)∧w'.rangeAt b (o+64*q) (kAf val8 l)) (by kernel_rfl) ?_;have HCx:Hid ((fun w':World=>w'.cell? ⟨bo,0,none⟩=some (.slice a0 q c0)∧w'.rangeAt b (o+64*q) (kAf val8 l)) W.drew):=jH ⟨p0,HRk.out⟩;have HO3:Hid (W.drew.ownsRow w.heap.size 120 64 (.slice a0 q c0) q ((cksL zs q).flatMap (kAf val8))):=jH (World.ownsRow.drew HOw.out);have HD:Hid (Below W.heap.size W W.drew):=jH (Below.refl _ W).drew;clear p0;generalize W.drew=w3 at*;have hw3:w.heap.size≤w3.heap.size:=Nat.le_trans HBe.out.size HD.out.size;refine' kAd (i:=0) (v:=_) [5,6] (by kernel_rfl) rfl (by kernel_rfl) (fun _ _ _ h=>h) (by rfl) (by rintro w' ⟨c0,c1⟩;go_simp;try with_reducible rfl) HCx.out ?_;simp only[jA,jB,jC,Act.put,jD,jE,jF];refine' kAd (i:=1) (v:=_) [2,3,4,5,6] (by kernel_rfl) rfl (by kernel_rfl) (fun _ _ _ h=>h) (by rfl) (by rintro w' ⟨c0,c1⟩;go_simp;try with_reducible rfl) HCx.out ?_;simp only[jA,jB,jC,Act.put,jD,jE,jF];refine' kAd (i:=2) (v:= .pointer (some ⟨b,o+64*q,none⟩)) [3,4,5,6] (by kernel_rfl) rfl (by kernel_rfl) (fun _ _ _ h=>h) (by rfl) (by rintro w' ⟨c0,c1⟩;have ha:=run_arrayAt (P:= Try.prog) w' 120 91 64 (some ⟨b,o+64*q,none⟩) 64 64 Try.underlying120 jR;go_simp;try with_reducible rfl) HCx.out ?_;simp only[jA,jB,jC,Act.put,jD,jE,jF];refine' kAd (i:=3) (v:=_) [4,5,6] (by kernel_rfl) rfl (by kernel_rfl) (fun _ _ _ h=>h) (by rfl) (by exact fun w' hC=>by refine kCp 120 (.tmp 10) ?_ b (o+64*q) ?_ (kAf val8 l) (.array 64 91) hC.2 Try.underlying120 rfl (by rw[hbs];kernel_rfl)<;>rfl) HCx.out ?_;simp only[jA,jB,jC,Act.put,jD,jE,jF];refine kC9 (i:=4) (v:= .slice (some ⟨w3.heap.size,0,none⟩) 1 1) (w':=w3.alloc (.cells (kAf val8 l).toArray 120)) (by kernel_rfl) rfl (by kernel_rfl) (by rfl) (by go_simp;exact congrArg (fun c=>w3.alloc (.cells c 120)) (kEg (kAf val8 l) _ (by rw[hbs];rfl))) ⟨kBb HCx.out.1 _,World.rangeAt_alloc HCx.out.2 _⟩ ?_;simp only[jA,jB,jC,Act.put,jD,jE,jF]
  have hbow:bo<w2.heap.size:=by have:=HZ1.out;have:=HZ2.out;have:=HBo.out;omega
  refine kEf (i:=5) Try.elemB8 (by kernel_rfl) rfl (by kernel_rfl) (by rfl) (.tmp 8) (.tmp 12) rfl HO3.out (by omega) (by omega) hw3 (kAf val8 l) hbs (fun u hu=>kB6 l u (by simpa using hu)) 120 rfl rfl (fun w' hg=>⟨kAv hg HCx.out.1 (fun k e=>by have:=(HBk.out k e).2;omega),kBh hg HCx.out.2 (fun k e=>by have:=(HBk.out k e).2;have:=HB1.out.size;have:=HB2.out.size;omega)⟩) ?_;intro a' c' w5 ho5 hg5 hn5;simp only[jA,jB,jC,Act.put,jD,jE,jF];refine kA3 6 (by rfl) (by kernel_rfl) (by kernel_rfl) ?_;simp only[List.drop_succ_cons,List.drop_zero];have h5c:w5.heap[bo]? =some (.cells #[.slice a0 q c0] 111 (0,0)):=(kAr hg5 (by have:=HD.out.size;omega) (fun k e=>by have:=(HBk.out k e).2;omega)).trans ((HD.out.block bo (by omega)).trans HCe.out);have p1:w5.cell? ⟨bo,0,none⟩=some (.slice a0 q c0):=jK w5 bo 0 _ _ (0,0) h5c;have f1:=jO w5 bo 0 _ _ h5c;have h6c:=jP w5 bo 0 _ _ (.slice a' (q+1) c') h5c
  have H5c:=jH h6c;have H5:=jH ho5;have HG5:=jH hg5;have HN5:=jH hn5
  clear h5c h6c ho5 hg5 hn5
  gi_wp2
  have hnb:=HN5.out;have hgw:W.grownBy w5 (Value.slice a0 q c0).ownBlock:=kAm ⟨HD.out.os,HD.out.tape,HD.out.output,HD.out.size,fun k hk _=>HD.out.block k hk⟩ HG5.out
  have hblk5:∀k,(Value.slice a' (q+1) c').ownBlock=some k→¬Tt k∧w2.heap.size≤k:=fun k e=>by
   rcases hnb with h | ⟨g,h,hg⟩
   ·rw[h]at e;exact HBk.out k e
   ·rw[h]at e;cases e;have:=HD.out.size;exact⟨fun ht=>by have:=(HTn.out _ ht).2;omega,by omega⟩
  have hsz6:(w5.setCell ⟨bo,0,none⟩ (.slice a' (q+1) c')).heap.size=w5.heap.size:=by simp
  refine⟨⟨by rw[hsz6];exact hgw.size,fun k hk hT=> ?_⟩,⟨?_,fun k hk=>⟨(HTn.out k hk).1,?_⟩,?_,⟨a',c',?_,?_,?_⟩,?_⟩⟩
  ·have hkb:k≠bo:=by
    rcases hT with h | h
    ·have:=(HTn.out k h).1;omega
    ·exact h.2
   rw[jQ w5 ⟨bo,0,none⟩ k _ hkb];refine hgw.block k hk (fun e=> ?_);have:=HBk.out k e.symm
   rcases hT with h | h
   ·exact this.1 h
   ·omega
  ·exact(HBe.out.trans (kBa hgw (fun k e=>by have:=(HBk.out k e).2;have:=HB1.out.size;have:=HB2.out.size;omega) HBe.out.size)).setCell (p:=⟨bo,0,none⟩) (by show w.heap.size≤bo;rw[HBo.out];exact Nat.le_refl _) _
  ·rw[hsz6];exact Nat.lt_of_lt_of_le (HTn.out k hk).2 hgw.size
  ·rw[List.length_append,List.length_singleton,List.range_succ,←HPr.out,←HQ.out]
  ·have e:(pre++[q]).length=q+1:=by rw[List.length_append,List.length_singleton,HQ.out]
   rw[e];exact H5c.out
  ·have e:(pre++[q]).length=q+1:=by rw[List.length_append,List.length_singleton,HQ.out]
   rw[e,HSu.out,List.flatMap_append];simp only[List.flatMap_cons,List.flatMap_nil,List.append_nil];refine H5.out.kept (kAe w5 bo 0 _) ?_
   cases e2:(Value.slice a' (q+1) c').ownBlock with
   | none=>exact .inl rfl
   | some k=>exact .inr (fun e3=>by cases e3;have:=(hblk5 _ e2).2;omega)
  ·have e:(pre++[q]).length=q+1:=by rw[List.length_append,List.length_singleton,HQ.out]
   rw[e];exact hblk5
  ·rw[hsz6];exact Nat.le_trans hsz hgw.size
 case done=>
  rintro D Tt xs w20 hD hTD rfl hst hDk;obtain⟨hbel,htn, -,⟨a0,c0,hcell,hown,hblk⟩,hsz⟩:=hst;rw[List.length_range]at hcell hown hblk;have p0:w20.cell? ⟨bo,0,none⟩=some (.slice a0 K c0):=jK w20 bo 0 _ _ (0,0) hcell
  have HBe:=jH hbel;have HOw:=jH hown;have HBk:=jH hblk;have HDk:=jH hDk;have HTD:=jH hTD
  have hwD:w.heap.size≤D:=by have:=HB1.out.size;have:=HB2.out.size;omega
  clear hbel htn hcell hown hblk hDk hTD;go_wp2
  refine kE5 HDk.out (kCz (results_tmp rfl _ _ _) ?_);refine⟨a0,c0,rfl,?_,kF2 HBe.out D _ hwD⟩;refine HOw.out.kept (grownBy_putObj' w20 D _) ?_
  cases e2:(Value.slice a0 K c0).ownBlock with
  | none=>exact .inl rfl
  | some k=>exact .inr (fun e3=>by cases e3;exact(HBk.out _ e2).1 HTD.out)
end Go.Proofs.Ytabbabkmojaoaaa.VN

namespace Go.Proofs.Ytabbabkmojaoaaa
open Go.RowKit
def kAq (many:Nat) (ag:Nat→Bool):List Nat→Nat→Option Nat
 | [],n=>some n
 | x :: l,n=>if x=n∧n<many then kAq many ag l (n+1)else if n≤x∨ag x=false then none else kAq many ag l n
theorem kH4 (many:Nat)(ag:Nat→Bool):∀(l:List Nat) (n k:Nat) (m:Nat) (hk:k<l.length),kAq many ag (l.take k) n=some m→kAq many ag (l.take (k+1)) n=kAq many ag [l[k]] m
 | x :: l,n,0,m,hk,h=>by
  simp only[List.take_zero,kAq,Option.some.injEq]at h;subst h;simp
 | x :: l,n,k+1,m,hk,h=>by
  rw[List.take_succ_cons,kAq]at h;rw[List.take_succ_cons,kAq]
  split at h
  ·rw[if_pos (by assumption)];exact kH4 many ag l (n+1) k m (by simpa using hk) h
  ·rw[if_neg (by assumption)]
   split at h
   ·cases h
   ·rw[if_neg (by assumption)];exact kH4 many ag l n k m (by simpa using hk) h
theorem kH3 (many:Nat)(ag:Nat→Bool):∀(l:List Nat) (n k:Nat),kAq many ag (l.take k) n=none→kAq many ag l n=none
 | [],n,k,h=>by simp at h;simpa using h
 | x :: l,n,0,h=>by simp[kAq]at h
 | x :: l,n,k+1,h=>by
  rw[List.take_succ_cons,kAq]at h;rw[kAq]
  split at h
  ·rw[if_pos (by assumption)];exact kH3 many ag l (n+1) k h
  ·rw[if_neg (by assumption)]
   split at h
   ·rw[if_pos (by assumption)]
   ·rw[if_neg (by assumption)];exact kH3 many ag l n k h
theorem kJv {many:Nat}{ag:Nat→Bool}:∀ {l:List Nat} {n m:Nat},n≤many→kAq many ag l n=some m→m≤many∧n≤m∧m≤n+l.length
 | [],n,m,hn,h=>by simp only[kAq,Option.some.injEq]at h;subst h;exact⟨hn,Nat.le_refl _,Nat.le_refl _⟩
 | x :: l,n,m,hn,h=>by
  rw[kAq]at h
  split at h
  ·rename_i hc
   have:=kJv (by omega) h;simp only[List.length_cons];omega
  ·split at h
   ·cases h
   ·have:=kJv hn h;simp only[List.length_cons];omega
def kCm (w:World) (a:Option Addr) (zs:List Nat):Prop:=∀i (h:i<zs.length),∃b o,a=some ⟨b,o,none⟩∧w.cell? ⟨b,o+i,none⟩=some (kAb zs[i])
theorem kCm.below {w w':World}{a:Option Addr}{zs:List Nat}(h:kCm w a zs)(hb:Below w.heap.size w w'):kCm w' a zs:=fun i hi=>by
 obtain⟨b,o,e,hc⟩:=h i hi;exact⟨b,o,e,(hb.cell (p:=⟨b,o+i,none⟩) (World.block_lt_of_cell? w _ hc)).trans hc⟩
def NuR (w:World) (zs:List Nat) (many:Nat) (ag:Nat→Bool) (i nx:Value) (wr:World):Prop:=
 ∃k m:Nat,k≤zs.length∧i= .int .i64 (k:Nat)∧nx= .int .i64 (m:Nat)∧kAq many ag (zs.take k) 0=some m∧Below w.heap.size w wr
theorem kDt (w:World)(a:Option Addr)(n c:Nat)(zs:List Nat)(many:Nat)(ag:Nat→Bool)(cf:Nat)(lb:Array Value)(hn:zs.length=n)(hn2:n≤1048576)(hm2:many≤1048576)(hz:∀z∈zs,z<65536)(h:kCm w a zs)(eg:∀args W,(callFunc cf args).run Try.prog W= .ok (.enter cf args) W)
  (hcall:∀(x:Nat) W,x<many→x∈zs→Below w.heap.size w W→Calls Try.prog cf (#[.int .u16 (x:Nat)]++lb) W fun e W'=>e= .returned (.bool (ag x))∧Below W.heap.size W W'):
  Calls Try.prog 96 #[.slice a n c,.int .i64 (many:Nat),.func (.func cf) #[] lb] w fun e w'=>e= .returned (.bool (decide (kAq many ag zs 0=some many)))∧Below w.heap.size w w':=by
 have HN:=jH hn;clear hn
 have HZ:=jH hz;clear hz
 have HA:=jH h;clear h
 have HEg:=jH eg;clear eg
 have HCl:=jH hcall;clear hcall
 go_enter Try.func96,Try.ntmps96
 go_wp2
 go_loopw [12,7] (NuR w zs many ag) (fun i _ _=>n - (intOf i).toNat)
 case atStart=>exact⟨0,0,Nat.zero_le _,rfl,rfl,rfl,Below.refl _ _⟩
 case round=>
  obtain⟨k,m,hk,rfl,rfl,hs,hb⟩:=hrel
  have HS:=jH hs;clear hs
  have HB:=jH hb;clear hb
  have hmm:m≤many:=(kJv (Nat.zero_le _) HS.out).1
  by_cases hkn:k<n
  ·have hki:(k:Int)<(n:Int):=by omega
   have hkl:k<zs.length:=by rw[HN.out];exact hkn
   have HNx:=jH (kH4 many ag zs 0 k m hkl HS.out);have HNo:=jH (kH3 many ag zs 0 (k+1));obtain⟨b,o,ha,hc⟩:=(HA.out.below HB.out) k hkl;subst ha;have hx:=HZ.out _ (List.getElem_mem hkl);have HMem:Hid (zs[k]∈zs):=jH (List.getElem_mem hkl);generalize zs[k]=x at*;unfold kAb at hc
   have hx2:(x:Int)<65536:=by omega
   by_cases h1:x=m∧m<many
   ·obtain⟨rfl,h2⟩:=h1
    have h2i:(x:Int)<(many:Int):=by omega
    have d2:decide ((x:Int)<(many:Int))=true:=decide_eq_true h2i
    have hnx:kAq many ag (zs.take (k+1)) 0=some (x+1):=by rw[HNx.out,kAq,if_pos ⟨rfl,h2⟩];rfl
    have HS2:=jH hnx;clear hnx
    go_wp2
    go_roundw
    case rel=>exact⟨k+1,x+1,by omega,by go_num,by go_num,HS2.out,HB.out⟩
    case measure=>simp[intOf];omega
   ·have hf:((x:Int)==(m:Int))=true→decide ((m:Int)<(many:Int))=false:=fun e=>decide_eq_false (by
     have:=beq_iff_eq.1 e
     intro h;exact h1 ⟨by omega,by omega⟩)
    by_cases h3:m≤x
    ·have h3i:(m:Int)≤(x:Int):=by omega
     have d3:decide ((m:Int)≤(x:Int))=true:=decide_eq_true h3i;have hnx:kAq many ag zs 0=none:=HNo.out (by rw[HNx.out,kAq,if_neg h1,if_pos (.inl h3)]);have HS2:Hid (decide (kAq many ag zs 0=some many)=false):=jH (decide_eq_false (by rw[hnx];exact fun h=>by cases h));clear hnx
     cases hq:((x:Int)==(m:Int))
     ·clear hf;go_wp2
      go_ret
      exact⟨by rw[HS2.out];rfl,HB.out⟩
     ·have h4:=hf hq;have h5:¬(m:Int)<(many:Int):=of_decide_eq_false h4;clear hf;go_wp2
      go_ret
      exact⟨by rw[HS2.out];rfl,HB.out⟩
    ·have h3i:¬(m:Int)≤(x:Int):=by omega
     have d3:decide ((m:Int)≤(x:Int))=false:=decide_eq_false h3i;have hq:((x:Int)==(m:Int))=false:=beq_false_of_ne (by omega);clear hf;have heg:=HEg.out
     go_wp2_with fail
     refine(HCl.out x wr (by omega) HMem.out HB.out).mono ?_;rintro e w1 ⟨rfl,hb1⟩
     have HB1:=jH (HB.out.trans (hb1.mono HB.out.size));clear hb1
     cases hag:ag x
     ·have hnx:kAq many ag zs 0=none:=HNo.out (by rw[HNx.out,kAq,if_neg h1,if_pos (.inr hag)]);have HS2:Hid (decide (kAq many ag zs 0=some many)=false):=jH (decide_eq_false (by rw[hnx];exact fun h=>by cases h));clear hnx;go_wp2
      go_ret
      exact⟨by rw[HS2.out];rfl,HB1.out⟩
     ·have hnx:kAq many ag (zs.take (k+1)) 0=some m:=by rw[HNx.out,kAq,if_neg h1,if_neg (by rw[hag];simp;omega)];rfl
      have HS2:=jH hnx;clear hnx
      go_wp2
      go_roundw
      case rel=>exact⟨k+1,m,by omega,by go_num,rfl,HS2.out,HB1.out⟩
      case measure=>simp[intOf];omega
  ·obtain rfl:k=n:=by have:=HN.out;omega
   have hki:¬(k:Int)<(k:Int):=by omega
   have hS:=HS.out;rw[List.take_of_length_le (by rw[HN.out];exact Nat.le_refl _)]at hS
   have HD:Hid (decide (kAq many ag zs 0=some many)=((m:Int)==(many:Int))):=jH (by
    rw[hS]
    by_cases e:m=many
    ·subst e;simp
    ·have:¬(m:Int)=(many:Int):=by omega
     simp[e,this])
   clear hS;go_wp2
   go_ret
   exact⟨by rw[HD.out];rfl,HB.out⟩
end Go.Proofs.Ytabbabkmojaoaaa

namespace Go.Proofs.Ytabbabkmojaoaaa
open Go.RowKit
def IfR (w:World) (i:Value) (wr:World) (n:Nat):Prop:=∃k:Nat,k≤n∧i= .int .i64 (k:Nat)∧Below w.heap.size w wr
theorem kJb (w:World)(b o n c:Nat)(zs:List Nat)(cf:Nat)(lb:Array Value)(hn:zs.length=n)(hn2:n≤1048576)(h:kCm w (some ⟨b,o,none⟩) zs)(eg:∀args W,(callFunc cf args).run Try.prog W= .ok (.enter cf args) W)
  (hcall:∀(x:Nat) W,x∈zs→Below w.heap.size w W→Calls Try.prog cf (#[.int .u16 (x:Nat)]++lb) W fun e W'=>e= .returned (.bool false)∧Below W.heap.size W W'):
  Calls Try.prog 122 #[.slice (some ⟨b,o,none⟩) n c,.func (.func cf) #[] lb] w fun e w'=>e= .returned (.int .i64 (-1))∧Below w.heap.size w w':=by
 have HN:=jH hn;clear hn
 have HA:=jH h;clear h
 have HEg:=jH eg;clear eg
 have HCl:=jH hcall;clear hcall
 go_enter Try.func122,Try.ntmps122
 go_wp2
 go_loopw [8] (fun i wr=>IfR w i wr n) (fun i _=>n - (intOf i).toNat)
 case atStart=>exact⟨0,Nat.zero_le _,rfl,Below.refl _ _⟩
 case round=>
  obtain⟨k,hk,rfl,hb⟩:=hrel
  have HB:=jH hb;clear hb
  by_cases hkn:k<n
  ·have hki:(k:Int)<(n:Int):=by omega
   have hkl:k<zs.length:=by rw[HN.out];exact hkn
   obtain⟨b',o',ha,hc⟩:=(HA.out.below HB.out) k hkl;simp only[Option.some.injEq,Addr.mk.injEq,and_true]at ha;obtain⟨rfl,rfl⟩:=ha;have HMem:Hid (zs[k]∈zs):=jH (List.getElem_mem hkl);generalize zs[k]=x at*;unfold kAb at hc;have heg:=HEg.out
   go_wp2_with fail
   refine(HCl.out x wr HMem.out HB.out).mono ?_;rintro e w1 ⟨rfl,hb1⟩
   have HB1:=jH (HB.out.trans (hb1.mono HB.out.size));clear hb1
   go_wp2
   go_roundw
   case rel=>exact⟨k+1,by omega,by go_num,HB1.out⟩
   case measure=>simp[intOf];omega
  ·obtain rfl:k=n:=by omega
   have hki:¬(k:Int)<(k:Int):=by omega
   go_wp2
   go_ret
   exact⟨rfl,HB.out⟩
theorem kEa (w:World)(b o n c:Nat)(zs:List Nat)(cf:Nat)(lb:Array Value)(hn:zs.length=n)(hn2:n≤1048576)(h:kCm w (some ⟨b,o,none⟩) zs)(eg:∀args W,(callFunc cf args).run Try.prog W= .ok (.enter cf args) W)
  (hcall:∀(x:Nat) W,x∈zs→Below w.heap.size w W→Calls Try.prog cf (#[.int .u16 (x:Nat)]++lb) W fun e W'=>e= .returned (.bool false)∧Below W.heap.size W W'):
  Calls Try.prog 94 #[.slice (some ⟨b,o,none⟩) n c,.func (.func cf) #[] lb] w fun e w'=>e= .returned (.bool false)∧Below w.heap.size w w':=by
 have HI:=jH (kJb w b o n c zs cf lb hn hn2 h eg hcall);clear h eg hcall
 go_enter Try.func94,Try.ntmps94
 go_wp2_with fail
 refine HI.out.mono ?_;rintro e w1 ⟨rfl,hb⟩
 have HB:=jH hb;clear hb
 go_wp2
 go_ret
 exact⟨rfl,HB.out⟩
end Go.Proofs.Ytabbabkmojaoaaa
