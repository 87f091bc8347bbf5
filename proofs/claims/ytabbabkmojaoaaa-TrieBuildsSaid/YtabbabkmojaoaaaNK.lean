/- several texts in one: TM2 TC UN8 CU8 -/
import Derived.Test.YtabbabkmojaoaaaNA
import Derived.Test.YtabbabkmojaoaaaNF
import Derived.Test.YtabbabkmojaoaaaNH
import Derived.Laws.Cover3
set_option linter.unusedVariables false
set_option linter.unusedSimpArgs false
set_option maxRecDepth 100000
set_option maxHeartbeats 16000000
namespace Go.Proofs.Ytabbabkmojaoaaa
open Go.RowKit
section
variable {α : Type} {P : Program} {t E : TypeId} {n sz : Nat} {val : α → Value} {eqB : α → α → Bool}
def kDd (val:α→Value) (vv:Nat→Value):Nat→List (List α)→List MapEntry
 | _,[]=>[]
 | i,l :: L=>{key:=kEn val l,val:=vv i,born:=i} :: kDd val vv (i+1) L
theorem kJ5 (val:α→Value)(vv:Nat→Value)(L:List (List α))(l:List α):∀i,kDd val vv i (L++[l])=kDd val vv i L++[{key:=kEn val l,val:=vv (i+L.length),born:=i+L.length}]:=by
 induction L with
 | nil=>intro i;rfl
 | cons x L ih=>
  intro i;rw[List.cons_append,kDd,ih,kDd,List.length_cons,List.cons_append,show i+1+L.length=i+(L.length+1) by omega]
theorem kLf (val:α→Value)(vv:Nat→Value)(L:List (List α))(l:List α):(kDd val vv 0 (L++[l])).toArray=((kDd val vv 0 L).toArray).push {key:=kEn val l,val:=vv L.length,born:=L.length}:=by
 simp[kJ5]
theorem kG6.find_askingG (K:kG6 P t E n sz val eqB)(vv:Nat→Value)(w:World)(l:List α)(hl:l.length=n):∀(L:List (List α)) (i:Nat) (j:Nat),(∀m∈L,m.length=n)→
  (Instr.findAsking t (kEn val l) (kDd val vv i L) j).run P w= .ok ((kAo eqB l L).map (fun k=>(j+k,vv (i+k)))) w:=by
 intro L
 induction L with
 | nil=>intro i j _;simp[kDd,Instr.findAsking,kAo]
 | cons m L ih=>
  intro i j hL;have h1:=K.equal w l m hl (hL m (by simp));have h2:=ih (i+1) (j+1) (fun m hm=>hL m (by simp[hm]));rw[kDd,Instr.findAsking];simp only[Sem.run_bind,h1,Result.andThen_ok,kAo,List.findIdx?_cons]
  cases h:eqL eqB l m
  ·simp only[Bool.false_eq_true,if_false,h2,kAo]
   congr 1
   rw[Option.map_map]
   congr 1
   funext k
   simp only[Function.comp];rw[show j+1+k=j+(k+1) by omega,show i+1+k=i+(k+1) by omega]
  ·simp
theorem kG6.find_keyG (K:kG6 P t E n sz val eqB)(vv:Nat→Value)(w:World)(l:List α)(hl:l.length=n)(L:List (List α))(hL:∀m∈L,m.length=n):
  (Instr.findKey t (kEn val l) (kDd val vv 0 L)).run P w= .ok ((kAo eqB l L).map (fun k=>(k,vv k))) w:=by
 have h:=K.find_askingG vv w l hl L 0 0 hL;simp only[Nat.zero_add]at h;rw[Instr.findKey];simp only[Sem.run_bind,run_underlying K.und,Result.andThen_ok]
 cases L with
 | nil=>simp[kDd,Instr.findNow,kAo]
 | cons m L=>
  rw[show kDd val vv 0 (m :: L)={key:=kEn val m,val:=vv 0,born:=0} :: kDd val vv 1 L from rfl,kHi];exact h
def kBw (val:α→Value) (vv:Nat→Value) (w:World) (b:Nat) (L:List (List α)):Prop:=w.heap[b]? =some (.map (kDd val vv 0 L).toArray L.length)
theorem kG6.lookupG (K:kG6 P t E n sz val eqB){vv:Nat→Value}{z:Value}{tm te:TypeId}(hm:P.underlying tm=some (.map t te))(hz:∀w,(zeroValue te).run P w= .ok z w){w:World}{b:Nat}{L:List (List α)}(h:kBw val vv w b L)(l:List α)(hl:l.length=n)(hL:∀m∈L,m.length=n)(ok:Bool):
  (Instr.lookup tm (.map (some b)) (kEn val l) ok).run P w= .ok (match kAo eqB l L with
   | some k=>if ok then .tuple #[vv k,.bool true]else vv k
   | none=>if ok then .tuple #[z,.bool false]else z) w:=by
 rw[Instr.lookup];simp only[Sem.run_bind,run_underlying hm,Result.andThen_ok,MapKept.run_getObj_map h,Sem.run_pure,K.check w _ l hl,K.find_keyG vv w l hl L hL]
 cases kAo eqB l L<;>cases ok<;>simp[hz]
theorem kG6.storeG (K:kG6 P t E n sz val eqB){vv:Nat→Value}{tm te:TypeId}(hm:P.underlying tm=some (.map t te)){w:World}{b:Nat}{L:List (List α)}(h:kBw val vv w b L)(l:List α)(hl:l.length=n)(hL:∀m∈L,m.length=n)(hn:kAo eqB l L=none)(v:Value)(hv:v=vv L.length):
  (Instr.mapUpdate tm (.map (some b)) (kEn val l) v).run P w= .ok () (kG8 w b (.map (kDd val vv 0 (L++[l])).toArray (L++[l]).length)):=by
 subst hv;rw[Instr.mapUpdate];simp only[Sem.run_bind,run_underlying hm,Result.andThen_ok,MapKept.run_getObj_map h,K.check w _ l hl,K.find_keyG vv w l hl L hL,hn,Option.map_none,MapKept.run_setObj_map _ h];rw[kLf,List.length_append]
 rfl
end
end Go.Proofs.Ytabbabkmojaoaaa

namespace Go.Proofs.Ytabbabkmojaoaaa
theorem kNi (f:Nat→Int)(k:Nat):∀j (i:Nat),(∀x,(mkF f k).lows[i]? =some x→(mkF f (k+j)).lows[i]? =some x)∧(∀x,(mkF f k).mids[i]? =some x→(mkF f (k+j)).mids[i]? =some x):=by
 intro j
 induction j with
 | zero=>exact fun i=>⟨fun x h=>h,fun x h=>h⟩
 | succ j ih=>
  intro i;obtain⟨h1,h2⟩:=ih i;obtain⟨hw, -⟩:=kC4 f (k+j);have hN:=kI0 (L:=(mkF f (k+j)).lows) (b:=blkF f (k+j)) (fun m hm=>by rw[hw.low m hm,kAu]);rw[←Nat.add_assoc,mkF]
  by_cases h7:((mkF f (k+j)).blocks+1) % 64=0
  ·rw[kBi h7];have hM:=kI0 (L:=(mkF f (k+j)).mids) (b:=(mkF f (k+j)).cur.set ((mkF f (k+j)).blocks % 64) (kBe eq8 (mkF f (k+j)).lows (blkF f (k+j))).2) (fun m hm=>by rw[hw.mid m hm];simp[hw.cur]);exact⟨fun x h=>hN.pre i x (h1 x h),fun x h=>hM.pre i x (h2 x h)⟩
  ·rw[kBj h7];exact⟨fun x h=>hN.pre i x (h1 x h),fun x h=>h2 x h⟩
theorem kMb {β:Type}{l:List β}(h:l.Nodup){i j:Nat}{x:β}(hi:l[i]? =some x)(hj:l[j]? =some x):i=j:=by
 obtain⟨hi1,rfl⟩:=List.getElem?_eq_some_iff.1 hi;obtain⟨hj1,hj2⟩:=List.getElem?_eq_some_iff.1 hj
 rcases Nat.lt_trichotomy i j with h4 | h4 | h4
 ·exact absurd hj2.symm (List.pairwise_iff_getElem.1 h i j hi1 hj1 h4)
 ·exact h4
 ·exact absurd hj2 (List.pairwise_iff_getElem.1 h j i hj1 hi1 h4)
end Go.Proofs.Ytabbabkmojaoaaa

namespace Go.Proofs.Ytabbabkmojaoaaa
open Go.RowKit
theorem kCv {P:Program}{o:Oper}{a:Act}{w:World}(ty:TypeId)(x y:Operand)(ok:Bool)(ho:o.op= .lookup ty x y ok)(xv yv v:Value)(hx:a.eval x=xv)(hy:a.eval y=yv)(hr:(Instr.lookup ty xv yv ok).run P w= .ok v w):(execOp a.eval o).run P w= .ok (.value v) w:=by
 unfold execOp;simp only[ho,hx,hy,Sem.run_bind,Sem.run_pure,Result.andThen_ok,hr]
def UnL (eqB:Int→Int→Bool) (L:List (List Int)) (n:Nat):Prop:=∀k (h:k<L.length),k<n→kAo eqB L[k] (L.take k)=none
def UnR (w:World) (L:List (List Int)) (i:Value) (wr:World):Prop:=∃k:Nat,k≤L.length∧i= .int .i64 (k:Nat)∧UnL (fun a b=>decide (a=b)) L k∧kBw val8 (fun _=> .int .i64 1) wr w.heap.size (L.take k)∧Below w.heap.size w wr
theorem unlike_walk (w:World)(a:Option Addr)(n c:Nat)(L:List (List Int))(hn:L.length=n)(hn2:n≤1048576)(hl:∀l∈L,l.length=64)(h:kAg val8 64 w a L):
  Calls Try.prog 97 #[.slice a n c] w fun e w'=>(e= .returned (.bool true)∧Below w.heap.size w w'∧UnL (fun a b=>decide (a=b)) L n)∨(e= .returned (.bool false)∧Below w.heap.size w w'∧¬UnL (fun a b=>decide (a=b)) L n):=by
 have HN:=jH hn;clear hn
 have HLl:=jH hl;clear hl
 have HA:=jH h;clear h
 go_enter Try.func97,Try.ntmps97
 go_upto_region 1 with(fail)
 refine wp_region_list ?_;refine kAc (v:= .map (some w.heap.size)) (w':=w.alloc (.map #[] 0)) rfl (by kernel_rfl) ?_;have hA0:=jN w (.map #[] 0);have hB0:Below w.heap.size w (w.alloc (.map #[] 0)):=(Below.refl _ _).alloc jR _;have hz0:=World.size_alloc w (.map #[] 0)
 obtain⟨b0,hb0⟩:∃b0,b0=w.heap.size:=⟨_,rfl⟩
 rw[←hb0];have HB0:=jH hB0;have HA0:Hid (kBw val8 (fun _=> .int .i64 1) (w.alloc (.map #[] 0)) w.heap.size (L.take 0)):=jH hA0;have HBz:=jH hb0;clear hA0 hB0 hz0 hb0;generalize w.alloc (.map #[] 0)=w1 at*;go_wp2
 go_loopw [9] (UnR w L) (fun i _=>n - (intOf i).toNat)
 case atStart=>exact⟨0,Nat.zero_le _,rfl,fun k h hk=>by omega,HA0.out,HB0.out⟩
 case round=>
  obtain⟨k,hk,rfl,hun,hmap,hbel⟩:=hrel
  have HUn:=jH hun;clear hun
  have HMp:=jH hmap;clear hmap
  have HBe:=jH hbel;clear hbel
  by_cases hkn:k<n
  ·have hki:(k:Int)<(n:Int):=by omega
   have hkl:k<L.length:=by rw[HN.out];exact hkn
   obtain⟨ba,oa,ha⟩:=HA.out.some (by omega);subst ha;have HR:Hid (wr.rangeAt ba (oa+k*64) (kAf val8 L[k])):=jH (kAs (HA.out.get k hkl) HBe.out jR);have hl64:(L[k]).length=64:=HLl.out _ (List.getElem_mem hkl);have HTk:Hid (L.take (k+1)=L.take k++[L[k]]):=jH (List.take_succ_eq_append_getElem hkl)
   have HUs:Hid (kAo (fun a b=>decide (a=b)) L[k] (L.take k)=none→UnL (fun a b=>decide (a=b)) L (k+1)):=jH (fun h j hj hj2=>by
    by_cases e:j=k
    ·subst e;exact h
    ·exact HUn.out j hj (by omega))
   have HUf:Hid (¬kAo (fun a b=>decide (a=b)) L[k] (L.take k)=none→¬UnL (fun a b=>decide (a=b)) L n):=jH (fun h h2=>h (h2 k hkl hkn));generalize L[k]=l at*
   have hbs:(kAf val8 l).length=64:=by rw[kAh (sz:=1) (fun _=>rfl),hl64]
   have hlt:(L.take k).length=k:=by rw[List.length_take];omega
   have HLt:Hid (∀m∈L.take k,m.length=64):=jH (fun m hm=>HLl.out m (List.mem_of_mem_take hm))
   go_upto_region 4 with(fail)
   refine wp_region_list ?_;refine kAc (v:= .pointer (some ⟨ba,oa+k*64,none⟩)) (w':=wr) rfl (by go_simp) ?_;refine wpList_load_mid rfl 119 (.tmp 11) rfl ba (oa+k*64) rfl (kAf val8 l) (.array 64 5) HR.out Try.underlying119 rfl (by rw[hbs];kernel_rfl) ?_;refine kAc (v:= .pointer (some ⟨wr.heap.size,0,none⟩)) (w':=wr.alloc (.cells (kAf val8 (List.replicate 64 (0:Int))).toArray 119)) rfl (by kernel_rfl) ?_
   obtain⟨b7,hb7⟩:∃b7,b7=wr.heap.size:=⟨_,rfl⟩
   have hA1:=jN wr (.cells (kAf val8 (List.replicate 64 (0:Int))).toArray 119);have hB1:Below wr.heap.size wr (wr.alloc (.cells (kAf val8 (List.replicate 64 (0:Int))).toArray 119)):=(Below.refl _ _).alloc jR _;rw[←hb7]at hA1 hB1 ⊢;generalize wr.alloc (.cells (kAf val8 (List.replicate 64 (0:Int))).toArray 119)=v1 at*;refine wpList_store_row rfl 119 (.tmp 5) (.tmp 12) rfl b7 (kAf val8 l).toArray rfl rfl 119 _ hA1 (by rw[List.size_toArray,hbs];kernel_rfl) (by rw[List.size_toArray,List.size_toArray,hbs,kAh (sz:=1) (fun _=>rfl)];rfl) (all_oneCell_toArray (fun u hu=>kB6 l u (by simpa using hu))) ?_;have hA2:=setRow_heap v1 b7 _ (kAf val8 l).toArray _ _ hA1
   have hB2:Below b7 wr (v1.setRow b7 (kAf val8 l).toArray):=⟨hB1.os,hB1.tape,hB1.output,by rw[setRow_size];exact hB1.size,fun k hk=>by rw[setRow_other v1 b7 k _ (by omega)];exact hB1.block k hk⟩
   generalize v1.setRow b7 (kAf val8 l).toArray=v2 at*
   have HR2:Hid (v2.rangeAt b7 0 (kAf val8 l)):=jH (by
    have:=World.rangeAt_of_block hA2 0 (kAf val8 l).length
    simpa using this)
   have hmb:w.heap.size<wr.heap.size:=(jL HMp.out)
   have HMp2:Hid (kBw val8 (fun _=> .int .i64 1) v2 w.heap.size (L.take k)):=jH ((hB2.block _ (by omega)).trans HMp.out);have HB2:Hid (Below w.heap.size w v2):=jH (HBe.out.trans (hB2.mono (by omega)));have HB7:=jH hb7;clear hA1 hB1 hA2 hB2 hb7 v1 HR HMp HBe
   obtain⟨u,hu⟩:∃u:Int,u=(if kAo (fun a b=>decide (a=b)) l (L.take k)=none then 0 else 1):=⟨_,rfl⟩
   have HLk:Hid ((Instr.lookup 230 (.map (some w.heap.size)) (kEn val8 l) false).run Try.prog v2= .ok (.int .i64 u) v2):=jH (by
    rw[Try.k8.lookupG (te:=3) Try.underlying230 (z:= .int .i64 0) (fun w=>by kernel_rfl) HMp2.out l hl64 HLt.out false,hu]
    cases kAo (fun a b=>decide (a=b)) l (L.take k)<;>rfl)
   have hbz:w.heap.size=b0:=HBz.out.symm;rw[hbz]at HLk
   have HU:=jH hu;clear hu
   go_upto_region 5 with(fail)
   refine wp_region_list ?_;refine kAc (v:= .map (some b0)) (w':=v2) rfl (by rfl) ?_;refine wpList_load_mid rfl 119 (.tmp 5) rfl b7 0 (by first | rfl | (rw[HB7.out];rfl)) (kAf val8 l) (.array 64 5) HR2.out Try.underlying119 rfl (by rw[hbs];kernel_rfl) ?_;refine kAc (v:= .int .i64 u) (w':=v2) rfl (kCv 230 (.tmp 13) (.tmp 14) false rfl (.map (some b0)) (kEn val8 l) _ rfl rfl HLk.out) ?_
   by_cases hf:kAo (fun a b=>decide (a=b)) l (L.take k)=none
   ·have hu0:u=0:=by rw[HU.out,if_pos hf]
    have HF:=jH hf;clear hf
    have HU2:=jH (HUs.out HF.out);have HSt:=jH (Try.k8.storeG Try.underlying230 (te:=3) HMp2.out l hl64 HLt.out HF.out (.int .i64 1) rfl)
    have HMp3:Hid (kBw val8 (fun _=> .int .i64 1) (kG8 v2 w.heap.size (.map (kDd val8 (fun _=> .int .i64 1) 0 (L.take k++[l])).toArray (L.take k++[l]).length)) w.heap.size (L.take (k+1))):=jH (by
     rw[HTk.out]
     exact kE7 v2 _ (jL HMp2.out))
    have HB3:Hid (Below w.heap.size w (kG8 v2 w.heap.size (.map (kDd val8 (fun _=> .int .i64 1) 0 (L.take k++[l])).toArray (L.take k++[l]).length))):=jH (HB2.out.trans (kGz v2 _ _ jR));rw[hbz]at HSt HMp3 HB3;generalize (kG8 v2 b0 (.map (kDd val8 (fun _=> .int .i64 1) 0 (L.take k++[l])).toArray (L.take k++[l]).length))=v3 at*;subst hu0;clear hbz
    go_upto_region 7 with(fail)
    refine wp_region_list ?_;refine kAc (v:= .map (some b0)) (w':=v2) rfl (by rfl) ?_;refine wpList_load_mid rfl 119 (.tmp 5) rfl b7 0 (by first | rfl | (rw[HB7.out];rfl)) (kAf val8 l) (.array 64 5) HR2.out Try.underlying119 rfl (by rw[hbs];kernel_rfl) ?_;refine kAz rfl 230 (.tmp 17) (.tmp 18) (.const (.int .i64 1)) rfl (.map (some b0)) (kEn val8 l) (.int .i64 1) rfl rfl rfl HSt.out ?_;go_wp2
    go_roundw
    case rel=>exact⟨k+1,by omega,by go_num,HU2.out,by rw[HBz.out]at HMp3;exact HMp3.out,by rw[HBz.out]at HB3;exact HB3.out⟩
    case measure=>simp[intOf];omega
   ·have hu1:u=1:=by rw[HU.out,if_neg hf]
    have HF:=jH (HUf.out hf);clear hf
    subst hu1;go_wp2
    go_ret
    exact .inr ⟨rfl,HB2.out,HF.out⟩
  ·obtain rfl:k=n:=by have:=HN.out;omega
   have hki:¬(k:Int)<(k:Int):=by omega
   go_wp2
   go_ret
   exact .inl ⟨rfl,HBe.out,HUn.out⟩
end Go.Proofs.Ytabbabkmojaoaaa

namespace Go.Proofs.Ytabbabkmojaoaaa
open Go.RowKit
attribute [local go_sem] Oper.semAt_some
def kKt (b o:Nat) (q:Nat):Array Value:= #[.slice (some ⟨b,o+64*q,none⟩) 64 64]
theorem kEy (a:Option Addr)(n c:Nat)(w:World):Calls Try.prog 121 #[.slice a n c,.int .i64 64] w fun e w'=>e= .returned (.func (.func 143) #[] #[.pointer (some ⟨w.heap.size,0,none⟩),.pointer (some ⟨w.heap.size+1,0,none⟩)])∧
  w'.cell? ⟨w.heap.size,0,none⟩=some (.slice a n c)∧w'.cell? ⟨w.heap.size+1,0,none⟩=some (.int .i64 64)∧Below w.heap.size w w'∧w'.heap.size=w.heap.size+2:=by
 have HA:=jH (jN w (.cells #[.slice a n c] 77));have HB:=jH ((Below.refl _ w).alloc jR (.cells #[.slice a n c] 77));have HS:=jH (World.size_alloc w (.cells #[.slice a n c] 77))
 go_enter Try.func121,Try.ntmps121
 go_wp2
 go_ret
 generalize w.alloc (.cells #[.slice a n c] 77)=w1 at*;have c0:=jK _ w.heap.size 0 _ _ (0,0) HA.out;have hA:=(Below.refl _ w1).alloc jR (.cells #[.int .i64 64] 3);have c1:=jK _ w1.heap.size 0 _ _ (0,0) (jN w1 (.cells #[.int .i64 64] 3));have hs:=HS.out;refine⟨by simp[hs],(hA.cell (p:=⟨w.heap.size,0,none⟩) (by show w.heap.size<_;omega)).trans c0,by rw[←hs];exact c1,HB.out.trans (hA.mono (by omega)),by simp;omega⟩
def ChR (J:(Nat→Prop)→List Nat→World→Prop) (w:World) (K b2 b3:Nat) (i:Value) (wr:World) (sl n64:Value):Prop:=
 ∃q,q≤K∧i= .int .i64 ((64*q:Nat):Int)∧J (fun _=>False) (List.range q) wr∧wr.cell? ⟨b2,0,none⟩=some sl∧wr.cell? ⟨b3,0,none⟩=some n64
theorem kDk (b o c K:Nat)(hK:K≤1048576)(hc:64*K≤c)(hc2:c≤maxLen)(b2 b3:Nat)(R:Nat→Prop)(w:World)(hR1:R b2)(hR2:R b3)
  (c1:w.cell? ⟨b2,0,none⟩=some (.slice (some ⟨b,o,none⟩) (64*K) c))(c2:w.cell? ⟨b3,0,none⟩=some (.int .i64 64)):
  kM6 Try.prog 143 #[.pointer (some ⟨b2,0,none⟩),.pointer (some ⟨b3,0,none⟩)] (kKt b o) R (fun xs=>xs=List.range K) (fun pre=>∃q,q≤K∧pre=List.range q) K w:=by
 intro l J Jx W hW hJ hJx hY h1;refine callsIn_wide.2 ?_;have HY:=jH hY;have HJ:=jH hJ;have d1:=(hW.cell (p:=⟨b2,0,none⟩) (World.block_lt_of_cell? w _ c1)).trans c1;have d2:=(hW.cell (p:=⟨b3,0,none⟩) (World.block_lt_of_cell? w _ c2)).trans c2;have H1:=jH h1
 have D1:=jH d1;have D2:=jH d2
 have HRr:=jH (And.intro hR1 hR2);clear hJ hJx hY h1 hW c1 c2 d1 d2 hR1 hR2
 go_enter Try.func143,Try.ntmps143
 go_wp2
 go_loopw [4] (fun i wr=>ChR J w K b2 b3 i wr (.slice (some ⟨b,o,none⟩) (64*K) c) (.int .i64 64)) (fun i _=>64*K - (intOf i).toNat)
 case atStart=>exact⟨0,Nat.zero_le _,rfl,H1.out,D1.out,D2.out⟩
 case round=>
  obtain⟨q,hq,rfl,hj,e1,e2⟩:=hrel
  have HJq:=jH hj;clear hj
  obtain⟨n,hn⟩:∃n,n=64*K:=⟨_,rfl⟩
  obtain⟨p,hp⟩:∃p,p=64*q:=⟨_,rfl⟩
  rw[←hn]at e1;rw[←hp]
  have E1:=jH e1;have E2:=jH e2
  by_cases hqn:q<K
  ·have hpi:(p:Int)<(n:Int):=by omega
   have hpn:p≤n:=by omega
   have hnc:n≤c:=by omega
   have hcm:c≤9223372036854775807:=by unfold maxLen at hc2;exact hc2
   have HPq:=jH (And.intro hn hp);clear hn hp
   have hnm:¬((n:Int) - (p:Int)<64):=by have:=HPq.out;omega
   have dnm:decide ((n:Int) - (p:Int)<64)=false:=decide_eq_false hnm
   have hnm2:¬(((n - p:Nat):Int)<64):=by have:=HPq.out;omega
   have dnm2:decide (((n - p:Nat):Int)<64)=false:=decide_eq_false hnm2
   have hcp:¬c=p:=by omega
   have hmn:∀(w:World) (ts:Array TypeId) (t:TypeId),(Builtin.min_ ts t #[.int .i64 64,.int .i64 ((n - p:Nat):Int)]).run Try.prog w= .ok (.int .i64 64) w:=fun w ts t=>by
    rw[run_min_int2,if_neg hnm2]
   go_wp2
   go_quiet (fail)
   have e3:(wr.drewN nq).cell? ⟨b2,0,none⟩=some (.slice (some ⟨b,o,none⟩) n c):=e1;have e4:(wr.drewN nq).cell? ⟨b3,0,none⟩=some (.int .i64 64):=e2;have hj2:J (fun _=>False) (List.range q) (wr.drewN nq):=HJ.out _ _ _ _ _ HJq.out ⟨rfl,rfl,rfl,Nat.le_refl _,fun _ _ _=>rfl⟩ (kB4.refl _ _ _);generalize wr.drewN nq=W1 at*;clear e1 e2 E1 E2 HJq hmn;obtain⟨fn,tmps,assign,body,hy,hR⟩:=HY.out (fun _=>False) (List.range q) q W1 hj2 (by rw[List.length_range];exact hqn) ⟨q+1,hqn,List.range_succ.symm⟩
   dsimp only[kKt]at hy
   rw[←HPq.out.2]at hy;rw[←List.range_succ]at hR
   have HRy:=jH hR;clear hR hj2
   have E3:=jH e3;have E4:=jH e4
   have h64a:(p:Int)+64≤(c:Int):=by have:=HPq.out;omega
   have h64n:p+64≤c:=by omega
   have hpz:(0:Int)≤(p:Int)+64:=by omega
   have hpp:(p:Int)≤(p:Int)+64:=by omega
   go_upto_region 4 with(fail)
   refine(wpIn_wide (n:=2)).1 ?_
   gi_wp2
   refine HRy.out.mono ?_
   rintro e W3 (⟨rfl,hJ3,hk3⟩ | ⟨rfl,hx3,hk3⟩)
   ·have HJ3:=jH hJ3;have f3:=jH (hk3.cell E3.out (.inr HRr.out.1));have f4:=jH (hk3.cell E4.out (.inr HRr.out.2))
    have hq1:(p:Int)+64=((64*(q+1):Nat):Int):=by have:=HPq.out;omega
    have HQ1:=jH hq1;clear hq1
    have e4':=f4.out;clear hJ3 hk3 hy e3 e4
    gi_wp2
    go_wp2
    go_roundw
    case rel=>exact⟨q+1,by omega,by rw[←HQ1.out],HJ3.out,by rw[←HPq.out.1];exact f3.out,f4.out⟩
    case measure=>simp[intOf];have:=HPq.out;omega
   ·have HX3:=jH hx3;clear hx3 hk3 hy e3 e4
    gi_wp2
    go_wp2
    refine jS (results_none rfl _ _ _) rfl ?_;exact⟨⟨_,rfl⟩,.inr ⟨_,_,⟨_,hqn,rfl⟩,HX3.out⟩⟩
  ·obtain rfl:q=K:=by omega
   have hpi:¬(p:Int)<(n:Int):=by omega
   clear hn hp E1 E2;go_wp2
   go_end0
   exact⟨⟨_,rfl⟩,.inl ⟨fun _=>False,HJq.out⟩⟩
def ckL (zs:List Int) (q:Nat):List Int:=(zs.drop (64*q)).take 64
def cksL (zs:List Int) (K:Nat):List (List Int):=(List.range K).map (ckL zs)
theorem ckL_length (zs:List Int)(K q:Nat)(hz:zs.length=64*K)(hq:q<K):(ckL zs q).length=64:=by
 unfold ckL;rw[List.length_take,List.length_drop];omega
theorem kIn (zs:List Int)(q j:Nat)(hj:j<64):(ckL zs q)[j]? =zs[64*q+j]? :=by
 unfold ckL;simp[List.getElem?_take,hj]
theorem kE4 (zs:List Int)(K:Nat):cksL zs (K+1)=cksL zs K++[ckL zs K]:=by
 unfold cksL;rw[List.range_succ,List.map_append]
 rfl
theorem cksL_length (zs:List Int)(K:Nat):(cksL zs K).length=K:=by simp[cksL]
structure CuI (w:World) (z bo:Nat) (zs:List Int) (T:Nat→Prop) (pre:List Nat) (W:World):Prop where
 bel:Below w.heap.size w W
 tn:∀k,T k→bo<k∧k<W.heap.size
 q:pre=List.range pre.length
 row:∃a c,W.heap[bo]? =some (.cells #[.slice a pre.length c] 112 (0,0))∧W.ownsRow w.heap.size 119 64 (.slice a pre.length c) pre.length ((cksL zs pre.length).flatMap (kAf val8))∧∀k,(Value.slice a pre.length c).ownBlock=some k→¬T k∧z≤k
 sz:z≤W.heap.size
theorem CuI.abide (w:World)(z bo:Nat)(zs:List Int)(hbo:w.heap.size≤bo):kD8 (CuI w z bo zs):=by
 rintro T T' pre W W' ⟨h1,h2,h3,⟨a,c,h4,h5,h6⟩,h7⟩ ho hw
 have hl:=(jL h4)
 refine⟨h1.trans (ho.below _ h1.size (fun k hk=>by have:=(h2 k hk).1;omega)),fun k hk=> ?_,h3,⟨a,c,ho.cellsBlock h4 (fun h=>Nat.lt_irrefl _ (h2 _ h).1),kF6 h5 ho (fun k e=>(h6 k e).1),fun k e=>⟨fun ht=> ?_,(h6 k e).2⟩⟩,Nat.le_trans h7 ho.size⟩
 ·rcases hw k hk with h | h
  ·have:=h2 k h;have:=ho.size;omega
  ·omega
 ·rcases hw k ht with h | h
  ·exact(h6 k e).1 h
  ·have:=(World.ownsRow.lt h5 k e).2;omega
theorem cut_walk (w:World)(b o c K:Nat)(zs:List Int)(hK:K≤1048576)(hc:64*K≤c)(hc2:c≤maxLen)(hz:zs.length=64*K)(hr:w.rangeAt b o (kAf val8 zs))(hb:b<w.heap.size):
  Calls Try.prog 91 #[.slice (some ⟨b,o,none⟩) (64*K) c] w fun e w'=>∃a c',e= .returned (.slice a K c')∧w'.ownsRow w.heap.size 119 64 (.slice a K c') K ((cksL zs K).flatMap (kAf val8))∧Below w.heap.size w w':=by
 have HR:=jH hr;clear hr
 have hA1:=jN w (.cells #[.slice none 0 0] 112);have hB1:=(Below.refl _ w).alloc jR (.cells #[.slice none 0 0] 112);have hz1:=World.size_alloc w (.cells #[.slice none 0 0] 112)
 have HA1:=jH hA1;have HB1:=jH hB1;have HZ1:=jH hz1
 clear hA1 hB1 hz1
 obtain⟨bo,hbo⟩:∃bo,bo=w.heap.size:=⟨_,rfl⟩
 refine kB8 Try.func91 rfl ?_;simp only[Try.ntmps91,List.size_toArray,List.length_cons,List.length_nil,Nat.reduceAdd,Nat.reduceSub,Array.replicate_succ,Array.replicate_zero,List.push_toArray,List.append_toArray,List.nil_append,List.cons_append]
 go_wp2_with fail
 generalize w.alloc (.cells #[.slice none 0 0] 112)=w1 at*;refine(kEy (some ⟨b,o,none⟩) (64*K) c w1).mono ?_;rintro e w2 ⟨rfl,c2,c3,hb2,hz2⟩;have HZ2:=jH hz2;have HSt:=jH (kDk b o c K hK hc hc2 w1.heap.size (w1.heap.size+1) (fun k=>k<w2.heap.size∧k≠bo) w2 ⟨by omega,by have:=HZ1.out;omega⟩ ⟨by omega,by have:=HZ1.out;omega⟩ c2 c3);have HB2:=jH hb2;have HI0:Hid (CuI w w2.heap.size bo zs (fun _=>False) [] w2):=jH ⟨HB1.out.trans (hb2.mono HB1.out.size),fun _ h=>h.elim,rfl,⟨none,0,by rw[hbo];exact(hb2.block _ (by have:=HZ1.out;omega)).trans HA1.out,World.ownsRow_nil _ _ _ _,fun k e=>by cases e⟩,Nat.le_refl _⟩;have HBo:=jH hbo;clear c2 c3 hb2 hz2;rw[←hbo];clear hbo;go_wp2
 refine kDg (gf:=143) (lb:= #[.pointer (some ⟨w1.heap.size,0,none⟩),.pointer (some ⟨w1.heap.size+1,0,none⟩)]) rfl (enters_of Try.func143 (by kernel_rfl) rfl) HSt.out (Below.refl _ _) (fun k hk=>hk.1) (fun _=>rfl)
  (CuI w w2.heap.size bo zs) (fun _ _ _ _=>False) (CuI.abide w _ bo zs (by rw[HBo.out];exact Nat.le_refl _)) (fun _ _ _ _ _ _ h=>h.elim) HI0.out
  (fun tmps T q a' W=>a'={tmps:=(tmps.setIfInBounds 7 (.slice (some ⟨b,o+64*q,none⟩) 64 64)).setIfInBounds 4 (.slice (some ⟨b,o+64*q,none⟩) 64 64),defers:=[]}) (fun T x a' W W' h ho=>h) ?assign ?body ?done ?stop
 case stop=>
  rintro D c T pre W - - - h;exact h.elim
 case assign=>
  rintro l T pre x W K hi hK
  have HK:=jH hK;clear hK
  simp only[kKt]
  gi_wp2
  exact HK.out _ _ (kDc.refl _ _ _) hi rfl
 case body=>
  rintro lp Tt pre q a' W hTl hl - hst hA hlen ⟨q',hq',hpq⟩;subst hA
  have hq:q=pre.length∧q<K:=by
   have h1:=hst.q
   have h2:pre.length+1=q':=by have:=congrArg List.length hpq;simpa using this
   rw[←h2,List.range_succ]at hpq;obtain⟨h3,h4⟩:=List.append_inj' hpq rfl
   have h5:q=pre.length:=by simpa using h4
   exact⟨h5,by omega⟩
  obtain⟨hq1,hqK⟩:=hq;clear hpq hq' hlen;obtain⟨hbel,htn,hpre,⟨a0,c0,hcell,hown,hblk⟩,hsz⟩:=hst;rw[←hq1]at hcell hown hblk
  have HBe:=jH hbel;have HTn:=jH htn;have HPr:=jH hpre;have HCe:=jH hcell;have HOw:=jH hown;have HBk:=jH hblk;have HQ:=jH hq1
  have HRk:Hid (W.rangeAt b (o+64*q) (kAf val8 (ckL zs q))):=jH (fun j v hv=>by
   rw[kA7,List.getElem?_map]at hv
   have hj:j<64:=by
    by_cases hj:j<64
    ·exact hj
    ·rw[List.getElem?_eq_none (by rw[ckL_length zs K q hz hqK];omega)]at hv;cases hv
   rw[kIn zs q j hj]at hv;have h1:=HR.out (64*q+j) v (by rw[kA7,List.getElem?_map];exact hv);rw[Nat.add_assoc]
   exact(HBe.out.cell (p:=⟨b,o+(64*q+j),none⟩) hb).trans h1)
  have hcl:=ckL_length zs K q hz hqK;have HSu:=jH (kE4 zs q);clear hbel htn hpre hcell hown hblk hq1;generalize ckL zs q=l at*
  have hbs:(kAf val8 l).length=64:=by rw[kAh (sz:=1) (fun _=>rfl),hcl]
  have p0:W.cell? ⟨bo,0,none⟩=some (.slice a0 q c0):=jK W bo 0 _ _ (0,0) HCe.out;have hbw:b<W.heap.size:=Nat.lt_of_lt_of_le hb HBe.out.size
  have hbob:bo≠b:=by rw[HBo.out];omega
  simp only[List.setIfInBounds_toArray,List.set_cons_zero,List.set_cons_succ]
  gi_wp2
  refine kAi [6] (fun w':World=>w'.cell? ⟨bo,0,none⟩=some (.slice a0 q c0)∧w'.rangeAt b (o+64*q) (kAf val8 l)) (by kernel_rfl) ?_;have HCx:Hid ((fun w':World=>w'.cell? ⟨bo,0,none⟩=some (.slice a0 q c0)∧w'.rangeAt b (o+64*q) (kAf val8 l)) W.drew):=jH ⟨p0,HRk.out⟩;have HO3:Hid (W.drew.ownsRow w.heap.size 119 64 (.slice a0 q c0) q ((cksL zs q).flatMap (kAf val8))):=jH (World.ownsRow.drew HOw.out);have HD:Hid (Below W.heap.size W W.drew):=jH (Below.refl _ W).drew;clear p0;generalize W.drew=w3 at*;have hw3:w.heap.size≤w3.heap.size:=Nat.le_trans HBe.out.size HD.out.size;refine' kAd (i:=0) (v:=_) [5,6] (by kernel_rfl) rfl (by kernel_rfl) (fun _ _ _ h=>h) (by rfl) (by rintro w' ⟨c0,c1⟩;go_simp;try with_reducible rfl) HCx.out ?_;simp only[jA,jB,jC,Act.put,jD,jE,jF];refine' kAd (i:=1) (v:=_) [2,3,4,5,6] (by kernel_rfl) rfl (by kernel_rfl) (fun _ _ _ h=>h) (by rfl) (by rintro w' ⟨c0,c1⟩;go_simp;try with_reducible rfl) HCx.out ?_;simp only[jA,jB,jC,Act.put,jD,jE,jF];refine' kAd (i:=2) (v:= .pointer (some ⟨b,o+64*q,none⟩)) [3,4,5,6] (by kernel_rfl) rfl (by kernel_rfl) (fun _ _ _ h=>h) (by rfl) (by rintro w' ⟨c0,c1⟩;have ha:=run_arrayAt (P:= Try.prog) w' 119 5 64 (some ⟨b,o+64*q,none⟩) 64 64 Try.underlying119 jR;go_simp;try with_reducible rfl) HCx.out ?_;simp only[jA,jB,jC,Act.put,jD,jE,jF];refine' kAd (i:=3) (v:=_) [4,5,6] (by kernel_rfl) rfl (by kernel_rfl) (fun _ _ _ h=>h) (by rfl) (by exact fun w' hC=>by refine kCp 119 (.tmp 10) ?_ b (o+64*q) ?_ (kAf val8 l) (.array 64 5) hC.2 Try.underlying119 rfl (by rw[hbs];kernel_rfl)<;>rfl) HCx.out ?_;simp only[jA,jB,jC,Act.put,jD,jE,jF];refine kC9 (i:=4) (v:= .slice (some ⟨w3.heap.size,0,none⟩) 1 1) (w':=w3.alloc (.cells (kAf val8 l).toArray 119)) (by kernel_rfl) rfl (by kernel_rfl) (by rfl) (by go_simp;exact congrArg (fun c=>w3.alloc (.cells c 119)) (kEg (kAf val8 l) _ (by rw[hbs];rfl))) ⟨kBb HCx.out.1 _,World.rangeAt_alloc HCx.out.2 _⟩ ?_;simp only[jA,jB,jC,Act.put,jD,jE,jF]
  have hbow:bo<w2.heap.size:=by have:=HZ1.out;have:=HZ2.out;have:=HBo.out;omega
  refine kEf (i:=5) Try.elemB8 (by kernel_rfl) rfl (by kernel_rfl) (by rfl) (.tmp 8) (.tmp 12) rfl HO3.out (by omega) (by omega) hw3 (kAf val8 l) hbs (fun u hu=>kB6 l u (by simpa using hu)) 119 rfl rfl (fun w' hg=>⟨kAv hg HCx.out.1 (fun k e=>by have:=(HBk.out k e).2;omega),kBh hg HCx.out.2 (fun k e=>by have:=(HBk.out k e).2;have:=HB1.out.size;have:=HB2.out.size;omega)⟩) ?_;intro a' c' w5 ho5 hg5 hn5;simp only[jA,jB,jC,Act.put,jD,jE,jF];refine kA3 6 (by rfl) (by kernel_rfl) (by kernel_rfl) ?_;simp only[List.drop_succ_cons,List.drop_zero];have h5c:w5.heap[bo]? =some (.cells #[.slice a0 q c0] 112 (0,0)):=(kAr hg5 (by have:=HD.out.size;omega) (fun k e=>by have:=(HBk.out k e).2;omega)).trans ((HD.out.block bo (by omega)).trans HCe.out);have p1:w5.cell? ⟨bo,0,none⟩=some (.slice a0 q c0):=jK w5 bo 0 _ _ (0,0) h5c;have f1:=jO w5 bo 0 _ _ h5c;have h6c:=jP w5 bo 0 _ _ (.slice a' (q+1) c') h5c
  have H5c:=jH h6c;have H5:=jH ho5;have HG5:=jH hg5;have HN5:=jH hn5
  clear h5c h6c ho5 hg5 hn5
  gi_wp2
  have hnb:=HN5.out;have hgw:W.grownBy w5 (Value.slice a0 q c0).ownBlock:=kAm ⟨HD.out.os,HD.out.tape,HD.out.output,HD.out.size,fun k hk _=>HD.out.block k hk⟩ HG5.out
  have hblk5:∀k,(Value.slice a' (q+1) c').ownBlock=some k→¬Tt k∧w2.heap.size≤k:=fun k e=>by
   rcases hnb with h | ⟨g,h,hg⟩
   ·rw[h]at e;exact HBk.out k e
   ·rw[h]at e;cases e;have:=HD.out.size;exact⟨fun ht=>by have:=(HTn.out _ ht).2;omega,by omega⟩
  have hsz6:(w5.setCell ⟨bo,0,none⟩ (.slice a' (q+1) c')).heap.size=w5.heap.size:=by simp
  refine⟨⟨by rw[hsz6];exact hgw.size,fun k hk hT=> ?_⟩,⟨?_,fun k hk=>⟨(HTn.out k hk).1,?_⟩,?_,⟨a',c',?_,?_,?_⟩,?_⟩⟩
  ·have hkb:k≠bo:=by
    rcases hT with h | h
    ·have:=(HTn.out k h).1;omega
    ·exact h.2
   rw[jQ w5 ⟨bo,0,none⟩ k _ hkb];refine hgw.block k hk (fun e=> ?_);have:=HBk.out k e.symm
   rcases hT with h | h
   ·exact this.1 h
   ·omega
  ·exact(HBe.out.trans (kBa hgw (fun k e=>by have:=(HBk.out k e).2;have:=HB1.out.size;have:=HB2.out.size;omega) HBe.out.size)).setCell (p:=⟨bo,0,none⟩) (by show w.heap.size≤bo;rw[HBo.out];exact Nat.le_refl _) _
  ·rw[hsz6];exact Nat.lt_of_lt_of_le (HTn.out k hk).2 hgw.size
  ·rw[List.length_append,List.length_singleton,List.range_succ,←HPr.out,←HQ.out]
  ·have e:(pre++[q]).length=q+1:=by rw[List.length_append,List.length_singleton,HQ.out]
   rw[e];exact H5c.out
  ·have e:(pre++[q]).length=q+1:=by rw[List.length_append,List.length_singleton,HQ.out]
   rw[e,HSu.out,List.flatMap_append];simp only[List.flatMap_cons,List.flatMap_nil,List.append_nil];refine H5.out.kept (kAe w5 bo 0 _) ?_
   cases e2:(Value.slice a' (q+1) c').ownBlock with
   | none=>exact .inl rfl
   | some k=>exact .inr (fun e3=>by cases e3;have:=(hblk5 _ e2).2;omega)
  ·have e:(pre++[q]).length=q+1:=by rw[List.length_append,List.length_singleton,HQ.out]
   rw[e];exact hblk5
  ·rw[hsz6];exact Nat.le_trans hsz hgw.size
 case done=>
  rintro D Tt xs w20 hD hTD rfl hst hDk;obtain⟨hbel,htn, -,⟨a0,c0,hcell,hown,hblk⟩,hsz⟩:=hst;rw[List.length_range]at hcell hown hblk;have p0:w20.cell? ⟨bo,0,none⟩=some (.slice a0 K c0):=jK w20 bo 0 _ _ (0,0) hcell
  have HBe:=jH hbel;have HOw:=jH hown;have HBk:=jH hblk;have HDk:=jH hDk;have HTD:=jH hTD
  have hwD:w.heap.size≤D:=by have:=HB1.out.size;have:=HB2.out.size;omega
  clear hbel htn hcell hown hblk hDk hTD;go_wp2
  refine kE5 HDk.out (kCz (results_tmp rfl _ _ _) ?_);refine⟨a0,c0,rfl,?_,kF2 HBe.out D _ hwD⟩;refine HOw.out.kept (grownBy_putObj' w20 D _) ?_
  cases e2:(Value.slice a0 K c0).ownBlock with
  | none=>exact .inl rfl
  | some k=>exact .inr (fun e3=>by cases e3;exact(HBk.out _ e2).1 HTD.out)
end Go.Proofs.Ytabbabkmojaoaaa
