/- several texts in one: WD TM2 UN8 WG WH -/
import Derived.Test.YtbmphakfgoompaaGreatOH
import Derived.Test.YtbmphakfgoompaaGreatOT
import Derived.Test.YtbmphakfgoompaaGreatOTC
import Derived.Test.YtbmphakfgoompaaGreatOSP
import Derived.Test.YtbmphakfgoompaaGreatOTD
import Derived.Test.YtbmphakfgoompaaGreatOPF
import Derived.Test.YtbmphakfgoompaaGreatOR
set_option linter.unusedVariables false
set_option linter.unusedSimpArgs false
set_option maxRecDepth 100000
set_option maxHeartbeats 16000000
namespace Go.Proofs.YtbmphakfgoompaaGreat
open Go.RowKit
attribute [local go_sem] Oper.semAt_some
def AtR (m:Nat) (w2:World) (iv:Value) (wr:World):Prop:=∃k:Nat,k≤m∧iv= .int .i64 (k:Nat)∧wr=w2
theorem kPk (w:World)(fv:Value)(F:Nat→Int)(N:Nat)(hN:N=1114112)(hf:kC0 w fv (kAk F N))(r:Int)(hr1: -2147483648≤r)(hr2:r≤2147483647):
  Calls Tryz.prog 122 #[fv,.int .i32 r] w fun e w'=>e= .returned (.int .i64 (F (kAi r)))∧Below w.heap.size w w':=by
 obtain⟨aT,cT,aV,cV,rfl,hT,hV, -, -⟩:=hf
 obtain⟨q,hq⟩:∃q:Nat,q=kAi r:=⟨_,rfl⟩
 have hql:q≤1114111:=by rw[hq];exact kBl r
 rw[←hq];obtain⟨A,x,B,k1,k2,k3,k4⟩:=kFs F N q (by omega);have hle:=kCd F N
 have hlen:(kAk F N).length=A.length+1+B.length:=by rw[k1];simp;omega
 have hAx:(kAk F N)[A.length]? =some x:=by rw[k1];simp
 have hAj:∀j,j<A.length→∃y,(kAk F N)[j]? =some y∧y.1<(q:Int):=fun j hj=>⟨A[j],by rw[k1,List.getElem?_append_left hj,List.getElem?_eq_getElem hj],k2 _ (List.getElem_mem hj)⟩
 obtain⟨n,hn⟩:∃n,n=(kAk F N).length:=⟨_,rfl⟩
 obtain⟨m,hm⟩:∃m,m=A.length:=⟨_,rfl⟩
 rw[←hn]at hlen hle ⊢;rw[←hm]at hlen hAx hAj
 have HT:=jH hT;have HV:=jH hV;have HAx:=jH hAx;have HAj:=jH hAj;have HNn:=jH hn;have HQ:=jH hq
 have HK:=jH (And.intro k3 k4);have HSz:=jH (show m<n∧n≤1114112 by omega);clear hT hV hAx hAj hn hq k1 k2 k3 k4 hlen hle hm;have HA:=jH (jN w (.cells #[.slice aT n cT,.slice aV n cV] 35));have HB:=jH ((Below.refl _ w).alloc jR (.cells #[.slice aT n cT,.slice aV n cV] 35))
 go_enter Tryz.func122,Tryz.ntmps122
 go_upto_region 1 with(fail)
 generalize w.alloc (.cells #[.slice aT n cT,.slice aV n cV] 35)=w2 at*
 obtain⟨b0,hb0⟩:∃b0,b0=w.heap.size:=⟨_,rfl⟩
 rw[←hb0]at HA ⊢;have q0:=jK w2 b0 0 _ _ (0,0) HA.out;have q1:=jK w2 b0 1 _ _ (0,0) HA.out;simp at q0 q1
 have HBz:=jH hb0;clear hb0
 have HT2:=jH (HT.out.below HB.out jR);have HV2:=jH (HV.out.below HB.out jR)
 have hcs:r<0∧q=65533∨(¬r<0∧1114111<r)∧q=65533∨(¬r<0∧¬1114111<r)∧(q:Int)=r:=by
  rw[HQ.out];unfold kAi
  by_cases h:r<0∨1114111<r
  ·rw[if_pos h];omega
  ·rw[if_neg h];omega
 rcases hcs with⟨h1,h2⟩ | ⟨⟨h0,h1⟩,h2⟩ | ⟨⟨h0,h1⟩,h2⟩
 ·have h3:(65533:Int)=(q:Int):=by omega
  clear h2
  go_upto_region 3 with(fail)
  rw[h3];clear h3;clear HQ;go_wp2
  go_loopw [5] (AtR m w2) (fun i _=>m+1 - (intOf i).toNat)
  case atStart=>exact⟨0,Nat.zero_le _,rfl,rfl⟩
  case round=>
   obtain⟨k,hk,rfl,rfl⟩:=hrel;obtain⟨hmn,hn2⟩:=HSz.out
   have hki:(k:Int)<(n:Int):=by omega
   have hkT:k<((kAk F N).map (·.1)).length:=by rw[List.length_map,←HNn.out];omega
   have hkV:k<((kAk F N).map (·.2)).length:=by rw[List.length_map,←HNn.out];omega
   obtain⟨bT,oT,haT⟩:=HT2.out.some (by omega);obtain⟨bV,oV,haV⟩:=HV2.out.some (by omega);subst haT haV;have c1:=HT2.out.get k hkT;have c2:=HV2.out.get k hkV
   by_cases hkm:k<m
   ·obtain⟨y,hy,hlt⟩:=HAj.out k hkm
    have e1:((kAk F N).map (·.1))[k]=y.1:=by simp only[List.getElem_map];rw[(List.getElem?_eq_some_iff.1 hy).2]
    rw[e1]at c1
    have hnle:¬(q:Int)≤y.1:=by omega
    clear hkT hkV c2 e1 hy;go_wp2
    go_roundw
    case rel=>exact⟨k+1,by omega,by go_num,rfl⟩
    case measure=>simp[intOf];omega
   ·obtain rfl:k=m:=by omega
    have e1:((kAk F N).map (·.1))[k]=x.1:=by simp only[List.getElem_map];rw[(List.getElem?_eq_some_iff.1 HAx.out).2]
    have e2:((kAk F N).map (·.2))[k]=x.2:=by simp only[List.getElem_map];rw[(List.getElem?_eq_some_iff.1 HAx.out).2]
    rw[e1]at c1;rw[e2,HK.out.2]at c2;have hle:=HK.out.1;clear hkT hkV e1 e2;go_wp2
    go_ret
    exact⟨rfl,HB.out⟩
 ·have h3:(65533:Int)=(q:Int):=by omega
  clear h2
  go_upto_region 3 with(fail)
  rw[h3];clear h3;clear HQ;go_wp2
  go_loopw [5] (AtR m w2) (fun i _=>m+1 - (intOf i).toNat)
  case atStart=>exact⟨0,Nat.zero_le _,rfl,rfl⟩
  case round=>
   obtain⟨k,hk,rfl,rfl⟩:=hrel;obtain⟨hmn,hn2⟩:=HSz.out
   have hki:(k:Int)<(n:Int):=by omega
   have hkT:k<((kAk F N).map (·.1)).length:=by rw[List.length_map,←HNn.out];omega
   have hkV:k<((kAk F N).map (·.2)).length:=by rw[List.length_map,←HNn.out];omega
   obtain⟨bT,oT,haT⟩:=HT2.out.some (by omega);obtain⟨bV,oV,haV⟩:=HV2.out.some (by omega);subst haT haV;have c1:=HT2.out.get k hkT;have c2:=HV2.out.get k hkV
   by_cases hkm:k<m
   ·obtain⟨y,hy,hlt⟩:=HAj.out k hkm
    have e1:((kAk F N).map (·.1))[k]=y.1:=by simp only[List.getElem_map];rw[(List.getElem?_eq_some_iff.1 hy).2]
    rw[e1]at c1
    have hnle:¬(q:Int)≤y.1:=by omega
    clear hkT hkV c2 e1 hy;go_wp2
    go_roundw
    case rel=>exact⟨k+1,by omega,by go_num,rfl⟩
    case measure=>simp[intOf];omega
   ·obtain rfl:k=m:=by omega
    have e1:((kAk F N).map (·.1))[k]=x.1:=by simp only[List.getElem_map];rw[(List.getElem?_eq_some_iff.1 HAx.out).2]
    have e2:((kAk F N).map (·.2))[k]=x.2:=by simp only[List.getElem_map];rw[(List.getElem?_eq_some_iff.1 HAx.out).2]
    rw[e1]at c1;rw[e2,HK.out.2]at c2;have hle:=HK.out.1;clear hkT hkV e1 e2;go_wp2
    go_ret
    exact⟨rfl,HB.out⟩
 ·go_upto_region 3 with(fail)
  rw[←h2];clear h2;clear HQ;go_wp2
  go_loopw [5] (AtR m w2) (fun i _=>m+1 - (intOf i).toNat)
  case atStart=>exact⟨0,Nat.zero_le _,rfl,rfl⟩
  case round=>
   obtain⟨k,hk,rfl,rfl⟩:=hrel;obtain⟨hmn,hn2⟩:=HSz.out
   have hki:(k:Int)<(n:Int):=by omega
   have hkT:k<((kAk F N).map (·.1)).length:=by rw[List.length_map,←HNn.out];omega
   have hkV:k<((kAk F N).map (·.2)).length:=by rw[List.length_map,←HNn.out];omega
   obtain⟨bT,oT,haT⟩:=HT2.out.some (by omega);obtain⟨bV,oV,haV⟩:=HV2.out.some (by omega);subst haT haV;have c1:=HT2.out.get k hkT;have c2:=HV2.out.get k hkV
   by_cases hkm:k<m
   ·obtain⟨y,hy,hlt⟩:=HAj.out k hkm
    have e1:((kAk F N).map (·.1))[k]=y.1:=by simp only[List.getElem_map];rw[(List.getElem?_eq_some_iff.1 hy).2]
    rw[e1]at c1
    have hnle:¬(q:Int)≤y.1:=by omega
    clear hkT hkV c2 e1 hy;go_wp2
    go_roundw
    case rel=>exact⟨k+1,by omega,by go_num,rfl⟩
    case measure=>simp[intOf];omega
   ·obtain rfl:k=m:=by omega
    have e1:((kAk F N).map (·.1))[k]=x.1:=by simp only[List.getElem_map];rw[(List.getElem?_eq_some_iff.1 HAx.out).2]
    have e2:((kAk F N).map (·.2))[k]=x.2:=by simp only[List.getElem_map];rw[(List.getElem?_eq_some_iff.1 HAx.out).2]
    rw[e1]at c1;rw[e2,HK.out.2]at c2;have hle:=HK.out.1;clear hkT hkV e1 e2;go_wp2
    go_ret
    exact⟨rfl,HB.out⟩
end Go.Proofs.YtbmphakfgoompaaGreat

namespace Go.Proofs.YtbmphakfgoompaaGreat
open Go.RowKit
section
variable {α : Type} {P : Program} {t E : TypeId} {n sz : Nat} {val : α → Value} {eqB : α → α → Bool}
def kCz (val:α→Value) (vv:Nat→Value):Nat→List (List α)→List MapEntry
 | _,[]=>[]
 | i,l :: L=>{key:=kD8 val l,val:=vv i,born:=i} :: kCz val vv (i+1) L
theorem kL9 (val:α→Value)(vv:Nat→Value)(L:List (List α))(l:List α):∀i,kCz val vv i (L++[l])=kCz val vv i L++[{key:=kD8 val l,val:=vv (i+L.length),born:=i+L.length}]:=by
 induction L with
 | nil=>intro i;rfl
 | cons x L ih=>
  intro i;rw[List.cons_append,kCz,ih,kCz,List.length_cons,List.cons_append,show i+1+L.length=i+(L.length+1) by omega]
theorem kO4 (val:α→Value)(vv:Nat→Value)(L:List (List α))(l:List α):(kCz val vv 0 (L++[l])).toArray=((kCz val vv 0 L).toArray).push {key:=kD8 val l,val:=vv L.length,born:=L.length}:=by
 simp[kL9]
theorem kGu.find_askingG (K:kGu P t E n sz val eqB)(vv:Nat→Value)(w:World)(l:List α)(hl:l.length=n):∀(L:List (List α)) (i:Nat) (j:Nat),(∀m∈L,m.length=n)→
  (Instr.findAsking t (kD8 val l) (kCz val vv i L) j).run P w= .ok ((kAq eqB l L).map (fun k=>(j+k,vv (i+k)))) w:=by
 intro L
 induction L with
 | nil=>intro i j _;simp[kCz,Instr.findAsking,kAq]
 | cons m L ih=>
  intro i j hL;have h1:=K.equal w l m hl (hL m (by simp));have h2:=ih (i+1) (j+1) (fun m hm=>hL m (by simp[hm]));rw[kCz,Instr.findAsking];simp only[Sem.run_bind,h1,Result.andThen_ok,kAq,List.findIdx?_cons]
  cases h:eqL eqB l m
  ·simp only[Bool.false_eq_true,if_false,h2,kAq]
   congr 1
   rw[Option.map_map]
   congr 1
   funext k
   simp only[Function.comp];rw[show j+1+k=j+(k+1) by omega,show i+1+k=i+(k+1) by omega]
  ·simp
theorem kGu.find_keyG (K:kGu P t E n sz val eqB)(vv:Nat→Value)(w:World)(l:List α)(hl:l.length=n)(L:List (List α))(hL:∀m∈L,m.length=n):
  (Instr.findKey t (kD8 val l) (kCz val vv 0 L)).run P w= .ok ((kAq eqB l L).map (fun k=>(k,vv k))) w:=by
 have h:=K.find_askingG vv w l hl L 0 0 hL;simp only[Nat.zero_add]at h;rw[Instr.findKey];simp only[Sem.run_bind,run_underlying K.und,Result.andThen_ok]
 cases L with
 | nil=>simp[kCz,Instr.findNow,kAq]
 | cons m L=>
  rw[show kCz val vv 0 (m :: L)={key:=kD8 val m,val:=vv 0,born:=0} :: kCz val vv 1 L from rfl,kG3];exact h
def kBt (val:α→Value) (vv:Nat→Value) (w:World) (b:Nat) (L:List (List α)):Prop:=w.heap[b]? =some (.map (kCz val vv 0 L).toArray L.length)
theorem kGu.lookupG (K:kGu P t E n sz val eqB){vv:Nat→Value}{z:Value}{tm te:TypeId}(hm:P.underlying tm=some (.map t te))(hz:∀w,(zeroValue te).run P w= .ok z w){w:World}{b:Nat}{L:List (List α)}(h:kBt val vv w b L)(l:List α)(hl:l.length=n)(hL:∀m∈L,m.length=n)(ok:Bool):
  (Instr.lookup tm (.map (some b)) (kD8 val l) ok).run P w= .ok (match kAq eqB l L with
   | some k=>if ok then .tuple #[vv k,.bool true]else vv k
   | none=>if ok then .tuple #[z,.bool false]else z) w:=by
 rw[Instr.lookup];simp only[Sem.run_bind,run_underlying hm,Result.andThen_ok,MapKept.run_getObj_map h,Sem.run_pure,K.check w _ l hl,K.find_keyG vv w l hl L hL]
 cases kAq eqB l L<;>cases ok<;>simp[hz]
theorem kGu.storeG (K:kGu P t E n sz val eqB){vv:Nat→Value}{tm te:TypeId}(hm:P.underlying tm=some (.map t te)){w:World}{b:Nat}{L:List (List α)}(h:kBt val vv w b L)(l:List α)(hl:l.length=n)(hL:∀m∈L,m.length=n)(hn:kAq eqB l L=none)(v:Value)(hv:v=vv L.length):
  (Instr.mapUpdate tm (.map (some b)) (kD8 val l) v).run P w= .ok () (kHe w b (.map (kCz val vv 0 (L++[l])).toArray (L++[l]).length)):=by
 subst hv;rw[Instr.mapUpdate];simp only[Sem.run_bind,run_underlying hm,Result.andThen_ok,MapKept.run_getObj_map h,K.check w _ l hl,K.find_keyG vv w l hl L hL,hn,Option.map_none,MapKept.run_setObj_map _ h];rw[kO4,List.length_append]
 rfl
end
end Go.Proofs.YtbmphakfgoompaaGreat

namespace Go.Proofs.YtbmphakfgoompaaGreat
open Go.RowKit
theorem kCr {P:Program}{o:Oper}{a:Act}{w:World}(ty:TypeId)(x y:Operand)(ok:Bool)(ho:o.op= .lookup ty x y ok)(xv yv v:Value)(hx:a.eval x=xv)(hy:a.eval y=yv)(hr:(Instr.lookup ty xv yv ok).run P w= .ok v w):(execOp a.eval o).run P w= .ok (.value v) w:=by
 unfold execOp;simp only[ho,hx,hy,Sem.run_bind,Sem.run_pure,Result.andThen_ok,hr]
def UnL (eqB:Int→Int→Bool) (L:List (List Int)) (n:Nat):Prop:=∀k (h:k<L.length),k<n→kAq eqB L[k] (L.take k)=none
def UnR (w:World) (L:List (List Int)) (i:Value) (wr:World):Prop:=∃k:Nat,k≤L.length∧i= .int .i64 (k:Nat)∧UnL (fun a b=>decide (a=b)) L k∧kBt val8 (fun _=> .int .i64 1) wr w.heap.size (L.take k)∧Below w.heap.size w wr
theorem unlike_walk (w:World)(a:Option Addr)(n c:Nat)(L:List (List Int))(hn:L.length=n)(hn2:n≤1048576)(hl:∀l∈L,l.length=64)(h:kAg val8 64 w a L):
  Calls Tryz.prog 79 #[.slice a n c] w fun e w'=>(e= .returned (.bool true)∧Below w.heap.size w w'∧UnL (fun a b=>decide (a=b)) L n)∨(e= .returned (.bool false)∧Below w.heap.size w w'∧¬UnL (fun a b=>decide (a=b)) L n):=by
 have HN:=jH hn;clear hn
 have HLl:=jH hl;clear hl
 have HA:=jH h;clear h
 go_enter Tryz.func79,Tryz.ntmps79
 go_upto_region 1 with(fail)
 refine wp_region_list ?_;refine kAc (v:= .map (some w.heap.size)) (w':=w.alloc (.map #[] 0)) rfl (by kernel_rfl) ?_;have hA0:=jN w (.map #[] 0);have hB0:Below w.heap.size w (w.alloc (.map #[] 0)):=(Below.refl _ _).alloc jR _;have hz0:=World.size_alloc w (.map #[] 0)
 obtain⟨b0,hb0⟩:∃b0,b0=w.heap.size:=⟨_,rfl⟩
 rw[←hb0];have HB0:=jH hB0;have HA0:Hid (kBt val8 (fun _=> .int .i64 1) (w.alloc (.map #[] 0)) w.heap.size (L.take 0)):=jH hA0;have HBz:=jH hb0;clear hA0 hB0 hz0 hb0;generalize w.alloc (.map #[] 0)=w1 at*;go_wp2
 go_loopw [9] (UnR w L) (fun i _=>n - (intOf i).toNat)
 case atStart=>exact⟨0,Nat.zero_le _,rfl,fun k h hk=>by omega,HA0.out,HB0.out⟩
 case round=>
  obtain⟨k,hk,rfl,hun,hmap,hbel⟩:=hrel
  have HUn:=jH hun;clear hun
  have HMp:=jH hmap;clear hmap
  have HBe:=jH hbel;clear hbel
  by_cases hkn:k<n
  ·have hki:(k:Int)<(n:Int):=by omega
   have hkl:k<L.length:=by rw[HN.out];exact hkn
   obtain⟨ba,oa,ha⟩:=HA.out.some (by omega);subst ha;have HR:Hid (wr.rangeAt ba (oa+k*64) (kAh val8 L[k])):=jH (kAx (HA.out.get k hkl) HBe.out jR);have hl64:(L[k]).length=64:=HLl.out _ (List.getElem_mem hkl);have HTk:Hid (L.take (k+1)=L.take k++[L[k]]):=jH (List.take_succ_eq_append_getElem hkl)
   have HUs:Hid (kAq (fun a b=>decide (a=b)) L[k] (L.take k)=none→UnL (fun a b=>decide (a=b)) L (k+1)):=jH (fun h j hj hj2=>by
    by_cases e:j=k
    ·subst e;exact h
    ·exact HUn.out j hj (by omega))
   have HUf:Hid (¬kAq (fun a b=>decide (a=b)) L[k] (L.take k)=none→¬UnL (fun a b=>decide (a=b)) L n):=jH (fun h h2=>h (h2 k hkl hkn));generalize L[k]=l at*
   have hbs:(kAh val8 l).length=64:=by rw[kAf (sz:=1) (fun _=>rfl),hl64]
   have hlt:(L.take k).length=k:=by rw[List.length_take];omega
   have HLt:Hid (∀m∈L.take k,m.length=64):=jH (fun m hm=>HLl.out m (List.mem_of_mem_take hm))
   go_upto_region 4 with(fail)
   refine wp_region_list ?_;refine kAc (v:= .pointer (some ⟨ba,oa+k*64,none⟩)) (w':=wr) rfl (by go_simp) ?_;refine wpList_load_mid rfl 142 (.tmp 11) rfl ba (oa+k*64) rfl (kAh val8 l) (.array 64 22) HR.out Tryz.underlying142 rfl (by rw[hbs];kernel_rfl) ?_;refine kAc (v:= .pointer (some ⟨wr.heap.size,0,none⟩)) (w':=wr.alloc (.cells (kAh val8 (List.replicate 64 (0:Int))).toArray 142)) rfl (by kernel_rfl) ?_
   obtain⟨b7,hb7⟩:∃b7,b7=wr.heap.size:=⟨_,rfl⟩
   have hA1:=jN wr (.cells (kAh val8 (List.replicate 64 (0:Int))).toArray 142);have hB1:Below wr.heap.size wr (wr.alloc (.cells (kAh val8 (List.replicate 64 (0:Int))).toArray 142)):=(Below.refl _ _).alloc jR _;rw[←hb7]at hA1 hB1 ⊢;generalize wr.alloc (.cells (kAh val8 (List.replicate 64 (0:Int))).toArray 142)=v1 at*;refine wpList_store_row rfl 142 (.tmp 5) (.tmp 12) rfl b7 (kAh val8 l).toArray rfl rfl 142 _ hA1 (by rw[List.size_toArray,hbs];kernel_rfl) (by rw[List.size_toArray,List.size_toArray,hbs,kAf (sz:=1) (fun _=>rfl)];rfl) (all_oneCell_toArray (fun u hu=>kCk l u (by simpa using hu))) ?_;have hA2:=setRow_heap v1 b7 _ (kAh val8 l).toArray _ _ hA1
   have hB2:Below b7 wr (v1.setRow b7 (kAh val8 l).toArray):=⟨hB1.os,hB1.tape,hB1.output,by rw[setRow_size];exact hB1.size,fun k hk=>by rw[setRow_other v1 b7 k _ (by omega)];exact hB1.block k hk⟩
   generalize v1.setRow b7 (kAh val8 l).toArray=v2 at*
   have HR2:Hid (v2.rangeAt b7 0 (kAh val8 l)):=jH (by
    have:=World.rangeAt_of_block hA2 0 (kAh val8 l).length
    simpa using this)
   have hmb:w.heap.size<wr.heap.size:=(jL HMp.out)
   have HMp2:Hid (kBt val8 (fun _=> .int .i64 1) v2 w.heap.size (L.take k)):=jH ((hB2.block _ (by omega)).trans HMp.out);have HB2:Hid (Below w.heap.size w v2):=jH (HBe.out.trans (hB2.mono (by omega)));have HB7:=jH hb7;clear hA1 hB1 hA2 hB2 hb7 v1 HR HMp HBe
   obtain⟨u,hu⟩:∃u:Int,u=(if kAq (fun a b=>decide (a=b)) l (L.take k)=none then 0 else 1):=⟨_,rfl⟩
   have HLk:Hid ((Instr.lookup 196 (.map (some w.heap.size)) (kD8 val8 l) false).run Tryz.prog v2= .ok (.int .i64 u) v2):=jH (by
    rw[Tryz.k8.lookupG (te:=3) Tryz.underlying196 (z:= .int .i64 0) (fun w=>by kernel_rfl) HMp2.out l hl64 HLt.out false,hu]
    cases kAq (fun a b=>decide (a=b)) l (L.take k)<;>rfl)
   have hbz:w.heap.size=b0:=HBz.out.symm;rw[hbz]at HLk
   have HU:=jH hu;clear hu
   go_upto_region 5 with(fail)
   refine wp_region_list ?_;refine kAc (v:= .map (some b0)) (w':=v2) rfl (by rfl) ?_;refine wpList_load_mid rfl 142 (.tmp 5) rfl b7 0 (by first | rfl | (rw[HB7.out];rfl)) (kAh val8 l) (.array 64 22) HR2.out Tryz.underlying142 rfl (by rw[hbs];kernel_rfl) ?_;refine kAc (v:= .int .i64 u) (w':=v2) rfl (kCr 196 (.tmp 13) (.tmp 14) false rfl (.map (some b0)) (kD8 val8 l) _ rfl rfl HLk.out) ?_
   by_cases hf:kAq (fun a b=>decide (a=b)) l (L.take k)=none
   ·have hu0:u=0:=by rw[HU.out,if_pos hf]
    have HF:=jH hf;clear hf
    have HU2:=jH (HUs.out HF.out);have HSt:=jH (Tryz.k8.storeG Tryz.underlying196 (te:=3) HMp2.out l hl64 HLt.out HF.out (.int .i64 1) rfl)
    have HMp3:Hid (kBt val8 (fun _=> .int .i64 1) (kHe v2 w.heap.size (.map (kCz val8 (fun _=> .int .i64 1) 0 (L.take k++[l])).toArray (L.take k++[l]).length)) w.heap.size (L.take (k+1))):=jH (by
     rw[HTk.out]
     exact kEv v2 _ (jL HMp2.out))
    have HB3:Hid (Below w.heap.size w (kHe v2 w.heap.size (.map (kCz val8 (fun _=> .int .i64 1) 0 (L.take k++[l])).toArray (L.take k++[l]).length))):=jH (HB2.out.trans (kHt v2 _ _ jR));rw[hbz]at HSt HMp3 HB3;generalize (kHe v2 b0 (.map (kCz val8 (fun _=> .int .i64 1) 0 (L.take k++[l])).toArray (L.take k++[l]).length))=v3 at*;subst hu0;clear hbz
    go_upto_region 7 with(fail)
    refine wp_region_list ?_;refine kAc (v:= .map (some b0)) (w':=v2) rfl (by rfl) ?_;refine wpList_load_mid rfl 142 (.tmp 5) rfl b7 0 (by first | rfl | (rw[HB7.out];rfl)) (kAh val8 l) (.array 64 22) HR2.out Tryz.underlying142 rfl (by rw[hbs];kernel_rfl) ?_;refine kAz rfl 196 (.tmp 17) (.tmp 18) (.const (.int .i64 1)) rfl (.map (some b0)) (kD8 val8 l) (.int .i64 1) rfl rfl rfl HSt.out ?_;go_wp2
    go_roundw
    case rel=>exact⟨k+1,by omega,by go_num,HU2.out,by rw[HBz.out]at HMp3;exact HMp3.out,by rw[HBz.out]at HB3;exact HB3.out⟩
    case measure=>simp[intOf];omega
   ·have hu1:u=1:=by rw[HU.out,if_neg hf]
    have HF:=jH (HUf.out hf);clear hf
    subst hu1;go_wp2
    go_ret
    exact .inr ⟨rfl,HB2.out,HF.out⟩
  ·obtain rfl:k=n:=by have:=HN.out;omega
   have hki:¬(k:Int)<(k:Int):=by omega
   go_wp2
   go_ret
   exact .inl ⟨rfl,HBe.out,HUn.out⟩
end Go.Proofs.YtbmphakfgoompaaGreat

namespace Go.Proofs.YtbmphakfgoompaaGreat
open Go.RowKit
attribute [local go_sem] Oper.semAt_some
theorem kP4 {F:Nat→Int}{N k i:Nat}(hk:64*k+63<N)(h:kKw (kAk F N) i (64*k))(hi:i<(kAk F N).length)(h2:((64*k:Nat):Int)+63≤((kAk F N)[i]).1):blkF F k=List.replicate 64 ((kAk F N)[i]).2:=by
 apply List.ext_getElem
 ·rw[kAw];simp
 ·intro j h3 h4;rw[kAw]at h3;have:=kLl (F:=F) (N:=N) (r:=64*k+j) (by omega) (h.mono (by omega)) hi (by omega);rw[List.getElem_replicate,this];simp[blkF]
theorem kTv {β:Type} [DecidableEq β] {L:List (List β)}(hL:L.Nodup){b:List β}(hl:∀m∈L,m.length=b.length){q:Nat}(hq:L[q]? =some b):kAq (fun x y=>decide (x=y)) b L=some q∧kBg (fun x y=>decide (x=y)) L b=(L,q):=by
 have:kAq (fun x y=>decide (x=y)) b L=some q:=by
  cases h:kAq (fun x y=>decide (x=y)) b L with
  | none=>exact absurd (List.mem_iff_getElem?.2 ⟨q,hq⟩) (kDw hl h)
  | some j=>
   have:=kDx hl h;rw[kQw hL this hq]
 exact⟨this,by unfold kBg;rw[this]⟩
def noF (F:Nat→Int) (k:Nat):Nat:=(kBg eq8 (mkF F k).lows (blkF F k)).2
def kF6 (F:Nat→Int) (t:Nat):List Nat:=(List.range 64).map (fun j=>noF F (64*t+j))
theorem kDc (F:Nat→Int)(t:Nat):(kF6 F t).length=64:=by simp[kF6]
theorem kHa (F:Nat→Int)(k:Nat):(mkF F (k+1)).lows=(kBg eq8 (mkF F k).lows (blkF F k)).1:=by
 rw[mkF]
 by_cases h:((mkF F k).blocks+1) % 64=0
 ·rw[kBn h]
 ·rw[kBo h]
theorem kTd (F:Nat→Int)(t:Nat):∀j,j≤63→(mkF F (64*t+j)).mids=(mkF F (64*t)).mids∧(mkF F (64*t+j)).top=(mkF F (64*t)).top∧∀i,i<j→(mkF F (64*t+j)).cur[i]? =some (noF F (64*t+i))
 | 0,_=>⟨rfl,rfl,fun i hi=>by omega⟩
 | j+1,hj=>by
  obtain⟨h1,h2,h3⟩:=kTd F t j (by omega);obtain⟨hw,hb, -, -⟩:=kCj F (64*t+j)
  have hx:¬((mkF F (64*t+j)).blocks+1) % 64=0:=by rw[hb];omega
  have e:mkF F (64*t+(j+1))=kE2 eq8 (mkF F (64*t+j)) (blkF F (64*t+j)):=rfl;rw[e,kBo hx];refine⟨h1,h2,fun i hi=> ?_⟩;show((mkF F (64*t+j)).cur.set ((mkF F (64*t+j)).blocks % 64) _)[i]? =_;rw[hb,show(64*t+j) % 64=j by omega]
  by_cases e:i=j
  ·subst e;rw[List.getElem?_set_self (by rw[hw.cur];omega)]
   rfl
  ·rw[List.getElem?_set_ne (by omega)];exact h3 i (by omega)
theorem kQv (F:Nat→Int)(t:Nat):(mkF F (64*(t+1))).mids=(kBg kDs (mkF F (64*t)).mids (kF6 F t)).1∧(mkF F (64*(t+1))).top=(mkF F (64*t)).top.set t (kBg kDs (mkF F (64*t)).mids (kF6 F t)).2:=by
 obtain⟨h1,h2,h3⟩:=kTd F t 63 jR;obtain⟨hw,hb, -, -⟩:=kCj F (64*t+63)
 have hx:((mkF F (64*t+63)).blocks+1) % 64=0:=by rw[hb];omega
 have e:mkF F (64*(t+1))=kE2 eq8 (mkF F (64*t+63)) (blkF F (64*t+63)):=by
  rw[show 64*(t+1)=64*t+63+1 by omega];rfl
 have hr:(mkF F (64*t+63)).cur.set ((mkF F (64*t+63)).blocks % 64) (kBg eq8 (mkF F (64*t+63)).lows (blkF F (64*t+63))).2=kF6 F t:=by
  apply List.ext_getElem?
  intro i;rw[hb,show(64*t+63) % 64=63 by omega]
  by_cases h:i<64
  ·have hr:(kF6 F t)[i]? =some (noF F (64*t+i)):=by simp[kF6,h]
   rw[hr]
   by_cases e:i=63
   ·subst e;rw[List.getElem?_set_self (by rw[hw.cur];omega)];rfl
   ·rw[List.getElem?_set_ne (by omega)];exact h3 i (by omega)
  ·rw[List.getElem?_eq_none (by simp[hw.cur];omega),List.getElem?_eq_none (by rw[kDc];omega)]
 rw[e,kBn hx,hr,h1,h2,hb,show(64*t+63) / 64=t by omega];exact⟨rfl,rfl⟩
theorem kSj (F:Nat→Int)(t:Nat)(ht:t<272):((mkF F (64*(t+1))).top.take (t+1))=(mkF F (64*t)).top.take t++[(kBg kDs (mkF F (64*t)).mids (kF6 F t)).2]:=by
 obtain⟨hw, -⟩:=kCj F (64*t);rw[(kQv F t).2,List.take_add_one,List.take_set_of_le jR,List.getElem?_set_self (by rw[hw.top];omega)]
 rfl
theorem kMl (a b:List Nat):kA2 (a++b)=kA2 a++kA2 b:=by simp[kA2]
def vI (x:Int):Value:= .int .i64 x
def vN (n:Nat):Value:= .int .i64 (n:Int)
theorem Tryz.kBI:kGu Tryz.prog 186 3 64 1 vI (fun a b=>decide (a=b)):=kJc .i64 (fun x:Int=>x) (fun _ _ h=>h) Tryz.underlying186 Tryz.underlying3 (by kernel_rfl) (by kernel_rfl)
theorem Tryz.kBN:kGu Tryz.prog 186 3 64 1 vN (fun a b=>decide (a=b)):=kJc .i64 (fun x:Nat=>(x:Int)) (fun _ _ h=>by omega) Tryz.underlying186 Tryz.underlying3 (by kernel_rfl) (by kernel_rfl)
theorem kNb (b:List Int):kAh vI b=ivs .i64 b:=by
 induction b with
 | nil=>rfl
 | cons a l ih=>rw[kAh,List.flatMap_cons,←kAh,ih];rfl
theorem kNc (b:List Nat):kAh vN b=ivs .i64 (kA2 b):=by
 induction b with
 | nil=>rfl
 | cons a l ih=>rw[kAh,List.flatMap_cons,←kAh,ih];rfl
theorem kMa {α:Type}(val:α→Value)(vv:Nat→Value)(L:List (List α)):∀i,(kCz val vv i L).length=L.length:=by
 induction L with
 | nil=>intro i;rfl
 | cons x L ih=>intro i;simp[kCz,ih]
theorem kJk {α:Type}{val:α→Value}{eqB:α→α→Bool}(K:kGu Tryz.prog 186 3 64 1 val eqB)(w:World)(bm:Nat)(L:List (List α))(l:List α)(hl:l.length=64)(hL:∀m∈L,m.length=64)(hn:L.length≤1048576)(h:kBt val vN w bm L):
  Calls Tryz.prog 110 #[.map (some bm),.agg (kAh val l).toArray] w fun e w'=>e= .returned (.tuple #[.int .i64 ((kBg eqB L l).2:Nat),.bool (kAq eqB l L).isSome])∧w.grownBy w' (some bm)∧kBt val vN w' bm (kBg eqB L l).1:=by
 have hbs:(kAh val l).length=64:=by rw[kAf K.wide,hl]
 have HL:=jH hL;clear hL
 have HM:=jH h;clear h
 have HK:=jH K
 go_enter Tryz.func110,Tryz.ntmps110
 go_upto_region 1 with(fail)
 obtain⟨w1,hw1⟩:∃w1,w1=w.alloc (.cells (kAh val l).toArray 186):=⟨_,rfl⟩
 have HB1:Hid (Below w.heap.size w w1):=by rw[hw1];exact jH ((Below.refl _ _).alloc jR _)
 have HR1:Hid (w1.rangeAt w.heap.size 0 (kAh val l)):=by
  rw[hw1];have:=World.rangeAt_of_block (jN w (.cells (kAh val l).toArray 186)) 0 (kAh val l).length
  simpa using jH this
 rw[←hw1];clear hw1
 have hbm:bm<w.heap.size:=(jL HM.out)
 have HM1:Hid (kBt val vN w1 bm L):=jH ((HB1.out.block bm hbm).trans HM.out)
 obtain⟨bb,hbb⟩:∃bb,bb=w.heap.size:=⟨_,rfl⟩
 rw[←hbb]at HR1 ⊢
 have HBb:=jH hbb;clear hbb
 have HLk:=jH (K.lookupG (vv:=vN) (z:= .int .i64 0) (te:=3) Tryz.underlying184 (fun w=>by kernel_rfl) HM1.out l hl HL.out true);refine wp_region_list ?_;refine kAc (v:= .map (some bm)) (w':=w1) rfl (by rfl) ?_;refine wpList_load_mid rfl 186 (.tmp 3) rfl bb 0 rfl (kAh val l) (.array 64 3) HR1.out Tryz.underlying186 rfl (by rw[hbs];kernel_rfl) ?_
 cases hf:kAq eqB l L with
 | some k=>
  have hnum:kBg eqB L l=(L,k):=by unfold kBg;rw[hf]
  rw[hf]at HLk;have HLk2:Hid ((Instr.lookup 184 (.map (some bm)) (kD8 val l) true).run Tryz.prog w1= .ok (.tuple #[.int .i64 (k:Nat),.bool true]) w1):=jH HLk.out;refine kAc (v:= .tuple #[.int .i64 (k:Nat),.bool true]) (w':=w1) rfl (kCr 184 (.tmp 9) (.tmp 10) true rfl (.map (some bm)) (kD8 val l) _ rfl rfl HLk2.out) ?_
  have HN:=jH (And.intro hnum hf);clear hnum hf
  go_wp2
  go_ret2
  rw[HN.out.1,HN.out.2];exact⟨rfl,⟨HB1.out.os,HB1.out.tape,HB1.out.output,HB1.out.size,fun k hk _=>HB1.out.block k hk⟩,HM1.out⟩
 | none=>
  have hnum:kBg eqB L l=(L++[l],L.length):=by unfold kBg;rw[hf]
  rw[hf]at HLk;have HLk2:Hid ((Instr.lookup 184 (.map (some bm)) (kD8 val l) true).run Tryz.prog w1= .ok (.tuple #[.int .i64 0,.bool false]) w1):=jH HLk.out;refine kAc (v:= .tuple #[.int .i64 0,.bool false]) (w':=w1) rfl (kCr 184 (.tmp 9) (.tmp 10) true rfl (.map (some bm)) (kD8 val l) _ rfl rfl HLk2.out) ?_;have HSt:=jH (K.storeG Tryz.underlying184 (te:=3) HM1.out l hl HL.out hf (.int .i64 (L.length:Nat)) rfl);have HM3:Hid (kBt val vN (kHe w1 bm (.map (kCz val vN 0 (L++[l])).toArray (L++[l]).length)) bm (L++[l])):=jH (kEv w1 _ (by have:=HB1.out.size;omega));have HG3:Hid (w.grownBy (kHe w1 bm (.map (kCz val vN 0 (L++[l])).toArray (L++[l]).length)) (some bm)):=jH ⟨HB1.out.os,HB1.out.tape,HB1.out.output,by simpa [kHe]using HB1.out.size,fun k hk hne=>by rw[kB8 w1 _ (fun e=>hne (by rw[e]))];exact HB1.out.block k hk⟩;generalize (kHe w1 bm (.map (kCz val vN 0 (L++[l])).toArray (L++[l]).length))=w3 at*
  have hlen:(Builtin.len_ #[184] 3 #[.map (some bm)]).run Tryz.prog w1= .ok (.int .i64 (L.length:Nat)) w1:=by
   have:=run_len_map (P:= Tryz.prog) w1 184 3 bm _ _ (by kernel_rfl) HM1.out;rw[List.size_toArray,kMa]at this;exact this
  have HN:=jH (And.intro hnum hf);clear hnum hf
  go_upto_region 4 with(fail)
  refine wp_region_list ?_;refine kAc (v:= .map (some bm)) (w':=w1) rfl (by rfl) ?_;refine wpList_load_mid rfl 186 (.tmp 3) rfl bb 0 rfl (kAh val l) (.array 64 3) HR1.out Tryz.underlying186 rfl (by rw[hbs];kernel_rfl) ?_;refine kAc (v:= .int .i64 (L.length:Nat)) (w':=w1) rfl (by rfl) ?_;refine kAz rfl 184 (.tmp 18) (.tmp 19) (.tmp 20) rfl (.map (some bm)) (kD8 val l) (.int .i64 (L.length:Nat)) rfl rfl rfl HSt.out ?_;clear hlen;go_wp2
  go_ret2
  rw[HN.out.1,HN.out.2];exact⟨rfl,HG3.out,HM3.out⟩
end Go.Proofs.YtbmphakfgoompaaGreat

namespace Go.Proofs.YtbmphakfgoompaaGreat
open Go.RowKit
structure kB9 (c:Nat) (lm:List (List Int)) (mm:List (List Nat)) (tops:List Nat) (mids:List (List Nat)) (lows:List (List Int)) (aT:Option Addr) (cT:Nat) (aM:Option Addr) (cM:Nat) (aL:Option Addr) (cL:Nat) (W:World):Prop where
 s:W.heap[c]? =some (.cells #[.slice aT tops.length cT,.slice aM (64*mids.length) cM,.slice aL (64*lows.length) cL] 133 (0,0))
 rt:Own (c+3) 3 W aT tops.length cT (ivs .i64 (kA2 tops))
 rm:Own (c+3) 3 W aM (64*mids.length) cM (ivs .i64 (kA2 mids.flatten))
 rl:Own (c+3) 3 W aL (64*lows.length) cL (ivs .i64 lows.flatten)
 tm:∀k,ob aT=some k→ob aM≠some k
 tl:∀k,ob aT=some k→ob aL≠some k
 ml:∀k,ob aM=some k→ob aL≠some k
 lo:kBt vI vN W (c+1) lm
 mi:kBt vN vN W (c+2) mm
section
variable {c : Nat} {lm lm' : List (List Int)} {mm mm' : List (List Nat)} {tops : List Nat} {mids : List (List Nat)} {lows : List (List Int)} {aT : Option Addr} {cT : Nat} {aM : Option Addr} {cM : Nat} {aL : Option Addr} {cL : Nat} {W W' : World}
theorem kB9.bT (h:kB9 c lm mm tops mids lows aT cT aM cM aL cL W):∀k,ob aT=some k→c+3≤k∧k<W.heap.size:=fun k e=>World.ownsRow.lt h.rt k (by rw[kA8];exact e)
theorem kB9.bM (h:kB9 c lm mm tops mids lows aT cT aM cM aL cL W):∀k,ob aM=some k→c+3≤k∧k<W.heap.size:=fun k e=>World.ownsRow.lt h.rm k (by rw[kA8];exact e)
theorem kB9.bL (h:kB9 c lm mm tops mids lows aT cT aM cM aL cL W):∀k,ob aL=some k→c+3≤k∧k<W.heap.size:=fun k e=>World.ownsRow.lt h.rl k (by rw[kA8];exact e)
theorem kB9.sz (h:kB9 c lm mm tops mids lows aT cT aM cM aL cL W):c+3≤W.heap.size:=(jL h.mi)
theorem kB9.off (h:kB9 c lm mm tops mids lows aT cT aM cM aL cL W){T:Nat→Prop}(ho:Off T W W')(ht:∀k,T k→c+3≤k∧ob aT≠some k∧ob aM≠some k∧ob aL≠some k):kB9 c lm mm tops mids lows aT cT aM cM aL cL W':=
 ⟨ho.cellsBlock h.s (fun e=>by have:=(ht _ e).1;omega),
 h.rt.off ho (fun k e e2=>(ht k e2).2.1 (by rw[←kA8 aT tops.length cT];exact e)),
 h.rm.off ho (fun k e e2=>(ht k e2).2.2.1 (by rw[←kA8 aM (64*mids.length) cM];exact e)),
 h.rl.off ho (fun k e e2=>(ht k e2).2.2.2 (by rw[←kA8 aL (64*lows.length) cL];exact e)),
 h.tm,h.tl,h.ml,ho.cellsBlock h.lo (fun e=>by have:=(ht _ e).1;omega),ho.cellsBlock h.mi (fun e=>by have:=(ht _ e).1;omega)⟩
theorem kB9.below (h:kB9 c lm mm tops mids lows aT cT aM cM aL cL W)(hb:Below W.heap.size W W'):kB9 c lm mm tops mids lows aT cT aM cM aL cL W':=
 h.off (T:=fun _=>False) (.of_below hb) (fun _ e=>e.elim)
theorem kB9.map_lo (h:kB9 c lm mm tops mids lows aT cT aM cM aL cL W)(hg:W.grownBy W' (some (c+1)))(hm:kBt vI vN W' (c+1) lm'):kB9 c lm' mm tops mids lows aT cT aM cM aL cL W':=by
 have ho:Off (fun k=>k=c+1) W W':= .of_grown hg (fun k e=>by cases e;rfl)
 exact⟨ho.cellsBlock h.s (by omega),h.rt.off ho (fun k e e2=>by have:=h.bT k (by rw[←kA8 aT tops.length cT];exact e);omega),h.rm.off ho (fun k e e2=>by have:=h.bM k (by rw[←kA8 aM (64*mids.length) cM];exact e);omega),
  h.rl.off ho (fun k e e2=>by have:=h.bL k (by rw[←kA8 aL (64*lows.length) cL];exact e);omega),h.tm,h.tl,h.ml,hm,ho.cellsBlock h.mi (by omega)⟩
theorem kB9.map_mi (h:kB9 c lm mm tops mids lows aT cT aM cM aL cL W)(hg:W.grownBy W' (some (c+2)))(hm:kBt vN vN W' (c+2) mm'):kB9 c lm mm' tops mids lows aT cT aM cM aL cL W':=by
 have ho:Off (fun k=>k=c+2) W W':= .of_grown hg (fun k e=>by cases e;rfl)
 exact⟨ho.cellsBlock h.s (by omega),h.rt.off ho (fun k e e2=>by have:=h.bT k (by rw[←kA8 aT tops.length cT];exact e);omega),h.rm.off ho (fun k e e2=>by have:=h.bM k (by rw[←kA8 aM (64*mids.length) cM];exact e);omega),
  h.rl.off ho (fun k e e2=>by have:=h.bL k (by rw[←kA8 aL (64*lows.length) cL];exact e);omega),h.tm,h.tl,h.ml,ho.cellsBlock h.lo (by omega),hm⟩
theorem kOd {w:World}{a a':Option Addr}{n c n' c':Nat}(hn:kBe w (.slice a n c) (.slice a' n' c')):ob a'=ob a∨∃g,ob a'=some g∧w.heap.size≤g:=by
 unfold kBe at hn;rw[kA8,kA8]at hn;exact hn
theorem kB9.pushL (h:kB9 c lm mm tops mids lows aT cT aM cM aL cL W)(l:List Int){aL':Option Addr}{cL':Nat}(hl:l.length=64)(ho:Own (c+3) 3 W' aL' (64*lows.length+64) cL' (ivs .i64 lows.flatten++ivs .i64 l))(hg:W.grownBy W' (Value.slice aL (64*lows.length) cL).ownBlock)
  (hn:kBe W (.slice aL (64*lows.length) cL) (.slice aL' (64*lows.length+64) cL')):kB9 c lm mm tops mids (lows++[l]) aT cT aM cM aL' cL' (W'.setCell ⟨c,2,none⟩ (.slice aL' (64*lows.length+64) cL')):=by
 rw[kA8]at hg;have hn:=kOd hn;have hsz:=h.sz;have o1:Off (fun k=>ob aL=some k) W W':= .of_grown hg (fun k e=>e);have o2:Off (fun k=>k=c) W' (W'.setCell ⟨c,2,none⟩ (.slice aL' (64*lows.length+64) cL')):= .of_grown (kAd W' c 2 _) (fun k e=>by cases e;rfl);have hT:Own (c+3) 3 W' aT tops.length cT (ivs .i64 (kA2 tops)):=h.rt.off o1 (fun k e e2=>h.tl k (by rw[←kA8 aT tops.length cT];exact e) e2);have hM:Own (c+3) 3 W' aM (64*mids.length) cM (ivs .i64 (kA2 mids.flatten)):=h.rm.off o1 (fun k e e2=>h.ml k (by rw[←kA8 aM (64*mids.length) cM];exact e) e2)
 refine⟨?_,hT.off o2 (fun k e e2=>by have:=h.bT k (by rw[←kA8 aT tops.length cT];exact e);omega),hM.off o2 (fun k e e2=>by have:=h.bM k (by rw[←kA8 aM (64*mids.length) cM];exact e);omega),?_,h.tm,?_,?_,?_,?_⟩
 ·have hs:=o1.cellsBlock h.s (fun e=>by have:=h.bL _ e;omega);rw[jP W' c 2 _ _ _ hs];simp[List.length_append,Nat.mul_add]
 ·have:=ho.off o2 (fun k e e2=>by have:=World.ownsRow.lt ho k e;omega)
  have e1:64*(lows++[l]).length=64*lows.length+64:=by simp;omega
  have e2:ivs .i64 (lows++[l]).flatten=ivs .i64 lows.flatten++ivs .i64 l:=by rw[List.flatten_append,kBi];simp
  rw[e1,e2];exact this
 ·intro k e e2
  rcases hn with hn | ⟨g,hn,hg2⟩
  ·rw[hn]at e2;exact h.tl k e e2
  ·rw[hn]at e2;cases e2;have:=h.bT k e;omega
 ·intro k e e2
  rcases hn with hn | ⟨g,hn,hg2⟩
  ·rw[hn]at e2;exact h.ml k e e2
  ·rw[hn]at e2;cases e2;have:=h.bM k e;omega
 ·exact o2.cellsBlock (o1.cellsBlock h.lo (fun e=>by have:=h.bL _ e;omega)) (by omega)
 ·exact o2.cellsBlock (o1.cellsBlock h.mi (fun e=>by have:=h.bL _ e;omega)) (by omega)
theorem kB9.pushM (h:kB9 c lm mm tops mids lows aT cT aM cM aL cL W)(l:List Nat){aM':Option Addr}{cM':Nat}(hl:l.length=64)(ho:Own (c+3) 3 W' aM' (64*mids.length+64) cM' (ivs .i64 (kA2 mids.flatten)++ivs .i64 (kA2 l)))(hg:W.grownBy W' (Value.slice aM (64*mids.length) cM).ownBlock)
  (hn:kBe W (.slice aM (64*mids.length) cM) (.slice aM' (64*mids.length+64) cM')):kB9 c lm mm tops (mids++[l]) lows aT cT aM' cM' aL cL (W'.setCell ⟨c,1,none⟩ (.slice aM' (64*mids.length+64) cM')):=by
 rw[kA8]at hg;have hn:=kOd hn;have hsz:=h.sz;have o1:Off (fun k=>ob aM=some k) W W':= .of_grown hg (fun k e=>e);have o2:Off (fun k=>k=c) W' (W'.setCell ⟨c,1,none⟩ (.slice aM' (64*mids.length+64) cM')):= .of_grown (kAd W' c 1 _) (fun k e=>by cases e;rfl);have hT:Own (c+3) 3 W' aT tops.length cT (ivs .i64 (kA2 tops)):=h.rt.off o1 (fun k e e2=>h.tm k (by rw[←kA8 aT tops.length cT];exact e) e2);have hL:Own (c+3) 3 W' aL (64*lows.length) cL (ivs .i64 lows.flatten):=h.rl.off o1 (fun k e e2=>h.ml k e2 (by rw[←kA8 aL (64*lows.length) cL];exact e))
 refine⟨?_,hT.off o2 (fun k e e2=>by have:=h.bT k (by rw[←kA8 aT tops.length cT];exact e);omega),?_,hL.off o2 (fun k e e2=>by have:=h.bL k (by rw[←kA8 aL (64*lows.length) cL];exact e);omega),?_,h.tl,?_,?_,?_⟩
 ·have hs:=o1.cellsBlock h.s (fun e=>by have:=h.bM _ e;omega);rw[jP W' c 1 _ _ _ hs];simp[List.length_append,Nat.mul_add]
 ·have:=ho.off o2 (fun k e e2=>by have:=World.ownsRow.lt ho k e;omega)
  have e1:64*(mids++[l]).length=64*mids.length+64:=by simp;omega
  have e2:ivs .i64 (kA2 (mids++[l]).flatten)=ivs .i64 (kA2 mids.flatten)++ivs .i64 (kA2 l):=by rw[List.flatten_append,kMl,kBi];simp
  rw[e1,e2];exact this
 ·intro k e e2
  rcases hn with hn | ⟨g,hn,hg2⟩
  ·rw[hn]at e2;exact h.tm k e e2
  ·rw[hn]at e2;cases e2;have:=h.bT k e;omega
 ·intro k e e2
  rcases hn with hn | ⟨g,hn,hg2⟩
  ·rw[hn]at e;exact h.ml k e e2
  ·rw[hn]at e;cases e;have:=h.bL k e2;omega
 ·exact o2.cellsBlock (o1.cellsBlock h.lo (fun e=>by have:=h.bM _ e;omega)) (by omega)
 ·exact o2.cellsBlock (o1.cellsBlock h.mi (fun e=>by have:=h.bM _ e;omega)) (by omega)
theorem kB9.pushT (h:kB9 c lm mm tops mids lows aT cT aM cM aL cL W)(x:Nat){aT':Option Addr}{cT':Nat}(ho:Own (c+3) 3 W' aT' (tops.length+1) cT' (ivs .i64 (kA2 tops)++[.int .i64 (x:Nat)]))(hg:W.grownBy W' (Value.slice aT tops.length cT).ownBlock)
  (hn:kBe W (.slice aT tops.length cT) (.slice aT' (tops.length+1) cT')):kB9 c lm mm (tops++[x]) mids lows aT' cT' aM cM aL cL (W'.setCell ⟨c,0,none⟩ (.slice aT' (tops.length+1) cT')):=by
 rw[kA8]at hg;have hn:=kOd hn;have hsz:=h.sz;have o1:Off (fun k=>ob aT=some k) W W':= .of_grown hg (fun k e=>e);have o2:Off (fun k=>k=c) W' (W'.setCell ⟨c,0,none⟩ (.slice aT' (tops.length+1) cT')):= .of_grown (kAd W' c 0 _) (fun k e=>by cases e;rfl);have hM:Own (c+3) 3 W' aM (64*mids.length) cM (ivs .i64 (kA2 mids.flatten)):=h.rm.off o1 (fun k e e2=>h.tm k e2 (by rw[←kA8 aM (64*mids.length) cM];exact e));have hL:Own (c+3) 3 W' aL (64*lows.length) cL (ivs .i64 lows.flatten):=h.rl.off o1 (fun k e e2=>h.tl k e2 (by rw[←kA8 aL (64*lows.length) cL];exact e))
 refine⟨?_,?_,hM.off o2 (fun k e e2=>by have:=h.bM k (by rw[←kA8 aM (64*mids.length) cM];exact e);omega),hL.off o2 (fun k e e2=>by have:=h.bL k (by rw[←kA8 aL (64*lows.length) cL];exact e);omega),?_,?_,h.ml,?_,?_⟩
 ·have hs:=o1.cellsBlock h.s (fun e=>by have:=h.bT _ e;omega);rw[jP W' c 0 _ _ _ hs];simp[List.length_append]
 ·have:=ho.off o2 (fun k e e2=>by have:=World.ownsRow.lt ho k e;omega)
  have e1:(tops++[x]).length=tops.length+1:=by simp
  have e2:ivs .i64 (kA2 (tops++[x]))=ivs .i64 (kA2 tops)++[.int .i64 (x:Nat)]:=by rw[kPd,kBi];rfl
  rw[e1,e2];exact this
 ·intro k e e2
  rcases hn with hn | ⟨g,hn,hg2⟩
  ·rw[hn]at e;exact h.tm k e e2
  ·rw[hn]at e;cases e;have:=h.bM k e2;omega
 ·intro k e e2
  rcases hn with hn | ⟨g,hn,hg2⟩
  ·rw[hn]at e;exact h.tl k e e2
  ·rw[hn]at e;cases e;have:=h.bL k e2;omega
 ·exact o2.cellsBlock (o1.cellsBlock h.lo (fun e=>by have:=h.bT _ e;omega)) (by omega)
 ·exact o2.cellsBlock (o1.cellsBlock h.mi (fun e=>by have:=h.bT _ e;omega)) (by omega)
end
def kN5 (w:World) (sv:Value) (S:MkS Int):Prop:=∃aT cT aM cM aL cL,sv= .agg #[.slice aT S.top.length cT,.slice aM (64*S.mids.length) cM,.slice aL (64*S.lows.length) cL]∧Ints .i64 w aT (kA2 S.top)∧Ints .i64 w aM (kA2 S.mids.flatten)∧Ints .i64 w aL S.lows.flatten
def kOs (F:Nat→Int) (k:Nat) (n last:Int):Prop:=n= -1∨∃q:Nat,n=(q:Int)∧(mkF F k).lows[q]? =some (List.replicate 64 last)
theorem kOs.next {F:Nat→Int}{k:Nat}{n last:Int}(h:kOs F k n last):kOs F (k+1) n last:=by
 rcases h with h | ⟨q,h1,h2⟩
 ·exact .inl h
 ·exact .inr ⟨q,h1,(kTt F k 1 q).1 _ h2⟩
theorem kSf {F:Nat→Int}{k q:Nat}{v:Int}(hk:k<17408)(hq:(mkF F k).lows[q]? =some (List.replicate 64 v))(hb:blkF F k=List.replicate 64 v):noF F k=q∧(mkF F (k+1)).lows=(mkF F k).lows:=by
 have hi:=inv8 F k (by omega)
 have hl:∀m∈(mkF F k).lows,m.length=(blkF F k).length:=fun m hm=>by rw[kAw];exact(kCj F k).1.low m hm
 have:=(kTv hi.nl hl (by rw[hb];exact hq)).2;have e:kBg eq8 (mkF F k).lows (blkF F k)=((mkF F k).lows,q):=this;exact⟨by unfold noF;rw[e],by rw[kHa,e]⟩
theorem noF_at (F:Nat→Int)(k:Nat)(hk:k<17408):(mkF F (k+1)).lows[noF F k]? =some (blkF F k):=by
 have hl:∀m∈(mkF F k).lows,m.length=(blkF F k).length:=fun m hm=>by rw[kAw];exact(kCj F k).1.low m hm
 rw[kHa];exact(kJj hl).at_
end Go.Proofs.YtbmphakfgoompaaGreat
