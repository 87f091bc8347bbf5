/- several texts in one: TA -/
import Derived.Test.YtabbabkmojaoaaaProg
import Derived.Test.YtabbabkmojaoaaaNB
import Derived.Deep.QuietTactic
import Derived.Deep.Cut
import Derived.BigQuiet
import Derived.Lib.Hide
import Derived.StillTailTactics
import Derived.RegionTactic
import Derived.BigRegion
import Derived.TacticsInMore
import Derived.Laws.StructEq
set_option linter.unusedVariables false
set_option linter.unusedSimpArgs false
set_option maxRecDepth 100000
set_option maxHeartbeats 16000000
namespace Go.Proofs.Ytabbabkmojaoaaa
open Go.RowKit
theorem kJj {P:Program}(w:World)(t:TypeId)(xs:Array Value)(i:Nat)(v:Value)(k:IntKind)(hu:P.underlying t=some (.int k))(hx:xs[i]? =some v):(part t xs i).run P w= .ok v w:=by
 have hagg:(isAgg t).run P w= .ok false w:=by unfold isAgg;rw[Sem.run_bind,run_underlying hu w];simp
 simp[part,Sem.run_bind,hagg,hx]
theorem kMi {l:List Value}{o:Nat}{v:Value}(h:(l.drop o).take 1=[v]):l[o]? =some v:=by
 cases hd:l.drop o with
 | nil=>rw[hd]at h;cases h
 | cons x t=>
  rw[hd]at h;simp at h;subst h;have:=congrArg (fun l=>l[0]?) hd
  simpa using this
theorem kJs {P:Program}{t E:TypeId}(k:IntKind){α:Type}(f:α→Int) [DecidableEq α] (hinj:∀a b,f a=f b→a=b)(hu:P.underlying t=some (.array 64 E))(he:P.underlying E=some (.int k))(hi:(P.info? E).isSome=true)(hc:P.cellsOf E=1):
  kG6 P t E 64 1 (fun a=> .int k (f a)) (fun a b=>decide (a=b)) where
 und:=hu
 inf:=Option.isSome_iff_exists.1 hi
 cel:=hc
 wide:=fun a=>rfl
 part:=fun w xs off a h=>kJj w E xs off _ k he (by have:=kMi h;simpa using this)
 eqE:=fun w d a b=>by
  rw[run_equalIn_int w (d+2) E k k (f a) (f b) he]
  congr 1
  by_cases h:a=b
  ·subst h;simp
  ·have:f a≠f b:=fun e=>h (hinj a b e)
   simp[h,this]
 chk:=fun w em d a=>MapKept.run_checkKey he (by simp[MapKept.IsKey]) em (d+2)
theorem Try.k8:kG6 Try.prog 119 5 64 1 val8 (fun a b=>decide (a=b)):=kJs .u8 (fun x:Int=>x) (fun _ _ h=>h) Try.underlying119 Try.underlying5 (by kernel_rfl) (by kernel_rfl)
theorem Try.k16:kG6 Try.prog 120 91 64 1 kAb (fun a b=>decide (a=b)):=kJs .u16 (fun x:Nat=>(x:Int)) (fun _ _ h=>by omega) Try.underlying120 Try.underlying91 (by kernel_rfl) (by kernel_rfl)
def eq8:Int→Int→Bool:=fun a b=>decide (a=b)
def kDl:Nat→Nat→Bool:=fun a b=>decide (a=b)
theorem kFs (o:Option Nat):kL5 o= .tuple #[.int .u16 ((o.getD 0:Nat):Int),.bool o.isSome]:=by cases o<;>rfl
theorem Try.elemB8:kEs Try.prog 112 119 (.agg (Array.replicate 64 (.int .u8 0))) 64 64:=⟨Try.underlying112,by kernel_rfl,by kernel_rfl,by decide⟩
theorem Try.elemB16:kEs Try.prog 111 120 (.agg (Array.replicate 64 (.int .u16 0))) 64 128:=⟨Try.underlying111,by kernel_rfl,by kernel_rfl,by decide⟩
theorem kB6 (b:List Int):∀u∈(kAf val8 b).toArray.toList,u.oneCell'=true:=fun u hu=>by
 simp only[kAf,List.mem_flatMap]at hu;obtain⟨x, -,hx⟩:=hu;rw[kBt,List.mem_singleton]at hx;subst hx
 rfl
theorem kG0 (b:List Nat):∀u∈(kAf kAb b).toArray.toList,u.oneCell'=true:=fun u hu=>by
 simp only[kAf,List.mem_flatMap]at hu;obtain⟨x, -,hx⟩:=hu;rw[kA0,List.mem_singleton]at hx;subst hx
 rfl
def LowR (g:Nat) (w:World) (S:MkS Int) (b:List Int) (a l:Option Addr) (no:Value) (w':World):Prop:=
 ∃al cl am cm,no=kAb (kBe eq8 S.lows b).2∧kBz val8 1 135 114 120 119 w' g {S with lows:=(kBe eq8 S.lows b).1} (kBe eq8 S.lows b).1 S.mids am cm al cl∧kB9 g w w' a l am al
def MidR (g:Nat) (w:World) (S:MkS Int) (a l:Option Addr) (no:Value) (w':World):Prop:=
 ∃al cl am cm,no=kAb (kBe kDl S.mids S.cur).2∧kBz val8 1 135 114 120 119 w' g {S with mids:=(kBe kDl S.mids S.cur).1} S.lows (kBe kDl S.mids S.cur).1 am cm al cl∧kB9 g w w' a l am al
theorem kDj {β:Type}{eqB:β→β→Bool}{L:List (List β)}{b:List β}(h:∀l∈L,l.length=64)(hb:b.length=64):∀l∈(kBe eqB L b).1,l.length=64:=fun l hl=>by
 unfold kBe at hl
 cases h2:kAo eqB b L with
 | none=>
  rw[h2]at hl
  rcases List.mem_append.1 hl with h3 | h3
  ·exact h l h3
  ·rw[List.mem_singleton.1 h3];exact hb
 | some k=>rw[h2]at hl;exact h l hl
theorem kBj {S:MkS Int}{b:List Int}(h:¬(S.blocks+1) % 64=0):kD6 eq8 S b={S with cur:=S.cur.set (S.blocks % 64) (kBe eq8 S.lows b).2,lows:=(kBe eq8 S.lows b).1,blocks:=S.blocks+1}:=by
 unfold kD6;simp only;rw[if_neg h]
theorem kBi {S:MkS Int}{b:List Int}(h:(S.blocks+1) % 64=0):kD6 eq8 S b={top:=S.top.set (S.blocks / 64) (kBe kDl S.mids (S.cur.set (S.blocks % 64) (kBe eq8 S.lows b).2)).2,cur:=S.cur.set (S.blocks % 64) (kBe eq8 S.lows b).2,lows:=(kBe eq8 S.lows b).1,mids:=(kBe kDl S.mids (S.cur.set (S.blocks % 64) (kBe eq8 S.lows b).2)).1,blocks:=S.blocks+1}:=by
 unfold kD6;simp only;rw[if_pos h]
 rfl
theorem kGg (w:World)(g:Nat)(S:MkS Int)(b:List Int)(am:Option Addr)(cm:Nat)(al:Option Addr)(cl:Nat)(hw:MkW S)(hb:b.length=64)(hbl:S.blocks<17408)(hL:S.lows.length≤S.blocks)(hM:S.mids.length≤S.blocks / 64)
  (h:kBz val8 1 135 114 120 119 w g S S.lows S.mids am cm al cl):
  Calls Try.prog 67 #[.pointer (some ⟨g+3,0,none⟩),.agg (kAf val8 b).toArray] w fun e w'=>e= .returned (.tuple #[])∧
   (∃am' cm' al' cl',kBz val8 1 135 114 120 119 w' g (kD6 eq8 S b) (kD6 eq8 S b).lows (kD6 eq8 S b).mids am' cm' al' cl'∧kB9 g w w' am al am' al'):=by
 have H:=jH h;clear h
 have HW:=jH hw;clear hw
 have HBl:=jH hb;clear hb
 go_enter Try.func67,Try.ntmps67
 go_upto_region 1 with(fail)
 obtain⟨w1,hw1⟩:∃w1,w1=w.alloc (.cells (kAf val8 b).toArray 119):=⟨_,rfl⟩
 have HB1:Hid (Below w.heap.size w w1):=by rw[hw1];exact jH ((Below.refl _ _).alloc jR _)
 have HR1:Hid (w1.rangeAt w.heap.size 0 (kAf val8 b)):=by
  rw[hw1];have:=World.rangeAt_of_block (jN w (.cells (kAf val8 b).toArray 119)) 0 (kAf val8 b).length
  simpa using jH this
 rw[←hw1];clear hw1;have H1:=jH (H.out.below HB1.out);have A1:Hid (kB9 g w w1 am al am al):=jH (.below am al HB1.out);have HLb:=jH (World.ownsRow.lt H.out.rl);have HMb:=jH (World.ownsRow.lt H.out.rm);have hgb:=H.out.lt;generalize w.heap.size=bb at*
 have hbs:(kAf val8 b).length=64:=by rw[kAh (sz:=1) (fun _=>rfl),HBl.out]
 have c1:=H1.out.c_lm;refine wp_region_still_lit (by kernel_rfl) (by kernel_rfl) ?_
 iterate 4 still_step
 refine kAw rfl 119 (.tmp 3) rfl bb 0 rfl (kAf val8 b) _ HR1.out Try.underlying119 rfl (by rw[hbs];kernel_rfl) ?_;refine kC1 rfl 133 (.tmp 10) (.tmp 11) true rfl (.map (some (g+1))) (kEn val8 b) _ rfl rfl (Try.k8.lookup Try.underlying133 (fun w=>by kernel_rfl) (w:=w1.drew) (b:=g+1) H1.out.lm b HBl.out HW.out.low) ?_;rw[show kAo (fun a b=>decide (a=b)) b S.lows=kAo eq8 b S.lows from rfl,kFs]
 obtain⟨k0,hk0⟩:∃k0,k0=(kAo eq8 b S.lows).getD 0:=⟨_,rfl⟩
 obtain⟨met,hmet⟩:∃met,met=(kAo eq8 b S.lows).isSome:=⟨_,rfl⟩
 rw[←hk0,←hmet]
 have HK0:=jH (And.intro hk0 hmet);clear hk0 hmet
 repeat still_step
 refine wpStill_nil ?_
 change Exit.then _ _ _ _ (World.drew w1)
 have H2:=jH H1.out.drew;have HB2:=jH (HB1.out.drew);have A2:=jH A1.out.drew;have HR2:Hid (w1.drew.rangeAt bb 0 (kAf val8 b)):=jH HR1.out;clear H1 HB1 HR1 c1 A1;generalize w1.drew=w2 at*
 go_upto_if 16 with(fail)
 go_cut [4]from 17 (LowR g w S b am al)
 case first=>
  cases met
  ·have hf:kAo eq8 b S.lows=none:=by
    have h:=HK0.out.2
    cases h2:kAo eq8 b S.lows with
    | none=>rfl
    | some k=>rw[h2]at h;cases h
   have HF:=jH hf;clear hf
   have c0:=H2.out.c_t;have c1:=H2.out.c_low HW.out
   have hn1:S.lows.length<17408:=by omega
   have hg4:g+4≤w2.heap.size:=H2.out.lt
   go_upto_region 4 with(fail)
   refine(wpIn_wide (n:=2)).1 ?_;refine kAi [14,15,16] (fun w':World=>w'.cell? ⟨g+3,0,none⟩=some (.pointer (some ⟨g,0,none⟩))∧w'.cell? ⟨g,273,none⟩=some (.slice al S.lows.length cl)∧w'.rangeAt bb 0 (kAf val8 b)) (by kernel_rfl) ?_;have HCx:Hid ((fun w':World=>w'.cell? ⟨g+3,0,none⟩=some (.pointer (some ⟨g,0,none⟩))∧w'.cell? ⟨g,273,none⟩=some (.slice al S.lows.length cl)∧w'.rangeAt bb 0 (kAf val8 b)) w2.drew):=jH ⟨c0,c1,HR2.out⟩;clear c0 c1;have H3:=jH H2.out.drew;have A3:=jH A2.out.drew;have hg5:g+4≤w2.drew.heap.size:=hg4;generalize w2.drew=w3 at*;refine' kAd (i:=0) (v:=_) [1,2,3,14,15,16] (by kernel_rfl) rfl (by kernel_rfl) (fun _ _ _ h=>h) (by rfl) (by rintro w' ⟨c0,c1,c2⟩;go_simp;try with_reducible rfl) HCx.out ?_;simp only[jA,jB,jC,Act.put,jD,jE,jF];refine' kAd (i:=1) (v:=_) [2,3,14,15,16] (by kernel_rfl) rfl (by kernel_rfl) (fun _ _ _ h=>h) (by rfl) (by rintro w' ⟨c0,c1,c2⟩;go_simp;try with_reducible rfl) HCx.out ?_;simp only[jA,jB,jC,Act.put,jD,jE,jF];refine' kAd (i:=2) (v:=_) [3,14,15,16] (by kernel_rfl) rfl (by kernel_rfl) (fun _ _ _ h=>h) (by rfl) (by rintro w' ⟨c0,c1,c2⟩;go_simp;try with_reducible rfl) HCx.out ?_;simp only[jA,jB,jC,Act.put,jD,jE,jF];refine' kAd (i:=3) (v:=_) [14,15,16] (by kernel_rfl) rfl (by kernel_rfl) (fun _ _ _ h=>h) (by rfl) (by rintro w' ⟨c0,c1,c2⟩;go_simp;try with_reducible rfl) HCx.out ?_;simp only[jA,jB,jC,Act.put,jD,jE,jF];refine' kAd (i:=4) (v:=_) [5,6,7,8,9,10,13,14,15,16] (by kernel_rfl) rfl (by kernel_rfl) (fun _ _ _ h=>h) (by rfl) (by rintro w' ⟨c0,c1,c2⟩;go_simp;try with_reducible rfl) HCx.out ?_;simp only[jA,jB,jC,Act.put,jD,jE,jF];refine' kAd (i:=5) (v:=_) [6,7,8,9,10,13,14,15,16] (by kernel_rfl) rfl (by kernel_rfl) (fun _ _ _ h=>h) (by rfl) (by rintro w' ⟨c0,c1,c2⟩;go_simp;try with_reducible rfl) HCx.out ?_;simp only[jA,jB,jC,Act.put,jD,jE,jF];refine' kAd (i:=6) (v:=_) [7,8,9,10,13,14,15,16] (by kernel_rfl) rfl (by kernel_rfl) (fun _ _ _ h=>h) (by rfl) (by rintro w' ⟨c0,c1,c2⟩;go_simp;try with_reducible rfl) HCx.out ?_;simp only[jA,jB,jC,Act.put,jD,jE,jF];refine' kAd (i:=7) (v:=_) [8,9,10,13,14,15,16] (by kernel_rfl) rfl (by kernel_rfl) (fun _ _ _ h=>h) (by rfl) (by rintro w' ⟨c0,c1,c2⟩;go_simp;try with_reducible rfl) HCx.out ?_;simp only[jA,jB,jC,Act.put,jD,jE,jF];refine' kAd (i:=8) (v:=_) [9,10,13,14,15,16] (by kernel_rfl) rfl (by kernel_rfl) (fun _ _ _ h=>h) (by rfl) (by rintro w' ⟨c0,c1,c2⟩;go_simp;try with_reducible rfl) HCx.out ?_;simp only[jA,jB,jC,Act.put,jD,jE,jF];refine' kAd (i:=9) (v:=_) [10,13,14,15,16] (by kernel_rfl) rfl (by kernel_rfl) (fun _ _ _ h=>h) (by rfl) (by rintro w' ⟨c0,c1,c2⟩;go_simp;try with_reducible rfl) HCx.out ?_;simp only[jA,jB,jC,Act.put,jD,jE,jF];refine' kAd (i:=10) (v:=_) [13,14,15,16] (by kernel_rfl) rfl (by kernel_rfl) (fun _ _ _ h=>h) (by rfl) (by rintro w' ⟨c0,c1,c2⟩;go_simp;try with_reducible rfl) HCx.out ?_;simp only[jA,jB,jC,Act.put,jD,jE,jF];refine' kAd (i:=11) (v:=_) [12,13,14,15,16] (by kernel_rfl) rfl (by kernel_rfl) (fun _ _ _ h=>h) (by rfl) (by exact fun w' hC=>by refine kCp 119 (.tmp 3) ?_ bb 0 ?_ (kAf val8 b) (.array 64 5) hC.2.2 Try.underlying119 rfl (by rw[hbs];kernel_rfl)<;>rfl) HCx.out ?_;simp only[jA,jB,jC,Act.put,jD,jE,jF];refine kC9 (i:=12) (v:= .slice (some ⟨w3.heap.size,0,none⟩) 1 1) (w':=w3.alloc (.cells (kAf val8 b).toArray 119)) (by kernel_rfl) rfl (by kernel_rfl) (by rfl) (by go_simp;exact congrArg (fun c=>w3.alloc (.cells c 119)) (kEg (kAf val8 b) _ (by rw[hbs];rfl))) ⟨kBb HCx.out.1 _,kBb HCx.out.2.1 _,World.rangeAt_alloc HCx.out.2.2 _⟩ ?_;simp only[jA,jB,jC,Act.put,jD,jE,jF];have hkb:∀k,(Value.slice al S.lows.length cl).ownBlock=some k→g+4≤k∧k<bb:=HLb.out;refine kEf (i:=13) Try.elemB8 (by kernel_rfl) rfl (by kernel_rfl) (by rfl) (.tmp 36) (.tmp 38) rfl H3.out.rl (by omega) (by omega) hg5 (kAf val8 b) hbs (fun u hu=>kB6 b u (by simpa using hu)) 119 rfl rfl (fun w' hg=>⟨kAv hg HCx.out.1 (fun k e=>by have:=hkb k e;omega),kAv hg HCx.out.2.1 (fun k e=>by have:=hkb k e;omega),kBh hg HCx.out.2.2 (fun k e=>by have:=hkb k e;omega)⟩) ?_;intro al' cl' w5 ho5 hg5' hn5;simp only[jA,jB,jC,Act.put,jD,jE,jF];refine kA3 14 (by rfl) (by kernel_rfl) (by kernel_rfl) ?_;simp only[List.drop_succ_cons,List.drop_zero];have HP:=jH (H3.out.push_low HW.out b ho5 hg5' hn5);have c1:=kAv hg5' HCx.out.2.1 (fun k e=>by have:=hkb k e;omega);have f1:w5.frozen? ⟨g,273,none⟩=false:=jO w5 g 273 _ _ ((kAr hg5' (by omega) (fun k e=>by have:=hkb k e;omega)).trans H3.out.tr);have HR5:=jH (kBh hg5' HCx.out.2.2 (fun k e=>by have:=hkb k e;omega));have A5:Hid (kB9 g w w5 am al am al'):=jH (A3.out.trans (.low am hg5' hn5));clear ho5 hg5' hn5 hkb
   gi_wp2
   obtain⟨w6,hw6⟩:∃w6,w6=w5.setCell ⟨g,273,none⟩ (.slice al' (S.lows.length+1) cl'):=⟨_,rfl⟩
   have H6:Hid (kBz val8 1 135 114 120 119 w6 g {S with lows:=S.lows++[b]} S.lows S.mids am cm al' cl'):=jH (by rw[hw6];exact HP.out);have A6:Hid (kB9 g w w6 am al am al'):=jH (by rw[hw6];exact A5.out.store g 273 _ (by omega))
   have HR6:Hid (w6.rangeAt bb 0 (kAf val8 b)):=jH (by
    rw[hw6];intro j v hv;rw[World.cell?_setCell_other _ _ _ _ (by simp<;>omega)]
    exact HR5.out j v hv)
   rw[←hw6];clear hw6 HP A5 HR5 c1 f1 HCx H3 A3;have c0:=H6.out.c_lm;refine wp_region_still_tail 6 (by kernel_rfl) (by kernel_rfl) ?_;simp only[List.take_succ_cons,List.take_zero,List.drop_succ_cons,List.drop_zero]
   change wpStill _ _ (World.drew _) (fun a'=>wpList _ _ _ _ a' (World.drew _)) _ _
   iterate 4 still_step
   refine kAw rfl 119 (.tmp 3) rfl bb 0 rfl (kAf val8 b) _ (show w6.drew.rangeAt bb 0 (kAf val8 b)from HR6.out) Try.underlying119 rfl (by rw[hbs];kernel_rfl) ?_
   still_step
   refine wpStill_nil ?_;refine kAz rfl 133 (.tmp 45) (.tmp 46) (.tmp 47) rfl (.map (some (g+1))) (kEn val8 b) (.int .u16 (S.lows.length:Nat)) rfl rfl rfl (Try.k8.store Try.underlying133 (w:=w6.drew) (b:=g+1) H6.out.lm b HBl.out HW.out.low HF.out) ?_;go_wp2
   go_meet
   case rel=>
    have hnb:kBe eq8 S.lows b=(S.lows++[b],S.lows.length):=by unfold kBe;rw[HF.out]
    refine⟨al',cl',am,cm,by rw[hnb];rfl,?_,A6.out.drew.put (g+1) _ (by omega)⟩;rw[hnb];exact H6.out.drew.put_lm (S.lows++[b])
  ·obtain⟨k,hf⟩:∃k,kAo eq8 b S.lows=some k:=by
    have h:=HK0.out.2
    cases h2:kAo eq8 b S.lows with
    | none=>rw[h2]at h;cases h
    | some k=>exact⟨k,rfl⟩
   have hk:k0=k:=by have h:=HK0.out.1;rw[hf]at h;exact h
   have HF:=jH hf;clear hf
   go_wp2
   go_meet
   case rel=>
    have hnb:kBe eq8 S.lows b=(S.lows,k):=by unfold kBe;rw[HF.out]
    refine⟨al,cl,am,cm,by rw[hnb,hk];rfl,?_,A2.out⟩;rw[hnb];exact H2.out
 case rest=>
  obtain⟨al1,cl1,am1,cm1,rfl,hk1,hb1⟩:=hcut
  have hlow1:∀l∈(kBe eq8 S.lows b).1,l.length=64:=fun l hl=>by
   unfold kBe at hl
   cases h2:kAo eq8 b S.lows with
   | none=>
    rw[h2]at hl
    rcases List.mem_append.1 hl with h | h
    ·exact HW.out.low l h
    ·rw[List.mem_singleton.1 h];exact HBl.out
   | some k=>rw[h2]at hl;exact HW.out.low l hl
  have HAdd:Hid (kD6 eq8 S b=kD6 eq8 S b):=jH rfl;unfold kD6 at HAdd
  obtain⟨N,hN⟩:∃N,N=kBe eq8 S.lows b:=⟨_,rfl⟩
  rw[←hN]at hk1 hlow1 ⊢
  have HN:=jH hN;clear hN
  have H7:=jH hk1;have A7:=jH hb1;have HW7:Hid (MkW {S with lows:=N.1}):=jH ⟨HW.out.top,HW.out.cur,hlow1,HW.out.mid⟩;clear hk1 hb1 hlow1 H2 HB2 A2 HR2 HAdd;generalize wc=w7 at*;have c0:=H7.out.c_b
  have hcu:S.blocks % 64<S.cur.length:=by rw[HW.out.cur];omega
  obtain⟨v1,c1⟩:∃v,w7.cell? ⟨g+3,4+S.blocks % 64,none⟩=some v:=⟨_,H7.out.c_cur (S.blocks % 64) hcu⟩
  have f1:=H7.out.f_mk (4+S.blocks % 64)
  have i1:(0:Int)≤(S.blocks:Int) % 64:=by omega
  have i2:(S.blocks:Int) % 64<64:=by omega
  obtain⟨bk,hbk⟩:∃bk,bk=S.blocks:=⟨_,rfl⟩
  obtain⟨k1,hk1⟩:∃k1,k1=N.2:=⟨_,rfl⟩
  rw[←hk1];simp only[←hbk]at c0 c1 f1 i1 i2
  have HBk:=jH hbk;clear hbk
  have HK1:=jH hk1;clear hk1
  have hbl7:bk<17408:=by rw[HBk.out];exact hbl
  unfold kAb;go_wp2
  go_region
  obtain⟨w8,hw8⟩:∃w8,w8=(w7.setCell ⟨g+3,4+bk % 64,none⟩ (.int .u16 (k1:Nat))).drew:=⟨_,rfl⟩
  have H8:Hid (kBz val8 1 135 114 120 119 w8 g {S with lows:=N.1,cur:=S.cur.set (bk % 64) k1} N.1 S.mids am1 cm1 al1 cl1):=jH (by rw[hw8];exact(H7.out.set_cur (bk % 64) k1).drew);have A8:Hid (kB9 g w w8 am al am1 al1):=jH (by rw[hw8];exact(A7.out.store (g+3) (4+bk % 64) _ (by omega)).drew);rw[←hw8];clear hw8 c0 c1 f1 H7 A7;have HW8:Hid (MkW {S with lows:=N.1,cur:=S.cur.set (bk % 64) k1}):=jH ⟨HW7.out.top,by simpa using HW7.out.cur,HW7.out.low,HW7.out.mid⟩;clear HW7
  obtain⟨cur8,hc8⟩:∃c,c=S.cur.set (bk % 64) k1:=⟨_,rfl⟩
  rw[←hc8]at H8 HW8
  have HC8:=jH hc8;clear hc8
  have c0:=H8.out.c_b;have f0:=H8.out.f_mk 3;simp only[←HBk.out]at c0;have H9:=jH (H8.out.set_blocks (bk+1));have A9:=jH (A8.out.store (g+3) 3 (.int .i64 ((bk+1:Nat):Int)) (by omega));rw[show((bk+1:Nat):Int)=(bk:Int)+1 by omega]at H9 A9;have d0:=H9.out.c_b;simp only at d0;rw[show((bk+1:Nat):Int)=(bk:Int)+1 by omega]at d0;generalize hw9:w8.setCell ⟨g+3,3,none⟩ (.int .i64 ((bk:Int)+1))=w9 at*
  by_cases h64:(bk+1) % 64=0
  ·have h64i:¬(0:Int)<((bk:Int)+1) % 64:=by omega
   have HW9:Hid (MkW {S with lows:=N.1,cur:=cur8,blocks:=bk+1}):=jH ⟨HW8.out.top,HW8.out.cur,HW8.out.low,HW8.out.mid⟩;have hc9:cur8.length=64:=HW8.out.cur
   have hbs9:(kAf kAb cur8).length=64:=by rw[kAh (sz:=1) (fun _=>rfl),hc9]
   have HR9:Hid (w9.rangeAt (g+3) 4 (kAf kAb cur8)):=jH H9.out.r_cur;have e0:=H9.out.c_mm
   go_upto_region 9 with(fail)
   refine wp_region_still_lit (by kernel_rfl) (by kernel_rfl) ?_
   iterate 7 still_step
   refine kAw rfl 120 (.tmp 78) rfl (g+3) 4 rfl (kAf kAb cur8) _ (show w9.drew.rangeAt (g+3) 4 (kAf kAb cur8)from HR9.out) Try.underlying120 rfl (by rw[hbs9];kernel_rfl) ?_;refine kC1 rfl 127 (.tmp 75) (.tmp 79) true rfl (.map (some (g+2))) (kEn kAb cur8) _ rfl rfl (Try.k16.lookup Try.underlying127 (fun w=>by kernel_rfl) (w:=w9.drew) (b:=g+2) H9.out.mm_ cur8 hc9 HW9.out.mid) ?_;rw[show kAo (fun a b=>decide (a=b)) cur8 S.mids=kAo kDl cur8 S.mids from rfl,kFs]
   obtain⟨k2,hk2⟩:∃k2,k2=(kAo kDl cur8 S.mids).getD 0:=⟨_,rfl⟩
   obtain⟨met2,hmet2⟩:∃met2,met2=(kAo kDl cur8 S.mids).isSome:=⟨_,rfl⟩
   rw[←hk2,←hmet2]
   have HK2:=jH (And.intro hk2 hmet2);clear hk2 hmet2
   repeat still_step
   refine wpStill_nil ?_
   change Exit.then _ _ _ _ (World.drew w9)
   have H10:=jH H9.out.drew;have A10:=jH A9.out.drew;have HR10:Hid (w9.drew.rangeAt (g+3) 4 (kAf kAb cur8)):=jH HR9.out;clear H9 A9 HR9 e0 d0 c0 f0 hw9 H8 A8;generalize w9.drew=w10 at*
   go_upto_if 84 with(fail)
   go_cut [4]from 85 (MidR g w {S with lows:=N.1,cur:=cur8,blocks:=bk+1} am al)
   case first=>
    cases met2
    ·have hf:kAo kDl cur8 S.mids=none:=by
      have h:=HK2.out.2
      cases h2:kAo kDl cur8 S.mids with
      | none=>rfl
      | some k=>rw[h2]at h;cases h
     have HF:=jH hf;clear hf
     have c0:=H10.out.c_t;have c1:=H10.out.c_mid HW9.out;simp only at c1
     have hn1:S.mids.length<17408:=by omega
     have hg4:g+4≤w10.heap.size:=H10.out.lt
     go_upto_region 12 with(fail)
     refine(wpIn_wide (n:=2)).1 ?_;refine kAi [17,18,19] (fun w':World=>w'.cell? ⟨g+3,0,none⟩=some (.pointer (some ⟨g,0,none⟩))∧w'.cell? ⟨g,272,none⟩=some (.slice am1 S.mids.length cm1)∧w'.rangeAt (g+3) 4 (kAf kAb cur8)) (by kernel_rfl) ?_;have HCx:Hid ((fun w':World=>w'.cell? ⟨g+3,0,none⟩=some (.pointer (some ⟨g,0,none⟩))∧w'.cell? ⟨g,272,none⟩=some (.slice am1 S.mids.length cm1)∧w'.rangeAt (g+3) 4 (kAf kAb cur8)) w10.drew):=jH ⟨c0,c1,HR10.out⟩;clear c0 c1;have H11:=jH H10.out.drew;have A11:=jH A10.out.drew;have hg5:g+4≤w10.drew.heap.size:=hg4;generalize w10.drew=w11 at*;refine' kAd (i:=0) (v:=_) [1,2,3,17,18,19] (by kernel_rfl) rfl (by kernel_rfl) (fun _ _ _ h=>h) (by rfl) (by rintro w' ⟨c0,c1,c2⟩;go_simp;try with_reducible rfl) HCx.out ?_;simp only[jA,jB,jC,Act.put,jD,jE,jF];refine' kAd (i:=1) (v:=_) [2,3,17,18,19] (by kernel_rfl) rfl (by kernel_rfl) (fun _ _ _ h=>h) (by rfl) (by rintro w' ⟨c0,c1,c2⟩;go_simp;try with_reducible rfl) HCx.out ?_;simp only[jA,jB,jC,Act.put,jD,jE,jF];refine' kAd (i:=2) (v:=_) [3,17,18,19] (by kernel_rfl) rfl (by kernel_rfl) (fun _ _ _ h=>h) (by rfl) (by rintro w' ⟨c0,c1,c2⟩;go_simp;try with_reducible rfl) HCx.out ?_;simp only[jA,jB,jC,Act.put,jD,jE,jF];refine' kAd (i:=3) (v:=_) [17,18,19] (by kernel_rfl) rfl (by kernel_rfl) (fun _ _ _ h=>h) (by rfl) (by rintro w' ⟨c0,c1,c2⟩;go_simp;try with_reducible rfl) HCx.out ?_;simp only[jA,jB,jC,Act.put,jD,jE,jF];refine' kAd (i:=4) (v:=_) [5,6,7,8,9,10,16,17,18,19] (by kernel_rfl) rfl (by kernel_rfl) (fun _ _ _ h=>h) (by rfl) (by rintro w' ⟨c0,c1,c2⟩;go_simp;try with_reducible rfl) HCx.out ?_;simp only[jA,jB,jC,Act.put,jD,jE,jF];refine' kAd (i:=5) (v:=_) [6,7,8,9,10,16,17,18,19] (by kernel_rfl) rfl (by kernel_rfl) (fun _ _ _ h=>h) (by rfl) (by rintro w' ⟨c0,c1,c2⟩;go_simp;try with_reducible rfl) HCx.out ?_;simp only[jA,jB,jC,Act.put,jD,jE,jF];refine' kAd (i:=6) (v:=_) [7,8,9,10,16,17,18,19] (by kernel_rfl) rfl (by kernel_rfl) (fun _ _ _ h=>h) (by rfl) (by rintro w' ⟨c0,c1,c2⟩;go_simp;try with_reducible rfl) HCx.out ?_;simp only[jA,jB,jC,Act.put,jD,jE,jF];refine' kAd (i:=7) (v:=_) [8,9,10,16,17,18,19] (by kernel_rfl) rfl (by kernel_rfl) (fun _ _ _ h=>h) (by rfl) (by rintro w' ⟨c0,c1,c2⟩;go_simp;try with_reducible rfl) HCx.out ?_;simp only[jA,jB,jC,Act.put,jD,jE,jF];refine' kAd (i:=8) (v:=_) [9,10,16,17,18,19] (by kernel_rfl) rfl (by kernel_rfl) (fun _ _ _ h=>h) (by rfl) (by rintro w' ⟨c0,c1,c2⟩;go_simp;try with_reducible rfl) HCx.out ?_;simp only[jA,jB,jC,Act.put,jD,jE,jF];refine' kAd (i:=9) (v:=_) [10,16,17,18,19] (by kernel_rfl) rfl (by kernel_rfl) (fun _ _ _ h=>h) (by rfl) (by rintro w' ⟨c0,c1,c2⟩;go_simp;try with_reducible rfl) HCx.out ?_;simp only[jA,jB,jC,Act.put,jD,jE,jF];refine' kAd (i:=10) (v:=_) [16,17,18,19] (by kernel_rfl) rfl (by kernel_rfl) (fun _ _ _ h=>h) (by rfl) (by rintro w' ⟨c0,c1,c2⟩;go_simp;try with_reducible rfl) HCx.out ?_;simp only[jA,jB,jC,Act.put,jD,jE,jF];refine' kAd (i:=11) (v:=_) [12,13,14,15,16,17,18,19] (by kernel_rfl) rfl (by kernel_rfl) (fun _ _ _ h=>h) (by rfl) (by rintro w' ⟨c0,c1,c2⟩;go_simp;try with_reducible rfl) HCx.out ?_;simp only[jA,jB,jC,Act.put,jD,jE,jF];refine' kAd (i:=12) (v:=_) [13,14,15,16,17,18,19] (by kernel_rfl) rfl (by kernel_rfl) (fun _ _ _ h=>h) (by rfl) (by rintro w' ⟨c0,c1,c2⟩;go_simp;try with_reducible rfl) HCx.out ?_;simp only[jA,jB,jC,Act.put,jD,jE,jF];refine' kAd (i:=13) (v:=_) [14,15,16,17,18,19] (by kernel_rfl) rfl (by kernel_rfl) (fun _ _ _ h=>h) (by rfl) (by rintro w' ⟨c0,c1,c2⟩;go_simp;try with_reducible rfl) HCx.out ?_;simp only[jA,jB,jC,Act.put,jD,jE,jF];refine' kAd (i:=14) (v:=_) [15,16,17,18,19] (by kernel_rfl) rfl (by kernel_rfl) (fun _ _ _ h=>h) (by rfl) (by exact fun w' hC=>by refine kCp 120 (.tmp 107) ?_ (g+3) 4 ?_ (kAf kAb cur8) (.array 64 91) hC.2.2 Try.underlying120 rfl (by rw[hbs9];kernel_rfl)<;>rfl) HCx.out ?_;simp only[jA,jB,jC,Act.put,jD,jE,jF];refine kC9 (i:=15) (v:= .slice (some ⟨w11.heap.size,0,none⟩) 1 1) (w':=w11.alloc (.cells (kAf kAb cur8).toArray 120)) (by kernel_rfl) rfl (by kernel_rfl) (by rfl) (by go_simp;exact congrArg (fun c=>w11.alloc (.cells c 120)) (kEg (kAf kAb cur8) _ (by rw[hbs9];rfl))) ⟨kBb HCx.out.1 _,kBb HCx.out.2.1 _,World.rangeAt_alloc HCx.out.2.2 _⟩ ?_;simp only[jA,jB,jC,Act.put,jD,jE,jF]
     have hkb:∀k,(Value.slice am1 S.mids.length cm1).ownBlock=some k→g+4≤k:=fun k e=>(World.ownsRow.lt H11.out.rm k e).1
     refine kEf (i:=16) Try.elemB16 (by kernel_rfl) rfl (by kernel_rfl) (by rfl) (.tmp 104) (.tmp 109) rfl H11.out.rm (by simp only;omega) (by simp only;omega) hg5 (kAf kAb cur8) hbs9 (fun u hu=>kG0 cur8 u (by simpa using hu)) 120 rfl rfl (fun w' hg=>⟨kAv hg HCx.out.1 (fun k e=>by have:=hkb k e;omega),kAv hg HCx.out.2.1 (fun k e=>by have:=hkb k e;omega),kBh hg HCx.out.2.2 (fun k e=>by have:=hkb k e;omega)⟩) ?_;intro am' cm' w5 ho5 hg5' hn5;simp only[jA,jB,jC,Act.put,jD,jE,jF];refine kA3 17 (by rfl) (by kernel_rfl) (by kernel_rfl) ?_;simp only[List.drop_succ_cons,List.drop_zero];have HP:=jH (H11.out.push_mid HW9.out cur8 ho5 hg5' hn5);have c1:=kAv hg5' HCx.out.2.1 (fun k e=>by have:=hkb k e;omega);have f1:w5.frozen? ⟨g,272,none⟩=false:=jO w5 g 272 _ _ ((kAr hg5' (by omega) (fun k e=>by have:=hkb k e;omega)).trans H11.out.tr);have A5:Hid (kB9 g w w5 am al am' al1):=jH (A11.out.trans (.mid al1 hg5' hn5));clear ho5 hg5' hn5 hkb
     gi_wp2
     obtain⟨w6,hw6⟩:∃w6,w6=w5.setCell ⟨g,272,none⟩ (.slice am' (S.mids.length+1) cm'):=⟨_,rfl⟩
     have H6:Hid (kBz val8 1 135 114 120 119 w6 g {S with lows:=N.1,cur:=cur8,blocks:=bk+1,mids:=S.mids++[cur8]} N.1 S.mids am' cm' al1 cl1):=jH (by rw[hw6];exact HP.out);have A6:Hid (kB9 g w w6 am al am' al1):=jH (by rw[hw6];exact A5.out.store g 272 _ (by omega));have HR6:Hid (w6.rangeAt (g+3) 4 (kAf kAb cur8)):=jH H6.out.r_cur;rw[←hw6];clear hw6 HP A5 c1 f1 HCx H11 A11;have c0:=H6.out.c_mm;refine wp_region_still_tail 9 (by kernel_rfl) (by kernel_rfl) ?_;simp only[List.take_succ_cons,List.take_zero,List.drop_succ_cons,List.drop_zero]
     change wpStill _ _ (World.drew _) (fun a'=>wpList _ _ _ _ a' (World.drew _)) _ _
     iterate 7 still_step
     refine kAw rfl 120 (.tmp 119) rfl (g+3) 4 rfl (kAf kAb cur8) _ (show w6.drew.rangeAt (g+3) 4 (kAf kAb cur8)from HR6.out) Try.underlying120 rfl (by rw[hbs9];kernel_rfl) ?_
     still_step
     refine wpStill_nil ?_;refine kAz rfl 127 (.tmp 116) (.tmp 120) (.tmp 121) rfl (.map (some (g+2))) (kEn kAb cur8) (.int .u16 (S.mids.length:Nat)) rfl rfl rfl (Try.k16.store Try.underlying127 (w:=w6.drew) (b:=g+2) H6.out.mm_ cur8 hc9 HW9.out.mid HF.out) ?_;go_wp2
     go_meet
     case rel=>
      have hnb:kBe kDl S.mids cur8=(S.mids++[cur8],S.mids.length):=by unfold kBe;rw[HF.out]
      refine⟨al1,cl1,am',cm',by simp only[hnb];rfl,?_,A6.out.drew.put (g+2) _ (by omega)⟩;simp only[hnb];exact H6.out.drew.put_mm (S.mids++[cur8])
    ·obtain⟨k,hf⟩:∃k,kAo kDl cur8 S.mids=some k:=by
      have h:=HK2.out.2
      cases h2:kAo kDl cur8 S.mids with
      | none=>rw[h2]at h;cases h
      | some k=>exact⟨k,rfl⟩
     have hk:Hid (k2=k):=jH (by have h:=HK2.out.1;rw[hf]at h;exact h)
     have HF:=jH hf;clear hf
     go_wp2
     go_meet
     case rel=>
      have hnb:kBe kDl S.mids cur8=(S.mids,k):=by unfold kBe;rw[HF.out]
      refine⟨al1,cl1,am1,cm1,by simp only[hnb,hk.out];rfl,?_,A10.out⟩;simp only[hnb];exact H10.out
   case rest=>
    obtain⟨al2,cl2,am2,cm2,rfl,hk3,hb3⟩:=hcut;simp only at hk3
    obtain⟨M,hM2⟩:∃M,M=kBe kDl S.mids cur8:=⟨_,rfl⟩
    rw[←hM2]at hk3 ⊢;have HM2:=jH hM2
    have hmid2:∀l∈M.1,l.length=64:=by rw[hM2];exact kDj HW9.out.mid hc9
    clear hM2;have H12:=jH hk3;have A12:=jH hb3;have HW12:Hid (MkW {S with lows:=N.1,cur:=cur8,blocks:=bk+1,mids:=M.1}):=jH ⟨HW9.out.top,HW9.out.cur,HW9.out.low,hmid2⟩;clear hk3 hb3 hmid2 H10 A10 HR10;generalize wc=w12 at*
    obtain⟨q,hq⟩:∃q,q=bk / 64:=⟨_,rfl⟩
    have hq1:q<272:=by omega
    have hq2:((bk:Int)+1) / 64 - 1=(q:Int):=by omega
    have hq0:(0:Int)≤(bk:Int)+1:=by omega
    have HQ:=jH hq;clear hq
    obtain⟨v2,c2⟩:=H12.out.c_top HW12.out q hq1;have f2:=H12.out.f_tr q;have c0:=H12.out.c_t;have c1:=H12.out.c_b;simp only at c1;rw[show((bk+1:Nat):Int)=(bk:Int)+1 by omega]at c1
    obtain⟨k3,hk3⟩:∃k3,k3=M.2:=⟨_,rfl⟩
    rw[←hk3]
    have HK3:=jH hk3;clear hk3
    unfold kAb;go_wp2
    go_region
    go_end0
    have e:kD6 eq8 S b={top:=S.top.set q k3,cur:=cur8,lows:=N.1,mids:=M.1,blocks:=bk+1}:=by
     rw[kBi (by rw[←HBk.out];exact h64),←HBk.out,←HN.out,←HK1.out,←HC8.out,←HM2.out,←HK3.out,←HQ.out]
    rw[e];exact⟨rfl,am2,cm2,al2,cl2,(H12.out.set_top HW12.out q k3 hq1).drew,(A12.out.store g q _ (by omega)).drew⟩
  ·have h64i:(0:Int)<((bk:Int)+1) % 64:=by omega
   go_wp2
   refine jS (results_none rfl _ _ _) rfl ?_
   have e:kD6 eq8 S b={S with cur:=cur8,lows:=N.1,blocks:=bk+1}:=by
    rw[kBj (by rw[←HBk.out];exact h64),←HBk.out,←HN.out,←HK1.out,←HC8.out]
   rw[e]
   first
    | exact⟨rfl,am1,cm1,al1,cl1,H9.out,A9.out⟩
    | exact⟨rfl,am1,cm1,al1,⟨cl1,H9.out⟩,A9.out⟩
end Go.Proofs.Ytabbabkmojaoaaa
