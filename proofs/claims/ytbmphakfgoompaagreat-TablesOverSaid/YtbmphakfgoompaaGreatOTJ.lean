/- several texts in one: TAJ TFJ TQJ -/
import Derived.Test.YtbmphakfgoompaaGreatOTA
import Derived.Deep.QuietTactic
import Derived.Deep.Cut
import Derived.BigQuiet
import Derived.Lib.Hide
import Derived.StillTailTactics
import Derived.RegionTactic
import Derived.BigRegion
import Derived.TacticsInMore
import Derived.Laws.StructEq
set_option linter.unusedVariables false
set_option linter.unusedSimpArgs false
set_option maxRecDepth 100000
set_option maxHeartbeats 16000000
namespace Go.Proofs.YtbmphakfgoompaaGreat.VJ
open Go.RowKit
abbrev El:=Int
def val8 (x:El):Value:= .int .i32 x
theorem kBz (k:El):(val8 k).cells.toList=[val8 k]:=rfl
theorem kA0 (b:List El):kAh val8 b=b.map val8:=by
 induction b with
 | nil=>rfl
 | cons a l ih=>rw[kAh,List.flatMap_cons,←kAh,ih,kBz];rfl
theorem Tryz.k8:kGu Tryz.prog 153 21 64 1 val8 (fun a b=>decide (a=b)):=kJc .i32 (fun x:Int=>x) (fun _ _ h=>h) Tryz.underlying153 Tryz.underlying21 (by kernel_rfl) (by kernel_rfl)
def eq8:El→El→Bool:=fun a b=>decide (a=b)
theorem Tryz.elemB8:kFh Tryz.prog 149 153 (.agg (Array.replicate 64 (.int .i32 0))) 64 256:=⟨Tryz.underlying149,by kernel_rfl,by kernel_rfl,by decide⟩
theorem kCk (b:List El):∀u∈(kAh val8 b).toArray.toList,u.oneCell'=true:=fun u hu=>by
 simp only[kAh,List.mem_flatMap]at hu;obtain⟨x, -,hx⟩:=hu;rw[kBz,List.mem_singleton]at hx;subst hx
 rfl
def LowR (g:Nat) (w:World) (S:MkS El) (b:List El) (a l:Option Addr) (no:Value) (w':World):Prop:=
 ∃al cl am cm,no=kAb (kBg eq8 S.lows b).2∧kBv val8 1 182 152 145 153 w' g {S with lows:=(kBg eq8 S.lows b).1} (kBg eq8 S.lows b).1 S.mids am cm al cl∧kB2 g w w' a l am al
def MidR (g:Nat) (w:World) (S:MkS El) (a l:Option Addr) (no:Value) (w':World):Prop:=
 ∃al cl am cm,no=kAb (kBg kDs S.mids S.cur).2∧kBv val8 1 182 152 145 153 w' g {S with mids:=(kBg kDs S.mids S.cur).1} S.lows (kBg kDs S.mids S.cur).1 am cm al cl∧kB2 g w w' a l am al
theorem kBo {S:MkS El}{b:List El}(h:¬(S.blocks+1) % 64=0):kE2 eq8 S b={S with cur:=S.cur.set (S.blocks % 64) (kBg eq8 S.lows b).2,lows:=(kBg eq8 S.lows b).1,blocks:=S.blocks+1}:=by
 unfold kE2;simp only;rw[if_neg h]
theorem kBn {S:MkS El}{b:List El}(h:(S.blocks+1) % 64=0):kE2 eq8 S b={top:=S.top.set (S.blocks / 64) (kBg kDs S.mids (S.cur.set (S.blocks % 64) (kBg eq8 S.lows b).2)).2,cur:=S.cur.set (S.blocks % 64) (kBg eq8 S.lows b).2,lows:=(kBg eq8 S.lows b).1,mids:=(kBg kDs S.mids (S.cur.set (S.blocks % 64) (kBg eq8 S.lows b).2)).1,blocks:=S.blocks+1}:=by
 unfold kE2;simp only;rw[if_pos h]
 rfl
theorem kIz (w:World)(g:Nat)(S:MkS El)(b:List El)(am:Option Addr)(cm:Nat)(al:Option Addr)(cl:Nat)(hw:MkW S)(hb:b.length=64)(hbl:S.blocks<17408)(hL:S.lows.length≤S.blocks)(hM:S.mids.length≤S.blocks / 64)
  (h:kBv val8 1 182 152 145 153 w g S S.lows S.mids am cm al cl):
  Calls Tryz.prog 105 #[.pointer (some ⟨g+3,0,none⟩),.agg (kAh val8 b).toArray] w fun e w'=>e= .returned (.tuple #[])∧
   (∃am' cm' al' cl',kBv val8 1 182 152 145 153 w' g (kE2 eq8 S b) (kE2 eq8 S b).lows (kE2 eq8 S b).mids am' cm' al' cl'∧kB2 g w w' am al am' al'):=by
 have H:=jH h;clear h
 have HW:=jH hw;clear hw
 have HBl:=jH hb;clear hb
 go_enter Tryz.func105,Tryz.ntmps105
 go_upto_region 1 with(fail)
 obtain⟨w1,hw1⟩:∃w1,w1=w.alloc (.cells (kAh val8 b).toArray 153):=⟨_,rfl⟩
 have HB1:Hid (Below w.heap.size w w1):=by rw[hw1];exact jH ((Below.refl _ _).alloc jR _)
 have HR1:Hid (w1.rangeAt w.heap.size 0 (kAh val8 b)):=by
  rw[hw1];have:=World.rangeAt_of_block (jN w (.cells (kAh val8 b).toArray 153)) 0 (kAh val8 b).length
  simpa using jH this
 rw[←hw1];clear hw1;have H1:=jH (H.out.below HB1.out);have A1:Hid (kB2 g w w1 am al am al):=jH (.below am al HB1.out);have HLb:=jH (World.ownsRow.lt H.out.rl);have HMb:=jH (World.ownsRow.lt H.out.rm);have hgb:=H.out.lt;generalize w.heap.size=bb at*
 have hbs:(kAh val8 b).length=64:=by rw[kAf (sz:=1) (fun _=>rfl),HBl.out]
 have c1:=H1.out.c_lm;refine wp_region_still_lit (by kernel_rfl) (by kernel_rfl) ?_
 iterate 4 still_step
 refine kBc rfl 153 (.tmp 3) rfl bb 0 rfl (kAh val8 b) _ HR1.out Tryz.underlying153 rfl (by rw[hbs];kernel_rfl) ?_;refine kDf rfl 180 (.tmp 10) (.tmp 11) true rfl (.map (some (g+1))) (kD8 val8 b) _ rfl rfl (Tryz.k8.lookup Tryz.underlying180 (fun w=>by kernel_rfl) (w:=w1.drew) (b:=g+1) H1.out.lm b HBl.out HW.out.low) ?_;rw[show kAq (fun a b=>decide (a=b)) b S.lows=kAq eq8 b S.lows from rfl,kG6]
 obtain⟨k0,hk0⟩:∃k0,k0=(kAq eq8 b S.lows).getD 0:=⟨_,rfl⟩
 obtain⟨met,hmet⟩:∃met,met=(kAq eq8 b S.lows).isSome:=⟨_,rfl⟩
 rw[←hk0,←hmet]
 have HK0:=jH (And.intro hk0 hmet);clear hk0 hmet
 repeat still_step
 refine wpStill_nil ?_
 change Exit.then _ _ _ _ (World.drew w1)
 have H2:=jH H1.out.drew;have HB2:=jH (HB1.out.drew);have A2:=jH A1.out.drew;have HR2:Hid (w1.drew.rangeAt bb 0 (kAh val8 b)):=jH HR1.out;clear H1 HB1 HR1 c1 A1;generalize w1.drew=w2 at*
 go_upto_if 16 with(fail)
 go_cut [4]from 17 (LowR g w S b am al)
 case first=>
  cases met
  ·have hf:kAq eq8 b S.lows=none:=by
    have h:=HK0.out.2
    cases h2:kAq eq8 b S.lows with
    | none=>rfl
    | some k=>rw[h2]at h;cases h
   have HF:=jH hf;clear hf
   have c0:=H2.out.c_t;have c1:=H2.out.c_low HW.out
   have hn1:S.lows.length<17408:=by omega
   have hg4:g+4≤w2.heap.size:=H2.out.lt
   go_upto_region 4 with(fail)
   refine(wpIn_wide (n:=2)).1 ?_;refine kAj [14,15,16] (fun w':World=>w'.cell? ⟨g+3,0,none⟩=some (.pointer (some ⟨g,0,none⟩))∧w'.cell? ⟨g,273,none⟩=some (.slice al S.lows.length cl)∧w'.rangeAt bb 0 (kAh val8 b)) (by kernel_rfl) ?_;have HCx:Hid ((fun w':World=>w'.cell? ⟨g+3,0,none⟩=some (.pointer (some ⟨g,0,none⟩))∧w'.cell? ⟨g,273,none⟩=some (.slice al S.lows.length cl)∧w'.rangeAt bb 0 (kAh val8 b)) w2.drew):=jH ⟨c0,c1,HR2.out⟩;clear c0 c1;have H3:=jH H2.out.drew;have A3:=jH A2.out.drew;have hg5:g+4≤w2.drew.heap.size:=hg4;generalize w2.drew=w3 at*;refine' kAa (i:=0) (v:=_) [1,2,3,14,15,16] (by kernel_rfl) rfl (by kernel_rfl) (fun _ _ _ h=>h) (by rfl) ?hv4x0 HCx.out ?h4x0
   case hv4x0=>
    rintro w' ⟨c0,c1,c2⟩
    go_simp
    try with_reducible rfl
   simp only[jA,jB,jC,Act.put,jD,jE,jF];refine' kAa (i:=1) (v:=_) [2,3,14,15,16] (by kernel_rfl) rfl (by kernel_rfl) (fun _ _ _ h=>h) (by rfl) ?hv4x1 HCx.out ?h4x1
   case hv4x1=>
    rintro w' ⟨c0,c1,c2⟩
    go_simp
    try with_reducible rfl
   simp only[jA,jB,jC,Act.put,jD,jE,jF];refine' kAa (i:=2) (v:=_) [3,14,15,16] (by kernel_rfl) rfl (by kernel_rfl) (fun _ _ _ h=>h) (by rfl) ?hv4x2 HCx.out ?h4x2
   case hv4x2=>
    rintro w' ⟨c0,c1,c2⟩
    go_simp
    try with_reducible rfl
   simp only[jA,jB,jC,Act.put,jD,jE,jF];refine' kAa (i:=3) (v:=_) [14,15,16] (by kernel_rfl) rfl (by kernel_rfl) (fun _ _ _ h=>h) (by rfl) ?hv4x3 HCx.out ?h4x3
   case hv4x3=>
    rintro w' ⟨c0,c1,c2⟩
    go_simp
    try with_reducible rfl
   simp only[jA,jB,jC,Act.put,jD,jE,jF];refine' kAa (i:=4) (v:=_) [5,6,7,8,9,10,13,14,15,16] (by kernel_rfl) rfl (by kernel_rfl) (fun _ _ _ h=>h) (by rfl) ?hv4x4 HCx.out ?h4x4
   case hv4x4=>
    rintro w' ⟨c0,c1,c2⟩
    go_simp
    try with_reducible rfl
   simp only[jA,jB,jC,Act.put,jD,jE,jF];refine' kAa (i:=5) (v:=_) [6,7,8,9,10,13,14,15,16] (by kernel_rfl) rfl (by kernel_rfl) (fun _ _ _ h=>h) (by rfl) ?hv4x5 HCx.out ?h4x5
   case hv4x5=>
    rintro w' ⟨c0,c1,c2⟩
    go_simp
    try with_reducible rfl
   simp only[jA,jB,jC,Act.put,jD,jE,jF];refine' kAa (i:=6) (v:=_) [7,8,9,10,13,14,15,16] (by kernel_rfl) rfl (by kernel_rfl) (fun _ _ _ h=>h) (by rfl) ?hv4x6 HCx.out ?h4x6
   case hv4x6=>
    rintro w' ⟨c0,c1,c2⟩
    go_simp
    try with_reducible rfl
   simp only[jA,jB,jC,Act.put,jD,jE,jF];refine' kAa (i:=7) (v:=_) [8,9,10,13,14,15,16] (by kernel_rfl) rfl (by kernel_rfl) (fun _ _ _ h=>h) (by rfl) ?hv4x7 HCx.out ?h4x7
   case hv4x7=>
    rintro w' ⟨c0,c1,c2⟩
    go_simp
    try with_reducible rfl
   simp only[jA,jB,jC,Act.put,jD,jE,jF];refine' kAa (i:=8) (v:=_) [9,10,13,14,15,16] (by kernel_rfl) rfl (by kernel_rfl) (fun _ _ _ h=>h) (by rfl) ?hv4x8 HCx.out ?h4x8
   case hv4x8=>
    rintro w' ⟨c0,c1,c2⟩
    go_simp
    try with_reducible rfl
   simp only[jA,jB,jC,Act.put,jD,jE,jF];refine' kAa (i:=9) (v:=_) [10,13,14,15,16] (by kernel_rfl) rfl (by kernel_rfl) (fun _ _ _ h=>h) (by rfl) ?hv4x9 HCx.out ?h4x9
   case hv4x9=>
    rintro w' ⟨c0,c1,c2⟩
    go_simp
    try with_reducible rfl
   simp only[jA,jB,jC,Act.put,jD,jE,jF];refine' kAa (i:=10) (v:=_) [13,14,15,16] (by kernel_rfl) rfl (by kernel_rfl) (fun _ _ _ h=>h) (by rfl) ?hv4x10 HCx.out ?h4x10
   case hv4x10=>
    rintro w' ⟨c0,c1,c2⟩
    go_simp
    try with_reducible rfl
   simp only[jA,jB,jC,Act.put,jD,jE,jF];refine' kAa (i:=11) (v:=_) [12,13,14,15,16] (by kernel_rfl) rfl (by kernel_rfl) (fun _ _ _ h=>h) (by rfl) ?hv4x11 HCx.out ?h4x11
   case hv4x11=>exact fun w' hC=>by refine kC4 153 (.tmp 3) ?_ bb 0 ?_ (kAh val8 b) (.array 64 21) hC.2.2 Tryz.underlying153 rfl (by rw[hbs];kernel_rfl)<;>rfl
   simp only[jA,jB,jC,Act.put,jD,jE,jF];refine kDp (i:=12) (v:= .slice (some ⟨w3.heap.size,0,none⟩) 1 1) (w':=w3.alloc (.cells (kAh val8 b).toArray 153)) (by kernel_rfl) rfl (by kernel_rfl) (by rfl) (by go_simp;exact congrArg (fun c=>w3.alloc (.cells c 153)) (kE6 (kAh val8 b) _ (by rw[hbs];rfl))) ⟨kBm HCx.out.1 _,kBm HCx.out.2.1 _,World.rangeAt_alloc HCx.out.2.2 _⟩ ?_;simp only[jA,jB,jC,Act.put,jD,jE,jF];have hkb:∀k,(Value.slice al S.lows.length cl).ownBlock=some k→g+4≤k∧k<bb:=HLb.out;refine kE3 (i:=13) Tryz.elemB8 (by kernel_rfl) rfl (by kernel_rfl) (by rfl) (.tmp 36) (.tmp 38) rfl H3.out.rl (by omega) (by omega) hg5 (kAh val8 b) hbs (fun u hu=>kCk b u (by simpa using hu)) 153 rfl rfl (fun w' hg=>⟨kAy hg HCx.out.1 (fun k e=>by have:=hkb k e;omega),kAy hg HCx.out.2.1 (fun k e=>by have:=hkb k e;omega),kBs hg HCx.out.2.2 (fun k e=>by have:=hkb k e;omega)⟩) ?_;intro al' cl' w5 ho5 hg5' hn5;simp only[jA,jB,jC,Act.put,jD,jE,jF];refine kBp 14 (by rfl) (by kernel_rfl) (by kernel_rfl) ?_;simp only[List.drop_succ_cons,List.drop_zero];have HP:=jH (H3.out.push_low HW.out b ho5 hg5' hn5);have c1:=kAy hg5' HCx.out.2.1 (fun k e=>by have:=hkb k e;omega);have f1:w5.frozen? ⟨g,273,none⟩=false:=jO w5 g 273 _ _ ((kAt hg5' (by omega) (fun k e=>by have:=hkb k e;omega)).trans H3.out.tr);have HR5:=jH (kBs hg5' HCx.out.2.2 (fun k e=>by have:=hkb k e;omega));have A5:Hid (kB2 g w w5 am al am al'):=jH (A3.out.trans (.low am hg5' hn5));clear ho5 hg5' hn5 hkb
   gi_wp2
   obtain⟨w6,hw6⟩:∃w6,w6=w5.setCell ⟨g,273,none⟩ (.slice al' (S.lows.length+1) cl'):=⟨_,rfl⟩
   have H6:Hid (kBv val8 1 182 152 145 153 w6 g {S with lows:=S.lows++[b]} S.lows S.mids am cm al' cl'):=jH (by rw[hw6];exact HP.out);have A6:Hid (kB2 g w w6 am al am al'):=jH (by rw[hw6];exact A5.out.store g 273 _ (by omega))
   have HR6:Hid (w6.rangeAt bb 0 (kAh val8 b)):=jH (by
    rw[hw6];intro j v hv;rw[World.cell?_setCell_other _ _ _ _ (by simp<;>omega)]
    exact HR5.out j v hv)
   rw[←hw6];clear hw6 HP A5 HR5 c1 f1 HCx H3 A3;have c0:=H6.out.c_lm;refine wp_region_still_tail 6 (by kernel_rfl) (by kernel_rfl) ?_;simp only[List.take_succ_cons,List.take_zero,List.drop_succ_cons,List.drop_zero]
   change wpStill _ _ (World.drew _) (fun a'=>wpList _ _ _ _ a' (World.drew _)) _ _
   iterate 4 still_step
   refine kBc rfl 153 (.tmp 3) rfl bb 0 rfl (kAh val8 b) _ (show w6.drew.rangeAt bb 0 (kAh val8 b)from HR6.out) Tryz.underlying153 rfl (by rw[hbs];kernel_rfl) ?_
   still_step
   refine wpStill_nil ?_;refine kAz rfl 180 (.tmp 45) (.tmp 46) (.tmp 47) rfl (.map (some (g+1))) (kD8 val8 b) (.int .u16 (S.lows.length:Nat)) rfl rfl rfl (Tryz.k8.store Tryz.underlying180 (w:=w6.drew) (b:=g+1) H6.out.lm b HBl.out HW.out.low HF.out) ?_;go_wp2
   go_meet
   case rel=>
    have hnb:kBg eq8 S.lows b=(S.lows++[b],S.lows.length):=by unfold kBg;rw[HF.out]
    refine⟨al',cl',am,cm,by rw[hnb];rfl,?_,A6.out.drew.put (g+1) _ (by omega)⟩;rw[hnb];exact H6.out.drew.put_lm (S.lows++[b])
  ·obtain⟨k,hf⟩:∃k,kAq eq8 b S.lows=some k:=by
    have h:=HK0.out.2
    cases h2:kAq eq8 b S.lows with
    | none=>rw[h2]at h;cases h
    | some k=>exact⟨k,rfl⟩
   have hk:k0=k:=by have h:=HK0.out.1;rw[hf]at h;exact h
   have HF:=jH hf;clear hf
   go_wp2
   go_meet
   case rel=>
    have hnb:kBg eq8 S.lows b=(S.lows,k):=by unfold kBg;rw[HF.out]
    refine⟨al,cl,am,cm,by rw[hnb,hk];rfl,?_,A2.out⟩;rw[hnb];exact H2.out
 case rest=>
  obtain⟨al1,cl1,am1,cm1,rfl,hk1,hb1⟩:=hcut
  have hlow1:∀l∈(kBg eq8 S.lows b).1,l.length=64:=fun l hl=>by
   unfold kBg at hl
   cases h2:kAq eq8 b S.lows with
   | none=>
    rw[h2]at hl
    rcases List.mem_append.1 hl with h | h
    ·exact HW.out.low l h
    ·rw[List.mem_singleton.1 h];exact HBl.out
   | some k=>rw[h2]at hl;exact HW.out.low l hl
  have HAdd:Hid (kE2 eq8 S b=kE2 eq8 S b):=jH rfl;unfold kE2 at HAdd
  obtain⟨N,hN⟩:∃N,N=kBg eq8 S.lows b:=⟨_,rfl⟩
  rw[←hN]at hk1 hlow1 ⊢
  have HN:=jH hN;clear hN
  have H7:=jH hk1;have A7:=jH hb1;have HW7:Hid (MkW {S with lows:=N.1}):=jH ⟨HW.out.top,HW.out.cur,hlow1,HW.out.mid⟩;clear hk1 hb1 hlow1 H2 HB2 A2 HR2 HAdd;generalize wc=w7 at*;have c0:=H7.out.c_b
  have hcu:S.blocks % 64<S.cur.length:=by rw[HW.out.cur];omega
  obtain⟨v1,c1⟩:∃v,w7.cell? ⟨g+3,4+S.blocks % 64,none⟩=some v:=⟨_,H7.out.c_cur (S.blocks % 64) hcu⟩
  have f1:=H7.out.f_mk (4+S.blocks % 64)
  have i1:(0:Int)≤(S.blocks:Int) % 64:=by omega
  have i2:(S.blocks:Int) % 64<64:=by omega
  obtain⟨bk,hbk⟩:∃bk,bk=S.blocks:=⟨_,rfl⟩
  obtain⟨k1,hk1⟩:∃k1,k1=N.2:=⟨_,rfl⟩
  rw[←hk1];simp only[←hbk]at c0 c1 f1 i1 i2
  have HBk:=jH hbk;clear hbk
  have HK1:=jH hk1;clear hk1
  have hbl7:bk<17408:=by rw[HBk.out];exact hbl
  unfold kAb;go_wp2
  go_region
  obtain⟨w8,hw8⟩:∃w8,w8=(w7.setCell ⟨g+3,4+bk % 64,none⟩ (.int .u16 (k1:Nat))).drew:=⟨_,rfl⟩
  have H8:Hid (kBv val8 1 182 152 145 153 w8 g {S with lows:=N.1,cur:=S.cur.set (bk % 64) k1} N.1 S.mids am1 cm1 al1 cl1):=jH (by rw[hw8];exact(H7.out.set_cur (bk % 64) k1).drew);have A8:Hid (kB2 g w w8 am al am1 al1):=jH (by rw[hw8];exact(A7.out.store (g+3) (4+bk % 64) _ (by omega)).drew);rw[←hw8];clear hw8 c0 c1 f1 H7 A7;have HW8:Hid (MkW {S with lows:=N.1,cur:=S.cur.set (bk % 64) k1}):=jH ⟨HW7.out.top,by simpa using HW7.out.cur,HW7.out.low,HW7.out.mid⟩;clear HW7
  obtain⟨cur8,hc8⟩:∃c,c=S.cur.set (bk % 64) k1:=⟨_,rfl⟩
  rw[←hc8]at H8 HW8
  have HC8:=jH hc8;clear hc8
  have c0:=H8.out.c_b;have f0:=H8.out.f_mk 3;simp only[←HBk.out]at c0;have H9:=jH (H8.out.set_blocks (bk+1));have A9:=jH (A8.out.store (g+3) 3 (.int .i64 ((bk+1:Nat):Int)) (by omega));rw[show((bk+1:Nat):Int)=(bk:Int)+1 by omega]at H9 A9;have d0:=H9.out.c_b;simp only at d0;rw[show((bk+1:Nat):Int)=(bk:Int)+1 by omega]at d0;generalize hw9:w8.setCell ⟨g+3,3,none⟩ (.int .i64 ((bk:Int)+1))=w9 at*
  by_cases h64:(bk+1) % 64=0
  ·have h64i:¬(0:Int)<((bk:Int)+1) % 64:=by omega
   have HW9:Hid (MkW {S with lows:=N.1,cur:=cur8,blocks:=bk+1}):=jH ⟨HW8.out.top,HW8.out.cur,HW8.out.low,HW8.out.mid⟩;have hc9:cur8.length=64:=HW8.out.cur
   have hbs9:(kAh kAb cur8).length=64:=by rw[kAf (sz:=1) (fun _=>rfl),hc9]
   have HR9:Hid (w9.rangeAt (g+3) 4 (kAh kAb cur8)):=jH H9.out.r_cur;have e0:=H9.out.c_mm
   go_upto_region 9 with(fail)
   refine wp_region_still_lit (by kernel_rfl) (by kernel_rfl) ?_
   iterate 7 still_step
   refine kBc rfl 145 (.tmp 78) rfl (g+3) 4 rfl (kAh kAb cur8) _ (show w9.drew.rangeAt (g+3) 4 (kAh kAb cur8)from HR9.out) Tryz.underlying145 rfl (by rw[hbs9];kernel_rfl) ?_;refine kDf rfl 172 (.tmp 75) (.tmp 79) true rfl (.map (some (g+2))) (kD8 kAb cur8) _ rfl rfl (Tryz.k16.lookup Tryz.underlying172 (fun w=>by kernel_rfl) (w:=w9.drew) (b:=g+2) H9.out.mm_ cur8 hc9 HW9.out.mid) ?_;rw[show kAq (fun a b=>decide (a=b)) cur8 S.mids=kAq kDs cur8 S.mids from rfl,kG6]
   obtain⟨k2,hk2⟩:∃k2,k2=(kAq kDs cur8 S.mids).getD 0:=⟨_,rfl⟩
   obtain⟨met2,hmet2⟩:∃met2,met2=(kAq kDs cur8 S.mids).isSome:=⟨_,rfl⟩
   rw[←hk2,←hmet2]
   have HK2:=jH (And.intro hk2 hmet2);clear hk2 hmet2
   repeat still_step
   refine wpStill_nil ?_
   change Exit.then _ _ _ _ (World.drew w9)
   have H10:=jH H9.out.drew;have A10:=jH A9.out.drew;have HR10:Hid (w9.drew.rangeAt (g+3) 4 (kAh kAb cur8)):=jH HR9.out;clear H9 A9 HR9 e0 d0 c0 f0 hw9 H8 A8;generalize w9.drew=w10 at*
   go_upto_if 84 with(fail)
   go_cut [4]from 85 (MidR g w {S with lows:=N.1,cur:=cur8,blocks:=bk+1} am al)
   case first=>
    cases met2
    ·have hf:kAq kDs cur8 S.mids=none:=by
      have h:=HK2.out.2
      cases h2:kAq kDs cur8 S.mids with
      | none=>rfl
      | some k=>rw[h2]at h;cases h
     have HF:=jH hf;clear hf
     have c0:=H10.out.c_t;have c1:=H10.out.c_mid HW9.out;simp only at c1
     have hn1:S.mids.length<17408:=by omega
     have hg4:g+4≤w10.heap.size:=H10.out.lt
     go_upto_region 12 with(fail)
     refine(wpIn_wide (n:=2)).1 ?_;refine kAj [17,18,19] (fun w':World=>w'.cell? ⟨g+3,0,none⟩=some (.pointer (some ⟨g,0,none⟩))∧w'.cell? ⟨g,272,none⟩=some (.slice am1 S.mids.length cm1)∧w'.rangeAt (g+3) 4 (kAh kAb cur8)) (by kernel_rfl) ?_;have HCx:Hid ((fun w':World=>w'.cell? ⟨g+3,0,none⟩=some (.pointer (some ⟨g,0,none⟩))∧w'.cell? ⟨g,272,none⟩=some (.slice am1 S.mids.length cm1)∧w'.rangeAt (g+3) 4 (kAh kAb cur8)) w10.drew):=jH ⟨c0,c1,HR10.out⟩;clear c0 c1;have H11:=jH H10.out.drew;have A11:=jH A10.out.drew;have hg5:g+4≤w10.drew.heap.size:=hg4;generalize w10.drew=w11 at*;refine' kAa (i:=0) (v:=_) [1,2,3,17,18,19] (by kernel_rfl) rfl (by kernel_rfl) (fun _ _ _ h=>h) (by rfl) ?hv12x0 HCx.out ?h12x0
     case hv12x0=>
      rintro w' ⟨c0,c1,c2⟩
      go_simp
      try with_reducible rfl
     simp only[jA,jB,jC,Act.put,jD,jE,jF];refine' kAa (i:=1) (v:=_) [2,3,17,18,19] (by kernel_rfl) rfl (by kernel_rfl) (fun _ _ _ h=>h) (by rfl) ?hv12x1 HCx.out ?h12x1
     case hv12x1=>
      rintro w' ⟨c0,c1,c2⟩
      go_simp
      try with_reducible rfl
     simp only[jA,jB,jC,Act.put,jD,jE,jF];refine' kAa (i:=2) (v:=_) [3,17,18,19] (by kernel_rfl) rfl (by kernel_rfl) (fun _ _ _ h=>h) (by rfl) ?hv12x2 HCx.out ?h12x2
     case hv12x2=>
      rintro w' ⟨c0,c1,c2⟩
      go_simp
      try with_reducible rfl
     simp only[jA,jB,jC,Act.put,jD,jE,jF];refine' kAa (i:=3) (v:=_) [17,18,19] (by kernel_rfl) rfl (by kernel_rfl) (fun _ _ _ h=>h) (by rfl) ?hv12x3 HCx.out ?h12x3
     case hv12x3=>
      rintro w' ⟨c0,c1,c2⟩
      go_simp
      try with_reducible rfl
     simp only[jA,jB,jC,Act.put,jD,jE,jF];refine' kAa (i:=4) (v:=_) [5,6,7,8,9,10,16,17,18,19] (by kernel_rfl) rfl (by kernel_rfl) (fun _ _ _ h=>h) (by rfl) ?hv12x4 HCx.out ?h12x4
     case hv12x4=>
      rintro w' ⟨c0,c1,c2⟩
      go_simp
      try with_reducible rfl
     simp only[jA,jB,jC,Act.put,jD,jE,jF];refine' kAa (i:=5) (v:=_) [6,7,8,9,10,16,17,18,19] (by kernel_rfl) rfl (by kernel_rfl) (fun _ _ _ h=>h) (by rfl) ?hv12x5 HCx.out ?h12x5
     case hv12x5=>
      rintro w' ⟨c0,c1,c2⟩
      go_simp
      try with_reducible rfl
     simp only[jA,jB,jC,Act.put,jD,jE,jF];refine' kAa (i:=6) (v:=_) [7,8,9,10,16,17,18,19] (by kernel_rfl) rfl (by kernel_rfl) (fun _ _ _ h=>h) (by rfl) ?hv12x6 HCx.out ?h12x6
     case hv12x6=>
      rintro w' ⟨c0,c1,c2⟩
      go_simp
      try with_reducible rfl
     simp only[jA,jB,jC,Act.put,jD,jE,jF];refine' kAa (i:=7) (v:=_) [8,9,10,16,17,18,19] (by kernel_rfl) rfl (by kernel_rfl) (fun _ _ _ h=>h) (by rfl) ?hv12x7 HCx.out ?h12x7
     case hv12x7=>
      rintro w' ⟨c0,c1,c2⟩
      go_simp
      try with_reducible rfl
     simp only[jA,jB,jC,Act.put,jD,jE,jF];refine' kAa (i:=8) (v:=_) [9,10,16,17,18,19] (by kernel_rfl) rfl (by kernel_rfl) (fun _ _ _ h=>h) (by rfl) ?hv12x8 HCx.out ?h12x8
     case hv12x8=>
      rintro w' ⟨c0,c1,c2⟩
      go_simp
      try with_reducible rfl
     simp only[jA,jB,jC,Act.put,jD,jE,jF];refine' kAa (i:=9) (v:=_) [10,16,17,18,19] (by kernel_rfl) rfl (by kernel_rfl) (fun _ _ _ h=>h) (by rfl) ?hv12x9 HCx.out ?h12x9
     case hv12x9=>
      rintro w' ⟨c0,c1,c2⟩
      go_simp
      try with_reducible rfl
     simp only[jA,jB,jC,Act.put,jD,jE,jF];refine' kAa (i:=10) (v:=_) [16,17,18,19] (by kernel_rfl) rfl (by kernel_rfl) (fun _ _ _ h=>h) (by rfl) ?hv12x10 HCx.out ?h12x10
     case hv12x10=>
      rintro w' ⟨c0,c1,c2⟩
      go_simp
      try with_reducible rfl
     simp only[jA,jB,jC,Act.put,jD,jE,jF];refine' kAa (i:=11) (v:=_) [12,13,14,15,16,17,18,19] (by kernel_rfl) rfl (by kernel_rfl) (fun _ _ _ h=>h) (by rfl) ?hv12x11 HCx.out ?h12x11
     case hv12x11=>
      rintro w' ⟨c0,c1,c2⟩
      go_simp
      try with_reducible rfl
     simp only[jA,jB,jC,Act.put,jD,jE,jF];refine' kAa (i:=12) (v:=_) [13,14,15,16,17,18,19] (by kernel_rfl) rfl (by kernel_rfl) (fun _ _ _ h=>h) (by rfl) ?hv12x12 HCx.out ?h12x12
     case hv12x12=>
      rintro w' ⟨c0,c1,c2⟩
      go_simp
      try with_reducible rfl
     simp only[jA,jB,jC,Act.put,jD,jE,jF];refine' kAa (i:=13) (v:=_) [14,15,16,17,18,19] (by kernel_rfl) rfl (by kernel_rfl) (fun _ _ _ h=>h) (by rfl) ?hv12x13 HCx.out ?h12x13
     case hv12x13=>
      rintro w' ⟨c0,c1,c2⟩
      go_simp
      try with_reducible rfl
     simp only[jA,jB,jC,Act.put,jD,jE,jF];refine' kAa (i:=14) (v:=_) [15,16,17,18,19] (by kernel_rfl) rfl (by kernel_rfl) (fun _ _ _ h=>h) (by rfl) ?hv12x14 HCx.out ?h12x14
     case hv12x14=>exact fun w' hC=>by refine kC4 145 (.tmp 107) ?_ (g+3) 4 ?_ (kAh kAb cur8) (.array 64 29) hC.2.2 Tryz.underlying145 rfl (by rw[hbs9];kernel_rfl)<;>rfl
     simp only[jA,jB,jC,Act.put,jD,jE,jF];refine kDp (i:=15) (v:= .slice (some ⟨w11.heap.size,0,none⟩) 1 1) (w':=w11.alloc (.cells (kAh kAb cur8).toArray 145)) (by kernel_rfl) rfl (by kernel_rfl) (by rfl) (by go_simp;exact congrArg (fun c=>w11.alloc (.cells c 145)) (kE6 (kAh kAb cur8) _ (by rw[hbs9];rfl))) ⟨kBm HCx.out.1 _,kBm HCx.out.2.1 _,World.rangeAt_alloc HCx.out.2.2 _⟩ ?_;simp only[jA,jB,jC,Act.put,jD,jE,jF]
     have hkb:∀k,(Value.slice am1 S.mids.length cm1).ownBlock=some k→g+4≤k:=fun k e=>(World.ownsRow.lt H11.out.rm k e).1
     refine kE3 (i:=16) Tryz.elemB16 (by kernel_rfl) rfl (by kernel_rfl) (by rfl) (.tmp 104) (.tmp 109) rfl H11.out.rm (by simp only;omega) (by simp only;omega) hg5 (kAh kAb cur8) hbs9 (fun u hu=>kHu cur8 u (by simpa using hu)) 145 rfl rfl (fun w' hg=>⟨kAy hg HCx.out.1 (fun k e=>by have:=hkb k e;omega),kAy hg HCx.out.2.1 (fun k e=>by have:=hkb k e;omega),kBs hg HCx.out.2.2 (fun k e=>by have:=hkb k e;omega)⟩) ?_;intro am' cm' w5 ho5 hg5' hn5;simp only[jA,jB,jC,Act.put,jD,jE,jF];refine kBp 17 (by rfl) (by kernel_rfl) (by kernel_rfl) ?_;simp only[List.drop_succ_cons,List.drop_zero];have HP:=jH (H11.out.push_mid HW9.out cur8 ho5 hg5' hn5);have c1:=kAy hg5' HCx.out.2.1 (fun k e=>by have:=hkb k e;omega);have f1:w5.frozen? ⟨g,272,none⟩=false:=jO w5 g 272 _ _ ((kAt hg5' (by omega) (fun k e=>by have:=hkb k e;omega)).trans H11.out.tr);have A5:Hid (kB2 g w w5 am al am' al1):=jH (A11.out.trans (.mid al1 hg5' hn5));clear ho5 hg5' hn5 hkb
     gi_wp2
     obtain⟨w6,hw6⟩:∃w6,w6=w5.setCell ⟨g,272,none⟩ (.slice am' (S.mids.length+1) cm'):=⟨_,rfl⟩
     have H6:Hid (kBv val8 1 182 152 145 153 w6 g {S with lows:=N.1,cur:=cur8,blocks:=bk+1,mids:=S.mids++[cur8]} N.1 S.mids am' cm' al1 cl1):=jH (by rw[hw6];exact HP.out);have A6:Hid (kB2 g w w6 am al am' al1):=jH (by rw[hw6];exact A5.out.store g 272 _ (by omega));have HR6:Hid (w6.rangeAt (g+3) 4 (kAh kAb cur8)):=jH H6.out.r_cur;rw[←hw6];clear hw6 HP A5 c1 f1 HCx H11 A11;have c0:=H6.out.c_mm;refine wp_region_still_tail 9 (by kernel_rfl) (by kernel_rfl) ?_;simp only[List.take_succ_cons,List.take_zero,List.drop_succ_cons,List.drop_zero]
     change wpStill _ _ (World.drew _) (fun a'=>wpList _ _ _ _ a' (World.drew _)) _ _
     iterate 7 still_step
     refine kBc rfl 145 (.tmp 119) rfl (g+3) 4 rfl (kAh kAb cur8) _ (show w6.drew.rangeAt (g+3) 4 (kAh kAb cur8)from HR6.out) Tryz.underlying145 rfl (by rw[hbs9];kernel_rfl) ?_
     still_step
     refine wpStill_nil ?_;refine kAz rfl 172 (.tmp 116) (.tmp 120) (.tmp 121) rfl (.map (some (g+2))) (kD8 kAb cur8) (.int .u16 (S.mids.length:Nat)) rfl rfl rfl (Tryz.k16.store Tryz.underlying172 (w:=w6.drew) (b:=g+2) H6.out.mm_ cur8 hc9 HW9.out.mid HF.out) ?_;go_wp2
     go_meet
     case rel=>
      have hnb:kBg kDs S.mids cur8=(S.mids++[cur8],S.mids.length):=by unfold kBg;rw[HF.out]
      refine⟨al1,cl1,am',cm',by simp only[hnb];rfl,?_,A6.out.drew.put (g+2) _ (by omega)⟩;simp only[hnb];exact H6.out.drew.put_mm (S.mids++[cur8])
    ·obtain⟨k,hf⟩:∃k,kAq kDs cur8 S.mids=some k:=by
      have h:=HK2.out.2
      cases h2:kAq kDs cur8 S.mids with
      | none=>rw[h2]at h;cases h
      | some k=>exact⟨k,rfl⟩
     have hk:Hid (k2=k):=jH (by have h:=HK2.out.1;rw[hf]at h;exact h)
     have HF:=jH hf;clear hf
     go_wp2
     go_meet
     case rel=>
      have hnb:kBg kDs S.mids cur8=(S.mids,k):=by unfold kBg;rw[HF.out]
      refine⟨al1,cl1,am1,cm1,by simp only[hnb,hk.out];rfl,?_,A10.out⟩;simp only[hnb];exact H10.out
   case rest=>
    obtain⟨al2,cl2,am2,cm2,rfl,hk3,hb3⟩:=hcut;simp only at hk3
    obtain⟨M,hM2⟩:∃M,M=kBg kDs S.mids cur8:=⟨_,rfl⟩
    rw[←hM2]at hk3 ⊢;have HM2:=jH hM2
    have hmid2:∀l∈M.1,l.length=64:=by rw[hM2];exact kEb HW9.out.mid hc9
    clear hM2;have H12:=jH hk3;have A12:=jH hb3;have HW12:Hid (MkW {S with lows:=N.1,cur:=cur8,blocks:=bk+1,mids:=M.1}):=jH ⟨HW9.out.top,HW9.out.cur,HW9.out.low,hmid2⟩;clear hk3 hb3 hmid2 H10 A10 HR10;generalize wc=w12 at*
    obtain⟨q,hq⟩:∃q,q=bk / 64:=⟨_,rfl⟩
    have hq1:q<272:=by omega
    have hq2:((bk:Int)+1) / 64 - 1=(q:Int):=by omega
    have hq0:(0:Int)≤(bk:Int)+1:=by omega
    have HQ:=jH hq;clear hq
    obtain⟨v2,c2⟩:=H12.out.c_top HW12.out q hq1;have f2:=H12.out.f_tr q;have c0:=H12.out.c_t;have c1:=H12.out.c_b;simp only at c1;rw[show((bk+1:Nat):Int)=(bk:Int)+1 by omega]at c1
    obtain⟨k3,hk3⟩:∃k3,k3=M.2:=⟨_,rfl⟩
    rw[←hk3]
    have HK3:=jH hk3;clear hk3
    unfold kAb;go_wp2
    go_region
    go_end0
    have e:kE2 eq8 S b={top:=S.top.set q k3,cur:=cur8,lows:=N.1,mids:=M.1,blocks:=bk+1}:=by
     rw[kBn (by rw[←HBk.out];exact h64),←HBk.out,←HN.out,←HK1.out,←HC8.out,←HM2.out,←HK3.out,←HQ.out]
    rw[e];exact⟨rfl,am2,cm2,al2,cl2,(H12.out.set_top HW12.out q k3 hq1).drew,(A12.out.store g q _ (by omega)).drew⟩
  ·have h64i:(0:Int)<((bk:Int)+1) % 64:=by omega
   go_wp2
   refine jS (results_none rfl _ _ _) rfl ?_
   have e:kE2 eq8 S b={S with cur:=cur8,lows:=N.1,blocks:=bk+1}:=by
    rw[kBo (by rw[←HBk.out];exact h64),←HBk.out,←HN.out,←HK1.out,←HC8.out]
   rw[e]
   first
    | exact⟨rfl,am1,cm1,al1,cl1,H9.out,A9.out⟩
    | exact⟨rfl,am1,cm1,al1,⟨cl1,H9.out⟩,A9.out⟩
end Go.Proofs.YtbmphakfgoompaaGreat.VJ

namespace Go.Proofs.YtbmphakfgoompaaGreat.VJ
open Go.RowKit
def S0:MkS El:={top:=List.replicate 272 0,cur:=List.replicate 64 0,lows:=[],mids:=[],blocks:=0}
theorem kTj:MkW S0:=⟨List.length_replicate,List.length_replicate,fun _ h=>absurd h (List.not_mem_nil),fun _ h=>absurd h (List.not_mem_nil)⟩
theorem kGe (w:World):
  Calls Tryz.prog 104 #[] w fun e w'=>e= .returned (.pointer (some ⟨w.heap.size+3,0,none⟩))∧
   kBv val8 1 182 152 145 153 w' w.heap.size S0 [] [] none 0 none 0∧Below w.heap.size w w':=by
 go_enter Tryz.func104,Tryz.ntmps104
 go_upto_region 1 with(fail)
 refine wp_region_list ?_;refine kAc (v:= .agg (trC S0 none 0 none 0).toArray) (w':=w) rfl (by kernel_rfl) ?_;refine kAc (v:= .pointer (some ⟨w.heap.size,0,none⟩)) (w':=w.alloc (.cells (trC S0 none 0 none 0).toArray 152)) rfl (by kernel_rfl) ?_
 obtain⟨w1,hw1⟩:∃w1,w1=w.alloc (.cells (trC S0 none 0 none 0).toArray 152):=⟨_,rfl⟩
 have hs1:w1.heap.size=w.heap.size+1:=by rw[hw1];simp
 rw[←hw1];refine kAc (v:= .map (some (w.heap.size+1))) (w':=w1.alloc (.map #[] 0)) rfl (by rw[←hs1];kernel_rfl) ?_
 obtain⟨w2,hw2⟩:∃w2,w2=w1.alloc (.map #[] 0):=⟨_,rfl⟩
 have hs2:w2.heap.size=w.heap.size+2:=by rw[hw2];simp[hs1]
 rw[←hw2];refine kAc (v:= .map (some (w.heap.size+2))) (w':=w2.alloc (.map #[] 0)) rfl (by rw[←hs2];kernel_rfl) ?_
 obtain⟨w3,hw3⟩:∃w3,w3=w2.alloc (.map #[] 0):=⟨_,rfl⟩
 have hs3:w3.heap.size=w.heap.size+3:=by rw[hw3];simp[hs2]
 rw[←hw3];refine kAc (v:= .agg (mkC w.heap.size S0).toArray) (w':=w3) rfl (by kernel_rfl) ?_;refine kAc (v:= .pointer (some ⟨w.heap.size+3,0,none⟩)) (w':=w3.alloc (.cells (mkC w.heap.size S0).toArray 182)) rfl (by rw[←hs3];kernel_rfl) ?_
 obtain⟨w4,hw4⟩:∃w4,w4=w3.alloc (.cells (mkC w.heap.size S0).toArray 182):=⟨_,rfl⟩
 rw[←hw4];refine kAc (v:= .pointer (some ⟨w.heap.size+3,0,none⟩)) (w':=w4) rfl (by kernel_rfl) ?_
 have b1:Below w.heap.size w w1:=by rw[hw1];exact(Below.refl _ _).alloc jR _
 have b2:Below w1.heap.size w1 w2:=by rw[hw2];exact(Below.refl _ _).alloc jR _
 have b3:Below w2.heap.size w2 w3:=by rw[hw3];exact(Below.refl _ _).alloc jR _
 have b4:Below w3.heap.size w3 w4:=by rw[hw4];exact(Below.refl _ _).alloc jR _
 have k1:w1.heap[w.heap.size]? =some (.cells (trC S0 none 0 none 0).toArray 152 (0,0)):=by rw[hw1];exact jN w _
 have k2:w2.heap[w.heap.size+1]? =some (.map #[] 0):=by rw[←hs1,hw2];exact jN w1 _
 have k3:w3.heap[w.heap.size+2]? =some (.map #[] 0):=by rw[←hs2,hw3];exact jN w2 _
 have k4:w4.heap[w.heap.size+3]? =some (.cells (mkC w.heap.size S0).toArray 182 (0,0)):=by rw[←hs3,hw4];exact jN w3 _
 have HB:=jH (kDq (kDq (kDq b1 b2) b3) b4)
 have HM:Hid (kBv val8 1 182 152 145 153 w4 w.heap.size S0 [] [] none 0 none 0):=jH
  ⟨k4,(b4.block _ (by omega)).trans ((b3.block _ (by omega)).trans ((b2.block _ (by omega)).trans k1)),World.ownsRow_nil _ _ _ _,World.ownsRow_nil _ _ _ _,(fun k e=>by cases e),
   (b4.block _ (by omega)).trans ((b3.block _ (by omega)).trans k2),(b4.block _ (by omega)).trans k3⟩
 clear b1 b2 b3 b4 k1 k2 k3 k4 hw1 hw2 hw3 hw4 hs1 hs2 hs3;go_wp2
 go_ret
 exact⟨rfl,HM.out,HB.out⟩
def blkF (f:Nat→El) (k:Nat):List El:=(List.range 64).map (fun i=>f (64*k+i))
theorem kAw (f:Nat→El)(k:Nat):(blkF f k).length=64:=by simp[blkF]
def mkF (f:Nat→El):Nat→MkS El
 | 0=>S0
 | k+1=>kE2 eq8 (mkF f k) (blkF f k)
theorem kM7 {S:MkS El}{b:List El}(h:MkW S)(hb:b.length=64):MkW (kE2 eq8 S b)∧(kE2 eq8 S b).blocks=S.blocks+1:=by
 by_cases h1:(S.blocks+1) % 64=0
 ·rw[kBn h1];exact⟨⟨by simpa using h.top,by simpa using h.cur,kEb h.low hb,kEb h.mid (by simpa using h.cur)⟩,rfl⟩
 ·rw[kBo h1];exact⟨⟨h.top,by simpa using h.cur,kEb h.low hb,h.mid⟩,rfl⟩
theorem kCj (f:Nat→El)(k:Nat):MkW (mkF f k)∧(mkF f k).blocks=k∧(mkF f k).lows.length≤k∧(mkF f k).mids.length≤k / 64:=by
 induction k with
 | zero=>exact⟨kTj,rfl,Nat.le_refl _,Nat.le_refl _⟩
 | succ k ih=>
  obtain⟨h1,h2,h3,h4⟩:=ih;obtain⟨h5,h6⟩:=kM7 h1 (kAw f k)
  refine⟨h5,by rw[mkF,h6,h2],?_,?_⟩
  ·rw[mkF];have:=kLg eq8 (mkF f k).lows (blkF f k)
   by_cases h7:((mkF f k).blocks+1) % 64=0
   ·rw[kBn h7];simp only;omega
   ·rw[kBo h7];simp only;omega
  ·rw[mkF]
   by_cases h7:((mkF f k).blocks+1) % 64=0
   ·rw[kBn h7];have:=kLg kDs (mkF f k).mids ((mkF f k).cur.set ((mkF f k).blocks % 64) (kBg eq8 (mkF f k).lows (blkF f k)).2);simp only;omega
   ·rw[kBo h7];simp only;omega
theorem kKy.mkAt (B:Nat){W W':World}{g:Nat}{S:MkS El}{ml:List (List El)}{mm:List (List Nat)}{am:Option Addr}{cm:Nat}{al:Option Addr}{cl:Nat}{tM tT tA tV:TypeId}(hk:kKy B W W')(hB:B≤g)
  (h:kBv val8 1 tM tT tA tV W g S ml mm am cm al cl):kBv val8 1 tM tT tA tV W' g S ml mm am cm al cl:=by
 have hl:=h.lt;have k:∀b,B≤b→b<W.heap.size→W'.heap[b]? =W.heap[b]? :=hk.block
 have r:∀ {E:TypeId} {s:Nat} {v:Value} {n:Nat} {xs:List Value},W.ownsRow (g+4) E s v n xs→W'.ownsRow (g+4) E s v n xs:=fun {E s v n xs} h=>by
  refine⟨h.1,?_⟩
  rcases h.2 with hn | ⟨gg,cap,cur,e,hbg,hgg,rest⟩
  ·exact .inl hn
  ·exact .inr ⟨gg,cap,cur,e,hbg,by rw[k gg (by omega) (jL hgg)];exact hgg,rest⟩
 exact⟨(k _ (by omega) (by omega)).trans h.mk_,(k _ hB (by omega)).trans h.tr,r h.rm,r h.rl,h.ap,(k _ (by omega) (by omega)).trans h.lm,(k _ (by omega) (by omega)).trans h.mm_⟩
def FilR (B:Nat) (f:Nat→El) (J:Nat→World→Prop) (g bB:Nat) (i:Value) (wr:World):Prop:=
 ∃(r:Nat) (bc:List El) (am:Option Addr) (cm:Nat) (al:Option Addr) (cl:Nat),r≤1114112∧i= .int .i32 r∧bc.length=64∧(∀j,j<r % 64→bc[j]? =some (f (64*(r / 64)+j)))∧
  wr.heap[bB]? =some (.cells (kAh val8 bc).toArray 153 (0,0))∧
  kBv val8 1 182 152 145 153 wr g (mkF f (r / 64)) (mkF f (r / 64)).lows (mkF f (r / 64)).mids am cm al cl∧J r wr∧
  (∀k,(Value.slice am (mkF f (r / 64)).mids.length cm).ownBlock=some k∨(Value.slice al (mkF f (r / 64)).lows.length cl).ownBlock=some k→k≠bB)
theorem Fill8_walk (cf:Nat)(lb:Array Value)(w:World)(f:Nat→El)(J:Nat→World→Prop)(eg:∀args W,(callFunc cf args).run Tryz.prog W= .ok (.enter cf args) W)
  (hJ:∀k W W',J k W→Below w.heap.size W W'→J k W')
  (hcall:∀k W,k<1114112→J k W→w.heap.size≤W.heap.size→Calls Tryz.prog cf (#[.int .i32 (k:Nat)]++lb) W fun e W'=>e= .returned (val8 (f k))∧J (k+1) W'∧kKy w.heap.size W W')
  (h0:J 0 w):
  Calls Tryz.prog 58 #[.func (.func cf) #[] lb] w fun e w'=>∃g,e= .returned (.pointer (some ⟨g,0,none⟩))∧w.heap.size≤g∧
   (∃am cm al cl,kBv val8 1 182 152 145 153 w' g (mkF f 17408) (mkF f 17408).lows (mkF f 17408).mids am cm al cl)∧J 1114112 w':=by
 have HJ:=jH hJ;clear hJ
 have HCl:=jH hcall;clear hcall
 have H0:=jH h0;clear h0
 have HEg:=jH eg;clear eg
 have qF:=fun(w:World) (cs:Array Value)=>kFd (P:= Tryz.prog) w 81 (.func cf) #[] cs _ _ _ Tryz.underlying81
 go_enter Tryz.func58,Tryz.ntmps58
 go_wp2_with fail
 refine(kGe w).mono ?_;rintro e w1 ⟨rfl,hm,hb⟩;have HM1:=jH hm
 have HB1:=jH hb;clear hm hb
 obtain⟨g,hg⟩:∃g,g=w.heap.size:=⟨_,rfl⟩
 rw[←hg]at HM1 ⊢;have hgs:g+4≤w1.heap.size:=HM1.out.lt;have HG:=jH hg;rw[←hg]at HB1
 go_upto_region 5 with(fail)
 change Code.wp _ _ _ _ (w1.alloc (.cells (kAh val8 (List.replicate 64 (0:El))).toArray 153))
 obtain⟨w2,hw2⟩:∃w2,w2=w1.alloc (.cells (kAh val8 (List.replicate 64 (0:El))).toArray 153):=⟨_,rfl⟩
 have HB2:Hid (Below w1.heap.size w1 w2):=jH (by rw[hw2];exact(Below.refl _ _).alloc jR _);have HC2:Hid (w2.heap[w1.heap.size]? =some (.cells (kAh val8 (List.replicate 64 (0:El))).toArray 153 (0,0))):=jH (by rw[hw2];exact jN w1 _);rw[←hw2];clear hw2
 obtain⟨bB,hbB⟩:∃bB,bB=w1.heap.size:=⟨_,rfl⟩
 have HM2:=jH (HM1.out.below HB2.out);rw[←hbB]at HC2 hgs ⊢;have HW02:=jH (HB1.out.trans (HB2.out.mono (by have:=HB1.out.size;have:=HG.out;omega)));have HJ2:=jH (HJ.out 0 w w2 H0.out (by rw[←HG.out];exact HW02.out));clear hbB HM1 HB1 HB2 hg;rw[←HG.out]at HCl HJ ⊢;go_wp2
 go_loopw [5] (FilR g f J g bB) (fun i _=>1114112 - (intOf i).toNat)
 case atStart=>
  exact⟨0,List.replicate 64 (0:El),none,0,none,0,Nat.zero_le _,rfl,List.length_replicate,fun j hj=>by omega,HC2.out,HM2.out,HJ2.out,fun k hk=>by rcases hk with hk | hk<;>cases hk⟩
 case round=>
  obtain⟨r,bc,am,cm,al,cl,hr,rfl,hbl,hbc,hcell,hmk,hj,hdis⟩:=hrel
  have HBc:=jH hbc;clear hbc
  have HCe:=jH hcell;clear hcell
  have HMk:=jH hmk;clear hmk
  have HJr:=jH hj;clear hj
  have HDi:=jH hdis;clear hdis
  by_cases hrN:r<1114112
  ·have hri:(r:Int)≤1114111:=by omega
   have i1:(0:Int)≤(r:Int) % 64:=by omega
   have i2:(r:Int) % 64<64:=by omega
   have heg:=HEg.out
   go_wp2_with fail
   refine(HCl.out r wr hrN HJr.out (by have:=HMk.out.lt;omega)).mono ?_;rintro e w5 ⟨rfl,hj5,hk5⟩;have HM5:=jH (kKy.mkAt g hk5 (Nat.le_refl g) HMk.out)
   have hbBl:bB<wr.heap.size:=(jL HCe.out)
   have HC5:=jH ((hk5.block bB (by omega) hbBl).trans HCe.out)
   have HJ5:=jH hj5;clear hj5
   have hs5:=hk5.size;clear hk5
   obtain⟨v1,q1⟩:∃v,w5.cell? ⟨bB,r % 64,none⟩=some v:=by
    rw[jK w5 bB (r % 64) _ _ (0,0) HC5.out,kA0];exact⟨_,by rw[List.getElem?_toArray,List.getElem?_map,List.getElem?_eq_getElem (by omega)];rfl⟩
   have f1:=jO w5 bB (r % 64) _ _ HC5.out
   have HC6:Hid ((w5.setCell ⟨bB,r % 64,none⟩ (val8 (f r))).heap[bB]? =some (.cells (kAh val8 (bc.set (r % 64) (f r))).toArray 153 (0,0))):=jH (by
    rw[jP w5 bB (r % 64) _ _ (val8 (f r)) HC5.out,kA0,kA0,List.map_set]
    simp)
   have HB6:Hid (Below g w5 (w5.setCell ⟨bB,r % 64,none⟩ (val8 (f r)))):=jH ((Below.refl g w5).setCell (p:=⟨bB,r % 64,none⟩) (by show g≤bB;omega) _)
   have HM6:Hid (kBv val8 1 182 152 145 153 (w5.setCell ⟨bB,r % 64,none⟩ (val8 (f r))) g (mkF f (r / 64)) (mkF f (r / 64)).lows (mkF f (r / 64)).mids am cm al cl):=jH (by
    have hm:=HM5.out
    have oth:∀k,k≠bB→(w5.setCell ⟨bB,r % 64,none⟩ (val8 (f r))).heap[k]? =w5.heap[k]? :=fun k hk=>jQ w5 ⟨bB,r % 64,none⟩ k _ hk
    refine⟨(oth _ (by omega)).trans hm.mk_,(oth _ (by omega)).trans hm.tr,?_,?_,hm.ap,(oth _ (by omega)).trans hm.lm,(oth _ (by omega)).trans hm.mm_⟩
    ·exact hm.rm.kept (kAd w5 bB (r % 64) _) (by
      cases e:(Value.slice am (mkF f (r / 64)).mids.length cm).ownBlock with
      | none=>exact .inl rfl
      | some k=>exact .inr (fun e2=>by cases e2;exact HDi.out bB (.inl e) rfl))
    ·exact hm.rl.kept (kAd w5 bB (r % 64) _) (by
      cases e:(Value.slice al (mkF f (r / 64)).lows.length cl).ownBlock with
      | none=>exact .inl rfl
      | some k=>exact .inr (fun e2=>by cases e2;exact HDi.out bB (.inr e) rfl)))
   have HJ6:=jH (HJ.out (r+1) w5 _ HJ5.out HB6.out)
   have hl6:bB<(w5.setCell ⟨bB,r % 64,none⟩ (val8 (f r))).heap.size:=(jL HC6.out)
   have HBs:Hid (∀j,j<r % 64+1→(bc.set (r % 64) (f r))[j]? =some (f (64*(r / 64)+j))):=jH (fun j hj=>by
    by_cases h:r % 64=j
    ·subst h;rw[List.getElem?_set_self (by omega)];rw[show 64*(r / 64)+r % 64=r by omega]
    ·rw[List.getElem?_set_ne h]
     exact HBc.out j (by omega))
   have hbl6:(bc.set (r % 64) (f r)).length=64:=by simpa using hbl
   generalize hw6:w5.setCell ⟨bB,r % 64,none⟩ (val8 (f r))=w6 at*;unfold val8 at hw6;generalize bc.set (r % 64) (f r)=bc6 at*;unfold val8
   by_cases h63:(r:Int) % 64=63
   ·have h63':((r:Int) % 64==63)=true:=beq_iff_eq.2 h63
    have HRn:=jH h63;clear h63
    obtain⟨hk1,hk2,hk3,hk4⟩:=kCj f (r / 64);have HKf:=jH hk1
    have hq:r / 64<17408:=by omega
    have hbf:bc6=blkF f (r / 64):=by
     apply List.ext_getElem?
     intro j;have h3:=HRn.out
     by_cases hj:j<64
     ·rw[HBs.out j (by omega)];simp[blkF,hj]
     ·rw[List.getElem?_eq_none (by omega),List.getElem?_eq_none (by rw[kAw];omega)]
    have HBf:=jH hbf;clear hbf
    have hbs6:(kAh val8 bc6).length=64:=by rw[kAf (sz:=1) (fun _=>rfl),hbl6]
    have HR6:Hid (w6.rangeAt bB 0 (kAh val8 bc6)):=jH (by
     have:=World.rangeAt_of_block HC6.out 0 (kAh val8 bc6).length
     simpa using this)
    go_upto_region 10 with(fail)
    refine wp_region_list ?_;refine kAc (v:= .pointer (some ⟨g+3,0,none⟩)) (w':=w6) rfl (by rfl) ?_;refine wpList_load_mid rfl 153 (.tmp 4) rfl bB 0 rfl (kAh val8 bc6) (.array 64 21) HR6.out Tryz.underlying153 rfl (by rw[hbs6];kernel_rfl) ?_
    go_wp2_with fail
    rw[HBf.out];refine(kIz w6 g (mkF f (r / 64)) (blkF f (r / 64)) am cm al cl HKf.out (kAw _ _) (by omega) (by omega) (by omega) HM6.out).mono ?_;rintro e w7 ⟨rfl,am',cm',al',cl',hm7,ha7⟩;have hB7:=ha7.to_below (fun k e=>by rw[←kA8 am (mkF f (r / 64)).mids.length cm]at e;have:=(World.ownsRow.lt HM6.out.rm k e).1;omega) (fun k e=>by rw[←kA8 al (mkF f (r / 64)).lows.length cl]at e;have:=(World.ownsRow.lt HM6.out.rl k e).1;omega) (by omega);have HJ7:=jH (HJ.out (r+1) w6 w7 HJ6.out hB7);have HC7:=jH ((ha7.oth bB hl6 (by omega) (fun e=>HDi.out bB (.inl (by rw[kA8];exact e)) rfl) (fun e=>HDi.out bB (.inr (by rw[kA8];exact e)) rfl)).trans HC6.out);have HM7:=jH hm7
    have HDi7:Hid (∀k,(Value.slice am' (mkF f (r / 64+1)).mids.length cm').ownBlock=some k∨(Value.slice al' (mkF f (r / 64+1)).lows.length cl').ownBlock=some k→k≠bB):=jH (fun k hk=>by
     rw[kA8,kA8]at hk
     rcases hk with hk | hk
     ·rcases ha7.na k hk with h | h
      ·exact HDi.out k (.inl (by rw[kA8];exact h))
      ·omega
     ·rcases ha7.nl k hk with h | h
      ·exact HDi.out k (.inr (by rw[kA8];exact h))
      ·omega)
    clear hm7 ha7 hB7 hk1 hk2 hk3 hk4;go_wp2
    go_roundw
    case rel=>
     have h3:=HRn.out
     refine⟨r+1,bc6,am',cm',al',cl',by omega,by go_num,hbl6,fun j hj=>by omega,HC7.out,?_,HJ7.out,?_⟩
     ·rw[show(r+1) / 64=r / 64+1 by omega];exact HM7.out
     ·rw[show(r+1) / 64=r / 64+1 by omega];exact HDi7.out
    case measure=>simp[intOf];omega
   ·have h63':((r:Int) % 64==63)=false:=beq_false_of_ne h63
    have HRn:=jH h63;clear h63
    go_wp2
    go_roundw
    case rel=>
     have h3:=HRn.out
     refine⟨r+1,bc6,am,cm,al,cl,by omega,by go_num,hbl6,fun j hj=> ?_,HC6.out,?_,HJ6.out,?_⟩
     ·rw[show(r+1) / 64=r / 64 by omega];exact HBs.out j (by omega)
     ·rw[show(r+1) / 64=r / 64 by omega];exact HM6.out
     ·rw[show(r+1) / 64=r / 64 by omega];exact HDi.out
    case measure=>simp[intOf];omega
  ·have hr2:r=1114112:=by omega
   have hri:¬(r:Int)≤1114111:=by omega
   have hq:r / 64=17408:=by omega
   have HM8:Hid (kBv val8 1 182 152 145 153 wr g (mkF f 17408) (mkF f 17408).lows (mkF f 17408).mids am cm al cl):=jH (by rw[←hq];exact HMk.out);have HJ8:Hid (J 1114112 wr):=jH (by rw[←hr2];exact HJr.out);clear hr2 hq;have c0:=HM8.out.c_t;go_wp2
   go_ret
   exact⟨g,rfl,by rw[←HG.out];exact Nat.le_refl _,⟨am,cm,al,cl,HM8.out⟩,HJ8.out⟩
end Go.Proofs.YtbmphakfgoompaaGreat.VJ

namespace Go.Proofs.YtbmphakfgoompaaGreat.VJ
open Go.RowKit
theorem inv8 (f:Nat→El):∀k,k≤17408→kRw (blkF f) k (mkF f k):=by
 intro k
 induction k with
 | zero=>intro _;exact kRw.zero _ _ rfl rfl rfl
 | succ k ih=>
  intro hk;obtain⟨h1,h2, -⟩:=kCj f k;exact(ih (by omega)).next h1 h2 (kAw f k) (by omega)
structure Made8 (f:Nat→El) (S:MkS El):Prop where
 made:kR2 (blkF f) S
 ml:S.mids.length≤272
 ll:S.lows.length≤17408
 eq:∃K,K=17408∧S=mkF f K
theorem made8 (f:Nat→El):∀K,K=17408→Made8 f (mkF f K):=fun K hK=>by
 obtain⟨hw, -,hl,hm⟩:=kCj f K;refine⟨⟨?_,hw⟩,by omega,by omega,K,hK,rfl⟩;have:=inv8 f K (by omega);subst hK;exact this
def trieS (S:MkS El):kAp El:=⟨S.top,S.mids,S.lows⟩
theorem trieS_at {f:Nat→El}{S:MkS El}(hM:Made8 f S){w:World}{g:Nat}{am:Option Addr}{cm:Nat}{al:Option Addr}{cl:Nat}
  (h:kBv val8 1 182 152 145 153 w g S S.lows S.mids am cm al cl):kAu val8 152 64 w g (trieS S):=by
 refine⟨am,cm,al,cl,h.tr,?_,?_⟩
 ·exact kA1 h.rm (fun l hl=>by rw[kAf (sz:=1) (fun _=>rfl),hM.made.ok.mid l hl])
 ·exact kA1 h.rl (fun l hl=>by rw[kAf (sz:=1) (fun _=>rfl),hM.made.ok.low l hl])
theorem Made8.trie {f:Nat→El}{S:MkS El}(hM:Made8 f S):kBk (trieS S):=by
 refine⟨hM.made.ok.top,hM.made.ok.mid,hM.made.ok.low,fun k hk=> ?_,fun m hm k hk=> ?_,hM.ml,hM.ll⟩
 ·obtain⟨c,hc,rfl⟩:=List.mem_iff_getElem.1 hk
  have hc2:c<272:=by have:=hM.made.ok.top;unfold trieS at hc;simp only at hc;omega
  obtain⟨i,m,h1,h2, -⟩:=hM.made.inv.tp c (by omega);rw[show S.top[c]? =some ((trieS S).top[c])from List.getElem?_eq_getElem hc]at h1;have e:=Option.some.inj h1;rw[e];exact(List.getElem?_eq_some_iff.1 h2).1
 ·obtain⟨c, -,hr⟩:=hM.made.inv.md m hm;exact hr.lt (hM.made.ok.mid m hm) k hk
theorem Made8.pos {f:Nat→El}{S:MkS El}(hM:Made8 f S):0<S.lows.length∧0<S.mids.length:=by
 have h1:=hM.made.inv.hl 0 (by omega);obtain⟨i,m, -,h2, -⟩:=hM.made.inv.tp 0 (by omega);exact⟨List.length_pos_of_mem h1,List.length_pos_of_mem (List.mem_of_getElem? h2)⟩
theorem Made8.look {f:Nat→El}{S:MkS El}(hM:Made8 f S)(r:Nat)(hr:r≤1114111):kAo (0:El) (trieS S) r=f r:=by
 obtain⟨i,m,h1,h2,h3⟩:=hM.made.inv.tp (r / 4096) (by omega);obtain⟨j,h4,h5⟩:=h3 (r / 64 % 64) (by omega);unfold kAo trieS;simp only
 have e1:S.top.getD (r / 4096) 0=i:=by rw[List.getD_eq_getElem?_getD,h1];rfl
 have e2:S.mids.getD i []=m:=by rw[List.getD_eq_getElem?_getD,h2];rfl
 have e3:m.getD (r / 64 % 64) 0=j:=by rw[List.getD_eq_getElem?_getD,h4];rfl
 have e4:S.lows.getD j []=blkF f (64*(r / 4096)+r / 64 % 64):=by rw[List.getD_eq_getElem?_getD,h5];rfl
 rw[e1,e2,e3,e4];unfold blkF;rw[List.getD_eq_getElem?_getD,List.getElem?_map,List.getElem?_range (by omega)];simp only[Option.map_some,Option.getD_some]
 congr 1
 omega
end Go.Proofs.YtbmphakfgoompaaGreat.VJ
