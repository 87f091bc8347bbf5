/- several texts in one: TBW TBY -/
import Derived.Test.YtabbabkmojaoaaaNF
import Derived.Test.YtabbabkmojaoaaaOD
import Derived.Test.YtabbabkmojaoaaaNS
import Derived.Test.YtabbabkmojaoaaaXA
import Derived.Deep.RegionHeld3
import Derived.Test.YtabbabkmojaoaaaNV
import Derived.Test.YtabbabkmojaoaaaOK
import Derived.Test.YtabbabkmojaoaaaXI
set_option linter.unusedVariables false
set_option linter.unusedSimpArgs false
set_option maxRecDepth 100000
set_option maxHeartbeats 16000000
namespace Go.Proofs.Ytabbabkmojaoaaa
open Go.RowKit
attribute [local go_sem] Oper.semAt_some
theorem kL6:kKn (fun x:Int=>x):=fun x y _ _ _ _ h=>h
theorem kL7:kKn kKh:=fun x y h1 h2 h3 h4 h=>by
 unfold kKh strOfNums at h;have h:=congrArg (fun b:ByteArray=>b.data.toList.head?) h;simp at h;have h5:=congrArg UInt8.toNat h;simp at h5;omega
def twoF (v:Int):VT.El:=(v - 100,kKh (v % 7))
theorem kMt:kKn twoF:=fun x y _ _ _ _ h=>by
 have:=congrArg Prod.fst h;simp only[twoF]at this;omega
theorem kM4 (v:Int)(h0:0≤v)(h1:v≤255)(w:World):Calls Try.prog 57 #[.int .u8 v] w fun e w'=>e= .returned (VT.val8 (twoF v))∧Below w.heap.size w w':=by
 have hA:=jN w (.cells #[.int .i32 0,.string {data:= #[]}] 105);have hB:=(Below.refl w.heap.size w).alloc jR (.cells #[.int .i32 0,.string {data:= #[]}] 105)
 obtain⟨b,hb⟩:∃b,b=w.heap.size:=⟨_,rfl⟩
 obtain⟨w1,hw1⟩:∃w1,w1=w.alloc (.cells #[.int .i32 0,.string {data:= #[]}] 105):=⟨_,rfl⟩
 rw[←hw1]at hA hB;rw[←hb]at hA
 have HA:=jH hA;have HB:=jH hB;have HW:=jH hw1;have HBb:=jH hb
 clear hA hB hw1 hb
 go_enter Try.func57,Try.ntmps57
 go_upto_region 1 with(fail)
 rw[←HW.out,←HBb.out];have e0:v % 7=v % 7:=rfl
 have e1:IntKind.u8.wrap (v.tmod 7)=v % 7:=by rw[Int.tmod_eq_emod_of_nonneg h0];simp[IntKind.wrap,IntKind.bits,IntKind.signed];omega
 have e2:IntKind.i32.wrap v=v:=by unfold IntKind.wrap;simp[IntKind.bits,IntKind.signed];omega
 have e3:IntKind.i32.wrap (v - 100)=v - 100:=by unfold IntKind.wrap;simp[IntKind.bits,IntKind.signed];omega
 clear e0
 go_wp2_with fail
 refine(kKi _ _).mono ?_;rintro e w2 ⟨rfl,hb⟩;have hC:=(hb.block b (jL HA.out)).trans HA.out;have p0:=jK w2 b 0 _ _ (0,0) hC;have p1:=jK w2 b 1 _ _ (0,0) hC;have f0:=jO w2 b 0 _ _ hC;have f1:=jO w2 b 1 _ _ hC
 have HC:=jH hC;have HB2:=jH (HB.out.trans (hb.mono HB.out.size))
 have HBn:=jH (show w.heap.size≤b by rw[HBb.out];exact Nat.le_refl _);clear hb hC;go_wp2
 obtain⟨W,hW⟩:∃W,W=(w2.setCell ⟨b,0,none⟩ (.int .i32 (v - 100))).setCell ⟨b,1,none⟩ (.string (kKh (v % 7))):=⟨_,rfl⟩
 have h1:=jP w2 b 0 _ _ (.int .i32 (v - 100)) HC.out;have h2:=jP _ b 1 _ _ (.string (kKh (v % 7))) h1;have hg:=kAm (kAe w2 b 0 (.int .i32 (v - 100))) (kAe _ b 1 (.string (kKh (v % 7))));rw[←hW]at h2 hg ⊢;have y0:=jK W b 0 _ _ (0,0) h2;have y1:=jK W b 1 _ _ (0,0) h2;simp at y0 y1;refine jS (v:=VT.val8 (twoF v)) (by simp[results,Try.results57,go_sem,y0,y1,VT.val8,twoF]) rfl ?_;exact⟨rfl,HB2.out.trans (kBa hg (fun k e=>by cases e;exact HBn.out) HB2.out.size)⟩
end Go.Proofs.Ytabbabkmojaoaaa

namespace Go.Proofs.Ytabbabkmojaoaaa
open Go.RowKit
attribute [local go_sem] Oper.semAt_some
theorem trieBuilds_walk (w:World)(rest:Int)(a:Option Addr)(n c:Nat)(l:List SpanD)(hl:l.length=n)(hs:SpansAt w a l)(hwf:∀s∈l, -2147483648≤s.f∧s.f≤2147483647∧ -2147483648≤s.t∧s.t≤2147483647)(hv:∀s∈l,0≤s.v∧s.v≤255)(hr:0≤rest∧rest≤255)
  (az:Option Addr)(nz cz:Nat)(zs:List Int)(hz:Ints .i32 w az zs)(hzn:zs.length=nz)(hzb:∀z∈zs, -2147483648≤z∧z≤2147483647):
  Calls Try.prog 11 #[.int .u8 rest,.slice a n c,.slice az nz cz] w fun e w'=>e= .returned (.bool true)∧Below w.heap.size w w':=by
 by_cases hn:60<n
 ·have hni:(60:Int)<(n:Int):=by omega
  have dni:decide ((60:Int)<(n:Int))=true:=decide_eq_true hni;clear hl hs hwf hv hz hzn hzb
  go_enter Try.func11,Try.ntmps11
  go_wp2_with fail
  refine(kGy _).mono ?_;rintro e w1 ⟨rfl,hb⟩
  have HB:=jH hb;clear hb
  go_wp2
  go_ret
  exact⟨rfl,HB.out⟩
 have hni:¬(60:Int)<(n:Int):=by omega
 have dni:decide ((60:Int)<(n:Int))=false:=decide_eq_false hni;have B8:=jH (built_walk w rest a n c l hl (by omega) hs hwf hv hr (fun x=>x) kL6 (fun v _ _ W=>kMe v W) az nz cz zs hz hzn hzb);have BS:=jH (VS.built_walk w rest a n c l hl (by omega) hs hwf hv hr kKh kL7 (fun v _ _ W=>kKi v W) az nz cz zs hz hzn hzb);have BT:=jH (VT.built_walk w rest a n c l hl (by omega) hs hwf hv hr twoF kMt (fun v h1 h2 W=>kM4 v h1 h2 W) az nz cz zs hz hzn hzb)
 have em:IntKind.u8.wrap (rest.tmod 3)=rest % 3:=by rw[Int.tmod_eq_emod_of_nonneg hr.1];simp[IntKind.wrap,IntKind.bits,IntKind.signed];omega
 have hm3:rest % 3=0∨rest % 3=1∨rest % 3=2:=by omega
 clear hl hs hwf hv hz hzn hzb hn
 rcases hm3 with hm | hm | hm
 ·go_enter Try.func11,Try.ntmps11
  go_wp2_with fail
  refine B8.out.mono ?_;clear B8 BS BT;rintro e w1 ⟨rfl,hb⟩
  have HB:=jH hb;clear hb
  go_wp2_with fail
  refine(kGy _).mono ?_;rintro e w2 ⟨rfl,hb⟩
  have HB2:=jH (HB.out.trans (hb.mono HB.out.size));clear hb
  go_wp2
  go_ret
  exact⟨rfl,HB2.out⟩
 ·go_enter Try.func11,Try.ntmps11
  go_wp2_with fail
  refine BS.out.mono ?_;clear B8 BS BT;rintro e w1 ⟨rfl,hb⟩
  have HB:=jH hb;clear hb
  go_wp2_with fail
  refine(kGy _).mono ?_;rintro e w2 ⟨rfl,hb⟩
  have HB2:=jH (HB.out.trans (hb.mono HB.out.size));clear hb
  go_wp2
  go_ret
  exact⟨rfl,HB2.out⟩
 ·go_enter Try.func11,Try.ntmps11
  go_wp2_with fail
  refine BT.out.mono ?_;clear B8 BS BT;rintro e w1 ⟨rfl,hb⟩
  have HB:=jH hb;clear hb
  go_wp2_with fail
  refine(kGy _).mono ?_;rintro e w2 ⟨rfl,hb⟩
  have HB2:=jH (HB.out.trans (hb.mono HB.out.size));clear hb
  go_wp2
  go_ret
  exact⟨rfl,HB2.out⟩
end Go.Proofs.Ytabbabkmojaoaaa
