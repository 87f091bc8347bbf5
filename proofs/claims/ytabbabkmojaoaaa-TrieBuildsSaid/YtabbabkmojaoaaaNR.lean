/- several texts in one: TAI SNI WMP -/
import Derived.Test.YtabbabkmojaoaaaNC
import Derived.Deep.QuietTactic
import Derived.Deep.Cut
import Derived.BigQuiet
import Derived.Lib.Hide
import Derived.StillTailTactics
import Derived.RegionTactic
import Derived.BigRegion
import Derived.TacticsInMore
import Derived.Laws.StructEq
import Derived.Test.YtabbabkmojaoaaaNQ
import Derived.Test.YtabbabkmojaoaaaND
import Derived.Test.YtabbabkmojaoaaaNF
import Derived.Test.YtabbabkmojaoaaaNJ
set_option linter.unusedVariables false
set_option linter.unusedSimpArgs false
set_option maxRecDepth 100000
set_option maxHeartbeats 16000000
namespace Go.Proofs.Ytabbabkmojaoaaa.VI
open Go.RowKit
abbrev El:=Int
def val8 (x:El):Value:= .int .i64 x
end Go.Proofs.Ytabbabkmojaoaaa.VI

namespace Go.Proofs.Ytabbabkmojaoaaa.VI
open Go.RowKit
attribute [local go_sem] Oper.semAt_some
attribute [local go_sem] kEq
theorem Try.elemSn:kEs Try.prog 66 150 (.agg #[.int .i32 0,.int .i32 0,.int .i64 0]) 3 16:=⟨Try.underlying66,by kernel_rfl,by kernel_rfl,by decide⟩
def flatO (of:Int→El) (l:List SpanD):List Value:=l.flatMap (fun s=>[.int .i32 s.f,.int .i32 s.t,val8 (of s.v)])
theorem kEb (of:Int→El)(l:List SpanD)(s:SpanD):flatO of (l++[s])=flatO of l++[.int .i32 s.f,.int .i32 s.t,val8 (of s.v)]:=by simp[flatO]
theorem kCj {P:Program}{o:Oper}{a:Act}{w:World}(y x:Operand)(ts:Array TypeId)(ho:o.op= .call {callee:= .value y,args:= #[x],argTypes:=ts})(f:FuncId)(lb:Array Value)(hy:a.eval y= .func (.func f) #[] lb)(v:Value)(hx:a.eval x=v)(eg:∀args W,(callFunc f args).run P W= .ok (.enter f args) W):
  (execOp a.eval o).run P w= .ok (.enter f (#[v]++lb)) w:=by
 unfold execOp;simp only[ho,resolve,hy,hx,List.map_toArray,List.map_cons,List.map_nil,Sem.run_bind,Sem.run_pure,Result.andThen_ok];simp[invoke,go_sem,eg]
def SnR (w:World) (of:Int→El) (l:List SpanD) (ov iv:Value) (wr:World):Prop:=
 ∃(k:Nat) (a:Option Addr) (c:Nat),k≤l.length∧iv= .int .i64 (k:Nat)∧ov= .slice a k c∧wr.ownsRow w.heap.size 150 3 (.slice a k c) k (flatO of (l.take k))∧Below w.heap.size w wr
theorem spans_walk (w:World)(a:Option Addr)(n c:Nat)(l:List SpanD)(hl:l.length=n)(hn:n≤1048576)(hs:SpansAt w a l)(of:Int→El)(cf:Nat)(lb:Array Value)(eg:∀args W,(callFunc cf args).run Try.prog W= .ok (.enter cf args) W)
  (hcall:∀s∈l,∀W,Below w.heap.size w W→Calls Try.prog cf (#[.int .u8 s.v]++lb) W fun e W'=>e= .returned (val8 (of s.v))∧Below W.heap.size W W'):
  Calls Try.prog 78 #[.slice a n c,.func (.func cf) #[] lb] w fun e w'=>∃a' c',e= .returned (.slice a' n c')∧w'.ownsRow w.heap.size 150 3 (.slice a' n c') n (flatO of l)∧Below w.heap.size w w':=by
 have HL:=jH hl;have HS:=jH hs;have HEg:=jH eg;have HCl:=jH hcall
 clear hl hs eg hcall
 go_enter Try.func78,Try.ntmps78
 go_wp2
 go_loopw [5,6] (SnR w of l) (fun _ i _=>n - (intOf i).toNat)
 case atStart=>exact⟨0,none,0,Nat.zero_le _,rfl,rfl,World.ownsRow_nil _ _ _ _,Below.refl _ _⟩
 case round=>
  obtain⟨k,a2,c2,hk,rfl,rfl,hown,hbel⟩:=hrel
  have HOw:=jH hown;have HBl:=jH hbel
  clear hown hbel;rw[HL.out]at hk
  by_cases hkn:k<n
  ·have hki:(k:Int)<(n:Int):=by omega
   have hkl:k<l.length:=by rw[HL.out];exact hkn
   have HTk:=jH (show l.take (k+1)=l.take k++[l[k]]from List.take_succ_eq_append_getElem hkl);have hsl:=HS.out.below HBl.out (fun b o e h0=>by obtain⟨b',o',e',h1, -⟩:=HS.out 0 h0;rw[e]at e';cases e';exact World.block_lt_of_cell? w _ h1);obtain⟨b,o,rfl,c0,c1,c3⟩:=hsl k hkl;have HCk:=jH (fun(W:World) (hb:Below wr.heap.size wr W)=>HCl.out _ (List.getElem_mem hkl) W (HBl.out.trans (hb.mono HBl.out.size)));generalize l[k]=s at*;clear hsl;obtain⟨sf,st,sv⟩:=s
   dsimp only at*
   go_upto_region 5 with(fail)
   refine(wpIn_wide (n:=2)).1 ?_;refine kAi [20,21] (fun w':World=>w'.cell? ⟨b,o+k*3,none⟩=some (.int .i32 sf)∧w'.cell? ⟨b,o+k*3+1,none⟩=some (.int .i32 st)∧w'.cell? ⟨b,o+k*3+2,none⟩=some (.int .u8 sv)) (by kernel_rfl) ?_
   have HCb:Hid (∀(wa wb:World),Below wa.heap.size wa wb→(wa.cell? ⟨b,o+k*3,none⟩=some (.int .i32 sf)∧wa.cell? ⟨b,o+k*3+1,none⟩=some (.int .i32 st)∧wa.cell? ⟨b,o+k*3+2,none⟩=some (.int .u8 sv))→(wb.cell? ⟨b,o+k*3,none⟩=some (.int .i32 sf)∧wb.cell? ⟨b,o+k*3+1,none⟩=some (.int .i32 st)∧wb.cell? ⟨b,o+k*3+2,none⟩=some (.int .u8 sv))):=jH (fun wa wb hb ⟨h1,h2,h3⟩=>
    ⟨(hb.cell (p:=⟨b,o+k*3,none⟩) (World.block_lt_of_cell? wa _ h1)).trans h1,(hb.cell (p:=⟨b,o+k*3+1,none⟩) (World.block_lt_of_cell? wa _ h2)).trans h2,(hb.cell (p:=⟨b,o+k*3+2,none⟩) (World.block_lt_of_cell? wa _ h3)).trans h3⟩)
   have HCx:Hid (wr.drew.cell? ⟨b,o+k*3,none⟩=some (.int .i32 sf)∧wr.drew.cell? ⟨b,o+k*3+1,none⟩=some (.int .i32 st)∧wr.drew.cell? ⟨b,o+k*3+2,none⟩=some (.int .u8 sv)):=jH ⟨c0,c1,c3⟩;have HBd:Hid (Below wr.heap.size wr wr.drew):=jH (Below.refl _ _).drew;have HOd:Hid (wr.drew.ownsRow w.heap.size 150 3 (.slice a2 k c2) k (flatO of (l.take k))):=jH (World.ownsRow.drew HOw.out);clear c0 c1 c3;have heg:=HEg.out;generalize wr.drew=w1 at*;refine' kAa (i:=0) (v:=_) [20,21] (by kernel_rfl) rfl (by rfl) (by kernel_rfl) (fun _ _ _ h=>h) (by rfl) (by rintro w' ⟨c0,c1,c2⟩;go_simp;try with_reducible rfl) HCx.out ?_;simp only[jA,jB,jC,Act.put,jD,jE,jF];refine' kAa (i:=1) (v:=_) [3,4,5,18,19,20,21] (by kernel_rfl) rfl (by rfl) (by kernel_rfl) (fun _ _ _ h=>h) (by rfl) (by rintro w' ⟨c0,c1,c2⟩;go_simp;try with_reducible rfl) HCx.out ?_;simp only[jA,jB,jC,Act.put,jD,jE,jF];refine' kAa (i:=2) (v:=_) [3,4,5,18,19,20,21] (by kernel_rfl) rfl (by rfl) (by kernel_rfl) (fun _ _ _ h=>h) (by rfl) (by rintro w' ⟨c0,c1,c2⟩;go_simp;try with_reducible rfl) HCx.out ?_;simp only[jA,jB,jC,Act.put,jD,jE,jF];refine' kAa (i:=3) (v:=_) [4,5,18,19,20,21] (by kernel_rfl) rfl (by rfl) (by kernel_rfl) (fun _ _ _ h=>h) (by rfl) (by rintro w' ⟨c0,c1,c2⟩;go_simp;try with_reducible rfl) HCx.out ?_;simp only[jA,jB,jC,Act.put,jD,jE,jF];refine' kAa (i:=4) (v:=_) [5,18,19,20,21] (by kernel_rfl) rfl (by rfl) (by kernel_rfl) (fun _ _ _ h=>h) (by rfl) (by rintro w' ⟨c0,c1,c2⟩;go_simp;try with_reducible rfl) HCx.out ?_;simp only[jA,jB,jC,Act.put,jD,jE,jF];refine' kAa (i:=5) (v:=_) [18,19,20,21] (by kernel_rfl) rfl (by rfl) (by kernel_rfl) (fun _ _ _ h=>h) (by rfl) (by rintro w' ⟨c0,c1,c2⟩;go_simp;try with_reducible rfl) HCx.out ?_;simp only[jA,jB,jC,Act.put,jD,jE,jF];refine' kAa (i:=6) (v:=_) [8,9,10,18,19,20,21] (by kernel_rfl) rfl (by rfl) (by kernel_rfl) (fun _ _ _ h=>h) (by rfl) (by rintro w' ⟨c0,c1,c2⟩;go_simp;try with_reducible rfl) HCx.out ?_;simp only[jA,jB,jC,Act.put,jD,jE,jF];refine' kAa (i:=7) (v:=_) [8,9,10,18,19,20,21] (by kernel_rfl) rfl (by rfl) (by kernel_rfl) (fun _ _ _ h=>h) (by rfl) (by rintro w' ⟨c0,c1,c2⟩;go_simp;try with_reducible rfl) HCx.out ?_;simp only[jA,jB,jC,Act.put,jD,jE,jF];refine' kAa (i:=8) (v:=_) [9,10,18,19,20,21] (by kernel_rfl) rfl (by rfl) (by kernel_rfl) (fun _ _ _ h=>h) (by rfl) (by rintro w' ⟨c0,c1,c2⟩;go_simp;try with_reducible rfl) HCx.out ?_;simp only[jA,jB,jC,Act.put,jD,jE,jF];refine' kAa (i:=9) (v:=_) [10,18,19,20,21] (by kernel_rfl) rfl (by rfl) (by kernel_rfl) (fun _ _ _ h=>h) (by rfl) (by rintro w' ⟨c0,c1,c2⟩;go_simp;try with_reducible rfl) HCx.out ?_;simp only[jA,jB,jC,Act.put,jD,jE,jF];refine' kAa (i:=10) (v:=_) [18,19,20,21] (by kernel_rfl) rfl (by rfl) (by kernel_rfl) (fun _ _ _ h=>h) (by rfl) (by rintro w' ⟨c0,c1,c2⟩;go_simp;try with_reducible rfl) HCx.out ?_;simp only[jA,jB,jC,Act.put,jD,jE,jF];refine' kAa (i:=11) (v:=_) [17,18,19,20,21] (by kernel_rfl) rfl (by rfl) (by kernel_rfl) (fun _ _ _ h=>h) (by rfl) (by rintro w' ⟨c0,c1,c2⟩;go_simp;try with_reducible rfl) HCx.out ?_;simp only[jA,jB,jC,Act.put,jD,jE,jF];refine' kAa (i:=12) (v:=_) [14,15,16,17,18,19,20,21] (by kernel_rfl) rfl (by rfl) (by kernel_rfl) (fun _ _ _ h=>h) (by rfl) (by rintro w' ⟨c0,c1,c2⟩;go_simp;try with_reducible rfl) HCx.out ?_;simp only[jA,jB,jC,Act.put,jD,jE,jF];refine' kAa (i:=13) (v:=_) [14,15,16,17,18,19,20,21] (by kernel_rfl) rfl (by rfl) (by kernel_rfl) (fun _ _ _ h=>h) (by rfl) (by rintro w' ⟨c0,c1,c2⟩;go_simp;try with_reducible rfl) HCx.out ?_;simp only[jA,jB,jC,Act.put,jD,jE,jF];refine' kAa (i:=14) (v:=_) [15,16,17,18,19,20,21] (by kernel_rfl) rfl (by rfl) (by kernel_rfl) (fun _ _ _ h=>h) (by rfl) (by rintro w' ⟨c0,c1,c2⟩;go_simp;try with_reducible rfl) HCx.out ?_;simp only[jA,jB,jC,Act.put,jD,jE,jF];refine' kAa (i:=15) (v:=_) [16,17,18,19,20,21] (by kernel_rfl) rfl (by rfl) (by kernel_rfl) (fun _ _ _ h=>h) (by rfl) (by rintro w' ⟨c0,c1,c2⟩;go_simp;try with_reducible rfl) HCx.out ?_;simp only[jA,jB,jC,Act.put,jD,jE,jF];refine' kAa (i:=16) (v:=_) [17,18,19,20,21] (by kernel_rfl) rfl (by rfl) (by kernel_rfl) (fun _ _ _ h=>h) (by rfl) (by rintro w' ⟨c0,c1,c2⟩;go_simp;try with_reducible rfl) HCx.out ?_;simp only[jA,jB,jC,Act.put,jD,jE,jF];refine kAk (i:=17) (by kernel_rfl) ?_;refine kA9 (i:=17) rfl (by rfl) (by rfl) (fun _ _=>trivial) (kCj (.tmp 24) (.tmp 29) _ rfl cf lb rfl (.int .u8 sv) rfl heg) (fun h=>by cases h) ?_;refine callsIn_wide.2 ?_;refine(HCk.out w1 HBd.out).mono ?_;rintro e w2 ⟨rfl,hb⟩;refine⟨_,rfl,fun _=>HCb.out _ _ hb HCx.out,?_⟩;have HC2:=jH (HCb.out _ _ hb HCx.out);have HB2:=jH (HBd.out.trans (hb.mono HBd.out.size));have HO2:Hid (w2.ownsRow w.heap.size 150 3 (.slice a2 k c2) k (flatO of (l.take k))):=jH (HOd.out.kept (row:=none) ⟨hb.os,hb.tape,hb.output,hb.size,fun j hj _=>hb.block j hj⟩ (by cases hv:(Value.slice a2 k c2).ownBlock<;>simp));clear hb HBd HOd HCx;simp only[jA,jB,jC,Act.put,jD,jE,jF]
   obtain⟨y,hy⟩:∃y,y=of sv:=⟨_,rfl⟩
   rw[←hy]
   have HY:=jH hy;clear hy
   refine' kAa (i:=18) (v:= .agg #[.int .i32 sf,.int .i32 st,val8 y]) [19,20,21] (by kernel_rfl) rfl (by rfl) (by kernel_rfl) (fun _ _ _ h=>h) (by rfl) (by unfold val8;rintro w' ⟨c0,c1,c2⟩;go_simp;try with_reducible rfl) HC2.out ?_;simp only[jA,jB,jC,Act.put,jD,jE,jF];have hb3:=(Below.refl w2.heap.size w2).alloc jR (.cells #[.int .i32 sf,.int .i32 st,val8 y] 150);refine kAk (i:=19) (by kernel_rfl) ?_;refine kCc (i:=19) (v:= .slice (some ⟨w2.heap.size,0,none⟩) 1 1) (w':=w2.alloc (.cells #[.int .i32 sf,.int .i32 st,val8 y] 150)) rfl (by rfl) (fun _ _=>trivial) (by rfl) (by unfold val8;go_simp;try with_reducible rfl) (fun _=>HCb.out _ _ hb3 HC2.out) ?_;simp only[jA,jB,jC,Act.put,jD,jE,jF];clear hb3;refine kA3 20 (by rfl) (by kernel_rfl) (by kernel_rfl) ?_;simp only[List.drop_succ_cons,List.drop_zero];have hsz:w.heap.size≤w2.heap.size:=Nat.le_trans HBl.out.size HB2.out.size
   gi_wp2_with (gi_at_builtin;refine kEu Try.elemSn rfl (.tmp 13) (.tmp 32) rfl HO2.out hsz (by omega) (by omega) _ rfl (by intro u hu;simp at hu;rcases hu with rfl | rfl | rfl<;>rfl) _ rfl rfl ?_)
   intro a3 c3 w4 ho hg hn4
   have HO4:Hid (w4.ownsRow w.heap.size 150 3 (.slice a3 (k+1) c3) (k+1) (flatO of (l.take (k+1)))):=jH (by
    rw[HTk.out,kEb]
    dsimp only
    rw[←HY.out]
    exact ho)
   have HB4:Hid (Below w.heap.size w w4):=jH ((HBl.out.trans (HB2.out.mono HBl.out.size)).trans (Below.ofGrown hg hsz (fun q e=>(World.ownsRow.lt HO2.out q e).1)));clear ho hg hn4 heg
   gi_wp2
   go_wp2
   go_roundw
   case rel=>exact⟨k+1,a3,c3,by rw[HL.out];omega,by go_num,rfl,HO4.out,HB4.out⟩
   case measure=>simp[intOf];omega
  ·obtain rfl:k=n:=by omega
   have hki:¬(k:Int)<(k:Int):=by omega
   have htk:l.take k=l:=List.take_of_length_le (by rw[HL.out];exact Nat.le_refl _);rw[htk]at HOw;clear htk;go_wp2
   go_ret
   exact⟨_,_,rfl,HOw.out,HBl.out⟩
end Go.Proofs.Ytabbabkmojaoaaa.VI

namespace Go.Proofs.Ytabbabkmojaoaaa
open Go.RowKit
attribute [local go_sem] Oper.semAt_some
theorem kKw (v:Int)(w:World)(h1:0≤v)(h2:v≤255):Calls Try.prog 79 #[.int .u8 v] w fun e w'=>e= .returned (.int .i64 v)∧Below w.heap.size w w':=by
 go_enter Try.func79,Try.ntmps79
 have hw:wrap64 v=v:=by unfold wrap64;omega
 go_wp2
 go_ret
 exact⟨rfl,Below.refl _ _⟩
theorem kL3 (l:List SpanD):∀(i:Nat) (hi:i<l.length),(VI.flatO (fun x=>x) l)[i*3]? =some (.int .i32 l[i].f)∧(VI.flatO (fun x=>x) l)[i*3+1]? =some (.int .i32 l[i].t)∧(VI.flatO (fun x=>x) l)[i*3+2]? =some (.int .i64 l[i].v):=by
 induction l with
 | nil=>intro i hi;simp at hi
 | cons s t ih=>
  have e:VI.flatO (fun x=>x) (s :: t)= .int .i32 s.f :: .int .i32 s.t :: .int .i64 s.v :: VI.flatO (fun x=>x) t:=rfl;intro i hi
  cases i with
  | zero=>rw[e];simp
  | succ i=>
   have:=ih i (by simpa using hi);rw[e,show(i+1)*3=i*3+1+1+1 by omega]
   simpa using this
theorem kJz {B:Nat}{E:TypeId}{w:World}{a:Option Addr}{n c:Nat}{l:List SpanD}(hl:l.length=n)(h:w.ownsRow B E 3 (.slice a n c) n (VI.flatO (fun x=>x) l)):kG7 .i64 w a l:=by
 intro i hi
 rcases h.2 with⟨e,h0⟩ | ⟨g,cap',cur,e,hb,hg,hnc,hcm,hcs,ht⟩
 ·omega
 ·simp only[Value.slice.injEq]at e;obtain⟨rfl,_,rfl⟩:=e;obtain⟨h1,h2,h3⟩:=kL3 l i hi
  have k:∀j,j<3→w.cell? ⟨g,0+i*3+j,none⟩=(VI.flatO (fun x=>x) l)[i*3+j]? :=fun j hj=>by
   rw[jK w g _ _ _ (0,0) hg,Nat.zero_add,←Array.getElem?_toList,←ht,List.getElem?_take_of_lt (by omega)]
  exact⟨g,0,rfl,(k 0 (by omega)).trans h1,(k 1 (by omega)).trans h2,(k 2 (by omega)).trans h3⟩
theorem kH6 (w:World)(a:Option Addr)(n c:Nat)(l:List SpanD)(hl:l.length=n)(hn:n≤1048576)(hs:SpansAt w a l)(hv:∀s∈l,0≤s.v∧s.v≤255):
  Calls Try.prog 35 #[.slice a n c] w fun e w'=>∃a' c',e= .returned (.slice a' n c')∧kG7 .i64 w' a' l∧Below w.heap.size w w':=by
 have HS:=jH (VI.spans_walk w a n c l hl hn hs (fun x=>x) 79 #[] (enters_of Try.func79 (by kernel_rfl) rfl) (fun s hs' W hb=>kKw s.v W (hv s hs').1 (hv s hs').2));have HL:=jH hl;clear hl hs hv
 go_enter Try.func35,Try.ntmps35
 go_wp2_with fail
 refine HS.out.mono ?_;rintro e w2 ⟨a2,c2,rfl,ho,hb⟩
 have HB:=jH hb;have HO:=jH ho
 clear hb ho HS;go_wp2
 go_ret
 exact⟨_,_,rfl,kJz HL.out HO.out,HB.out⟩
end Go.Proofs.Ytabbabkmojaoaaa
