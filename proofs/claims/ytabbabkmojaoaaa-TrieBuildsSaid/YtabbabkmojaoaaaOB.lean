/- several texts in one: SNS TFS -/
import Derived.Test.YtabbabkmojaoaaaNQ
import Derived.Test.YtabbabkmojaoaaaND
import Derived.Test.YtabbabkmojaoaaaOA
import Derived.Test.YtabbabkmojaoaaaNF
import Derived.Deep.QuietTactic
set_option linter.unusedVariables false
set_option linter.unusedSimpArgs false
set_option maxRecDepth 100000
set_option maxHeartbeats 16000000
namespace Go.Proofs.Ytabbabkmojaoaaa.VS
open Go.RowKit
attribute [local go_sem] Oper.semAt_some
attribute [local go_sem] kEq
theorem Try.elemSn:kEs Try.prog 190 163 (.agg #[.int .i32 0,.int .i32 0,.string {data:= #[]}]) 3 24:=⟨Try.underlying190,by kernel_rfl,by kernel_rfl,by decide⟩
def flatO (of:Int→El) (l:List SpanD):List Value:=l.flatMap (fun s=>[.int .i32 s.f,.int .i32 s.t,val8 (of s.v)])
theorem kEb (of:Int→El)(l:List SpanD)(s:SpanD):flatO of (l++[s])=flatO of l++[.int .i32 s.f,.int .i32 s.t,val8 (of s.v)]:=by simp[flatO]
theorem kCj {P:Program}{o:Oper}{a:Act}{w:World}(y x:Operand)(ts:Array TypeId)(ho:o.op= .call {callee:= .value y,args:= #[x],argTypes:=ts})(f:FuncId)(lb:Array Value)(hy:a.eval y= .func (.func f) #[] lb)(v:Value)(hx:a.eval x=v)(eg:∀args W,(callFunc f args).run P W= .ok (.enter f args) W):
  (execOp a.eval o).run P w= .ok (.enter f (#[v]++lb)) w:=by
 unfold execOp;simp only[ho,resolve,hy,hx,List.map_toArray,List.map_cons,List.map_nil,Sem.run_bind,Sem.run_pure,Result.andThen_ok];simp[invoke,go_sem,eg]
def SnR (w:World) (of:Int→El) (l:List SpanD) (ov iv:Value) (wr:World):Prop:=
 ∃(k:Nat) (a:Option Addr) (c:Nat),k≤l.length∧iv= .int .i64 (k:Nat)∧ov= .slice a k c∧wr.ownsRow w.heap.size 163 3 (.slice a k c) k (flatO of (l.take k))∧Below w.heap.size w wr
theorem spans_walk (w:World)(a:Option Addr)(n c:Nat)(l:List SpanD)(hl:l.length=n)(hn:n≤1048576)(hs:SpansAt w a l)(of:Int→El)(cf:Nat)(lb:Array Value)(eg:∀args W,(callFunc cf args).run Try.prog W= .ok (.enter cf args) W)
  (hcall:∀s∈l,∀W,Below w.heap.size w W→Calls Try.prog cf (#[.int .u8 s.v]++lb) W fun e W'=>e= .returned (val8 (of s.v))∧Below W.heap.size W W'):
  Calls Try.prog 105 #[.slice a n c,.func (.func cf) #[] lb] w fun e w'=>∃a' c',e= .returned (.slice a' n c')∧w'.ownsRow w.heap.size 163 3 (.slice a' n c') n (flatO of l)∧Below w.heap.size w w':=by
 have HL:=jH hl;have HS:=jH hs;have HEg:=jH eg;have HCl:=jH hcall
 clear hl hs eg hcall
 go_enter Try.func105,Try.ntmps105
 go_wp2
 go_loopw [5,6] (SnR w of l) (fun _ i _=>n - (intOf i).toNat)
 case atStart=>exact⟨0,none,0,Nat.zero_le _,rfl,rfl,World.ownsRow_nil _ _ _ _,Below.refl _ _⟩
 case round=>
  obtain⟨k,a2,c2,hk,rfl,rfl,hown,hbel⟩:=hrel
  have HOw:=jH hown;have HBl:=jH hbel
  clear hown hbel;rw[HL.out]at hk
  by_cases hkn:k<n
  ·have hki:(k:Int)<(n:Int):=by omega
   have hkl:k<l.length:=by rw[HL.out];exact hkn
   have HTk:=jH (show l.take (k+1)=l.take k++[l[k]]from List.take_succ_eq_append_getElem hkl);have hsl:=HS.out.below HBl.out (fun b o e h0=>by obtain⟨b',o',e',h1, -⟩:=HS.out 0 h0;rw[e]at e';cases e';exact World.block_lt_of_cell? w _ h1);obtain⟨b,o,rfl,c0,c1,c3⟩:=hsl k hkl;have HCk:=jH (fun(W:World) (hb:Below wr.heap.size wr W)=>HCl.out _ (List.getElem_mem hkl) W (HBl.out.trans (hb.mono HBl.out.size)));generalize l[k]=s at*;clear hsl;obtain⟨sf,st,sv⟩:=s
   dsimp only at*
   go_upto_region 5 with(fail)
   refine(wpIn_wide (n:=2)).1 ?_;refine kAi [20,21] (fun w':World=>w'.cell? ⟨b,o+k*3,none⟩=some (.int .i32 sf)∧w'.cell? ⟨b,o+k*3+1,none⟩=some (.int .i32 st)∧w'.cell? ⟨b,o+k*3+2,none⟩=some (.int .u8 sv)) (by kernel_rfl) ?_
   have HCb:Hid (∀(wa wb:World),Below wa.heap.size wa wb→(wa.cell? ⟨b,o+k*3,none⟩=some (.int .i32 sf)∧wa.cell? ⟨b,o+k*3+1,none⟩=some (.int .i32 st)∧wa.cell? ⟨b,o+k*3+2,none⟩=some (.int .u8 sv))→(wb.cell? ⟨b,o+k*3,none⟩=some (.int .i32 sf)∧wb.cell? ⟨b,o+k*3+1,none⟩=some (.int .i32 st)∧wb.cell? ⟨b,o+k*3+2,none⟩=some (.int .u8 sv))):=jH (fun wa wb hb ⟨h1,h2,h3⟩=>
    ⟨(hb.cell (p:=⟨b,o+k*3,none⟩) (World.block_lt_of_cell? wa _ h1)).trans h1,(hb.cell (p:=⟨b,o+k*3+1,none⟩) (World.block_lt_of_cell? wa _ h2)).trans h2,(hb.cell (p:=⟨b,o+k*3+2,none⟩) (World.block_lt_of_cell? wa _ h3)).trans h3⟩)
   have HCx:Hid (wr.drew.cell? ⟨b,o+k*3,none⟩=some (.int .i32 sf)∧wr.drew.cell? ⟨b,o+k*3+1,none⟩=some (.int .i32 st)∧wr.drew.cell? ⟨b,o+k*3+2,none⟩=some (.int .u8 sv)):=jH ⟨c0,c1,c3⟩;have HBd:Hid (Below wr.heap.size wr wr.drew):=jH (Below.refl _ _).drew;have HOd:Hid (wr.drew.ownsRow w.heap.size 163 3 (.slice a2 k c2) k (flatO of (l.take k))):=jH (World.ownsRow.drew HOw.out);clear c0 c1 c3;have heg:=HEg.out;generalize wr.drew=w1 at*;refine' kAa (i:=0) (v:=_) [20,21] (by kernel_rfl) rfl (by rfl) (by kernel_rfl) (fun _ _ _ h=>h) (by rfl) (by rintro w' ⟨c0,c1,c2⟩;go_simp;try with_reducible rfl) HCx.out ?_;simp only[jA,jB,jC,Act.put,jD,jE,jF];refine' kAa (i:=1) (v:=_) [3,4,5,18,19,20,21] (by kernel_rfl) rfl (by rfl) (by kernel_rfl) (fun _ _ _ h=>h) (by rfl) (by rintro w' ⟨c0,c1,c2⟩;go_simp;try with_reducible rfl) HCx.out ?_;simp only[jA,jB,jC,Act.put,jD,jE,jF];refine' kAa (i:=2) (v:=_) [3,4,5,18,19,20,21] (by kernel_rfl) rfl (by rfl) (by kernel_rfl) (fun _ _ _ h=>h) (by rfl) (by rintro w' ⟨c0,c1,c2⟩;go_simp;try with_reducible rfl) HCx.out ?_;simp only[jA,jB,jC,Act.put,jD,jE,jF];refine' kAa (i:=3) (v:=_) [4,5,18,19,20,21] (by kernel_rfl) rfl (by rfl) (by kernel_rfl) (fun _ _ _ h=>h) (by rfl) (by rintro w' ⟨c0,c1,c2⟩;go_simp;try with_reducible rfl) HCx.out ?_;simp only[jA,jB,jC,Act.put,jD,jE,jF];refine' kAa (i:=4) (v:=_) [5,18,19,20,21] (by kernel_rfl) rfl (by rfl) (by kernel_rfl) (fun _ _ _ h=>h) (by rfl) (by rintro w' ⟨c0,c1,c2⟩;go_simp;try with_reducible rfl) HCx.out ?_;simp only[jA,jB,jC,Act.put,jD,jE,jF];refine' kAa (i:=5) (v:=_) [18,19,20,21] (by kernel_rfl) rfl (by rfl) (by kernel_rfl) (fun _ _ _ h=>h) (by rfl) (by rintro w' ⟨c0,c1,c2⟩;go_simp;try with_reducible rfl) HCx.out ?_;simp only[jA,jB,jC,Act.put,jD,jE,jF];refine' kAa (i:=6) (v:=_) [8,9,10,18,19,20,21] (by kernel_rfl) rfl (by rfl) (by kernel_rfl) (fun _ _ _ h=>h) (by rfl) (by rintro w' ⟨c0,c1,c2⟩;go_simp;try with_reducible rfl) HCx.out ?_;simp only[jA,jB,jC,Act.put,jD,jE,jF];refine' kAa (i:=7) (v:=_) [8,9,10,18,19,20,21] (by kernel_rfl) rfl (by rfl) (by kernel_rfl) (fun _ _ _ h=>h) (by rfl) (by rintro w' ⟨c0,c1,c2⟩;go_simp;try with_reducible rfl) HCx.out ?_;simp only[jA,jB,jC,Act.put,jD,jE,jF];refine' kAa (i:=8) (v:=_) [9,10,18,19,20,21] (by kernel_rfl) rfl (by rfl) (by kernel_rfl) (fun _ _ _ h=>h) (by rfl) (by rintro w' ⟨c0,c1,c2⟩;go_simp;try with_reducible rfl) HCx.out ?_;simp only[jA,jB,jC,Act.put,jD,jE,jF];refine' kAa (i:=9) (v:=_) [10,18,19,20,21] (by kernel_rfl) rfl (by rfl) (by kernel_rfl) (fun _ _ _ h=>h) (by rfl) (by rintro w' ⟨c0,c1,c2⟩;go_simp;try with_reducible rfl) HCx.out ?_;simp only[jA,jB,jC,Act.put,jD,jE,jF];refine' kAa (i:=10) (v:=_) [18,19,20,21] (by kernel_rfl) rfl (by rfl) (by kernel_rfl) (fun _ _ _ h=>h) (by rfl) (by rintro w' ⟨c0,c1,c2⟩;go_simp;try with_reducible rfl) HCx.out ?_;simp only[jA,jB,jC,Act.put,jD,jE,jF];refine' kAa (i:=11) (v:=_) [17,18,19,20,21] (by kernel_rfl) rfl (by rfl) (by kernel_rfl) (fun _ _ _ h=>h) (by rfl) (by rintro w' ⟨c0,c1,c2⟩;go_simp;try with_reducible rfl) HCx.out ?_;simp only[jA,jB,jC,Act.put,jD,jE,jF];refine' kAa (i:=12) (v:=_) [14,15,16,17,18,19,20,21] (by kernel_rfl) rfl (by rfl) (by kernel_rfl) (fun _ _ _ h=>h) (by rfl) (by rintro w' ⟨c0,c1,c2⟩;go_simp;try with_reducible rfl) HCx.out ?_;simp only[jA,jB,jC,Act.put,jD,jE,jF];refine' kAa (i:=13) (v:=_) [14,15,16,17,18,19,20,21] (by kernel_rfl) rfl (by rfl) (by kernel_rfl) (fun _ _ _ h=>h) (by rfl) (by rintro w' ⟨c0,c1,c2⟩;go_simp;try with_reducible rfl) HCx.out ?_;simp only[jA,jB,jC,Act.put,jD,jE,jF];refine' kAa (i:=14) (v:=_) [15,16,17,18,19,20,21] (by kernel_rfl) rfl (by rfl) (by kernel_rfl) (fun _ _ _ h=>h) (by rfl) (by rintro w' ⟨c0,c1,c2⟩;go_simp;try with_reducible rfl) HCx.out ?_;simp only[jA,jB,jC,Act.put,jD,jE,jF];refine' kAa (i:=15) (v:=_) [16,17,18,19,20,21] (by kernel_rfl) rfl (by rfl) (by kernel_rfl) (fun _ _ _ h=>h) (by rfl) (by rintro w' ⟨c0,c1,c2⟩;go_simp;try with_reducible rfl) HCx.out ?_;simp only[jA,jB,jC,Act.put,jD,jE,jF];refine' kAa (i:=16) (v:=_) [17,18,19,20,21] (by kernel_rfl) rfl (by rfl) (by kernel_rfl) (fun _ _ _ h=>h) (by rfl) (by rintro w' ⟨c0,c1,c2⟩;go_simp;try with_reducible rfl) HCx.out ?_;simp only[jA,jB,jC,Act.put,jD,jE,jF];refine kAk (i:=17) (by kernel_rfl) ?_;refine kA9 (i:=17) rfl (by rfl) (by rfl) (fun _ _=>trivial) (kCj (.tmp 24) (.tmp 29) _ rfl cf lb rfl (.int .u8 sv) rfl heg) (fun h=>by cases h) ?_;refine callsIn_wide.2 ?_;refine(HCk.out w1 HBd.out).mono ?_;rintro e w2 ⟨rfl,hb⟩;refine⟨_,rfl,fun _=>HCb.out _ _ hb HCx.out,?_⟩;have HC2:=jH (HCb.out _ _ hb HCx.out);have HB2:=jH (HBd.out.trans (hb.mono HBd.out.size));have HO2:Hid (w2.ownsRow w.heap.size 163 3 (.slice a2 k c2) k (flatO of (l.take k))):=jH (HOd.out.kept (row:=none) ⟨hb.os,hb.tape,hb.output,hb.size,fun j hj _=>hb.block j hj⟩ (by cases hv:(Value.slice a2 k c2).ownBlock<;>simp));clear hb HBd HOd HCx;simp only[jA,jB,jC,Act.put,jD,jE,jF]
   obtain⟨y,hy⟩:∃y,y=of sv:=⟨_,rfl⟩
   rw[←hy]
   have HY:=jH hy;clear hy
   refine' kAa (i:=18) (v:= .agg #[.int .i32 sf,.int .i32 st,val8 y]) [19,20,21] (by kernel_rfl) rfl (by rfl) (by kernel_rfl) (fun _ _ _ h=>h) (by rfl) (by unfold val8;rintro w' ⟨c0,c1,c2⟩;go_simp;try with_reducible rfl) HC2.out ?_;simp only[jA,jB,jC,Act.put,jD,jE,jF];have hb3:=(Below.refl w2.heap.size w2).alloc jR (.cells #[.int .i32 sf,.int .i32 st,val8 y] 163);refine kAk (i:=19) (by kernel_rfl) ?_;refine kCc (i:=19) (v:= .slice (some ⟨w2.heap.size,0,none⟩) 1 1) (w':=w2.alloc (.cells #[.int .i32 sf,.int .i32 st,val8 y] 163)) rfl (by rfl) (fun _ _=>trivial) (by rfl) (by unfold val8;go_simp;try with_reducible rfl) (fun _=>HCb.out _ _ hb3 HC2.out) ?_;simp only[jA,jB,jC,Act.put,jD,jE,jF];clear hb3;refine kA3 20 (by rfl) (by kernel_rfl) (by kernel_rfl) ?_;simp only[List.drop_succ_cons,List.drop_zero];have hsz:w.heap.size≤w2.heap.size:=Nat.le_trans HBl.out.size HB2.out.size
   gi_wp2_with (gi_at_builtin;refine kEu Try.elemSn rfl (.tmp 13) (.tmp 32) rfl HO2.out hsz (by omega) (by omega) _ rfl (by intro u hu;simp at hu;rcases hu with rfl | rfl | rfl<;>rfl) _ rfl rfl ?_)
   intro a3 c3 w4 ho hg hn4
   have HO4:Hid (w4.ownsRow w.heap.size 163 3 (.slice a3 (k+1) c3) (k+1) (flatO of (l.take (k+1)))):=jH (by
    rw[HTk.out,kEb]
    dsimp only
    rw[←HY.out]
    exact ho)
   have HB4:Hid (Below w.heap.size w w4):=jH ((HBl.out.trans (HB2.out.mono HBl.out.size)).trans (Below.ofGrown hg hsz (fun q e=>(World.ownsRow.lt HO2.out q e).1)));clear ho hg hn4 heg
   gi_wp2
   go_wp2
   go_roundw
   case rel=>exact⟨k+1,a3,c3,by rw[HL.out];omega,by go_num,rfl,HO4.out,HB4.out⟩
   case measure=>simp[intOf];omega
  ·obtain rfl:k=n:=by omega
   have hki:¬(k:Int)<(k:Int):=by omega
   have htk:l.take k=l:=List.take_of_length_le (by rw[HL.out];exact Nat.le_refl _);rw[htk]at HOw;clear htk;go_wp2
   go_ret
   exact⟨_,_,rfl,HOw.out,HBl.out⟩
end Go.Proofs.Ytabbabkmojaoaaa.VS

namespace Go.Proofs.Ytabbabkmojaoaaa.VS
open Go.RowKit
def S0:MkS El:={top:=List.replicate 272 0,cur:=List.replicate 64 0,lows:=[],mids:=[],blocks:=0}
theorem kLs:MkW S0:=⟨List.length_replicate,List.length_replicate,fun _ h=>absurd h (List.not_mem_nil),fun _ h=>absurd h (List.not_mem_nil)⟩
theorem kE2 (w:World):
  Calls Try.prog 64 #[] w fun e w'=>e= .returned (.pointer (some ⟨w.heap.size+3,0,none⟩))∧
   kBz val8 1 129 138 120 122 w' w.heap.size S0 [] [] none 0 none 0∧Below w.heap.size w w':=by
 go_enter Try.func64,Try.ntmps64
 go_upto_region 1 with(fail)
 refine wp_region_list ?_;refine kAc (v:= .agg (trC S0 none 0 none 0).toArray) (w':=w) rfl (by kernel_rfl) ?_;refine kAc (v:= .pointer (some ⟨w.heap.size,0,none⟩)) (w':=w.alloc (.cells (trC S0 none 0 none 0).toArray 138)) rfl (by kernel_rfl) ?_
 obtain⟨w1,hw1⟩:∃w1,w1=w.alloc (.cells (trC S0 none 0 none 0).toArray 138):=⟨_,rfl⟩
 have hs1:w1.heap.size=w.heap.size+1:=by rw[hw1];simp
 rw[←hw1];refine kAc (v:= .map (some (w.heap.size+1))) (w':=w1.alloc (.map #[] 0)) rfl (by rw[←hs1];kernel_rfl) ?_
 obtain⟨w2,hw2⟩:∃w2,w2=w1.alloc (.map #[] 0):=⟨_,rfl⟩
 have hs2:w2.heap.size=w.heap.size+2:=by rw[hw2];simp[hs1]
 rw[←hw2];refine kAc (v:= .map (some (w.heap.size+2))) (w':=w2.alloc (.map #[] 0)) rfl (by rw[←hs2];kernel_rfl) ?_
 obtain⟨w3,hw3⟩:∃w3,w3=w2.alloc (.map #[] 0):=⟨_,rfl⟩
 have hs3:w3.heap.size=w.heap.size+3:=by rw[hw3];simp[hs2]
 rw[←hw3];refine kAc (v:= .agg (mkC w.heap.size S0).toArray) (w':=w3) rfl (by kernel_rfl) ?_;refine kAc (v:= .pointer (some ⟨w.heap.size+3,0,none⟩)) (w':=w3.alloc (.cells (mkC w.heap.size S0).toArray 129)) rfl (by rw[←hs3];kernel_rfl) ?_
 obtain⟨w4,hw4⟩:∃w4,w4=w3.alloc (.cells (mkC w.heap.size S0).toArray 129):=⟨_,rfl⟩
 rw[←hw4];refine kAc (v:= .pointer (some ⟨w.heap.size+3,0,none⟩)) (w':=w4) rfl (by kernel_rfl) ?_
 have b1:Below w.heap.size w w1:=by rw[hw1];exact(Below.refl _ _).alloc jR _
 have b2:Below w1.heap.size w1 w2:=by rw[hw2];exact(Below.refl _ _).alloc jR _
 have b3:Below w2.heap.size w2 w3:=by rw[hw3];exact(Below.refl _ _).alloc jR _
 have b4:Below w3.heap.size w3 w4:=by rw[hw4];exact(Below.refl _ _).alloc jR _
 have k1:w1.heap[w.heap.size]? =some (.cells (trC S0 none 0 none 0).toArray 138 (0,0)):=by rw[hw1];exact jN w _
 have k2:w2.heap[w.heap.size+1]? =some (.map #[] 0):=by rw[←hs1,hw2];exact jN w1 _
 have k3:w3.heap[w.heap.size+2]? =some (.map #[] 0):=by rw[←hs2,hw3];exact jN w2 _
 have k4:w4.heap[w.heap.size+3]? =some (.cells (mkC w.heap.size S0).toArray 129 (0,0)):=by rw[←hs3,hw4];exact jN w3 _
 have HB:=jH (kBq (kBq (kBq b1 b2) b3) b4)
 have HM:Hid (kBz val8 1 129 138 120 122 w4 w.heap.size S0 [] [] none 0 none 0):=jH
  ⟨k4,(b4.block _ (by omega)).trans ((b3.block _ (by omega)).trans ((b2.block _ (by omega)).trans k1)),World.ownsRow_nil _ _ _ _,World.ownsRow_nil _ _ _ _,(fun k e=>by cases e),
   (b4.block _ (by omega)).trans ((b3.block _ (by omega)).trans k2),(b4.block _ (by omega)).trans k3⟩
 clear b1 b2 b3 b4 k1 k2 k3 k4 hw1 hw2 hw3 hw4 hs1 hs2 hs3;go_wp2
 go_ret
 exact⟨rfl,HM.out,HB.out⟩
def blkF (f:Nat→El) (k:Nat):List El:=(List.range 64).map (fun i=>f (64*k+i))
theorem kAu (f:Nat→El)(k:Nat):(blkF f k).length=64:=by simp[blkF]
def mkF (f:Nat→El):Nat→MkS El
 | 0=>S0
 | k+1=>kD6 eq8 (mkF f k) (blkF f k)
theorem kIj {S:MkS El}{b:List El}(h:MkW S)(hb:b.length=64):MkW (kD6 eq8 S b)∧(kD6 eq8 S b).blocks=S.blocks+1:=by
 by_cases h1:(S.blocks+1) % 64=0
 ·rw[kBi h1];exact⟨⟨by simpa using h.top,by simpa using h.cur,kDj h.low hb,kDj h.mid (by simpa using h.cur)⟩,rfl⟩
 ·rw[kBj h1];exact⟨⟨h.top,by simpa using h.cur,kDj h.low hb,h.mid⟩,rfl⟩
theorem kC4 (f:Nat→El)(k:Nat):MkW (mkF f k)∧(mkF f k).blocks=k∧(mkF f k).lows.length≤k∧(mkF f k).mids.length≤k / 64:=by
 induction k with
 | zero=>exact⟨kLs,rfl,Nat.le_refl _,Nat.le_refl _⟩
 | succ k ih=>
  obtain⟨h1,h2,h3,h4⟩:=ih;obtain⟨h5,h6⟩:=kIj h1 (kAu f k)
  refine⟨h5,by rw[mkF,h6,h2],?_,?_⟩
  ·rw[mkF];have:=kH2 eq8 (mkF f k).lows (blkF f k)
   by_cases h7:((mkF f k).blocks+1) % 64=0
   ·rw[kBi h7];simp only;omega
   ·rw[kBj h7];simp only;omega
  ·rw[mkF]
   by_cases h7:((mkF f k).blocks+1) % 64=0
   ·rw[kBi h7];have:=kH2 kDl (mkF f k).mids ((mkF f k).cur.set ((mkF f k).blocks % 64) (kBe eq8 (mkF f k).lows (blkF f k)).2);simp only;omega
   ·rw[kBj h7];simp only;omega
theorem kIa.mkAt (B:Nat){W W':World}{g:Nat}{S:MkS El}{ml:List (List El)}{mm:List (List Nat)}{am:Option Addr}{cm:Nat}{al:Option Addr}{cl:Nat}{tM tT tA tV:TypeId}(hk:kIa B W W')(hB:B≤g)
  (h:kBz val8 1 tM tT tA tV W g S ml mm am cm al cl):kBz val8 1 tM tT tA tV W' g S ml mm am cm al cl:=by
 have hl:=h.lt;have k:∀b,B≤b→b<W.heap.size→W'.heap[b]? =W.heap[b]? :=hk.block
 have r:∀ {E:TypeId} {s:Nat} {v:Value} {n:Nat} {xs:List Value},W.ownsRow (g+4) E s v n xs→W'.ownsRow (g+4) E s v n xs:=fun {E s v n xs} h=>by
  refine⟨h.1,?_⟩
  rcases h.2 with hn | ⟨gg,cap,cur,e,hbg,hgg,rest⟩
  ·exact .inl hn
  ·exact .inr ⟨gg,cap,cur,e,hbg,by rw[k gg (by omega) (jL hgg)];exact hgg,rest⟩
 exact⟨(k _ (by omega) (by omega)).trans h.mk_,(k _ hB (by omega)).trans h.tr,r h.rm,r h.rl,h.ap,(k _ (by omega) (by omega)).trans h.lm,(k _ (by omega) (by omega)).trans h.mm_⟩
def FilR (B:Nat) (f:Nat→El) (J:Nat→World→Prop) (g bB:Nat) (i:Value) (wr:World):Prop:=
 ∃(r:Nat) (bc:List El) (am:Option Addr) (cm:Nat) (al:Option Addr) (cl:Nat),r≤1114112∧i= .int .i32 r∧bc.length=64∧(∀j,j<r % 64→bc[j]? =some (f (64*(r / 64)+j)))∧
  wr.heap[bB]? =some (.cells (kAf val8 bc).toArray 122 (0,0))∧
  kBz val8 1 129 138 120 122 wr g (mkF f (r / 64)) (mkF f (r / 64)).lows (mkF f (r / 64)).mids am cm al cl∧J r wr∧
  (∀k,(Value.slice am (mkF f (r / 64)).mids.length cm).ownBlock=some k∨(Value.slice al (mkF f (r / 64)).lows.length cl).ownBlock=some k→k≠bB)
theorem kFo (cf:Nat)(lb:Array Value)(w:World)(f:Nat→El)(J:Nat→World→Prop)(eg:∀args W,(callFunc cf args).run Try.prog W= .ok (.enter cf args) W)
  (hJ:∀k W W',J k W→Below w.heap.size W W'→J k W')
  (hcall:∀k W,k<1114112→J k W→w.heap.size≤W.heap.size→Calls Try.prog cf (#[.int .i32 (k:Nat)]++lb) W fun e W'=>e= .returned (val8 (f k))∧J (k+1) W'∧kIa w.heap.size W W')
  (h0:J 0 w):
  Calls Try.prog 124 #[.func (.func cf) #[] lb] w fun e w'=>∃g,e= .returned (.pointer (some ⟨g,0,none⟩))∧w.heap.size≤g∧
   (∃am cm al cl,kBz val8 1 129 138 120 122 w' g (mkF f 17408) (mkF f 17408).lows (mkF f 17408).mids am cm al cl)∧J 1114112 w':=by
 have HJ:=jH hJ;clear hJ
 have HCl:=jH hcall;clear hcall
 have H0:=jH h0;clear h0
 have HEg:=jH eg;clear eg
 have qF:=fun(w:World) (cs:Array Value)=>kEp (P:= Try.prog) w 158 (.func cf) #[] cs _ _ _ Try.underlying158
 go_enter Try.func124,Try.ntmps124
 go_wp2_with fail
 refine(kE2 w).mono ?_;rintro e w1 ⟨rfl,hm,hb⟩;have HM1:=jH hm
 have HB1:=jH hb;clear hm hb
 obtain⟨g,hg⟩:∃g,g=w.heap.size:=⟨_,rfl⟩
 rw[←hg]at HM1 ⊢;have hgs:g+4≤w1.heap.size:=HM1.out.lt;have HG:=jH hg;rw[←hg]at HB1
 go_upto_region 5 with(fail)
 change Code.wp _ _ _ _ (w1.alloc (.cells (kAf val8 (List.replicate 64 (ByteArray.empty:El))).toArray 122))
 obtain⟨w2,hw2⟩:∃w2,w2=w1.alloc (.cells (kAf val8 (List.replicate 64 (ByteArray.empty:El))).toArray 122):=⟨_,rfl⟩
 have HB2:Hid (Below w1.heap.size w1 w2):=jH (by rw[hw2];exact(Below.refl _ _).alloc jR _);have HC2:Hid (w2.heap[w1.heap.size]? =some (.cells (kAf val8 (List.replicate 64 (ByteArray.empty:El))).toArray 122 (0,0))):=jH (by rw[hw2];exact jN w1 _);rw[←hw2];clear hw2
 obtain⟨bB,hbB⟩:∃bB,bB=w1.heap.size:=⟨_,rfl⟩
 have HM2:=jH (HM1.out.below HB2.out);rw[←hbB]at HC2 hgs ⊢;have HW02:=jH (HB1.out.trans (HB2.out.mono (by have:=HB1.out.size;have:=HG.out;omega)));have HJ2:=jH (HJ.out 0 w w2 H0.out (by rw[←HG.out];exact HW02.out));clear hbB HM1 HB1 HB2 hg;rw[←HG.out]at HCl HJ ⊢;go_wp2
 go_loopw [5] (FilR g f J g bB) (fun i _=>1114112 - (intOf i).toNat)
 case atStart=>
  exact⟨0,List.replicate 64 (ByteArray.empty:El),none,0,none,0,Nat.zero_le _,rfl,List.length_replicate,fun j hj=>by omega,HC2.out,HM2.out,HJ2.out,fun k hk=>by rcases hk with hk | hk<;>cases hk⟩
 case round=>
  obtain⟨r,bc,am,cm,al,cl,hr,rfl,hbl,hbc,hcell,hmk,hj,hdis⟩:=hrel
  have HBc:=jH hbc;clear hbc
  have HCe:=jH hcell;clear hcell
  have HMk:=jH hmk;clear hmk
  have HJr:=jH hj;clear hj
  have HDi:=jH hdis;clear hdis
  by_cases hrN:r<1114112
  ·have hri:(r:Int)≤1114111:=by omega
   have i1:(0:Int)≤(r:Int) % 64:=by omega
   have i2:(r:Int) % 64<64:=by omega
   have heg:=HEg.out
   go_wp2_with fail
   refine(HCl.out r wr hrN HJr.out (by have:=HMk.out.lt;omega)).mono ?_;rintro e w5 ⟨rfl,hj5,hk5⟩;have HM5:=jH (kIa.mkAt g hk5 (Nat.le_refl g) HMk.out)
   have hbBl:bB<wr.heap.size:=(jL HCe.out)
   have HC5:=jH ((hk5.block bB (by omega) hbBl).trans HCe.out)
   have HJ5:=jH hj5;clear hj5
   have hs5:=hk5.size;clear hk5
   obtain⟨v1,q1⟩:∃v,w5.cell? ⟨bB,r % 64,none⟩=some v:=by
    rw[jK w5 bB (r % 64) _ _ (0,0) HC5.out,kA7];exact⟨_,by rw[List.getElem?_toArray,List.getElem?_map,List.getElem?_eq_getElem (by omega)];rfl⟩
   have f1:=jO w5 bB (r % 64) _ _ HC5.out
   have HC6:Hid ((w5.setCell ⟨bB,r % 64,none⟩ (val8 (f r))).heap[bB]? =some (.cells (kAf val8 (bc.set (r % 64) (f r))).toArray 122 (0,0))):=jH (by
    rw[jP w5 bB (r % 64) _ _ (val8 (f r)) HC5.out,kA7,kA7,List.map_set]
    simp)
   have HB6:Hid (Below g w5 (w5.setCell ⟨bB,r % 64,none⟩ (val8 (f r)))):=jH ((Below.refl g w5).setCell (p:=⟨bB,r % 64,none⟩) (by show g≤bB;omega) _)
   have HM6:Hid (kBz val8 1 129 138 120 122 (w5.setCell ⟨bB,r % 64,none⟩ (val8 (f r))) g (mkF f (r / 64)) (mkF f (r / 64)).lows (mkF f (r / 64)).mids am cm al cl):=jH (by
    have hm:=HM5.out
    have oth:∀k,k≠bB→(w5.setCell ⟨bB,r % 64,none⟩ (val8 (f r))).heap[k]? =w5.heap[k]? :=fun k hk=>jQ w5 ⟨bB,r % 64,none⟩ k _ hk
    refine⟨(oth _ (by omega)).trans hm.mk_,(oth _ (by omega)).trans hm.tr,?_,?_,hm.ap,(oth _ (by omega)).trans hm.lm,(oth _ (by omega)).trans hm.mm_⟩
    ·exact hm.rm.kept (kAe w5 bB (r % 64) _) (by
      cases e:(Value.slice am (mkF f (r / 64)).mids.length cm).ownBlock with
      | none=>exact .inl rfl
      | some k=>exact .inr (fun e2=>by cases e2;exact HDi.out bB (.inl e) rfl))
    ·exact hm.rl.kept (kAe w5 bB (r % 64) _) (by
      cases e:(Value.slice al (mkF f (r / 64)).lows.length cl).ownBlock with
      | none=>exact .inl rfl
      | some k=>exact .inr (fun e2=>by cases e2;exact HDi.out bB (.inr e) rfl)))
   have HJ6:=jH (HJ.out (r+1) w5 _ HJ5.out HB6.out)
   have hl6:bB<(w5.setCell ⟨bB,r % 64,none⟩ (val8 (f r))).heap.size:=(jL HC6.out)
   have HBs:Hid (∀j,j<r % 64+1→(bc.set (r % 64) (f r))[j]? =some (f (64*(r / 64)+j))):=jH (fun j hj=>by
    by_cases h:r % 64=j
    ·subst h;rw[List.getElem?_set_self (by omega)];rw[show 64*(r / 64)+r % 64=r by omega]
    ·rw[List.getElem?_set_ne h]
     exact HBc.out j (by omega))
   have hbl6:(bc.set (r % 64) (f r)).length=64:=by simpa using hbl
   generalize hw6:w5.setCell ⟨bB,r % 64,none⟩ (val8 (f r))=w6 at*;unfold val8 at hw6;generalize bc.set (r % 64) (f r)=bc6 at*;unfold val8
   by_cases h63:(r:Int) % 64=63
   ·have h63':((r:Int) % 64==63)=true:=beq_iff_eq.2 h63
    have HRn:=jH h63;clear h63
    obtain⟨hk1,hk2,hk3,hk4⟩:=kC4 f (r / 64);have HKf:=jH hk1
    have hq:r / 64<17408:=by omega
    have hbf:bc6=blkF f (r / 64):=by
     apply List.ext_getElem?
     intro j;have h3:=HRn.out
     by_cases hj:j<64
     ·rw[HBs.out j (by omega)];simp[blkF,hj]
     ·rw[List.getElem?_eq_none (by omega),List.getElem?_eq_none (by rw[kAu];omega)]
    have HBf:=jH hbf;clear hbf
    have hbs6:(kAf val8 bc6).length=64:=by rw[kAh (sz:=1) (fun _=>rfl),hbl6]
    have HR6:Hid (w6.rangeAt bB 0 (kAf val8 bc6)):=jH (by
     have:=World.rangeAt_of_block HC6.out 0 (kAf val8 bc6).length
     simpa using this)
    go_upto_region 10 with(fail)
    refine wp_region_list ?_;refine kAc (v:= .pointer (some ⟨g+3,0,none⟩)) (w':=w6) rfl (by rfl) ?_;refine wpList_load_mid rfl 122 (.tmp 4) rfl bB 0 rfl (kAf val8 bc6) (.array 64 9) HR6.out Try.underlying122 rfl (by rw[hbs6];kernel_rfl) ?_
    go_wp2_with fail
    rw[HBf.out];refine(kGg w6 g (mkF f (r / 64)) (blkF f (r / 64)) am cm al cl HKf.out (kAu _ _) (by omega) (by omega) (by omega) HM6.out).mono ?_;rintro e w7 ⟨rfl,am',cm',al',cl',hm7,ha7⟩;have hB7:=ha7.to_below (fun k e=>by rw[←kBf am (mkF f (r / 64)).mids.length cm]at e;have:=(World.ownsRow.lt HM6.out.rm k e).1;omega) (fun k e=>by rw[←kBf al (mkF f (r / 64)).lows.length cl]at e;have:=(World.ownsRow.lt HM6.out.rl k e).1;omega) (by omega);have HJ7:=jH (HJ.out (r+1) w6 w7 HJ6.out hB7);have HC7:=jH ((ha7.oth bB hl6 (by omega) (fun e=>HDi.out bB (.inl (by rw[kBf];exact e)) rfl) (fun e=>HDi.out bB (.inr (by rw[kBf];exact e)) rfl)).trans HC6.out);have HM7:=jH hm7
    have HDi7:Hid (∀k,(Value.slice am' (mkF f (r / 64+1)).mids.length cm').ownBlock=some k∨(Value.slice al' (mkF f (r / 64+1)).lows.length cl').ownBlock=some k→k≠bB):=jH (fun k hk=>by
     rw[kBf,kBf]at hk
     rcases hk with hk | hk
     ·rcases ha7.na k hk with h | h
      ·exact HDi.out k (.inl (by rw[kBf];exact h))
      ·omega
     ·rcases ha7.nl k hk with h | h
      ·exact HDi.out k (.inr (by rw[kBf];exact h))
      ·omega)
    clear hm7 ha7 hB7 hk1 hk2 hk3 hk4;go_wp2
    go_roundw
    case rel=>
     have h3:=HRn.out
     refine⟨r+1,bc6,am',cm',al',cl',by omega,by go_num,hbl6,fun j hj=>by omega,HC7.out,?_,HJ7.out,?_⟩
     ·rw[show(r+1) / 64=r / 64+1 by omega];exact HM7.out
     ·rw[show(r+1) / 64=r / 64+1 by omega];exact HDi7.out
    case measure=>simp[intOf];omega
   ·have h63':((r:Int) % 64==63)=false:=beq_false_of_ne h63
    have HRn:=jH h63;clear h63
    go_wp2
    go_roundw
    case rel=>
     have h3:=HRn.out
     refine⟨r+1,bc6,am,cm,al,cl,by omega,by go_num,hbl6,fun j hj=> ?_,HC6.out,?_,HJ6.out,?_⟩
     ·rw[show(r+1) / 64=r / 64 by omega];exact HBs.out j (by omega)
     ·rw[show(r+1) / 64=r / 64 by omega];exact HM6.out
     ·rw[show(r+1) / 64=r / 64 by omega];exact HDi.out
    case measure=>simp[intOf];omega
  ·have hr2:r=1114112:=by omega
   have hri:¬(r:Int)≤1114111:=by omega
   have hq:r / 64=17408:=by omega
   have HM8:Hid (kBz val8 1 129 138 120 122 wr g (mkF f 17408) (mkF f 17408).lows (mkF f 17408).mids am cm al cl):=jH (by rw[←hq];exact HMk.out);have HJ8:Hid (J 1114112 wr):=jH (by rw[←hr2];exact HJr.out);clear hr2 hq;have c0:=HM8.out.c_t;go_wp2
   go_ret
   exact⟨g,rfl,by rw[←HG.out];exact Nat.le_refl _,⟨am,cm,al,cl,HM8.out⟩,HJ8.out⟩
end Go.Proofs.Ytabbabkmojaoaaa.VS
