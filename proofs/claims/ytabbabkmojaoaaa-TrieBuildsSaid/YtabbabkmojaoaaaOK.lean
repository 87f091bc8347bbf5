/- several texts in one: BTS -/
import Derived.Test.YtabbabkmojaoaaaOC
import Derived.Test.YtabbabkmojaoaaaOH
import Derived.Test.YtabbabkmojaoaaaOI
import Derived.Test.YtabbabkmojaoaaaOJ
import Derived.Test.YtabbabkmojaoaaaOD
import Derived.Test.YtabbabkmojaoaaaOF
import Derived.Test.YtabbabkmojaoaaaNP
import Derived.Test.YtabbabkmojaoaaaNU
import Derived.Deep.RegionHeld3
import Derived.Deep.CutRange
set_option linter.unusedVariables false
set_option linter.unusedSimpArgs false
set_option maxRecDepth 100000
set_option maxHeartbeats 16000000
namespace Go.Proofs.Ytabbabkmojaoaaa.VS
open Go.RowKit
attribute [local go_sem] Oper.semAt_some
attribute [local go_sem] kEq
def kKf:List Value:=[.int .i32 7,.int .i32 0,.string {data:= #[]},.int .i32 8,.int .i32 0,.string {data:= #[]}]
theorem kGt (n:Int):(Value.int .u16 n).cells.all (·.oneCell')=true:=by kernel_rfl
theorem kGv (x:El):(val8 x).cells.all (·.oneCell')=true:=by unfold val8;kernel_rfl
theorem kFj {B n c:Nat}{E:TypeId}{w:World}{a:Option Addr}{zs:List Nat}(hl:zs.length=n)(h:Own B E w a n c (zs.map kAb)):kCm w a zs:=fun i hi=>by
 rcases h.2 with⟨-,h0⟩ | ⟨g,cap,cur,e, -⟩
 ·omega
 ·simp only[Value.slice.injEq]at e;obtain⟨rfl, -, -⟩:=e;refine⟨g,0,rfl,?_⟩;rw[Nat.zero_add,World.ownsRow.cellAt h i (by omega),List.getElem?_map,List.getElem?_eq_getElem hi]
  rfl
theorem kHb {B n c:Nat}{E:TypeId}{w:World}{a:Option Addr}{zs:List El}(hl:zs.length=n)(h:Own B E w a n c (zs.map val8)):kDy w a zs:=fun i hi=>by
 rcases h.2 with⟨-,h0⟩ | ⟨g,cap,cur,e, -⟩
 ·omega
 ·simp only[Value.slice.injEq]at e;obtain⟨rfl, -, -⟩:=e;refine⟨g,0,rfl,?_⟩;rw[Nat.zero_add,World.ownsRow.cellAt h i (by omega),List.getElem?_map,List.getElem?_eq_getElem hi]
  rfl
theorem kFq {α:Type}(val:α→Value)(L:List (List α)):kB7 val L=L.flatten.map val:=by
 unfold kB7;rw[List.flatMap_def,List.map_flatten]
theorem kD3 {B n c:Nat}{E:TypeId}{w:World}{a:Option Addr}{xs:List Value}(h:Own B E w a n c xs)(hn:0<n):n≤c∧c≤maxLen:=by
 rcases h.2 with⟨-,h0⟩ | ⟨g,cap,cur,e, -, -,h1,h2, -⟩
 ·omega
 ·simp only[Value.slice.injEq]at e;obtain⟨-, -,rfl⟩:=e;exact⟨h1,h2⟩
structure Mid (lo hi:Nat) (W W':World):Prop where
 os:W'.os=W.os
 tape:W'.tape=W.tape
 output:W'.output=W.output
 size:W.heap.size≤W'.heap.size
 block:∀k,(k<lo∨hi≤k)→k<W.heap.size→W'.heap[k]? =W.heap[k]?
theorem Mid.trans {lo hi:Nat}{A B C:World}(h:Mid lo hi A B)(k:Mid lo hi B C):Mid lo hi A C:=
 ⟨k.os.trans h.os,k.tape.trans h.tape,k.output.trans h.output,Nat.le_trans h.size k.size,fun i h1 h2=>(k.block i h1 (Nat.lt_of_lt_of_le h2 h.size)).trans (h.block i h1 h2)⟩
theorem Mid.of_below {lo hi:Nat}{W W':World}(h:Below W.heap.size W W'):Mid lo hi W W':=⟨h.os,h.tape,h.output,h.size,fun k _ h2=>h.block k h2⟩
theorem Mid.grown {lo hi:Nat}{W W':World}{row:Option Nat}(h:W.grownBy W' row)(hr:∀k,row=some k→lo≤k∧k<hi):Mid lo hi W W':=
 ⟨h.os,h.tape,h.output,h.size,fun k h1 h2=>h.block k h2 (fun e=>by have:=hr k e.symm;omega)⟩
theorem Mid.below {lo hi:Nat}{W W':World}(h:Mid lo hi W W')(hl:lo≤W.heap.size):Below lo W W':=
 ⟨h.os,h.tape,h.output,h.size,fun k hk=>h.block k (.inl hk) (Nat.lt_of_lt_of_le hk hl)⟩
theorem kHh {ty:TypeId}{w w':World}{g:Nat}{T:kAy El}{B:Nat}(h:kBl ty w g T B)(ht:kAj val8 ty 64 w g T)(hk:∀k,B≤k→k<w.heap.size→w'.heap[k]? =w.heap[k]?):kAj val8 ty 64 w' g T:=by
 obtain⟨h0,am,cm,al,cl,h1,h2,h3⟩:=h;obtain⟨am',cm',al',cl',k1,k2,k3⟩:=ht;have e:=h1.symm.trans k1;simp only[Option.some.injEq,Obj.cells.injEq,true_and,and_true]at e;have e:=congrArg Array.toList e;simp only[kD7]at e;have e2:=List.append_inj_right e (by simp);simp only[List.cons.injEq,Value.slice.injEq,and_true]at e2;obtain⟨⟨rfl, -,rfl⟩,rfl, -,rfl⟩:=e2
 refine⟨am,cm,al,cl,(hk g h0 (jL h1)).trans h1,fun i hi=> ?_,fun i hi=> ?_⟩
 ·obtain⟨b,o,e3,hr⟩:=k2 i hi;refine⟨b,o,e3,fun j v hv=> ?_⟩;have hc:=hr j v hv;have hB:=h2 _ e3;rw[World.cell?_of_block (w:=w) (a:=⟨b,o+i*64+j,none⟩) (hk b hB (World.block_lt_of_cell? w _ hc))];exact hc
 ·obtain⟨b,o,e3,hr⟩:=k3 i hi;refine⟨b,o,e3,fun j v hv=> ?_⟩;have hc:=hr j v hv;have hB:=h3 _ e3;rw[World.cell?_of_block (w:=w) (a:=⟨b,o+i*64+j,none⟩) (hk b hB (World.block_lt_of_cell? w _ hc))];exact hc
theorem kD4 {B n c:Nat}{E:TypeId}{w:World}{a:Option Addr}{xs:List Value}(h:Own B E w a n c xs)(hn:0<n):∃g,a=some ⟨g,0,none⟩∧B≤g∧g<w.heap.size:=by
 rcases h.2 with⟨-,h0⟩ | ⟨g,cap,cur,e,hb,hg, -⟩
 ·omega
 ·simp only[Value.slice.injEq]at e;obtain⟨rfl, -, -⟩:=e;exact⟨g,rfl,hb,(jL hg)⟩
theorem kCu {w w':World}{sv:Value}{St:MkS Int}(h:kB0 w sv St)(hb:Below w.heap.size w w'):kB0 w' sv St:=by
 obtain⟨_,_,_,_,_,_,e,k1,k2,k3⟩:=h;exact⟨_,_,_,_,_,_,e,k1.below hb jR,k2.below hb jR,k3.below hb jR⟩
theorem kE0 (W:World)(T:kAy El)(St:MkS Int)(F:Nat→Int)(of:Int→El)(N:Nat)(hok:kK2 T St F of N)(pT:Option Addr)(eT:Nat)(pM:Option Addr)(eM:Nat)(pL:Option Addr)(eL:Nat)(Z:Nat)(o1:Own Z 91 W pT 272 eT (T.top.map kAb))(o2:Own Z 91 W pM (64*T.mid.length) eM (kB7 kAb T.mid))(o3:Own Z 9 W pL (64*T.low.length) eL (kB7 val8 T.low))
  (sT:Option Addr)(dT:Nat)(sM:Option Addr)(dM:Nat)(sL:Option Addr)(dL:Nat)(hs:kB0 W (.agg #[.slice sT St.top.length dT,.slice sM (64*St.mids.length) dM,.slice sL (64*St.lows.length) dL]) St)
  (hcall:∀v,0≤v→v≤255→∀W,Calls Try.prog 21 #[.int .u8 v] W fun e W'=>e= .returned (val8 (of v))∧Below W.heap.size W W'):
  Calls Try.prog 85 #[.agg #[.slice pT 272 eT,.slice pM (64*T.mid.length) eM,.slice pL (64*T.low.length) eL],.agg #[.slice sT St.top.length dT,.slice sM (64*St.mids.length) dM,.slice sL (64*St.lows.length) dL],.func (.func 21) #[] #[]] W fun e W'=>e= .returned (.bool true)∧Below W.heap.size W W':=by
 obtain⟨xT,yT,xM,yM,xL,yL,e,k1,k2,k3⟩:=hs;simp only[Value.agg.injEq,Array.mk.injEq,List.cons.injEq,Value.slice.injEq,true_and,and_true]at e;obtain⟨⟨rfl,rfl⟩,⟨rfl,rfl⟩,rfl,rfl⟩:=e;have hbs:=hok.ok
 have em:T.mid.length=St.mids.length:=by rw[hok.mid]
 have el:T.low.length=St.lows.length:=by rw[hok.low,List.length_map]
 have et:St.top.length=272:=by rw[←hok.top];exact hbs.top
 have hm1:=hbs.midL;have hm2:=hbs.lowL
 have HV1:kEz W pT (St.top.map kAb):=by have:=kCl o1;rw[hok.top]at this;exact this
 have HV2:kEz W pM (St.mids.flatten.map kAb):=by have:=kCl o2;rw[hok.mid,kBv]at this;exact this
 have HV3:kEz W pL (St.lows.flatten.map (fun v=>val8 (of v))):=by have:=kCl o3;rw[hok.low,kBv,←List.map_flatten,List.map_map]at this;exact this
 rw[em,el,et];rw[em]at hm1;rw[el]at hm2
 exact(kDn W pT eT pM eM pL eL sT dT sM dM sL dL St.top St.mids.flatten St.lows.flatten 272 (64*St.mids.length) (64*St.lows.length) et (by rw[kBm _ (fun l hl=>hbs.mid l (by rw[hok.mid];exact hl))]) (by rw[kBm _ (fun l hl=>by have:=hbs.low (l.map of) (by rw[hok.low];exact List.mem_map_of_mem hl);rwa[List.length_map]at this)]) (by omega) of 21 #[] (enters_of Try.func21 (by kernel_rfl) rfl) HV1 HV2 HV3 k1 k2 k3
  (fun v hv=>by obtain⟨l,hl,h⟩:=List.mem_flatten.1 hv;exact hok.lo l hl v h) (fun x hx=>by rw[←hok.top]at hx;have:=hbs.topN x hx;have:=hbs.midL;omega) (fun x hx=>by obtain⟨l,hl,h⟩:=List.mem_flatten.1 hx;rw[←hok.mid]at hl;have:=hbs.midN l hl x h;have:=hbs.lowL;omega)
  (fun v hv W hW=>by obtain⟨l,hl,h⟩:=List.mem_flatten.1 hv;have hr:=hok.lo l hl v h;exact hcall v hr.1 hr.2 W))
def BtR (w0:World) (n:Nat) (iv:Value) (wr:World):Prop:=∃k:Nat,k≤n∧iv= .int .i64 (k:Nat)∧Below w0.heap.size w0 wr
theorem built_walk (w:World)(rest:Int)(a:Option Addr)(n c:Nat)(l:List Go.Proofs.Ytabbabkmojaoaaa.SpanD)(hl:l.length=n)(hn:n≤60)(hs:Go.Proofs.Ytabbabkmojaoaaa.SpansAt w a l)(hwf:∀s∈l, -2147483648≤s.f∧s.f≤2147483647∧ -2147483648≤s.t∧s.t≤2147483647)(hv:∀s∈l,0≤s.v∧s.v≤255)(hr:0≤rest∧rest≤255)
  (of:Int→El)(hi:kKn of)(hcall:∀v,0≤v→v≤255→∀W,Calls Try.prog 21 #[.int .u8 v] W fun e W'=>e= .returned (val8 (of v))∧Below W.heap.size W W')
  (az:Option Addr)(nz cz:Nat)(zs:List Int)(hz:Ints .i32 w az zs)(hzn:zs.length=nz)(hzb:∀z∈zs, -2147483648≤z∧z≤2147483647):
  Calls Try.prog 55 #[.int .u8 rest,.slice a n c,.func (.func 21) #[] #[],.slice az nz cz] w fun e w'=>e= .returned (.bool true)∧Below w.heap.size w w':=by
 have HSp:=jH (spans_walk w a n c l hl (by omega) hs of 21 #[] (enters_of Try.func21 (by kernel_rfl) rfl) (fun s hs' W hb=>hcall s.v (hv s hs').1 (hv s hs').2 W))
 have HL:=jH hl;have HS:=jH hs;have HWf:=jH hwf;have HV:=jH hv;have HR:=jH hr;have HI:=jH hi;have HCl:=jH hcall
 have HZ:=jH hz;have HZn:=jH hzn;have HZb:=jH hzb
 clear hl hs hwf hv hi hcall hz hzn hzb
 go_enter Try.func55,Try.ntmps55
 go_wp2_with fail
 refine HSp.out.mono ?_;rintro e w1 ⟨a1,c1,rfl,ho,hb⟩
 have HO1:=jH ho;have HB1:=jH hb
 clear ho hb HSp;have HT2:=jH (jN w1 (.cells #[.int .i32 7,.int .i32 0,.string {data:= #[]},.int .i32 8,.int .i32 0,.string {data:= #[]}] 163))
 go_upto_region 2 with(fail)
 refine wp_region_list ?_;refine kAc (v:= .slice a1 n c1) (w':=w1) rfl (by rfl) ?_;refine kAc (v:= .agg #[.int .i32 7,.int .i32 0,.string {data:= #[]}]) (w':=w1) rfl (by kernel_rfl) ?_;refine kAc (v:= .agg #[.int .i32 8,.int .i32 0,.string {data:= #[]}]) (w':=w1) rfl (by kernel_rfl) ?_;refine kAc (v:= .slice (some ⟨w1.heap.size,0,none⟩) 2 2) (w':=w1.alloc (.cells #[.int .i32 7,.int .i32 0,.string {data:= #[]},.int .i32 8,.int .i32 0,.string {data:= #[]}] 163)) rfl (by kernel_rfl) ?_;refine kHf Try.elemSn rfl (.tmp 25) (.tmp 28) rfl (World.ownsRow.alloc HO1.out _) (by have:=HB1.out.size;simp;omega) w1.heap.size 2 2 kKf rfl (by decide) (fun j u hu=>by rw[jK _ w1.heap.size j _ _ (0,0) HT2.out,←Array.getElem?_toList];exact hu) (by intro u hu;simp[kKf]at hu;rcases hu with rfl | rfl | rfl | rfl | rfl | rfl<;>rfl) (by omega) (by unfold maxLen;omega) rfl rfl ?_;intro a2 c2 w2 ho2 hg2 hn2 ho2';have HB2:Hid (Below w.heap.size w w2):=jH (Below.ofGrown (w:=w1.alloc (.cells #[.int .i32 7,.int .i32 0,.string {data:= #[]},.int .i32 8,.int .i32 0,.string {data:= #[]}] 163)) hg2 (by have:=HB1.out.size;simp;omega) (fun k e=>(World.ownsRow.lt HO1.out k e).1) |> fun h=>(HB1.out.alloc HB1.out.size _).trans h);have HO2:=jH ho2;have HP2:=jH ho2';clear ho2 hg2 hn2 ho2' HT2 HO1 HB1
 obtain⟨g2,hg2,ha2,hc2⟩:∃g2,g2<w2.heap.size∧a2=some ⟨g2,0,none⟩∧n+2≤c2:=by
  rcases HO2.out.2 with⟨-,h0⟩ | ⟨g,cap,cur,e,hb,hg,hnc, -⟩
  ·omega
  ·simp only[Value.slice.injEq]at e;obtain⟨rfl, -,rfl⟩:=e;exact⟨g,(jL hg),rfl,hnc⟩
 subst ha2;have hs2:SpansAt w2 (some ⟨g2,0,none⟩) (spV of l):=kDv HO2.out
 have HS2:=jH hs2;clear hs2
 have hnc:(n:Int)≤(c2:Int):=by omega
 have hn0:(0:Int)≤(n:Int):=by omega
 go_wp2_with fail
 go_region_held3 (fun _:World=>True) (trivial) (first
  | (go_at_call 21;refine(HCl.out rest hr.1 hr.2 _).mono ?_;rintro e w3 ⟨rfl,hb3⟩)
  | (go_at_call 106;refine(kE3 w3 of rest l (some ⟨g2,0,none⟩) n c2 HL.out hn (HS2.out.below ((Below.refl w2.heap.size w2).drew.trans hb3) (fun b o e _=>by cases e;exact hg2)) HWf.out).mono ?_;rintro e w4 ⟨tv,av,ev,rfl,hq⟩))
 have HB3:Hid (Below w2.heap.size w2 w4):=jH (((Below.refl w2.heap.size w2).drew.trans hb3).trans (hq.1.mono hb3.size));have HQ4:=jH hq;have HB4:Hid (Below w.heap.size w w4):=jH (HB2.out.trans (HB3.out.mono HB2.out.size));clear hq hb3 hnc hn0;have HSw:Hid (Go.Proofs.Ytabbabkmojaoaaa.SpansAt w4 a l):=jH (HS.out.below HB4.out HS.out.lt)
 have hwr:wrap64 rest=rest:=by unfold wrap64;omega
 go_wp2_with fail
 refine(kH6 w4 a n c l HL.out (by omega) HSw.out HV.out).mono ?_;rintro e w5 ⟨a5,c5,rfl,hk,hb⟩
 have HB5:=jH hb;have HK5:=jH hk
 clear hb hk
 go_wp2_with fail
 refine(kF7 rest a5 n c5 l w5 HL.out (by omega) HK5.out HWf.out).mono ?_;rintro e w6 hq6;have HB6:=jH (HB5.out.trans (hq6.1.mono HB5.out.size));obtain⟨tv',av',ev',fv,pv,nv,e1,rfl,hboth⟩:=kIm HQ4.out hq6;simp at e1;obtain⟨rfl,rfl,rfl⟩:=e1
 obtain⟨ix,er,tp,aT,nT,cT,aV,nV,cV,rfl,rfl,rfl,rfl,rfl,rfl,hcase⟩:∃(ix er:Int) (tp:Option Addr) (aT:Option Addr) (nT cT:Nat) (aV:Option Addr) (nV cV:Nat),tv= .pointer tp∧av= .int .i64 ix∧ev= .int .i64 er∧fv= .agg #[.slice aT nT cT,.slice aV nV cV]∧pv= .int .i64 ix∧nv= .int .i64 er∧
   ((tp=none∧er≠0)∨(er=0∧∃g S,tp=some ⟨g,0,none⟩∧kBu (fun r=>of (Go.Proofs.Ytabbabkmojaoaaa.fS rest l r)) S∧kAj val8 138 64 w4 g (kA1 S)∧kH9 w6 (.agg #[.slice aT nT cT,.slice aV nV cV]) (kAt (Go.Proofs.Ytabbabkmojaoaaa.fS rest l) 1114112))):=by
  rcases hboth with⟨i,er,her,rfl,rfl,rfl,rfl,rfl,rfl⟩ | ⟨g,S,rfl,rfl,rfl,rfl,rfl,hM,hT,hF⟩
  ·exact⟨i,er,none,none,0,0,none,0,0,rfl,rfl,rfl,rfl,rfl,rfl,.inl ⟨rfl,her⟩⟩
  ·have hF':=hF;obtain⟨xT,dT,xV,dV,rfl, -⟩:=hF;exact⟨0,0,some ⟨g,0,none⟩,xT,_,dT,xV,_,dV,rfl,rfl,rfl,rfl,rfl,rfl,.inr ⟨rfl,g,S,rfl,hM,hT,hF'⟩⟩
 have HCa:=jH hcase;clear hq6 hboth hcase HQ4 HB5 HK5 hwr
 obtain⟨bf,hbf⟩:∃bf,bf=w6.heap.size:=⟨_,rfl⟩
 have A1:=jN w6 (.cells #[.slice aT nT cT,.slice aV nV cV] 63);have A2:=(Below.refl _ w6).alloc jR (.cells #[.slice aT nT cT,.slice aV nV cV] 63);have A3:=World.size_alloc w6 (.cells #[.slice aT nT cT,.slice aV nV cV] 63);rw[←hbf]at A1 A3
 have HBf:=jH hbf;clear hbf
 obtain⟨w7,hw7⟩:∃w7,w7=w6.alloc (.cells #[.slice aT nT cT,.slice aV nV cV] 63):=⟨_,rfl⟩
 rw[←hw7]at A1 A2 A3
 have HA:=jH (And.intro A1 (And.intro A2 A3));have HW7:=jH hw7
 clear A1 A2 A3 hw7;have HB27:Hid (Below w2.heap.size w2 w7):=jH (HB3.out.trans ((HB6.out.trans (HA.out.2.1.mono HB6.out.size)).mono HB3.out.size));have HB7:Hid (Below w.heap.size w w7):=jH (HB2.out.trans (HB27.out.mono HB2.out.size));have hfl:=kBy of l
 have k7:w7.cell? ⟨g2,n*3,none⟩=some (.int .i32 7):=by
  rw[HB27.out.cell (p:=⟨g2,n*3,none⟩) hg2,World.ownsRow.cellAt HO2.out (n*3) (by omega),List.getElem?_append_right (by rw[hfl,HL.out];omega),hfl,HL.out,Nat.sub_self]
  rfl
 have k8:w7.cell? ⟨g2,(n+1)*3,none⟩=some (.int .i32 8):=by
  rw[HB27.out.cell (p:=⟨g2,(n+1)*3,none⟩) hg2,World.ownsRow.cellAt HO2.out ((n+1)*3) (by omega),List.getElem?_append_right (by rw[hfl,HL.out];omega),hfl,HL.out,show(n+1)*3 - n*3=3 by omega]
  rfl
 clear hfl
 go_upto_region 5 with(fail)
 rw[←HW7.out,←HBf.out]
 go_cut [84]from 51 to 84 (fun p wx=>p= .bool false∧wx=w7)
 case first=>
  have hn0:(0:Int)≤(n:Int):=by omega
  have hn2:(n:Int)<(n:Int)+2:=by omega
  have hn3:(n:Int)+1<(n:Int)+2:=by omega
  rcases HCa.out with⟨rfl,her⟩ | ⟨rfl,g,S,rfl, -⟩
  ·have her':(er != 0)=true:=by simpa using her
   go_wp2
   go_meet
   exact⟨rfl,rfl⟩
  ·go_wp2
   go_meet
   exact⟨rfl,rfl⟩
 case rest=>
 obtain⟨rfl,rfl⟩:=hcut;clear k7 k8;have hsl2:SpansAt w2 a1 (spV of l):=kDv (ys:=[]) (by rw[List.append_nil];exact HP2.out);have HSl:Hid (SpansAt wc a1 (spV of l)):=jH (hsl2.below HB27.out hsl2.lt);have HSa:Hid (Go.Proofs.Ytabbabkmojaoaaa.SpansAt wc a l):=jH (HSw.out.below (HB6.out.trans (HA.out.2.1.mono HB6.out.size)) HSw.out.lt);clear hsl2;go_wp2
 go_loopw [17] (BtR wc n) (fun i _=>n - (intOf i).toNat)
 case atStart=>exact⟨0,Nat.zero_le _,rfl,Below.refl _ _⟩
 case round=>
  obtain⟨k,hk,rfl,hbel⟩:=hrel
  have HBe:=jH hbel;clear hbel
  by_cases hkn:k<n
  ·have hki:(k:Int)<(n:Int):=by omega
   have hkl:k<l.length:=by rw[HL.out];exact hkn
   obtain⟨b1,o1,rfl,x0,x1,x2⟩:=(HSl.out.below HBe.out HSl.out.lt) k (by rw[kA8];exact hkl);obtain⟨b0,o0,rfl,y0,y1,y2⟩:=(HSa.out.below HBe.out HSa.out.lt) k hkl;rw[show(spV of l)[k]'(by rw[kA8];exact hkl)=⟨l[k].f,l[k].t,of l[k].v⟩from by simp[spV]]at x0 x1 x2;have hvk:=HV.out l[k] (List.getElem_mem hkl);have hfk:=HWf.out l[k] (List.getElem_mem hkl);generalize l[k]=s at*;obtain⟨sf,st,sv⟩:=s
   dsimp only at*
   have HKp:Hid (∀(W W':World),Below W.heap.size W W'→(W.cell? ⟨b1,o1+k*3,none⟩=some (.int .i32 sf)∧W.cell? ⟨b1,o1+k*3+1,none⟩=some (.int .i32 st)∧W.cell? ⟨b1,o1+k*3+2,none⟩=some (.string (of sv))∧W.cell? ⟨b0,o0+k*3,none⟩=some (.int .i32 sf)∧W.cell? ⟨b0,o0+k*3+1,none⟩=some (.int .i32 st)∧W.cell? ⟨b0,o0+k*3+2,none⟩=some (.int .u8 sv))→
     (W'.cell? ⟨b1,o1+k*3,none⟩=some (.int .i32 sf)∧W'.cell? ⟨b1,o1+k*3+1,none⟩=some (.int .i32 st)∧W'.cell? ⟨b1,o1+k*3+2,none⟩=some (.string (of sv))∧W'.cell? ⟨b0,o0+k*3,none⟩=some (.int .i32 sf)∧W'.cell? ⟨b0,o0+k*3+1,none⟩=some (.int .i32 st)∧W'.cell? ⟨b0,o0+k*3+2,none⟩=some (.int .u8 sv))):=jH (fun W W' hb ⟨h1,h2,h3,h4,h5,h6⟩=>by
    have kc:∀ {p:Addr} {v:Value},W.cell? p=some v→W'.cell? p=some v:=fun {p v} h=>(hb.cell (World.block_lt_of_cell? W _ h)).trans h
    exact⟨kc h1,kc h2,kc h3,kc h4,kc h5,kc h6⟩)
   have hne:(!ByteArray.toList (of sv)==ByteArray.toList (of sv))=false:=by simp
   have HCs:=jH (HCl.out sv hvk.1 hvk.2);unfold val8 at HCs;generalize of sv=u at*
   go_wp2_with fail
   go_region_held3 (fun w':World=>w'.cell? ⟨b1,o1+k*3,none⟩=some (.int .i32 sf)∧w'.cell? ⟨b1,o1+k*3+1,none⟩=some (.int .i32 st)∧w'.cell? ⟨b1,o1+k*3+2,none⟩=some (.string u)∧w'.cell? ⟨b0,o0+k*3,none⟩=some (.int .i32 sf)∧w'.cell? ⟨b0,o0+k*3+1,none⟩=some (.int .i32 st)∧w'.cell? ⟨b0,o0+k*3+2,none⟩=some (.int .u8 sv)) (first | exact⟨x0,x1,x2,y0,y1,y2⟩ | exact HKp.out wr.drew _ hb9 ⟨x0,x1,x2,y0,y1,y2⟩) (first
    | (go_at_call 21;refine(HCs.out _).mono ?_;rintro e w9 ⟨rfl,hb9⟩))
   have HB9:Hid (Below wc.heap.size wc w9):=jH (HBe.out.trans ((Below.refl wr.heap.size wr).drew.trans hb9 |>.mono HBe.out.size));clear hb9 x0 x1 x2 y0 y1 y2;go_wp2
   go_roundw
   case rel=>exact⟨k+1,by omega,by go_num,HB9.out⟩
   case measure=>simp[intOf];omega
  ·obtain rfl:k=n:=by omega
   have hki:¬(k:Int)<(k:Int):=by omega
   have HB7e:Hid (Below w.heap.size w wr):=jH (HB7.out.trans (HBe.out.mono HB7.out.size))
   rcases HCa.out with⟨rfl,her⟩ | ⟨rfl,g,S,rfl,hM,hT,hF⟩
   ·go_wp2
    go_ret
    exact⟨rfl,HB7e.out⟩
   have HMa:=jH hM;have HT4:=jH hT;have HF6:=jH hF
   clear hM hT hF HCa HSl HSa
   obtain⟨N,hN⟩:∃N,N=1114112:=⟨_,rfl⟩
   obtain⟨M,hM⟩:∃M,M=17408:=⟨_,rfl⟩
   rw[←hN]at HF6
   obtain⟨F,hF⟩:∃F,F=Go.Proofs.Ytabbabkmojaoaaa.fS rest l:=⟨_,rfl⟩
   rw[←hF]at HF6 HMa;have HRg:Hid (∀r,r<N→0≤F r∧F r≤255):=jH (fun r _=>by rw[hF];exact kKu hr HV.out r)
   have HN:=jH hN;have HM:=jH hM
   clear hF hN hM;have HB6r:Hid (Below w6.heap.size w6 wr):=jH (HA.out.2.1.trans (HBe.out.mono HA.out.2.1.size));have HFr:=jH (HF6.out.below HB6r.out);have HBr4:Hid (Below w4.heap.size w4 wr):=jH (HB6.out.trans (HB6r.out.mono HB6.out.size));have hfb:=(HBe.out.block bf (jL HA.out.1)).trans HA.out.1;have q0:wr.cell? ⟨bf,0,none⟩=some (.slice aT nT cT):=jK wr bf 0 _ _ (0,0) hfb;have q1:wr.cell? ⟨bf,1,none⟩=some (.slice aV nV cV):=jK wr bf 1 _ _ (0,0) hfb;have HFb:=jH hfb;clear hfb HB7 HB27 HB3 HB2 HO2 HP2 HS2 HW7
   go_wp2_with fail
   refine(kFm wr _ F N M HN.out HM.out HFr.out).mono ?_;rintro e w8 ⟨sv,rfl,hsv,hb⟩
   obtain⟨St,hSt⟩:∃St,St=Go.Proofs.Ytabbabkmojaoaaa.mkF F M:=⟨_,rfl⟩
   rw[←hSt]at hsv
   have HSt:=jH hSt;clear hSt
   obtain⟨sT,dT,sM,dM,sL,dL,rfl,k1,k2,k3⟩:=hsv;have A2:=(Below.refl _ w8).alloc jR (.cells #[.slice sT St.top.length dT,.slice sM (64*St.mids.length) dM,.slice sL (64*St.lows.length) dL] 70);have A1:=jN w8 (.cells #[.slice sT St.top.length dT,.slice sM (64*St.mids.length) dM,.slice sL (64*St.lows.length) dL] 70)
   obtain⟨bs,hbs⟩:∃bs,bs=w8.heap.size:=⟨_,rfl⟩
   rw[←hbs]at A1
   obtain⟨w9,hw9⟩:∃w9,w9=w8.alloc (.cells #[.slice sT St.top.length dT,.slice sM (64*St.mids.length) dM,.slice sL (64*St.lows.length) dL] 70):=⟨_,rfl⟩
   rw[←hw9]at A1 A2;have HBr9:Hid (Below wr.heap.size wr w9):=jH (hb.trans (A2.mono hb.size));have HS9:Hid (kB0 w9 (.agg #[.slice sT St.top.length dT,.slice sM (64*St.mids.length) dM,.slice sL (64*St.lows.length) dL]) St):=jH ⟨_,_,_,_,_,_,rfl,k1.below A2 jR,k2.below A2 jR,k3.below A2 jR⟩;have HF9:=jH (HFr.out.below HBr9.out);have HT9:=jH ((HT4.out.below HBr4.out jR).below HBr9.out jR);have HB9:Hid (Below w.heap.size w w9):=jH (HB7e.out.trans (HBr9.out.mono HB7e.out.size));have HZ9:Hid (Ints .i32 w9 az zs):=jH (HZ.out.below HB9.out jR);have x0:=(HBr9.out.block bf (jL HFb.out)).trans HFb.out;have HC9:=jH (And.intro x0 A1)
   have HW9:=jH hw9;have HBs:=jH hbs
   have hLk:kK2 (kA1 S) St F of N:=by
    rw[HSt.out];exact lkOk HN.out HM.out HMa.out HI.out (fun r _=>rfl) HRg.out
   have HLk:=jH hLk;have HLo:=jH (kDr w9 g (kA1 S) St F of N HN.out hLk HT9.out _ _ HF9.out HS9.out 21 #[] (enters_of Try.func21 (by kernel_rfl) rfl) (fun v h1 h2 W _=>HCl.out v h1 h2 W) az nz cz zs HZ9.out HZn.out HZb.out);clear k1 k2 k3 A1 A2 x0 hw9 hbs hb hLk HFr HT4 HF6 HFb q0 q1
   go_upto_region 15 with(fail)
   rw[←HW9.out,←HBs.out];have q0:w9.cell? ⟨bf,0,none⟩=some (.slice aT nT cT):=jK w9 bf 0 _ _ (0,0) HC9.out.1;have q1:w9.cell? ⟨bf,1,none⟩=some (.slice aV nV cV):=jK w9 bf 1 _ _ (0,0) HC9.out.1;have q2:w9.cell? ⟨bs,0,none⟩=some (.slice sT St.top.length dT):=jK w9 bs 0 _ _ (0,0) HC9.out.2;have q3:w9.cell? ⟨bs,1,none⟩=some (.slice sM (64*St.mids.length) dM):=jK w9 bs 1 _ _ (0,0) HC9.out.2;have q4:w9.cell? ⟨bs,2,none⟩=some (.slice sL (64*St.lows.length) dL):=jK w9 bs 2 _ _ (0,0) HC9.out.2
   go_wp2_with fail
   refine HLo.out.mono ?_;clear HLo q0 q1 q2 q3 q4;rintro e w10 ⟨rfl,hb⟩;have HB10:Hid (Below w9.heap.size w9 w10):=jH hb;have HT10:=jH (HT9.out.below hb jR);clear hb;have hpos:=HMa.out.pos;have hok:=HMa.out.trie;have HOk:=jH hok;have HPos:=jH hpos;clear hok hpos
   go_wp2_with fail
   refine(kCr w10 g (kA1 S) HOk.out HPos.out.1 HT10.out).mono ?_;rintro e w11 ⟨pT,eT,pM,eM,pL,eL,rfl,o1,o2,o3,hb,hd⟩;have hfo:=HMa.out.fromOk;have hmp:=HPos.out;have hml:=HMa.out.ml;have hll:=HMa.out.ll;have hlM:S.mids.flatten.length=64*S.mids.length:=kDa _ HMa.out.made.ok.mid;have hlL:S.lows.flatten.length=64*S.lows.length:=kDa _ HMa.out.made.ok.low
   have hvT:∀z∈S.top,z<65536:=fun z hz=>by have:=HOk.out.topN z hz;show z<65536;have h2:z<S.mids.length:=this;omega
   have hvM:∀z∈S.mids.flatten,z<65536:=fun z hz=>by
    obtain⟨m,hm,hzm⟩:=List.mem_flatten.1 hz;have h2:z<S.lows.length:=HOk.out.midN m hm z hzm;omega
   rw[kFq]at o2 o3
   obtain⟨nM,hnM⟩:∃nM,nM=64*S.mids.length:=⟨_,rfl⟩
   obtain⟨nL,hnL⟩:∃nL,nL=64*S.lows.length:=⟨_,rfl⟩
   change Own w10.heap.size 91 w11 pM (64*S.mids.length) eM (S.mids.flatten.map kAb)at o2
   change Own w10.heap.size 9 w11 pL (64*S.lows.length) eL (S.lows.flatten.map val8)at o3
   change Own w10.heap.size 91 w11 pT 272 eT (S.top.map kAb)at o1
   rw[show(kA1 S).mid.length=S.mids.length from rfl,show(kA1 S).low.length=S.lows.length from rfl,←hnM,←hnL];rw[←hnM]at o2 hlM;rw[←hnL]at o3 hlL
   obtain⟨bp,hbp⟩:∃bp,bp=w11.heap.size:=⟨_,rfl⟩
   have A1:=jN w11 (.cells #[.slice pT 272 eT,.slice pM nM eM,.slice pL nL eL] 167);have A2:=(Below.refl _ w11).alloc jR (.cells #[.slice pT 272 eT,.slice pM nM eM,.slice pL nL eL] 167);have A3:=World.size_alloc w11 (.cells #[.slice pT 272 eT,.slice pM nM eM,.slice pL nL eL] 167);rw[←hbp]at A1 A3
   obtain⟨w12,hw12⟩:∃w12,w12=w11.alloc (.cells #[.slice pT 272 eT,.slice pM nM eM,.slice pL nL eL] 167):=⟨_,rfl⟩
   rw[←hw12]at A1 A2 A3;have O1:=jH (World.ownsRow.alloc o1 (.cells #[.slice pT 272 eT,.slice pM nM eM,.slice pL nL eL] 167));have O2:=jH (World.ownsRow.alloc o2 (.cells #[.slice pT 272 eT,.slice pM nM eM,.slice pL nL eL] 167));have O3:=jH (World.ownsRow.alloc o3 (.cells #[.slice pT 272 eT,.slice pM nM eM,.slice pL nL eL] 167));rw[←hw12]at O1 O2 O3;have HB12:Hid (Below w10.heap.size w10 w12):=jH (hb.trans (A2.mono hb.size));have HT12:=jH ((HT10.out.below hb jR).below A2 jR);have HA12:=jH (And.intro A1 A3);have HD:=jH hd
   have HW12:=jH hw12;have HBp:=jH hbp
   have q0:w12.cell? ⟨bp,0,none⟩=some (.slice pT 272 eT):=jK w12 bp 0 _ _ (0,0) A1;have q1:w12.cell? ⟨bp,1,none⟩=some (.slice pM nM eM):=jK w12 bp 1 _ _ (0,0) A1;have q2:w12.cell? ⟨bp,2,none⟩=some (.slice pL nL eL):=jK w12 bp 2 _ _ (0,0) A1;have hFr:=kFp w12 pT pM pL 272 eT nM eM nL eL S.top S.mids.flatten S.lows.flatten HMa.out.made.ok.top hlM hlL (kD3 O1.out (by omega)) (kD3 O2.out (by omega)) (kD3 O3.out (by omega)) hvT hvM (kFj HMa.out.made.ok.top O1.out) (kFj hlM O2.out) (kHb hlL O3.out);have HFr:=jH hFr;have HNm:=jH (And.intro hnM (And.intro hnL (And.intro hlM hlL)));have HFo:=jH hfo;have HLt:=jH (And.intro (World.ownsRow.lt o1) (And.intro (World.ownsRow.lt o2) (World.ownsRow.lt o3)));have HSz:=jH (And.intro hbp A3);clear hFr A1 A2 A3 hw12 hbp o1 o2 o3 hb hd hvT hvM hnM hnL hlM hlL hfo
   go_upto_region 18 with(fail)
   rw[←HW12.out,←HBp.out]
   go_wp2_with fail
   refine HFr.out.mono ?_;clear HFr;rintro e w13 ⟨hb,hq⟩
   rcases hq with⟨-,hno⟩ | ⟨-,gu,rfl,hgu,hTu,hFu⟩
   ·exact absurd HFo.out.1 hno
   rw[HFo.out.2]at hTu hFu
   have HB13:=jH hb;have HTu:=jH hTu;have HFu:=jH hFu
   have HT13:=jH (HT12.out.below hb jR);clear hb hTu hFu q0 q1 q2
   go_wp2_with fail
   refine(kGe w13 g gu (kA1 S) (kA1 S) HOk.out HOk.out HPos.out.1 HPos.out.1 HT13.out HTu.out).mono ?_;rintro e w14 ⟨b,q,rfl,rfl,hiff⟩;obtain rfl:b=true:=hiff.2 (fun _ _=>rfl);clear hiff;have HBq:Hid (Below w13.heap.size w13 (w13.drewN q)):=jH (below_drewN (Below.refl _ _) q);have HT14:=jH (HT13.out.below HBq.out jR);have HTu14:=jH (HTu.out.below HBq.out jR);have HFu14:=jH (HFu.out.below HBq.out);have hb1:Below w12.heap.size w12 (w13.drewN q):=HB13.out.trans (HBq.out.mono HB13.out.size);have P1:=jH (Own.below O1.out hb1 jR);have P2:=jH (Own.below O2.out hb1 jR);have P3:=jH (Own.below O3.out hb1 jR);have HP14:=jH ((hb1.block bp (jL HA12.out.1)).trans HA12.out.1);have HB14:Hid (Below w10.heap.size w10 (w13.drewN q)):=jH (HB12.out.trans (hb1.mono HB12.out.size));have hs12:w12.heap.size≤(w13.drewN q).heap.size:=hb1.size;clear hb1 HBq HB13 HT12 HT13 HTu HFu HT9 O1 O2 O3
   obtain⟨w14,hw14⟩:∃w14,w14=w13.drewN q:=⟨_,rfl⟩
   rw[←hw14]at HT14 HTu14 HFu14 P1 P2 P3 HP14 HB14 hs12 ⊢;clear hw14
   have hl0:0<nM∧0<nL:=by have:=HPos.out;have:=HNm.out;omega
   obtain⟨gT,rfl,gT1,gT2⟩:=kD4 P1.out (by omega);obtain⟨gM,rfl,gM1,gM2⟩:=kD4 P2.out hl0.1;obtain⟨gL,rfl,gL1,gL2⟩:=kD4 P3.out hl0.2
   have hgTM:gT≠gM:=fun e=>(HD.out.1 gT rfl).1 (by rw[e];rfl)
   have hgTL:gT≠gL:=fun e=>(HD.out.1 gT rfl).2 (by rw[e];rfl)
   have hgML:gM≠gL:=fun e=>(HD.out.2 gM rfl) (by rw[e];rfl)
   go_upto_region 21 with(fail)
   refine(wpIn_wide (n:=2)).1 ?_;refine kAi [] (fun w':World=>w'.cell? ⟨bp,0,none⟩=some (.slice (some ⟨gT,0,none⟩) 272 eT)∧w'.cell? ⟨bp,1,none⟩=some (.slice (some ⟨gM,0,none⟩) nM eM)∧w'.cell? ⟨bp,2,none⟩=some (.slice (some ⟨gL,0,none⟩) nL eL)) (by kernel_rfl) ?_;have HCx:Hid ((fun w':World=>w'.cell? ⟨bp,0,none⟩=some (.slice (some ⟨gT,0,none⟩) 272 eT)∧w'.cell? ⟨bp,1,none⟩=some (.slice (some ⟨gM,0,none⟩) nM eM)∧w'.cell? ⟨bp,2,none⟩=some (.slice (some ⟨gL,0,none⟩) nL eL)) w14.drew):=jH ⟨jK w14 bp 0 _ _ (0,0) HP14.out,jK w14 bp 1 _ _ (0,0) HP14.out,jK w14 bp 2 _ _ (0,0) HP14.out⟩;have HBd:Hid (Below w14.heap.size w14 w14.drew):=jH (Below.refl _ _).drew
   obtain⟨v0,hv0⟩:∃v0,v0=w14.drew:=⟨_,rfl⟩
   rw[←hv0]at HCx HBd ⊢;clear hv0;refine' kAa (i:=0) (v:=_) [1,10,11,12,13,14,15] (by kernel_rfl) rfl (by rfl) (by kernel_rfl) (fun _ _ _ h=>h) (by rfl) (by rintro w' ⟨c0,c1,c2⟩;go_simp;try with_reducible rfl) HCx.out ?_;simp only[jA,jB,jC,Act.put,jD,jE,jF];refine' kAa (i:=1) (v:=_) [10,11,12,13,14,15] (by kernel_rfl) rfl (by rfl) (by kernel_rfl) (fun _ _ _ h=>h) (by rfl) (by rintro w' ⟨c0,c1,c2⟩;go_simp;try with_reducible rfl) HCx.out ?_;simp only[jA,jB,jC,Act.put,jD,jE,jF];refine' kAa (i:=2) (v:=_) [3,12,13,14,15] (by kernel_rfl) rfl (by rfl) (by kernel_rfl) (fun _ _ _ h=>h) (by rfl) (by rintro w' ⟨c0,c1,c2⟩;go_simp;try with_reducible rfl) HCx.out ?_;simp only[jA,jB,jC,Act.put,jD,jE,jF];refine' kAa (i:=3) (v:=_) [12,13,14,15] (by kernel_rfl) rfl (by rfl) (by kernel_rfl) (fun _ _ _ h=>h) (by rfl) (by rintro w' ⟨c0,c1,c2⟩;go_simp;try with_reducible rfl) HCx.out ?_;simp only[jA,jB,jC,Act.put,jD,jE,jF];refine' kAa (i:=4) (v:=_) [5,14,15] (by kernel_rfl) rfl (by rfl) (by kernel_rfl) (fun _ _ _ h=>h) (by rfl) (by rintro w' ⟨c0,c1,c2⟩;go_simp;try with_reducible rfl) HCx.out ?_;simp only[jA,jB,jC,Act.put,jD,jE,jF];refine' kAa (i:=5) (v:=_) [14,15] (by kernel_rfl) rfl (by rfl) (by kernel_rfl) (fun _ _ _ h=>h) (by rfl) (by rintro w' ⟨c0,c1,c2⟩;go_simp;try with_reducible rfl) HCx.out ?_;simp only[jA,jB,jC,Act.put,jD,jE,jF];refine' kAa (i:=6) (v:=_) [9,10,11,12,13,14,15] (by kernel_rfl) rfl (by rfl) (by kernel_rfl) (fun _ _ _ h=>h) (by rfl) (by rintro w' ⟨c0,c1,c2⟩;go_simp;try with_reducible rfl) HCx.out ?_;simp only[jA,jB,jC,Act.put,jD,jE,jF];refine' kAa (i:=7) (v:=_) [8,9,10,11,12,13,14,15] (by kernel_rfl) rfl (by rfl) (by kernel_rfl) (fun _ _ _ h=>h) (by rfl) (by rintro w' ⟨c0,c1,c2⟩;go_simp;try with_reducible rfl) HCx.out ?_;simp only[jA,jB,jC,Act.put,jD,jE,jF];refine' kAa (i:=8) (v:=_) [9,10,11,12,13,14,15] (by kernel_rfl) rfl (by rfl) (by kernel_rfl) (fun _ _ _ h=>h) (by rfl) (by rintro w' ⟨c0,c1,c2⟩;go_simp;try with_reducible rfl) HCx.out ?_;simp only[jA,jB,jC,Act.put,jD,jE,jF]
   have hrv:0≤IntKind.u8.wrap (rest+1)∧IntKind.u8.wrap (rest+1)≤255:=by simp[IntKind.wrap,IntKind.bits,IntKind.signed];omega
   refine kAk (i:=9) (by kernel_rfl) ?_;refine kA9 (i:=9) rfl (by rfl) (by rfl) (fun _ _=>trivial) (kCj (.tmp 166) (.tmp 168) _ rfl 21 #[] rfl (.int .u8 (IntKind.u8.wrap (rest+1))) rfl (enters_of Try.func21 (by kernel_rfl) rfl)) (fun h=>by cases h) ?_;refine callsIn_wide.2 ?_;refine(HCl.out _ hrv.1 hrv.2 v0).mono ?_;rintro e w15 ⟨rfl,hb⟩
   have hbp14:bp<w14.heap.size:=(jL HP14.out)
   have HB15:=jH (HBd.out.trans (hb.mono HBd.out.size));have HP15:=jH ((HB15.out.block bp hbp14).trans HP14.out);have HC15:Hid ((fun w':World=>w'.cell? ⟨bp,0,none⟩=some (.slice (some ⟨gT,0,none⟩) 272 eT)∧w'.cell? ⟨bp,1,none⟩=some (.slice (some ⟨gM,0,none⟩) nM eM)∧w'.cell? ⟨bp,2,none⟩=some (.slice (some ⟨gL,0,none⟩) nL eL)) w15):=jH ⟨jK w15 bp 0 _ _ (0,0) HP15.out,jK w15 bp 1 _ _ (0,0) HP15.out,jK w15 bp 2 _ _ (0,0) HP15.out⟩;refine⟨_,rfl,fun _=>HC15.out,?_⟩;clear hb hrv HCx;have HCx:=HC15;clear HC15;simp only[jA,jB,jC,Act.put,jD,jE,jF];have Q1:=jH (Own.below P1.out HB15.out jR);have Q2:=jH (Own.below P2.out HB15.out jR);have Q3:=jH (Own.below P3.out HB15.out jR)
   have i0:(0:Int)<(nM:Int):=by omega
   have i1:(0:Int)<(nL:Int):=by omega
   refine' kAa (i:=10) (v:=_) [11,12,13,14,15] (by kernel_rfl) rfl (by rfl) (by kernel_rfl) (fun _ _ _ h=>h) (by rfl) (by rintro w' ⟨c0,c1,c2⟩;go_simp;try with_reducible rfl) HCx.out ?_;simp only[jA,jB,jC,Act.put,jD,jE,jF]
   have hgb:gT<bp∧gM<bp∧gL<bp∧w10.heap.size≤gT∧w10.heap.size≤gM∧w10.heap.size≤gL∧bp<w12.heap.size:=by
    have h1:=HLt.out.1 gT rfl;have h2:=HLt.out.2.1 gM rfl;have h3:=HLt.out.2.2 gL rfl;have h4:=HSz.out;omega
   have HGb:=jH hgb
   obtain⟨v1,hv1⟩:∃v1,v1=w15.setCells gT 0 [.int .u16 9]:=⟨_,rfl⟩
   have G1:w15.grownBy v1 (some gT):=by rw[hv1];exact kDf gT _ _ _
   have HP16:=jH ((G1.block bp (jL HP15.out) (fun e=>by simp at e;omega)).trans HP15.out)
   obtain⟨ys1,R1⟩:∃ys,Own w10.heap.size 91 v1 (some ⟨gT,0,none⟩) 272 eT ys:=by rw[hv1];exact kJw _ _ _ _ Q1.out
   have R2:Own w10.heap.size 91 v1 (some ⟨gM,0,none⟩) nM eM (S.mids.flatten.map kAb):=World.ownsRow.kept Q2.out G1 (.inr (fun e=>hgTM (by simpa [Value.ownBlock]using e.symm)));have R3:Own w10.heap.size 9 v1 (some ⟨gL,0,none⟩) nL eL (S.lows.flatten.map val8):=World.ownsRow.kept Q3.out G1 (.inr (fun e=>hgTL (by simpa [Value.ownBlock]using e.symm)));have HC16:Hid ((fun w':World=>w'.cell? ⟨bp,0,none⟩=some (.slice (some ⟨gT,0,none⟩) 272 eT)∧w'.cell? ⟨bp,1,none⟩=some (.slice (some ⟨gM,0,none⟩) nM eM)∧w'.cell? ⟨bp,2,none⟩=some (.slice (some ⟨gL,0,none⟩) nL eL)) v1):=jH ⟨jK v1 bp 0 _ _ (0,0) HP16.out,jK v1 bp 1 _ _ (0,0) HP16.out,jK v1 bp 2 _ _ (0,0) HP16.out⟩;refine kAk (i:=11) (by kernel_rfl) ?_;refine kEe (i:=11) (w':=v1) rfl (by rfl) (fun _ _=>trivial) (by rfl) (by rw[hv1];exact kCw 91 (.tmp 170) (.const (.int .u16 9)) rfl gT 0 (.int .u16 9) rfl rfl (kD5 Q1.out (by omega)) (by kernel_rfl) (kGt 9)) (fun _=>HC16.out) ?_;simp only[jA,jB,jC,Act.put,jD,jE,jF];clear HCx;have HCx:=HC16;clear HC16;refine' kAa (i:=12) (v:=_) [13,14,15] (by kernel_rfl) rfl (by rfl) (by kernel_rfl) (fun _ _ _ h=>h) (by rfl) (by rintro w' ⟨c0,c1,c2⟩;go_simp;try with_reducible rfl) HCx.out ?_;simp only[jA,jB,jC,Act.put,jD,jE,jF]
   obtain⟨v2,hv2⟩:∃v2,v2=v1.setCells gM 0 [.int .u16 9]:=⟨_,rfl⟩
   have G2:v1.grownBy v2 (some gM):=by rw[hv2];exact kDf gM _ _ _
   have HP17:=jH ((G2.block bp (jL HP16.out) (fun e=>by simp at e;omega)).trans HP16.out);have T1:Own w10.heap.size 91 v2 (some ⟨gT,0,none⟩) 272 eT ys1:=World.ownsRow.kept R1 G2 (.inr (fun e=>hgTM (by simpa [Value.ownBlock]using e)));have T3:Own w10.heap.size 9 v2 (some ⟨gL,0,none⟩) nL eL (S.lows.flatten.map val8):=World.ownsRow.kept R3 G2 (.inr (fun e=>hgML (by simpa [Value.ownBlock]using e.symm)));have HC17:Hid ((fun w':World=>w'.cell? ⟨bp,0,none⟩=some (.slice (some ⟨gT,0,none⟩) 272 eT)∧w'.cell? ⟨bp,1,none⟩=some (.slice (some ⟨gM,0,none⟩) nM eM)∧w'.cell? ⟨bp,2,none⟩=some (.slice (some ⟨gL,0,none⟩) nL eL)) v2):=jH ⟨jK v2 bp 0 _ _ (0,0) HP17.out,jK v2 bp 1 _ _ (0,0) HP17.out,jK v2 bp 2 _ _ (0,0) HP17.out⟩;refine kAk (i:=13) (by kernel_rfl) ?_;refine kEe (i:=13) (w':=v2) rfl (by rfl) (fun _ _=>trivial) (by rfl) (by rw[hv2];exact kCw 91 (.tmp 171) (.const (.int .u16 9)) rfl gM 0 (.int .u16 9) rfl rfl (kD5 R2 hl0.1) (by kernel_rfl) (kGt 9)) (fun _=>HC17.out) ?_;simp only[jA,jB,jC,Act.put,jD,jE,jF];clear HCx;have HCx:=HC17;clear HC17;refine' kAa (i:=14) (v:=_) [15] (by kernel_rfl) rfl (by rfl) (by kernel_rfl) (fun _ _ _ h=>h) (by rfl) (by rintro w' ⟨c0,c1,c2⟩;go_simp;try with_reducible rfl) HCx.out ?_;simp only[jA,jB,jC,Act.put,jD,jE,jF]
   obtain⟨v3,hv3⟩:∃v3,v3=v2.setCells gL 0 (val8 (of (IntKind.u8.wrap (rest+1)))).cells.toList:=⟨_,rfl⟩
   have G3:v2.grownBy v3 (some gL):=by rw[hv3];exact kDf gL _ _ _
   have HP18:=jH ((G3.block bp (jL HP17.out) (fun e=>by simp at e;omega)).trans HP17.out);have X1:Own w10.heap.size 91 v3 (some ⟨gT,0,none⟩) 272 eT ys1:=World.ownsRow.kept T1 G3 (.inr (fun e=>hgTL (by simpa [Value.ownBlock]using e)));have HC18:Hid ((fun w':World=>w'.cell? ⟨bp,0,none⟩=some (.slice (some ⟨gT,0,none⟩) 272 eT)∧w'.cell? ⟨bp,1,none⟩=some (.slice (some ⟨gM,0,none⟩) nM eM)∧w'.cell? ⟨bp,2,none⟩=some (.slice (some ⟨gL,0,none⟩) nL eL)) v3):=jH ⟨jK v3 bp 0 _ _ (0,0) HP18.out,jK v3 bp 1 _ _ (0,0) HP18.out,jK v3 bp 2 _ _ (0,0) HP18.out⟩;refine kAk (i:=15) (by kernel_rfl) ?_;refine kEe (i:=15) (w':=v3) rfl (by rfl) (fun _ _=>trivial) (by rfl) (by rw[hv3];exact kCw 9 (.tmp 172) (.tmp 169) rfl gL 0 (val8 (of (IntKind.u8.wrap (rest+1)))) rfl rfl (kD5 T3 hl0.2) (by kernel_rfl) (kGv _)) (fun _=>HC18.out) ?_;simp only[jA,jB,jC,Act.put,jD,jE,jF];have HMi:Hid (Mid w10.heap.size w12.heap.size w14 v3):=jH ((Mid.of_below HB15.out).trans (((Mid.grown G1 (fun k e=>by cases e;omega)).trans (Mid.grown G2 (fun k e=>by cases e;omega))).trans (Mid.grown G3 (fun k e=>by cases e;omega))));have HX1:=jH X1;clear hv1 hv2 hv3 G1 G2 G3 R1 R2 R3 T1 T3 X1 HCx HC18 HP15 HP16 HP17 Q1 Q2 Q3 P1 P2 P3 HB15;refine kA3 16 (by rfl) (by kernel_rfl) (by kernel_rfl) ?_;simp only[List.drop_succ_cons,List.drop_zero]
   gi_wp2
   have hv3s:w14.heap.size≤v3.heap.size:=HMi.out.size
   have hw10v:w10.heap.size≤v3.heap.size:=by have:=HB14.out.size;omega
   have q0:=jK v3 bp 0 _ _ (0,0) HP18.out;simp at q0
   go_wp2_with (at_builtin;refine kFl Try.elemI16 rfl (.tmp 174) (.tmp 175) rfl HX1.out hw10v (by omega) (by omega) (.int .u16 1) rfl _ rfl rfl ?_)
   intro aq cq w16 ho hg hn;have HMj:Hid (Mid w10.heap.size w12.heap.size w14 w16):=jH (HMi.out.trans (Mid.grown hg (fun k e=>by simp[Value.ownBlock]at e;subst e;have:=HGb.out;omega)));have HB16:Hid (Below w10.heap.size w10 w16):=jH (HB14.out.trans (HMj.out.below HB14.out.size));have HT16:=jH (HT10.out.below HB16.out jR);have HTu16:=jH (kHh HFu14.out HTu14.out (fun k h1 h2=>HMj.out.block k (.inr h1) h2));have HB916:Hid (Below w9.heap.size w9 w16):=jH (HB10.out.trans (HB16.out.mono HB10.out.size));have HF16:=jH (HF9.out.below HB916.out)
   have HS16:Hid (kB0 w16 (.agg #[.slice sT St.top.length dT,.slice sM (64*St.mids.length) dM,.slice sL (64*St.lows.length) dL]) St):=jH (by
    obtain⟨_,_,_,_,_,_,e,k1,k2,k3⟩:=HS9.out
    exact⟨_,_,_,_,_,_,e,k1.below HB916.out jR,k2.below HB916.out jR,k3.below HB916.out jR⟩)
   have HZ16:=jH (HZ9.out.below HB916.out jR);have HBw16:Hid (Below w.heap.size w w16):=jH (HB9.out.trans (HB916.out.mono HB9.out.size));have x0:=(HB916.out.block bf (jL HC9.out.1)).trans HC9.out.1;have x1:=(HB916.out.block bs (jL HC9.out.2)).trans HC9.out.2;have q0:w16.cell? ⟨bf,0,none⟩=some (.slice aT nT cT):=jK w16 bf 0 _ _ (0,0) x0;have q1:w16.cell? ⟨bf,1,none⟩=some (.slice aV nV cV):=jK w16 bf 1 _ _ (0,0) x0;have q2:w16.cell? ⟨bs,0,none⟩=some (.slice sT St.top.length dT):=jK w16 bs 0 _ _ (0,0) x1;have q3:w16.cell? ⟨bs,1,none⟩=some (.slice sM (64*St.mids.length) dM):=jK w16 bs 1 _ _ (0,0) x1;have q4:w16.cell? ⟨bs,2,none⟩=some (.slice sL (64*St.lows.length) dL):=jK w16 bs 2 _ _ (0,0) x1;clear ho hg hn x0 x1 HMi HMj HB14 HB16 HT14 HTu14 HFu14 HX1 HP18 HP14 hv3s hw10v hgb HGb
   go_wp2_with fail
   have HKp:Hid (∀(W W':World),Below W.heap.size W W'→(W.cell? ⟨bf,0,none⟩=some (.slice aT nT cT)∧W.cell? ⟨bf,1,none⟩=some (.slice aV nV cV)∧W.cell? ⟨bs,0,none⟩=some (.slice sT St.top.length dT)∧W.cell? ⟨bs,1,none⟩=some (.slice sM (64*St.mids.length) dM)∧W.cell? ⟨bs,2,none⟩=some (.slice sL (64*St.lows.length) dL))→
     (W'.cell? ⟨bf,0,none⟩=some (.slice aT nT cT)∧W'.cell? ⟨bf,1,none⟩=some (.slice aV nV cV)∧W'.cell? ⟨bs,0,none⟩=some (.slice sT St.top.length dT)∧W'.cell? ⟨bs,1,none⟩=some (.slice sM (64*St.mids.length) dM)∧W'.cell? ⟨bs,2,none⟩=some (.slice sL (64*St.lows.length) dL))):=jH (fun W W' hb ⟨h1,h2,h3,h4,h5⟩=>by
    have kc:∀ {p:Addr} {v:Value},W.cell? p=some v→W'.cell? p=some v:=fun {p v} h=>(hb.cell (World.block_lt_of_cell? W _ h)).trans h
    exact⟨kc h1,kc h2,kc h3,kc h4,kc h5⟩)
   go_region_held3 (fun W:World=>W.cell? ⟨bf,0,none⟩=some (.slice aT nT cT)∧W.cell? ⟨bf,1,none⟩=some (.slice aV nV cV)∧W.cell? ⟨bs,0,none⟩=some (.slice sT St.top.length dT)∧W.cell? ⟨bs,1,none⟩=some (.slice sM (64*St.mids.length) dM)∧W.cell? ⟨bs,2,none⟩=some (.slice sL (64*St.lows.length) dL)) (first | exact⟨q0,q1,q2,q3,q4⟩ | exact HKp.out w18 _ hb19 (HKp.out w17 _ hb18 (HKp.out w16.drew _ hb17 ⟨q0,q1,q2,q3,q4⟩)) | exact HKp.out w17 _ hb18 (HKp.out w16.drew _ hb17 ⟨q0,q1,q2,q3,q4⟩) | exact HKp.out w16.drew _ hb17 ⟨q0,q1,q2,q3,q4⟩) (first
    | (go_at_call 86;refine(kCi w16.drew g (kA1 S) HOk.out HPos.out.1 (HT16.out.below (Below.refl w16.heap.size w16).drew jR)).mono ?_;rintro e w17 ⟨uT,fT,uM,fM,uL,fL,rfl,o1,o2,o3,hb17⟩)
    | (go_at_call 85;refine(kE0 w17 (kA1 S) St F of N HLk.out uT fT uM fM uL fL _ o1 o2 o3 sT dT sM dM sL dL (kCu HS16.out ((Below.refl w16.heap.size w16).drew.trans hb17)) HCl.out).mono ?_;rintro e w18 ⟨rfl,hb18⟩)
    | (go_at_call 42;have hb16:=((Below.refl w16.heap.size w16).drew.trans hb17).trans (hb18.mono ((Below.refl w16.heap.size w16).drew.trans hb17).size);refine(kDr w18 gu (kA1 S) St F of N HN.out HLk.out (HTu16.out.below hb16 jR) _ _ (HF16.out.below hb16) (kCu HS16.out hb16) 21 #[] (enters_of Try.func21 (by kernel_rfl) rfl) (fun v h1 h2 W _=>HCl.out v h1 h2 W) az nz cz zs (HZ16.out.below hb16 jR) HZn.out HZb.out).mono ?_;rintro e w19 ⟨rfl,hb19⟩))
   have hb16:=((Below.refl w16.heap.size w16).drew.trans hb17).trans (hb18.mono ((Below.refl w16.heap.size w16).drew.trans hb17).size);have HEnd:Hid (Below w.heap.size w w19):=jH (HBw16.out.trans ((hb16.trans (hb19.mono hb16.size)).mono HBw16.out.size));clear hb17 hb18 hb19 hb16 o1 o2 o3 q0 q1 q2 q3 q4;go_wp2
   go_ret
   exact⟨rfl,HEnd.out⟩
end Go.Proofs.Ytabbabkmojaoaaa.VS
