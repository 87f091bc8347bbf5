/- several texts in one: LKS -/
import Derived.Test.YtabbabkmojaoaaaNQ
import Derived.Test.YtabbabkmojaoaaaOD
import Derived.Test.YtabbabkmojaoaaaOE
import Derived.Test.YtabbabkmojaoaaaOF
import Derived.LoopN
import Derived.Deep.CutRange
set_option linter.unusedVariables false
set_option linter.unusedSimpArgs false
set_option maxRecDepth 100000
set_option maxHeartbeats 16000000
namespace Go.Proofs.Ytabbabkmojaoaaa.VS
open Go.RowKit
attribute [local go_sem] Oper.semAt_some
attribute [local go_sem] kEq
def LkA (n:Nat) (w1:World) (iv:Value) (wr:World):Prop:=∃k:Nat,k≤n∧iv= .int .i64 (k:Nat)∧Below w1.heap.size w1 wr
structure kK2 (T:kAy El) (S:MkS Int) (F:Nat→Int) (of:Int→El) (N:Nat):Prop where
 ok:kA5 T
 pos:0<T.low.length
 top:T.top=S.top
 mid:T.mid=S.mids
 low:T.low=S.lows.map (fun l=>l.map of)
 look:∀r,r<N→kAl ByteArray.empty T r=of (F r)
 rng:∀r,r<N→0≤F r∧F r≤255
 inj:∀x y,0≤x→x≤255→0≤y→y≤255→of x=of y→x=y
 lo:∀l∈S.lows,∀x∈l,0≤x∧x≤255
theorem kGf (q:Option Addr)(w:World):Calls Try.prog 83 #[.pointer q] w fun e w'=>e= .returned (.func (.func 117) #[] #[.pointer (some ⟨w.heap.size,0,none⟩)])∧
  w'.cell? ⟨w.heap.size,0,none⟩=some (.pointer q)∧w'.heap.size=w.heap.size+1∧Below w.heap.size w w':=by
 go_enter Try.func83,Try.ntmps83
 go_wp2
 go_ret
 have c0:=jK _ w.heap.size 0 _ _ (0,0) (jN w (.cells #[.pointer q] 41));exact⟨rfl,c0,by simp,(Below.refl _ w).alloc jR _⟩
theorem kIw:∀a b:El,neV a b=true↔a≠b:=fun a b=>by simp only[neV,Bool.not_eq_true',beq_eq_false_iff_ne,ne_eq];exact not_congr ⟨fun h=>byteArray_toList_inj h,fun h=>by rw[h]⟩
structure kGb (W0:World) (bF bN:Nat) (L:List (Int×Int)) (T:Nat→Prop) (m:Nat) (W:World):Prop where
 but:But W0.heap.size (fun k=>k=bF∨k=bN) W0 W
 cF:W.heap[bF]? =some (.cells #[.int .i32 (kGi (-1) (L.take m)+1)] 21 (0,0))
 cN:W.heap[bN]? =some (.cells #[.int .i64 (m:Nat)] 3 (0,0))
 tn:∀k,T k→W0.heap.size≤k∧k<W.heap.size
theorem kGb.off {W0:World}{bF bN:Nat}{L:List (Int×Int)}{T T':Nat→Prop}{m:Nat}{W W':World}(h:kGb W0 bF bN L T m W)(h1:bF<W0.heap.size)(h2:bN<W0.heap.size)(ho:Off T W W')(hw:kB4 T T' W W'):kGb W0 bF bN L T' m W':=
 ⟨h.but.off ho (fun k hk=>(h.tn k hk).1) h.but.size,ho.cellsBlock h.cF (fun e=>by have:=(h.tn _ e).1;omega),ho.cellsBlock h.cN (fun e=>by have:=(h.tn _ e).1;omega),fun k hk=>by
  have hs:=ho.size;have hs2:=h.but.size
  rcases hw k hk with h3 | h3
  ·have:=h.tn k h3;omega
  ·omega⟩
def LkI (W0:World) (bF bN:Nat) (L:List (Int×Int)) (r:Nat) (T:Nat→Prop) (pre:List (kA2 El)) (W:World):Prop:=kGb W0 bF bN L T pre.length W∧(r=0→pre.length<2)
def LkX (W0:World) (bF bN:Nat) (L:List (Int×Int)) (r:Nat) (c:Code) (T:Nat→Prop) (pre:List (kA2 El)) (W:World):Prop:=kGb W0 bF bN L T pre.length W∧c= .exit 4∧pre.length=2∧r=0
theorem LkI.abide {W0:World}{bF bN:Nat}{L:List (Int×Int)}{r:Nat}(h1:bF<W0.heap.size)(h2:bN<W0.heap.size):kD8 (LkI W0 bF bN L r):=fun T T' s W W' h ho hw=>⟨h.1.off h1 h2 ho hw,h.2⟩
theorem LkX.abide {W0:World}{bF bN:Nat}{L:List (Int×Int)}{r:Nat}(h1:bF<W0.heap.size)(h2:bN<W0.heap.size):∀c,kD8 (LkX W0 bF bN L r c):=fun c T T' s W W' h ho hw=>⟨h.1.off h1 h2 ho hw,h.2⟩
def kM5 (tmps:Array Value) (T:Nat→Prop) (x:kA2 El) (a':Act) (W:World):Prop:=
 ∃bX,a'={tmps:=(tmps.setIfInBounds 52 (.agg #[.int .i32 (x.f:Nat),.int .i32 (x.t:Nat),val8 x.v])).setIfInBounds 16 (.pointer (some ⟨bX,0,none⟩)),defers:=[]}∧W.heap[bX]? =some (.cells #[.int .i32 (x.f:Nat),.int .i32 (x.t:Nat),val8 x.v] 163 (0,0))∧¬T bX
theorem kDr (w:World)(g:Nat)(T:kAy El)(S:MkS Int)(F:Nat→Int)(of:Int→El)(N:Nat)(hN:N=1114112)(hok:kK2 T S F of N)(ht:kAj val8 138 64 w g T)(fv sv:Value)(hf:kH9 w fv (kAt F N))(hs:kB0 w sv S)
  (cf:Nat)(lb:Array Value)(eg:∀args W,(callFunc cf args).run Try.prog W= .ok (.enter cf args) W)
  (hcall:∀v,0≤v→v≤255→∀W,Below w.heap.size w W→Calls Try.prog cf (#[.int .u8 v]++lb) W fun e W'=>e= .returned (val8 (of v))∧Below W.heap.size W W')
  (a:Option Addr)(n c:Nat)(zs:List Int)(hz:Ints .i32 w a zs)(hn:zs.length=n)(hzb:∀z∈zs, -2147483648≤z∧z≤2147483647):
  Calls Try.prog 42 #[.pointer (some ⟨g,0,none⟩),fv,sv,.func (.func cf) #[] lb,.slice a n c] w fun e w'=>e= .returned (.bool true)∧Below w.heap.size w w':=by
 obtain⟨aT,cT,aV,cV,rfl,hT,hV,hnT,hnV⟩:=hf;obtain⟨sT,dT,sM,dM,sL,dL,rfl,k1,k2,k3⟩:=hs
 obtain⟨nR,hnR⟩:∃nR,nR=(kAt F N).length:=⟨_,rfl⟩
 have hnRl:nR≤1114112:=by rw[hnR,←hN];exact kC6 F N
 rw[←hnR]
 have hS272:S.top.length=272:=by rw[←hok.top];exact hok.ok.top
 rw[hS272]
 have hSm:S.mids.length≤272:=by rw[←hok.mid];exact hok.ok.midL
 have hSl:S.lows.length≤17408:=by have:=hok.ok.lowL;rw[hok.low,List.length_map]at this;exact this
 have HNR:=jH hnR;have HN:=jH hN;have HOk:=jH hok;have HTr:=jH ht;have HEg:=jH eg;have HCl:=jH hcall;have HZ:=jH hz;have HNz:=jH hn;have HZb:=jH hzb
 have HNn:=jH (And.intro hnT hnV);have HT:=jH hT;have HV:=jH hV;have K1:=jH k1;have K2:=jH k2;have K3:=jH k3
 clear hnR hN hok ht eg hcall hz hn hzb hT hV hnT hnV k1 k2 k3
 obtain⟨b0,hb0⟩:∃b0,b0=w.heap.size:=⟨_,rfl⟩
 obtain⟨W1,hW1⟩:∃W1,W1=(((w.alloc (.cells #[.slice aT nR cT,.slice aV nR cV] 63)).alloc (.cells #[.slice sT 272 dT,.slice sM (64*S.mids.length) dM,.slice sL (64*S.lows.length) dL] 70)).alloc (.cells #[.func (.func cf) #[] lb] 40)).alloc (.cells #[.bool false] 4):=⟨_,rfl⟩
 have HP:Hid (Below w.heap.size w W1∧W1.heap[b0]? =some (.cells #[.slice aT nR cT,.slice aV nR cV] 63 (0,0))∧W1.heap[b0+1]? =some (.cells #[.slice sT 272 dT,.slice sM (64*S.mids.length) dM,.slice sL (64*S.lows.length) dL] 70 (0,0))∧W1.heap[b0+2]? =some (.cells #[.func (.func cf) #[] lb] 40 (0,0))∧W1.heap[b0+3]? =some (.cells #[.bool false] 4 (0,0))∧W1.heap.size=b0+4):=jH (by
  rw[hb0,hW1]
  exact kHz w _ _ _ _ _ _ _ _)
 refine kB8 Try.func42 rfl ?_;simp only[Try.ntmps42,List.size_toArray,List.length_cons,List.length_nil,Nat.reduceAdd,Nat.reduceSub,Array.replicate_succ,Array.replicate_zero,List.push_toArray,List.append_toArray,List.nil_append,List.cons_append]
 have HW:=jH hW1;have HB0:=jH hb0;clear hW1 hb0
 go_upto_region 1 with(fail)
 rw[←HB0.out,←HW.out]
 have hbz:b0+4≤W1.heap.size:=by rw[HP.out.2.2.2.2.2];exact Nat.le_refl _
 have HTr1:=jH (HTr.out.below HP.out.1 jR);have HZ1:=jH (HZ.out.below HP.out.1 jR);have HT1:=jH (HT.out.below HP.out.1 jR);have HV1:=jH (HV.out.below HP.out.1 jR)
 have K1:=jH (K1.out.below HP.out.1 jR);have K2:=jH (K2.out.below HP.out.1 jR);have K3:=jH (K3.out.below HP.out.1 jR)
 have HCell:=jH (fun(W:World) (hb:Below W1.heap.size W1 W)=>show(W.cell? ⟨b0,0,none⟩=some (.slice aT nR cT)∧W.cell? ⟨b0,1,none⟩=some (.slice aV nR cV))∧(W.cell? ⟨b0+1,0,none⟩=some (.slice sT 272 dT)∧W.cell? ⟨b0+1,1,none⟩=some (.slice sM (64*S.mids.length) dM)∧W.cell? ⟨b0+1,2,none⟩=some (.slice sL (64*S.lows.length) dL))∧W.cell? ⟨b0+2,0,none⟩=some (.func (.func cf) #[] lb)∧W.heap[b0+3]? =some (.cells #[.bool false] 4 (0,0))from by
  obtain⟨-,x0,x1,x2,x3, -⟩:=HP.out;have y0:=(hb.block b0 (by omega)).trans x0;have y1:=(hb.block (b0+1) (by omega)).trans x1;have y2:=(hb.block (b0+2) (by omega)).trans x2
  exact⟨⟨jK W b0 0 _ _ (0,0) y0,jK W b0 1 _ _ (0,0) y0⟩,⟨jK W (b0+1) 0 _ _ (0,0) y1,jK W (b0+1) 1 _ _ (0,0) y1,jK W (b0+1) 2 _ _ (0,0) y1⟩,jK W (b0+2) 0 _ _ (0,0) y2,(hb.block (b0+3) (by omega)).trans x3⟩)
 go_wp2
 go_loopw [11] (LkA n W1) (fun i _=>n - (intOf i).toNat)
 case atStart=>exact⟨0,Nat.zero_le _,rfl,Below.refl _ _⟩
 case round=>
  obtain⟨k,hk,rfl,hbel⟩:=hrel
  have HBl:=jH hbel;clear hbel
  go_upto_region 2 with(fail)
  go_cut [26]from 19 to 26 (fun p wx=>p= .bool (decide (k<n∧k<200))∧wx=wr)
  case first=>
   by_cases h1:k<n
   ·have hi1:(k:Int)<(n:Int):=by omega
    by_cases h2:k<200
    ·have hi2:(k:Int)<200:=by omega
     have H3:=jH (decide_eq_true (p:=k<n∧k<200) ⟨h1,h2⟩);go_wp2
     go_meet
     exact⟨congrArg Value.bool H3.out.symm,by first | rfl | trivial⟩
    ·have hi2:¬(k:Int)<200:=by omega
     have H3:=jH (decide_eq_false (p:=k<n∧k<200) (fun h=>h2 h.2));go_wp2
     go_meet
     exact⟨congrArg Value.bool H3.out.symm,by first | rfl | trivial⟩
   ·have hi1:¬(k:Int)<(n:Int):=by omega
    have H3:=jH (decide_eq_false (p:=k<n∧k<200) (fun h=>h1 h.1));go_wp2
    go_meet
    exact⟨congrArg Value.bool H3.out.symm,by first | rfl | trivial⟩
  case rest=>
  obtain⟨rfl,rfl⟩:=hcut
  by_cases hkn:k<n∧k<200
  ·rw[decide_eq_true hkn];obtain⟨h1,h2⟩:=hkn
   have hki:(k:Int)<(n:Int):=by omega
   have hk2:(k:Int)<200:=by omega
   have hkl:k<zs.length:=by rw[HNz.out];exact h1
   obtain⟨bz,oz,ez,cz⟩:=(HZ1.out.below HBl.out jR) k hkl;subst ez;have hzk:=HZb.out _ (List.getElem_mem hkl);generalize zs[k]=z at*;obtain⟨⟨p0,p1⟩, -,p2, -⟩:=HCell.out wc HBl.out
   have hr:kDe z<N:=by have:=kFk z;rw[HN.out];omega
   obtain⟨v,hv⟩:∃v,v=F (kDe z):=⟨_,rfl⟩
   have hvb:=HOk.out.rng _ hr;have hlk:=HOk.out.look _ hr;rw[←hv]at hvb hlk
   have HAt:=jH (fun d os=>(show Calls Try.prog 82 #[.pointer (some ⟨g,0,none⟩),.int .i32 z] (Go.Sort.grow (redrawn wc d) os) (fun e w'=>e= .returned (val8 (of v))∧Below (Go.Sort.grow (redrawn wc d) os).heap.size (Go.Sort.grow (redrawn wc d) os) w')from by
    have hb:=HBl.out.trans ((below_regrown wc d os).mono HBl.out.size);refine(kDh (Go.Sort.grow (redrawn wc d) os) g T HOk.out.ok HOk.out.pos (HTr1.out.below hb jR) z hzk.1 hzk.2).mono ?_;rintro e w' ⟨rfl,q,rfl⟩
    exact⟨by rw[hlk],below_drewN (Below.refl _ _) q⟩).regrown_of)
   have HRf:=jH (fun d os=>(show Calls Try.prog 81 #[.agg #[.slice aT nR cT,.slice aV nR cV],.int .i32 z] (Go.Sort.grow (redrawn wc d) os) (fun e w'=>e= .returned (.int .i64 v)∧Below (Go.Sort.grow (redrawn wc d) os).heap.size (Go.Sort.grow (redrawn wc d) os) w')from by
    have hb:=HBl.out.trans ((below_regrown wc d os).mono HBl.out.size);rw[HNR.out,hv]
    exact kH7 (Go.Sort.grow (redrawn wc d) os) _ F N HN.out ⟨aT,cT,aV,cV,rfl,HT1.out.below hb jR,HV1.out.below hb jR,HNn.out.1,HNn.out.2⟩ z hzk.1 hzk.2).regrown_of)
   have HOf:=jH (fun d os=>(HCl.out v hvb.1 hvb.2 (Go.Sort.grow (redrawn wc d) os) (HP.out.1.trans ((HBl.out.trans ((below_regrown wc d os).mono HBl.out.size)).mono HP.out.1.size))).regrown_of)
   have hwv:IntKind.u8.wrap v=v:=by simp[IntKind.wrap,IntKind.bits,IntKind.signed];omega
   clear hlk hv;generalize of v=y at HAt HOf;unfold val8 at HAt HOf
   have e0:=fun d os=>cell_regrown p0 d os
   have e1:=fun d os=>cell_regrown p1 d os
   have e2:=fun d os=>cell_regrown p2 d os
   have e3:=fun d os=>cell_regrown cz d os
   have heg:=HEg.out
   go_upto_region 4 with(fail)
   clear p0 p1 p2 cz;refine wp_region_quiet_below (by kernel_rfl) (by kernel_rfl) ?_
   iterate 5 (quiet_step (fail))
   quiet_step (exact HAt.out _ _)
   iterate 6 (quiet_step (fail))
   quiet_step (exact HRf.out _ _)
   quiet_step (fail)
   quiet_step (exact HOf.out _ _)
   quiet_step (fail)
   refine wpQuiet_nil ?_;intro _ hw';obtain⟨⟨dq,osq⟩,hw''⟩:=hw';subst hw'';have HBq:Hid (Below W1.heap.size W1 (Go.Sort.grow (redrawn wc dq) osq)):=jH (HBl.out.trans ((below_regrown wc dq osq).mono HBl.out.size));generalize (Go.Sort.grow (redrawn wc dq) osq)=w6 at*;clear e0 e1 e2 e3 heg HAt HRf HOf hwv;go_wp2
   go_roundw
   case rel=>exact⟨k+1,by omega,by go_num,HBq.out⟩
   case measure=>simp[intOf];omega
  ·rw[decide_eq_false hkn];clear hkn hk
   go_wp2_with fail
   refine(kGf (some ⟨g,0,none⟩) wc).mono ?_;rintro e w2 ⟨rfl,cS,hz2,hb2⟩
   obtain⟨bS,hbS⟩:∃bS,bS=wc.heap.size:=⟨_,rfl⟩
   rw[←hbS]at cS hz2 ⊢;have HBS:=jH (show b0+4≤bS by rw[hbS];exact Nat.le_trans hbz HBl.out.size);have HB2:=jH (HBl.out.trans (hb2.mono HBl.out.size));have HCS:=jH cS;clear cS hbS hb2 hz2 HBl;have A1:=jN w2 (.cells #[.int .i64 0] 3);have A2:=(Below.refl _ w2).alloc jR (.cells #[.int .i64 0] 3)
   obtain⟨bR,hbR⟩:∃bR,bR=w2.heap.size:=⟨_,rfl⟩
   rw[←hbR]at A1;go_wp2
   rw[←hbR];have HFull:Hid (spL neV (kAl ByteArray.empty T) N=toS of (-1) (kAt F N)):=jH (kJx N (by rw[HN.out];omega) kIw (fun r s hr hs e=>HOk.out.inj _ _ (HOk.out.rng r hr).1 (HOk.out.rng r hr).2 (HOk.out.rng s hs).1 (HOk.out.rng s hs).2 e) HOk.out.look)
   obtain⟨Wa,hWa⟩:∃Wa,Wa=w2.alloc (.cells #[.int .i64 0] 3):=⟨_,rfl⟩
   obtain⟨bRa,hbRa⟩:∃bRa,bRa=bR:=⟨_,rfl⟩
   rw[←hWa,←hbRa];rw[←hWa]at A1 A2;rw[←hbRa]at A1;have HRa:=jH A1;have HBa:=jH (HB2.out.trans (A2.mono HB2.out.size));have HCSa:Hid (Wa.cell? ⟨bS,0,none⟩=some (.pointer (some ⟨g,0,none⟩))):=jH ((A2.cell (p:=⟨bS,0,none⟩) (World.block_lt_of_cell? w2 _ HCS.out)).trans HCS.out);clear A1 A2 hWa hbRa hbR;refine wp_loop_rounds 3 ?_;rw[rounds_succ];have qR:Wa.cell? ⟨bRa,0,none⟩=some (.int .i64 0):=jK Wa bRa 0 _ _ (0,0) HRa.out
   obtain⟨bFa,hbFa⟩:∃bF,bF=Wa.heap.size:=⟨_,rfl⟩
   obtain⟨Va,hVa⟩:∃V,V=(Wa.alloc (.cells #[.int .i32 0] 21)).alloc (.cells #[.int .i64 0] 3):=⟨_,rfl⟩
   have HVa:Hid (Below Wa.heap.size Wa Va∧Va.heap[bFa]? =some (.cells #[.int .i32 0] 21 (0,0))∧Va.heap[bFa+1]? =some (.cells #[.int .i64 0] 3 (0,0))∧Va.heap.size=bFa+2):=jH (by rw[hbFa,hVa];exact kFz _ _ _ _ _)
   have HFa:=jH hbFa;have HVva:=jH hVa
   clear hbFa hVa
   go_upto_region 11 with(fail)
   rw[←HVva.out,←HFa.out];clear qR;have HBVa:=jH (HBa.out.trans (HVa.out.1.mono HBa.out.size));have HRVa:=jH ((HVa.out.1.block bRa (jL HRa.out)).trans HRa.out);have hbSla:bS<Wa.heap.size:=World.block_lt_of_cell? Wa ⟨bS,0,none⟩ HCSa.out;have HCVa:Hid (Va.cell? ⟨bS,0,none⟩=some (.pointer (some ⟨g,0,none⟩))):=jH ((HVa.out.1.cell (p:=⟨bS,0,none⟩) hbSla).trans HCSa.out)
   have hf1a:W1.heap.size≤bFa:=by rw[HFa.out];exact HBa.out.size
   have hf2a:bRa<bFa:=by rw[HFa.out];exact(jL HRa.out)
   have hf3a:bS<bFa:=by rw[HFa.out];exact hbSla
   have hf4a:Va.heap.size=bFa+2:=HVa.out.2.2.2;have HSeqa:=jH (kC7 W1 g T HOk.out.ok HOk.out.pos HTr1.out bS (fun k=>k<Va.heap.size∧k≠bFa∧k≠bFa+1) Va (kEw HBVa.out) HBVa.out.size (fun k hk=>⟨by omega,by omega,by omega⟩) ⟨by omega,by omega,by omega⟩ HCVa.out N HN.out);rw[HFull.out]at HSeqa;clear hbSla;go_wp2
   refine kDg (gf:=117) (lb:= #[.pointer (some ⟨bS,0,none⟩)]) rfl (enters_of Try.func117 (by kernel_rfl) rfl) HSeqa.out (Below.refl _ _) (fun k hk=>hk.1) (fun _=>rfl)
    (LkI Va bFa (bFa+1) (kAt F N) 0) (LkX Va bFa (bFa+1) (kAt F N) 0) (LkI.abide (by omega) (by omega)) (LkX.abide (by omega) (by omega)) ⟨⟨But.refl _ _ _,HVa.out.2.1,HVa.out.2.2.1,fun _ h=>h.elim⟩,fun _=>by simp⟩
    kM5 (fun T x a' W W' ⟨bX,h1,h2,h3⟩ ho=>⟨bX,h1,ho.cellsBlock h2 h3,h3⟩) ?asga ?bdya ?dna ?stpa
   case asga=>
    rintro l Tt pre x W K hi hK
    have HK:=jH hK;clear hK
    have hA:=jN W (.cells #[.int .i32 (x.f:Nat),.int .i32 (x.t:Nat),val8 x.v] 163);have hB:=(Below.refl W.heap.size W).alloc jR (.cells #[.int .i32 (x.f:Nat),.int .i32 (x.t:Nat),val8 x.v] 163);have hI:LkI Va bFa (bFa+1) (kAt F N) 0 Tt pre (W.alloc (.cells #[.int .i32 (x.f:Nat),.int .i32 (x.t:Nat),val8 x.v] 163)):=LkI.abide (by omega) (by omega) _ _ _ _ _ hi (Off.of_below hB) (kB4.refl _ _ _);have HH:=jH (And.intro hB (And.intro hI (And.intro hA (show ¬Tt W.heap.size from fun e=>Nat.lt_irrefl _ (hi.1.tn _ e).2))));clear hA hB hI hi;simp only[kJi];unfold val8
    gi_wp2
    exact HK.out _ _ (kDc.of_below HH.out.1) HH.out.2.1 ⟨W.heap.size,rfl,HH.out.2.2⟩
   case bdya=>
    rintro lp Tt pre x a' W hTl hl - hst hA hlen hsp;obtain⟨bX,rfl,hX,hXT⟩:=hA;obtain⟨q, -,hq1,hq2⟩:=hsp
    obtain⟨m,hm⟩:∃m,m=pre.length:=⟨_,rfl⟩
    have hmn:m<(kAt F N).length:=by rw[hm];rw[kCa]at hlen;exact hlen
    have hxg:x=⟨(kGi (-1) ((kAt F N).take m)+1).toNat,((kAt F N)[m]).1.toNat,of ((kAt F N)[m]).2⟩:=by
     have h1:=kHe of (kAt F N) (-1) m hmn
     have hql:q=m+1:=by
      have:=congrArg List.length hq2;rw[List.length_append,List.length_singleton,List.length_take]at this;omega
     have h2:(pre++[x])[m]? =some x:=by rw[List.getElem?_append_right (by omega)];simp[hm]
     rw[hq2,List.getElem?_take_of_lt (by omega),h1]at h2;exact(Option.some.inj h2).symm
    obtain⟨hst,hr2⟩:=hst;rw[←hm]at hst hr2;have hsn:kGb Va bFa (bFa+1) (kAt F N) Tt m W:=hst
    have hrise:=(kE8 F N)
    have hm0:0≤((kAt F N)[m]).1:=hrise.2 _ (List.getElem_mem hmn);have hmN:((kAt F N)[m]).1<(N:Int):=kF8 F N _ (List.getElem_mem hmn)
    have hp0:0≤kGi (-1) ((kAt F N).take m)+1:=by
     cases m with
     | zero=>simp[kGi]
     | succ j=>
      rw[kCn (kAt F N) (-1) j (by omega)];have:=hrise.2 _ (List.getElem_mem (show j<(kAt F N).length by omega));omega
    have hep:=kCn (kAt F N) (-1) m hmn;have hvF:∃r0,r0<N∧((kAt F N)[m]).2=F r0:=kGq (List.getElem_mem hmn);obtain⟨r0,hr0,hvr⟩:=hvF;have hvb:=HOk.out.rng r0 hr0;rw[←hvr]at hvb;have hbut:=hsn.but;have HBw:Hid (Below W1.heap.size W1 W):=jH (HBVa.out.trans (hbut.below _ (by omega) (fun k hk=>by omega)));obtain⟨⟨p0,p1⟩, -,p2,p3⟩:=HCell.out W HBw.out;have cT:=(HT1.out.below HBw.out jR) m (by rw[List.length_map];exact hmn);have cV:=(HV1.out.below HBw.out jR) m (by rw[List.length_map];exact hmn);obtain⟨b1,o1,ea1,cT⟩:=cT;obtain⟨b2,o2,ea2,cV⟩:=cV;subst ea1 ea2;simp only[List.getElem_map]at cT cV
    have hmr:m<nR:=by rw[HNR.out];exact hmn
    have hmi:¬(nR:Int)≤(m:Int):=by omega
    have hmi2:(m:Int)<(nR:Int):=by omega
    have hXW:bX<W.heap.size:=(jL hX)
    have HQ:=jH (And.intro hq2 hm)
    have HSn:=jH hsn;have HR2:=jH hr2
    have HXT:=jH hXT
    obtain⟨p,hp⟩:∃p,p=kGi (-1) ((kAt F N).take m)+1:=⟨_,rfl⟩
    rw[←hp]at hxg hp0
    have cF:W.cell? ⟨bFa,0,none⟩=some (.int .i32 p):=by rw[hp];exact jK W bFa 0 _ _ (0,0) hsn.cF
    have cN:W.cell? ⟨bFa+1,0,none⟩=some (.int .i64 (m:Nat)):=jK W (bFa+1) 0 _ _ (0,0) hsn.cN;have HEp:=jH hep;generalize (kAt F N)[m]=z at*;subst hxg
    have hx0:W.cell? ⟨bX,0,none⟩=some (.int .i32 p):=by
     have:=jK W bX 0 _ _ (0,0) hX;rw[show((p.toNat:Nat):Int)=p from by omega]at this;exact this
    have hx1:W.cell? ⟨bX,1,none⟩=some (.int .i32 z.1):=by
     have:=jK W bX 1 _ _ (0,0) hX;rw[show((z.1.toNat:Nat):Int)=z.1 from by omega]at this;exact this
    have hx2:W.cell? ⟨bX,2,none⟩=some (val8 (of z.2)):=jK W bX 2 _ _ (0,0) hX;have HXc:=jH hX;have HOf:=jH (fun d os=>(HCl.out z.2 hvb.1 hvb.2 (Go.Sort.grow (redrawn W d) os) (HP.out.1.trans ((HBw.out.trans ((below_regrown W d os).mono HBw.out.size)).mono HP.out.1.size))).regrown_of)
    have hwv:IntKind.u8.wrap z.2=z.2:=by simp[IntKind.wrap,IntKind.bits,IntKind.signed];omega
    have HRw:=jH (hbut.keep HRVa.out (by omega) (by omega))
    have hz1b:z.1<1114112:=by have:=HN.out;omega
    clear hst hr2 hsn hX hXT hq1 hq2 hm hbut hrise hlen hr0 hvr p3 hep;clear hp;generalize of z.2=y at HOf hx2 HXc HQ;unfold val8 at HOf hx2;obtain⟨z1,z2⟩:=z
    dsimp only at*
    have e0:=fun d os=>cell_regrown p0 d os
    have e1:=fun d os=>cell_regrown p1 d os
    have e2:=fun d os=>cell_regrown p2 d os
    have e3:=fun d os=>cell_regrown cT d os
    have e4:=fun d os=>cell_regrown cV d os
    have e5:=fun d os=>cell_regrown cF d os
    have e6:=fun d os=>cell_regrown cN d os
    have e7:=fun d os=>cell_regrown hx0 d os
    have e8:=fun d os=>cell_regrown hx1 d os
    have e9:=fun d os=>cell_regrown hx2 d os
    have heg:=HEg.out;clear p0 p1 p2 cT cV cF cN hx0 hx1 hx2;have dmi:decide ((nR:Int)≤(m:Int))=false:=decide_eq_false hmi;have dmn:decide (nR≤m)=false:=decide_eq_false (by omega)
    have dpp:(p != p)=false:=by simp
    have dzz:(z1 != z1)=false:=by simp
    have dyy:(!ByteArray.toList (y)==ByteArray.toList (y))=false:=by simp
    gi_wp2
    refine kB3 (by kernel_rfl) (by kernel_rfl) (by kernel_rfl) ?_
    iterate 31 (gi_big_quiet_step (fail))
    gi_big_quiet_step (exact CallsIn.inRound lp (callsIn_wide.2 (HOf.out _ _)))
    iterate 2 (gi_big_quiet_step (fail))
    refine wpQuietIn_nil ?_;intro _ hw';obtain⟨⟨dq,osq⟩,hw''⟩:=hw';subst hw'';have hbq:=below_regrown W dq osq;generalize (Go.Sort.grow (redrawn W dq) osq)=Wq at*;have hsq:=HSn.out.off (by omega) (by omega) (Off.of_below hbq) (kB4.refl Tt W Wq);have hXq:=(hbq.block bX (jL HXc.out)).trans HXc.out;have hRq:=(hbq.block bRa (jL HRw.out)).trans HRw.out;clear e0 e1 e2 e3 e4 e5 e6 e7 e8 e9 heg dmn dpp dzz dyy hwv HOf
    have hx1:Wq.cell? ⟨bX,1,none⟩=some (.int .i32 z1):=by
     have:=jK Wq bX 1 _ _ (0,0) hXq;rw[show((z1.toNat:Nat):Int)=z1 from by omega]at this;exact this
    have fF:=jO Wq bFa 0 _ _ hsq.cF;have qF:Wq.cell? ⟨bFa,0,none⟩=some _:=jK Wq bFa 0 _ _ (0,0) hsq.cF;have h5F:=jP Wq bFa 0 _ _ (.int .i32 (z1+1)) hsq.cF;have h5N:=(jQ Wq ⟨bFa,0,none⟩ (bFa+1) (.int .i32 (z1+1)) (by simp)).trans hsq.cN;have h5R:=(jQ Wq ⟨bFa,0,none⟩ bRa (.int .i32 (z1+1)) (by simp;omega)).trans hRq;have g5:=kAe Wq bFa 0 (.int .i32 (z1+1));have b5:=hsq.but.setCell bFa 0 (.int .i32 (z1+1)) (.inl (.inl rfl))
    have hs5:(Wq.setCell ⟨bFa,0,none⟩ (.int .i32 (z1+1))).heap.size=Wq.heap.size:=by simp
    generalize hW5:Wq.setCell ⟨bFa,0,none⟩ (.int .i32 (z1+1))=W5 at*;have fN:=jO W5 (bFa+1) 0 _ _ h5N;have qN:W5.cell? ⟨bFa+1,0,none⟩=some (.int .i64 (m:Nat)):=jK W5 (bFa+1) 0 _ _ (0,0) h5N;have h6N:=jP W5 (bFa+1) 0 _ _ (.int .i64 ((m:Int)+1)) h5N;have h6F:=(jQ W5 ⟨bFa+1,0,none⟩ bFa (.int .i64 ((m:Int)+1)) (by simp)).trans h5F;have h6R:=(jQ W5 ⟨bFa+1,0,none⟩ bRa (.int .i64 ((m:Int)+1)) (by simp;omega)).trans h5R;have g6:=kAe W5 (bFa+1) 0 (.int .i64 ((m:Int)+1));have b6:=b5.setCell (bFa+1) 0 (.int .i64 ((m:Int)+1)) (.inl (.inr rfl))
    have hs6:(W5.setCell ⟨bFa+1,0,none⟩ (.int .i64 ((m:Int)+1))).heap.size=W5.heap.size:=by simp
    generalize hW6:W5.setCell ⟨bFa+1,0,none⟩ (.int .i64 ((m:Int)+1))=W6 at*;have qN6:W6.cell? ⟨bFa+1,0,none⟩=some (.int .i64 ((m:Int)+1)):=jK W6 (bFa+1) 0 _ _ (0,0) h6N;have qR6:W6.cell? ⟨bRa,0,none⟩=some (.int .i64 0):=jK W6 bRa 0 _ _ (0,0) h6R;have hT0:=hsq.tn;have HKp:Hid (kDc Tt (fun k=>k<Va.heap.size∧k≠bFa∧k≠bFa+1) W W6):=jH ((kDc.of_below hbq).trans ((kDc.of_grown g5 (fun k e h=>by cases e;rcases h with h | h;have:=hT0 _ h;omega;exact h.2.1 rfl)).trans (kDc.of_grown g6 (fun k e h=>by cases e;rcases h with h | h;have:=hT0 _ h;omega;exact h.2.2 rfl))));have HS6:Hid (kGb Va bFa (bFa+1) (kAt F N) Tt (m+1) W6):=jH ⟨b6,by rw[HEp.out];exact h6F,by rw[h6N];rfl,fun k hk=>by have:=hT0 k hk;omega⟩;have HPl:Hid ((pre++[(⟨p.toNat,z1.toNat,y⟩:kA2 El)]).length=m+1):=jH (by have:=HQ.out.2;simp;omega);clear h5F h5N h5R g5 b5 hs5 h6N h6F h6R g6 b6 hs6 hT0 hsq hXq hRq hbq
    by_cases h2:m+1=2
    ·have d2:((m:Int)+1==2)=true:=by simp;omega
     have H2:=jH h2;clear h2
     gi_wp2
     exact⟨⟨HKp.out.size,fun k hk h=>HKp.out.block k hk (h.imp id (fun f=>f.elim))⟩,by rw[HPl.out];exact HS6.out,rfl,by rw[HPl.out];exact H2.out,rfl⟩
    ·have d2:((m:Int)+1==2)=false:=by simp;omega
     have H2:=jH h2;clear h2
     gi_wp2
     exact⟨HKp.out,by rw[HPl.out];exact HS6.out,fun _=>by rw[HPl.out];have h2:=H2.out;have h3:=HR2.out;simp at h3;omega⟩
   case' dna=>
    rintro Dax Tt xs W hDl hTD hxs ⟨hst, -⟩ hDk;subst hxs;rw[kCa]at hst
    have hsq:kGb Va bFa (bFa+1) (kAt F N) Tt nR W:=by rw[HNR.out];exact hst
    clear hst
    obtain⟨mm,hmm⟩:∃mm,mm=nR:=⟨_,rfl⟩
    rw[←hmm]at hsq
    obtain⟨Uax,hUax⟩:∃U,U=W:=⟨_,rfl⟩
    rw[←hUax]at hsq hDk ⊢;clear hUax;have hbut:=hsq.but;have HBuax:Hid (Below W1.heap.size W1 Uax):=jH (HBVa.out.trans (hbut.below _ (by omega) (fun k hk=>by omega)));have HRuax:Hid (Uax.heap[bRa]? =some (.cells #[.int .i64 0] 3 (0,0))):=jH (hbut.keep HRVa.out (by omega) (by omega));have HDvax:=jH hDl;have HLiax0:Hid (∀k,k<Wa.heap.size→Uax.heap[k]? =Wa.heap[k]?):=jH (fun k hk=>(hbut.block k (by have:=HVa.out.1.size;omega) (by have:=HFa.out;omega)).trans (HVa.out.1.block k hk));have HDkax:=jH (And.intro (show W1.heap.size≤Dax from by have:=HBVa.out.size;omega) hDk);have HCuax:Hid (Uax.cell? ⟨bS,0,none⟩=some (.pointer (some ⟨g,0,none⟩))):=jH (hbut.cell HCVa.out (by omega) (by omega));have qN:Uax.cell? ⟨bFa+1,0,none⟩=some (.int .i64 (mm:Nat)):=jK Uax (bFa+1) 0 _ _ (0,0) hsq.cN;have qR:Uax.cell? ⟨bRa,0,none⟩=some (.int .i64 0):=jK Uax bRa 0 _ _ (0,0) HRuax.out;obtain⟨⟨p0,p1⟩, -, -, -⟩:=HCell.out Uax HBuax.out;have hC:=jN Uax (.cells #[.int .i64 1] 3);have hD:=(Below.refl Uax.heap.size Uax).alloc jR (.cells #[.int .i64 1] 3)
    obtain⟨Wax,hWax⟩:∃X,Uax.alloc (.cells #[.int .i64 1] 3)=X:=⟨_,rfl⟩
    rw[hWax]at hC hD;have HWwax:=jH hWax;clear hWax;have HRax:Hid (Wax.heap[Uax.heap.size]? =some (.cells #[.int .i64 1] 3 (0,0))):=jH hC;have HBax:Hid (Below W1.heap.size W1 Wax):=jH (HBuax.out.trans (hD.mono HBuax.out.size));have HCSax:Hid (Wax.cell? ⟨bS,0,none⟩=some (.pointer (some ⟨g,0,none⟩))):=jH ((hD.cell (p:=⟨bS,0,none⟩) (World.block_lt_of_cell? Uax _ HCuax.out)).trans HCuax.out);have HDmax:Hid (W1.heap.size≤Dax∧Wax.heap[Dax]? =some (.deferred (some []))):=jH ⟨HDkax.out.1,(hD.block Dax (jL HDkax.out.2)).trans HDkax.out.2⟩;have HLiax:Hid (∀k,k<Wa.heap.size→Wax.heap[k]? =Wa.heap[k]?):=jH (fun k hk=>(hD.block k (by have:=hbut.size;have:=HVa.out.1.size;omega)).trans (HLiax0.out k hk));clear hC hD hbut hsq hDk
    have dmn:((mm:Int) != (nR:Int))=false:=by simp[hmm]
    clear hmm;go_wp2
    rw[HWwax.out];clear HWwax qN qR p0 p1
    obtain⟨bRax,hbRax⟩:∃b,b=Uax.heap.size:=⟨_,rfl⟩
    rw[←hbRax]at HRax ⊢;clear hbRax;clear dmn
   case' stpa=>
    rintro Dax c Tt pre W hDl hTD hsp ⟨hst,rfl,hl2, -⟩ hDk;rw[hl2]at hst;have hsq:kGb Va bFa (bFa+1) (kAt F N) Tt 2 W:=hst;clear hst hl2 hsp
    obtain⟨mm,hmm⟩:∃mm,mm=2:=⟨_,rfl⟩
    rw[←hmm]at hsq
    obtain⟨Uax,hUax⟩:∃U,U=W:=⟨_,rfl⟩
    rw[←hUax]at hsq hDk ⊢;clear hUax;have hbut:=hsq.but;have HBuax:Hid (Below W1.heap.size W1 Uax):=jH (HBVa.out.trans (hbut.below _ (by omega) (fun k hk=>by omega)));have HRuax:Hid (Uax.heap[bRa]? =some (.cells #[.int .i64 0] 3 (0,0))):=jH (hbut.keep HRVa.out (by omega) (by omega));have HDvax:=jH hDl;have HLiax0:Hid (∀k,k<Wa.heap.size→Uax.heap[k]? =Wa.heap[k]?):=jH (fun k hk=>(hbut.block k (by have:=HVa.out.1.size;omega) (by have:=HFa.out;omega)).trans (HVa.out.1.block k hk));have HDkax:=jH (And.intro (show W1.heap.size≤Dax from by have:=HBVa.out.size;omega) hDk);have HCuax:Hid (Uax.cell? ⟨bS,0,none⟩=some (.pointer (some ⟨g,0,none⟩))):=jH (hbut.cell HCVa.out (by omega) (by omega));have qN:Uax.cell? ⟨bFa+1,0,none⟩=some (.int .i64 (mm:Nat)):=jK Uax (bFa+1) 0 _ _ (0,0) hsq.cN;have qR:Uax.cell? ⟨bRa,0,none⟩=some (.int .i64 0):=jK Uax bRa 0 _ _ (0,0) HRuax.out;obtain⟨⟨p0,p1⟩, -, -, -⟩:=HCell.out Uax HBuax.out;have hC:=jN Uax (.cells #[.int .i64 1] 3);have hD:=(Below.refl Uax.heap.size Uax).alloc jR (.cells #[.int .i64 1] 3)
    obtain⟨Wax,hWax⟩:∃X,Uax.alloc (.cells #[.int .i64 1] 3)=X:=⟨_,rfl⟩
    rw[hWax]at hC hD;have HWwax:=jH hWax;clear hWax;have HRax:Hid (Wax.heap[Uax.heap.size]? =some (.cells #[.int .i64 1] 3 (0,0))):=jH hC;have HBax:Hid (Below W1.heap.size W1 Wax):=jH (HBuax.out.trans (hD.mono HBuax.out.size));have HCSax:Hid (Wax.cell? ⟨bS,0,none⟩=some (.pointer (some ⟨g,0,none⟩))):=jH ((hD.cell (p:=⟨bS,0,none⟩) (World.block_lt_of_cell? Uax _ HCuax.out)).trans HCuax.out);have HDmax:Hid (W1.heap.size≤Dax∧Wax.heap[Dax]? =some (.deferred (some []))):=jH ⟨HDkax.out.1,(hD.block Dax (jL HDkax.out.2)).trans HDkax.out.2⟩;have HLiax:Hid (∀k,k<Wa.heap.size→Wax.heap[k]? =Wa.heap[k]?):=jH (fun k hk=>(hD.block k (by have:=hbut.size;have:=HVa.out.1.size;omega)).trans (HLiax0.out k hk));clear hC hD hbut hsq hDk;subst hmm
    go_upto_region 18 with(fail)
    go_cut [110]from 98 to 110 (fun p wx=>p= .bool false∧wx=Uax)
    case first=>
     by_cases h:nR=2
     ·have dmn:((2:Int) != (nR:Int))=false:=by simp;omega
      clear h;go_wp2
      go_meet
      exact⟨rfl,by first | rfl | trivial⟩
     ·have dmn:((2:Int) != (nR:Int))=true:=by simp;omega
      clear h;go_wp2
      go_meet
      exact⟨rfl,by first | rfl | trivial⟩
    case' rest=>
    obtain⟨rfl,hwc⟩:=hcut;rw[hwc];clear hwc;go_wp2
    rw[HWwax.out];clear HWwax qN qR p0 p1
    obtain⟨bRax,hbRax⟩:∃b,b=Uax.heap.size:=⟨_,rfl⟩
    rw[←hbRax]at HRax ⊢;clear hbRax
   all_goals
    rw[rounds_succ];have qR:Wax.cell? ⟨bRax,0,none⟩=some (.int .i64 1):=jK Wax bRax 0 _ _ (0,0) HRax.out
    obtain⟨bFax,hbFax⟩:∃bF,bF=Wax.heap.size:=⟨_,rfl⟩
    obtain⟨Vax,hVax⟩:∃V,V=(Wax.alloc (.cells #[.int .i32 0] 21)).alloc (.cells #[.int .i64 0] 3):=⟨_,rfl⟩
    have HVax:Hid (Below Wax.heap.size Wax Vax∧Vax.heap[bFax]? =some (.cells #[.int .i32 0] 21 (0,0))∧Vax.heap[bFax+1]? =some (.cells #[.int .i64 0] 3 (0,0))∧Vax.heap.size=bFax+2):=jH (by rw[hbFax,hVax];exact kFz _ _ _ _ _)
    have HFax:=jH hbFax;have HVvax:=jH hVax
    clear hbFax hVax
    go_upto_region 11 with(fail)
    rw[←HVvax.out,←HFax.out];clear qR;have HBVax:=jH (HBax.out.trans (HVax.out.1.mono HBax.out.size));have HRVax:=jH ((HVax.out.1.block bRax (jL HRax.out)).trans HRax.out);have hbSlax:bS<Wax.heap.size:=World.block_lt_of_cell? Wax ⟨bS,0,none⟩ HCSax.out;have HCVax:Hid (Vax.cell? ⟨bS,0,none⟩=some (.pointer (some ⟨g,0,none⟩))):=jH ((HVax.out.1.cell (p:=⟨bS,0,none⟩) hbSlax).trans HCSax.out)
    have hf1ax:W1.heap.size≤bFax:=by rw[HFax.out];exact HBax.out.size
    have hf2ax:bRax<bFax:=by rw[HFax.out];exact(jL HRax.out)
    have hf3ax:bS<bFax:=by rw[HFax.out];exact hbSlax
    have hf4ax:Vax.heap.size=bFax+2:=HVax.out.2.2.2;have HSeqax:=jH (kC7 W1 g T HOk.out.ok HOk.out.pos HTr1.out bS (fun k=>k<Vax.heap.size∧k≠bFax∧k≠bFax+1) Vax (kEw HBVax.out) HBVax.out.size (fun k hk=>⟨by omega,by omega,by omega⟩) ⟨by omega,by omega,by omega⟩ HCVax.out N HN.out);rw[HFull.out]at HSeqax;clear hbSlax;go_wp2
    refine kDg (gf:=117) (lb:= #[.pointer (some ⟨bS,0,none⟩)]) rfl (enters_of Try.func117 (by kernel_rfl) rfl) HSeqax.out (Below.refl _ _) (fun k hk=>hk.1) (fun _=>rfl)
     (LkI Vax bFax (bFax+1) (kAt F N) 1) (LkX Vax bFax (bFax+1) (kAt F N) 1) (LkI.abide (by omega) (by omega)) (LkX.abide (by omega) (by omega)) ⟨⟨But.refl _ _ _,HVax.out.2.1,HVax.out.2.2.1,fun _ h=>h.elim⟩,fun _=>by simp⟩
     kM5 (fun T x a' W W' ⟨bX,h1,h2,h3⟩ ho=>⟨bX,h1,ho.cellsBlock h2 h3,h3⟩) ?asgax ?bdyax ?dnax ?stpax
    case asgax=>
     rintro l Tt pre x W K hi hK
     have HK:=jH hK;clear hK
     have hA:=jN W (.cells #[.int .i32 (x.f:Nat),.int .i32 (x.t:Nat),val8 x.v] 163);have hB:=(Below.refl W.heap.size W).alloc jR (.cells #[.int .i32 (x.f:Nat),.int .i32 (x.t:Nat),val8 x.v] 163);have hI:LkI Vax bFax (bFax+1) (kAt F N) 1 Tt pre (W.alloc (.cells #[.int .i32 (x.f:Nat),.int .i32 (x.t:Nat),val8 x.v] 163)):=LkI.abide (by omega) (by omega) _ _ _ _ _ hi (Off.of_below hB) (kB4.refl _ _ _);have HH:=jH (And.intro hB (And.intro hI (And.intro hA (show ¬Tt W.heap.size from fun e=>Nat.lt_irrefl _ (hi.1.tn _ e).2))));clear hA hB hI hi;simp only[kJi];unfold val8
     gi_wp2
     exact HK.out _ _ (kDc.of_below HH.out.1) HH.out.2.1 ⟨W.heap.size,rfl,HH.out.2.2⟩
    case bdyax=>
     rintro lp Tt pre x a' W hTl hl - hst hA hlen hsp;obtain⟨bX,rfl,hX,hXT⟩:=hA;obtain⟨q, -,hq1,hq2⟩:=hsp
     obtain⟨m,hm⟩:∃m,m=pre.length:=⟨_,rfl⟩
     have hmn:m<(kAt F N).length:=by rw[hm];rw[kCa]at hlen;exact hlen
     have hxg:x=⟨(kGi (-1) ((kAt F N).take m)+1).toNat,((kAt F N)[m]).1.toNat,of ((kAt F N)[m]).2⟩:=by
      have h1:=kHe of (kAt F N) (-1) m hmn
      have hql:q=m+1:=by
       have:=congrArg List.length hq2;rw[List.length_append,List.length_singleton,List.length_take]at this;omega
      have h2:(pre++[x])[m]? =some x:=by rw[List.getElem?_append_right (by omega)];simp[hm]
      rw[hq2,List.getElem?_take_of_lt (by omega),h1]at h2;exact(Option.some.inj h2).symm
     obtain⟨hst,hr2⟩:=hst;rw[←hm]at hst hr2;have hsn:kGb Vax bFax (bFax+1) (kAt F N) Tt m W:=hst
     have hrise:=(kE8 F N)
     have hm0:0≤((kAt F N)[m]).1:=hrise.2 _ (List.getElem_mem hmn);have hmN:((kAt F N)[m]).1<(N:Int):=kF8 F N _ (List.getElem_mem hmn)
     have hp0:0≤kGi (-1) ((kAt F N).take m)+1:=by
      cases m with
      | zero=>simp[kGi]
      | succ j=>
       rw[kCn (kAt F N) (-1) j (by omega)];have:=hrise.2 _ (List.getElem_mem (show j<(kAt F N).length by omega));omega
     have hep:=kCn (kAt F N) (-1) m hmn;have hvF:∃r0,r0<N∧((kAt F N)[m]).2=F r0:=kGq (List.getElem_mem hmn);obtain⟨r0,hr0,hvr⟩:=hvF;have hvb:=HOk.out.rng r0 hr0;rw[←hvr]at hvb;have hbut:=hsn.but;have HBw:Hid (Below W1.heap.size W1 W):=jH (HBVax.out.trans (hbut.below _ (by omega) (fun k hk=>by omega)));obtain⟨⟨p0,p1⟩, -,p2,p3⟩:=HCell.out W HBw.out;have cT:=(HT1.out.below HBw.out jR) m (by rw[List.length_map];exact hmn);have cV:=(HV1.out.below HBw.out jR) m (by rw[List.length_map];exact hmn);obtain⟨b1,o1,ea1,cT⟩:=cT;obtain⟨b2,o2,ea2,cV⟩:=cV;subst ea1 ea2;simp only[List.getElem_map]at cT cV
     have hmr:m<nR:=by rw[HNR.out];exact hmn
     have hmi:¬(nR:Int)≤(m:Int):=by omega
     have hmi2:(m:Int)<(nR:Int):=by omega
     have hXW:bX<W.heap.size:=(jL hX)
     have HQ:=jH (And.intro hq2 hm)
     have HSn:=jH hsn;have HR2:=jH hr2
     have HXT:=jH hXT
     obtain⟨p,hp⟩:∃p,p=kGi (-1) ((kAt F N).take m)+1:=⟨_,rfl⟩
     rw[←hp]at hxg hp0
     have cF:W.cell? ⟨bFax,0,none⟩=some (.int .i32 p):=by rw[hp];exact jK W bFax 0 _ _ (0,0) hsn.cF
     have cN:W.cell? ⟨bFax+1,0,none⟩=some (.int .i64 (m:Nat)):=jK W (bFax+1) 0 _ _ (0,0) hsn.cN;have HEp:=jH hep;generalize (kAt F N)[m]=z at*;subst hxg
     have hx0:W.cell? ⟨bX,0,none⟩=some (.int .i32 p):=by
      have:=jK W bX 0 _ _ (0,0) hX;rw[show((p.toNat:Nat):Int)=p from by omega]at this;exact this
     have hx1:W.cell? ⟨bX,1,none⟩=some (.int .i32 z.1):=by
      have:=jK W bX 1 _ _ (0,0) hX;rw[show((z.1.toNat:Nat):Int)=z.1 from by omega]at this;exact this
     have hx2:W.cell? ⟨bX,2,none⟩=some (val8 (of z.2)):=jK W bX 2 _ _ (0,0) hX;have HXc:=jH hX;have HOf:=jH (fun d os=>(HCl.out z.2 hvb.1 hvb.2 (Go.Sort.grow (redrawn W d) os) (HP.out.1.trans ((HBw.out.trans ((below_regrown W d os).mono HBw.out.size)).mono HP.out.1.size))).regrown_of)
     have hwv:IntKind.u8.wrap z.2=z.2:=by simp[IntKind.wrap,IntKind.bits,IntKind.signed];omega
     have HRw:=jH (hbut.keep HRVax.out (by omega) (by omega))
     have hz1b:z.1<1114112:=by have:=HN.out;omega
     clear hst hr2 hsn hX hXT hq1 hq2 hm hbut hrise hlen hr0 hvr p3 hep;clear hp;generalize of z.2=y at HOf hx2 HXc HQ;unfold val8 at HOf hx2;obtain⟨z1,z2⟩:=z
     dsimp only at*
     have e0:=fun d os=>cell_regrown p0 d os
     have e1:=fun d os=>cell_regrown p1 d os
     have e2:=fun d os=>cell_regrown p2 d os
     have e3:=fun d os=>cell_regrown cT d os
     have e4:=fun d os=>cell_regrown cV d os
     have e5:=fun d os=>cell_regrown cF d os
     have e6:=fun d os=>cell_regrown cN d os
     have e7:=fun d os=>cell_regrown hx0 d os
     have e8:=fun d os=>cell_regrown hx1 d os
     have e9:=fun d os=>cell_regrown hx2 d os
     have heg:=HEg.out;clear p0 p1 p2 cT cV cF cN hx0 hx1 hx2;have dmi:decide ((nR:Int)≤(m:Int))=false:=decide_eq_false hmi;have dmn:decide (nR≤m)=false:=decide_eq_false (by omega)
     have dpp:(p != p)=false:=by simp
     have dzz:(z1 != z1)=false:=by simp
     have dyy:(!ByteArray.toList (y)==ByteArray.toList (y))=false:=by simp
     gi_wp2
     refine kB3 (by kernel_rfl) (by kernel_rfl) (by kernel_rfl) ?_
     iterate 31 (gi_big_quiet_step (fail))
     gi_big_quiet_step (exact CallsIn.inRound lp (callsIn_wide.2 (HOf.out _ _)))
     iterate 2 (gi_big_quiet_step (fail))
     refine wpQuietIn_nil ?_;intro _ hw';obtain⟨⟨dq,osq⟩,hw''⟩:=hw';subst hw'';have hbq:=below_regrown W dq osq;generalize (Go.Sort.grow (redrawn W dq) osq)=Wq at*;have hsq:=HSn.out.off (by omega) (by omega) (Off.of_below hbq) (kB4.refl Tt W Wq);have hXq:=(hbq.block bX (jL HXc.out)).trans HXc.out;have hRq:=(hbq.block bRax (jL HRw.out)).trans HRw.out;clear e0 e1 e2 e3 e4 e5 e6 e7 e8 e9 heg dmn dpp dzz dyy hwv HOf
     have hx1:Wq.cell? ⟨bX,1,none⟩=some (.int .i32 z1):=by
      have:=jK Wq bX 1 _ _ (0,0) hXq;rw[show((z1.toNat:Nat):Int)=z1 from by omega]at this;exact this
     have fF:=jO Wq bFax 0 _ _ hsq.cF;have qF:Wq.cell? ⟨bFax,0,none⟩=some _:=jK Wq bFax 0 _ _ (0,0) hsq.cF;have h5F:=jP Wq bFax 0 _ _ (.int .i32 (z1+1)) hsq.cF;have h5N:=(jQ Wq ⟨bFax,0,none⟩ (bFax+1) (.int .i32 (z1+1)) (by simp)).trans hsq.cN;have h5R:=(jQ Wq ⟨bFax,0,none⟩ bRax (.int .i32 (z1+1)) (by simp;omega)).trans hRq;have g5:=kAe Wq bFax 0 (.int .i32 (z1+1));have b5:=hsq.but.setCell bFax 0 (.int .i32 (z1+1)) (.inl (.inl rfl))
     have hs5:(Wq.setCell ⟨bFax,0,none⟩ (.int .i32 (z1+1))).heap.size=Wq.heap.size:=by simp
     generalize hW5:Wq.setCell ⟨bFax,0,none⟩ (.int .i32 (z1+1))=W5 at*;have fN:=jO W5 (bFax+1) 0 _ _ h5N;have qN:W5.cell? ⟨bFax+1,0,none⟩=some (.int .i64 (m:Nat)):=jK W5 (bFax+1) 0 _ _ (0,0) h5N;have h6N:=jP W5 (bFax+1) 0 _ _ (.int .i64 ((m:Int)+1)) h5N;have h6F:=(jQ W5 ⟨bFax+1,0,none⟩ bFax (.int .i64 ((m:Int)+1)) (by simp)).trans h5F;have h6R:=(jQ W5 ⟨bFax+1,0,none⟩ bRax (.int .i64 ((m:Int)+1)) (by simp;omega)).trans h5R;have g6:=kAe W5 (bFax+1) 0 (.int .i64 ((m:Int)+1));have b6:=b5.setCell (bFax+1) 0 (.int .i64 ((m:Int)+1)) (.inl (.inr rfl))
     have hs6:(W5.setCell ⟨bFax+1,0,none⟩ (.int .i64 ((m:Int)+1))).heap.size=W5.heap.size:=by simp
     generalize hW6:W5.setCell ⟨bFax+1,0,none⟩ (.int .i64 ((m:Int)+1))=W6 at*;have qN6:W6.cell? ⟨bFax+1,0,none⟩=some (.int .i64 ((m:Int)+1)):=jK W6 (bFax+1) 0 _ _ (0,0) h6N;have qR6:W6.cell? ⟨bRax,0,none⟩=some (.int .i64 1):=jK W6 bRax 0 _ _ (0,0) h6R;have hT0:=hsq.tn;have HKp:Hid (kDc Tt (fun k=>k<Vax.heap.size∧k≠bFax∧k≠bFax+1) W W6):=jH ((kDc.of_below hbq).trans ((kDc.of_grown g5 (fun k e h=>by cases e;rcases h with h | h;have:=hT0 _ h;omega;exact h.2.1 rfl)).trans (kDc.of_grown g6 (fun k e h=>by cases e;rcases h with h | h;have:=hT0 _ h;omega;exact h.2.2 rfl))));have HS6:Hid (kGb Vax bFax (bFax+1) (kAt F N) Tt (m+1) W6):=jH ⟨b6,by rw[HEp.out];exact h6F,by rw[h6N];rfl,fun k hk=>by have:=hT0 k hk;omega⟩;have HPl:Hid ((pre++[(⟨p.toNat,z1.toNat,y⟩:kA2 El)]).length=m+1):=jH (by have:=HQ.out.2;simp;omega);clear h5F h5N h5R g5 b5 hs5 h6N h6F h6R g6 b6 hs6 hT0 hsq hXq hRq hbq
     gi_wp2
     exact⟨HKp.out,by rw[HPl.out];exact HS6.out,fun h=>by cases h⟩
    case dnax=>
     rintro Daxx Tt xs W hDl hTD hxs ⟨hst, -⟩ hDk;subst hxs;rw[kCa]at hst
     have hsq:kGb Vax bFax (bFax+1) (kAt F N) Tt nR W:=by rw[HNR.out];exact hst
     clear hst
     obtain⟨mm,hmm⟩:∃mm,mm=nR:=⟨_,rfl⟩
     rw[←hmm]at hsq
     obtain⟨Uaxx,hUaxx⟩:∃U,U=W:=⟨_,rfl⟩
     rw[←hUaxx]at hsq hDk ⊢;clear hUaxx;have hbut:=hsq.but;have HBuaxx:Hid (Below W1.heap.size W1 Uaxx):=jH (HBVax.out.trans (hbut.below _ (by omega) (fun k hk=>by omega)));have HRuaxx:Hid (Uaxx.heap[bRax]? =some (.cells #[.int .i64 1] 3 (0,0))):=jH (hbut.keep HRVax.out (by omega) (by omega));have HDvaxx:=jH hDl;have HLiaxx0:Hid (∀k,k<Wax.heap.size→Uaxx.heap[k]? =Wax.heap[k]?):=jH (fun k hk=>(hbut.block k (by have:=HVax.out.1.size;omega) (by have:=HFax.out;omega)).trans (HVax.out.1.block k hk));have HDkaxx:=jH (And.intro (show W1.heap.size≤Daxx from by have:=HBVax.out.size;omega) hDk);have HCuaxx:Hid (Uaxx.cell? ⟨bS,0,none⟩=some (.pointer (some ⟨g,0,none⟩))):=jH (hbut.cell HCVax.out (by omega) (by omega));have qN:Uaxx.cell? ⟨bFax+1,0,none⟩=some (.int .i64 (mm:Nat)):=jK Uaxx (bFax+1) 0 _ _ (0,0) hsq.cN;have qR:Uaxx.cell? ⟨bRax,0,none⟩=some (.int .i64 1):=jK Uaxx bRax 0 _ _ (0,0) HRuaxx.out;obtain⟨⟨p0,p1⟩, -, -, -⟩:=HCell.out Uaxx HBuaxx.out;have hC:=jN Uaxx (.cells #[.int .i64 2] 3);have hD:=(Below.refl Uaxx.heap.size Uaxx).alloc jR (.cells #[.int .i64 2] 3)
     obtain⟨Waxx,hWaxx⟩:∃X,Uaxx.alloc (.cells #[.int .i64 2] 3)=X:=⟨_,rfl⟩
     rw[hWaxx]at hC hD;have HWwaxx:=jH hWaxx;clear hWaxx;have HRaxx:Hid (Waxx.heap[Uaxx.heap.size]? =some (.cells #[.int .i64 2] 3 (0,0))):=jH hC;have HBaxx:Hid (Below W1.heap.size W1 Waxx):=jH (HBuaxx.out.trans (hD.mono HBuaxx.out.size));have HCSaxx:Hid (Waxx.cell? ⟨bS,0,none⟩=some (.pointer (some ⟨g,0,none⟩))):=jH ((hD.cell (p:=⟨bS,0,none⟩) (World.block_lt_of_cell? Uaxx _ HCuaxx.out)).trans HCuaxx.out);have HDmaxx:Hid (W1.heap.size≤Daxx∧Waxx.heap[Daxx]? =some (.deferred (some []))):=jH ⟨HDkaxx.out.1,(hD.block Daxx (jL HDkaxx.out.2)).trans HDkaxx.out.2⟩;have HLiaxx:Hid (∀k,k<Wax.heap.size→Waxx.heap[k]? =Wax.heap[k]?):=jH (fun k hk=>(hD.block k (by have:=hbut.size;have:=HVax.out.1.size;omega)).trans (HLiaxx0.out k hk));clear hC hD hbut hsq hDk
     have dmn:((mm:Int) != (nR:Int))=false:=by simp[hmm]
     clear hmm;go_wp2
     rw[HWwaxx.out];clear HWwaxx qN qR p0 p1
     obtain⟨bRaxx,hbRaxx⟩:∃b,b=Uaxx.heap.size:=⟨_,rfl⟩
     rw[←hbRaxx]at HRaxx ⊢;clear hbRaxx;rw[rounds_succ];have qR:Waxx.cell? ⟨bRaxx,0,none⟩=some (.int .i64 2):=jK Waxx bRaxx 0 _ _ (0,0) HRaxx.out;have HTz:=jH (HTr1.out.below HBaxx.out jR)
     go_wp2_with fail
     refine(kDm Waxx g T HOk.out.ok HOk.out.pos HTz.out).mono ?_;rintro e we ⟨rfl,q,rfl⟩;clear qR;have HBz:Hid (Below W1.heap.size W1 (Waxx.drewN q)):=jH (below_drewN HBaxx.out q);have HD1:Hid (W1.heap.size≤Dax∧(Waxx.drewN q).heap[Dax]? =some (.deferred (some []))):=jH ⟨HDmax.out.1,(HLiaxx.out Dax (jL HDmax.out.2)).trans HDmax.out.2⟩;have HD2:Hid (W1.heap.size≤Daxx∧(Waxx.drewN q).heap[Daxx]? =some (.deferred (some []))):=jH ⟨HDmaxx.out.1,HDmaxx.out.2⟩
     have HNd:Hid (Dax≠Daxx):=jH (by
      have h1:=(jL HDmax.out.2)
      have h2:=HVax.out.1.size;have h3:=HDvaxx.out
      omega)
     generalize Waxx.drewN q=Wz at*
     have hml:T.mid.length=S.mids.length:=by rw[HOk.out.mid]
     have hll:T.low.length=S.lows.length:=by rw[HOk.out.low,List.length_map]
     rw[hml,hll]
     obtain⟨nm,hnm⟩:∃nm,nm=S.mids.length:=⟨_,rfl⟩
     obtain⟨nl,hnl⟩:∃nl,nl=S.lows.length:=⟨_,rfl⟩
     obtain⟨-,⟨p0,p1,p2⟩,p3,p4⟩:=HCell.out Wz HBz.out;rw[←hnm]at p1 hSm;rw[←hnl]at p2 hSl;rw[←hnm,←hnl];have HNm:=jH (And.intro hnm hnl);have HMl:=jH (And.intro hml hll);clear hnm hnl hml hll
     have em:((nm:Int)*64==((64*nm:Nat):Int))=true:=by simp;omega
     have el:((nl:Int)*64==((64*nl:Nat):Int))=true:=by simp;omega
     have hw1:IntKind.i64.wrap ((nm:Int)*64)=(nm:Int)*64:=by simp[IntKind.wrap,IntKind.bits,IntKind.signed];omega
     have hw2:IntKind.i64.wrap ((nl:Int)*64)=(nl:Int)*64:=by simp[IntKind.wrap,IntKind.bits,IntKind.signed];omega
     have em2:((nm:Int)*64==64*(nm:Int))=true:=by simp;omega
     have el2:((nl:Int)*64==64*(nl:Int))=true:=by simp;omega
     clear p4
     go_upto_region 23 with(fail)
     refine wp_region_noPanic ?_;refine(wpIn_wide (n:=2)).1 ?_;refine kAi [21] (fun w':World=>w'.cell? ⟨b0+1,0,none⟩=some (.slice sT 272 dT)∧w'.cell? ⟨b0+1,1,none⟩=some (.slice sM (64*nm) dM)∧w'.cell? ⟨b0+1,2,none⟩=some (.slice sL (64*nl) dL)∧w'.cell? ⟨b0+2,0,none⟩=some (.func (.func cf) #[] lb)) (by kernel_rfl) ?_
     have HCb:Hid (∀(wa wb:World),Below wa.heap.size wa wb→(wa.cell? ⟨b0+1,0,none⟩=some (.slice sT 272 dT)∧wa.cell? ⟨b0+1,1,none⟩=some (.slice sM (64*nm) dM)∧wa.cell? ⟨b0+1,2,none⟩=some (.slice sL (64*nl) dL)∧wa.cell? ⟨b0+2,0,none⟩=some (.func (.func cf) #[] lb))→(wb.cell? ⟨b0+1,0,none⟩=some (.slice sT 272 dT)∧wb.cell? ⟨b0+1,1,none⟩=some (.slice sM (64*nm) dM)∧wb.cell? ⟨b0+1,2,none⟩=some (.slice sL (64*nl) dL)∧wb.cell? ⟨b0+2,0,none⟩=some (.func (.func cf) #[] lb))):=jH (fun wa wb hb ⟨h1,h2,h3,h4⟩=>
      ⟨(hb.cell (p:=⟨b0+1,0,none⟩) (World.block_lt_of_cell? wa _ h1)).trans h1,(hb.cell (p:=⟨b0+1,1,none⟩) (World.block_lt_of_cell? wa _ h2)).trans h2,(hb.cell (p:=⟨b0+1,2,none⟩) (World.block_lt_of_cell? wa _ h3)).trans h3,(hb.cell (p:=⟨b0+2,0,none⟩) (World.block_lt_of_cell? wa _ h4)).trans h4⟩)
     have HCx:Hid (Wz.drew.cell? ⟨b0+1,0,none⟩=some (.slice sT 272 dT)∧Wz.drew.cell? ⟨b0+1,1,none⟩=some (.slice sM (64*nm) dM)∧Wz.drew.cell? ⟨b0+1,2,none⟩=some (.slice sL (64*nl) dL)∧Wz.drew.cell? ⟨b0+2,0,none⟩=some (.func (.func cf) #[] lb)):=jH ⟨p0,p1,p2,p3⟩;have HBy:Hid (Below W1.heap.size W1 Wz.drew):=jH HBz.out.drew;have HD1y:Hid (W1.heap.size≤Dax∧Wz.drew.heap[Dax]? =some (.deferred (some []))):=jH HD1.out;have HD2y:Hid (W1.heap.size≤Daxx∧Wz.drew.heap[Daxx]? =some (.deferred (some []))):=jH HD2.out;clear p0 p1 p2 p3 HBz HD1 HD2;generalize Wz.drew=Wy at*;refine' kAa (i:=0) (v:=_) [1,5,6,7,8,9,10,11,12,13,14,15,16,17,18,19,20,21] (by kernel_rfl) rfl (by rfl) (by kernel_rfl) (fun _ _ _ h=>h) (by rfl) (by rintro w' ⟨c0,c1,c2,c3⟩;go_simp;try with_reducible rfl) HCx.out ?_;simp only[jA,jB,jC,Act.put,jD,jE,jF];refine' kAa (i:=1) (v:=_) [5,6,7,8,9,10,11,12,13,14,15,16,17,18,19,20,21] (by kernel_rfl) rfl (by rfl) (by kernel_rfl) (fun _ _ _ h=>h) (by rfl) (by rintro w' ⟨c0,c1,c2,c3⟩;go_simp;try with_reducible rfl) HCx.out ?_;simp only[jA,jB,jC,Act.put,jD,jE,jF];refine' kAa (i:=2) (v:=_) [3,4,5,6,7,8,9,10,11,12,13,14,15,16,17,18,19,20,21] (by kernel_rfl) rfl (by rfl) (by kernel_rfl) (fun _ _ _ h=>h) (by rfl) (by rintro w' ⟨c0,c1,c2,c3⟩;go_simp;try with_reducible rfl) HCx.out ?_;simp only[jA,jB,jC,Act.put,jD,jE,jF];refine' kAa (i:=3) (v:=_) [4,5,6,7,8,9,10,11,12,13,14,15,16,17,18,19,20,21] (by kernel_rfl) rfl (by rfl) (by kernel_rfl) (fun _ _ _ h=>h) (by rfl) (by rintro w' ⟨c0,c1,c2,c3⟩;go_simp;try with_reducible rfl) HCx.out ?_;simp only[jA,jB,jC,Act.put,jD,jE,jF];refine' kAa (i:=4) (v:=_) [5,6,7,8,9,10,11,12,13,14,15,16,17,18,19,20,21] (by kernel_rfl) rfl (by rfl) (by kernel_rfl) (fun _ _ _ h=>h) (by rfl) (by rintro w' ⟨c0,c1,c2,c3⟩;go_simp;try with_reducible rfl) HCx.out ?_;simp only[jA,jB,jC,Act.put,jD,jE,jF];refine' kAa (i:=5) (v:= .bool true) [6,7,8,9,10,11,12,13,14,15,16,17,18,19,20,21] (by kernel_rfl) rfl (by rfl) (by kernel_rfl) (fun _ _ _ h=>h) (by rfl) (by rintro w' ⟨c0,c1,c2,c3⟩;go_simp;try with_reducible rfl) HCx.out ?_;simp only[jA,jB,jC,Act.put,jD,jE,jF];refine' kAa (i:=6) (v:=_) [7,8,9,10,11,12,13,14,15,16,17,18,19,20,21] (by kernel_rfl) rfl (by rfl) (by kernel_rfl) (fun _ _ _ h=>h) (by rfl) (by rintro w' ⟨c0,c1,c2,c3⟩;go_simp;try with_reducible rfl) HCx.out ?_;simp only[jA,jB,jC,Act.put,jD,jE,jF];refine' kAa (i:=7) (v:=_) [8,12,13,14,15,16,17,18,19,20,21] (by kernel_rfl) rfl (by rfl) (by kernel_rfl) (fun _ _ _ h=>h) (by rfl) (by rintro w' ⟨c0,c1,c2,c3⟩;go_simp;try with_reducible rfl) HCx.out ?_;simp only[jA,jB,jC,Act.put,jD,jE,jF];refine' kAa (i:=8) (v:=_) [12,13,14,15,16,17,18,19,20,21] (by kernel_rfl) rfl (by rfl) (by kernel_rfl) (fun _ _ _ h=>h) (by rfl) (by rintro w' ⟨c0,c1,c2,c3⟩;go_simp;try with_reducible rfl) HCx.out ?_;simp only[jA,jB,jC,Act.put,jD,jE,jF];refine' kAa (i:=9) (v:=_) [10,11,12,13,14,15,16,17,18,19,20,21] (by kernel_rfl) rfl (by rfl) (by kernel_rfl) (fun _ _ _ h=>h) (by rfl) (by rintro w' ⟨c0,c1,c2,c3⟩;go_simp;try with_reducible rfl) HCx.out ?_;simp only[jA,jB,jC,Act.put,jD,jE,jF];refine' kAa (i:=10) (v:=_) [11,12,13,14,15,16,17,18,19,20,21] (by kernel_rfl) rfl (by rfl) (by kernel_rfl) (fun _ _ _ h=>h) (by rfl) (by rintro w' ⟨c0,c1,c2,c3⟩;go_simp;try with_reducible rfl) HCx.out ?_;simp only[jA,jB,jC,Act.put,jD,jE,jF];refine' kAa (i:=11) (v:=_) [12,13,14,15,16,17,18,19,20,21] (by kernel_rfl) rfl (by rfl) (by kernel_rfl) (fun _ _ _ h=>h) (by rfl) (by rintro w' ⟨c0,c1,c2,c3⟩;go_simp;try with_reducible rfl) HCx.out ?_;simp only[jA,jB,jC,Act.put,jD,jE,jF];refine' kAa (i:=12) (v:= .bool true) [13,14,15,16,17,18,19,20,21] (by kernel_rfl) rfl (by rfl) (by kernel_rfl) (fun _ _ _ h=>h) (by rfl) (by rintro w' ⟨c0,c1,c2,c3⟩;go_simp;try with_reducible rfl) HCx.out ?_;simp only[jA,jB,jC,Act.put,jD,jE,jF];refine' kAa (i:=13) (v:=_) [14,15,16,17,18,19,20,21] (by kernel_rfl) rfl (by rfl) (by kernel_rfl) (fun _ _ _ h=>h) (by rfl) (by rintro w' ⟨c0,c1,c2,c3⟩;go_simp;try with_reducible rfl) HCx.out ?_;simp only[jA,jB,jC,Act.put,jD,jE,jF];refine' kAa (i:=14) (v:=_) [15,16,17,18,19,20,21] (by kernel_rfl) rfl (by rfl) (by kernel_rfl) (fun _ _ _ h=>h) (by rfl) (by rintro w' ⟨c0,c1,c2,c3⟩;go_simp;try with_reducible rfl) HCx.out ?_;simp only[jA,jB,jC,Act.put,jD,jE,jF];refine' kAa (i:=15) (v:=_) [16,19,20,21] (by kernel_rfl) rfl (by rfl) (by kernel_rfl) (fun _ _ _ h=>h) (by rfl) (by rintro w' ⟨c0,c1,c2,c3⟩;go_simp;try with_reducible rfl) HCx.out ?_;simp only[jA,jB,jC,Act.put,jD,jE,jF];refine' kAa (i:=17) (v:=_) [19,20,21] (by kernel_rfl) rfl (by rfl) (by kernel_rfl) (fun _ _ _ h=>h) (by rfl) (by rintro w' ⟨c0,c1,c2,c3⟩;go_simp;try with_reducible rfl) HCx.out ?_;simp only[jA,jB,jC,Act.put,jD,jE,jF];refine' kAa (i:=18) (v:=_) [19,20,21] (by kernel_rfl) rfl (by rfl) (by kernel_rfl) (fun _ _ _ h=>h) (by rfl) (by rintro w' ⟨c0,c1,c2,c3⟩;go_simp;try with_reducible rfl) HCx.out ?_;simp only[jA,jB,jC,Act.put,jD,jE,jF];clear em el em2 el2 hw1 hw2;have HTy:=jH (HTr1.out.below HBy.out jR);refine kAk (i:=16) (by kernel_rfl) ?_;refine kA9 (i:=16) rfl (by rfl) (by rfl) (fun _ _=>trivial) (kBg 86 (.tmp 132) _ rfl (.pointer (some ⟨g,0,none⟩)) rfl (enters_of Try.func86 (by kernel_rfl) rfl)) (fun h=>by cases h) ?_;refine callsIn_wide.2 ?_;refine(kCi Wy g T HOk.out.ok HOk.out.pos HTy.out).mono ?_;rintro e Wx ⟨at_,ct,am,cm,al,cl,rfl,ho1,ho2,ho3,hb⟩;refine⟨_,rfl,fun _=>HCb.out _ _ hb HCx.out,?_⟩;rw[HMl.out.1,←HNm.out.1]at ho2 ⊢;rw[HMl.out.2,←HNm.out.2]at ho3 ⊢;have HV1:Hid (kEz Wx at_ (S.top.map kAb)):=jH (by have:=kCl ho1;rw[HOk.out.top]at this;exact this);have HV2:Hid (kEz Wx am (S.mids.flatten.map kAb)):=jH (by have:=kCl ho2;rw[HOk.out.mid,kBv]at this;exact this);have HV3:Hid (kEz Wx al (S.lows.flatten.map (fun v=>val8 (of v)))):=jH (by have:=kCl ho3;rw[HOk.out.low,kBv,←List.map_flatten,List.map_map]at this;exact this);have HBx:Hid (Below W1.heap.size W1 Wx):=jH (HBy.out.trans (hb.mono HBy.out.size));have HD1x:Hid (W1.heap.size≤Dax∧Wx.heap[Dax]? =some (.deferred (some []))):=jH ⟨HD1y.out.1,(hb.block _ (jL HD1y.out.2)).trans HD1y.out.2⟩;have HD2x:Hid (W1.heap.size≤Daxx∧Wx.heap[Daxx]? =some (.deferred (some []))):=jH ⟨HD2y.out.1,(hb.block _ (jL HD2y.out.2)).trans HD2y.out.2⟩;have HCx2:=jH (HCb.out _ _ hb HCx.out);clear ho1 ho2 ho3 hb HBy HD1y HD2y HTy HCx;simp only[jA,jB,jC,Act.put,jD,jE,jF];have hbs:=HOk.out.ok;refine kAk (i:=19) (by kernel_rfl) ?_;refine kA9 (i:=19) rfl (by rfl) (by rfl) (fun _ _=>trivial) (kHx 85 (.tmp 133) (.tmp 134) (.tmp 135) _ rfl (.agg #[.slice at_ 272 ct,.slice am (64*nm) cm,.slice al (64*nl) cl]) (.agg #[.slice sT 272 dT,.slice sM (64*nm) dM,.slice sL (64*nl) dL]) (.func (.func cf) #[] lb) rfl rfl rfl (enters_of Try.func85 (by kernel_rfl) rfl)) (fun h=>by cases h) ?_;refine callsIn_wide.2 ?_
     refine(kDn Wx at_ ct am cm al cl sT dT sM dM sL dL S.top S.mids.flatten S.lows.flatten 272 (64*nm) (64*nl) hS272 (by rw[kBm _ (fun l hl=>hbs.mid l (by rw[HOk.out.mid];exact hl)),HNm.out.1]) (by rw[kBm _ (fun l hl=>by have:=hbs.low (l.map of) (by rw[HOk.out.low];exact List.mem_map_of_mem hl);rwa[List.length_map]at this),HNm.out.2]) (by omega) of cf lb HEg.out HV1.out HV2.out HV3.out (K1.out.below HBx.out jR) (K2.out.below HBx.out jR) (K3.out.below HBx.out jR)
      (fun v hv=>by obtain⟨l,hl,h⟩:=List.mem_flatten.1 hv;exact HOk.out.lo l hl v h) (fun x hx=>by rw[←HOk.out.top]at hx;have:=hbs.topN x hx;have:=hbs.midL;omega) (fun x hx=>by obtain⟨l,hl,h⟩:=List.mem_flatten.1 hx;rw[←HOk.out.mid]at hl;have:=hbs.midN l hl x h;have:=hbs.lowL;omega)
      (fun v hv W hW=>by obtain⟨l,hl,h⟩:=List.mem_flatten.1 hv;have hr:=HOk.out.lo l hl v h;exact HCl.out v hr.1 hr.2 W (HP.out.1.trans ((HBx.out.trans (hW.mono HBx.out.size)).mono HP.out.1.size)))).mono ?_
     rintro e Wf ⟨rfl,hb⟩;refine⟨_,rfl,fun _=>HCb.out _ _ hb HCx2.out,?_⟩;have HBf:Hid (Below W1.heap.size W1 Wf):=jH (HBx.out.trans (hb.mono HBx.out.size));have HD1f:Hid (W1.heap.size≤Dax∧Wf.heap[Dax]? =some (.deferred (some []))):=jH ⟨HD1x.out.1,(hb.block _ (jL HD1x.out.2)).trans HD1x.out.2⟩;have HD2f:Hid (W1.heap.size≤Daxx∧Wf.heap[Daxx]? =some (.deferred (some []))):=jH ⟨HD2x.out.1,(hb.block _ (jL HD2x.out.2)).trans HD2x.out.2⟩;have HCf:=jH (HCb.out _ _ hb HCx2.out);clear hb hbs HBx HD1x HD2x HCx2 HV1 HV2 HV3;simp only[jA,jB,jC,Act.put,jD,jE,jF];refine' kAa (i:=20) (v:= .bool true) [21] (by kernel_rfl) rfl (by rfl) (by kernel_rfl) (fun _ _ _ h=>h) (by rfl) (by rintro w' ⟨c0,c1,c2,c3⟩;go_simp;try with_reducible rfl) HCf.out ?_;simp only[jA,jB,jC,Act.put,jD,jE,jF];refine kAk (i:=21) (by kernel_rfl) ?_;have hrs:Wf.heap[b0+3]? =some (.cells #[.bool false] 4 (0,0)):=(HCell.out Wf HBf.out).2.2.2;refine kEe (i:=21) (w':=Wf.setRow (b0+3) #[.bool true]) rfl (by rfl) (fun _ _=>trivial) (by rfl) (kA6 4 (.tmp 10) (.tmp 137) rfl (b0+3) (.bool true) rfl rfl rfl 4 _ hrs (by kernel_rfl)) (fun h=>absurd (by simp) h) ?_;simp only[jA,jB,jC,Act.put,jD,jE,jF];refine⟨by kernel_rfl,?_⟩
     have hz1:b0+3<W1.heap.size:=by omega
     have HD1g:Hid (W1.heap.size≤Dax∧(Wf.setRow (b0+3) #[.bool true]).heap[Dax]? =some (.deferred (some []))):=jH ⟨HD1f.out.1,by rw[setRow_other Wf (b0+3) _ _ (by have:=HD1f.out.1;omega)];exact HD1f.out.2⟩;have HD2g:Hid (W1.heap.size≤Daxx∧(Wf.setRow (b0+3) #[.bool true]).heap[Daxx]? =some (.deferred (some []))):=jH ⟨HD2f.out.1,by rw[setRow_other Wf (b0+3) _ _ (by have:=HD2f.out.1;omega)];exact HD2f.out.2⟩;have HRg:=jH (setRow_heap Wf (b0+3) _ #[.bool true] _ _ hrs)
     have HBg:Hid (Below w.heap.size w (Wf.setRow (b0+3) #[.bool true])):=jH (by
      have h:=HP.out.1.trans (HBf.out.mono HP.out.1.size);have:=HB0.out
      exact⟨h.os,h.tape,h.output,by rw[setRow_size];exact h.size,fun k hk=>by rw[setRow_other Wf (b0+3) k _ (by omega)];exact h.block k hk⟩)
     clear hrs;generalize (Wf.setRow (b0+3) #[.bool true])=Wg at*;clear hSm hSl hS272;refine NoPanic.normal ?_
     go_step
     go_step
     go_step
     go_step
     refine kFh (B:=W1.heap.size) [Daxx,Dax] Wg (by simp[HNd.out,Ne.symm HNd.out]) (fun D hD=>by
      rcases List.mem_cons.1 hD with rfl | hD
      ·exact HD2g.out
      ·rw[List.mem_singleton.1 hD];exact HD1g.out) (fun w' hb'=> ?_)
     have q3:w'.cell? ⟨b0+3,0,none⟩=some (.bool true):=jK w' (b0+3) 0 _ _ (0,0) ((hb'.block (b0+3) hz1).trans HRg.out);refine kCz (v:= .bool true) (by simp[results,Try.results42,go_sem,q3]) ?_;exact⟨rfl,HBg.out.trans (hb'.mono HP.out.1.size)⟩
    case stpax=>
     rintro D c T pre W - - - ⟨-, -, -,h⟩ -;cases h
end Go.Proofs.Ytabbabkmojaoaaa.VS
