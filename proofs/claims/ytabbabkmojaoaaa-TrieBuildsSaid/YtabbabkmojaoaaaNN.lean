/- several texts in one: FR8 -/
import Derived.Lib.QuietBelow
import Derived.BigQuiet
import Derived.Great.BuildSlice
import Derived.Test.YtabbabkmojaoaaaNK
import Derived.Test.YtabbabkmojaoaaaNL
import Derived.Test.YtabbabkmojaoaaaNM
set_option linter.unusedVariables false
set_option linter.unusedSimpArgs false
set_option maxRecDepth 100000
set_option maxHeartbeats 16000000
namespace Go.Proofs.Ytabbabkmojaoaaa
open Go.RowKit
theorem kD2 {many:Nat}{ag:Nat→Bool}:∀ {l:List Nat} {n m:Nat},n≤many→kAq many ag l n=some m→∀x∈l,x<many
 | [],n,m,hn,h=>fun x hx=>by simp at hx
 | y :: l,n,m,hn,h=>fun x hx=>by
  rw[kAq]at h
  split at h
  ·rename_i hc
   rcases List.mem_cons.1 hx with rfl | hx
   ·omega
   ·exact kD2 (by omega) h x hx
  ·split at h
   ·cases h
   ·rename_i hc hd
    rcases List.mem_cons.1 hx with rfl | hx
    ·have:¬n≤x:=fun e=>hd (.inl e)
     omega
    ·exact kD2 hn h x hx
def kDy (w:World) (a:Option Addr) (zs:List Int):Prop:=∀i (h:i<zs.length),∃b o,a=some ⟨b,o,none⟩∧w.cell? ⟨b,o+i,none⟩=some (val8 zs[i])
theorem kDy.below {w w':World}{a:Option Addr}{zs:List Int}(h:kDy w a zs)(hb:Below w.heap.size w w'):kDy w' a zs:=fun i hi=>by
 obtain⟨b,o,e,hc⟩:=h i hi;exact⟨b,o,e,(hb.cell (p:=⟨b,o+i,none⟩) (World.block_lt_of_cell? w _ hc)).trans hc⟩
theorem kDy.range {w:World}{b o:Nat}{zs:List Int}(h:kDy w (some ⟨b,o,none⟩) zs):w.rangeAt b o (kAf val8 zs):=fun j v hv=>by
 rw[kA7,List.getElem?_map]at hv
 cases hz:zs[j]? with
 | none=>rw[hz]at hv;cases hv
 | some x=>
  rw[hz]at hv;obtain⟨hj,rfl⟩:=List.getElem?_eq_some_iff.1 hz;obtain⟨b',o',e,hc⟩:=h j hj;simp only[Option.some.injEq,Addr.mk.injEq,and_true]at e;obtain⟨rfl,rfl⟩:=e;rw[hc]
  simpa using hv
theorem kCt {w:World}{b o:Nat}{zs:List Nat}(h:kCm w (some ⟨b,o,none⟩) zs):w.rangeAt b o (kAf kAb zs):=fun j v hv=>by
 rw[kA4,List.getElem?_map]at hv
 cases hz:zs[j]? with
 | none=>rw[hz]at hv;cases hv
 | some x=>
  rw[hz]at hv;obtain⟨hj,rfl⟩:=List.getElem?_eq_some_iff.1 hz;obtain⟨b',o',e,hc⟩:=h j hj;simp only[Option.some.injEq,Addr.mk.injEq,and_true]at e;obtain⟨rfl,rfl⟩:=e;rw[hc]
  simpa using hv
structure kCd (zT zM:List Nat) (zL:List Int):Prop where
 t:zT.length=272
 m:zM.length≠0
 l:zL.length≠0
 m64:zM.length % 64=0
 l64:zL.length % 64=0
 ml:zM.length / 64≤272
 ll:zL.length / 64≤17408
 nm:kAq (zL.length / 64) (fun _=>true) zM 0=some (zL.length / 64)
 nt:kAq (zM.length / 64) (fun _=>true) zT 0=some (zM.length / 64)
 ul:UnL (fun a b=>decide (a=b)) (cksL zL (zL.length / 64)) (zL.length / 64)
 um:VN.UnL (fun a b=>decide (a=b)) (VN.cksL zM (zM.length / 64)) (zM.length / 64)
def kBl (ty:TypeId) (w:World) (g:Nat) (T:kAy Int) (B:Nat):Prop:=B≤g∧∃am cm al cl,w.heap[g]? =some (.cells (kD7 T am cm al cl).toArray ty (0,0))∧(∀x,am=some x→B≤x.block)∧∀x,al=some x→B≤x.block
theorem kBl.below {ty:TypeId}{w w':World}{g:Nat}{T:kAy Int}{B:Nat}(h:kBl ty w g T B)(hb:Below w.heap.size w w'):kBl ty w' g T B:=by
 obtain⟨h0,am,cm,al,cl,h1,h2,h3⟩:=h;exact⟨h0,am,cm,al,cl,(hb.block g (jL h1)).trans h1,h2,h3⟩
theorem kBl.mono {ty:TypeId}{w:World}{g:Nat}{T:kAy Int}{B B':Nat}(h:kBl ty w g T B)(hb:B'≤B):kBl ty w g T B':=by
 obtain⟨h0,am,cm,al,cl,h1,h2,h3⟩:=h;exact⟨Nat.le_trans hb h0,am,cm,al,cl,h1,fun x e=>Nat.le_trans hb (h2 x e),fun x e=>Nat.le_trans hb (h3 x e)⟩
def kFt (zT zM:List Nat) (zL:List Int):kAy Int:=⟨zT,VN.cksL zM (zM.length / 64),cksL zL (zL.length / 64)⟩
theorem kGs {W:World}{bt:Nat}{t:TypeId}(h:W.heap[bt]? =some (.cells #[.pointer none] t (0,0)))(u:Value){b o:Nat}{v:Value}(hc:W.cell? ⟨b,o,none⟩=some v)(hv:v≠ .pointer none):(W.setRow bt #[u]).cell? ⟨b,o,none⟩=some v:=by
 by_cases e:b=bt
 ·subst e;rw[jK W b o _ _ (0,0) h]at hc
  match o,hc with
  | 0,hc=>exact absurd (by simpa using hc.symm) hv
  | o+1,hc=>simp at hc
 ·rw[World.cell?_of_block (w:=W) (a:=⟨b,o,none⟩) (setRow_other W bt b _ e)];exact hc
theorem kCf {α:Type}{val:α→Value}{W:World}{bt:Nat}{t:TypeId}(h:W.heap[bt]? =some (.cells #[.pointer none] t (0,0)))(u:Value){a:Option Addr}{L:List (List α)}(hb:kAg val 64 W a L)(hv:∀l:List α,∀x∈kAf val l,x≠ .pointer none):kAg val 64 (W.setRow bt #[u]) a L:=fun i hi=>by
 obtain⟨b,o,e,hr⟩:=hb i hi;exact⟨b,o,e,fun j v hj=>kGs h u (hr j v hj) (hv _ _ (List.mem_of_getElem? hj))⟩
structure FrC (bx bt_ ot bm om bl ol cT nM cM nL cL:Nat) (zT:List Nat) (w:World):Prop where
 p0:w.cell? ⟨bx,0,none⟩=some (.slice (some ⟨bt_,ot,none⟩) 272 cT)
 p1:w.cell? ⟨bx,1,none⟩=some (.slice (some ⟨bm,om,none⟩) nM cM)
 p2:w.cell? ⟨bx,2,none⟩=some (.slice (some ⟨bl,ol,none⟩) nL cL)
 r:w.rangeAt bt_ ot (kAf kAb zT)
theorem FrC.below {bx bt_ ot bm om bl ol cT nM cM nL cL:Nat}{zT:List Nat}{w w':World}(h:FrC bx bt_ ot bm om bl ol cT nM cM nL cL zT w)(hb:Below w.heap.size w w'):FrC bx bt_ ot bm om bl ol cT nM cM nL cL zT w':=by
 have k:∀ {b o:Nat} {v:Value},w.cell? ⟨b,o,none⟩=some v→w'.cell? ⟨b,o,none⟩=some v:=fun {b o v} hc=>(hb.cell (p:=⟨b,o,none⟩) (World.block_lt_of_cell? w _ hc)).trans hc
 exact⟨k h.p0,k h.p1,k h.p2,kAs h.r hb jR⟩
def kNa (i:Nat):Option (Nat×Nat):= #[(0,272),(272,1),(273,1)][i]?
theorem kB1 (w:World)(zT:List Nat)(hz:zT.length=272)(s1 s2:Value)(h1:s1.cells= #[s1])(h2:s2.cells= #[s2]):(Instr.build 114 #[(0,.agg (kAf kAb zT).toArray),(1,s1),(2,s2)]).run Try.prog w= .ok (.agg (zT.map kAb++[s1,s2]).toArray) w:=by
 refine run_build w _ _ _ ?_
 have e:∀parts,Try.prog.built 114 parts=Instr.fill kNa (Array.replicate 272 (.int .u16 0)++ #[.slice none 0 0,.slice none 0 0]) parts:=fun parts=>by kernel_rfl
 rw[e];have:=kNh kNa (Array.replicate 272 (.int .u16 0)++ #[.slice none 0 0,.slice none 0 0]) (kAf kAb zT).toArray s1 s2 (by simp) (by rw[List.size_toArray,kAh (sz:=1) (fun _=>rfl),hz]) h1 h2 rfl rfl rfl;rw[kA4]at this;rw[kA4];exact this
theorem kFp (w:World)(aT aM aL:Option Addr)(nT cT nM cM nL cL:Nat)(zT zM:List Nat)(zL:List Int)(hT:zT.length=nT)(hM:zM.length=nM)(hL:zL.length=nL)(bT:nT≤cT∧cT≤maxLen)(bM:nM≤cM∧cM≤maxLen)(bL:nL≤cL∧cL≤maxLen)
  (vT:∀z∈zT,z<65536)(vM:∀z∈zM,z<65536)(rT:kCm w aT zT)(rM:kCm w aM zM)(rL:kDy w aL zL):
  Calls Try.prog 47 #[.agg #[.slice aT nT cT,.slice aM nM cM,.slice aL nL cL]] w fun e w'=>Below w.heap.size w w'∧
   ((e= .returned (.tuple #[.pointer none,.int .i64 112])∧¬kCd zT zM zL)∨
   (kCd zT zM zL∧∃g,e= .returned (.tuple #[.pointer (some ⟨g,0,none⟩),.int .i64 0])∧w.heap.size≤g∧kAj val8 114 64 w' g (kFt zT zM zL)∧kBl 114 w' g (kFt zT zM zL) w.heap.size)):=by
 have HVT:=jH vT;have HVM:=jH vM;have HRT:=jH rT;have HRM:=jH rM;have HRL:=jH rL
 have HLn:=jH (And.intro hT (And.intro hM hL));clear vT vM rT rM rL hT hM hL;have hA:=jN w (.cells #[.slice aT nT cT,.slice aM nM cM,.slice aL nL cL] 79);have q0:(w.alloc (.cells #[.slice aT nT cT,.slice aM nM cM,.slice aL nL cL] 79)).cell? ⟨w.heap.size,0,none⟩=some (.slice aT nT cT):=jK _ w.heap.size 0 _ _ (0,0) hA;have q1:(w.alloc (.cells #[.slice aT nT cT,.slice aM nM cM,.slice aL nL cL] 79)).cell? ⟨w.heap.size,1,none⟩=some (.slice aM nM cM):=jK _ w.heap.size 1 _ _ (0,0) hA;have q2:(w.alloc (.cells #[.slice aT nT cT,.slice aM nM cM,.slice aL nL cL] 79)).cell? ⟨w.heap.size,2,none⟩=some (.slice aL nL cL):=jK _ w.heap.size 2 _ _ (0,0) hA;have HB:=jH ((Below.refl w.heap.size w).alloc jR (.cells #[.slice aT nT cT,.slice aM nM cM,.slice aL nL cL] 79));have HA:=jH hA;have HZ:=jH (World.size_alloc w (.cells #[.slice aT nT cT,.slice aM nM cM,.slice aL nL cL] 79));clear hA
 obtain⟨bx,hbx⟩:∃bx,bx=w.heap.size:=⟨_,rfl⟩
 rw[←hbx]at q0 q1 q2;have HBx:=jH hbx
 go_enter Try.func47,Try.ntmps47
 go_upto_region 1 with(fail)
 rw[←hbx];clear hbx;generalize w.alloc (.cells #[.slice aT nT cT,.slice aM nM cM,.slice aL nL cL] 79)=w1 at*;have hmx:maxLen=9223372036854775807:=rfl;rw[hmx]at bT bM bL;clear hmx
 by_cases c1:nT=272
 rotate_left
 ·have d1:((nT:Int) != 272)=true:=by simpa using (by omega:¬(nT:Int)=272)
  go_wp2
  go_ret2
  exact⟨HB.out,.inl ⟨rfl,fun h=>c1 (by rw[←HLn.out.1];exact h.t)⟩⟩
 have d1:((nT:Int) != 272)=false:=by simpa using (by omega:(nT:Int)=272)
 by_cases c2:nM=0
 ·have d2:((nM:Int)==0)=true:=by simpa using (by omega:(nM:Int)=0)
  go_wp2
  go_ret2
  exact⟨HB.out,.inl ⟨rfl,fun h=>h.m (by rw[HLn.out.2.1];exact c2)⟩⟩
 have d2:((nM:Int)==0)=false:=by simpa using (by omega:¬(nM:Int)=0)
 by_cases c3:nL=0
 ·have d3:((nL:Int)==0)=true:=by simpa using (by omega:(nL:Int)=0)
  go_wp2
  go_ret2
  exact⟨HB.out,.inl ⟨rfl,fun h=>h.l (by rw[HLn.out.2.2];exact c3)⟩⟩
 have d3:((nL:Int)==0)=false:=by simpa using (by omega:¬(nL:Int)=0)
 by_cases c4:nM % 64=0
 rotate_left
 ·have d4:(((nM:Int) % 64) != 0)=true:=by simpa using (by omega:¬(nM:Int) % 64=0)
  go_wp2
  go_ret2
  exact⟨HB.out,.inl ⟨rfl,fun h=>c4 (by rw[←HLn.out.2.1];exact h.m64)⟩⟩
 have d4:(((nM:Int) % 64) != 0)=false:=by simpa using (by omega:(nM:Int) % 64=0)
 by_cases c5:nL % 64=0
 rotate_left
 ·have d5:(((nL:Int) % 64) != 0)=true:=by simpa using (by omega:¬(nL:Int) % 64=0)
  go_wp2
  go_ret2
  exact⟨HB.out,.inl ⟨rfl,fun h=>c5 (by rw[←HLn.out.2.2];exact h.l64)⟩⟩
 have d5:(((nL:Int) % 64) != 0)=false:=by simpa using (by omega:(nL:Int) % 64=0)
 have z1:(0:Int)≤(nM:Int):=by omega
 have z2:(0:Int)≤(nL:Int):=by omega
 by_cases c6:nM / 64≤272
 rotate_left
 ·have c6i:(272:Int)<(nM:Int) / 64:=by omega
  have d6:decide ((272:Int)<(nM:Int) / 64)=true:=decide_eq_true c6i;go_wp2
  go_ret2
  exact⟨HB.out,.inl ⟨rfl,fun h=>c6 (by rw[←HLn.out.2.1];exact h.ml)⟩⟩
 have c6i:¬(272:Int)<(nM:Int) / 64:=by omega
 have d6:decide ((272:Int)<(nM:Int) / 64)=false:=decide_eq_false c6i
 by_cases c7:nL / 64≤17408
 rotate_left
 ·have c7i:(17408:Int)<(nL:Int) / 64:=by omega
  have d7:decide ((17408:Int)<(nL:Int) / 64)=true:=decide_eq_true c7i;go_wp2
  go_ret2
  exact⟨HB.out,.inl ⟨rfl,fun h=>c7 (by rw[←HLn.out.2.2];exact h.ll)⟩⟩
 have c7i:¬(17408:Int)<(nL:Int) / 64:=by omega
 have d7:decide ((17408:Int)<(nL:Int) / 64)=false:=decide_eq_false c7i
 obtain⟨KM,hKM⟩:∃KM,KM=nM / 64:=⟨_,rfl⟩
 obtain⟨KL,hKL⟩:∃KL,KL=nL / 64:=⟨_,rfl⟩
 have eM:nM=64*KM:=by omega
 have eL:nL=64*KL:=by omega
 have HK:=jH (And.intro hKM (And.intro hKL (And.intro eM (And.intro eL (And.intro c6 c7)))));clear hKM hKL eM eL c4 c5 c6 c7;subst c1
 go_upto_region 3 with(fail)
 obtain⟨hKM,hKL,eM,eL,c6,c7⟩:=HK.out;have HRT1:=jH (show kCm w1 aT zT from fun i hi=>by obtain⟨b,o,e,hc⟩:=HRT.out i hi;exact⟨b,o,e,(HB.out.cell (p:=⟨b,o+i,none⟩) (World.block_lt_of_cell? w _ hc)).trans hc⟩);have HRM1:=jH (show kCm w1 aM zM from fun i hi=>by obtain⟨b,o,e,hc⟩:=HRM.out i hi;exact⟨b,o,e,(HB.out.cell (p:=⟨b,o+i,none⟩) (World.block_lt_of_cell? w _ hc)).trans hc⟩);have HRL1:=jH (HRL.out.below HB.out);obtain⟨hT,hM,hL⟩:=HLn.out;obtain⟨bt_,ot,eT, -⟩:=HRT1.out 0 (by omega);obtain⟨bm,om,eM2, -⟩:=HRM1.out 0 (by omega);obtain⟨bl,ol,eL2, -⟩:=HRL1.out 0 (by omega);subst eT eM2 eL2;subst eM eL;have q3:=kCt HRT1.out;have HR1:=jH (kCt HRM1.out);have HR2:=jH HRL1.out.range
 have hbm:bm<w1.heap.size:=by
  obtain⟨b,o,e,hc⟩:=HRM1.out 0 (by omega);simp only[Option.some.injEq,Addr.mk.injEq,and_true]at e;obtain⟨rfl,rfl⟩:=e;exact World.block_lt_of_cell? w1 _ hc
 have hbl:bl<w1.heap.size:=by
  obtain⟨b,o,e,hc⟩:=HRL1.out 0 (by omega);simp only[Option.some.injEq,Addr.mk.injEq,and_true]at e;obtain⟨rfl,rfl⟩:=e;exact World.block_lt_of_cell? w1 _ hc
 have hsT:(kAf kAb zT).length=272:=by rw[kAh (sz:=1) (fun _=>rfl),hT]
 have hKM2:KM≤272:=by omega
 have hKL2:KL≤17408:=by omega
 have HT2:=jH hT;have HM2:=jH hM;have HL2:=jH hL
 have HBd:=jH (And.intro bM bL);clear hT hM hL hKM hKL c6 c7 bM bL bT;refine(wpIn_wide (n:=2)).1 ?_;refine kAi [13] (FrC bx bt_ ot bm om bl ol cT (64*KM) cM (64*KL) cL zT) (by kernel_rfl) ?_;have HC:Hid (FrC bx bt_ ot bm om bl ol cT (64*KM) cM (64*KL) cL zT w1.drew):=jH ⟨q0,q1,q2,q3⟩;have HD:Hid (Below w1.heap.size w1 w1.drew):=jH (Below.refl _ w1).drew;clear q0 q1 q2 q3;generalize w1.drew=v0 at*;refine' kAa (i:=0) (v:=_) [1,2,3,10,11,13] (by kernel_rfl) rfl (by rfl) (by kernel_rfl) (fun _ _ _ h=>h) (by rfl) (by rintro w' ⟨c0,c1,c2,c3⟩;go_simp;try with_reducible rfl) HC.out ?_;simp only[jA,jB,jC,Act.put,jD,jE,jF];refine' kAa (i:=1) (v:=_) [2,3,10,11,13] (by kernel_rfl) rfl (by rfl) (by kernel_rfl) (fun _ _ _ h=>h) (by rfl) (by rintro w' ⟨c0,c1,c2,c3⟩;go_simp;try with_reducible rfl) HC.out ?_;simp only[jA,jB,jC,Act.put,jD,jE,jF];refine' kAa (i:=2) (v:= .pointer (some ⟨bt_,ot,none⟩)) [3,10,11,13] (by kernel_rfl) rfl (by rfl) (by kernel_rfl) (fun _ _ _ h=>h) (by rfl) (by rintro w' ⟨c0,c1,c2,c3⟩;have ha:=run_arrayAt (P:= Try.prog) w' 110 91 272 (some ⟨bt_,ot,none⟩) 272 cT Try.underlying110 jR;go_simp;try with_reducible rfl) HC.out ?_;simp only[jA,jB,jC,Act.put,jD,jE,jF];refine' kAa (i:=3) (v:=_) [10,11,13] (by kernel_rfl) rfl (by rfl) (by kernel_rfl) (fun _ _ _ h=>h) (by rfl) (by exact fun w' hC=>by refine kCp 110 (.tmp 53) ?_ bt_ ot ?_ (kAf kAb zT) (.array 272 91) hC.r Try.underlying110 rfl (by rw[hsT];kernel_rfl)<;>rfl) HC.out ?_;simp only[jA,jB,jC,Act.put,jD,jE,jF];refine' kAa (i:=4) (v:=_) [5,6,9,10,11,13] (by kernel_rfl) rfl (by rfl) (by kernel_rfl) (fun _ _ _ h=>h) (by rfl) (by rintro w' ⟨c0,c1,c2,c3⟩;go_simp;try with_reducible rfl) HC.out ?_;simp only[jA,jB,jC,Act.put,jD,jE,jF];refine' kAa (i:=5) (v:=_) [6,9,10,11,13] (by kernel_rfl) rfl (by rfl) (by kernel_rfl) (fun _ _ _ h=>h) (by rfl) (by rintro w' ⟨c0,c1,c2,c3⟩;go_simp;try with_reducible rfl) HC.out ?_;simp only[jA,jB,jC,Act.put,jD,jE,jF];refine' kAa (i:=7) (v:=_) [8,9,10,11,13] (by kernel_rfl) rfl (by rfl) (by kernel_rfl) (fun _ _ _ h=>h) (by rfl) (by rintro w' ⟨c0,c1,c2,c3⟩;go_simp;try with_reducible rfl) HC.out ?_;simp only[jA,jB,jC,Act.put,jD,jE,jF];refine' kAa (i:=8) (v:=_) [9,10,11,13] (by kernel_rfl) rfl (by rfl) (by kernel_rfl) (fun _ _ _ h=>h) (by rfl) (by rintro w' ⟨c0,c1,c2,c3⟩;go_simp;try with_reducible rfl) HC.out ?_;simp only[jA,jB,jC,Act.put,jD,jE,jF];have HB0:Hid (Below w1.heap.size w1 v0):=jH HD.out;refine kEm (i:=6) (i':=12) (by kernel_rfl) ?_ ?_;refine kA9 (i:=6) rfl (by rfl) (by rfl) (fun _ _=>trivial) (kBg 90 (.tmp 56) _ rfl (.slice (some ⟨bm,om,none⟩) (64*KM) cM) rfl (enters_of Try.func90 (by kernel_rfl) rfl)) (fun h=>by cases h) ?_;have hw1v:w1.heap.size≤v0.heap.size:=HB0.out.size;refine callsIn_wide.2 ?_;refine(VN.cut_walk v0 bm om cM KM zM (by omega) HBd.out.1.1 HBd.out.1.2 HM2.out (kAs HR1.out HB0.out jR) (Nat.lt_of_lt_of_le hbm HB0.out.size)).mono ?_;rintro e v1 ⟨am,cm,rfl,ho,hb⟩;refine⟨_,rfl,fun _=>HC.out.below hb,?_⟩;have HC:Hid (FrC bx bt_ ot bm om bl ol cT (64*KM) cM (64*KL) cL zT v1):=jH (HC.out.below hb);have HB0:Hid (Below w1.heap.size w1 v1):=jH (HB0.out.trans (hb.mono HB0.out.size));have Hm:Hid (kAg kAb 64 v1 am (VN.cksL zM KM)):=jH (kAx (B:=v0.heap.size) (m:=64) (E:=120) (c:=cm) (by rw[VN.cksL_length];exact ho) (fun l hl=>by rw[kAh (sz:=1) (fun _=>rfl)];obtain⟨q,hq,rfl⟩:=List.mem_map.1 hl;rw[VN.ckL_length zM KM q HM2.out (List.mem_range.1 hq)]));have HamB:Hid (∀x,am=some x→w1.heap.size≤x.block):=jH (fun x e=>by have:=(World.ownsRow.lt ho x.block (by rw[e];rfl)).1;omega);clear ho hb hw1v;simp only[jA,jB,jC,Act.put,jD,jE,jF];refine kEm (i:=9) (i':=12) (by kernel_rfl) ?_ ?_;refine kA9 (i:=9) rfl (by rfl) (by rfl) (fun _ _=>trivial) (kBg 91 (.tmp 59) _ rfl (.slice (some ⟨bl,ol,none⟩) (64*KL) cL) rfl (enters_of Try.func91 (by kernel_rfl) rfl)) (fun h=>by cases h) ?_;have hw1v:w1.heap.size≤v1.heap.size:=HB0.out.size;refine callsIn_wide.2 ?_;refine(cut_walk v1 bl ol cL KL zL (by omega) HBd.out.2.1 HBd.out.2.2 HL2.out (kAs HR2.out HB0.out jR) (Nat.lt_of_lt_of_le hbl HB0.out.size)).mono ?_;rintro e v2 ⟨al,cl,rfl,ho,hb⟩;refine⟨_,rfl,fun _=>HC.out.below hb,?_⟩;have HC:Hid (FrC bx bt_ ot bm om bl ol cT (64*KM) cM (64*KL) cL zT v2):=jH (HC.out.below hb);have HB0:Hid (Below w1.heap.size w1 v2):=jH (HB0.out.trans (hb.mono HB0.out.size));have Hm:Hid (kAg kAb 64 v2 am (VN.cksL zM KM)):=jH (Hm.out.below hb jR);have Hl:Hid (kAg val8 64 v2 al (cksL zL KL)):=jH (kAx (B:=v1.heap.size) (m:=64) (E:=119) (c:=cl) (by rw[cksL_length];exact ho) (fun l hl=>by rw[kAh (sz:=1) (fun _=>rfl)];obtain⟨q,hq,rfl⟩:=List.mem_map.1 hl;rw[ckL_length zL KL q HL2.out (List.mem_range.1 hq)]));have HalB:Hid (∀x,al=some x→w1.heap.size≤x.block):=jH (fun x e=>by have:=(World.ownsRow.lt ho x.block (by rw[e];rfl)).1;omega);clear ho hb hw1v;simp only[jA,jB,jC,Act.put,jD,jE,jF];refine kEm (i:=10) (i':=12) (by kernel_rfl) ?_ ?_;refine kCc (i:=10) (v:= .agg (zT.map kAb++[Value.slice am KM cm,Value.slice al KL cl]).toArray) (w':=v2) rfl (by rfl) (fun _ _=>trivial) (by rfl) (kB5 114 (.tmp 54) (.tmp 57) (.tmp 60) rfl (.agg (kAf kAb zT).toArray) (.slice am KM cm) (.slice al KL cl) _ rfl rfl rfl (kB1 _ zT HT2.out _ _ rfl rfl)) (fun _=>HC.out) ?_;simp only[jA,jB,jC,Act.put,jD,jE,jF];refine kEm (i:=11) (i':=12) (by kernel_rfl) ?_ ?_
 obtain⟨hb,hc⟩:Below v2.heap.size v2 (v2.alloc (.cells (zT.map kAb++[Value.slice am KM cm,Value.slice al KL cl]).toArray 114))∧(v2.alloc (.cells (zT.map kAb++[Value.slice am KM cm,Value.slice al KL cl]).toArray 114)).heap[v2.heap.size]? =some (.cells (zT.map kAb++[Value.slice am KM cm,Value.slice al KL cl]).toArray 114 (0,0)):=⟨(Below.refl _ _).alloc jR _,jN _ _⟩
 refine kCc (i:=11) (v:= .pointer (some ⟨v2.heap.size,0,none⟩)) (w':=v2.alloc (.cells (zT.map kAb++[Value.slice am KM cm,Value.slice al KL cl]).toArray 114)) rfl (by rfl) (fun _ _=>trivial) (by rfl) (by rfl) (fun _=>HC.out.below hb) ?_;generalize v2.alloc (.cells (zT.map kAb++[Value.slice am KM cm,Value.slice al KL cl]).toArray 114)=v3 at*;have hgs:w1.heap.size≤v2.heap.size:=HB0.out.size;have HC:Hid (FrC bx bt_ ot bm om bl ol cT (64*KM) cM (64*KL) cL zT v3):=jH (HC.out.below hb);have HB0:Hid (Below w1.heap.size w1 v3):=jH (HB0.out.trans (hb.mono HB0.out.size));have Hm:Hid (kAg kAb 64 v3 am (VN.cksL zM KM)):=jH (Hm.out.below hb jR);have Hl:Hid (kAg val8 64 v3 al (cksL zL KL)):=jH (Hl.out.below hb jR)
 obtain⟨g,hg⟩:∃g,g=v2.heap.size:=⟨_,rfl⟩
 rw[←hg]at hc hgs ⊢;have Hg:=jH (And.intro hc hgs);clear hc hgs hb hg;simp only[jA,jB,jC,Act.put,jD,jE,jF];refine kAk (i:=12) (by kernel_rfl) ?_;obtain⟨hb,hc,hz⟩:=kCk v3 (.pointer none) 26;refine kCc (i:=12) (v:= .pointer (some ⟨v3.heap.size,0,none⟩)) (w':=v3.alloc (.cells #[.pointer none] 26)) rfl (by rfl) (fun _ _=>trivial) (by rfl) (by kernel_rfl) (fun _=>HC.out.below hb) ?_;generalize v3.alloc (.cells #[.pointer none] 26)=v4 at*;have hws:w1.heap.size≤v3.heap.size:=HB0.out.size;have HC:Hid (FrC bx bt_ ot bm om bl ol cT (64*KM) cM (64*KL) cL zT v4):=jH (HC.out.below hb);have HB0:Hid (Below w1.heap.size w1 v4):=jH (HB0.out.trans (hb.mono HB0.out.size));have Hm:Hid (kAg kAb 64 v4 am (VN.cksL zM KM)):=jH (Hm.out.below hb jR);have Hl:Hid (kAg val8 64 v4 al (cksL zL KL)):=jH (Hl.out.below hb jR);have Hg:Hid (v4.heap[g]? =some (.cells (zT.map kAb++[Value.slice am KM cm,Value.slice al KL cl]).toArray 114 (0,0))∧w1.heap.size≤g):=jH ⟨(hb.block g (jL Hg.out.1)).trans Hg.out.1,Hg.out.2⟩
 obtain⟨bt,hbt⟩:∃bt,bt=v3.heap.size:=⟨_,rfl⟩
 rw[←hbt]at hc ⊢;have Hb:=jH (And.intro hc (show w1.heap.size≤bt by rw[hbt];exact hws));clear hc hz hb hbt hws;simp only[jA,jB,jC,Act.put,jD,jE,jF];refine kAk (i:=13) (by kernel_rfl) ?_;refine kEe (i:=13) (w':=v4.setRow bt #[.pointer (some ⟨g,0,none⟩)]) rfl (by rfl) (fun _ _=>trivial) (by rfl) (kA6 26 (.tmp 4) (.tmp 62) rfl bt (.pointer (some ⟨g,0,none⟩)) rfl rfl rfl 26 _ Hb.out.1 (by kernel_rfl)) (fun h=>absurd (by simp) h) ?_;simp only[jA,jB,jC,Act.put,jD,jE,jF]
 obtain⟨v9,hv9⟩:∃v9,v9=v4:=⟨_,rfl⟩
 rw[←hv9]at HC HB0 Hm Hl Hb Hg ⊢;clear hv9;refine⟨by kernel_rfl,?_⟩
 rotate_left
 obtain⟨hb,hc,hz⟩:=kCk v2 (.pointer none) 26;refine kCc (i:=12) (v:= .pointer (some ⟨v2.heap.size,0,none⟩)) (w':=v2.alloc (.cells #[.pointer none] 26)) rfl (by rfl) (fun _ _=>trivial) (by rfl) (by kernel_rfl) (fun _=>HC.out.below hb) ?_;generalize v2.alloc (.cells #[.pointer none] 26)=v5 at*;have hws:w1.heap.size≤v2.heap.size:=HB0.out.size;have HC:Hid (FrC bx bt_ ot bm om bl ol cT (64*KM) cM (64*KL) cL zT v5):=jH (HC.out.below hb);have HB0:Hid (Below w1.heap.size w1 v5):=jH (HB0.out.trans (hb.mono HB0.out.size));have Hm:Hid (kAg kAb 64 v5 am (VN.cksL zM KM)):=jH (Hm.out.below hb jR);have Hl:Hid (kAg val8 64 v5 al (cksL zL KL)):=jH (Hl.out.below hb jR)
 obtain⟨bt,hbt⟩:∃bt,bt=v2.heap.size:=⟨_,rfl⟩
 rw[←hbt]at hc ⊢;have Hb:=jH (And.intro hc (show w1.heap.size≤bt by rw[hbt];exact hws));clear hc hz hb hbt hws;simp only[jA,jB,jC,Act.put,jD,jE,jF];refine kAk (i:=11) (by kernel_rfl) ?_
 obtain⟨hb,hc⟩:Below v5.heap.size v5 (v5.alloc (.cells (zT.map kAb++[Value.slice am KM cm,Value.slice al KL cl]).toArray 114))∧(v5.alloc (.cells (zT.map kAb++[Value.slice am KM cm,Value.slice al KL cl]).toArray 114)).heap[v5.heap.size]? =some (.cells (zT.map kAb++[Value.slice am KM cm,Value.slice al KL cl]).toArray 114 (0,0)):=⟨(Below.refl _ _).alloc jR _,jN _ _⟩
 refine kCc (i:=11) (v:= .pointer (some ⟨v5.heap.size,0,none⟩)) (w':=v5.alloc (.cells (zT.map kAb++[Value.slice am KM cm,Value.slice al KL cl]).toArray 114)) rfl (by rfl) (fun _ _=>trivial) (by rfl) (by rfl) (fun _=>HC.out.below hb) ?_;generalize v5.alloc (.cells (zT.map kAb++[Value.slice am KM cm,Value.slice al KL cl]).toArray 114)=v6 at*;have hgs:w1.heap.size≤v5.heap.size:=HB0.out.size;have HC:Hid (FrC bx bt_ ot bm om bl ol cT (64*KM) cM (64*KL) cL zT v6):=jH (HC.out.below hb);have HB0:Hid (Below w1.heap.size w1 v6):=jH (HB0.out.trans (hb.mono HB0.out.size));have Hm:Hid (kAg kAb 64 v6 am (VN.cksL zM KM)):=jH (Hm.out.below hb jR);have Hl:Hid (kAg val8 64 v6 al (cksL zL KL)):=jH (Hl.out.below hb jR);have Hb:Hid (v6.heap[bt]? =some (.cells #[.pointer none] 26 (0,0))∧w1.heap.size≤bt):=jH ⟨(hb.block bt (jL Hb.out.1)).trans Hb.out.1,Hb.out.2⟩
 obtain⟨g,hg⟩:∃g,g=v5.heap.size:=⟨_,rfl⟩
 rw[←hg]at hc hgs ⊢;have Hg:=jH (And.intro hc hgs);clear hc hgs hb hg;simp only[jA,jB,jC,Act.put,jD,jE,jF];refine kAk (i:=13) (by kernel_rfl) ?_;refine kEe (i:=13) (w':=v6.setRow bt #[.pointer (some ⟨g,0,none⟩)]) rfl (by rfl) (fun _ _=>trivial) (by rfl) (kA6 26 (.tmp 4) (.tmp 62) rfl bt (.pointer (some ⟨g,0,none⟩)) rfl rfl rfl 26 _ Hb.out.1 (by kernel_rfl)) (fun h=>absurd (by simp) h) ?_;simp only[jA,jB,jC,Act.put,jD,jE,jF]
 obtain⟨v9,hv9⟩:∃v9,v9=v6:=⟨_,rfl⟩
 rw[←hv9]at HC HB0 Hm Hl Hb Hg ⊢;clear hv9;refine⟨by kernel_rfl,?_⟩
 rotate_left
 obtain⟨hb,hc,hz⟩:=kCk v2 (.pointer none) 26;refine kCc (i:=12) (v:= .pointer (some ⟨v2.heap.size,0,none⟩)) (w':=v2.alloc (.cells #[.pointer none] 26)) rfl (by rfl) (fun _ _=>trivial) (by rfl) (by kernel_rfl) (fun _=>HC.out.below hb) ?_;generalize v2.alloc (.cells #[.pointer none] 26)=v7 at*;have hws:w1.heap.size≤v2.heap.size:=HB0.out.size;have HC:Hid (FrC bx bt_ ot bm om bl ol cT (64*KM) cM (64*KL) cL zT v7):=jH (HC.out.below hb);have HB0:Hid (Below w1.heap.size w1 v7):=jH (HB0.out.trans (hb.mono HB0.out.size));have Hm:Hid (kAg kAb 64 v7 am (VN.cksL zM KM)):=jH (Hm.out.below hb jR);have Hl:Hid (kAg val8 64 v7 al (cksL zL KL)):=jH (Hl.out.below hb jR)
 obtain⟨bt,hbt⟩:∃bt,bt=v2.heap.size:=⟨_,rfl⟩
 rw[←hbt]at hc ⊢;have Hb:=jH (And.intro hc (show w1.heap.size≤bt by rw[hbt];exact hws));clear hc hz hb hbt hws;simp only[jA,jB,jC,Act.put,jD,jE,jF];refine kAk (i:=10) (by kernel_rfl) ?_;refine kCc (i:=10) (v:= .agg (zT.map kAb++[Value.slice am KM cm,Value.slice al KL cl]).toArray) (w':=v7) rfl (by rfl) (fun _ _=>trivial) (by rfl) (kB5 114 (.tmp 54) (.tmp 57) (.tmp 60) rfl (.agg (kAf kAb zT).toArray) (.slice am KM cm) (.slice al KL cl) _ rfl rfl rfl (kB1 _ zT HT2.out _ _ rfl rfl)) (fun _=>HC.out) ?_;simp only[jA,jB,jC,Act.put,jD,jE,jF];refine kAk (i:=11) (by kernel_rfl) ?_
 obtain⟨hb,hc⟩:Below v7.heap.size v7 (v7.alloc (.cells (zT.map kAb++[Value.slice am KM cm,Value.slice al KL cl]).toArray 114))∧(v7.alloc (.cells (zT.map kAb++[Value.slice am KM cm,Value.slice al KL cl]).toArray 114)).heap[v7.heap.size]? =some (.cells (zT.map kAb++[Value.slice am KM cm,Value.slice al KL cl]).toArray 114 (0,0)):=⟨(Below.refl _ _).alloc jR _,jN _ _⟩
 refine kCc (i:=11) (v:= .pointer (some ⟨v7.heap.size,0,none⟩)) (w':=v7.alloc (.cells (zT.map kAb++[Value.slice am KM cm,Value.slice al KL cl]).toArray 114)) rfl (by rfl) (fun _ _=>trivial) (by rfl) (by rfl) (fun _=>HC.out.below hb) ?_;generalize v7.alloc (.cells (zT.map kAb++[Value.slice am KM cm,Value.slice al KL cl]).toArray 114)=v8 at*;have hgs:w1.heap.size≤v7.heap.size:=HB0.out.size;have HC:Hid (FrC bx bt_ ot bm om bl ol cT (64*KM) cM (64*KL) cL zT v8):=jH (HC.out.below hb);have HB0:Hid (Below w1.heap.size w1 v8):=jH (HB0.out.trans (hb.mono HB0.out.size));have Hm:Hid (kAg kAb 64 v8 am (VN.cksL zM KM)):=jH (Hm.out.below hb jR);have Hl:Hid (kAg val8 64 v8 al (cksL zL KL)):=jH (Hl.out.below hb jR);have Hb:Hid (v8.heap[bt]? =some (.cells #[.pointer none] 26 (0,0))∧w1.heap.size≤bt):=jH ⟨(hb.block bt (jL Hb.out.1)).trans Hb.out.1,Hb.out.2⟩
 obtain⟨g,hg⟩:∃g,g=v7.heap.size:=⟨_,rfl⟩
 rw[←hg]at hc hgs ⊢;have Hg:=jH (And.intro hc hgs);clear hc hgs hb hg;simp only[jA,jB,jC,Act.put,jD,jE,jF];refine kAk (i:=13) (by kernel_rfl) ?_;refine kEe (i:=13) (w':=v8.setRow bt #[.pointer (some ⟨g,0,none⟩)]) rfl (by rfl) (fun _ _=>trivial) (by rfl) (kA6 26 (.tmp 4) (.tmp 62) rfl bt (.pointer (some ⟨g,0,none⟩)) rfl rfl rfl 26 _ Hb.out.1 (by kernel_rfl)) (fun h=>absurd (by simp) h) ?_;simp only[jA,jB,jC,Act.put,jD,jE,jF]
 obtain⟨v9,hv9⟩:∃v9,v9=v8:=⟨_,rfl⟩
 rw[←hv9]at HC HB0 Hm Hl Hb Hg ⊢;clear hv9;refine⟨by kernel_rfl,?_⟩
 rotate_left
 obtain⟨hb,hc,hz⟩:=kCk v1 (.pointer none) 26;refine kCc (i:=12) (v:= .pointer (some ⟨v1.heap.size,0,none⟩)) (w':=v1.alloc (.cells #[.pointer none] 26)) rfl (by rfl) (fun _ _=>trivial) (by rfl) (by kernel_rfl) (fun _=>HC.out.below hb) ?_;generalize v1.alloc (.cells #[.pointer none] 26)=v9 at*;have hws:w1.heap.size≤v1.heap.size:=HB0.out.size;have HC:Hid (FrC bx bt_ ot bm om bl ol cT (64*KM) cM (64*KL) cL zT v9):=jH (HC.out.below hb);have HB0:Hid (Below w1.heap.size w1 v9):=jH (HB0.out.trans (hb.mono HB0.out.size));have Hm:Hid (kAg kAb 64 v9 am (VN.cksL zM KM)):=jH (Hm.out.below hb jR)
 obtain⟨bt,hbt⟩:∃bt,bt=v1.heap.size:=⟨_,rfl⟩
 rw[←hbt]at hc ⊢;have Hb:=jH (And.intro hc (show w1.heap.size≤bt by rw[hbt];exact hws));clear hc hz hb hbt hws;simp only[jA,jB,jC,Act.put,jD,jE,jF];refine kAk (i:=9) (by kernel_rfl) ?_;refine kA9 (i:=9) rfl (by rfl) (by rfl) (fun _ _=>trivial) (kBg 91 (.tmp 59) _ rfl (.slice (some ⟨bl,ol,none⟩) (64*KL) cL) rfl (enters_of Try.func91 (by kernel_rfl) rfl)) (fun h=>by cases h) ?_;have hw1v:w1.heap.size≤v9.heap.size:=HB0.out.size;refine callsIn_wide.2 ?_;refine(cut_walk v9 bl ol cL KL zL (by omega) HBd.out.2.1 HBd.out.2.2 HL2.out (kAs HR2.out HB0.out jR) (Nat.lt_of_lt_of_le hbl HB0.out.size)).mono ?_;rintro e v10 ⟨al,cl,rfl,ho,hb⟩;refine⟨_,rfl,fun _=>HC.out.below hb,?_⟩;have HC:Hid (FrC bx bt_ ot bm om bl ol cT (64*KM) cM (64*KL) cL zT v10):=jH (HC.out.below hb);have HB0:Hid (Below w1.heap.size w1 v10):=jH (HB0.out.trans (hb.mono HB0.out.size));have Hm:Hid (kAg kAb 64 v10 am (VN.cksL zM KM)):=jH (Hm.out.below hb jR);have Hb:Hid (v10.heap[bt]? =some (.cells #[.pointer none] 26 (0,0))∧w1.heap.size≤bt):=jH ⟨(hb.block bt (jL Hb.out.1)).trans Hb.out.1,Hb.out.2⟩;have Hl:Hid (kAg val8 64 v10 al (cksL zL KL)):=jH (kAx (B:=v9.heap.size) (m:=64) (E:=119) (c:=cl) (by rw[cksL_length];exact ho) (fun l hl=>by rw[kAh (sz:=1) (fun _=>rfl)];obtain⟨q,hq,rfl⟩:=List.mem_map.1 hl;rw[ckL_length zL KL q HL2.out (List.mem_range.1 hq)]));have HalB:Hid (∀x,al=some x→w1.heap.size≤x.block):=jH (fun x e=>by have:=(World.ownsRow.lt ho x.block (by rw[e];rfl)).1;omega);clear ho hb hw1v;simp only[jA,jB,jC,Act.put,jD,jE,jF];refine kAk (i:=10) (by kernel_rfl) ?_;refine kCc (i:=10) (v:= .agg (zT.map kAb++[Value.slice am KM cm,Value.slice al KL cl]).toArray) (w':=v10) rfl (by rfl) (fun _ _=>trivial) (by rfl) (kB5 114 (.tmp 54) (.tmp 57) (.tmp 60) rfl (.agg (kAf kAb zT).toArray) (.slice am KM cm) (.slice al KL cl) _ rfl rfl rfl (kB1 _ zT HT2.out _ _ rfl rfl)) (fun _=>HC.out) ?_;simp only[jA,jB,jC,Act.put,jD,jE,jF];refine kAk (i:=11) (by kernel_rfl) ?_
 obtain⟨hb,hc⟩:Below v10.heap.size v10 (v10.alloc (.cells (zT.map kAb++[Value.slice am KM cm,Value.slice al KL cl]).toArray 114))∧(v10.alloc (.cells (zT.map kAb++[Value.slice am KM cm,Value.slice al KL cl]).toArray 114)).heap[v10.heap.size]? =some (.cells (zT.map kAb++[Value.slice am KM cm,Value.slice al KL cl]).toArray 114 (0,0)):=⟨(Below.refl _ _).alloc jR _,jN _ _⟩
 refine kCc (i:=11) (v:= .pointer (some ⟨v10.heap.size,0,none⟩)) (w':=v10.alloc (.cells (zT.map kAb++[Value.slice am KM cm,Value.slice al KL cl]).toArray 114)) rfl (by rfl) (fun _ _=>trivial) (by rfl) (by rfl) (fun _=>HC.out.below hb) ?_;generalize v10.alloc (.cells (zT.map kAb++[Value.slice am KM cm,Value.slice al KL cl]).toArray 114)=v11 at*;have hgs:w1.heap.size≤v10.heap.size:=HB0.out.size;have HC:Hid (FrC bx bt_ ot bm om bl ol cT (64*KM) cM (64*KL) cL zT v11):=jH (HC.out.below hb);have HB0:Hid (Below w1.heap.size w1 v11):=jH (HB0.out.trans (hb.mono HB0.out.size));have Hm:Hid (kAg kAb 64 v11 am (VN.cksL zM KM)):=jH (Hm.out.below hb jR);have Hl:Hid (kAg val8 64 v11 al (cksL zL KL)):=jH (Hl.out.below hb jR);have Hb:Hid (v11.heap[bt]? =some (.cells #[.pointer none] 26 (0,0))∧w1.heap.size≤bt):=jH ⟨(hb.block bt (jL Hb.out.1)).trans Hb.out.1,Hb.out.2⟩
 obtain⟨g,hg⟩:∃g,g=v10.heap.size:=⟨_,rfl⟩
 rw[←hg]at hc hgs ⊢;have Hg:=jH (And.intro hc hgs);clear hc hgs hb hg;simp only[jA,jB,jC,Act.put,jD,jE,jF];refine kAk (i:=13) (by kernel_rfl) ?_;refine kEe (i:=13) (w':=v11.setRow bt #[.pointer (some ⟨g,0,none⟩)]) rfl (by rfl) (fun _ _=>trivial) (by rfl) (kA6 26 (.tmp 4) (.tmp 62) rfl bt (.pointer (some ⟨g,0,none⟩)) rfl rfl rfl 26 _ Hb.out.1 (by kernel_rfl)) (fun h=>absurd (by simp) h) ?_;simp only[jA,jB,jC,Act.put,jD,jE,jF]
 obtain⟨v9,hv9⟩:∃v9,v9=v11:=⟨_,rfl⟩
 rw[←hv9]at HC HB0 Hm Hl Hb Hg ⊢;clear hv9;refine⟨by kernel_rfl,?_⟩
 rotate_left
 obtain⟨hb,hc,hz⟩:=kCk v0 (.pointer none) 26;refine kCc (i:=12) (v:= .pointer (some ⟨v0.heap.size,0,none⟩)) (w':=v0.alloc (.cells #[.pointer none] 26)) rfl (by rfl) (fun _ _=>trivial) (by rfl) (by kernel_rfl) (fun _=>HC.out.below hb) ?_;generalize v0.alloc (.cells #[.pointer none] 26)=v12 at*;have hws:w1.heap.size≤v0.heap.size:=HB0.out.size;have HC:Hid (FrC bx bt_ ot bm om bl ol cT (64*KM) cM (64*KL) cL zT v12):=jH (HC.out.below hb);have HB0:Hid (Below w1.heap.size w1 v12):=jH (HB0.out.trans (hb.mono HB0.out.size))
 obtain⟨bt,hbt⟩:∃bt,bt=v0.heap.size:=⟨_,rfl⟩
 rw[←hbt]at hc ⊢;have Hb:=jH (And.intro hc (show w1.heap.size≤bt by rw[hbt];exact hws));clear hc hz hb hbt hws;simp only[jA,jB,jC,Act.put,jD,jE,jF];refine kAk (i:=6) (by kernel_rfl) ?_;refine kA9 (i:=6) rfl (by rfl) (by rfl) (fun _ _=>trivial) (kBg 90 (.tmp 56) _ rfl (.slice (some ⟨bm,om,none⟩) (64*KM) cM) rfl (enters_of Try.func90 (by kernel_rfl) rfl)) (fun h=>by cases h) ?_;have hw1v:w1.heap.size≤v12.heap.size:=HB0.out.size;refine callsIn_wide.2 ?_;refine(VN.cut_walk v12 bm om cM KM zM (by omega) HBd.out.1.1 HBd.out.1.2 HM2.out (kAs HR1.out HB0.out jR) (Nat.lt_of_lt_of_le hbm HB0.out.size)).mono ?_;rintro e v13 ⟨am,cm,rfl,ho,hb⟩;refine⟨_,rfl,fun _=>HC.out.below hb,?_⟩;have HC:Hid (FrC bx bt_ ot bm om bl ol cT (64*KM) cM (64*KL) cL zT v13):=jH (HC.out.below hb);have HB0:Hid (Below w1.heap.size w1 v13):=jH (HB0.out.trans (hb.mono HB0.out.size));have Hb:Hid (v13.heap[bt]? =some (.cells #[.pointer none] 26 (0,0))∧w1.heap.size≤bt):=jH ⟨(hb.block bt (jL Hb.out.1)).trans Hb.out.1,Hb.out.2⟩;have Hm:Hid (kAg kAb 64 v13 am (VN.cksL zM KM)):=jH (kAx (B:=v12.heap.size) (m:=64) (E:=120) (c:=cm) (by rw[VN.cksL_length];exact ho) (fun l hl=>by rw[kAh (sz:=1) (fun _=>rfl)];obtain⟨q,hq,rfl⟩:=List.mem_map.1 hl;rw[VN.ckL_length zM KM q HM2.out (List.mem_range.1 hq)]));have HamB:Hid (∀x,am=some x→w1.heap.size≤x.block):=jH (fun x e=>by have:=(World.ownsRow.lt ho x.block (by rw[e];rfl)).1;omega);clear ho hb hw1v;simp only[jA,jB,jC,Act.put,jD,jE,jF];refine kAk (i:=9) (by kernel_rfl) ?_;refine kA9 (i:=9) rfl (by rfl) (by rfl) (fun _ _=>trivial) (kBg 91 (.tmp 59) _ rfl (.slice (some ⟨bl,ol,none⟩) (64*KL) cL) rfl (enters_of Try.func91 (by kernel_rfl) rfl)) (fun h=>by cases h) ?_;have hw1v:w1.heap.size≤v13.heap.size:=HB0.out.size;refine callsIn_wide.2 ?_;refine(cut_walk v13 bl ol cL KL zL (by omega) HBd.out.2.1 HBd.out.2.2 HL2.out (kAs HR2.out HB0.out jR) (Nat.lt_of_lt_of_le hbl HB0.out.size)).mono ?_;rintro e v14 ⟨al,cl,rfl,ho,hb⟩;refine⟨_,rfl,fun _=>HC.out.below hb,?_⟩;have HC:Hid (FrC bx bt_ ot bm om bl ol cT (64*KM) cM (64*KL) cL zT v14):=jH (HC.out.below hb);have HB0:Hid (Below w1.heap.size w1 v14):=jH (HB0.out.trans (hb.mono HB0.out.size));have Hm:Hid (kAg kAb 64 v14 am (VN.cksL zM KM)):=jH (Hm.out.below hb jR);have Hb:Hid (v14.heap[bt]? =some (.cells #[.pointer none] 26 (0,0))∧w1.heap.size≤bt):=jH ⟨(hb.block bt (jL Hb.out.1)).trans Hb.out.1,Hb.out.2⟩;have Hl:Hid (kAg val8 64 v14 al (cksL zL KL)):=jH (kAx (B:=v13.heap.size) (m:=64) (E:=119) (c:=cl) (by rw[cksL_length];exact ho) (fun l hl=>by rw[kAh (sz:=1) (fun _=>rfl)];obtain⟨q,hq,rfl⟩:=List.mem_map.1 hl;rw[ckL_length zL KL q HL2.out (List.mem_range.1 hq)]));have HalB:Hid (∀x,al=some x→w1.heap.size≤x.block):=jH (fun x e=>by have:=(World.ownsRow.lt ho x.block (by rw[e];rfl)).1;omega);clear ho hb hw1v;simp only[jA,jB,jC,Act.put,jD,jE,jF];refine kAk (i:=10) (by kernel_rfl) ?_;refine kCc (i:=10) (v:= .agg (zT.map kAb++[Value.slice am KM cm,Value.slice al KL cl]).toArray) (w':=v14) rfl (by rfl) (fun _ _=>trivial) (by rfl) (kB5 114 (.tmp 54) (.tmp 57) (.tmp 60) rfl (.agg (kAf kAb zT).toArray) (.slice am KM cm) (.slice al KL cl) _ rfl rfl rfl (kB1 _ zT HT2.out _ _ rfl rfl)) (fun _=>HC.out) ?_;simp only[jA,jB,jC,Act.put,jD,jE,jF];refine kAk (i:=11) (by kernel_rfl) ?_
 obtain⟨hb,hc⟩:Below v14.heap.size v14 (v14.alloc (.cells (zT.map kAb++[Value.slice am KM cm,Value.slice al KL cl]).toArray 114))∧(v14.alloc (.cells (zT.map kAb++[Value.slice am KM cm,Value.slice al KL cl]).toArray 114)).heap[v14.heap.size]? =some (.cells (zT.map kAb++[Value.slice am KM cm,Value.slice al KL cl]).toArray 114 (0,0)):=⟨(Below.refl _ _).alloc jR _,jN _ _⟩
 refine kCc (i:=11) (v:= .pointer (some ⟨v14.heap.size,0,none⟩)) (w':=v14.alloc (.cells (zT.map kAb++[Value.slice am KM cm,Value.slice al KL cl]).toArray 114)) rfl (by rfl) (fun _ _=>trivial) (by rfl) (by rfl) (fun _=>HC.out.below hb) ?_;generalize v14.alloc (.cells (zT.map kAb++[Value.slice am KM cm,Value.slice al KL cl]).toArray 114)=v15 at*;have hgs:w1.heap.size≤v14.heap.size:=HB0.out.size;have HC:Hid (FrC bx bt_ ot bm om bl ol cT (64*KM) cM (64*KL) cL zT v15):=jH (HC.out.below hb);have HB0:Hid (Below w1.heap.size w1 v15):=jH (HB0.out.trans (hb.mono HB0.out.size));have Hm:Hid (kAg kAb 64 v15 am (VN.cksL zM KM)):=jH (Hm.out.below hb jR);have Hl:Hid (kAg val8 64 v15 al (cksL zL KL)):=jH (Hl.out.below hb jR);have Hb:Hid (v15.heap[bt]? =some (.cells #[.pointer none] 26 (0,0))∧w1.heap.size≤bt):=jH ⟨(hb.block bt (jL Hb.out.1)).trans Hb.out.1,Hb.out.2⟩
 obtain⟨g,hg⟩:∃g,g=v14.heap.size:=⟨_,rfl⟩
 rw[←hg]at hc hgs ⊢;have Hg:=jH (And.intro hc hgs);clear hc hgs hb hg;simp only[jA,jB,jC,Act.put,jD,jE,jF];refine kAk (i:=13) (by kernel_rfl) ?_;refine kEe (i:=13) (w':=v15.setRow bt #[.pointer (some ⟨g,0,none⟩)]) rfl (by rfl) (fun _ _=>trivial) (by rfl) (kA6 26 (.tmp 4) (.tmp 62) rfl bt (.pointer (some ⟨g,0,none⟩)) rfl rfl rfl 26 _ Hb.out.1 (by kernel_rfl)) (fun h=>absurd (by simp) h) ?_;simp only[jA,jB,jC,Act.put,jD,jE,jF]
 obtain⟨v9,hv9⟩:∃v9,v9=v15:=⟨_,rfl⟩
 rw[←hv9]at HC HB0 Hm Hl Hb Hg ⊢;clear hv9;refine⟨by kernel_rfl,?_⟩
 rotate_left
 all_goals
  have hgb:g≠bt:=fun e=>by
   have h1:=Hg.out.1;rw[e,Hb.out.1]at h1;simp only[Option.some.injEq,Obj.cells.injEq]at h1;have:=congrArg Array.size h1.1;simp at this
  have HTr:Hid (kFt zT zM zL=⟨zT,VN.cksL zM KM,cksL zL KL⟩):=jH (by unfold kFt;rw[HM2.out,HL2.out,show 64*KM / 64=KM by omega,show 64*KL / 64=KL by omega])
  obtain⟨W,hW⟩:∃W,W=v9.setRow bt #[.pointer (some ⟨g,0,none⟩)]:=⟨_,rfl⟩
  have hWb:W.heap[bt]? =some (.cells #[.pointer (some ⟨g,0,none⟩)] 26 (0,0)):=by rw[hW];exact setRow_heap v9 bt _ _ _ _ Hb.out.1
  have HFr:Hid (kGd W g bt ⟨zT,VN.cksL zM KM,cksL zL KL⟩):=jH (by
   refine⟨⟨am,cm,al,cl,?_,?_,?_⟩,HT2.out,fun m hm=> ?_,fun l hl=> ?_,by rw[VN.cksL_length];omega,by rw[cksL_length];omega,kG1 hWb⟩
   ·rw[hW,setRow_other v9 bt g _ hgb,Hg.out.1];simp[kD7,VN.cksL_length,cksL_length]
   ·rw[hW];exact kCf Hb.out.1 _ Hm.out (fun l x hx=>by rw[kA4]at hx;obtain⟨y, -,rfl⟩:=List.mem_map.1 hx;exact fun h=>by cases h)
   ·rw[hW];exact kCf Hb.out.1 _ Hl.out (fun l x hx=>by rw[kA7]at hx;obtain⟨y, -,rfl⟩:=List.mem_map.1 hx;exact fun h=>by unfold val8 at h;cases h)
   ·obtain⟨q,hq,rfl⟩:=List.mem_map.1 hm;exact VN.ckL_length zM KM q HM2.out (List.mem_range.1 hq)
   ·obtain⟨q,hq,rfl⟩:=List.mem_map.1 hl;exact ckL_length zL KL q HL2.out (List.mem_range.1 hq))
  have HFar:Hid (kBl 114 W g ⟨zT,VN.cksL zM KM,cksL zL KL⟩ w1.heap.size):=jH (by
   refine⟨Hg.out.2,am,cm,al,cl,?_,HamB.out,HalB.out⟩;rw[hW,setRow_other v9 bt g _ hgb,Hg.out.1]
   simp[kD7,VN.cksL_length,cksL_length])
  have HP:Hid (W.cell? ⟨bx,0,none⟩=some (.slice (some ⟨bt_,ot,none⟩) 272 cT)∧W.cell? ⟨bx,1,none⟩=some (.slice (some ⟨bm,om,none⟩) (64*KM) cM)):=jH (by
   rw[hW]
   exact⟨kGs Hb.out.1 _ HC.out.p0 (fun h=>by cases h),kGs Hb.out.1 _ HC.out.p1 (fun h=>by cases h)⟩)
  have HBW:Hid (Below w1.heap.size w1 W):=jH (by
   rw[hW]
   exact HB0.out.trans ⟨rfl,rfl,rfl,by rw[setRow_size];exact Nat.le_refl _,fun k hk=>setRow_other v9 bt k _ (by have:=Hb.out.2;omega)⟩)
  have HGs:=jH Hg.out.2;rw[←hW];clear hW hWb HC HB0 Hm Hl Hb Hg hgb
  go_upto_region 4 with(fail)
  refine wp_region_list ?_;refine kAc (v:= .func (.func 92) #[] #[.pointer (some ⟨bt,0,none⟩)]) (w':=W) rfl (by kernel_rfl) ?_;refine kAc (v:= .pointer (some ⟨W.heap.size,0,none⟩)) (w':=W.alloc (.cells #[.nilFunc] 173)) rfl (by kernel_rfl) ?_;refine wpList_store_one rfl 173 (.tmp 5) (.tmp 63) rfl W.heap.size rfl rfl 173 .nilFunc (jN W _) (by kernel_rfl) ?_;obtain⟨e1,e2, -⟩:=kHc W .nilFunc (.func (.func 92) #[] #[.pointer (some ⟨bt,0,none⟩)]) 173
  change wpList _ _ _ _ _ ((W.alloc (.cells #[.nilFunc] 173)).setRow W.heap.size #[.func (.func 92) #[] #[.pointer (some ⟨bt,0,none⟩)]])
  generalize (W.alloc (.cells #[.nilFunc] 173)).setRow W.heap.size #[.func (.func 92) #[] #[.pointer (some ⟨bt,0,none⟩)]]=W2 at*
  obtain⟨b5,hb5⟩:∃b5,b5=W.heap.size:=⟨_,rfl⟩
  rw[←hb5]at e2 ⊢;clear hb5;have HF2:=jH (HFr.out.below e1);have HFar2:=jH (HFar.out.below e1);have H5:=jH (kG1 e2)
  have kp:∀ {b o:Nat} {v:Value},W.cell? ⟨b,o,none⟩=some v→W2.cell? ⟨b,o,none⟩=some v:=fun {b o v} hc=>(e1.cell (p:=⟨b,o,none⟩) (World.block_lt_of_cell? W _ hc)).trans hc
  have HP2:=jH (And.intro (kp HP.out.1) (kp HP.out.2));have HBW2:Hid (Below w1.heap.size w1 W2):=jH (HBW.out.trans (e1.mono HBW.out.size));clear e1 e2 kp HFr HFar HP HBW W
  go_upto_region 6 with(fail)
  have HB12:Hid (Below w.heap.size w w1):=jH HB.out;have HBa:Hid (Below w.heap.size w W2):=jH (HB.out.trans (HBW2.out.mono HB.out.size));obtain⟨aL,cl2,c273,hbL⟩:=HF2.out.low;obtain⟨aM,cm2,c272,hbM⟩:=HF2.out.mid;have eqL:(cksL zL KL).length=KL:=cksL_length zL KL;have eqM:(VN.cksL zM KM).length=KM:=VN.cksL_length zM KM;simp only[eqL]at c273;simp only[eqM]at c272
  have HBL:=jH hbL;have HBM:=jH hbM;have HEL:=jH eqL;have HEM:=jH eqM
  have HOk:Hid (kCd zT zM zL↔kAq KL (fun _=>true) zM 0=some KL∧kAq KM (fun _=>true) zT 0=some KM∧UnL (fun a b=>decide (a=b)) (cksL zL KL) KL∧VN.UnL (fun a b=>decide (a=b)) (VN.cksL zM KM) KM):=jH (by
   have e1:zM.length / 64=KM:=by rw[HM2.out];omega
   have e2:zL.length / 64=KL:=by rw[HL2.out];omega
   constructor
   ·intro h
    have h1:=h.nm;have h2:=h.nt;have h3:=h.ul;have h4:=h.um
    rw[e2]at h1 h3;rw[e1]at h2 h4;exact⟨h1,h2,h3,h4⟩
   ·rintro⟨h1,h2,h3,h4⟩
    exact⟨HT2.out,by rw[HM2.out];omega,by rw[HL2.out];omega,by rw[HM2.out];omega,by rw[HL2.out];omega,by rw[e1];exact hKM2,by rw[e2];exact hKL2,by rw[e2];exact h1,by rw[e1];exact h2,by rw[e2];exact h3,by rw[e1];exact h4⟩)
  have N1:=jH (fun(q:Regrown)=>Go.Calls.regrown_of (kDt (Go.Sort.grow (redrawn W2 q.d) q.os) (some ⟨bm,om,none⟩) (64*KM) cM zM KL (fun _=>true) 92 #[.pointer (some ⟨bt,0,none⟩)] HM2.out (by omega) (by omega) HVM.out ((HRM1.out.below HBW2.out).below (below_regrown W2 q.d q.os)) (enters_of Try.func92 (by kernel_rfl) rfl)
   (fun x W hx _ hb=>kDu W g bt _ (HF2.out.below ((below_regrown W2 q.d q.os).trans (hb.mono (below_regrown W2 q.d q.os).size))) x (by show x<(cksL zL KL).length;rw[HEL.out];exact hx))))
  have U1:∀u:Bool,(u=true↔UnL (fun a b=>decide (a=b)) (cksL zL KL) KL)→Hid (∀q:Regrown,Calls Try.prog 97 #[.slice aL KL cl2] (Go.Sort.grow (redrawn W2 q.d) q.os) fun e w''=>e= .returned (.bool u)∧∃p:Regrown,w''=Go.Sort.grow (redrawn W2 p.d) p.os):=fun u hu=>jH (fun(q:Regrown)=>Go.Calls.regrown_of ((unlike_walk (Go.Sort.grow (redrawn W2 q.d) q.os) aL KL cl2 (cksL zL KL) HEL.out (by omega) HF2.out.ll (HBL.out.below (below_regrown W2 q.d q.os) jR)).mono (fun e w' h=>by
   rcases h with⟨rfl,hb,h⟩ | ⟨rfl,hb,h⟩
   ·rw[hu.2 h];exact⟨rfl,hb⟩
   ·cases u
    ·exact⟨rfl,hb⟩
    ·exact absurd (hu.1 rfl) h)))
  have U2:∀u:Bool,(u=true↔VN.UnL (fun a b=>decide (a=b)) (VN.cksL zM KM) KM)→Hid (∀q:Regrown,Calls Try.prog 98 #[.slice aM KM cm2] (Go.Sort.grow (redrawn W2 q.d) q.os) fun e w''=>e= .returned (.bool u)∧∃p:Regrown,w''=Go.Sort.grow (redrawn W2 p.d) p.os):=fun u hu=>jH (fun(q:Regrown)=>Go.Calls.regrown_of ((VN.unlike_walk (Go.Sort.grow (redrawn W2 q.d) q.os) aM KM cm2 (VN.cksL zM KM) HEM.out (by omega) HF2.out.ml (HBM.out.below (below_regrown W2 q.d q.os) jR)).mono (fun e w' h=>by
   rcases h with⟨rfl,hb,h⟩ | ⟨rfl,hb,h⟩
   ·rw[hu.2 h];exact⟨rfl,hb⟩
   ·cases u
    ·exact⟨rfl,hb⟩
    ·exact absurd (hu.1 rfl) h)))
  have k0:=fun d os=>cell_regrown HP2.out.1 d os
  have k1:=fun d os=>cell_regrown HP2.out.2 d os
  have k2:=fun d os=>cell_regrown HF2.out.ct d os
  have k3:=fun d os=>cell_regrown c273 d os
  have k4:=fun d os=>cell_regrown c272 d os
  have k5:=fun d os=>cell_regrown H5.out d os
  clear eqL eqM c273 c272 hbL hbM
  by_cases n1:kAq KL (fun _=>true) zM 0=some KL
  rotate_left
  ·rw[decide_eq_false n1]at N1;have HX:Hid (¬kCd zT zM zL):=jH (fun h=>n1 (HOk.out.1 h).1);clear n1 HOk U1 U2;refine wp_region_quiet_below (by kernel_rfl) (by kernel_rfl) ?_
   iterate 8 (go_big_quiet_step (fail))
   go_big_quiet_step (exact N1.out _)
   iterate 10 (go_big_quiet_step (fail))
   go_big_quiet_step (fail)
   iterate 7 (go_big_quiet_step (fail))
   go_big_quiet_step (fail)
   iterate 7 (go_big_quiet_step (fail))
   go_big_quiet_step (fail)
   iterate 2 (go_big_quiet_step (fail))
   refine wpQuiet_nil ?_;intro _ hw';obtain⟨⟨dq,osq⟩,hw''⟩:=hw';subst hw'';go_wp2
   go_ret2
   have hb:=below_regrown W2 dq osq;exact⟨HBa.out.trans (hb.mono HBa.out.size),.inl ⟨rfl,HX.out⟩⟩
  have HMid:Hid (∀m∈VN.cksL zM KM,∀k∈m,k<(cksL zL KL).length):=jH (fun m hm k hk=>by
   obtain⟨q,hq,rfl⟩:=List.mem_map.1 hm;rw[HEL.out]
   exact kD2 (Nat.zero_le _) n1 k (List.mem_of_mem_drop (List.mem_of_mem_take hk)))
  have N2:=jH (fun(q:Regrown)=>Go.Calls.regrown_of (kDt (Go.Sort.grow (redrawn W2 q.d) q.os) (some ⟨bt_,ot,none⟩) 272 cT zT KM (fun _=>true) 93 #[.pointer (some ⟨bt,0,none⟩),.pointer (some ⟨b5,0,none⟩)] HT2.out (by omega) (by omega) HVT.out ((HRT1.out.below HBW2.out).below (below_regrown W2 q.d q.os)) (enters_of Try.func93 (by kernel_rfl) rfl)
   (fun x W hx _ hb=>kFx W g bt b5 _ (HF2.out.below ((below_regrown W2 q.d q.os).trans (hb.mono (below_regrown W2 q.d q.os).size))) x (by show x<(VN.cksL zM KM).length;rw[HEM.out];exact hx) HMid.out
    ((hb.cell (p:=⟨b5,0,none⟩) (World.block_lt_of_cell? _ _ (k5 q.d q.os))).trans (k5 q.d q.os)))))
  rw[decide_eq_true n1]at N1
  by_cases n2:kAq KM (fun _=>true) zT 0=some KM
  rotate_left
  ·rw[decide_eq_false n2]at N2;have HX:Hid (¬kCd zT zM zL):=jH (fun h=>n2 (HOk.out.1 h).2.1);clear n1 n2 HOk U1 U2;refine wp_region_quiet_below (by kernel_rfl) (by kernel_rfl) ?_
   iterate 8 (go_big_quiet_step (fail))
   go_big_quiet_step (exact N1.out _)
   iterate 10 (go_big_quiet_step (fail))
   go_big_quiet_step (exact N2.out _)
   iterate 7 (go_big_quiet_step (fail))
   go_big_quiet_step (fail)
   iterate 7 (go_big_quiet_step (fail))
   go_big_quiet_step (fail)
   iterate 2 (go_big_quiet_step (fail))
   refine wpQuiet_nil ?_;intro _ hw';obtain⟨⟨dq,osq⟩,hw''⟩:=hw';subst hw'';go_wp2
   go_ret2
   have hb:=below_regrown W2 dq osq;exact⟨HBa.out.trans (hb.mono HBa.out.size),.inl ⟨rfl,HX.out⟩⟩
  rw[decide_eq_true n2]at N2
  by_cases n3:UnL (fun a b=>decide (a=b)) (cksL zL KL) KL
  rotate_left
  ·replace U1:=U1 false ⟨fun h=>absurd h (by simp),fun h=>absurd h n3⟩;have HX:Hid (¬kCd zT zM zL):=jH (fun h=>n3 (HOk.out.1 h).2.2.1);clear n1 n2 n3 HOk U2;refine wp_region_quiet_below (by kernel_rfl) (by kernel_rfl) ?_
   iterate 8 (go_big_quiet_step (fail))
   go_big_quiet_step (exact N1.out _)
   iterate 10 (go_big_quiet_step (fail))
   go_big_quiet_step (exact N2.out _)
   iterate 7 (go_big_quiet_step (fail))
   go_big_quiet_step (exact U1.out _)
   iterate 7 (go_big_quiet_step (fail))
   go_big_quiet_step (fail)
   iterate 2 (go_big_quiet_step (fail))
   refine wpQuiet_nil ?_;intro _ hw';obtain⟨⟨dq,osq⟩,hw''⟩:=hw';subst hw'';go_wp2
   go_ret2
   have hb:=below_regrown W2 dq osq;exact⟨HBa.out.trans (hb.mono HBa.out.size),.inl ⟨rfl,HX.out⟩⟩
  replace U1:=U1 true ⟨fun _=>n3,fun _=>rfl⟩
  by_cases n4:VN.UnL (fun a b=>decide (a=b)) (VN.cksL zM KM) KM
  rotate_left
  ·replace U2:=U2 false ⟨fun h=>absurd h (by simp),fun h=>absurd h n4⟩;have HX:Hid (¬kCd zT zM zL):=jH (fun h=>n4 (HOk.out.1 h).2.2.2);clear n1 n2 n3 n4 HOk;refine wp_region_quiet_below (by kernel_rfl) (by kernel_rfl) ?_
   iterate 8 (go_big_quiet_step (fail))
   go_big_quiet_step (exact N1.out _)
   iterate 10 (go_big_quiet_step (fail))
   go_big_quiet_step (exact N2.out _)
   iterate 7 (go_big_quiet_step (fail))
   go_big_quiet_step (exact U1.out _)
   iterate 7 (go_big_quiet_step (fail))
   go_big_quiet_step (exact U2.out _)
   iterate 2 (go_big_quiet_step (fail))
   refine wpQuiet_nil ?_;intro _ hw';obtain⟨⟨dq,osq⟩,hw''⟩:=hw';subst hw'';go_wp2
   go_ret2
   have hb:=below_regrown W2 dq osq;exact⟨HBa.out.trans (hb.mono HBa.out.size),.inl ⟨rfl,HX.out⟩⟩
  ·replace U2:=U2 true ⟨fun _=>n4,fun _=>rfl⟩;have HX:Hid (kCd zT zM zL):=jH (HOk.out.2 ⟨n1,n2,n3,n4⟩);clear n1 n2 n3 n4 HOk;refine wp_region_quiet_below (by kernel_rfl) (by kernel_rfl) ?_
   iterate 8 (go_big_quiet_step (fail))
   go_big_quiet_step (exact N1.out _)
   iterate 10 (go_big_quiet_step (fail))
   go_big_quiet_step (exact N2.out _)
   iterate 7 (go_big_quiet_step (fail))
   go_big_quiet_step (exact U1.out _)
   iterate 7 (go_big_quiet_step (fail))
   go_big_quiet_step (exact U2.out _)
   iterate 2 (go_big_quiet_step (fail))
   refine wpQuiet_nil ?_;intro _ hw';obtain⟨⟨dq,osq⟩,hw''⟩:=hw';subst hw'';have k6:=k2 dq osq;have hb:=below_regrown W2 dq osq;have HTf:=jH (HF2.out.tr.below hb jR);have HFf:=jH (HFar2.out.below hb);have HBf:=jH hb;clear hb;generalize Go.Sort.grow (redrawn W2 dq) osq=W9 at*;clear k0 k1 k2 k3 k4 k5;go_wp2
   go_ret2
   exact⟨HBa.out.trans (HBf.out.mono HBa.out.size),.inr ⟨HX.out,g,rfl,by have:=HB.out.size;have:=HGs.out;omega,by rw[HTr.out];exact HTf.out,by rw[HTr.out];exact HFf.out.mono HB.out.size⟩⟩
end Go.Proofs.Ytabbabkmojaoaaa
