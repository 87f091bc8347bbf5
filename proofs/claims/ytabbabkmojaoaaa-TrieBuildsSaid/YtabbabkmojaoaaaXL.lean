/- several texts in one: TRO LAT -/
import Derived.Test.YtabbabkmojaoaaaXC
import Derived.Test.YtabbabkmojaoaaaNQ
import Derived.Test.YtabbabkmojaoaaaNM
import Derived.Lib.QuietBelow
import Derived.Deep.QuietTactic
set_option linter.unusedVariables false
set_option linter.unusedSimpArgs false
set_option maxRecDepth 100000
set_option maxHeartbeats 16000000
namespace Go.Proofs.Ytabbabkmojaoaaa.VT
open Go.RowKit
def kDy (w:World) (a:Option Addr) (zs:List El):Prop:=∀i (h:i<zs.length),∃b o,a=some ⟨b,o,none⟩∧w.cell? ⟨b,o+i*2,none⟩=some (.int .i32 zs[i].1)∧w.cell? ⟨b,o+i*2+1,none⟩=some (.string zs[i].2)
theorem kDy.below {w w':World}{a:Option Addr}{zs:List El}(h:kDy w a zs)(hb:Below w.heap.size w w'):kDy w' a zs:=fun i hi=>by
 obtain⟨b,o,e,c,d⟩:=h i hi;exact⟨b,o,e,(hb.cell (World.block_lt_of_cell? w _ c)).trans c,(hb.cell (World.block_lt_of_cell? w _ d)).trans d⟩
theorem kDy.range {w:World}{b o:Nat}{zs:List El}(h:kDy w (some ⟨b,o,none⟩) zs):w.rangeAt b o (kAf val8 zs):=fun j v hv=>by
 have hj:=(List.getElem?_eq_some_iff.1 hv).1;rw[kBx]at hj;obtain⟨b',o',e,c,d⟩:=h (j / 2) (by omega);simp only[Option.some.injEq,Addr.mk.injEq,and_true]at e;obtain⟨rfl,rfl⟩:=e;obtain⟨x,y⟩:=kFf zs (j / 2) (by omega)
 rcases Nat.mod_two_eq_zero_or_one j with hm | hm
 ·have e:j=j / 2*2:=by omega
  rw[←e]at x c;rw[hv]at x;rw[c,←Option.some.inj x]
 ·have e:j=j / 2*2+1:=by omega
  rw[←e]at y;rw[Nat.add_assoc,←e]at d;rw[hv]at y;rw[d,←Option.some.inj y]
theorem kDy.of_range {w:World}{b o:Nat}{zs:List El}(h:w.rangeAt b o (kAf val8 zs)):kDy w (some ⟨b,o,none⟩) zs:=fun i hi=>by
 obtain⟨x,y⟩:=kFf zs i hi;refine⟨b,o,rfl,h _ _ x,?_⟩;rw[Nat.add_assoc];exact h _ _ y
theorem kHb {B n c:Nat}{E:TypeId}{w:World}{a:Option Addr}{zs:List El}(hl:zs.length=n)(h:kIb B E w a n c (kAf val8 zs)):kDy w a zs:=by
 rcases h.2 with⟨-,h0⟩ | ⟨g,cap,cur,e, -⟩
 ·intro i hi;omega
 ·simp only[Value.slice.injEq]at e;obtain⟨rfl, -, -⟩:=e;refine kDy.of_range (fun j v hv=> ?_);have hj:=(List.getElem?_eq_some_iff.1 hv).1;rw[Nat.zero_add,World.ownsRow.cellAt h j (by rw[kBx]at hj;omega)];exact hv
end Go.Proofs.Ytabbabkmojaoaaa.VT

namespace Go.Proofs.Ytabbabkmojaoaaa.VT
open Go.RowKit
attribute [local go_sem] Oper.semAt_some
def AkR (n:Nat) (w2:World) (iv:Value) (wr:World):Prop:=∃k:Nat,k≤n∧iv= .int .i64 (k:Nat)∧Below w2.heap.size w2 wr
theorem kDn (w:World)(aT:Option Addr)(cT:Nat)(aM:Option Addr)(cM:Nat)(aL:Option Addr)(cL:Nat)(sT:Option Addr)(dT:Nat)(sM:Option Addr)(dM:Nat)(sL:Option Addr)(dL:Nat)(tops mids:List Nat)(lows:List Int)(nT nM nL:Nat)
  (hnT:tops.length=nT)(hnM:mids.length=nM)(hnL:lows.length=nL)(hsz:nT≤1114112∧nM≤1114112∧nL≤1114112)(ofv:Int→El)(cf:Nat)(lb:Array Value)(eg:∀args W,(callFunc cf args).run Try.prog W= .ok (.enter cf args) W)
  (h1:kEz w aT (tops.map kAb))(h2:kEz w aM (mids.map kAb))(h3:kDy w aL (lows.map ofv))(k1:Ints .i64 w sT (kBr tops))(k2:Ints .i64 w sM (kBr mids))(k3:Ints .i64 w sL lows)(hv:∀v∈lows,0≤v∧v≤255)(ht:∀x∈tops,x<65536)(hm:∀x∈mids,x<65536)
  (hcall:∀v∈lows,∀W,Below w.heap.size w W→Calls Try.prog cf (#[.int .u8 v]++lb) W fun e W'=>e= .returned (val8 (ofv v))∧Below W.heap.size W W'):
  Calls Try.prog 114 #[.agg #[.slice aT nT cT,.slice aM nM cM,.slice aL nL cL],.agg #[.slice sT nT dT,.slice sM nM dM,.slice sL nL dL],.func (.func cf) #[] lb] w fun e w'=>e= .returned (.bool true)∧Below w.heap.size w w':=by
 obtain⟨z1,z2,z3⟩:=hsz
 have HNT:=jH hnT;have HNM:=jH hnM;have HNL:=jH hnL;have HEg:=jH eg;have H1:=jH h1;have H2:=jH h2;have H3:=jH h3;have K1:=jH k1;have K2:=jH k2;have K3:=jH k3;have HV:=jH hv;have HTb:=jH ht;have HMb:=jH hm;have HC:=jH hcall
 clear hnT hnM hnL eg h1 h2 h3 k1 k2 k3 hv ht hm hcall;have E1:=jN w (.cells #[.slice aT nT cT,.slice aM nM cM,.slice aL nL cL] 206);have E2:=(Below.refl _ w).alloc jR (.cells #[.slice aT nT cT,.slice aM nM cM,.slice aL nL cL] 206);have E3:=World.size_alloc w (.cells #[.slice aT nT cT,.slice aM nM cM,.slice aL nL cL] 206)
 go_enter Try.func114,Try.ntmps114
 go_upto_region 1 with(fail)
 generalize w.alloc (.cells #[.slice aT nT cT,.slice aM nM cM,.slice aL nL cL] 206)=w1 at*;have F1:=jN w1 (.cells #[.slice sT nT dT,.slice sM nM dM,.slice sL nL dL] 70);have F2:=(Below.refl _ w1).alloc jR (.cells #[.slice sT nT dT,.slice sM nM dM,.slice sL nL dL] 70);generalize w1.alloc (.cells #[.slice sT nT dT,.slice sM nM dM,.slice sL nL dL] 70)=w2 at*
 obtain⟨b0,hb0⟩:∃b0,b0=w.heap.size:=⟨_,rfl⟩
 rw[←hb0]at E1 E3 ⊢;rw[E3]at F1;have HB:Hid (Below w.heap.size w w2):=jH (E2.trans (F2.mono (by omega)));have X0:Hid (w2.heap[b0]? =some (.cells #[.slice aT nT cT,.slice aM nM cM,.slice aL nL cL] 206 (0,0))):=jH ((F2.block b0 (by omega)).trans E1);have X1:=jH F1;clear E1 E2 E3 F1 F2 hb0
 have H1:=jH (kBo H1.out HB.out jR);have H2:=jH (kBo H2.out HB.out jR);have H3:=jH (H3.out.below ((HB.out)))
 have K1:=jH (K1.out.below HB.out jR);have K2:=jH (K2.out.below HB.out jR);have K3:=jH (K3.out.below HB.out jR)
 have HCell:=jH (fun(W:World) (hb:Below w2.heap.size w2 W)=>show(W.cell? ⟨b0,0,none⟩=some (.slice aT nT cT)∧W.cell? ⟨b0,1,none⟩=some (.slice aM nM cM)∧W.cell? ⟨b0,2,none⟩=some (.slice aL nL cL))∧(W.cell? ⟨b0+1,0,none⟩=some (.slice sT nT dT)∧W.cell? ⟨b0+1,1,none⟩=some (.slice sM nM dM)∧W.cell? ⟨b0+1,2,none⟩=some (.slice sL nL dL))from by
  have x0:=(hb.block b0 (jL X0.out)).trans X0.out;have x1:=(hb.block (b0+1) (jL X1.out)).trans X1.out
  exact⟨⟨jK W b0 0 _ _ (0,0) x0,jK W b0 1 _ _ (0,0) x0,jK W b0 2 _ _ (0,0) x0⟩,⟨jK W (b0+1) 0 _ _ (0,0) x1,jK W (b0+1) 1 _ _ (0,0) x1,jK W (b0+1) 2 _ _ (0,0) x1⟩⟩)
 obtain⟨⟨p0,p1,p2⟩,⟨q0,q1,q2⟩⟩:=HCell.out w2 (Below.refl _ _);go_wp2
 clear p0 p1 p2 q0 q1 q2
 go_loopw [7] (AkR nT w2) (fun i _=>nT - (intOf i).toNat)
 case atStart=>exact⟨0,Nat.zero_le _,rfl,Below.refl _ _⟩
 case round=>
  obtain⟨k,hk,rfl,hbel⟩:=hrel
  have HBl:=jH hbel;clear hbel
  obtain⟨⟨p0,p1,p2⟩,⟨q0,q1,q2⟩⟩:=HCell.out wr HBl.out
  by_cases hkn:k<nT
  ·have hki:(k:Int)<(nT:Int):=by omega
   have hkl:k<tops.length:=by rw[HNT.out];exact hkn
   obtain⟨b1,o1,e1,c1⟩:=(kBo H1.out HBl.out jR) k (by rw[List.length_map];exact hkl);obtain⟨b2,o2,e2,c2⟩:=(K1.out.below HBl.out jR) k (by rw[kBp];exact hkl);subst e1 e2;simp only[kBr,List.getElem_map]at c1 c2;unfold kAb at c1;have hxb:=HTb.out _ (List.getElem_mem hkl);generalize tops[k]=x at*
   have hw:wrap64 (x:Int)=(x:Int):=by unfold wrap64;omega
   have hxx:((x:Int) != (x:Int))=false:=by simp
   clear p1 p2 q1 q2;go_wp2
   go_quiet (fail)
   have HBq:Hid (Below w2.heap.size w2 (wr.drewN nq)):=jH (below_drewN HBl.out nq);clear c1 c2 p0 q0;generalize wr.drewN nq=w6 at*;go_wp2
   exact⟨⟨k+1,by omega,by go_num,HBq.out⟩,by simp[intOf];omega⟩
  ·obtain rfl:k=nT:=by omega
   have hki:¬(k:Int)<(k:Int):=by omega
   go_wp2
   clear p0 p1 p2 q0 q1 q2
   go_loopw [8] (AkR nM w2) (fun i _=>nM - (intOf i).toNat)
   case atStart=>exact⟨0,Nat.zero_le _,rfl,HBl.out⟩
   case round=>
    clear HBl;obtain⟨m,hm,rfl,hbel⟩:=hrel
    have HBl:=jH hbel;clear hbel
    obtain⟨⟨p0,p1,p2⟩,⟨q0,q1,q2⟩⟩:=HCell.out wr HBl.out
    by_cases hmn:m<nM
    ·have hmi:(m:Int)<(nM:Int):=by omega
     have hml:m<mids.length:=by rw[HNM.out];exact hmn
     obtain⟨b1,o1,e1,c1⟩:=(kBo H2.out HBl.out jR) m (by rw[List.length_map];exact hml);obtain⟨b2,o2,e2,c2⟩:=(K2.out.below HBl.out jR) m (by rw[kBp];exact hml);subst e1 e2;simp only[kBr,List.getElem_map]at c1 c2;unfold kAb at c1;have hxb:=HMb.out _ (List.getElem_mem hml);generalize mids[m]=x at*
     have hw:wrap64 (x:Int)=(x:Int):=by unfold wrap64;omega
     have hxx:((x:Int) != (x:Int))=false:=by simp
     clear p0 p2 q0 q2;go_wp2
     go_quiet (fail)
     have HBq:Hid (Below w2.heap.size w2 (wr.drewN nq)):=jH (below_drewN HBl.out nq);clear c1 c2 p1 q1;generalize wr.drewN nq=w6 at*;go_wp2
     exact⟨⟨m+1,by omega,by go_num,HBq.out⟩,by simp[intOf];omega⟩
    ·obtain rfl:m=nM:=by omega
     have hmi:¬(m:Int)<(m:Int):=by omega
     go_wp2
     clear p0 p1 p2 q0 q1 q2
     go_loopw [9] (AkR nL w2) (fun i _=>nL - (intOf i).toNat)
     case atStart=>exact⟨0,Nat.zero_le _,rfl,HBl.out⟩
     case round=>
      clear HBl;obtain⟨j,hj,rfl,hbel⟩:=hrel
      have HBl:=jH hbel;clear hbel
      obtain⟨⟨p0,p1,p2⟩,⟨q0,q1,q2⟩⟩:=HCell.out wr HBl.out
      by_cases hjn:j<nL
      ·have hji:(j:Int)<(nL:Int):=by omega
       have hjl:j<lows.length:=by rw[HNL.out];exact hjn
       obtain⟨b1,o1,e1,c1,c1b⟩:=(H3.out.below HBl.out) j (by rw[List.length_map];exact hjl);obtain⟨b2,o2,e2,c2⟩:=(K3.out.below HBl.out jR) j hjl;subst e1 e2;simp only[List.getElem_map]at c1 c1b;have hvk:=HV.out _ (List.getElem_mem hjl);have HCk:=jH (fun d os=>(HC.out _ (List.getElem_mem hjl) (Go.Sort.grow (Go.redrawn wr d) os) (HB.out.trans ((HBl.out.mono HB.out.size).trans ((below_regrown wr d os).mono (Nat.le_trans HB.out.size HBl.out.size))))).regrown_of);generalize lows[j]=v at*
       have hwv:IntKind.u8.wrap v=v:=by simp[IntKind.wrap,IntKind.bits,IntKind.signed];omega
       unfold val8 at HCk
       obtain⟨x,hx⟩:∃x,x=ofv v:=⟨_,rfl⟩
       rw[←hx]at c1 c1b HCk;clear hx
       have k0:=fun d os=>cell_regrown c1 d os
       have k0b:=fun d os=>cell_regrown c1b d os
       have hq:∀w,(binOp .neq 105 (.agg #[.int .i32 x.1,.string x.2]) (.agg #[.int .i32 x.1,.string x.2])).run Try.prog w= .ok (.bool false) w:=fun w=>by rw[kGl];simp[neV]
       have hg:=kGk #[.int .i32 x.1,.string x.2] #[.int .i32 x.1,.string x.2]
       have k1:=fun d os=>cell_regrown c2 d os
       have k2:=fun d os=>cell_regrown p2 d os
       have k3:=fun d os=>cell_regrown q2 d os
       have heg:=HEg.out;clear p0 p1 q0 q1 c1 c1b c2
       go_upto_region 16 with(fail)
       clear p2 q2;refine wp_region_quiet_below (by kernel_rfl) (by kernel_rfl) ?_
       iterate 12 (quiet_step (fail))
       quiet_step (exact HCk.out _ _)
       quiet_step (fail)
       refine wpQuiet_nil ?_;intro _ hw';obtain⟨⟨dq,osq⟩,hw''⟩:=hw';subst hw'';have HBq:Hid (Below w2.heap.size w2 (Go.Sort.grow (Go.redrawn wr dq) osq)):=jH (HBl.out.trans ((below_regrown wr dq osq).mono HBl.out.size));generalize (Go.Sort.grow (Go.redrawn wr dq) osq)=w6 at*;clear k0 k0b k1 k2 k3 heg hq hg;go_wp2
       go_roundw
       case rel=>exact⟨j+1,by omega,by go_num,HBq.out⟩
       case measure=>simp[intOf];omega
      ·obtain rfl:j=nL:=by omega
       have hji:¬(j:Int)<(j:Int):=by omega
       go_wp2
       go_ret
       exact⟨rfl,HB.out.trans (HBl.out.mono HB.out.size)⟩
end Go.Proofs.Ytabbabkmojaoaaa.VT
