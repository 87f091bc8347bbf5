/- several texts in one: WJ -/
import Derived.Test.YtabbabkmojaoaaaNO
import Derived.Deep.CutRange
set_option linter.unusedVariables false
set_option linter.unusedSimpArgs false
set_option maxRecDepth 100000
set_option maxHeartbeats 16000000
namespace Go.Proofs.Ytabbabkmojaoaaa
open Go.RowKit
attribute [local go_sem] Oper.semAt_some
def StgO (F:Nat→Int) (N c:Nat) (w3:World) (iv nv lv tv:Value) (W:World):Prop:=
 ∃(t i:Nat) (n last:Int) (aT:Option Addr) (cT:Nat) (aM:Option Addr) (cM:Nat) (aL:Option Addr) (cL:Nat),t≤272∧iv= .int .i64 (i:Nat)∧nv= .int .i64 n∧lv= .int .i64 last∧tv= .int .i64 (t:Nat)∧
  kJ1 (kAt F N) i (64*(64*t))∧kLb F (64*t) n last∧
  kC2 c (mkF F (64*t)).lows (mkF F (64*t)).mids ((mkF F (64*t)).top.take t) (mkF F (64*t)).mids (mkF F (64*t)).lows aT cT aM cM aL cL W∧Below c w3 W
def StgI (F:Nat→Int) (N c t bm:Nat) (w3:World) (iv nv lv kv:Value) (W:World):Prop:=
 ∃(k i:Nat) (n last:Int) (mr:List Nat) (aT:Option Addr) (cT:Nat) (aM:Option Addr) (cM:Nat) (aL:Option Addr) (cL:Nat),k≤64∧iv= .int .i64 (i:Nat)∧nv= .int .i64 n∧lv= .int .i64 last∧kv= .int .i64 (k:Nat)∧
  kJ1 (kAt F N) i (64*(64*t+k))∧kLb F (64*t+k) n last∧
  kC2 c (mkF F (64*t+k)).lows (mkF F (64*t)).mids ((mkF F (64*t)).top.take t) (mkF F (64*t)).mids (mkF F (64*t+k)).lows aT cT aM cM aL cL W∧Below c w3 W∧
  W.heap[bm]? =some (.cells (ivs .i64 (kBr mr)).toArray 155 (0,0))∧mr.length=64∧(∀j,j<k→mr[j]? =some (noF F (64*t+j)))∧ob aT≠some bm∧ob aM≠some bm∧ob aL≠some bm
def StgB (F:Nat→Int) (N r bb:Nat) (w4:World) (iv jv:Value) (W:World):Prop:=
 ∃(j i:Nat) (bs:List Int),j≤64∧iv= .int .i64 (i:Nat)∧jv= .int .i64 (j:Nat)∧kJ1 (kAt F N) i (r+j)∧bs.length=64∧(∀q,q<j→bs[q]? =some (F (r+q)))∧W.heap[bb]? =some (.cells (ivs .i64 bs).toArray 155 (0,0))∧Below bb w4 W
def Far3 (B:Nat) (sv:Value):Prop:=∃a0 n0 c0 a1 n1 c1 a2 n2 c2,sv= .agg #[.slice a0 n0 c0,.slice a1 n1 c1,.slice a2 n2 c2]∧(∀x,a0=some x→B≤x.block)∧(∀x,a1=some x→B≤x.block)∧∀x,a2=some x→B≤x.block
theorem kI6 (w:World)(fv:Value)(F:Nat→Int)(N M:Nat)(hN:N=1114112)(hM:M=17408)(hf:kH9 w fv (kAt F N)):
  Calls Try.prog 38 #[fv] w fun e w'=>∃sv,e= .returned sv∧kB0 w' sv (mkF F M)∧Below w.heap.size w w'∧Far3 w.heap.size sv:=by
 obtain⟨aT,cT,aV,cV,rfl,hT,hV, -, -⟩:=hf;have hle:=kC6 F N
 obtain⟨n,hn⟩:∃n,n=(kAt F N).length:=⟨_,rfl⟩
 rw[←hn]at hle ⊢
 have hnl:n≤1114112:=by omega
 have HT:=jH hT;have HV:=jH hV;have HNn:=jH hn;have HN:=jH hN;have HM:=jH hM
 clear hT hV hn hN hM hle
 go_enter Try.func38,Try.ntmps38
 go_upto_region 2 with(fail)
 have E1:=jN w (.cells #[.slice aT n cT,.slice aV n cV] 63);have E2:=(Below.refl _ w).alloc jR (.cells #[.slice aT n cT,.slice aV n cV] 63);have E3:=World.size_alloc w (.cells #[.slice aT n cT,.slice aV n cV] 63);generalize w.alloc (.cells #[.slice aT n cT,.slice aV n cV] 63)=w1 at*;have G1:=jN w1 (.cells #[.slice none 0 0,.slice none 0 0,.slice none 0 0] 70);have G2:=(Below.refl _ w1).alloc jR (.cells #[.slice none 0 0,.slice none 0 0,.slice none 0 0] 70);have G3:=World.size_alloc w1 (.cells #[.slice none 0 0,.slice none 0 0,.slice none 0 0] 70);generalize w1.alloc (.cells #[.slice none 0 0,.slice none 0 0,.slice none 0 0] 70)=w2 at*;have H1:=jN w2 (.cells #[.slice none 0 0,.slice none 0 0,.slice none 0 0] 70);have H2:=(Below.refl _ w2).alloc jR (.cells #[.slice none 0 0,.slice none 0 0,.slice none 0 0] 70);have H3:=World.size_alloc w2 (.cells #[.slice none 0 0,.slice none 0 0,.slice none 0 0] 70);generalize w2.alloc (.cells #[.slice none 0 0,.slice none 0 0,.slice none 0 0] 70)=w3 at*
 obtain⟨b0,hb0⟩:∃b0,b0=w.heap.size:=⟨_,rfl⟩
 rw[←hb0]at E1 E3 ⊢;rw[E3]at G1 G3;rw[G3]at H1 H3;have I1:=jN w3 (.map #[] 0);have I2:=(Below.refl _ w3).alloc jR (.map #[] 0);have I3:=World.size_alloc w3 (.map #[] 0)
 have I4:(Instr.makeMap 153 none).run Try.prog w3= .ok (.map (some w3.heap.size)) (w3.alloc (.map #[] 0)):=by kernel_rfl
 refine wp_region_list ?_;refine kAc (v:= .map (some w3.heap.size)) (w':=w3.alloc (.map #[] 0)) rfl (by kernel_rfl) ?_;generalize w3.alloc (.map #[] 0)=w4 at*;rw[H3]at I1 I3 ⊢
 go_upto_region 3 with(fail)
 have J1:=jN w4 (.map #[] 0);have J2:=(Below.refl _ w4).alloc jR (.map #[] 0);refine wp_region_list ?_;refine kAc (v:= .map (some w4.heap.size)) (w':=w4.alloc (.map #[] 0)) rfl (by kernel_rfl) ?_;generalize w4.alloc (.map #[] 0)=w5 at*;rw[I3]at J1 ⊢
 obtain⟨c,hc⟩:∃c,c=b0+1+1:=⟨_,rfl⟩
 have h2s:w2.heap.size=c:=by rw[G3,hc]
 have hB5:Below c w2 w5:=by
  have:=H2.trans ((I2.trans (J2.mono (by omega))).mono (by omega));rwa[h2s]at this
 have HB5:=jH hB5;have HB2:Hid (Below w.heap.size w w2):=jH (E2.trans (G2.mono (by omega)));have HX2:Hid (w2.heap[b0]? =some (.cells #[.slice aT n cT,.slice aV n cV] 63 (0,0))):=jH ((G2.block b0 (by omega)).trans E1);have HR2:Hid (w2.heap[b0+1]? =some (.cells #[.slice none 0 0,.slice none 0 0,.slice none 0 0] 70 (0,0))):=jH G1
 have HS5:Hid (kC2 c [] [] [] [] [] none 0 none 0 none 0 w5):=jH (by
  rw[←hc]at H1 I1 J1;have k3:w3.heap.size≤w4.heap.size:=I2.size
  refine⟨(J2.block c (by omega)).trans ((I2.block c (by omega)).trans H1),Own.nil _ _ _,Own.nil _ _ _,Own.nil _ _ _,(fun k e=>by cases e),(fun k e=>by cases e),(fun k e=>by cases e),(J2.block (c+1) (by omega)).trans I1,J1⟩)
 have HT2:=jH (HT.out.below HB2.out jR);have HV2:=jH (HV.out.below HB2.out jR)
 have HC:=jH (And.intro hc (And.intro hb0 h2s));rw[←hb0,←hc,show c+1+1=c+2 from rfl];clear E1 E2 E3 G1 G2 G3 H1 H2 H3 I1 I2 I3 I4 J1 J2 hB5 hc hb0 h2s;go_wp2
 go_loopw [6,7,8,9] (StgO F N c w2) (fun _ _ _ tv _=>272 - (intOf tv).toNat)
 case atStart=>exact⟨0,0, -1,0,none,0,none,0,none,0,Nat.zero_le _,rfl,rfl,rfl,rfl,kJ1.zero _ _,.inl rfl,HS5.out,HB5.out⟩
 case round=>
  obtain⟨t,i,nn,last,aT1,cT1,aM1,cM1,aL1,cL1,ht,rfl,rfl,rfl,rfl,hcur,hlast,hst,hbel⟩:=hrel
  have HCu:=jH hcur;have HLa:=jH hlast;have HSt:=jH hst;have HBl:=jH hbel
  clear hcur hlast hst hbel HS5 HB5
  by_cases htn:t<272
  ·have hti:(t:Int)<272:=by omega
   go_upto_region 10 with(fail)
   change Code.wp _ _ _ _ (wr.alloc (.cells (ivs .i64 (List.replicate 64 0)).toArray 155))
   obtain⟨bm,hbm⟩:∃bm,bm=wr.heap.size:=⟨_,rfl⟩
   have A1:=jN wr (.cells (ivs .i64 (List.replicate 64 0)).toArray 155);have A2:=(Below.refl _ wr).alloc jR (.cells (ivs .i64 (List.replicate 64 0)).toArray 155);rw[←hbm]at A1 A2 ⊢;generalize wr.alloc (.cells (ivs .i64 (List.replicate 64 0)).toArray 155)=w6 at*
   have hcm:c+3≤bm:=by rw[hbm];exact HSt.out.sz
   have HI6:Hid (StgI F N c t bm w2 (.int .i64 (i:Nat)) (.int .i64 nn) (.int .i64 last) (.int .i64 0) w6):=jH
    ⟨0,i,nn,last,List.replicate 64 0,aT1,cT1,aM1,cM1,aL1,cL1,Nat.zero_le _,rfl,rfl,rfl,rfl,HCu.out,HLa.out,HSt.out.below (by rw[←hbm];exact A2),HBl.out.trans (A2.mono (by omega)),by rw[A1];simp[kBr],List.length_replicate,fun j hj=>by omega,
     fun e=>by have:=HSt.out.bT _ e;omega,fun e=>by have:=HSt.out.bM _ e;omega,fun e=>by have:=HSt.out.bL _ e;omega⟩
   have HBm:=jH (And.intro hbm hcm);clear A1 A2 hbm hcm HCu HLa HSt HBl;go_wp2
   go_loopw [6,7,8,11] (StgI F N c t bm w2) (fun _ _ _ kv _=>64 - (intOf kv).toNat)
   case atStart=>exact HI6.out
   case round=>
    clear HI6;obtain⟨k,i,nn,last,mr,aT1,cT1,aM1,cM1,aL1,cL1,hk,rfl,rfl,rfl,rfl,hcur,hlast,hst,hbel,hrow,hml,hmr,n1,n2,n3⟩:=hrel
    have HCu:=jH hcur;have HLa:=jH hlast;have HSt:=jH hst;have HBl:=jH hbel;have HRw:=jH hrow;have HMr:=jH hmr;have HNe:=jH (And.intro n1 (And.intro n2 n3))
    clear hcur hlast hst hbel hrow hmr n1 n2 n3
    by_cases hkn:k<64
    ·have hki:(k:Int)<64:=by omega
     obtain⟨r,hr⟩:∃r:Nat,r=64*(64*t+k):=⟨_,rfl⟩
     have hre:(t:Int)*4096+(k:Int)*64=(r:Int):=by omega
     have hrl:r+63<1114112:=by omega
     obtain⟨w9,hw9⟩:∃w9,w9=wr:=⟨_,rfl⟩
     rw[←hw9]at HSt HBl HRw ⊢;clear hw9;rw[←hr]at HCu
     have HR:=jH hr;clear hr
     go_wp2
     have hwB:=HBl.out
     have HT9:=jH (HT2.out.below hwB (by rw[HC.out.2.2];exact Nat.le_refl _));have HV9:=jH (HV2.out.below hwB (by rw[HC.out.2.2];exact Nat.le_refl _))
     have x0:=(hwB.block b0 (by have:=HC.out.1;omega)).trans HX2.out;have q0:=jK w9 b0 0 _ _ (0,0) x0;have q1:=jK w9 b0 1 _ _ (0,0) x0;simp at q0 q1;clear x0 hwB
     go_loopw [6] (fun iv W=>∃i':Nat,iv= .int .i64 (i':Nat)∧kJ1 (kAt F N) i' r∧W=w9) (fun iv _=>n - (intOf iv).toNat)
     case atStart=>exact⟨i,rfl,HCu.out,rfl⟩
     case round=>
      obtain⟨i',rfl,hcur,rfl⟩:=hrel
      have HCu:=jH hcur;clear hcur
      have hin:i'<(kAt F N).length:=kKd (by rw[HN.out];omega) HCu.out
      have hin2:i'<n:=by rw[HNn.out];exact hin
      have hini:(i':Int)<(n:Int):=by omega
      obtain⟨bT,oT,haT⟩:=HT9.out.some (by rw[List.length_map];omega);obtain⟨bV,oV,haV⟩:=HV9.out.some (by rw[List.length_map];omega);subst haT haV;have c1:=HT9.out.get i' (by rw[List.length_map];exact hin);have c2:=HV9.out.get i' (by rw[List.length_map];exact hin);simp only[List.getElem_map]at c1 c2;have HNx:=jH (fun h=>HCu.out.next hin h);have HAt:=jH (fun h=>kKy (N:=N) (by rw[HN.out];omega) HCu.out hin h);have HWh:=jH (fun h=>kLx (k:=64*t+k) (by rw[HN.out];omega) (by rw[←HR.out];exact HCu.out) hin h);rw[←HR.out]at HWh;generalize (kAt F N)[i']=x at*;clear hin
      by_cases hx:x.1<(r:Int)
      ·go_wp2
       go_roundw
       case rel=>exact⟨i'+1,by go_num,HNx.out hx,by first | rfl | trivial⟩
       case measure=>simp[intOf];omega
      ·have hF:=HAt.out (by omega)
       have HF:=jH hF;clear hF
       go_upto_region 16 with(fail)
       go_cut [65]from 45 to 65 (fun p wx=>p= .bool (decide ((r:Int)+63≤x.1∧last=x.2∧0≤nn))∧wx=wr)
       case first=>
        by_cases h1:(r:Int)+63≤x.1
        ·by_cases h2:last=x.2
         ·have e2:(last==x.2)=true:=beq_iff_eq.2 h2
          have H2:=jH h2;clear h2
          by_cases h3:0≤nn
          ·have H3:=jH (decide_eq_true (p:=(r:Int)+63≤x.1∧last=x.2∧0≤nn) ⟨h1,H2.out,h3⟩);go_wp2
           go_meet
           exact⟨congrArg Value.bool H3.out.symm,by first | rfl | trivial⟩
          ·have H3:=jH (decide_eq_false (p:=(r:Int)+63≤x.1∧last=x.2∧0≤nn) (fun h=>h3 h.2.2));go_wp2
           go_meet
           exact⟨congrArg Value.bool H3.out.symm,by first | rfl | trivial⟩
         ·have e2:(last==x.2)=false:=beq_eq_false_iff_ne.2 h2;have H3:=jH (decide_eq_false (p:=(r:Int)+63≤x.1∧last=x.2∧0≤nn) (fun h=>h2 h.2.1));clear h2;go_wp2
          go_meet
          exact⟨congrArg Value.bool H3.out.symm,by first | rfl | trivial⟩
        ·have H3:=jH (decide_eq_false (p:=(r:Int)+63≤x.1∧last=x.2∧0≤nn) (fun h=>h1 h.1));go_wp2
         go_meet
         exact⟨congrArg Value.bool H3.out.symm,by first | rfl | trivial⟩
       case rest=>
        obtain⟨rfl,rfl⟩:=hcut
        have hbmz:bm<wc.heap.size:=(jL HRw.out)
        by_cases hp:(r:Int)+63≤x.1∧last=x.2∧0≤nn
        ·rw[decide_eq_true hp]
         obtain⟨q,hq,hlq⟩:∃q:Nat,nn=(q:Int)∧(mkF F (64*t+k)).lows[q]? =some (List.replicate 64 last):=by
          rcases HLa.out with h | h
          ·omega
          ·exact h
         subst hq;obtain⟨hno,hlo⟩:=kMu (by omega) hlq (by rw[hp.2.1];exact HWh.out hp.1)
         have HNo:=jH (And.intro hno hlo);clear hno hlo hlq hp
         have y0:wc.cell? ⟨bm,k,none⟩=some (.int .i64 ((kBr mr)[k]'(by rw[kBp];omega))):=by
          rw[jK wc bm k _ _ (0,0) HRw.out,List.getElem?_toArray]
          have:k<(kBr mr).length:=by rw[kBp];omega
          simp[ivs,this]
         have f0:=jO wc bm k _ _ HRw.out;have y1:=jP wc bm k _ _ (.int .i64 (q:Int)) HRw.out;have HG:=jH (kAe wc bm k (.int .i64 (q:Int)));have HBs:=jH (HBl.out.setCell (p:=⟨bm,k,none⟩) (by have:=HBm.out.2;show c≤bm;omega) (.int .i64 (q:Int)))
         have HY:=jH y1;clear y1
         go_wp2
         go_roundw
         case rel=>
          refine⟨k+1,i',(q:Int),last,mr.set k q,aT1,cT1,aM1,cM1,aL1,cL1,by omega,rfl,rfl,rfl,by go_num,HCu.out.mono (by have:=HR.out;omega),HLa.out.next,?_,HBs.out,?_,by simpa using hml,fun j hj=> ?_,HNe.out⟩
          ·rw[show(mkF F (64*t+(k+1))).lows=(mkF F (64*t+k)).lows from HNo.out.2];exact HSt.out.off (T:=fun b=>b=bm) (.of_grown HG.out (fun k e=>by cases e;rfl)) (fun b e=>by subst e;exact⟨HBm.out.2,HNe.out⟩)
          ·rw[HY.out];simp[ivs,kBr,List.map_set]
          ·by_cases e:j=k
           ·subst e;rw[List.getElem?_set_self (by omega),HNo.out.1]
           ·rw[List.getElem?_set_ne (by omega)];exact HMr.out j (by omega)
         case measure=>simp[intOf];omega
        ·rw[decide_eq_false hp];clear hp
         go_upto_region 21 with(fail)
         change Code.wp _ _ _ _ (wc.alloc (.cells (ivs .i64 (List.replicate 64 0)).toArray 155))
         obtain⟨wh,hwh⟩:∃wh:Bool,wh=decide ((r:Int)+63≤x.1):=⟨_,rfl⟩
         rw[←hwh]
         have HWd:=jH hwh;clear hwh
         obtain⟨bb,hbb⟩:∃bb,bb=wc.heap.size:=⟨_,rfl⟩
         have A1:=jN wc (.cells (ivs .i64 (List.replicate 64 0)).toArray 155);have A2:=(Below.refl _ wc).alloc jR (.cells (ivs .i64 (List.replicate 64 0)).toArray 155);rw[←hbb]at A1 A2 hbmz ⊢;generalize wc.alloc (.cells (ivs .i64 (List.replicate 64 0)).toArray 155)=w10 at*;have HI:Hid (StgB F N r bb wc (.int .i64 (i':Nat)) (.int .i64 0) w10):=jH ⟨0,i',List.replicate 64 0,Nat.zero_le _,rfl,rfl,HCu.out,List.length_replicate,fun q hq=>by omega,A1,A2⟩;have HBb:=jH hbb;clear A1 A2 hbb c1 c2 hx;go_wp2
         go_loopw [6,15] (StgB F N r bb wc) (fun _ jv _=>64 - (intOf jv).toNat)
         case atStart=>exact HI.out
         case round=>
          clear HI;obtain⟨j,i2,bs,hj,rfl,rfl,hcur2,hbl,hbs,hcell,hbel2⟩:=hrel
          have HCu2:=jH hcur2;have HBs:=jH hbs;have HCe:=jH hcell;have HBe:=jH hbel2
          clear hcur2 hbs hcell hbel2
          obtain⟨w11,hw11⟩:∃w11,w11=wr:=⟨_,rfl⟩
          rw[←hw11]at HCe HBe ⊢;clear hw11
          have hcb:c≤bb:=by have:=HBm.out.2;omega
          have HB11:Hid (Below c w2 w11):=jH (HBl.out.trans (HBe.out.mono hcb));have x0:=(HB11.out.block b0 (by have:=HC.out.1;omega)).trans HX2.out;have q0:=jK w11 b0 0 _ _ (0,0) x0;have q1:=jK w11 b0 1 _ _ (0,0) x0;simp at q0 q1;clear x0
          have HT11:=jH (HT2.out.below HB11.out (by rw[HC.out.2.2];exact Nat.le_refl _));have HV11:=jH (HV2.out.below HB11.out (by rw[HC.out.2.2];exact Nat.le_refl _))
          by_cases hjn:j<64
          ·have hji:(j:Int)<64:=by omega
           obtain⟨r2,hr2⟩:∃r2:Nat,r2=r+j:=⟨_,rfl⟩
           have hre2:(r:Int)+(j:Int)=(r2:Int):=by omega
           have hrl2:r2<1114112:=by omega
           rw[←hr2]at HCu2
           have HR2':=jH hr2;clear hr2
           go_wp2
           go_loopw [6] (fun iv W=>∃i3:Nat,iv= .int .i64 (i3:Nat)∧kJ1 (kAt F N) i3 r2∧W=w11) (fun iv _=>n - (intOf iv).toNat)
           case atStart=>exact⟨i2,rfl,HCu2.out,rfl⟩
           case round=>
            obtain⟨i3,rfl,hcur,rfl⟩:=hrel
            have HCu3:=jH hcur;clear hcur
            have hin:i3<(kAt F N).length:=kKd (by rw[HN.out];omega) HCu3.out
            have hin2:i3<n:=by rw[HNn.out];exact hin
            have hini2:(i3:Int)<(n:Int):=by omega
            have c1:=HT11.out.get i3 (by rw[List.length_map];exact hin);have c2:=HV11.out.get i3 (by rw[List.length_map];exact hin);simp only[List.getElem_map]at c1 c2;have HNx2:=jH (fun h=>HCu3.out.next hin h);have HAt2:=jH (fun h=>kKy (N:=N) (by rw[HN.out];omega) HCu3.out hin h);generalize (kAt F N)[i3]=y at*;clear hin
            by_cases hy:y.1<(r2:Int)
            ·go_wp2
             go_roundw
             case rel=>exact⟨i3+1,by go_num,HNx2.out hy,by first | rfl | trivial⟩
             case measure=>simp[intOf];omega
            ·have hF2:=HAt2.out (by omega);rw[hF2]at c2;clear hF2
             have y0:wr.cell? ⟨bb,j,none⟩=some (.int .i64 (bs[j]'(by omega))):=by
              rw[jK wr bb j _ _ (0,0) HCe.out,List.getElem?_toArray]
              have:j<bs.length:=by omega
              simp[ivs,this]
             have f0:=jO wr bb j _ _ HCe.out;have HY:=jH (jP wr bb j _ _ (.int .i64 (F r2)) HCe.out);have HBs2:=jH (HBe.out.setCell (p:=⟨bb,j,none⟩) jR (.int .i64 (F r2)));go_wp2
             go_roundw
             case rel=>
              refine⟨j+1,i3,bs.set j (F r2),by omega,rfl,by go_num,HCu3.out.mono (by have:=HR2'.out;omega),by simpa using hbl,fun p hp=> ?_,?_,HBs2.out⟩
              ·by_cases e:p=j
               ·subst e;rw[List.getElem?_set_self (by omega),HR2'.out]
               ·rw[List.getElem?_set_ne (by omega)];exact HBs.out p (by omega)
              ·rw[HY.out];simp[ivs,List.map_set]
             case measure=>simp[intOf];omega
          ·obtain rfl:j=64:=by omega
           have hji:¬((64:Nat):Int)<64:=by omega
           have hbf:bs=blkF F (64*t+k):=by
            apply List.ext_getElem?
            intro p
            by_cases h:p<64
            ·rw[HBs.out p h,HR.out];simp[blkF,h]
            ·rw[List.getElem?_eq_none (by omega),List.getElem?_eq_none (by rw[kAu];omega)]
           subst hbf;have HSt11:=jH (HSt.out.below (by rw[←HBb.out];exact HBe.out));have HRw11:=jH ((HBe.out.block bm hbmz).trans HRw.out)
           have HBk:Hid (w11.rangeAt bb 0 (kAf vI (blkF F (64*t+k)))):=jH (by
            have:=World.rangeAt_of_block HCe.out 0 (ivs .i64 (blkF F (64*t+k))).length;rw[kKp]
            simpa using this)
           have hbsl:(kAf vI (blkF F (64*t+k))).length=64:=by rw[kKp,kCy,kAu]
           obtain⟨hw, -,hll,hml2⟩:=kC4 F (64*t+k);have HLw:=jH hw.low;clear hbl HBs hw hml2
           go_upto_region 27 with(fail)
           refine wp_region_list ?_;refine kAc (v:= .map (some (c+1))) (w':=w11) rfl (by rfl) ?_;refine wpList_load_mid rfl 155 (.tmp 14) rfl bb 0 rfl (kAf vI (blkF F (64*t+k))) (.array 64 3) HBk.out Try.underlying155 rfl (by rw[hbsl];kernel_rfl) ?_
           go_wp2_with fail
           refine(kI1 Try.kBI w11 (c+1) (mkF F (64*t+k)).lows (blkF F (64*t+k)) (kAu _ _) HLw.out (by omega) HSt11.out.lo).mono ?_;rintro e w13 ⟨rfl,hg,hm⟩
           obtain⟨xn,hxn⟩:∃xn:Nat,xn=(kBe (fun a b=>decide (a=b)) (mkF F (64*t+k)).lows (blkF F (64*t+k))).2:=⟨_,rfl⟩
           obtain⟨met,hmet⟩:∃met:Bool,met=(kAo (fun a b=>decide (a=b)) (blkF F (64*t+k)) (mkF F (64*t+k)).lows).isSome:=⟨_,rfl⟩
           rw[←hxn,←hmet];have HXn:=jH (And.intro hxn hmet);have hcm:=HBm.out.2
           have hs11:bb<w11.heap.size:=(jL HCe.out)
           have HSt13:Hid (kC2 c (mkF F (64*t+k+1)).lows (mkF F (64*t)).mids ((mkF F (64*t)).top.take t) (mkF F (64*t)).mids (mkF F (64*t+k)).lows aT1 cT1 aM1 cM1 aL1 cL1 w13):=jH (by
            rw[kHk]
            exact HSt11.out.map_lo hg hm)
           have HRw13:Hid (w13.heap[bm]? =some (.cells (ivs .i64 (kBr mr)).toArray 155 (0,0))):=jH ((hg.block bm (by omega) (fun e=>by simp at e;omega)).trans HRw11.out);have HBk13:Hid (w13.rangeAt bb 0 (kAf vI (blkF F (64*t+k)))):=jH (kBh hg HBk.out (fun q e=>by cases e;omega));have HB13:Hid (Below c w2 w13):=jH (HB11.out.trans ((Below.refl c w11).grown hg (by omega) (fun q e=>by cases e;omega)));have HBb13:=jH (show bb<w13.heap.size from Nat.lt_of_lt_of_le hs11 hg.size);clear hxn hmet hg hm HSt11 HRw11 HBk HB11 HCe HBe HT11 HV11 q0 q1 hs11 HSt HBl HRw
           go_upto_if 111 with(fail)
           go_cut [7]from 111 to 112 (fun nv wx=>nv= .int .i64 (if wh=true then(xn:Int)else -1)∧wx=w13)
           case first=>
            cases wh
            ·go_wp2
             go_meet
             exact⟨rfl,by first | rfl | trivial⟩
            ·go_wp2
             go_meet
             exact⟨rfl,by first | rfl | trivial⟩
           case rest=>
            obtain⟨rfl,rfl⟩:=hcut
            obtain⟨n2,hn2⟩:∃n2:Int,n2=if wh=true then(xn:Int)else -1:=⟨_,rfl⟩
            rw[←hn2]
            have HLa2:Hid (kLb F (64*t+k+1) n2 x.2):=jH (by
             rw[hn2]
             cases hw:wh with
             | false=>exact .inl rfl
             | true=>
              have h1:(r:Int)+63≤x.1:=of_decide_eq_true (by rw[←HWd.out];exact hw);refine .inr ⟨xn,rfl,?_⟩;have h2:=noF_at F (64*t+k) (by omega);rw[←HWh.out h1,←h2,HXn.out.1]
              rfl)
            clear hn2
            go_upto_if 114 with(fail)
            go_cut []from 115 to 119 (fun wx=>∃aL' cL',kC2 c (mkF F (64*t+k+1)).lows (mkF F (64*t)).mids ((mkF F (64*t)).top.take t) (mkF F (64*t)).mids (mkF F (64*t+k+1)).lows aT1 cT1 aM1 cM1 aL' cL' wx∧wx.heap[bm]? =some (.cells (ivs .i64 (kBr mr)).toArray 155 (0,0))∧ob aL'≠some bm∧Below c w2 wx)
            case first=>
             cases met
             ·have hlow:(mkF F (64*t+k+1)).lows=(mkF F (64*t+k)).lows++[blkF F (64*t+k)]:=by
               rw[kHk];unfold kBe;have:=HXn.out.2;rw[show kAo eq8 (blkF F (64*t+k)) (mkF F (64*t+k)).lows=kAo (fun a b=>decide (a=b)) (blkF F (64*t+k)) (mkF F (64*t+k)).lows from rfl]
               cases hf:kAo (fun a b=>decide (a=b)) (blkF F (64*t+k)) (mkF F (64*t+k)).lows with
               | none=>rfl
               | some q=>rw[hf]at this;cases this
              have HLow:=jH hlow;clear hlow
              have elI:kLo Try.prog 61 3 (.int .i64 0) 8:=⟨Try.underlying61,by kernel_rfl,by kernel_rfl⟩
              have d1:wc.drew.cell? ⟨c,2,none⟩=some (.slice aL1 (64*(mkF F (64*t+k)).lows.length) cL1):=jK wc c 2 _ _ (0,0) HSt13.out.s;have e1:wc.drew.frozen? ⟨c,2,none⟩=false:=jO wc c 2 _ _ HSt13.out.s;have hbd:=HSt13.out.bL;have HKB:=jH (fun(w':World) (hg:wc.drew.grownBy w' (Value.slice aL1 (64*(mkF F (64*t+k)).lows.length) cL1).ownBlock)=>show w'.cell? ⟨c,2,none⟩=some (.slice aL1 (64*(mkF F (64*t+k)).lows.length) cL1)∧w'.frozen? ⟨c,2,none⟩=false from⟨kAv hg d1 (fun q e=>by rw[kBf]at e;have:=hbd q e;omega),jO w' c 2 _ _ ((kAr hg (jL HSt13.out.s) (fun q e=>by rw[kBf]at e;have:=hbd q e;omega)).trans HSt13.out.s)⟩)
              go_upto_region 32 with(fail)
              refine(wpIn_wide (n:=2)).1 ?_;refine kAi [4,5] (fun w':World=>w'.cell? ⟨c,2,none⟩=some (.slice aL1 (64*(mkF F (64*t+k)).lows.length) cL1)∧w'.frozen? ⟨c,2,none⟩=false) (by kernel_rfl) ?_;have HCx:Hid ((fun w':World=>w'.cell? ⟨c,2,none⟩=some (.slice aL1 (64*(mkF F (64*t+k)).lows.length) cL1)∧w'.frozen? ⟨c,2,none⟩=false) wc.drew):=jH ⟨d1,e1⟩;have HO9:Hid (Own (c+3) 3 wc.drew aL1 (64*(mkF F (64*t+k)).lows.length) cL1 (ivs .i64 (mkF F (64*t+k)).lows.flatten)):=jH (World.ownsRow.drew HSt13.out.rl);have HV9:Hid (kEz wc.drew (some ⟨bb,0,none⟩) (ivs .i64 (blkF F (64*t+k)))):=jH (fun j hj=>⟨bb,0,rfl,HBk13.out j _ (by rw[kKp];exact List.getElem?_eq_getElem hj)⟩);have H14:=jH (HSt13.out.below (Below.refl _ wc).drew);have HR14:Hid (wc.drew.heap[bm]? =some (.cells (ivs .i64 (kBr mr)).toArray 155 (0,0))):=jH HRw13.out;have HB14:Hid (Below c w2 wc.drew):=jH HB13.out.drew;have hsz14:c+3≤wc.drew.heap.size:=HSt13.out.sz
              have hbm14:bm<wc.drew.heap.size:=(jL HRw13.out)
              clear d1 e1;generalize wc.drew=w9' at*;refine' kAd (i:=0) (v:=_) [1,3,4,5] (by kernel_rfl) rfl (by kernel_rfl) (fun _ _ _ h=>h) (by rfl) (by rintro w' ⟨c0,c1⟩;go_simp;try with_reducible rfl) HCx.out ?_;simp only[jA,jB,jC,Act.put,jD,jE,jF];refine' kAd (i:=1) (v:=_) [3,4,5] (by kernel_rfl) rfl (by kernel_rfl) (fun _ _ _ h=>h) (by rfl) (by rintro w' ⟨c0,c1⟩;go_simp;try with_reducible rfl) HCx.out ?_;simp only[jA,jB,jC,Act.put,jD,jE,jF];refine' kAd (i:=2) (v:=_) [3,4,5] (by kernel_rfl) rfl (by kernel_rfl) (fun _ _ _ h=>h) (by rfl) (by rintro w' ⟨c0,c1⟩;go_simp;try with_reducible rfl) HCx.out ?_;simp only[jA,jB,jC,Act.put,jD,jE,jF]
              have hnl8:64*(mkF F (64*t+k)).lows.length≤1114112:=by omega
              refine kE1 (i:=3) elI (by kernel_rfl) rfl (by kernel_rfl) (by rfl) (.tmp 116) (.tmp 117) rfl HO9.out hsz14 (m:=64) (by rw[kCy,kAu]) HV9.out (kHa _ _) (by omega) (by unfold maxLen;omega) rfl rfl (fun w' hg=>HKB.out w' hg) ?_;intro a2 c2 w10 ho10 hg10 hn10;simp only[jA,jB,jC,Act.put,jD,jE,jF];refine kA3 4 (by rfl) (by kernel_rfl) (by kernel_rfl) ?_;simp only[List.drop_succ_cons,List.drop_zero];obtain⟨d2,e2⟩:=HKB.out w10 hg10;have HP:=jH (H14.out.pushL (blkF F (64*t+k)) (kAu _ _) ho10 hg10 hn10)
              have HR10:Hid ((w10.setCell ⟨c,2,none⟩ (.slice a2 (64*(mkF F (64*t+k)).lows.length+64) c2)).heap[bm]? =some (.cells (ivs .i64 (kBr mr)).toArray 155 (0,0))):=jH (by
               rw[jQ w10 ⟨c,2,none⟩ bm _ (by simp;omega)]
               exact(kAr hg10 hbm14 (fun q e=>by rw[kBf]at e;intro h;subst h;exact HNe.out.2.2 e)).trans HR14.out)
              have HN10:Hid (ob a2≠some bm):=jH (by
               rcases kK9 hn10 with h | ⟨g,h,hg⟩
               ·rw[h];exact HNe.out.2.2
               ·rw[h];intro e;cases e;omega)
              have HB10:Hid (Below c w2 (w10.setCell ⟨c,2,none⟩ (.slice a2 (64*(mkF F (64*t+k)).lows.length+64) c2))):=jH
               ((HB14.out.trans ((Below.refl c _).grown hg10 (by omega) (fun q e=>by rw[kBf]at e;have:=hbd q e;omega))).setCell (p:=⟨c,2,none⟩) jR _)
              clear ho10 hg10 hn10
              gi_wp2
              go_meet
              case rel=>exact⟨a2,c2,by have:=HP.out;rw[←HLow.out]at this;exact this,HR10.out,HN10.out,HB10.out⟩
             ·have hlow:(mkF F (64*t+k+1)).lows=(mkF F (64*t+k)).lows:=by
               rw[kHk];unfold kBe;have:=HXn.out.2;rw[show kAo eq8 (blkF F (64*t+k)) (mkF F (64*t+k)).lows=kAo (fun a b=>decide (a=b)) (blkF F (64*t+k)) (mkF F (64*t+k)).lows from rfl]
               cases hf:kAo (fun a b=>decide (a=b)) (blkF F (64*t+k)) (mkF F (64*t+k)).lows with
               | none=>rw[hf]at this;cases this
               | some q=>rfl
              have HLow:=jH hlow;clear hlow
              go_wp2
              go_meet
              case rel=>exact⟨aL1,cL1,by have:=HSt13.out;rw[HLow.out]at this ⊢;exact this,HRw13.out,HNe.out.2.2,HB13.out⟩
            case rest=>
             obtain⟨aL2,cL2,hst,hrow,hne,hbel⟩:=hcut
             have HSt:=jH hst;have HRw:=jH hrow;have HNl:=jH hne;have HBl:=jH hbel
             clear hst hrow hne hbel HSt13 HRw13 HB13 HBk13
             have y0:wc.cell? ⟨bm,k,none⟩=some (.int .i64 ((kBr mr)[k]'(by rw[kBp];omega))):=by
              rw[jK wc bm k _ _ (0,0) HRw.out,List.getElem?_toArray]
              have:k<(kBr mr).length:=by rw[kBp];omega
              simp[ivs,this]
             have f0:=jO wc bm k _ _ HRw.out;have y1:=jP wc bm k _ _ (.int .i64 (xn:Int)) HRw.out;have HG:=jH (kAe wc bm k (.int .i64 (xn:Int)));have HBs:=jH (HBl.out.setCell (p:=⟨bm,k,none⟩) (by have:=HBm.out.2;show c≤bm;omega) (.int .i64 (xn:Int)))
             have HY:=jH y1;clear y1
             go_wp2
             go_roundw
             case rel=>
              refine⟨k+1,i2,n2,x.2,mr.set k xn,aT1,cT1,aM1,cM1,aL2,cL2,by omega,rfl,rfl,rfl,by go_num,HCu2.out.mono (by have:=HR.out;omega),HLa2.out,?_,HBs.out,?_,by simpa using hml,fun j hj=> ?_,HNe.out.1,HNe.out.2.1,HNl.out⟩
              ·exact HSt.out.off (T:=fun b=>b=bm) (.of_grown HG.out (fun k e=>by cases e;rfl)) (fun b e=>by subst e;exact⟨HBm.out.2,HNe.out.1,HNe.out.2.1,HNl.out⟩)
              ·rw[HY.out];simp[ivs,kBr,List.map_set]
              ·by_cases e:j=k
               ·subst e;rw[List.getElem?_set_self (by omega),HXn.out.1]
                rfl
               ·rw[List.getElem?_set_ne (by omega)];exact HMr.out j (by omega)
             case measure=>simp[intOf];omega
    ·obtain rfl:k=64:=by omega
     have hki:¬((64:Nat):Int)<64:=by omega
     have hmf:mr=kG4 F t:=by
      apply List.ext_getElem?
      intro p
      by_cases h:p<64
      ·rw[HMr.out p h];simp[kG4,h]
      ·rw[List.getElem?_eq_none (by omega),List.getElem?_eq_none (by rw[kEd];omega)]
     subst hmf;rw[show 64*t+64=64*(t+1) by omega]at HCu HLa HSt
     obtain⟨S1,hS1⟩:∃S1,S1=mkF F (64*(t+1)):=⟨_,rfl⟩
     obtain⟨S,hS⟩:∃S,S=mkF F (64*t):=⟨_,rfl⟩
     rw[←hS1,←hS]at HSt;have HRow:Hid (S1.mids=(kBe kDl S.mids (kG4 F t)).1∧S1.top=S.top.set t (kBe kDl S.mids (kG4 F t)).2):=jH (by rw[hS1,hS];exact kMa F t);have HTp:Hid (S1.top.take (t+1)=S.top.take t++[(kBe kDl S.mids (kG4 F t)).2]):=jH (by rw[hS1,hS];exact kMy F t htn)
     have HBk:Hid (wr.rangeAt bm 0 (kAf vN (kG4 F t))):=jH (by
      have:=World.rangeAt_of_block HRw.out 0 (ivs .i64 (kBr (kG4 F t))).length;rw[kKq]
      simpa using this)
     have hbsl:(kAf vN (kG4 F t)).length=64:=by rw[kKq,kCy,kBp,kEd]
     obtain⟨hw, -,hll,hml2⟩:=kC4 F (64*t);rw[←hS]at hw hll hml2;have HMw:=jH hw.mid;have HTw:=jH hw.top
     have hml3:S.mids.length≤272:=by omega
     have HSs:=jH (And.intro hS1 hS);clear HMr hw hll hml2 hml hS1 hS
     go_upto_region 34 with(fail)
     refine wp_region_list ?_;refine kAc (v:= .map (some (c+2))) (w':=wr) rfl (by rfl) ?_;refine wpList_load_mid rfl 155 (.tmp 10) rfl bm 0 rfl (kAf vN (kG4 F t)) (.array 64 3) HBk.out Try.underlying155 rfl (by rw[hbsl];kernel_rfl) ?_
     go_wp2_with fail
     refine(kI1 Try.kBN wr (c+2) S.mids (kG4 F t) (kEd _ _) HMw.out (by omega) HSt.out.mi).mono ?_;rintro e w13 ⟨rfl,hg,hm⟩
     obtain⟨xn,hxn⟩:∃xn:Nat,xn=(kBe (fun a b=>decide (a=b)) S.mids (kG4 F t)).2:=⟨_,rfl⟩
     obtain⟨met,hmet⟩:∃met:Bool,met=(kAo (fun a b=>decide (a=b)) (kG4 F t) S.mids).isSome:=⟨_,rfl⟩
     rw[←hxn,←hmet];have HXn:=jH (And.intro hxn hmet);have hcm:=HBm.out.2
     have hs11:bm<wr.heap.size:=(jL HRw.out)
     have HSt13:Hid (kC2 c S1.lows S1.mids (S.top.take t) S.mids S1.lows aT1 cT1 aM1 cM1 aL1 cL1 w13):=jH (by
      rw[HRow.out.1]
      exact HSt.out.map_mi hg hm)
     have HRw13:Hid (w13.heap[bm]? =some (.cells (ivs .i64 (kBr (kG4 F t))).toArray 155 (0,0))):=jH ((hg.block bm (by omega) (fun e=>by simp at e;omega)).trans HRw.out);have HBk13:Hid (w13.rangeAt bm 0 (kAf vN (kG4 F t))):=jH (kBh hg HBk.out (fun q e=>by cases e;omega));have HB13:Hid (Below c w2 w13):=jH (HBl.out.trans ((Below.refl c wr).grown hg (by omega) (fun q e=>by cases e;omega)))
     obtain⟨wc,hwc⟩:∃wc,wc=w13:=⟨_,rfl⟩
     rw[←hwc]at HSt13 HRw13 HBk13 HB13 ⊢;clear hwc hxn hmet hg hm hs11 HSt HBl HRw HBk
     go_upto_if 130 with(fail)
     go_cut []from 131 to 135 (fun wx=>∃aM' cM',kC2 c S1.lows S1.mids (S.top.take t) S1.mids S1.lows aT1 cT1 aM' cM' aL1 cL1 wx∧Below c w2 wx)
     case first=>
      cases met
      ·have hlow:S1.mids=S.mids++[kG4 F t]:=by
        rw[HRow.out.1];unfold kBe;have:=HXn.out.2;rw[show kAo kDl (kG4 F t) S.mids=kAo (fun a b=>decide (a=b)) (kG4 F t) S.mids from rfl]
        cases hf:kAo (fun a b=>decide (a=b)) (kG4 F t) S.mids with
        | none=>rfl
        | some q=>rw[hf]at this;cases this
       have HLow:=jH hlow;clear hlow
       have elI:kLo Try.prog 61 3 (.int .i64 0) 8:=⟨Try.underlying61,by kernel_rfl,by kernel_rfl⟩
       have d1:wc.drew.cell? ⟨c,1,none⟩=some (.slice aM1 (64*S.mids.length) cM1):=jK wc c 1 _ _ (0,0) HSt13.out.s;have e1:wc.drew.frozen? ⟨c,1,none⟩=false:=jO wc c 1 _ _ HSt13.out.s;have hbd:=HSt13.out.bM;have HKB:=jH (fun(w':World) (hg:wc.drew.grownBy w' (Value.slice aM1 (64*S.mids.length) cM1).ownBlock)=>show w'.cell? ⟨c,1,none⟩=some (.slice aM1 (64*S.mids.length) cM1)∧w'.frozen? ⟨c,1,none⟩=false from⟨kAv hg d1 (fun q e=>by rw[kBf]at e;have:=hbd q e;omega),jO w' c 1 _ _ ((kAr hg (jL HSt13.out.s) (fun q e=>by rw[kBf]at e;have:=hbd q e;omega)).trans HSt13.out.s)⟩)
       go_upto_region 36 with(fail)
       refine(wpIn_wide (n:=2)).1 ?_;refine kAi [4,5] (fun w':World=>w'.cell? ⟨c,1,none⟩=some (.slice aM1 (64*S.mids.length) cM1)∧w'.frozen? ⟨c,1,none⟩=false) (by kernel_rfl) ?_;have HCx:Hid ((fun w':World=>w'.cell? ⟨c,1,none⟩=some (.slice aM1 (64*S.mids.length) cM1)∧w'.frozen? ⟨c,1,none⟩=false) wc.drew):=jH ⟨d1,e1⟩;have HO9:Hid (Own (c+3) 3 wc.drew aM1 (64*S.mids.length) cM1 (ivs .i64 (kBr S.mids.flatten))):=jH (World.ownsRow.drew HSt13.out.rm);have HV9:Hid (kEz wc.drew (some ⟨bm,0,none⟩) (ivs .i64 (kBr (kG4 F t)))):=jH (fun j hj=>⟨bm,0,rfl,HBk13.out j _ (by rw[kKq];exact List.getElem?_eq_getElem hj)⟩);have H14:=jH (HSt13.out.below (Below.refl _ wc).drew);have HR14:Hid (wc.drew.heap[bm]? =some (.cells (ivs .i64 (kBr (kG4 F t))).toArray 155 (0,0))):=jH HRw13.out;have HB14:Hid (Below c w2 wc.drew):=jH HB13.out.drew;have hsz14:c+3≤wc.drew.heap.size:=HSt13.out.sz
       have hbm14:bm<wc.drew.heap.size:=(jL HRw13.out)
       clear d1 e1;generalize wc.drew=w9' at*;refine' kAd (i:=0) (v:=_) [1,3,4,5] (by kernel_rfl) rfl (by kernel_rfl) (fun _ _ _ h=>h) (by rfl) (by rintro w' ⟨c0,c1⟩;go_simp;try with_reducible rfl) HCx.out ?_;simp only[jA,jB,jC,Act.put,jD,jE,jF];refine' kAd (i:=1) (v:=_) [3,4,5] (by kernel_rfl) rfl (by kernel_rfl) (fun _ _ _ h=>h) (by rfl) (by rintro w' ⟨c0,c1⟩;go_simp;try with_reducible rfl) HCx.out ?_;simp only[jA,jB,jC,Act.put,jD,jE,jF];refine' kAd (i:=2) (v:=_) [3,4,5] (by kernel_rfl) rfl (by kernel_rfl) (fun _ _ _ h=>h) (by rfl) (by rintro w' ⟨c0,c1⟩;go_simp;try with_reducible rfl) HCx.out ?_;simp only[jA,jB,jC,Act.put,jD,jE,jF]
       have hnl8:64*S.mids.length≤1114112:=by omega
       refine kE1 (i:=3) elI (by kernel_rfl) rfl (by kernel_rfl) (by rfl) (.tmp 132) (.tmp 133) rfl HO9.out hsz14 (m:=64) (by rw[kCy,kBp,kEd]) HV9.out (kHa _ _) (by omega) (by unfold maxLen;omega) rfl rfl (fun w' hg=>HKB.out w' hg) ?_;intro a2 c2 w10 ho10 hg10 hn10;simp only[jA,jB,jC,Act.put,jD,jE,jF];refine kA3 4 (by rfl) (by kernel_rfl) (by kernel_rfl) ?_;simp only[List.drop_succ_cons,List.drop_zero];obtain⟨d2,e2⟩:=HKB.out w10 hg10;have HP:=jH (H14.out.pushM (kG4 F t) (kEd _ _) ho10 hg10 hn10)
       have HB10:Hid (Below c w2 (w10.setCell ⟨c,1,none⟩ (.slice a2 (64*S.mids.length+64) c2))):=jH
        ((HB14.out.trans ((Below.refl c _).grown hg10 (by omega) (fun q e=>by rw[kBf]at e;have:=hbd q e;omega))).setCell (p:=⟨c,1,none⟩) jR _)
       clear ho10 hg10 hn10
       gi_wp2
       go_meet
       case rel=>exact⟨a2,c2,by have:=HP.out;rw[←HLow.out]at this;exact this,HB10.out⟩
      ·have hlow:S1.mids=S.mids:=by
        rw[HRow.out.1];unfold kBe;have:=HXn.out.2;rw[show kAo kDl (kG4 F t) S.mids=kAo (fun a b=>decide (a=b)) (kG4 F t) S.mids from rfl]
        cases hf:kAo (fun a b=>decide (a=b)) (kG4 F t) S.mids with
        | none=>rw[hf]at this;cases this
        | some q=>rfl
       have HLow:=jH hlow;clear hlow
       go_wp2
       go_meet
       case rel=>exact⟨aM1,cM1,by have:=HSt13.out;rw[HLow.out]at this ⊢;exact this,HB13.out⟩
     case rest=>
      obtain⟨aM2,cM2,hst,hbel⟩:=hcut
      have HSt:=jH hst;have HBl:=jH hbel
      clear hst hbel HSt13 HRw13 HB13 HBk13
      have htl:(S.top.take t).length=t:=by rw[List.length_take,HTw.out];omega
      have elI:kLo Try.prog 61 3 (.int .i64 0) 8:=⟨Try.underlying61,by kernel_rfl,by kernel_rfl⟩
      have d1:wc.cell? ⟨c,0,none⟩=some (.slice aT1 t cT1):=by
       have:=jK wc c 0 _ _ (0,0) HSt.out.s;rw[htl]at this;exact this
      have e1:wc.frozen? ⟨c,0,none⟩=false:=jO wc c 0 _ _ HSt.out.s;have HO:Hid (Own (c+3) 3 wc aT1 t cT1 (ivs .i64 (kBr (S.top.take t)))):=jH (by have:=HSt.out.rt;rwa[htl]at this);have hsz:=HSt.out.sz
      have HTl:=jH htl;clear htl
      go_wp2_with (at_builtin;refine kFl elI rfl (.tmp 137) (.tmp 139) rfl HO.out hsz (by omega) (by omega) (.int .i64 (xn:Nat)) rfl _ rfl rfl ?_)
      intro a2 c2 w10 ho10 hg10 hn10
      have HP:Hid (kC2 c S1.lows S1.mids (S.top.take t++[xn]) S1.mids S1.lows a2 c2 aM2 cM2 aL1 cL1 (w10.setCell ⟨c,0,none⟩ (.slice a2 (t+1) c2))):=jH (by
       have:=HSt.out.pushT xn (aT':=a2) (cT':=c2) (by rw[HTl.out];exact ho10) (by rw[HTl.out];exact hg10) (by rw[HTl.out];exact hn10);rw[HTl.out]at this
       exact this)
      have hbd:=HSt.out.bT;have d2:w10.cell? ⟨c,0,none⟩=some (.slice aT1 t cT1):=kAv hg10 d1 (fun q e=>by rw[kBf]at e;have:=hbd q e;omega);have e2:w10.frozen? ⟨c,0,none⟩=false:=jO w10 c 0 _ _ ((kAr hg10 (jL HSt.out.s) (fun q e=>by rw[kBf]at e;have:=hbd q e;omega)).trans HSt.out.s);have HB10:Hid (Below c w2 (w10.setCell ⟨c,0,none⟩ (.slice a2 (t+1) c2))):=jH ((HBl.out.trans ((Below.refl c _).grown hg10 (by omega) (fun q e=>by rw[kBf]at e;have:=hbd q e;omega))).setCell (p:=⟨c,0,none⟩) jR _);clear ho10 hg10 hn10 d1 e1 hbd;go_wp2
      go_roundw
      case rel=>
       refine⟨t+1,i,nn,last,a2,c2,aM2,cM2,aL1,cL1,by omega,rfl,rfl,rfl,by go_num,HCu.out,HLa.out,?_,HB10.out⟩;have hx:xn=(kBe kDl S.mids (kG4 F t)).2:=HXn.out.1;rw[←HSs.out.1,HTp.out,←hx];exact HP.out
      case measure=>simp[intOf];omega
  ·obtain⟨S,hS⟩:∃S,S=mkF F (64*t):=⟨_,rfl⟩
   rw[←hS]at HSt
   have hSM:S=mkF F M:=by rw[hS,HM.out];congr 1;omega
   have hw:S.top.length=272:=by rw[hS];exact(kC4 F (64*t)).1.top
   have ht2:S.top.take t=S.top:=List.take_of_length_le (by omega);rw[ht2]at HSt;have HSM:=jH hSM
   obtain rfl:t=272:=by omega
   have hti:¬((272:Nat):Int)<272:=by omega
   clear hS hSM hw ht2 HLa HCu;have x1:=(HBl.out.block (b0+1) (by have:=HC.out.1;omega)).trans HR2.out
   have HX1:=jH x1;clear x1
   have HI1:=jH HSt.out.rt.ints;have HI2:=jH HSt.out.rm.ints;have HI3:=jH HSt.out.rl.ints
   have HBd:=jH (And.intro HSt.out.bT (And.intro HSt.out.bM HSt.out.bL))
   go_upto_region 38 with(fail)
   refine wp_region_list ?_;refine wpList_load_row rfl 70 (.tmp 3) rfl c rfl _ _ _ _ HSt.out.s Try.underlying70 rfl (by kernel_rfl) ?_;refine wpList_store_row rfl 70 (.tmp 2) (.tmp 142) rfl (b0+1) _ rfl rfl 70 _ HX1.out (by kernel_rfl) rfl (by simp[Value.oneCell']) ?_;clear HSt;have y3:=setRow_heap wr (b0+1) _ #[.slice aT1 S.top.length cT1,.slice aM1 (64*S.mids.length) cM1,.slice aL1 (64*S.lows.length) cL1] _ _ HX1.out
   have ho:Off (fun k=>k=b0+1) wr (wr.setRow (b0+1) #[.slice aT1 S.top.length cT1,.slice aM1 (64*S.mids.length) cM1,.slice aL1 (64*S.lows.length) cL1]):=⟨rfl,rfl,rfl,by rw[setRow_size];exact Nat.le_refl _,fun k _ hk=>setRow_other wr (b0+1) k _ hk⟩
   generalize (wr.setRow (b0+1) #[.slice aT1 S.top.length cT1,.slice aM1 (64*S.mids.length) cM1,.slice aL1 (64*S.lows.length) cL1])=wz at*
   have HY:=jH (And.intro y3 ho);clear y3 ho
   go_step
   go_step
   go_step
   go_step
   refine jS (results_cell_row Try.results38 _ _ (b0+1) _ _ _ _ rfl HY.out.1 Try.underlying70 rfl (by kernel_rfl)) rfl ?_;have ho:=HY.out.2;have hcb:=HC.out.1
   refine⟨_,rfl,⟨aT1,cT1,aM1,cM1,aL1,cL1,by rw[←HSM.out],?_,?_,?_⟩,?_,⟨aT1,_,cT1,aM1,_,cM1,aL1,_,cL1,rfl,fun x e=> ?_,fun x e=> ?_,fun x e=> ?_⟩⟩
   ·rw[←HSM.out];exact kJt HI1.out ho (fun b o e h=>by subst e;have:=HBd.out.1 b rfl;omega)
   ·rw[←HSM.out];exact kJt HI2.out ho (fun b o e h=>by subst e;have:=HBd.out.2.1 b rfl;omega)
   ·rw[←HSM.out];exact kJt HI3.out ho (fun b o e h=>by subst e;have:=HBd.out.2.2 b rfl;omega)
   ·have hs:=HC.out.2.1;exact(HB2.out.trans (HBl.out.mono (by omega))).trans (ho.below _ (by have:=HBl.out.size;have:=HC.out.2.2;omega) (fun k e=>by omega))
   ·subst e;have:=HBd.out.1 x.block rfl;have:=HC.out.2.1;omega
   ·subst e;have:=HBd.out.2.1 x.block rfl;have:=HC.out.2.1;omega
   ·subst e;have:=HBd.out.2.2 x.block rfl;have:=HC.out.2.1;omega
theorem kFm (w:World)(fv:Value)(F:Nat→Int)(N M:Nat)(hN:N=1114112)(hM:M=17408)(hf:kH9 w fv (kAt F N)):
  Calls Try.prog 38 #[fv] w fun e w'=>∃sv,e= .returned sv∧kB0 w' sv (mkF F M)∧Below w.heap.size w w':=by
 refine(kI6 w fv F N M hN hM hf).mono ?_;rintro e w' ⟨sv,h1,h2,h3, -⟩;exact⟨sv,h1,h2,h3⟩
end Go.Proofs.Ytabbabkmojaoaaa
