/- several texts in one: U4 UO -/
import Derived.Test.YtbmphakfgoompaaGreatOS8
import Derived.Test.YtbmphakfgoompaaGreatO1
import Derived.Test.YtbmphakfgoompaaGreatO3
import Derived.Test.YtbmphakfgoompaaGreatOK
import Derived.Test.YtbmphakfgoompaaGreatOX8
import Derived.Test.YtbmphakfgoompaaGreatOXJ
set_option linter.unusedVariables false
set_option linter.unusedSimpArgs false
set_option maxRecDepth 100000
set_option maxHeartbeats 16000000
namespace Go.Proofs.YtbmphakfgoompaaGreat
open Go.RowKit
attribute [local go_sem] Oper.semAt_some kN1
def FiAxJ (tmps:Array Value) (T:Nat→Prop) (x:kA3 Int) (a':Act) (W:World):Prop:=
 ∃bX,a'={tmps:=(tmps.setIfInBounds 8 (.agg #[.int .i32 (x.f:Nat),.int .i32 (x.t:Nat),VJ.val8 x.v])).setIfInBounds 5 (.pointer (some ⟨bX,0,none⟩)),defers:=[]}∧W.heap[bX]? =some (.cells #[.int .i32 (x.f:Nat),.int .i32 (x.t:Nat),VJ.val8 x.v] 164 (0,0))∧¬T bX
theorem kGi (w:World)(g:Nat)(T:kAp Int)(hk:kBk T)(h0:0<T.low.length)(ht:kAu VJ.val8 152 64 w g T)(cf:Nat)(bs lb:Array Value)(f:Nat→Int)(q:Int→Bool)(N:Nat)(hN:N=1114112)
  (hfl:∀r,r<N→kAo (0:Int) T r=f r)(eg:∀args W,(callFunc cf args).run Tryz.prog W= .ok (.enter cf args) W)
  (hcall:∀v W,Below w.heap.size w W→Calls Tryz.prog cf (bs.push (.int .i32 v)++lb) W fun e W'=>e= .returned (.bool (q v))∧∃n,W'=W.drewN n):
  Calls Tryz.prog 38 #[.pointer (some ⟨g,0,none⟩),.func (.func cf) bs lb] w fun e w'=>∃m:Nat,e= .returned (.int .i32 (m:Nat))∧kBd (fun r=>q (f r)) N m∧Below w.heap.size w w':=by
 have HCl:=jH hcall;clear hcall
 have HFl:=jH hfl;clear hfl
 have HEg:=jH eg;clear eg
 have HN:=jH hN;clear hN
 have HT:=jH ht;clear ht
 have HOk:=jH hk;clear hk
 have a1:=jN w (.cells #[.func (.func cf) bs lb] 105);have s1:=World.size_alloc w (.cells #[.func (.func cf) bs lb] 105);have b1:=(Below.refl _ w).alloc jR (.cells #[.func (.func cf) bs lb] 105)
 obtain⟨w1,hw1⟩:∃w1,w.alloc (.cells #[.func (.func cf) bs lb] 105)=w1:=⟨_,rfl⟩
 rw[hw1]at a1 s1 b1;have a2:=jN w1 (.cells #[.int .i32 0] 21);have s2:=World.size_alloc w1 (.cells #[.int .i32 0] 21);have b2:=(Below.refl _ w1).alloc jR (.cells #[.int .i32 0] 21);have H1:=jH (And.intro hw1 (And.intro a1 (And.intro s1 (And.intro b1 (And.intro a2 (And.intro s2 b2))))));clear a1 s1 b1 a2 s2 b2 hw1;refine kB0 Tryz.func38 rfl ?_;simp only[Tryz.ntmps38,List.size_toArray,List.length_cons,List.length_nil,Nat.reduceAdd,Nat.reduceSub,Array.replicate_succ,Array.replicate_zero,List.push_toArray,List.append_toArray,List.nil_append,List.cons_append]
 go_upto_region 1 with(fail)
 rw[H1.out.1];obtain⟨-,a1,s1,b1,a2,s2,b2⟩:=H1.out;clear H1
 obtain⟨bF,hbF⟩:∃bF,bF=w.heap.size:=⟨_,rfl⟩
 rw[←hbF]at a1 ⊢;rw[show w1.heap.size=bF+1 by omega]at a2;have hbF2:w.heap.size≤bF:=Nat.le_of_eq hbF.symm;generalize w1.alloc (.cells #[.int .i32 0] 21)=w2 at*;have HA:=jH (And.intro ((b2.block bF (by omega)).trans a1) (And.intro a2 (b1.trans (b2.mono (by omega)))))
 have hs2:w2.heap.size=bF+2:=by omega
 clear a1 b1 a2 b2 s1 s2 hbF
 go_wp2_with fail
 refine(kL4 (some ⟨g,0,none⟩) w2).mono ?_;rintro e w3 ⟨rfl,c3,hz3,hb3⟩;have HA3:=jH (And.intro ((hb3.block bF (by omega)).trans HA.out.1) (And.intro ((hb3.block (bF+1) (by omega)).trans HA.out.2.1) (HA.out.2.2.trans (hb3.mono (by omega)))));clear hb3 HA;rw[hs2]at c3 ⊢
 have hs3:w3.heap.size=bF+3:=by omega
 have HSeq:=jH (VJ.spans_stops w g T HOk.out h0 HT.out (bF+2) (fun k=>k<w3.heap.size∧k≠bF+1) w3 (kH5 HA3.out.2.2) HA3.out.2.2.size (fun k hk=>⟨by omega,by omega⟩) ⟨by omega,by omega⟩ c3 N HN.out);clear c3 hz3 hs2;go_wp2
 refine kE1 (gf:=118) (lb:= #[.pointer (some ⟨bF+2,0,none⟩)]) rfl (enters_of Tryz.func118 (by kernel_rfl) rfl) HSeq.out (Below.refl _ _) (fun k hk=>hk.1) (fun _=>rfl)
  (AmI w3 (bF+1) (fun r=>q (f r))) (AmX w3 (bF+1) (fun r=>q (f r)) N) (AmI.abide (by omega)) (AmX.abide (by omega)) ⟨⟨But.refl _ _ _,HA3.out.2.1,fun _ h=>h.elim⟩,fun _ h=>absurd h (by simp)⟩
  FiAxJ (fun T x a' W W' h ho=>by obtain⟨bX,h1,h2,h3⟩:=h;exact⟨bX,h1,ho.cellsBlock h2 h3,h3⟩) ?assign ?body ?done ?stop
 case assign=>
  rintro l Tt pre x W K hi hK
  have HK:=jH hK;clear hK
  have hA:=jN W (.cells #[.int .i32 (x.f:Nat),.int .i32 (x.t:Nat),VJ.val8 x.v] 164);have hB:=(Below.refl W.heap.size W).alloc jR (.cells #[.int .i32 (x.f:Nat),.int .i32 (x.t:Nat),VJ.val8 x.v] 164);have hI:AmI w3 (bF+1) (fun r=>q (f r)) Tt pre (W.alloc (.cells #[.int .i32 (x.f:Nat),.int .i32 (x.t:Nat),VJ.val8 x.v] 164)):=AmI.abide (by omega) _ _ _ _ _ hi (Off.of_below hB) (kB4.refl _ _ _);have HH:=jH (And.intro hB (And.intro hI (And.intro hA (show ¬Tt W.heap.size from fun e=>Nat.lt_irrefl _ (hi.1.tn _ e).2))));clear hA hB hI hi;simp only[VJ.encQ];unfold VJ.val8
  gi_wp2
  exact HK.out _ _ (kEk.of_below HH.out.1) HH.out.2.1 ⟨W.heap.size,rfl,HH.out.2.2⟩
 case body=>
  rintro lp Tt pre x a' W hTl hl - hst hA hlen hsp;obtain⟨bX,rfl,hX,hXT⟩:=hA;obtain⟨kq, -, -,hpk⟩:=hsp
  have hN0:N≠0:=by have:=HN.out;omega
  have hat:At (kAo (0:Int) T) N pre x:=kM9 hN0 hpk;have HV:Hid (∀r,x.f≤r→r≤x.t→f r=x.v):=jH (fun r h1 h2=>by rw[←HFl.out r (by have:=hat.lt;omega)];exact hat.val r h1 h2);have HPre:=jH hat.pre;have hx1:=hat.le;have hx2:=hat.lt;have hNN:=HN.out;have HSt:=jH hst;have HX:=jH hX;have q0:=jK W bX 0 _ _ (0,0) hX;have q2:=jK W bX 2 _ _ (0,0) hX;simp at q0 q2;unfold VJ.val8 at q2;obtain⟨xf,xt,xv⟩:=x
  dsimp only at HV hx1 hx2 q0 q2 HPre
  clear hat hst hX hpk hlen;have k1:=jK W (bF+1) 0 _ _ (0,0) HSt.out.1.cM;have kF:W.cell? ⟨bF,0,none⟩=some (.func (.func cf) bs lb):=HSt.out.1.but.cell (jK w3 bF 0 _ _ (0,0) HA3.out.1) (by omega) (by omega);have hb6:Below w.heap.size w W:=HA3.out.2.2.trans (HSt.out.1.but.below w.heap.size (by omega) (fun k hk=>by rw[hk];omega));have HC6:=jH (HCl.out xv W hb6);clear hb6;have eg:=HEg.out
  gi_wp2_with fail
  clear eg;refine(CallsIn.inRound lp (callsIn_wide.2 HC6.out)).mono ?_;rintro e w9 ⟨rfl,nq,hw9⟩;clear HC6
  have hb:bF+1<w3.heap.size:=by omega
  have hst9:kR0 w3 (bF+1) 0 Tt w9:=HSt.out.1.off (T':=Tt) hb (Off.of_below (by rw[hw9];exact below_drewN (Below.refl _ W) nq)) (kB4.refl _ _ _)
  have hk9:∀R,kEk Tt R W w9:=fun R=>kEk.of_below (by rw[hw9];exact below_drewN (Below.refl _ W) nq)
  have HK9:=jH hk9;have HS9:=jH hst9;have f1:=jK w9 (bF+1) 0 _ _ (0,0) hst9.cM;have f2:=jO w9 (bF+1) 0 _ _ hst9.cM
  have f3:w9.cell? ⟨bX,0,none⟩=some (.int .i32 (xf:Nat)):=by rw[hw9];exact q0
  clear hst9 hk9 hb q0 q2 k1 kF hw9
  by_cases hq:q xv=true
  ·have HQ:=jH hq;rw[hq];clear hq
   gi_wp2
   have hst:=HS9.out
   refine⟨(HK9.out _).trans ⟨by simp,fun k hk h=> ?_⟩,xf,⟨hst.but.setCell (bF+1) 0 _ (.inl rfl),?_,fun k hk=>by have:=hst.tn k hk;simpa using this⟩,rfl,?_⟩
   ·rw[jQ _ ⟨bF+1,0,none⟩ k _ (by
     rcases h with h | h
     ·have:=hst.tn k h;simp;omega
     ·exact h.elim)]
   ·have:=jP _ (bF+1) 0 _ _ (.int .i32 (xf:Nat)) hst.cM
    simpa using this
   ·refine .hit (by omega) ?_ fun j hj=> ?_
    ·show q (f xf)=true;rw[HV.out xf jR hx1];exact HQ.out
    ·obtain⟨s,hs,h3,h4⟩:=HPre.out j (by show j<xf;omega);exact HSt.out.2 s hs j h3 h4
  ·have hq':q xv=false:=by simpa using hq
   have HQ:=jH hq';rw[hq'];clear hq hq'
   gi_wp2
   refine⟨HK9.out _,HS9.out,fun s hs r h1 h2=> ?_⟩
   rcases List.mem_append.1 hs with hs | hs
   ·exact HSt.out.2 s hs r h1 h2
   ·obtain rfl:=List.mem_singleton.1 hs;show q (f r)=false;rw[HV.out r h1 h2];exact HQ.out
 case done=>
  rintro D Tt xs W hD hTD hxs ⟨hst,hno⟩ hDk;have HSt:=jH hst;have q1:=jK W (bF+1) 0 _ _ (0,0) hst.cM;have f1:=jO W (bF+1) 0 _ _ hst.cM;have HNo:=jH hno;have HDk:=jH hDk;have HXs:=jH hxs;have HTD:=jH hTD;clear hst hno hDk hxs hTD;have q2:=World.cell?_setCell_same' W ⟨bF+1,0,none⟩ (.int .i32 1114112) (by rw[q1];rfl);go_wp2
  refine kB5 (by rw[jQ W ⟨bF+1,0,none⟩ D _ (by simp;omega)];exact HDk.out) (kBy (v:= .int .i32 1114112) ?_ ?_)
  ·have q:=kEn q2 D (.deferred none) (by omega);simp[results,Tryz.results38,go_sem,q]
  ·refine⟨N,by rw[HN.out];rfl,.none (fun r hr=> ?_),?_⟩
   ·obtain⟨s,hs,h1,h2⟩:=kK0 (f:=kAo (0:Int) T) (N:=N) (by have:=HN.out;omega) r hr;exact HNo.out s (by rw[HXs.out];exact hs) r h1 h2
   ·have hW:Below w.heap.size w W:=HA3.out.2.2.trans (HSt.out.but.below w.heap.size (by omega) (fun k hk=>by rw[hk];omega));exact kDu (hW.setCell (p:=⟨bF+1,0,none⟩) (by show w.heap.size≤bF+1;omega) _) D _ (by omega)
 case stop=>
  rintro D c Tt pre W hD hTD - ⟨m,hst,rfl,hm⟩ hDk;have HSt:=jH hst;have q1:=jK W (bF+1) 0 _ _ (0,0) hst.cM;have HM:=jH hm;have HDk:=jH hDk;clear hst hm hDk;go_wp2
  refine kB5 HDk.out (kBy (v:= .int .i32 (m:Nat)) ?_ ?_)
  ·have q:=kEn q1 D (.deferred none) (by omega);simp[results,Tryz.results38,go_sem,q]
  ·refine⟨m,rfl,HM.out,?_⟩;have hW:Below w.heap.size w W:=HA3.out.2.2.trans (HSt.out.but.below w.heap.size (by omega) (fun k hk=>by rw[hk];omega));exact kDu hW D _ (by omega)
def FiAx8 (tmps:Array Value) (T:Nat→Prop) (x:kA3 Int) (a':Act) (W:World):Prop:=
 ∃bX,a'={tmps:=(tmps.setIfInBounds 8 (.agg #[.int .i32 (x.f:Nat),.int .i32 (x.t:Nat),val8 x.v])).setIfInBounds 5 (.pointer (some ⟨bX,0,none⟩)),defers:=[]}∧W.heap[bX]? =some (.cells #[.int .i32 (x.f:Nat),.int .i32 (x.t:Nat),val8 x.v] 159 (0,0))∧¬T bX
theorem kP0 (q:Option Addr)(w:World):Calls Tryz.prog 86 #[.pointer q] w fun e w'=>e= .returned (.func (.func 115) #[] #[.pointer (some ⟨w.heap.size,0,none⟩)])∧w'.cell? ⟨w.heap.size,0,none⟩=some (.pointer q)∧w'.heap.size=w.heap.size+1∧Below w.heap.size w w':=by
 go_enter Tryz.func86,Tryz.ntmps86
 have q0:=jN w (.cells #[.pointer q] 96);have hz:=World.size_alloc w (.cells #[.pointer q] 96);have hb:=(Below.refl _ w).alloc jR (.cells #[.pointer q] 96)
 have HH:=jH (And.intro q0 (And.intro hz hb));clear q0 hz hb
 go_wp2
 go_ret
 exact⟨rfl,jK _ _ 0 _ _ (0,0) HH.out.1,HH.out.2.1,HH.out.2.2⟩
theorem kNk (w:World)(g:Nat)(T:kAp Int)(hk:kBk T)(h0:0<T.low.length)(ht:kAu val8 141 64 w g T)(cf:Nat)(bs lb:Array Value)(f:Nat→Int)(q:Int→Bool)(N:Nat)(hN:N=1114112)
  (hfl:∀r,r<N→kAo (0:Int) T r=f r)(eg:∀args W,(callFunc cf args).run Tryz.prog W= .ok (.enter cf args) W)
  (hcall:∀v W,Below w.heap.size w W→Calls Tryz.prog cf (bs.push (.int .u8 v)++lb) W fun e W'=>e= .returned (.bool (q v))∧∃n,W'=W.drewN n):
  Calls Tryz.prog 37 #[.pointer (some ⟨g,0,none⟩),.func (.func cf) bs lb] w fun e w'=>∃m:Nat,e= .returned (.int .i32 (m:Nat))∧kBd (fun r=>q (f r)) N m∧Below w.heap.size w w':=by
 have HCl:=jH hcall;clear hcall
 have HFl:=jH hfl;clear hfl
 have HEg:=jH eg;clear eg
 have HN:=jH hN;clear hN
 have HT:=jH ht;clear ht
 have HOk:=jH hk;clear hk
 have a1:=jN w (.cells #[.func (.func cf) bs lb] 104);have s1:=World.size_alloc w (.cells #[.func (.func cf) bs lb] 104);have b1:=(Below.refl _ w).alloc jR (.cells #[.func (.func cf) bs lb] 104)
 obtain⟨w1,hw1⟩:∃w1,w.alloc (.cells #[.func (.func cf) bs lb] 104)=w1:=⟨_,rfl⟩
 rw[hw1]at a1 s1 b1;have a2:=jN w1 (.cells #[.int .i32 0] 21);have s2:=World.size_alloc w1 (.cells #[.int .i32 0] 21);have b2:=(Below.refl _ w1).alloc jR (.cells #[.int .i32 0] 21);have H1:=jH (And.intro hw1 (And.intro a1 (And.intro s1 (And.intro b1 (And.intro a2 (And.intro s2 b2))))));clear a1 s1 b1 a2 s2 b2 hw1;refine kB0 Tryz.func37 rfl ?_;simp only[Tryz.ntmps37,List.size_toArray,List.length_cons,List.length_nil,Nat.reduceAdd,Nat.reduceSub,Array.replicate_succ,Array.replicate_zero,List.push_toArray,List.append_toArray,List.nil_append,List.cons_append]
 go_upto_region 1 with(fail)
 rw[H1.out.1];obtain⟨-,a1,s1,b1,a2,s2,b2⟩:=H1.out;clear H1
 obtain⟨bF,hbF⟩:∃bF,bF=w.heap.size:=⟨_,rfl⟩
 rw[←hbF]at a1 ⊢;rw[show w1.heap.size=bF+1 by omega]at a2;have hbF2:w.heap.size≤bF:=Nat.le_of_eq hbF.symm;generalize w1.alloc (.cells #[.int .i32 0] 21)=w2 at*;have HA:=jH (And.intro ((b2.block bF (by omega)).trans a1) (And.intro a2 (b1.trans (b2.mono (by omega)))))
 have hs2:w2.heap.size=bF+2:=by omega
 clear a1 b1 a2 b2 s1 s2 hbF
 go_wp2_with fail
 refine(kP0 (some ⟨g,0,none⟩) w2).mono ?_;rintro e w3 ⟨rfl,c3,hz3,hb3⟩;have HA3:=jH (And.intro ((hb3.block bF (by omega)).trans HA.out.1) (And.intro ((hb3.block (bF+1) (by omega)).trans HA.out.2.1) (HA.out.2.2.trans (hb3.mono (by omega)))));clear hb3 HA;rw[hs2]at c3 ⊢
 have hs3:w3.heap.size=bF+3:=by omega
 have HSeq:=jH (spans_stops w g T HOk.out h0 HT.out (bF+2) (fun k=>k<w3.heap.size∧k≠bF+1) w3 (kH5 HA3.out.2.2) HA3.out.2.2.size (fun k hk=>⟨by omega,by omega⟩) ⟨by omega,by omega⟩ c3 N HN.out);clear c3 hz3 hs2;go_wp2
 refine kE1 (gf:=115) (lb:= #[.pointer (some ⟨bF+2,0,none⟩)]) rfl (enters_of Tryz.func115 (by kernel_rfl) rfl) HSeq.out (Below.refl _ _) (fun k hk=>hk.1) (fun _=>rfl)
  (AmI w3 (bF+1) (fun r=>q (f r))) (AmX w3 (bF+1) (fun r=>q (f r)) N) (AmI.abide (by omega)) (AmX.abide (by omega)) ⟨⟨But.refl _ _ _,HA3.out.2.1,fun _ h=>h.elim⟩,fun _ h=>absurd h (by simp)⟩
  FiAx8 (fun T x a' W W' h ho=>by obtain⟨bX,h1,h2,h3⟩:=h;exact⟨bX,h1,ho.cellsBlock h2 h3,h3⟩) ?assign ?body ?done ?stop
 case assign=>
  rintro l Tt pre x W K hi hK
  have HK:=jH hK;clear hK
  have hA:=jN W (.cells #[.int .i32 (x.f:Nat),.int .i32 (x.t:Nat),val8 x.v] 159);have hB:=(Below.refl W.heap.size W).alloc jR (.cells #[.int .i32 (x.f:Nat),.int .i32 (x.t:Nat),val8 x.v] 159);have hI:AmI w3 (bF+1) (fun r=>q (f r)) Tt pre (W.alloc (.cells #[.int .i32 (x.f:Nat),.int .i32 (x.t:Nat),val8 x.v] 159)):=AmI.abide (by omega) _ _ _ _ _ hi (Off.of_below hB) (kB4.refl _ _ _);have HH:=jH (And.intro hB (And.intro hI (And.intro hA (show ¬Tt W.heap.size from fun e=>Nat.lt_irrefl _ (hi.1.tn _ e).2))));clear hA hB hI hi;simp only[encQ];unfold val8
  gi_wp2
  exact HK.out _ _ (kEk.of_below HH.out.1) HH.out.2.1 ⟨W.heap.size,rfl,HH.out.2.2⟩
 case body=>
  rintro lp Tt pre x a' W hTl hl - hst hA hlen hsp;obtain⟨bX,rfl,hX,hXT⟩:=hA;obtain⟨kq, -, -,hpk⟩:=hsp
  have hN0:N≠0:=by have:=HN.out;omega
  have hat:At (kAo (0:Int) T) N pre x:=kM9 hN0 hpk;have HV:Hid (∀r,x.f≤r→r≤x.t→f r=x.v):=jH (fun r h1 h2=>by rw[←HFl.out r (by have:=hat.lt;omega)];exact hat.val r h1 h2);have HPre:=jH hat.pre;have hx1:=hat.le;have hx2:=hat.lt;have hNN:=HN.out;have HSt:=jH hst;have HX:=jH hX;have q0:=jK W bX 0 _ _ (0,0) hX;have q2:=jK W bX 2 _ _ (0,0) hX;simp at q0 q2;unfold val8 at q2;obtain⟨xf,xt,xv⟩:=x
  dsimp only at HV hx1 hx2 q0 q2 HPre
  clear hat hst hX hpk hlen;have k1:=jK W (bF+1) 0 _ _ (0,0) HSt.out.1.cM;have kF:W.cell? ⟨bF,0,none⟩=some (.func (.func cf) bs lb):=HSt.out.1.but.cell (jK w3 bF 0 _ _ (0,0) HA3.out.1) (by omega) (by omega);have hb6:Below w.heap.size w W:=HA3.out.2.2.trans (HSt.out.1.but.below w.heap.size (by omega) (fun k hk=>by rw[hk];omega));have HC6:=jH (HCl.out xv W hb6);clear hb6;have eg:=HEg.out
  gi_wp2_with fail
  clear eg;refine(CallsIn.inRound lp (callsIn_wide.2 HC6.out)).mono ?_;rintro e w9 ⟨rfl,nq,hw9⟩;clear HC6
  have hb:bF+1<w3.heap.size:=by omega
  have hst9:kR0 w3 (bF+1) 0 Tt w9:=HSt.out.1.off (T':=Tt) hb (Off.of_below (by rw[hw9];exact below_drewN (Below.refl _ W) nq)) (kB4.refl _ _ _)
  have hk9:∀R,kEk Tt R W w9:=fun R=>kEk.of_below (by rw[hw9];exact below_drewN (Below.refl _ W) nq)
  have HK9:=jH hk9;have HS9:=jH hst9;have f1:=jK w9 (bF+1) 0 _ _ (0,0) hst9.cM;have f2:=jO w9 (bF+1) 0 _ _ hst9.cM
  have f3:w9.cell? ⟨bX,0,none⟩=some (.int .i32 (xf:Nat)):=by rw[hw9];exact q0
  clear hst9 hk9 hb q0 q2 k1 kF hw9
  by_cases hq:q xv=true
  ·have HQ:=jH hq;rw[hq];clear hq
   gi_wp2
   have hst:=HS9.out
   refine⟨(HK9.out _).trans ⟨by simp,fun k hk h=> ?_⟩,xf,⟨hst.but.setCell (bF+1) 0 _ (.inl rfl),?_,fun k hk=>by have:=hst.tn k hk;simpa using this⟩,rfl,?_⟩
   ·rw[jQ _ ⟨bF+1,0,none⟩ k _ (by
     rcases h with h | h
     ·have:=hst.tn k h;simp;omega
     ·exact h.elim)]
   ·have:=jP _ (bF+1) 0 _ _ (.int .i32 (xf:Nat)) hst.cM
    simpa using this
   ·refine .hit (by omega) ?_ fun j hj=> ?_
    ·show q (f xf)=true;rw[HV.out xf jR hx1];exact HQ.out
    ·obtain⟨s,hs,h3,h4⟩:=HPre.out j (by show j<xf;omega);exact HSt.out.2 s hs j h3 h4
  ·have hq':q xv=false:=by simpa using hq
   have HQ:=jH hq';rw[hq'];clear hq hq'
   gi_wp2
   refine⟨HK9.out _,HS9.out,fun s hs r h1 h2=> ?_⟩
   rcases List.mem_append.1 hs with hs | hs
   ·exact HSt.out.2 s hs r h1 h2
   ·obtain rfl:=List.mem_singleton.1 hs;show q (f r)=false;rw[HV.out r h1 h2];exact HQ.out
 case done=>
  rintro D Tt xs W hD hTD hxs ⟨hst,hno⟩ hDk;have HSt:=jH hst;have q1:=jK W (bF+1) 0 _ _ (0,0) hst.cM;have f1:=jO W (bF+1) 0 _ _ hst.cM;have HNo:=jH hno;have HDk:=jH hDk;have HXs:=jH hxs;have HTD:=jH hTD;clear hst hno hDk hxs hTD;have q2:=World.cell?_setCell_same' W ⟨bF+1,0,none⟩ (.int .i32 1114112) (by rw[q1];rfl);go_wp2
  refine kB5 (by rw[jQ W ⟨bF+1,0,none⟩ D _ (by simp;omega)];exact HDk.out) (kBy (v:= .int .i32 1114112) ?_ ?_)
  ·have q:=kEn q2 D (.deferred none) (by omega);simp[results,Tryz.results37,go_sem,q]
  ·refine⟨N,by rw[HN.out];rfl,.none (fun r hr=> ?_),?_⟩
   ·obtain⟨s,hs,h1,h2⟩:=kK0 (f:=kAo (0:Int) T) (N:=N) (by have:=HN.out;omega) r hr;exact HNo.out s (by rw[HXs.out];exact hs) r h1 h2
   ·have hW:Below w.heap.size w W:=HA3.out.2.2.trans (HSt.out.but.below w.heap.size (by omega) (fun k hk=>by rw[hk];omega));exact kDu (hW.setCell (p:=⟨bF+1,0,none⟩) (by show w.heap.size≤bF+1;omega) _) D _ (by omega)
 case stop=>
  rintro D c Tt pre W hD hTD - ⟨m,hst,rfl,hm⟩ hDk;have HSt:=jH hst;have q1:=jK W (bF+1) 0 _ _ (0,0) hst.cM;have HM:=jH hm;have HDk:=jH hDk;clear hst hm hDk;go_wp2
  refine kB5 HDk.out (kBy (v:= .int .i32 (m:Nat)) ?_ ?_)
  ·have q:=kEn q1 D (.deferred none) (by omega);simp[results,Tryz.results37,go_sem,q]
  ·refine⟨m,rfl,HM.out,?_⟩;have hW:Below w.heap.size w W:=HA3.out.2.2.trans (HSt.out.but.below w.heap.size (by omega) (fun k hk=>by rw[hk];omega));exact kDu hW D _ (by omega)
end Go.Proofs.YtbmphakfgoompaaGreat

namespace Go.Proofs.YtbmphakfgoompaaGreat
open Go.RowKit
def kRy (v:Int):Bool:=decide (v<0∨1114112<v)
def kE5 (v:Int):Bool:=decide (v< -1114112∨1114112<v)
theorem kPe (c:Int)(w:World):Calls Tryz.prog 33 #[.int .u8 c] w fun e w'=>e= .returned (.bool (!kDo c))∧∃n,w'=w.drewN n:=by
 have HK:=jH (kH2 c w);generalize kDo c=b at*
 go_enter Tryz.func33,Tryz.ntmps33
 go_wp2_with fail
 refine HK.out.mono ?_;rintro e w2 ⟨rfl,h2⟩;subst h2;go_wp2
 go_ret
 exact⟨rfl,0,rfl⟩
theorem kKl (v:Int)(w:World):Calls Tryz.prog 35 #[.int .i32 v] w fun e w'=>e= .returned (.bool (kRy v))∧∃n,w'=w.drewN n:=by
 unfold kRy
 by_cases h1:v<0
 ·go_enter Tryz.func35,Tryz.ntmps35
  go_wp2
  go_ret
  exact⟨by simp[h1],0,rfl⟩
 ·by_cases h2:1114112<v
  ·go_enter Tryz.func35,Tryz.ntmps35
   go_wp2
   go_ret
   exact⟨by simp[h2],0,rfl⟩
  ·go_enter Tryz.func35,Tryz.ntmps35
   go_wp2
   go_ret
   exact⟨by simp[h1,h2]<;>omega,0,rfl⟩
theorem kPf (v:Int)(w:World):Calls Tryz.prog 36 #[.int .i32 v] w fun e w'=>e= .returned (.bool (kE5 v))∧∃n,w'=w.drewN n:=by
 unfold kE5
 by_cases h1:v< -1114112
 ·go_enter Tryz.func36,Tryz.ntmps36
  go_wp2
  go_ret
  exact⟨by simp[h1],0,rfl⟩
 ·by_cases h2:1114112<v
  ·go_enter Tryz.func36,Tryz.ntmps36
   go_wp2
   go_ret
   exact⟨by simp[h2],0,rfl⟩
  ·go_enter Tryz.func36,Tryz.ntmps36
   go_wp2
   go_ret
   exact⟨by simp[h1,h2]<;>omega,0,rfl⟩
def Fr8 (w:World) (zT zM:List Nat) (zL:List Int) (B:Nat) (v:Value) (er:Int) (w':World):Prop:=
 (er=112∧v= .pointer none∧¬FromOk zT zM zL)∨(er=0∧FromOk zT zM zL∧∃g,v= .pointer (some ⟨g,0,none⟩)∧kAu val8 141 64 w' g (fromT zT zM zL)∧TrieFar 141 w' g (fromT zT zM zL) B)
def FrJ (w:World) (zT zM:List Nat) (zL:List Int) (B:Nat) (v:Value) (er:Int) (w':World):Prop:=
 (er=112∧v= .pointer none∧¬VJ.FromOk zT zM zL)∨(er=0∧VJ.FromOk zT zM zL∧∃g,v= .pointer (some ⟨g,0,none⟩)∧kAu VJ.val8 152 64 w' g (VJ.fromT zT zM zL)∧VJ.TrieFar 152 w' g (VJ.fromT zT zM zL) B)
theorem Fr8.below {w w' w'':World}{zT zM:List Nat}{zL:List Int}{B:Nat}{v:Value}{er:Int}(h:Fr8 w zT zM zL B v er w')(hb:Below w'.heap.size w' w''):Fr8 w zT zM zL B v er w'':=by
 rcases h with h | ⟨h1,h2,g,h3,h4,h5⟩
 ·exact .inl h
 ·exact .inr ⟨h1,h2,g,h3,h4.below hb jR,h5.below hb⟩
theorem FrJ.below {w w' w'':World}{zT zM:List Nat}{zL:List Int}{B:Nat}{v:Value}{er:Int}(h:FrJ w zT zM zL B v er w')(hb:Below w'.heap.size w' w''):FrJ w zT zM zL B v er w'':=by
 rcases h with h | ⟨h1,h2,g,h3,h4,h5⟩
 ·exact .inl h
 ·exact .inr ⟨h1,h2,g,h3,h4.below hb jR,h5.below hb⟩
theorem from8 {w:World}{s1 s2 s3:Value}{zT zM:List Nat}{zL:List Int}(h:P8 w s1 s2 s3 zT zM zL)(B:Nat)(hB:B≤w.heap.size):
  Calls Tryz.prog 31 #[.agg #[s1,s2,s3]] w fun e w'=>∃v er,e= .returned (.tuple #[v,.int .i64 er])∧Below w.heap.size w w'∧Fr8 w zT zM zL B v er w':=by
 obtain⟨⟨aT,nT,cT,aM,nM,cM,aL,nL,cL,rfl,rfl,rfl,h4,h5,h6,h7,h8,h9,r1,r2,r3⟩,vT,vM⟩:=h;refine(FromB_walk w aT aM aL nT cT nM cM nL cL zT zM zL h4 h5 h6 h7 h8 h9 vT vM r1 r2 r3).mono ?_
 rintro e w' ⟨hb,⟨rfl,h⟩ | ⟨h1,g,rfl,h3,h4,h5⟩⟩
 ·exact⟨_,_,rfl,hb,.inl ⟨rfl,rfl,h⟩⟩
 ·exact⟨_,_,rfl,hb,.inr ⟨rfl,h1,g,rfl,h4,h5.mono hB⟩⟩
theorem kTm {w:World}{s1 s2 s3:Value}{zT zM:List Nat}{zL:List Int}(h:PJ w s1 s2 s3 zT zM zL)(B:Nat)(hB:B≤w.heap.size):
  Calls Tryz.prog 32 #[.agg #[s1,s2,s3]] w fun e w'=>∃v er,e= .returned (.tuple #[v,.int .i64 er])∧Below w.heap.size w w'∧FrJ w zT zM zL B v er w':=by
 obtain⟨⟨aT,nT,cT,aM,nM,cM,aL,nL,cL,rfl,rfl,rfl,h4,h5,h6,h7,h8,h9,r1,r2,r3⟩,vT,vM⟩:=h;refine(VJ.FromB_walk w aT aM aL nT cT nM cM nL cL zT zM zL h4 h5 h6 h7 h8 h9 vT vM r1 r2 r3).mono ?_
 rintro e w' ⟨hb,⟨rfl,h⟩ | ⟨h1,g,rfl,h3,h4,h5⟩⟩
 ·exact⟨_,_,rfl,hb,.inl ⟨rfl,rfl,h⟩⟩
 ·exact⟨_,_,rfl,hb,.inr ⟨rfl,h1,g,rfl,h4,h5.mono hB⟩⟩
theorem kMt {P:Program}(w:World)(ts:Array TypeId)(t:TypeId)(x y z u:Int):(Builtin.min_ ts t #[.int .i32 x,.int .i32 y,.int .i32 z,.int .i32 u]).run P w=
  .ok (.int .i32 (if u<(if z<(if y<x then y else x)then z else(if y<x then y else x))then u else(if z<(if y<x then y else x)then z else(if y<x then y else x)))) w:=by
 simp[Builtin.min_,Builtin.min2]
def Pt.ok8 (p:Pt):Prop:=FromOk p.top p.mid p.low
def Pt.okJ (p:Pt):Prop:=VJ.FromOk p.top p.mid p.low
def Pt.at8 (p:Pt):Nat→Int:=partF p.top p.mid p.low
def Pt.atJ (p:Pt):Nat→Int:=VJ.partF p.top p.mid p.low
def kR4 (c b t m:Nat→Int) (r:Nat):Bool:= !kDo (c r)||kE5 (b r)||kRy (t r)||kRy (m r)
def kKz (w:World) (C Bk T M:Pt) (e:Ending) (w':World):Prop:=
 Below w.heap.size w w'∧
 ((e= .returned (.tuple #[.pointer none,.int .i32 0,.int .i64 140])∧¬(C.ok8∧Bk.okJ∧T.okJ∧M.okJ))∨
 ((C.ok8∧Bk.okJ∧T.okJ∧M.okJ)∧∃k,kBd (kR4 C.at8 Bk.atJ T.atJ M.atJ) 1114112 k∧
  ((k<1114112∧e= .returned (.tuple #[.pointer none,.int .i32 (k:Nat),.int .i64 140]))∨
   (k=1114112∧∃p q,kBd (kBu C.at8 Bk.atJ T.atJ M.atJ) 1114112 q∧e= .returned (kEy p q)∧kFc w' p C.at8 Bk.atJ T.atJ M.atJ w.heap.size))))
theorem kMb {c b t m:Nat→Int}(h:kBd (kR4 c b t m) 1114112 1114112):Fit b t m:=by
 refine⟨fun r hr=> ?_,fun r hr=> ?_,fun r hr=> ?_⟩
 all_goals
  have:=h.no r (by omega);simp only[kR4,Bool.or_eq_false_iff,kE5,kRy,decide_eq_false_iff_not]at this;omega
theorem kQz (w:World)(s:Fin 12→Value)(C Bk T M:Pt)(hC:P8 w (s 0) (s 1) (s 2) C.top C.mid C.low)(hB:PJ w (s 3) (s 4) (s 5) Bk.top Bk.mid Bk.low)(hT:PJ w (s 6) (s 7) (s 8) T.top T.mid T.low)(hM:PJ w (s 9) (s 10) (s 11) M.top M.mid M.low):
  Calls Tryz.prog 11 #[.agg #[s 0,s 1,s 2,s 3,s 4,s 5,s 6,s 7,s 8,s 9,s 10,s 11]] w fun e w'=>kKz w C Bk T M e w':=by
 obtain⟨x0,hx0⟩:∃x,s 0=x:=⟨_,rfl⟩
 obtain⟨x1,hx1⟩:∃x,s 1=x:=⟨_,rfl⟩
 obtain⟨x2,hx2⟩:∃x,s 2=x:=⟨_,rfl⟩
 obtain⟨x3,hx3⟩:∃x,s 3=x:=⟨_,rfl⟩
 obtain⟨x4,hx4⟩:∃x,s 4=x:=⟨_,rfl⟩
 obtain⟨x5,hx5⟩:∃x,s 5=x:=⟨_,rfl⟩
 obtain⟨x6,hx6⟩:∃x,s 6=x:=⟨_,rfl⟩
 obtain⟨x7,hx7⟩:∃x,s 7=x:=⟨_,rfl⟩
 obtain⟨x8,hx8⟩:∃x,s 8=x:=⟨_,rfl⟩
 obtain⟨x9,hx9⟩:∃x,s 9=x:=⟨_,rfl⟩
 obtain⟨x10,hx10⟩:∃x,s 10=x:=⟨_,rfl⟩
 obtain⟨x11,hx11⟩:∃x,s 11=x:=⟨_,rfl⟩
 rw[hx0,hx1,hx2]at hC;rw[hx3,hx4,hx5]at hB;rw[hx6,hx7,hx8]at hT;rw[hx9,hx10,hx11]at hM;rw[hx0,hx1,hx2,hx3,hx4,hx5,hx6,hx7,hx8,hx9,hx10,hx11];clear hx0 hx1 hx2 hx3 hx4 hx5 hx6 hx7 hx8 hx9 hx10 hx11;have HC:=jH hC;have HB:=jH hB;have HT:=jH hT;have HM:=jH hM;obtain⟨⟨aC1,nC1,cC1,aC2,nC2,cC2,aC3,nC3,cC3,rfl,rfl,rfl, -⟩, -, -⟩:=hC;obtain⟨⟨aB1,nB1,cB1,aB2,nB2,cB2,aB3,nB3,cB3,rfl,rfl,rfl, -⟩, -, -⟩:=hB;obtain⟨⟨aT1,nT1,cT1,aT2,nT2,cT2,aT3,nT3,cT3,rfl,rfl,rfl, -⟩, -, -⟩:=hT;obtain⟨⟨aM1,nM1,cM1,aM2,nM2,cM2,aM3,nM3,cM3,rfl,rfl,rfl, -⟩, -, -⟩:=hM;have a0:=jN w (.cells #[.slice aC1 nC1 cC1,.slice aC2 nC2 cC2,.slice aC3 nC3 cC3,.slice aB1 nB1 cB1,.slice aB2 nB2 cB2,.slice aB3 nB3 cB3,.slice aT1 nT1 cT1,.slice aT2 nT2 cT2,.slice aT3 nT3 cT3,.slice aM1 nM1 cM1,.slice aM2 nM2 cM2,.slice aM3 nM3 cM3] 50);have b0:=(Below.refl _ w).alloc jR (.cells #[.slice aC1 nC1 cC1,.slice aC2 nC2 cC2,.slice aC3 nC3 cC3,.slice aB1 nB1 cB1,.slice aB2 nB2 cB2,.slice aB3 nB3 cB3,.slice aT1 nT1 cT1,.slice aT2 nT2 cT2,.slice aT3 nT3 cT3,.slice aM1 nM1 cM1,.slice aM2 nM2 cM2,.slice aM3 nM3 cM3] 50);have HW0:=jH (And.intro a0 b0);clear a0 b0
 go_enter Tryz.func11,Tryz.ntmps11
 go_upto_region 1 with(fail)
 obtain⟨bx,hbx⟩:∃bx,bx=w.heap.size:=⟨_,rfl⟩
 obtain⟨a0,b0⟩:=HW0.out;clear HW0;rw[←hbx]at a0 ⊢;generalize w.alloc (.cells #[.slice aC1 nC1 cC1,.slice aC2 nC2 cC2,.slice aC3 nC3 cC3,.slice aB1 nB1 cB1,.slice aB2 nB2 cB2,.slice aB3 nB3 cB3,.slice aT1 nT1 cT1,.slice aT2 nT2 cT2,.slice aT3 nT3 cT3,.slice aM1 nM1 cM1,.slice aM2 nM2 cM2,.slice aM3 nM3 cM3] 50)=w0 at*;clear hbx;have HA0:=jH a0;have HB0:=jH b0;clear b0;have q0:=jK w0 bx 0 _ _ (0,0) a0;have q1:=jK w0 bx 1 _ _ (0,0) a0;have q2:=jK w0 bx 2 _ _ (0,0) a0;have q3:=jK w0 bx 3 _ _ (0,0) a0;have q4:=jK w0 bx 4 _ _ (0,0) a0;have q5:=jK w0 bx 5 _ _ (0,0) a0;have q6:=jK w0 bx 6 _ _ (0,0) a0;have q7:=jK w0 bx 7 _ _ (0,0) a0;have q8:=jK w0 bx 8 _ _ (0,0) a0;have q9:=jK w0 bx 9 _ _ (0,0) a0;have q10:=jK w0 bx 10 _ _ (0,0) a0;have q11:=jK w0 bx 11 _ _ (0,0) a0;simp at q0 q1 q2 q3 q4 q5 q6 q7 q8 q9 q10 q11;clear a0;have HX:=jH (from8 (HC.out.below HB0.out) w.heap.size HB0.out.size)
 go_wp2_with fail
 refine HX.out.mono ?_;rintro e w1 ⟨v1,e1,rfl,b1,f1⟩;have HB1:=jH (HB0.out.trans (b1.mono HB0.out.size));have HA1:=jH ((b1.block bx (jL HA0.out)).trans HA0.out);have HF1:=jH f1;clear b1 f1 HX;clear q0 q1 q2 q3 q4 q5 q6 q7 q8 q9 q10 q11;have a1:=HA1.out;have q0:=jK w1 bx 0 _ _ (0,0) a1;have q1:=jK w1 bx 1 _ _ (0,0) a1;have q2:=jK w1 bx 2 _ _ (0,0) a1;have q3:=jK w1 bx 3 _ _ (0,0) a1;have q4:=jK w1 bx 4 _ _ (0,0) a1;have q5:=jK w1 bx 5 _ _ (0,0) a1;have q6:=jK w1 bx 6 _ _ (0,0) a1;have q7:=jK w1 bx 7 _ _ (0,0) a1;have q8:=jK w1 bx 8 _ _ (0,0) a1;have q9:=jK w1 bx 9 _ _ (0,0) a1;have q10:=jK w1 bx 10 _ _ (0,0) a1;have q11:=jK w1 bx 11 _ _ (0,0) a1;simp at q0 q1 q2 q3 q4 q5 q6 q7 q8 q9 q10 q11;clear a1;have HX:=jH (kTm (HB.out.below HB1.out) w.heap.size HB1.out.size)
 go_wp2_with fail
 refine HX.out.mono ?_;rintro e w2 ⟨v2,e2,rfl,b2,f2⟩;have HB2:=jH (HB1.out.trans (b2.mono HB1.out.size));have HA2:=jH ((b2.block bx (jL HA1.out)).trans HA1.out);replace HF1:=jH (HF1.out.below b2);have HF2:=jH f2;clear b2 f2 HX;clear q0 q1 q2 q3 q4 q5 q6 q7 q8 q9 q10 q11;have a2:=HA2.out;have q0:=jK w2 bx 0 _ _ (0,0) a2;have q1:=jK w2 bx 1 _ _ (0,0) a2;have q2:=jK w2 bx 2 _ _ (0,0) a2;have q3:=jK w2 bx 3 _ _ (0,0) a2;have q4:=jK w2 bx 4 _ _ (0,0) a2;have q5:=jK w2 bx 5 _ _ (0,0) a2;have q6:=jK w2 bx 6 _ _ (0,0) a2;have q7:=jK w2 bx 7 _ _ (0,0) a2;have q8:=jK w2 bx 8 _ _ (0,0) a2;have q9:=jK w2 bx 9 _ _ (0,0) a2;have q10:=jK w2 bx 10 _ _ (0,0) a2;have q11:=jK w2 bx 11 _ _ (0,0) a2;simp at q0 q1 q2 q3 q4 q5 q6 q7 q8 q9 q10 q11;clear a2;have HX:=jH (kTm (HT.out.below HB2.out) w.heap.size HB2.out.size)
 go_wp2_with fail
 refine HX.out.mono ?_;rintro e w3 ⟨v3,e3,rfl,b3,f3⟩;have HB3:=jH (HB2.out.trans (b3.mono HB2.out.size));have HA3:=jH ((b3.block bx (jL HA2.out)).trans HA2.out);replace HF1:=jH (HF1.out.below b3);replace HF2:=jH (HF2.out.below b3);have HF3:=jH f3;clear b3 f3 HX;clear q0 q1 q2 q3 q4 q5 q6 q7 q8 q9 q10 q11;have a3:=HA3.out;have q0:=jK w3 bx 0 _ _ (0,0) a3;have q1:=jK w3 bx 1 _ _ (0,0) a3;have q2:=jK w3 bx 2 _ _ (0,0) a3;have q3:=jK w3 bx 3 _ _ (0,0) a3;have q4:=jK w3 bx 4 _ _ (0,0) a3;have q5:=jK w3 bx 5 _ _ (0,0) a3;have q6:=jK w3 bx 6 _ _ (0,0) a3;have q7:=jK w3 bx 7 _ _ (0,0) a3;have q8:=jK w3 bx 8 _ _ (0,0) a3;have q9:=jK w3 bx 9 _ _ (0,0) a3;have q10:=jK w3 bx 10 _ _ (0,0) a3;have q11:=jK w3 bx 11 _ _ (0,0) a3;simp at q0 q1 q2 q3 q4 q5 q6 q7 q8 q9 q10 q11;clear a3;have HX:=jH (kTm (HM.out.below HB3.out) w.heap.size HB3.out.size)
 go_wp2_with fail
 refine HX.out.mono ?_;rintro e w4 ⟨v4,e4,rfl,b4,f4⟩;have HB4:=jH (HB3.out.trans (b4.mono HB3.out.size));have HA4:=jH ((b4.block bx (jL HA3.out)).trans HA3.out);replace HF1:=jH (HF1.out.below b4);replace HF2:=jH (HF2.out.below b4);replace HF3:=jH (HF3.out.below b4);have HF4:=jH f4;clear b4 f4 HX;clear q0 q1 q2 q3 q4 q5 q6 q7 q8 q9 q10 q11;clear HA0 HA1 HA2 HA3 HA4 HB0 HB1 HB2 HB3 HC HB HT HM
 rcases HF1.out with⟨rfl,rfl,hno⟩ | ⟨rfl,hk1,g1,rfl,ht1,hf1⟩
 ·have HNo:=jH hno;clear hno;go_wp2
  refine jS (v:= .tuple #[.pointer none,.int .i32 0,.int .i64 140]) (by simp[results,Tryz.results11,go_sem]) rfl ?_;exact⟨HB4.out,.inl ⟨rfl,fun h=>HNo.out h.1⟩⟩
 ·have HK1:=jH (And.intro hk1 (And.intro ht1 hf1));clear hk1 ht1 hf1 HF1
  rcases HF2.out with⟨rfl,rfl,hno⟩ | ⟨rfl,hk2,g2,rfl,ht2,hf2⟩
  ·have HNo:=jH hno;clear hno;go_wp2
   refine jS (v:= .tuple #[.pointer none,.int .i32 0,.int .i64 140]) (by simp[results,Tryz.results11,go_sem]) rfl ?_;exact⟨HB4.out,.inl ⟨rfl,fun h=>HNo.out h.2.1⟩⟩
  ·have HK2:=jH (And.intro hk2 (And.intro ht2 hf2));clear hk2 ht2 hf2 HF2
   rcases HF3.out with⟨rfl,rfl,hno⟩ | ⟨rfl,hk3,g3,rfl,ht3,hf3⟩
   ·have HNo:=jH hno;clear hno;go_wp2
    refine jS (v:= .tuple #[.pointer none,.int .i32 0,.int .i64 140]) (by simp[results,Tryz.results11,go_sem]) rfl ?_;exact⟨HB4.out,.inl ⟨rfl,fun h=>HNo.out h.2.2.1⟩⟩
   ·have HK3:=jH (And.intro hk3 (And.intro ht3 hf3));clear hk3 ht3 hf3 HF3
    rcases HF4.out with⟨rfl,rfl,hno⟩ | ⟨rfl,hk4,g4,rfl,ht4,hf4⟩
    ·have HNo:=jH hno;clear hno;go_wp2
     refine jS (v:= .tuple #[.pointer none,.int .i32 0,.int .i64 140]) (by simp[results,Tryz.results11,go_sem]) rfl ?_;exact⟨HB4.out,.inl ⟨rfl,fun h=>HNo.out h.2.2.2⟩⟩
    ·have HK4:=jH (And.intro hk4 (And.intro ht4 hf4));clear hk4 ht4 hf4 HF4;have a5:=jN w4 (.cells #[.pointer (some ⟨g1,0,none⟩),.pointer (some ⟨g2,0,none⟩),.pointer (some ⟨g3,0,none⟩),.pointer (some ⟨g4,0,none⟩)] 103);have b5:=(Below.refl _ w4).alloc jR (.cells #[.pointer (some ⟨g1,0,none⟩),.pointer (some ⟨g2,0,none⟩),.pointer (some ⟨g3,0,none⟩),.pointer (some ⟨g4,0,none⟩)] 103);have HW5:=jH (And.intro a5 b5);clear a5 b5
     go_upto_region 11 with(fail)
     obtain⟨p,hp⟩:∃p,p=w4.heap.size:=⟨_,rfl⟩
     obtain⟨a5,b5⟩:=HW5.out;clear HW5;rw[←hp]at a5 ⊢;generalize w4.alloc (.cells #[.pointer (some ⟨g1,0,none⟩),.pointer (some ⟨g2,0,none⟩),.pointer (some ⟨g3,0,none⟩),.pointer (some ⟨g4,0,none⟩)] 103)=w5 at*;have HB5:=jH (HB4.out.trans (b5.mono HB4.out.size));have k1:=HK1.out.1;have k2:=HK2.out.1;have k3:=HK3.out.1;have k4:=HK4.out.1
     have kFc:Hid (kFc w5 p C.at8 Bk.atJ T.atJ M.atJ w.heap.size):=jH (by
      obtain⟨m1,t1⟩:=fromOk_made 17408 rfl k1;obtain⟨m2,t2⟩:=VJ.fromOk_made 17408 rfl k2;obtain⟨m3,t3⟩:=VJ.fromOk_made 17408 rfl k3;obtain⟨m4,t4⟩:=VJ.fromOk_made 17408 rfl k4;have x1:=HK1.out.2;have x2:=HK2.out.2;have x3:=HK3.out.2;have x4:=HK4.out.2;rw[t1]at x1;rw[t2]at x2;rw[t3]at x3;rw[t4]at x4
      change Made8 C.at8 _ at m1
      change VJ.Made8 Bk.atJ _ at m2
      change VJ.Made8 T.atJ _ at m3
      change VJ.Made8 M.atJ _ at m4
      generalize mkF (partF C.top C.mid C.low) 17408=S1 at*;generalize VJ.mkF (VJ.partF Bk.top Bk.mid Bk.low) 17408=S2 at*;generalize VJ.mkF (VJ.partF T.top T.mid T.low) 17408=S3 at*;generalize VJ.mkF (VJ.partF M.top M.mid M.low) 17408=S4 at*
      exact⟨g1,g2,g3,g4,S1,S2,S3,S4,⟨⟨a5,m1.trie,m2.trie,m3.trie,m4.trie,m1.pos.1,m2.pos.1,m3.pos.1,m4.pos.1,
        x1.1.below b5 jR,x2.1.below b5 jR,x3.1.below b5 jR,x4.1.below b5 jR⟩,
        fun r hr=>m1.look r hr,fun r hr=>m2.look r hr,fun r hr=>m3.look r hr,fun r hr=>m4.look r hr⟩,m1,m2,m3,m4,
       by rw[hp];exact HB4.out.size,x1.2.below b5,x2.2.below b5,x3.2.below b5,x4.2.below b5⟩)
     have HRow:=jH a5;have HOk:=jH (show C.ok8∧Bk.okJ∧T.okJ∧M.okJ from⟨k1,k2,k3,k4⟩);clear a5 b5 hp HK1 HK2 HK3 HK4 k1 k2 k3 k4;obtain⟨ra,hra⟩:=kBd.exists (fun r=> !kDo (C.at8 r)) 1114112;obtain⟨rb,hrb⟩:=kBd.exists (fun r=>kE5 (Bk.atJ r)) 1114112;obtain⟨rc,hrc⟩:=kBd.exists (fun r=>kRy (T.atJ r)) 1114112;obtain⟨rd,hrd⟩:=kBd.exists (fun r=>kRy (M.atJ r)) 1114112
     obtain⟨kk,hkk⟩:∃kk,kk=min (min (min ra rb) rc) rd:=⟨_,rfl⟩
     have HKk:Hid (kBd (kR4 C.at8 Bk.atJ T.atJ M.atJ) 1114112 kk):=jH (by rw[hkk];exact((hra.min hrb).min hrc).min hrd);have HLs:=jH (And.intro hra (And.intro hrb (And.intro hrc hrd)));have hkl:kk≤1114112:=HKk.out.le;clear hra hrb hrc hrd
     have hmin:∀(w:World) (ts:Array TypeId) (t:TypeId),(Builtin.min_ ts t #[.int .i32 (ra:Nat),.int .i32 (rb:Nat),.int .i32 (rc:Nat),.int .i32 (rd:Nat)]).run Tryz.prog w= .ok (.int .i32 (kk:Nat)) w:=fun w ts t=>by
      rw[kMt]
      congr 2
      split<;>split at* <;>split at* <;>omega
     clear hkk;obtain⟨gc,gb,gt,gm,SC,SB,ST,SM,hTab,hR⟩:=kFc.out
     obtain⟨rfl,rfl,rfl,rfl⟩:gc=g1∧gb=g2∧gt=g3∧gm=g4:=by
      have e:=hTab.mem.row;rw[HRow.out]at e;simp at e;exact⟨e.1.symm,e.2.1.symm,e.2.2.1.symm,e.2.2.2.symm⟩
     have HT5:=jH hTab;clear hTab hR;have HF1:=jH (fun(W:World) (h:Tab W p gc gb gt gm (trieS SC) (VJ.trieS SB) (VJ.trieS ST) (VJ.trieS SM) C.at8 Bk.atJ T.atJ M.atJ)=>(kNk W gc (trieS SC) h.mem.okC h.mem.posC h.mem.atC 33 #[] #[] C.at8 (fun c=> !kDo c) 1114112 rfl (fun r hr=>h.c r (by omega)) (enters_of Tryz.func33 (by kernel_rfl) rfl) (fun v W' _=>kPe v W')).mono (fun e w' ⟨k,e1,e2,e3⟩=>(show e=Ending.returned (.int .i32 (ra:Nat))∧Below W.heap.size W w' from⟨by rw[e1,e2.unique HLs.out.1],e3⟩)));have HF2:=jH (fun(W:World) (h:Tab W p gc gb gt gm (trieS SC) (VJ.trieS SB) (VJ.trieS ST) (VJ.trieS SM) C.at8 Bk.atJ T.atJ M.atJ)=>(kGi W gb (VJ.trieS SB) h.mem.okB h.mem.posB h.mem.atB 36 #[] #[] Bk.atJ kE5 1114112 rfl (fun r hr=>h.b r (by omega)) (enters_of Tryz.func36 (by kernel_rfl) rfl) (fun v W' _=>kPf v W')).mono (fun e w' ⟨k,e1,e2,e3⟩=>(show e=Ending.returned (.int .i32 (rb:Nat))∧Below W.heap.size W w' from⟨by rw[e1,e2.unique HLs.out.2.1],e3⟩)));have HF3:=jH (fun(W:World) (h:Tab W p gc gb gt gm (trieS SC) (VJ.trieS SB) (VJ.trieS ST) (VJ.trieS SM) C.at8 Bk.atJ T.atJ M.atJ)=>(kGi W gt (VJ.trieS ST) h.mem.okT h.mem.posT h.mem.atT 35 #[] #[] T.atJ kRy 1114112 rfl (fun r hr=>h.t r (by omega)) (enters_of Tryz.func35 (by kernel_rfl) rfl) (fun v W' _=>kKl v W')).mono (fun e w' ⟨k,e1,e2,e3⟩=>(show e=Ending.returned (.int .i32 (rc:Nat))∧Below W.heap.size W w' from⟨by rw[e1,e2.unique HLs.out.2.2.1],e3⟩)));have HF4:=jH (fun(W:World) (h:Tab W p gc gb gt gm (trieS SC) (VJ.trieS SB) (VJ.trieS ST) (VJ.trieS SM) C.at8 Bk.atJ T.atJ M.atJ)=>(kGi W gm (VJ.trieS SM) h.mem.okM h.mem.posM h.mem.atM 35 #[] #[] M.atJ kRy 1114112 rfl (fun r hr=>h.m r (by omega)) (enters_of Tryz.func35 (by kernel_rfl) rfl) (fun v W' _=>kKl v W')).mono (fun e w' ⟨k,e1,e2,e3⟩=>(show e=Ending.returned (.int .i32 (rd:Nat))∧Below W.heap.size W w' from⟨by rw[e1,e2.unique HLs.out.2.2.2],e3⟩)));have HX:=jH (HF1.out w5 HT5.out)
     go_wp2_with fail
     refine HX.out.mono ?_;rintro e w6 ⟨rfl,b6⟩;have HT6:=jH (HT5.out.below b6);have HB6:=jH (HB5.out.trans (b6.mono HB5.out.size));replace kFc:=jH (kFc.out.below b6);clear HX b6 HF1;have HX:=jH (HF2.out w6 HT6.out)
     go_wp2_with fail
     refine HX.out.mono ?_;rintro e w7 ⟨rfl,b7⟩;have HT7:=jH (HT6.out.below b7);have HB7:=jH (HB6.out.trans (b7.mono HB6.out.size));replace kFc:=jH (kFc.out.below b7);clear HX b7 HF2 HT6 HB6;have HX:=jH (HF3.out w7 HT7.out)
     go_wp2_with fail
     refine HX.out.mono ?_;rintro e w8 ⟨rfl,b8⟩;have HT8:=jH (HT7.out.below b8);have HB8:=jH (HB7.out.trans (b8.mono HB7.out.size));replace kFc:=jH (kFc.out.below b8);clear HX b8 HF3 HT7 HB7;have HX:=jH (HF4.out w8 HT8.out)
     go_wp2_with fail
     refine HX.out.mono ?_;rintro e w9 ⟨rfl,b9⟩;have HT9:=jH (HT8.out.below b9);have HB9:=jH (HB8.out.trans (b9.mono HB8.out.size));replace kFc:=jH (kFc.out.below b9);clear HX b9 HF4 HT8 HB8 HLs
     by_cases hc:kk<1114112
     ·have hci:(kk:Int)<1114112:=by omega
      have HCc:=jH hc;clear hc;go_wp2
      refine jS (v:= .tuple #[.pointer none,.int .i32 (kk:Nat),.int .i64 140]) (by simp[results,Tryz.results11,go_sem]) rfl ?_;exact⟨HB9.out,.inr ⟨HOk.out,kk,HKk.out,.inl ⟨HCc.out,rfl⟩⟩⟩
     ·have hci:¬(kk:Int)<1114112:=by omega
      have HEq:Hid (kk=1114112):=jH (by omega);clear hc;have HFit:=jH (kMb (by have:=HKk.out;rwa[HEq.out]at this));obtain⟨q,hq⟩:=kBd.exists (kBu C.at8 Bk.atJ T.atJ M.atJ) 1114112
      have HQ:=jH hq;clear hq
      have HWh:=jH (kKt HT9.out HFit.out q HQ.out);clear hkl;have hdc:decide ((kk:Int)<1114112)=false:=decide_eq_false hci;clear hci
      by_cases hq:q<1114112
      ·have HE:=jH (show kEy p q= .tuple #[.pointer none,.int .i32 (q:Nat),.int .i64 141]from if_pos hq);clear hq;rw[HE.out]at HWh
       go_wp2_with fail
       refine HWh.out.mono ?_;rintro e w10 ⟨rfl,b10⟩;have HR:=jH (show kKz w C Bk T M (.returned (.tuple #[.pointer none,.int .i32 (q:Nat),.int .i64 141])) w10 from⟨HB9.out.trans (b10.mono HB9.out.size),.inr ⟨HOk.out,kk,HKk.out,.inr ⟨HEq.out,p,q,HQ.out,by rw[HE.out],kFc.out.below b10⟩⟩⟩);clear b10 HE;go_wp2
       refine jS (v:= .tuple #[.pointer none,.int .i32 (q:Nat),.int .i64 141]) (by simp[results,Tryz.results11,go_sem]) rfl ?_;exact HR.out
      ·have HE:=jH (show kEy p q= .tuple #[.pointer (some ⟨p,0,none⟩),.int .i32 0,.int .i64 0]from if_neg hq);clear hq;rw[HE.out]at HWh
       go_wp2_with fail
       refine HWh.out.mono ?_;rintro e w10 ⟨rfl,b10⟩;have HR:=jH (show kKz w C Bk T M (.returned (.tuple #[.pointer (some ⟨p,0,none⟩),.int .i32 0,.int .i64 0])) w10 from⟨HB9.out.trans (b10.mono HB9.out.size),.inr ⟨HOk.out,kk,HKk.out,.inr ⟨HEq.out,p,q,HQ.out,by rw[HE.out],kFc.out.below b10⟩⟩⟩);clear b10 HE;go_wp2
       refine jS (v:= .tuple #[.pointer (some ⟨p,0,none⟩),.int .i32 0,.int .i64 0]) (by simp[results,Tryz.results11,go_sem]) rfl ?_;exact HR.out
end Go.Proofs.YtbmphakfgoompaaGreat
