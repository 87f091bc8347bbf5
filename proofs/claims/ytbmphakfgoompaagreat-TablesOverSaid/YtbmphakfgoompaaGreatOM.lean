/- several texts in one: CU8 TH8 FC8 -/
import Derived.Test.YtbmphakfgoompaaGreatOW
import Derived.Test.YtbmphakfgoompaaGreatOSP
import Derived.Test.YtbmphakfgoompaaGreatOTD
import Derived.Test.YtbmphakfgoompaaGreatOR
import Derived.Laws.Cover3
import Derived.Test.YtbmphakfgoompaaGreatOTA
import Derived.Test.YtbmphakfgoompaaGreatOL
set_option linter.unusedVariables false
set_option linter.unusedSimpArgs false
set_option maxRecDepth 100000
set_option maxHeartbeats 16000000
namespace Go.Proofs.YtbmphakfgoompaaGreat
open Go.RowKit
attribute [local go_sem] Oper.semAt_some
def kQd (b o:Nat) (q:Nat):Array Value:= #[.slice (some ⟨b,o+64*q,none⟩) 64 64]
theorem kFg (a:Option Addr)(n c:Nat)(w:World):Calls Tryz.prog 112 #[.slice a n c,.int .i64 64] w fun e w'=>e= .returned (.func (.func 126) #[] #[.pointer (some ⟨w.heap.size,0,none⟩),.pointer (some ⟨w.heap.size+1,0,none⟩)])∧
  w'.cell? ⟨w.heap.size,0,none⟩=some (.slice a n c)∧w'.cell? ⟨w.heap.size+1,0,none⟩=some (.int .i64 64)∧Below w.heap.size w w'∧w'.heap.size=w.heap.size+2:=by
 have HA:=jH (jN w (.cells #[.slice a n c] 44));have HB:=jH ((Below.refl _ w).alloc jR (.cells #[.slice a n c] 44));have HS:=jH (World.size_alloc w (.cells #[.slice a n c] 44))
 go_enter Tryz.func112,Tryz.ntmps112
 go_wp2
 go_ret
 generalize w.alloc (.cells #[.slice a n c] 44)=w1 at*;have c0:=jK _ w.heap.size 0 _ _ (0,0) HA.out;have hA:=(Below.refl _ w1).alloc jR (.cells #[.int .i64 64] 3);have c1:=jK _ w1.heap.size 0 _ _ (0,0) (jN w1 (.cells #[.int .i64 64] 3));have hs:=HS.out;refine⟨by simp[hs],(hA.cell (p:=⟨w.heap.size,0,none⟩) (by show w.heap.size<_;omega)).trans c0,by rw[←hs];exact c1,HB.out.trans (hA.mono (by omega)),by simp;omega⟩
def ChR (J:(Nat→Prop)→List Nat→World→Prop) (w:World) (K b2 b3:Nat) (i:Value) (wr:World) (sl n64:Value):Prop:=
 ∃q,q≤K∧i= .int .i64 ((64*q:Nat):Int)∧J (fun _=>False) (List.range q) wr∧wr.cell? ⟨b2,0,none⟩=some sl∧wr.cell? ⟨b3,0,none⟩=some n64
theorem kD3 (b o c K:Nat)(hK:K≤1048576)(hc:64*K≤c)(hc2:c≤maxLen)(b2 b3:Nat)(R:Nat→Prop)(w:World)(hR1:R b2)(hR2:R b3)
  (c1:w.cell? ⟨b2,0,none⟩=some (.slice (some ⟨b,o,none⟩) (64*K) c))(c2:w.cell? ⟨b3,0,none⟩=some (.int .i64 64)):
  SeqX Tryz.prog 126 #[.pointer (some ⟨b2,0,none⟩),.pointer (some ⟨b3,0,none⟩)] (kQd b o) R (fun xs=>xs=List.range K) (fun pre=>∃q,q≤K∧pre=List.range q) K w:=by
 intro l J Jx W hW hJ hJx hY h1;refine callsIn_wide.2 ?_;have HY:=jH hY;have HJ:=jH hJ;have d1:=(hW.cell (p:=⟨b2,0,none⟩) (World.block_lt_of_cell? w _ c1)).trans c1;have d2:=(hW.cell (p:=⟨b3,0,none⟩) (World.block_lt_of_cell? w _ c2)).trans c2;have H1:=jH h1
 have D1:=jH d1;have D2:=jH d2
 have HRr:=jH (And.intro hR1 hR2);clear hJ hJx hY h1 hW c1 c2 d1 d2 hR1 hR2
 go_enter Tryz.func126,Tryz.ntmps126
 go_wp2
 go_loopw [4] (fun i wr=>ChR J w K b2 b3 i wr (.slice (some ⟨b,o,none⟩) (64*K) c) (.int .i64 64)) (fun i _=>64*K - (intOf i).toNat)
 case atStart=>exact⟨0,Nat.zero_le _,rfl,H1.out,D1.out,D2.out⟩
 case round=>
  obtain⟨q,hq,rfl,hj,e1,e2⟩:=hrel
  have HJq:=jH hj;clear hj
  obtain⟨n,hn⟩:∃n,n=64*K:=⟨_,rfl⟩
  obtain⟨p,hp⟩:∃p,p=64*q:=⟨_,rfl⟩
  rw[←hn]at e1;rw[←hp]
  have E1:=jH e1;have E2:=jH e2
  by_cases hqn:q<K
  ·have hpi:(p:Int)<(n:Int):=by omega
   have hpn:p≤n:=by omega
   have hnc:n≤c:=by omega
   have hcm:c≤9223372036854775807:=by unfold maxLen at hc2;exact hc2
   have HPq:=jH (And.intro hn hp);clear hn hp
   have hnm:¬((n:Int) - (p:Int)<64):=by have:=HPq.out;omega
   have dnm:decide ((n:Int) - (p:Int)<64)=false:=decide_eq_false hnm
   have hnm2:¬(((n - p:Nat):Int)<64):=by have:=HPq.out;omega
   have dnm2:decide (((n - p:Nat):Int)<64)=false:=decide_eq_false hnm2
   have hcp:¬c=p:=by omega
   have hmn:∀(w:World) (ts:Array TypeId) (t:TypeId),(Builtin.min_ ts t #[.int .i64 64,.int .i64 ((n - p:Nat):Int)]).run Tryz.prog w= .ok (.int .i64 64) w:=fun w ts t=>by
    rw[run_min_int2,if_neg hnm2]
   go_wp2
   go_quiet (fail)
   have e3:(wr.drewN nq).cell? ⟨b2,0,none⟩=some (.slice (some ⟨b,o,none⟩) n c):=e1;have e4:(wr.drewN nq).cell? ⟨b3,0,none⟩=some (.int .i64 64):=e2;have hj2:J (fun _=>False) (List.range q) (wr.drewN nq):=HJ.out _ _ _ _ _ HJq.out ⟨rfl,rfl,rfl,Nat.le_refl _,fun _ _ _=>rfl⟩ (kB4.refl _ _ _);generalize wr.drewN nq=W1 at*;clear e1 e2 E1 E2 HJq hmn;obtain⟨fn,tmps,assign,body,hy,hR⟩:=HY.out (fun _=>False) (List.range q) q W1 hj2 (by rw[List.length_range];exact hqn) ⟨q+1,hqn,List.range_succ.symm⟩
   dsimp only[kQd]at hy
   rw[←HPq.out.2]at hy;rw[←List.range_succ]at hR
   have HRy:=jH hR;clear hR hj2
   have E3:=jH e3;have E4:=jH e4
   have h64a:(p:Int)+64≤(c:Int):=by have:=HPq.out;omega
   have h64n:p+64≤c:=by omega
   have hpz:(0:Int)≤(p:Int)+64:=by omega
   have hpp:(p:Int)≤(p:Int)+64:=by omega
   go_upto_region 4 with(fail)
   refine(wpIn_wide (n:=2)).1 ?_
   gi_wp2
   refine HRy.out.mono ?_
   rintro e W3 (⟨rfl,hJ3,hk3⟩ | ⟨rfl,hx3,hk3⟩)
   ·have HJ3:=jH hJ3;have f3:=jH (hk3.cell E3.out (.inr HRr.out.1));have f4:=jH (hk3.cell E4.out (.inr HRr.out.2))
    have hq1:(p:Int)+64=((64*(q+1):Nat):Int):=by have:=HPq.out;omega
    have HQ1:=jH hq1;clear hq1
    have e4':=f4.out;clear hJ3 hk3 hy e3 e4
    gi_wp2
    go_wp2
    go_roundw
    case rel=>exact⟨q+1,by omega,by rw[←HQ1.out],HJ3.out,by rw[←HPq.out.1];exact f3.out,f4.out⟩
    case measure=>simp[intOf];have:=HPq.out;omega
   ·have HX3:=jH hx3;clear hx3 hk3 hy e3 e4
    gi_wp2
    go_wp2
    refine jS (results_none rfl _ _ _) rfl ?_;exact⟨⟨_,rfl⟩,.inr ⟨_,_,⟨_,hqn,rfl⟩,HX3.out⟩⟩
  ·obtain rfl:q=K:=by omega
   have hpi:¬(p:Int)<(n:Int):=by omega
   clear hn hp E1 E2;go_wp2
   go_end0
   exact⟨⟨_,rfl⟩,.inl ⟨fun _=>False,HJq.out⟩⟩
def ckL (zs:List Int) (q:Nat):List Int:=(zs.drop (64*q)).take 64
def cksL (zs:List Int) (K:Nat):List (List Int):=(List.range K).map (ckL zs)
theorem ckL_length (zs:List Int)(K q:Nat)(hz:zs.length=64*K)(hq:q<K):(ckL zs q).length=64:=by
 unfold ckL;rw[List.length_take,List.length_drop];omega
theorem ckL_get (zs:List Int)(q j:Nat)(hj:j<64):(ckL zs q)[j]? =zs[64*q+j]? :=by
 unfold ckL;simp[List.getElem?_take,hj]
theorem kFl (zs:List Int)(K:Nat):cksL zs (K+1)=cksL zs K++[ckL zs K]:=by
 unfold cksL;rw[List.range_succ,List.map_append]
 rfl
theorem cksL_length (zs:List Int)(K:Nat):(cksL zs K).length=K:=by simp[cksL]
structure CuI (w:World) (z bo:Nat) (zs:List Int) (T:Nat→Prop) (pre:List Nat) (W:World):Prop where
 bel:Below w.heap.size w W
 tn:∀k,T k→bo<k∧k<W.heap.size
 q:pre=List.range pre.length
 row:∃a c,W.heap[bo]? =some (.cells #[.slice a pre.length c] 138 (0,0))∧W.ownsRow w.heap.size 142 64 (.slice a pre.length c) pre.length ((cksL zs pre.length).flatMap (kAh val8))∧∀k,(Value.slice a pre.length c).ownBlock=some k→¬T k∧z≤k
 sz:z≤W.heap.size
theorem CuI.abide (w:World)(z bo:Nat)(zs:List Int)(hbo:w.heap.size≤bo):kFf (CuI w z bo zs):=by
 rintro T T' pre W W' ⟨h1,h2,h3,⟨a,c,h4,h5,h6⟩,h7⟩ ho hw
 have hl:=(jL h4)
 refine⟨h1.trans (ho.below _ h1.size (fun k hk=>by have:=(h2 k hk).1;omega)),fun k hk=> ?_,h3,⟨a,c,ho.cellsBlock h4 (fun h=>Nat.lt_irrefl _ (h2 _ h).1),kGm h5 ho (fun k e=>(h6 k e).1),fun k e=>⟨fun ht=> ?_,(h6 k e).2⟩⟩,Nat.le_trans h7 ho.size⟩
 ·rcases hw k hk with h | h
  ·have:=h2 k h;have:=ho.size;omega
  ·omega
 ·rcases hw k ht with h | h
  ·exact(h6 k e).1 h
  ·have:=(World.ownsRow.lt h5 k e).2;omega
theorem cut_walk (w:World)(b o c K:Nat)(zs:List Int)(hK:K≤1048576)(hc:64*K≤c)(hc2:c≤maxLen)(hz:zs.length=64*K)(hr:w.rangeAt b o (kAh val8 zs))(hb:b<w.heap.size):
  Calls Tryz.prog 73 #[.slice (some ⟨b,o,none⟩) (64*K) c] w fun e w'=>∃a c',e= .returned (.slice a K c')∧w'.ownsRow w.heap.size 142 64 (.slice a K c') K ((cksL zs K).flatMap (kAh val8))∧Below w.heap.size w w':=by
 have HR:=jH hr;clear hr
 have hA1:=jN w (.cells #[.slice none 0 0] 138);have hB1:=(Below.refl _ w).alloc jR (.cells #[.slice none 0 0] 138);have hz1:=World.size_alloc w (.cells #[.slice none 0 0] 138)
 have HA1:=jH hA1;have HB1:=jH hB1;have HZ1:=jH hz1
 clear hA1 hB1 hz1
 obtain⟨bo,hbo⟩:∃bo,bo=w.heap.size:=⟨_,rfl⟩
 refine kB0 Tryz.func73 rfl ?_;simp only[Tryz.ntmps73,List.size_toArray,List.length_cons,List.length_nil,Nat.reduceAdd,Nat.reduceSub,Array.replicate_succ,Array.replicate_zero,List.push_toArray,List.append_toArray,List.nil_append,List.cons_append]
 go_wp2_with fail
 generalize w.alloc (.cells #[.slice none 0 0] 138)=w1 at*;refine(kFg (some ⟨b,o,none⟩) (64*K) c w1).mono ?_;rintro e w2 ⟨rfl,c2,c3,hb2,hz2⟩;have HZ2:=jH hz2;have HSt:=jH (kD3 b o c K hK hc hc2 w1.heap.size (w1.heap.size+1) (fun k=>k<w2.heap.size∧k≠bo) w2 ⟨by omega,by have:=HZ1.out;omega⟩ ⟨by omega,by have:=HZ1.out;omega⟩ c2 c3);have HB2:=jH hb2;have HI0:Hid (CuI w w2.heap.size bo zs (fun _=>False) [] w2):=jH ⟨HB1.out.trans (hb2.mono HB1.out.size),fun _ h=>h.elim,rfl,⟨none,0,by rw[hbo];exact(hb2.block _ (by have:=HZ1.out;omega)).trans HA1.out,World.ownsRow_nil _ _ _ _,fun k e=>by cases e⟩,Nat.le_refl _⟩;have HBo:=jH hbo;clear c2 c3 hb2 hz2;rw[←hbo];clear hbo;go_wp2
 refine kE1 (gf:=126) (lb:= #[.pointer (some ⟨w1.heap.size,0,none⟩),.pointer (some ⟨w1.heap.size+1,0,none⟩)]) rfl (enters_of Tryz.func126 (by kernel_rfl) rfl) HSt.out (Below.refl _ _) (fun k hk=>hk.1) (fun _=>rfl)
  (CuI w w2.heap.size bo zs) (fun _ _ _ _=>False) (CuI.abide w _ bo zs (by rw[HBo.out];exact Nat.le_refl _)) (fun _ _ _ _ _ _ h=>h.elim) HI0.out
  (fun tmps T q a' W=>a'={tmps:=(tmps.setIfInBounds 7 (.slice (some ⟨b,o+64*q,none⟩) 64 64)).setIfInBounds 4 (.slice (some ⟨b,o+64*q,none⟩) 64 64),defers:=[]}) (fun T x a' W W' h ho=>h) ?assign ?body ?done ?stop
 case stop=>
  rintro D c T pre W - - - h;exact h.elim
 case assign=>
  rintro l T pre x W K hi hK
  have HK:=jH hK;clear hK
  simp only[kQd]
  gi_wp2
  exact HK.out _ _ (kEk.refl _ _ _) hi rfl
 case body=>
  rintro lp Tt pre q a' W hTl hl - hst hA hlen ⟨q',hq',hpq⟩;subst hA
  have hq:q=pre.length∧q<K:=by
   have h1:=hst.q
   have h2:pre.length+1=q':=by have:=congrArg List.length hpq;simpa using this
   rw[←h2,List.range_succ]at hpq;obtain⟨h3,h4⟩:=List.append_inj' hpq rfl
   have h5:q=pre.length:=by simpa using h4
   exact⟨h5,by omega⟩
  obtain⟨hq1,hqK⟩:=hq;clear hpq hq' hlen;obtain⟨hbel,htn,hpre,⟨a0,c0,hcell,hown,hblk⟩,hsz⟩:=hst;rw[←hq1]at hcell hown hblk
  have HBe:=jH hbel;have HTn:=jH htn;have HPr:=jH hpre;have HCe:=jH hcell;have HOw:=jH hown;have HBk:=jH hblk;have HQ:=jH hq1
  have HRk:Hid (W.rangeAt b (o+64*q) (kAh val8 (ckL zs q))):=jH (fun j v hv=>by
   rw[kA0,List.getElem?_map]at hv
   have hj:j<64:=by
    by_cases hj:j<64
    ·exact hj
    ·rw[List.getElem?_eq_none (by rw[ckL_length zs K q hz hqK];omega)]at hv;cases hv
   rw[ckL_get zs q j hj]at hv;have h1:=HR.out (64*q+j) v (by rw[kA0,List.getElem?_map];exact hv);rw[Nat.add_assoc]
   exact(HBe.out.cell (p:=⟨b,o+(64*q+j),none⟩) hb).trans h1)
  have hcl:=ckL_length zs K q hz hqK;have HSu:=jH (kFl zs q);clear hbel htn hpre hcell hown hblk hq1;generalize ckL zs q=l at*
  have hbs:(kAh val8 l).length=64:=by rw[kAf (sz:=1) (fun _=>rfl),hcl]
  have p0:W.cell? ⟨bo,0,none⟩=some (.slice a0 q c0):=jK W bo 0 _ _ (0,0) HCe.out;have hbw:b<W.heap.size:=Nat.lt_of_lt_of_le hb HBe.out.size
  have hbob:bo≠b:=by rw[HBo.out];omega
  simp only[List.setIfInBounds_toArray,List.set_cons_zero,List.set_cons_succ]
  gi_wp2
  refine kAj [6] (fun w':World=>w'.cell? ⟨bo,0,none⟩=some (.slice a0 q c0)∧w'.rangeAt b (o+64*q) (kAh val8 l)) (by kernel_rfl) ?_;have HCx:Hid ((fun w':World=>w'.cell? ⟨bo,0,none⟩=some (.slice a0 q c0)∧w'.rangeAt b (o+64*q) (kAh val8 l)) W.drew):=jH ⟨p0,HRk.out⟩;have HO3:Hid (W.drew.ownsRow w.heap.size 142 64 (.slice a0 q c0) q ((cksL zs q).flatMap (kAh val8))):=jH (World.ownsRow.drew HOw.out);have HD:Hid (Below W.heap.size W W.drew):=jH (Below.refl _ W).drew;clear p0;generalize W.drew=w3 at*;have hw3:w.heap.size≤w3.heap.size:=Nat.le_trans HBe.out.size HD.out.size;refine' kAa (i:=0) (v:=_) [5,6] (by kernel_rfl) rfl (by kernel_rfl) (fun _ _ _ h=>h) (by rfl) ?h0 HCx.out ?k0
  case h0=>
   rintro w' ⟨c0,c1⟩
   go_simp
   try with_reducible rfl
  simp only[jA,jB,jC,Act.put,jD,jE,jF];refine' kAa (i:=1) (v:=_) [2,3,4,5,6] (by kernel_rfl) rfl (by kernel_rfl) (fun _ _ _ h=>h) (by rfl) ?h1 HCx.out ?k1
  case h1=>
   rintro w' ⟨c0,c1⟩
   go_simp
   try with_reducible rfl
  simp only[jA,jB,jC,Act.put,jD,jE,jF];refine' kAa (i:=2) (v:= .pointer (some ⟨b,o+64*q,none⟩)) [3,4,5,6] (by kernel_rfl) rfl (by kernel_rfl) (fun _ _ _ h=>h) (by rfl) ?h2 HCx.out ?k2
  case h2=>
   rintro w' ⟨c0,c1⟩;have ha:=run_arrayAt (P:= Tryz.prog) w' 142 22 64 (some ⟨b,o+64*q,none⟩) 64 64 Tryz.underlying142 jR
   go_simp
   try with_reducible rfl
  simp only[jA,jB,jC,Act.put,jD,jE,jF];refine' kAa (i:=3) (v:=_) [4,5,6] (by kernel_rfl) rfl (by kernel_rfl) (fun _ _ _ h=>h) (by rfl) ?h3 HCx.out ?k3
  case h3=>exact fun w' hC=>by refine kC4 142 (.tmp 10) ?_ b (o+64*q) ?_ (kAh val8 l) (.array 64 22) hC.2 Tryz.underlying142 rfl (by rw[hbs];kernel_rfl)<;>rfl
  simp only[jA,jB,jC,Act.put,jD,jE,jF];refine kDp (i:=4) (v:= .slice (some ⟨w3.heap.size,0,none⟩) 1 1) (w':=w3.alloc (.cells (kAh val8 l).toArray 142)) (by kernel_rfl) rfl (by kernel_rfl) (by rfl) (by go_simp;exact congrArg (fun c=>w3.alloc (.cells c 142)) (kE6 (kAh val8 l) _ (by rw[hbs];rfl))) ⟨kBm HCx.out.1 _,World.rangeAt_alloc HCx.out.2 _⟩ ?_;simp only[jA,jB,jC,Act.put,jD,jE,jF]
  have hbow:bo<w2.heap.size:=by have:=HZ1.out;have:=HZ2.out;have:=HBo.out;omega
  refine kE3 (i:=5) Tryz.elemB8 (by kernel_rfl) rfl (by kernel_rfl) (by rfl) (.tmp 8) (.tmp 12) rfl HO3.out (by omega) (by omega) hw3 (kAh val8 l) hbs (fun u hu=>kCk l u (by simpa using hu)) 142 rfl rfl (fun w' hg=>⟨kAy hg HCx.out.1 (fun k e=>by have:=(HBk.out k e).2;omega),kBs hg HCx.out.2 (fun k e=>by have:=(HBk.out k e).2;have:=HB1.out.size;have:=HB2.out.size;omega)⟩) ?_;intro a' c' w5 ho5 hg5 hn5;simp only[jA,jB,jC,Act.put,jD,jE,jF];refine kBp 6 (by rfl) (by kernel_rfl) (by kernel_rfl) ?_;simp only[List.drop_succ_cons,List.drop_zero];have h5c:w5.heap[bo]? =some (.cells #[.slice a0 q c0] 138 (0,0)):=(kAt hg5 (by have:=HD.out.size;omega) (fun k e=>by have:=(HBk.out k e).2;omega)).trans ((HD.out.block bo (by omega)).trans HCe.out);have p1:w5.cell? ⟨bo,0,none⟩=some (.slice a0 q c0):=jK w5 bo 0 _ _ (0,0) h5c;have f1:=jO w5 bo 0 _ _ h5c;have h6c:=jP w5 bo 0 _ _ (.slice a' (q+1) c') h5c
  have H5c:=jH h6c;have H5:=jH ho5;have HG5:=jH hg5;have HN5:=jH hn5
  clear h5c h6c ho5 hg5 hn5
  gi_wp2
  have hnb:=HN5.out;have hgw:W.grownBy w5 (Value.slice a0 q c0).ownBlock:=kA4 ⟨HD.out.os,HD.out.tape,HD.out.output,HD.out.size,fun k hk _=>HD.out.block k hk⟩ HG5.out
  have hblk5:∀k,(Value.slice a' (q+1) c').ownBlock=some k→¬Tt k∧w2.heap.size≤k:=fun k e=>by
   rcases hnb with h | ⟨g,h,hg⟩
   ·rw[h]at e;exact HBk.out k e
   ·rw[h]at e;cases e;have:=HD.out.size;exact⟨fun ht=>by have:=(HTn.out _ ht).2;omega,by omega⟩
  have hsz6:(w5.setCell ⟨bo,0,none⟩ (.slice a' (q+1) c')).heap.size=w5.heap.size:=by simp
  refine⟨⟨by rw[hsz6];exact hgw.size,fun k hk hT=> ?_⟩,⟨?_,fun k hk=>⟨(HTn.out k hk).1,?_⟩,?_,⟨a',c',?_,?_,?_⟩,?_⟩⟩
  ·have hkb:k≠bo:=by
    rcases hT with h | h
    ·have:=(HTn.out k h).1;omega
    ·exact h.2
   rw[jQ w5 ⟨bo,0,none⟩ k _ hkb];refine hgw.block k hk (fun e=> ?_);have:=HBk.out k e.symm
   rcases hT with h | h
   ·exact this.1 h
   ·omega
  ·exact(HBe.out.trans (kAv hgw (fun k e=>by have:=(HBk.out k e).2;have:=HB1.out.size;have:=HB2.out.size;omega) HBe.out.size)).setCell (p:=⟨bo,0,none⟩) (by show w.heap.size≤bo;rw[HBo.out];exact Nat.le_refl _) _
  ·rw[hsz6];exact Nat.lt_of_lt_of_le (HTn.out k hk).2 hgw.size
  ·rw[List.length_append,List.length_singleton,List.range_succ,←HPr.out,←HQ.out]
  ·have e:(pre++[q]).length=q+1:=by rw[List.length_append,List.length_singleton,HQ.out]
   rw[e];exact H5c.out
  ·have e:(pre++[q]).length=q+1:=by rw[List.length_append,List.length_singleton,HQ.out]
   rw[e,HSu.out,List.flatMap_append];simp only[List.flatMap_cons,List.flatMap_nil,List.append_nil];refine H5.out.kept (kAd w5 bo 0 _) ?_
   cases e2:(Value.slice a' (q+1) c').ownBlock with
   | none=>exact .inl rfl
   | some k=>exact .inr (fun e3=>by cases e3;have:=(hblk5 _ e2).2;omega)
  ·have e:(pre++[q]).length=q+1:=by rw[List.length_append,List.length_singleton,HQ.out]
   rw[e];exact hblk5
  ·rw[hsz6];exact Nat.le_trans hsz hgw.size
 case done=>
  rintro D Tt xs w20 hD hTD rfl hst hDk;obtain⟨hbel,htn, -,⟨a0,c0,hcell,hown,hblk⟩,hsz⟩:=hst;rw[List.length_range]at hcell hown hblk;have p0:w20.cell? ⟨bo,0,none⟩=some (.slice a0 K c0):=jK w20 bo 0 _ _ (0,0) hcell
  have HBe:=jH hbel;have HOw:=jH hown;have HBk:=jH hblk;have HDk:=jH hDk;have HTD:=jH hTD
  have hwD:w.heap.size≤D:=by have:=HB1.out.size;have:=HB2.out.size;omega
  clear hbel htn hcell hown hblk hDk hTD;go_wp2
  refine kB5 HDk.out (kBy (results_tmp rfl _ _ _) ?_);refine⟨a0,c0,rfl,?_,kGf HBe.out D _ hwD⟩;refine HOw.out.kept (grownBy_putObj' w20 D _) ?_
  cases e2:(Value.slice a0 K c0).ownBlock with
  | none=>exact .inl rfl
  | some k=>exact .inr (fun e3=>by cases e3;exact(HBk.out _ e2).1 HTD.out)
end Go.Proofs.YtbmphakfgoompaaGreat

namespace Go.Proofs.YtbmphakfgoompaaGreat
open Go.RowKit
theorem kGt {P:Program}{ops:Array Oper}{w:World}{Q:Act→Prop}{rest:List Oper}{o:Oper}{a:Act}(hg:o.guard=none)(bo:BinOp)(t:TypeId)(x y:Operand)(t2:TypeId)(ho:o.op= .binOp bo t x y t2)(xv yv v:Value)(hx:a.eval x=xv)(hy:a.eval y=yv)
  (hG:(eqGuard bo t x y xv yv).run P w= .ok () w)(hr:(binOp bo t xv yv).run P w= .ok v w)(h:wpStill P ops w Q rest (a.put o.dst v)):wpStill P ops w Q (o :: rest) a:=by
 refine kFb hg ?_ h;unfold execOp;simp only[ho,hx,hy,Sem.run_bind,Sem.run_pure,Result.andThen_ok,hG,hr]
theorem kNh (l m:List Int)(h:l.length=m.length):eqL (fun a b=>decide (a=b)) l m=decide (l=m):=by
 by_cases e:l=m
 ·rw[(kGg l m h).2 e];simp[e]
 ·cases e2:eqL (fun a b=>decide (a=b)) l m
  ·simp[e]
  ·exact absurd ((kGg l m h).1 e2) e
end Go.Proofs.YtbmphakfgoompaaGreat

namespace Go.Proofs.YtbmphakfgoompaaGreat
open Go.RowKit
theorem kK2 (xs ys:Array Value)(x y:Operand)(w:World):(eqGuard .eql 142 x y (.agg xs) (.agg ys)).run Tryz.prog w= .ok () w:=run_eqGuard_agg w .eql 142 x y xs ys (by kernel_rfl)
theorem kNi {P:Program}(w:World)(t:TypeId)(xs ys:Array Value)(b:Bool)(h:(Op.equal t (.agg xs) (.agg ys)).run P w= .ok b w):(binOp .eql t (.agg xs) (.agg ys)).run P w= .ok (.bool b) w:=by
 simp[binOp,h]
theorem kNj (l:List Int)(hl:l.length=64)(w:World):(binOp .eql 142 (.agg (kAh val8 l).toArray) (.agg (kAh val8 l).toArray)).run Tryz.prog w= .ok (.bool true) w:=by
 have:= Tryz.k8.equal w l l hl hl;rw[kNh l l rfl]at this
 simpa using kNi w _ _ _ _ this
structure kIy (w:World) (g bt:Nat) (T:kAp Int):Prop where
 tr:kAu val8 141 64 w g T
 tp:T.top.length=272
 ml:∀m∈T.mid,m.length=64
 ll:∀l∈T.low,l.length=64
 mn:T.mid.length≤1048576
 ln:T.low.length≤1048576
 ct:w.cell? ⟨bt,0,none⟩=some (.pointer (some ⟨g,0,none⟩))
theorem kIy.below {w w':World}{g bt:Nat}{T:kAp Int}(h:kIy w g bt T)(hb:Below w.heap.size w w'):kIy w' g bt T:=
 ⟨h.tr.below hb jR,h.tp,h.ml,h.ll,h.mn,h.ln,(hb.cell (p:=⟨bt,0,none⟩) (World.block_lt_of_cell? w _ h.ct)).trans h.ct⟩
theorem kIy.low {w:World}{g bt:Nat}{T:kAp Int}(h:kIy w g bt T):∃a c,w.cell? ⟨g,273,none⟩=some (.slice a T.low.length c)∧kAg val8 64 w a T.low:=by
 obtain⟨am,cm,al,cl,h1,h2,h3⟩:=h.tr;refine⟨al,cl,?_,h3⟩;rw[jK w g 273 _ _ (0,0) h1];simp[kEi,h.tp]
theorem kIy.mid {w:World}{g bt:Nat}{T:kAp Int}(h:kIy w g bt T):∃a c,w.cell? ⟨g,272,none⟩=some (.slice a T.mid.length c)∧kAg kAb 64 w a T.mid:=by
 obtain⟨am,cm,al,cl,h1,h2,h3⟩:=h.tr;refine⟨am,cm,?_,h2⟩;rw[jK w g 272 _ _ (0,0) h1];simp[kEi,h.tp]
theorem kEx (w:World)(g bt:Nat)(T:kAp Int)(h:kIy w g bt T)(no:Nat)(hno:no<T.low.length):
  Calls Tryz.prog 74 #[.int .u16 (no:Nat),.pointer (some ⟨bt,0,none⟩)] w fun e w'=>e= .returned (.bool true)∧Below w.heap.size w w':=by
 obtain⟨a,c,c1,hbl⟩:=h.low;obtain⟨b,o,rfl⟩:=hbl.some (by omega);have HR:=jH (hbl.get no hno);have hl:=h.ll _ (List.getElem_mem hno);have c0:=h.ct;have hln:=h.ln;clear h hbl;generalize T.low[no]=l at*;generalize T.low.length=nl at*
 have hs:(kAh val8 l).length=64:=by rw[kAf (sz:=1) (fun _=>rfl),hl]
 have g1:(0:Int)≤(no:Int):=by omega
 have g2:(no:Int)<(nl:Int):=by omega
 go_enter Tryz.func74,Tryz.ntmps74
 go_upto_region 1 with(fail)
 refine wp_region_still_lit (by kernel_rfl) (by kernel_rfl) ?_
 iterate 6 still_step
 refine kBc rfl 142 (.tmp 9) rfl b (o+no*64) rfl (kAh val8 l) _ (show w.drew.rangeAt b (o+no*64) (kAh val8 l)from HR.out) Tryz.underlying142 rfl (by rw[hs];kernel_rfl) ?_
 iterate 6 still_step
 refine kBc rfl 142 (.tmp 16) rfl b (o+no*64) rfl (kAh val8 l) _ (show w.drew.rangeAt b (o+no*64) (kAh val8 l)from HR.out) Tryz.underlying142 rfl (by rw[hs];kernel_rfl) ?_;refine kGt rfl .eql 142 (.tmp 10) (.tmp 17) _ rfl (.agg (kAh val8 l).toArray) (.agg (kAh val8 l).toArray) _ rfl rfl (kK2 _ _ _ _ _) (kNj l hl _) ?_
 still_step
 refine wpStill_nil ?_;go_wp2
 go_ret
 exact⟨rfl,(Below.refl _ w).drew⟩
theorem kId (w:World)(g bt b5:Nat)(T:kAp Int)(h:kIy w g bt T)(no:Nat)(hno:no<T.low.length)(h5:w.cell? ⟨b5,0,none⟩=some (.func (.func 74) #[] #[.pointer (some ⟨bt,0,none⟩)])):
  Calls Tryz.prog 77 #[.int .u16 (no:Nat),.pointer (some ⟨b5,0,none⟩)] w fun e w'=>e= .returned (.bool false)∧Below w.heap.size w w':=by
 have HS:=jH (kEx w g bt T h no hno);clear h
 go_enter Tryz.func77,Tryz.ntmps77
 go_wp2_with fail
 refine HS.out.mono ?_;rintro e w1 ⟨rfl,hb⟩
 have HB:=jH hb;clear hb
 go_wp2
 go_ret
 exact⟨rfl,HB.out⟩
theorem kIc (w:World)(g bt b5:Nat)(T:kAp Int)(h:kIy w g bt T)(no:Nat)(hno:no<T.mid.length)(hmid:∀m∈T.mid,∀k∈m,k<T.low.length)(h5:w.cell? ⟨b5,0,none⟩=some (.func (.func 74) #[] #[.pointer (some ⟨bt,0,none⟩)])):
  Calls Tryz.prog 75 #[.int .u16 (no:Nat),.pointer (some ⟨bt,0,none⟩),.pointer (some ⟨b5,0,none⟩)] w fun e w'=>e= .returned (.bool true)∧Below w.heap.size w w':=by
 obtain⟨a,c,c1,hbl⟩:=h.mid;obtain⟨b,o,rfl⟩:=hbl.some (by omega);have hl:=h.ml _ (List.getElem_mem hno);have HNA:Hid (kCa w (some ⟨b,o+no*64,none⟩) T.mid[no]):=jH (fun i hi=>⟨b,o+no*64,rfl,hbl.cell kBj no hno i hi⟩)
 have HCf:=jH (kEl w b (o+no*64) 64 64 T.mid[no] 77 #[.pointer (some ⟨b5,0,none⟩)] hl (by omega) HNA.out (enters_of Tryz.func77 (by kernel_rfl) rfl)
  (fun x W hx hb=>kId W g bt b5 T (h.below hb) x (hmid _ (List.getElem_mem hno) x hx) ((hb.cell (p:=⟨b5,0,none⟩) (World.block_lt_of_cell? w _ h5)).trans h5)))
 have c0:=h.ct;have hmn:=h.mn;clear h hbl hl hmid HNA;generalize T.mid.length=nm at*
 have g1:(0:Int)≤(no:Int):=by omega
 have g2:(no:Int)<(nm:Int):=by omega
 go_enter Tryz.func75,Tryz.ntmps75
 go_wp2_with fail
 refine HCf.out.mono ?_;rintro e w1 ⟨rfl,hb⟩
 have HB:=jH hb;clear hb
 go_wp2
 go_ret
 exact⟨rfl,HB.out⟩
end Go.Proofs.YtbmphakfgoompaaGreat
