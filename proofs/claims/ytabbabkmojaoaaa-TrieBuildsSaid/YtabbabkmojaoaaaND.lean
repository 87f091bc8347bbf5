/- several texts in one: TF TD TE TP -/
import Derived.Test.YtabbabkmojaoaaaNC
import Derived.Test.YtabbabkmojaoaaaNA
set_option linter.unusedVariables false
set_option linter.unusedSimpArgs false
set_option maxRecDepth 100000
set_option maxHeartbeats 16000000
namespace Go.Proofs.Ytabbabkmojaoaaa
open Go.RowKit
theorem kBq {w w1 w2:World}(h1:Below w.heap.size w w1)(h2:Below w1.heap.size w1 w2):Below w.heap.size w w2:=h1.trans (h2.mono h1.size)
def S0:MkS Int:={top:=List.replicate 272 0,cur:=List.replicate 64 0,lows:=[],mids:=[],blocks:=0}
theorem kLs:MkW S0:=⟨List.length_replicate,List.length_replicate,fun _ h=>absurd h (List.not_mem_nil),fun _ h=>absurd h (List.not_mem_nil)⟩
theorem kE2 (w:World):
  Calls Try.prog 66 #[] w fun e w'=>e= .returned (.pointer (some ⟨w.heap.size+3,0,none⟩))∧
   kBz val8 1 135 114 120 119 w' w.heap.size S0 [] [] none 0 none 0∧Below w.heap.size w w':=by
 go_enter Try.func66,Try.ntmps66
 go_upto_region 1 with(fail)
 refine wp_region_list ?_;refine kAc (v:= .agg (trC S0 none 0 none 0).toArray) (w':=w) rfl (by kernel_rfl) ?_;refine kAc (v:= .pointer (some ⟨w.heap.size,0,none⟩)) (w':=w.alloc (.cells (trC S0 none 0 none 0).toArray 114)) rfl (by kernel_rfl) ?_
 obtain⟨w1,hw1⟩:∃w1,w1=w.alloc (.cells (trC S0 none 0 none 0).toArray 114):=⟨_,rfl⟩
 have hs1:w1.heap.size=w.heap.size+1:=by rw[hw1];simp
 rw[←hw1];refine kAc (v:= .map (some (w.heap.size+1))) (w':=w1.alloc (.map #[] 0)) rfl (by rw[←hs1];kernel_rfl) ?_
 obtain⟨w2,hw2⟩:∃w2,w2=w1.alloc (.map #[] 0):=⟨_,rfl⟩
 have hs2:w2.heap.size=w.heap.size+2:=by rw[hw2];simp[hs1]
 rw[←hw2];refine kAc (v:= .map (some (w.heap.size+2))) (w':=w2.alloc (.map #[] 0)) rfl (by rw[←hs2];kernel_rfl) ?_
 obtain⟨w3,hw3⟩:∃w3,w3=w2.alloc (.map #[] 0):=⟨_,rfl⟩
 have hs3:w3.heap.size=w.heap.size+3:=by rw[hw3];simp[hs2]
 rw[←hw3];refine kAc (v:= .agg (mkC w.heap.size S0).toArray) (w':=w3) rfl (by kernel_rfl) ?_;refine kAc (v:= .pointer (some ⟨w.heap.size+3,0,none⟩)) (w':=w3.alloc (.cells (mkC w.heap.size S0).toArray 135)) rfl (by rw[←hs3];kernel_rfl) ?_
 obtain⟨w4,hw4⟩:∃w4,w4=w3.alloc (.cells (mkC w.heap.size S0).toArray 135):=⟨_,rfl⟩
 rw[←hw4];refine kAc (v:= .pointer (some ⟨w.heap.size+3,0,none⟩)) (w':=w4) rfl (by kernel_rfl) ?_
 have b1:Below w.heap.size w w1:=by rw[hw1];exact(Below.refl _ _).alloc jR _
 have b2:Below w1.heap.size w1 w2:=by rw[hw2];exact(Below.refl _ _).alloc jR _
 have b3:Below w2.heap.size w2 w3:=by rw[hw3];exact(Below.refl _ _).alloc jR _
 have b4:Below w3.heap.size w3 w4:=by rw[hw4];exact(Below.refl _ _).alloc jR _
 have k1:w1.heap[w.heap.size]? =some (.cells (trC S0 none 0 none 0).toArray 114 (0,0)):=by rw[hw1];exact jN w _
 have k2:w2.heap[w.heap.size+1]? =some (.map #[] 0):=by rw[←hs1,hw2];exact jN w1 _
 have k3:w3.heap[w.heap.size+2]? =some (.map #[] 0):=by rw[←hs2,hw3];exact jN w2 _
 have k4:w4.heap[w.heap.size+3]? =some (.cells (mkC w.heap.size S0).toArray 135 (0,0)):=by rw[←hs3,hw4];exact jN w3 _
 have HB:=jH (kBq (kBq (kBq b1 b2) b3) b4)
 have HM:Hid (kBz val8 1 135 114 120 119 w4 w.heap.size S0 [] [] none 0 none 0):=jH
  ⟨k4,(b4.block _ (by omega)).trans ((b3.block _ (by omega)).trans ((b2.block _ (by omega)).trans k1)),World.ownsRow_nil _ _ _ _,World.ownsRow_nil _ _ _ _,(fun k e=>by cases e),
   (b4.block _ (by omega)).trans ((b3.block _ (by omega)).trans k2),(b4.block _ (by omega)).trans k3⟩
 clear b1 b2 b3 b4 k1 k2 k3 k4 hw1 hw2 hw3 hw4 hs1 hs2 hs3;go_wp2
 go_ret
 exact⟨rfl,HM.out,HB.out⟩
def blkF (f:Nat→Int) (k:Nat):List Int:=(List.range 64).map (fun i=>f (64*k+i))
theorem kAu (f:Nat→Int)(k:Nat):(blkF f k).length=64:=by simp[blkF]
def mkF (f:Nat→Int):Nat→MkS Int
 | 0=>S0
 | k+1=>kD6 eq8 (mkF f k) (blkF f k)
theorem kIj {S:MkS Int}{b:List Int}(h:MkW S)(hb:b.length=64):MkW (kD6 eq8 S b)∧(kD6 eq8 S b).blocks=S.blocks+1:=by
 by_cases h1:(S.blocks+1) % 64=0
 ·rw[kBi h1];exact⟨⟨by simpa using h.top,by simpa using h.cur,kDj h.low hb,kDj h.mid (by simpa using h.cur)⟩,rfl⟩
 ·rw[kBj h1];exact⟨⟨h.top,by simpa using h.cur,kDj h.low hb,h.mid⟩,rfl⟩
theorem kH2 {β:Type}(eqB:β→β→Bool)(L:List (List β))(b:List β):(kBe eqB L b).1.length≤L.length+1:=by
 unfold kBe
 cases kAo eqB b L with
 | none=>simp
 | some k=>simp
theorem kC4 (f:Nat→Int)(k:Nat):MkW (mkF f k)∧(mkF f k).blocks=k∧(mkF f k).lows.length≤k∧(mkF f k).mids.length≤k / 64:=by
 induction k with
 | zero=>exact⟨kLs,rfl,Nat.le_refl _,Nat.le_refl _⟩
 | succ k ih=>
  obtain⟨h1,h2,h3,h4⟩:=ih;obtain⟨h5,h6⟩:=kIj h1 (kAu f k)
  refine⟨h5,by rw[mkF,h6,h2],?_,?_⟩
  ·rw[mkF];have:=kH2 eq8 (mkF f k).lows (blkF f k)
   by_cases h7:((mkF f k).blocks+1) % 64=0
   ·rw[kBi h7];simp only;omega
   ·rw[kBj h7];simp only;omega
  ·rw[mkF]
   by_cases h7:((mkF f k).blocks+1) % 64=0
   ·rw[kBi h7];have:=kH2 kDl (mkF f k).mids ((mkF f k).cur.set ((mkF f k).blocks % 64) (kBe eq8 (mkF f k).lows (blkF f k)).2);simp only;omega
   ·rw[kBj h7];simp only;omega
structure kIa (B:Nat) (W W':World):Prop where
 os:W'.os=W.os
 tape:W'.tape=W.tape
 output:W'.output=W.output
 size:W.heap.size≤W'.heap.size
 block:∀b,B≤b→b<W.heap.size→W'.heap[b]? =W.heap[b]?
theorem kIa.mkAt (B:Nat){W W':World}{g:Nat}{S:MkS Int}{ml:List (List Int)}{mm:List (List Nat)}{am:Option Addr}{cm:Nat}{al:Option Addr}{cl:Nat}{tM tT tA tV:TypeId}(hk:kIa B W W')(hB:B≤g)
  (h:kBz val8 1 tM tT tA tV W g S ml mm am cm al cl):kBz val8 1 tM tT tA tV W' g S ml mm am cm al cl:=by
 have hl:=h.lt;have k:∀b,B≤b→b<W.heap.size→W'.heap[b]? =W.heap[b]? :=hk.block
 have r:∀ {E:TypeId} {s:Nat} {v:Value} {n:Nat} {xs:List Value},W.ownsRow (g+4) E s v n xs→W'.ownsRow (g+4) E s v n xs:=fun {E s v n xs} h=>by
  refine⟨h.1,?_⟩
  rcases h.2 with hn | ⟨gg,cap,cur,e,hbg,hgg,rest⟩
  ·exact .inl hn
  ·exact .inr ⟨gg,cap,cur,e,hbg,by rw[k gg (by omega) (jL hgg)];exact hgg,rest⟩
 exact⟨(k _ (by omega) (by omega)).trans h.mk_,(k _ hB (by omega)).trans h.tr,r h.rm,r h.rl,h.ap,(k _ (by omega) (by omega)).trans h.lm,(k _ (by omega) (by omega)).trans h.mm_⟩
def FilR (B:Nat) (f:Nat→Int) (J:Nat→World→Prop) (g bB:Nat) (i:Value) (wr:World):Prop:=
 ∃(r:Nat) (bc:List Int) (am:Option Addr) (cm:Nat) (al:Option Addr) (cl:Nat),r≤1114112∧i= .int .i32 r∧bc.length=64∧(∀j,j<r % 64→bc[j]? =some (f (64*(r / 64)+j)))∧
  wr.heap[bB]? =some (.cells (kAf val8 bc).toArray 119 (0,0))∧
  kBz val8 1 135 114 120 119 wr g (mkF f (r / 64)) (mkF f (r / 64)).lows (mkF f (r / 64)).mids am cm al cl∧J r wr∧
  (∀k,(Value.slice am (mkF f (r / 64)).mids.length cm).ownBlock=some k∨(Value.slice al (mkF f (r / 64)).lows.length cl).ownBlock=some k→k≠bB)
theorem kFo (cf:Nat)(lb:Array Value)(w:World)(f:Nat→Int)(J:Nat→World→Prop)(eg:∀args W,(callFunc cf args).run Try.prog W= .ok (.enter cf args) W)
  (hJ:∀k W W',J k W→Below w.heap.size W W'→J k W')
  (hcall:∀k W,k<1114112→J k W→w.heap.size≤W.heap.size→Calls Try.prog cf (#[.int .i32 (k:Nat)]++lb) W fun e W'=>e= .returned (val8 (f k))∧J (k+1) W'∧kIa w.heap.size W W')
  (h0:J 0 w):
  Calls Try.prog 36 #[.func (.func cf) #[] lb] w fun e w'=>∃g,e= .returned (.pointer (some ⟨g,0,none⟩))∧w.heap.size≤g∧
   (∃am cm al cl,kBz val8 1 135 114 120 119 w' g (mkF f 17408) (mkF f 17408).lows (mkF f 17408).mids am cm al cl)∧J 1114112 w':=by
 have HJ:=jH hJ;clear hJ
 have HCl:=jH hcall;clear hcall
 have H0:=jH h0;clear h0
 have HEg:=jH eg;clear eg
 have qF:=fun(w:World) (cs:Array Value)=>kEp (P:= Try.prog) w 37 (.func cf) #[] cs _ _ _ Try.underlying37
 go_enter Try.func36,Try.ntmps36
 go_wp2_with fail
 refine(kE2 w).mono ?_;rintro e w1 ⟨rfl,hm,hb⟩;have HM1:=jH hm
 have HB1:=jH hb;clear hm hb
 obtain⟨g,hg⟩:∃g,g=w.heap.size:=⟨_,rfl⟩
 rw[←hg]at HM1 ⊢;have hgs:g+4≤w1.heap.size:=HM1.out.lt;have HG:=jH hg;rw[←hg]at HB1
 go_upto_region 5 with(fail)
 change Code.wp _ _ _ _ (w1.alloc (.cells (kAf val8 (List.replicate 64 0)).toArray 119))
 obtain⟨w2,hw2⟩:∃w2,w2=w1.alloc (.cells (kAf val8 (List.replicate 64 0)).toArray 119):=⟨_,rfl⟩
 have HB2:Hid (Below w1.heap.size w1 w2):=jH (by rw[hw2];exact(Below.refl _ _).alloc jR _);have HC2:Hid (w2.heap[w1.heap.size]? =some (.cells (kAf val8 (List.replicate 64 0)).toArray 119 (0,0))):=jH (by rw[hw2];exact jN w1 _);rw[←hw2];clear hw2
 obtain⟨bB,hbB⟩:∃bB,bB=w1.heap.size:=⟨_,rfl⟩
 have HM2:=jH (HM1.out.below HB2.out);rw[←hbB]at HC2 hgs ⊢;have HW02:=jH (HB1.out.trans (HB2.out.mono (by have:=HB1.out.size;have:=HG.out;omega)));have HJ2:=jH (HJ.out 0 w w2 H0.out (by rw[←HG.out];exact HW02.out));clear hbB HM1 HB1 HB2 hg;rw[←HG.out]at HCl HJ ⊢;go_wp2
 go_loopw [5] (FilR g f J g bB) (fun i _=>1114112 - (intOf i).toNat)
 case atStart=>
  exact⟨0,List.replicate 64 0,none,0,none,0,Nat.zero_le _,rfl,List.length_replicate,fun j hj=>by omega,HC2.out,HM2.out,HJ2.out,fun k hk=>by rcases hk with hk | hk<;>cases hk⟩
 case round=>
  obtain⟨r,bc,am,cm,al,cl,hr,rfl,hbl,hbc,hcell,hmk,hj,hdis⟩:=hrel
  have HBc:=jH hbc;clear hbc
  have HCe:=jH hcell;clear hcell
  have HMk:=jH hmk;clear hmk
  have HJr:=jH hj;clear hj
  have HDi:=jH hdis;clear hdis
  by_cases hrN:r<1114112
  ·have hri:(r:Int)≤1114111:=by omega
   have i1:(0:Int)≤(r:Int) % 64:=by omega
   have i2:(r:Int) % 64<64:=by omega
   have heg:=HEg.out
   go_wp2_with fail
   refine(HCl.out r wr hrN HJr.out (by have:=HMk.out.lt;omega)).mono ?_;rintro e w5 ⟨rfl,hj5,hk5⟩;have HM5:=jH (kIa.mkAt g hk5 (Nat.le_refl g) HMk.out)
   have hbBl:bB<wr.heap.size:=(jL HCe.out)
   have HC5:=jH ((hk5.block bB (by omega) hbBl).trans HCe.out)
   have HJ5:=jH hj5;clear hj5
   have hs5:=hk5.size;clear hk5
   obtain⟨v1,q1⟩:∃v,w5.cell? ⟨bB,r % 64,none⟩=some v:=by
    rw[jK w5 bB (r % 64) _ _ (0,0) HC5.out,kA7];exact⟨_,by rw[List.getElem?_toArray,List.getElem?_map,List.getElem?_eq_getElem (by omega)];rfl⟩
   have f1:=jO w5 bB (r % 64) _ _ HC5.out
   have HC6:Hid ((w5.setCell ⟨bB,r % 64,none⟩ (val8 (f r))).heap[bB]? =some (.cells (kAf val8 (bc.set (r % 64) (f r))).toArray 119 (0,0))):=jH (by
    rw[jP w5 bB (r % 64) _ _ (val8 (f r)) HC5.out,kA7,kA7,List.map_set]
    simp)
   have HB6:Hid (Below g w5 (w5.setCell ⟨bB,r % 64,none⟩ (val8 (f r)))):=jH ((Below.refl g w5).setCell (p:=⟨bB,r % 64,none⟩) (by show g≤bB;omega) _)
   have HM6:Hid (kBz val8 1 135 114 120 119 (w5.setCell ⟨bB,r % 64,none⟩ (val8 (f r))) g (mkF f (r / 64)) (mkF f (r / 64)).lows (mkF f (r / 64)).mids am cm al cl):=jH (by
    have hm:=HM5.out
    have oth:∀k,k≠bB→(w5.setCell ⟨bB,r % 64,none⟩ (val8 (f r))).heap[k]? =w5.heap[k]? :=fun k hk=>jQ w5 ⟨bB,r % 64,none⟩ k _ hk
    refine⟨(oth _ (by omega)).trans hm.mk_,(oth _ (by omega)).trans hm.tr,?_,?_,hm.ap,(oth _ (by omega)).trans hm.lm,(oth _ (by omega)).trans hm.mm_⟩
    ·exact hm.rm.kept (kAe w5 bB (r % 64) _) (by
      cases e:(Value.slice am (mkF f (r / 64)).mids.length cm).ownBlock with
      | none=>exact .inl rfl
      | some k=>exact .inr (fun e2=>by cases e2;exact HDi.out bB (.inl e) rfl))
    ·exact hm.rl.kept (kAe w5 bB (r % 64) _) (by
      cases e:(Value.slice al (mkF f (r / 64)).lows.length cl).ownBlock with
      | none=>exact .inl rfl
      | some k=>exact .inr (fun e2=>by cases e2;exact HDi.out bB (.inr e) rfl)))
   have HJ6:=jH (HJ.out (r+1) w5 _ HJ5.out HB6.out)
   have hl6:bB<(w5.setCell ⟨bB,r % 64,none⟩ (val8 (f r))).heap.size:=(jL HC6.out)
   have HBs:Hid (∀j,j<r % 64+1→(bc.set (r % 64) (f r))[j]? =some (f (64*(r / 64)+j))):=jH (fun j hj=>by
    by_cases h:r % 64=j
    ·subst h;rw[List.getElem?_set_self (by omega)];rw[show 64*(r / 64)+r % 64=r by omega]
    ·rw[List.getElem?_set_ne h]
     exact HBc.out j (by omega))
   have hbl6:(bc.set (r % 64) (f r)).length=64:=by simpa using hbl
   generalize hw6:w5.setCell ⟨bB,r % 64,none⟩ (val8 (f r))=w6 at*;unfold val8 at hw6;generalize bc.set (r % 64) (f r)=bc6 at*;unfold val8
   by_cases h63:(r:Int) % 64=63
   ·have h63':((r:Int) % 64==63)=true:=beq_iff_eq.2 h63
    have HRn:=jH h63;clear h63
    obtain⟨hk1,hk2,hk3,hk4⟩:=kC4 f (r / 64);have HKf:=jH hk1
    have hq:r / 64<17408:=by omega
    have hbf:bc6=blkF f (r / 64):=by
     apply List.ext_getElem?
     intro j;have h3:=HRn.out
     by_cases hj:j<64
     ·rw[HBs.out j (by omega)];simp[blkF,hj]
     ·rw[List.getElem?_eq_none (by omega),List.getElem?_eq_none (by rw[kAu];omega)]
    have HBf:=jH hbf;clear hbf
    have hbs6:(kAf val8 bc6).length=64:=by rw[kAh (sz:=1) (fun _=>rfl),hbl6]
    have HR6:Hid (w6.rangeAt bB 0 (kAf val8 bc6)):=jH (by
     have:=World.rangeAt_of_block HC6.out 0 (kAf val8 bc6).length
     simpa using this)
    go_upto_region 10 with(fail)
    refine wp_region_list ?_;refine kAc (v:= .pointer (some ⟨g+3,0,none⟩)) (w':=w6) rfl (by rfl) ?_;refine wpList_load_mid rfl 119 (.tmp 4) rfl bB 0 rfl (kAf val8 bc6) (.array 64 5) HR6.out Try.underlying119 rfl (by rw[hbs6];kernel_rfl) ?_
    go_wp2_with fail
    rw[HBf.out];refine(kGg w6 g (mkF f (r / 64)) (blkF f (r / 64)) am cm al cl HKf.out (kAu _ _) (by omega) (by omega) (by omega) HM6.out).mono ?_;rintro e w7 ⟨rfl,am',cm',al',cl',hm7,ha7⟩;have hB7:=ha7.to_below (fun k e=>by rw[←kBf am (mkF f (r / 64)).mids.length cm]at e;have:=(World.ownsRow.lt HM6.out.rm k e).1;omega) (fun k e=>by rw[←kBf al (mkF f (r / 64)).lows.length cl]at e;have:=(World.ownsRow.lt HM6.out.rl k e).1;omega) (by omega);have HJ7:=jH (HJ.out (r+1) w6 w7 HJ6.out hB7);have HC7:=jH ((ha7.oth bB hl6 (by omega) (fun e=>HDi.out bB (.inl (by rw[kBf];exact e)) rfl) (fun e=>HDi.out bB (.inr (by rw[kBf];exact e)) rfl)).trans HC6.out);have HM7:=jH hm7
    have HDi7:Hid (∀k,(Value.slice am' (mkF f (r / 64+1)).mids.length cm').ownBlock=some k∨(Value.slice al' (mkF f (r / 64+1)).lows.length cl').ownBlock=some k→k≠bB):=jH (fun k hk=>by
     rw[kBf,kBf]at hk
     rcases hk with hk | hk
     ·rcases ha7.na k hk with h | h
      ·exact HDi.out k (.inl (by rw[kBf];exact h))
      ·omega
     ·rcases ha7.nl k hk with h | h
      ·exact HDi.out k (.inr (by rw[kBf];exact h))
      ·omega)
    clear hm7 ha7 hB7 hk1 hk2 hk3 hk4;go_wp2
    go_roundw
    case rel=>
     have h3:=HRn.out
     refine⟨r+1,bc6,am',cm',al',cl',by omega,by go_num,hbl6,fun j hj=>by omega,HC7.out,?_,HJ7.out,?_⟩
     ·rw[show(r+1) / 64=r / 64+1 by omega];exact HM7.out
     ·rw[show(r+1) / 64=r / 64+1 by omega];exact HDi7.out
    case measure=>simp[intOf];omega
   ·have h63':((r:Int) % 64==63)=false:=beq_false_of_ne h63
    have HRn:=jH h63;clear h63
    go_wp2
    go_roundw
    case rel=>
     have h3:=HRn.out
     refine⟨r+1,bc6,am,cm,al,cl,by omega,by go_num,hbl6,fun j hj=> ?_,HC6.out,?_,HJ6.out,?_⟩
     ·rw[show(r+1) / 64=r / 64 by omega];exact HBs.out j (by omega)
     ·rw[show(r+1) / 64=r / 64 by omega];exact HM6.out
     ·rw[show(r+1) / 64=r / 64 by omega];exact HDi.out
    case measure=>simp[intOf];omega
  ·have hr2:r=1114112:=by omega
   have hri:¬(r:Int)≤1114111:=by omega
   have hq:r / 64=17408:=by omega
   have HM8:Hid (kBz val8 1 135 114 120 119 wr g (mkF f 17408) (mkF f 17408).lows (mkF f 17408).mids am cm al cl):=jH (by rw[←hq];exact HMk.out);have HJ8:Hid (J 1114112 wr):=jH (by rw[←hr2];exact HJr.out);clear hr2 hq;have c0:=HM8.out.c_t;go_wp2
   go_ret
   exact⟨g,rfl,by rw[←HG.out];exact Nat.le_refl _,⟨am,cm,al,cl,HM8.out⟩,HJ8.out⟩
end Go.Proofs.Ytabbabkmojaoaaa

namespace Go.Proofs.Ytabbabkmojaoaaa
open Go.RowKit
structure SpanD where
 f:Int
 t:Int
 v:Int
instance:Inhabited SpanD:=⟨⟨0,0,0⟩⟩
def SpansAt (w:World) (a:Option Addr) (l:List SpanD):Prop:=
 ∀i (h:i<l.length),∃b o,a=some ⟨b,o,none⟩∧w.cell? ⟨b,o+i*3,none⟩=some (.int .i32 l[i].f)∧w.cell? ⟨b,o+i*3+1,none⟩=some (.int .i32 l[i].t)∧w.cell? ⟨b,o+i*3+2,none⟩=some (.int .u8 l[i].v)
theorem SpansAt.get {w:World}{b o:Nat}{l:List SpanD}(h:SpansAt w (some ⟨b,o,none⟩) l)(i:Nat)(hi:i<l.length):
  w.cell? ⟨b,o+i*3,none⟩=some (.int .i32 l[i].f)∧w.cell? ⟨b,o+i*3+1,none⟩=some (.int .i32 l[i].t)∧w.cell? ⟨b,o+i*3+2,none⟩=some (.int .u8 l[i].v):=by
 obtain⟨b',o',e,hc⟩:=h i hi;simp only[Option.some.injEq,Addr.mk.injEq,and_true]at e;obtain⟨rfl,rfl⟩:=e;exact hc
theorem SpansAt.some {w:World}{a:Option Addr}{l:List SpanD}(h:SpansAt w a l)(hn:0<l.length):∃b o,a=Option.some ⟨b,o,none⟩:=by
 obtain⟨b,o,e,_⟩:=h 0 hn;exact⟨b,o,e⟩
theorem SpansAt.below {w w':World}{B:Nat}{a:Option Addr}{l:List SpanD}(h:SpansAt w a l)(hb:Below B w w')(hB:∀b o,a=Option.some ⟨b,o,none⟩→0<l.length→b<B):SpansAt w' a l:=by
 intro i hi;obtain⟨b,o,rfl,h1,h2,h3⟩:=h i hi;have hl:=hB b o rfl (by omega);exact⟨b,o,rfl,by rw[hb.cell (p:=⟨b,o+i*3,none⟩) hl];exact h1,by rw[hb.cell (p:=⟨b,o+i*3+1,none⟩) hl];exact h2,by rw[hb.cell (p:=⟨b,o+i*3+2,none⟩) hl];exact h3⟩
theorem SpansAt.lt {w:World}{a:Option Addr}{l:List SpanD}(h:SpansAt w a l):∀b o,a=Option.some ⟨b,o,none⟩→0<l.length→b<w.heap.size:=fun b o e h0=>by
 obtain⟨b',o',e2,h3, -⟩:=h 0 h0;rw[e2]at e;simp only[Option.some.injEq,Addr.mk.injEq,and_true]at e;obtain⟨rfl, -⟩:=e;exact World.block_lt_of_cell? w _ h3
theorem kGh (w:World)(bo bs br go N n c:Nat)(a:Option Addr)(l:List SpanD)(rest:Int)(os:List Int)(r:Nat)(hN:os.length=N)(hN2:N≤1114112)(hr:r<N)(hl:l.length=n)(hn:n≤2097152)
  (h1:w.cell? ⟨bo,0,none⟩=some (.slice (some ⟨go,0,none⟩) N N))(h2:Ints .i32 w (some ⟨go,0,none⟩) os)(h3:w.cell? ⟨bs,0,none⟩=some (.slice a n c))(h4:SpansAt w a l)(h5:w.cell? ⟨br,0,none⟩=some (.int .u8 rest))
  (hx:os[r]=0∨∃i:Nat,i<n∧os[r]=(i:Int)+1):
  Calls Try.prog 59 #[.int .i32 (r:Nat),.pointer (some ⟨bo,0,none⟩),.pointer (some ⟨bs,0,none⟩),.pointer (some ⟨br,0,none⟩)] w fun e w'=>
   e= .returned (val8 (if os[r]=0 then rest else(l.getD (os[r] - 1).toNat default).v))∧w=w':=by
 have c1:=h2.get r (by omega);rw[Nat.zero_add]at c1
 have H2:=jH h2;clear h2
 have H4:=jH h4;clear h4
 generalize os[r]=x at*
 have hri:(r:Int)<(N:Int):=by omega
 go_enter Try.func59,Try.ntmps59
 rcases hx with rfl | ⟨i,hi,rfl⟩
 ·go_wp2
  go_ret
  exact⟨rfl,rfl⟩
 ·obtain⟨b,o,rfl⟩:=H4.out.some (by omega);obtain⟨-, -,c2⟩:=H4.out.get i (by omega)
  have e:(l.getD ((i:Int)+1 - 1).toNat default)=l[i]'(by omega):=by
   rw[show((i:Int)+1 - 1).toNat=i by omega];simp[show i<l.length by omega]
  rw[if_neg (by omega),e];clear e;generalize l[i]'(by omega)=s at*
  have hi1:(0:Int)<(i:Int)+1:=by omega
  have hi2:(i:Int)<(n:Int):=by omega
  go_wp2
  go_ret
  exact⟨rfl,rfl⟩
def badS (s:SpanD):Prop:=s.f<0∨1114111<s.t∨s.t<s.f
def kFd (x:Int) (s:SpanD):Bool:=decide (s.f≤x∧x≤s.t)
def ownF (l:List SpanD) (x:Int):Int:=match l.findIdx? (kFd x)with
 | some i=>(i:Int)+1
 | none=>0
def osF (N:Nat) (l:List SpanD):List Int:=(List.range N).map (fun x=>ownF l (x:Nat))
def osG (N:Nat) (l:List SpanD) (f r v:Int):List Int:=(List.range N).map (fun x=>if f≤((x:Nat):Int)∧((x:Nat):Int)<r then v else ownF l (x:Nat))
def meetS (l:List SpanD) (k:Nat):Prop:=∃x:Int,kFd x (l.getD k default)=true∧ownF (l.take k) x≠0
def fS (rest:Int) (l:List SpanD) (r:Nat):Int:=if ownF l (r:Nat)=0 then rest else(l.getD (ownF l (r:Nat) - 1).toNat default).v
theorem ownF_le (l:List SpanD)(x:Int):ownF l x=0∨∃i:Nat,i<l.length∧ownF l x=(i:Int)+1:=by
 unfold ownF
 cases h:l.findIdx? (kFd x)with
 | none=>exact .inl rfl
 | some i=>exact .inr ⟨i,(List.findIdx?_eq_some_iff_getElem.1 h).1,rfl⟩
theorem kFw (l:List SpanD)(s:SpanD)(x:Int):ownF (l++[s]) x=if ownF l x=0 then(if kFd x s=true then(l.length:Int)+1 else 0)else ownF l x:=by
 unfold ownF;rw[List.findIdx?_append]
 cases h:l.findIdx? (kFd x)with
 | some i=>simp;omega
 | none=>
  simp only[Option.none_or,List.findIdx?_cons,List.findIdx?_nil]
  by_cases hs:kFd x s=true
  ·simp[hs]
  ·simp[hs]
theorem kGn (N:Nat)(l:List SpanD)(f v:Int):osG N l f f v=osF N l:=by
 unfold osG osF
 apply List.map_congr_left
 intro x _;rw[if_neg (by omega)]
theorem kHm (N:Nat)(l:List SpanD)(f:Int)(r:Nat)(v:Int)(hr:r<N)(hf:f≤(r:Int)):(osG N l f r v).set r v=osG N l f ((r:Int)+1) v:=by
 apply List.ext_getElem?
 intro i
 by_cases e:r=i
 ·subst e;rw[List.getElem?_set_self (by simp[osG];exact hr)];simp only[osG,List.getElem?_map,List.getElem?_range hr,Option.map_some];rw[if_pos (by omega)]
 ·rw[List.getElem?_set_ne e];simp only[osG,List.getElem?_map]
  by_cases hi:i<N
  ·rw[List.getElem?_range hi];simp only[Option.map_some]
   by_cases h:f≤(i:Int)∧(i:Int)<r
   ·rw[if_pos h,if_pos (by omega)]
   ·rw[if_neg h,if_neg (by omega)]
  ·rw[List.getElem?_eq_none (by simp;omega)]
   rfl
theorem kKc (N:Nat)(l:List SpanD)(f:Int)(r:Nat)(v:Int)(hr:r<N):(osG N l f r v)[r]? =some (ownF l r):=by
 simp only[osG,List.getElem?_map,List.getElem?_range hr,Option.map_some];rw[if_neg (by omega)]
theorem kI4 (N:Nat)(l:List SpanD)(k:Nat)(hk:k<l.length)(hm:¬meetS l k):osG N (l.take k) (l[k]).f ((l[k]).t+1) ((k:Int)+1)=osF N (l.take (k+1)):=by
 unfold osG osF
 apply List.map_congr_left
 intro x _;rw[List.take_succ_eq_append_getElem hk,kFw]
 have hl:(l.take k).length=k:=by rw[List.length_take];omega
 rw[hl]
 by_cases h:(l[k]).f≤((x:Nat):Int)∧((x:Nat):Int)<(l[k]).t+1
 ·have hs:kFd (x:Nat) l[k]=true:=decide_eq_true ⟨h.1,by omega⟩
  have h0:ownF (l.take k) (x:Nat)=0:=Classical.byContradiction fun hn=>hm ⟨(x:Nat),by rw[show l.getD k default=l[k] by simp[hk]];exact hs,hn⟩
  rw[if_pos h,if_pos h0,if_pos hs]
 ·have hs:¬kFd (x:Nat) l[k]=true:=fun e=>by have:=of_decide_eq_true e;omega
  rw[if_neg h,if_neg hs]
  split
  ·rename_i h0;exact h0
  ·rfl
theorem kI3 (N:Nat):osF N []=List.replicate N 0:=by
 rw[List.eq_replicate_iff];refine⟨by simp[osF],fun x hx=> ?_⟩;obtain⟨y, -,rfl⟩:=List.mem_map.1 hx
 rfl
theorem kI2 (N:Nat)(l:List SpanD)(r:Nat)(hr:r<N):(osF N l)[r]? =some (ownF l r):=by
 simp only[osF,List.getElem?_map,List.getElem?_range hr,Option.map_some]
theorem kFv (N:Nat)(l:List SpanD):(osF N l).length=N:=by simp[osF]
theorem kCq (N:Nat)(l:List SpanD)(f r v:Int):(osG N l f r v).length=N:=by simp[osG]
theorem kIz {l:List SpanD}{k:Nat}(hk:k<l.length)(h:∀x:Int,(l[k]).f≤x→x≤(l[k]).t→ownF (l.take k) x=0):¬meetS l k:=by
 rintro⟨x,h1,h2⟩;rw[show l.getD k default=l[k] by simp[hk]]at h1;have h3:=of_decide_eq_true h1;exact h2 (h x h3.1 h3.2)
theorem kHs {l:List SpanD}{k:Nat}(hk:k<l.length){x:Int}(h1:(l[k]).f≤x)(h2:x≤(l[k]).t)(h:ownF (l.take k) x≠0):meetS l k:=
 ⟨x,by rw[show l.getD k default=l[k] by simp[hk]];exact decide_eq_true ⟨h1,h2⟩,h⟩
end Go.Proofs.Ytabbabkmojaoaaa

namespace Go.Proofs.Ytabbabkmojaoaaa
open Go.RowKit
theorem Try.elem32:kLo Try.prog 60 21 (.int .i32 0) 4:=⟨Try.underlying60,by kernel_rfl,by kernel_rfl⟩
instance (s:SpanD):Decidable (badS s):=by unfold badS;infer_instance
def kEx (w:World) (rest:Int) (l:List SpanD) (e:Ending) (w':World):Prop:=
 Below w.heap.size w w'∧
  ((∃i,i<l.length∧badS (l.getD i default)∧(∀j,j<i→¬badS (l.getD j default))∧e= .returned (.tuple #[.pointer none,.int .i64 (i:Nat),.int .i64 110]))∨
  ((∀j,j<l.length→¬badS (l.getD j default))∧∃k,k<l.length∧meetS l k∧(∀j,j<k→¬meetS l j)∧e= .returned (.tuple #[.pointer none,.int .i64 (k:Nat),.int .i64 111]))∨
  ((∀j,j<l.length→¬badS (l.getD j default))∧(∀j,j<l.length→¬meetS l j)∧∃g,e= .returned (.tuple #[.pointer (some ⟨g,0,none⟩),.int .i64 0,.int .i64 0])∧w.heap.size≤g∧
   ∃am cm al cl,kBz val8 1 135 114 120 119 w' g (mkF (fS rest l) 17408) (mkF (fS rest l) 17408).lows (mkF (fS rest l) 17408).mids am cm al cl))
def Bl1 (w0:World) (n:Nat) (l:List SpanD) (i:Value) (wr:World):Prop:=
 ∃k:Nat,k≤n∧i= .int .i64 k∧(∀j,j<k→¬badS (l.getD j default))∧Below w0.heap.size w0 wr
def Bl2 (w3:World) (go N n:Nat) (l:List SpanD) (i:Value) (wr:World):Prop:=
 ∃k:Nat,k≤n∧i= .int .i64 k∧(∀j,j<k→¬meetS l j)∧Own go 21 wr (some ⟨go,0,none⟩) N N (ivs .i32 (osF N (l.take k)))∧w3.grownBy wr (some go)
def Bl3 (W:World) (go N k:Nat) (l:List SpanD) (f t:Int) (v:Value) (wr:World):Prop:=
 ∃r:Nat,v= .int .i32 (r:Nat)∧f≤(r:Int)∧(r:Int)≤t+1∧(∀x:Int,f≤x→x<(r:Int)→ownF (l.take k) x=0)∧Own go 21 wr (some ⟨go,0,none⟩) N N (ivs .i32 (osG N (l.take k) f r ((k:Int)+1)))∧W.grownBy wr (some go)
theorem kEh (rest:Int)(a:Option Addr)(n c:Nat)(l:List SpanD)(w:World)(hl:l.length=n)(hn:n≤2097152)(hs:SpansAt w a l)(hwf:∀s∈l, -2147483648≤s.f∧s.f≤2147483647∧ -2147483648≤s.t∧s.t≤2147483647):
  Calls Try.prog 14 #[.int .u8 rest,.slice a n c] w fun e w'=>kEx w rest l e w':=by
 have HL:=jH hl;clear hl
 have HS:=jH hs;clear hs
 have HWf:=jH hwf;clear hwf
 obtain⟨bR,hbR⟩:∃bR,bR=w.heap.size:=⟨_,rfl⟩
 have HW0:Hid (Below w.heap.size w ((w.alloc (.cells #[.int .u8 rest] 5)).alloc (.cells #[.slice a n c] 22))∧((w.alloc (.cells #[.int .u8 rest] 5)).alloc (.cells #[.slice a n c] 22)).heap[bR]? =some (.cells #[.int .u8 rest] 5 (0,0))∧
   ((w.alloc (.cells #[.int .u8 rest] 5)).alloc (.cells #[.slice a n c] 22)).heap[bR+1]? =some (.cells #[.slice a n c] 22 (0,0))∧((w.alloc (.cells #[.int .u8 rest] 5)).alloc (.cells #[.slice a n c] 22)).heap.size=bR+1+1):=jH (by
  rw[hbR]
  refine⟨((Below.refl _ w).alloc jR _).alloc (by simp) _,?_,?_,by simp⟩
  ·rw[Below.heap_alloc _ _ _ (by simp)];exact jN w _
  ·have:=jN (w.alloc (.cells #[.int .u8 rest] 5)) (.cells #[.slice a n c] 22)
   simpa using this)
 go_enter Try.func14,Try.ntmps14
 go_upto_region 1 with(fail)
 rw[←hbR];generalize ((w.alloc (.cells #[.int .u8 rest] 5)).alloc (.cells #[.slice a n c] 22))=w0 at*
 have HBr:=jH hbR;clear hbR
 have HS0:=jH (HS.out.below HW0.out.1 (fun b o e h0=>HS.out.lt b o e h0));have q1:=jK w0 (bR+1) 0 _ _ (0,0) HW0.out.2.2.1;simp at q1;go_wp2
 go_loopw [15] (Bl1 w0 n l) (fun i _=>n - (intOf i).toNat)
 case atStart=>exact⟨0,Nat.zero_le _,rfl,fun j hj=>by omega,Below.refl _ _⟩
 case round=>
  obtain⟨k,hk,rfl,hgood,hbel⟩:=hrel
  have HGd:=jH hgood;clear hgood
  have HBe:=jH hbel;clear hbel
  by_cases hkn:k<n
  ·have hki:(k:Int)<(n:Int):=by omega
   have hkl:k<l.length:=by rw[HL.out];exact hkn
   obtain⟨b,o,ha⟩:=HS0.out.some (by omega);subst ha;obtain⟨c1,c2,c3⟩:=(HS0.out.below HBe.out (fun b o e h0=>HS0.out.lt b o e h0)).get k hkl;have hwk:=HWf.out l[k] (List.getElem_mem hkl);have HGk:=jH (show l.getD k default=l[k] by simp[hkl]);generalize l[k]=s at*
   by_cases hb:badS s
   ·have HBad:=jH hb
    have hcs:(s.f<0)∨(¬s.f<0∧1114111<s.t)∨(¬s.f<0∧¬1114111<s.t∧s.t<s.f):=by unfold badS at hb;omega
    clear hb;rcases hcs with h1 | ⟨h1,h2⟩ | ⟨h1,h2,h3⟩
    all_goals
     go_wp2
     go_ret3
     exact⟨(HW0.out.1.trans (HBe.out.mono HW0.out.1.size)).alloc (Nat.le_trans HW0.out.1.size HBe.out.size) _,.inl ⟨k,hkl,by rw[HGk.out];exact HBad.out,HGd.out,rfl⟩⟩
   ·have HBad:=jH hb
    have hcs:¬s.f<0∧¬1114111<s.t∧¬s.t<s.f:=by unfold badS at hb;omega
    obtain⟨h1,h2,h3⟩:=hcs;clear hb;go_wp2
    refine⟨⟨k+1,by omega,by go_num,fun j hj=> ?_,HBe.out.alloc HBe.out.size _⟩,by simp[intOf];omega⟩
    by_cases e:j=k
    ·rw[e,HGk.out];exact HBad.out
    ·exact HGd.out j (by omega)
  ·obtain rfl:k=n:=by omega
   have hki:¬(k:Int)<(k:Int):=by omega
   obtain⟨w1,rfl⟩:∃w1,w1=wr:=⟨_,rfl⟩
   obtain⟨N,hN⟩:∃N:Nat,N=1114112:=⟨_,rfl⟩
   have HNN:=jH hN;clear hN
   go_wp2_with (at_make;refine kJa Try.elem32 rfl rfl (.const (.int .i64 1114112)) (.const (.int .i64 1114112)) rfl N (by have:=HNN.out;omega) (by have:=HNN.out;unfold maxLen;omega) (by rw[HNN.out];rfl) (by rw[HNN.out];rfl) ?_)
   intro w2 hown hb2 hs2
   go_upto_region 8 with(fail)
   obtain⟨go,hgo⟩:∃go,go=w1.heap.size:=⟨_,rfl⟩
   rw[←hgo]at hown hs2 ⊢
   obtain⟨w3,hw3⟩:∃w3,w3=w2.alloc (.cells #[.slice (some ⟨go,0,none⟩) N N] 60):=⟨_,rfl⟩
   have hB23:Below w2.heap.size w2 w3:=by rw[hw3];exact(Below.refl _ _).alloc jR _
   have HBo:Hid (w3.heap[go+1]? =some (.cells #[.slice (some ⟨go,0,none⟩) N N] 60 (0,0))):=jH (by rw[←hs2,hw3];exact jN w2 _)
   have hs3:w3.heap.size=go+1+1:=by rw[hw3];simp[hs2]
   rw[←hw3];clear hw3
   have HO3:Hid (Own go 21 w3 (some ⟨go,0,none⟩) N N (ivs .i32 (osF N (l.take 0)))):=jH (by
    rw[List.take_zero,kI3,←kF5]
    exact hown.below hB23 jR)
   have HB13:Hid (Below w1.heap.size w1 w3):=jH (kBq hb2 hB23);have HB03:Hid (Below w0.heap.size w0 w3):=jH (kBq HBe.out HB13.out)
   have hw01:w0.heap.size≤go:=by rw[hgo];exact HBe.out.size
   have HS3:=jH (HS0.out.below HB03.out (fun b o e h0=>HS0.out.lt b o e h0));have HSl:=jH (fun b o e h0=>HS0.out.lt b o e h0)
   have hbR2:bR+1<w0.heap.size:=by rw[HW0.out.2.2.2];omega
   have HbS3:=jH ((HB03.out.block (bR+1) hbR2).trans HW0.out.2.2.1);have HbR3:=jH ((HB03.out.block bR (by omega)).trans HW0.out.2.1);have HW3:=jH (HW0.out.1.trans (HB03.out.mono HW0.out.1.size));clear hown hb2 hs2 hB23 q1 HB13 HBe hgo;have q1:=jK w3 (bR+1) 0 _ _ (0,0) HbS3.out;simp at q1;have HGd2:=jH HGd.out;go_wp2
   go_loopw [40] (Bl2 w3 go N k l) (fun i _=>k - (intOf i).toNat)
   case atStart=>exact⟨0,Nat.zero_le _,rfl,fun j hj=>by omega,HO3.out,World.grownBy.refl _ _⟩
   case round=>
    obtain⟨m,hm,rfl,hnm,hown,hgr⟩:=hrel
    have HNm:=jH hnm;clear hnm
    have HOw:=jH hown;clear hown
    have HGr:=jH hgr;clear hgr
    obtain⟨w4,rfl⟩:∃w4,w4=wr:=⟨_,rfl⟩
    by_cases hmk:m<k
    ·have hmi:(m:Int)<(k:Int):=by omega
     have hml:m<l.length:=by rw[HL.out];exact hmk
     obtain⟨b,o,ha⟩:=HS3.out.some (by omega);subst ha
     have hbgo:b<go:=by have:=HSl.out b o rfl (by omega);omega
     obtain⟨d1,d2,d3⟩:=HS3.out.get m hml;have c1:=HGr.out.cell d1 (by simp;omega);have c2:=HGr.out.cell d2 (by simp;omega);have c3:=HGr.out.cell d3 (by simp;omega);clear d1 d2 d3
     have hgm:¬badS l[m]:=by have:=HGd2.out m hmk;rwa[show l.getD m default=l[m] by simp[hml]]at this
     have hwk:=HWf.out l[m] (List.getElem_mem hml);have HEnd:=jH (fun h=>kI4 N l m hml h);have HNoM:=jH (fun h=>kIz hml h);have HYes:=jH (fun(x:Int) h1 h2 h3=>kHs (x:=x) hml h1 h2 h3);generalize l[m]=s at*;obtain⟨f,t,v⟩:=s;simp only at c1 c2 c3 hwk HEnd HNoM HYes
     have hcs:¬f<0∧¬1114111<t∧¬t<f:=by unfold badS at hgm;simp only at hgm;omega
     clear hgm;obtain⟨h1,h2,h3⟩:=hcs
     obtain⟨fn,rfl⟩:∃fn:Nat,f=(fn:Int):=⟨f.toNat,by omega⟩
     have htn:t≤1114111:=by omega
     have hg4:go+1+1≤w4.heap.size:=by rw[←hs3];exact HGr.out.size
     go_upto_region 12 with(fail)
     obtain⟨w5,hw5⟩:∃w5,w5=w4.alloc (.cells #[.int .i32 (fn:Nat),.int .i32 t,.int .u8 v] 24):=⟨_,rfl⟩
     have HG5:Hid (w4.grownBy w5 (some go)):=jH (by rw[hw5];exact World.grownBy_alloc _ _ _);have HC5:Hid (w5.heap[w4.heap.size]? =some (.cells #[.int .i32 (fn:Nat),.int .i32 t,.int .u8 v] 24 (0,0))):=jH (by rw[hw5];exact jN w4 _);have HO5:Hid (Own go 21 w5 (some ⟨go,0,none⟩) N N (ivs .i32 (osF N (l.take m)))):=jH (by rw[hw5];exact World.ownsRow.alloc HOw.out _);rw[←hw5];clear hw5 c1 c2 c3
     obtain⟨b5,hb5⟩:∃b5,b5=w4.heap.size:=⟨_,rfl⟩
     rw[←hb5]at HC5 hg4 ⊢;clear hb5;have HH:=jH (And.intro h1 (And.intro h2 h3));clear h1 h2 h3
     go_loopw [12] (Bl3 w5 go N m l fn t) (fun v _=>(t+1 - (intOf v)).toNat)
     case atStart=>exact⟨fn,rfl,Int.le_refl _,by have:=HH.out;omega,fun x h1 h2=>by omega,by rw[kGn];exact HO5.out,World.grownBy.refl _ _⟩
     case round=>
      obtain⟨r,rfl,hr1,hr2,hz,hown,hgr⟩:=hrel
      have HZr:=jH hz;clear hz
      have HOr:=jH hown;clear hown
      have HGr5:=jH hgr;clear hgr
      have e1:=jK w5 b5 1 _ _ (0,0) HC5.out;simp at e1;have e2:=HGr5.out.cell e1 (by simp;omega);clear e1
      by_cases hrt:(r:Int)≤t
      ·have hrN:r<N:=by have:=HNN.out;omega
       have hrNi:(r:Int)<(N:Int):=by omega
       have p0:=jK w3 (go+1) 0 _ _ (0,0) HBo.out;simp at p0;have p1:=HG5.out.cell (HGr.out.cell p0 (by simp)) (by simp);have p2:=HGr5.out.cell p1 (by simp);clear p0 p1;have x1:=HOr.out.cell r (by rw[kCy,kCq];exact hrN)
       have x2:(ivs .i32 (osG N (l.take m) fn r ((m:Int)+1)))[r]'(by rw[kCy,kCq];exact hrN)= .int .i32 (ownF (l.take m) r):=by
        have:=kKc N (l.take m) fn r ((m:Int)+1) hrN;simp only[ivs,List.getElem_map];rw[List.getElem?_eq_getElem (by rw[kCq];exact hrN)]at this;rw[Option.some.inj this]
       rw[x2]at x1;clear x2;have f1:=HOr.out.unfrozen r
       by_cases h0:ownF (l.take m) r=0
       ·rw[h0]at x1
        have HZ0:=jH h0;clear h0
        go_wp2
        refine⟨⟨r+1,by go_num,by omega,by omega,fun x hx1 hx2=> ?_,?_,kAm HGr5.out (kAe wr go r _)⟩,by simp[intOf];omega⟩
        ·by_cases e:x=(r:Int)
         ·rw[e];exact HZ0.out
         ·exact HZr.out x hx1 (by omega)
        ·have ho:=HOr.out.store r (.int .i32 ((m:Int)+1));rw[kJu,kHm N (l.take m) fn r ((m:Int)+1) hrN hr1]at ho;rw[show((r+1:Nat):Int)=(r:Int)+1 by omega];exact ho
       ·have hM:=jH (HYes.out r hr1 hrt h0)
        have h0b:(ownF (l.take m) r != 0)=true:=by simpa using h0
        generalize ownF (l.take m) r=y at*;go_wp2
        go_ret3
        have hb:Below w.heap.size w wr:=HW3.out.trans (kBa (kAm HGr.out (kAm HG5.out HGr5.out)) (fun k e=>by cases e;have:=HW0.out.1.size;omega) HW3.out.size);exact⟨hb,.inr (.inl ⟨fun j hj=>HGd2.out j (by have:=HL.out;omega),m,hml,hM.out,HNm.out,rfl⟩)⟩
      ·have hrt2:(r:Int)=t+1:=by omega
       have hm2:=HNoM.out (fun x h1 h2=>HZr.out x h1 (by omega));have ho2:=HEnd.out hm2;have HO6:Hid (Own go 21 wr (some ⟨go,0,none⟩) N N (ivs .i32 (osF N (l.take (m+1))))):=jH (by rw[←ho2,←hrt2];exact HOr.out);have HM6:=jH hm2;have HG6:=jH (kAm HGr.out (kAm HG5.out HGr5.out));clear hm2 ho2 hrt2;go_wp2
       refine⟨⟨m+1,by omega,by go_num,fun j hj=> ?_,HO6.out,HG6.out⟩,by simp[intOf];omega⟩
       by_cases e:j=m
       ·rw[e];exact HM6.out
       ·exact HNm.out j (by omega)
    ·obtain rfl:m=k:=by omega
     have hmi:¬(m:Int)<(m:Int):=by omega
     have HOl:Hid (Own go 21 w4 (some ⟨go,0,none⟩) N N (ivs .i32 (osF N l))):=jH (by
      have:=HOw.out
      rwa[List.take_of_length_le (by have:=HL.out;omega)]at this)
     have HB4:=jH (HW3.out.trans (kBa HGr.out (fun k e=>by cases e;have:=HW0.out.1.size;omega) HW3.out.size));have p0:=jK w3 (go+1) 0 _ _ (0,0) HBo.out;simp at p0;have p1:=jK w3 bR 0 _ _ (0,0) HbR3.out;simp at p1;have K0:=jH (HGr.out.cell p0 (by simp));have K1:=jH (HGr.out.cell q1 (by simp;omega));have K2:=jH (HGr.out.cell p1 (by simp;omega))
     have KS:Hid (SpansAt w4 a l):=jH (fun i hi=>by
      obtain⟨b,o,e,h1,h2,h3⟩:=HS3.out i hi;have hb:=HSl.out b o e (by omega)
      exact⟨b,o,e,HGr.out.cell h1 (by simp;omega),HGr.out.cell h2 (by simp;omega),HGr.out.cell h3 (by simp;omega)⟩)
     have hg4:go+1+1≤w4.heap.size:=by rw[←hs3];exact HGr.out.size
     clear p0 p1 q1
     go_wp2_with fail
     refine(kFo 59 #[.pointer (some ⟨go+1,0,none⟩),.pointer (some ⟨bR+1,0,none⟩),.pointer (some ⟨bR,0,none⟩)] w4 (fS rest l) (fun _ W=>Below w4.heap.size w4 W) (enters_of Try.func59 (by kernel_rfl) rfl)
      (fun _ W W' h1 h2=>h1.trans h2) ?call (Below.refl _ _)).mono ?_
     case call=>
      intro r W hr hJ hW
      have hrN:r<N:=by rw[HNN.out];exact hr
      have hlen:(osF N l).length=N:=kFv N l
      have hos:(osF N l)[r]'(by rw[hlen];exact hrN)=ownF l (r:Nat):=by
       have:=kI2 N l r hrN;rw[List.getElem?_eq_getElem (by rw[hlen];exact hrN)]at this;exact Option.some.inj this
      refine(kGh W (go+1) (bR+1) bR go N m c a l rest (osF N l) r hlen (by rw[HNN.out];exact Nat.le_refl _) hrN HL.out hn ((hJ.cell (p:=⟨go+1,0,none⟩) (by show go+1<_;omega)).trans K0.out) ((HOl.out.below hJ jR).ints) ((hJ.cell (p:=⟨bR+1,0,none⟩) (by show bR+1<_;omega)).trans K1.out) (KS.out.below hJ (fun b o e h0=>KS.out.lt b o e h0)) ((hJ.cell (p:=⟨bR,0,none⟩) (by show bR<_;omega)).trans K2.out) (by rw[hos];have:=ownF_le l (r:Nat);rw[HL.out]at this;exact this)).mono ?_;rintro e W' ⟨rfl,rfl⟩;refine⟨?_,hJ,⟨rfl,rfl,rfl,Nat.le_refl _,fun _ _ _=>rfl⟩⟩;rw[hos]
      rfl
     rintro e w6 ⟨g,rfl,hg,hmk,hJ6⟩
     have HJ6:=jH hJ6;clear hJ6
     have HMk:=jH hmk;clear hmk
     go_wp2
     go_ret3
     exact⟨kBq HB4.out HJ6.out,.inr (.inr ⟨fun j hj=>HGd2.out j (by have:=HL.out;omega),fun j hj=>HNm.out j (by have:=HL.out;omega),g,rfl,by have:=HB4.out.size;omega,HMk.out⟩)⟩
theorem kD9 (rest:Int)(a:Option Addr)(n c:Nat)(l:List SpanD)(w:World)(hl:l.length=n)(hn:n≤1048576)(hs:SpansAt w a l)(hwf:∀s∈l, -2147483648≤s.f∧s.f≤2147483647∧ -2147483648≤s.t∧s.t≤2147483647):
  Calls Try.prog 14 #[.int .u8 rest,.slice a n c] w fun e w'=>kEx w rest l e w':=
 kEh rest a n c l w hl (by omega) hs hwf
end Go.Proofs.Ytabbabkmojaoaaa

namespace Go.Proofs.Ytabbabkmojaoaaa
section
variable {α : Type} [DecidableEq α]
theorem kF4:∀(a b:List α),a.length=b.length→(eqL (fun x y=>decide (x=y)) a b=true↔a=b)
 | [],[],_=>by simp[eqL]
 | [],y :: b,h=>by simp at h
 | x :: a,[],h=>by simp at h
 | x :: a,y :: b,h=>by
  rw[eqL,Bool.and_eq_true,kF4 a b (by simpa using h),List.cons.injEq,decide_eq_true_iff]
theorem kDq {b:List α}{L:List (List α)}{k:Nat}(hL:∀m∈L,m.length=b.length)(h:kAo (fun x y=>decide (x=y)) b L=some k):L[k]? =some b:=by
 unfold kAo at h;obtain⟨hk,h1, -⟩:=List.findIdx?_eq_some_iff_getElem.1 h;rw[kF4 _ _ (hL _ (List.getElem_mem hk)).symm]at h1;rw[List.getElem?_eq_getElem hk,←h1]
theorem kDp {b:List α}{L:List (List α)}(hL:∀m∈L,m.length=b.length)(h:kAo (fun x y=>decide (x=y)) b L=none):b∉L:=by
 unfold kAo at h;intro hb;have:=List.findIdx?_eq_none_iff.1 h b hb;rw[(kF4 b b rfl).2 rfl]at this;cases this
structure NumOk (L:List (List α)) (b:List α) (N:List (List α)×Nat):Prop where
 pre:∀(i:Nat) (x:List α),L[i]? =some x→N.1[i]? =some x
 at_:N.1[N.2]? =some b
 nd:L.Nodup→N.1.Nodup
 mem:∀x,x∈N.1↔x∈L∨x=b
theorem kI0 {L:List (List α)}{b:List α}(hL:∀m∈L,m.length=b.length):NumOk L b (kBe (fun x y=>decide (x=y)) L b):=by
 unfold kBe
 cases h:kAo (fun x y=>decide (x=y)) b L with
 | some k=>
  have h1:=kDq hL h;exact⟨fun i x hx=>hx,h1,id,fun x=>⟨.inl,fun hx=>by rcases hx with hx | hx;exact hx;rw[hx];exact List.mem_of_getElem? h1⟩⟩
 | none=>
  have h1:=kDp hL h
  refine⟨fun i x hx=> ?_,by simp,fun hd=> ?_,fun x=>by simp⟩
  ·rw[List.getElem?_append_left (List.getElem?_eq_some_iff.1 hx).1];exact hx
  ·rw[List.nodup_append];refine⟨hd,by simp,fun x hx y hy=> ?_⟩;rw[List.mem_singleton.1 hy]
   exact fun e=>h1 (e ▸ hx)
end
section
variable {α : Type}
def kIc (bl:Nat→List α) (L:List (List α)) (c:Nat) (m:List Nat) (n:Nat):Prop:=∀j,j<n→∃i,m[j]? =some i∧L[i]? =some (bl (64*c+j))
structure kLp (bl:Nat→List α) (k:Nat) (S:MkS α):Prop where
 nl:S.lows.Nodup
 fl:∀l∈S.lows,∃j,j<k∧l=bl j
 hl:∀j,j<k→bl j∈S.lows
 cur:kIc bl S.lows (k / 64) S.cur (k % 64)
 nm:S.mids.Nodup
 md:∀m∈S.mids,∃c,c<k / 64∧kIc bl S.lows c m 64
 tp:∀c,c<k / 64→∃i m,S.top[c]? =some i∧S.mids[i]? =some m∧kIc bl S.lows c m 64
 t0:∀c,k / 64≤c→c<272→S.top[c]? =some 0
theorem kIc.grow {bl:Nat→List α}{L L':List (List α)}{c:Nat}{m:List Nat}{n:Nat}(h:kIc bl L c m n)(hp:∀(i:Nat) (x:List α),L[i]? =some x→L'[i]? =some x):kIc bl L' c m n:=fun j hj=>by
 obtain⟨i,h1,h2⟩:=h j hj;exact⟨i,h1,hp _ _ h2⟩
theorem kLp.next [DecidableEq α] {bl:Nat→List α}{k:Nat}{S:MkS α}(h:kLp bl k S)(hw:MkW S)(hk:S.blocks=k)(hb:(bl k).length=64)(hk2:k<17408):kLp bl (k+1) (kD6 (fun a b=>decide (a=b)) S (bl k)):=by
 have hN:=kI0 (L:=S.lows) (b:=bl k) (fun m hm=>by rw[hw.low m hm,hb])
 obtain⟨N,hNe⟩:∃N,N=kBe (fun a b=>decide (a=b)) S.lows (bl k):=⟨_,rfl⟩
 rw[←hNe]at hN
 have hcs:k % 64<S.cur.length:=by rw[hw.cur];omega
 have hcur:kIc bl N.1 (k / 64) (S.cur.set (k % 64) N.2) (k % 64+1):=fun j hj=>by
  by_cases e:k % 64=j
  ·subst e;refine⟨N.2,List.getElem?_set_self hcs,?_⟩;rw[hN.at_,show 64*(k / 64)+k % 64=k by omega]
  ·obtain⟨i,h1,h2⟩:=h.cur j (by omega);exact⟨i,by rw[List.getElem?_set_ne e];exact h1,hN.pre _ _ h2⟩
 have hfl:∀l∈N.1,∃j,j<k+1∧l=bl j:=fun l hl=>by
  rcases(hN.mem l).1 hl with h1 | h1
  ·obtain⟨j,hj,e⟩:=h.fl l h1;exact⟨j,by omega,e⟩
  ·exact⟨k,by omega,h1⟩
 have hhl:∀j,j<k+1→bl j∈N.1:=fun j hj=>by
  rw[hN.mem]
  by_cases e:j=k
  ·exact .inr (by rw[e])
  ·exact .inl (h.hl j (by omega))
 by_cases hf:(k+1) % 64=0
 ·have hM:=kI0 (L:=S.mids) (b:=S.cur.set (k % 64) N.2) (fun m hm=>by rw[hw.mid m hm];simp[hw.cur])
  obtain⟨M,hMe⟩:∃M,M=kBe (fun a b:Nat=>decide (a=b)) S.mids (S.cur.set (k % 64) N.2):=⟨_,rfl⟩
  rw[←hMe]at hM
  have e:kD6 (fun a b=>decide (a=b)) S (bl k)={top:=S.top.set (k / 64) M.2,cur:=S.cur.set (k % 64) N.2,lows:=N.1,mids:=M.1,blocks:=k+1}:=by
   unfold kD6;simp only[hk];rw[if_pos hf,hMe,hNe]
  have hq:(k+1) / 64=k / 64+1:=by omega
  have hrow:kIc bl N.1 (k / 64) (S.cur.set (k % 64) N.2) 64:=fun j hj=>hcur j (by omega)
  rw[e]
  refine⟨hN.nd h.nl,hfl,hhl,?_,hM.nd h.nm,fun m hm=> ?_,fun c hc=> ?_,fun c hc1 hc2=> ?_⟩
  ·intro j hj;omega
  ·rcases(hM.mem m).1 hm with h1 | h1
   ·obtain⟨c,hc,hr⟩:=h.md m h1;exact⟨c,by omega,hr.grow hN.pre⟩
   ·exact⟨k / 64,by omega,by rw[h1];exact hrow⟩
  ·by_cases ec:k / 64=c
   ·subst ec;exact⟨M.2,_,List.getElem?_set_self (by rw[hw.top];omega),hM.at_,hrow⟩
   ·obtain⟨i,m,h1,h2,h3⟩:=h.tp c (by omega);exact⟨i,m,by rw[List.getElem?_set_ne ec];exact h1,hM.pre _ _ h2,h3.grow hN.pre⟩
  ·simp only;rw[List.getElem?_set_ne (by omega)];exact h.t0 c (by omega) hc2
 ·have e:kD6 (fun a b=>decide (a=b)) S (bl k)={S with cur:=S.cur.set (k % 64) N.2,lows:=N.1,blocks:=k+1}:=by
   unfold kD6;simp only[hk];rw[if_neg hf,hNe]
  have hq:(k+1) / 64=k / 64:=by omega
  rw[e]
  refine⟨hN.nd h.nl,hfl,hhl,?_,h.nm,fun m hm=> ?_,fun c hc=> ?_,fun c hc1 hc2=>h.t0 c (by omega) hc2⟩
  ·simp only;rw[hq,show(k+1) % 64=k % 64+1 by omega];exact hcur
  ·obtain⟨c,hc,hr⟩:=h.md m hm;exact⟨c,by omega,hr.grow hN.pre⟩
  ·obtain⟨i,m,h1,h2,h3⟩:=h.tp c (by omega);exact⟨i,m,h1,h2,h3.grow hN.pre⟩
theorem kLp.zero (bl:Nat→List α)(S:MkS α)(h1:S.lows=[])(h2:S.mids=[])(h3:S.top=List.replicate 272 0):kLp bl 0 S:=by
 refine⟨by rw[h1];exact List.nodup_nil,by rw[h1];simp,fun j hj=>by omega,fun j hj=>by omega,by rw[h2];exact List.nodup_nil,by rw[h2];simp,fun c hc=>by omega,fun c _ hc=> ?_⟩;rw[h3,List.getElem?_replicate,if_pos hc]
theorem kHl {β:Type} [DecidableEq β]:∀(l m:List β),l.Nodup→(∀x∈l,x∈m)→l.length≤m.length
 | [],m,_,_=>Nat.zero_le _
 | x :: l,m,hn,hm=>by
  rw[List.nodup_cons]at hn;have hx:=hm x (by simp)
  have h1:=kHl l (m.erase x) hn.2 (fun y hy=>by
   have hy2:=hm y (by simp[hy])
   have hne:y≠x:=fun e=>hn.1 (e ▸ hy)
   exact(List.mem_erase_of_ne hne).2 hy2)
  rw[List.length_erase_of_mem hx]at h1;have:=List.length_pos_of_mem hx;rw[List.length_cons];omega
def kEo (L:List (List α)) (m:List Nat):List (List α):=m.map (fun i=>L.getD i [])
def kLv (bl:Nat→List α) (c:Nat):List (List α):=(List.range 64).map (fun j=>bl (64*c+j))
theorem kIc.named {bl:Nat→List α}{L:List (List α)}{c:Nat}{m:List Nat}(h:kIc bl L c m 64)(hm:m.length=64):kEo L m=kLv bl c:=by
 apply List.ext_getElem?
 intro j;unfold kEo kLv;rw[List.getElem?_map,List.getElem?_map]
 by_cases hj:j<64
 ·obtain⟨i,h1,h2⟩:=h j hj;rw[h1,List.getElem?_range hj];simp[List.getD,h2]
 ·rw[List.getElem?_eq_none (by omega),List.getElem?_eq_none (by simp;omega)]
  rfl
theorem kKa {L:List (List α)}(hL:L.Nodup):∀ {m m':List Nat},(∀i∈m,i<L.length)→(∀i∈m',i<L.length)→kEo L m=kEo L m'→m=m'
 | [],[],_,_,_=>rfl
 | [],y :: m',_,_,h=>by simp[kEo]at h
 | x :: m,[],_,_,h=>by simp[kEo]at h
 | x :: m,y :: m',hx,hy,h=>by
  simp only[kEo,List.map_cons,List.cons.injEq]at h;have h1:=hx x (by simp);have h2:=hy y (by simp)
  have e:x=y:=by
   have h3:=h.1;simp only[List.getD,List.getElem?_eq_getElem h1,List.getElem?_eq_getElem h2,Option.getD_some]at h3
   rcases Nat.lt_trichotomy x y with h4 | h4 | h4
   ·exact absurd h3 (List.pairwise_iff_getElem.1 hL x y h1 h2 h4)
   ·exact h4
   ·exact absurd h3.symm (List.pairwise_iff_getElem.1 hL y x h2 h1 h4)
  rw[e,kKa hL (fun i hi=>hx i (by simp[hi])) (fun i hi=>hy i (by simp[hi])) h.2]
theorem kIc.lt {bl:Nat→List α}{L:List (List α)}{c:Nat}{m:List Nat}(h:kIc bl L c m 64)(hm:m.length=64):∀i∈m,i<L.length:=fun i hi=>by
 obtain⟨j,hj,rfl⟩:=List.mem_iff_getElem.1 hi;obtain⟨i',h1,h2⟩:=h j (by omega);rw[List.getElem?_eq_getElem hj]at h1;cases h1;exact(List.getElem?_eq_some_iff.1 h2).1
structure kJn (bl:Nat→List α) (S:MkS α):Prop where
 inv:kLp bl 17408 S
 ok:MkW S
theorem kJn.low_mem {bl:Nat→List α}{S:MkS α}(h:kJn bl S)(l:List α):l∈S.lows↔∃j,j<17408∧l=bl j:=
 ⟨h.inv.fl l,fun⟨j,hj,e⟩=>e ▸ h.inv.hl j hj⟩
theorem kJn.big_mem {bl:Nat→List α}{S:MkS α}(h:kJn bl S)(B:List (List α)):B∈S.mids.map (kEo S.lows)↔∃c,c<272∧B=kLv bl c:=by
 constructor
 ·intro hB;obtain⟨m,hm,rfl⟩:=List.mem_map.1 hB;obtain⟨c,hc,hr⟩:=h.inv.md m hm;exact⟨c,by omega,hr.named (h.ok.mid m hm)⟩
 ·rintro⟨c,hc,rfl⟩;obtain⟨i,m, -,h2,h3⟩:=h.inv.tp c (by omega);have hm:=List.mem_of_getElem? h2;exact List.mem_map.2 ⟨m,hm,h3.named (h.ok.mid m hm)⟩
theorem kJn.big_nd {bl:Nat→List α}{S:MkS α}(h:kJn bl S):(S.mids.map (kEo S.lows)).Nodup:=by
 have key:∀l:List (List Nat),(∀m∈l,m∈S.mids)→l.Nodup→(l.map (kEo S.lows)).Nodup:=by
  intro l
  induction l with
  | nil=>intro _ _;exact List.nodup_nil
  | cons x l ih=>
   intro hl hd;rw[List.nodup_cons]at hd;rw[List.map_cons,List.nodup_cons];refine⟨fun hx=> ?_,ih (fun m hm=>hl m (by simp[hm])) hd.2⟩;obtain⟨y,hy,e⟩:=List.mem_map.1 hx;have hxm:=hl x (by simp);have hym:=hl y (by simp[hy]);obtain⟨c, -,hr⟩:=h.inv.md x hxm;obtain⟨c', -,hr'⟩:=h.inv.md y hym;have:=kKa h.inv.nl (hr'.lt (h.ok.mid y hym)) (hr.lt (h.ok.mid x hxm)) e;exact hd.1 (this ▸ hy)
 exact key _ (fun _ h=>h) h.inv.nm
end
end Go.Proofs.Ytabbabkmojaoaaa
