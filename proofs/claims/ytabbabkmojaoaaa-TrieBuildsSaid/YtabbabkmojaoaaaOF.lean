/- several texts in one: TRS PDS -/
import Derived.Test.YtabbabkmojaoaaaOD
import Derived.Test.YtabbabkmojaoaaaNE
import Derived.Deep.RegionHeld3
import Derived.Deep.RegionLaw
set_option linter.unusedVariables false
set_option linter.unusedSimpArgs false
set_option maxRecDepth 100000
set_option maxHeartbeats 16000000
namespace Go.Proofs.Ytabbabkmojaoaaa.VS
open Go.RowKit
theorem Try.elemI8:kLo Try.prog 165 9 (.string {data:= #[]}) 16:=⟨Try.underlying165,by kernel_rfl,by kernel_rfl⟩
theorem kHr (b:List El):∀u∈b.map val8,u.oneCell'=true:=fun u hu=>by
 obtain⟨x, -,rfl⟩:=List.mem_map.1 hu
 rfl
def PaM (W0:World) (bp n:Nat) (at_:Option Addr) (ct:Nat) (L:List (List Nat)) (i:Value) (wr:World):Prop:=
 ∃(k:Nat) (a:Option Addr) (c:Nat),k≤n∧i= .int .i64 k∧wr.heap[bp]? =some (.cells #[.slice at_ 272 ct,.slice a (64*k) c,.slice none 0 0] 167 (0,0))∧
  Own W0.heap.size 91 wr a (64*k) c (kB7 kAb (L.take k))∧But W0.heap.size (fun b=>b=bp) W0 wr
def PaL (W0:World) (bp n:Nat) (at_:Option Addr) (ct:Nat) (am:Option Addr) (nm cm:Nat) (L:List (List El)) (i:Value) (wr:World):Prop:=
 ∃(k:Nat) (a:Option Addr) (c:Nat),k≤n∧i= .int .i64 k∧wr.heap[bp]? =some (.cells #[.slice at_ 272 ct,.slice am nm cm,.slice a (64*k) c] 167 (0,0))∧
  Own W0.heap.size 9 wr a (64*k) c (kB7 val8 (L.take k))∧But W0.heap.size (fun b=>b=bp) W0 wr
theorem kCr (w:World)(g:Nat)(T:kAy El)(hk:kA5 T)(h0:0<T.low.length)(h:kAj val8 138 64 w g T):
  Calls Try.prog 86 #[.pointer (some ⟨g,0,none⟩)] w fun e w'=>∃at_ ct am cm al cl,e= .returned (.agg #[.slice at_ 272 ct,.slice am (64*T.mid.length) cm,.slice al (64*T.low.length) cl])∧
   Own w.heap.size 91 w' at_ 272 ct (T.top.map kAb)∧Own w.heap.size 91 w' am (64*T.mid.length) cm (kB7 kAb T.mid)∧Own w.heap.size 9 w' al (64*T.low.length) cl (kB7 val8 T.low)∧Below w.heap.size w w'∧Dis3 at_ am al:=by
 obtain⟨bz,hbz⟩:∃bz,bz=w.heap.size:=⟨_,rfl⟩
 have hgl:g<w.heap.size:=by obtain⟨am,cm,al,cl,h1, -⟩:=h;exact(jL h1)
 have HK:=jH hk;clear hk
 have H:=jH h;clear h
 refine kB8 Try.func86 rfl ?_;simp only[Try.ntmps86,List.size_toArray,List.length_cons,List.length_nil,Nat.reduceAdd,Nat.reduceSub,Array.replicate_succ,Array.replicate_zero,List.push_toArray,List.append_toArray,List.nil_append,List.cons_append]
 have HW1:Hid (Below w.heap.size w ((w.alloc (.cells #[.slice none 0 0,.slice none 0 0,.slice none 0 0] 167)).alloc (.cells #[.slice none 0 0,.slice none 0 0,.slice none 0 0] 167))∧
   ((w.alloc (.cells #[.slice none 0 0,.slice none 0 0,.slice none 0 0] 167)).alloc (.cells #[.slice none 0 0,.slice none 0 0,.slice none 0 0] 167)).heap[bz]? =some (.cells #[.slice none 0 0,.slice none 0 0,.slice none 0 0] 167 (0,0))∧
   ((w.alloc (.cells #[.slice none 0 0,.slice none 0 0,.slice none 0 0] 167)).alloc (.cells #[.slice none 0 0,.slice none 0 0,.slice none 0 0] 167)).heap[bz+1]? =some (.cells #[.slice none 0 0,.slice none 0 0,.slice none 0 0] 167 (0,0))∧
   ((w.alloc (.cells #[.slice none 0 0,.slice none 0 0,.slice none 0 0] 167)).alloc (.cells #[.slice none 0 0,.slice none 0 0,.slice none 0 0] 167)).heap.size=bz+1+1):=jH (by
  rw[hbz]
  refine⟨((Below.refl _ w).alloc jR _).alloc (by simp) _,?_,?_,by simp⟩
  ·rw[Below.heap_alloc _ _ _ (by simp)];exact jN w _
  ·have:=jN (w.alloc (.cells #[.slice none 0 0,.slice none 0 0,.slice none 0 0] 167)) (.cells #[.slice none 0 0,.slice none 0 0,.slice none 0 0] 167)
   simpa using this)
 go_upto_region 2 with(fail)
 rw[←hbz];generalize ((w.alloc (.cells #[.slice none 0 0,.slice none 0 0,.slice none 0 0] 167)).alloc (.cells #[.slice none 0 0,.slice none 0 0,.slice none 0 0] 167))=w1 at*;have HBz:=jH hbz;have H1:=jH (H.out.below HW1.out.1 jR)
 have hgz:g<bz:=by rw[hbz];exact hgl
 clear hbz
 go_wp2_with fail
 refine(kBn w1 g T HK.out h0 H1.out).mono ?_;rintro e w2 ⟨rfl,rfl⟩;obtain⟨am0,cm0,al0,cl0,hg1,hg2,hg3⟩:=H1.out
 have HG1:=jH hg1;clear hg1
 have HG2:=jH hg2;clear hg2
 have HG3:=jH hg3;clear hg3
 have HVt:Hid (kEz w1 (some ⟨g,0,none⟩) (T.top.map kAb)):=jH (fun j hj=>by
  refine⟨g,0,rfl,?_⟩
  have hj2:j<272:=by rw[List.length_map,HK.out.top]at hj;exact hj
  rw[Nat.zero_add,kAj.cell_top (val:=val8) HK.out HG1.out j hj2,List.getElem_map]
  rw[kAn (d:=0) (by rw[HK.out.top];exact hj2)])
 go_wp2_with fail
 refine(kGc ⟨g,0,none⟩ 272 272 (T.top.map kAb) w1 (by rw[List.length_map,HK.out.top]) (by omega) HVt.out (kD1 _)).mono ?_;rintro e w3 ⟨at_,ct,rfl,ho,hb⟩;have HOt:=jH ho;have HB3:=jH hb;have HZ3:=jH ((hb.block bz (by rw[HW1.out.2.2.2];omega)).trans HW1.out.2.1);have HP3:=jH ((hb.block (bz+1) (by rw[HW1.out.2.2.2];omega)).trans HW1.out.2.2.1);clear ho hb HVt;have p0:=jK w3 (bz+1) 0 _ _ (0,0) HP3.out;have f0:=jO w3 (bz+1) 0 _ _ HP3.out;simp at p0
 obtain⟨bp,hbp⟩:∃bp,bp=bz+1:=⟨_,rfl⟩
 have HBp:=jH hbp;clear hbp
 go_upto_region 5 with(fail)
 have hbp:=HBp.out;rw[←hbp]at HP3 p0 f0 ⊢
 obtain⟨w4,hw4⟩:∃w4,w4=w3.setCell ⟨bp,0,none⟩ (.slice at_ 272 ct):=⟨_,rfl⟩
 have HP4:Hid (w4.heap[bp]? =some (.cells #[.slice at_ 272 ct,.slice none 0 0,.slice none 0 0] 167 (0,0))):=jH (by
  have:=jP w3 bp 0 _ _ (.slice at_ 272 ct) HP3.out;rw[hw4]
  simpa using this)
 have HZ4:Hid (w4.heap[bz]? =some (.cells #[.slice none 0 0,.slice none 0 0,.slice none 0 0] 167 (0,0))):=jH (by
  rw[hw4,jQ w3 ⟨bp,0,none⟩ bz _ (by simp;omega)]
  exact HZ3.out)
 have HB4:Hid (Below bz w w4):=jH (by
  rw[hw4,HBz.out]
  exact(kBq HW1.out.1 HB3.out).setCell (p:=⟨bp,0,none⟩) (by show w.heap.size≤bp;rw[hbp,HBz.out];omega) _)
 have hs4:bp<w4.heap.size:=(jL HP4.out)
 have HOt4:Hid (Own w1.heap.size 91 w4 at_ 272 ct (T.top.map kAb)):=jH (by
  rw[hw4];refine HOt.out.kept (kAe w3 bp 0 _) ?_
  cases e:(Value.slice at_ 272 ct).ownBlock with
  | none=>exact .inl rfl
  | some k=>exact .inr (fun e2=>by cases e2;have:=(World.ownsRow.lt HOt.out _ e).1;have:=HW1.out.2.2.2;omega))
 have hs14:w1.heap.size≤w4.heap.size:=by rw[hw4];simpa using HB3.out.size
 rw[←hw4];clear hw4 HP3 p0 f0 HOt HZ3 HB3
 have hbp2:bz<bp:=by omega
 clear hbp;obtain⟨am1,cm1,al1,cl1,hh1,hh2,hh3⟩:=H.out;have HT4:=jH (H.out.below HB4.out (by rw[HBz.out];exact Nat.le_refl _));have HM0:=jH hh2;have HL0:=jH hh3;have g4:w4.heap[g]? =some (.cells (kD7 T am1 cm1 al1 cl1).toArray 138 (0,0)):=(HB4.out.block g hgz).trans hh1
 have HG4:=jH g4;clear g4 hh1 hh2 hh3
 have c1:=kAj.cell_mid (val:=val8) HK.out HG4.out
 obtain⟨nm,hnm⟩:∃nm,nm=T.mid.length:=⟨_,rfl⟩
 have hnm2:nm≤272:=by rw[hnm];exact HK.out.midL
 rw[←hnm]at c1
 have HNm:=jH hnm;clear hnm
 go_wp2
 go_loopw [23] (PaM w4 bp nm at_ ct T.mid) (fun i _=>nm - (intOf i).toNat)
 case atStart=>exact⟨0,none,0,Nat.zero_le _,rfl,HP4.out,Own.nil _ _ _,But.refl _ _ _⟩
 case round=>
  obtain⟨k,a,c,hk,rfl,hcell,hown,hbut⟩:=hrel
  have HCe:=jH hcell;clear hcell
  have HOw:=jH hown;clear hown
  have HBt:=jH hbut;clear hbut
  by_cases hkn:k<nm
  ·have hki:(k:Int)<(nm:Int):=by omega
   have hkl:k<T.mid.length:=by rw[←HNm.out];exact hkn
   obtain⟨b,o,ha⟩:=HM0.out.some (by omega);subst ha;have hr:=HM0.out.get k hkl
   have hbl:b<bz:=by
    have hml:=HK.out.mid _ (List.getElem_mem hkl);have h2:=hr 0 (kAb (T.mid[k][0]'(by omega))) (kCe kA0 _ 0 (by omega));rw[HBz.out];exact World.block_lt_of_cell? w _ h2
   have HR:Hid (wr.rangeAt b (o+k*64) (kAf kAb T.mid[k])):=jH (fun j v hv=>HBt.out.cell ((HB4.out.cell (p:=⟨b,o+k*64+j,none⟩) hbl).trans (hr j v hv)) (by omega) (by show ¬b=bp;omega))
   have hbs:(kAf kAb T.mid[k]).length=64:=by rw[kAh (sz:=1) (fun _=>rfl),HK.out.mid _ (List.getElem_mem hkl)]
   clear hr
   go_upto_region 7 with(fail)
   refine wp_region_list ?_;refine kAc (v:= .pointer (some ⟨b,o+k*64,none⟩)) (w':=wr) rfl (by go_simp) ?_;refine wpList_load_mid rfl 120 (.tmp 25) rfl b (o+k*64) rfl (kAf kAb T.mid[k]) (.array 64 91) HR.out Try.underlying120 rfl (by rw[hbs];kernel_rfl) ?_;refine kAc (v:= .pointer (some ⟨wr.heap.size,0,none⟩)) (w':=wr.alloc (.cells (kAf kAb (List.replicate 64 0)).toArray 120)) rfl (by kernel_rfl) ?_
   obtain⟨b8,hb8⟩:∃b8,b8=wr.heap.size:=⟨_,rfl⟩
   have hA7:=jN wr (.cells (kAf kAb (List.replicate 64 0)).toArray 120);have hB7:Below wr.heap.size wr (wr.alloc (.cells (kAf kAb (List.replicate 64 0)).toArray 120)):=(Below.refl _ _).alloc jR _;rw[←hb8]at hA7 hB7 ⊢;generalize hw7:wr.alloc (.cells (kAf kAb (List.replicate 64 0)).toArray 120)=w7 at*
   have hT7:w7.there b8 0 (kAf kAb T.mid[k]).toArray.size:=fun j hj=>by
    rw[Nat.zero_add,jK w7 b8 j _ _ (0,0) hA7];refine⟨?_,jO w7 b8 j _ _ hA7⟩;rw[List.getElem?_toArray,kA4,List.getElem?_map,List.getElem?_replicate,if_pos (by simpa [hbs]using hj)]
    rfl
   refine wpList_store_mid rfl 120 (.tmp 5) (.tmp 26) rfl b8 0 (kAf kAb T.mid[k]).toArray rfl rfl hT7 (by rw[List.size_toArray,hbs];kernel_rfl) (by rw[kA4];exact all_oneCell_toArray (kD1 _)) ?_;have HR8:Hid ((w7.setCells b8 0 (kAf kAb T.mid[k]).toArray.toList).rangeAt b8 0 (kAf kAb T.mid[k])):=jH (World.rangeAt_setCells_same w7 b8 0 _ (by simpa using hT7))
   have HB8:Hid (Below wr.heap.size wr (w7.setCells b8 0 (kAf kAb T.mid[k]).toArray.toList)):=jH (by
    rw[←hb8]
    exact hB7.trans (kBa (kC3 b8 _ 0 w7) (fun k e=>by cases e;exact Nat.le_refl _) (by rw[hb8];exact hB7.size)))
   generalize (w7.setCells b8 0 (kAf kAb T.mid[k]).toArray.toList)=w8 at*;clear hT7 hA7 hB7 hw7
   have HB8e:=jH hb8;clear hb8
   have HV8:Hid (kEz w8 (some ⟨b8,0,none⟩) (T.mid[k].map kAb)):=jH (fun j hj=>⟨b8,0,rfl,HR8.out j _ (by rw[kA4];exact List.getElem?_eq_getElem hj)⟩)
   have hlen8:(T.mid[k].map kAb).length=64:=by rw[List.length_map];exact HK.out.mid _ (List.getElem_mem hkl)
   have hbpr:bp<wr.heap.size:=(jL HCe.out)
   have HC8:=jH ((HB8.out.block bp hbpr).trans HCe.out);have HO8:Hid (Own w4.heap.size 91 w8 a (64*k) c (kB7 kAb (T.mid.take k))):=jH (HOw.out.below HB8.out jR);have d0:=jK w8 bp 1 _ _ (0,0) HC8.out;have e0:=jO w8 bp 1 _ _ HC8.out;simp at d0
   have hok:∀q,(Value.slice a (64*k) c).ownBlock=some q→w4.heap.size≤q:=fun q e=>(World.ownsRow.lt HO8.out q e).1
   have hbase:w4.heap.size≤w8.heap.size:=Nat.le_trans HBt.out.size HB8.out.size;have HKB:=jH (fun(w':World) (hg:w8.drew.grownBy w' (Value.slice a (64*k) c).ownBlock)=>show w'.cell? ⟨bp,1,none⟩=some (.slice a (64*k) c)∧w'.frozen? ⟨bp,1,none⟩=false from⟨kAv hg d0 (fun q e=>by have:=hok q e;omega),jO w' bp 1 _ _ ((kAr hg (jL HC8.out) (fun q e=>by have:=hok q e;omega)).trans HC8.out)⟩);go_wp2
   have d1:w8.drew.cell? ⟨bp,1,none⟩=some (.slice a (64*k) c):=d0;have e1:w8.drew.frozen? ⟨bp,1,none⟩=false:=e0
   have hbn1:(64*k+64)*2≤140737488355328:=by omega
   have hbn2:64*k+64≤maxLen:=by unfold maxLen;omega
   refine wp_region_noPanic ?_;refine(wpIn_wide (n:=2)).1 ?_;refine kAi [4,5] (fun w':World=>w'.cell? ⟨bp,1,none⟩=some (.slice a (64*k) c)∧w'.frozen? ⟨bp,1,none⟩=false) (by kernel_rfl) ?_;have HCx:Hid ((fun w':World=>w'.cell? ⟨bp,1,none⟩=some (.slice a (64*k) c)∧w'.frozen? ⟨bp,1,none⟩=false) w8.drew):=jH ⟨d1,e1⟩;have HO9:Hid (Own w4.heap.size 91 w8.drew a (64*k) c (kB7 kAb (T.mid.take k))):=jH (World.ownsRow.drew HO8.out);have HV9:Hid (kEz w8.drew (some ⟨b8,0,none⟩) (T.mid[k].map kAb)):=jH HV8.out;have HB9:Hid (Below wr.heap.size wr w8.drew):=jH HB8.out.drew;have HC9:Hid (w8.drew.heap[bp]? =some (.cells #[.slice at_ 272 ct,.slice a (64*k) c,.slice none 0 0] 167 (0,0))):=jH HC8.out;have hbase9:w4.heap.size≤w8.drew.heap.size:=hbase;clear d0 e0 d1 e1;generalize w8.drew=w9 at*;refine' kAd (i:=0) (v:=_) [1,3,4,5] (by kernel_rfl) rfl (by kernel_rfl) (fun _ _ _ h=>h) (by rfl) (by rintro w' ⟨c0,c1⟩;go_simp;try with_reducible rfl) HCx.out ?_;simp only[jA,jB,jC,Act.put,jD,jE,jF];refine' kAd (i:=1) (v:=_) [3,4,5] (by kernel_rfl) rfl (by kernel_rfl) (fun _ _ _ h=>h) (by rfl) (by rintro w' ⟨c0,c1⟩;go_simp;try with_reducible rfl) HCx.out ?_;simp only[jA,jB,jC,Act.put,jD,jE,jF];refine' kAd (i:=2) (v:=_) [3,4,5] (by kernel_rfl) rfl (by kernel_rfl) (fun _ _ _ h=>h) (by rfl) (by rintro w' ⟨c0,c1⟩;go_simp;try with_reducible rfl) HCx.out ?_;simp only[jA,jB,jC,Act.put,jD,jE,jF];refine kE1 (i:=3) Try.elemI16 (by kernel_rfl) rfl (by kernel_rfl) (by rfl) (.tmp 28) (.tmp 29) rfl HO9.out hbase9 hlen8 HV9.out (kD1 _) hbn1 hbn2 rfl rfl (fun w' hg=>HKB.out w' hg) ?_;intro a2 c2 w10 ho10 hg10 hn10;simp only[jA,jB,jC,Act.put,jD,jE,jF];refine kA3 4 (by rfl) (by kernel_rfl) (by kernel_rfl) ?_;simp only[List.drop_succ_cons,List.drop_zero];obtain⟨d2,e2⟩:=HKB.out w10 hg10
   have hbp9:bp<w9.heap.size:=(jL HC9.out)
   have HC10:=jH ((kAr hg10 hbp9 (fun q e=>by have:=hok q e;omega)).trans HC9.out);have HO10:=jH ho10;have HG10:=jH hg10;clear ho10 hg10 hn10
   gi_wp2
   show Exit.inBlock 1 _ Exit.normal _ _
   have HC11:Hid ((w10.setCell ⟨bp,1,none⟩ (.slice a2 (64*k+64) c2)).heap[bp]? =some (.cells #[.slice at_ 272 ct,.slice a2 (64*k+64) c2,.slice none 0 0] 167 (0,0))):=jH (by
    have:=jP w10 bp 1 _ _ (.slice a2 (64*k+64) c2) HC10.out
    simpa using this)
   have HO11:Hid (Own w4.heap.size 91 (w10.setCell ⟨bp,1,none⟩ (.slice a2 (64*k+64) c2)) a2 (64*k+64) c2 (kB7 kAb (T.mid.take (k+1)))):=jH (by
    rw[List.take_succ_eq_append_getElem hkl,kFr];refine HO10.out.kept (kAe w10 bp 1 _) ?_
    cases e:(Value.slice a2 (64*k+64) c2).ownBlock with
    | none=>exact .inl rfl
    | some q=>exact .inr (fun e2=>by cases e2;have:=(World.ownsRow.lt HO10.out _ e).1;omega))
   have HB11:Hid (But w4.heap.size (fun b=>b=bp) w4 (w10.setCell ⟨bp,1,none⟩ (.slice a2 (64*k+64) c2))):=jH
    (((HBt.out.trans (But.of_below (HB9.out.mono HBt.out.size))).grown HG10.out hbase9 (fun q e=> .inr (hok q e))).setCell bp 1 _ (.inl rfl))
   generalize (w10.setCell ⟨bp,1,none⟩ (.slice a2 (64*k+64) c2))=w11 at*;clear d2 e2;go_wp2
   exact⟨⟨k+1,a2,c2,by omega,by go_num,HC11.out,HO11.out,HB11.out⟩,by simp[intOf];omega⟩
  ·obtain rfl:k=nm:=by omega
   have hki:¬(k:Int)<(k:Int):=by omega
   have htk:T.mid.take k=T.mid:=List.take_of_length_le (by rw[HNm.out];exact Nat.le_refl _);rw[htk]at HOw;clear htk
   obtain⟨w5,rfl⟩:∃w5,w5=wr:=⟨_,rfl⟩
   have c2:=(kAj.cell_low (val:=val8) HK.out HG4.out)
   have c3:=HBt.out.cell c2 (by omega) (by show ¬g=bp;omega);clear c2
   obtain⟨nl,hnl⟩:∃nl,nl=T.low.length:=⟨_,rfl⟩
   have hnl2:nl≤17408:=by rw[hnl];exact HK.out.lowL
   rw[←hnl]at c3
   have HNl:=jH hnl;clear hnl
   go_wp2
   obtain⟨nmm,hnmm⟩:∃nmm,nmm=k:=⟨_,rfl⟩
   have HCe2:Hid (w5.heap[bp]? =some (.cells #[.slice at_ 272 ct,.slice a (64*nmm) c,.slice none 0 0] 167 (0,0))):=jH (by rw[hnmm];exact HCe.out);have HOw2:Hid (Own w4.heap.size 91 w5 a (64*nmm) c (kB7 kAb T.mid)):=jH (by rw[hnmm];exact HOw.out);have HNmm:=jH (show nmm=T.mid.length by rw[hnmm];exact HNm.out);have hs5:w4.heap.size≤w5.heap.size:=HBt.out.size;clear hnmm HCe HOw
   obtain⟨am,ham⟩:∃am,am=a:=⟨_,rfl⟩
   obtain⟨cm,hcm⟩:∃cm,cm=c:=⟨_,rfl⟩
   rw[←ham,←hcm]at HCe2 HOw2;clear ham hcm
   go_loopw [38] (PaL w5 bp nl at_ ct am (64*nmm) cm T.low) (fun i _=>nl - (intOf i).toNat)
   case atStart=>exact⟨0,none,0,Nat.zero_le _,rfl,HCe2.out,Own.nil _ _ _,But.refl _ _ _⟩
   case round=>
    obtain⟨k,a,c,hk,rfl,hcell,hown,hbut⟩:=hrel
    have HDe:=jH hcell;clear hcell
    have HOx:=jH hown;clear hown
    have HBu:=jH hbut;clear hbut
    by_cases hkn:k<nl
    ·have hki:(k:Int)<(nl:Int):=by omega
     have hkl:k<T.low.length:=by rw[←HNl.out];exact hkn
     obtain⟨b,o,ha⟩:=HL0.out.some (by omega);subst ha;have hr:=HL0.out.get k hkl
     have hbl:b<bz:=by
      have hml:=HK.out.low _ (List.getElem_mem hkl);have h2:=hr 0 (val8 (T.low[k][0]'(by omega))) (kCe kBt _ 0 (by omega));rw[HBz.out];exact World.block_lt_of_cell? w _ h2
     have HR:Hid (wr.rangeAt b (o+k*64) (kAf val8 T.low[k])):=jH (fun j v hv=>HBu.out.cell (HBt.out.cell ((HB4.out.cell (p:=⟨b,o+k*64+j,none⟩) hbl).trans (hr j v hv)) (by omega) (by show ¬b=bp;omega)) (by omega) (by show ¬b=bp;omega))
     have hbs:(kAf val8 T.low[k]).length=64:=by rw[kAh (sz:=1) (fun _=>rfl),HK.out.low _ (List.getElem_mem hkl)]
     clear hr
     go_upto_region 12 with(fail)
     refine wp_region_list ?_;refine kAc (v:= .pointer (some ⟨b,o+k*64,none⟩)) (w':=wr) rfl (by go_simp) ?_;refine wpList_load_mid rfl 122 (.tmp 40) rfl b (o+k*64) rfl (kAf val8 T.low[k]) (.array 64 9) HR.out Try.underlying122 rfl (by rw[hbs];kernel_rfl) ?_;refine kAc (v:= .pointer (some ⟨wr.heap.size,0,none⟩)) (w':=wr.alloc (.cells (kAf val8 (List.replicate 64 (ByteArray.empty:El))).toArray 122)) rfl (by kernel_rfl) ?_
     obtain⟨b8,hb8⟩:∃b8,b8=wr.heap.size:=⟨_,rfl⟩
     have hA7:=jN wr (.cells (kAf val8 (List.replicate 64 (ByteArray.empty:El))).toArray 122);have hB7:Below wr.heap.size wr (wr.alloc (.cells (kAf val8 (List.replicate 64 (ByteArray.empty:El))).toArray 122)):=(Below.refl _ _).alloc jR _;rw[←hb8]at hA7 hB7 ⊢;generalize hw7:wr.alloc (.cells (kAf val8 (List.replicate 64 (ByteArray.empty:El))).toArray 122)=w7 at*
     have hT7:w7.there b8 0 (kAf val8 T.low[k]).toArray.size:=fun j hj=>by
      rw[Nat.zero_add,jK w7 b8 j _ _ (0,0) hA7];refine⟨?_,jO w7 b8 j _ _ hA7⟩;rw[List.getElem?_toArray,kA7,List.getElem?_map,List.getElem?_replicate,if_pos (by simpa [hbs]using hj)]
      rfl
     refine wpList_store_mid rfl 122 (.tmp 7) (.tmp 41) rfl b8 0 (kAf val8 T.low[k]).toArray rfl rfl hT7 (by rw[List.size_toArray,hbs];kernel_rfl) (by rw[kA7];exact all_oneCell_toArray (kHr _)) ?_;have HR8:Hid ((w7.setCells b8 0 (kAf val8 T.low[k]).toArray.toList).rangeAt b8 0 (kAf val8 T.low[k])):=jH (World.rangeAt_setCells_same w7 b8 0 _ (by simpa using hT7))
     have HB8:Hid (Below wr.heap.size wr (w7.setCells b8 0 (kAf val8 T.low[k]).toArray.toList)):=jH (by
      rw[←hb8]
      exact hB7.trans (kBa (kC3 b8 _ 0 w7) (fun k e=>by cases e;exact Nat.le_refl _) (by rw[hb8];exact hB7.size)))
     generalize (w7.setCells b8 0 (kAf val8 T.low[k]).toArray.toList)=w8 at*;clear hT7 hA7 hB7 hw7
     have HB8e:=jH hb8;clear hb8
     have HV8:Hid (kEz w8 (some ⟨b8,0,none⟩) (T.low[k].map val8)):=jH (fun j hj=>⟨b8,0,rfl,HR8.out j _ (by rw[kA7];exact List.getElem?_eq_getElem hj)⟩)
     have hlen8:(T.low[k].map val8).length=64:=by rw[List.length_map];exact HK.out.low _ (List.getElem_mem hkl)
     have hbpr:bp<wr.heap.size:=(jL HDe.out)
     have HC8:=jH ((HB8.out.block bp hbpr).trans HDe.out);have HO8:Hid (Own w5.heap.size 9 w8 a (64*k) c (kB7 val8 (T.low.take k))):=jH (HOx.out.below HB8.out jR);have d0:=jK w8 bp 2 _ _ (0,0) HC8.out;have e0:=jO w8 bp 2 _ _ HC8.out;simp at d0
     have hok:∀q,(Value.slice a (64*k) c).ownBlock=some q→w5.heap.size≤q:=fun q e=>(World.ownsRow.lt HO8.out q e).1
     have hbase:w5.heap.size≤w8.heap.size:=Nat.le_trans HBu.out.size HB8.out.size;have HKB:=jH (fun(w':World) (hg:w8.drew.grownBy w' (Value.slice a (64*k) c).ownBlock)=>show w'.cell? ⟨bp,2,none⟩=some (.slice a (64*k) c)∧w'.frozen? ⟨bp,2,none⟩=false from⟨kAv hg d0 (fun q e=>by have:=hok q e;omega),jO w' bp 2 _ _ ((kAr hg (jL HC8.out) (fun q e=>by have:=hok q e;omega)).trans HC8.out)⟩);go_wp2
     have d1:w8.drew.cell? ⟨bp,2,none⟩=some (.slice a (64*k) c):=d0;have e1:w8.drew.frozen? ⟨bp,2,none⟩=false:=e0
     have hbn1:(64*k+64)*16≤140737488355328:=by omega
     have hbn2:64*k+64≤maxLen:=by unfold maxLen;omega
     refine wp_region_noPanic ?_;refine(wpIn_wide (n:=2)).1 ?_;refine kAi [4,5] (fun w':World=>w'.cell? ⟨bp,2,none⟩=some (.slice a (64*k) c)∧w'.frozen? ⟨bp,2,none⟩=false) (by kernel_rfl) ?_;have HCx:Hid ((fun w':World=>w'.cell? ⟨bp,2,none⟩=some (.slice a (64*k) c)∧w'.frozen? ⟨bp,2,none⟩=false) w8.drew):=jH ⟨d1,e1⟩;have HO9:Hid (Own w5.heap.size 9 w8.drew a (64*k) c (kB7 val8 (T.low.take k))):=jH (World.ownsRow.drew HO8.out);have HV9:Hid (kEz w8.drew (some ⟨b8,0,none⟩) (T.low[k].map val8)):=jH HV8.out;have HB9:Hid (Below wr.heap.size wr w8.drew):=jH HB8.out.drew;have HC9:Hid (w8.drew.heap[bp]? =some (.cells #[.slice at_ 272 ct,.slice am (64*nmm) cm,.slice a (64*k) c] 167 (0,0))):=jH HC8.out;have hbase9:w5.heap.size≤w8.drew.heap.size:=hbase;clear d0 e0 d1 e1;generalize w8.drew=w9 at*;refine' kAd (i:=0) (v:=_) [1,3,4,5] (by kernel_rfl) rfl (by kernel_rfl) (fun _ _ _ h=>h) (by rfl) (by rintro w' ⟨c0,c1⟩;go_simp;try with_reducible rfl) HCx.out ?_;simp only[jA,jB,jC,Act.put,jD,jE,jF];refine' kAd (i:=1) (v:=_) [3,4,5] (by kernel_rfl) rfl (by kernel_rfl) (fun _ _ _ h=>h) (by rfl) (by rintro w' ⟨c0,c1⟩;go_simp;try with_reducible rfl) HCx.out ?_;simp only[jA,jB,jC,Act.put,jD,jE,jF];refine' kAd (i:=2) (v:=_) [3,4,5] (by kernel_rfl) rfl (by kernel_rfl) (fun _ _ _ h=>h) (by rfl) (by rintro w' ⟨c0,c1⟩;go_simp;try with_reducible rfl) HCx.out ?_;simp only[jA,jB,jC,Act.put,jD,jE,jF];refine kE1 (i:=3) Try.elemI8 (by kernel_rfl) rfl (by kernel_rfl) (by rfl) (.tmp 43) (.tmp 44) rfl HO9.out hbase9 hlen8 HV9.out (kHr _) hbn1 hbn2 rfl rfl (fun w' hg=>HKB.out w' hg) ?_;intro a2 c2 w10 ho10 hg10 hn10;simp only[jA,jB,jC,Act.put,jD,jE,jF];refine kA3 4 (by rfl) (by kernel_rfl) (by kernel_rfl) ?_;simp only[List.drop_succ_cons,List.drop_zero];obtain⟨d2,e2⟩:=HKB.out w10 hg10
     have hbp9:bp<w9.heap.size:=(jL HC9.out)
     have HC10:=jH ((kAr hg10 hbp9 (fun q e=>by have:=hok q e;omega)).trans HC9.out);have HO10:=jH ho10;have HG10:=jH hg10;clear ho10 hg10 hn10
     gi_wp2
     show Exit.inBlock 1 _ Exit.normal _ _
     have HC11:Hid ((w10.setCell ⟨bp,2,none⟩ (.slice a2 (64*k+64) c2)).heap[bp]? =some (.cells #[.slice at_ 272 ct,.slice am (64*nmm) cm,.slice a2 (64*k+64) c2] 167 (0,0))):=jH (by
      have:=jP w10 bp 2 _ _ (.slice a2 (64*k+64) c2) HC10.out
      simpa using this)
     have HO11:Hid (Own w5.heap.size 9 (w10.setCell ⟨bp,2,none⟩ (.slice a2 (64*k+64) c2)) a2 (64*k+64) c2 (kB7 val8 (T.low.take (k+1)))):=jH (by
      rw[List.take_succ_eq_append_getElem hkl,kFr];refine HO10.out.kept (kAe w10 bp 2 _) ?_
      cases e:(Value.slice a2 (64*k+64) c2).ownBlock with
      | none=>exact .inl rfl
      | some q=>exact .inr (fun e2=>by cases e2;have:=(World.ownsRow.lt HO10.out _ e).1;omega))
     have HB11:Hid (But w5.heap.size (fun b=>b=bp) w5 (w10.setCell ⟨bp,2,none⟩ (.slice a2 (64*k+64) c2))):=jH
      (((HBu.out.trans (But.of_below (HB9.out.mono HBu.out.size))).grown HG10.out hbase9 (fun q e=> .inr (hok q e))).setCell bp 2 _ (.inl rfl))
     generalize (w10.setCell ⟨bp,2,none⟩ (.slice a2 (64*k+64) c2))=w11 at*;clear d2 e2;go_wp2
     exact⟨⟨k+1,a2,c2,by omega,by go_num,HC11.out,HO11.out,HB11.out⟩,by simp[intOf];omega⟩
    ·obtain rfl:k=nl:=by omega
     have hki:¬(k:Int)<(k:Int):=by omega
     have htk:T.low.take k=T.low:=List.take_of_length_le (by rw[HNl.out];exact Nat.le_refl _);rw[htk]at HOx;clear htk
     have hz4:bz<w4.heap.size:=(jL HZ4.out)
     have HZr:=jH (HBu.out.keep (HBt.out.keep HZ4.out hz4 (by show ¬bz=bp;omega)) (by omega) (by show ¬bz=bp;omega));have p0:=jK wr bp 0 _ _ (0,0) HDe.out;have p1:=jK wr bp 1 _ _ (0,0) HDe.out;have p2:=jK wr bp 2 _ _ (0,0) HDe.out;have z0:=jK wr bz 0 _ _ (0,0) HZr.out;have z1:=jK wr bz 1 _ _ (0,0) HZr.out;have z2:=jK wr bz 2 _ _ (0,0) HZr.out;have y0:=jO wr bz 0 _ _ HZr.out;have y1:=jO wr bz 1 _ _ HZr.out;have y2:=jO wr bz 2 _ _ HZr.out;simp at p0 p1 p2 z0 z1 z2;go_wp2
     obtain⟨W,hW⟩:∃W,W=((wr.setCell ⟨bz,0,none⟩ (.slice at_ 272 ct)).setCell ⟨bz,1,none⟩ (.slice am (64*nmm) cm)).setCell ⟨bz,2,none⟩ (.slice a (64*k) c):=⟨_,rfl⟩
     rw[←hW]
     have hC:W.heap[bz]? =some (.cells #[.slice at_ 272 ct,.slice am (64*nmm) cm,.slice a (64*k) c] 167 (0,0)):=by
      rw[hW];have e1:=jP wr bz 0 _ _ (.slice at_ 272 ct) HZr.out;have e2:=jP _ bz 1 _ _ (.slice am (64*nmm) cm) e1;have e3:=jP _ bz 2 _ _ (.slice a (64*k) c) e2
      simpa using e3
     have hO:∀q,q≠bz→W.heap[q]? =wr.heap[q]? :=fun q hq=>by
      rw[hW,jQ _ ⟨bz,2,none⟩ q _ hq,jQ _ ⟨bz,1,none⟩ q _ hq,jQ _ ⟨bz,0,none⟩ q _ hq]
     have hBe:Below bz wr W:=by
      rw[hW];exact(((Below.refl bz wr).setCell (p:=⟨bz,0,none⟩) jR _).setCell (p:=⟨bz,1,none⟩) jR _).setCell (p:=⟨bz,2,none⟩) jR _
     have v0:=jK W bz 0 _ _ (0,0) hC;have v1:=jK W bz 1 _ _ (0,0) hC;have v2:=jK W bz 2 _ _ (0,0) hC;simp at v0 v1 v2;clear hW;have hs1:=HW1.out.2.2.2;have hbpe:=HBp.out;refine kCz (v:= .agg #[.slice at_ 272 ct,.slice am (64*nmm) cm,.slice a (64*k) c]) (by simp[results,Try.results86,go_sem,v0,v1,v2]) ?_
     have hDis:Dis3 at_ am a:=by
      have l1:∀q,kKr am=some q→w4.heap.size≤q∧q<w5.heap.size:=fun q e=>World.ownsRow.lt HOw2.out q ((kCx _ _ _).trans e)
      have l2:∀q,kKr a=some q→w5.heap.size≤q:=fun q e=>(World.ownsRow.lt HOx.out q ((kCx _ _ _).trans e)).1
      have l3:∀q,kKr at_=some q→q<w4.heap.size:=fun q e=>(World.ownsRow.lt HOt4.out q ((kCx _ _ _).trans e)).2
      refine⟨fun q e=>⟨fun e2=> ?_,fun e2=> ?_⟩,fun q e e2=> ?_⟩
      ·have h1:=l3 q e;have h2:=(l1 q e2).1;omega
      ·have h1:=l3 q e;have h2:=l2 q e2;have h3:=hs5;omega
      ·have h1:=(l1 q e).2;have h2:=l2 q e2;omega
     refine⟨at_,ct,am,cm,a,c,by rw[HNmm.out,HNl.out],?_,?_,?_,?_,hDis⟩
     ·refine kFi HOt4.out (by rw[hs1,HBz.out];omega) (fun q e=> ?_);have hl:=World.ownsRow.lt HOt4.out q e;rw[hO q (by omega),HBu.out.block q (by omega) (by show ¬q=bp;omega),HBt.out.block q (by omega) (by show ¬q=bp;omega)]
     ·rw[←HNmm.out];refine kFi HOw2.out (by rw[←HBz.out];omega) (fun q e=> ?_);have hl:=World.ownsRow.lt HOw2.out q e;rw[hO q (by omega),HBu.out.block q (by omega) (by show ¬q=bp;omega)]
     ·rw[←HNl.out];refine kFi HOx.out (by rw[←HBz.out];omega) (fun q e=> ?_);have hl:=World.ownsRow.lt HOx.out q e;rw[hO q (by omega)]
     ·rw[←HBz.out];exact((HB4.out.trans (HBt.out.below bz (by omega) (fun q hq=>by have:q=bp:=hq;omega))).trans (HBu.out.below bz (by omega) (fun q hq=>by have:q=bp:=hq;omega))).trans hBe
theorem kCi (w:World)(g:Nat)(T:kAy El)(hk:kA5 T)(h0:0<T.low.length)(h:kAj val8 138 64 w g T):
  Calls Try.prog 86 #[.pointer (some ⟨g,0,none⟩)] w fun e w'=>∃at_ ct am cm al cl,e= .returned (.agg #[.slice at_ 272 ct,.slice am (64*T.mid.length) cm,.slice al (64*T.low.length) cl])∧
   Own w.heap.size 91 w' at_ 272 ct (T.top.map kAb)∧Own w.heap.size 91 w' am (64*T.mid.length) cm (kB7 kAb T.mid)∧Own w.heap.size 9 w' al (64*T.low.length) cl (kB7 val8 T.low)∧Below w.heap.size w w':=
 (kCr w g T hk h0 h).mono (by
  rintro e w' ⟨at_,ct,am,cm,al,cl,rfl,o1,o2,o3,hb, -⟩
  exact⟨at_,ct,am,cm,al,cl,rfl,o1,o2,o3,hb⟩)
end Go.Proofs.Ytabbabkmojaoaaa.VS

