/- several texts in one: UF9 UFC -/
import Derived.Test.YtbmphakfgoompaaGreatOH
import Derived.Test.YtbmphakfgoompaaGreatOWJ
import Derived.Test.YtbmphakfgoompaaGreatOP
import Derived.Test.YtbmphakfgoompaaGreatOR
import Derived.Test.YtbmphakfgoompaaGreatOQ
import Derived.Test.YtbmphakfgoompaaGreatOB
set_option linter.unusedVariables false
set_option linter.unusedSimpArgs false
set_option maxRecDepth 100000
set_option maxHeartbeats 16000000
namespace Go.Proofs.YtbmphakfgoompaaGreat
open Go.RowKit
attribute [local go_sem] Oper.semAt_some
theorem Tryz.elemU16:kKx Tryz.prog 43 29 (.int .u16 0) 2:=⟨Tryz.underlying43,by kernel_rfl,by kernel_rfl⟩
theorem Tryz.elemR9:kKx Tryz.prog 30 21 (.int .i32 0) 4:=⟨Tryz.underlying30,by kernel_rfl,by kernel_rfl⟩
theorem kTs (f:Nat→Int):∀k,VJ.mkF f k=mkF f k
 | 0=>rfl
 | k+1=>by
  show kE2 VJ.eq8 (VJ.mkF f k) (VJ.blkF f k)=kE2 eq8 (mkF f k) (blkF f k);rw[kTs f k]
  rfl
def PtR (PT E:TypeId) (kd:IntKind) (v:World) (bp n:Nat) (zs:List Int) (mk:Value→List Value) (iv:Value) (W:World):Prop:=∃(k:Nat) (a:Option Addr) (c:Nat),k≤n∧iv= .int .i64 (k:Nat)∧Own v.heap.size E W a k c (ivs kd (zs.take k))∧W.heap[bp]? =some (.cells (mk (.slice a k c)).toArray PT (0,0))∧But v.heap.size (fun b=>b=bp) v W
theorem kPr {β:Type}(l:List β)(k:Nat)(h:k<l.length):l.take (k+1)=l.take k++[l[k]]:=List.take_succ_eq_append_getElem h
theorem kEu (w:World)(u:Value)(E:TypeId):kKe (w.alloc (.cells #[u] E)).drew (some ⟨w.heap.size,0,none⟩) [u]:=by
 intro i hi
 have hi0:i=0:=by simp at hi;exact hi
 subst hi0;refine⟨w.heap.size,0,rfl,?_⟩;have:=jK (w.alloc (.cells #[u] E)) w.heap.size 0 #[u] E (0,0) (jN w _);exact this
theorem PtR.step {PT E:TypeId}{kd:IntKind}{v:World}{bp n k:Nat}{zs:List Int}{mk:Value→List Value}{a:Option Addr}{c:Nat}{wr w9:World}{x:Int}{a9:Option Addr}{c9:Nat}{j:Nat}(hbp:bp<v.heap.size)(ho:Own v.heap.size E wr a k c (ivs kd (zs.take k)))(hb:But v.heap.size (fun b=>b=bp) v wr)(hk:k<zs.length)(hx:zs[k]=x)(hkn:k+1≤n)
  {ob:Obj}(ho9:Own v.heap.size E w9 a9 (k+1) c9 (ivs kd (zs.take k)++[.int kd x]))(hg9:(wr.alloc ob).drew.grownBy w9 (Value.slice a k c).ownBlock)(hbox:wr.heap[bp]? =some (.cells (mk (.slice a k c)).toArray PT (0,0)))
  (hmk:(mk (.slice a k c)).toArray.setIfInBounds j (.slice a9 (k+1) c9)=(mk (.slice a9 (k+1) c9)).toArray):
  PtR PT E kd v bp n zs mk (.int .i64 ((k+1:Nat):Int)) (w9.setCell ⟨bp,j,none⟩ (.slice a9 (k+1) c9)):=by
 have hbw:bp<wr.heap.size:=(jL hbox)
 have hne:∀q,(Value.slice a k c).ownBlock=some q→q≠bp:=fun q e=>by have:=(World.ownsRow.lt ho q e).1;omega
 have hb9:w9.heap[bp]? =some (.cells (mk (.slice a k c)).toArray PT (0,0)):=by
  rw[hg9.block bp (by simp;omega) (fun e=>hne bp e.symm rfl)];exact(Below.heap_alloc wr ob bp hbw).trans hbox
 have hrow:=jP w9 bp j _ _ (.slice a9 (k+1) c9) hb9
 refine⟨k+1,a9,c9,hkn,rfl,?_,by rw[hrow,hmk],?_⟩
 ·have h1:Own v.heap.size E w9 a9 (k+1) c9 (ivs kd (zs.take (k+1))):=by rw[kPr zs k hk,hx,kBi];exact ho9
  exact h1.grown (kAd w9 bp j _) (.inr (fun e=>by have:=(World.ownsRow.lt h1 bp e).1;omega))
 ·have h2:But v.heap.size (fun b=>b=bp) v (wr.alloc ob).drew:=by
   have:=hb.alloc hb.size ob;exact⟨this.os,this.tape,this.output,this.size,this.block⟩
  exact(h2.grown hg9 h2.size (fun q e=> .inr (World.ownsRow.lt ho q e).1)).setCell bp j _ (.inl rfl)
theorem kCo {B bp:Nat}{E:TypeId}{V V':World}{a:Option Addr}{n c:Nat}{xs:List Value}(h:Own B E V a n c xs)(hb:But V.heap.size (fun b=>b=bp) V V')(hB:bp<B):Own B E V' a n c xs:=by
 refine⟨h.1,?_⟩
 rcases h.2 with hn | ⟨g,cap,cur,e,hbg,hgg,rest⟩
 ·exact .inl hn
 ·exact .inr ⟨g,cap,cur,e,hbg,by rw[hb.block g (jL hgg) (by omega)];exact hgg,rest⟩
theorem kNe (v:Int)(w:World)(h:0≤v∧v≤255):Calls Tryz.prog 28 #[.int .i64 v] w fun e w'=>e= .returned (.int .u8 v)∧w'=w:=by
 have hw:IntKind.u8.wrap v=v:=IntWalk.u8_in _ h
 go_enter Tryz.func28,Tryz.ntmps28
 go_wp2
 go_ret
 exact⟨rfl,rfl⟩
theorem kMn (v:Int)(w:World)(h: -2147483648≤v∧v≤2147483647):Calls Tryz.prog 30 #[.int .i64 v] w fun e w'=>e= .returned (.int .i32 v)∧w'=w:=by
 have hw:IntKind.i32.wrap v=v:=IntWalk.i32_in _ h
 go_enter Tryz.func30,Tryz.ntmps30
 go_wp2
 go_ret
 exact⟨rfl,rfl⟩
theorem kG8 (zs:List Nat):ivs .u16 (kA2 zs)=zs.map kAb:=by
 unfold ivs kA2;rw[List.map_map]
 rfl
theorem kG5 {α:Type}{L:List (List α)}(h:∀m∈L,m.length=64):L.flatten.length=64*L.length:=by
 induction L with
 | nil=>rfl
 | cons a L ih=>rw[List.flatten_cons,List.length_append,h a (by simp),ih (fun m hm=>h m (by simp[hm])),List.length_cons];omega
theorem But.mono9 {n n':Nat}{X:Nat→Prop}{W W':World}(h:But n X W W')(hn:n'≤n):But n' X W W':=⟨h.os,h.tape,h.output,h.size,fun k hk hx=>h.block k (by omega) hx⟩
end Go.Proofs.YtbmphakfgoompaaGreat

namespace Go.Proofs.YtbmphakfgoompaaGreat
open Go.RowKit
attribute [local go_sem] Oper.semAt_some
theorem kNu (w:World)(fv:Value)(F:Nat→Int)(M:Nat)(hM:M=17408)(hf:kC0 w fv (kAk F 1114112))(hr:∀r,r<1114112→0≤F r∧F r≤255):
  Calls Tryz.prog 27 #[fv,.func (.func 28) #[] #[]] w fun e w'=>∃s1 s2 s3,e= .returned (.agg #[s1,s2,s3])∧Ow8 w.heap.size w' s1 s2 s3 (trieS (mkF F M))∧Below w.heap.size w w':=by
 have hS:=made8 F M hM;have hT:=hS.trie
 have HTopN:Hid (∀x∈kA2 (mkF F M).top,0≤x∧x≤65535):=jH (fun x hx=>by
  obtain⟨y,hy,rfl⟩:=List.mem_map.1 hx;have h1:y<(mkF F M).mids.length:=hT.topN y hy;have h2:=hS.ml
  omega)
 have HMidN:Hid (∀x∈kA2 (mkF F M).mids.flatten,0≤x∧x≤65535):=jH (fun x hx=>by
  obtain⟨y,hy,rfl⟩:=List.mem_map.1 hx;obtain⟨m,hm,hy⟩:=List.mem_flatten.1 hy;have h1:y<(mkF F M).lows.length:=hT.midN m hm y hy;have h2:=hS.ll
  omega)
 have HLow:Hid (∀x∈(mkF F M).lows.flatten,0≤x∧x≤255):=jH (fun x hx=>by
  obtain⟨l,hl,hx⟩:=List.mem_flatten.1 hx;obtain⟨j,hj,rfl⟩:=(hS.made.low_mem l).1 hl;obtain⟨i,hi,rfl⟩:=List.mem_map.1 hx
  exact hr _ (by have:=List.mem_range.1 hi;omega))
 have HNt:Hid ((mkF F M).top.length=272):=jH hT.top;have HNm:Hid ((mkF F M).mids.flatten.length=64*(mkF F M).mids.length∧(mkF F M).mids.length≤272):=jH ⟨kG5 hT.mid,hS.ml⟩;have HNl:Hid ((mkF F M).lows.flatten.length=64*(mkF F M).lows.length∧(mkF F M).lows.length≤17408):=jH ⟨kG5 hT.low,hS.ll⟩;have HStg:=jH (fun(W:World) (hb:Below w.heap.size w W)=>kGb W fv F 1114112 M rfl hM (hf.below hb));obtain⟨aF,cF,aV,cV,rfl, -⟩:=hf
 obtain⟨ln,hln⟩:∃ln,ln=(kAk F 1114112).length:=⟨_,rfl⟩
 rw[←hln]at HStg ⊢;clear hS hT hr hln hM;have HA:=jH (jN w (.cells #[.slice aF ln cF,.slice aV ln cV] 35));have HB:=jH ((Below.refl _ w).alloc jR (.cells #[.slice aF ln cF,.slice aV ln cV] 35));have HZ:=jH (World.size_alloc w (.cells #[.slice aF ln cF,.slice aV ln cV] 35))
 go_enter Tryz.func27,Tryz.ntmps27
 go_upto_region 1 with(fail)
 generalize w.alloc (.cells #[.slice aF ln cF,.slice aV ln cV] 35)=w1 at*;have HA2:=jH (jN w1 (.cells #[.slice none 0 0,.slice none 0 0,.slice none 0 0] 46));have HB2:=jH ((Below.refl _ w1).alloc jR (.cells #[.slice none 0 0,.slice none 0 0,.slice none 0 0] 46))
 obtain⟨b0,hb0⟩:∃b0,b0=w.heap.size:=⟨_,rfl⟩
 rw[←hb0]at HA HZ ⊢;rw[HZ.out]at HA2;have HB3:Hid (Below w.heap.size w (w1.alloc (.cells #[.slice none 0 0,.slice none 0 0,.slice none 0 0] 46))):=jH (HB.out.trans (HB2.out.mono HB.out.size));have HA3:=jH ((HB2.out.block b0 (by rw[HZ.out];omega)).trans HA.out);generalize w1.alloc (.cells #[.slice none 0 0,.slice none 0 0,.slice none 0 0] 46)=w2 at*
 obtain⟨b4,hb4⟩:∃b4,b4=b0+1:=⟨_,rfl⟩
 rw[←hb4]at HA2 ⊢;have q0:=jK w2 b0 0 _ _ (0,0) HA3.out;have q1:=jK w2 b0 1 _ _ (0,0) HA3.out;simp at q0 q1;have Hb4:=jH (show w.heap.size≤b4 by omega);clear hb0 hb4 HA HZ HB HB2
 go_wp2_with fail
 refine(HStg.out w2 HB3.out).mono ?_;rintro e w3 ⟨sv,rfl,hSt,hb⟩;obtain⟨aT,cT,aM,cM,aL,cL,rfl,hT,hMm,hL⟩:=hSt
 have HT:=jH hT;have HMm:=jH hMm;have HL:=jH hL
 have HBw:=jH (HB3.out.trans (hb.mono HB3.out.size));have HRes:=jH ((hb.block b4 (jL HA2.out)).trans HA2.out);clear hT hMm hL hb HStg HB3 HA2 HA3 q0 q1;have HEt:=jH (kG8 (mkF F M).top);have HEm:=jH (kG8 (mkF F M).mids.flatten)
 have hNt2:(kA2 (mkF F M).top).length=272:=by rw[kA6];exact HNt.out
 have hNm2:(kA2 (mkF F M).mids.flatten).length=64*(mkF F M).mids.length:=by rw[kA6];exact HNm.out.1
 obtain⟨nT,hnT⟩:∃nT,nT=(mkF F M).top.length:=⟨_,rfl⟩
 obtain⟨nM,hnM⟩:∃nM,nM=64*(mkF F M).mids.length:=⟨_,rfl⟩
 obtain⟨nL,hnL⟩:∃nL,nL=64*(mkF F M).lows.length:=⟨_,rfl⟩
 have HlT:Hid ((kA2 (mkF F M).top).length=nT):=jH (by rw[kA6,hnT]);have HlM:Hid ((kA2 (mkF F M).mids.flatten).length=nM):=jH (by rw[hNm2,hnM]);have HlL:Hid ((mkF F M).lows.flatten.length=nL):=jH (by rw[HNl.out.1,hnL])
 have hbT:nT≤1114112:=by rw[hnT,HNt.out];omega
 have hbM:nM≤1114112:=by have:=HNm.out.2;omega
 have hbL:nL≤1114112:=by have:=HNl.out.2;omega
 have HnT:=jH hnT;rw[←hnT,←hnM,←hnL]
 have HnM:=jH hnM;have HnL:=jH hnL
 clear hNt2 hNm2 hnT hnM hnL HNm HNl
 obtain⟨yT,hyT⟩:∃y,y=kA2 (mkF F M).top:=⟨_,rfl⟩
 rw[←hyT]at HTopN HlT HEt HT
 obtain⟨yM,hyM⟩:∃y,y=kA2 (mkF F M).mids.flatten:=⟨_,rfl⟩
 rw[←hyM]at HMidN HlM HEm HMm
 have HyT:=jH hyT;have HyM:=jH hyM
 clear hyT hyM
 obtain⟨xT,hxT⟩:∃x,x=(mkF F M).top:=⟨_,rfl⟩
 rw[←hxT]at HEt HnT
 obtain⟨xM,hxM⟩:∃x,x=(mkF F M).mids.flatten:=⟨_,rfl⟩
 rw[←hxM]at HEm
 obtain⟨yL,hyL⟩:∃x,x=(mkF F M).lows.flatten:=⟨_,rfl⟩
 rw[←hyL]at HLow HlL HL
 have HxT:=jH hxT;have HxM:=jH hxM;have HyL:=jH hyL
 clear hxT hxM hyL;have HAs:=jH (jN w3 (.cells #[.slice aT nT cT,.slice aM nM cM,.slice aL nL cL] 133));have HBs:=jH ((Below.refl _ w3).alloc jR (.cells #[.slice aT nT cT,.slice aM nM cM,.slice aL nL cL] 133));have HZs:=jH (World.size_alloc w3 (.cells #[.slice aT nT cT,.slice aM nM cM,.slice aL nL cL] 133))
 go_upto_region 3 with(fail)
 generalize w3.alloc (.cells #[.slice aT nT cT,.slice aM nM cM,.slice aL nL cL] 133)=w4 at*;have HAp:=jH (jN w4 (.cells #[.slice none 0 0,.slice none 0 0,.slice none 0 0] 46));have HBp:=jH ((Below.refl _ w4).alloc jR (.cells #[.slice none 0 0,.slice none 0 0,.slice none 0 0] 46));have HZp:=jH (World.size_alloc w4 (.cells #[.slice none 0 0,.slice none 0 0,.slice none 0 0] 46))
 obtain⟨bs,hbs⟩:∃bs,bs=w3.heap.size:=⟨_,rfl⟩
 rw[←hbs]at HAs HZs ⊢;rw[HZs.out]at HAp HZp;have HB30:Hid (Below w3.heap.size w3 (w4.alloc (.cells #[.slice none 0 0,.slice none 0 0,.slice none 0 0] 46))):=jH (HBs.out.trans (HBp.out.mono HBs.out.size));have HS0:=jH ((HBp.out.block bs (by rw[HZs.out];omega)).trans HAs.out);generalize w4.alloc (.cells #[.slice none 0 0,.slice none 0 0,.slice none 0 0] 46)=V0 at*
 obtain⟨bp,hbp⟩:∃bp,bp=bs+1:=⟨_,rfl⟩
 rw[←hbp]at HAp HZp ⊢
 have Hbs:=jH hbs;have Hbp:=jH hbp
 have HZ0:Hid (V0.heap.size=bp+1):=jH HZp.out;clear hbs hbp HAs HBs HZs HBp HZp;have HSz0:Hid (bp<V0.heap.size∧bs<V0.heap.size):=jH (by have:=HZ0.out;have:=Hbp.out;omega);go_wp2
 go_loopw [7] (PtR 46 29 .u16 V0 bp nT yT (fun s=>[s,.slice none 0 0,.slice none 0 0])) (fun iv _=>nT - (intOf iv).toNat)
 case atStart=>exact⟨0,none,0,Nat.zero_le _,rfl,Own.nil _ _ _,HAp.out,But.refl _ _ _⟩
 case round=>
  obtain⟨k,g0,d0,hk,rfl,hown,hbox,hbut⟩:=hrel
  have HO:=jH hown;have HX:=jH hbox;have HU:=jH hbut
  clear hown hbox hbut
  obtain⟨V1,hv1⟩:∃v1,v1=wr:=⟨_,rfl⟩
  rw[←hv1]at HO HX HU ⊢;clear hv1;have HB31:=jH (HB30.out.trans (HU.out.below w3.heap.size HB30.out.size (fun b e=>by have:=Hbs.out;have:=Hbp.out;omega)));have HS1:=jH (HU.out.keep HS0.out (by have:=HSz0.out;omega) (by have:=Hbp.out;omega));have HSz1:Hid (bp<V1.heap.size∧bs<V1.heap.size):=jH (by have:=HSz0.out;have:=HU.out.size;omega);have s0:=jK V1 bs 0 _ _ (0,0) HS1.out;have p0:=jK V1 bp 0 _ _ (0,0) HX.out;simp at s0 p0
  by_cases hkn:k<nT
  ·have hki:(k:Int)<(nT:Int):=by omega
   have k1:k<yT.length:=by rw[HlT.out];exact hkn
   obtain⟨g1,o1,e1⟩:=HT.out.some (by have:=HlT.out;omega)
   have c1:=(HT.out.below HB31.out jR)
   rw[e1]at c1;subst e1;have c1:=c1.get k k1;have hx:=HTopN.out _ (List.getElem_mem k1)
   obtain⟨x,hxx⟩:∃x,x=yT[k]:=⟨_,rfl⟩
   rw[←hxx]at c1 hx
   have HXX:=jH hxx;clear hxx
   have hwx:IntKind.u16.wrap x=x:=IntWalk.u16_in _ (by omega)
   have p0A:∀ob:Obj,(V1.alloc ob).cell? ⟨bp,0,none⟩=some (.slice g0 k d0):=fun ob=>(World.cell?_of_block (w:=V1) (a:=⟨bp,0,none⟩) (Below.heap_alloc V1 ob bp (jL HX.out))).trans p0
   have s0A:∀ob:Obj,(V1.alloc ob).cell? ⟨bs,0,none⟩=some (.slice (some ⟨g1,o1,none⟩) nT cT):=fun ob=>(World.cell?_of_block (w:=V1) (a:=⟨bs,0,none⟩) (Below.heap_alloc V1 ob bs (jL HS1.out))).trans s0
   have c1A:∀ob:Obj,(V1.alloc ob).cell? ⟨g1,o1+k,none⟩=some (.int .i64 x):=fun ob=>(World.cell?_of_block (w:=V1) (a:=⟨g1,o1+k,none⟩) (Below.heap_alloc V1 ob g1 (World.block_lt_of_cell? V1 _ c1))).trans c1
   have hbnd1:(k+1)*2≤140737488355328:=by omega
   have hbnd2:k+1≤maxLen:=by unfold maxLen;omega
   have HB5:Hid (∀ob:Obj,(V1.alloc ob).drew.heap[bp]? =some (.cells #[.slice g0 k d0,.slice none 0 0,.slice none 0 0] 46 (0,0))):=jH (fun ob=>(Below.heap_alloc V1 ob bp (jL HX.out)).trans HX.out);have HSz:Hid (V0.heap.size≤V1.heap.size∧bp<V0.heap.size):=jH ⟨HU.out.size,by have:=HSz0.out;omega⟩;go_wp2
   go_region_law (first
    | (refine kCm Tryz.elemU16 rfl (.tmp 20) (.tmp 27) rfl (World.ownsRow.drew (World.ownsRow.alloc HO.out _)) (by have:=HSz.out.1;simp;omega) (ys:=[.int .u16 x]) rfl (kEu V1 _ _) (by simp) (by intro u hu;simp at hu;subst hu;rfl) hbnd1 hbnd2 rfl rfl ?_;intro a9 c9 w9 ho9 hg9 hb9;have hbl9:=(hg9.block bp (by have:=HSz.out;simp;omega) (fun e=>by have:=(World.ownsRow.lt HO.out bp e.symm).1;have:=HSz.out;omega)).trans (HB5.out _);have k9:=jK w9 bp 0 _ _ (0,0) hbl9;simp at k9;have f9:=jO w9 bp 0 _ _ hbl9)
    | (go_simp;go_at_call 28;refine(HCl.out _).mono ?_;rintro e w' ⟨rfl,rfl⟩))
   all_goals
    have HN9:=jH (PtR.step (mk:=(fun s=>[s,.slice none 0 0,.slice none 0 0])) (n:=nT) HSz.out.2 HO.out HU.out k1 HXX.out.symm (Nat.succ_le_of_lt hkn) ho9 hg9 HX.out (j:=0) rfl);clear ho9 hg9 hb9 hbl9;go_wp2
    go_roundw
    case rel=>exact HN9.out
    case measure=>simp[intOf];omega
  ·obtain rfl:nT=k:=by omega
   have hki:¬(nT:Int)<(nT:Int):=by omega
   have HR0:Hid (Own (bp+1) 29 V1 g0 nT d0 (ivs .u16 yT)):=jH (by have:=HO.out.mono (show bp+1≤V0.heap.size by have:=HSz0.out;omega);rwa[List.take_of_length_le (by rw[HlT.out];exact Nat.le_refl _)]at this)
   obtain⟨aT1,ha1⟩:∃x,x=g0:=⟨_,rfl⟩
   obtain⟨cT1,hc1⟩:∃x,x=d0:=⟨_,rfl⟩
   rw[←ha1,←hc1]at HX HR0 p0;clear ha1 hc1;have HX1:Hid (V1.heap[bp]? =some (.cells #[.slice aT1 nT cT1,.slice none 0 0,.slice none 0 0] 46 (0,0))):=jH HX.out;clear HO HX HU p0;go_wp2
   go_loopw [8] (PtR 46 29 .u16 V1 bp nM yM (fun s=>[.slice aT1 nT cT1,s,.slice none 0 0])) (fun iv _=>nM - (intOf iv).toNat)
   case atStart=>exact⟨0,none,0,Nat.zero_le _,rfl,Own.nil _ _ _,HX1.out,But.refl _ _ _⟩
   case round=>
    obtain⟨k,g0,d0,hk,rfl,hown,hbox,hbut⟩:=hrel
    have HO:=jH hown;have HX:=jH hbox;have HU:=jH hbut
    clear hown hbox hbut
    obtain⟨V2,hv1⟩:∃v1,v1=wr:=⟨_,rfl⟩
    rw[←hv1]at HO HX HU ⊢;clear hv1;have HB32:=jH (HB31.out.trans (HU.out.below w3.heap.size HB31.out.size (fun b e=>by have:=Hbs.out;have:=Hbp.out;omega)));have HS2:=jH (HU.out.keep HS1.out (by have:=HSz1.out;omega) (by have:=Hbp.out;omega));have HSz2:Hid (bp<V2.heap.size∧bs<V2.heap.size):=jH (by have:=HSz1.out;have:=HU.out.size;omega);have s0:=jK V2 bs 1 _ _ (0,0) HS2.out;have p0:=jK V2 bp 1 _ _ (0,0) HX.out;simp at s0 p0
    by_cases hkn:k<nM
    ·have hki:(k:Int)<(nM:Int):=by omega
     have k1:k<yM.length:=by rw[HlM.out];exact hkn
     obtain⟨g1,o1,e1⟩:=HMm.out.some (by have:=HlM.out;omega)
     have c1:=(HMm.out.below HB32.out jR)
     rw[e1]at c1;subst e1;have c1:=c1.get k k1;have hx:=HMidN.out _ (List.getElem_mem k1)
     obtain⟨x,hxx⟩:∃x,x=yM[k]:=⟨_,rfl⟩
     rw[←hxx]at c1 hx
     have HXX:=jH hxx;clear hxx
     have hwx:IntKind.u16.wrap x=x:=IntWalk.u16_in _ (by omega)
     have p0A:∀ob:Obj,(V2.alloc ob).cell? ⟨bp,1,none⟩=some (.slice g0 k d0):=fun ob=>(World.cell?_of_block (w:=V2) (a:=⟨bp,1,none⟩) (Below.heap_alloc V2 ob bp (jL HX.out))).trans p0
     have s0A:∀ob:Obj,(V2.alloc ob).cell? ⟨bs,1,none⟩=some (.slice (some ⟨g1,o1,none⟩) nM cM):=fun ob=>(World.cell?_of_block (w:=V2) (a:=⟨bs,1,none⟩) (Below.heap_alloc V2 ob bs (jL HS2.out))).trans s0
     have c1A:∀ob:Obj,(V2.alloc ob).cell? ⟨g1,o1+k,none⟩=some (.int .i64 x):=fun ob=>(World.cell?_of_block (w:=V2) (a:=⟨g1,o1+k,none⟩) (Below.heap_alloc V2 ob g1 (World.block_lt_of_cell? V2 _ c1))).trans c1
     have hbnd1:(k+1)*2≤140737488355328:=by omega
     have hbnd2:k+1≤maxLen:=by unfold maxLen;omega
     have HB5:Hid (∀ob:Obj,(V2.alloc ob).drew.heap[bp]? =some (.cells #[.slice aT1 nT cT1,.slice g0 k d0,.slice none 0 0] 46 (0,0))):=jH (fun ob=>(Below.heap_alloc V2 ob bp (jL HX.out)).trans HX.out);have HSz:Hid (V1.heap.size≤V2.heap.size∧bp<V1.heap.size):=jH ⟨HU.out.size,by have:=HSz1.out;omega⟩;go_wp2
     go_region_law (first
      | (refine kCm Tryz.elemU16 rfl (.tmp 38) (.tmp 45) rfl (World.ownsRow.drew (World.ownsRow.alloc HO.out _)) (by have:=HSz.out.1;simp;omega) (ys:=[.int .u16 x]) rfl (kEu V2 _ _) (by simp) (by intro u hu;simp at hu;subst hu;rfl) hbnd1 hbnd2 rfl rfl ?_;intro a9 c9 w9 ho9 hg9 hb9;have hbl9:=(hg9.block bp (by have:=HSz.out;simp;omega) (fun e=>by have:=(World.ownsRow.lt HO.out bp e.symm).1;have:=HSz.out;omega)).trans (HB5.out _);have k9:=jK w9 bp 1 _ _ (0,0) hbl9;simp at k9;have f9:=jO w9 bp 1 _ _ hbl9)
      | (go_simp;go_at_call 28;refine(HCl.out _).mono ?_;rintro e w' ⟨rfl,rfl⟩))
     all_goals
      have HN9:=jH (PtR.step (mk:=(fun s=>[.slice aT1 nT cT1,s,.slice none 0 0])) (n:=nM) HSz.out.2 HO.out HU.out k1 HXX.out.symm (Nat.succ_le_of_lt hkn) ho9 hg9 HX.out (j:=1) rfl);clear ho9 hg9 hb9 hbl9;go_wp2
      go_roundw
      case rel=>exact HN9.out
      case measure=>simp[intOf];omega
    ·obtain rfl:nM=k:=by omega
     have hki:¬(nM:Int)<(nM:Int):=by omega
     have HR1:Hid (Own (bp+1) 29 V2 g0 nM d0 (ivs .u16 yM)):=jH (by have:=HO.out.mono (show bp+1≤V1.heap.size by have:=HSz1.out;omega);rwa[List.take_of_length_le (by rw[HlM.out];exact Nat.le_refl _)]at this)
     obtain⟨aM1,ha1⟩:∃x,x=g0:=⟨_,rfl⟩
     obtain⟨cM1,hc1⟩:∃x,x=d0:=⟨_,rfl⟩
     rw[←ha1,←hc1]at HX HR1 p0;clear ha1 hc1;have HX2:Hid (V2.heap[bp]? =some (.cells #[.slice aT1 nT cT1,.slice aM1 nM cM1,.slice none 0 0] 46 (0,0))):=jH HX.out;have HR0:=jH (kCo HR0.out (HU.out.mono9 (by have:=HU.out.size;exact Nat.le_refl _)) (by omega));clear HO HX HU p0;go_wp2
     go_loopw [9] (PtR 46 22 .u8 V2 bp nL yL (fun s=>[.slice aT1 nT cT1,.slice aM1 nM cM1,s])) (fun iv _=>nL - (intOf iv).toNat)
     case atStart=>exact⟨0,none,0,Nat.zero_le _,rfl,Own.nil _ _ _,HX2.out,But.refl _ _ _⟩
     case round=>
      obtain⟨k,g0,d0,hk,rfl,hown,hbox,hbut⟩:=hrel
      have HO:=jH hown;have HX:=jH hbox;have HU:=jH hbut
      clear hown hbox hbut
      obtain⟨V3,hv1⟩:∃v1,v1=wr:=⟨_,rfl⟩
      rw[←hv1]at HO HX HU ⊢;clear hv1;have HB33:=jH (HB32.out.trans (HU.out.below w3.heap.size HB32.out.size (fun b e=>by have:=Hbs.out;have:=Hbp.out;omega)));have HS3:=jH (HU.out.keep HS2.out (by have:=HSz2.out;omega) (by have:=Hbp.out;omega));have HSz3:Hid (bp<V3.heap.size∧bs<V3.heap.size):=jH (by have:=HSz2.out;have:=HU.out.size;omega);have s0:=jK V3 bs 2 _ _ (0,0) HS3.out;have p0:=jK V3 bp 2 _ _ (0,0) HX.out;simp at s0 p0
      by_cases hkn:k<nL
      ·have hki:(k:Int)<(nL:Int):=by omega
       have k1:k<yL.length:=by rw[HlL.out];exact hkn
       obtain⟨g1,o1,e1⟩:=HL.out.some (by have:=HlL.out;omega)
       have c1:=(HL.out.below HB33.out jR)
       rw[e1]at c1;subst e1;have c1:=c1.get k k1;have hx:=HLow.out _ (List.getElem_mem k1)
       obtain⟨x,hxx⟩:∃x,x=yL[k]:=⟨_,rfl⟩
       rw[←hxx]at c1 hx
       have HXX:=jH hxx;clear hxx
       have HCl:=jH (fun W=>kNe x W (by omega))
       have p0A:∀ob:Obj,(V3.alloc ob).cell? ⟨bp,2,none⟩=some (.slice g0 k d0):=fun ob=>(World.cell?_of_block (w:=V3) (a:=⟨bp,2,none⟩) (Below.heap_alloc V3 ob bp (jL HX.out))).trans p0
       have s0A:∀ob:Obj,(V3.alloc ob).cell? ⟨bs,2,none⟩=some (.slice (some ⟨g1,o1,none⟩) nL cL):=fun ob=>(World.cell?_of_block (w:=V3) (a:=⟨bs,2,none⟩) (Below.heap_alloc V3 ob bs (jL HS3.out))).trans s0
       have c1A:∀ob:Obj,(V3.alloc ob).cell? ⟨g1,o1+k,none⟩=some (.int .i64 x):=fun ob=>(World.cell?_of_block (w:=V3) (a:=⟨g1,o1+k,none⟩) (Below.heap_alloc V3 ob g1 (World.block_lt_of_cell? V3 _ c1))).trans c1
       have hbnd1:(k+1)*1≤140737488355328:=by omega
       have hbnd2:k+1≤maxLen:=by unfold maxLen;omega
       have HB5:Hid (∀ob:Obj,(V3.alloc ob).drew.heap[bp]? =some (.cells #[.slice aT1 nT cT1,.slice aM1 nM cM1,.slice g0 k d0] 46 (0,0))):=jH (fun ob=>(Below.heap_alloc V3 ob bp (jL HX.out)).trans HX.out);have HSz:Hid (V2.heap.size≤V3.heap.size∧bp<V2.heap.size):=jH ⟨HU.out.size,by have:=HSz2.out;omega⟩;go_wp2
       go_region_law (first
        | (refine kCm Tryz.elemCls rfl (.tmp 56) (.tmp 64) rfl (World.ownsRow.drew (World.ownsRow.alloc HO.out _)) (by have:=HSz.out.1;simp;omega) (ys:=[.int .u8 x]) rfl (kEu V3 _ _) (by simp) (by intro u hu;simp at hu;subst hu;rfl) hbnd1 hbnd2 rfl rfl ?_;intro a9 c9 w9 ho9 hg9 hb9;have hbl9:=(hg9.block bp (by have:=HSz.out;simp;omega) (fun e=>by have:=(World.ownsRow.lt HO.out bp e.symm).1;have:=HSz.out;omega)).trans (HB5.out _);have k9:=jK w9 bp 2 _ _ (0,0) hbl9;simp at k9;have f9:=jO w9 bp 2 _ _ hbl9)
        | (go_simp;go_at_call 28;refine(HCl.out _).mono ?_;rintro e w' ⟨rfl,rfl⟩))
       all_goals
        have HN9:=jH (PtR.step (mk:=(fun s=>[.slice aT1 nT cT1,.slice aM1 nM cM1,s])) (n:=nL) HSz.out.2 HO.out HU.out k1 HXX.out.symm (Nat.succ_le_of_lt hkn) ho9 hg9 HX.out (j:=2) rfl);clear ho9 hg9 hb9 hbl9;go_wp2
        go_roundw
        case rel=>exact HN9.out
        case measure=>simp[intOf];omega
      ·obtain rfl:nL=k:=by omega
       have hki:¬(nL:Int)<(nL:Int):=by omega
       have HR2:Hid (Own (bp+1) 22 V3 g0 nL d0 (ivs .u8 yL)):=jH (by have:=HO.out.mono (show bp+1≤V2.heap.size by have:=HSz2.out;omega);rwa[List.take_of_length_le (by rw[HlL.out];exact Nat.le_refl _)]at this)
       obtain⟨aL1,ha1⟩:∃x,x=g0:=⟨_,rfl⟩
       obtain⟨cL1,hc1⟩:∃x,x=d0:=⟨_,rfl⟩
       rw[←ha1,←hc1]at HX HR2 p0;clear ha1 hc1;have HX3:Hid (V3.heap[bp]? =some (.cells #[.slice aT1 nT cT1,.slice aM1 nM cM1,.slice aL1 nL cL1] 46 (0,0))):=jH HX.out;have HR0:=jH (kCo HR0.out (HU.out.mono9 (by have:=HU.out.size;exact Nat.le_refl _)) (by omega));have HR1:=jH (kCo HR1.out (HU.out.mono9 (by have:=HU.out.size;exact Nat.le_refl _)) (by omega));clear HO HX HU p0;have HB9:=jH (HBw.out.trans (HB33.out.mono HBw.out.size));have HRs:=jH ((HB33.out.block b4 (jL HRes.out)).trans HRes.out);have Hlt:Hid (b4<bp+1):=jH (by have:=(jL HRes.out);have:=Hbs.out;have:=Hbp.out;omega);have u0:=jK V3 bp 0 _ _ (0,0) HX3.out;have u1:=jK V3 bp 1 _ _ (0,0) HX3.out;have u2:=jK V3 bp 2 _ _ (0,0) HX3.out;have r0:=jK V3 b4 0 _ _ (0,0) HRs.out;have r1:=jK V3 b4 1 _ _ (0,0) HRs.out;have r2:=jK V3 b4 2 _ _ (0,0) HRs.out;have f0:=jO V3 b4 0 _ _ HRs.out;have f1:=jO V3 b4 1 _ _ HRs.out;have f2:=jO V3 b4 2 _ _ HRs.out;simp at u0 u1 u2 r0 r1 r2;have y0:=jP V3 b4 0 _ _ (.slice aT1 nT cT1) HRs.out;have y1:=jP _ b4 1 _ _ (.slice aM1 nM cM1) y0;have y2:=jP _ b4 2 _ _ (.slice aL1 nL cL1) y1;have HY:=jH y2;have HBu:=jH ((((But.refl V3.heap.size (fun b=>b=b4) V3).setCell b4 0 (.slice aT1 nT cT1) (.inl rfl)).setCell b4 1 (.slice aM1 nM cM1) (.inl rfl)).setCell b4 2 (.slice aL1 nL cL1) (.inl rfl));have HBb:=jH (((HB9.out.setCell (p:=⟨b4,0,none⟩) Hb4.out (.slice aT1 nT cT1)).setCell (p:=⟨b4,1,none⟩) Hb4.out (.slice aM1 nM cM1)).setCell (p:=⟨b4,2,none⟩) Hb4.out (.slice aL1 nL cL1));clear y0 y1 y2;go_wp2
       have hy:=HY.out;have t0:=jK _ b4 0 _ _ (0,0) hy;have t1:=jK _ b4 1 _ _ (0,0) hy;have t2:=jK _ b4 2 _ _ (0,0) hy;simp at t0 t1 t2;refine jS (v:= .agg #[.slice aT1 nT cT1,.slice aM1 nM cM1,.slice aL1 nL cL1]) (by simp[results,Tryz.results27,go_sem,t0,t1,t2]) rfl ?_
       have Hw0:w.heap.size≤bp+1:=by have:=Hb4.out;have:=Hlt.out;omega
       have o0:=(kCo HR0.out HBu.out Hlt.out).mono Hw0;have o1:=(kCo HR1.out HBu.out Hlt.out).mono Hw0;have o2:=(kCo HR2.out HBu.out Hlt.out).mono Hw0;have hBb:=HBb.out;generalize ((V3.setCell ⟨b4,0,none⟩ (.slice aT1 nT cT1)).setCell ⟨b4,1,none⟩ (.slice aM1 nM cM1)).setCell ⟨b4,2,none⟩ (.slice aL1 nL cL1)=W9 at o0 o1 o2 hBb ⊢;have e0:nT=272:=HnT.out.trans (by rw[HxT.out];exact HNt.out);rw[HEt.out,HxT.out,e0]at o0;rw[HEm.out,HxM.out,←kCc,HnM.out]at o1;rw[HyL.out,HnL.out]at o2;exact⟨_,_,_,rfl,⟨aT1,cT1,aM1,cM1,aL1,cL1,by rw[e0],by rw[HnM.out];rfl,by rw[HnL.out];rfl,o0,o1,by rw[kCc];exact o2⟩,hBb⟩
end Go.Proofs.YtbmphakfgoompaaGreat
