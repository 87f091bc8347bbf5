/- several texts in one: UF4 UF5 UF6 -/
import Derived.Test.YtbmphakfgoompaaGreatOF1
set_option linter.unusedVariables false
set_option linter.unusedSimpArgs false
set_option maxRecDepth 100000
set_option maxHeartbeats 16000000
namespace Go.Proofs.YtbmphakfgoompaaGreat
open Go.RowKit
attribute [local go_sem] Oper.semAt_some
theorem Tryz.elemR4:kKx Tryz.prog 30 21 (.int .i32 0) 4:=⟨Tryz.underlying30,by kernel_rfl,by kernel_rfl⟩
theorem kRb (f t v:Int):(kFt f t v).length≤65:=by
 unfold kFt
 split
 ·simp
 ·rw[List.length_append];have h1:=List.length_filterMap_le (fun k:Nat=>if f+(k:Nat)≤t then some (f+(k:Nat))else none) (List.range 64);rw[List.length_range]at h1
  split<;>simp<;>omega
theorem kJt (L:List (Int×Int)):∀n,(kC9 L n).length≤65*n
 | 0=>by simp[kC9]
 | n+1=>by rw[kKr,List.length_append];have:=kJt L n;have:=kRb (kC5 L n) (L.getD n (0,0)).1 (L.getD n (0,0)).2;omega
theorem kOb {α β:Type}{f g:α→Option β}:∀ {l:List α},(∀x∈l,f x=g x)→l.filterMap f=l.filterMap g
 | [],_=>rfl
 | x :: l,h=>by rw[List.filterMap_cons,List.filterMap_cons,h x (by simp),kOb (fun y hy=>h y (by simp[hy]))]
def kGq (N:Nat) (F:Nat→Nat→Int):Nat→List Int
 | 0=>[]
 | k+1=>kGq N F k++kC9 (kAk (F (k+1)) N) (kAk (F (k+1)) N).length
theorem kJu (N:Nat)(F:Nat→Nat→Int):∀k,(kGq N F k).length≤65*N*k
 | 0=>by simp[kGq]
 | k+1=>by
  have h1:=kJu N F k;have h2:=kJt (kAk (F (k+1)) N) (kAk (F (k+1)) N).length;have h3:=kCd (F (k+1)) N;have h4:65*(kAk (F (k+1)) N).length≤65*N:=Nat.mul_le_mul_left _ h3;rw[kGq,List.length_append,Nat.mul_succ];omega
theorem kGr (N:Nat)(F:Nat→Nat→Int):kGq N F 3=kIb N (F 1) (F 2) (F 3):=by
 simp[kGq,kIb]
def upF (f:Int) (k:Nat):List Int:=(List.range k).map (fun j=>f+((j:Nat):Int))
theorem kS6 (f:Int)(k:Nat):upF f (k+1)=upF f k++[f+(k:Nat)]:=by unfold upF;rw[List.range_succ,List.map_append];rfl
theorem kIg (f:Int)(k:Nat):(upF f k).length=k:=by simp[upF]
theorem kRq {f t:Int}{k:Nat}(hk:k≤64)(h1:∀j,j<k→f+((j:Nat):Int)≤t)(h2:k=64∨¬f+((k:Nat):Int)≤t):(List.range 64).filterMap (fun k:Nat=>if f+(k:Nat)≤t then some (f+(k:Nat))else none)=upF f k:=by
 have e:List.range 64=List.range k++(List.range (64 - k)).map (fun j=>k+j):=by
  rw[←List.range_add,Nat.add_sub_cancel' hk]
 rw[e,List.filterMap_append]
 have a1:(List.range k).filterMap (fun k:Nat=>if f+(k:Nat)≤t then some (f+(k:Nat))else none)=upF f k:=by
  unfold upF;rw[←List.filterMap_eq_map];refine kOb (fun j hj=> ?_);have h9:=h1 j (by simpa using hj);simp[h9]
 have a2:((List.range (64 - k)).map (fun j=>k+j)).filterMap (fun k:Nat=>if f+(k:Nat)≤t then some (f+(k:Nat))else none)=[]:=by
  rw[List.filterMap_eq_nil_iff];intro x hx;obtain⟨j,hj,rfl⟩:=List.mem_map.1 hx
  have hj:j<64 - k:=by simpa using hj
  rw[if_neg]
  rcases h2 with h2 | h2
  ·omega
  ·omega
 rw[a1,a2,List.append_nil]
theorem kPo (f t:Int):kFt f t 0=[]:=if_pos rfl
theorem kOm {f t v:Int}{k:Nat}(hv:v≠0)(hk:k≤64)(h1:∀j,j<k→f+((j:Nat):Int)≤t)(h2:k=64∨¬f+((k:Nat):Int)≤t)(h3:f≤v - 1∧v - 1≤t):kFt f t v=upF f k++[v - 1]:=by
 unfold kFt;rw[if_neg hv,kRq hk h1 h2,if_pos h3]
theorem kHi {f t v:Int}{k:Nat}(hv:v≠0)(hk:k≤64)(h1:∀j,j<k→f+((j:Nat):Int)≤t)(h2:k=64∨¬f+((k:Nat):Int)≤t)(h3:¬(f≤v - 1∧v - 1≤t)):kFt f t v=upF f k:=by
 unfold kFt;rw[if_neg hv,kRq hk h1 h2,if_neg h3,List.append_nil]
def SdR (w:World) (bl:Nat) (mc:Array Value) (N:Nat) (F:Nat→Nat→Int) (kv ov:Value) (wr:World):Prop:=
 ∃(k:Nat) (a:Option Addr) (c:Nat),k≤3∧kv= .int .i64 (k:Nat)∧ov= .slice a (kGq N F k).length c∧Own w.heap.size 21 wr a (kGq N F k).length c (ivs .i32 (kGq N F k))∧wr.heap[bl]? =some (.cells mc 35 (0,0))∧Below w.heap.size w wr
def SdI (w:World) (bl bx:Nat) (ml mx:Array Value) (P:List Int) (R:List (Int×Int)) (iv fv ov:Value) (wr:World):Prop:=
 ∃(i:Nat) (a:Option Addr) (c n:Nat),i≤R.length∧iv= .int .i64 (i:Nat)∧fv= .int .i32 (kC5 R i)∧ov= .slice a n c∧n=(P++kC9 R i).length∧Own w.heap.size 21 wr a n c (ivs .i32 (P++kC9 R i))∧wr.heap[bl]? =some (.cells ml 35 (0,0))∧wr.heap[bx]? =some (.cells mx 35 (0,0))∧Below w.heap.size w wr
def SdK (w:World) (bl bx:Nat) (ml mx:Array Value) (P:List Int) (f t:Int) (kv ov:Value) (wr:World):Prop:=
 ∃(k:Nat) (a:Option Addr) (c n:Nat),k≤64∧kv= .int .i32 (k:Nat)∧ov= .slice a n c∧n=P.length+k∧Own w.heap.size 21 wr a n c (ivs .i32 (P++upF f k))∧(∀j,j<k→f+((j:Nat):Int)≤t)∧wr.heap[bl]? =some (.cells ml 35 (0,0))∧wr.heap[bx]? =some (.cells mx 35 (0,0))∧Below w.heap.size w wr
theorem kQ0 {B:Nat}{w:World}{a:Option Addr}{n c:Nat}{xs:List Value}(h:Own B 21 w a n c xs){b:Nat}{cs:Array Value}(hb:w.heap[b]? =some (.cells cs 35 (0,0))):(Value.slice a n c).ownBlock≠some b:=by
 intro e
 rcases h.2 with⟨e2,h0⟩ | ⟨g,cap',cur,e2,_,hg,_⟩
 ·rw[e2]at e;cases e
 ·rw[e2]at e;cases e;rw[hg]at hb;cases hb
theorem kJv {w wr w9:World}{a:Option Addr}{n c:Nat}{xs:List Value}(h:Own w.heap.size 21 wr a n c xs)(hb:Below w.heap.size w wr)(hg:wr.grownBy w9 (Value.slice a n c).ownBlock):Below w.heap.size w w9∧∀(b:Nat) (cs:Array Value),wr.heap[b]? =some (.cells cs 35 (0,0))→w9.heap[b]? =some (.cells cs 35 (0,0)):=
 ⟨hb.trans (kAv hg (fun x e=>(World.ownsRow.lt h x e).1) hb.size),fun b cs h2=>(hg.block b (jL h2) (fun e=>kQ0 h h2 e.symm)).trans h2⟩
theorem kO0 (w:World)(f:Value)(F:Nat→Nat→Int)(hf:kBf w f F)(hfit:kL0 F):
  Calls Tryz.prog 92 #[f] w fun e w'=>Below w.heap.size w w'∧∃a c,e= .returned (.slice a (kIb 1114112 (F 1) (F 2) (F 3)).length c)∧Ints .i32 w' a (kIb 1114112 (F 1) (F 2) (F 3)):=by
 obtain⟨x0,x1,x2,x3,x4,x5,x6,x7,rfl,g0,g1,g2,g3⟩:=hf;obtain⟨⟨xa0,xn0,xc0,rfl⟩,⟨xa1,xn1,xc1,rfl⟩⟩:=g0.slices;obtain⟨⟨xa2,xn2,xc2,rfl⟩,⟨xa3,xn3,xc3,rfl⟩⟩:=g1.slices;obtain⟨⟨xa4,xn4,xc4,rfl⟩,⟨xa5,xn5,xc5,rfl⟩⟩:=g2.slices;obtain⟨⟨xa6,xn6,xc6,rfl⟩,⟨xa7,xn7,xc7,rfl⟩⟩:=g3.slices;have HF:=jH (show kBf w (.agg #[.slice xa0 xn0 xc0,.slice xa1 xn1 xc1,.slice xa2 xn2 xc2,.slice xa3 xn3 xc3,.slice xa4 xn4 xc4,.slice xa5 xn5 xc5,.slice xa6 xn6 xc6,.slice xa7 xn7 xc7]) F from⟨_,_,_,_,_,_,_,_,rfl,g0,g1,g2,g3⟩);have HG:=jH (And.intro g0 (And.intro g1 (And.intro g2 g3)));clear g0 g1 g2 g3;have HA:=jH (jN w (.cells #[.slice xa0 xn0 xc0,.slice xa1 xn1 xc1,.slice xa2 xn2 xc2,.slice xa3 xn3 xc3,.slice xa4 xn4 xc4,.slice xa5 xn5 xc5,.slice xa6 xn6 xc6,.slice xa7 xn7 xc7] 37));have HB:=jH ((Below.refl _ w).alloc jR (.cells #[.slice xa0 xn0 xc0,.slice xa1 xn1 xc1,.slice xa2 xn2 xc2,.slice xa3 xn3 xc3,.slice xa4 xn4 xc4,.slice xa5 xn5 xc5,.slice xa6 xn6 xc6,.slice xa7 xn7 xc7] 37))
 go_enter Tryz.func92,Tryz.ntmps92
 go_upto_region 1 with(fail)
 obtain⟨b0,hb0⟩:∃b0,b0=w.heap.size:=⟨_,rfl⟩
 rw[←hb0]at HA ⊢;clear hb0;generalize w.alloc (.cells #[.slice xa0 xn0 xc0,.slice xa1 xn1 xc1,.slice xa2 xn2 xc2,.slice xa3 xn3 xc3,.slice xa4 xn4 xc4,.slice xa5 xn5 xc5,.slice xa6 xn6 xc6,.slice xa7 xn7 xc7] 37)=w1 at*;have q0:=jK w1 b0 0 _ _ (0,0) HA.out;have q1:=jK w1 b0 1 _ _ (0,0) HA.out;have q2:=jK w1 b0 2 _ _ (0,0) HA.out;have q3:=jK w1 b0 3 _ _ (0,0) HA.out;have q4:=jK w1 b0 4 _ _ (0,0) HA.out;have q5:=jK w1 b0 5 _ _ (0,0) HA.out;have q6:=jK w1 b0 6 _ _ (0,0) HA.out;have q7:=jK w1 b0 7 _ _ (0,0) HA.out;simp at q0 q1 q2 q3 q4 q5 q6 q7
 have HV:Hid (∀k,k<3→∀r,r≤1114111→ -1114112≤F (k+1) r∧F (k+1) r≤1114112):=jH (fun k hk r hr=>by
  have hc:k=0∨k=1∨k=2:=by omega
  rcases hc with rfl | rfl | rfl
  ·exact hfit.b r hr
  ·have:=hfit.t r hr;exact⟨show -1114112≤F 2 r by omega,this.2⟩
  ·have:=hfit.m r hr;exact⟨show -1114112≤F 3 r by omega,this.2⟩)
 clear hfit
 obtain⟨bl,hbl⟩:∃bl,bl=w1.heap.size:=⟨_,rfl⟩
 have HL:=jH (jN w1 (.cells #[.slice xa2 xn2 xc2,.slice xa3 xn3 xc3,.slice xa4 xn4 xc4,.slice xa5 xn5 xc5,.slice xa6 xn6 xc6,.slice xa7 xn7 xc7] 35));have HBL:=jH (HB.out.alloc HB.out.size (.cells #[.slice xa2 xn2 xc2,.slice xa3 xn3 xc3,.slice xa4 xn4 xc4,.slice xa5 xn5 xc5,.slice xa6 xn6 xc6,.slice xa7 xn7 xc7] 35))
 go_upto_region 3 with(fail)
 rw[←hbl]at HL ⊢;clear hbl HA HB q0 q1 q2 q3 q4 q5 q6 q7;generalize w1.alloc (.cells #[.slice xa2 xn2 xc2,.slice xa3 xn3 xc3,.slice xa4 xn4 xc4,.slice xa5 xn5 xc5,.slice xa6 xn6 xc6,.slice xa7 xn7 xc7] 35)=w2 at*
 obtain⟨N,hN⟩:∃N,N=1114112:=⟨_,rfl⟩
 have HNN:=jH hN;have HG0:Hid (kC0 w (.agg #[.slice xa2 xn2 xc2,.slice xa3 xn3 xc3]) (kAk (F 1) N)∧kC0 w (.agg #[.slice xa4 xn4 xc4,.slice xa5 xn5 xc5]) (kAk (F 2) N)∧kC0 w (.agg #[.slice xa6 xn6 xc6,.slice xa7 xn7 xc7]) (kAk (F 3) N)):=jH (by rw[hN];exact HG.out.2);clear hN HG HF
 go_loopw [18,3] (SdR w bl #[.slice xa2 xn2 xc2,.slice xa3 xn3 xc3,.slice xa4 xn4 xc4,.slice xa5 xn5 xc5,.slice xa6 xn6 xc6,.slice xa7 xn7 xc7] N F) (fun k _ _=>3 - (intOf k).toNat)
 case atStart=>exact⟨0,none,0,by omega,rfl,rfl,Own.nil _ _ _,HL.out,HBL.out⟩
 case round=>
  clear HL HBL;obtain⟨k,a,c,hk,rfl,rfl,ho,hl,hbel⟩:=hrel
  have HO:=jH ho;have HL:=jH hl;have HBe:=jH hbel
  by_cases hk3:k<3
  ·have hki:(k:Int)<3:=by omega
   obtain⟨aT,nT,cT,aV,nV,cV,h1,h2,h3⟩:∃aT nT cT aV nV cV,wr.cell? ⟨bl,k*2,none⟩=some (.slice aT nT cT)∧wr.cell? ⟨bl,k*2+1,none⟩=some (.slice aV nV cV)∧kC0 w (.agg #[.slice aT nT cT,.slice aV nV cV]) (kAk (F (k+1)) N):=by
    have hc:k=0∨k=1∨k=2:=by omega
    rcases hc with rfl | rfl | rfl
    ·exact⟨_,_,_,_,_,_,jK wr bl 0 _ _ (0,0) hl,jK wr bl 1 _ _ (0,0) hl,HG0.out.1⟩
    ·exact⟨_,_,_,_,_,_,jK wr bl 2 _ _ (0,0) hl,jK wr bl 3 _ _ (0,0) hl,HG0.out.2.1⟩
    ·exact⟨_,_,_,_,_,_,jK wr bl 4 _ _ (0,0) hl,jK wr bl 5 _ _ (0,0) hl,HG0.out.2.2⟩
   obtain⟨aT2,cT2,aV2,cV2,e1,hT,hVs, -, -⟩:=h3
   obtain⟨rfl,rfl,rfl,rfl,rfl,rfl⟩:aT=aT2∧nT=(kAk (F (k+1)) N).length∧cT=cT2∧aV=aV2∧nV=(kAk (F (k+1)) N).length∧cV=cV2:=by
    have:=e1;simp at this;exact⟨this.1.1,this.1.2.1,this.1.2.2,this.2.1,this.2.2.1,this.2.2.2⟩
   have HT:=jH hT;have HVv:=jH hVs;have HSt:=jH (show kGq N F (k+1)=kGq N F k++kC9 (kAk (F (k+1)) N) (kAk (F (k+1)) N).length from rfl);have HPl:=jH (kJu N F k);have hRl:=kCd (F (k+1)) N;have HRr:=jH (fun i (hi:i<(kAk (F (k+1)) N).length)=>kDt (F (k+1)) N i (by omega))
   have HRv:Hid (∀i,∀hi:i<(kAk (F (k+1)) N).length, -1114112≤((kAk (F (k+1)) N)[i]).2∧((kAk (F (k+1)) N)[i]).2≤1114112∧0≤((kAk (F (k+1)) N)[i]).1∧((kAk (F (k+1)) N)[i]).1≤1114111∧0≤kC5 (kAk (F (k+1)) N) i∧kC5 (kAk (F (k+1)) N) i≤((kAk (F (k+1)) N)[i]).1):=jH (fun i hi=>by
    obtain⟨r,e,hr,h4⟩:=kDt (F (k+1)) N i (by omega);have h5:=h4.ge i hi jR;have h6:=kE7 (F (k+1)) N _ (List.getElem_mem hi);have h7:=h4.val hi (q:=r) jR h5;have h8:=HV.out k hk3 r (by have:=HNN.out;omega);rw[h7];have:=HNN.out
    omega)
   have HNb:=jH (show N=1114112 from HNN.out);clear hT hVs e1 ho hl;generalize kGq N F k=P at*;generalize kAk (F (k+1)) N=R at*
   have HPl2:P.length≤65*1114112*3:=by
    have h1:=HPl.out;rw[HNb.out]at h1;have h2:65*1114112*k≤65*1114112*3:=Nat.mul_le_mul_left _ (by omega);omega
   have HRl2:R.length≤1114112:=by have:=HNb.out;omega
   have HSl:=jH (fun i (hi:i≤R.length)=>(show(P++kC9 R i).length≤65*1114112*4 from by
    have h1:=kJt R i;rw[List.length_append]
    omega))
   obtain⟨n,hn⟩:∃n,n=R.length:=⟨_,rfl⟩
   have Hn:=jH hn;rw[←hn]at h1 h2 HRl2;have HA4:=jN wr (.cells #[.slice aT n cT,.slice aV n cV] 35);have HB4:=jH (hbel.alloc hbel.size (.cells #[.slice aT n cT,.slice aV n cV] 35));have hba:=(Below.refl _ wr).alloc jR (.cells #[.slice aT n cT,.slice aV n cV] 35);have HO4:=jH (HO.out.below hba jR);have HL4:=jH ((hba.block bl (jL HL.out)).trans HL.out);clear hba hbel hn HO HL HBe
   go_upto_region 5 with(fail)
   obtain⟨bx,hbx⟩:∃bx,bx=wr.heap.size:=⟨_,rfl⟩
   rw[←hbx]at HA4 ⊢;clear hbx h1 h2;generalize wr.alloc (.cells #[.slice aT n cT,.slice aV n cV] 35)=w4 at*;have HAx:=jH HA4;clear HA4;go_wp2
   go_loopw [7,6,3] (SdI w bl bx #[.slice xa2 xn2 xc2,.slice xa3 xn3 xc3,.slice xa4 xn4 xc4,.slice xa5 xn5 xc5,.slice xa6 xn6 xc6,.slice xa7 xn7 xc7] #[.slice aT n cT,.slice aV n cV] P R) (fun i _ _ _=>n - (intOf i).toNat)
   case atStart=>exact⟨0,a,c,P.length,Nat.zero_le _,rfl,rfl,rfl,by simp[kC9],by simpa [kC9]using HO4.out,HL4.out,HAx.out,HB4.out⟩
   case round=>
    clear HO4 HL4 HAx HB4;obtain⟨i,a5,c5,m5,hi,rfl,rfl,rfl,hm5,ho5,hl5,hx5,hb5⟩:=hrel;rw[←Hn.out]at hi
    have HO5:=jH ho5;have HB5:=jH hb5;have HM5:=jH hm5;have HL5:=jH hl5;have HX5:=jH hx5
    have x0:=jK wr bx 0 _ _ (0,0) hx5;have x1:=jK wr bx 1 _ _ (0,0) hx5;simp at x0 x1;clear ho5 hm5 hl5 hx5
    by_cases hin:i<n
    ·have hii:(i:Int)<(n:Int):=by omega
     have hil:i<R.length:=by rw[←Hn.out];exact hin
     obtain⟨gT,oT,eT⟩:=HT.out.some (by rw[List.length_map];omega);obtain⟨gV,oV,eV⟩:=HVv.out.some (by rw[List.length_map];omega);subst eT eV;have HCt:=jH (fun(W:World) (hb:Below w.heap.size w W)=>(HT.out.below hb jR).get i (by rw[List.length_map];exact hil));have hct:=HCt.out wr hb5;have hcv:=(HVv.out.below hb5 jR).get i (by rw[List.length_map];exact hil);simp only[List.getElem_map]at hct hcv HCt;have HFs:=jH (kHy hil);have hrv:=HRv.out i hil;have HSn:=jH (show kC9 R (i+1)=kC9 R i++kFt (kC5 R i) (R[i]).1 (R[i]).2 by rw[kKr,List.getD_eq_getElem?_getD,List.getElem?_eq_getElem hil];rfl);have hsl:=HSl.out i (by omega)
     obtain⟨f,hf⟩:∃f,f=kC5 R i:=⟨_,rfl⟩
     rw[←hf]at HSn hrv ⊢
     obtain⟨tt,htt⟩:∃tt,tt=(R[i]).1:=⟨_,rfl⟩
     obtain⟨v,hv⟩:∃v,v=(R[i]).2:=⟨_,rfl⟩
     rw[←htt]at hct HFs HSn hrv HCt;rw[←hv]at hcv HSn hrv;obtain⟨v1,v2,t1,t2,f1,f2⟩:=hrv
     have hm5l:m5≤65*1114112*4:=by rw[HM5.out];exact hsl
     clear hf htt hv hb5 hsl;have hw1:IntKind.i32.wrap (tt+1)=tt+1:=IntWalk.i32_in _ (by omega)
     by_cases hv0:v=0
     ·have HSe:Hid (kC9 R (i+1)=kC9 R i):=jH (by rw[HSn.out,hv0,kPo,List.append_nil])
      have hd:(v != 0)=false:=by simp[hv0]
      clear hv0;go_wp2
      go_roundw
      case rel=>exact⟨i+1,a5,c5,m5,by rw[←Hn.out];omega,by go_num,by rw[HFs.out],rfl,by rw[HSe.out];exact HM5.out,by rw[HSe.out];exact HO5.out,HL5.out,HX5.out,HB5.out⟩
      case measure=>simp[intOf];omega
     ·have hd:(v != 0)=true:=by simp[hv0]
      have HV0:=jH hv0;have hw3:IntKind.i32.wrap (v - 1)=v - 1:=IntWalk.i32_in _ (by omega);clear hv0
      obtain⟨P2,hP2⟩:∃P2,P2=P++kC9 R i:=⟨_,rfl⟩
      rw[←hP2]at HO5 HM5;have HP2:=jH hP2;clear hP2;have HMl:=jH (show P2.length≤65*1114112*4 by rw[←HM5.out];exact hm5l);go_wp2
      clear hct hcv x0 x1
      go_loopw [9,3] (SdK w bl bx #[.slice xa2 xn2 xc2,.slice xa3 xn3 xc3,.slice xa4 xn4 xc4,.slice xa5 xn5 xc5,.slice xa6 xn6 xc6,.slice xa7 xn7 xc7] #[.slice (some ⟨gT,oT,none⟩) n cT,.slice (some ⟨gV,oV,none⟩) n cV] P2 f tt) (fun kk _ _=>64 - (intOf kk).toNat)
      case atStart=>exact⟨0,a5,c5,m5,by omega,rfl,rfl,HM5.out,by simpa [upF]using HO5.out,fun j hj=>by omega,HL5.out,HX5.out,HB5.out⟩
      case round=>
       clear HO5 HM5 HL5 HX5 HB5 hm5l;obtain⟨kk,a7,c7,m7,hkk,rfl,rfl,hm7,ho7,hle,hl7,hx7,hb7⟩:=hrel
       have HO7:=jH ho7;have HLe:=jH hle;have HB7:=jH hb7;have HM7:=jH hm7;have HL7:=jH hl7;have HX7:=jH hx7
       have hm7l:m7≤65*1114112*4+64:=by have:=HMl.out;omega
       have hct:=HCt.out wr hb7;have x0:=jK wr bx 0 _ _ (0,0) hx7;simp at x0;have hsz7:=hb7.size;clear ho7 hle hm7 hl7 hx7 hb7;have hw2:IntKind.i32.wrap (f+(kk:Int))=f+(kk:Int):=IntWalk.i32_in _ (by omega)
       by_cases hg1:kk<64
       ·have hg3:(kk:Int)<64:=by omega
        by_cases hg2:f+((kk:Nat):Int)≤tt
        ·go_wp2_with (at_builtin;refine kDl Tryz.elemR4 rfl (.tmp 51) (.tmp 55) rfl HO7.out hsz7 (by omega) (by omega) _ rfl _ rfl rfl ?_)
         intro a9 c9 w9 ho9 hg9 hn9;have HN9:=jH (show Own w.heap.size 21 w9 a9 (m7+1) c9 (ivs .i32 (P2++upF f (kk+1)))from by rw[kS6,←List.append_assoc,kBi];exact ho9);have HKp:=jH (kJv HO7.out HB7.out hg9);have HL9:=jH (HKp.out.2 _ _ HL7.out);have HX9:=jH (HKp.out.2 _ _ HX7.out);clear ho9 hg9 hn9;go_wp2
         go_roundw
         case rel=>exact⟨kk+1,a9,c9,m7+1,by omega,by go_num,rfl,by rw[HM7.out];omega,HN9.out,fun j hj=>by
          by_cases e:j=kk
          ·subst e;exact hg2
          ·exact HLe.out j (by omega),HL9.out,HX9.out,HKp.out.1⟩
         case measure=>simp[intOf];omega
        ·have HE:Hid (kk=64∨¬f+((kk:Nat):Int)≤tt):=jH (.inr hg2)
         by_cases hv1:f≤v - 1
         ·by_cases hv2:v - 1≤tt
          ·have HSx:Hid (P++kC9 R (i+1)=(P2++upF f kk)++[v - 1]):=jH (by rw[HSn.out,←List.append_assoc,←HP2.out,kOm HV0.out (by omega) HLe.out HE.out ⟨hv1,hv2⟩,←List.append_assoc])
           go_wp2_with (at_builtin;refine kDl Tryz.elemR4 rfl (.tmp 73) (.tmp 77) rfl HO7.out hsz7 (by omega) (by omega) _ rfl _ rfl rfl ?_)
           intro a9 c9 w9 ho9 hg9 hn9;have HN9:=jH (show Own w.heap.size 21 w9 a9 (m7+1) c9 (ivs .i32 ((P2++upF f kk)++[v - 1]))from by rw[kBi];exact ho9);have HKp:=jH (kJv HO7.out HB7.out hg9);have HL9:=jH (HKp.out.2 _ _ HL7.out);have HX9:=jH (HKp.out.2 _ _ HX7.out);clear ho9 hg9 hn9;clear hct x0;have hct:=HCt.out w9 HKp.out.1;have x0:=jK w9 bx 0 _ _ (0,0) HX9.out;simp at x0;go_wp2
           go_roundw
           case rel=>exact⟨i+1,a9,c9,m7+1,by rw[←Hn.out];omega,by go_num,by rw[HFs.out],rfl,by rw[HSx.out];simp[HM7.out,kIg,Nat.add_assoc],by rw[HSx.out];exact HN9.out,HL9.out,HX9.out,HKp.out.1⟩
           case measure=>simp[intOf];omega
          ·have hno:¬(f≤v - 1∧v - 1≤tt):=fun h=>hv2 h.2
           have HSx:Hid (P++kC9 R (i+1)=P2++upF f kk):=jH (by rw[HSn.out,←List.append_assoc,←HP2.out,kHi HV0.out (by omega) HLe.out HE.out hno]);clear hno;go_wp2
           go_roundw
           case rel=>exact⟨i+1,a7,c7,m7,by rw[←Hn.out];omega,by go_num,by rw[HFs.out],rfl,by rw[HSx.out];simp[HM7.out,kIg,Nat.add_assoc],by rw[HSx.out];exact HO7.out,HL7.out,HX7.out,HB7.out⟩
           case measure=>simp[intOf];omega
         ·have hno:¬(f≤v - 1∧v - 1≤tt):=fun h=>hv1 h.1
          have HSx:Hid (P++kC9 R (i+1)=P2++upF f kk):=jH (by rw[HSn.out,←List.append_assoc,←HP2.out,kHi HV0.out (by omega) HLe.out HE.out hno]);clear hno;go_wp2
          go_roundw
          case rel=>exact⟨i+1,a7,c7,m7,by rw[←Hn.out];omega,by go_num,by rw[HFs.out],rfl,by rw[HSx.out];simp[HM7.out,kIg,Nat.add_assoc],by rw[HSx.out];exact HO7.out,HL7.out,HX7.out,HB7.out⟩
          case measure=>simp[intOf];omega
       ·obtain rfl:kk=64:=by omega
        have hg3:¬(64:Int)<64:=by omega
        have HE:Hid ((64:Nat)=64∨¬f+((64:Nat):Int)≤tt):=jH (.inl rfl)
        by_cases hv1:f≤v - 1
        ·by_cases hv2:v - 1≤tt
         ·have HSx:Hid (P++kC9 R (i+1)=(P2++upF f 64)++[v - 1]):=jH (by rw[HSn.out,←List.append_assoc,←HP2.out,kOm HV0.out (by omega) HLe.out HE.out ⟨hv1,hv2⟩,←List.append_assoc])
          go_wp2_with (at_builtin;refine kDl Tryz.elemR4 rfl (.tmp 73) (.tmp 77) rfl HO7.out hsz7 (by omega) (by omega) _ rfl _ rfl rfl ?_)
          intro a9 c9 w9 ho9 hg9 hn9;have HN9:=jH (show Own w.heap.size 21 w9 a9 (m7+1) c9 (ivs .i32 ((P2++upF f 64)++[v - 1]))from by rw[kBi];exact ho9);have HKp:=jH (kJv HO7.out HB7.out hg9);have HL9:=jH (HKp.out.2 _ _ HL7.out);have HX9:=jH (HKp.out.2 _ _ HX7.out);clear ho9 hg9 hn9;clear hct x0;have hct:=HCt.out w9 HKp.out.1;have x0:=jK w9 bx 0 _ _ (0,0) HX9.out;simp at x0;go_wp2
          go_roundw
          case rel=>exact⟨i+1,a9,c9,m7+1,by rw[←Hn.out];omega,by go_num,by rw[HFs.out],rfl,by rw[HSx.out];simp[HM7.out,kIg,Nat.add_assoc],by rw[HSx.out];exact HN9.out,HL9.out,HX9.out,HKp.out.1⟩
          case measure=>simp[intOf];omega
         ·have hno:¬(f≤v - 1∧v - 1≤tt):=fun h=>hv2 h.2
          have HSx:Hid (P++kC9 R (i+1)=P2++upF f 64):=jH (by rw[HSn.out,←List.append_assoc,←HP2.out,kHi HV0.out (by omega) HLe.out HE.out hno]);clear hno;go_wp2
          go_roundw
          case rel=>exact⟨i+1,a7,c7,m7,by rw[←Hn.out];omega,by go_num,by rw[HFs.out],rfl,by rw[HSx.out];simp[HM7.out,kIg,Nat.add_assoc],by rw[HSx.out];exact HO7.out,HL7.out,HX7.out,HB7.out⟩
          case measure=>simp[intOf];omega
        ·have hno:¬(f≤v - 1∧v - 1≤tt):=fun h=>hv1 h.1
         have HSx:Hid (P++kC9 R (i+1)=P2++upF f 64):=jH (by rw[HSn.out,←List.append_assoc,←HP2.out,kHi HV0.out (by omega) HLe.out HE.out hno]);clear hno;go_wp2
         go_roundw
         case rel=>exact⟨i+1,a7,c7,m7,by rw[←Hn.out];omega,by go_num,by rw[HFs.out],rfl,by rw[HSx.out];simp[HM7.out,kIg,Nat.add_assoc],by rw[HSx.out];exact HO7.out,HL7.out,HX7.out,HB7.out⟩
         case measure=>simp[intOf];omega
    ·have hii:¬(i:Int)<(n:Int):=by omega
     have hin2:i=R.length:=by rw[←Hn.out];omega
     have HON:Hid (Own w.heap.size 21 wr a5 (kGq N F (k+1)).length c5 (ivs .i32 (kGq N F (k+1)))):=jH (by
      have h1:=HO5.out;rw[HM5.out,hin2,←HSt.out]at h1
      exact h1)
     have HM6:Hid (m5=(kGq N F (k+1)).length):=jH (by rw[HM5.out,hin2,HSt.out]);go_wp2
     go_roundw
     case rel=>exact⟨k+1,a5,c5,by omega,by go_num,by rw[HM6.out],HON.out,HL5.out,HB5.out⟩
     case measure=>simp[intOf];omega
  ·obtain rfl:k=3:=by omega
   have hki:¬(3:Int)<3:=by omega
   have HO3:Hid (Own w.heap.size 21 wr a (kIb N (F 1) (F 2) (F 3)).length c (ivs .i32 (kIb N (F 1) (F 2) (F 3)))):=jH (by rw[←kGr];exact HO.out);rw[kGr];clear ho hl hbel;go_wp2
   go_ret
   refine⟨HBe.out,a,⟨c,?_⟩,?_⟩
   ·rw[←HNN.out];rfl
   ·rw[←HNN.out];exact HO3.out.ints
end Go.Proofs.YtbmphakfgoompaaGreat

namespace Go.Proofs.YtbmphakfgoompaaGreat
open Go.RowKit
attribute [local go_sem] Oper.semAt_some
def leE (m:Nat):Int:=if m<1114112 then(m:Nat)else -1
def kC1 (p:Nat→Bool) (L:List Int) (v:Int):Prop:=(v= -1∧∀x∈L,p x.toNat=false)∨∃k:Nat,v=(k:Nat)∧(k:Int)∈L∧p k=true∧∀x∈L,p x.toNat=true→(k:Int)≤x
theorem kC1.nil (p:Nat→Bool):kC1 p [] (-1):= .inl ⟨rfl,fun x h=>by cases h⟩
theorem kC1.no {p:Nat→Bool}{L:List Int}{v:Int}(h:kC1 p L v){x:Int}(hx:p x.toNat=false):kC1 p (L++[x]) v:=by
 rcases h with⟨h1,h2⟩ | ⟨k,h1,h2,h3,h4⟩
 ·refine .inl ⟨h1,fun y hy=> ?_⟩
  rcases List.mem_append.1 hy with hy | hy
  ·exact h2 y hy
  ·rw[List.mem_singleton.1 hy];exact hx
 ·refine .inr ⟨k,h1,List.mem_append.2 (.inl h2),h3,fun y hy hp=> ?_⟩
  rcases List.mem_append.1 hy with hy | hy
  ·exact h4 y hy hp
  ·rw[List.mem_singleton.1 hy,hx]at hp;cases hp
theorem kC1.far {p:Nat→Bool}{L:List Int}{v:Int}(h:kC1 p L v){x:Int}(hv:¬v<0)(hx:¬x<v):kC1 p (L++[x]) v:=by
 rcases h with⟨h1,h2⟩ | ⟨k,h1,h2,h3,h4⟩
 ·omega
 ·refine .inr ⟨k,h1,List.mem_append.2 (.inl h2),h3,fun y hy hp=> ?_⟩
  rcases List.mem_append.1 hy with hy | hy
  ·exact h4 y hy hp
  ·rw[List.mem_singleton.1 hy];omega
theorem kC1.yes {p:Nat→Bool}{L:List Int}{v:Int}(h:kC1 p L v){k:Nat}(hp:p k=true)(hv:v<0∨(k:Int)<v):kC1 p (L++[(k:Int)]) (k:Nat):=by
 refine .inr ⟨k,rfl,List.mem_append.2 (.inr (by simp)),hp,fun y hy hq=> ?_⟩
 rcases List.mem_append.1 hy with hy | hy
 ·rcases h with⟨h1,h2⟩ | ⟨j,h1,h2,h3,h4⟩
  ·rw[h2 y hy]at hq;cases hq
  ·have:=h4 y hy hq;omega
 ·rw[List.mem_singleton.1 hy];exact Int.le_refl _
theorem kC1.value {p:Nat→Bool}{L:List Int}{v:Int}(h:kC1 p L v){k:Nat}(hk:kBd p 1114112 k)(hin:k<1114112→(k:Int)∈L)(hL:∀x∈L,0≤x∧x<((1114112:Nat):Int)):v=leE k:=by
 unfold leE
 by_cases hkN:k<1114112
 ·rw[if_pos hkN];have hm:=hin hkN;have hp:=hk.yes hkN
  rcases h with⟨h1,h2⟩ | ⟨j,h1,h2,h3,h4⟩
  ·have:=h2 _ hm;rw[Int.toNat_natCast,hp]at this;cases this
  ·have h5:=h4 _ hm (by rw[Int.toNat_natCast];exact hp)
   have h6:¬j<k:=fun h6=>by rw[hk.no j h6]at h3;cases h3
   omega
 ·rw[if_neg hkN]
  rcases h with⟨h1, -⟩ | ⟨j,h1,h2,h3,h4⟩
  ·exact h1
  ·have h5:=hL _ h2;have:=hk.no j (by have:=hk.le;omega);rw[this]at h3;cases h3
def AmL2 (w2:World) (p:Nat→Bool) (L:List Int) (iv lv:Value) (wr:World):Prop:=
 ∃(i:Nat) (v:Int),i≤L.length∧iv= .int .i64 (i:Nat)∧lv= .int .i32 v∧kC1 p (L.take i) v∧Below w2.heap.size w2 wr
theorem kNf (w:World)(f:Value)(F:Nat→Nat→Int)(hf:kBf w f F)(hfit:kL0 F)(k:Nat)(hk:kBd (kBu (F 0) (F 1) (F 2) (F 3)) 1114112 k)(hnz:(nzR 1114112 (F 1)).length<64):
  Calls Tryz.prog 41 #[f] w fun e w'=>e= .returned (.int .i32 (leE k))∧Below w.heap.size w w':=by
 have HK:=jH hk;have HNz:=jH hnz;have HSd:=jH (fun(W:World) (hb:Below w.heap.size w W)=>kO0 W f F (hf.below hb) hfit);have HWr:=jH (fun(W:World) (hb:Below w.heap.size w W) (r:Nat) (hr:r≤1114111)=>kNg W f F (hf.below hb) hfit r hr);clear hk hnz;obtain⟨x0,x1,x2,x3,x4,x5,x6,x7,rfl,g0,g1,g2,g3⟩:=hf;obtain⟨⟨xa0,xn0,xc0,rfl⟩,⟨xa1,xn1,xc1,rfl⟩⟩:=g0.slices;obtain⟨⟨xa2,xn2,xc2,rfl⟩,⟨xa3,xn3,xc3,rfl⟩⟩:=g1.slices;obtain⟨⟨xa4,xn4,xc4,rfl⟩,⟨xa5,xn5,xc5,rfl⟩⟩:=g2.slices;obtain⟨⟨xa6,xn6,xc6,rfl⟩,⟨xa7,xn7,xc7,rfl⟩⟩:=g3.slices;have HF:=jH (show kBf w (.agg #[.slice xa0 xn0 xc0,.slice xa1 xn1 xc1,.slice xa2 xn2 xc2,.slice xa3 xn3 xc3,.slice xa4 xn4 xc4,.slice xa5 xn5 xc5,.slice xa6 xn6 xc6,.slice xa7 xn7 xc7]) F from⟨_,_,_,_,_,_,_,_,rfl,g0,g1,g2,g3⟩);have HG:=jH (And.intro g0 (And.intro g1 (And.intro g2 g3)));clear g0 g1 g2 g3;have HA:=jH (jN w (.cells #[.slice xa0 xn0 xc0,.slice xa1 xn1 xc1,.slice xa2 xn2 xc2,.slice xa3 xn3 xc3,.slice xa4 xn4 xc4,.slice xa5 xn5 xc5,.slice xa6 xn6 xc6,.slice xa7 xn7 xc7] 37));have HB:=jH ((Below.refl _ w).alloc jR (.cells #[.slice xa0 xn0 xc0,.slice xa1 xn1 xc1,.slice xa2 xn2 xc2,.slice xa3 xn3 xc3,.slice xa4 xn4 xc4,.slice xa5 xn5 xc5,.slice xa6 xn6 xc6,.slice xa7 xn7 xc7] 37))
 go_enter Tryz.func41,Tryz.ntmps41
 go_upto_region 1 with(fail)
 obtain⟨b0,hb0⟩:∃b0,b0=w.heap.size:=⟨_,rfl⟩
 rw[←hb0]at HA ⊢;clear hb0;generalize w.alloc (.cells #[.slice xa0 xn0 xc0,.slice xa1 xn1 xc1,.slice xa2 xn2 xc2,.slice xa3 xn3 xc3,.slice xa4 xn4 xc4,.slice xa5 xn5 xc5,.slice xa6 xn6 xc6,.slice xa7 xn7 xc7] 37)=w1 at*;have q0:=jK w1 b0 0 _ _ (0,0) HA.out;have q1:=jK w1 b0 1 _ _ (0,0) HA.out;have q2:=jK w1 b0 2 _ _ (0,0) HA.out;have q3:=jK w1 b0 3 _ _ (0,0) HA.out;have q4:=jK w1 b0 4 _ _ (0,0) HA.out;have q5:=jK w1 b0 5 _ _ (0,0) HA.out;have q6:=jK w1 b0 6 _ _ (0,0) HA.out;have q7:=jK w1 b0 7 _ _ (0,0) HA.out;simp at q0 q1 q2 q3 q4 q5 q6 q7;clear HF HG hfit
 go_wp2_with fail
 refine(HSd.out w1 HB.out).mono ?_;rintro e w2 ⟨hb,aL,cL,rfl,hL⟩;have HB2:=jH (HB.out.trans (hb.mono HB.out.size));have HA2:=jH ((hb.block b0 (jL HA.out)).trans HA.out);have HI:=jH hL;have HIn:=jH (fun x (hx:x∈kIb 1114112 (F 1) (F 2) (F 3))=>kSy hx);have HHas:=jH (fun(h:k<1114112)=>kSz HK.out h HNz.out);clear hb hL HSd HB HA q0 q1 q2 q3 q4 q5 q6 q7
 have hln:(kIb 1114112 (F 1) (F 2) (F 3)).length≤300000000:=by
  have h9:=kJu 1114112 F 3;rw[kGr]at h9;exact Nat.le_trans h9 (by decide)
 obtain⟨p,hp⟩:∃p,p=kBu (F 0) (F 1) (F 2) (F 3):=⟨_,rfl⟩
 rw[←hp]at HK HWr;generalize kIb 1114112 (F 1) (F 2) (F 3)=L at*;clear hp
 obtain⟨n,hn⟩:∃n,n=L.length:=⟨_,rfl⟩
 have Hn:=jH hn;rw[←hn]at hln ⊢;clear hn;have HB0:=jH (Below.refl w2.heap.size w2);go_wp2
 go_loopw [5,4] (AmL2 w2 p L) (fun i _ _=>n - (intOf i).toNat)
 case atStart=>exact⟨0, -1,Nat.zero_le _,rfl,rfl,.nil p,HB0.out⟩
 case round=>
  clear HB0;obtain⟨i,v,hi,rfl,rfl,hle,hbel⟩:=hrel
  have HLe:=jH hle;have HBe:=jH hbel
  rw[←Hn.out]at hi
  by_cases hin:i<n
  ·have hii:(i:Int)<(n:Int):=by omega
   have hil:i<L.length:=by rw[←Hn.out];exact hin
   obtain⟨gL,oL,eL⟩:=HI.out.some (by omega);subst eL;have HCx:=jH (fun(W:World) (hb:Below w2.heap.size w2 W)=>(HI.out.below hb jR).get i hil);have hcx:=HCx.out wr hbel;have hxr:=HIn.out _ (List.getElem_mem hil);have HTk:=jH (List.take_succ_eq_append_getElem hil);generalize L[i]=x at*
   obtain⟨r,rfl⟩:∃r:Nat,x=(r:Nat):=⟨x.toNat,by omega⟩
   have hr:r≤1114111:=by omega
   have hx:=(hbel.block b0 (jL HA2.out)).trans HA2.out;have q0:=jK wr b0 0 _ _ (0,0) hx;have q1:=jK wr b0 1 _ _ (0,0) hx;have q2:=jK wr b0 2 _ _ (0,0) hx;have q3:=jK wr b0 3 _ _ (0,0) hx;have q4:=jK wr b0 4 _ _ (0,0) hx;have q5:=jK wr b0 5 _ _ (0,0) hx;have q6:=jK wr b0 6 _ _ (0,0) hx;have q7:=jK wr b0 7 _ _ (0,0) hx;simp at q0 q1 q2 q3 q4 q5 q6 q7
   have z0:=fun d os=>cell_regrown q0 d os
   have z1:=fun d os=>cell_regrown q1 d os
   have z2:=fun d os=>cell_regrown q2 d os
   have z3:=fun d os=>cell_regrown q3 d os
   have z4:=fun d os=>cell_regrown q4 d os
   have z5:=fun d os=>cell_regrown q5 d os
   have z6:=fun d os=>cell_regrown q6 d os
   have z7:=fun d os=>cell_regrown q7 d os
   have zx:=fun d os=>cell_regrown hcx d os
   have HP:=jH (fun q:Regrown=>Go.Calls.regrown_of (HWr.out (Go.Sort.grow (redrawn wr q.d) q.os) (HB2.out.trans ((hbel.trans ((below_regrown wr q.d q.os).mono hbel.size)).mono HB2.out.size)) r hr));have HYes:=jH (fun(hp:p r=true) (hv:v<0∨((r:Nat):Int)<v)=>hle.yes hp hv);have HNo:=jH (fun(hp:p r=false)=>hle.no (x:=((r:Nat):Int)) (by rw[Int.toNat_natCast];exact hp));have HFar:=jH (fun(hv:¬v<0) (hx:¬((r:Nat):Int)<v)=>hle.far (x:=((r:Nat):Int)) hv hx);clear hle hbel hx q0 q1 q2 q3 q4 q5 q6 q7 hcx
   by_cases hv:v<0
   ·have hvd:decide (v<0)=true:=decide_eq_true hv;generalize p r=pb at*;have HYs:=jH (fun(h:pb=true)=>HYes.out h (.inl hv));clear hv
    go_upto_region 6 with(fail)
    refine wp_region_quiet_below (by kernel_rfl) (by kernel_rfl) ?_
    iterate 16 (go_big_quiet_step (fail))
    go_big_quiet_step (exact HP.out _)
    iterate 1 (go_big_quiet_step (fail))
    refine wpQuiet_nil ?_;intro _ hw';obtain⟨⟨dq,osq⟩,hw''⟩:=hw';subst hw'';have HB9:=jH (HBe.out.trans ((below_regrown wr dq osq).mono HBe.out.size));generalize Go.Sort.grow (redrawn wr dq) osq=w9 at*;clear z0 z1 z2 z3 z4 z5 z6 z7 zx HP;have hcx:=HCx.out w9 HB9.out
    cases pb
    ·have HR:=jH (HNo.out rfl);go_wp2
     go_roundw
     case rel=>exact⟨i+1,v,by rw[←Hn.out];omega,by go_num,rfl,by rw[HTk.out];exact HR.out,HB9.out⟩
     case measure=>simp[intOf];omega
    ·have HR:=jH (HYs.out rfl);go_wp2
     go_roundw
     case rel=>exact⟨i+1,((r:Nat):Int),by rw[←Hn.out];omega,by go_num,rfl,by rw[HTk.out];exact HR.out,HB9.out⟩
     case measure=>simp[intOf];omega
   ·have hvd:decide (v<0)=false:=decide_eq_false hv
    by_cases hrv:((r:Nat):Int)<v
    ·have hrd:decide (((r:Nat):Int)<v)=true:=decide_eq_true hrv;generalize p r=pb at*;have HYs:=jH (fun(h:pb=true)=>HYes.out h (.inr hrv));clear hv hrv
     go_upto_region 6 with(fail)
     refine wp_region_quiet_below (by kernel_rfl) (by kernel_rfl) ?_
     iterate 16 (go_big_quiet_step (fail))
     go_big_quiet_step (exact HP.out _)
     iterate 1 (go_big_quiet_step (fail))
     refine wpQuiet_nil ?_;intro _ hw';obtain⟨⟨dq,osq⟩,hw''⟩:=hw';subst hw'';have HB9:=jH (HBe.out.trans ((below_regrown wr dq osq).mono HBe.out.size));generalize Go.Sort.grow (redrawn wr dq) osq=w9 at*;clear z0 z1 z2 z3 z4 z5 z6 z7 zx HP;have hcx:=HCx.out w9 HB9.out
     cases pb
     ·have HR:=jH (HNo.out rfl);go_wp2
      go_roundw
      case rel=>exact⟨i+1,v,by rw[←Hn.out];omega,by go_num,rfl,by rw[HTk.out];exact HR.out,HB9.out⟩
      case measure=>simp[intOf];omega
     ·have HR:=jH (HYs.out rfl);go_wp2
      go_roundw
      case rel=>exact⟨i+1,((r:Nat):Int),by rw[←Hn.out];omega,by go_num,rfl,by rw[HTk.out];exact HR.out,HB9.out⟩
      case measure=>simp[intOf];omega
    ·have hrd:decide (((r:Nat):Int)<v)=false:=decide_eq_false hrv;have HR:=jH (HFar.out hv hrv);clear hv hrv
     go_upto_region 6 with(fail)
     refine wp_region_quiet_below (by kernel_rfl) (by kernel_rfl) ?_
     iterate 18 (go_big_quiet_step (fail))
     refine wpQuiet_nil ?_;intro _ hw';obtain⟨⟨dq,osq⟩,hw''⟩:=hw';subst hw'';have HB9:=jH (HBe.out.trans ((below_regrown wr dq osq).mono HBe.out.size));generalize Go.Sort.grow (redrawn wr dq) osq=w9 at*;clear z0 z1 z2 z3 z4 z5 z6 z7 zx HP;go_wp2
     go_roundw
     case rel=>exact⟨i+1,v,by rw[←Hn.out];omega,by go_num,rfl,by rw[HTk.out];exact HR.out,HB9.out⟩
     case measure=>simp[intOf];omega
  ·have hii:¬(i:Int)<(n:Int):=by omega
   have hin2:i=L.length:=by rw[←Hn.out];omega
   have HV:Hid (v=leE k):=jH (by rw[hin2,List.take_length]at hle;exact hle.value HK.out HHas.out HIn.out);have HB9:=jH (HB2.out.trans (HBe.out.mono HB2.out.size));clear hle hbel HK HHas HIn HNz;go_wp2
   go_ret
   exact⟨by rw[←HV.out];rfl,HB9.out⟩
end Go.Proofs.YtbmphakfgoompaaGreat

namespace Go.Proofs.YtbmphakfgoompaaGreat
open Go.RowKit
attribute [local go_sem] Oper.semAt_some
def kNm (k:Nat):Int:=if k=0 then 1 else if k=1 then -1114112 else 0
def kH1 (k:Nat):Int:=if k=0 then 23 else 1114112
def kGx (k:Nat) (v:Int):Bool:=decide (v<kNm k∨kH1 k<v)
def kKf (F:Nat→Nat→Int):Nat→Nat→Bool
 | 0,_=>false
 | k+1,r=>kKf F k r||kGx k (F k r)
theorem kR6 {q p:Nat→Bool}{N m f t:Nat}{b:Bool}(h:kBd (fun r=>q r||(decide ((r:Int)<(f:Nat))&&p r)) N m)(hp:∀r,f≤r→r≤t→p r=b)(hft:f≤t)(htN:t<N):kBd (fun r=>q r||(decide ((r:Int)<((t+1:Nat):Int))&&p r)) N (if b=true then min m f else m):=by
 have hno:=h.no;have hyes:=h.yes;have hle:=h.le;simp only[Bool.or_eq_false_iff,Bool.or_eq_true,Bool.and_eq_true,Bool.and_eq_false_iff,decide_eq_true_eq,decide_eq_false_iff_not]at hno hyes
 cases b
 ·rw[if_neg (by simp)]
  refine⟨hle,fun r hr=> ?_,fun hm=> ?_⟩
  ·have h1:=hno r hr;simp only[Bool.or_eq_false_iff,Bool.and_eq_false_iff,decide_eq_false_iff_not];refine⟨h1.1,?_⟩
   by_cases e:r<f
   ·exact .inr (h1.2.resolve_left (by omega))
   ·by_cases e2:r≤t
    ·exact .inr (hp r (by omega) e2)
    ·exact .inl (by omega)
  ·simp only[Bool.or_eq_true,Bool.and_eq_true,decide_eq_true_eq]
   rcases hyes hm with h1 | h1
   ·exact .inl h1
   ·exact .inr ⟨by omega,h1.2⟩
 ·rw[if_pos rfl]
  refine⟨by omega,fun r hr=> ?_,fun hm=> ?_⟩
  ·have h1:=hno r (by omega);simp only[Bool.or_eq_false_iff,Bool.and_eq_false_iff,decide_eq_false_iff_not];exact⟨h1.1,.inr (h1.2.resolve_left (by omega))⟩
  ·simp only[Bool.or_eq_true,Bool.and_eq_true,decide_eq_true_eq]
   by_cases e:m<f
   ·rw[Nat.min_eq_left (by omega)]at hm ⊢
    rcases hyes hm with h1 | h1
    ·exact .inl h1
    ·exact .inr ⟨by omega,h1.2⟩
   ·rw[Nat.min_eq_right (by omega)];exact .inr ⟨by omega,hp f jR hft⟩
theorem kLb {m:Nat}(h:m<1114112):leE m=(m:Nat):=if_pos h
theorem kLa {m:Nat}(h:¬m<1114112):leE m= -1:=if_neg h
def BdR (w:World) (bl:Nat) (mc:Array Value) (N:Nat) (F:Nat→Nat→Int) (kv lv:Value) (wr:World):Prop:=
 ∃k m:Nat,k≤4∧kv= .int .i64 (k:Nat)∧lv= .int .i32 (leE m)∧kBd (kKf F k) N m∧wr.heap[bl]? =some (.cells mc 35 (0,0))∧Below w.heap.size w wr
def BdI (w4:World) (N:Nat) (F:Nat→Nat→Int) (k:Nat) (R:List (Int×Int)) (iv fv lv:Value) (wr:World):Prop:=
 ∃i m:Nat,i≤R.length∧iv= .int .i64 (i:Nat)∧fv= .int .i32 (kC5 R i)∧lv= .int .i32 (leE m)∧kBd (fun r=>kKf F k r||(decide ((r:Int)<kC5 R i)&&kGx k (F k r))) N m∧Below w4.heap.size w4 wr
theorem kQb (w:World)(f:Value)(F:Nat→Nat→Int)(hf:kBf w f F)(k0:Nat)(hk0:kBd (kKf F 4) 1114112 k0):
  Calls Tryz.prog 40 #[f] w fun e w'=>e= .returned (.int .i32 (leE k0))∧Below w.heap.size w w':=by
 have HK:=jH hk0;clear hk0;obtain⟨x0,x1,x2,x3,x4,x5,x6,x7,rfl,g0,g1,g2,g3⟩:=hf;obtain⟨⟨xa0,xn0,xc0,rfl⟩,⟨xa1,xn1,xc1,rfl⟩⟩:=g0.slices;obtain⟨⟨xa2,xn2,xc2,rfl⟩,⟨xa3,xn3,xc3,rfl⟩⟩:=g1.slices;obtain⟨⟨xa4,xn4,xc4,rfl⟩,⟨xa5,xn5,xc5,rfl⟩⟩:=g2.slices;obtain⟨⟨xa6,xn6,xc6,rfl⟩,⟨xa7,xn7,xc7,rfl⟩⟩:=g3.slices;have HF:=jH (show kBf w (.agg #[.slice xa0 xn0 xc0,.slice xa1 xn1 xc1,.slice xa2 xn2 xc2,.slice xa3 xn3 xc3,.slice xa4 xn4 xc4,.slice xa5 xn5 xc5,.slice xa6 xn6 xc6,.slice xa7 xn7 xc7]) F from⟨_,_,_,_,_,_,_,_,rfl,g0,g1,g2,g3⟩);have HG:=jH (And.intro g0 (And.intro g1 (And.intro g2 g3)));clear g0 g1 g2 g3;have HA:=jH (jN w (.cells #[.slice xa0 xn0 xc0,.slice xa1 xn1 xc1,.slice xa2 xn2 xc2,.slice xa3 xn3 xc3,.slice xa4 xn4 xc4,.slice xa5 xn5 xc5,.slice xa6 xn6 xc6,.slice xa7 xn7 xc7] 37));have HB:=jH ((Below.refl _ w).alloc jR (.cells #[.slice xa0 xn0 xc0,.slice xa1 xn1 xc1,.slice xa2 xn2 xc2,.slice xa3 xn3 xc3,.slice xa4 xn4 xc4,.slice xa5 xn5 xc5,.slice xa6 xn6 xc6,.slice xa7 xn7 xc7] 37))
 go_enter Tryz.func40,Tryz.ntmps40
 go_upto_region 1 with(fail)
 obtain⟨b0,hb0⟩:∃b0,b0=w.heap.size:=⟨_,rfl⟩
 rw[←hb0]at HA ⊢;clear hb0;generalize w.alloc (.cells #[.slice xa0 xn0 xc0,.slice xa1 xn1 xc1,.slice xa2 xn2 xc2,.slice xa3 xn3 xc3,.slice xa4 xn4 xc4,.slice xa5 xn5 xc5,.slice xa6 xn6 xc6,.slice xa7 xn7 xc7] 37)=w1 at*;have q0:=jK w1 b0 0 _ _ (0,0) HA.out;have q1:=jK w1 b0 1 _ _ (0,0) HA.out;have q2:=jK w1 b0 2 _ _ (0,0) HA.out;have q3:=jK w1 b0 3 _ _ (0,0) HA.out;have q4:=jK w1 b0 4 _ _ (0,0) HA.out;have q5:=jK w1 b0 5 _ _ (0,0) HA.out;have q6:=jK w1 b0 6 _ _ (0,0) HA.out;have q7:=jK w1 b0 7 _ _ (0,0) HA.out;simp at q0 q1 q2 q3 q4 q5 q6 q7
 obtain⟨bl,hbl⟩:∃bl,bl=w1.heap.size:=⟨_,rfl⟩
 have HL:=jH (jN w1 (.cells #[.slice xa0 xn0 xc0,.slice xa1 xn1 xc1,.slice xa2 xn2 xc2,.slice xa3 xn3 xc3,.slice xa4 xn4 xc4,.slice xa5 xn5 xc5,.slice xa6 xn6 xc6,.slice xa7 xn7 xc7] 35));have HBL:=jH (HB.out.alloc HB.out.size (.cells #[.slice xa0 xn0 xc0,.slice xa1 xn1 xc1,.slice xa2 xn2 xc2,.slice xa3 xn3 xc3,.slice xa4 xn4 xc4,.slice xa5 xn5 xc5,.slice xa6 xn6 xc6,.slice xa7 xn7 xc7] 35))
 go_upto_region 3 with(fail)
 rw[←hbl]at HL ⊢;clear hbl HA HB q0 q1 q2 q3 q4 q5 q6 q7;generalize w1.alloc (.cells #[.slice xa0 xn0 xc0,.slice xa1 xn1 xc1,.slice xa2 xn2 xc2,.slice xa3 xn3 xc3,.slice xa4 xn4 xc4,.slice xa5 xn5 xc5,.slice xa6 xn6 xc6,.slice xa7 xn7 xc7] 35)=w2 at*
 obtain⟨N,hN⟩:∃N,N=1114112:=⟨_,rfl⟩
 have HNN:=jH hN;have HG0:Hid (kC0 w (.agg #[.slice xa0 xn0 xc0,.slice xa1 xn1 xc1]) (kAk (F 0) N)∧kC0 w (.agg #[.slice xa2 xn2 xc2,.slice xa3 xn3 xc3]) (kAk (F 1) N)∧kC0 w (.agg #[.slice xa4 xn4 xc4,.slice xa5 xn5 xc5]) (kAk (F 2) N)∧kC0 w (.agg #[.slice xa6 xn6 xc6,.slice xa7 xn7 xc7]) (kAk (F 3) N)):=jH (by rw[hN];exact HG.out);have HLs:Hid (∀m,m<N→leE m=(m:Nat)):=jH (fun m h=>kLb (by omega));have HLn:Hid (∀m,¬m<N→leE m= -1):=jH (fun m h=>kLa (by omega));rw[←hN]at HK;clear hN HG HF
 go_loopw [21,3] (BdR w bl #[.slice xa0 xn0 xc0,.slice xa1 xn1 xc1,.slice xa2 xn2 xc2,.slice xa3 xn3 xc3,.slice xa4 xn4 xc4,.slice xa5 xn5 xc5,.slice xa6 xn6 xc6,.slice xa7 xn7 xc7] N F) (fun k _ _=>4 - (intOf k).toNat)
 case atStart=>exact⟨0,N,by omega,rfl,by rw[HLn.out N (Nat.lt_irrefl _)],.none (fun _ _=>rfl),HL.out,HBL.out⟩
 case round=>
  clear HL HBL;obtain⟨k,m,hk,rfl,rfl,hm,hl,hbel⟩:=hrel
  have HM:=jH hm;have HL:=jH hl;have HBe:=jH hbel
  by_cases hk4:k<4
  ·have hki:(k:Int)<4:=by omega
   obtain⟨aT,nT,cT,aV,nV,cV,h1,h2,h3⟩:∃aT nT cT aV nV cV,wr.cell? ⟨bl,k*2,none⟩=some (.slice aT nT cT)∧wr.cell? ⟨bl,k*2+1,none⟩=some (.slice aV nV cV)∧kC0 w (.agg #[.slice aT nT cT,.slice aV nV cV]) (kAk (F k) N):=by
    have hc:k=0∨k=1∨k=2∨k=3:=by omega
    rcases hc with rfl | rfl | rfl | rfl
    ·exact⟨_,_,_,_,_,_,jK wr bl 0 _ _ (0,0) hl,jK wr bl 1 _ _ (0,0) hl,HG0.out.1⟩
    ·exact⟨_,_,_,_,_,_,jK wr bl 2 _ _ (0,0) hl,jK wr bl 3 _ _ (0,0) hl,HG0.out.2.1⟩
    ·exact⟨_,_,_,_,_,_,jK wr bl 4 _ _ (0,0) hl,jK wr bl 5 _ _ (0,0) hl,HG0.out.2.2.1⟩
    ·exact⟨_,_,_,_,_,_,jK wr bl 6 _ _ (0,0) hl,jK wr bl 7 _ _ (0,0) hl,HG0.out.2.2.2⟩
   obtain⟨aT2,cT2,aV2,cV2,e1,hT,hVs, -, -⟩:=h3
   obtain⟨rfl,rfl,rfl,rfl,rfl,rfl⟩:aT=aT2∧nT=(kAk (F k) N).length∧cT=cT2∧aV=aV2∧nV=(kAk (F k) N).length∧cV=cV2:=by
    have:=e1;simp at this;exact⟨this.1.1,this.1.2.1,this.1.2.2,this.2.1,this.2.2.1,this.2.2.2⟩
   have HT:=jH hT;have HVv:=jH hVs;have hRl:=kCd (F k) N
   have HRr:Hid (∀i,∀hi:i<(kAk (F k) N).length,∃r t:Nat,kC5 (kAk (F k) N) i=(r:Nat)∧((kAk (F k) N)[i]).1=(t:Nat)∧r≤t∧t<N∧(∀q,r≤q→q≤t→F k q=((kAk (F k) N)[i]).2)):=jH (fun i hi=>by
    obtain⟨r,e,hr,h4⟩:=kDt (F k) N i (by omega);have h5:=h4.ge i hi jR;have h6:=kE7 (F k) N _ (List.getElem_mem hi)
    obtain⟨t,ht⟩:∃t:Nat,((kAk (F k) N)[i]).1=(t:Nat):=⟨((kAk (F k) N)[i]).1.toNat,by omega⟩
    exact⟨r,t,e,ht,by omega,by omega,fun q h1 h2=>(h4.val hi h1 (by omega)).symm⟩)
   have HEnd:Hid (kC5 (kAk (F k) N) (kAk (F k) N).length=(N:Nat)):=jH (by
    obtain⟨r,e,hr,h4⟩:=kDt (F k) N _ jR;have:=h4.done (by omega)
    rw[e];omega)
   have HBs:=jH (show ∀r,kKf F (k+1) r=(kKf F k r||kGx k (F k r))from fun r=>rfl);clear hT hVs e1 hm hl;generalize kAk (F k) N=R at*
   obtain⟨n,hn⟩:∃n,n=R.length:=⟨_,rfl⟩
   have Hn:=jH hn;rw[←hn]at h1 h2 hRl;have HA4:=jN wr (.cells #[.slice aT n cT,.slice aV n cV] 35);have HB4:=jH (hbel.alloc hbel.size (.cells #[.slice aT n cT,.slice aV n cV] 35));have hba:=(Below.refl _ wr).alloc jR (.cells #[.slice aT n cT,.slice aV n cV] 35);have HL4:=jH ((hba.block bl (jL HL.out)).trans HL.out);have hNv:=HNN.out;clear hba hbel hn HL HBe
   go_upto_region 5 with(fail)
   obtain⟨bx,hbx⟩:∃bx,bx=wr.heap.size:=⟨_,rfl⟩
   rw[←hbx]at HA4 ⊢;clear hbx h1 h2;generalize wr.alloc (.cells #[.slice aT n cT,.slice aV n cV] 35)=w4 at*;have HAx:=jH HA4;clear HA4;have HB40:=jH (Below.refl w4.heap.size w4);go_wp2
   go_loopw [7,6,3] (BdI w4 N F k R) (fun i _ _ _=>n - (intOf i).toNat)
   case atStart=>exact⟨0,m,Nat.zero_le _,rfl,rfl,rfl,HM.out.congr (fun r hr=>by
    show kKf F k r=(kKf F k r||(decide ((r:Int)<kC5 R 0)&&kGx k (F k r)));rw[show kC5 R 0=0 from rfl,decide_eq_false (by omega)]
    simp),HB40.out⟩
   case round=>
    clear HB40;obtain⟨i,m5,hi,rfl,rfl,rfl,hm5,hb5⟩:=hrel;rw[←Hn.out]at hi
    have HM5:=jH hm5;have HB5:=jH hb5
    have hx:=(hb5.block bx (jL HAx.out)).trans HAx.out;have x0:=jK wr bx 0 _ _ (0,0) hx;have x1:=jK wr bx 1 _ _ (0,0) hx;simp at x0 x1;clear hm5 hx
    by_cases hin:i<n
    ·have hii:(i:Int)<(n:Int):=by omega
     have hil:i<R.length:=by rw[←Hn.out];exact hin
     obtain⟨gT,oT,eT⟩:=HT.out.some (by rw[List.length_map];omega);obtain⟨gV,oV,eV⟩:=HVv.out.some (by rw[List.length_map];omega);subst eT eV;have hbw:=HB4.out.trans (hb5.mono HB4.out.size);have hct:=(HT.out.below hbw jR).get i (by rw[List.length_map];exact hil);have hcv:=(HVv.out.below hbw jR).get i (by rw[List.length_map];exact hil);simp only[List.getElem_map]at hct hcv;have HFs:=jH (kHy hil);obtain⟨f,t,hf,ht,hft,htN,hval⟩:=HRr.out i hil;rw[ht]at hct HFs;have HSt:=jH (fun(b:Bool) (hb:∀r,f≤r→r≤t→kGx k (F k r)=b)=>kR6 (q:=kKf F k) (p:=fun r=>kGx k (F k r)) (b:=b) (by rw[←hf];exact HM5.out) hb hft htN);have HVl:=jH hval;have HF':Hid (kC5 R (i+1)=((t+1:Nat):Int)):=jH (by rw[HFs.out];omega);rw[hf]
     obtain⟨v,hv⟩:∃v,v=(R[i]).2:=⟨_,rfl⟩
     rw[←hv]at hcv HVl
     have HSb:Hid (kBd (fun r=>kKf F k r||(decide ((r:Int)<kC5 R (i+1))&&kGx k (F k r))) N (if kGx k v=true then min m5 f else m5)):=jH (by
      rw[HF'.out]
      exact HSt.out _ (fun r h1 h2=>by rw[HVl.out r h1 h2]))
     clear hf ht hval hv hb5 hbw HSt;have hw1:IntKind.i32.wrap ((t:Nat)+1)=(t:Int)+1:=IntWalk.i32_in _ (by omega)
     have hfN:f<N:=by omega
     have HM6:Hid (leE (if kGx k v=true then min m5 f else m5)=if(v<kNm k∨kH1 k<v)∧(leE m5<0∨(f:Int)<leE m5)then(f:Int)else leE m5):=jH (by
      unfold kGx
      by_cases hb:v<kNm k∨kH1 k<v
      ·rw[if_pos (decide_eq_true hb)]
       by_cases h5:m5<N
       ·have h6:=HLs.out m5 h5
        by_cases h7:f<m5
        ·rw[if_pos ⟨hb,.inr (by rw[h6];omega)⟩,Nat.min_eq_right (by omega)];exact HLs.out f hfN
        ·rw[if_neg (fun h=>by have:=h.2;rw[h6]at this;omega),Nat.min_eq_left (by omega)]
       ·have h6:=HLn.out m5 h5;rw[if_pos ⟨hb,.inl (by rw[h6];omega)⟩,Nat.min_eq_right (by omega)];exact HLs.out f hfN
      ·rw[if_neg (by rw[decide_eq_false hb];simp),if_neg (fun h=>hb h.1)])
     generalize (if kGx k v=true then min m5 f else m5)=m6 at*
     obtain⟨lo,hlo⟩:∃lo,lo=kNm k:=⟨_,rfl⟩
     obtain⟨hi2,hhi⟩:∃hi2,hi2=kH1 k:=⟨_,rfl⟩
     obtain⟨l5,hl5⟩:∃l5,l5=leE m5:=⟨_,rfl⟩
     rw[←hlo,←hhi,←hl5]at HM6;rw[←hl5]
     have HLo:=jH hlo;have HHi:=jH hhi
     clear hlo hhi hl5
     go_upto_region 11 with(fail)
     obtain⟨kb,hkb⟩:∃kb,kb=((k:Int)==0):=⟨_,rfl⟩
     have HKb:=jH hkb;clear hkb
     go_cut [39]from 38 to 39 (fun y wx=>y= .bool kb∧wx=wr)
     case first=>
      have hkk:=HKb.out.symm
      cases kb
      ·go_wp2
       go_meet
       case rel=>exact⟨rfl,rfl⟩
      ·go_wp2
       go_meet
       case rel=>exact⟨rfl,rfl⟩
     case rest=>
     obtain⟨rfl,rfl⟩:=hcut
     go_step
     go_cut [9,10]from 40 to 41 (fun y z wx=>y= .int .i64 lo∧z= .int .i64 hi2∧wx=wc)
     case first=>
      cases kb
      ·have hk0:k≠0:=fun e=>by have:=HKb.out;rw[e]at this;cases this
       have HH:Hid (hi2=1114112):=jH (by rw[HHi.out];exact if_neg hk0)
       by_cases hk1:k=1
       ·have HL2:Hid (lo= -1114112):=jH (by rw[HLo.out];unfold kNm;rw[if_neg hk0,if_pos hk1])
        have hkd:((k:Int)==1)=true:=by simp[hk1]
        clear hk0 hk1;go_wp2
        go_meet
        case rel=>exact⟨by rw[HL2.out],by rw[HH.out],rfl⟩
       ·have HL2:Hid (lo=0):=jH (by rw[HLo.out];unfold kNm;rw[if_neg hk0,if_neg hk1]);have hkd:((k:Int)==1)=false:=beq_false_of_ne (by omega);clear hk0 hk1;go_wp2
        go_meet
        case rel=>exact⟨by rw[HL2.out],by rw[HH.out],rfl⟩
      ·have hk0:k=0:=by have:=HKb.out;simp at this;exact this
       have HH:Hid (hi2=23):=jH (by rw[HHi.out];exact if_pos hk0);have HL2:Hid (lo=1):=jH (by rw[HLo.out];exact if_pos hk0);clear hk0;go_wp2
       go_meet
       case rel=>exact⟨by rw[HL2.out],by rw[HH.out],rfl⟩
     case rest=>
     obtain⟨rfl,rfl,rfl⟩:=hcut
     obtain⟨b3,hb3⟩:∃b3,b3=decide ((v<lo∨hi2<v)∧(l5<0∨(f:Int)<l5)):=⟨_,rfl⟩
     have HB3:=jH hb3;clear hb3
     go_upto_region 15 with(fail)
     go_cut [58]from 42 to 58 (fun y wx=>y= .bool b3∧wx=wc)
     case first=>
      by_cases c1:v<lo
      ·by_cases c3:l5<0
       ·have HD:=jH (HB3.out.trans (decide_eq_true ⟨.inl c1,.inl c3⟩));go_wp2
        go_meet
        case rel=>exact⟨by rw[HD.out],rfl⟩
       ·by_cases c4:(f:Int)<l5
        ·have HD:=jH (HB3.out.trans (decide_eq_true ⟨.inl c1,.inr c4⟩));go_wp2
         go_meet
         case rel=>exact⟨by rw[HD.out],rfl⟩
        ·have HD:=jH (HB3.out.trans (decide_eq_false (fun h=>h.2.elim c3 c4)));go_wp2
         go_meet
         case rel=>exact⟨by rw[HD.out],rfl⟩
      ·by_cases c2:hi2<v
       ·by_cases c3:l5<0
        ·have HD:=jH (HB3.out.trans (decide_eq_true ⟨.inr c2,.inl c3⟩));go_wp2
         go_meet
         case rel=>exact⟨by rw[HD.out],rfl⟩
        ·by_cases c4:(f:Int)<l5
         ·have HD:=jH (HB3.out.trans (decide_eq_true ⟨.inr c2,.inr c4⟩));go_wp2
          go_meet
          case rel=>exact⟨by rw[HD.out],rfl⟩
         ·have HD:=jH (HB3.out.trans (decide_eq_false (fun h=>h.2.elim c3 c4)));go_wp2
          go_meet
          case rel=>exact⟨by rw[HD.out],rfl⟩
       ·have HD:=jH (HB3.out.trans (decide_eq_false (fun h=>h.1.elim c1 c2)));go_wp2
        go_meet
        case rel=>exact⟨by rw[HD.out],rfl⟩
     case rest=>
     obtain⟨rfl,rfl⟩:=hcut
     go_step
     go_cut [3]from 59 to 59 (fun y wx=>y= .int .i32 (leE m6)∧wx=wc)
     case first=>
      cases b3
      ·have HD:=jH (HM6.out.trans (if_neg (of_decide_eq_false HB3.out.symm)));go_wp2
       go_meet
       case rel=>exact⟨by rw[HD.out],rfl⟩
      ·have HD:=jH (HM6.out.trans (if_pos (of_decide_eq_true HB3.out.symm)));go_wp2
       go_meet
       case rel=>exact⟨by rw[HD.out],rfl⟩
     case rest=>
     obtain⟨rfl,rfl⟩:=hcut;clear HB3;go_wp2
     go_roundw
     case rel=>exact⟨i+1,m6,by rw[←Hn.out];omega,by go_num,by rw[HF'.out];go_num,rfl,HSb.out,HB5.out⟩
     case measure=>simp[intOf];omega
    ·have hii:¬(i:Int)<(n:Int):=by omega
     have hin2:i=R.length:=by rw[←Hn.out];omega
     have HMn:Hid (kBd (kKf F (k+1)) N m5):=jH (HM5.out.congr (fun r hr=>by
      show(kKf F k r||(decide ((r:Int)<kC5 R i)&&kGx k (F k r)))=kKf F (k+1) r;rw[HBs.out r,hin2,HEnd.out,decide_eq_true (by omega)]
      simp))
     have HB6:=jH (HB4.out.trans (hb5.mono HB4.out.size));have HL6:=jH ((hb5.block bl (jL HL4.out)).trans HL4.out);clear hb5;go_wp2
     go_roundw
     case rel=>exact⟨k+1,m5,by omega,by go_num,rfl,HMn.out,HL6.out,HB6.out⟩
     case measure=>simp[intOf];omega
  ·obtain rfl:k=4:=by omega
   have hki:¬(4:Int)<4:=by omega
   have HE:Hid (m=k0):=jH (HM.out.unique HK.out);clear hm hl hbel;go_wp2
   go_ret
   exact⟨by rw[HE.out];rfl,HBe.out⟩
end Go.Proofs.YtbmphakfgoompaaGreat
