/- several texts in one: UF7 UF8 -/
import Derived.Test.YtbmphakfgoompaaGreatOF2
import Derived.Test.YtbmphakfgoompaaGreatOE7
import Derived.Test.YtbmphakfgoompaaGreatO3
set_option linter.unusedVariables false
set_option linter.unusedSimpArgs false
set_option maxRecDepth 100000
set_option maxHeartbeats 16000000
namespace Go.Proofs.YtbmphakfgoompaaGreat
open Go.RowKit
attribute [local go_sem] Oper.semAt_some
def kRv (w:World) (p:Nat) (F:Nat→Nat→Int):Prop:=∃cs:Array Value,w.heap[p]? =some (.cells cs 111 (0,0))∧kBf w (.agg cs) F
theorem kRv.below {w w':World}{p:Nat}{F:Nat→Nat→Int}(h:kRv w p F)(hb:Below w.heap.size w w'):kRv w' p F:=by
 obtain⟨cs,h1,h2⟩:=h;exact⟨cs,(hb.block p (jL h1)).trans h1,h2.below hb⟩
theorem kQi {F:Nat→Nat→Int}(h:∀r,r<1114112→kKf F 4 r=false):kL0 F:=by
 have h2:∀r,r≤1114111→kGx 0 (F 0 r)=false∧kGx 1 (F 1 r)=false∧kGx 2 (F 2 r)=false∧kGx 3 (F 3 r)=false:=fun r hr=>by
  have:=h r (by omega);simp only[kKf,Bool.or_eq_false_iff,Bool.false_or]at this;exact⟨this.1.1.1,this.1.1.2,this.1.2,this.2⟩
 refine⟨fun r hr=> ?_,fun r hr=> ?_,fun r hr=> ?_,fun r hr=> ?_⟩
 ·have:=of_decide_eq_false (h2 r hr).1;simp only[kNm,kH1]at this;simp at this;omega
 ·have:=of_decide_eq_false (h2 r hr).2.1;simp only[kNm,kH1]at this;simp at this;omega
 ·have:=of_decide_eq_false (h2 r hr).2.2.1;simp only[kNm,kH1]at this;simp at this;omega
 ·have:=of_decide_eq_false (h2 r hr).2.2.2;simp only[kNm,kH1]at this;simp at this;omega
def kS7 (w:World) (f:Value) (F:Nat→Nat→Int) (k1 k2:Nat) (e:Ending) (w':World):Prop:=
 Below w.heap.size w w'∧((k1<1114112∧e= .returned (.tuple #[.pointer none,.int .i32 (k1:Nat),.int .i64 140]))∨(¬k1<1114112∧k2<1114112∧e= .returned (.tuple #[.pointer none,.int .i32 (k2:Nat),.int .i64 141]))∨
  (¬k1<1114112∧¬k2<1114112∧∃p,e= .returned (.tuple #[.pointer (some ⟨p,0,none⟩),.int .i32 0,.int .i64 0])∧kRv w' p F∧w.heap.size≤p∧∃cs:Array Value,f= .agg cs∧w'.heap[p]? =some (.cells cs 111 (0,0))))
theorem kOz (w:World)(f:Value)(F:Nat→Nat→Int)(hf:kBf w f F)(k1 k2:Nat)(h1:kBd (kKf F 4) 1114112 k1)(h2:kBd (kBu (F 0) (F 1) (F 2) (F 3)) 1114112 k2)(hnz:¬k1<1114112→(nzR 1114112 (F 1)).length<64):
  Calls Tryz.prog 12 #[f] w fun e w'=>kS7 w f F k1 k2 e w':=by
 have HBad:=jH (fun(W:World) (hb:Below w.heap.size w W)=>kQb W f F (hf.below hb) k1 h1);have HAm:=jH (fun(W:World) (hb:Below w.heap.size w W) (h:¬k1<1114112)=>kNf W f F (hf.below hb) (kQi (fun r hr=>h1.no r (by have:=h1.le;omega))) k2 h2 (hnz h));clear h1 h2 hnz;obtain⟨x0,x1,x2,x3,x4,x5,x6,x7,rfl,g0,g1,g2,g3⟩:=hf;obtain⟨⟨xa0,xn0,xc0,rfl⟩,⟨xa1,xn1,xc1,rfl⟩⟩:=g0.slices;obtain⟨⟨xa2,xn2,xc2,rfl⟩,⟨xa3,xn3,xc3,rfl⟩⟩:=g1.slices;obtain⟨⟨xa4,xn4,xc4,rfl⟩,⟨xa5,xn5,xc5,rfl⟩⟩:=g2.slices;obtain⟨⟨xa6,xn6,xc6,rfl⟩,⟨xa7,xn7,xc7,rfl⟩⟩:=g3.slices;have HF:=jH (show kBf w (.agg #[.slice xa0 xn0 xc0,.slice xa1 xn1 xc1,.slice xa2 xn2 xc2,.slice xa3 xn3 xc3,.slice xa4 xn4 xc4,.slice xa5 xn5 xc5,.slice xa6 xn6 xc6,.slice xa7 xn7 xc7]) F from⟨_,_,_,_,_,_,_,_,rfl,g0,g1,g2,g3⟩);have HG:=jH (And.intro g0 (And.intro g1 (And.intro g2 g3)));clear g0 g1 g2 g3;have HA:=jH (jN w (.cells #[.slice xa0 xn0 xc0,.slice xa1 xn1 xc1,.slice xa2 xn2 xc2,.slice xa3 xn3 xc3,.slice xa4 xn4 xc4,.slice xa5 xn5 xc5,.slice xa6 xn6 xc6,.slice xa7 xn7 xc7] 37));have HB:=jH ((Below.refl _ w).alloc jR (.cells #[.slice xa0 xn0 xc0,.slice xa1 xn1 xc1,.slice xa2 xn2 xc2,.slice xa3 xn3 xc3,.slice xa4 xn4 xc4,.slice xa5 xn5 xc5,.slice xa6 xn6 xc6,.slice xa7 xn7 xc7] 37))
 go_enter Tryz.func12,Tryz.ntmps12
 go_upto_region 1 with(fail)
 obtain⟨b0,hb0⟩:∃b0,b0=w.heap.size:=⟨_,rfl⟩
 rw[←hb0]at HA ⊢;clear hb0;generalize w.alloc (.cells #[.slice xa0 xn0 xc0,.slice xa1 xn1 xc1,.slice xa2 xn2 xc2,.slice xa3 xn3 xc3,.slice xa4 xn4 xc4,.slice xa5 xn5 xc5,.slice xa6 xn6 xc6,.slice xa7 xn7 xc7] 37)=w1 at*;have q0:=jK w1 b0 0 _ _ (0,0) HA.out;have q1:=jK w1 b0 1 _ _ (0,0) HA.out;have q2:=jK w1 b0 2 _ _ (0,0) HA.out;have q3:=jK w1 b0 3 _ _ (0,0) HA.out;have q4:=jK w1 b0 4 _ _ (0,0) HA.out;have q5:=jK w1 b0 5 _ _ (0,0) HA.out;have q6:=jK w1 b0 6 _ _ (0,0) HA.out;have q7:=jK w1 b0 7 _ _ (0,0) HA.out;simp at q0 q1 q2 q3 q4 q5 q6 q7;clear HG
 go_wp2_with fail
 refine(HBad.out w1 HB.out).mono ?_;rintro e w2 ⟨rfl,hb⟩;have HB2:=jH (HB.out.trans (hb.mono HB.out.size));have HA2:=jH ((hb.block b0 (jL HA.out)).trans HA.out);clear hb HBad HB HA q0 q1 q2 q3 q4 q5 q6 q7;have q0:=jK w2 b0 0 _ _ (0,0) HA2.out;have q1:=jK w2 b0 1 _ _ (0,0) HA2.out;have q2:=jK w2 b0 2 _ _ (0,0) HA2.out;have q3:=jK w2 b0 3 _ _ (0,0) HA2.out;have q4:=jK w2 b0 4 _ _ (0,0) HA2.out;have q5:=jK w2 b0 5 _ _ (0,0) HA2.out;have q6:=jK w2 b0 6 _ _ (0,0) HA2.out;have q7:=jK w2 b0 7 _ _ (0,0) HA2.out;simp at q0 q1 q2 q3 q4 q5 q6 q7
 by_cases hk1:k1<1114112
 ·have HK:=jH hk1;rw[kLb hk1];clear hk1;go_wp2
  refine jS (v:= .tuple #[.pointer none,.int .i32 (k1:Nat),.int .i64 140]) (by simp[results,Tryz.results12,go_sem]) rfl ?_;exact⟨HB2.out,.inl ⟨HK.out,rfl⟩⟩
 ·have HK:=jH hk1;rw[kLa hk1];clear hk1
  go_wp2_with fail
  refine(HAm.out w2 HB2.out HK.out).mono ?_;rintro e w3 ⟨rfl,hb⟩;have HB3:=jH (HB2.out.trans (hb.mono HB2.out.size));have HA3:=jH ((hb.block b0 (jL HA2.out)).trans HA2.out);clear hb HAm HB2 HA2 q0 q1 q2 q3 q4 q5 q6 q7;have q0:=jK w3 b0 0 _ _ (0,0) HA3.out;have q1:=jK w3 b0 1 _ _ (0,0) HA3.out;have q2:=jK w3 b0 2 _ _ (0,0) HA3.out;have q3:=jK w3 b0 3 _ _ (0,0) HA3.out;have q4:=jK w3 b0 4 _ _ (0,0) HA3.out;have q5:=jK w3 b0 5 _ _ (0,0) HA3.out;have q6:=jK w3 b0 6 _ _ (0,0) HA3.out;have q7:=jK w3 b0 7 _ _ (0,0) HA3.out;simp at q0 q1 q2 q3 q4 q5 q6 q7
  by_cases hk2:k2<1114112
  ·have HK2:=jH hk2;rw[kLb hk2];clear hk2;go_wp2
   refine jS (v:= .tuple #[.pointer none,.int .i32 (k2:Nat),.int .i64 141]) (by simp[results,Tryz.results12,go_sem]) rfl ?_;exact⟨HB3.out,.inr (.inl ⟨HK.out,HK2.out,rfl⟩)⟩
  ·have HK2:=jH hk2;rw[kLa hk2];clear hk2;have HT:=jH (jN w3 (.cells #[.slice xa0 xn0 xc0,.slice xa1 xn1 xc1,.slice xa2 xn2 xc2,.slice xa3 xn3 xc3,.slice xa4 xn4 xc4,.slice xa5 xn5 xc5,.slice xa6 xn6 xc6,.slice xa7 xn7 xc7] 111));have hba:=(Below.refl _ w3).alloc jR (.cells #[.slice xa0 xn0 xc0,.slice xa1 xn1 xc1,.slice xa2 xn2 xc2,.slice xa3 xn3 xc3,.slice xa4 xn4 xc4,.slice xa5 xn5 xc5,.slice xa6 xn6 xc6,.slice xa7 xn7 xc7] 111);have HB4:=jH (HB3.out.trans (hba.mono HB3.out.size));have HF4:=jH (HF.out.below HB4.out);clear hba;go_wp2
   refine jS (v:= .tuple #[.pointer (some ⟨w3.heap.size,0,none⟩),.int .i32 0,.int .i64 0]) (by simp[results,Tryz.results12,go_sem]) rfl ?_;exact⟨HB4.out,.inr (.inr ⟨HK.out,HK2.out,_,rfl,⟨_,HT.out,HF4.out⟩,HB3.out.size,_,rfl,HT.out⟩)⟩
theorem kRj {D:kAs}(h:kD2 D)(r:Nat):0≤D.side r:=by
 unfold kAs.side brG
 rcases kCt (fun s:kAr=>s.f==((r:Nat):Int)) (fun s=>(s.t,s.v)) D.l2 (0,0)with e | ⟨s,hs, -,e⟩
 ·rw[e];exact Int.le_refl _
 ·rw[e];exact(h.w2 s hs).2.2.1
theorem kPh {D:kAs}(hw:kD2 D){k:Nat}(h:kBd (kHs D) 1114112 k):kBd (kH9 D.cls D.oth D.side D.twin D.mir D.has) 1114112 k:=h.congr (fun r hr=>kP1 D (kRj hw) r)
theorem kTc {D:kAs}(hw:kD2 D)(h:∀r,r<1114112→kHs D r=false)(r:Nat)(hr:r<1114112):fvs D 0 r=D.cls r∧fvs D 1 r=bkF D.oth D.side r∧fvs D 2 r=twP D.twin r∧fvs D 3 r=miF D.mir D.has r:=kSc (kRj hw r) (h r hr)
theorem kTn {D:kAs}(hw:kD2 D)(h:∀r,r<1114112→kHs D r=false):∀r,r<1114112→kKf (fvs D) 4 r=false:=by
 intro r hr;have hL:=kPh hw (.none h);obtain⟨e0,e1,e2,e3⟩:=kTc hw h r hr;obtain⟨-, -, -,hb,ht,hm⟩:=kTw hL r (by omega);have hc:=hL.no r hr;simp only[kH9,Bool.or_eq_false_iff,pkC,kDo,Bool.not_eq_false',decide_eq_true_eq]at hc;have h0:kGx 0 (D.cls r)=false:=decide_eq_false (by simp only[kNm,kH1];simp;omega);have h1:kGx 1 (bkF D.oth D.side r)=false:=decide_eq_false (by simp only[kNm,kH1];simp;omega);have h2:kGx 2 (twP D.twin r)=false:=decide_eq_false (by simp only[kNm,kH1];simp;omega);have h3:kGx 3 (miF D.mir D.has r)=false:=decide_eq_false (by simp only[kNm,kH1];simp;omega);show((((false||kGx 0 (fvs D 0 r))||kGx 1 (fvs D 1 r))||kGx 2 (fvs D 2 r))||kGx 3 (fvs D 3 r))=false;rw[e0,e1,e2,e3,h0,h1,h2,h3]
 rfl
end Go.Proofs.YtbmphakfgoompaaGreat

namespace Go.Proofs.YtbmphakfgoompaaGreat
open Go.RowKit
attribute [local go_sem] Oper.semAt_some
theorem kNy (w:World)(p:Nat)(F:Nat→Nat→Int)(hd:kRv w p F)(hfit:kL0 F)(r:Int)(hr:wf32 r):
  Calls Tryz.prog 96 #[.pointer (some ⟨p,0,none⟩),.int .i32 r] w fun e w'=>e= .returned (.int .u8 (F 0 (kAi r)))∧Below w.heap.size w w':=by
 have hv:=hfit.c (kAi r) (kBl r);obtain⟨cs,hp,x0,x1,x2,x3,x4,x5,x6,x7,e0,g0,g1,g2,g3⟩:=hd
 obtain rfl:cs= #[x0,x1,x2,x3,x4,x5,x6,x7]:=by simpa using e0
 obtain⟨⟨xa0,xn0,xc0,rfl⟩,⟨xa1,xn1,xc1,rfl⟩⟩:=g0.slices;obtain⟨⟨xa2,xn2,xc2,rfl⟩,⟨xa3,xn3,xc3,rfl⟩⟩:=g1.slices;obtain⟨⟨xa4,xn4,xc4,rfl⟩,⟨xa5,xn5,xc5,rfl⟩⟩:=g2.slices;obtain⟨⟨xa6,xn6,xc6,rfl⟩,⟨xa7,xn7,xc7,rfl⟩⟩:=g3.slices;have HF:=jH (show kBf w (.agg #[.slice xa0 xn0 xc0,.slice xa1 xn1 xc1,.slice xa2 xn2 xc2,.slice xa3 xn3 xc3,.slice xa4 xn4 xc4,.slice xa5 xn5 xc5,.slice xa6 xn6 xc6,.slice xa7 xn7 xc7]) F from⟨_,_,_,_,_,_,_,_,rfl,g0,g1,g2,g3⟩);have HG:=jH (And.intro g0 (And.intro g1 (And.intro g2 g3)));clear g0 g1 g2 g3 e0;have q0:=jK w p 0 _ _ (0,0) hp;have q1:=jK w p 1 _ _ (0,0) hp;have q2:=jK w p 2 _ _ (0,0) hp;have q3:=jK w p 3 _ _ (0,0) hp;have q4:=jK w p 4 _ _ (0,0) hp;have q5:=jK w p 5 _ _ (0,0) hp;have q6:=jK w p 6 _ _ (0,0) hp;have q7:=jK w p 7 _ _ (0,0) hp;simp at q0 q1 q2 q3 q4 q5 q6 q7;clear hp;have HAt:=jH (HG.out.1.at_walk r hr)
 obtain⟨v,hve⟩:∃v,v=F 0 (kAi r):=⟨_,rfl⟩
 rw[←hve]at hv HAt;have HVe:=jH hve;have hw8:IntKind.u8.wrap v=v:=IntWalk.u8_in _ (by omega);clear hfit hve
 go_enter Tryz.func96,Tryz.ntmps96
 go_wp2_with fail
 refine HAt.out.mono ?_;rintro e w2 ⟨rfl,hb⟩;have HB:=jH hb;clear hb q0 q1 q2 q3 q4 q5 q6 q7;go_wp2
 go_ret
 exact⟨by rw[←HVe.out];rfl,HB.out⟩
theorem kPq (w:World)(p:Nat)(F:Nat→Nat→Int)(hd:kRv w p F)(hfit:kL0 F)(r:Int)(hr:wf32 r):
  Calls Tryz.prog 97 #[.pointer (some ⟨p,0,none⟩),.int .i32 r] w fun e w'=>e= .returned (.int .i32 (twF (F 2) (kAi r)))∧Below w.heap.size w w':=by
 obtain⟨cs,hp,x0,x1,x2,x3,x4,x5,x6,x7,e0,g0,g1,g2,g3⟩:=hd
 obtain rfl:cs= #[x0,x1,x2,x3,x4,x5,x6,x7]:=by simpa using e0
 obtain⟨⟨xa0,xn0,xc0,rfl⟩,⟨xa1,xn1,xc1,rfl⟩⟩:=g0.slices;obtain⟨⟨xa2,xn2,xc2,rfl⟩,⟨xa3,xn3,xc3,rfl⟩⟩:=g1.slices;obtain⟨⟨xa4,xn4,xc4,rfl⟩,⟨xa5,xn5,xc5,rfl⟩⟩:=g2.slices;obtain⟨⟨xa6,xn6,xc6,rfl⟩,⟨xa7,xn7,xc7,rfl⟩⟩:=g3.slices;have HF:=jH (show kBf w (.agg #[.slice xa0 xn0 xc0,.slice xa1 xn1 xc1,.slice xa2 xn2 xc2,.slice xa3 xn3 xc3,.slice xa4 xn4 xc4,.slice xa5 xn5 xc5,.slice xa6 xn6 xc6,.slice xa7 xn7 xc7]) F from⟨_,_,_,_,_,_,_,_,rfl,g0,g1,g2,g3⟩);have HG:=jH (And.intro g0 (And.intro g1 (And.intro g2 g3)));clear g0 g1 g2 g3 e0;have q0:=jK w p 0 _ _ (0,0) hp;have q1:=jK w p 1 _ _ (0,0) hp;have q2:=jK w p 2 _ _ (0,0) hp;have q3:=jK w p 3 _ _ (0,0) hp;have q4:=jK w p 4 _ _ (0,0) hp;have q5:=jK w p 5 _ _ (0,0) hp;have q6:=jK w p 6 _ _ (0,0) hp;have q7:=jK w p 7 _ _ (0,0) hp;simp at q0 q1 q2 q3 q4 q5 q6 q7;clear hp;have HAt:=jH (kKh w _ F HF.out hfit r hr);clear hfit
 go_enter Tryz.func97,Tryz.ntmps97
 go_wp2_with fail
 refine HAt.out.mono ?_;rintro e w2 ⟨rfl,hb⟩;have HB:=jH hb;clear hb q0 q1 q2 q3 q4 q5 q6 q7;go_wp2
 go_ret
 exact⟨rfl,HB.out⟩
theorem kMw (w:World)(p:Nat)(F:Nat→Nat→Int)(hd:kRv w p F)(hfit:kL0 F)(r:Int)(hr:wf32 r)(mv:Int)(is:Bool)(hmv:mv=if 0<F 3 (kAi r)then F 3 (kAi r) - 1 else 0)(his:is=decide (0<F 3 (kAi r))):
  Calls Tryz.prog 95 #[.pointer (some ⟨p,0,none⟩),.int .i32 r] w fun e w'=>e= .returned (.tuple #[.int .i32 mv,.bool is])∧Below w.heap.size w w':=by
 have hv:=hfit.m (kAi r) (kBl r);obtain⟨cs,hp,x0,x1,x2,x3,x4,x5,x6,x7,e0,g0,g1,g2,g3⟩:=hd
 obtain rfl:cs= #[x0,x1,x2,x3,x4,x5,x6,x7]:=by simpa using e0
 obtain⟨⟨xa0,xn0,xc0,rfl⟩,⟨xa1,xn1,xc1,rfl⟩⟩:=g0.slices;obtain⟨⟨xa2,xn2,xc2,rfl⟩,⟨xa3,xn3,xc3,rfl⟩⟩:=g1.slices;obtain⟨⟨xa4,xn4,xc4,rfl⟩,⟨xa5,xn5,xc5,rfl⟩⟩:=g2.slices;obtain⟨⟨xa6,xn6,xc6,rfl⟩,⟨xa7,xn7,xc7,rfl⟩⟩:=g3.slices;have HF:=jH (show kBf w (.agg #[.slice xa0 xn0 xc0,.slice xa1 xn1 xc1,.slice xa2 xn2 xc2,.slice xa3 xn3 xc3,.slice xa4 xn4 xc4,.slice xa5 xn5 xc5,.slice xa6 xn6 xc6,.slice xa7 xn7 xc7]) F from⟨_,_,_,_,_,_,_,_,rfl,g0,g1,g2,g3⟩);have HG:=jH (And.intro g0 (And.intro g1 (And.intro g2 g3)));clear g0 g1 g2 g3 e0;have q0:=jK w p 0 _ _ (0,0) hp;have q1:=jK w p 1 _ _ (0,0) hp;have q2:=jK w p 2 _ _ (0,0) hp;have q3:=jK w p 3 _ _ (0,0) hp;have q4:=jK w p 4 _ _ (0,0) hp;have q5:=jK w p 5 _ _ (0,0) hp;have q6:=jK w p 6 _ _ (0,0) hp;have q7:=jK w p 7 _ _ (0,0) hp;simp at q0 q1 q2 q3 q4 q5 q6 q7;clear hp;have HAt:=jH (HG.out.2.2.2.at_walk r hr)
 obtain⟨v,hve⟩:∃v,v=F 3 (kAi r):=⟨_,rfl⟩
 rw[←hve]at hv HAt hmv his;have HMv:=jH hmv;have HIs:=jH his;clear hmv his;clear hfit hve
 go_enter Tryz.func95,Tryz.ntmps95
 go_wp2_with fail
 refine HAt.out.mono ?_;rintro e w2 ⟨rfl,hb⟩;have HB:=jH hb;clear hb q0 q1 q2 q3 q4 q5 q6 q7
 by_cases h0:v=0
 ·have HD:=jH h0;have HM0:Hid (mv=0):=jH (by rw[HMv.out,h0];rfl);have HI0:Hid (is=false):=jH (by rw[HIs.out,h0];rfl);subst h0;go_wp2
  refine jS (v:= .tuple #[.int .i32 0,.bool false]) (by simp[results,Tryz.results95,go_sem]) rfl ?_;exact⟨by rw[HM0.out,HI0.out],HB.out⟩
 ·have hd:(v==0)=false:=beq_false_of_ne h0;have hw:IntKind.i32.wrap (v - 1)=v - 1:=IntWalk.i32_in _ (by omega);have HP:=jH (show 0<v by omega);go_wp2
  refine jS (v:= .tuple #[.int .i32 (v - 1),.bool true]) (by simp[results,Tryz.results95,go_sem]) rfl ?_;exact⟨by rw[HMv.out,HIs.out,if_pos HP.out,decide_eq_true HP.out],HB.out⟩
theorem kLp (w:World)(p:Nat)(F:Nat→Nat→Int)(hd:kRv w p F)(hfit:kL0 F)(r:Int)(hr:wf32 r):
  Calls Tryz.prog 94 #[.pointer (some ⟨p,0,none⟩),.int .i32 r] w fun e w'=>e= .returned (.tuple #[.int .i32 (brO (F 1 (kAi r))),.int .u8 (brS (F 1 (kAi r)))])∧Below w.heap.size w w':=by
 obtain⟨cs,hp,x0,x1,x2,x3,x4,x5,x6,x7,e0,g0,g1,g2,g3⟩:=hd
 obtain rfl:cs= #[x0,x1,x2,x3,x4,x5,x6,x7]:=by simpa using e0
 obtain⟨⟨xa0,xn0,xc0,rfl⟩,⟨xa1,xn1,xc1,rfl⟩⟩:=g0.slices;obtain⟨⟨xa2,xn2,xc2,rfl⟩,⟨xa3,xn3,xc3,rfl⟩⟩:=g1.slices;obtain⟨⟨xa4,xn4,xc4,rfl⟩,⟨xa5,xn5,xc5,rfl⟩⟩:=g2.slices;obtain⟨⟨xa6,xn6,xc6,rfl⟩,⟨xa7,xn7,xc7,rfl⟩⟩:=g3.slices;have HF:=jH (show kBf w (.agg #[.slice xa0 xn0 xc0,.slice xa1 xn1 xc1,.slice xa2 xn2 xc2,.slice xa3 xn3 xc3,.slice xa4 xn4 xc4,.slice xa5 xn5 xc5,.slice xa6 xn6 xc6,.slice xa7 xn7 xc7]) F from⟨_,_,_,_,_,_,_,_,rfl,g0,g1,g2,g3⟩);have HG:=jH (And.intro g0 (And.intro g1 (And.intro g2 g3)));clear g0 g1 g2 g3 e0;have q0:=jK w p 0 _ _ (0,0) hp;have q1:=jK w p 1 _ _ (0,0) hp;have q2:=jK w p 2 _ _ (0,0) hp;have q3:=jK w p 3 _ _ (0,0) hp;have q4:=jK w p 4 _ _ (0,0) hp;have q5:=jK w p 5 _ _ (0,0) hp;have q6:=jK w p 6 _ _ (0,0) hp;have q7:=jK w p 7 _ _ (0,0) hp;simp at q0 q1 q2 q3 q4 q5 q6 q7;clear hp;have hrl:=kBl r;have HP:=jH (fun q:Regrown=>Go.Calls.regrown_of ((kDz r (Go.Sort.grow (redrawn w q.d) q.os)).mono fun e w' h=>(show e= .returned (.int .i32 (kAi r:Nat))∧Below _ _ w' from⟨h.1,by rw[h.2];exact Below.refl _ _⟩)))
 have HR:=jH (fun q:Regrown=>Go.Calls.regrown_of (by
  have h:=kDr (Go.Sort.grow (redrawn w q.d) q.os) _ F (HF.out.below (below_regrown w q.d q.os)) hfit ((kAi r:Nat):Int) (by unfold wf32;omega);rw[kEw hrl]at h
  exact h))
 have z0:=fun d os=>cell_regrown q0 d os
 have z1:=fun d os=>cell_regrown q1 d os
 have z2:=fun d os=>cell_regrown q2 d os
 have z3:=fun d os=>cell_regrown q3 d os
 have z4:=fun d os=>cell_regrown q4 d os
 have z5:=fun d os=>cell_regrown q5 d os
 have z6:=fun d os=>cell_regrown q6 d os
 have z7:=fun d os=>cell_regrown q7 d os
 clear hfit q0 q1 q2 q3 q4 q5 q6 q7
 go_enter Tryz.func94,Tryz.ntmps94
 go_upto_region 1 with(fail)
 refine wp_region_quiet_below (by kernel_rfl) (by kernel_rfl) ?_
 iterate 5 (go_big_quiet_step (fail))
 go_big_quiet_step (exact HP.out _)
 go_big_quiet_step (exact HR.out _)
 iterate 4 (go_big_quiet_step (fail))
 refine wpQuiet_nil ?_;intro _ hw';obtain⟨⟨dq,osq⟩,hw''⟩:=hw';subst hw'';have HB:=jH (below_regrown w dq osq);generalize Go.Sort.grow (redrawn w dq) osq=w9 at*;clear z0 z1 z2 z3 z4 z5 z6 z7 HP HR;go_wp2
 refine jS (v:= .tuple #[.int .i32 (brO (F 1 (kAi r))),.int .u8 (brS (F 1 (kAi r)))]) (by simp[results,Tryz.results94,go_sem]) rfl ?_;exact⟨rfl,HB.out⟩
def LkR (w:World) (n:Nat) (iv:Value) (wr:World):Prop:=∃k:Nat,k≤n∧iv= .int .i64 (k:Nat)∧Below w.heap.size w wr
theorem kLc (w:World)(v:Value):Calls Tryz.prog 44 #[.pointer none,.pointer none,v] w fun e w'=>e= .returned (.bool true)∧Below w.heap.size w w':=by
 have HB:=jH (Below.refl w.heap.size w)
 go_enter Tryz.func44,Tryz.ntmps44
 go_wp2
 go_ret
 exact⟨rfl,HB.out⟩
theorem kPb (w:World)(p q B:Nat)(F:Nat→Nat→Int)(hT:kFc w p (F 0) (F 1) (F 2) (F 3) B)(hd:kRv w q F)(hfit:kL0 F)(a:Option Addr)(n c:Nat)(zs:List Int)(hl:zs.length=n)(hn:n≤maxLen)(hz:Ints .i32 w a zs)(hzb:∀z∈zs,wf32 z):
  Calls Tryz.prog 44 #[.pointer (some ⟨p,0,none⟩),.pointer (some ⟨q,0,none⟩),.slice a n c] w fun e w'=>e= .returned (.bool true)∧Below w.heap.size w w':=by
 have HF:Hid (Fit (F 1) (F 2) (F 3)):=jH ⟨hfit.b,hfit.t,hfit.m⟩;have HFD:=jH hfit;have HT:=jH hT;have HD:=jH hd;have HL:=jH hl;have HZ:=jH hz;have HZb:=jH hzb;have HB0:=jH (Below.refl w.heap.size w);clear hT hd hfit hl hz hzb
 go_enter Tryz.func44,Tryz.ntmps44
 go_wp2
 go_loopw [7] (LkR w n) (fun i _=>n - (intOf i).toNat)
 case atStart=>exact⟨0,Nat.zero_le _,rfl,HB0.out⟩
 case round=>
  obtain⟨k,hk,rfl,hbel⟩:=hrel;have HB_wr:=jH hbel
  by_cases hkn:k<n
  ·have hki:(k:Int)<(n:Int):=by omega
   by_cases hk2:(k:Int)<200
   ·have hkl:k<zs.length:=by rw[HL.out];exact hkn
    obtain⟨g,o,eg⟩:=HZ.out.some (by omega);subst eg;have hcx:=(HZ.out.below hbel jR).get k hkl;have hzr:=HZb.out _ (List.getElem_mem hkl);generalize zs[k]=r at*
    have HtB:=jH (fun(W:World) (hb:Below w.heap.size w W)=>(show Calls Tryz.prog 20 #[.pointer (some ⟨p,0,none⟩),.int .i32 r] W fun e w'=>e= .returned (.tuple #[.int .i32 (brO (F 1 (kAi r))),.int .u8 (brS (F 1 (kAi r)))])∧Below W.heap.size W w' from by
     obtain⟨gc,gb,gt,gm,SC,SB,ST,SM,x1, -⟩:=HT.out.below hb;refine(kCw x1 HF.out r hzr.1 hzr.2).mono ?_;rintro e w' ⟨rfl,x,rfl⟩
     exact⟨rfl,below_drewN (Below.refl _ _) x⟩))
    have HtM:=jH (fun(W:World) (hb:Below w.heap.size w W)=>(show Calls Tryz.prog 21 #[.pointer (some ⟨p,0,none⟩),.int .i32 r] W fun e w'=>e= .returned (.tuple #[.int .i32 (if 0<F 3 (kAi r)then F 3 (kAi r) - 1 else 0),.bool (decide (0<F 3 (kAi r)))])∧Below W.heap.size W w' from by
     obtain⟨gc,gb,gt,gm,SC,SB,ST,SM,x1, -⟩:=HT.out.below hb;refine(kJg x1 HF.out r hzr.1 hzr.2).mono ?_;rintro e w' ⟨rfl,x,rfl⟩
     exact⟨by by_cases h:0<F 3 (kAi r)<;>simp[h],below_drewN (Below.refl _ _) x⟩))
    have HtC:=jH (fun(W:World) (hb:Below w.heap.size w W)=>(show Calls Tryz.prog 22 #[.pointer (some ⟨p,0,none⟩),.int .i32 r] W fun e w'=>e= .returned (.int .u8 (F 0 (kAi r)))∧Below W.heap.size W w' from by
     obtain⟨gc,gb,gt,gm,SC,SB,ST,SM,x1, -⟩:=HT.out.below hb;refine(kFx x1 r hzr.1 hzr.2).mono ?_;rintro e w' ⟨rfl,x,rfl⟩
     exact⟨rfl,below_drewN (Below.refl _ _) x⟩))
    have HtT:=jH (fun(W:World) (hb:Below w.heap.size w W)=>(show Calls Tryz.prog 23 #[.pointer (some ⟨p,0,none⟩),.int .i32 r] W fun e w'=>e= .returned (.int .i32 (twF (F 2) (kAi r)))∧Below W.heap.size W w' from by
     obtain⟨gc,gb,gt,gm,SC,SB,ST,SM,x1, -⟩:=HT.out.below hb;refine(kHl x1 HF.out r hzr.1 hzr.2).mono ?_;rintro e w' ⟨rfl,x,rfl⟩
     exact⟨rfl,below_drewN (Below.refl _ _) x⟩))
    have HdB:=jH (fun(W:World) (hb:Below w.heap.size w W)=>kLp W q F (HD.out.below hb) HFD.out r hzr);have HdM:=jH (fun(W:World) (hb:Below w.heap.size w W)=>kMw W q F (HD.out.below hb) HFD.out r hzr _ _ rfl rfl);have HdC:=jH (fun(W:World) (hb:Below w.heap.size w W)=>kNy W q F (HD.out.below hb) HFD.out r hzr);have HdT:=jH (fun(W:World) (hb:Below w.heap.size w W)=>kPq W q F (HD.out.below hb) HFD.out r hzr);generalize (if 0<F 3 (kAi r)then F 3 (kAi r) - 1 else 0)=m at*;generalize decide (0<F 3 (kAi r))=is at*;generalize brO (F 1 (kAi r))=o1 at*;generalize brS (F 1 (kAi r))=s1 at*;generalize F 0 (kAi r)=c1 at*;generalize twF (F 2) (kAi r)=t1 at*
    have y1:(o1 != o1)=false:=by simp
    have y2:(s1 != s1)=false:=by simp
    have y3:(c1 != c1)=false:=by simp
    have y4:(t1 != t1)=false:=by simp
    have y5:(m != m)=false:=by simp
    have y6:(is != is)=false:=by simp
    clear hbel
    go_wp2_with fail
    refine(HtB.out wr HB_wr.out).mono ?_;rintro e v1 ⟨rfl,hb⟩;have HB_v1:=jH (HB_wr.out.trans (hb.mono HB_wr.out.size));clear hb
    go_wp2_with fail
    refine(HdB.out v1 HB_v1.out).mono ?_;rintro e v2 ⟨rfl,hb⟩;have HB_v2:=jH (HB_v1.out.trans (hb.mono HB_v1.out.size));clear hb
    go_wp2_with fail
    refine(HtM.out v2 HB_v2.out).mono ?_;rintro e v3 ⟨rfl,hb⟩;have HB_v3:=jH (HB_v2.out.trans (hb.mono HB_v2.out.size));clear hb
    go_wp2_with fail
    refine(HdM.out v3 HB_v3.out).mono ?_;rintro e v4 ⟨rfl,hb⟩;have HB_v4:=jH (HB_v3.out.trans (hb.mono HB_v3.out.size));clear hb
    go_wp2_with fail
    refine(HtC.out v4 HB_v4.out).mono ?_;rintro e v5 ⟨rfl,hb⟩;have HB_v5:=jH (HB_v4.out.trans (hb.mono HB_v4.out.size));clear hb
    go_wp2_with fail
    refine(HdC.out v5 HB_v5.out).mono ?_;rintro e v6 ⟨rfl,hb⟩;have HB_v6:=jH (HB_v5.out.trans (hb.mono HB_v5.out.size));clear hb
    go_wp2_with fail
    refine(HtT.out v6 HB_v6.out).mono ?_;rintro e v7 ⟨rfl,hb⟩;have HB_v7:=jH (HB_v6.out.trans (hb.mono HB_v6.out.size));clear hb
    go_wp2_with fail
    refine(HdT.out v7 HB_v7.out).mono ?_;rintro e v8 ⟨rfl,hb⟩;have HB_v8:=jH (HB_v7.out.trans (hb.mono HB_v7.out.size));clear hb;go_wp2
    go_roundw
    case rel=>exact⟨k+1,by omega,by go_num,HB_v8.out⟩
    case measure=>simp[intOf];omega
   ·clear hbel;go_wp2
    go_ret
    exact⟨rfl,HB_wr.out⟩
  ·have hki:¬(k:Int)<(n:Int):=by omega
   clear hbel;go_wp2
   go_ret
   exact⟨rfl,HB_wr.out⟩
end Go.Proofs.YtbmphakfgoompaaGreat
