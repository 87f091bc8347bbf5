/- several texts in one: UF1 UF2 UF3 -/
import Derived.Test.YtbmphakfgoompaaGreatOH
import Derived.Test.YtbmphakfgoompaaGreatOTA
import Derived.Test.YtbmphakfgoompaaGreatO1
import Derived.Test.YtbmphakfgoompaaGreatOW
import Derived.Test.YtbmphakfgoompaaGreatOQ
import Derived.Deep.CutRange
set_option linter.unusedVariables false
set_option linter.unusedSimpArgs false
set_option maxRecDepth 100000
set_option maxHeartbeats 16000000
namespace Go.Proofs.YtbmphakfgoompaaGreat
open Go.RowKit
def kC5 (L:List (Int×Int)) (i:Nat):Int:=if i=0 then 0 else(L.getD (i - 1) (0,0)).1+1
theorem kHy {L:List (Int×Int)}{i:Nat}(h:i<L.length):kC5 L (i+1)=(L[i]).1+1:=by
 unfold kC5;rw[if_neg (by omega),Nat.add_sub_cancel,List.getD_eq_getElem?_getD,List.getElem?_eq_getElem h]
 rfl
theorem kDt (F:Nat→Int)(N:Nat):∀i,i≤(kAk F N).length→∃r:Nat,kC5 (kAk F N) i=(r:Nat)∧r≤N∧kGv F N i r
 | 0,_=>⟨0,rfl,Nat.zero_le _,.zero F N⟩
 | i+1,h=>by
  obtain⟨r,h1,h2,h3⟩:=kDt F N i (by omega)
  have hi:i<(kAk F N).length:=by omega
  have hge:=h3.ge i hi jR;have hlt:=kE7 F N _ (List.getElem_mem hi)
  obtain⟨t,ht⟩:∃t:Nat,((kAk F N)[i]).1=(t:Nat):=⟨((kAk F N)[i]).1.toNat,by omega⟩
  exact⟨t+1,by rw[kHy hi,ht];omega,by omega,h3.over hi ht⟩
theorem kE8 {F:Nat→Int}{N i:Nat}(hi:i<(kAk F N).length){q:Nat}(h1:kC5 (kAk F N) i≤(q:Int))(h2:(q:Int)≤((kAk F N)[i]).1):F q=((kAk F N)[i]).2:=by
 obtain⟨r,e, -,h3⟩:=kDt F N i (by omega);exact(h3.val hi (by omega) h2).symm
theorem kOl {F:Nat→Int}{N q:Nat}(hq:q<N):∃i,∃h:i<(kAk F N).length,kC5 (kAk F N) i≤(q:Int)∧(q:Int)≤((kAk F N)[i]).1:=by
 obtain⟨A,x,B,k1,k2,k3,k4⟩:=kFs F N q hq
 have hl:A.length<(kAk F N).length:=by rw[k1];simp
 have hx:(kAk F N)[A.length]=x:=by simp only[k1];rw[List.getElem_append_right (by omega)];simp
 refine⟨A.length,hl,?_,by rw[hx];exact k3⟩;unfold kC5
 by_cases e:A.length=0
 ·rw[if_pos e];omega
 ·rw[if_neg e]
  have hm:(kAk F N).getD (A.length - 1) (0,0)∈A:=by
   rw[k1,List.getD_eq_getElem?_getD,List.getElem?_append_left (by omega),List.getElem?_eq_getElem (by omega)];exact List.getElem_mem _
  have:=k2 _ hm;omega
def kFt (f t v:Int):List Int:=if v=0 then []else((List.range 64).filterMap (fun k=>if f+(k:Nat)≤t then some (f+(k:Nat))else none))++(if f≤v - 1∧v - 1≤t then [v - 1]else [])
def kC9 (L:List (Int×Int)) (n:Nat):List Int:=(List.range n).flatMap (fun i=>kFt (kC5 L i) (L.getD i (0,0)).1 (L.getD i (0,0)).2)
theorem kKr (L:List (Int×Int))(n:Nat):kC9 L (n+1)=kC9 L n++kFt (kC5 L n) (L.getD n (0,0)).1 (L.getD n (0,0)).2:=by
 unfold kC9;rw[List.range_succ,List.flatMap_append];simp
theorem kRc {f t v x:Int}(h:x∈kFt f t v):f≤x∧x≤t:=by
 unfold kFt at h
 split at h
 ·cases h
 ·rcases List.mem_append.1 h with h | h
  ·obtain⟨k,hk,e⟩:=List.mem_filterMap.1 h
   split at e
   ·cases e;omega
   ·cases e
  ·split at h
   ·rw[List.mem_singleton.1 h];assumption
   ·cases h
theorem kJr {f t v:Int}(hv:v≠0){k:Nat}(hk:k<64)(ht:f+(k:Nat)≤t):f+(k:Nat)∈kFt f t v:=by
 unfold kFt;rw[if_neg hv];exact List.mem_append.2 (.inl (List.mem_filterMap.2 ⟨k,by simpa using hk,by rw[if_pos ht]⟩))
theorem kPn {f t v:Int}(hv:v≠0)(h1:f≤v - 1)(h2:v - 1≤t):v - 1∈kFt f t v:=by
 unfold kFt;rw[if_neg hv,if_pos ⟨h1,h2⟩];exact List.mem_append.2 (.inr (by simp))
theorem kRd {L:List (Int×Int)}{n:Nat}{x:Int}(h:x∈kC9 L n):∃i,i<n∧kC5 L i≤x∧x≤(L.getD i (0,0)).1:=by
 obtain⟨i,hi,h2⟩:=List.mem_flatMap.1 h;exact⟨i,by simpa using hi,kRc h2⟩
theorem kJs {L:List (Int×Int)}{i:Nat}(hi:i<L.length){x:Int}(h:x∈kFt (kC5 L i) (L[i]).1 (L[i]).2):x∈kC9 L L.length:=
 List.mem_flatMap.2 ⟨i,by simpa using hi,by rw[List.getD_eq_getElem?_getD,List.getElem?_eq_getElem hi];exact h⟩
def kIb (N:Nat) (b t m:Nat→Int):List Int:=kC9 (kAk b N) (kAk b N).length++kC9 (kAk t N) (kAk t N).length++kC9 (kAk m N) (kAk m N).length
theorem kLm {N:Nat}{F:Nat→Int}{x:Int}(h:x∈kC9 (kAk F N) (kAk F N).length):0≤x∧x<(N:Nat):=by
 obtain⟨i,hi,h1,h2⟩:=kRd h;rw[List.getD_eq_getElem?_getD,List.getElem?_eq_getElem hi]at h2;have h3:=kE7 F N _ (List.getElem_mem hi);obtain⟨r,e, -, -⟩:=kDt F N i (by omega);simp only[Option.getD_some]at h2;omega
theorem kSy {N:Nat}{b t m:Nat→Int}{x:Int}(h:x∈kIb N b t m):0≤x∧x<(N:Nat):=by
 unfold kIb at h
 rcases List.mem_append.1 h with h | h
 ·rcases List.mem_append.1 h with h | h
  ·exact kLm h
  ·exact kLm h
 ·exact kLm h
theorem kJi {c b t m:Nat→Int}{q:Nat}(h:kBu c b t m q=false)(hv:b q≠0):brO (b (kAi (brO (b q))))=(q:Nat):=by
 simp only[kBu,Bool.or_eq_false_iff,Bool.and_eq_false_iff,bne_eq_false_iff_eq,kSk]at h
 rcases h.1.1 with h1 | h1
 ·exact absurd h1 hv
 ·exact h1.1.2
theorem kOf {c b t m:Nat→Int}{q q':Nat}(h:kBu c b t m q=false)(h':kBu c b t m q'=false)(e:b q=b q')(hv:b q≠0):q=q':=by
 have h1:=kJi h hv;have h2:=kJi h' (by rw[←e];exact hv);rw[e,h2]at h1;omega
theorem kNr {c b t m:Nat→Int}{q:Nat}(h:kBu c b t m q=false)(hv:t q≠0):b q≠0:=by
 intro e;simp only[kBu,Bool.or_eq_false_iff,Bool.and_eq_false_iff,bne_eq_false_iff_eq,kDe]at h
 rcases h.1.2 with h1 | h1
 ·exact hv h1
 ·have:=h1.1.1.1.1;rw[e]at this;cases this
def nzR (N:Nat) (b:Nat→Int):List (Int×Int):=(kAk b N).filter (fun x=>x.2 != 0)
theorem kQs {N:Nat}{c b t m:Nat→Int}{f n:Nat}(hN:f+n≤N)(h:∀j,j<n→kBu c b t m (f+j)=false∧b (f+j)≠0):n≤(nzR N b).length:=by
 have hex:∀j,j<n→∃x:Int,x∈(nzR N b).map (fun y=>y.1)∧∃i,∃hi:i<(kAk b N).length,x=((kAk b N)[i]).1∧kC5 (kAk b N) i≤((f+j:Nat):Int)∧((f+j:Nat):Int)≤((kAk b N)[i]).1:=by
  intro j hj;obtain⟨i,hi,h1,h2⟩:=kOl (F:=b) (N:=N) (q:=f+j) (by omega);have hv:=kE8 hi h1 h2;refine⟨((kAk b N)[i]).1,List.mem_map.2 ⟨(kAk b N)[i],List.mem_filter.2 ⟨List.getElem_mem hi,?_⟩,rfl⟩,i,hi,rfl,h1,h2⟩;rw[←hv]
  simpa using (h j hj).2
 let g:Nat→Int:=fun j=>if hj:j<n then Classical.choose (hex j hj)else 0
 have hg:∀j,(hj:j<n)→g j∈(nzR N b).map (fun y=>y.1)∧∃i,∃hi:i<(kAk b N).length,g j=((kAk b N)[i]).1∧kC5 (kAk b N) i≤((f+j:Nat):Int)∧((f+j:Nat):Int)≤((kAk b N)[i]).1:=by
  intro j hj;have:=Classical.choose_spec (hex j hj);simp only[g,dif_pos hj];exact this
 have hinj:∀j j',j<n→j'<n→g j=g j'→j=j':=by
  intro j j' hj hj' e;obtain⟨-,i,hi,e1,a1,a2⟩:=hg j hj;obtain⟨-,i',hi',e2,b1,b2⟩:=hg j' hj'
  have hii:i=i':=by
   rcases Nat.lt_trichotomy i i' with h1 | h1 | h1
   ·have:=List.pairwise_iff_getElem.1 (kHf b N) i i' hi hi' h1;omega
   ·exact h1
   ·have:=List.pairwise_iff_getElem.1 (kHf b N) i' i hi' hi h1;omega
  subst hii;have v1:=kE8 hi a1 a2;have v2:=kE8 hi b1 b2;have:=kOf (h j hj).1 (h j' hj').1 (by rw[v1,v2]) (h j hj).2;omega
 have:=kOe ((List.range n).map g) ((nzR N b).map (fun y=>y.1)) (by
  rw[List.nodup_iff_pairwise_ne];refine List.pairwise_map.2 (List.Pairwise.imp_of_mem ?_ (List.nodup_iff_pairwise_ne.1 (List.nodup_range (n:=n))));intro x y hx hy hne e
  exact hne (hinj x y (by simpa using hx) (by simpa using hy) e)) (fun x hx=>by
  obtain⟨j,hj,rfl⟩:=List.mem_map.1 hx
  exact(hg j (by simpa using hj)).1)
 simpa using this
theorem kSz {N:Nat}{c b t m:Nat→Int}{k:Nat}(hk:kBd (kBu c b t m) N k)(hkN:k<N)(hr:(nzR N b).length<64):(k:Int)∈kIb N b t m:=by
 have hp:=hk.yes hkN;unfold kIb
 by_cases hb:b k=0
 ·by_cases ht:t k=0
  ·have hm:m k=(k:Nat)+1:=by
    simp only[kBu,hb,ht,bne_self_eq_false,Bool.false_and,Bool.false_or,Bool.and_eq_true,kNx,beq_iff_eq]at hp;exact hp.2
   obtain⟨i,hi,h1,h2⟩:=kOl (F:=m) hkN;have hv:=kE8 hi h1 h2;refine List.mem_append.2 (.inr (kJs hi ?_))
   have e:(k:Int)=((kAk m N)[i]).2 - 1:=by omega
   rw[e];exact kPn (by omega) (by omega) (by omega)
  ·obtain⟨i,hi,h1,h2⟩:=kOl (F:=t) hkN;have hv:=kE8 hi h1 h2;obtain⟨f,hf,hfN, -⟩:=kDt t N i (by omega);refine List.mem_append.2 (.inl (List.mem_append.2 (.inr (kJs hi ?_))))
   by_cases h64:k - f<64
   ·have e:(k:Int)=kC5 (kAk t N) i+((k - f:Nat):Int):=by omega
    rw[e];exact kJr (by rw[←hv];exact ht) h64 (by omega)
   ·have:=kQs (N:=N) (c:=c) (b:=b) (t:=t) (m:=m) (f:=f) (n:=64) (by omega) (fun j hj=>by
     have h3:=hk.no (f+j) (by omega);have h4:=kE8 (F:=t) hi (q:=f+j) (by omega) (by omega)
     exact⟨h3,kNr h3 (by rw[h4,←hv];exact ht)⟩)
    omega
 ·obtain⟨i,hi,h1,h2⟩:=kOl (F:=b) hkN;have hv:=kE8 hi h1 h2;obtain⟨f,hf,hfN, -⟩:=kDt b N i (by omega);refine List.mem_append.2 (.inl (List.mem_append.2 (.inl (kJs hi ?_))))
  have h3:k<f+2:=by
   refine Decidable.byContradiction (fun h3=> ?_);have v1:=kE8 (F:=b) hi (q:=f) (by omega) (by omega);have v2:=kE8 (F:=b) hi (q:=f+1) (by omega) (by omega);have:=kOf (hk.no f (by omega)) (hk.no (f+1) (by omega)) (by rw[v1,v2]) (by rw[v1,←hv];exact hb);omega
  have e:(k:Int)=kC5 (kAk b N) i+((k - f:Nat):Int):=by omega
  rw[e];exact kJr (by rw[←hv];exact hb) (by omega) (by omega)
end Go.Proofs.YtbmphakfgoompaaGreat

namespace Go.Proofs.YtbmphakfgoompaaGreat
open Go.RowKit
attribute [local go_sem] Oper.semAt_some
theorem kC0.at_walk {w:World}{fv:Value}{F:Nat→Int}(hf:kC0 w fv (kAk F 1114112))(r:Int)(hr:wf32 r):
  Calls Tryz.prog 122 #[fv,.int .i32 r] w fun e w'=>e= .returned (.int .i64 (F (kAi r)))∧Below w.heap.size w w':=kPk w fv F 1114112 rfl hf r hr.1 hr.2
structure kL0 (F:Nat→Nat→Int):Prop where
 c:∀r,r≤1114111→1≤F 0 r∧F 0 r≤23
 b:∀r,r≤1114111→ -1114112≤F 1 r∧F 1 r≤1114112
 t:∀r,r≤1114111→0≤F 2 r∧F 2 r≤1114112
 m:∀r,r≤1114111→0≤F 3 r∧F 3 r≤1114112
theorem kDr (w:World)(f:Value)(F:Nat→Nat→Int)(hf:kBf w f F)(hfit:kL0 F)(r:Int)(hr:wf32 r):
  Calls Tryz.prog 121 #[f,.int .i32 r] w fun e w'=>e= .returned (.tuple #[.int .i32 (brO (F 1 (kAi r))),.int .u8 (brS (F 1 (kAi r)))])∧Below w.heap.size w w':=by
 have hv:=hfit.b (kAi r) (kBl r);obtain⟨x0,x1,x2,x3,x4,x5,x6,x7,rfl,g0,g1,g2,g3⟩:=hf;obtain⟨⟨xa0,xn0,xc0,rfl⟩,⟨xa1,xn1,xc1,rfl⟩⟩:=g0.slices;obtain⟨⟨xa2,xn2,xc2,rfl⟩,⟨xa3,xn3,xc3,rfl⟩⟩:=g1.slices;obtain⟨⟨xa4,xn4,xc4,rfl⟩,⟨xa5,xn5,xc5,rfl⟩⟩:=g2.slices;obtain⟨⟨xa6,xn6,xc6,rfl⟩,⟨xa7,xn7,xc7,rfl⟩⟩:=g3.slices;have HF:=jH (show kBf w (.agg #[.slice xa0 xn0 xc0,.slice xa1 xn1 xc1,.slice xa2 xn2 xc2,.slice xa3 xn3 xc3,.slice xa4 xn4 xc4,.slice xa5 xn5 xc5,.slice xa6 xn6 xc6,.slice xa7 xn7 xc7]) F from⟨_,_,_,_,_,_,_,_,rfl,g0,g1,g2,g3⟩);have HG:=jH (And.intro g0 (And.intro g1 (And.intro g2 g3)));clear g0 g1 g2 g3;have HA:=jH (jN w (.cells #[.slice xa0 xn0 xc0,.slice xa1 xn1 xc1,.slice xa2 xn2 xc2,.slice xa3 xn3 xc3,.slice xa4 xn4 xc4,.slice xa5 xn5 xc5,.slice xa6 xn6 xc6,.slice xa7 xn7 xc7] 37));have HB:=jH ((Below.refl _ w).alloc jR (.cells #[.slice xa0 xn0 xc0,.slice xa1 xn1 xc1,.slice xa2 xn2 xc2,.slice xa3 xn3 xc3,.slice xa4 xn4 xc4,.slice xa5 xn5 xc5,.slice xa6 xn6 xc6,.slice xa7 xn7 xc7] 37))
 go_enter Tryz.func121,Tryz.ntmps121
 go_upto_region 1 with(fail)
 obtain⟨b0,hb0⟩:∃b0,b0=w.heap.size:=⟨_,rfl⟩
 rw[←hb0]at HA ⊢;clear hb0;generalize w.alloc (.cells #[.slice xa0 xn0 xc0,.slice xa1 xn1 xc1,.slice xa2 xn2 xc2,.slice xa3 xn3 xc3,.slice xa4 xn4 xc4,.slice xa5 xn5 xc5,.slice xa6 xn6 xc6,.slice xa7 xn7 xc7] 37)=w1 at*;have q0:=jK w1 b0 0 _ _ (0,0) HA.out;have q1:=jK w1 b0 1 _ _ (0,0) HA.out;have q2:=jK w1 b0 2 _ _ (0,0) HA.out;have q3:=jK w1 b0 3 _ _ (0,0) HA.out;have q4:=jK w1 b0 4 _ _ (0,0) HA.out;have q5:=jK w1 b0 5 _ _ (0,0) HA.out;have q6:=jK w1 b0 6 _ _ (0,0) HA.out;have q7:=jK w1 b0 7 _ _ (0,0) HA.out;simp at q0 q1 q2 q3 q4 q5 q6 q7;have HAt:=jH ((HG.out.2.1.below HB.out).at_walk r hr)
 obtain⟨v,hve⟩:∃v,v=F 1 (kAi r):=⟨_,rfl⟩
 rw[←hve]at hv HAt;have HVe:=jH hve;clear hfit hve
 go_wp2_with fail
 refine HAt.out.mono ?_;rintro e w2 ⟨rfl,hb⟩;have HB2:=jH (HB.out.trans (hb.mono HB.out.size));clear hb HAt HA q0 q1 q2 q3 q4 q5 q6 q7
 by_cases h1:0<v
 ·have e1:IntKind.i32.wrap (v - 1)=v - 1:=IntWalk.i32_in _ (by omega);have HO:=jH (show brO v=v - 1 from if_pos h1);have HS:=jH (show brS v=1 from if_pos h1);go_wp2
  refine jS (v:= .tuple #[.int .i32 (v - 1),.int .u8 1]) (by simp[results,Tryz.results121,go_sem]) rfl ?_;exact⟨by rw[←HVe.out,HO.out,HS.out],HB2.out⟩
 ·by_cases h2:v<0
  ·have e1:IntKind.i32.wrap (-v - 1)= -v - 1:=IntWalk.i32_in _ (by omega);have HO:=jH (show brO v= -v - 1 by unfold brO;rw[if_neg h1,if_pos h2]);have HS:=jH (show brS v=2 by unfold brS;rw[if_neg h1,if_pos h2]);go_wp2
   refine jS (v:= .tuple #[.int .i32 (-v - 1),.int .u8 2]) (by simp[results,Tryz.results121,go_sem]) rfl ?_;exact⟨by rw[←HVe.out,HO.out,HS.out],HB2.out⟩
  ·have HO:=jH (show brO v=0 by unfold brO;rw[if_neg h1,if_neg h2]);have HS:=jH (show brS v=0 by unfold brS;rw[if_neg h1,if_neg h2]);go_wp2
   refine jS (v:= .tuple #[.int .i32 0,.int .u8 0]) (by simp[results,Tryz.results121,go_sem]) rfl ?_;exact⟨by rw[←HVe.out,HO.out,HS.out],HB2.out⟩
theorem kKh (w:World)(f:Value)(F:Nat→Nat→Int)(hf:kBf w f F)(hfit:kL0 F)(r:Int)(hr:wf32 r):
  Calls Tryz.prog 123 #[f,.int .i32 r] w fun e w'=>e= .returned (.int .i32 (twF (F 2) (kAi r)))∧Below w.heap.size w w':=by
 have hv:=hfit.t (kAi r) (kBl r);have HTw:=jH (show twF (F 2) (kAi r)=if 0<F 2 (kAi r)then F 2 (kAi r) - 1 else((kAi r:Nat):Int)from rfl);obtain⟨x0,x1,x2,x3,x4,x5,x6,x7,rfl,g0,g1,g2,g3⟩:=hf;obtain⟨⟨xa0,xn0,xc0,rfl⟩,⟨xa1,xn1,xc1,rfl⟩⟩:=g0.slices;obtain⟨⟨xa2,xn2,xc2,rfl⟩,⟨xa3,xn3,xc3,rfl⟩⟩:=g1.slices;obtain⟨⟨xa4,xn4,xc4,rfl⟩,⟨xa5,xn5,xc5,rfl⟩⟩:=g2.slices;obtain⟨⟨xa6,xn6,xc6,rfl⟩,⟨xa7,xn7,xc7,rfl⟩⟩:=g3.slices;have HF:=jH (show kBf w (.agg #[.slice xa0 xn0 xc0,.slice xa1 xn1 xc1,.slice xa2 xn2 xc2,.slice xa3 xn3 xc3,.slice xa4 xn4 xc4,.slice xa5 xn5 xc5,.slice xa6 xn6 xc6,.slice xa7 xn7 xc7]) F from⟨_,_,_,_,_,_,_,_,rfl,g0,g1,g2,g3⟩);have HG:=jH (And.intro g0 (And.intro g1 (And.intro g2 g3)));clear g0 g1 g2 g3;have HA:=jH (jN w (.cells #[.slice xa0 xn0 xc0,.slice xa1 xn1 xc1,.slice xa2 xn2 xc2,.slice xa3 xn3 xc3,.slice xa4 xn4 xc4,.slice xa5 xn5 xc5,.slice xa6 xn6 xc6,.slice xa7 xn7 xc7] 37));have HB:=jH ((Below.refl _ w).alloc jR (.cells #[.slice xa0 xn0 xc0,.slice xa1 xn1 xc1,.slice xa2 xn2 xc2,.slice xa3 xn3 xc3,.slice xa4 xn4 xc4,.slice xa5 xn5 xc5,.slice xa6 xn6 xc6,.slice xa7 xn7 xc7] 37))
 go_enter Tryz.func123,Tryz.ntmps123
 go_upto_region 1 with(fail)
 obtain⟨b0,hb0⟩:∃b0,b0=w.heap.size:=⟨_,rfl⟩
 rw[←hb0]at HA ⊢;clear hb0;generalize w.alloc (.cells #[.slice xa0 xn0 xc0,.slice xa1 xn1 xc1,.slice xa2 xn2 xc2,.slice xa3 xn3 xc3,.slice xa4 xn4 xc4,.slice xa5 xn5 xc5,.slice xa6 xn6 xc6,.slice xa7 xn7 xc7] 37)=w1 at*;have q0:=jK w1 b0 0 _ _ (0,0) HA.out;have q1:=jK w1 b0 1 _ _ (0,0) HA.out;have q2:=jK w1 b0 2 _ _ (0,0) HA.out;have q3:=jK w1 b0 3 _ _ (0,0) HA.out;have q4:=jK w1 b0 4 _ _ (0,0) HA.out;have q5:=jK w1 b0 5 _ _ (0,0) HA.out;have q6:=jK w1 b0 6 _ _ (0,0) HA.out;have q7:=jK w1 b0 7 _ _ (0,0) HA.out;simp at q0 q1 q2 q3 q4 q5 q6 q7;have HAt:=jH ((HG.out.2.2.1.below HB.out).at_walk r hr)
 obtain⟨v,hve⟩:∃v,v=F 2 (kAi r):=⟨_,rfl⟩
 rw[←hve]at hv HAt HTw;clear hfit hve
 go_wp2_with fail
 refine HAt.out.mono ?_;rintro e w2 ⟨rfl,hb⟩;have HB2:=jH (HB.out.trans (hb.mono HB.out.size));clear hb HAt HA q0 q1 q2 q3 q4 q5 q6 q7
 by_cases h1:v=0
 ·have HO:=jH (HTw.out.trans (if_neg (show ¬0<v by omega)));subst h1
  go_wp2_with fail
  refine(kDz r w2).mono ?_;rintro e w3 ⟨rfl,rfl⟩;go_wp2
  go_ret
  exact⟨by rw[HO.out];rfl,HB2.out⟩
 ·have e1:IntKind.i32.wrap (v - 1)=v - 1:=IntWalk.i32_in _ (by omega);have hd:(v==0)=false:=beq_false_of_ne h1;have HO:=jH (HTw.out.trans (if_pos (show 0<v by omega)));go_wp2
  go_ret
  exact⟨by rw[HO.out];rfl,HB2.out⟩
end Go.Proofs.YtbmphakfgoompaaGreat

namespace Go.Proofs.YtbmphakfgoompaaGreat
open Go.RowKit
attribute [local go_sem] Oper.semAt_some
theorem brS_nz (v:Int):(v != 0)=(brS v != 0):=by
 unfold brS
 by_cases h1:0<v
 ·rw[if_pos h1];simp;omega
 ·rw[if_neg h1]
  by_cases h2:v<0
  ·rw[if_pos h2];simp;omega
  ·rw[if_neg h2];simp;omega
theorem kTy (v:Int)(r:Nat):(v != 0&&(v==(r:Nat)+1))=(v==((r:Nat):Int)+1):=by
 by_cases h:v=((r:Nat):Int)+1
 ·rw[h];simp;omega
 ·rw[beq_false_of_ne h];simp
theorem kNg (w:World)(f:Value)(F:Nat→Nat→Int)(hf:kBf w f F)(hfit:kL0 F)(r:Nat)(hr:r≤1114111):
  Calls Tryz.prog 93 #[f,.int .i32 (r:Nat)] w fun e w'=>e= .returned (.bool (kBu (F 0) (F 1) (F 2) (F 3) r))∧Below w.heap.size w w':=by
 have hv:=hfit.b r hr;have hol:=kP5 hv;have htv:=hfit.t r hr;have HW:Hid (kBu (F 0) (F 1) (F 2) (F 3) r=(((F 1 r != 0)&&kSk (F 0) (F 1) r)||((F 2 r != 0)&&kDe (F 1) (F 2) r)||(F 3 r==((r:Nat):Int)+1))):=jH (by unfold kBu kNx;rw[kTy]);have HOd:Hid (kSk (F 0) (F 1) r=(brS (F 1 (kAi (brO (F 1 r))))==0||brS (F 1 (kAi (brO (F 1 r))))==brS (F 1 r)||brO (F 1 (kAi (brO (F 1 r)))) != (r:Nat)||F 0 r != 14)):=jH rfl
 have HSt0:Hid (F 2 r≠0→kDe (F 1) (F 2) r=(brS (F 1 r)==0||F 2 r - 1==((r:Nat):Int)||brS (F 1 (kAi (F 2 r - 1))) != brS (F 1 r)||F 2 (kAi (F 2 r - 1)) != 0||brO (F 1 (kAi (F 2 r - 1))) != twF (F 2) (kAi (brO (F 1 r))))):=jH (fun h=>by
  have e:twF (F 2) r=F 2 r - 1:=if_pos (by omega);unfold kDe
  rw[e])
 have HB1:=jH (fun(W:World) (hb:Below w.heap.size w W)=>kDr W f F (hf.below hb) hfit (r:Nat) (by unfold wf32;omega));have HB2:=jH (fun(W:World) (hb:Below w.heap.size w W)=>kDr W f F (hf.below hb) hfit (brO (F 1 r)) (by unfold wf32;omega));have HBt:=jH (fun(W:World) (hb:Below w.heap.size w W)=>kDr W f F (hf.below hb) hfit (F 2 r - 1) (by unfold wf32;omega));have HTw:=jH (fun(W:World) (hb:Below w.heap.size w W)=>kKh W f F (hf.below hb) hfit (brO (F 1 r)) (by unfold wf32;omega));obtain⟨x0,x1,x2,x3,x4,x5,x6,x7,rfl,g0,g1,g2,g3⟩:=hf;obtain⟨⟨xa0,xn0,xc0,rfl⟩,⟨xa1,xn1,xc1,rfl⟩⟩:=g0.slices;obtain⟨⟨xa2,xn2,xc2,rfl⟩,⟨xa3,xn3,xc3,rfl⟩⟩:=g1.slices;obtain⟨⟨xa4,xn4,xc4,rfl⟩,⟨xa5,xn5,xc5,rfl⟩⟩:=g2.slices;obtain⟨⟨xa6,xn6,xc6,rfl⟩,⟨xa7,xn7,xc7,rfl⟩⟩:=g3.slices;have HF:=jH (show kBf w (.agg #[.slice xa0 xn0 xc0,.slice xa1 xn1 xc1,.slice xa2 xn2 xc2,.slice xa3 xn3 xc3,.slice xa4 xn4 xc4,.slice xa5 xn5 xc5,.slice xa6 xn6 xc6,.slice xa7 xn7 xc7]) F from⟨_,_,_,_,_,_,_,_,rfl,g0,g1,g2,g3⟩);have HG:=jH (And.intro g0 (And.intro g1 (And.intro g2 g3)));clear g0 g1 g2 g3;have HA_w1:=jH (jN w (.cells #[.slice xa0 xn0 xc0,.slice xa1 xn1 xc1,.slice xa2 xn2 xc2,.slice xa3 xn3 xc3,.slice xa4 xn4 xc4,.slice xa5 xn5 xc5,.slice xa6 xn6 xc6,.slice xa7 xn7 xc7] 37));have HB_w1:=jH ((Below.refl _ w).alloc jR (.cells #[.slice xa0 xn0 xc0,.slice xa1 xn1 xc1,.slice xa2 xn2 xc2,.slice xa3 xn3 xc3,.slice xa4 xn4 xc4,.slice xa5 xn5 xc5,.slice xa6 xn6 xc6,.slice xa7 xn7 xc7] 37))
 go_enter Tryz.func93,Tryz.ntmps93
 go_upto_region 1 with(fail)
 obtain⟨b0,hb0⟩:∃b0,b0=w.heap.size:=⟨_,rfl⟩
 rw[←hb0]at HA_w1 ⊢;clear hb0;generalize w.alloc (.cells #[.slice xa0 xn0 xc0,.slice xa1 xn1 xc1,.slice xa2 xn2 xc2,.slice xa3 xn3 xc3,.slice xa4 xn4 xc4,.slice xa5 xn5 xc5,.slice xa6 xn6 xc6,.slice xa7 xn7 xc7] 37)=w1 at*;have q0:=jK w1 b0 0 _ _ (0,0) HA_w1.out;have q1:=jK w1 b0 1 _ _ (0,0) HA_w1.out;have q2:=jK w1 b0 2 _ _ (0,0) HA_w1.out;have q3:=jK w1 b0 3 _ _ (0,0) HA_w1.out;have q4:=jK w1 b0 4 _ _ (0,0) HA_w1.out;have q5:=jK w1 b0 5 _ _ (0,0) HA_w1.out;have q6:=jK w1 b0 6 _ _ (0,0) HA_w1.out;have q7:=jK w1 b0 7 _ _ (0,0) HA_w1.out;simp at q0 q1 q2 q3 q4 q5 q6 q7;have HCt:=jH (fun(W:World) (hb:Below w.heap.size w W)=>(HG.out.1.below hb).at_walk (r:Nat) (by unfold wf32;omega));have HTt:=jH (fun(W:World) (hb:Below w.heap.size w W)=>(HG.out.2.2.1.below hb).at_walk (r:Nat) (by unfold wf32;omega));have HTt1:=jH (fun(W:World) (hb:Below w.heap.size w W)=>(HG.out.2.2.1.below hb).at_walk (F 2 r - 1) (by unfold wf32;omega));have HMt:=jH (fun(W:World) (hb:Below w.heap.size w W)=>(HG.out.2.2.2.below hb).at_walk (r:Nat) (by unfold wf32;omega));have hrr:kAi ((r:Nat):Int)=r:=kEw hr;rw[hrr]at HB1 HCt HTt HMt;have HVs:=jH (brS_nz (F 1 r));clear hfit HF HG hrr hv
 obtain⟨wv,hwv⟩:∃wv,wv=kBu (F 0) (F 1) (F 2) (F 3) r:=⟨_,rfl⟩
 rw[←hwv]at HW;have HWv:=jH hwv;clear hwv;generalize kSk (F 0) (F 1) r=od at*;generalize kDe (F 1) (F 2) r=st at*;generalize brO (F 1 (kAi (brO (F 1 r))))=p at*;generalize brS (F 1 (kAi (brO (F 1 r))))=t at*;generalize brO (F 1 (kAi (F 2 r - 1)))=p2 at*;generalize brS (F 1 (kAi (F 2 r - 1)))=u at*;generalize F 2 (kAi (F 2 r - 1))=tt at*;generalize twF (F 2) (kAi (brO (F 1 r)))=tw at*;generalize brO (F 1 r)=o at*;generalize brS (F 1 r)=s at*;generalize F 0 r=c at*;generalize F 1 r=v at*;generalize F 2 r=tv at*;generalize F 3 r=mv at*
 go_wp2_with fail
 refine(HB1.out w1 HB_w1.out).mono ?_;rintro e w2 ⟨rfl,hb⟩;have HB_w2:=jH (HB_w1.out.trans (hb.mono HB_w1.out.size));have HA_w2:=jH ((hb.block b0 (jL HA_w1.out)).trans HA_w1.out);clear hb q0 q1 q2 q3 q4 q5 q6 q7;have q0:=jK w2 b0 0 _ _ (0,0) HA_w2.out;have q1:=jK w2 b0 1 _ _ (0,0) HA_w2.out;have q2:=jK w2 b0 2 _ _ (0,0) HA_w2.out;have q3:=jK w2 b0 3 _ _ (0,0) HA_w2.out;have q4:=jK w2 b0 4 _ _ (0,0) HA_w2.out;have q5:=jK w2 b0 5 _ _ (0,0) HA_w2.out;have q6:=jK w2 b0 6 _ _ (0,0) HA_w2.out;have q7:=jK w2 b0 7 _ _ (0,0) HA_w2.out;simp at q0 q1 q2 q3 q4 q5 q6 q7
 by_cases hs:s=0
 ·have HS0:Hid ((s != 0)=false):=jH (by simp[hs]);have hd:(s != 0)=false:=HS0.out;have HSt:Hid (tv≠0→st=(s==0||tv - 1==((r:Nat):Int)||u != s||tt != 0||p2 != tw)):=HSt0;clear hs
  go_wp2_with fail
  refine(HTt.out w2 HB_w2.out).mono ?_;rintro e w5 ⟨rfl,hb⟩;have HB_w5:=jH (HB_w2.out.trans (hb.mono HB_w2.out.size));have HA_w5:=jH ((hb.block b0 (jL HA_w2.out)).trans HA_w2.out);clear hb q0 q1 q2 q3 q4 q5 q6 q7;have q0:=jK w5 b0 0 _ _ (0,0) HA_w5.out;have q1:=jK w5 b0 1 _ _ (0,0) HA_w5.out;have q2:=jK w5 b0 2 _ _ (0,0) HA_w5.out;have q3:=jK w5 b0 3 _ _ (0,0) HA_w5.out;have q4:=jK w5 b0 4 _ _ (0,0) HA_w5.out;have q5:=jK w5 b0 5 _ _ (0,0) HA_w5.out;have q6:=jK w5 b0 6 _ _ (0,0) HA_w5.out;have q7:=jK w5 b0 7 _ _ (0,0) HA_w5.out;simp at q0 q1 q2 q3 q4 q5 q6 q7
  by_cases htv:tv=0
  ·have hd:(tv != 0)=false:=by simp[htv]
   have HD:=jH hd;clear htv
   go_wp2_with fail
   refine(HMt.out w5 HB_w5.out).mono ?_;rintro e w9 ⟨rfl,hb⟩;have HB_w9:=jH (HB_w5.out.trans (hb.mono HB_w5.out.size));have HA_w9:=jH ((hb.block b0 (jL HA_w5.out)).trans HA_w5.out);clear hb q0 q1 q2 q3 q4 q5 q6 q7;have q0:=jK w9 b0 0 _ _ (0,0) HA_w9.out;have q1:=jK w9 b0 1 _ _ (0,0) HA_w9.out;have q2:=jK w9 b0 2 _ _ (0,0) HA_w9.out;have q3:=jK w9 b0 3 _ _ (0,0) HA_w9.out;have q4:=jK w9 b0 4 _ _ (0,0) HA_w9.out;have q5:=jK w9 b0 5 _ _ (0,0) HA_w9.out;have q6:=jK w9 b0 6 _ _ (0,0) HA_w9.out;have q7:=jK w9 b0 7 _ _ (0,0) HA_w9.out;simp at q0 q1 q2 q3 q4 q5 q6 q7;have HV:=jH (show wv=(mv==((r:Nat):Int)+1) by rw[HW.out,HD.out,HVs.out,HS0.out];simp);go_wp2
   go_ret
   exact⟨by rw[←HWv.out,HV.out];rfl,HB_w9.out⟩
  ·have hd:(tv != 0)=true:=by simp[htv]
   have HD:=jH hd;have e1:IntKind.i32.wrap (tv - 1)=tv - 1:=IntWalk.i32_in _ (by omega);have HTv:=jH htv;clear htv
   go_wp2_with fail
   refine(HBt.out w5 HB_w5.out).mono ?_;rintro e w6 ⟨rfl,hb⟩;have HB_w6:=jH (HB_w5.out.trans (hb.mono HB_w5.out.size));have HA_w6:=jH ((hb.block b0 (jL HA_w5.out)).trans HA_w5.out);clear hb q0 q1 q2 q3 q4 q5 q6 q7;have q0:=jK w6 b0 0 _ _ (0,0) HA_w6.out;have q1:=jK w6 b0 1 _ _ (0,0) HA_w6.out;have q2:=jK w6 b0 2 _ _ (0,0) HA_w6.out;have q3:=jK w6 b0 3 _ _ (0,0) HA_w6.out;have q4:=jK w6 b0 4 _ _ (0,0) HA_w6.out;have q5:=jK w6 b0 5 _ _ (0,0) HA_w6.out;have q6:=jK w6 b0 6 _ _ (0,0) HA_w6.out;have q7:=jK w6 b0 7 _ _ (0,0) HA_w6.out;simp at q0 q1 q2 q3 q4 q5 q6 q7
   have hs0:(s==0)=true:=by have:=HS0.out;simpa using this
   have HV:=jH (show wv=true by rw[HW.out,HSt.out HTv.out,HD.out,hs0];simp);go_wp2
   go_ret
   exact⟨by rw[←HWv.out,HV.out];rfl,HB_w6.out⟩
 ·have HS0:Hid ((s != 0)=true):=jH (by simp[hs]);have hd:(s != 0)=true:=HS0.out;have HSt:Hid (tv≠0→st=(s==0||tv - 1==((r:Nat):Int)||u != s||tt != 0||p2 != tw)):=HSt0;clear hs
  go_wp2_with fail
  refine(HB2.out w2 HB_w2.out).mono ?_;rintro e w3 ⟨rfl,hb⟩;have HB_w3:=jH (HB_w2.out.trans (hb.mono HB_w2.out.size));have HA_w3:=jH ((hb.block b0 (jL HA_w2.out)).trans HA_w2.out);clear hb q0 q1 q2 q3 q4 q5 q6 q7;have q0:=jK w3 b0 0 _ _ (0,0) HA_w3.out;have q1:=jK w3 b0 1 _ _ (0,0) HA_w3.out;have q2:=jK w3 b0 2 _ _ (0,0) HA_w3.out;have q3:=jK w3 b0 3 _ _ (0,0) HA_w3.out;have q4:=jK w3 b0 4 _ _ (0,0) HA_w3.out;have q5:=jK w3 b0 5 _ _ (0,0) HA_w3.out;have q6:=jK w3 b0 6 _ _ (0,0) HA_w3.out;have q7:=jK w3 b0 7 _ _ (0,0) HA_w3.out;simp at q0 q1 q2 q3 q4 q5 q6 q7
  go_upto_region 4 with(fail)
  go_cut [44]from 26 to 44 (fun x wx=>x= .bool od∧wx.heap[b0]? =some (.cells #[.slice xa0 xn0 xc0,.slice xa1 xn1 xc1,.slice xa2 xn2 xc2,.slice xa3 xn3 xc3,.slice xa4 xn4 xc4,.slice xa5 xn5 xc5,.slice xa6 xn6 xc6,.slice xa7 xn7 xc7] 37 (0,0))∧Below w.heap.size w wx)
  case first=>
   by_cases c1:(p != ((r:Nat):Int))=true
   ·have HV:=jH (show od=true by rw[HOd.out,c1];simp);go_wp2
    go_meet
    case rel=>exact⟨by rw[HV.out],HA_w3.out,HB_w3.out⟩
   ·have c1:=Bool.eq_false_iff.2 c1
    by_cases c2:(t==0)=true
    ·have HV:=jH (show od=true by rw[HOd.out,c2];simp);go_wp2
     go_meet
     case rel=>exact⟨by rw[HV.out],HA_w3.out,HB_w3.out⟩
    ·have c2:=Bool.eq_false_iff.2 c2
     by_cases c3:(t==s)=true
     ·have HV:=jH (show od=true by rw[HOd.out,c3];simp);go_wp2
      go_meet
      case rel=>exact⟨by rw[HV.out],HA_w3.out,HB_w3.out⟩
     ·have c3:=Bool.eq_false_iff.2 c3;have HC:=jH (And.intro c1 (And.intro c2 c3))
      go_wp2_with fail
      refine(HCt.out w3 HB_w3.out).mono ?_;rintro e w4 ⟨rfl,hb⟩;have HB_w4:=jH (HB_w3.out.trans (hb.mono HB_w3.out.size));have HA_w4:=jH ((hb.block b0 (jL HA_w3.out)).trans HA_w3.out);clear hb q0 q1 q2 q3 q4 q5 q6 q7;have q0:=jK w4 b0 0 _ _ (0,0) HA_w4.out;have q1:=jK w4 b0 1 _ _ (0,0) HA_w4.out;have q2:=jK w4 b0 2 _ _ (0,0) HA_w4.out;have q3:=jK w4 b0 3 _ _ (0,0) HA_w4.out;have q4:=jK w4 b0 4 _ _ (0,0) HA_w4.out;have q5:=jK w4 b0 5 _ _ (0,0) HA_w4.out;have q6:=jK w4 b0 6 _ _ (0,0) HA_w4.out;have q7:=jK w4 b0 7 _ _ (0,0) HA_w4.out;simp at q0 q1 q2 q3 q4 q5 q6 q7;have HV:=jH (show od=(c != 14) by rw[HOd.out,HC.out.1,HC.out.2.1,HC.out.2.2];simp);go_wp2
      go_meet
      case rel=>exact⟨by rw[HV.out],HA_w4.out,HB_w4.out⟩
  case rest=>
  obtain⟨rfl,hA10,hB10⟩:=hcut
  have HA_wc:=jH hA10;have HB_wc:=jH hB10
  clear hA10 hB10 q0 q1 q2 q3 q4 q5 q6 q7
  cases od
  ·have HOdF:Hid (∀x:Bool,(x&&false)=false):=jH (fun x=>by cases x<;>rfl)
   obtain⟨w4,hw4⟩:∃w4,w4=wc:=⟨_,rfl⟩
   rw[←hw4]at HA_wc HB_wc ⊢;clear hw4;have HA_w4:=jH HA_wc.out;have HB_w4:=jH HB_wc.out;have q0:=jK w4 b0 0 _ _ (0,0) HA_w4.out;have q1:=jK w4 b0 1 _ _ (0,0) HA_w4.out;have q2:=jK w4 b0 2 _ _ (0,0) HA_w4.out;have q3:=jK w4 b0 3 _ _ (0,0) HA_w4.out;have q4:=jK w4 b0 4 _ _ (0,0) HA_w4.out;have q5:=jK w4 b0 5 _ _ (0,0) HA_w4.out;have q6:=jK w4 b0 6 _ _ (0,0) HA_w4.out;have q7:=jK w4 b0 7 _ _ (0,0) HA_w4.out;simp at q0 q1 q2 q3 q4 q5 q6 q7
   go_wp2_with fail
   refine(HTt.out w4 HB_w4.out).mono ?_;rintro e w5 ⟨rfl,hb⟩;have HB_w5:=jH (HB_w4.out.trans (hb.mono HB_w4.out.size));have HA_w5:=jH ((hb.block b0 (jL HA_w4.out)).trans HA_w4.out);clear hb q0 q1 q2 q3 q4 q5 q6 q7;have q0:=jK w5 b0 0 _ _ (0,0) HA_w5.out;have q1:=jK w5 b0 1 _ _ (0,0) HA_w5.out;have q2:=jK w5 b0 2 _ _ (0,0) HA_w5.out;have q3:=jK w5 b0 3 _ _ (0,0) HA_w5.out;have q4:=jK w5 b0 4 _ _ (0,0) HA_w5.out;have q5:=jK w5 b0 5 _ _ (0,0) HA_w5.out;have q6:=jK w5 b0 6 _ _ (0,0) HA_w5.out;have q7:=jK w5 b0 7 _ _ (0,0) HA_w5.out;simp at q0 q1 q2 q3 q4 q5 q6 q7
   by_cases htv:tv=0
   ·have hd:(tv != 0)=false:=by simp[htv]
    have HD:=jH hd;clear htv
    go_wp2_with fail
    refine(HMt.out w5 HB_w5.out).mono ?_;rintro e w9 ⟨rfl,hb⟩;have HB_w9:=jH (HB_w5.out.trans (hb.mono HB_w5.out.size));have HA_w9:=jH ((hb.block b0 (jL HA_w5.out)).trans HA_w5.out);clear hb q0 q1 q2 q3 q4 q5 q6 q7;have q0:=jK w9 b0 0 _ _ (0,0) HA_w9.out;have q1:=jK w9 b0 1 _ _ (0,0) HA_w9.out;have q2:=jK w9 b0 2 _ _ (0,0) HA_w9.out;have q3:=jK w9 b0 3 _ _ (0,0) HA_w9.out;have q4:=jK w9 b0 4 _ _ (0,0) HA_w9.out;have q5:=jK w9 b0 5 _ _ (0,0) HA_w9.out;have q6:=jK w9 b0 6 _ _ (0,0) HA_w9.out;have q7:=jK w9 b0 7 _ _ (0,0) HA_w9.out;simp at q0 q1 q2 q3 q4 q5 q6 q7;have HV:=jH (show wv=(mv==((r:Nat):Int)+1) by rw[HW.out,HD.out,HOdF.out];simp);go_wp2
    go_ret
    exact⟨by rw[←HWv.out,HV.out];rfl,HB_w9.out⟩
   ·have hd:(tv != 0)=true:=by simp[htv]
    have HD:=jH hd;have e1:IntKind.i32.wrap (tv - 1)=tv - 1:=IntWalk.i32_in _ (by omega);have HTv:=jH htv;clear htv
    go_wp2_with fail
    refine(HBt.out w5 HB_w5.out).mono ?_;rintro e w6 ⟨rfl,hb⟩;have HB_w6:=jH (HB_w5.out.trans (hb.mono HB_w5.out.size));have HA_w6:=jH ((hb.block b0 (jL HA_w5.out)).trans HA_w5.out);clear hb q0 q1 q2 q3 q4 q5 q6 q7;have q0:=jK w6 b0 0 _ _ (0,0) HA_w6.out;have q1:=jK w6 b0 1 _ _ (0,0) HA_w6.out;have q2:=jK w6 b0 2 _ _ (0,0) HA_w6.out;have q3:=jK w6 b0 3 _ _ (0,0) HA_w6.out;have q4:=jK w6 b0 4 _ _ (0,0) HA_w6.out;have q5:=jK w6 b0 5 _ _ (0,0) HA_w6.out;have q6:=jK w6 b0 6 _ _ (0,0) HA_w6.out;have q7:=jK w6 b0 7 _ _ (0,0) HA_w6.out;simp at q0 q1 q2 q3 q4 q5 q6 q7
    have hs0:(s==0)=false:=by have:=HS0.out;simpa using this
    go_upto_region 9 with(fail)
    go_cut [88]from 59 to 88 (fun x wx=>x= .bool st∧wx.heap[b0]? =some (.cells #[.slice xa0 xn0 xc0,.slice xa1 xn1 xc1,.slice xa2 xn2 xc2,.slice xa3 xn3 xc3,.slice xa4 xn4 xc4,.slice xa5 xn5 xc5,.slice xa6 xn6 xc6,.slice xa7 xn7 xc7] 37 (0,0))∧Below w.heap.size w wx)
    case first=>
     by_cases c1:(tv - 1==((r:Nat):Int))=true
     ·have HV:=jH (show st=true by rw[HSt.out HTv.out,c1];simp);go_wp2
      go_meet
      case rel=>exact⟨by rw[HV.out],HA_w6.out,HB_w6.out⟩
     ·have c1:=Bool.eq_false_iff.2 c1
      by_cases c2:(u != s)=true
      ·have HV:=jH (show st=true by rw[HSt.out HTv.out,c2];simp);go_wp2
       go_meet
       case rel=>exact⟨by rw[HV.out],HA_w6.out,HB_w6.out⟩
      ·have c2:=Bool.eq_false_iff.2 c2
       go_wp2_with fail
       refine(HTt1.out w6 HB_w6.out).mono ?_;rintro e w7 ⟨rfl,hb⟩;have HB_w7:=jH (HB_w6.out.trans (hb.mono HB_w6.out.size));have HA_w7:=jH ((hb.block b0 (jL HA_w6.out)).trans HA_w6.out);clear hb q0 q1 q2 q3 q4 q5 q6 q7;have q0:=jK w7 b0 0 _ _ (0,0) HA_w7.out;have q1:=jK w7 b0 1 _ _ (0,0) HA_w7.out;have q2:=jK w7 b0 2 _ _ (0,0) HA_w7.out;have q3:=jK w7 b0 3 _ _ (0,0) HA_w7.out;have q4:=jK w7 b0 4 _ _ (0,0) HA_w7.out;have q5:=jK w7 b0 5 _ _ (0,0) HA_w7.out;have q6:=jK w7 b0 6 _ _ (0,0) HA_w7.out;have q7:=jK w7 b0 7 _ _ (0,0) HA_w7.out;simp at q0 q1 q2 q3 q4 q5 q6 q7
       by_cases c3:(tt != 0)=true
       ·have HV:=jH (show st=true by rw[HSt.out HTv.out,c3];simp);go_wp2
        go_meet
        case rel=>exact⟨by rw[HV.out],HA_w7.out,HB_w7.out⟩
       ·have c3:=Bool.eq_false_iff.2 c3;have HC:=jH (And.intro c1 (And.intro c2 (And.intro c3 hs0)))
        go_wp2_with fail
        refine(HTw.out w7 HB_w7.out).mono ?_;rintro e w8 ⟨rfl,hb⟩;have HB_w8:=jH (HB_w7.out.trans (hb.mono HB_w7.out.size));have HA_w8:=jH ((hb.block b0 (jL HA_w7.out)).trans HA_w7.out);clear hb q0 q1 q2 q3 q4 q5 q6 q7;have q0:=jK w8 b0 0 _ _ (0,0) HA_w8.out;have q1:=jK w8 b0 1 _ _ (0,0) HA_w8.out;have q2:=jK w8 b0 2 _ _ (0,0) HA_w8.out;have q3:=jK w8 b0 3 _ _ (0,0) HA_w8.out;have q4:=jK w8 b0 4 _ _ (0,0) HA_w8.out;have q5:=jK w8 b0 5 _ _ (0,0) HA_w8.out;have q6:=jK w8 b0 6 _ _ (0,0) HA_w8.out;have q7:=jK w8 b0 7 _ _ (0,0) HA_w8.out;simp at q0 q1 q2 q3 q4 q5 q6 q7;have HV:=jH (show st=(p2 != tw) by rw[HSt.out HTv.out,HC.out.1,HC.out.2.1,HC.out.2.2.1,HC.out.2.2.2];simp);go_wp2
        go_meet
        case rel=>exact⟨by rw[HV.out],HA_w8.out,HB_w8.out⟩
    case rest=>
    obtain⟨rfl,hA10,hB10⟩:=hcut
    have HA_wc:=jH hA10;have HB_wc:=jH hB10
    clear hA10 hB10 q0 q1 q2 q3 q4 q5 q6 q7;have q0:=jK wc b0 0 _ _ (0,0) HA_wc.out;have q1:=jK wc b0 1 _ _ (0,0) HA_wc.out;have q2:=jK wc b0 2 _ _ (0,0) HA_wc.out;have q3:=jK wc b0 3 _ _ (0,0) HA_wc.out;have q4:=jK wc b0 4 _ _ (0,0) HA_wc.out;have q5:=jK wc b0 5 _ _ (0,0) HA_wc.out;have q6:=jK wc b0 6 _ _ (0,0) HA_wc.out;have q7:=jK wc b0 7 _ _ (0,0) HA_wc.out;simp at q0 q1 q2 q3 q4 q5 q6 q7
    cases st
    ·have HV0:=jH (show wv=(mv==((r:Nat):Int)+1) by rw[HW.out,HOdF.out];simp)
     go_wp2_with fail
     refine(HMt.out wc HB_wc.out).mono ?_;rintro e w9 ⟨rfl,hb⟩;have HB_w9:=jH (HB_wc.out.trans (hb.mono HB_wc.out.size));have HA_w9:=jH ((hb.block b0 (jL HA_wc.out)).trans HA_wc.out);clear hb q0 q1 q2 q3 q4 q5 q6 q7;have q0:=jK w9 b0 0 _ _ (0,0) HA_w9.out;have q1:=jK w9 b0 1 _ _ (0,0) HA_w9.out;have q2:=jK w9 b0 2 _ _ (0,0) HA_w9.out;have q3:=jK w9 b0 3 _ _ (0,0) HA_w9.out;have q4:=jK w9 b0 4 _ _ (0,0) HA_w9.out;have q5:=jK w9 b0 5 _ _ (0,0) HA_w9.out;have q6:=jK w9 b0 6 _ _ (0,0) HA_w9.out;have q7:=jK w9 b0 7 _ _ (0,0) HA_w9.out;simp at q0 q1 q2 q3 q4 q5 q6 q7;go_wp2
     go_ret
     exact⟨by rw[←HWv.out,HV0.out];rfl,HB_w9.out⟩
    ·have HV:=jH (show wv=true by rw[HW.out,HD.out];simp);go_wp2
     go_ret
     exact⟨by rw[←HWv.out,HV.out];rfl,HB_wc.out⟩
  ·have HV:=jH (show wv=true by rw[HW.out,HVs.out,HS0.out];simp);go_wp2
   go_ret
   exact⟨by rw[←HWv.out,HV.out];rfl,HB_wc.out⟩
end Go.Proofs.YtbmphakfgoompaaGreat
