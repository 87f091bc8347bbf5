/- several texts in one: UC UPL -/
import Derived.Deep.RegionLaw
import Derived.Test.YtbmphakfgoompaaGreatO3
import Derived.Test.YtbmphakfgoompaaGreatOR
import Derived.Test.YtbmphakfgoompaaGreatOPF
set_option linter.unusedVariables false
set_option linter.unusedSimpArgs false
set_option maxRecDepth 100000
set_option maxHeartbeats 16000000
namespace Go.Proofs.YtbmphakfgoompaaGreat
open Go.RowKit
def kOr (o s:Int):Int:=if s=1 then wrap32 (o+1)else wrap32 (-(wrap32 (o+1)))
end Go.Proofs.YtbmphakfgoompaaGreat

namespace Go.Proofs.YtbmphakfgoompaaGreat
open Go.RowKit
def pkC (C:Nat→Int) (r:Nat):Bool:= !kDo (C r)
def pkB (O S:Nat→Int) (r:Nat):Bool:= !(S r==0||(kIo (S r)&&kA9 (O r)))
def pkT (T:Nat→Int) (r:Nat):Bool:= !(T r==(r:Nat)||kA9 (T r))
def pkM (M:Nat→Int) (Hs:Nat→Bool) (r:Nat):Bool:= !(!Hs r||kA9 (M r))
def kH9 (C O S T M:Nat→Int) (Hs:Nat→Bool) (r:Nat):Bool:=pkC C r||pkB O S r||pkT T r||pkM M Hs r
def bkW (O S:Nat→Int) (r:Nat):Int:=if S r=0 then 0 else kOr (O r) (S r)
def twW (T:Nat→Int) (r:Nat):Int:=if T r=(r:Nat)then 0 else wrap32 (T r+1)
def miW (M:Nat→Int) (Hs:Nat→Bool) (r:Nat):Int:=if Hs r=true then wrap32 (M r+1)else 0
def bkF (O S:Nat→Int) (r:Nat):Int:=if S r=0 then 0 else kGl (O r) (S r)
def twP (T:Nat→Int) (r:Nat):Int:=if T r=(r:Nat)then 0 else T r+1
def miF (M:Nat→Int) (Hs:Nat→Bool) (r:Nat):Int:=if Hs r=true then M r+1 else 0
theorem kTw {C O S T M:Nat→Int}{Hs:Nat→Bool}(h:kBd (kH9 C O S T M Hs) 1114112 1114112)(r:Nat)(hr:r≤1114111):bkW O S r=bkF O S r∧twW T r=twP T r∧miW M Hs r=miF M Hs r∧(-1114112≤bkF O S r∧bkF O S r≤1114112)∧(0≤twP T r∧twP T r≤1114112)∧(0≤miF M Hs r∧miF M Hs r≤1114112):=by
 have h1:=h.no r (by omega);simp only[kH9,Bool.or_eq_false_iff,pkC,pkB,pkT,pkM,Bool.not_eq_false',Bool.or_eq_true,Bool.and_eq_true,beq_iff_eq,kA9,kIo,decide_eq_true_eq,Bool.not_eq_true']at h1;obtain⟨⟨⟨-,h2⟩,h3⟩,h4⟩:=h1
 refine⟨?_,?_,?_,?_,?_,?_⟩
 ·unfold bkW bkF
  by_cases e:S r=0
  ·rw[if_pos e,if_pos e]
  ·rw[if_neg e,if_neg e];have h5:=h2.resolve_left e;unfold kOr kGl
   split
   ·unfold wrap32;omega
   ·unfold wrap32;omega
 ·unfold twW twP
  by_cases e:T r=(r:Nat)
  ·rw[if_pos e,if_pos e]
  ·rw[if_neg e,if_neg e];have h5:=h3.resolve_left e
   unfold wrap32;omega
 ·unfold miW miF
  by_cases e:Hs r=true
  ·rw[if_pos e,if_pos e];have h5:=h4.resolve_left (by rw[e];simp)
   unfold wrap32;omega
  ·rw[if_neg e,if_neg e]
 ·unfold bkF
  by_cases e:S r=0
  ·rw[if_pos e];omega
  ·rw[if_neg e];have h5:=h2.resolve_left e;unfold kGl
   split<;>omega
 ·unfold twP
  by_cases e:T r=(r:Nat)
  ·rw[if_pos e];omega
  ·rw[if_neg e];have h5:=h3.resolve_left e;omega
 ·unfold miF
  by_cases e:Hs r=true
  ·rw[if_pos e];have h5:=h4.resolve_left (by rw[e];simp);omega
  ·rw[if_neg e];omega
theorem kNo {f g:Nat→Int}{S:MkS Int}(h:Made8 f S)(e:∀r,r≤1114111→f r=g r):Made8 g S:=by
 obtain⟨K,hK,hS⟩:=h.eq;have:mkF f K=mkF g K:=mkF_congr K (fun r hr=>e r (by omega));rw[hS,this];exact made8 g K hK
theorem kFo {f g:Nat→Int}{S:MkS Int}(h:VJ.Made8 f S)(e:∀r,r≤1114111→f r=g r):VJ.Made8 g S:=by
 obtain⟨K,hK,hS⟩:=h.eq;have:VJ.mkF f K=VJ.mkF g K:=VJ.mkF_congr K (fun r hr=>e r (by omega));rw[hS,this];exact VJ.made8 g K hK
theorem kFc.congr {w:World}{p B:Nat}{c b t m c' b' t' m':Nat→Int}(h:kFc w p c b t m B)(e:∀r,r≤1114111→c r=c' r∧b r=b' r∧t r=t' r∧m r=m' r):kFc w p c' b' t' m' B:=by
 obtain⟨gc,gb,gt,gm,SC,SB,ST,SM,h1,h2,h3,h4,h5,h6,h7⟩:=h
 exact⟨gc,gb,gt,gm,SC,SB,ST,SM,⟨h1.mem,fun r hr=>(h1.c r hr).trans (e r hr).1,fun r hr=>(h1.b r hr).trans (e r hr).2.1,fun r hr=>(h1.t r hr).trans (e r hr).2.2.1,fun r hr=>(h1.m r hr).trans (e r hr).2.2.2⟩,
  kNo h2 (fun r hr=>(e r hr).1),kFo h3 (fun r hr=>(e r hr).2.1),kFo h4 (fun r hr=>(e r hr).2.2.1),kFo h5 (fun r hr=>(e r hr).2.2.2),h6,h7⟩
end Go.Proofs.YtbmphakfgoompaaGreat
