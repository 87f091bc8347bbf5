/- several texts in one: UP U1 U2 U3 U5 -/
import Derived.Test.YtbmphakfgoompaaGreatOT
import Derived.Test.YtbmphakfgoompaaGreatOTW
import Derived.Test.YtbmphakfgoompaaGreatOTD
import Derived.Test.YtbmphakfgoompaaGreatOSJ
import Derived.Test.YtbmphakfgoompaaGreatOST
import Derived.Test.YtbmphakfgoompaaGreatOR
import Derived.Lib.QuietBelow
set_option linter.unusedVariables false
set_option linter.unusedSimpArgs false
set_option maxRecDepth 100000
set_option maxHeartbeats 16000000
namespace Go.Proofs.YtbmphakfgoompaaGreat
structure kBd (p:Nat→Bool) (n m:Nat):Prop where
 le:m≤n
 no:∀r,r<m→p r=false
 yes:m<n→p m=true
theorem kBd.unique {p:Nat→Bool}{n m k:Nat}(h:kBd p n m)(h2:kBd p n k):m=k:=by
 rcases Nat.lt_trichotomy m k with h3 | h3 | h3
 ·have:=h2.no m h3;rw[h.yes (Nat.lt_of_lt_of_le h3 h2.le)]at this;cases this
 ·exact h3
 ·have:=h.no k h3;rw[h2.yes (Nat.lt_of_lt_of_le h3 h.le)]at this;cases this
theorem kBd.min {p q:Nat→Bool}{n a b:Nat}(h:kBd p n a)(h2:kBd q n b):kBd (fun r=>p r||q r) n (Min.min a b) where
 le:=by have:=h.le;omega
 no:=fun r hr=>by show(p r||q r)=false;rw[h.no r (by omega),h2.no r (by omega)];rfl
 yes:=fun hm=>by
  show(p _||q _)=true
  by_cases h3:a≤b
  ·have e:Min.min a b=a:=Nat.min_eq_left h3;rw[e]at hm ⊢
   rw[h.yes hm];rfl
  ·have e:Min.min a b=b:=Nat.min_eq_right (by omega);rw[e]at hm ⊢;rw[h2.yes hm,Bool.or_true]
theorem kBd.congr {p q:Nat→Bool}{n m:Nat}(h:kBd p n m)(hpq:∀r,r<n→p r=q r):kBd q n m where
 le:=h.le
 no:=fun r hr=>by have:=h.le;rw[←hpq r (by omega)];exact h.no r hr
 yes:=fun hm=>by rw[←hpq m hm];exact h.yes hm
theorem kBd.hit {p:Nat→Bool}{n m:Nat}(hm:m<n)(hp:p m=true)(hno:∀r,r<m→p r=false):kBd p n m:=⟨by omega,hno,fun _=>hp⟩
theorem kBd.none {p:Nat→Bool}{n:Nat}(hno:∀r,r<n→p r=false):kBd p n n:=⟨Nat.le_refl _,hno,fun h=>absurd h (by omega)⟩
theorem kBd.exists (p:Nat→Bool)(n:Nat):∃m,kBd p n m:=by
 induction n with
 | zero=>exact⟨0,.none (fun r h=>by omega)⟩
 | succ n ih=>
  obtain⟨m,h⟩:=ih
  by_cases hm:m<n
  ·exact⟨m,.hit (by omega) (h.yes hm) h.no⟩
  ·have e:m=n:=by have:=h.le;omega
   subst e
   by_cases hp:p m=true
   ·exact⟨m,.hit (by omega) hp h.no⟩
   ·refine⟨m+1,.none (fun r hr=> ?_)⟩
    by_cases hr2:r=m
    ·subst hr2;simpa using hp
    ·exact h.no r (by omega)
def brO (v:Int):Int:=if 0<v then v - 1 else if v<0 then -v - 1 else 0
def brS (v:Int):Int:=if 0<v then 1 else if v<0 then 2 else 0
def twF (t:Nat→Int) (r:Nat):Int:=if 0<t r then t r - 1 else(r:Nat)
def kSk (c b:Nat→Int) (r:Nat):Bool:=
 brS (b (kAi (brO (b r))))==0||brS (b (kAi (brO (b r))))==brS (b r)||brO (b (kAi (brO (b r)))) != (r:Nat)||c r != 14
def kDe (b t:Nat→Int) (r:Nat):Bool:=
 brS (b r)==0||twF t r==(r:Nat)||brS (b (kAi (twF t r))) != brS (b r)||t (kAi (twF t r)) != 0||brO (b (kAi (twF t r))) != twF t (kAi (brO (b r)))
def kNx (m:Nat→Int) (r:Nat):Bool:=m r==(r:Nat)+1
def kBu (c b t m:Nat→Int) (r:Nat):Bool:=(b r != 0&&kSk c b r)||(t r != 0&&kDe b t r)||(m r != 0&&kNx m r)
structure Fit (b t m:Nat→Int):Prop where
 b:∀r,r≤1114111→ -1114112≤b r∧b r≤1114112
 t:∀r,r≤1114111→0≤t r∧t r≤1114112
 m:∀r,r≤1114111→0≤m r∧m r≤1114112
theorem kP5 {v:Int}(h: -1114112≤v∧v≤1114112):0≤brO v∧brO v≤1114111:=by
 unfold brO
 split
 ·omega
 ·split<;>omega
theorem kSx {x:Int}(h:0≤x∧x≤1114111):((kAi x:Nat):Int)=x:=by
 unfold kAi;rw[if_neg (by omega)];omega
theorem kEw {r:Nat}(h:r≤1114111):kAi (r:Nat)=r:=by
 unfold kAi;rw[if_neg (by omega)];omega
theorem twF_le {t:Nat→Int}{r:Nat}(h:t r≤1114112)(hr:r≤1114111):0≤twF t r∧twF t r≤1114111:=by
 unfold twF
 split<;>omega
end Go.Proofs.YtbmphakfgoompaaGreat

namespace Go.Proofs.YtbmphakfgoompaaGreat
open Go.RowKit
structure kHq (w:World) (t gc gb gt gm:Nat) (C:kAp Int) (B T M:kAp VJ.El):Prop where
 row:w.heap[t]? =some (.cells #[.pointer (some ⟨gc,0,none⟩),.pointer (some ⟨gb,0,none⟩),.pointer (some ⟨gt,0,none⟩),.pointer (some ⟨gm,0,none⟩)] 103 (0,0))
 okC:kBk C
 okB:kBk B
 okT:kBk T
 okM:kBk M
 posC:0<C.low.length
 posB:0<B.low.length
 posT:0<T.low.length
 posM:0<M.low.length
 atC:kAu val8 141 64 w gc C
 atB:kAu VJ.val8 152 64 w gb B
 atT:kAu VJ.val8 152 64 w gt T
 atM:kAu VJ.val8 152 64 w gm M
theorem kD6 (w:World)(t gc gb gt gm:Nat)(C:kAp Int)(B T M:kAp VJ.El)(h:kHq w t gc gb gt gm C B T M):
  Calls Tryz.prog 63 #[.pointer (some ⟨t,0,none⟩)] w fun e w'=>e= .returned (.bool true)∧w'=w:=by
 have q0:w.cell? ⟨t,0,none⟩=some (.pointer (some ⟨gc,0,none⟩)):=jK w t 0 _ _ (0,0) h.row;clear h
 go_enter Tryz.func63,Tryz.ntmps63
 go_wp2
 go_ret
 exact⟨rfl,rfl⟩
theorem kOy (w:World)(t gc gb gt gm:Nat)(C:kAp Int)(B T M:kAp VJ.El)(h:kHq w t gc gb gt gm C B T M)(r:Int)(hr1: -2147483648≤r)(hr2:r≤2147483647):
  Calls Tryz.prog 22 #[.pointer (some ⟨t,0,none⟩),.int .i32 r] w fun e w'=>e= .returned (val8 (kAo 0 C (kAi r)))∧∃n,w'=w.drewN n:=by
 have q0:w.cell? ⟨t,0,none⟩=some (.pointer (some ⟨gc,0,none⟩)):=jK w t 0 _ _ (0,0) h.row;have HTh:=jH (kD6 w t gc gb gt gm C B T M h);have HAt:=jH (At8_walk w gc C h.okC h.posC h.atC r hr1 hr2);clear h
 go_enter Tryz.func22,Tryz.ntmps22
 go_wp2_with fail
 refine HTh.out.mono ?_;rintro e w1 ⟨rfl,h1⟩;subst h1;clear HTh
 go_wp2_with fail
 refine HAt.out.mono ?_;rintro e w2 ⟨rfl,q,rfl⟩;go_wp2
 go_ret
 exact⟨rfl,q,rfl⟩
theorem kL6 (w:World)(t gc gb gt gm:Nat)(C:kAp Int)(B T M:kAp VJ.El)(h:kHq w t gc gb gt gm C B T M)(r:Int)(hr1: -2147483648≤r)(hr2:r≤2147483647)
  (hv: -1114112≤kAo (0:VJ.El) B (kAi r)∧kAo (0:VJ.El) B (kAi r)≤(1114112:Int)):
  Calls Tryz.prog 20 #[.pointer (some ⟨t,0,none⟩),.int .i32 r] w fun e w'=>e= .returned (.tuple #[.int .i32 (brO (kAo (0:VJ.El) B (kAi r))),.int .u8 (brS (kAo (0:VJ.El) B (kAi r)))])∧∃n,w'=w.drewN n:=by
 have q1:w.cell? ⟨t,1,none⟩=some (.pointer (some ⟨gb,0,none⟩)):=jK w t 1 _ _ (0,0) h.row;have HTh:=jH (kD6 w t gc gb gt gm C B T M h)
 obtain⟨v,hv0⟩:∃v:Int,v=kAo (0:VJ.El) B (kAi r):=⟨_,rfl⟩
 rw[←hv0]at hv ⊢;have HAt:=jH ((VJ.At8_walk w gb B h.okB h.posB h.atB r hr1 hr2).mono fun e w' h=>(show e= .returned (.int .i32 v)∧∃n,w'=w.drewN n from by rw[hv0];exact h));clear h hv0
 go_enter Tryz.func20,Tryz.ntmps20
 go_wp2_with fail
 refine HTh.out.mono ?_;rintro e w1 ⟨rfl,h1⟩;subst h1;clear HTh
 go_wp2_with fail
 refine HAt.out.mono ?_;rintro e w2 ⟨rfl,q,rfl⟩;clear HAt;obtain⟨hv1,hv2⟩: @LE.le Int _ (-1114112) v∧ @LE.le Int _ v 1114112:=hv
 have u1:0<v→wrap32 (v - 1)=v - 1:=fun h=>by unfold wrap32;omega
 have u2:v<0→wrap32 (wrap32 (-v) - 1)= -v - 1:=fun h=>by unfold wrap32;omega
 by_cases h1:0<v
 ·have e1:brO v=v - 1:=if_pos h1;have e2:brS v=1:=if_pos h1;go_wp2
  refine jS (v:= .tuple #[.int .i32 (brO v),.int .u8 (brS v)]) (by simp[results,Tryz.results20,go_sem,e1,e2,u1 h1]) rfl ?_;exact⟨rfl,q,rfl⟩
 ·by_cases h2:v<0
  ·have e1:brO v= -v - 1:=by rw[brO,if_neg h1,if_pos h2]
   have e2:brS v=2:=by rw[brS,if_neg h1,if_pos h2]
   go_wp2
   refine jS (v:= .tuple #[.int .i32 (brO v),.int .u8 (brS v)]) (by simp[results,Tryz.results20,go_sem,e1,e2,u2 h2]) rfl ?_;exact⟨rfl,q,rfl⟩
  ·have e1:brO v=0:=by rw[brO,if_neg h1,if_neg h2]
   have e2:brS v=0:=by rw[brS,if_neg h1,if_neg h2]
   go_wp2
   refine jS (v:= .tuple #[.int .i32 (brO v),.int .u8 (brS v)]) (by simp[results,Tryz.results20,go_sem,e1,e2]) rfl ?_;exact⟨rfl,q,rfl⟩
theorem kNq (w:World)(t gc gb gt gm:Nat)(C:kAp Int)(B T M:kAp VJ.El)(h:kHq w t gc gb gt gm C B T M)(r:Int)(hr1: -2147483648≤r)(hr2:r≤2147483647)
  (hv:kAo (0:VJ.El) M (kAi r)≤(1114112:Int)):
  Calls Tryz.prog 21 #[.pointer (some ⟨t,0,none⟩),.int .i32 r] w fun e w'=>e= .returned (.tuple (if 0<(kAo (0:VJ.El) M (kAi r):Int)then #[.int .i32 ((kAo (0:VJ.El) M (kAi r):Int) - 1),.bool true]else #[.int .i32 0,.bool false]))∧∃n,w'=w.drewN n:=by
 have q1:w.cell? ⟨t,3,none⟩=some (.pointer (some ⟨gm,0,none⟩)):=jK w t 3 _ _ (0,0) h.row;have HTh:=jH (kD6 w t gc gb gt gm C B T M h)
 obtain⟨v,hv0⟩:∃v:Int,v=kAo (0:VJ.El) M (kAi r):=⟨_,rfl⟩
 rw[←hv0]at hv ⊢;have HAt:=jH ((VJ.At8_walk w gm M h.okM h.posM h.atM r hr1 hr2).mono fun e w' h=>(show e= .returned (.int .i32 v)∧∃n,w'=w.drewN n from by rw[hv0];exact h));clear h hv0;have hv2: @LE.le Int _ v 1114112:=hv
 go_enter Tryz.func21,Tryz.ntmps21
 go_wp2_with fail
 refine HTh.out.mono ?_;rintro e w1 ⟨rfl,h1⟩;subst h1;clear HTh
 go_wp2_with fail
 refine HAt.out.mono ?_;rintro e w2 ⟨rfl,q,rfl⟩;clear HAt
 have u1:0<v→wrap32 (v - 1)=v - 1:=fun h=>by unfold wrap32;omega
 by_cases h1:0<v
 ·go_wp2
  refine jS (v:= .tuple #[.int .i32 (v - 1),.bool true]) (by simp[results,Tryz.results21,go_sem,u1 h1]) rfl ?_;exact⟨rfl,q,rfl⟩
 ·go_wp2
  refine jS (v:= .tuple #[.int .i32 0,.bool false]) (by simp[results,Tryz.results21,go_sem]) rfl ?_;exact⟨rfl,q,rfl⟩
theorem kNw (r:Int):kAi ((kAi r:Nat):Int)=kAi r:=by
 obtain⟨x,hx⟩:∃x,x=kAi r:=⟨_,rfl⟩
 have h:x≤1114111:=by rw[hx];exact kBl r
 rw[←hx];unfold kAi;rw[if_neg (by omega),Int.toNat_natCast]
theorem kCy (r:Int)(w:World):Calls Tryz.prog 46 #[.int .i32 r] w fun e w'=>e= .returned (.bool (decide (0≤r∧r≤1114111)))∧w'=w:=by
 by_cases h1:r<0
 ·go_enter Tryz.func46,Tryz.ntmps46
  go_wp2
  go_ret
  exact⟨by simp<;>omega,rfl⟩
 ·have h2:0≤r:=by omega
  by_cases h3:r≤1114111
  ·go_enter Tryz.func46,Tryz.ntmps46
   go_wp2
   go_ret
   exact⟨by simp<;>omega,rfl⟩
  ·go_enter Tryz.func46,Tryz.ntmps46
   go_wp2
   go_ret
   exact⟨by simp<;>omega,rfl⟩
theorem kRp (w:World)(t gc gb gt gm:Nat)(C:kAp Int)(B T M:kAp VJ.El)(h:kHq w t gc gb gt gm C B T M)(r:Int)(hr1: -2147483648≤r)(hr2:r≤2147483647)
  (hv:kAo (0:VJ.El) T (kAi r)≤(1114112:Int)):
  Calls Tryz.prog 23 #[.pointer (some ⟨t,0,none⟩),.int .i32 r] w fun e w'=>e= .returned (.int .i32 (if 0<(kAo (0:VJ.El) T (kAi r):Int)then(kAo (0:VJ.El) T (kAi r):Int) - 1 else(kAi r:Nat)))∧∃n,w'=w.drewN n:=by
 have q1:w.cell? ⟨t,2,none⟩=some (.pointer (some ⟨gt,0,none⟩)):=jK w t 2 _ _ (0,0) h.row;have HTh:=jH (kD6 w t gc gb gt gm C B T M h)
 obtain⟨v,hv0⟩:∃v:Int,v=kAo (0:VJ.El) T (kAi r):=⟨_,rfl⟩
 have HRR:=jH (kNw r);rw[←hv0]at hv ⊢;have HAt:=jH (fun r' (e1: -2147483648≤r') (e2:r'≤2147483647) (e:kAi r'=kAi r)=>(VJ.At8_walk w gt T h.okT h.posT h.atT r' e1 e2).mono fun e' w' h=>(show e'= .returned (.int .i32 v)∧∃n,w'=w.drewN n from by rw[hv0,←e];exact h));clear h hv0;have hv2: @LE.le Int _ v 1114112:=hv
 have u1:0<v→wrap32 (v - 1)=v - 1:=fun h=>by unfold wrap32;omega
 by_cases hr:r<0∨1114111<r
 ·have hrr:kAi r=65533:=if_pos hr;rw[hrr]at HRR HAt ⊢;have HA2:=jH (HAt.out 65533 (by omega) (by omega) HRR.out);have hd:decide (0≤r∧r≤1114111)=false:=decide_eq_false (by omega);clear HAt HRR
  go_enter Tryz.func23,Tryz.ntmps23
  go_wp2_with fail
  refine HTh.out.mono ?_;rintro e w1 ⟨rfl,h1⟩;subst h1;clear HTh
  go_wp2_with fail
  refine(kCy r w1).mono ?_;rintro e w1' ⟨rfl,h1⟩;subst h1;rw[hd]
  go_wp2_with fail
  refine HA2.out.mono ?_;rintro e w2 ⟨rfl,q,rfl⟩;clear HA2
  by_cases hp:0<v
  ·go_wp2
   go_ret
   exact⟨by simp[u1 hp,hp],q,rfl⟩
  ·go_wp2
   go_ret
   exact⟨by simp[hp],q,rfl⟩
 ·have hrr:((kAi r:Nat):Int)=r:=by rw[kAi,if_neg hr];omega
  have HA2:=jH (HAt.out r hr1 hr2 rfl);have hd:decide (0≤r∧r≤1114111)=true:=decide_eq_true (by omega);rw[hrr];clear HAt HRR hrr
  go_enter Tryz.func23,Tryz.ntmps23
  go_wp2_with fail
  refine HTh.out.mono ?_;rintro e w1 ⟨rfl,h1⟩;subst h1;clear HTh
  go_wp2_with fail
  refine(kCy r w1).mono ?_;rintro e w1' ⟨rfl,h1⟩;subst h1;rw[hd]
  go_wp2_with fail
  refine HA2.out.mono ?_;rintro e w2 ⟨rfl,q,rfl⟩;clear HA2
  by_cases hp:0<v
  ·go_wp2
   go_ret
   exact⟨by simp[u1 hp,hp],q,rfl⟩
  ·go_wp2
   go_ret
   exact⟨by simp[hp],q,rfl⟩
end Go.Proofs.YtbmphakfgoompaaGreat

namespace Go.Proofs.YtbmphakfgoompaaGreat
open Go.RowKit
theorem kHq.below {w w':World}{t gc gb gt gm:Nat}{C:kAp Int}{B T M:kAp VJ.El}(h:kHq w t gc gb gt gm C B T M)(hb:Below w.heap.size w w'):kHq w' t gc gb gt gm C B T M where
 row:=(hb.block t (jL h.row)).trans h.row
 okC:=h.okC
 okB:=h.okB
 okT:=h.okT
 okM:=h.okM
 posC:=h.posC
 posB:=h.posB
 posT:=h.posT
 posM:=h.posM
 atC:=h.atC.below hb jR
 atB:=h.atB.below hb jR
 atT:=h.atT.below hb jR
 atM:=h.atM.below hb jR
theorem kHq.drew {w:World}{t gc gb gt gm:Nat}{C:kAp Int}{B T M:kAp VJ.El}(h:kHq w t gc gb gt gm C B T M)(n:Nat):kHq (w.drewN n) t gc gb gt gm C B T M:=h.below (below_drewN (Below.refl _ w) n)
theorem kD4 (w:World)(a b:Nat):(w.drewN a).drewN b=w.drewN (a+b):=by
 unfold World.drewN;simp[Nat.add_assoc]
structure Tab (w:World) (p gc gb gt gm:Nat) (C:kAp Int) (B T M:kAp VJ.El) (c b t m:Nat→Int):Prop where
 mem:kHq w p gc gb gt gm C B T M
 c:∀r,r≤1114111→kAo (0:Int) C r=c r
 b:∀r,r≤1114111→kAo (0:Int) B r=b r
 t:∀r,r≤1114111→kAo (0:Int) T r=t r
 m:∀r,r≤1114111→kAo (0:Int) M r=m r
theorem Tab.below {w w':World}{p gc gb gt gm:Nat}{C:kAp Int}{B T M:kAp VJ.El}{c b t m:Nat→Int}(h:Tab w p gc gb gt gm C B T M c b t m)(hb:Below w.heap.size w w'):Tab w' p gc gb gt gm C B T M c b t m:=
 ⟨h.mem.below hb,h.c,h.b,h.t,h.m⟩
theorem Tab.drew {w:World}{p gc gb gt gm:Nat}{C:kAp Int}{B T M:kAp VJ.El}{c b t m:Nat→Int}(h:Tab w p gc gb gt gm C B T M c b t m)(n:Nat):Tab (w.drewN n) p gc gb gt gm C B T M c b t m:=h.below (below_drewN (Below.refl _ w) n)
theorem kFx {w:World}{p gc gb gt gm:Nat}{C:kAp Int}{B T M:kAp VJ.El}{c b t m:Nat→Int}(h:Tab w p gc gb gt gm C B T M c b t m)(r:Int)(hr1: -2147483648≤r)(hr2:r≤2147483647):
  Calls Tryz.prog 22 #[.pointer (some ⟨p,0,none⟩),.int .i32 r] w fun e w'=>e= .returned (.int .u8 (c (kAi r)))∧∃n,w'=w.drewN n:=by
 rw[←h.c _ (kBl r)];exact kOy w p gc gb gt gm C B T M h.mem r hr1 hr2
theorem kCw {w:World}{p gc gb gt gm:Nat}{C:kAp Int}{B T M:kAp VJ.El}{c b t m:Nat→Int}(h:Tab w p gc gb gt gm C B T M c b t m)(hf:Fit b t m)(r:Int)(hr1: -2147483648≤r)(hr2:r≤2147483647):
  Calls Tryz.prog 20 #[.pointer (some ⟨p,0,none⟩),.int .i32 r] w fun e w'=>e= .returned (.tuple #[.int .i32 (brO (b (kAi r))),.int .u8 (brS (b (kAi r)))])∧∃n,w'=w.drewN n:=by
 have e:=h.b _ (kBl r);have:=kL6 w p gc gb gt gm C B T M h.mem r hr1 hr2 (by have:=hf.b _ (kBl r);rw[e];exact this);rw[e]at this;exact this
theorem kJg {w:World}{p gc gb gt gm:Nat}{C:kAp Int}{B T M:kAp VJ.El}{c b t m:Nat→Int}(h:Tab w p gc gb gt gm C B T M c b t m)(hf:Fit b t m)(r:Int)(hr1: -2147483648≤r)(hr2:r≤2147483647):
  Calls Tryz.prog 21 #[.pointer (some ⟨p,0,none⟩),.int .i32 r] w fun e w'=>e= .returned (.tuple (if 0<m (kAi r)then #[.int .i32 (m (kAi r) - 1),.bool true]else #[.int .i32 0,.bool false]))∧∃n,w'=w.drewN n:=by
 have e:=h.m _ (kBl r);have:=kNq w p gc gb gt gm C B T M h.mem r hr1 hr2 (by have:=(hf.m _ (kBl r)).2;rw[e];exact this);rw[e]at this;exact this
theorem kHl {w:World}{p gc gb gt gm:Nat}{C:kAp Int}{B T M:kAp VJ.El}{c b t m:Nat→Int}(h:Tab w p gc gb gt gm C B T M c b t m)(hf:Fit b t m)(r:Int)(hr1: -2147483648≤r)(hr2:r≤2147483647):
  Calls Tryz.prog 23 #[.pointer (some ⟨p,0,none⟩),.int .i32 r] w fun e w'=>e= .returned (.int .i32 (twF t (kAi r)))∧∃n,w'=w.drewN n:=by
 have e:=h.t _ (kBl r);have:=kRp w p gc gb gt gm C B T M h.mem r hr1 hr2 (by have:=(hf.t _ (kBl r)).2;rw[e];exact this);rw[e]at this;exact this
theorem kSl {w:World}{p gc gb gt gm:Nat}{C:kAp Int}{B T M:kAp VJ.El}{c b t m:Nat→Int}(h:Tab w p gc gb gt gm C B T M c b t m)(hf:Fit b t m)(r:Nat)(hr:r≤1114111):
  Calls Tryz.prog 90 #[.pointer (some ⟨p,0,none⟩),.int .i32 (r:Nat)] w fun e w'=>e= .returned (.bool (kSk c b r))∧∃n,w'=w.drewN n:=by
 have b1:=kP5 (hf.b r hr);have hB:=jH (kCw h hf (r:Nat) (by omega) (by omega));have hB2:=jH (fun q=>kCw (h.drew q) hf (brO (b r)) (by omega) (by omega));have hC:=jH (fun q=>kFx (h.drew q) (r:Nat) (by omega) (by omega));rw[kEw hr]at hB hC;have hD:kSk c b r=(brS (b (kAi (brO (b r))))==0||brS (b (kAi (brO (b r))))==brS (b r)||brO (b (kAi (brO (b r)))) != (r:Nat)||c r != 14):=rfl;rw[hD];clear hD h hf;generalize hbs:brS (b r)=s at*;generalize hbo:brO (b r)=o at*;generalize hus:brS (b (kAi o))=far at*;generalize huo:brO (b (kAi o))=back at*;clear hbs hbo hus huo b1
 go_enter Tryz.func90,Tryz.ntmps90
 go_wp2_with fail
 refine hB.out.mono ?_;rintro e w1 ⟨rfl,q1,rfl⟩;clear hB
 go_wp2_with fail
 refine(hB2.out q1).mono ?_;rintro e w1 ⟨rfl,q2,rfl⟩;clear hB2;rw[kD4];generalize q1+q2=q at*;have hC2:=jH (hC.out q);clear hC
 by_cases h1:far=0
 ·subst h1;go_wp2
  go_ret
  exact⟨by simp,_,rfl⟩
 ·have d1:(far==0)=false:=beq_false_of_ne h1
  by_cases h2:far=s
  ·subst h2;go_wp2
   go_ret
   exact⟨by simp,_,rfl⟩
  ·have d2:(far==s)=false:=beq_false_of_ne h2
   by_cases h3:back=(r:Nat)
   ·subst h3
    go_wp2_with fail
    refine hC2.out.mono ?_;rintro e w1 ⟨rfl,q3,rfl⟩;go_wp2
    go_ret
    exact⟨by simp[d1,d2],_,rfl⟩
   ·go_wp2
    go_ret
    exact⟨by simp[h3],_,rfl⟩
theorem kMv {w:World}{p gc gb gt gm:Nat}{C:kAp Int}{B T M:kAp VJ.El}{c b t m:Nat→Int}(h:Tab w p gc gb gt gm C B T M c b t m)(hf:Fit b t m)(r:Nat)(hr:r≤1114111):
  Calls Tryz.prog 91 #[.pointer (some ⟨p,0,none⟩),.int .i32 (r:Nat)] w fun e w'=>e= .returned (.bool (kDe b t r))∧∃n,w'=w.drewN n:=by
 have b1:=kP5 (hf.b r hr);have b2:=twF_le (hf.t r hr).2 hr;have hB:=jH (kCw h hf (r:Nat) (by omega) (by omega));have hT:=jH (fun q=>kHl (h.drew q) hf (r:Nat) (by omega) (by omega));have hB2:=jH (fun q=>kCw (h.drew q) hf (twF t r) (by omega) (by omega));have hT2:=jH (fun q=>kHl (h.drew q) hf (brO (b r)) (by omega) (by omega));have hA:=jH (fun q=>(VJ.At8_walk (w.drewN q) gt T (h.drew q).mem.okT h.mem.posT (h.drew q).mem.atT (twF t r) (by omega) (by omega)).mono fun e w' hh=>(show e= .returned (.int .i32 (t (kAi (twF t r))))∧∃n,w'=(w.drewN q).drewN n from by rw[←h.t _ (kBl _)];exact hh));have hQ:=jH (fun q=>jK (w.drewN q) p 2 _ _ (0,0) (h.drew q).mem.row);rw[kEw hr]at hB hT;have hD:kDe b t r=(brS (b r)==0||twF t r==(r:Nat)||brS (b (kAi (twF t r))) != brS (b r)||t (kAi (twF t r)) != 0||brO (b (kAi (twF t r))) != twF t (kAi (brO (b r)))):=rfl;rw[hD];clear hD h hf;generalize hbs:brS (b r)=s at*;generalize hbo:brO (b r)=o at*;generalize htw:twF t r=tw at*;generalize hus:brS (b (kAi tw))=far at*;generalize huo:brO (b (kAi tw))=its at*;generalize htt:t (kAi tw)=tt at*;generalize hto:twF t (kAi o)=to' at*;clear hbs hbo hus huo htw htt hto b1 b2
 go_enter Tryz.func91,Tryz.ntmps91
 go_wp2_with fail
 refine hB.out.mono ?_;rintro e w1 ⟨rfl,q1,rfl⟩;clear hB
 go_wp2_with fail
 refine(hT.out q1).mono ?_;rintro e w1 ⟨rfl,q2,rfl⟩;clear hT;rw[kD4];generalize q1+q2=q at*
 go_wp2_with fail
 refine(hB2.out q).mono ?_;rintro e w1 ⟨rfl,q3,rfl⟩;clear hB2;rw[kD4];generalize q+q3=q at*;have hA2:=jH (hA.out q);have q0:=hQ.out q;simp at q0;clear hA hQ
 by_cases h1:s=0
 ·subst h1;go_wp2
  go_ret
  exact⟨by simp,_,rfl⟩
 ·have d1:(s==0)=false:=beq_false_of_ne h1
  by_cases h2:tw=(r:Nat)
  ·subst h2;go_wp2
   go_ret
   exact⟨by simp,_,rfl⟩
  ·have d2:(tw==(r:Int))=false:=beq_false_of_ne h2
   by_cases h3:far=s
   ·subst h3
    go_wp2_with fail
    refine hA2.out.mono ?_;rintro e w1 ⟨rfl,q4,rfl⟩;clear hA2 q0;rw[kD4];generalize q+q4=q at*
    by_cases h4:tt=0
    ·subst h4
     go_wp2_with fail
     refine(hT2.out q).mono ?_;rintro e w1 ⟨rfl,q5,rfl⟩;go_wp2
     go_ret
     exact⟨by simp[d1,d2],_,rfl⟩
    ·go_wp2
     go_ret
     exact⟨by simp[h4],_,rfl⟩
   ·go_wp2
    go_ret
    exact⟨by simp[h3],_,rfl⟩
theorem kRi {w:World}{p gc gb gt gm bx:Nat}{C:kAp Int}{B T M:kAp VJ.El}{c b t m:Nat→Int}(h:Tab w p gc gb gt gm C B T M c b t m)(r:Nat)(hr:r≤1114111)(hx:w.cell? ⟨bx,0,none⟩=some (.pointer (some ⟨p,0,none⟩))):
  Calls Tryz.prog 88 #[.int .i32 (r:Nat),.pointer (some ⟨bx,0,none⟩)] w fun e w'=>e= .returned (.bool (kNx m r))∧∃n,w'=w.drewN n:=by
 have hA:=jH ((VJ.At8_walk w gm M h.mem.okM h.mem.posM h.mem.atM (r:Nat) (by omega) (by omega)).mono fun e w' hh=>(show e= .returned (.int .i32 (m r))∧∃n,w'=w.drewN n from by rw[←h.m _ hr];rw[kEw hr]at hh;exact hh));have q0:=jK w p 3 _ _ (0,0) h.mem.row;simp at q0;have hD:kNx m r=(m r==(r:Nat)+1):=rfl;rw[hD];clear hD h;generalize m r=y at*
 go_enter Tryz.func88,Tryz.ntmps88
 go_wp2_with fail
 refine hA.out.mono ?_;rintro e w1 ⟨rfl,q4,rfl⟩;go_wp2
 go_ret
 exact⟨rfl,_,rfl⟩
end Go.Proofs.YtbmphakfgoompaaGreat

namespace Go.Proofs.YtbmphakfgoompaaGreat
open Go.RowKit
attribute [local go_sem] Oper.semAt_some kN1
theorem kLq {f:Nat→Int}:∀ {l l':List (kA3 Int)} {a b:Nat},kRx f (l++l') a b→∃c,kRx f l a c∧kRx f l' c b
 | [],l',a,b,h=>⟨a,rfl,h⟩
 | x :: l,l',a,b,⟨h1,h2,h3,h4⟩=>by
  obtain⟨c,h5,h6⟩:=kLq h4;exact⟨c,⟨h1,h2,h3,h5⟩,h6⟩
structure At (f:Nat→Int) (N:Nat) (pre:List (kA3 Int)) (x:kA3 Int):Prop where
 le:x.f≤x.t
 lt:x.t<N
 val:∀r,x.f≤r→r≤x.t→f r=x.v
 pre:∀r,r<x.f→∃s∈pre,s.f≤r∧r≤s.t
theorem kM9 {f:Nat→Int}{N q:Nat}{pre:List (kA3 Int)}{x:kA3 Int}(hN:N≠0)(h:pre++[x]=(spL neV f N).take q):At f N pre x:=by
 have ht:=kOp f N hN;rw[←List.take_append_drop q (spL neV f N)]at ht;obtain⟨c,h1,h2⟩:=kLq ht;have hc:=kRo h2;rw[←h]at h1;obtain⟨a,h3,h4,h5,h6,h7⟩:=kLq h1;have h7':x.t+1=c:=h7;refine⟨h5,by omega,h6,fun r hr=> ?_⟩;exact kLr h3 r (Nat.zero_le _) (by omega)
theorem kK0 {f:Nat→Int}{N:Nat}(hN:N≠0)(r:Nat)(hr:r<N):∃s∈spL neV f N,s.f≤r∧r≤s.t:=kLr (kOp f N hN) r (Nat.zero_le _) hr
theorem kDu {B:Nat}{w W:World}(h:Below B w W)(D:Nat)(ob:Obj)(hD:B≤D):Below B w (W.putObj D ob):=
 h.trans ⟨rfl,rfl,rfl,by simp,fun k hk=>World.putObj_heap_other (by omega)⟩
structure kR0 (W0:World) (bM:Nat) (v:Int) (T:Nat→Prop) (W:World):Prop where
 but:But W0.heap.size (fun k=>k=bM) W0 W
 cM:W.heap[bM]? =some (.cells #[.int .i32 v] 21 (0,0))
 tn:∀k,T k→W0.heap.size≤k∧k<W.heap.size
theorem kR0.off {W0:World}{bM:Nat}{v:Int}{T T':Nat→Prop}{W W':World}(h:kR0 W0 bM v T W)(h1:bM<W0.heap.size)(ho:Off T W W')(hw:kB4 T T' W W'):kR0 W0 bM v T' W':=
 ⟨h.but.off ho (fun k hk=>(h.tn k hk).1) h.but.size,ho.cellsBlock h.cM (fun e=>by have:=(h.tn _ e).1;omega),fun k hk=>by
  have hs:=ho.size;have hs2:=h.but.size
  rcases hw k hk with h3 | h3
  ·have:=h.tn k h3;omega
  ·omega⟩
def AmI (W0:World) (bM:Nat) (p:Nat→Bool) (T:Nat→Prop) (pre:List (kA3 Int)) (W:World):Prop:=kR0 W0 bM 0 T W∧∀s∈pre,∀r,s.f≤r→r≤s.t→p r=false
def AmX (W0:World) (bM:Nat) (p:Nat→Bool) (N:Nat) (c:Code) (T:Nat→Prop) (pre:List (kA3 Int)) (W:World):Prop:=∃m:Nat,kR0 W0 bM (m:Nat) T W∧c= .ret∧kBd p N m
theorem AmI.abide {W0:World}{bM:Nat}{p:Nat→Bool}(h1:bM<W0.heap.size):kFf (AmI W0 bM p):=fun T T' s W W' h ho hw=>⟨h.1.off h1 ho hw,h.2⟩
theorem AmX.abide {W0:World}{bM N:Nat}{p:Nat→Bool}(h1:bM<W0.heap.size):∀c,kFf (AmX W0 bM p N c):=fun c T T' s W W' ⟨m,h,h2⟩ ho hw=>⟨m,h.off h1 ho hw,h2⟩
def AmAx (tmps:Array Value) (T:Nat→Prop) (x:kA3 Int) (a':Act) (W:World):Prop:=
 ∃bX,a'={tmps:=(tmps.setIfInBounds 9 (.agg #[.int .i32 (x.f:Nat),.int .i32 (x.t:Nat),VJ.val8 x.v])).setIfInBounds 5 (.pointer (some ⟨bX,0,none⟩)),defers:=[]}∧W.heap[bX]? =some (.cells #[.int .i32 (x.f:Nat),.int .i32 (x.t:Nat),VJ.val8 x.v] 164 (0,0))∧¬T bX
theorem kL4 (q:Option Addr)(w:World):Calls Tryz.prog 87 #[.pointer q] w fun e w'=>e= .returned (.func (.func 118) #[] #[.pointer (some ⟨w.heap.size,0,none⟩)])∧w'.cell? ⟨w.heap.size,0,none⟩=some (.pointer q)∧w'.heap.size=w.heap.size+1∧Below w.heap.size w w':=by
 go_enter Tryz.func87,Tryz.ntmps87
 have q0:=jN w (.cells #[.pointer q] 99);have hz:=World.size_alloc w (.cells #[.pointer q] 99);have hb:=(Below.refl _ w).alloc jR (.cells #[.pointer q] 99)
 have HH:=jH (And.intro q0 (And.intro hz hb));clear q0 hz hb
 go_wp2
 go_ret
 exact⟨rfl,jK _ _ 0 _ _ (0,0) HH.out.1,HH.out.2.1,HH.out.2.2⟩
def AmR (W:World) (q:Nat→Bool) (f t:Nat) (iv:Value) (wr:World):Prop:=∃r:Nat,f≤r∧r≤t+1∧iv= .int .i32 (r:Nat)∧(∀j,f≤j→j<r→q j=false)∧∃n,wr=W.drewN n
theorem kOt (w:World)(g:Nat)(T:kAp VJ.El)(hk:kBk T)(h0:0<T.low.length)(ht:kAu VJ.val8 152 64 w g T)(cf:Nat)(bs lb:Array Value)(f:Nat→Int)(q:Nat→Bool)(N:Nat)(hN:N=1114112)
  (hfl:∀r,r<N→kAo (0:Int) T r=f r)(eg:∀args W,(callFunc cf args).run Tryz.prog W= .ok (.enter cf args) W)
  (hcall:∀r,r<N→f r≠0→∀W,Below w.heap.size w W→Calls Tryz.prog cf (bs.push (.int .i32 (r:Nat))++lb) W fun e W'=>e= .returned (.bool (q r))∧∃n,W'=W.drewN n):
  Calls Tryz.prog 89 #[.pointer (some ⟨g,0,none⟩),.func (.func cf) bs lb] w fun e w'=>∃m:Nat,e= .returned (.int .i32 (m:Nat))∧kBd (fun r=>f r != 0&&q r) N m∧Below w.heap.size w w':=by
 have HCl:=jH hcall;clear hcall
 have HFl:=jH hfl;clear hfl
 have HEg:=jH eg;clear eg
 have HN:=jH hN;clear hN
 have HT:=jH ht;clear ht
 have HOk:=jH hk;clear hk
 have a1:=jN w (.cells #[.func (.func cf) bs lb] 105);have s1:=World.size_alloc w (.cells #[.func (.func cf) bs lb] 105);have b1:=(Below.refl _ w).alloc jR (.cells #[.func (.func cf) bs lb] 105)
 obtain⟨w1,hw1⟩:∃w1,w.alloc (.cells #[.func (.func cf) bs lb] 105)=w1:=⟨_,rfl⟩
 rw[hw1]at a1 s1 b1;have a2:=jN w1 (.cells #[.int .i32 0] 21);have s2:=World.size_alloc w1 (.cells #[.int .i32 0] 21);have b2:=(Below.refl _ w1).alloc jR (.cells #[.int .i32 0] 21);have H1:=jH (And.intro hw1 (And.intro a1 (And.intro s1 (And.intro b1 (And.intro a2 (And.intro s2 b2))))));clear a1 s1 b1 a2 s2 b2 hw1;refine kB0 Tryz.func89 rfl ?_;simp only[Tryz.ntmps89,List.size_toArray,List.length_cons,List.length_nil,Nat.reduceAdd,Nat.reduceSub,Array.replicate_succ,Array.replicate_zero,List.push_toArray,List.append_toArray,List.nil_append,List.cons_append]
 go_upto_region 1 with(fail)
 rw[H1.out.1];obtain⟨-,a1,s1,b1,a2,s2,b2⟩:=H1.out;clear H1
 obtain⟨bF,hbF⟩:∃bF,bF=w.heap.size:=⟨_,rfl⟩
 rw[←hbF]at a1 ⊢;rw[show w1.heap.size=bF+1 by omega]at a2;have hbF2:w.heap.size≤bF:=Nat.le_of_eq hbF.symm;generalize w1.alloc (.cells #[.int .i32 0] 21)=w2 at*;have HA:=jH (And.intro ((b2.block bF (by omega)).trans a1) (And.intro a2 (b1.trans (b2.mono (by omega)))))
 have hs2:w2.heap.size=bF+2:=by omega
 clear a1 b1 a2 b2 s1 s2 hbF
 go_wp2_with fail
 refine(kL4 (some ⟨g,0,none⟩) w2).mono ?_;rintro e w3 ⟨rfl,c3,hz3,hb3⟩;have HA3:=jH (And.intro ((hb3.block bF (by omega)).trans HA.out.1) (And.intro ((hb3.block (bF+1) (by omega)).trans HA.out.2.1) (HA.out.2.2.trans (hb3.mono (by omega)))));clear hb3 HA;rw[hs2]at c3 ⊢
 have hs3:w3.heap.size=bF+3:=by omega
 have HSeq:=jH (VJ.spans_stops w g T HOk.out h0 HT.out (bF+2) (fun k=>k<w3.heap.size∧k≠bF+1) w3 (kH5 HA3.out.2.2) HA3.out.2.2.size (fun k hk=>⟨by omega,by omega⟩) ⟨by omega,by omega⟩ c3 N HN.out);clear c3 hz3 hs2;go_wp2
 refine kE1 (gf:=118) (lb:= #[.pointer (some ⟨bF+2,0,none⟩)]) rfl (enters_of Tryz.func118 (by kernel_rfl) rfl) HSeq.out (Below.refl _ _) (fun k hk=>hk.1) (fun _=>rfl)
  (AmI w3 (bF+1) (fun r=>f r != 0&&q r)) (AmX w3 (bF+1) (fun r=>f r != 0&&q r) N) (AmI.abide (by omega)) (AmX.abide (by omega)) ⟨⟨But.refl _ _ _,HA3.out.2.1,fun _ h=>h.elim⟩,fun _ h=>absurd h (by simp)⟩
  AmAx (fun T x a' W W' h ho=>by obtain⟨bX,h1,h2,h3⟩:=h;exact⟨bX,h1,ho.cellsBlock h2 h3,h3⟩) ?assign ?body ?done ?stop
 case assign=>
  rintro l Tt pre x W K hi hK
  have HK:=jH hK;clear hK
  have hA:=jN W (.cells #[.int .i32 (x.f:Nat),.int .i32 (x.t:Nat),VJ.val8 x.v] 164);have hB:=(Below.refl W.heap.size W).alloc jR (.cells #[.int .i32 (x.f:Nat),.int .i32 (x.t:Nat),VJ.val8 x.v] 164);have hI:AmI w3 (bF+1) (fun r=>f r != 0&&q r) Tt pre (W.alloc (.cells #[.int .i32 (x.f:Nat),.int .i32 (x.t:Nat),VJ.val8 x.v] 164)):=AmI.abide (by omega) _ _ _ _ _ hi (Off.of_below hB) (kB4.refl _ _ _);have HH:=jH (And.intro hB (And.intro hI (And.intro hA (show ¬Tt W.heap.size from fun e=>Nat.lt_irrefl _ (hi.1.tn _ e).2))));clear hA hB hI hi;simp only[VJ.encQ];unfold VJ.val8
  gi_wp2
  exact HK.out _ _ (kEk.of_below HH.out.1) HH.out.2.1 ⟨W.heap.size,rfl,HH.out.2.2⟩
 case body=>
  rintro lp Tt pre x a' W hTl hl - hst hA hlen hsp;obtain⟨bX,rfl,hX,hXT⟩:=hA;obtain⟨kq, -, -,hpk⟩:=hsp
  have hN0:N≠0:=by have:=HN.out;omega
  have hat:At (kAo (0:Int) T) N pre x:=kM9 hN0 hpk;have HV:Hid (∀r,x.f≤r→r≤x.t→f r=x.v):=jH (fun r h1 h2=>by rw[←HFl.out r (by have:=hat.lt;omega)];exact hat.val r h1 h2);have HPre:=jH hat.pre;have hx1:=hat.le;have hx2:=hat.lt;have hNN:=HN.out;have HSt:=jH hst;have HX:=jH hX;have q0:=jK W bX 0 _ _ (0,0) hX;have q1:=jK W bX 1 _ _ (0,0) hX;have q2:=jK W bX 2 _ _ (0,0) hX;simp at q0 q1 q2;unfold VJ.val8 at q2;obtain⟨xf,xt,xv⟩:=x
  dsimp only at HV hx1 hx2 q0 q1 q2 HPre
  clear hat hst hX hpk hlen
  by_cases hv0:xv=0
  ·subst hv0
   gi_wp2
   refine⟨kEk.refl _ _ _,HSt.out.1,fun s hs r h1 h2=> ?_⟩
   rcases List.mem_append.1 hs with hs | hs
   ·exact HSt.out.2 s hs r h1 h2
   ·obtain rfl:=List.mem_singleton.1 hs;show(f r != 0&&q r)=false
    rw[HV.out r h1 h2];rfl
  ·have d0:(xv==0)=false:=beq_false_of_ne hv0
   have HD:=jH hv0;clear hv0
   gi_wp2
   gi_loopw [6] (AmR W q xf xt) (fun i _=>xt+1 - (intOf i).toNat)
   case atStart=>exact⟨xf,Nat.le_refl _,by omega,rfl,fun j h1 h2=>by omega,0,rfl⟩
   case round=>
    obtain⟨r,hr1,hr2,rfl,hno,nq,rfl⟩:=hrel
    have HNo:=jH hno;clear hno
    have k1:(W.drewN nq).cell? ⟨bX,1,none⟩=some (.int .i32 (xt:Nat)):=q1;have kF:(W.drewN nq).cell? ⟨bF,0,none⟩=some (.func (.func cf) bs lb):=HSt.out.1.but.cell (jK w3 bF 0 _ _ (0,0) HA3.out.1) (by omega) (by omega)
    by_cases hrt:r≤xt
    ·have hrti:(r:Int)≤(xt:Int):=by omega
     have hb6:Below w.heap.size w (W.drewN nq):=below_drewN (HA3.out.2.2.trans (HSt.out.1.but.below w.heap.size (by omega) (fun k hk=>by rw[hk];omega))) nq;have HC6:=jH (HCl.out r (by omega) (by rw[HV.out r hr1 hrt];exact HD.out) (W.drewN nq) hb6);clear hb6;have eg:=HEg.out
     gi_wp2_with fail
     clear eg;refine(CallsIn.inRound lp (callsIn_wide.2 HC6.out)).mono ?_;rintro e w9 ⟨rfl,nq2,rfl⟩;clear HC6;rw[show(W.drewN nq).drewN nq2=W.drewN (nq+nq2)from by unfold World.drewN;simp[Nat.add_assoc]]
     have hb:bF+1<w3.heap.size:=by omega
     have hst9:kR0 w3 (bF+1) 0 Tt (W.drewN (nq+nq2)):=HSt.out.1.off (T':=Tt) hb (Off.of_below (below_drewN (Below.refl _ W) (nq+nq2))) (kB4.refl _ _ _);have hk9:kEk Tt (fun _=>False) W (W.drewN (nq+nq2)):=kEk.of_below (below_drewN (Below.refl _ W) (nq+nq2))
     obtain⟨W9,hW9⟩:∃W9,W9=W.drewN (nq+nq2):=⟨_,rfl⟩
     rw[←hW9]at hst9 hk9 ⊢;have HW9:=jH hW9;have HK9:=jH hk9;have HS9:=jH hst9;clear hW9 hk9 hb q0 q1 q2 k1 kF;have f1:=jK W9 (bF+1) 0 _ _ (0,0) hst9.cM;have f2:=jO W9 (bF+1) 0 _ _ hst9.cM;clear hst9
     by_cases hq:q r=true
     ·have HQ:=jH hq;rw[hq];clear hq
      gi_wp2
      have hst:=HS9.out
      refine⟨HK9.out.trans ⟨by simp,fun k hk h=> ?_⟩,r,⟨hst.but.setCell (bF+1) 0 _ (.inl rfl),?_,fun k hk=>by have:=hst.tn k hk;simpa using this⟩,rfl,?_⟩
      ·rw[jQ _ ⟨bF+1,0,none⟩ k _ (by
        rcases h with h | h
        ·have:=hst.tn k h;simp;omega
        ·exact h.elim)]
      ·have:=jP _ (bF+1) 0 _ _ (.int .i32 (r:Nat)) hst.cM
       simpa using this
      ·refine .hit (by omega) ?_ fun j hj=> ?_
       ·show(f r != 0&&q r)=true;rw[HQ.out,HV.out r hr1 hrt]
        simpa using HD.out
       ·by_cases h1:xf≤j
        ·show(f j != 0&&q j)=false;rw[HNo.out j h1 hj,Bool.and_false]
        ·obtain⟨s,hs,h3,h4⟩:=HPre.out j (by show j<xf;omega);exact HSt.out.2 s hs j h3 h4
     ·have hq':q r=false:=by simpa using hq
      have HQ:=jH hq';rw[hq'];clear hq hq'
      gi_wp2
      go_roundw
      case rel=>exact⟨r+1,by omega,by omega,by go_num,fun j h1 h2=>by
       by_cases h3:j=r
       ·rw[h3];exact HQ.out
       ·exact HNo.out j h1 (by omega),_,HW9.out⟩
      case measure=>simp[intOf];omega
    ·obtain rfl:r=xt+1:=by omega
     have hrti:¬((xt+1:Nat):Int)≤(xt:Int):=by omega
     have hb:bF+1<w3.heap.size:=by omega
     have hst9:kR0 w3 (bF+1) 0 Tt (W.drewN nq):=HSt.out.1.off (T':=Tt) hb (Off.of_below (below_drewN (Below.refl _ W) nq)) (kB4.refl _ _ _)
     have HS9:=jH hst9;clear hst9 hb
     gi_wp2
     refine⟨kEk.of_below (below_drewN (Below.refl _ W) nq),HS9.out,fun s hs r h1 h2=> ?_⟩
     rcases List.mem_append.1 hs with hs | hs
     ·exact HSt.out.2 s hs r h1 h2
     ·obtain rfl:=List.mem_singleton.1 hs;have h1':xf≤r:=h1;have h2':r≤xt:=h2;show(f r != 0&&q r)=false;rw[HNo.out r h1' (by omega),Bool.and_false]
 case done=>
  rintro D Tt xs W hD hTD hxs ⟨hst,hno⟩ hDk;have HSt:=jH hst;have q1:=jK W (bF+1) 0 _ _ (0,0) hst.cM;have f1:=jO W (bF+1) 0 _ _ hst.cM;have HNo:=jH hno;have HDk:=jH hDk;have HXs:=jH hxs;have HTD:=jH hTD;clear hst hno hDk hxs hTD;have q2:=World.cell?_setCell_same' W ⟨bF+1,0,none⟩ (.int .i32 1114112) (by rw[q1];rfl);go_wp2
  refine kB5 (by rw[jQ W ⟨bF+1,0,none⟩ D _ (by simp;omega)];exact HDk.out) (kBy (v:= .int .i32 1114112) ?_ ?_)
  ·have q:=kEn q2 D (.deferred none) (by omega);simp[results,Tryz.results89,go_sem,q]
  ·refine⟨N,by rw[HN.out];rfl,.none (fun r hr=> ?_),?_⟩
   ·obtain⟨s,hs,h1,h2⟩:=kK0 (f:=kAo (0:Int) T) (N:=N) (by have:=HN.out;omega) r hr;exact HNo.out s (by rw[HXs.out];exact hs) r h1 h2
   ·have hW:Below w.heap.size w W:=HA3.out.2.2.trans (HSt.out.but.below w.heap.size (by omega) (fun k hk=>by rw[hk];omega));exact kDu (hW.setCell (p:=⟨bF+1,0,none⟩) (by show w.heap.size≤bF+1;omega) _) D _ (by omega)
 case stop=>
  rintro D c Tt pre W hD hTD - ⟨m,hst,rfl,hm⟩ hDk;have HSt:=jH hst;have q1:=jK W (bF+1) 0 _ _ (0,0) hst.cM;have HM:=jH hm;have HDk:=jH hDk;clear hst hm hDk;go_wp2
  refine kB5 HDk.out (kBy (v:= .int .i32 (m:Nat)) ?_ ?_)
  ·have q:=kEn q1 D (.deferred none) (by omega);simp[results,Tryz.results89,go_sem,q]
  ·refine⟨m,rfl,HM.out,?_⟩;have hW:Below w.heap.size w W:=HA3.out.2.2.trans (HSt.out.but.below w.heap.size (by omega) (fun k hk=>by rw[hk];omega));exact kDu hW D _ (by omega)
end Go.Proofs.YtbmphakfgoompaaGreat

namespace Go.Proofs.YtbmphakfgoompaaGreat
open Go.RowKit
def kEy (p m:Nat):Value:=if m<1114112 then .tuple #[.pointer none,.int .i32 (m:Nat),.int .i64 141]else .tuple #[.pointer (some ⟨p,0,none⟩),.int .i32 0,.int .i64 0]
theorem kI0 {w:World}{g:Nat}{T:kAp VJ.El}(hk:kBk T)(h0:0<T.low.length)(ht:kAu VJ.val8 152 64 w g T){cf:Nat}{bs lb:Array Value}{f:Nat→Int}{q:Nat→Bool}{m:Nat}
  (hfl:∀r,r≤1114111→kAo (0:Int) T r=f r)(eg:∀args W,(callFunc cf args).run Tryz.prog W= .ok (.enter cf args) W)
  (hcall:∀r,r≤1114111→f r≠0→∀W,Below w.heap.size w W→Calls Tryz.prog cf (bs.push (.int .i32 (r:Nat))++lb) W fun e W'=>e= .returned (.bool (q r))∧∃n,W'=W.drewN n)
  (hm:kBd (fun r=>f r != 0&&q r) 1114112 m):
  Calls Tryz.prog 89 #[.pointer (some ⟨g,0,none⟩),.func (.func cf) bs lb] w fun e w'=>e= .returned (.int .i32 (m:Nat))∧Below w.heap.size w w':=
 (kOt w g T hk h0 ht cf bs lb f q 1114112 rfl (fun r hr=>hfl r (by omega)) eg (fun r hr=>hcall r (by omega))).mono fun e w' ⟨k,h1,h2,h3⟩=>⟨by rw[h1,h2.unique hm],h3⟩
theorem kKt {w:World}{p gc gb gt gm:Nat}{C:kAp Int}{B T M:kAp VJ.El}{c b t m:Nat→Int}(h:Tab w p gc gb gt gm C B T M c b t m)(hf:Fit b t m)(k:Nat)(hk:kBd (kBu c b t m) 1114112 k):
  Calls Tryz.prog 39 #[.pointer (some ⟨p,0,none⟩)] w fun e w'=>e= .returned (kEy p k)∧Below w.heap.size w w':=by
 obtain⟨k1,h1⟩:=kBd.exists (fun r=>b r != 0&&kSk c b r) 1114112;obtain⟨k2,h2⟩:=kBd.exists (fun r=>t r != 0&&kDe b t r) 1114112;obtain⟨k3,h3⟩:=kBd.exists (fun r=>m r != 0&&kNx m r) 1114112;obtain rfl:k=min (min k1 k2) k3:=hk.unique ((h1.min h2).min h3);have l1:=h1.le;have l2:=h2.le;have l3:=h3.le
 have HL:=jH (And.intro h1 (And.intro h2 h3));clear h1 h2 h3 hk
 obtain⟨kk,hkk⟩:∃kk,kk=min (min k1 k2) k3:=⟨_,rfl⟩
 rw[←hkk]
 have hmin:∀(w:World) (ts:Array TypeId) (t:TypeId),(Builtin.min_ ts t #[.int .i32 (k1:Nat),.int .i32 (k2:Nat),.int .i32 (k3:Nat)]).run Tryz.prog w= .ok (.int .i32 (kk:Nat)) w:=fun w ts t=>by
  rw[run_min_int3]
  congr 2
  split<;>split at* <;>omega
 have hkl:kk≤1114112:=by omega
 have HT:=jH h
 have HF:=jH hf;clear hf
 have a1:=jN w (.cells #[.pointer (some ⟨p,0,none⟩)] 52);have b1:=(Below.refl _ w).alloc jR (.cells #[.pointer (some ⟨p,0,none⟩)] 52);have HW1:=jH (And.intro a1 b1);clear a1 b1 h
 go_enter Tryz.func39,Tryz.ntmps39
 go_upto_region 2 with(fail)
 obtain⟨bx,hbx⟩:∃bx,bx=w.heap.size:=⟨_,rfl⟩
 obtain⟨a1,b1⟩:=HW1.out;clear HW1;rw[←hbx]at a1 ⊢;generalize w.alloc (.cells #[.pointer (some ⟨p,0,none⟩)] 52)=w1 at*;have q0:=jK w1 bx 0 _ _ (0,0) a1;have HT1:=jH (HT.out.below b1);have HB1:=jH b1;have r1:=jK w1 p 1 _ _ (0,0) HT1.out.mem.row;have r2:=jK w1 p 2 _ _ (0,0) HT1.out.mem.row;have r3:=jK w1 p 3 _ _ (0,0) HT1.out.mem.row;simp at q0 r1 r2 r3
 have HA1:Hid (∀q:Regrown,Calls Tryz.prog 89 #[.pointer (some ⟨gb,0,none⟩),.func (.func 90) #[.pointer (some ⟨p,0,none⟩)] #[]] (Go.Sort.grow (redrawn w1 q.d) q.os) fun e w''=>e= .returned (.int .i32 (k1:Nat))∧∃p:Regrown,w''=Go.Sort.grow (redrawn w1 p.d) p.os):=jH (fun q=>by
  have h9:=HT1.out.below (below_regrown w1 q.d q.os)
  exact Go.Calls.regrown_of (kI0 h9.mem.okB h9.mem.posB h9.mem.atB h9.b (enters_of Tryz.func90 (by kernel_rfl) rfl) (fun r hr _ W hW=>kSl (h9.below hW) HF.out r hr) HL.out.1))
 have HA2:Hid (∀q:Regrown,Calls Tryz.prog 89 #[.pointer (some ⟨gt,0,none⟩),.func (.func 91) #[.pointer (some ⟨p,0,none⟩)] #[]] (Go.Sort.grow (redrawn w1 q.d) q.os) fun e w''=>e= .returned (.int .i32 (k2:Nat))∧∃p:Regrown,w''=Go.Sort.grow (redrawn w1 p.d) p.os):=jH (fun q=>by
  have h9:=HT1.out.below (below_regrown w1 q.d q.os)
  exact Go.Calls.regrown_of (kI0 h9.mem.okT h9.mem.posT h9.mem.atT h9.t (enters_of Tryz.func91 (by kernel_rfl) rfl) (fun r hr _ W hW=>kMv (h9.below hW) HF.out r hr) HL.out.2.1))
 have HA3:Hid (∀q:Regrown,Calls Tryz.prog 89 #[.pointer (some ⟨gm,0,none⟩),.func (.func 88) #[] #[.pointer (some ⟨bx,0,none⟩)]] (Go.Sort.grow (redrawn w1 q.d) q.os) fun e w''=>e= .returned (.int .i32 (k3:Nat))∧∃p:Regrown,w''=Go.Sort.grow (redrawn w1 p.d) p.os):=jH (fun q=>by
  have h9:=HT1.out.below (below_regrown w1 q.d q.os);have c9:=cell_regrown q0 q.d q.os
  exact Go.Calls.regrown_of (kI0 h9.mem.okM h9.mem.posM h9.mem.atM h9.m (enters_of Tryz.func88 (by kernel_rfl) rfl) (fun r hr _ W hW=>kRi (h9.below hW) r hr ((hW.cell (p:=⟨bx,0,none⟩) (World.block_lt_of_cell? _ _ c9)).trans c9)) HL.out.2.2))
 have g0:=fun d os=>cell_regrown q0 d os
 have g1:=fun d os=>cell_regrown r1 d os
 have g2:=fun d os=>cell_regrown r2 d os
 have g3:=fun d os=>cell_regrown r3 d os
 have HK:=jH hkk;clear a1 b1 hbx HT HL hkk l1 l2 l3;refine wp_region_quiet_below (by kernel_rfl) (by kernel_rfl) ?_
 iterate 6 (go_big_quiet_step (fail))
 go_big_quiet_step (exact HA1.out _)
 iterate 6 (go_big_quiet_step (fail))
 go_big_quiet_step (exact HA2.out _)
 iterate 5 (go_big_quiet_step (fail))
 go_big_quiet_step (exact HA3.out _)
 iterate 2 (go_big_quiet_step (fail))
 refine wpQuiet_nil ?_;intro _ hw';obtain⟨⟨dq,osq⟩,hw''⟩:=hw';subst hw'';have hb:=below_regrown w1 dq osq;have HB9:=jH (HB1.out.trans (hb.mono HB1.out.size));have g9:=cell_regrown q0 dq osq;clear g0 g1 g2 g3 hb q0 r1 r2 r3 hmin HA1 HA2 HA3 HT1 HB1;generalize Go.Sort.grow (redrawn w1 dq) osq=w9 at*
 by_cases hc:kk<1114112
 ·have hci:(kk:Int)<1114112:=by omega
  have e1:kEy p kk= .tuple #[.pointer none,.int .i32 (kk:Nat),.int .i64 141]:=if_pos hc;have HE:=jH e1;clear hc e1;go_wp2
  refine jS (v:= .tuple #[.pointer none,.int .i32 (kk:Nat),.int .i64 141]) (by simp[results,Tryz.results39,go_sem]) rfl ?_;exact⟨by rw[HE.out],HB9.out⟩
 ·have hci:¬(kk:Int)<1114112:=by omega
  have e1:kEy p kk= .tuple #[.pointer (some ⟨p,0,none⟩),.int .i32 0,.int .i64 0]:=if_neg hc;have HE:=jH e1;clear hc e1;go_wp2
  refine jS (v:= .tuple #[.pointer (some ⟨p,0,none⟩),.int .i32 0,.int .i64 0]) (by simp[results,Tryz.results39,go_sem]) rfl ?_;exact⟨by rw[HE.out],HB9.out⟩
end Go.Proofs.YtbmphakfgoompaaGreat
