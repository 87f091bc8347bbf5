/- several texts in one: UH UA -/
import Derived.Test.YtbmphakfgoompaaGreatO3
set_option linter.unusedVariables false
set_option linter.unusedSimpArgs false
set_option maxRecDepth 100000
set_option maxHeartbeats 16000000
namespace Go.Proofs.YtbmphakfgoompaaGreat
open Go.RowKit
theorem Tryz.elemClass:kKx Tryz.prog 44 22 (.int .u8 0) 1:=⟨Tryz.underlying44,by kernel_rfl,rfl⟩
def HdR (w:World) (n:Nat) (bad:Nat→Bool) (iv:Value) (wr:World):Prop:=
 ∃k:Nat,k≤n∧iv= .int .i64 (k:Nat)∧(∀j,j<k→bad j=false)∧Below w.heap.size w wr
def HdA (w:World) (gA N:Nat) (g:Nat→Int→Int) (n:Nat) (iv:Value) (wr:World):Prop:=
 ∃k:Nat,k≤n∧iv= .int .i64 (k:Nat)∧Own gA 22 wr (some ⟨gA,0,none⟩) N N (ivs .u8 (kLy N (g k)))∧w.grownBy wr (some gA)
def HdB (w:World) (gA N:Nat) (g:Nat→Int→Int) (f t:Nat) (iv:Value) (wr:World):Prop:=
 ∃k:Nat,f≤k∧k≤t+1∧iv= .int .i32 (k:Nat)∧Own gA 22 wr (some ⟨gA,0,none⟩) N N (ivs .u8 (kLy N (g k)))∧w.grownBy wr (some gA)
theorem kL5 (w:World)(bA gA N:Nat)(hN:N=1114112)(g:Int→Int)(hc:w.cell? ⟨bA,0,none⟩=some (.slice (some ⟨gA,0,none⟩) N N))(r:Nat)(hr:r<1114112)(h:w.cell? ⟨gA,r,none⟩=some (.int .u8 (g (r:Nat)))):
  Calls Tryz.prog 50 #[.int .i32 (r:Nat),.pointer (some ⟨bA,0,none⟩)] w fun e w'=>e= .returned (val8 (g (r:Nat)))∧Below w.heap.size w w':=by
 generalize g (r:Nat)=y at*
 have hr0:(0:Int)≤(r:Int):=by omega
 have hr1:(r:Int)<(N:Int):=by omega
 clear hN
 go_enter Tryz.func50,Tryz.ntmps50
 go_wp2
 go_ret
 exact⟨rfl,Below.refl _ _⟩
theorem kQp (rest:Int)(a1:Option Addr)(n1 c1:Nat)(l1:List kAr)(a2:Option Addr)(n2 c2:Nat)(l2:List kAr)(a3:Option Addr)(n3 c3:Nat)(l3:List TwD)(a4:Option Addr)(n4 c4:Nat)(l4:List TwD)(w:World)
  (hl1:l1.length=n1)(hn1:n1≤1048576)(hs1:kB3 w a1 l1)(hl2:l2.length=n2)(hn2:n2≤1048576)(hs2:kB3 w a2 l2)(hl3:l3.length=n3)(hn3:n3≤1048576)(hs3:kKd w a3 l3)(hl4:l4.length=n4)(hn4:n4≤1048576)(hs4:kKd w a4 l4):
  Calls Tryz.prog 15 #[.int .u8 rest,.slice a1 n1 c1,.slice a2 n2 c2,.slice a3 n3 c3,.slice a4 n4 c4] w fun e w'=>kR1 w rest l1 l2 l3 l4 e w':=by
 have HL1:=jH hl1;have HL2:=jH hl2;have HL3:=jH hl3;have HL4:=jH hl4;have HS1:=jH hs1;have HS2:=jH hs2;have HS3:=jH hs3;have HS4:=jH hs4;clear hl1 hl2 hl3 hl4 hs1 hs2 hs3 hs4;have HKn:=jH (kH2 rest)
 obtain⟨bk,hbk⟩:∃b,b=kDo rest:=⟨_,rfl⟩
 rw[←hbk]at HKn;have HW0:=jH (Below.refl w.heap.size w)
 cases bk
 ·have HB0:Hid (kC6 rest l1 l2 l3 l4=some 0):=jH (by unfold kC6;rw[if_neg (by rw[←hbk];simp)]);clear hbk
  go_enter Tryz.func15,Tryz.ntmps15
  go_wp2_with fail
  refine(HKn.out _).mono ?_;rintro e w2 ⟨rfl,h2⟩;subst h2;go_wp2
  refine jS (v:= .tuple #[.pointer none,.int .i32 0,.int .i64 2]) (by simp[results,Tryz.results15,go_sem]) rfl ?_;exact⟨HW0.out,.inl ⟨_,HB0.out,rfl⟩⟩
 ·have HK0:=jH hbk.symm;clear hbk
  go_enter Tryz.func15,Tryz.ntmps15
  go_wp2_with fail
  refine(HKn.out _).mono ?_;rintro e w2 ⟨rfl,h2⟩;subst h2;clear HKn
  obtain⟨w,rfl⟩:∃w,w=w2:=⟨_,rfl⟩
  go_wp2
  go_loopw [33] (HdR w n1 (fun j=>kIl (l1.getD j default))) (fun i _=>n1 - (intOf i).toNat)
  case atStart=>exact⟨0,Nat.zero_le _,rfl,fun j hj=>by omega,HW0.out⟩
  case round=>
   obtain⟨k,hk,rfl,hgood,hbel⟩:=hrel
   have HGd:=jH hgood;clear hgood
   have HBe:=jH hbel;clear hbel
   by_cases hkn:k<n1
   ·have hki:(k:Int)<(n1:Int):=by omega
    have hkl:k<l1.length:=by rw[HL1.out];exact hkn
    obtain⟨b,o,ha⟩:=HS1.out.some (by omega);subst ha;obtain⟨c1,c2,c3⟩:=(HS1.out.keep HBe.out).get k hkl;have HBadk:=jH (fun(h:kIl l1[k]=true)=>(show kC6 rest l1 l2 l3 l4=some (l1[k]).f from by unfold kC6;rw[if_pos HK0.out,kHw hkl h (fun j hj=>HGd.out j hj)]));have HGk:=jH (show l1.getD k default=l1[k] by simp[hkl])
    obtain⟨s,hs⟩:∃s,s=l1[k]:=⟨_,rfl⟩
    rw[←hs]at c1 c2 c3 HBadk HGk;clear hs;have a1:=jN wr (.cells #[.int .i32 s.f,.int .i32 s.t,.int .u8 s.v] 63);have b1:=(Below.refl _ wr).alloc jR (.cells #[.int .i32 s.f,.int .i32 s.t,.int .u8 s.v] 63);have HW1:=jH (And.intro a1 b1);clear a1 b1
    go_upto_region 6 with(fail)
    obtain⟨a1,b1⟩:=HW1.out;clear HW1
    obtain⟨bx,hbx⟩:∃bx,bx=wr.heap.size:=⟨_,rfl⟩
    rw[←hbx]at a1 ⊢;generalize wr.alloc (.cells #[.int .i32 s.f,.int .i32 s.t,.int .u8 s.v] 63)=w1 at*;have HBe1:=jH (HBe.out.trans (b1.mono HBe.out.size));have q0:=jK w1 bx 0 _ _ (0,0) a1;have q1:=jK w1 bx 1 _ _ (0,0) a1;have q2:=jK w1 bx 2 _ _ (0,0) a1;simp at q0 q1 q2;clear a1 b1 hbx c1 c2 c3
    obtain⟨bf,hbf⟩:∃x,x=kA9 s.f:=⟨_,rfl⟩
    obtain⟨bt,hbt⟩:∃x,x=kA9 s.t:=⟨_,rfl⟩
    have HPf:=jH (fun w=>(kCy s.f w).mono fun e w' h=>(show e= .returned (.bool bf)∧w'=w from by rw[hbf];exact h));have HPt:=jH (fun w=>(kCy s.t w).mono fun e w' h=>(show e= .returned (.bool bt)∧w'=w from by rw[hbt];exact h))
    obtain⟨bk,hbk⟩:∃x,x=kDo s.v:=⟨_,rfl⟩
    have HPk:=jH (fun w=>(kH2 s.v w).mono fun e w' h=>(show e= .returned (.bool bk)∧w'=w from by rw[hbk];exact h))
    have heb:kIl s=(!bf|| !bt||decide (s.t<s.f)|| !bk):=by rw[hbf,hbt,hbk];rfl
    have HEb:=jH heb;clear hbf hbt hbk heb
    cases bf
    ·go_wp2_with fail
     refine(HPf.out _).mono ?_;rintro e w2 ⟨rfl,h2⟩;subst h2;go_wp2
     go_quiet (fail)
     go_wp2
     refine jS (v:= .tuple #[.pointer none,.int .i32 s.f,.int .i64 2]) (by simp[results,Tryz.results15,go_sem]) rfl ?_;exact⟨below_drewN HBe1.out _,.inl ⟨_,HBadk.out (by rw[HEb.out];simp),rfl⟩⟩
    ·cases bt
     ·go_wp2_with fail
      refine(HPf.out _).mono ?_;rintro e w2 ⟨rfl,h2⟩;subst h2
      go_wp2_with fail
      refine(HPt.out _).mono ?_;rintro e w2 ⟨rfl,h2⟩;subst h2;go_wp2
      go_quiet (fail)
      go_wp2
      refine jS (v:= .tuple #[.pointer none,.int .i32 s.f,.int .i64 2]) (by simp[results,Tryz.results15,go_sem]) rfl ?_;exact⟨below_drewN HBe1.out _,.inl ⟨_,HBadk.out (by rw[HEb.out];simp),rfl⟩⟩
     ·by_cases hc:s.t<s.f
      ·have HHc:=jH hc
       go_wp2_with fail
       refine(HPf.out _).mono ?_;rintro e w2 ⟨rfl,h2⟩;subst h2
       go_wp2_with fail
       refine(HPt.out _).mono ?_;rintro e w2 ⟨rfl,h2⟩;subst h2;go_wp2
       go_quiet (fail)
       go_wp2
       refine jS (v:= .tuple #[.pointer none,.int .i32 s.f,.int .i64 2]) (by simp[results,Tryz.results15,go_sem]) rfl ?_;exact⟨below_drewN HBe1.out _,.inl ⟨_,HBadk.out (by rw[HEb.out];simp[HHc.out]),rfl⟩⟩
      ·have HHc:=jH hc
       cases bk
       ·go_wp2_with fail
        refine(HPf.out _).mono ?_;rintro e w2 ⟨rfl,h2⟩;subst h2
        go_wp2_with fail
        refine(HPt.out _).mono ?_;rintro e w2 ⟨rfl,h2⟩;subst h2
        go_wp2_with fail
        refine(HPk.out _).mono ?_;rintro e w2 ⟨rfl,h2⟩;subst h2;go_wp2
        go_quiet (fail)
        go_wp2
        refine jS (v:= .tuple #[.pointer none,.int .i32 s.f,.int .i64 2]) (by simp[results,Tryz.results15,go_sem]) rfl ?_;exact⟨below_drewN HBe1.out _,.inl ⟨_,HBadk.out (by rw[HEb.out];simp),rfl⟩⟩
       ·go_wp2_with fail
        refine(HPf.out _).mono ?_;rintro e w2 ⟨rfl,h2⟩;subst h2
        go_wp2_with fail
        refine(HPt.out _).mono ?_;rintro e w2 ⟨rfl,h2⟩;subst h2
        go_wp2_with fail
        refine(HPk.out _).mono ?_;rintro e w2 ⟨rfl,h2⟩;subst h2;go_wp2
        go_roundw
        case rel=>exact⟨k+1,by omega,by go_num,fun j hj=>by
         by_cases e:j=k
         ·show kIl (l1.getD j default)=false
          rw[e,HGk.out,HEb.out];simp;have:=HHc.out;omega
         ·exact HGd.out j (by omega),HBe1.out⟩
        case measure=>simp[intOf];omega
   ·obtain rfl:n1=k:=by omega
    have hki:¬(n1:Int)<(n1:Int):=by omega
    have HF1:Hid (l1.find? kIl=none):=jH (kQh (fun j hj=>HGd.out j (by have:=HL1.out;omega)));have HW0b:=jH HBe.out;clear HGd HBe;go_wp2
    go_loopw [65] (HdR w n2 (fun j=>kK1 (l2.getD j default))) (fun i _=>n2 - (intOf i).toNat)
    case atStart=>exact⟨0,Nat.zero_le _,rfl,fun j hj=>by omega,HW0b.out⟩
    case round=>
     obtain⟨k,hk,rfl,hgood,hbel⟩:=hrel
     have HGd:=jH hgood;clear hgood
     have HBe:=jH hbel;clear hbel
     by_cases hkn:k<n2
     ·have hki:(k:Int)<(n2:Int):=by omega
      have hkl:k<l2.length:=by rw[HL2.out];exact hkn
      obtain⟨b,o,ha⟩:=HS2.out.some (by omega);subst ha;obtain⟨c1,c2,c3⟩:=(HS2.out.keep HBe.out).get k hkl;have HBadk:=jH (fun(h:kK1 l2[k]=true)=>(show kC6 rest l1 l2 l3 l4=some (l2[k]).f from by unfold kC6;rw[if_pos HK0.out,HF1.out,kHw hkl h (fun j hj=>HGd.out j hj)]));have HGk:=jH (show l2.getD k default=l2[k] by simp[hkl])
      obtain⟨s,hs⟩:∃s,s=l2[k]:=⟨_,rfl⟩
      rw[←hs]at c1 c2 c3 HBadk HGk;clear hs;have a1:=jN wr (.cells #[.int .i32 s.f,.int .i32 s.t,.int .u8 s.v] 66);have b1:=(Below.refl _ wr).alloc jR (.cells #[.int .i32 s.f,.int .i32 s.t,.int .u8 s.v] 66);have HW1:=jH (And.intro a1 b1);clear a1 b1
      go_upto_region 12 with(fail)
      obtain⟨a1,b1⟩:=HW1.out;clear HW1
      obtain⟨bx,hbx⟩:∃bx,bx=wr.heap.size:=⟨_,rfl⟩
      rw[←hbx]at a1 ⊢;generalize wr.alloc (.cells #[.int .i32 s.f,.int .i32 s.t,.int .u8 s.v] 66)=w1 at*;have HBe1:=jH (HBe.out.trans (b1.mono HBe.out.size));have q0:=jK w1 bx 0 _ _ (0,0) a1;have q1:=jK w1 bx 1 _ _ (0,0) a1;have q2:=jK w1 bx 2 _ _ (0,0) a1;simp at q0 q1 q2;clear a1 b1 hbx c1 c2 c3
      obtain⟨bf,hbf⟩:∃x,x=kA9 s.f:=⟨_,rfl⟩
      obtain⟨bt,hbt⟩:∃x,x=kA9 s.t:=⟨_,rfl⟩
      have HPf:=jH (fun w=>(kCy s.f w).mono fun e w' h=>(show e= .returned (.bool bf)∧w'=w from by rw[hbf];exact h));have HPt:=jH (fun w=>(kCy s.t w).mono fun e w' h=>(show e= .returned (.bool bt)∧w'=w from by rw[hbt];exact h))
      obtain⟨bk,hbk⟩:∃x,x=kIo s.v:=⟨_,rfl⟩
      have HPk:=jH (fun w=>(kPp s.v w).mono fun e w' h=>(show e= .returned (.bool bk)∧w'=w from by rw[hbk];exact h))
      have heb:kK1 s=(!bf|| !bt||s.f==s.t|| !bk):=by rw[hbf,hbt,hbk];rfl
      have HEb:=jH heb;clear hbf hbt hbk heb
      cases bf
      ·go_wp2_with fail
       refine(HPf.out _).mono ?_;rintro e w2 ⟨rfl,h2⟩;subst h2;go_wp2
       go_quiet (fail)
       go_wp2
       refine jS (v:= .tuple #[.pointer none,.int .i32 s.f,.int .i64 2]) (by simp[results,Tryz.results15,go_sem]) rfl ?_;exact⟨below_drewN HBe1.out _,.inl ⟨_,HBadk.out (by rw[HEb.out];simp),rfl⟩⟩
      ·cases bt
       ·go_wp2_with fail
        refine(HPf.out _).mono ?_;rintro e w2 ⟨rfl,h2⟩;subst h2
        go_wp2_with fail
        refine(HPt.out _).mono ?_;rintro e w2 ⟨rfl,h2⟩;subst h2;go_wp2
        go_quiet (fail)
        go_wp2
        refine jS (v:= .tuple #[.pointer none,.int .i32 s.f,.int .i64 2]) (by simp[results,Tryz.results15,go_sem]) rfl ?_;exact⟨below_drewN HBe1.out _,.inl ⟨_,HBadk.out (by rw[HEb.out];simp),rfl⟩⟩
       ·by_cases hc:s.f=s.t
        ·have dc:(s.f==s.t)=true:=beq_iff_eq.2 hc;have HHc:=jH hc;clear hc
         go_wp2_with fail
         refine(HPf.out _).mono ?_;rintro e w2 ⟨rfl,h2⟩;subst h2
         go_wp2_with fail
         refine(HPt.out _).mono ?_;rintro e w2 ⟨rfl,h2⟩;subst h2;go_wp2
         go_quiet (fail)
         go_wp2
         refine jS (v:= .tuple #[.pointer none,.int .i32 s.f,.int .i64 2]) (by simp[results,Tryz.results15,go_sem]) rfl ?_;exact⟨below_drewN HBe1.out _,.inl ⟨_,HBadk.out (by rw[HEb.out];simp[HHc.out]),rfl⟩⟩
        ·have dc:(s.f==s.t)=false:=beq_false_of_ne hc;have HHc:=jH hc;clear hc
         cases bk
         ·go_wp2_with fail
          refine(HPf.out _).mono ?_;rintro e w2 ⟨rfl,h2⟩;subst h2
          go_wp2_with fail
          refine(HPt.out _).mono ?_;rintro e w2 ⟨rfl,h2⟩;subst h2
          go_wp2_with fail
          refine(HPk.out _).mono ?_;rintro e w2 ⟨rfl,h2⟩;subst h2;go_wp2
          go_quiet (fail)
          go_wp2
          refine jS (v:= .tuple #[.pointer none,.int .i32 s.f,.int .i64 2]) (by simp[results,Tryz.results15,go_sem]) rfl ?_;exact⟨below_drewN HBe1.out _,.inl ⟨_,HBadk.out (by rw[HEb.out];simp),rfl⟩⟩
         ·go_wp2_with fail
          refine(HPf.out _).mono ?_;rintro e w2 ⟨rfl,h2⟩;subst h2
          go_wp2_with fail
          refine(HPt.out _).mono ?_;rintro e w2 ⟨rfl,h2⟩;subst h2
          go_wp2_with fail
          refine(HPk.out _).mono ?_;rintro e w2 ⟨rfl,h2⟩;subst h2;go_wp2
          go_roundw
          case rel=>exact⟨k+1,by omega,by go_num,fun j hj=>by
           by_cases e:j=k
           ·show kK1 (l2.getD j default)=false
            rw[e,HGk.out,HEb.out];simp[HHc.out]
           ·exact HGd.out j (by omega),HBe1.out⟩
          case measure=>simp[intOf];omega
     ·obtain rfl:n2=k:=by omega
      have hki:¬(n2:Int)<(n2:Int):=by omega
      have HF2:Hid (l2.find? kK1=none):=jH (kQh (fun j hj=>HGd.out j (by have:=HL2.out;omega)));have HB2:=jH HBe.out;clear HGd HBe
      obtain⟨w6,rfl⟩:∃w6,w6=wr:=⟨_,rfl⟩
      have a1:=jN w6 (.cells #[.slice a3 n3 c3,.slice a4 n4 c4] 25);have b1:=(Below.refl _ w6).alloc jR (.cells #[.slice a3 n3 c3,.slice a4 n4 c4] 25);have HW1:=jH (And.intro a1 b1);clear a1 b1
      go_upto_region 16 with(fail)
      obtain⟨a1,b1⟩:=HW1.out;clear HW1
      obtain⟨bT,hbT⟩:∃bT,bT=w6.heap.size:=⟨_,rfl⟩
      rw[←hbT]at a1 ⊢;generalize w6.alloc (.cells #[.slice a3 n3 c3,.slice a4 n4 c4] 25)=w7 at*;have HW7:=jH (HB2.out.trans (b1.mono HB2.out.size));have HA7:=jH a1;clear a1 b1 hbT
      go_loopw [99] (HdR w7 2 (fun j=>(if j=0 then l3 else l4).any kEj)) (fun i _=>2 - (intOf i).toNat)
      case atStart=>exact⟨0,by omega,rfl,fun j hj=>by omega,Below.refl _ _⟩
      case round=>
       obtain⟨p,hp,rfl,hpg,hpb⟩:=hrel
       have HPg:=jH hpg;clear hpg
       have HPb:=jH hpb;clear hpb
       by_cases hp2:p<2
       ·have hpi:(p:Int)<2:=by omega
        obtain⟨aX,nX,cX,lX,hlX,hnX,hsX,hcX,heX⟩:∃(aX:Option Addr) (nX cX:Nat) (lX:List TwD),lX.length=nX∧nX≤1048576∧kKd wr aX lX∧wr.cell? ⟨bT,p,none⟩=some (.slice aX nX cX)∧(if p=0 then l3 else l4)=lX:=by
         have hr:=(HPb.out.block bT (jL HA7.out)).trans HA7.out;have q0:=jK wr bT 0 _ _ (0,0) hr;have q1:=jK wr bT 1 _ _ (0,0) hr;simp at q0 q1
         by_cases e:p=0
         ·subst e;exact⟨a3,n3,c3,l3,HL3.out,hn3,(HS3.out.keep HW7.out).keep HPb.out,q0,rfl⟩
         ·obtain rfl:p=1:=by omega
          exact⟨a4,n4,c4,l4,HL4.out,hn4,(HS4.out.keep HW7.out).keep HPb.out,q1,rfl⟩
        have HLX:=jH hlX;have HSX:=jH hsX;have HEX:=jH heX
        have HBX:Hid (∀k (h:k<lX.length),kEj lX[k]=true→(∀j,j<k→kEj (lX.getD j default)=false)→kC6 rest l1 l2 l3 l4=some (lX[k]).a):=jH (fun k h h1 h2=>by
         unfold kC6;rw[if_pos HK0.out,HF1.out,HF2.out];have hf:=kHw h h1 h2
         by_cases e:p=0
         ·subst e;have heX:=HEX.out;rw[if_pos rfl]at heX;subst heX;rw[hf]
         ·have heX:=HEX.out;rw[if_neg e]at heX;subst heX;have h0:(if(0:Nat)=0 then l3 else l4).any kEj=false:=HPg.out 0 (by omega);rw[if_pos rfl]at h0
          have h3:l3.find? kEj=none:=by
           rw[List.find?_eq_none];intro x hx hb;have:=List.any_eq_false.1 h0 x hx;exact this hb
          rw[h3,hf]
          rfl)
        have HW0p:=jH (HW7.out.trans (HPb.out.mono HW7.out.size));clear hlX hsX heX;have HW0:=jH (Below.refl wr.heap.size wr)
        obtain⟨wp,rfl⟩:∃wp,wp=wr:=⟨_,rfl⟩
        go_wp2
        go_loopw [105] (HdR wp nX (fun j=>kEj (lX.getD j default))) (fun i _=>nX - (intOf i).toNat)
        case atStart=>exact⟨0,Nat.zero_le _,rfl,fun j hj=>by omega,HW0.out⟩
        case round=>
         obtain⟨k,hk,rfl,hgood,hbel⟩:=hrel
         have HGd:=jH hgood;clear hgood
         have HBe:=jH hbel;clear hbel
         by_cases hkn:k<nX
         ·have hki:(k:Int)<(nX:Int):=by omega
          have hkl:k<lX.length:=by rw[HLX.out];exact hkn
          obtain⟨b,o,ha⟩:=HSX.out.some (by omega);subst ha;obtain⟨c1,c2⟩:=(HSX.out.keep HBe.out).get k hkl;have HBadk:=jH (fun(h:kEj lX[k]=true)=>HBX.out k hkl h (fun j hj=>HGd.out j hj));have HGk:=jH (show lX.getD k default=lX[k] by simp[hkl])
          obtain⟨s,hs⟩:∃s,s=lX[k]:=⟨_,rfl⟩
          rw[←hs]at c1 c2 HBadk HGk;clear hs;have a1:=jN wr (.cells #[.int .i32 s.a,.int .i32 s.s] 68);have b1:=(Below.refl _ wr).alloc jR (.cells #[.int .i32 s.a,.int .i32 s.s] 68);have HW1:=jH (And.intro a1 b1);clear a1 b1
          go_upto_region 21 with(fail)
          obtain⟨a1,b1⟩:=HW1.out;clear HW1
          obtain⟨bx,hbx⟩:∃bx,bx=wr.heap.size:=⟨_,rfl⟩
          rw[←hbx]at a1 ⊢;generalize wr.alloc (.cells #[.int .i32 s.a,.int .i32 s.s] 68)=w1 at*;have HBe1:=jH (HBe.out.trans (b1.mono HBe.out.size));have q0:=jK w1 bx 0 _ _ (0,0) a1;have q1:=jK w1 bx 1 _ _ (0,0) a1;simp at q0 q1;clear a1 b1 hbx c1 c2
          obtain⟨bf,hbf⟩:∃x,x=kA9 s.a:=⟨_,rfl⟩
          obtain⟨bt,hbt⟩:∃x,x=kA9 s.s:=⟨_,rfl⟩
          have HPf:=jH (fun w=>(kCy s.a w).mono fun e w' h=>(show e= .returned (.bool bf)∧w'=w from by rw[hbf];exact h));have HPt:=jH (fun w=>(kCy s.s w).mono fun e w' h=>(show e= .returned (.bool bt)∧w'=w from by rw[hbt];exact h))
          have heb:kEj s=(!bf|| !bt||s.a==s.s):=by rw[hbf,hbt];rfl
          have HEb:=jH heb;clear hbf hbt heb
          cases bf
          ·go_wp2_with fail
           refine(HPf.out _).mono ?_;rintro e w2 ⟨rfl,h2⟩;subst h2;go_wp2
           go_quiet (fail)
           go_wp2
           refine jS (v:= .tuple #[.pointer none,.int .i32 s.a,.int .i64 2]) (by simp[results,Tryz.results15,go_sem]) rfl ?_;exact⟨below_drewN (HW0p.out.trans (HBe1.out.mono HW0p.out.size)) _,.inl ⟨_,HBadk.out (by rw[HEb.out];simp),rfl⟩⟩
          ·cases bt
           ·go_wp2_with fail
            refine(HPf.out _).mono ?_;rintro e w2 ⟨rfl,h2⟩;subst h2
            go_wp2_with fail
            refine(HPt.out _).mono ?_;rintro e w2 ⟨rfl,h2⟩;subst h2;go_wp2
            go_quiet (fail)
            go_wp2
            refine jS (v:= .tuple #[.pointer none,.int .i32 s.a,.int .i64 2]) (by simp[results,Tryz.results15,go_sem]) rfl ?_;exact⟨below_drewN (HW0p.out.trans (HBe1.out.mono HW0p.out.size)) _,.inl ⟨_,HBadk.out (by rw[HEb.out];simp),rfl⟩⟩
           ·by_cases hc:s.a=s.s
            ·have dc:(s.a==s.s)=true:=beq_iff_eq.2 hc;have HHc:=jH hc;clear hc
             go_wp2_with fail
             refine(HPf.out _).mono ?_;rintro e w2 ⟨rfl,h2⟩;subst h2
             go_wp2_with fail
             refine(HPt.out _).mono ?_;rintro e w2 ⟨rfl,h2⟩;subst h2;go_wp2
             go_quiet (fail)
             go_wp2
             refine jS (v:= .tuple #[.pointer none,.int .i32 s.a,.int .i64 2]) (by simp[results,Tryz.results15,go_sem]) rfl ?_;exact⟨below_drewN (HW0p.out.trans (HBe1.out.mono HW0p.out.size)) _,.inl ⟨_,HBadk.out (by rw[HEb.out];simp[HHc.out]),rfl⟩⟩
            ·have dc:(s.a==s.s)=false:=beq_false_of_ne hc;have HHc:=jH hc;clear hc
             go_wp2_with fail
             refine(HPf.out _).mono ?_;rintro e w2 ⟨rfl,h2⟩;subst h2
             go_wp2_with fail
             refine(HPt.out _).mono ?_;rintro e w2 ⟨rfl,h2⟩;subst h2;go_wp2
             go_roundw
             case rel=>exact⟨k+1,by omega,by go_num,fun j hj=>by
              by_cases e:j=k
              ·show kEj (lX.getD j default)=false
               rw[e,HGk.out,HEb.out];simp[HHc.out]
              ·exact HGd.out j (by omega),HBe1.out⟩
             case measure=>simp[intOf];omega
         ·obtain rfl:nX=k:=by omega
          have hki:¬(nX:Int)<(nX:Int):=by omega
          have HAll:Hid ((if p=0 then l3 else l4).any kEj=false):=jH (by
           rw[HEX.out,List.any_eq_false];intro x hx;obtain⟨j,hj,rfl⟩:=List.mem_iff_getElem.1 hx;have:kEj (lX.getD j default)=false:=HGd.out j (by have:=HLX.out;omega);rw[show lX.getD j default=lX[j] by simp[hj]]at this
           simp[this])
          go_wp2
          go_roundw
          case rel=>exact⟨p+1,by omega,by go_num,fun j hj=>by
           by_cases e:j=p
           ·rw[e];exact HAll.out
           ·exact HPg.out j (by omega),HPb.out.trans (HBe.out.mono HPb.out.size)⟩
          case measure=>simp[intOf];omega
       ·obtain rfl:p=2:=by omega
        have hpi:¬((2:Nat):Int)<2:=by omega
        have HF3:Hid (l3.find? kEj=none):=jH (by
         have h0:(if(0:Nat)=0 then l3 else l4).any kEj=false:=HPg.out 0 (by omega);rw[if_pos rfl]at h0;rw[List.find?_eq_none];intro x hx hb
         exact List.any_eq_false.1 h0 x hx hb)
        have HF4:Hid (l4.find? kEj=none):=jH (by
         have h0:(if(1:Nat)=0 then l3 else l4).any kEj=false:=HPg.out 1 (by omega);rw[if_neg (by omega)]at h0;rw[List.find?_eq_none];intro x hx hb
         exact List.any_eq_false.1 h0 x hx hb)
        have HW8:=jH (HW7.out.trans (HPb.out.mono HW7.out.size));clear HPg HPb HA7 HW7
        obtain⟨w8,rfl⟩:∃w8,w8=wr:=⟨_,rfl⟩
        obtain⟨N,hN⟩:∃N:Nat,N=1114112:=⟨_,rfl⟩
        have HNN:=jH hN;clear hN
        go_wp2_with (at_make;refine kRs Tryz.elemClass rfl rfl (.const (.int .i64 1114112)) (.const (.int .i64 1114112)) rfl N (by have:=HNN.out;omega) (by have:=HNN.out;unfold maxLen;omega) (by rw[HNN.out];rfl) (by rw[HNN.out];rfl) ?_)
        intro w9 hown hb9 hs9
        go_upto_region 26 with(fail)
        obtain⟨gA,hgA⟩:∃gA,gA=w8.heap.size:=⟨_,rfl⟩
        rw[←hgA]at hown hs9 ⊢
        obtain⟨w10,hw10⟩:∃w10,w10=w9.alloc (.cells #[.slice (some ⟨gA,0,none⟩) N N] 44):=⟨_,rfl⟩
        have hB10:Below w9.heap.size w9 w10:=by rw[hw10];exact(Below.refl _ _).alloc jR _
        have HBo:Hid (w10.heap[gA+1]? =some (.cells #[.slice (some ⟨gA,0,none⟩) N N] 44 (0,0))):=jH (by rw[←hs9,hw10];exact jN w9 _)
        have hs10:w10.heap.size=gA+1+1:=by rw[hw10];simp[hs9]
        rw[←hw10];clear hw10
        have HO10:Hid (Own gA 22 w10 (some ⟨gA,0,none⟩) N N (ivs .u8 (kLy N (fun _=>0)))):=jH (by
         rw[←kPl,←kK8]
         exact hown.below hB10 jR)
        have HW10:=jH (HW8.out.trans ((kDq hb9 hB10).mono HW8.out.size))
        have hgA2:w.heap.size≤gA:=by rw[hgA];exact HW8.out.size
        clear hown hb9 hs9 hB10 hgA;have q1:=jK w10 (gA+1) 0 _ _ (0,0) HBo.out;simp at q1;have HNI:Hid ((N:Int)≤1114112):=jH (by have:=HNN.out;omega);go_wp2
        go_loopw [133] (HdA w10 gA N (fun k x=>if x<(k:Nat)then rest else 0) N) (fun i _=>N - (intOf i).toNat)
        case atStart=>exact⟨0,Nat.zero_le _,rfl,by rw[kD0 (h:=fun _=>0) (fun r _=>if_neg (by omega))];exact HO10.out,World.grownBy.refl _ _⟩
        case round=>
         obtain⟨k,hk,rfl,hown,hgr⟩:=hrel
         have HOw:=jH hown;clear hown
         have HGr:=jH hgr;clear hgr
         have p1:=HGr.out.cell q1 (by simp)
         by_cases hkn:k<N
         ·have hki:(k:Int)<(N:Int):=by omega
          have hN2:N≤1114112:=by have:=HNI.out;omega
          have x1:=HOw.out.cell k (by rw[kCx,kCu];exact hkn);have f1:=HOw.out.unfrozen k;have hst:=HOw.out.store k (.int .u8 rest)
          rw[kNl,kOi N _ k rest hkn,kD0 (h:=fun x=>if x<((k+1:Nat):Int)then rest else 0) (fun r _=>by
           dsimp only
           by_cases e:((r:Nat):Int)=(k:Nat)
           ·rw[if_pos e,if_pos (by omega)]
           ·rw[if_neg e]
            by_cases e2:((r:Nat):Int)<(k:Nat)
            ·rw[if_pos e2,if_pos (by omega)]
            ·rw[if_neg e2,if_neg (by omega)])]at hst
          have HSt:=jH hst;clear hst
          go_wp2
          go_roundw
          case rel=>exact⟨k+1,by omega,by go_num,HSt.out,kA4 HGr.out (kAd wr gA k _)⟩
          case measure=>simp[intOf];omega
         ·obtain rfl:k=N:=by omega
          have HO11:Hid (Own gA 22 wr (some ⟨gA,0,none⟩) k k (ivs .u8 (kLy k (kGy rest (l1.take 0))))):=jH (by
           rw[kD0 (h:=fun x=>if x<(k:Nat)then rest else 0) (fun r hr=>by rw[if_pos (by omega)];rfl)]
           exact HOw.out)
          have HG11:=jH HGr.out;clear HOw HGr HO10
          have hki:¬(k:Int)<(k:Int):=by omega
          obtain⟨w11,rfl⟩:∃w11,w11=wr:=⟨_,rfl⟩
          go_wp2
          go_loopw [143] (HdA w10 gA k (fun j=>kGy rest (l1.take j)) n1) (fun i _=>n1 - (intOf i).toNat)
          case atStart=>exact⟨0,Nat.zero_le _,rfl,HO11.out,HG11.out⟩
          case round=>
           obtain⟨m,hm,rfl,hown,hgr⟩:=hrel
           have HOw:=jH hown;clear hown
           have HGr:=jH hgr;clear hgr
           have p1:=HGr.out.cell q1 (by simp);have HBw:=jH (HW10.out.trans (kAv HGr.out (fun k e=>by cases e;exact hgA2) HW10.out.size))
           by_cases hmn:m<n1
           ·have hmi:(m:Int)<(n1:Int):=by omega
            have hml:m<l1.length:=by rw[HL1.out];exact hmn
            obtain⟨b,o,ha⟩:=HS1.out.some (by omega);subst ha;obtain⟨c1,c2,c3⟩:=(HS1.out.keep HBw.out).get m hml;obtain⟨⟨e1,e2⟩,⟨e3,e4⟩,e5, -⟩:=ent_ok (kGa HF1.out _ (List.getElem_mem hml))
            have HT:Hid (kGy rest (l1.take (m+1))=fun x=>if l1[m].f≤x∧x≤l1[m].t then l1[m].v else kGy rest (l1.take m) x):=jH (by
             funext x
             rw[List.take_succ_eq_append_getElem hml,kP7])
            obtain⟨s,hs⟩:∃s,s=l1[m]:=⟨_,rfl⟩
            rw[←hs]at c1 c2 c3 e1 e2 e3 e4 e5 HT;clear hs;obtain⟨f,t,v⟩:=s;simp only at c1 c2 c3 e1 e2 e3 e4 e5 HT
            obtain⟨fn,rfl⟩:∃fn:Nat,f=(fn:Int):=⟨f.toNat,by omega⟩
            obtain⟨tn,rfl⟩:∃tn:Nat,t=(tn:Int):=⟨t.toNat,by omega⟩
            have hft:fn≤tn:=by omega
            have htN:tn<k:=by have:=HNN.out;omega
            have hkN:=HNI.out;clear e1 e2 e3 e4 e5
            go_upto_region 35 with(fail)
            obtain⟨w12,hw12⟩:∃w12,w12=wr.alloc (.cells #[.int .i32 (fn:Nat),.int .i32 (tn:Nat),.int .u8 v] 63):=⟨_,rfl⟩
            have HG12:Hid (wr.grownBy w12 (some gA)):=jH (by rw[hw12];exact World.grownBy_alloc _ _ _);have HC12:Hid (w12.heap[wr.heap.size]? =some (.cells #[.int .i32 (fn:Nat),.int .i32 (tn:Nat),.int .u8 v] 63 (0,0))):=jH (by rw[hw12];exact jN wr _);have HO12:Hid (Own gA 22 w12 (some ⟨gA,0,none⟩) k k (ivs .u8 (kLy k (kGy rest (l1.take m))))):=jH (by rw[hw12];exact World.ownsRow.alloc HOw.out _)
            have hgw:gA+2≤wr.heap.size:=by rw[←hs10];exact HGr.out.size
            rw[←hw12];clear hw12 c1 c2 c3
            obtain⟨bx,hbx⟩:∃bx,bx=wr.heap.size:=⟨_,rfl⟩
            rw[←hbx]at HC12 hgw ⊢;have p12:=HG12.out.cell p1 (by simp);clear hbx p1
            go_loopw [25] (HdB w12 gA k (fun j x=>if(fn:Int)≤x∧x<(j:Nat)then v else kGy rest (l1.take m) x) fn tn) (fun i _=>(tn+1 - (intOf i).toNat))
            case atStart=>exact⟨fn,Nat.le_refl _,by omega,rfl,by rw[kD0 (h:=kGy rest (l1.take m)) (fun r _=>if_neg (by omega))];exact HO12.out,World.grownBy.refl _ _⟩
            case round=>
             obtain⟨r,hr1,hr2,rfl,hown,hgr⟩:=hrel
             have HOr:=jH hown;clear hown
             have HGr2:=jH hgr;clear hgr
             have d1:=jK w12 bx 1 _ _ (0,0) HC12.out;have d2:=jK w12 bx 2 _ _ (0,0) HC12.out;simp at d1 d2;have x1:=HGr2.out.cell d1 (by simp;omega);have x2:=HGr2.out.cell d2 (by simp;omega);have x3:=HGr2.out.cell p12 (by simp);clear d1 d2
             by_cases hrt:r≤tn
             ·have hrti:(r:Int)≤(tn:Int):=by omega
              have hrk:r<k:=by omega
              have hrki:(r:Int)<(k:Int):=by omega
              have y1:=HOr.out.cell r (by rw[kCx,kCu];exact hrk);have f1:=HOr.out.unfrozen r;have hst:=HOr.out.store r (.int .u8 v)
              rw[kNl,kOi k _ r v hrk,kD0 (h:=fun x=>if(fn:Int)≤x∧x<((r+1:Nat):Int)then v else kGy rest (l1.take m) x) (fun j _=>by
               dsimp only
               by_cases e:((j:Nat):Int)=(r:Nat)
               ·rw[if_pos e,if_pos (by omega)]
               ·rw[if_neg e]
                by_cases e2:(fn:Int)≤((j:Nat):Int)∧((j:Nat):Int)<(r:Nat)
                ·rw[if_pos e2,if_pos (by omega)]
                ·rw[if_neg e2,if_neg (by omega)])]at hst
              have HSt:=jH hst;clear hst
              go_wp2
              go_roundw
              case rel=>exact⟨r+1,by omega,by omega,by go_num,HSt.out,kA4 HGr2.out (kAd wr gA r _)⟩
              case measure=>simp[intOf];omega
             ·obtain rfl:r=tn+1:=by omega
              have HO13:Hid (Own gA 22 wr (some ⟨gA,0,none⟩) k k (ivs .u8 (kLy k (kGy rest (l1.take (m+1)))))):=jH (by
               rw[HT.out,kD0 (h:=fun x=>if(fn:Int)≤x∧x<((tn+1:Nat):Int)then v else kGy rest (l1.take m) x) (fun j _=>by
                by_cases e:(fn:Int)≤((j:Nat):Int)∧((j:Nat):Int)≤(tn:Nat)
                ·rw[if_pos e,if_pos (by omega)]
                ·rw[if_neg e,if_neg (by omega)])]
               exact HOr.out)
              have HG13:=jH (kA4 HGr.out (kA4 HG12.out HGr2.out));go_wp2
              go_roundw
              case rel=>exact⟨m+1,by omega,by go_num,HO13.out,HG13.out⟩
              case measure=>simp[intOf];omega
           ·obtain rfl:n1=m:=by omega
            have hmi:¬(n1:Int)<(n1:Int):=by omega
            have htk:l1.take n1=l1:=List.take_of_length_le (Nat.le_of_eq HL1.out);replace HOw:Hid (Own gA 22 wr (some ⟨gA,0,none⟩) k k (ivs .u8 (kLy k (kGy rest l1)))):=jH (by rw[←htk];exact HOw.out);clear htk
            obtain⟨w12,rfl⟩:∃w12,w12=wr:=⟨_,rfl⟩
            have HFi:=jH (fill8 50 #[.pointer (some ⟨gA+1,0,none⟩)] w12 (fun r=>kGy rest l1 (r:Nat)) (enters_of Tryz.func50 (by kernel_rfl) rfl)
             (fun r W hr hW=>kL5 W (gA+1) gA k HNN.out (kGy rest l1) ((hW.cell (p:=⟨gA+1,0,none⟩) (World.block_lt_of_cell? w12 _ p1)).trans p1) r hr (by
              have hk:=HNN.out;have hx:=(HOw.out.below hW jR).cell r (by rw[kCx,kCu];omega);rw[hx]
              congr 1
              simp only[ivs,List.getElem_map];have:=kLj k (kGy rest l1) r (by omega);rw[List.getElem?_eq_getElem (by rw[kCu];omega)]at this
              rw[Option.some.inj this])))
            clear p1
            go_wp2_with fail
            refine HFi.out.mono ?_;rintro e w13 ⟨gc,SC,rfl,hSC,hTC,hFC,hbC⟩;have HB13:=jH (HBw.out.trans (hbC.mono HBw.out.size));have HC13:=jH (And.intro hSC (And.intro hTC (hFC.mono HBw.out.size)));clear hSC hTC hFC hbC HFi HOw HGr HBw
            have HV2:=jH (kM0 52 a2 n2 c2 l2 w13 HL2.out hn2 (HS2.out.keep HB13.out) (fun s=>s.f) (fun s=>kGl s.t s.v) (fun s hs=>by
              have:=kTl (kGa HF2.out s hs);refine⟨⟨by omega,by omega⟩,?_⟩;show wf32 (kGl s.t s.v);unfold kGl wf32
              split<;>omega)
             (enters_of Tryz.func52 (by kernel_rfl) rfl) (fun s hs W hW=>kMd s.f s.t s.v (kTl (kGa HF2.out s hs)).2.1 W))
            go_wp2_with fail
            refine HV2.out.mono ?_;rintro e w14 ⟨gb,SB,rfl,hSB,hTB,hFB,hbB⟩;have HB14:=jH (HB13.out.trans (hbB.mono HB13.out.size));have HC14:=jH (And.intro HC13.out.1 (And.intro (HC13.out.2.1.below hbB jR) (HC13.out.2.2.below hbB)));have HD14:=jH (And.intro hSB (And.intro hTB (hFB.mono HB13.out.size)));clear hSB hTB hFB hbB HV2 HC13 HB13
            have HV3:=jH (kIq 48 a3 n3 c3 l3 w14 HL3.out hn3 (HS3.out.keep HB14.out) (fun s=>s.a) (fun s=>s.s+1) (fun s hs=>by
              have:=kPt (kGa HF3.out s hs)
              exact⟨⟨by omega,by omega⟩,⟨by omega,by omega⟩⟩)
             (enters_of Tryz.func48 (by kernel_rfl) rfl) (fun s hs W hW=>kIp s.a s.s (kPt (kGa HF3.out s hs)).2.1 W))
            go_wp2_with fail
            refine HV3.out.mono ?_;rintro e w15 ⟨gt,ST,rfl,hST,hTT,hFT,hbT⟩;have HB15:=jH (HB14.out.trans (hbT.mono HB14.out.size));have HC15:=jH (And.intro HC14.out.1 (And.intro (HC14.out.2.1.below hbT jR) (HC14.out.2.2.below hbT)));have HD15:=jH (And.intro HD14.out.1 (And.intro (HD14.out.2.1.below hbT jR) (HD14.out.2.2.below hbT)));have HE15:=jH (And.intro hST (And.intro hTT (hFT.mono HB14.out.size)));clear hST hTT hFT hbT HV3 HC14 HD14 HB14
            have HV4:=jH (kIq 48 a4 n4 c4 l4 w15 HL4.out hn4 (HS4.out.keep HB15.out) (fun s=>s.a) (fun s=>s.s+1) (fun s hs=>by
              have:=kPt (kGa HF4.out s hs)
              exact⟨⟨by omega,by omega⟩,⟨by omega,by omega⟩⟩)
             (enters_of Tryz.func48 (by kernel_rfl) rfl) (fun s hs W hW=>kIp s.a s.s (kPt (kGa HF4.out s hs)).2.1 W))
            go_wp2_with fail
            refine HV4.out.mono ?_;rintro e w16 ⟨gm,SM,rfl,hSM,hTM,hFM,hbM⟩;have HB16:=jH (HB15.out.trans (hbM.mono HB15.out.size));have HC16:=jH (And.intro HC15.out.1 (And.intro (HC15.out.2.1.below hbM jR) (HC15.out.2.2.below hbM)));have HD16:=jH (And.intro HD15.out.1 (And.intro (HD15.out.2.1.below hbM jR) (HD15.out.2.2.below hbM)));have HE16:=jH (And.intro HE15.out.1 (And.intro (HE15.out.2.1.below hbM jR) (HE15.out.2.2.below hbM)));have HF16:=jH (And.intro hSM (And.intro hTM (hFM.mono HB15.out.size)));clear hSM hTM hFM hbM HV4 HC15 HD15 HE15 HB15;have a17:=jN w16 (.cells #[.pointer (some ⟨gc,0,none⟩),.pointer (some ⟨gb,0,none⟩),.pointer (some ⟨gt,0,none⟩),.pointer (some ⟨gm,0,none⟩)] 103);have b17:=(Below.refl _ w16).alloc jR (.cells #[.pointer (some ⟨gc,0,none⟩),.pointer (some ⟨gb,0,none⟩),.pointer (some ⟨gt,0,none⟩),.pointer (some ⟨gm,0,none⟩)] 103);have HW17:=jH (And.intro a17 b17);clear a17 b17
            go_upto_region 41 with(fail)
            obtain⟨p,hp⟩:∃p,p=w16.heap.size:=⟨_,rfl⟩
            obtain⟨a17,b17⟩:=HW17.out;clear HW17;rw[←hp]at a17 ⊢;generalize w16.alloc (.cells #[.pointer (some ⟨gc,0,none⟩),.pointer (some ⟨gb,0,none⟩),.pointer (some ⟨gt,0,none⟩),.pointer (some ⟨gm,0,none⟩)] 103)=w17 at*;have HB17:=jH (HB16.out.trans (b17.mono HB16.out.size))
            have kFc:=jH (show kFc w17 p (fun r=>kGy rest l1 (r:Nat)) (fun r=>kLx l2 (r:Nat)) (fun r=>kF4 l3 (r:Nat)) (fun r=>kF4 l4 (r:Nat)) w.heap.size from
             ⟨gc,gb,gt,gm,SC,SB,ST,SM,⟨⟨a17,HC16.out.1.trie,HD16.out.1.trie,HE16.out.1.trie,HF16.out.1.trie,HC16.out.1.pos.1,HD16.out.1.pos.1,HE16.out.1.pos.1,HF16.out.1.pos.1,
               HC16.out.2.1.below b17 jR,HD16.out.2.1.below b17 jR,HE16.out.2.1.below b17 jR,HF16.out.2.1.below b17 jR⟩,
               fun r hr=>HC16.out.1.look r hr,fun r hr=>HD16.out.1.look r hr,fun r hr=>HE16.out.1.look r hr,fun r hr=>HF16.out.1.look r hr⟩,
              HC16.out.1,HD16.out.1,HE16.out.1,HF16.out.1,by rw[hp];exact HB16.out.size,HC16.out.2.2.below b17,HD16.out.2.2.below b17,HE16.out.2.2.below b17,HF16.out.2.2.below b17⟩)
            clear a17 b17 hp HC16 HD16 HE16 HF16 HB16;obtain⟨q,hq⟩:=kBd.exists (kBu (fun r=>kGy rest l1 (r:Nat)) (fun r=>kLx l2 (r:Nat)) (fun r=>kF4 l3 (r:Nat)) (fun r=>kF4 l4 (r:Nat))) 1114112
            have HQ:=jH hq;clear hq
            have HWh:Hid (Calls Tryz.prog 39 #[.pointer (some ⟨p,0,none⟩)] w17 fun e w'=>e= .returned (kEy p q)∧Below w17.heap.size w17 w'):=jH (by
             obtain⟨x1,x2,x3,x4,x5,x6,x7,x8,ht, -⟩:=kFc.out
             exact kKt ht (kOc HF2.out HF3.out HF4.out) q HQ.out)
            have HNo:Hid (kC6 rest l1 l2 l3 l4=none):=jH (by unfold kC6;rw[if_pos HK0.out,HF1.out,HF2.out,HF3.out,HF4.out];rfl)
            by_cases hq:q<1114112
            ·have HE:=jH (show kEy p q= .tuple #[.pointer none,.int .i32 (q:Nat),.int .i64 141]from if_pos hq);clear hq;rw[HE.out]at HWh
             go_wp2_with fail
             refine HWh.out.mono ?_;rintro e w18 ⟨rfl,b18⟩;have HR:=jH (show kR1 w rest l1 l2 l3 l4 (.returned (.tuple #[.pointer none,.int .i32 (q:Nat),.int .i64 141])) w18 from⟨HB17.out.trans (b18.mono HB17.out.size),.inr ⟨HNo.out,p,q,HQ.out,by rw[HE.out],kFc.out.below b18⟩⟩);clear b18 HE;go_wp2
             refine jS (v:= .tuple #[.pointer none,.int .i32 (q:Nat),.int .i64 141]) (by simp[results,Tryz.results15,go_sem]) rfl ?_;exact HR.out
            ·have HE:=jH (show kEy p q= .tuple #[.pointer (some ⟨p,0,none⟩),.int .i32 0,.int .i64 0]from if_neg hq);clear hq;rw[HE.out]at HWh
             go_wp2_with fail
             refine HWh.out.mono ?_;rintro e w18 ⟨rfl,b18⟩;have HR:=jH (show kR1 w rest l1 l2 l3 l4 (.returned (.tuple #[.pointer (some ⟨p,0,none⟩),.int .i32 0,.int .i64 0])) w18 from⟨HB17.out.trans (b18.mono HB17.out.size),.inr ⟨HNo.out,p,q,HQ.out,by rw[HE.out],kFc.out.below b18⟩⟩);clear b18 HE;go_wp2
             refine jS (v:= .tuple #[.pointer (some ⟨p,0,none⟩),.int .i32 0,.int .i64 0]) (by simp[results,Tryz.results15,go_sem]) rfl ?_;exact HR.out
end Go.Proofs.YtbmphakfgoompaaGreat


namespace Go.Proofs.YtbmphakfgoompaaGreat
open Go.RowKit
theorem kT1 (w:World):kKd w none []:=fun i h=>absurd h (by simp)
theorem kRl {w:World}{b:Nat}{ty:TypeId}{x y z:Int}(h:w.heap[b]? =some (.cells #[.int .i32 x,.int .i32 y,.int .u8 z] ty (0,0))):kB3 w (some ⟨b,0,none⟩) [⟨x,y,z⟩]:=fun i hi=>by
 obtain rfl:i=0:=by simp at hi;exact hi
 exact⟨b,0,rfl,jK w b 0 _ _ (0,0) h,jK w b 1 _ _ (0,0) h,jK w b 2 _ _ (0,0) h⟩
theorem kRm {w:World}{b:Nat}{ty:TypeId}{x y z x' y' z':Int}(h:w.heap[b]? =some (.cells #[.int .i32 x,.int .i32 y,.int .u8 z,.int .i32 x',.int .i32 y',.int .u8 z'] ty (0,0))):kB3 w (some ⟨b,0,none⟩) [⟨x,y,z⟩,⟨x',y',z'⟩]:=fun i hi=>by
 have hi2:i<2:=hi
 have hc:i=0∨i=1:=by omega
 rcases hc with rfl | rfl
 ·exact⟨b,0,rfl,jK w b 0 _ _ (0,0) h,jK w b 1 _ _ (0,0) h,jK w b 2 _ _ (0,0) h⟩
 ·exact⟨b,0,rfl,jK w b 3 _ _ (0,0) h,jK w b 4 _ _ (0,0) h,jK w b 5 _ _ (0,0) h⟩
theorem kT2 {w:World}{b:Nat}{ty:TypeId}{x y:Int}(h:w.heap[b]? =some (.cells #[.int .i32 x,.int .i32 y] ty (0,0))):kKd w (some ⟨b,0,none⟩) [⟨x,y⟩]:=fun i hi=>by
 obtain rfl:i=0:=by simp at hi;exact hi
 exact⟨b,0,rfl,jK w b 0 _ _ (0,0) h,jK w b 1 _ _ (0,0) h⟩
def awC:List kAr:=[⟨40,41,14⟩]
def awB:List kAr:=[⟨40,41,1⟩,⟨41,40,2⟩]
def awM:List TwD:=[⟨40,41⟩]
theorem aw_bad:kC6 1 awC awB [] awM=none:=by decide
theorem aw_b (x:Int):kLx awB x=if 41=x then -41 else if 40=x then 42 else 0:=rfl
theorem aw_t (x:Int):kF4 [] x=0:=rfl
theorem aw_m (x:Int):kF4 awM x=if 40=x then 42 else 0:=rfl
theorem kR3:kBd (kBu (fun r=>kGy 1 awC (r:Nat)) (fun r=>kLx awB (r:Nat)) (fun r=>kF4 [] (r:Nat)) (fun r=>kF4 awM (r:Nat))) 1114112 1114112:=by
 refine .none (fun r _=> ?_)
 by_cases h1:r=40
 ·subst h1;decide
 ·by_cases h2:r=41
  ·subst h2;decide
  ·simp only[kBu,aw_b,aw_t,aw_m];rw[if_neg (by omega),if_neg (by omega)]
   rfl
theorem kO8 {w:World}{rest:Int}{l1 l2:List kAr}{l3 l4:List TwD}{e:Ending}{w':World}(h:kR1 w rest l1 l2 l3 l4 e w')(hb:kC6 rest l1 l2 l3 l4=none)
  (hl:kBd (kBu (fun r=>kGy rest l1 (r:Nat)) (fun r=>kLx l2 (r:Nat)) (fun r=>kF4 l3 (r:Nat)) (fun r=>kF4 l4 (r:Nat))) 1114112 1114112):
  ∃p,e= .returned (.tuple #[.pointer (some ⟨p,0,none⟩),.int .i32 0,.int .i64 0])∧kFc w' p (fun r=>kGy rest l1 (r:Nat)) (fun r=>kLx l2 (r:Nat)) (fun r=>kF4 l3 (r:Nat)) (fun r=>kF4 l4 (r:Nat)) w.heap.size∧Below w.heap.size w w':=by
 obtain⟨hbel,⟨r,h1, -⟩ | ⟨-,p,k,h1,h2,h3⟩⟩:=h
 ·rw[hb]at h1;cases h1
 ·obtain rfl:=h1.unique hl;exact⟨p,by rw[h2];rfl,h3,hbel⟩
theorem kQn (w:World):Calls Tryz.prog 31 #[.agg #[.slice none 0 0,.slice none 0 0,.slice none 0 0]] w fun e w'=>e= .returned (.tuple #[.pointer none,.int .i64 112])∧Below w.heap.size w w':=by
 have hA:=jN w (.cells #[.slice none 0 0,.slice none 0 0,.slice none 0 0] 46);have HB:=jH ((Below.refl _ w).alloc jR (.cells #[.slice none 0 0,.slice none 0 0,.slice none 0 0] 46))
 go_enter Tryz.func31,Tryz.ntmps31
 go_upto_region 1 with(fail)
 obtain⟨b0,hb0⟩:∃b0,b0=w.heap.size:=⟨_,rfl⟩
 rw[←hb0]at hA ⊢;clear hb0;generalize w.alloc (.cells #[.slice none 0 0,.slice none 0 0,.slice none 0 0] 46)=w1 at*;have q0:=jK w1 b0 0 _ _ (0,0) hA;simp at q0;clear hA;have h272:((0:Int) != 272)=true:=rfl;go_wp2
 refine jS (v:= .tuple #[.pointer none,.int .i64 112]) (by simp[results,Tryz.results31,go_sem]) rfl ?_;exact⟨rfl,HB.out⟩
theorem kJa (w:World):Calls Tryz.prog 32 #[.agg #[.slice none 0 0,.slice none 0 0,.slice none 0 0]] w fun e w'=>e= .returned (.tuple #[.pointer none,.int .i64 112])∧Below w.heap.size w w':=by
 have hA:=jN w (.cells #[.slice none 0 0,.slice none 0 0,.slice none 0 0] 48);have HB:=jH ((Below.refl _ w).alloc jR (.cells #[.slice none 0 0,.slice none 0 0,.slice none 0 0] 48))
 go_enter Tryz.func32,Tryz.ntmps32
 go_upto_region 1 with(fail)
 obtain⟨b0,hb0⟩:∃b0,b0=w.heap.size:=⟨_,rfl⟩
 rw[←hb0]at hA ⊢;clear hb0;generalize w.alloc (.cells #[.slice none 0 0,.slice none 0 0,.slice none 0 0] 48)=w1 at*;have q0:=jK w1 b0 0 _ _ (0,0) hA;simp at q0;clear hA;have h272:((0:Int) != 272)=true:=rfl;go_wp2
 refine jS (v:= .tuple #[.pointer none,.int .i64 112]) (by simp[results,Tryz.results32,go_sem]) rfl ?_;exact⟨rfl,HB.out⟩
theorem kSm (w:World):Calls Tryz.prog 11 #[.agg #[.slice none 0 0,.slice none 0 0,.slice none 0 0,.slice none 0 0,.slice none 0 0,.slice none 0 0,.slice none 0 0,.slice none 0 0,.slice none 0 0,.slice none 0 0,.slice none 0 0,.slice none 0 0]] w fun e w'=>
  e= .returned (.tuple #[.pointer none,.int .i32 0,.int .i64 140])∧Below w.heap.size w w':=by
 have HA:=jH (jN w (.cells #[.slice none 0 0,.slice none 0 0,.slice none 0 0,.slice none 0 0,.slice none 0 0,.slice none 0 0,.slice none 0 0,.slice none 0 0,.slice none 0 0,.slice none 0 0,.slice none 0 0,.slice none 0 0] 50));have HB:=jH ((Below.refl _ w).alloc jR (.cells #[.slice none 0 0,.slice none 0 0,.slice none 0 0,.slice none 0 0,.slice none 0 0,.slice none 0 0,.slice none 0 0,.slice none 0 0,.slice none 0 0,.slice none 0 0,.slice none 0 0,.slice none 0 0] 50))
 go_enter Tryz.func11,Tryz.ntmps11
 go_upto_region 1 with(fail)
 obtain⟨b0,hb0⟩:∃b0,b0=w.heap.size:=⟨_,rfl⟩
 rw[←hb0]at HA ⊢;clear hb0;generalize w.alloc (.cells #[.slice none 0 0,.slice none 0 0,.slice none 0 0,.slice none 0 0,.slice none 0 0,.slice none 0 0,.slice none 0 0,.slice none 0 0,.slice none 0 0,.slice none 0 0,.slice none 0 0,.slice none 0 0] 50)=w1 at*;have q0:=jK w1 b0 0 _ _ (0,0) HA.out;have q1:=jK w1 b0 1 _ _ (0,0) HA.out;have q2:=jK w1 b0 2 _ _ (0,0) HA.out;simp at q0 q1 q2
 go_wp2_with fail
 refine(kQn w1).mono ?_;rintro e w2 ⟨rfl,hb⟩;have HA2:=jH ((hb.block b0 (jL HA.out)).trans HA.out);have HB2:=jH (HB.out.trans (hb.mono HB.out.size));clear hb q0 q1 q2 HA HB;have q0:=jK w2 b0 3 _ _ (0,0) HA2.out;have q1:=jK w2 b0 4 _ _ (0,0) HA2.out;have q2:=jK w2 b0 5 _ _ (0,0) HA2.out;simp at q0 q1 q2
 go_wp2_with fail
 refine(kJa w2).mono ?_;rintro e w3 ⟨rfl,hb⟩;have HA3:=jH ((hb.block b0 (jL HA2.out)).trans HA2.out);have HB3:=jH (HB2.out.trans (hb.mono HB2.out.size));clear hb q0 q1 q2 HA2 HB2;have q0:=jK w3 b0 6 _ _ (0,0) HA3.out;have q1:=jK w3 b0 7 _ _ (0,0) HA3.out;have q2:=jK w3 b0 8 _ _ (0,0) HA3.out;simp at q0 q1 q2
 go_wp2_with fail
 refine(kJa w3).mono ?_;rintro e w4 ⟨rfl,hb⟩;have HA4:=jH ((hb.block b0 (jL HA3.out)).trans HA3.out);have HB4:=jH (HB3.out.trans (hb.mono HB3.out.size));clear hb q0 q1 q2 HA3 HB3;have q0:=jK w4 b0 9 _ _ (0,0) HA4.out;have q1:=jK w4 b0 10 _ _ (0,0) HA4.out;have q2:=jK w4 b0 11 _ _ (0,0) HA4.out;simp at q0 q1 q2
 go_wp2_with fail
 refine(kJa w4).mono ?_;rintro e w5 ⟨rfl,hb⟩;have HA5:=jH ((hb.block b0 (jL HA4.out)).trans HA4.out);have HB5:=jH (HB4.out.trans (hb.mono HB4.out.size));clear hb q0 q1 q2 HA4 HB4;have h112:((112:Int) != 0)=true:=rfl;go_wp2
 refine jS (v:= .tuple #[.pointer none,.int .i32 0,.int .i64 140]) (by simp[results,Tryz.results11,go_sem]) rfl ?_;exact⟨rfl,HB5.out⟩
theorem kDa (w:World):Calls Tryz.prog 7 #[] w fun e w'=>e= .returned (.bool true)∧Below w.heap.size w w':=by
 obtain⟨b0,hb0⟩:∃b0,b0=w.heap.size:=⟨_,rfl⟩
 have HW:Hid (Below w.heap.size w (((w.alloc (.cells #[.int .i32 40,.int .i32 41,.int .u8 14] 63)).alloc (.cells #[.int .i32 40,.int .i32 41,.int .u8 1,.int .i32 41,.int .i32 40,.int .u8 2] 66)).alloc (.cells #[.int .i32 40,.int .i32 41] 68))∧
   kB3 (((w.alloc (.cells #[.int .i32 40,.int .i32 41,.int .u8 14] 63)).alloc (.cells #[.int .i32 40,.int .i32 41,.int .u8 1,.int .i32 41,.int .i32 40,.int .u8 2] 66)).alloc (.cells #[.int .i32 40,.int .i32 41] 68)) (some ⟨b0,0,none⟩) awC∧
   kB3 (((w.alloc (.cells #[.int .i32 40,.int .i32 41,.int .u8 14] 63)).alloc (.cells #[.int .i32 40,.int .i32 41,.int .u8 1,.int .i32 41,.int .i32 40,.int .u8 2] 66)).alloc (.cells #[.int .i32 40,.int .i32 41] 68)) (some ⟨b0+1,0,none⟩) awB∧
   kKd (((w.alloc (.cells #[.int .i32 40,.int .i32 41,.int .u8 14] 63)).alloc (.cells #[.int .i32 40,.int .i32 41,.int .u8 1,.int .i32 41,.int .i32 40,.int .u8 2] 66)).alloc (.cells #[.int .i32 40,.int .i32 41] 68)) (some ⟨b0+2,0,none⟩) awM):=by
  rw[hb0]
  refine jH ⟨(((Below.refl _ w).alloc jR _).alloc (by simp) _).alloc (by simp;omega) _,kRl (ty:=63) ?_,kRm (ty:=66) ?_,kT2 (ty:=68) ?_⟩
  ·rw[Below.heap_alloc _ _ _ (by simp;omega),Below.heap_alloc _ _ _ (by simp)];exact jN w _
  ·rw[Below.heap_alloc _ _ _ (by simp)];have:=jN (w.alloc (.cells #[.int .i32 40,.int .i32 41,.int .u8 14] 63)) (.cells #[.int .i32 40,.int .i32 41,.int .u8 1,.int .i32 41,.int .i32 40,.int .u8 2] 66)
   simpa using this
  ·have:=jN ((w.alloc (.cells #[.int .i32 40,.int .i32 41,.int .u8 14] 63)).alloc (.cells #[.int .i32 40,.int .i32 41,.int .u8 1,.int .i32 41,.int .i32 40,.int .u8 2] 66)) (.cells #[.int .i32 40,.int .i32 41] 68)
   simpa using this
 go_enter Tryz.func7,Tryz.ntmps7
 go_wp2_with fail
 rw[←hb0];generalize (((w.alloc (.cells #[.int .i32 40,.int .i32 41,.int .u8 14] 63)).alloc (.cells #[.int .i32 40,.int .i32 41,.int .u8 1,.int .i32 41,.int .i32 40,.int .u8 2] 66)).alloc (.cells #[.int .i32 40,.int .i32 41] 68))=w1 at*;clear hb0;refine(kQp 1 (some ⟨b0,0,none⟩) 1 1 awC (some ⟨b0+1,0,none⟩) 2 2 awB none 0 0 [] (some ⟨b0+2,0,none⟩) 1 1 awM w1 rfl (by omega) HW.out.2.1 rfl (by omega) HW.out.2.2.1 rfl (by omega) (kT1 _) rfl (by omega) HW.out.2.2.2).mono ?_;intro e w2 hq;obtain⟨p,rfl,hT,hb⟩:=kO8 hq aw_bad kR3;have HB:=jH (HW.out.1.trans (hb.mono HW.out.1.size));have HT:=jH hT;clear hq hT hb HW
 go_wp2_with fail
 refine(kSm w2).mono ?_;rintro e w3 ⟨rfl,hb⟩;have HB3:=jH (HB.out.trans (hb.mono HB.out.size));have HT3:=jH (HT.out.below hb);clear hb HT HB;obtain⟨gc,gb,gt,gm,SC,SB,ST,SM,hTab, -⟩:=HT3.out;have HTb:=jH hTab;have HF:=jH (show Fit (fun r=>kLx awB (r:Nat)) (fun r=>kF4 [] (r:Nat)) (fun r=>kF4 awM (r:Nat))from kOc (by decide) (by decide) (by decide));clear hTab HT3;have hB:=jH (kCw HTb.out HF.out 41 (by omega) (by omega));have hM:=jH (fun q=>kJg (HTb.out.drew q) HF.out 40 (by omega) (by omega));have hC:=jH (fun q=>kFx (HTb.out.drew q) 40 (by omega) (by omega));have hC2:=jH (fun q=>kFx (HTb.out.drew q) (-1) (by omega) (by omega));have hT:=jH (fun q=>kHl (HTb.out.drew q) HF.out 97 (by omega) (by omega));rw[show kAi 41=41 from rfl,show brO (kLx awB ((41:Nat):Int))=40 from rfl,show brS (kLx awB ((41:Nat):Int))=2 from rfl]at hB;rw[show kAi 40=40 from rfl]at hM hC;rw[show kAi 97=97 from rfl,show twF (fun r=>kF4 [] (r:Nat)) 97=97 from rfl]at hT;rw[show(kGy 1 awC ((40:Nat):Int))=14 from rfl]at hC;rw[show kAi (-1)=65533 from rfl,show(kGy 1 awC ((65533:Nat):Int))=1 from rfl]at hC2;rw[show kF4 awM ((40:Nat):Int)=42 from rfl]at hM;clear HTb HF
 go_wp2_with fail
 refine hB.out.mono ?_;rintro e w4 ⟨rfl,q1,rfl⟩
 go_wp2_with fail
 refine(hM.out _).mono ?_;rintro e w4 ⟨rfl,q2,rfl⟩;rw[kD4];generalize q1+q2=q at*
 go_wp2_with fail
 refine(hC.out _).mono ?_;rintro e w4 ⟨rfl,q3,rfl⟩;rw[kD4];generalize q+q3=q at*
 go_wp2_with fail
 refine(hC2.out _).mono ?_;rintro e w4 ⟨rfl,q4,rfl⟩;rw[kD4];generalize q+q4=q at*
 go_wp2_with fail
 refine(hT.out _).mono ?_;rintro e w4 ⟨rfl,q5,rfl⟩;go_wp2
 go_ret
 exact⟨rfl,below_drewN HB3.out _⟩
end Go.Proofs.YtbmphakfgoompaaGreat
