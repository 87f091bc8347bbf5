/- several texts in one: UQ1 UQ2 UQ3 UT0 -/
import Derived.Deep.RegionLaw
import Derived.Test.YtbmphakfgoompaaGreatO3
import Derived.StillTailTactics
import Derived.RegionTactic
import Derived.BigRegion
import Derived.Deep.RegionHeld3
set_option linter.unusedVariables false
set_option linter.unusedSimpArgs false
set_option maxRecDepth 100000
set_option maxHeartbeats 16000000
namespace Go.Proofs.YtbmphakfgoompaaGreat
open Go.RowKit
def kEh {α β:Type} (p:α→Bool) (v:α→β) (z:β) (l:List α):β:=l.foldl (fun acc s=>if p s=true then v s else acc) z
theorem kEq {α β:Type}{p:α→Bool}{v:α→β}{z:β}:∀ {l:List α},(∀s∈l,p s=false)→kEh p v z l=z
 | [],_=>rfl
 | s :: l,h=>by
  unfold kEh;rw[List.foldl_cons,if_neg (by rw[h s (by simp)];simp)];exact kEq (l:=l) (fun s hs=>h s (by simp[hs]))
theorem kH4 {α β:Type}{p:α→Bool}{v:α→β}{z:β}{l:List α}(h:∀j,(hj:j<l.length)→p l[j]=false):kEh p v z l=z:=
 kEq (fun s hs=>by obtain⟨j,hj,rfl⟩:=List.mem_iff_getElem.1 hs;exact h j hj)
theorem kK9 {α β:Type}{p:α→Bool}{v:α→β}{z:β}{l:List α}{i:Nat}(hi:i<l.length)(hp:p l[i]=true)(h:∀j,i<j→(hj:j<l.length)→p l[j]=false):kEh p v z l=v l[i]:=by
 have e:l=l.take i++l[i] :: l.drop (i+1):=by
  rw[←List.drop_eq_getElem_cons hi,List.take_append_drop]
 have h2:∀(a:β),kEh p v a (l.drop (i+1))=a:=fun a=>kEq (fun s hs=>by
  obtain⟨j,hj,rfl⟩:=List.mem_iff_getElem.1 hs;rw[List.getElem_drop]
  exact h _ (by omega) (by rw[List.length_drop]at hj;omega))
 have h3:kEh p v z l=kEh p v z (l.take i++l[i] :: l.drop (i+1)):=by rw[←e]
 rw[h3];unfold kEh;rw[List.foldl_append,List.foldl_cons,if_pos hp];exact h2 _
theorem kGz (rest:Int)(l:List kAr)(x:Int):kGy rest l x=kEh (fun s=>decide (s.f≤x∧x≤s.t)) (fun s=>s.v) rest l:=by
 unfold kGy kEh
 congr 1
 funext acc s
 simp
structure kAs where
 rest:Int
 l1:List kAr
 l2:List kAr
 l3:List TwD
 l4:List TwD
def brG (l:List kAr) (x:Int):Int×Int:=kEh (fun s=>s.f==x) (fun s=>(s.t,s.v)) (0,0) l
def twG (l:List TwD) (x:Int):Int×Bool:=kEh (fun s=>s.a==x) (fun s=>(s.s,true)) (0,false) l
def kAs.cls (D:kAs) (r:Nat):Int:=kGy D.rest D.l1 (r:Nat)
def kAs.oth (D:kAs) (r:Nat):Int:=(brG D.l2 (r:Nat)).1
def kAs.side (D:kAs) (r:Nat):Int:=(brG D.l2 (r:Nat)).2
def kAs.twin (D:kAs) (r:Nat):Int:=if(twG D.l3 (r:Nat)).2=true then(twG D.l3 (r:Nat)).1 else(r:Nat)
def kAs.mir (D:kAs) (r:Nat):Int:=(twG D.l4 (r:Nat)).1
def kAs.has (D:kAs) (r:Nat):Bool:=(twG D.l4 (r:Nat)).2
structure kKc (w:World) (D:kAs) (a1:Option Addr) (n1 c1:Nat) (a2:Option Addr) (n2 c2:Nat) (a3:Option Addr) (n3 c3:Nat) (a4:Option Addr) (n4 c4:Nat):Prop where
 h1:D.l1.length=n1
 h2:D.l2.length=n2
 h3:D.l3.length=n3
 h4:D.l4.length=n4
 b1:n1≤1048576
 b2:n2≤1048576
 b3:n3≤1048576
 b4:n4≤1048576
 s1:kB3 w a1 D.l1
 s2:kB3 w a2 D.l2
 s3:kKd w a3 D.l3
 s4:kKd w a4 D.l4
def kFi (w:World) (pm:Nat) (D:kAs):Prop:=
 ∃a1 n1 c1 a2 n2 c2 a3 n3 c3 a4 n4 c4,w.heap[pm]? =some (.cells #[.int .u8 D.rest,.slice a1 n1 c1,.slice a2 n2 c2,.slice a3 n3 c3,.slice a4 n4 c4] 27 (0,0))∧kKc w D a1 n1 c1 a2 n2 c2 a3 n3 c3 a4 n4 c4
theorem kKc.below {w w':World}{D:kAs}{a1:Option Addr}{n1 c1:Nat}{a2:Option Addr}{n2 c2:Nat}{a3:Option Addr}{n3 c3:Nat}{a4:Option Addr}{n4 c4:Nat}(h:kKc w D a1 n1 c1 a2 n2 c2 a3 n3 c3 a4 n4 c4)(hb:Below w.heap.size w w'):
  kKc w' D a1 n1 c1 a2 n2 c2 a3 n3 c3 a4 n4 c4:=⟨h.h1,h.h2,h.h3,h.h4,h.b1,h.b2,h.b3,h.b4,h.s1.keep hb,h.s2.keep hb,h.s3.keep hb,h.s4.keep hb⟩
theorem kFi.below {w w':World}{pm:Nat}{D:kAs}(h:kFi w pm D)(hb:Below w.heap.size w w'):kFi w' pm D:=by
 obtain⟨a1,n1,c1,a2,n2,c2,a3,n3,c3,a4,n4,c4,h1,h2⟩:=h;exact⟨a1,n1,c1,a2,n2,c2,a3,n3,c3,a4,n4,c4,(hb.block pm (jL h1)).trans h1,h2.below hb⟩
theorem kDz (r:Int)(w:World):Calls Tryz.prog 108 #[.int .i32 r] w fun e w'=>e= .returned (.int .i32 (kAi r:Nat))∧w'=w:=by
 by_cases h1:r<0
 ·have e:kAi r=65533:=if_pos (.inl h1);rw[e]
  go_enter Tryz.func108,Tryz.ntmps108
  go_wp2
  go_ret
  exact⟨rfl,rfl⟩
 ·by_cases h2:1114111<r
  ·have e:kAi r=65533:=if_pos (.inr h2);rw[e]
   go_enter Tryz.func108,Tryz.ntmps108
   go_wp2
   go_ret
   exact⟨rfl,rfl⟩
  ·have e:((kAi r:Nat):Int)=r:=kSx ⟨by omega,by omega⟩;rw[e]
   go_enter Tryz.func108,Tryz.ntmps108
   go_wp2
   go_ret
   exact⟨rfl,rfl⟩
def DnR (w:World) (n:Nat) (no:Nat→Prop) (iv:Value) (wr:World):Prop:=
 ∃k:Nat,k≤n∧iv= .int .i64 ((k:Int) - 1)∧(∀j,k≤j→j<n→no j)∧Below w.heap.size w wr
theorem kKp (a:Option Addr)(n c:Nat)(l:List TwD)(r:Int)(w:World)(hl:l.length=n)(hn:n≤1048576)(hs:kKd w a l):
  Calls Tryz.prog 109 #[.slice a n c,.int .i32 r] w fun e w'=>e= .returned (.tuple #[.int .i32 (twG l r).1,.bool (twG l r).2])∧Below w.heap.size w w':=by
 have HL:=jH hl;clear hl
 have HS:=jH hs;clear hs
 have HB:=jH (Below.refl w.heap.size w)
 go_enter Tryz.func109,Tryz.ntmps109
 go_wp2
 go_loopw [6] (DnR w n (fun j=>((l.getD j default).a==r)=false)) (fun i _=>((intOf i)+1).toNat)
 case atStart=>exact⟨n,Nat.le_refl _,by go_num,fun j h1 h2=>by omega,HB.out⟩
 case round=>
  obtain⟨k,hk,rfl,hno,hb⟩:=hrel
  have HNo:=jH hno;clear hno
  have HBe:=jH hb;clear hb
  by_cases hk0:k=0
  ·subst hk0
   have HF:Hid (twG l r=(0,false)):=jH (kH4 (fun j hj=>by
    have:((l.getD j default).a==r)=false:=HNo.out j (Nat.zero_le _) (by have:=HL.out;omega)
    rwa[show l.getD j default=l[j] by simp[hj]]at this))
   have hki:¬(0:Int)≤((0:Nat):Int) - 1:=by omega
   go_wp2
   refine jS (v:= .tuple #[.int .i32 0,.bool false]) (by simp[results,Tryz.results109,go_sem]) rfl ?_;exact⟨by rw[HF.out],HBe.out⟩
  ·obtain⟨m,rfl⟩:∃m,k=m+1:=⟨k - 1,by omega⟩
   have hki:(((m+1:Nat):Int) - 1)=(m:Int):=by omega
   rw[hki]
   have hm0:(0:Int)≤(m:Int):=by omega
   have hmn:(m:Int)<(n:Int):=by omega
   have hml:m<l.length:=by rw[HL.out];omega
   obtain⟨b,o,ha⟩:=HS.out.some (by omega);subst ha;obtain⟨c1,c2⟩:=(HS.out.keep HBe.out).get m hml;have HG:=jH (show l.getD m default=l[m] by simp[hml])
   have HAt:=jH (fun(h:(l[m].a==r)=true)=>(show twG l r=(l[m].s,true)from kK9 hml h (fun j h1 h2=>by
    have:((l.getD j default).a==r)=false:=HNo.out j (by omega) (by have:=HL.out;omega)
    rwa[show l.getD j default=l[j] by simp[h2]]at this)))
   obtain⟨s,hs⟩:∃s,s=l[m]:=⟨_,rfl⟩
   rw[←hs]at c1 c2 HG HAt;clear hs hki hk0
   by_cases hq:s.a=r
   ·have HE:=jH (HAt.out (beq_iff_eq.2 hq));have hd:(s.a==r)=true:=beq_iff_eq.2 hq;clear hq;go_wp2
    refine jS (v:= .tuple #[.int .i32 s.s,.bool true]) (by simp[results,Tryz.results109,go_sem]) rfl ?_;exact⟨by rw[HE.out],HBe.out⟩
   ·have hd:(s.a==r)=false:=beq_false_of_ne hq;have HD:=jH hd;clear hq;go_wp2
    go_roundw
    case rel=>exact⟨m,by omega,by go_num,fun j h1 h2=>by
     by_cases e:j=m
     ·show((l.getD j default).a==r)=false
      rw[e,HG.out];exact HD.out
     ·exact HNo.out j (by omega) h2,HBe.out⟩
    case measure=>simp[intOf]<;>omega
theorem kPc (w:World)(pm:Nat)(D:kAs)(h:kFi w pm D)(r:Int):
  Calls Tryz.prog 68 #[.pointer (some ⟨pm,0,none⟩),.int .i32 r] w fun e w'=>e= .returned (.int .i32 (D.twin (kAi r)))∧Below w.heap.size w w':=by
 obtain⟨a1,n1,c1,a2,n2,c2,a3,n3,c3,a4,n4,c4,hr,hm⟩:=h;have q0:=jK w pm 3 _ _ (0,0) hr;simp at q0;have HP:=jH (kDz r w);have HR:=jH (kKp a3 n3 c3 D.l3 (kAi r:Nat) w hm.h3 hm.b3 hm.s3);have HT:=jH (show D.twin (kAi r)=if(twG D.l3 (kAi r:Nat)).2=true then(twG D.l3 (kAi r:Nat)).1 else(kAi r:Nat)from rfl);clear hr hm;generalize twG D.l3 (kAi r:Nat)=x at*;generalize kAi r=q at*;obtain⟨x,b⟩:=x
 go_enter Tryz.func68,Tryz.ntmps68
 go_wp2_with fail
 refine HP.out.mono ?_;rintro e w1 ⟨rfl,h1⟩;subst h1
 go_wp2_with fail
 refine HR.out.mono ?_;rintro e w2 ⟨rfl,hb⟩
 have HB:=jH hb;clear hb
 cases b
 ·go_wp2
  go_ret
  exact⟨by rw[HT.out];rfl,HB.out⟩
 ·go_wp2
  go_ret
  exact⟨by rw[HT.out];rfl,HB.out⟩
theorem kMg (w:World)(pm:Nat)(D:kAs)(h:kFi w pm D)(r:Int):
  Calls Tryz.prog 69 #[.pointer (some ⟨pm,0,none⟩),.int .i32 r] w fun e w'=>e= .returned (.tuple #[.int .i32 (D.mir (kAi r)),.bool (D.has (kAi r))])∧Below w.heap.size w w':=by
 obtain⟨a1,n1,c1,a2,n2,c2,a3,n3,c3,a4,n4,c4,hr,hm⟩:=h;have q0:=jK w pm 4 _ _ (0,0) hr;simp at q0;have HP:=jH (fun q:Regrown=>Go.Calls.regrown_of ((kDz r (Go.Sort.grow (redrawn w q.d) q.os)).mono fun e w' h=>(show e= .returned (.int .i32 (kAi r:Nat))∧Below _ _ w' from⟨h.1,by rw[h.2];exact Below.refl _ _⟩)));have HR:=jH (fun q:Regrown=>Go.Calls.regrown_of (kKp a4 n4 c4 D.l4 (kAi r:Nat) (Go.Sort.grow (redrawn w q.d) q.os) hm.h4 hm.b4 (hm.s4.keep (below_regrown w q.d q.os))));have HT:=jH (show D.mir (kAi r)=(twG D.l4 (kAi r:Nat)).1∧D.has (kAi r)=(twG D.l4 (kAi r:Nat)).2 from⟨rfl,rfl⟩)
 have g0:=fun d os=>cell_regrown q0 d os
 clear hr hm q0;generalize twG D.l4 (kAi r:Nat)=x at*;generalize kAi r=q at*;obtain⟨x,b⟩:=x
 go_enter Tryz.func69,Tryz.ntmps69
 go_upto_region 1 with(fail)
 refine wp_region_quiet_below (by kernel_rfl) (by kernel_rfl) ?_
 iterate 5 (go_big_quiet_step (fail))
 go_big_quiet_step (exact HP.out _)
 go_big_quiet_step (exact HR.out _)
 iterate 4 (go_big_quiet_step (fail))
 refine wpQuiet_nil ?_;intro _ hw';obtain⟨⟨dq,osq⟩,hw''⟩:=hw';subst hw'';have hb:=below_regrown w dq osq;have HB:=jH hb;generalize Go.Sort.grow (redrawn w dq) osq=w9 at*;clear hb g0;go_wp2
 refine jS (v:= .tuple #[.int .i32 x,.bool b]) (by simp[results,Tryz.results69,go_sem]) rfl ?_;exact⟨by rw[HT.out.1,HT.out.2],HB.out⟩
theorem kLd (w:World)(pm:Nat)(D:kAs)(h:kFi w pm D)(r:Int):
  Calls Tryz.prog 67 #[.pointer (some ⟨pm,0,none⟩),.int .i32 r] w fun e w'=>e= .returned (.tuple #[.int .i32 (D.oth (kAi r)),.int .u8 (D.side (kAi r))])∧Below w.heap.size w w':=by
 have HMd:=jH h;obtain⟨a1,n1,c1,a,n,c,a3,n3,c3,a4,n4,c4,hr,hm⟩:=h;have q0:=jK w pm 2 _ _ (0,0) hr;simp at q0;have HP:=jH (kDz r w);have HT:=jH (show D.oth (kAi r)=(brG D.l2 (kAi r:Nat)).1∧D.side (kAi r)=(brG D.l2 (kAi r:Nat)).2 from⟨rfl,rfl⟩);have HL:=jH hm.h2;have HS:=jH hm.s2;have hn:=hm.b2;have HR:=jH hr;clear hr hm
 obtain⟨l,hl⟩:∃l,l=D.l2:=⟨_,rfl⟩
 rw[←hl]at HT HL HS;clear hl;generalize kAi r=q at*;have HB:=jH (Below.refl w.heap.size w)
 go_enter Tryz.func67,Tryz.ntmps67
 go_wp2_with fail
 refine HP.out.mono ?_;rintro e w1 ⟨rfl,h1⟩;subst h1;clear HP
 obtain⟨w,rfl⟩:∃w,w=w1:=⟨_,rfl⟩
 go_wp2
 go_loopw [6] (DnR w n (fun j=>((l.getD j default).f==(q:Nat))=false)) (fun i _=>((intOf i)+1).toNat)
 case atStart=>exact⟨n,Nat.le_refl _,by go_num,fun j h1 h2=>by omega,HB.out⟩
 case round=>
  obtain⟨k,hk,rfl,hno,hb⟩:=hrel
  have HNo:=jH hno;clear hno
  have q1:=(hb.cell (p:=⟨pm,2,none⟩) (World.block_lt_of_cell? w _ q0)).trans q0
  have HBe:=jH hb;clear hb
  by_cases hk0:k=0
  ·subst hk0
   have HF:Hid (brG l (q:Nat)=(0,0)):=jH (kH4 (fun j hj=>by
    have:((l.getD j default).f==(q:Nat))=false:=HNo.out j (Nat.zero_le _) (by have:=HL.out;omega)
    rwa[show l.getD j default=l[j] by simp[hj]]at this))
   have hki:¬(0:Int)≤((0:Nat):Int) - 1:=by omega
   go_wp2
   refine jS (v:= .tuple #[.int .i32 0,.int .u8 0]) (by simp[results,Tryz.results67,go_sem]) rfl ?_;exact⟨by rw[HT.out.1,HT.out.2,HF.out],HBe.out⟩
  ·obtain⟨m,rfl⟩:∃m,k=m+1:=⟨k - 1,by omega⟩
   have hki:(((m+1:Nat):Int) - 1)=(m:Int):=by omega
   rw[hki]
   have hm0:(0:Int)≤(m:Int):=by omega
   have hmn:(m:Int)<(n:Int):=by omega
   have hml:m<l.length:=by rw[HL.out];omega
   obtain⟨b,o,ha⟩:=HS.out.some (by omega);subst ha;obtain⟨c1,c2,c3⟩:=(HS.out.keep HBe.out).get m hml;have HG:=jH (show l.getD m default=l[m] by simp[hml])
   have HAt:=jH (fun(h:(l[m].f==(q:Nat))=true)=>(show brG l (q:Nat)=(l[m].t,l[m].v)from kK9 hml h (fun j h1 h2=>by
    have:((l.getD j default).f==(q:Nat))=false:=HNo.out j (by omega) (by have:=HL.out;omega)
    rwa[show l.getD j default=l[j] by simp[h2]]at this)))
   obtain⟨s,hs⟩:∃s,s=l[m]:=⟨_,rfl⟩
   rw[←hs]at c1 c2 c3 HG HAt;clear hs hki hk0
   by_cases hq:s.f=(q:Nat)
   ·have HE:=jH (HAt.out (beq_iff_eq.2 hq));have hd:(s.f==(q:Int))=true:=beq_iff_eq.2 hq;clear hq;go_wp2
    go_quiet (fail)
    go_wp2
    refine jS (v:= .tuple #[.int .i32 s.t,.int .u8 s.v]) (by simp[results,Tryz.results67,go_sem]) rfl ?_;exact⟨by rw[HT.out.1,HT.out.2,HE.out],below_drewN HBe.out _⟩
   ·have hd:(s.f==(q:Int))=false:=beq_false_of_ne hq;have HD:=jH hd;clear hq;go_wp2
    go_roundw
    case rel=>exact⟨m,by omega,by go_num,fun j h1 h2=>by
     by_cases e:j=m
     ·show((l.getD j default).f==(q:Nat))=false
      rw[e,HG.out];exact HD.out
     ·exact HNo.out j (by omega) h2,HBe.out⟩
    case measure=>simp[intOf]<;>omega
theorem kNn (w:World)(pm:Nat)(D:kAs)(h:kFi w pm D)(r:Int):
  Calls Tryz.prog 66 #[.pointer (some ⟨pm,0,none⟩),.int .i32 r] w fun e w'=>e= .returned (.int .u8 (D.cls (kAi r)))∧Below w.heap.size w w':=by
 obtain⟨a,n,c,a2,n2,c2,a3,n3,c3,a4,n4,c4,hr,hm⟩:=h;have q0:=jK w pm 1 _ _ (0,0) hr;have q5:=jK w pm 0 _ _ (0,0) hr;simp at q0 q5;have HP:=jH (kDz r w);have HT:=jH (show D.cls (kAi r)=kEh (fun s:kAr=>decide (s.f≤((kAi r:Nat):Int)∧((kAi r:Nat):Int)≤s.t)) (fun s=>s.v) D.rest D.l1 from kGz _ _ _);have HL:=jH hm.h1;have HS:=jH hm.s1;have hn:=hm.b1;clear hr hm
 obtain⟨l,hl⟩:∃l,l=D.l1:=⟨_,rfl⟩
 rw[←hl]at HT HL HS;clear hl;generalize D.rest=rest at*;generalize kAi r=q at*;have HB:=jH (Below.refl w.heap.size w)
 go_enter Tryz.func66,Tryz.ntmps66
 go_wp2_with fail
 refine HP.out.mono ?_;rintro e w1 ⟨rfl,h1⟩;subst h1;clear HP
 obtain⟨w,rfl⟩:∃w,w=w1:=⟨_,rfl⟩
 go_wp2
 go_loopw [5] (DnR w n (fun j=>decide ((l.getD j default).f≤((q:Nat):Int)∧((q:Nat):Int)≤(l.getD j default).t)=false)) (fun i _=>((intOf i)+1).toNat)
 case atStart=>exact⟨n,Nat.le_refl _,by go_num,fun j h1 h2=>by omega,HB.out⟩
 case round=>
  obtain⟨k,hk,rfl,hno,hb⟩:=hrel
  have HNo:=jH hno;clear hno
  have q1:=(hb.cell (p:=⟨pm,1,none⟩) (World.block_lt_of_cell? w _ q0)).trans q0;have q6:=(hb.cell (p:=⟨pm,0,none⟩) (World.block_lt_of_cell? w _ q5)).trans q5
  have HBe:=jH hb;clear hb
  by_cases hk0:k=0
  ·subst hk0
   have HF:Hid (kEh (fun s:kAr=>decide (s.f≤((q:Nat):Int)∧((q:Nat):Int)≤s.t)) (fun s=>s.v) rest l=rest):=jH (kH4 (fun j hj=>by
    have:decide ((l.getD j default).f≤((q:Nat):Int)∧((q:Nat):Int)≤(l.getD j default).t)=false:=HNo.out j (Nat.zero_le _) (by have:=HL.out;omega)
    rwa[show l.getD j default=l[j] by simp[hj]]at this))
   have hki:¬(0:Int)≤((0:Nat):Int) - 1:=by omega
   go_wp2
   go_ret
   exact⟨kJo (congrArg (Value.int .u8) ((HT.out.trans HF.out).symm)),HBe.out⟩
  ·obtain⟨m,rfl⟩:∃m,k=m+1:=⟨k - 1,by omega⟩
   have hki:(((m+1:Nat):Int) - 1)=(m:Int):=by omega
   rw[hki]
   have hm0:(0:Int)≤(m:Int):=by omega
   have hmn:(m:Int)<(n:Int):=by omega
   have hml:m<l.length:=by rw[HL.out];omega
   obtain⟨b,o,ha⟩:=HS.out.some (by omega);subst ha;obtain⟨c1,c2,c3⟩:=(HS.out.keep HBe.out).get m hml;have HG:=jH (show l.getD m default=l[m] by simp[hml])
   have HAt:=jH (fun(h:decide (l[m].f≤((q:Nat):Int)∧((q:Nat):Int)≤l[m].t)=true)=>(show kEh (fun s:kAr=>decide (s.f≤((q:Nat):Int)∧((q:Nat):Int)≤s.t)) (fun s=>s.v) rest l=l[m].v from kK9 hml h (fun j h1 h2=>by
    have:decide ((l.getD j default).f≤((q:Nat):Int)∧((q:Nat):Int)≤(l.getD j default).t)=false:=HNo.out j (by omega) (by have:=HL.out;omega)
    rwa[show l.getD j default=l[j] by simp[h2]]at this)))
   obtain⟨s,hs⟩:∃s,s=l[m]:=⟨_,rfl⟩
   rw[←hs]at c1 c2 c3 HG HAt;clear hs hki hk0;have a1:=jN wr (.cells #[.int .i32 s.f,.int .i32 s.t,.int .u8 s.v] 63);have b1:=(Below.refl _ wr).alloc jR (.cells #[.int .i32 s.f,.int .i32 s.t,.int .u8 s.v] 63);have HW1:=jH (And.intro a1 b1);clear a1 b1
   go_upto_region 6 with(fail)
   obtain⟨a1,b1⟩:=HW1.out;clear HW1
   obtain⟨bx,hbx⟩:∃bx,bx=wr.heap.size:=⟨_,rfl⟩
   rw[←hbx]at a1 ⊢;generalize wr.alloc (.cells #[.int .i32 s.f,.int .i32 s.t,.int .u8 s.v] 63)=w1 at*;have HBe1:=jH (HBe.out.trans (b1.mono HBe.out.size));have d0:=jK w1 bx 0 _ _ (0,0) a1;have d1:=jK w1 bx 1 _ _ (0,0) a1;have d2:=jK w1 bx 2 _ _ (0,0) a1;simp at d0 d1 d2;clear a1 b1 hbx c1 c2 c3 q1 q6
   by_cases hq1:s.f≤((q:Nat):Int)
   ·by_cases hq2:((q:Nat):Int)≤s.t
    ·have HE:=jH (HAt.out (decide_eq_true ⟨hq1,hq2⟩));go_wp2
     go_ret
     exact⟨kJo (congrArg (Value.int .u8) ((HT.out.trans HE.out).symm)),HBe1.out⟩
    ·have HD:=jH hq2;go_wp2
     go_roundw
     case rel=>exact⟨m,by omega,by go_num,fun j h1 h2=>by
      by_cases e:j=m
      ·show decide ((l.getD j default).f≤((q:Nat):Int)∧((q:Nat):Int)≤(l.getD j default).t)=false
       rw[e,HG.out];exact decide_eq_false (fun h=>HD.out h.2)
      ·exact HNo.out j (by omega) h2,HBe1.out⟩
     case measure=>simp[intOf]<;>omega
   ·have HD:=jH hq1;go_wp2
    go_roundw
    case rel=>exact⟨m,by omega,by go_num,fun j h1 h2=>by
     by_cases e:j=m
     ·show decide ((l.getD j default).f≤((q:Nat):Int)∧((q:Nat):Int)≤(l.getD j default).t)=false
      rw[e,HG.out];exact decide_eq_false (fun h=>HD.out h.1)
     ·exact HNo.out j (by omega) h2,HBe1.out⟩
    case measure=>simp[intOf]<;>omega
end Go.Proofs.YtbmphakfgoompaaGreat

namespace Go.Proofs.YtbmphakfgoompaaGreat
open Go.RowKit
end Go.Proofs.YtbmphakfgoompaaGreat

namespace Go.Proofs.YtbmphakfgoompaaGreat
open Go.RowKit
theorem Tryz.elemCls:kKx Tryz.prog 44 22 (.int .u8 0) 1:=⟨Tryz.underlying44,by kernel_rfl,rfl⟩
end Go.Proofs.YtbmphakfgoompaaGreat

namespace Go.Proofs.YtbmphakfgoompaaGreat
open Go.RowKit
theorem kCt {α β:Type}(p:α→Bool)(v:α→β):∀(l:List α) (z:β),kEh p v z l=z∨∃s∈l,p s=true∧kEh p v z l=v s
 | [],_=> .inl rfl
 | s :: l,z=>by
  unfold kEh;rw[List.foldl_cons]
  by_cases e:p s=true
  ·rw[if_pos e]
   rcases kCt p v l (v s)with h | ⟨x,h1,h2,h3⟩
   ·exact .inr ⟨s,by simp,e,h⟩
   ·exact .inr ⟨x,by simp[h1],h2,h3⟩
  ·rw[if_neg e]
   rcases kCt p v l z with h | ⟨x,h1,h2,h3⟩
   ·exact .inl h
   ·exact .inr ⟨x,by simp[h1],h2,h3⟩
end Go.Proofs.YtbmphakfgoompaaGreat
