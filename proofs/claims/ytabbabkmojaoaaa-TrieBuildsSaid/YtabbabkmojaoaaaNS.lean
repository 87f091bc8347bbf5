/- several texts in one: BL8 LN LA8 -/
import Derived.Test.YtabbabkmojaoaaaNF
import Derived.Test.YtabbabkmojaoaaaNQ
import Derived.Test.YtabbabkmojaoaaaNR
import Derived.Test.YtabbabkmojaoaaaNM
import Derived.Lib.QuietBelow
import Derived.Deep.QuietTactic
set_option linter.unusedVariables false
set_option linter.unusedSimpArgs false
set_option maxRecDepth 100000
set_option maxHeartbeats 16000000
namespace Go.Proofs.Ytabbabkmojaoaaa
open Go.RowKit
def spV (of:Int→Int) (l:List Go.Proofs.Ytabbabkmojaoaaa.SpanD):List SpanD:=l.map (fun s=>⟨s.f,s.t,of s.v⟩)
theorem kA8 (of:Int→Int)(l:List Go.Proofs.Ytabbabkmojaoaaa.SpanD):(spV of l).length=l.length:=by simp[spV]
theorem kE9 (of:Int→Int)(l:List Go.Proofs.Ytabbabkmojaoaaa.SpanD)(i:Nat)(hi:i<l.length):(spV of l).getD i default=⟨(l.getD i default).f,(l.getD i default).t,of (l.getD i default).v⟩:=by
 simp[spV,hi]
theorem kDz {of:Int→Int}{l:List Go.Proofs.Ytabbabkmojaoaaa.SpanD}{i:Nat}(hi:i<l.length):badS ((spV of l).getD i default)↔Go.Proofs.Ytabbabkmojaoaaa.badS (l.getD i default):=by
 rw[kE9 of l i hi]
 rfl
theorem kE6 (of:Int→Int)(l:List Go.Proofs.Ytabbabkmojaoaaa.SpanD)(x:Int):ownF (spV of l) x=Go.Proofs.Ytabbabkmojaoaaa.ownF l x:=by
 unfold ownF
 try unfold Go.Proofs.Ytabbabkmojaoaaa.ownF
 unfold spV;rw[List.findIdx?_map]
 rfl
theorem kHp (of:Int→Int)(l:List Go.Proofs.Ytabbabkmojaoaaa.SpanD)(k:Nat):(spV of l).take k=spV of (l.take k):=by simp[spV]
theorem kD0 {of:Int→Int}{l:List Go.Proofs.Ytabbabkmojaoaaa.SpanD}{k:Nat}(hk:k<l.length):meetS (spV of l) k↔Go.Proofs.Ytabbabkmojaoaaa.meetS l k:=by
 unfold meetS
 try unfold Go.Proofs.Ytabbabkmojaoaaa.meetS
 rw[kE9 of l k hk,kHp]
 constructor
 ·rintro⟨x,h1,h2⟩;exact⟨x,h1,by rw[kE6]at h2;exact h2⟩
 ·rintro⟨x,h1,h2⟩;exact⟨x,h1,by rw[kE6];exact h2⟩
theorem kL2 (of:Int→Int)(rest:Int)(l:List Go.Proofs.Ytabbabkmojaoaaa.SpanD)(r:Nat):fS (of rest) (spV of l) r=of (Go.Proofs.Ytabbabkmojaoaaa.fS rest l r):=by
 unfold fS
 try unfold Go.Proofs.Ytabbabkmojaoaaa.fS
 rw[kE6]
 by_cases h:Go.Proofs.Ytabbabkmojaoaaa.ownF l (r:Nat)=0
 ·rw[if_pos h,if_pos h]
 ·rw[if_neg h,if_neg h]
  rcases Go.Proofs.Ytabbabkmojaoaaa.ownF_le l (r:Nat)with h1 | ⟨i,hi,h1⟩
  ·exact absurd h1 h
  ·rw[h1,show((i:Int)+1 - 1).toNat=i by omega,kE9 of l i hi]
theorem kBy (of:Int→Int)(l:List Go.Proofs.Ytabbabkmojaoaaa.SpanD):(flatO of l).length=l.length*3:=by
 induction l with
 | nil=>rfl
 | cons s l ih=>rw[flatO,List.flatMap_cons,←flatO,List.length_append,ih,List.length_cons];simp;omega
theorem kFg (of:Int→Int):∀(l:List Go.Proofs.Ytabbabkmojaoaaa.SpanD) (i:Nat) (hi:i<l.length),(flatO of l)[i*3]? =some (.int .i32 l[i].f)∧(flatO of l)[i*3+1]? =some (.int .i32 l[i].t)∧(flatO of l)[i*3+2]? =some (val8 (of l[i].v))
 | [],i,hi=>absurd hi (by simp)
 | s :: l,0,_=>by simp[flatO]
 | s :: l,i+1,hi=>by
  have e:flatO of (s :: l)= .int .i32 s.f :: .int .i32 s.t :: val8 (of s.v) :: flatO of l:=rfl;have h:=kFg of l i (by simpa using hi);rw[e,show(i+1)*3=i*3+1+1+1 by omega]
  simpa using h
theorem kDv {B:Nat}{E:TypeId}{w:World}{a:Option Addr}{n c:Nat}{of:Int→Int}{l:List Go.Proofs.Ytabbabkmojaoaaa.SpanD}{ys:List Value}(h:w.ownsRow B E 3 (.slice a n c) n (flatO of l++ys)):SpansAt w a (spV of l):=by
 intro i hi;rw[kA8]at hi
 have hln:l.length*3≤n*3:=by have:=h.1;rw[List.length_append,kBy]at this;omega
 rcases h.2 with⟨-,h0⟩ | ⟨g,cap,cur,e,hb,hg, -⟩
 ·omega
 ·simp only[Value.slice.injEq]at e;obtain⟨rfl, -,rfl⟩:=e;obtain⟨g1,g2,g3⟩:=kFg of l i hi
  have e2:(spV of l)[i]'(by rw[kA8];exact hi)=⟨l[i].f,l[i].t,of l[i].v⟩:=by simp[spV]
  rw[e2];have hl:=kBy of l
  refine⟨g,0,rfl,?_,?_,?_⟩
  ·rw[Nat.zero_add,World.ownsRow.cellAt h (i*3) (by omega),List.getElem?_append_left (by omega)];exact g1
  ·rw[Nat.zero_add,World.ownsRow.cellAt h (i*3+1) (by omega),List.getElem?_append_left (by omega)];exact g2
  ·rw[Nat.zero_add,World.ownsRow.cellAt h (i*3+2) (by omega),List.getElem?_append_left (by omega)];exact g3
def kDx (w:World) (of:Int→Int) (rest:Int) (l:List Go.Proofs.Ytabbabkmojaoaaa.SpanD) (e:Ending) (w':World):Prop:=
 Below w.heap.size w w'∧
  ((∃i,i<l.length∧Go.Proofs.Ytabbabkmojaoaaa.badS (l.getD i default)∧(∀j,j<i→¬Go.Proofs.Ytabbabkmojaoaaa.badS (l.getD j default))∧e= .returned (.tuple #[.pointer none,.int .i64 (i:Nat),.int .i64 110]))∨
  ((∀j,j<l.length→¬Go.Proofs.Ytabbabkmojaoaaa.badS (l.getD j default))∧∃k,k<l.length∧Go.Proofs.Ytabbabkmojaoaaa.meetS l k∧(∀j,j<k→¬Go.Proofs.Ytabbabkmojaoaaa.meetS l j)∧e= .returned (.tuple #[.pointer none,.int .i64 (k:Nat),.int .i64 111]))∨
  (Go.Proofs.Ytabbabkmojaoaaa.okS l∧∃g S,e= .returned (.tuple #[.pointer (some ⟨g,0,none⟩),.int .i64 0,.int .i64 0])∧w.heap.size≤g∧kBu (fun r=>of (Go.Proofs.Ytabbabkmojaoaaa.fS rest l r)) S∧kAj val8 114 64 w' g (kA1 S)))
theorem kE3 (w:World)(of:Int→Int)(rest:Int)(l:List Go.Proofs.Ytabbabkmojaoaaa.SpanD)(a:Option Addr)(n c:Nat)(hl:l.length=n)(hn:n≤60)(hs:SpansAt w a (spV of l))(hwf:∀s∈l, -2147483648≤s.f∧s.f≤2147483647∧ -2147483648≤s.t∧s.t≤2147483647):
  Calls Try.prog 14 #[val8 (of rest),.slice a n c] w fun e w'=>∃tv av ev,e= .returned (.tuple #[tv,av,ev])∧kDx w of rest l e w':=by
 have eF:fS (of rest) (spV of l)=fun r=>of (Go.Proofs.Ytabbabkmojaoaaa.fS rest l r):=funext (kL2 of rest l)
 refine(kD9 (of rest) a n c (spV of l) w (by rw[kA8];exact hl) (by omega) hs (fun s hs=>by
  obtain⟨s',hs',rfl⟩:=List.mem_map.1 hs
  exact hwf s' hs')).mono ?_
 intro e w' hq;obtain⟨hb,hq⟩:=kHv hq;rw[kA8]at hq
 have key:kDx w of rest l e w'→∃tv av ev,e= .returned (.tuple #[tv,av,ev])∧kDx w of rest l e w':=fun h=>by
  have h':=h;obtain⟨-,⟨i, -, -, -,h2⟩ | ⟨-,i, -, -, -,h2⟩ | ⟨-,g,S,h2, -⟩⟩:=h'
  all_goals exact⟨_,_,_,h2,h⟩
 refine key ⟨hb,?_⟩
 rcases hq with⟨i,hi,h1,h2,h3⟩ | ⟨h0,k,hk,h1,h2,h3⟩ | ⟨h1,h2,g,S,h3,h4,h5,h6⟩
 ·exact .inl ⟨i,hi,(kDz hi).1 h1,fun j hj h=>h2 j hj ((kDz (by omega)).2 h),h3⟩
 ·exact .inr (.inl ⟨fun j hj h=>h0 j hj ((kDz hj).2 h),k,hk,(kD0 hk).1 h1,fun j hj h=>h2 j hj ((kD0 (by omega)).2 h),h3⟩)
 ·rw[eF]at h5;exact .inr (.inr ⟨⟨fun j hj h=>h1 j hj ((kDz hj).2 h),fun j hj h=>h2 j hj ((kD0 hj).2 h)⟩,g,S,h3,h4,h5,h6⟩)
def kLr (of:Int→Int) (rest:Int) (l:List Go.Proofs.Ytabbabkmojaoaaa.SpanD) (w1 w2:World) (tv av ev fv pv nv:Value):Prop:=
 (∃i er:Int,er≠0∧tv= .pointer none∧av= .int .i64 i∧ev= .int .i64 er∧fv= .agg #[.slice none 0 0,.slice none 0 0]∧pv= .int .i64 i∧nv= .int .i64 er)∨
 (∃g S,tv= .pointer (some ⟨g,0,none⟩)∧av= .int .i64 0∧ev= .int .i64 0∧pv= .int .i64 0∧nv= .int .i64 0∧kBu (fun r=>of (Go.Proofs.Ytabbabkmojaoaaa.fS rest l r)) S∧kAj val8 114 64 w1 g (kA1 S)∧kH9 w2 fv (kAt (Go.Proofs.Ytabbabkmojaoaaa.fS rest l) 1114112))
theorem kIm {w w1 v w2:World}{of:Int→Int}{rest:Int}{l:List Go.Proofs.Ytabbabkmojaoaaa.SpanD}{e1 e2:Ending}(h1:kDx w of rest l e1 w1)(h2:kK3 v rest l e2 w2):
  ∃tv av ev fv pv nv,e1= .returned (.tuple #[tv,av,ev])∧e2= .returned (.tuple #[fv,pv,nv])∧kLr of rest l w1 w2 tv av ev fv pv nv:=by
 obtain⟨-,h1⟩:=h1;obtain⟨-,fv,h2⟩:=h2
 rcases h1 with⟨i,hi,b1,b2,rfl⟩ | ⟨b0,k,hk,b1,b2,rfl⟩ | ⟨ok1,g,S,rfl, -,hM,hT⟩<;>rcases h2 with⟨j,hj,c1,c2,rfl,rfl⟩ | ⟨c0,m,hm,c1,c2,rfl,rfl⟩ | ⟨ok2,rfl,hF⟩
 ·have:i=j:=by
   rcases Nat.lt_trichotomy i j with h | h | h
   ·exact absurd b1 (c2 i h)
   ·exact h
   ·exact absurd c1 (b2 j h)
  subst this;exact⟨_,_,_,_,_,_,rfl,rfl,.inl ⟨_,_,by decide,rfl,rfl,rfl,rfl,rfl,rfl⟩⟩
 ·exact absurd b1 (c0 i hi)
 ·exact absurd b1 (ok2.1 i hi)
 ·exact absurd c1 (b0 j hj)
 ·have:k=m:=by
   rcases Nat.lt_trichotomy k m with h | h | h
   ·exact absurd b1 (c2 k h)
   ·exact h
   ·exact absurd c1 (b2 m h)
  subst this;exact⟨_,_,_,_,_,_,rfl,rfl,.inl ⟨_,_,by decide,rfl,rfl,rfl,rfl,rfl,rfl⟩⟩
 ·exact absurd b1 (ok2.2 k hk)
 ·exact absurd c1 (ok1.1 j hj)
 ·exact absurd c1 (ok1.2 m hm)
 ·exact⟨_,_,_,_,_,_,rfl,rfl,.inr ⟨g,S,rfl,rfl,rfl,rfl,rfl,hM,hT,hF⟩⟩
end Go.Proofs.Ytabbabkmojaoaaa

namespace Go.Proofs.Ytabbabkmojaoaaa
section
variable {α : Type} [DecidableEq α]
def kI7 (x:Int):Prop:=0≤x∧x≤255
def kKn (of:Int→α):Prop:=∀x y,0≤x→x≤255→0≤y→y≤255→of x=of y→x=y
theorem kM8 {of:Int→α}(hi:kKn of):∀(a b:List Int),(∀x∈a,kI7 x)→(∀x∈b,kI7 x)→eqL (fun x y=>decide (x=y)) (a.map of) (b.map of)=eqL (fun x y=>decide (x=y)) a b
 | [],_,_,_=>by simp[eqL]
 | x :: a,[],_,_=>by simp[eqL]
 | x :: a,y :: b,ha,hb=>by
  have h1:=ha x (by simp);have h2:=hb y (by simp);rw[List.map_cons,List.map_cons,eqL,eqL,kM8 hi a b (fun z hz=>ha z (by simp[hz])) (fun z hz=>hb z (by simp[hz]))]
  congr 1
  by_cases h:x=y
  ·subst h;simp
  ·have:of x≠of y:=fun e=>h (hi x y h1.1 h1.2 h2.1 h2.2 e)
   simp[h,this]
theorem kK7 {of:Int→α}(hi:kKn of){b:List Int}(hb:∀x∈b,kI7 x):∀(L:List (List Int)),(∀l∈L,∀x∈l,kI7 x)→kAo (fun x y=>decide (x=y)) (b.map of) (L.map (List.map of))=kAo (fun x y=>decide (x=y)) b L
 | [],_=>rfl
 | l :: L,hL=>by
  have ih:=kK7 hi hb L (fun m hm=>hL m (by simp[hm]));unfold kAo at ih ⊢;rw[List.map_cons,List.findIdx?_cons,List.findIdx?_cons,kM8 hi b l hb (hL l (by simp)),ih]
theorem kNk {of:Int→α}(hi:kKn of){b:List Int}(hb:∀x∈b,kI7 x){L:List (List Int)}(hL:∀l∈L,∀x∈l,kI7 x):
  kBe (fun x y=>decide (x=y)) (L.map (List.map of)) (b.map of)=((kBe (fun x y=>decide (x=y)) L b).1.map (List.map of),(kBe (fun x y=>decide (x=y)) L b).2):=by
 unfold kBe;rw[kK7 hi hb L hL]
 cases kAo (fun x y=>decide (x=y)) b L with
 | some k=>rfl
 | none=>simp
theorem kLa {b:List Int}(hb:∀x∈b,kI7 x){L:List (List Int)}(hL:∀l∈L,∀x∈l,kI7 x):∀l∈(kBe (fun x y=>decide (x=y)) L b).1,∀x∈l,kI7 x:=by
 unfold kBe
 cases kAo (fun x y=>decide (x=y)) b L with
 | some k=>exact hL
 | none=>
  intro l hl
  rcases List.mem_append.1 hl with h | h
  ·exact hL l h
  ·rw[List.mem_singleton.1 h];exact hb
def kMl (of:Int→α) (S:MkS Int):MkS α:=⟨S.top,S.cur,S.lows.map (List.map of),S.mids,S.blocks⟩
theorem kKo {of:Int→α}(hi:kKn of){S:MkS Int}{b:List Int}(hb:∀x∈b,kI7 x)(hL:∀l∈S.lows,∀x∈l,kI7 x):
  kD6 (fun x y=>decide (x=y)) (kMl of S) (b.map of)=kMl of (kD6 (fun x y=>decide (x=y)) S b):=by
 unfold kD6;simp only;have h:=kNk hi hb hL;rw[show(kMl of S).lows=S.lows.map (List.map of)from rfl,h];show(if(S.blocks+1) % 64=0 then _ else _)=kMl of (if(S.blocks+1) % 64=0 then _ else _)
 by_cases h1:(S.blocks+1) % 64=0
 ·rw[if_pos h1,if_pos h1];rfl
 ·rw[if_neg h1,if_neg h1];rfl
theorem kJo {S:MkS Int}{b:List Int}(hb:∀x∈b,kI7 x)(hL:∀l∈S.lows,∀x∈l,kI7 x):∀l∈(kD6 (fun x y=>decide (x=y)) S b).lows,∀x∈l,kI7 x:=by
 unfold kD6;simp only
 split
 ·exact kLa hb hL
 ·exact kLa hb hL
end
end Go.Proofs.Ytabbabkmojaoaaa

namespace Go.Proofs.Ytabbabkmojaoaaa
open Go.RowKit
attribute [local go_sem] Oper.semAt_some
def AkR (n:Nat) (w2:World) (iv:Value) (wr:World):Prop:=∃k:Nat,k≤n∧iv= .int .i64 (k:Nat)∧Below w2.heap.size w2 wr
theorem kDn (w:World)(aT:Option Addr)(cT:Nat)(aM:Option Addr)(cM:Nat)(aL:Option Addr)(cL:Nat)(sT:Option Addr)(dT:Nat)(sM:Option Addr)(dM:Nat)(sL:Option Addr)(dL:Nat)(tops mids:List Nat)(lows:List Int)(nT nM nL:Nat)
  (hnT:tops.length=nT)(hnM:mids.length=nM)(hnL:lows.length=nL)(hsz:nT≤1114112∧nM≤1114112∧nL≤1114112)(ofv:Int→Int)(cf:Nat)(lb:Array Value)(eg:∀args W,(callFunc cf args).run Try.prog W= .ok (.enter cf args) W)
  (h1:kEz w aT (tops.map kAb))(h2:kEz w aM (mids.map kAb))(h3:kEz w aL (lows.map (fun v=>val8 (ofv v))))(k1:Ints .i64 w sT (kBr tops))(k2:Ints .i64 w sM (kBr mids))(k3:Ints .i64 w sL lows)(hv:∀v∈lows,0≤v∧v≤255)(ht:∀x∈tops,x<65536)(hm:∀x∈mids,x<65536)
  (hcall:∀v∈lows,∀W,Below w.heap.size w W→Calls Try.prog cf (#[.int .u8 v]++lb) W fun e W'=>e= .returned (val8 (ofv v))∧Below W.heap.size W W'):
  Calls Try.prog 43 #[.agg #[.slice aT nT cT,.slice aM nM cM,.slice aL nL cL],.agg #[.slice sT nT dT,.slice sM nM dM,.slice sL nL dL],.func (.func cf) #[] lb] w fun e w'=>e= .returned (.bool true)∧Below w.heap.size w w':=by
 obtain⟨z1,z2,z3⟩:=hsz
 have HNT:=jH hnT;have HNM:=jH hnM;have HNL:=jH hnL;have HEg:=jH eg;have H1:=jH h1;have H2:=jH h2;have H3:=jH h3;have K1:=jH k1;have K2:=jH k2;have K3:=jH k3;have HV:=jH hv;have HTb:=jH ht;have HMb:=jH hm;have HC:=jH hcall
 clear hnT hnM hnL eg h1 h2 h3 k1 k2 k3 hv ht hm hcall;have E1:=jN w (.cells #[.slice aT nT cT,.slice aM nM cM,.slice aL nL cL] 79);have E2:=(Below.refl _ w).alloc jR (.cells #[.slice aT nT cT,.slice aM nM cM,.slice aL nL cL] 79);have E3:=World.size_alloc w (.cells #[.slice aT nT cT,.slice aM nM cM,.slice aL nL cL] 79)
 go_enter Try.func43,Try.ntmps43
 go_upto_region 1 with(fail)
 generalize w.alloc (.cells #[.slice aT nT cT,.slice aM nM cM,.slice aL nL cL] 79)=w1 at*;have F1:=jN w1 (.cells #[.slice sT nT dT,.slice sM nM dM,.slice sL nL dL] 70);have F2:=(Below.refl _ w1).alloc jR (.cells #[.slice sT nT dT,.slice sM nM dM,.slice sL nL dL] 70);generalize w1.alloc (.cells #[.slice sT nT dT,.slice sM nM dM,.slice sL nL dL] 70)=w2 at*
 obtain⟨b0,hb0⟩:∃b0,b0=w.heap.size:=⟨_,rfl⟩
 rw[←hb0]at E1 E3 ⊢;rw[E3]at F1;have HB:Hid (Below w.heap.size w w2):=jH (E2.trans (F2.mono (by omega)));have X0:Hid (w2.heap[b0]? =some (.cells #[.slice aT nT cT,.slice aM nM cM,.slice aL nL cL] 79 (0,0))):=jH ((F2.block b0 (by omega)).trans E1);have X1:=jH F1;clear E1 E2 E3 F1 F2 hb0
 have H1:=jH (kBo H1.out HB.out jR);have H2:=jH (kBo H2.out HB.out jR);have H3:=jH (kBo H3.out HB.out jR)
 have K1:=jH (K1.out.below HB.out jR);have K2:=jH (K2.out.below HB.out jR);have K3:=jH (K3.out.below HB.out jR)
 have HCell:=jH (fun(W:World) (hb:Below w2.heap.size w2 W)=>show(W.cell? ⟨b0,0,none⟩=some (.slice aT nT cT)∧W.cell? ⟨b0,1,none⟩=some (.slice aM nM cM)∧W.cell? ⟨b0,2,none⟩=some (.slice aL nL cL))∧(W.cell? ⟨b0+1,0,none⟩=some (.slice sT nT dT)∧W.cell? ⟨b0+1,1,none⟩=some (.slice sM nM dM)∧W.cell? ⟨b0+1,2,none⟩=some (.slice sL nL dL))from by
  have x0:=(hb.block b0 (jL X0.out)).trans X0.out;have x1:=(hb.block (b0+1) (jL X1.out)).trans X1.out
  exact⟨⟨jK W b0 0 _ _ (0,0) x0,jK W b0 1 _ _ (0,0) x0,jK W b0 2 _ _ (0,0) x0⟩,⟨jK W (b0+1) 0 _ _ (0,0) x1,jK W (b0+1) 1 _ _ (0,0) x1,jK W (b0+1) 2 _ _ (0,0) x1⟩⟩)
 obtain⟨⟨p0,p1,p2⟩,⟨q0,q1,q2⟩⟩:=HCell.out w2 (Below.refl _ _);go_wp2
 clear p0 p1 p2 q0 q1 q2
 go_loopw [7] (AkR nT w2) (fun i _=>nT - (intOf i).toNat)
 case atStart=>exact⟨0,Nat.zero_le _,rfl,Below.refl _ _⟩
 case round=>
  obtain⟨k,hk,rfl,hbel⟩:=hrel
  have HBl:=jH hbel;clear hbel
  obtain⟨⟨p0,p1,p2⟩,⟨q0,q1,q2⟩⟩:=HCell.out wr HBl.out
  by_cases hkn:k<nT
  ·have hki:(k:Int)<(nT:Int):=by omega
   have hkl:k<tops.length:=by rw[HNT.out];exact hkn
   obtain⟨b1,o1,e1,c1⟩:=(kBo H1.out HBl.out jR) k (by rw[List.length_map];exact hkl);obtain⟨b2,o2,e2,c2⟩:=(K1.out.below HBl.out jR) k (by rw[kBp];exact hkl);subst e1 e2;simp only[kBr,List.getElem_map]at c1 c2;unfold kAb at c1;have hxb:=HTb.out _ (List.getElem_mem hkl);generalize tops[k]=x at*
   have hw:wrap64 (x:Int)=(x:Int):=by unfold wrap64;omega
   have hxx:((x:Int) != (x:Int))=false:=by simp
   clear p1 p2 q1 q2;go_wp2
   go_quiet (fail)
   have HBq:Hid (Below w2.heap.size w2 (wr.drewN nq)):=jH (below_drewN HBl.out nq);clear c1 c2 p0 q0;generalize wr.drewN nq=w6 at*;go_wp2
   exact⟨⟨k+1,by omega,by go_num,HBq.out⟩,by simp[intOf];omega⟩
  ·obtain rfl:k=nT:=by omega
   have hki:¬(k:Int)<(k:Int):=by omega
   go_wp2
   clear p0 p1 p2 q0 q1 q2
   go_loopw [8] (AkR nM w2) (fun i _=>nM - (intOf i).toNat)
   case atStart=>exact⟨0,Nat.zero_le _,rfl,HBl.out⟩
   case round=>
    clear HBl;obtain⟨m,hm,rfl,hbel⟩:=hrel
    have HBl:=jH hbel;clear hbel
    obtain⟨⟨p0,p1,p2⟩,⟨q0,q1,q2⟩⟩:=HCell.out wr HBl.out
    by_cases hmn:m<nM
    ·have hmi:(m:Int)<(nM:Int):=by omega
     have hml:m<mids.length:=by rw[HNM.out];exact hmn
     obtain⟨b1,o1,e1,c1⟩:=(kBo H2.out HBl.out jR) m (by rw[List.length_map];exact hml);obtain⟨b2,o2,e2,c2⟩:=(K2.out.below HBl.out jR) m (by rw[kBp];exact hml);subst e1 e2;simp only[kBr,List.getElem_map]at c1 c2;unfold kAb at c1;have hxb:=HMb.out _ (List.getElem_mem hml);generalize mids[m]=x at*
     have hw:wrap64 (x:Int)=(x:Int):=by unfold wrap64;omega
     have hxx:((x:Int) != (x:Int))=false:=by simp
     clear p0 p2 q0 q2;go_wp2
     go_quiet (fail)
     have HBq:Hid (Below w2.heap.size w2 (wr.drewN nq)):=jH (below_drewN HBl.out nq);clear c1 c2 p1 q1;generalize wr.drewN nq=w6 at*;go_wp2
     exact⟨⟨m+1,by omega,by go_num,HBq.out⟩,by simp[intOf];omega⟩
    ·obtain rfl:m=nM:=by omega
     have hmi:¬(m:Int)<(m:Int):=by omega
     go_wp2
     clear p0 p1 p2 q0 q1 q2
     go_loopw [9] (AkR nL w2) (fun i _=>nL - (intOf i).toNat)
     case atStart=>exact⟨0,Nat.zero_le _,rfl,HBl.out⟩
     case round=>
      clear HBl;obtain⟨j,hj,rfl,hbel⟩:=hrel
      have HBl:=jH hbel;clear hbel
      obtain⟨⟨p0,p1,p2⟩,⟨q0,q1,q2⟩⟩:=HCell.out wr HBl.out
      by_cases hjn:j<nL
      ·have hji:(j:Int)<(nL:Int):=by omega
       have hjl:j<lows.length:=by rw[HNL.out];exact hjn
       obtain⟨b1,o1,e1,c1⟩:=(kBo H3.out HBl.out jR) j (by rw[List.length_map];exact hjl);obtain⟨b2,o2,e2,c2⟩:=(K3.out.below HBl.out jR) j hjl;subst e1 e2;simp only[List.getElem_map]at c1;have hvk:=HV.out _ (List.getElem_mem hjl);have HCk:=jH (fun d os=>(HC.out _ (List.getElem_mem hjl) (Go.Sort.grow (Go.redrawn wr d) os) (HB.out.trans ((HBl.out.mono HB.out.size).trans ((below_regrown wr d os).mono (Nat.le_trans HB.out.size HBl.out.size))))).regrown_of);generalize lows[j]=v at*
       have hwv:IntKind.u8.wrap v=v:=by simp[IntKind.wrap,IntKind.bits,IntKind.signed];omega
       unfold val8 at c1 HCk
       obtain⟨x,hx⟩:∃x,x=ofv v:=⟨_,rfl⟩
       rw[←hx]at c1 HCk;clear hx
       have k0:=fun d os=>cell_regrown c1 d os
       have k1:=fun d os=>cell_regrown c2 d os
       have k2:=fun d os=>cell_regrown p2 d os
       have k3:=fun d os=>cell_regrown q2 d os
       have heg:=HEg.out;clear p0 p1 q0 q1 c1 c2
       go_upto_region 16 with(fail)
       clear p2 q2;refine wp_region_quiet_below (by kernel_rfl) (by kernel_rfl) ?_
       iterate 12 (quiet_step (fail))
       quiet_step (exact HCk.out _ _)
       quiet_step (fail)
       refine wpQuiet_nil ?_;intro _ hw';obtain⟨⟨dq,osq⟩,hw''⟩:=hw';subst hw'';have HBq:Hid (Below w2.heap.size w2 (Go.Sort.grow (Go.redrawn wr dq) osq)):=jH (HBl.out.trans ((below_regrown wr dq osq).mono HBl.out.size));generalize (Go.Sort.grow (Go.redrawn wr dq) osq)=w6 at*;clear k0 k1 k2 k3 heg;go_wp2
       go_roundw
       case rel=>exact⟨j+1,by omega,by go_num,HBq.out⟩
       case measure=>simp[intOf];omega
      ·obtain rfl:j=nL:=by omega
       have hji:¬(j:Int)<(j:Int):=by omega
       go_wp2
       go_ret
       exact⟨rfl,HB.out.trans (HBl.out.mono HB.out.size)⟩
end Go.Proofs.Ytabbabkmojaoaaa
