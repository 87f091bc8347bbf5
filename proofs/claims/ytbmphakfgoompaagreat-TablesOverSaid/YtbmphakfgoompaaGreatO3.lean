/- several texts in one: UM UH1 UV UG -/
import Derived.Maps.Own
import Derived.Maps.Views
import Derived.Test.YtbmphakfgoompaaGreatOTA
import Derived.Test.YtbmphakfgoompaaGreatOTJ
import Derived.Test.YtbmphakfgoompaaGreatOPF
import Derived.Test.YtbmphakfgoompaaGreatO1
import Derived.BigQuiet
import Derived.Test.YtbmphakfgoompaaGreatOST
set_option linter.unusedVariables false
set_option linter.unusedSimpArgs false
set_option maxRecDepth 100000
set_option maxHeartbeats 16000000
namespace Go.Proofs.YtbmphakfgoompaaGreat
open Go.RowKit
open Go.Maps (IsMap)
def wf32 (x:Int):Prop:= -2147483648≤x∧x≤2147483647
theorem kLv {x:Int}(h:wf32 x):(Lit.int .i32 x).wf=true:=by
 obtain⟨h1,h2⟩:=h;simp[Lit.wf,IntKind.min,IntKind.max,IntKind.signed,IntKind.bits];omega
def kL1 (w:World) (b n:Nat) (f:Int→Int):Prop:=
 ∃D:DataW Unit,w.ownsMap Tryz.prog 21 (plainElem Tryz.prog 21) b n D∧IsMap D∧∀x,wf32 x→D.atKey (.int .i32 x) (.lit (.int .i32 0))= .lit (.int .i32 (f x))
theorem kQt (w:World):kL1 (w.alloc (.map #[] 0)) w.heap.size 0 (fun _=>0):=
 ⟨.map [],World.ownsMap_made w _ _ _,⟨[],rfl⟩,fun x _=>rfl⟩
theorem kL1.kept {w w':World}{b n:Nat}{f:Int→Int}{row:Option Nat}(h:kL1 w b n f)(hg:w.grownBy w' row)(hne:some b≠row):kL1 w' b n f:=by
 obtain⟨D,h1,h2,h3⟩:=h;exact⟨D,h1.kept hg hne,h2,h3⟩
theorem kL1.lt {w:World}{b n:Nat}{f:Int→Int}(h:kL1 w b n f):b<w.heap.size:=by
 obtain⟨D,h1, -⟩:=h;exact h1.lt
theorem kL1.below {w w':World}{b n:Nat}{f:Int→Int}(h:kL1 w b n f)(hb:Below w.heap.size w w'):kL1 w' b n f:=
 h.kept (row:=none) ⟨hb.os,hb.tape,hb.output,hb.size,fun k hk _=>hb.block k hk⟩ (by simp)
theorem kL1.look {w:World}{b n:Nat}{f:Int→Int}(h:kL1 w b n f)(x:Int)(hx:wf32 x):
  (Instr.lookup 175 (.map (some b)) (.int .i32 x) false).run Tryz.prog w= .ok (.int .i32 (f x)) w:=by
 obtain⟨D,h1,h2,h3⟩:=h;obtain⟨c,hr,hat, -⟩:=h1.lookup_int (Go.Maps.int_keyed Tryz.underlying21) Tryz.underlying175 Tryz.underlying21 (by kernel_rfl) (Go.Maps.keyOf_int_mk Tryz.underlying21 (kLv hx));rw[h3 x hx]at hat;rw[hr];simp only[DataW.lit.injEq,Lit.int.injEq,true_and]at hat;rw[hat]
theorem kJ1 {w:World}{ops:Array Oper}{rest:List Oper}{o:Oper}{a:Act}{Q:Exit→Act→World→Prop}
  (hg:o.guard=none)(m x v:Operand)(hop:o.op=Op.mapUpdate 175 m x v){b n:Nat}{f:Int→Int}(h:kL1 w b n f)(hn:n<maxLen)(kx kv:Int)(hkx:wf32 kx)(hkv:wf32 kv)
  (hm:a.eval m= .map (some b))(hx:a.eval x= .int .i32 kx)(hv:a.eval v= .int .i32 kv)
  (hK:∀w',kL1 w' b (n+1) (fun y=>if kx=y then kv else f y)→w.grownBy w' (some b)→wpList Tryz.prog ops Q rest (a.put o.dst undef) w'):
  wpList Tryz.prog ops Q (o :: rest) a w:=by
 obtain⟨D,h1,h2,h3⟩:=h
 refine wpList_mapUpdate_own (H:=Unit) w hg m x v 175 hop 21 21 (Go.Maps.int_keyed Tryz.underlying21) Tryz.underlying175 _ b n D hm h1 hn _ _ (.int .i32 kx) hx hv
  (Go.Maps.keyOf_int_mk Tryz.underlying21 (kLv hkx)) (.lit (.int .i32 kv)) [] (plainElem_int Tryz.underlying21 (kLv hkv)) ?_
 intro w' h4 h5;refine hK w' ⟨_,h4,h2.put _ _,fun y hy=> ?_⟩ h5
 by_cases e:kx=y
 ·show _=DataW.lit (Lit.int IntKind.i32 (if kx=y then kv else f y));rw[if_pos e,←e];exact Go.Maps.atKey_put_same h2 (by simp[WideAt.IsKeyLit]) _ _
 ·show _=DataW.lit (Lit.int IntKind.i32 (if kx=y then kv else f y));rw[if_neg e,Go.Maps.atKey_put_other (by simpa using fun e2=>e e2.symm)];exact h3 y hy
theorem kFy {B E s n cap:Nat}{w:World}{a:Option Addr}{xs:List Value}(h:w.ownsRow B E s (.slice a n cap) n xs):∀x,a=some x→B≤x.block:=by
 rintro x rfl
 rcases h.2 with⟨e,h0⟩ | ⟨g,cap',cur,e,hb, -⟩
 ·simp at e
 ·simp only[Value.slice.injEq,Option.some.injEq]at e;rw[e.1];exact hb
theorem mk_far {S:MkS Int}{w:World}{g B:Nat}{am:Option Addr}{cm:Nat}{al:Option Addr}{cl:Nat}(hM:kBv val8 1 174 141 145 142 w g S S.lows S.mids am cm al cl)(hg:B≤g):
  TrieFar 141 w g (trieS S) B:=
 ⟨hg,am,cm,al,cl,hM.tr,fun x e=>Nat.le_trans (Nat.le_trans hg (Nat.le_add_right _ _)) (kFy hM.rm x e),fun x e=>Nat.le_trans (Nat.le_trans hg (Nat.le_add_right _ _)) (kFy hM.rl x e)⟩
theorem kTu {S:MkS Int}{w:World}{g B:Nat}{am:Option Addr}{cm:Nat}{al:Option Addr}{cl:Nat}(hM:kBv VJ.val8 1 182 152 145 153 w g S S.lows S.mids am cm al cl)(hg:B≤g):
  VJ.TrieFar 152 w g (VJ.trieS S) B:=
 ⟨hg,am,cm,al,cl,hM.tr,fun x e=>Nat.le_trans (Nat.le_trans hg (Nat.le_add_right _ _)) (kFy hM.rm x e),fun x e=>Nat.le_trans (Nat.le_trans hg (Nat.le_add_right _ _)) (kFy hM.rl x e)⟩
theorem kJd {B:Nat}{W W':World}(h:Below W.heap.size W W'):kKy B W W':=⟨h.os,h.tape,h.output,h.size,fun k _ hk=>h.block k hk⟩
theorem fill8 (cf:Nat)(lb:Array Value)(w:World)(f:Nat→Int)(eg:∀args W,(callFunc cf args).run Tryz.prog W= .ok (.enter cf args) W)
  (hcall:∀k W,k<1114112→Below w.heap.size w W→Calls Tryz.prog cf (#[.int .i32 (k:Nat)]++lb) W fun e W'=>e= .returned (val8 (f k))∧Below W.heap.size W W'):
  Calls Tryz.prog 49 #[.func (.func cf) #[] lb] w fun e w'=>∃g S,e= .returned (.pointer (some ⟨g,0,none⟩))∧Made8 f S∧kAu val8 141 64 w' g (trieS S)∧TrieFar 141 w' g (trieS S) w.heap.size∧Below w.heap.size w w':=by
 refine(Fill8_walk cf lb w f (fun _ W=>Below w.heap.size w W) eg (fun k W W' h hb=>h.trans hb) (fun k W hk hW hs=>(hcall k W hk hW).mono fun e W' h=>⟨h.1,hW.trans (h.2.mono hs),kJd h.2⟩) (Below.refl _ _)).mono ?_;rintro e w' ⟨g,rfl,hg,⟨am,cm,al,cl,hM⟩,hb⟩;have hS:=made8 f 17408 rfl;generalize mkF f 17408=S at*;exact⟨g,S,rfl,hS,trieS_at hS hM,mk_far hM hg,hb⟩
theorem fillJ (cf:Nat)(lb:Array Value)(w:World)(f:Nat→Int)(eg:∀args W,(callFunc cf args).run Tryz.prog W= .ok (.enter cf args) W)
  (hcall:∀k W,k<1114112→Below w.heap.size w W→Calls Tryz.prog cf (#[.int .i32 (k:Nat)]++lb) W fun e W'=>e= .returned (.int .i32 (f k))∧Below W.heap.size W W'):
  Calls Tryz.prog 58 #[.func (.func cf) #[] lb] w fun e w'=>∃g S,e= .returned (.pointer (some ⟨g,0,none⟩))∧VJ.Made8 f S∧kAu VJ.val8 152 64 w' g (VJ.trieS S)∧VJ.TrieFar 152 w' g (VJ.trieS S) w.heap.size∧Below w.heap.size w w':=by
 refine(VJ.Fill8_walk cf lb w f (fun _ W=>Below w.heap.size w W) eg (fun k W W' h hb=>h.trans hb) (fun k W hk hW hs=>(hcall k W hk hW).mono fun e W' h=>⟨h.1,hW.trans (h.2.mono hs),kJd h.2⟩) (Below.refl _ _)).mono ?_;rintro e w' ⟨g,rfl,hg,⟨am,cm,al,cl,hM⟩,hb⟩;have hS:=VJ.made8 f 17408 rfl;generalize VJ.mkF f 17408=S at*;exact⟨g,S,rfl,hS,VJ.trieS_at hS hM,kTu hM hg,hb⟩
end Go.Proofs.YtbmphakfgoompaaGreat

namespace Go.Proofs.YtbmphakfgoompaaGreat
open Go.RowKit
def kDo (c:Int):Bool:=decide (1≤c∧c≤23)
def kA9 (r:Int):Bool:=decide (0≤r∧r≤1114111)
def kIo (s:Int):Bool:=decide (s=1∨s=2)
def kGl (o s:Int):Int:=if s=1 then o+1 else -(o+1)
theorem kH2 (c:Int)(w:World):Calls Tryz.prog 34 #[.int .u8 c] w fun e w'=>e= .returned (.bool (kDo c))∧w'=w:=by
 unfold kDo
 by_cases h1:c<1
 ·have n1:¬1≤c:=by omega
  go_enter Tryz.func34,Tryz.ntmps34
  go_wp2
  go_ret
  exact⟨by simp<;>omega,rfl⟩
 ·have h2:1≤c:=by omega
  by_cases h3:c≤23
  ·go_enter Tryz.func34,Tryz.ntmps34
   go_wp2
   go_ret
   exact⟨by simp<;>omega,rfl⟩
  ·go_enter Tryz.func34,Tryz.ntmps34
   go_wp2
   go_ret
   exact⟨by simp<;>omega,rfl⟩
theorem kPp (c:Int)(w:World):Calls Tryz.prog 47 #[.int .u8 c] w fun e w'=>e= .returned (.bool (kIo c))∧w'=w:=by
 unfold kIo
 by_cases h1:c=1
 ·subst h1
  go_enter Tryz.func47,Tryz.ntmps47
  go_wp2
  go_ret
  exact⟨by simp,rfl⟩
 ·have d1:(c==1)=false:=beq_false_of_ne h1
  by_cases h3:c=2
  ·subst h3
   go_enter Tryz.func47,Tryz.ntmps47
   go_wp2
   go_ret
   exact⟨by simp,rfl⟩
  ·have d2:(c==2)=false:=beq_false_of_ne h3
   go_enter Tryz.func47,Tryz.ntmps47
   go_wp2
   go_ret
   exact⟨by simp[h1,h3],rfl⟩
theorem kQr (o s:Int)(ho:0≤o∧o≤1114111)(w:World):Calls Tryz.prog 53 #[.int .i32 o,.int .u8 s] w fun e w'=>e= .returned (.int .i32 (kGl o s))∧w'=w:=by
 obtain⟨o1,o2⟩:=ho
 by_cases h1:s=1
 ·subst h1;have e1:kGl o 1=o+1:=if_pos rfl;rw[e1]
  go_enter Tryz.func53,Tryz.ntmps53
  go_wp2
  go_ret
  exact⟨rfl,rfl⟩
 ·have d1:(s==1)=false:=beq_false_of_ne h1;have e1:kGl o s= -(o+1):=if_neg h1;rw[e1]
  have w1:wrap32 (o+1)=o+1:=by unfold wrap32;omega
  have w2:wrap32 (-(o+1))= -(o+1):=by unfold wrap32;omega
  go_enter Tryz.func53,Tryz.ntmps53
  go_wp2
  go_ret
  exact⟨by simp[w1,w2],rfl⟩
theorem kMd (a o s:Int)(ho:0≤o∧o≤1114111)(w:World):Calls Tryz.prog 52 #[.agg #[.int .i32 a,.int .i32 o,.int .u8 s]] w fun e w'=>e= .returned (.tuple #[.int .i32 a,.int .i32 (kGl o s)])∧Below w.heap.size w w':=by
 have a1:=jN w (.cells #[.int .i32 a,.int .i32 o,.int .u8 s] 66);have b1:=(Below.refl _ w).alloc jR (.cells #[.int .i32 a,.int .i32 o,.int .u8 s] 66);have HW1:=jH (And.intro a1 b1);clear a1 b1
 go_enter Tryz.func52,Tryz.ntmps52
 go_upto_region 1 with(fail)
 obtain⟨bx,hbx⟩:∃bx,bx=w.heap.size:=⟨_,rfl⟩
 obtain⟨a1,b1⟩:=HW1.out;rw[←hbx]at a1 ⊢;generalize w.alloc (.cells #[.int .i32 a,.int .i32 o,.int .u8 s] 66)=w1 at*;have q0:=jK w1 bx 0 _ _ (0,0) a1;have q1:=jK w1 bx 1 _ _ (0,0) a1;have q2:=jK w1 bx 2 _ _ (0,0) a1;simp at q0 q1 q2;have HL:=jH (fun q=>kQr o s ho (w1.drewN q));have HB:=jH b1;clear a1 b1 hbx HW1;refine wp_region_quiet_lit (by kernel_rfl) (by kernel_rfl) ?_
 iterate 6 (quiet_step (fail))
 quiet_step (exact Calls.quiet_of_same (HL.out _))
 iterate 2 (quiet_step (fail))
 refine wpQuiet_nil ?_;rintro _ ⟨nq,rfl⟩;go_wp2
 refine jS (v:= .tuple #[.int .i32 a,.int .i32 (kGl o s)]) (by simp[results,Tryz.results52,go_sem]) rfl ?_;exact⟨rfl,below_drewN HB.out _⟩
theorem kIp (a s:Int)(ho:0≤s∧s≤1114111)(w:World):Calls Tryz.prog 48 #[.agg #[.int .i32 a,.int .i32 s]] w fun e w'=>e= .returned (.tuple #[.int .i32 a,.int .i32 (s+1)])∧Below w.heap.size w w':=by
 obtain⟨o1,o2⟩:=ho;have a1:=jN w (.cells #[.int .i32 a,.int .i32 s] 68);have b1:=(Below.refl _ w).alloc jR (.cells #[.int .i32 a,.int .i32 s] 68);have HW1:=jH (And.intro a1 b1);clear a1 b1
 go_enter Tryz.func48,Tryz.ntmps48
 go_upto_region 1 with(fail)
 obtain⟨bx,hbx⟩:∃bx,bx=w.heap.size:=⟨_,rfl⟩
 obtain⟨a1,b1⟩:=HW1.out;rw[←hbx]at a1 ⊢;generalize w.alloc (.cells #[.int .i32 a,.int .i32 s] 68)=w1 at*;have q0:=jK w1 bx 0 _ _ (0,0) a1;have q1:=jK w1 bx 1 _ _ (0,0) a1;simp at q0 q1;have HB:=jH b1;clear a1 b1 hbx HW1
 have w1:wrap32 (s+1)=s+1:=by unfold wrap32;omega
 go_quiet (fail)
 go_wp2
 refine jS (v:= .tuple #[.int .i32 a,.int .i32 (s+1)]) (by simp[results,Tryz.results48,go_sem]) rfl ?_;exact⟨rfl,below_drewN HB.out _⟩
end Go.Proofs.YtbmphakfgoompaaGreat

namespace Go.Proofs.YtbmphakfgoompaaGreat
open Go.RowKit
structure TwD where
 a:Int
 s:Int
instance:Inhabited TwD:=⟨⟨0,0⟩⟩
def kKd (w:World) (a:Option Addr) (l:List TwD):Prop:=
 ∀i (h:i<l.length),∃b o,a=some ⟨b,o,none⟩∧w.cell? ⟨b,o+i*2,none⟩=some (.int .i32 l[i].a)∧w.cell? ⟨b,o+i*2+1,none⟩=some (.int .i32 l[i].s)
theorem kKd.get {w:World}{b o:Nat}{l:List TwD}(h:kKd w (some ⟨b,o,none⟩) l)(i:Nat)(hi:i<l.length):
  w.cell? ⟨b,o+i*2,none⟩=some (.int .i32 l[i].a)∧w.cell? ⟨b,o+i*2+1,none⟩=some (.int .i32 l[i].s):=by
 obtain⟨b',o',e,hc⟩:=h i hi;simp only[Option.some.injEq,Addr.mk.injEq,and_true]at e;obtain⟨rfl,rfl⟩:=e;exact hc
theorem kKd.some {w:World}{a:Option Addr}{l:List TwD}(h:kKd w a l)(hn:0<l.length):∃b o,a=Option.some ⟨b,o,none⟩:=by
 obtain⟨b,o,e, -⟩:=h 0 hn;exact⟨b,o,e⟩
theorem kKd.keep {w w':World}{a:Option Addr}{l:List TwD}(h:kKd w a l)(hb:Below w.heap.size w w'):kKd w' a l:=fun i hi=>by
 obtain⟨b,o,e,h1,h2⟩:=h i hi;exact⟨b,o,e,(hb.cell (p:=⟨b,o+i*2,none⟩) (World.block_lt_of_cell? w _ h1)).trans h1,(hb.cell (p:=⟨b,o+i*2+1,none⟩) (World.block_lt_of_cell? w _ h2)).trans h2⟩
theorem kB3.keep {w w':World}{a:Option Addr}{l:List kAr}(h:kB3 w a l)(hb:Below w.heap.size w w'):kB3 w' a l:=fun i hi=>by
 obtain⟨b,o,e,h1,h2,h3⟩:=h i hi;exact⟨b,o,e,(hb.cell (p:=⟨b,o+i*3,none⟩) (World.block_lt_of_cell? w _ h1)).trans h1,(hb.cell (p:=⟨b,o+i*3+1,none⟩) (World.block_lt_of_cell? w _ h2)).trans h2,(hb.cell (p:=⟨b,o+i*3+2,none⟩) (World.block_lt_of_cell? w _ h3)).trans h3⟩
def kOq {α:Type} (key val:α→Int) (l:List α) (x:Int):Int:=l.foldl (fun acc s=>if key s=x then val s else acc) 0
theorem kRr {α:Type}(key val:α→Int)(l:List α)(s:α)(x:Int):kOq key val (l++[s]) x=if key s=x then val s else kOq key val l x:=by
 unfold kOq;rw[List.foldl_append]
 rfl
theorem kMz {α:Type}(key val:α→Int)(l:List α)(k:Nat)(hk:k<l.length):(fun y=>if key l[k]=y then val l[k]else kOq key val (l.take k) y)=kOq key val (l.take (k+1)):=by
 funext y
 rw[List.take_succ_eq_append_getElem hk,kRr]
def VaR {α:Type} (key val:α→Int) (l:List α) (w:World) (bM:Nat) (n:Nat) (iv:Value) (wr:World):Prop:=
 ∃k:Nat,k≤n∧iv= .int .i64 (k:Nat)∧Below w.heap.size w wr∧wr.heap[bM+1]? =some (.cells #[.map (some bM)] 175 (0,0))∧kL1 wr bM k (kOq key val (l.take k))
theorem kTa (w:World):Below w.heap.size w ((w.alloc (.map #[] 0)).alloc (.cells #[.map (some w.heap.size)] 175))∧((w.alloc (.map #[] 0)).alloc (.cells #[.map (some w.heap.size)] 175)).heap[w.heap.size+1]? =some (.cells #[.map (some w.heap.size)] 175 (0,0))∧
  kL1 ((w.alloc (.map #[] 0)).alloc (.cells #[.map (some w.heap.size)] 175)) w.heap.size 0 (fun _=>0):=by
 refine⟨((Below.refl _ w).alloc jR _).alloc (by simp) _,?_,?_⟩
 ·have:=jN (w.alloc (.map #[] 0)) (.cells #[.map (some w.heap.size)] 175)
  simpa using this
 ·exact(kQt w).below ((Below.refl _ _).alloc jR _)
theorem kLt (w:World)(bM bV n:Nat)(f:Int→Int)(h:kL1 w bM n f)(hc:w.cell? ⟨bV,0,none⟩=some (.map (some bM)))(r:Nat)(hr:r<1114112):
  Calls Tryz.prog 102 #[.int .i32 (r:Nat),.pointer (some ⟨bV,0,none⟩)] w fun e w'=>e= .returned (.int .i32 (f (r:Nat)))∧Below w.heap.size w w':=by
 have hl:=h.look (r:Nat) ⟨by omega,by omega⟩;clear h;generalize f (r:Nat)=y at*
 go_enter Tryz.func102,Tryz.ntmps102
 go_wp2
 go_ret
 exact⟨rfl,Below.refl _ _⟩
theorem kM0 (cf:Nat)(a:Option Addr)(n c:Nat)(l:List kAr)(w:World)(hl:l.length=n)(hn:n≤1048576)(hs:kB3 w a l)(key val:kAr→Int)(hkv:∀s∈l,wf32 (key s)∧wf32 (val s))
  (eg:∀args W,(callFunc cf args).run Tryz.prog W= .ok (.enter cf args) W)
  (hcall:∀s∈l,∀W,Below w.heap.size w W→Calls Tryz.prog cf #[.agg #[.int .i32 s.f,.int .i32 s.t,.int .u8 s.v]] W fun e W'=>e= .returned (.tuple #[.int .i32 (key s),.int .i32 (val s)])∧Below W.heap.size W W'):
  Calls Tryz.prog 51 #[.slice a n c,.func (.func cf) #[] #[]] w fun e w'=>∃g S,e= .returned (.pointer (some ⟨g,0,none⟩))∧VJ.Made8 (fun r=>kOq key val l (r:Nat)) S∧kAu VJ.val8 152 64 w' g (VJ.trieS S)∧VJ.TrieFar 152 w' g (VJ.trieS S) w.heap.size∧Below w.heap.size w w':=by
 have HL:=jH hl;clear hl
 have HS:=jH hs;clear hs
 have HKv:=jH hkv;clear hkv
 have HCl:=jH hcall;clear hcall
 have HEg:=jH eg;clear eg
 obtain⟨bM,hbM⟩:∃bM,bM=w.heap.size:=⟨_,rfl⟩
 have HB:=jH (kTa w);rw[←hbM]at HB
 have mk:=fun(w:World)=>run_makeMap (P:= Tryz.prog) 175 w
 go_enter Tryz.func51,Tryz.ntmps51
 go_upto_region 2 with(fail)
 rw[←hbM];generalize (w.alloc (.map #[] 0)).alloc (.cells #[.map (some bM)] 175)=w0 at*;rw[hbM]at HB;have HB0:=jH HB.out.1;rw[←hbM]at HB
 have HM:=jH hbM;clear hbM
 go_wp2
 go_loopw [13] (VaR key val l w bM n) (fun i _=>n - (intOf i).toNat)
 case atStart=>exact⟨0,Nat.zero_le _,rfl,HB0.out,HB.out.2.1,HB.out.2.2⟩
 case round=>
  obtain⟨k,hk,rfl,hbel,hbox,hmap⟩:=hrel
  have HBe:=jH hbel;clear hbel
  have HBx:=jH hbox
  have HMp:=jH hmap;clear hmap
  by_cases hkn:k<n
  ·have hki:(k:Int)<(n:Int):=by omega
   have hkl:k<l.length:=by rw[HL.out];exact hkn
   obtain⟨b,o,ha⟩:=HS.out.some (by omega);subst ha;obtain⟨c1,c2,c3⟩:=(HS.out.keep HBe.out).get k hkl;have HT:=jH (kMz key val l k hkl);have HIn:=jH (List.getElem_mem hkl)
   obtain⟨s,hs⟩:∃s,s=l[k]:=⟨_,rfl⟩
   rw[←hs]at c1 c2 c3 HT HIn;clear hs;have hs0:wr.heap.size≤wr.heap.size:=Nat.le_refl _;have a1:=jN wr (.cells #[.int .i32 s.f,.int .i32 s.t,.int .u8 s.v] 66);have b1:=(Below.refl _ wr).alloc jR (.cells #[.int .i32 s.f,.int .i32 s.t,.int .u8 s.v] 66);have HW1:=jH (And.intro a1 b1);clear a1 b1 hbox hs0
   go_upto_region 5 with(fail)
   obtain⟨a1,b1⟩:=HW1.out;clear HW1
   obtain⟨bx,hbx⟩:∃bx,bx=wr.heap.size:=⟨_,rfl⟩
   rw[←hbx]at a1 ⊢;generalize wr.alloc (.cells #[.int .i32 s.f,.int .i32 s.t,.int .u8 s.v] 66)=w1 at*;have HBe1:=jH (HBe.out.trans (b1.mono HBe.out.size));have HMp1:=jH (HMp.out.below b1);have HBx1:=jH ((b1.block _ (jL HBx.out)).trans HBx.out);have q0:=jK w1 bx 0 _ _ (0,0) a1;have q1:=jK w1 bx 1 _ _ (0,0) a1;have q2:=jK w1 bx 2 _ _ (0,0) a1;simp at q0 q1 q2;have HC:=jH (HCl.out s HIn.out w1 HBe1.out);clear a1 b1 hbx c1 c2 c3;have eg:=HEg.out
   go_wp2_with fail
   clear eg;refine HC.out.mono ?_;rintro e w2 ⟨rfl,b2⟩;have HBe2:=jH (HBe1.out.trans (b2.mono HBe1.out.size));have HMp2:=jH (HMp1.out.below b2);have HBx2:=jH ((b2.block _ (jL HBx1.out)).trans HBx1.out);have q9:=jK w2 (bM+1) 0 _ _ (0,0) HBx2.out;simp at q9;clear b2 q0 q1 q2 HMp1 HBx1 HBe1 HC;have hkv:=HKv.out s HIn.out
   have hmx:k<maxLen:=by unfold maxLen;omega
   go_upto_region 6 with(fail)
   go_wp2_with (first | (at_mapUpdate;refine kJ1 rfl _ _ _ rfl HMp2.out hmx (key s) (val s) hkv.1 hkv.2 rfl rfl rfl ?_))
   intro w3 hmap3 hg3;rw[HT.out]at hmap3;have HMp3:=jH hmap3;have hbm2:bM<w2.heap.size:=HMp2.out.lt;have hw2:w.heap.size≤bM:=Nat.le_of_eq HM.out.symm;have HBe3:=jH (HBe2.out.trans (kAv hg3 (fun k e=>by cases e;exact hw2) HBe2.out.size));have HBx3:=jH ((hg3.block (bM+1) (jL HBx2.out) (by simp)).trans HBx2.out);clear hmap3 hg3 q9 hkv;go_wp2
   go_roundw
   case rel=>exact⟨k+1,by omega,by go_num,HBe3.out,HBx3.out,HMp3.out⟩
   case measure=>simp[intOf];omega
  ·obtain rfl:k=n:=by omega
   have hlt:l.take k=l:=List.take_of_length_le (Nat.le_of_eq HL.out);rw[hlt]at HMp;clear hlt;have q9:=jK wr (bM+1) 0 _ _ (0,0) hbox;simp at q9
   have HFi:=jH (fillJ 102 #[.pointer (some ⟨bM+1,0,none⟩)] wr (fun r=>kOq key val l (r:Nat)) (enters_of Tryz.func102 (by kernel_rfl) rfl)
    (fun r W hr hW=>kLt W bM (bM+1) k _ (HMp.out.below hW) ((hW.cell (p:=⟨bM+1,0,none⟩) (World.block_lt_of_cell? wr _ q9)).trans q9) r hr))
   clear hbox q9
   go_wp2_with fail
   refine HFi.out.mono ?_;rintro e w9 ⟨g,S,rfl,hS,hT,hg,hb⟩;have HR:=jH (And.intro hS (And.intro hT (And.intro (hg.mono HBe.out.size) (HBe.out.trans (hb.mono HBe.out.size)))));clear hS hT hg hb HFi;go_wp2
   go_ret
   exact⟨g,S,rfl,HR.out⟩
theorem kLu (w:World)(bM bV n:Nat)(f:Int→Int)(h:kL1 w bM n f)(hc:w.cell? ⟨bV,0,none⟩=some (.map (some bM)))(r:Nat)(hr:r<1114112):
  Calls Tryz.prog 103 #[.int .i32 (r:Nat),.pointer (some ⟨bV,0,none⟩)] w fun e w'=>e= .returned (.int .i32 (f (r:Nat)))∧Below w.heap.size w w':=by
 have hl:=h.look (r:Nat) ⟨by omega,by omega⟩;clear h;generalize f (r:Nat)=y at*
 go_enter Tryz.func103,Tryz.ntmps103
 go_wp2
 go_ret
 exact⟨rfl,Below.refl _ _⟩
theorem kIq (cf:Nat)(a:Option Addr)(n c:Nat)(l:List TwD)(w:World)(hl:l.length=n)(hn:n≤1048576)(hs:kKd w a l)(key val:TwD→Int)(hkv:∀s∈l,wf32 (key s)∧wf32 (val s))
  (eg:∀args W,(callFunc cf args).run Tryz.prog W= .ok (.enter cf args) W)
  (hcall:∀s∈l,∀W,Below w.heap.size w W→Calls Tryz.prog cf #[.agg #[.int .i32 s.a,.int .i32 s.s]] W fun e W'=>e= .returned (.tuple #[.int .i32 (key s),.int .i32 (val s)])∧Below W.heap.size W W'):
  Calls Tryz.prog 54 #[.slice a n c,.func (.func cf) #[] #[]] w fun e w'=>∃g S,e= .returned (.pointer (some ⟨g,0,none⟩))∧VJ.Made8 (fun r=>kOq key val l (r:Nat)) S∧kAu VJ.val8 152 64 w' g (VJ.trieS S)∧VJ.TrieFar 152 w' g (VJ.trieS S) w.heap.size∧Below w.heap.size w w':=by
 have HL:=jH hl;clear hl
 have HS:=jH hs;clear hs
 have HKv:=jH hkv;clear hkv
 have HCl:=jH hcall;clear hcall
 have HEg:=jH eg;clear eg
 obtain⟨bM,hbM⟩:∃bM,bM=w.heap.size:=⟨_,rfl⟩
 have HB:=jH (kTa w);rw[←hbM]at HB
 have mk:=fun(w:World)=>run_makeMap (P:= Tryz.prog) 175 w
 go_enter Tryz.func54,Tryz.ntmps54
 go_upto_region 2 with(fail)
 rw[←hbM];generalize (w.alloc (.map #[] 0)).alloc (.cells #[.map (some bM)] 175)=w0 at*;rw[hbM]at HB;have HB0:=jH HB.out.1;rw[←hbM]at HB
 have HM:=jH hbM;clear hbM
 go_wp2
 go_loopw [13] (VaR key val l w bM n) (fun i _=>n - (intOf i).toNat)
 case atStart=>exact⟨0,Nat.zero_le _,rfl,HB0.out,HB.out.2.1,HB.out.2.2⟩
 case round=>
  obtain⟨k,hk,rfl,hbel,hbox,hmap⟩:=hrel
  have HBe:=jH hbel;clear hbel
  have HBx:=jH hbox
  have HMp:=jH hmap;clear hmap
  by_cases hkn:k<n
  ·have hki:(k:Int)<(n:Int):=by omega
   have hkl:k<l.length:=by rw[HL.out];exact hkn
   obtain⟨b,o,ha⟩:=HS.out.some (by omega);subst ha;obtain⟨c1,c2⟩:=(HS.out.keep HBe.out).get k hkl;have HT:=jH (kMz key val l k hkl);have HIn:=jH (List.getElem_mem hkl)
   obtain⟨s,hs⟩:∃s,s=l[k]:=⟨_,rfl⟩
   rw[←hs]at c1 c2 HT HIn;clear hs;have hs0:wr.heap.size≤wr.heap.size:=Nat.le_refl _;have a1:=jN wr (.cells #[.int .i32 s.a,.int .i32 s.s] 68);have b1:=(Below.refl _ wr).alloc jR (.cells #[.int .i32 s.a,.int .i32 s.s] 68);have HW1:=jH (And.intro a1 b1);clear a1 b1 hbox hs0
   go_upto_region 5 with(fail)
   obtain⟨a1,b1⟩:=HW1.out;clear HW1
   obtain⟨bx,hbx⟩:∃bx,bx=wr.heap.size:=⟨_,rfl⟩
   rw[←hbx]at a1 ⊢;generalize wr.alloc (.cells #[.int .i32 s.a,.int .i32 s.s] 68)=w1 at*;have HBe1:=jH (HBe.out.trans (b1.mono HBe.out.size));have HMp1:=jH (HMp.out.below b1);have HBx1:=jH ((b1.block _ (jL HBx.out)).trans HBx.out);have q0:=jK w1 bx 0 _ _ (0,0) a1;have q1:=jK w1 bx 1 _ _ (0,0) a1;simp at q0 q1;have HC:=jH (HCl.out s HIn.out w1 HBe1.out);clear a1 b1 hbx c1 c2;have eg:=HEg.out
   go_wp2_with fail
   clear eg;refine HC.out.mono ?_;rintro e w2 ⟨rfl,b2⟩;have HBe2:=jH (HBe1.out.trans (b2.mono HBe1.out.size));have HMp2:=jH (HMp1.out.below b2);have HBx2:=jH ((b2.block _ (jL HBx1.out)).trans HBx1.out);have q9:=jK w2 (bM+1) 0 _ _ (0,0) HBx2.out;simp at q9;clear b2 q0 q1 HMp1 HBx1 HBe1 HC;have hkv:=HKv.out s HIn.out
   have hmx:k<maxLen:=by unfold maxLen;omega
   go_upto_region 6 with(fail)
   go_wp2_with (first | (at_mapUpdate;refine kJ1 rfl _ _ _ rfl HMp2.out hmx (key s) (val s) hkv.1 hkv.2 rfl rfl rfl ?_))
   intro w3 hmap3 hg3;rw[HT.out]at hmap3;have HMp3:=jH hmap3;have hbm2:bM<w2.heap.size:=HMp2.out.lt;have hw2:w.heap.size≤bM:=Nat.le_of_eq HM.out.symm;have HBe3:=jH (HBe2.out.trans (kAv hg3 (fun k e=>by cases e;exact hw2) HBe2.out.size));have HBx3:=jH ((hg3.block (bM+1) (jL HBx2.out) (by simp)).trans HBx2.out);clear hmap3 hg3 q9 hkv;go_wp2
   go_roundw
   case rel=>exact⟨k+1,by omega,by go_num,HBe3.out,HBx3.out,HMp3.out⟩
   case measure=>simp[intOf];omega
  ·obtain rfl:k=n:=by omega
   have hlt:l.take k=l:=List.take_of_length_le (Nat.le_of_eq HL.out);rw[hlt]at HMp;clear hlt;have q9:=jK wr (bM+1) 0 _ _ (0,0) hbox;simp at q9
   have HFi:=jH (fillJ 103 #[.pointer (some ⟨bM+1,0,none⟩)] wr (fun r=>kOq key val l (r:Nat)) (enters_of Tryz.func103 (by kernel_rfl) rfl)
    (fun r W hr hW=>kLu W bM (bM+1) k _ (HMp.out.below hW) ((hW.cell (p:=⟨bM+1,0,none⟩) (World.block_lt_of_cell? wr _ q9)).trans q9) r hr))
   clear hbox q9
   go_wp2_with fail
   refine HFi.out.mono ?_;rintro e w9 ⟨g,S,rfl,hS,hT,hg,hb⟩;have HR:=jH (And.intro hS (And.intro hT (And.intro (hg.mono HBe.out.size) (HBe.out.trans (hb.mono HBe.out.size)))));clear hS hT hg hb HFi;go_wp2
   go_ret
   exact⟨g,S,rfl,HR.out⟩
end Go.Proofs.YtbmphakfgoompaaGreat

namespace Go.Proofs.YtbmphakfgoompaaGreat
open Go.RowKit
def kIl (s:kAr):Bool:= !kA9 s.f|| !kA9 s.t||decide (s.t<s.f)|| !kDo s.v
def kK1 (s:kAr):Bool:= !kA9 s.f|| !kA9 s.t||s.f==s.t|| !kIo s.v
def kEj (x:TwD):Bool:= !kA9 x.a|| !kA9 x.s||x.a==x.s
def kC6 (rest:Int) (l1 l2:List kAr) (l3 l4:List TwD):Option Int:=
 if kDo rest=true then
  match l1.find? kIl with
  | some s=>some s.f
  | none=>match l2.find? kK1 with
   | some s=>some s.f
   | none=>match l3.find? kEj with
    | some x=>some x.a
    | none=>(l4.find? kEj).map (fun x=>x.a)
 else some 0
def kGy (rest:Int) (l:List kAr) (x:Int):Int:=l.foldl (fun acc s=>if s.f≤x∧x≤s.t then s.v else acc) rest
theorem kP7 (rest:Int)(l:List kAr)(s:kAr)(x:Int):kGy rest (l++[s]) x=if s.f≤x∧x≤s.t then s.v else kGy rest l x:=by
 unfold kGy;rw[List.foldl_append]
 rfl
def kLx (l:List kAr) (x:Int):Int:=kOq (fun s=>s.f) (fun s=>kGl s.t s.v) l x
def kF4 (l:List TwD) (x:Int):Int:=kOq (fun s=>s.a) (fun s=>s.s+1) l x
theorem kIh {α:Type}(key val:α→Int)(x:Int):∀(l:List α),kOq key val l x=0∨∃s∈l,key s=x∧kOq key val l x=val s:=by
 have main:∀(l:List α) (acc:Int),l.foldl (fun acc s=>if key s=x then val s else acc) acc=acc∨∃s∈l,key s=x∧l.foldl (fun acc s=>if key s=x then val s else acc) acc=val s:=by
  intro l
  induction l with
  | nil=>intro acc;exact .inl rfl
  | cons s l ih=>
   intro acc;rw[List.foldl_cons]
   rcases ih (if key s=x then val s else acc)with h | ⟨y,hy,h2,h3⟩
   ·rw[h]
    by_cases e:key s=x
    ·rw[if_pos e];exact .inr ⟨s,by simp,e,rfl⟩
    ·rw[if_neg e];exact .inl rfl
   ·exact .inr ⟨y,by simp[hy],h2,h3⟩
 exact fun l=>main l 0
theorem kHw {α:Type} [Inhabited α] {p:α→Bool}{l:List α}{k:Nat}(hk:k<l.length)(hp:p l[k]=true)(hno:∀j,j<k→p (l.getD j default)=false):l.find? p=some l[k]:=by
 rw[List.find?_eq_some_iff_getElem];refine⟨hp,k,hk,rfl,fun j hj=> ?_⟩;have:=hno j hj;rw[show l.getD j default=l[j] by simp[show j<l.length by omega]]at this
 simpa using this
theorem kQh {α:Type} [Inhabited α] {p:α→Bool}{l:List α}(hno:∀j,j<l.length→p (l.getD j default)=false):l.find? p=none:=by
 rw[List.find?_eq_none];intro x hx;obtain⟨j,hj,rfl⟩:=List.mem_iff_getElem.1 hx;have:=hno j hj;rw[show l.getD j default=l[j] by simp[hj]]at this
 simpa using this
theorem kGa {α:Type}{p:α→Bool}{l:List α}(h:l.find? p=none):∀s∈l,p s=false:=fun s hs=>by
 have:=List.find?_eq_none.1 h s hs
 simpa using this
theorem kTl {s:kAr}(h:kK1 s=false):(0≤s.f∧s.f≤1114111)∧(0≤s.t∧s.t≤1114111)∧s.f≠s.t∧(s.v=1∨s.v=2):=by
 simp only[kK1,Bool.or_eq_false_iff,Bool.not_eq_false',kA9,kIo,decide_eq_true_eq,beq_eq_false_iff_ne]at h;exact⟨h.1.1.1,h.1.1.2,h.1.2,h.2⟩
theorem kPt {s:TwD}(h:kEj s=false):(0≤s.a∧s.a≤1114111)∧(0≤s.s∧s.s≤1114111)∧s.a≠s.s:=by
 simp only[kEj,Bool.or_eq_false_iff,Bool.not_eq_false',kA9,decide_eq_true_eq,beq_eq_false_iff_ne]at h;exact⟨h.1.1,h.1.2,h.2⟩
theorem ent_ok {s:kAr}(h:kIl s=false):(0≤s.f∧s.f≤1114111)∧(0≤s.t∧s.t≤1114111)∧s.f≤s.t∧(1≤s.v∧s.v≤23):=by
 simp only[kIl,Bool.or_eq_false_iff,Bool.not_eq_false',kA9,kDo,decide_eq_true_eq,decide_eq_false_iff_not]at h;exact⟨h.1.1.1,h.1.1.2,by have:=h.1.2;omega,h.2⟩
theorem kOc {l2:List kAr}{l3 l4:List TwD}(h2:l2.find? kK1=none)(h3:l3.find? kEj=none)(h4:l4.find? kEj=none):
  Fit (fun r=>kLx l2 (r:Nat)) (fun r=>kF4 l3 (r:Nat)) (fun r=>kF4 l4 (r:Nat)):=by
 refine⟨fun r _=> ?_,fun r _=> ?_,fun r _=> ?_⟩
 ·rcases kIh (fun s:kAr=>s.f) (fun s=>kGl s.t s.v) (r:Nat) l2 with h | ⟨s,hs, -,h⟩
  ·show -1114112≤kLx l2 _∧kLx l2 _≤1114112
   unfold kLx;rw[h];omega
  ·show -1114112≤kLx l2 _∧kLx l2 _≤1114112;have:=kTl (kGa h2 s hs)
   unfold kLx;rw[h];unfold kGl;split<;>omega
 ·rcases kIh (fun s:TwD=>s.a) (fun s=>s.s+1) (r:Nat) l3 with h | ⟨s,hs, -,h⟩
  ·show 0≤kF4 l3 _∧kF4 l3 _≤1114112
   unfold kF4;rw[h];omega
  ·show 0≤kF4 l3 _∧kF4 l3 _≤1114112;have:=kPt (kGa h3 s hs)
   unfold kF4;rw[h];omega
 ·rcases kIh (fun s:TwD=>s.a) (fun s=>s.s+1) (r:Nat) l4 with h | ⟨s,hs, -,h⟩
  ·show 0≤kF4 l4 _∧kF4 l4 _≤1114112
   unfold kF4;rw[h];omega
  ·show 0≤kF4 l4 _∧kF4 l4 _≤1114112;have:=kPt (kGa h4 s hs)
   unfold kF4;rw[h];omega
def kLy (N:Nat) (g:Int→Int):List Int:=(List.range N).map (fun i=>g ((i:Nat):Int))
theorem kCu (N:Nat)(g:Int→Int):(kLy N g).length=N:=by simp[kLy]
theorem kLj (N:Nat)(g:Int→Int)(r:Nat)(hr:r<N):(kLy N g)[r]? =some (g (r:Nat)):=by
 simp[kLy,List.getElem?_range hr]
theorem kOi (N:Nat)(g:Int→Int)(r:Nat)(v:Int)(hr:r<N):(kLy N g).set r v=kLy N (fun x=>if x=(r:Nat)then v else g x):=by
 apply List.ext_getElem?
 intro i
 by_cases hi:i<N
 ·rw[kLj _ _ _ hi]
  by_cases e:r=i
  ·subst e;rw[List.getElem?_set_self (by rw[kCu];exact hr),if_pos rfl]
  ·rw[List.getElem?_set_ne e,kLj _ _ _ hi,if_neg (by omega)]
 ·rw[List.getElem?_eq_none (by rw[List.length_set,kCu];omega),List.getElem?_eq_none (by rw[kCu];omega)]
theorem kD0 {N:Nat}{g h:Int→Int}(e:∀r:Nat,r<N→g (r:Nat)=h (r:Nat)):kLy N g=kLy N h:=by
 unfold kLy
 exact List.map_congr_left fun r hr=>e r (List.mem_range.1 hr)
theorem kPl (N:Nat)(v:Int):List.replicate N v=kLy N (fun _=>v):=by
 unfold kLy;rw[List.map_const',List.length_range]
def kFc (w:World) (p:Nat) (c b t m:Nat→Int) (B:Nat):Prop:=
 ∃gc gb gt gm SC SB ST SM,Tab w p gc gb gt gm (trieS SC) (VJ.trieS SB) (VJ.trieS ST) (VJ.trieS SM) c b t m∧Made8 c SC∧VJ.Made8 b SB∧VJ.Made8 t ST∧VJ.Made8 m SM∧B≤p∧
  TrieFar 141 w gc (trieS SC) B∧VJ.TrieFar 152 w gb (VJ.trieS SB) B∧VJ.TrieFar 152 w gt (VJ.trieS ST) B∧VJ.TrieFar 152 w gm (VJ.trieS SM) B
theorem kFc.below {w w':World}{p B:Nat}{c b t m:Nat→Int}(h:kFc w p c b t m B)(hb:Below w.heap.size w w'):kFc w' p c b t m B:=by
 obtain⟨gc,gb,gt,gm,SC,SB,ST,SM,h1,h2,h3,h4,h5,h6,h7,h8,h9,h10⟩:=h;exact⟨gc,gb,gt,gm,SC,SB,ST,SM,h1.below hb,h2,h3,h4,h5,h6,h7.below hb,h8.below hb,h9.below hb,h10.below hb⟩
def kR1 (w:World) (rest:Int) (l1 l2:List kAr) (l3 l4:List TwD) (e:Ending) (w':World):Prop:=
 Below w.heap.size w w'∧
 ((∃r,kC6 rest l1 l2 l3 l4=some r∧e= .returned (.tuple #[.pointer none,.int .i32 r,.int .i64 2]))∨
 (kC6 rest l1 l2 l3 l4=none∧∃p k,kBd (kBu (fun r=>kGy rest l1 (r:Nat)) (fun r=>kLx l2 (r:Nat)) (fun r=>kF4 l3 (r:Nat)) (fun r=>kF4 l4 (r:Nat))) 1114112 k∧e= .returned (kEy p k)∧
  kFc w' p (fun r=>kGy rest l1 (r:Nat)) (fun r=>kLx l2 (r:Nat)) (fun r=>kF4 l3 (r:Nat)) (fun r=>kF4 l4 (r:Nat)) w.heap.size))
end Go.Proofs.YtbmphakfgoompaaGreat
