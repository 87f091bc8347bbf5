/- several texts in one: RF0 RF1 RG RH TL -/
import Derived.RangeFuncNested
import Derived.RangeFuncLeaves
import Derived.RangeFuncCalls
import Derived.Shelf.Abstract
import Derived.Test.YtabbabkmojaoaaaNA
import Derived.OwnWalkIn
import Derived.StillTailTactics
import Derived.OrdersIn
import Derived.TacticsIn
set_option linter.unusedVariables false
set_option linter.unusedSimpArgs false
set_option maxRecDepth 100000
set_option maxHeartbeats 16000000
namespace Go.Proofs.Ytabbabkmojaoaaa
open Go.RowKit
structure Off (T:Nat→Prop) (W W':World):Prop where
 os:W'.os=W.os
 tape:W'.tape=W.tape
 output:W'.output=W.output
 size:W.heap.size≤W'.heap.size
 block:∀k,k<W.heap.size→¬T k→W'.heap[k]? =W.heap[k]?
def kB4 (T T':Nat→Prop) (W W':World):Prop:=∀k,T' k→T k∨(W.heap.size≤k∧k<W'.heap.size)
theorem kB4.refl (T:Nat→Prop)(W W':World):kB4 T T W W':=fun _ h=> .inl h
theorem Off.refl (T:Nat→Prop)(W:World):Off T W W:=⟨rfl,rfl,rfl,Nat.le_refl _,fun _ _ _=>rfl⟩
theorem Off.mono {T T':Nat→Prop}{W W':World}(h:Off T W W')(ht:∀k,T k→T' k):Off T' W W':=⟨h.os,h.tape,h.output,h.size,fun k hk hn=>h.block k hk (fun e=>hn (ht k e))⟩
theorem Off.of_below {T:Nat→Prop}{W W':World}(h:Below W.heap.size W W'):Off T W W':=⟨h.os,h.tape,h.output,h.size,fun k hk _=>h.block k hk⟩
theorem Off.of_grown {T:Nat→Prop}{W W':World}{row:Option Nat}(h:W.grownBy W' row)(hr:∀k,row=some k→T k):Off T W W':=
 ⟨h.os,h.tape,h.output,h.size,fun k hk hn=>h.block k hk (fun e=>hn (hr k e.symm))⟩
theorem Off.below {T:Nat→Prop}{W W':World}(h:Off T W W')(B:Nat)(hB:B≤W.heap.size)(hT:∀k,T k→B≤k):Below B W W':=
 ⟨h.os,h.tape,h.output,h.size,fun k hk=>h.block k (Nat.lt_of_lt_of_le hk hB) (fun ht=>by have:=hT k ht;omega)⟩
theorem Off.cell {T:Nat→Prop}{W W':World}(h:Off T W W'){b o:Nat}{v:Value}(hc:W.cell? ⟨b,o,none⟩=some v)(ht:¬T b):W'.cell? ⟨b,o,none⟩=some v:=by
 rw[World.cell?_of_block (w:=W) (a:=⟨b,o,none⟩) (h.block b (World.block_lt_of_cell? W _ hc) ht)];exact hc
theorem Off.cellsBlock {T:Nat→Prop}{W W':World}(h:Off T W W'){b:Nat}{o:Obj}(hc:W.heap[b]? =some o)(ht:¬T b):W'.heap[b]? =some o:=by
 rw[h.block b (jL hc) ht];exact hc
theorem Off.putObj {T:Nat→Prop}(W:World){l:Nat}(o:Obj)(hl:T l):Off T W (W.putObj l o):=Off.of_grown (grownBy_putObj' W l o) (fun k e=>by cases e;exact hl)
theorem Off.alloc (T:Nat→Prop)(W:World)(o:Obj):Off T W (W.alloc o):=Off.of_below ((Below.refl _ W).alloc jR o)
theorem Own.off {B:Nat}{E:TypeId}{W W':World}{a:Option Addr}{n cap:Nat}{xs:List Value}{T:Nat→Prop}(h:Own B E W a n cap xs)(ho:Off T W W')(ht:∀k,(Value.slice a n cap).ownBlock=some k→¬T k):Own B E W' a n cap xs:=by
 refine⟨h.1,?_⟩
 rcases h.2 with hn | ⟨g,cap,cur,e,hbg,hgg,rest⟩
 ·exact .inl hn
 ·have hg:(Value.slice a n cap).ownBlock=some g∨True:= .inr trivial;refine .inr ⟨g,cap,cur,e,hbg,ho.cellsBlock hgg (ht g ?_),rest⟩;simp only[Value.slice.injEq]at e;obtain⟨rfl,_,_⟩:=e
  rfl
theorem kJt {k:IntKind}{W W':World}{a:Option Addr}{zs:List Int}{T:Nat→Prop}(h:Ints k W a zs)(ho:Off T W W')(ht:∀b o,a=some ⟨b,o,none⟩→¬T b):Ints k W' a zs:=by
 intro i hi;obtain⟨b,o,rfl,hc⟩:=h i hi;exact⟨b,o,rfl,ho.cell hc (ht b o rfl)⟩
def kD8 {α:Type} (J:(Nat→Prop)→List α→World→Prop):Prop:=∀T T' s W W',J T s W→Off T W W'→kB4 T T' W W'→J T' s W'
structure kDc (T R:Nat→Prop) (W W':World):Prop where
 size:W.heap.size≤W'.heap.size
 block:∀k,k<W.heap.size→T k∨R k→W'.heap[k]? =W.heap[k]?
theorem kDc.refl (T R:Nat→Prop)(W:World):kDc T R W W:=⟨Nat.le_refl _,fun _ _ _=>rfl⟩
theorem kDc.trans {T R:Nat→Prop}{A B C:World}(h:kDc T R A B)(k:kDc T R B C):kDc T R A C:=
 ⟨Nat.le_trans h.size k.size,fun i hi ht=>(k.block i (Nat.lt_of_lt_of_le hi h.size) ht).trans (h.block i hi ht)⟩
theorem kDc.of_below {T R:Nat→Prop}{W W':World}(h:Below W.heap.size W W'):kDc T R W W':=⟨h.size,fun k hk _=>h.block k hk⟩
theorem kDc.of_grown {T R:Nat→Prop}{W W':World}{row:Option Nat}(h:W.grownBy W' row)(hr:∀k,row=some k→¬(T k∨R k)):kDc T R W W':=
 ⟨h.size,fun k hk ht=>h.block k hk (fun e=>hr k e.symm ht)⟩
theorem kDc.below {T R:Nat→Prop}{W W':World}(h:kDc T R W W'){k:Nat}{o:Obj}(hk:W.heap[k]? =some o)(ht:T k∨R k):W'.heap[k]? =some o:=by
 rw[h.block k (jL hk) ht];exact hk
theorem kDc.cell {T R:Nat→Prop}{W W':World}(h:kDc T R W W'){b o:Nat}{v:Value}(hc:W.cell? ⟨b,o,none⟩=some v)(ht:T b∨R b):W'.cell? ⟨b,o,none⟩=some v:=by
 rw[World.cell?_of_block (w:=W) (a:=⟨b,o,none⟩) (h.block b (World.block_lt_of_cell? W _ hc) ht)];exact hc
def kM6 {α:Type} (P:Program) (g:Nat) (lb:Array Value) (encs:α→Array Value) (R:Nat→Prop) (S Sp:List α→Prop) (N:Nat) (w:World):Prop:=
 ∀(l:Nat) (J Jx:(Nat→Prop)→List α→World→Prop) (W:World),Below w.heap.size w W→kD8 J→kD8 Jx→
  (∀T pre x W1,J T pre W1→pre.length<N→Sp (pre++[x])→YieldAt Fence.wide 1 P l (encs x) W1 fun e W'=>
   (e= .returned (.bool true)∧J T (pre++[x]) W'∧kDc T R W1 W')∨(e= .returned (.bool false)∧Jx T (pre++[x]) W'∧kDc T (fun _=>False) W1 W'))→
  J (fun _=>False) [] W→
  CallsIn Fence.wide 2 P g (#[.func (.yield l) #[] #[]]++lb) W fun e W'=>(∃v,e= .returned v)∧((∃T xs,S xs∧J T xs W')∨(∃T pre,Sp pre∧Jx T pre W'))
def postX {α:Type} (T R:Nat→Prop) (I:(Nat→Prop)→List α→World→Prop) (Ix:Code→(Nat→Prop)→List α→World→Prop) (xs:List α) (W:World):Exit→Act→World→Prop
 | .normal,_,W'=>kDc T R W W'∧I T xs W'
 | .ret,_,W'=>kDc T (fun _=>False) W W'∧Ix .ret T xs W'
 | .exit id,_,W'=>kDc T (fun _=>False) W W'∧Ix (.exit id) T xs W'
 | .goto t,_,W'=>kDc T (fun _=>False) W W'∧Ix (.goto t) T xs W'
 | .panic _,_,_=>False
 | .outgrown,_,_=>False
theorem kDg {α:Type}{P:Program}{g:Operand}{ps:Array Tmp}{assign body:Code}{Q:Exit→Act→World→Prop}{a:Act}{w:World}
  {gf:Nat}{lb:Array Value}(hg:a.eval g= .func (.func gf) #[] lb)(eg:∀args w,(callFunc gf args).run P w= .ok (.enter gf args) w)
  {encs:α→Array Value}{R:Nat→Prop}{S Sp:List α→Prop}{N:Nat}{w0:World}(hseq:kM6 P gf lb encs R S Sp N w0)
  (hb0:Below w0.heap.size w0 w)(hR:∀k,R k→k<w.heap.size)(hps:∀x,(encs x).size=ps.size)
  (I:(Nat→Prop)→List α→World→Prop)(Ix:Code→(Nat→Prop)→List α→World→Prop)(hI:kD8 I)(hIx:∀c,kD8 (Ix c))(h0:I (fun _=>False) [] w)
  (Ax:Array Value→(Nat→Prop)→α→Act→World→Prop)(hAx:∀T x a' W W',Ax a.tmps T x a' W→Off T W W'→Ax a.tmps T x a' W')
  (hassign:∀(l:Nat) (T:Nat→Prop) (pre:List α) (x:α) (W:World) (K:Act→World→Prop),I T pre W→(∀a' W',kDc T R W W'→I T pre W'→Ax a.tmps T x a' W'→K a' W')→
   assign.wpIn (Fence.wide.inRound l) 1 P (Exit.then K (fun _ _ _=>False)) {tmps:=(ps.zip (encs x)).foldl (fun t (p,v)=>t.setIfInBounds p v) a.tmps,defers:=[]} W)
  (hbody:∀(l:Nat) (T:Nat→Prop) (pre:List α) (x:α) (a':Act) (W:World),T l→w.heap.size≤l→(∃r,W.heap[l]? =some (.loop r))→I T pre W→Ax a.tmps T x a' W→pre.length<N→Sp (pre++[x])→
   body.wpIn (Fence.wide.inRound l) 1 P (postX T R I Ix (pre++[x]) W) a' W)
  (hdone:∀(D:Nat) (T:Nat→Prop) (xs:List α) (W:World),w.heap.size≤D→T D→S xs→I T xs W→W.heap[D]? =some (.deferred (some []))→Q .normal {a with defers:={target:= .collected D,args:= #[]} :: a.defers} W)
  (hstop:∀(D:Nat) (c:Code) (T:Nat→Prop) (pre:List α) (W:World),w.heap.size≤D→T D→Sp pre→Ix c T pre W→W.heap[D]? =some (.deferred (some []))→c.wp P Q {a with defers:={target:= .collected D,args:= #[]} :: a.defers} W):
  (Code.rangeFunc g ps assign body).wp P Q a w:=by
 refine(wpIn_wide (n:=3)).1 (wpIn_rangeFunc ?_);intro fn hfn
 obtain⟨rec,hrec⟩:∃rec:LoopState→Option Code→Loop,rec=fun st pe=>{state:=st,pending:=pe,fn,tmps:=a.tmps,params:=ps,assign,body,defers:=w.heap.size}:=⟨_,rfl⟩
 obtain⟨W1,hW1⟩:∃W1,(w.alloc (.deferred (some []))).alloc (.loop (rec .ready none))=W1:=⟨_,rfl⟩
 have hL1:W1.heap[w.heap.size+1]? =some (.loop (rec .ready none)):=by
  rw[←hW1];have:=World.alloc_heap_new (w.alloc (.deferred (some []))) (.loop (rec .ready none));rwa[World.size_alloc]at this
 have hK1:W1.heap[w.heap.size]? =some (.deferred (some [])):=by
  rw[←hW1];exact(Below.heap_alloc _ _ _ (by simp)).trans (World.alloc_heap_new w _)
 obtain⟨Bk,hBk⟩:∃Bk:(Nat→Prop)→Nat→Prop,Bk=fun T k=>T k∨k=w.heap.size∨k=w.heap.size+1:=⟨_,rfl⟩
 have hbw1:Below w.heap.size w W1:=by rw[←hW1];exact((Below.refl _ w).alloc jR _).alloc (by simp) _
 have hI1:I (Bk (fun _=>False)) [] W1:=hI _ _ _ _ _ h0 (Off.of_below hbw1) (fun k hk=>by
  rw[hBk]at hk
  rcases hk with h | h | h
  ·exact h.elim
  ·have:=(jL hL1)
   exact .inr ⟨by omega,by omega⟩
  ·have:=(jL hL1)
   exact .inr ⟨by omega,by omega⟩)
 have hbW:∀(T T':Nat→Prop) (W W':World),kB4 T T' W W'→w.heap.size+1<W.heap.size→kB4 (Bk T) (Bk T') W W':=fun T T' W W' hw hs k hk=>by
  rw[hBk]at hk ⊢
  rcases hk with h | h | h
  ·rcases hw k h with h1 | h1
   ·exact .inl (.inl h1)
   ·exact .inr h1
  ·exact .inl (.inr (.inl h))
  ·exact .inl (.inr (.inr h))
 have hTk:∀(T:Nat→Prop) k,T k→Bk T k:=fun T k h=>by rw[hBk];exact .inl h
 have hBl:∀T,Bk T (w.heap.size+1):=fun T=>by rw[hBk];exact .inr (.inr rfl)
 have hBd:∀T,Bk T w.heap.size:=fun T=>by rw[hBk];exact .inr (.inl rfl)
 -- what the iterator is told,and the two facts of book-keeping
 have hab:∀(I':(Nat→Prop)→List α→World→Prop) (o:Obj),kD8 I'→
   kD8 (fun T s W=>I' (Bk T) s W∧W.heap[w.heap.size+1]? =some o∧W.heap[w.heap.size]? =some (.deferred (some []))∧¬T (w.heap.size+1)∧¬T w.heap.size):=by
  intro I' o hI' T T' s W W' ⟨h1,h2,h3,h4,h5⟩ ho hw
  have hs:w.heap.size+1<W.heap.size:=(jL h2)
  refine⟨hI' _ _ _ _ _ h1 (ho.mono (hTk T)) (hbW T T' W W' hw hs),ho.cellsBlock h2 h4,ho.cellsBlock h3 h5,fun h=> ?_,fun h=> ?_⟩
  ·rcases hw _ h with h6 | h6
   ·exact h4 h6
   ·omega
  ·rcases hw _ h with h6 | h6
   ·exact h5 h6
   ·omega
 refine⟨w.heap.size+1,[{target:= .collected w.heap.size,args:= #[]}],W1,{target:= .fn (.func gf) lb,args:= #[.func (.yield (w.heap.size+1)) #[] #[]]},W1,gf,
  #[.func (.yield (w.heap.size + 1)) #[] #[]] ++ lb, W1, ?_, ?_, fun _ _ => trivial, ?_, (fun h => by cases h), ?_⟩
 ·rw[←hW1,hrec];exact run_enterLoop_outer _ _ _ _ _
 ·simp only[resolve,hg];simp[go_sem]
 ·simp[invoke,go_sem,eg]
 ·refine(hseq (w.heap.size+1)
   (fun T pre W=>I (Bk T) pre W∧W.heap[w.heap.size+1]? =some (.loop (rec .ready none))∧W.heap[w.heap.size]? =some (.deferred (some []))∧¬T (w.heap.size+1)∧¬T w.heap.size)
   (fun T pre W=>∃c,Ix c (Bk T) pre W∧W.heap[w.heap.size+1]? =some (.loop (rec .done (some c)))∧W.heap[w.heap.size]? =some (.deferred (some []))∧¬T (w.heap.size+1)∧¬T w.heap.size)
   W1 (hb0.trans (hbw1.mono hb0.size)) (hab I _ hI)
   (fun T T' s W W' h ho hw=>by
    obtain⟨c,h⟩:=h
    exact⟨c,hab (Ix c) _ (hIx c) T T' s W W' h ho hw⟩)
   ?_ ⟨hI1,hL1,hK1,id,id⟩).mono ?_
  ·-- one round
   rintro T pre x W ⟨hi,hl,hk,hn1,hn2⟩ hlen hsp
   have hlt:w.heap.size+1<W.heap.size:=(jL hl)
   have hy:=run_yield (P:=P) (args:=encs x) hl (by rw[hrec];exact hps x);rw[hrec]at hy;refine⟨fn,_,assign,body,hy,roundIn_of_wpIn hfn (hassign _ (Bk T) pre x W _ hi ?_)⟩;clear hy;intro a' Wa hka hia hax;have hla:=hka.below hl (.inl (hBl T));have hda:=hka.below hk (.inl (hBd T))
   have hlta:w.heap.size+1<Wa.heap.size:=(jL hla)
   refine⟨_,run_beginRound hla (by rw[hrec]),?_⟩;have hl2:(Wa.putObj (w.heap.size+1) (.loop {rec .ready none with state:= .busy})).heap[w.heap.size+1]? =some (.loop {rec .ready none with state:= .busy}):=World.putObj_heap_same hlta;have hk2:(Wa.putObj (w.heap.size+1) (.loop {rec .ready none with state:= .busy})).heap[w.heap.size]? =some (.deferred (some [])):=(World.putObj_heap_other (by omega)).trans hda;have ho2:Off (Bk T) Wa (Wa.putObj (w.heap.size+1) (.loop {rec .ready none with state:= .busy})):=Off.putObj _ _ (hBl T);refine wpIn_mono (hbody _ (Bk T) pre x a' _ (hBl T) (by omega) ⟨_,hl2⟩ (hI _ _ _ _ _ hia ho2 (kB4.refl _ _ _)) (hAx _ _ _ _ _ hax ho2) hlen hsp) ?_
   have fin:∀(jump:Option Code) (W3:World),kDc (Bk T) (fun _=>False) (Wa.putObj (w.heap.size+1) (.loop {rec .ready none with state:= .busy})) W3→
     (Instr.endRound (w.heap.size+1) jump).run P W3= .ok (.bool jump.isNone) (W3.putObj (w.heap.size+1) (.loop (rec (if jump.isNone then .ready else .done) jump)))∧
     (W3.putObj (w.heap.size+1) (.loop (rec (if jump.isNone then .ready else .done) jump))).heap[w.heap.size+1]? =some (.loop (rec (if jump.isNone then .ready else .done) jump))∧
     (W3.putObj (w.heap.size+1) (.loop (rec (if jump.isNone then .ready else .done) jump))).heap[w.heap.size]? =some (.deferred (some [])):=fun jump W3 hk3=>by
    have hl3:=hk3.below hl2 (.inl (hBl T));have:=run_endRound (P:=P) jump hl3;rw[hrec]at this ⊢;exact⟨this,World.putObj_heap_same (jL hl3),(World.putObj_heap_other (by omega)).trans (hk3.below hk2 (.inl (hBd T)))⟩
   have keptF:∀(o:Obj) (W3:World),kDc (Bk T) (fun _=>False) (Wa.putObj (w.heap.size+1) (.loop {rec .ready none with state:= .busy})) W3→kDc T (fun _=>False) W (W3.putObj (w.heap.size+1) o):=fun o W3 hk3=>by
    refine⟨Nat.le_trans hka.size (Nat.le_trans (by simp) (Nat.le_trans hk3.size (by simp))),fun k hk h=> ?_⟩;have hT:T k:=h.elim id False.elim
    have hkl:k≠w.heap.size+1:=by rintro rfl;exact hn1 hT
    rw[World.putObj_heap_other hkl,hk3.block k (by simp;exact Nat.lt_of_lt_of_le hk hka.size) (.inl (hTk T k hT)),World.putObj_heap_other hkl,hka.block k hk (.inl (hTk T k hT))]
   rintro e a3 W3 hp
   cases e with
   | normal=>
    obtain⟨hk3,hi3⟩:=hp;obtain⟨hr,hl4,hk4⟩:=fin none W3 ⟨hk3.size,fun k hk h=>hk3.block k hk (.inl (h.elim id False.elim))⟩;refine⟨_,_,hr,.inl ⟨rfl,⟨hI _ _ _ _ _ hi3 (Off.putObj _ _ (hBl T)) (kB4.refl _ _ _),hl4,hk4,hn1,hn2⟩,?_⟩⟩;refine⟨Nat.le_trans hka.size (Nat.le_trans (by simp) (Nat.le_trans hk3.size (by simp))),fun k hk h=> ?_⟩
    have hkl:k≠w.heap.size+1:=by
     rintro rfl
     rcases h with h | h
     ·exact hn1 h
     ·have:=hR _ h;omega
    have h':Bk T k∨R k:=h.elim (fun h=> .inl (hTk T k h)) .inr;rw[World.putObj_heap_other hkl,hk3.block k (by simp;exact Nat.lt_of_lt_of_le hk hka.size) h',World.putObj_heap_other hkl,hka.block k hk h']
   | ret=>
    obtain⟨hk3,hi3⟩:=hp;obtain⟨hr,hl4,hk4⟩:=fin (some .ret) W3 hk3;exact⟨_,_,hr,.inr ⟨rfl,⟨.ret,hIx _ _ _ _ _ _ hi3 (Off.putObj _ _ (hBl T)) (kB4.refl _ _ _),hl4,hk4,hn1,hn2⟩,keptF _ W3 hk3⟩⟩
   | exit id=>
    obtain⟨hk3,hi3⟩:=hp;obtain⟨hr,hl4,hk4⟩:=fin (some (.exit id)) W3 hk3;exact⟨_,_,hr,.inr ⟨rfl,⟨.exit id,hIx _ _ _ _ _ _ hi3 (Off.putObj _ _ (hBl T)) (kB4.refl _ _ _),hl4,hk4,hn1,hn2⟩,keptF _ W3 hk3⟩⟩
   | goto t=>
    obtain⟨hk3,hi3⟩:=hp;obtain⟨hr,hl4,hk4⟩:=fin (some (.goto t)) W3 hk3;exact⟨_,_,hr,.inr ⟨rfl,⟨.goto t,hIx _ _ _ _ _ _ hi3 (Off.putObj _ _ (hBl T)) (kB4.refl _ _ _),hl4,hk4,hn1,hn2⟩,keptF _ W3 hk3⟩⟩
   | panic ch=>exact hp.elim
   | outgrown=>exact hp.elim
  ·-- behind the iterator
   rintro e W2 ⟨⟨v,rfl⟩,(⟨T,xs,hS,hi,hl,hk,hn1,hn2⟩ | ⟨T,pre,hSp,c,hi,hl,hk,hn1,hn2⟩)⟩
   ·exact⟨none,_,by have:=run_endLoop (P:=P) hl (by rw[hrec];simp);rw[hrec]at this;exact this,hdone _ (Bk T) xs _ jR (hBd T) hS (hI _ _ _ _ _ hi (Off.putObj _ _ (hBl T)) (kB4.refl _ _ _)) ((World.putObj_heap_other (by omega)).trans hk)⟩
   ·exact⟨some c,_,by have:=run_endLoop (P:=P) hl (by rw[hrec];simp);rw[hrec]at this;exact this,(wpIn_wide (n:=3)).2 (hstop _ c (Bk T) pre _ jR (hBd T) hSp (hIx _ _ _ _ _ _ hi (Off.putObj _ _ (hBl T)) (kB4.refl _ _ _)) ((World.putObj_heap_other (by omega)).trans hk))⟩
theorem kB8 {P:Program}{f:FuncId}{fn:Func}{c:Code}{args:Array Value}{w:World}{Rr:Ending→World→Prop}(hf:P.funcs[f]? =some fn)(hb:fn.body=some c)
  (h:c.wp P (bodyPostM Fence.wide 3 P fn Rr) {tmps:=args++Array.replicate (fn.ntmps - args.size) undef,defers:=[]} w):Calls P f args w Rr:=
 callsIn_wide.1 (callsIn_of_wp_marks (n:=3) hf hb trivial (wpIn_wide.2 h) rfl)
theorem kE5 {P:Program}{fn:Func}{tmps:Array Value}{Rr:Ending→World→Prop}{D:Nat}{ds:List Deferred}{w:World}(hk:w.heap[D]? =some (.deferred (some [])))
  (h:LeavesInM Fence.wide 3 P fn tmps Rr ds .returning (w.putObj D (.deferred none))):LeavesInM Fence.wide 3 P fn tmps Rr ({target:= .collected D,args:= #[]} :: ds) .returning w:=
 ⟨by simp,.inl ⟨D,_,rfl,run_takeDeferred hk,h⟩⟩
theorem kCz {P:Program}{fn:Func}{tmps:Array Value}{Rr:Ending→World→Prop}{w:World}{v:Value}(hv:(results fn tmps).run P w= .ok v w)(h:Rr (.returned v) w):
  LeavesInM Fence.wide 3 P fn tmps Rr [] .returning w:=⟨v,hv,h⟩
end Go.Proofs.Ytabbabkmojaoaaa

namespace Go.Proofs.Ytabbabkmojaoaaa
open Go.RowKit
theorem kEu {F:Fence}{nF:Nat}{P:Program}{t e:TypeId}{z:Value}{size bytes:Nat}(el:kEs P t e z size bytes){w:World}{ops:Array Oper}{rest:List Oper}{o:Oper}{act:Act}{Q:Exit→Act→World→Prop}(hgd:o.guard=none)(s x:Operand)
  (ho:o.op= .call {callee:= .builtin .append,args:= #[s,x],argTypes:= #[t,t]}){B:Nat}{a:Option Addr}{n cap:Nat}{xs:List Value}(hown:w.ownsRow B e size (.slice a n cap) n xs)(hB:B≤w.heap.size)(hn:(n+1)*bytes≤140737488355328)(hm:n<140737488355328)(cs:Array Value)(hcs:cs.size=size)(hu:∀u∈cs.toList,u.oneCell'=true)(e':TypeId)
  (hs:act.eval s= .slice a n cap)(hx:act.eval x= .slice (some ⟨w.heap.size,0,none⟩) 1 1)
  (h:∀a' cap' w',w'.ownsRow B e size (.slice a' (n+1) cap') (n+1) (xs++cs.toList)→w.grownBy w' (Value.slice a n cap).ownBlock→kBk w (.slice a n cap) (.slice a' (n+1) cap')→wpListIn F nF P ops Q rest (act.put o.dst (.slice a' (n+1) cap')) w'):
  wpListIn F nF P ops Q (o :: rest) act (w.alloc (.cells cs e')):=by
 obtain⟨i,hi,hz,h1,hb⟩:=info_parts el.inf
 refine wpListIn_plain hgd fun K hK'=> ?_
 have hcell:∀j v,cs.toList[j]? =some v→(w.alloc (.cells cs e')).cell? ((⟨w.heap.size,0,none⟩:Addr).add j)=some v:=by
  intro j v hv;rw[Addr.add_lit,Nat.zero_add,jK (w.alloc (.cells cs e')) w.heap.size j cs e' (0,0) (jN w _)];rwa[Array.getElem?_toList]at hv
 obtain⟨v',w',hr,h2,h3,h4⟩:=kGp (P:=P) (w.alloc (.cells cs e')) B t o.type e i z size bytes el.und hi hz h1 hb el.sz el.pos _ n xs (World.ownsRow.alloc hown _) ⟨w.heap.size,0,none⟩ 1 1 cs.toList (by simp[hcs]) hcell hu (by simp only[maxLen];omega) hn (by simp;omega)
 have hv':∃a' cap',v'= .slice a' (n+1) cap':=by
  rcases h2.2 with⟨rfl,h0⟩ | ⟨g,cap',cur,rfl,_⟩
  ·omega
  ·exact⟨_,_,rfl⟩
 obtain⟨a',cap',rfl⟩:=hv'
 have hg:w.grownBy w' (Value.slice a n cap).ownBlock:=by
  refine⟨h3.os,h3.tape,h3.output,by have:=h3.size;simp at this;omega,fun k hk hne=> ?_⟩;rw[h3.block k (by simp;omega) hne];exact Below.heap_alloc w _ k hk
 have hnb:kBk w (.slice a n cap) (.slice a' (n+1) cap'):=by
  rcases h4 with h4 | ⟨g,h4,h5⟩
  ·exact .inl h4
  ·exact .inr ⟨g,h4,by simp at h5;omega⟩
 unfold Oper.wpIn;refine⟨by simp[Oper.about,ho,resolve,Target.leads,Sem.run_pure],?_⟩;rw[Oper.semAt_plain F _ _ (by rw[ho];intro c hc';cases hc')];simp[execOp,ho,resolve,invoke,builtin,hs,hx,hr,Result.andThen];exact hK' _ _ (h a' cap' w' h2 hg hnb)
theorem kG5 {P:Program}(w:World)(d:Nat)(t:TypeId)(fn:Fn)(fs cs:Array Value)(ps rs:Array TypeId)(v:Bool)(h:P.underlying t=some (.func ps rs v)):
  (Op.equalIn (d+1) t (.func fn fs cs) .nilFunc).run P w= .ok false w:=by
 simp[Op.equalIn,run_underlying h]
theorem kEp {P:Program}(w:World)(t:TypeId)(fn:Fn)(fs cs:Array Value)(ps rs:Array TypeId)(v:Bool)(h:P.underlying t=some (.func ps rs v)):
  (binOp .eql t (.func fn fs cs) .nilFunc).run P w= .ok (.bool false) w:=by
 simp only[binOp];simp[Op.equal,Op.maxDepth,kG5 w 9999 t fn fs cs ps rs v h]
structure But (n:Nat) (X:Nat→Prop) (W W':World):Prop where
 os:W'.os=W.os
 tape:W'.tape=W.tape
 output:W'.output=W.output
 size:W.heap.size≤W'.heap.size
 block:∀k,k<n→¬X k→W'.heap[k]? =W.heap[k]?
theorem But.refl (n:Nat)(X:Nat→Prop)(W:World):But n X W W:=⟨rfl,rfl,rfl,Nat.le_refl _,fun _ _ _=>rfl⟩
theorem But.trans {n:Nat}{X:Nat→Prop}{A B C:World}(h:But n X A B)(k:But n X B C):But n X A C:=
 ⟨k.os.trans h.os,k.tape.trans h.tape,k.output.trans h.output,Nat.le_trans h.size k.size,fun i hi hx=>(k.block i hi hx).trans (h.block i hi hx)⟩
theorem But.of_below {n:Nat}{X:Nat→Prop}{W W':World}(h:Below n W W'):But n X W W':=⟨h.os,h.tape,h.output,h.size,fun k hk _=>h.block k hk⟩
theorem But.below {n:Nat}{X:Nat→Prop}{W W':World}(h:But n X W W')(B:Nat)(hB:B≤n)(hX:∀k,X k→B≤k):Below B W W':=
 ⟨h.os,h.tape,h.output,h.size,fun k hk=>h.block k (Nat.lt_of_lt_of_le hk hB) (fun hx=>by have:=hX k hx;omega)⟩
theorem But.off {n:Nat}{X T:Nat→Prop}{A W W':World}(h:But n X A W)(ho:Off T W W')(hT:∀k,T k→n≤k)(hn:n≤W.heap.size):But n X A W':=
 h.trans ⟨ho.os,ho.tape,ho.output,ho.size,fun k hk _=>ho.block k (Nat.lt_of_lt_of_le hk hn) (fun ht=>by have:=hT k ht;omega)⟩
theorem But.setCell {n:Nat}{X:Nat→Prop}{W W':World}(h:But n X W W')(b o:Nat)(v:Value)(hb:X b∨n≤b):But n X W (W'.setCell ⟨b,o,none⟩ v):=
 h.trans ⟨rfl,rfl,rfl,by simp,fun k hk hx=>Below.heap_setCell _ _ _ _ (by rintro rfl;rcases hb with h1 | h1;exact hx h1;exact absurd hk (by simp;omega))⟩
theorem But.grown {n:Nat}{X:Nat→Prop}{A W W':World}{row:Option Nat}(h:But n X A W)(hg:W.grownBy W' row)(hn:n≤W.heap.size)(hr:∀k,row=some k→X k∨n≤k):But n X A W':=
 h.trans ⟨hg.os,hg.tape,hg.output,hg.size,fun k hk hx=>hg.block k (by omega) (fun e=>by rcases hr k e.symm with h1 | h1;exact hx h1;omega)⟩
theorem But.keep {n:Nat}{X:Nat→Prop}{W W':World}(h:But n X W W'){k:Nat}{o:Obj}(hk:W.heap[k]? =some o)(hn:k<n)(hx:¬X k):W'.heap[k]? =some o:=by rw[h.block k hn hx];exact hk
theorem But.cell {n:Nat}{X:Nat→Prop}{W W':World}(h:But n X W W'){b o:Nat}{v:Value}(hc:W.cell? ⟨b,o,none⟩=some v)(hn:b<n)(hx:¬X b):W'.cell? ⟨b,o,none⟩=some v:=by
 rw[World.cell?_of_block (w:=W) (a:=⟨b,o,none⟩) (h.block b hn hx)];exact hc
theorem kF6 {B s:Nat}{E:TypeId}{W W':World}{a:Option Addr}{n cap:Nat}{xs:List Value}{T:Nat→Prop}(h:W.ownsRow B E s (.slice a n cap) n xs)(ho:Off T W W')(ht:∀k,(Value.slice a n cap).ownBlock=some k→¬T k):W'.ownsRow B E s (.slice a n cap) n xs:=by
 refine⟨h.1,?_⟩
 rcases h.2 with hn | ⟨g,cap,cur,e,hbg,hgg,rest⟩
 ·exact .inl hn
 ·refine .inr ⟨g,cap,cur,e,hbg,ho.cellsBlock hgg (ht g ?_),rest⟩;simp only[Value.slice.injEq]at e;obtain⟨rfl,_,_⟩:=e
  rfl
end Go.Proofs.Ytabbabkmojaoaaa

namespace Go.Proofs.Ytabbabkmojaoaaa
open Go.RowKit
def kI5 (o:Oper):Bool:=
 match o.op with
 | .move _=>true
 | .assign _=>true
 | .pick .. =>true
 | .load .. =>true
 | .nilCheck .. =>true
 | .fieldAddr .. =>true
 | .indexAddr .. =>true
 | .binOp .. =>true
 | .unOp .. =>true
 | _=>false
section
variable {F : Fence} {n : Nat} {P : Program} {ops : Array Oper} {md : Region.Mode} {w : World}
end
end Go.Proofs.Ytabbabkmojaoaaa

namespace Go.Proofs.Ytabbabkmojaoaaa
open Go.RowKit
def kDb (o:Oper):Bool:=
 kI5 o||match o.op with
 | .build .. =>true
 | .buildSlice .. =>true
 | .store .. =>true
 | .slice .. =>true
 | .sliceToArrayPointer .. =>true
 | .call {callee:= .builtin .append,..}=>true
 | .call {callee:= .builtin .len,..}=>true
 | _=>false
def kM7 (s:Sem Next):Prop:=∀(P:Program) (w w':World) (x:Next),s.run P w= .ok x w'→(∃v,x= .value v)∨x= .skip
theorem kJm (v:Value):kM7 (pure (Next.value v)):=by
 intro P w w' x e;rw[Sem.run_pure]at e;cases e;exact .inl ⟨_,rfl⟩
theorem kMj:kM7 (pure Next.skip):=by
 intro P w w' x e;rw[Sem.run_pure]at e;cases e;exact .inr rfl
theorem kI9 {α:Type}(s:Sem α)(k:α→Sem Next)(h:∀x,kM7 (k x)):kM7 (s >>= k):=by
 intro P w w' x e;rw[Sem.run_bind]at e
 cases hs:s.run P w with
 | ok y w1=>rw[hs]at e;exact h y P w1 w' x e
 | halt y w1=>rw[hs]at e;simp[Result.andThen]at e
theorem kKg (x:Halt):kM7 (.halt x):=by
 intro P w w' f e;simp[Sem.run]at e
theorem kLm (x:RuntimeError):kM7 (runtimePanic x):=by
 unfold runtimePanic
 repeat' first
  | exact kKg _
  | (refine kI9 _ _ (fun x=> ?_))
  | split
theorem kM3 {α:Type}(s:Sem α)(f:α→Value):kM7 ((fun x=>Next.value (f x)) <$> s):=by
 intro P w w' x e;rw[Sem.run_map]at e
 cases hs:s.run P w with
 | ok y w1=>rw[hs]at e;simp at e;exact .inl ⟨_,e.1.symm⟩
 | halt y w1=>rw[hs]at e;simp at e
theorem kJ3 {o:Oper}(h:kDb o=true){c:Call}(ho:o.op= .call c):∃args ts,c={callee:= .builtin .append,args:=args,argTypes:=ts}∨c={callee:= .builtin .len,args:=args,argTypes:=ts}:=by
 unfold kDb kI5 at h;rw[ho]at h;obtain⟨callee,args,ts⟩:=c
 cases callee with
 | builtin b=>cases b<;>simp at h<;>exact⟨_,_,by first | exact .inl rfl | exact .inr rfl⟩
 | _=>simp at h
theorem kKs {o:Oper}(h:kDb o=true)(ρ:Operand→Value):kM7 (execOp ρ o):=by
 by_cases hc:∃c,o.op= .call c
 ·obtain⟨c,ho⟩:=hc;obtain⟨args,ts,rfl | rfl⟩:=kJ3 h ho
  all_goals
   unfold execOp;simp only[ho,resolve,pure_bind,invoke,builtin];exact kI9 _ _ (fun x=>kJm _)
 ·unfold kDb kI5 at h;unfold execOp
  cases ho:o.op<;>simp only[ho]at h ⊢
  case call c=>exact absurd ⟨c,ho⟩ hc
  all_goals first
   | contradiction
   | (repeat' first
     | exact kJm _
     | exact kMj
     | exact kLm _
     | exact kKg _
     | exact kM3 _ _
     | (refine kI9 _ _ (fun x=> ?_))
     | split)
theorem kEj {P:Program}{o:Oper}(h:kDb o=true)(w:World)(ρ:Operand→Value):o.about P w ρ=none:=by
 unfold Oper.about
 cases ho:o.op<;>simp only
 case call c=>
  obtain⟨args,ts,rfl | rfl⟩:=kJ3 h ho
  all_goals simp[resolve,Target.leads,Sem.run_pure]
theorem kEk {o:Oper}(h:kDb o=true):∀c,o.op≠ .defer c:=by
 intro c e;unfold kDb kI5 at h;rw[e]at h;simp at h
theorem kF3 {o:Oper}(h:kDb o=true):∀cs b,o.op≠ .select cs b:=by
 intro cs b e;unfold kDb kI5 at h;rw[e]at h;simp at h
section
variable {F : Fence} {n : Nat} {P : Program} {ops : Array Oper} {Q : Exit → Act → World → Prop} {md : Region.Mode} {C : World → Prop}
def kFe (P:Program) (ops:Array Oper) (C:World→Prop) (o:Oper) (v:Value) (a:Act):Prop:=
 Region.wanted o (yielded ops a.tmps)=true∧∀w,C w→(execOp a.eval o).run P w= .ok (.value v) w
theorem kFe.step {i:Nat}{o:Oper}{v:Value}{a:Act}(hc:kDb o=true)(hi:ops[i]? =some o)(hy:kFe P ops C o v a){K:Act→World→Prop}{w:World}(hw:C w)(h:K (a.put o.dst v) w):wpOpIn F n P ops Q i K a w:=by
 unfold wpOpIn;simp only[hi,hy.1,if_true,Oper.wpIn];refine⟨fun f hf=>(by rw[kEj hc]at hf;cases hf),?_⟩;rw[Oper.semAt_eq _ _ _ (kEk hc),hy.2 w hw];exact h
theorem kMp {j:Nat}{oi oj:Oper}{v:Value}(hcj:kDb oj=true)(hci:kDb oi=true)(hj:ops[j]? =some oj)(hap:oi.apart ops oj=true)
  (hQ:∀c a w,Q (.panic c) (a.put oi.dst v) w→Q (.panic c) a w){K:Act→World→Prop}{a:Act}{w:World}
  (hy:kFe P ops C oi v a)(h:wpOpIn F n P ops Q j K (a.put oi.dst v) w):
  wpOpIn F n P ops Q j (fun a' w'=>kFe P ops C oi v a'∧K (a'.put oi.dst v) w') a w:=by
 obtain⟨h1,h2,h3⟩:=Oper.apart_spec hap
 have keep:∀u,kFe P ops C oi v (a.put oj.dst u):=fun u=>by
  unfold kFe at hy ⊢;rw[execOp_put oi (kF3 hci) a oj.dst u h3,wanted_put oi a oj.dst u h3];exact hy
 unfold wpOpIn at h ⊢;simp only[hj]at h ⊢;rw[wanted_put oj a oi.dst v h1]at h
 split
 ·rename_i hw
  simp only[hw,if_true]at h;unfold Oper.wpIn at h ⊢;refine⟨fun f hf=>(by rw[kEj hcj]at hf;cases hf),?_⟩;have h:=h.2;rw[Oper.semAt_eq _ _ _ (kEk hcj),execOp_put oj (kF3 hcj) a oi.dst v h1]at h;rw[Oper.semAt_eq _ _ _ (kEk hcj)];have ht:=kKs hcj a.eval P w
  cases hr:(execOp a.eval oj).run P w with
  | ok x w'=>
   rw[hr]at h
   rcases ht w' x hr with⟨u,rfl⟩ | rfl
   ·simp only[Oper.uponIn]at h ⊢;exact⟨keep u,by rw[←Act.put_comm a v u h2];exact h⟩
   ·simp only[Oper.uponIn]at h ⊢;exact⟨keep _,by rw[←Act.put_comm a v undef h2];exact h⟩
  | halt x w'=>
   rw[hr]at h
   cases x<;>simp only[Oper.uponIn]at h ⊢
   case panic u=>exact hQ _ _ _ h
 ·rename_i hw
  simp only[hw]at h;exact⟨fun f hf=>(by rw[kEj hcj]at hf;cases hf),keep _,by rw[←Act.put_comm a v undef h2];exact h.2⟩
def kGx (F:Fence) (n:Nat) (P:Program) (md:Region.Mode) (ops:Array Oper) (Q:Exit→Act→World→Prop) (M:List Nat) (C:World→Prop):Nat→Array Bool→Act→World→Prop
 | 0,l,a,w=>Region.ready md ops l=[]∧Q .normal a w
 | f+1,l,a,w=>(Region.ready md ops l=[]→Q .normal a w)∧∀i∈Region.ready md ops l,wpOpIn F n P ops Q i (fun a' w'=>(i∉M→C w')∧kGx F n P md ops Q M C f (l.setIfInBounds i true) a' w') a w
theorem kK4 {M:List Nat}:∀(f:Nat) (l:Array Bool) (a:Act) (w:World),kGx F n P md ops Q M C f l a w→wpAnyIn F n P md ops Q f l a w
 | 0,_,_,_,h=>h
 | f+1,_,_,_,h=>⟨h.1,fun i hi=>wpOpIn_mono (fun a' w' h'=>kK4 f _ a' w' h'.2) (h.2 i hi)⟩
def UpOf (md:Region.Mode) (ops:Array Oper) (i:Nat) (U:List Nat):Prop:=∀j∈U,∃o,ops[j]? =some o∧∃e∈o.after,Region.binds md e=true∧(e.on=i∨e.on∈U)
theorem kHj {l:Array Bool}{i:Nat}(h1:l.getD i false=true)(h0:l.getD i true=false):False:=by
 simp only[Array.getD_eq_getD_getElem?]at h0 h1
 cases hl:l[i]? with
 | none=>rw[hl]at h1;cases h1
 | some b=>rw[hl]at h0 h1;simp at h0 h1;rw[h0]at h1;cases h1
theorem kLc {M U:List Nat}{i:Nat}{oi:Oper}{v:Value}(hcalm:∀(j:Nat) (o:Oper),ops[j]? =some o→kDb o=true)(hi:ops[i]? =some oi)(hMU:∀j∈M,j∈U)(hU:UpOf md ops i U)
  (hQ:∀c a w,Q (.panic c) (a.put oi.dst v) w→Q (.panic c) a w):
  ∀(f:Nat) (l:Array Bool) (a:Act) (w:World),
   (∀j oj,ops[j]? =some oj→j≠i→l.getD j true=false→(∀e∈oj.after,Region.binds md e=true→e.on≠i)→oi.apart ops oj=true)→
   (∀j∈U,l.getD j true=false)→i∈Region.ready md ops l→kFe P ops C oi v a→C w→
   kGx F n P md ops Q M C f (l.setIfInBounds i true) (a.put oi.dst v) w→kGx F n P md ops Q M C (f+1) l a w:=by
 intro f
 induction f with
 | zero=>
  intro l a w _ hun hr hy hC H;refine⟨fun h=>(by rw[h]at hr;cases hr),fun j hj=> ?_⟩
  by_cases hji:j=i
  ·subst hji;exact hy.step (hcalm _ _ hi) hi hC ⟨fun _=>hC,H⟩
  ·have:=ready_mono hj hji;rw[H.1]at this;cases this
 | succ f ih=>
  intro l a w hfree hun hr hy hC H;refine⟨fun h=>(by rw[h]at hr;cases hr),fun j hj=> ?_⟩
  by_cases hji:j=i
  ·subst hji;exact hy.step (hcalm _ _ hi) hi hC ⟨fun _=>hC,H⟩
  ·have h1:=H.2 j (ready_mono hj hji);obtain⟨hjun,oj,hoj,hall⟩:=mem_ready.1 hj;have h0:=(mem_ready.1 hr).1
   have hnot:∀e∈oj.after,Region.binds md e=true→e.on≠i:=fun e he hb heq=>by
    have h1:=hall e he hb;rw[heq]at h1;exact kHj h1 h0
   have hjU:j∉U:=fun hjU=>by
    obtain⟨om,hom,e,he,hb,heq⟩:=hU j hjU;rw[hoj]at hom;cases hom
    rcases heq with heq | heq
    ·exact hnot e he hb heq
    ·exact kHj (hall e he hb) (hun _ heq)
   have h2:=kMp (hcalm _ _ hoj) (hcalm _ _ hi) hoj (hfree j oj hoj hji hjun hnot) hQ hy h1
   have hfree':∀k ok,ops[k]? =some ok→k≠i→(l.setIfInBounds j true).getD k true=false→
     (∀e∈ok.after,Region.binds md e=true→e.on≠i)→oi.apart ops ok=true:=fun k ok hk hki hun hno=>by
    refine hfree k ok hk hki ?_ hno
    by_cases hjk:j=k
    ·subst hjk;exact hjun
    ·rw[getD_set_ne true hjk]at hun;exact hun
   have hun':∀k∈U,(l.setIfInBounds j true).getD k true=false:=fun k hk=>by
    have hjk:j≠k:=fun e=>hjU (by rw[e];exact hk)
    rw[getD_set_ne true hjk];exact hun k hk
   refine wpOpIn_mono (fun a' w' h3=>⟨h3.2.1,ih (l.setIfInBounds j true) a' w' hfree' hun' (ready_mono hr (Ne.symm hji)) h3.1 (h3.2.1 (fun h=>hjU (hMU _ h))) ?_⟩) h2;rw[Array.setIfInBounds_comm _ _ hji];exact h3.2.2
def kM2 (md:Region.Mode) (ops:Array Oper) (M U:List Nat) (i:Nat) (l:Array Bool):Bool:=
 Region.free md ops l i&&(Region.ready md ops l).contains i&&M.all (fun j=>U.contains j)&&U.all (fun j=> !(l.getD j true)&&(match ops[j]? with | some om=>om.after.any (fun e=>Region.binds md e&&(e.on==i||U.contains e.on)) | none=>false))
theorem kAd (U:List Nat){M:List Nat}{i:Nat}{oi:Oper}{v:Value}{f:Nat}{l:Array Bool}{a:Act}{w:World}(hcalm:ops.all kDb=true)(hi:ops[i]? =some oi)(hB:kM2 md ops M U i l=true)
  (hQ:∀c a w,Q (.panic c) (a.put oi.dst v) w→Q (.panic c) a w)(hw:Region.wanted oi (yielded ops a.tmps)=true)(hv:∀w,C w→(execOp a.eval oi).run P w= .ok (.value v) w)(hC:C w)
  (h:kGx F n P md ops Q M C f (l.setIfInBounds i true) (a.put oi.dst v) w):kGx F n P md ops Q M C (f+1) l a w:=by
 simp only[kM2,Bool.and_eq_true]at hB;obtain⟨⟨⟨h1,h2⟩,h3⟩,h4⟩:=hB;simp only[List.all_eq_true,Bool.and_eq_true]at h3 h4
 refine kLc (U:=U) (fun j o hj=> ?_) hi (fun j hj=>by simpa using h3 j hj) ?_ hQ f l a w (Region.free_spec hi h1) (fun j hj=>by simpa using (h4 j hj).1) (by simpa using h2) ⟨hw,hv⟩ hC h
 ·rw[Array.all_eq_true_iff_forall_mem]at hcalm;exact hcalm o (Array.mem_of_getElem? hj)
 ·intro j hj;have h5:=(h4 j hj).2
  cases hm:ops[j]? with
  | none=>rw[hm]at h5;cases h5
  | some om=>
   rw[hm]at h5;simp only[Array.any_eq_true]at h5;obtain⟨k,hk,h6⟩:=h5;simp only[Bool.and_eq_true,Bool.or_eq_true,beq_iff_eq]at h6;exact⟨om,rfl,om.after[k],Array.getElem_mem hk,h6.1,by simpa using h6.2⟩
theorem kC9 {M:List Nat}{i:Nat}{o:Oper}{v:Value}{f:Nat}{l:Array Bool}{a:Act}{w w':World}(hr:Region.ready md ops l=[i])(hi:ops[i]? =some o)(hc:kDb o=true)
  (hw:Region.wanted o (yielded ops a.tmps)=true)(hv:(execOp a.eval o).run P w= .ok (.value v) w')(hC:C w')(h:kGx F n P md ops Q M C f (l.setIfInBounds i true) (a.put o.dst v) w'):kGx F n P md ops Q M C (f+1) l a w:=by
 refine⟨fun h0=>(by rw[hr]at h0;cases h0),fun j hj=> ?_⟩;rw[hr]at hj
 obtain rfl:j=i:=by simpa using hj
 unfold wpOpIn;simp only[hi,hw,if_true,Oper.wpIn];refine⟨fun f hf=>(by rw[kEj hc]at hf;cases hf),?_⟩;rw[Oper.semAt_eq _ _ _ (kEk hc),hv];exact⟨fun _=>hC,h⟩
theorem kK5 {M:List Nat}:∀(l:List Oper) (k:Nat) (listed:Array Bool) (a:Act) (w:World),(∀j,l[j]? =ops[k+j]?)→Region.seqB md ops l.length k listed=true→(∀j,j<l.length→k+j∈M)→
  wpListIn F n P ops Q l a w→kGx F n P md ops Q M C l.length listed a w
 | [],_,_,_,_,_,hB,_,h=>⟨by simpa [Region.seqB]using hB,h⟩
 | o :: l,k,listed,a,w,hl,hB,hM,h=>by
  have h0:ops[k]? =some o:=by simpa using (hl 0).symm
  simp only[List.length_cons,Region.seqB,Bool.and_eq_true,decide_eq_true_eq]at hB;refine⟨fun h1=>(by rw[hB.1]at h1;cases h1),fun i hi=> ?_⟩;rw[hB.1]at hi
  have hik:i=k:=by simpa using hi
  subst hik
  have hw:wpOpIn F n P ops Q i (wpListIn F n P ops Q l) a w:=by unfold wpOpIn;simp only[h0];exact h
  exact wpOpIn_mono (fun a' w' h'=>⟨fun hn=>absurd (by have:=hM 0 (by simp);simpa using this) hn,kK5 l (i+1) _ a' w' (fun j=>by have:=hl (j+1);simpa [Nat.add_assoc,Nat.add_comm 1 j]using this) hB.2 (fun j hj=>by have:=hM (j+1) (by simpa using hj);rwa[show i+1+j=i+(j+1) by omega]) h'⟩) hw
theorem kA3 {M:List Nat}(k:Nat){f:Nat}{l:List Oper}{listed:Array Bool}{a:Act}{w:World}(hk:f+k=l.length)(hB:Region.seqB md l.toArray f k listed=true)(hM:(List.range f).all (fun j=>M.contains (k+j))=true)
  (h:wpListIn F n P l.toArray Q (l.drop k) a w):kGx F n P md l.toArray Q M C f listed a w:=by
 have hl:(l.drop k).length=f:=by rw[List.length_drop];omega
 have:=kK5 (C:=C) (M:=M) (l.drop k) k listed a w (fun j=>by simp[List.getElem?_drop]) (by rw[hl];exact hB) (fun j hj=>by
  rw[List.all_eq_true]at hM
  simpa using hM j (List.mem_range.2 (by omega))) h
 rwa[hl]at this
theorem kAi {id:Nat}{a:Act}{w:World}{l:List Oper}(M:List Nat)(C:World→Prop)(hm:P.follows .mixedOrders=true)
  (h:kGx F n P .any l.toArray Q M C l.toArray.size (Array.replicate l.toArray.size false) a w.drew):(Code.region id l.toArray true).wpIn F n P Q a w:=
 wpIn_region_any hm (kK4 _ _ _ _ h)
end
end Go.Proofs.Ytabbabkmojaoaaa

namespace Go.Proofs.Ytabbabkmojaoaaa
open Go.RowKit
section
variable {P : Program} {ops : Array Oper} {w : World} {Q : Act → Prop} {rest : List Oper} {o : Oper} {a : Act}
theorem kFb {v:Value}(hg:o.guard=none)(hr:(execOp a.eval o).run P w= .ok (.value v) w)(h:wpStill P ops w Q rest (a.put o.dst v)):wpStill P ops w Q (o :: rest) a:=
 wpStill_step (fun K hK=>by
  simp only[Region.wanted,hg,if_true];unfold Oper.still;rw[hr,Oper.stillUpon_value]
  exact hK _ h)
theorem kAw (hg:o.guard=none)(ty:TypeId)(x:Operand)(ho:o.op= .load ty x)(b off:Nat)(hx:a.eval x= .pointer (some ⟨b,off,none⟩))(cs:List Value)(d:TypeDesc)(hc:w.rangeAt b off cs)
  (hu:P.underlying ty=some d)(hd:d.isRow=true)(hi:(P.info? ty).map (·.size)=some cs.length)(h:wpStill P ops w Q rest (a.put o.dst (.agg cs.toArray))):wpStill P ops w Q (o :: rest) a:=by
 refine kFb hg ?_ h;unfold execOp;simp only[ho,hx,Instr.loadAt,Instr.sureAddr,Sem.run_bind,Sem.run_pure,Result.andThen_ok,run_loadVar_mid w b off ty cs d hc hu hd hi]
theorem kC1 (hg:o.guard=none)(ty:TypeId)(x y:Operand)(ok:Bool)(ho:o.op= .lookup ty x y ok)(xv yv v:Value)(hx:a.eval x=xv)(hy:a.eval y=yv)(hr:(Instr.lookup ty xv yv ok).run P w= .ok v w)
  (h:wpStill P ops w Q rest (a.put o.dst v)):wpStill P ops w Q (o :: rest) a:=by
 refine kFb hg ?_ h;unfold execOp;simp only[ho,hx,hy,Sem.run_bind,Sem.run_pure,Result.andThen_ok,hr]
end
theorem kAz {P:Program}{ops:Array Oper}{w w':World}{Q:Exit→Act→World→Prop}{rest:List Oper}{o:Oper}{a:Act}(hg:o.guard=none)(ty:TypeId)(m x v:Operand)(ho:o.op= .mapUpdate ty m x v)
  (mv xv vv:Value)(hm:a.eval m=mv)(hx:a.eval x=xv)(hv:a.eval v=vv)(hr:(Instr.mapUpdate ty mv xv vv).run P w= .ok () w')(h:wpList P ops Q rest (a.put o.dst undef) w'):wpList P ops Q (o :: rest) a w:=
 wpList_plain hg fun K hK=>by
  unfold Oper.wp execOp;simp only[ho,hm,hx,hv,Sem.run_bind,Sem.run_pure,Result.andThen_ok,hr];exact hK _ _ h
theorem kCp {P:Program}{o:Oper}{a:Act}{w:World}(ty:TypeId)(x:Operand)(ho:o.op= .load ty x)(b off:Nat)(hx:a.eval x= .pointer (some ⟨b,off,none⟩))(cs:List Value)(d:TypeDesc)(hc:w.rangeAt b off cs)
  (hu:P.underlying ty=some d)(hd:d.isRow=true)(hi:(P.info? ty).map (·.size)=some cs.length):(execOp a.eval o).run P w= .ok (.value (.agg cs.toArray)) w:=by
 unfold execOp;simp only[ho,hx,Instr.loadAt,Instr.sureAddr,Sem.run_bind,Sem.run_pure,Result.andThen_ok,run_loadVar_mid w b off ty cs d hc hu hd hi]
theorem kL1 {P:Program}{t e:TypeId}{z:Value}{size bytes:Nat}(el:kEs P t e z size bytes){w:World}{o:Oper}{act:Act}(s x:Operand)
  (ho:o.op= .call {callee:= .builtin .append,args:= #[s,x],argTypes:= #[t,t]}){B:Nat}{a:Option Addr}{n cap:Nat}{xs:List Value}(hown:w.ownsRow B e size (.slice a n cap) n xs)(hn:(n+1)*bytes≤140737488355328)(hm:n<140737488355328)(hB:B≤w.heap.size)(cs:List Value)(hcs:cs.length=size)(hu:∀u∈cs,u.oneCell'=true)(e':TypeId)
  (hs:act.eval s= .slice a n cap)(hx:act.eval x= .slice (some ⟨w.heap.size,0,none⟩) 1 1):
  ∃a' cap' w',(execOp act.eval o).run P (w.alloc (.cells cs.toArray e'))= .ok (.value (.slice a' (n+1) cap')) w'∧w'.ownsRow B e size (.slice a' (n+1) cap') (n+1) (xs++cs)∧w.grownBy w' (Value.slice a n cap).ownBlock∧kBk w (.slice a n cap) (.slice a' (n+1) cap'):=by
 obtain⟨i,hi,hz,h1,hb⟩:=info_parts el.inf
 have hcell:∀j v,cs[j]? =some v→(w.alloc (.cells cs.toArray e')).cell? ((⟨w.heap.size,0,none⟩:Addr).add j)=some v:=by
  intro j v hv;rw[Addr.add_lit,Nat.zero_add,jK (w.alloc (.cells cs.toArray e')) w.heap.size j cs.toArray e' (0,0) (jN w _)]
  simpa using hv
 obtain⟨v',w',hr,h2,h3,h4⟩:=kGp (P:=P) (w.alloc (.cells cs.toArray e')) B t o.type e i z size bytes el.und hi hz h1 hb el.sz el.pos _ n xs (World.ownsRow.alloc hown _) ⟨w.heap.size,0,none⟩ 1 1 cs (by simp[hcs]) hcell hu (by simp only[maxLen];omega) hn (by simp;omega)
 have hv':∃a' cap',v'= .slice a' (n+1) cap':=by
  rcases h2.2 with⟨rfl,h0⟩ | ⟨g,cap',cur,rfl,_⟩
  ·omega
  ·exact⟨_,_,rfl⟩
 obtain⟨a',cap',rfl⟩:=hv'
 refine⟨a',cap',w',?_,h2,?_,?_⟩
 ·unfold execOp;simp only[ho,resolve,invoke,builtin,Sem.run_bind,Sem.run_pure,Result.andThen_ok,List.map_toArray,List.map_cons,List.map_nil,hs,hx,hr]
 ·refine⟨h3.os,h3.tape,h3.output,by have:=h3.size;simp at this;omega,fun k hk hne=> ?_⟩;rw[h3.block k (by simp;omega) hne];exact Below.heap_alloc w _ k hk
 ·rcases h4 with h4 | ⟨g,h4,h5⟩
  ·exact .inl h4
  ·exact .inr ⟨g,h4,by simp at h5;omega⟩
theorem kAv {w w':World}{row:Option Nat}(hg:w.grownBy w' row){b o:Nat}{v:Value}(hc:w.cell? ⟨b,o,none⟩=some v)(hr:∀k,row=some k→b≠k):w'.cell? ⟨b,o,none⟩=some v:=by
 rw[World.cell?_of_block (w:=w) (a:=⟨b,o,none⟩) (kAr hg (World.block_lt_of_cell? w _ hc) hr)];exact hc
theorem kBh {w w':World}{row:Option Nat}(hg:w.grownBy w' row){b o:Nat}{cs:List Value}(hc:w.rangeAt b o cs)(hr:∀k,row=some k→b≠k):w'.rangeAt b o cs:=
 fun j v hv=>kAv hg (hc j v hv) hr
theorem kBb {w:World}{b o:Nat}{v:Value}(hc:w.cell? ⟨b,o,none⟩=some v)(ob:Obj):(w.alloc ob).cell? ⟨b,o,none⟩=some v:=by
 rw[World.cell?_of_block (w:=w) (a:=⟨b,o,none⟩) (Below.heap_alloc w ob b (World.block_lt_of_cell? w _ hc))];exact hc
theorem kMr (cs:List Value):∀(k:Nat) (z:Array Value) (i:Nat),((cs.zipIdx k).foldl (fun cs x=>cs.setIfInBounds x.snd x.fst) z)[i]? =if k≤i∧i<k+cs.length∧i<z.size then cs[i - k]? else z[i]? :=by
 induction cs with
 | nil=>intro k z i;simp;intro h1 h2;omega
 | cons c cs ih=>
  intro k z i;rw[List.zipIdx_cons,List.foldl_cons,ih];simp only[Array.size_setIfInBounds,List.length_cons,Array.getElem?_setIfInBounds]
  by_cases h1:k=i
  ·subst h1;rw[if_neg (by omega),if_pos rfl]
   by_cases h2:k<z.size
   ·rw[if_pos h2,if_pos (by omega)];simp
   ·rw[if_neg h2,if_neg (by omega)];simp;omega
  ·rw[if_neg h1]
   by_cases h2:k+1≤i∧i<k+1+cs.length∧i<z.size
   ·rw[if_pos h2,if_pos (by omega)];rw[show i - k=(i - (k+1))+1 by omega];simp
   ·rw[if_neg h2,if_neg (by omega)]
theorem kEg (cs:List Value)(z:Array Value)(h:z.size=cs.length):cs.zipIdx.foldl (fun cs x=>cs.setIfInBounds x.snd x.fst) z=cs.toArray:=by
 apply Array.ext_getElem?
 intro i;rw[kMr]
 by_cases hi:i<cs.length
 ·rw[if_pos (by omega)];simp
 ·rw[if_neg (by omega),Array.getElem?_eq_none (by omega),Array.getElem?_eq_none (by simp;omega)]
theorem kEf {F:Fence}{nF:Nat}{P:Program}{md:Region.Mode}{ops:Array Oper}{Q:Exit→Act→World→Prop}{C:World→Prop}{M:List Nat}{i:Nat}{o:Oper}{f:Nat}{l:Array Bool}{act:Act}{t e:TypeId}{z:Value}{size bytes:Nat}(el:kEs P t e z size bytes){w:World}(hr:Region.ready md ops l=[i])(hi:ops[i]? =some o)(hc:kDb o=true)
  (hwt:Region.wanted o (yielded ops act.tmps)=true)(s x:Operand)
  (ho:o.op= .call {callee:= .builtin .append,args:= #[s,x],argTypes:= #[t,t]}){B:Nat}{a:Option Addr}{n cap:Nat}{xs:List Value}(hown:w.ownsRow B e size (.slice a n cap) n xs)(hn:(n+1)*bytes≤140737488355328)(hm:n<140737488355328)(hB:B≤w.heap.size)(cs:List Value)(hcs:cs.length=size)(hu:∀u∈cs,u.oneCell'=true)(e':TypeId)
  (hs:act.eval s= .slice a n cap)(hx:act.eval x= .slice (some ⟨w.heap.size,0,none⟩) 1 1)
  (hC:∀w',w.grownBy w' (Value.slice a n cap).ownBlock→C w')
  (h:∀a' cap' w',w'.ownsRow B e size (.slice a' (n+1) cap') (n+1) (xs++cs)→w.grownBy w' (Value.slice a n cap).ownBlock→kBk w (.slice a n cap) (.slice a' (n+1) cap')→kGx F nF P md ops Q M C f (l.setIfInBounds i true) (act.put o.dst (.slice a' (n+1) cap')) w'):
  kGx F nF P md ops Q M C (f+1) l act (w.alloc (.cells cs.toArray e')):=by
 obtain⟨a',cap',w',h1,h2,h3,h4⟩:=kL1 el s x ho hown hn hm hB cs hcs hu e' hs hx;exact kC9 hr hi hc hwt h1 (hC w' h3) (h a' cap' w' h2 h3 h4)
theorem kBa {B:Nat}{w w':World}{row:Option Nat}(hg:w.grownBy w' row)(hr:∀k,row=some k→B≤k)(hB:B≤w.heap.size):Below B w w':=
 ⟨hg.os,hg.tape,hg.output,hg.size,fun k hk=>hg.block k (by omega) (fun e=>by have:=hr k e.symm;omega)⟩
theorem kGz {B:Nat}(w:World)(b:Nat)(o:Obj)(hB:B≤b):Below B w (kG8 w b o):=
 ⟨rfl,rfl,rfl,by simp[kG8],fun k hk=>kC0 w o (by omega)⟩
theorem kAc {P:Program}{ops:Array Oper}{w w':World}{Q:Exit→Act→World→Prop}{rest:List Oper}{o:Oper}{a:Act}{v:Value}(hg:o.guard=none)(hr:(execOp a.eval o).run P w= .ok (.value v) w')(h:wpList P ops Q rest (a.put o.dst v) w'):wpList P ops Q (o :: rest) a w:=
 wpList_plain hg fun K hK=>by
  unfold Oper.wp;rw[hr];exact hK _ _ h
def ob (a:Option Addr):Option Nat:=(Value.slice a 0 0).ownBlock
theorem kBf (a:Option Addr)(n c:Nat):(Value.slice a n c).ownBlock=ob a:=by cases a<;>rfl
structure kB9 (g:Nat) (w w':World) (a l a' l':Option Addr):Prop where
 os:w'.os=w.os
 tape:w'.tape=w.tape
 output:w'.output=w.output
 size:w.heap.size≤w'.heap.size
 oth:∀k,k<w.heap.size→(k<g∨g+4≤k)→ob a≠some k→ob l≠some k→w'.heap[k]? =w.heap[k]?
 na:∀k,ob a'=some k→ob a=some k∨w.heap.size≤k
 nl:∀k,ob l'=some k→ob l=some k∨w.heap.size≤k
theorem kB9.trans {g:Nat}{w w1 w2:World}{a l a1 l1 a2 l2:Option Addr}(h:kB9 g w w1 a l a1 l1)(k:kB9 g w1 w2 a1 l1 a2 l2):kB9 g w w2 a l a2 l2:=by
 have hs:=h.size
 refine⟨k.os.trans h.os,k.tape.trans h.tape,k.output.trans h.output,Nat.le_trans hs k.size,fun i hi hg ha hl=> ?_,fun i hi=> ?_,fun i hi=> ?_⟩
 ·refine(k.oth i (by omega) hg (fun e=> ?_) (fun e=> ?_)).trans (h.oth i hi hg ha hl)
  ·rcases h.na i e with h1 | h1
   ·exact ha h1
   ·omega
  ·rcases h.nl i e with h1 | h1
   ·exact hl h1
   ·omega
 ·rcases k.na i hi with h1 | h1
  ·exact h.na i h1
  ·exact .inr (by omega)
 ·rcases k.nl i hi with h1 | h1
  ·exact h.nl i h1
  ·exact .inr (by omega)
theorem kB9.below {g:Nat}{w w':World}(a l:Option Addr)(h:Below w.heap.size w w'):kB9 g w w' a l a l:=⟨h.os,h.tape,h.output,h.size,fun k hk _ _ _=>h.block k hk,fun _ h=> .inl h,fun _ h=> .inl h⟩
theorem kB9.drew {g:Nat}{w w':World}{a l a' l':Option Addr}(h:kB9 g w w' a l a' l'):kB9 g w w'.drew a l a' l':=⟨h.os,h.tape,h.output,h.size,h.oth,h.na,h.nl⟩
theorem kB9.store {g:Nat}{w w':World}{a l a' l':Option Addr}(h:kB9 g w w' a l a' l')(b o:Nat)(v:Value)(hb:g≤b∧b<g+4):kB9 g w (w'.setCell ⟨b,o,none⟩ v) a l a' l':=
 ⟨(kAe w' b o v).os.trans h.os,(kAe w' b o v).tape.trans h.tape,(kAe w' b o v).output.trans h.output,Nat.le_trans h.size (kAe w' b o v).size,fun k hk hg ha hl=>by rw[jQ w' ⟨b,o,none⟩ k v (by simp;omega)];exact h.oth k hk hg ha hl,h.na,h.nl⟩
theorem kB9.put {g:Nat}{w w':World}{a l a' l':Option Addr}(h:kB9 g w w' a l a' l')(b:Nat)(o:Obj)(hb:g≤b∧b<g+4):kB9 g w (kG8 w' b o) a l a' l':=
 ⟨h.os,h.tape,h.output,by simpa [kG8]using h.size,fun k hk hg ha hl=>by rw[kC0 w' o (by omega)];exact h.oth k hk hg ha hl,h.na,h.nl⟩
theorem kB9.low {g:Nat}{w w':World}(a:Option Addr){l l':Option Addr}{n c n' c':Nat}(hg:w.grownBy w' (Value.slice l n c).ownBlock)(hn:kBk w (.slice l n c) (.slice l' n' c')):kB9 g w w' a l a l':=by
 unfold kBk at hn;rw[kBf,kBf]at hn;rw[kBf]at hg;refine⟨hg.os,hg.tape,hg.output,hg.size,fun k hk _ _ hl=>hg.block k hk (fun e=>hl e.symm),fun _ h=> .inl h,fun k h=> ?_⟩
 rcases hn with h1 | ⟨gg,h1,h2⟩
 ·exact .inl (by rw[←h1];exact h)
 ·rw[h1]at h;cases h;exact .inr h2
theorem kB9.mid {g:Nat}{w w':World}{a a':Option Addr}(l:Option Addr){n c n' c':Nat}(hg:w.grownBy w' (Value.slice a n c).ownBlock)(hn:kBk w (.slice a n c) (.slice a' n' c')):kB9 g w w' a l a' l:=by
 unfold kBk at hn;rw[kBf,kBf]at hn;rw[kBf]at hg;refine⟨hg.os,hg.tape,hg.output,hg.size,fun k hk _ ha _=>hg.block k hk (fun e=>ha e.symm),fun k h=> ?_,fun _ h=> .inl h⟩
 rcases hn with h1 | ⟨gg,h1,h2⟩
 ·exact .inl (by rw[←h1];exact h)
 ·rw[h1]at h;cases h;exact .inr h2
theorem kB9.to_below {g:Nat}{w w':World}{a l a' l':Option Addr}(h:kB9 g w w' a l a' l')(ha:∀k,ob a=some k→g≤k)(hl:∀k,ob l=some k→g≤k)(hg:g≤w.heap.size):Below g w w':=
 ⟨h.os,h.tape,h.output,h.size,fun k hk=>h.oth k (by omega) (.inl hk) (fun e=>by have:=ha k e;omega) (fun e=>by have:=hl k e;omega)⟩
theorem kA7 (b:List Int):kAf val8 b=b.map val8:=by
 induction b with
 | nil=>rfl
 | cons a l ih=>rw[kAf,List.flatMap_cons,←kAf,ih,kBt];rfl
end Go.Proofs.Ytabbabkmojaoaaa
