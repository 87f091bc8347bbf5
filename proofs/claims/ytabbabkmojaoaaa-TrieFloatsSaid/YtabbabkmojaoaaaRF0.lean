/-
  Laws over the model alone: a range over a function, where the iterator has blocks of its own ('territory') that it may write between two rounds. The wide fence throughout.
-/
import Derived.RangeFuncNested
import Derived.RangeFuncLeaves
import Derived.RangeFuncCalls
import Derived.Shelf.Abstract
import Derived.Test.YtabbabkmojaoaaaBase5
set_option linter.unusedVariables false
namespace Go.Proofs.Ytabbabkmojaoaaa
open Go.RowKit

/-- outside the territory T nothing has turned -/
structure Off (T : Nat → Prop) (W W' : World) : Prop where
  os : W'.os = W.os
  tape : W'.tape = W.tape
  output : W'.output = W.output
  size : W.heap.size ≤ W'.heap.size
  block : ∀ k, k < W.heap.size → ¬ T k → W'.heap[k]? = W.heap[k]?
/-- T' is T and what has been laid since W, at most -/
def Wider (T T' : Nat → Prop) (W W' : World) : Prop := ∀ k, T' k → T k ∨ (W.heap.size ≤ k ∧ k < W'.heap.size)
theorem Wider.refl (T : Nat → Prop) (W W' : World) : Wider T T W W' := fun _ h => .inl h
theorem Off.refl (T : Nat → Prop) (W : World) : Off T W W := ⟨rfl, rfl, rfl, Nat.le_refl _, fun _ _ _ => rfl⟩
theorem Off.trans {T T' : Nat → Prop} {A B C : World} (h : Off T A B) (hw : Wider T T' A B) (k : Off T' B C) : Off T A C :=
  ⟨k.os.trans h.os, k.tape.trans h.tape, k.output.trans h.output, Nat.le_trans h.size k.size, fun i hi hT =>
    (k.block i (Nat.lt_of_lt_of_le hi h.size) (fun ht => by rcases hw i ht with h1 | h1; exact hT h1; omega)).trans (h.block i hi hT)⟩
theorem Off.mono {T T' : Nat → Prop} {W W' : World} (h : Off T W W') (ht : ∀ k, T k → T' k) : Off T' W W' := ⟨h.os, h.tape, h.output, h.size, fun k hk hn => h.block k hk (fun e => hn (ht k e))⟩
theorem Off.of_below {T : Nat → Prop} {W W' : World} (h : Below W.heap.size W W') : Off T W W' := ⟨h.os, h.tape, h.output, h.size, fun k hk _ => h.block k hk⟩
theorem Off.of_grown {T : Nat → Prop} {W W' : World} {row : Option Nat} (h : W.grownBy W' row) (hr : ∀ k, row = some k → T k) : Off T W W' :=
  ⟨h.os, h.tape, h.output, h.size, fun k hk hn => h.block k hk (fun e => hn (hr k e.symm))⟩
theorem Off.below {T : Nat → Prop} {W W' : World} (h : Off T W W') (B : Nat) (hB : B ≤ W.heap.size) (hT : ∀ k, T k → B ≤ k) : Below B W W' :=
  ⟨h.os, h.tape, h.output, h.size, fun k hk => h.block k (Nat.lt_of_lt_of_le hk hB) (fun ht => by have := hT k ht; omega)⟩
theorem Off.cell {T : Nat → Prop} {W W' : World} (h : Off T W W') {b o : Nat} {v : Value} (hc : W.cell? ⟨b, o, none⟩ = some v) (ht : ¬ T b) : W'.cell? ⟨b, o, none⟩ = some v := by
  rw [World.cell?_of_block (w := W) (a := ⟨b, o, none⟩) (h.block b (World.block_lt_of_cell? W _ hc) ht)]; exact hc
theorem Off.cellsBlock {T : Nat → Prop} {W W' : World} (h : Off T W W') {b : Nat} {o : Obj} (hc : W.heap[b]? = some o) (ht : ¬ T b) : W'.heap[b]? = some o := by
  rw [h.block b (Array.getElem?_eq_some_iff.1 hc).1 ht]; exact hc
theorem Off.putObj {T : Nat → Prop} (W : World) {l : Nat} (o : Obj) (hl : T l) : Off T W (W.putObj l o) := Off.of_grown (grownBy_putObj' W l o) (fun k e => by cases e; exact hl)
theorem Off.alloc (T : Nat → Prop) (W : World) (o : Obj) : Off T W (W.alloc o) := Off.of_below ((Below.refl _ W).alloc (Nat.le_refl _) o)
theorem Own.off {B : Nat} {E : TypeId} {W W' : World} {a : Option Addr} {n cap : Nat} {xs : List Value} {T : Nat → Prop} (h : Own B E W a n cap xs) (ho : Off T W W') (ht : ∀ k, (Value.slice a n cap).ownBlock = some k → ¬ T k) : Own B E W' a n cap xs := by
  refine ⟨h.1, ?_⟩
  rcases h.2 with hn | ⟨g, cap, cur, e, hbg, hgg, rest⟩
  · exact .inl hn
  · have hg : (Value.slice a n cap).ownBlock = some g ∨ True := .inr trivial
    refine .inr ⟨g, cap, cur, e, hbg, ho.cellsBlock hgg (ht g ?_), rest⟩
    simp only [Value.slice.injEq] at e
    obtain ⟨rfl, _, _⟩ := e
    rfl
theorem ints_off {k : IntKind} {W W' : World} {a : Option Addr} {zs : List Int} {T : Nat → Prop} (h : Ints k W a zs) (ho : Off T W W') (ht : ∀ b o, a = some ⟨b, o, none⟩ → ¬ T b) : Ints k W' a zs := by
  intro i hi
  obtain ⟨b, o, rfl, hc⟩ := h i hi
  exact ⟨b, o, rfl, ho.cell hc (ht b o rfl)⟩

/-- what is said of a world abides whatever turns in the territory -/
def Abide {α : Type} (J : (Nat → Prop) → List α → World → Prop) : Prop := ∀ T T' s W W', J T s W → Off T W W' → Wider T T' W W' → J T' s W'
/-- what a round keeps: the territory, and what the iterator reads -/
structure Kept (T R : Nat → Prop) (W W' : World) : Prop where
  size : W.heap.size ≤ W'.heap.size
  block : ∀ k, k < W.heap.size → T k ∨ R k → W'.heap[k]? = W.heap[k]?
theorem Kept.refl (T R : Nat → Prop) (W : World) : Kept T R W W := ⟨Nat.le_refl _, fun _ _ _ => rfl⟩
theorem Kept.trans {T R : Nat → Prop} {A B C : World} (h : Kept T R A B) (k : Kept T R B C) : Kept T R A C :=
  ⟨Nat.le_trans h.size k.size, fun i hi ht => (k.block i (Nat.lt_of_lt_of_le hi h.size) ht).trans (h.block i hi ht)⟩
theorem Kept.of_below {T R : Nat → Prop} {W W' : World} (h : Below W.heap.size W W') : Kept T R W W' := ⟨h.size, fun k hk _ => h.block k hk⟩
theorem Kept.of_grown {T R : Nat → Prop} {W W' : World} {row : Option Nat} (h : W.grownBy W' row) (hr : ∀ k, row = some k → ¬ (T k ∨ R k)) : Kept T R W W' :=
  ⟨h.size, fun k hk ht => h.block k hk (fun e => hr k e.symm ht)⟩
theorem Kept.off {T R : Nat → Prop} {W W' : World} (h : Off (fun k => ¬ (T k ∨ R k)) W W') : Kept T R W W' := ⟨h.size, fun k hk ht => h.block k hk (fun hn => hn ht)⟩
theorem Kept.below {T R : Nat → Prop} {W W' : World} (h : Kept T R W W') {k : Nat} {o : Obj} (hk : W.heap[k]? = some o) (ht : T k ∨ R k) : W'.heap[k]? = some o := by
  rw [h.block k (Array.getElem?_eq_some_iff.1 hk).1 ht]; exact hk
theorem Kept.cell {T R : Nat → Prop} {W W' : World} (h : Kept T R W W') {b o : Nat} {v : Value} (hc : W.cell? ⟨b, o, none⟩ = some v) (ht : T b ∨ R b) : W'.cell? ⟨b, o, none⟩ = some v := by
  rw [World.cell?_of_block (w := W) (a := ⟨b, o, none⟩) (h.block b (World.block_lt_of_cell? W _ hc) ht)]; exact hc

/-- AN ITERATOR's CONTRACT. R: the blocks that it reads and that lay ahead of it. -/
def SeqX {α : Type} (P : Program) (g : Nat) (lb : Array Value) (encs : α → Array Value) (R : Nat → Prop) (S Sp : List α → Prop) (N : Nat) (w : World) : Prop :=
  ∀ (l : Nat) (J Jx : (Nat → Prop) → List α → World → Prop) (W : World), Below w.heap.size w W → Abide J → Abide Jx →
    (∀ T pre x W1, J T pre W1 → pre.length < N → Sp (pre ++ [x]) → YieldAt Fence.wide 1 P l (encs x) W1 fun e W' =>
      (e = .returned (.bool true) ∧ J T (pre ++ [x]) W' ∧ Kept T R W1 W') ∨ (e = .returned (.bool false) ∧ Jx T (pre ++ [x]) W' ∧ Kept T (fun _ => False) W1 W')) →
    J (fun _ => False) [] W →
    CallsIn Fence.wide 2 P g (#[.func (.yield l) #[] #[]] ++ lb) W fun e W' => (∃ v, e = .returned v) ∧ ((∃ T xs, S xs ∧ J T xs W') ∨ (∃ T pre, Sp pre ∧ Jx T pre W'))

/-- how the body of a round may be left -/
def postX {α : Type} (T R : Nat → Prop) (I : (Nat → Prop) → List α → World → Prop) (Ix : Code → (Nat → Prop) → List α → World → Prop) (xs : List α) (W : World) : Exit → Act → World → Prop
  | .normal, _, W' => Kept T R W W' ∧ I T xs W'
  | .ret, _, W' => Kept T (fun _ => False) W W' ∧ Ix .ret T xs W'
  | .exit id, _, W' => Kept T (fun _ => False) W W' ∧ Ix (.exit id) T xs W'
  | .goto t, _, W' => Kept T (fun _ => False) W W' ∧ Ix (.goto t) T xs W'
  | .panic _, _, _ => False
  | .outgrown, _, _ => False

theorem wp_rangeX {α : Type} {P : Program} {g : Operand} {ps : Array Tmp} {assign body : Code} {Q : Exit → Act → World → Prop} {a : Act} {w : World}
    {gf : Nat} {lb : Array Value} (hg : a.eval g = .func (.func gf) #[] lb) (eg : ∀ args w, (callFunc gf args).run P w = .ok (.enter gf args) w)
    {encs : α → Array Value} {R : Nat → Prop} {S Sp : List α → Prop} {N : Nat} {w0 : World} (hseq : SeqX P gf lb encs R S Sp N w0)
    (hb0 : Below w0.heap.size w0 w) (hR : ∀ k, R k → k < w.heap.size) (hps : ∀ x, (encs x).size = ps.size)
    (I : (Nat → Prop) → List α → World → Prop) (Ix : Code → (Nat → Prop) → List α → World → Prop) (hI : Abide I) (hIx : ∀ c, Abide (Ix c)) (h0 : I (fun _ => False) [] w)
    (Ax : Array Value → (Nat → Prop) → α → Act → World → Prop) (hAx : ∀ T x a' W W', Ax a.tmps T x a' W → Off T W W' → Ax a.tmps T x a' W')
    (hassign : ∀ (l : Nat) (T : Nat → Prop) (pre : List α) (x : α) (W : World) (K : Act → World → Prop), I T pre W → (∀ a' W', Kept T R W W' → I T pre W' → Ax a.tmps T x a' W' → K a' W') →
      assign.wpIn (Fence.wide.inRound l) 1 P (Exit.then K (fun _ _ _ => False)) { tmps := (ps.zip (encs x)).foldl (fun t (p, v) => t.setIfInBounds p v) a.tmps, defers := [] } W)
    (hbody : ∀ (l : Nat) (T : Nat → Prop) (pre : List α) (x : α) (a' : Act) (W : World), T l → w.heap.size ≤ l → (∃ r, W.heap[l]? = some (.loop r)) → I T pre W → Ax a.tmps T x a' W → pre.length < N → Sp (pre ++ [x]) →
      body.wpIn (Fence.wide.inRound l) 1 P (postX T R I Ix (pre ++ [x]) W) a' W)
    (hdone : ∀ (D : Nat) (T : Nat → Prop) (xs : List α) (W : World), w.heap.size ≤ D → T D → S xs → I T xs W → W.heap[D]? = some (.deferred (some [])) → Q .normal { a with defers := { target := .collected D, args := #[] } :: a.defers } W)
    (hstop : ∀ (D : Nat) (c : Code) (T : Nat → Prop) (pre : List α) (W : World), w.heap.size ≤ D → T D → Sp pre → Ix c T pre W → W.heap[D]? = some (.deferred (some [])) → c.wp P Q { a with defers := { target := .collected D, args := #[] } :: a.defers } W) :
    (Code.rangeFunc g ps assign body).wp P Q a w := by
  refine (wpIn_wide (n := 3)).1 (wpIn_rangeFunc ?_)
  intro fn hfn
  obtain ⟨rec, hrec⟩ : ∃ rec : LoopState → Option Code → Loop, rec = fun st pe => { state := st, pending := pe, fn, tmps := a.tmps, params := ps, assign, body, defers := w.heap.size } := ⟨_, rfl⟩
  obtain ⟨W1, hW1⟩ : ∃ W1, (w.alloc (.deferred (some []))).alloc (.loop (rec .ready none)) = W1 := ⟨_, rfl⟩
  have hL1 : W1.heap[w.heap.size + 1]? = some (.loop (rec .ready none)) := by
    rw [← hW1]; have := World.alloc_heap_new (w.alloc (.deferred (some []))) (.loop (rec .ready none)); rwa [World.size_alloc] at this
  have hK1 : W1.heap[w.heap.size]? = some (.deferred (some [])) := by
    rw [← hW1]; exact (Below.heap_alloc _ _ _ (by simp)).trans (World.alloc_heap_new w _)
  obtain ⟨Bk, hBk⟩ : ∃ Bk : (Nat → Prop) → Nat → Prop, Bk = fun T k => T k ∨ k = w.heap.size ∨ k = w.heap.size + 1 := ⟨_, rfl⟩
  have hbw1 : Below w.heap.size w W1 := by rw [← hW1]; exact ((Below.refl _ w).alloc (Nat.le_refl _) _).alloc (by simp) _
  have hI1 : I (Bk (fun _ => False)) [] W1 := hI _ _ _ _ _ h0 (Off.of_below hbw1) (fun k hk => by
    rw [hBk] at hk
    rcases hk with h | h | h
    · exact h.elim
    · have := (Array.getElem?_eq_some_iff.1 hL1).1
      exact .inr ⟨by omega, by omega⟩
    · have := (Array.getElem?_eq_some_iff.1 hL1).1
      exact .inr ⟨by omega, by omega⟩)
  have hbW : ∀ (T T' : Nat → Prop) (W W' : World), Wider T T' W W' → w.heap.size + 1 < W.heap.size → Wider (Bk T) (Bk T') W W' := fun T T' W W' hw hs k hk => by
    rw [hBk] at hk ⊢
    rcases hk with h | h | h
    · rcases hw k h with h1 | h1
      · exact .inl (.inl h1)
      · exact .inr h1
    · exact .inl (.inr (.inl h))
    · exact .inl (.inr (.inr h))
  have hTk : ∀ (T : Nat → Prop) k, T k → Bk T k := fun T k h => by rw [hBk]; exact .inl h
  have hBl : ∀ T, Bk T (w.heap.size + 1) := fun T => by rw [hBk]; exact .inr (.inr rfl)
  have hBd : ∀ T, Bk T w.heap.size := fun T => by rw [hBk]; exact .inr (.inl rfl)
  -- what the iterator is told, and the two facts of book-keeping
  have hab : ∀ (I' : (Nat → Prop) → List α → World → Prop) (o : Obj), Abide I' →
      Abide (fun T s W => I' (Bk T) s W ∧ W.heap[w.heap.size + 1]? = some o ∧ W.heap[w.heap.size]? = some (.deferred (some [])) ∧ ¬ T (w.heap.size + 1) ∧ ¬ T w.heap.size) := by
    intro I' o hI' T T' s W W' ⟨h1, h2, h3, h4, h5⟩ ho hw
    have hs : w.heap.size + 1 < W.heap.size := (Array.getElem?_eq_some_iff.1 h2).1
    refine ⟨hI' _ _ _ _ _ h1 (ho.mono (hTk T)) (hbW T T' W W' hw hs), ho.cellsBlock h2 h4, ho.cellsBlock h3 h5, fun h => ?_, fun h => ?_⟩
    · rcases hw _ h with h6 | h6
      · exact h4 h6
      · omega
    · rcases hw _ h with h6 | h6
      · exact h5 h6
      · omega
  refine ⟨w.heap.size + 1, [{ target := .collected w.heap.size, args := #[] }], W1, { target := .fn (.func gf) lb, args := #[.func (.yield (w.heap.size + 1)) #[] #[]] }, W1, gf,
    #[.func (.yield (w.heap.size + 1)) #[] #[]] ++ lb, W1, ?_, ?_, fun _ _ => trivial, ?_, (fun h => by cases h), ?_⟩
  · rw [← hW1, hrec]; exact run_enterLoop_outer _ _ _ _ _
  · simp only [resolve, hg]
    simp [go_sem]
  · simp [invoke, go_sem, eg]
  · refine (hseq (w.heap.size + 1)
      (fun T pre W => I (Bk T) pre W ∧ W.heap[w.heap.size + 1]? = some (.loop (rec .ready none)) ∧ W.heap[w.heap.size]? = some (.deferred (some [])) ∧ ¬ T (w.heap.size + 1) ∧ ¬ T w.heap.size)
      (fun T pre W => ∃ c, Ix c (Bk T) pre W ∧ W.heap[w.heap.size + 1]? = some (.loop (rec .done (some c))) ∧ W.heap[w.heap.size]? = some (.deferred (some [])) ∧ ¬ T (w.heap.size + 1) ∧ ¬ T w.heap.size)
      W1 (hb0.trans (hbw1.mono hb0.size)) (hab I _ hI)
      (fun T T' s W W' h ho hw => by
        obtain ⟨c, h⟩ := h
        exact ⟨c, hab (Ix c) _ (hIx c) T T' s W W' h ho hw⟩)
      ?_ ⟨hI1, hL1, hK1, id, id⟩).mono ?_
    · -- one round
      rintro T pre x W ⟨hi, hl, hk, hn1, hn2⟩ hlen hsp
      have hlt : w.heap.size + 1 < W.heap.size := (Array.getElem?_eq_some_iff.1 hl).1
      have hy := run_yield (P := P) (args := encs x) hl (by rw [hrec]; exact hps x)
      rw [hrec] at hy
      refine ⟨fn, _, assign, body, hy, roundIn_of_wpIn hfn (hassign _ (Bk T) pre x W _ hi ?_)⟩
      clear hy
      intro a' Wa hka hia hax
      have hla := hka.below hl (.inl (hBl T))
      have hda := hka.below hk (.inl (hBd T))
      have hlta : w.heap.size + 1 < Wa.heap.size := (Array.getElem?_eq_some_iff.1 hla).1
      refine ⟨_, run_beginRound hla (by rw [hrec]), ?_⟩
      have hl2 : (Wa.putObj (w.heap.size + 1) (.loop { rec .ready none with state := .busy })).heap[w.heap.size + 1]? = some (.loop { rec .ready none with state := .busy }) := World.putObj_heap_same hlta
      have hk2 : (Wa.putObj (w.heap.size + 1) (.loop { rec .ready none with state := .busy })).heap[w.heap.size]? = some (.deferred (some [])) := (World.putObj_heap_other (by omega)).trans hda
      have ho2 : Off (Bk T) Wa (Wa.putObj (w.heap.size + 1) (.loop { rec .ready none with state := .busy })) := Off.putObj _ _ (hBl T)
      refine wpIn_mono (hbody _ (Bk T) pre x a' _ (hBl T) (by omega) ⟨_, hl2⟩ (hI _ _ _ _ _ hia ho2 (Wider.refl _ _ _)) (hAx _ _ _ _ _ hax ho2) hlen hsp) ?_
      have fin : ∀ (jump : Option Code) (W3 : World), Kept (Bk T) (fun _ => False) (Wa.putObj (w.heap.size + 1) (.loop { rec .ready none with state := .busy })) W3 →
          (Instr.endRound (w.heap.size + 1) jump).run P W3 = .ok (.bool jump.isNone) (W3.putObj (w.heap.size + 1) (.loop (rec (if jump.isNone then .ready else .done) jump))) ∧
          (W3.putObj (w.heap.size + 1) (.loop (rec (if jump.isNone then .ready else .done) jump))).heap[w.heap.size + 1]? = some (.loop (rec (if jump.isNone then .ready else .done) jump)) ∧
          (W3.putObj (w.heap.size + 1) (.loop (rec (if jump.isNone then .ready else .done) jump))).heap[w.heap.size]? = some (.deferred (some [])) := fun jump W3 hk3 => by
        have hl3 := hk3.below hl2 (.inl (hBl T))
        have := run_endRound (P := P) jump hl3
        rw [hrec] at this ⊢
        exact ⟨this, World.putObj_heap_same (Array.getElem?_eq_some_iff.1 hl3).1, (World.putObj_heap_other (by omega)).trans (hk3.below hk2 (.inl (hBd T)))⟩
      have keptF : ∀ (o : Obj) (W3 : World), Kept (Bk T) (fun _ => False) (Wa.putObj (w.heap.size + 1) (.loop { rec .ready none with state := .busy })) W3 → Kept T (fun _ => False) W (W3.putObj (w.heap.size + 1) o) := fun o W3 hk3 => by
        refine ⟨Nat.le_trans hka.size (Nat.le_trans (by simp) (Nat.le_trans hk3.size (by simp))), fun k hk h => ?_⟩
        have hT : T k := h.elim id False.elim
        have hkl : k ≠ w.heap.size + 1 := by rintro rfl; exact hn1 hT
        rw [World.putObj_heap_other hkl, hk3.block k (by simp; exact Nat.lt_of_lt_of_le hk hka.size) (.inl (hTk T k hT)), World.putObj_heap_other hkl, hka.block k hk (.inl (hTk T k hT))]
      rintro e a3 W3 hp
      cases e with
      | normal =>
        obtain ⟨hk3, hi3⟩ := hp
        obtain ⟨hr, hl4, hk4⟩ := fin none W3 ⟨hk3.size, fun k hk h => hk3.block k hk (.inl (h.elim id False.elim))⟩
        refine ⟨_, _, hr, .inl ⟨rfl, ⟨hI _ _ _ _ _ hi3 (Off.putObj _ _ (hBl T)) (Wider.refl _ _ _), hl4, hk4, hn1, hn2⟩, ?_⟩⟩
        refine ⟨Nat.le_trans hka.size (Nat.le_trans (by simp) (Nat.le_trans hk3.size (by simp))), fun k hk h => ?_⟩
        have hkl : k ≠ w.heap.size + 1 := by
          rintro rfl
          rcases h with h | h
          · exact hn1 h
          · have := hR _ h; omega
        have h' : Bk T k ∨ R k := h.elim (fun h => .inl (hTk T k h)) .inr
        rw [World.putObj_heap_other hkl, hk3.block k (by simp; exact Nat.lt_of_lt_of_le hk hka.size) h', World.putObj_heap_other hkl, hka.block k hk h']
      | ret =>
        obtain ⟨hk3, hi3⟩ := hp
        obtain ⟨hr, hl4, hk4⟩ := fin (some .ret) W3 hk3
        exact ⟨_, _, hr, .inr ⟨rfl, ⟨.ret, hIx _ _ _ _ _ _ hi3 (Off.putObj _ _ (hBl T)) (Wider.refl _ _ _), hl4, hk4, hn1, hn2⟩, keptF _ W3 hk3⟩⟩
      | exit id =>
        obtain ⟨hk3, hi3⟩ := hp
        obtain ⟨hr, hl4, hk4⟩ := fin (some (.exit id)) W3 hk3
        exact ⟨_, _, hr, .inr ⟨rfl, ⟨.exit id, hIx _ _ _ _ _ _ hi3 (Off.putObj _ _ (hBl T)) (Wider.refl _ _ _), hl4, hk4, hn1, hn2⟩, keptF _ W3 hk3⟩⟩
      | goto t =>
        obtain ⟨hk3, hi3⟩ := hp
        obtain ⟨hr, hl4, hk4⟩ := fin (some (.goto t)) W3 hk3
        exact ⟨_, _, hr, .inr ⟨rfl, ⟨.goto t, hIx _ _ _ _ _ _ hi3 (Off.putObj _ _ (hBl T)) (Wider.refl _ _ _), hl4, hk4, hn1, hn2⟩, keptF _ W3 hk3⟩⟩
      | panic ch => exact hp.elim
      | outgrown => exact hp.elim
    · -- behind the iterator
      rintro e W2 ⟨⟨v, rfl⟩, (⟨T, xs, hS, hi, hl, hk, hn1, hn2⟩ | ⟨T, pre, hSp, c, hi, hl, hk, hn1, hn2⟩)⟩
      · exact ⟨none, _, by have := run_endLoop (P := P) hl (by rw [hrec]; simp); rw [hrec] at this; exact this, hdone _ (Bk T) xs _ (Nat.le_refl _) (hBd T) hS (hI _ _ _ _ _ hi (Off.putObj _ _ (hBl T)) (Wider.refl _ _ _)) ((World.putObj_heap_other (by omega)).trans hk)⟩
      · exact ⟨some c, _, by have := run_endLoop (P := P) hl (by rw [hrec]; simp); rw [hrec] at this; exact this, (wpIn_wide (n := 3)).2 (hstop _ c (Bk T) pre _ (Nat.le_refl _) (hBd T) hSp (hIx _ _ _ _ _ _ hi (Off.putObj _ _ (hBl T)) (Wider.refl _ _ _)) ((World.putObj_heap_other (by omega)).trans hk))⟩

/-- a function that holds ranges over functions -/
theorem calls_of_wpM {P : Program} {f : FuncId} {fn : Func} {c : Code} {args : Array Value} {w : World} {Rr : Ending → World → Prop} (hf : P.funcs[f]? = some fn) (hb : fn.body = some c)
    (h : c.wp P (bodyPostM Fence.wide 3 P fn Rr) { tmps := args ++ Array.replicate (fn.ntmps - args.size) undef, defers := [] } w) : Calls P f args w Rr :=
  callsIn_wide.1 (callsIn_of_wp_marks (n := 3) hf hb trivial (wpIn_wide.2 h) rfl)
theorem leaves_mark {P : Program} {fn : Func} {tmps : Array Value} {Rr : Ending → World → Prop} {D : Nat} {ds : List Deferred} {w : World} (hk : w.heap[D]? = some (.deferred (some [])))
    (h : LeavesInM Fence.wide 3 P fn tmps Rr ds .returning (w.putObj D (.deferred none))) : LeavesInM Fence.wide 3 P fn tmps Rr ({ target := .collected D, args := #[] } :: ds) .returning w :=
  ⟨by simp, .inl ⟨D, _, rfl, run_takeDeferred hk, h⟩⟩
theorem leaves_nil {P : Program} {fn : Func} {tmps : Array Value} {Rr : Ending → World → Prop} {w : World} {v : Value} (hv : (results fn tmps).run P w = .ok v w) (h : Rr (.returned v) w) :
    LeavesInM Fence.wide 3 P fn tmps Rr [] .returning w := ⟨v, hv, h⟩
end Go.Proofs.Ytabbabkmojaoaaa
