/-
  Plain laws: numbers that are not themselves: their stretches, their blocks.
-/
import Derived.Test.YtabbabkmojaoaaaBQF
import Derived.Test.YtabbabkmojaoaaaSP0
set_option linter.unusedVariables false
set_option linter.unusedSimpArgs false
namespace Go.Proofs.Ytabbabkmojaoaaa
open Go.RowKit

section
variable {α : Type}
/-- what is known of the stretches behind n numbers, where the numbers from a to b have values that are not themselves -/
structure NanR (isN : α → Bool) (ne : α → α → Bool) (f : Nat → α) (a b n : Nat) : Prop where
  lt : (spT ne f n).2 < n
  one : isN (f (spT ne f n).2) = true → n = (spT ne f n).2 + 1
  cnt : (spT ne f n).1.countP (fun s => isN s.v) = min (spT ne f n).2 (b + 1) - a
  no : ∀ r, (spT ne f n).2 < r → r < n → ¬ (a ≤ r ∧ r ≤ b)
  pre : ∀ pre x, pre ++ [x] <+: (spT ne f n).1 → isN x.v = true → x.f = x.t ∧ x.f = a + pre.countP (fun s => isN s.v)
theorem nanR {isN : α → Bool} {ne : α → α → Bool} {f : Nat → α} {a b : Nat} (hab : a ≤ b) {N : Nat} (hN : ∀ r, r < N → isN (f r) = decide (a ≤ r ∧ r ≤ b)) (hne : ∀ x y, isN x = true ∨ isN y = true → ne x y = true) : ∀ n, n ≠ 0 → n ≤ N → NanR isN ne f a b n := by
  intro n
  induction n with
  | zero => intro h; exact absurd rfl h
  | succ n ih =>
    intro _ hnN
    by_cases h0 : n = 0
    · subst h0
      refine ⟨by rw [spT_one]; exact Nat.lt_succ_self _, fun _ => by rw [spT_one], by rw [spT_one]; simp, fun r h1 h2 => by omega, fun pre x h => ?_⟩
      rw [spT_one] at h
      have := h.length_le
      simp at this
    · have I := ih h0 (by omega)
      by_cases h : ne (f n) (f (spT ne f n).2) = true
      · have e := spT_cut h0 h
        have hs : isN (f (spT ne f n).2) = decide (a ≤ (spT ne f n).2 ∧ (spT ne f n).2 ≤ b) := hN _ (by have := I.lt; omega)
        have I1 := I.lt
        have I2 := I.one
        have I3 := I.cnt
        have I4 := I.no
        have I5 := I.pre
        rw [← Nat.add_zero n] at *
        simp only [Nat.add_zero] at *
        generalize spT ne f n = X at *
        obtain ⟨L, s⟩ := X
        simp only at *
        refine ⟨by rw [e]; exact Nat.lt_succ_self _, fun _ => by rw [e], ?_, fun r h1 h2 => by rw [e] at h1; simp only at h1; omega, ?_⟩
        · rw [e]
          simp only [List.countP_append, List.countP_cons, List.countP_nil, I3]
          by_cases hx : a ≤ s ∧ s ≤ b
          · have h2 := I2 (by rw [hs]; exact decide_eq_true hx)
            rw [hs, decide_eq_true hx]
            simp only [if_true]
            omega
          · rw [hs, decide_eq_false hx]
            have h4 := I4 a
            simp only [Bool.false_eq_true, if_false]
            omega
        · intro pre x hp hx
          rw [e] at hp
          rcases List.prefix_concat_iff.1 hp with hp | hp
          · obtain ⟨h1, h2⟩ := List.append_inj' hp rfl
            simp only [List.cons.injEq, and_true] at h2
            subst h1
            subst h2
            simp only at hx ⊢
            have h9 := of_decide_eq_true (hs ▸ hx : decide (a ≤ s ∧ s ≤ b) = true)
            have h8 := I2 hx
            rw [I3]
            omega
          · exact I5 pre x hp hx
      · have e := spT_on h0 h
        refine ⟨by rw [e]; have := I.lt; omega, fun hx => ?_, by rw [e]; exact I.cnt, fun r h1 h2 => ?_, by rw [e]; exact I.pre⟩
        · rw [e] at hx
          exact absurd (hne _ _ (.inr hx)) h
        · rw [e] at h1
          by_cases hr : r = n
          · subst hr
            intro hb
            exact h (hne _ _ (.inl (by rw [hN _ (by omega)]; exact decide_eq_true hb)))
          · exact I.no r h1 (by omega)
theorem nan_told {isN : α → Bool} {ne : α → α → Bool} {f : Nat → α} {a b : Nat} (hab : a ≤ b) (N : Nat) (hN : ∀ r, r < N → isN (f r) = decide (a ≤ r ∧ r ≤ b)) (hne : ∀ x y, isN x = true ∨ isN y = true → ne x y = true) (hbN : b + 1 < N) :
    (∀ pre x, pre ++ [x] <+: spL ne f N → isN x.v = true → x.f = x.t ∧ x.f = a + pre.countP (fun s => isN s.v)) ∧ (spL ne f N).countP (fun s => isN s.v) = b + 1 - a := by
  have J := nanR hab hN hne N (by omega) (Nat.le_refl _)
  have hs : isN (f (spT ne f N).2) = decide (a ≤ (spT ne f N).2 ∧ (spT ne f N).2 ≤ b) := hN _ J.lt
  have J1 := J.lt
  have J2 := J.one
  have J3 := J.cnt
  have J4 := J.no
  have J5 := J.pre
  have hno : ¬ (a ≤ (spT ne f N).2 ∧ (spT ne f N).2 ≤ b) := fun h => by
    have := J2 (by rw [hs]; exact decide_eq_true h)
    omega
  rw [decide_eq_false hno] at hs
  unfold spL
  generalize spT ne f N = X at *
  obtain ⟨L, s⟩ := X
  simp only at *
  constructor
  · intro pre x hp hx
    rcases List.prefix_concat_iff.1 hp with hp | hp
    · obtain ⟨-, h2⟩ := List.append_inj' hp rfl
      simp only [List.cons.injEq, and_true] at h2
      rw [h2] at hx
      simp only at hx
      rw [hs] at hx
      cases hx
    · exact J5 pre x hp hx
  · rw [List.countP_append, List.countP_cons, List.countP_nil, J3]
    simp only [hs, Bool.false_eq_true, if_false]
    have h4 := J4 a
    omega
theorem eqL_map {β : Type} (eqB : α → α → Bool) (f g : β → α) : ∀ l : List β, (eqL eqB (l.map f) (l.map g) = true ↔ ∀ k ∈ l, eqB (f k) (g k) = true)
  | [] => by simp [eqL]
  | x :: l => by
    rw [List.map_cons, List.map_cons, eqL, Bool.and_eq_true, eqL_map eqB f g l]
    simp
end

namespace VF
theorem eqL_blk (f : Nat → El) (i j : Nat) : eqL eq8 (blkF f i) (blkF f j) = true ↔ ∀ k, k < 64 → eq8 (f (64 * i + k)) (f (64 * j + k)) = true := by
  unfold blkF
  rw [eqL_map]
  simp
theorem addS_lows (S : MkS El) (b : List El) : (addS eq8 S b).lows = (numB eq8 S.lows b).1 := by
  by_cases h : (S.blocks + 1) % 64 = 0
  · rw [addS_full h]
  · rw [addS_less h]
theorem numB_new {S : MkS El} {b : List El} (h : ∀ m ∈ S.lows, eqL eq8 b m = false) : (numB eq8 S.lows b).1.length = S.lows.length + 1 := by
  have : findB eq8 b S.lows = none := by
    unfold findB
    rw [List.findIdx?_eq_none_iff]
    intro m hm
    exact h m hm
  unfold numB
  rw [this]
  simp
theorem numB_old {S : MkS El} {b m : List El} (hm : m ∈ S.lows) (h : eqL eq8 b m = true) : (numB eq8 S.lows b).1.length = S.lows.length := by
  cases e : findB eq8 b S.lows with
  | none =>
    unfold findB at e
    have := List.findIdx?_eq_none_iff.1 e m hm
    rw [h] at this
    cases this
  | some k => unfold numB; rw [e]
theorem numB_any (S : MkS El) (b : List El) : S.lows.length ≤ (numB eq8 S.lows b).1.length ∧ (numB eq8 S.lows b).1.length ≤ S.lows.length + 1 := by
  refine ⟨?_, numB_le eq8 S.lows b⟩
  unfold numB
  cases findB eq8 b S.lows with
  | none => simp
  | some k => simp
/-- how many low blocks: each one with a value that is not itself, one for c, and one for all others -/
theorem lows_many (f : Nat → El) (hi : InjB eq8 (blkF f)) (A B c : Nat) (hAB : A ≤ B) (hB : B < 17408) (hnan : ∀ k, A ≤ k → k ≤ B → ∀ j, j < 17408 → eqL eq8 (blkF f k) (blkF f j) = false)
    (hpl : ∀ j k, ¬ (A ≤ j ∧ j ≤ B) → j ≠ c → ¬ (A ≤ k ∧ k ≤ B) → k ≠ c → eqL eq8 (blkF f k) (blkF f j) = true) : ∀ k, k ≤ 17408 →
    min k (B + 1) - A ≤ (mkF f k).lows.length ∧ (mkF f k).lows.length ≤ min k (B + 1) - A + (if c < k then 1 else 0) + 1 ∧
      ((∀ j, j < k → (A ≤ j ∧ j ≤ B) ∨ j = c) → (mkF f k).lows.length ≤ min k (B + 1) - A + (if c < k then 1 else 0)) := by
  intro k
  induction k with
  | zero => intro _; have h0 : (mkF f 0).lows.length = 0 := rfl; exact ⟨by omega, by omega, fun _ => by omega⟩
  | succ k ih =>
    intro hk
    obtain ⟨h1, h2, h3⟩ := ih (by omega)
    have hinv := inv8 f hi k (by omega)
    rw [mkF, addS_lows]
    obtain ⟨g1, g2⟩ := numB_any (mkF f k) (blkF f k)
    by_cases hn : A ≤ k ∧ k ≤ B
    · have hnew := numB_new (S := mkF f k) (b := blkF f k) (fun m hm => by
        obtain ⟨j, hj, rfl⟩ := hinv.fl m hm
        exact hnan k hn.1 hn.2 j (by omega))
      have hc : (if c < k then 1 else 0) ≤ (if c < k + 1 then 1 else 0) := by split <;> split <;> omega
      refine ⟨by omega, by omega, fun h => ?_⟩
      have := h3 (fun j hj => h j (by omega))
      omega
    · by_cases hc : k = c
      · subst hc
        rw [if_neg (Nat.lt_irrefl _)] at h2 h3
        rw [if_pos (Nat.lt_succ_self _)]
        refine ⟨by omega, by omega, fun h => ?_⟩
        have := h3 (fun j hj => h j (by omega))
        omega
      · have hcc : (if c < k + 1 then 1 else 0) = (if c < k then 1 else 0) := by split <;> split <;> omega
        rw [hcc]
        refine ⟨by omega, ?_, fun h => ?_⟩
        · by_cases hb : ∀ j, j < k → (A ≤ j ∧ j ≤ B) ∨ j = c
          · have := h3 hb
            omega
          · obtain ⟨j, hj⟩ := Classical.not_forall.1 hb
            obtain ⟨hj, hj2⟩ := Classical.not_imp.1 hj
            rw [not_or] at hj2
            have := numB_old (S := mkF f k) (b := blkF f k) (hinv.hl j hj) (hpl j k hj2.1 hj2.2 hn hc)
            omega
        · exact absurd (h k (Nat.lt_succ_self _)) (by rw [not_or]; exact ⟨hn, hc⟩)

/-! ### words that are no numbers -/
def C15 : Nat := 4609434218613702656
def isN (x : El) : Bool := !eq8 x x
theorem nan_read {b : Nat} (h : 0x7ff0000000000000 < b % 2 ^ 63) : ∃ s t, Ieee.double.read b = .nan s t := by
  refine ⟨b / Ieee.double.signWeight % 2 == 1, b % Ieee.double.signWeight - Ieee.double.infRung, ?_⟩
  have e1 : Ieee.double.signWeight = 2 ^ 63 := by decide
  have e2 : Ieee.double.infRung = 0x7ff0000000000000 := by decide
  have e3 : Ieee.double.binade = 2 ^ 52 := by decide
  unfold Ieee.Format.read
  simp only [e1, e2, e3]
  rw [if_neg (by omega), if_neg (by omega), if_neg (by omega)]
theorem nan_order {b : Nat} (h : 0x7ff0000000000000 < b % 2 ^ 63) (y : Nat) : FloatKind.f64.format.order b y = none ∧ FloatKind.f64.format.order y b = none := by
  obtain ⟨s, t, e⟩ := nan_read h
  show Ieee.double.order b y = none ∧ Ieee.double.order y b = none
  unfold Ieee.Format.order
  rw [e]
  cases Ieee.double.read y <;> exact ⟨rfl, rfl⟩
theorem nan_eq8 {b : Nat} (h : 0x7ff0000000000000 < b % 2 ^ 63) (y : Nat) : eq8 b y = false ∧ eq8 y b = false := by
  unfold eq8
  rw [(nan_order h y).1, (nan_order h y).2]
  exact ⟨rfl, rfl⟩
theorem isN_order {x : Nat} (h : isN x = true) (y : Nat) : FloatKind.f64.format.order x y = none ∧ FloatKind.f64.format.order y x = none := by
  unfold isN eq8 at h
  show Ieee.double.order x y = none ∧ Ieee.double.order y x = none
  have h2 : (FloatKind.f64.format.order x x == some .eq) = false := by simpa using h
  change (Ieee.double.order x x == some .eq) = false at h2
  unfold Ieee.Format.order at *
  cases e : Ieee.double.read x with
  | nan s t => cases Ieee.double.read y <;> exact ⟨rfl, rfl⟩
  | infinity s => rw [e] at h2; simp [Ieee.Datum.order] at h2
  | number s m i => rw [e] at h2; simp [Ieee.Datum.order] at h2
/-- the values that the statement plays with -/
def flF (a b n z : Nat) (r : Nat) : El := if a ≤ r ∧ r ≤ b then n else if r = b + 1 then z else C15
structure FlOk (n z : Nat) : Prop where
  nan : 0x7ff0000000000000 < n % 2 ^ 63
  zero : z = 0 ∨ z = 2 ^ 63
theorem FlOk.zz {n z : Nat} (h : FlOk n z) : eq8 z z = true ∧ eq8 C15 z = false ∧ eq8 z C15 = false ∧ eq8 C15 C15 = true ∧ eq8 z 0 = true := by
  rcases h.zero with e | e <;> subst e <;> decide +kernel
theorem flF_isN {a b n z : Nat} (h : FlOk n z) (r : Nat) : isN (flF a b n z r) = decide (a ≤ r ∧ r ≤ b) := by
  unfold isN flF
  by_cases h1 : a ≤ r ∧ r ≤ b
  · rw [if_pos h1, (nan_eq8 h.nan n).1, decide_eq_true h1]; rfl
  · rw [if_neg h1, decide_eq_false h1]
    by_cases h2 : r = b + 1
    · rw [if_pos h2, h.zz.1]; rfl
    · rw [if_neg h2, h.zz.2.2.2.1]; rfl
theorem flF_inj {a b n z : Nat} (h : FlOk n z) (r s : Nat) (he : eq8 (flF a b n z r) (flF a b n z s) = true) : flF a b n z s = flF a b n z r := by
  unfold flF at *
  obtain ⟨-, z2, z3, -, -⟩ := h.zz
  by_cases h1 : a ≤ r ∧ r ≤ b
  · rw [if_pos h1, (nan_eq8 h.nan _).1] at he; cases he
  · by_cases h2 : a ≤ s ∧ s ≤ b
    · rw [if_pos h2, (nan_eq8 h.nan _).2] at he; cases he
    · rw [if_neg h1, if_neg h2] at *
      by_cases h3 : r = b + 1
      · by_cases h4 : s = b + 1
        · rw [if_pos h3, if_pos h4]
        · rw [if_pos h3, if_neg h4, z3] at he; cases he
      · by_cases h4 : s = b + 1
        · rw [if_neg h3, if_pos h4, z2] at he; cases he
        · rw [if_neg h3, if_neg h4]
theorem flF_injB {a b n z : Nat} (h : FlOk n z) : InjB eq8 (blkF (flF a b n z)) := fun i j _ _ he => by
  rw [eqL_blk] at he
  unfold blkF
  apply List.map_congr_left
  intro k hk
  exact flF_inj h _ _ (he k (List.mem_range.1 hk))
theorem flF_many {a b n z : Nat} (h : FlOk n z) (hab : a ≤ b) (hb : b ≤ 1114100) : b / 64 - a / 64 + 1 ≤ (mkF (flF a b n z) 17408).lows.length ∧ (mkF (flF a b n z) 17408).lows.length ≤ b / 64 - a / 64 + 1 + 3 := by
  have hq : a / 64 ≤ b / 64 := Nat.div_le_div_right hab
  have hM := lows_many (flF a b n z) (flF_injB h) (a / 64) (b / 64) ((b + 1) / 64) hq (by omega) (fun k h1 h2 j hj => ?_) (fun j k h1 h2 h3 h4 => ?_) 17408 (Nat.le_refl _)
  · obtain ⟨h1, h2, -⟩ := hM
    have hc : (if (b + 1) / 64 < 17408 then 1 else 0) ≤ 1 := by split <;> omega
    omega
  · cases e : eqL eq8 (blkF (flF a b n z) k) (blkF (flF a b n z) j) with
    | false => rfl
    | true =>
      rw [eqL_blk] at e
      obtain ⟨r, hr1, hr2, hr3⟩ : ∃ r, a ≤ 64 * k + r ∧ 64 * k + r ≤ b ∧ r < 64 := by
        by_cases h5 : a ≤ 64 * k
        · exact ⟨0, by omega, by omega, by omega⟩
        · exact ⟨a - 64 * k, by omega, by omega, by omega⟩
      have := e r hr3
      unfold flF at this
      rw [if_pos ⟨hr1, hr2⟩, (nan_eq8 h.nan _).1] at this
      cases this
  · rw [eqL_blk]
    intro r hr
    unfold flF
    rw [if_neg (by omega), if_neg (by omega), if_neg (by omega), if_neg (by omega)]
    exact h.zz.2.2.2.1
theorem flF_manyK {a b n z : Nat} (h : FlOk n z) (hab : a ≤ b) (hb : b ≤ 1114100) (S : MkS El) (hS : ∃ K, K = 17408 ∧ S = mkF (flF a b n z) K) : b / 64 - a / 64 + 1 ≤ S.lows.length ∧ S.lows.length ≤ b / 64 - a / 64 + 1 + 3 := by
  obtain ⟨K, hK, rfl⟩ := hS
  rw [hK]
  exact flF_many h hab hb
theorem flF_fS {a b n z : Nat} (r : Nat) : fS C15 [⟨(a : Int), (b : Int), n⟩, ⟨(b : Int) + 1, (b : Int) + 1, z⟩] r = flF a b n z r := by
  unfold fS flF ownF
  by_cases h1 : a ≤ r ∧ r ≤ b
  · have e1 : hasS (r : Nat) ⟨(a : Int), (b : Int), n⟩ = true := decide_eq_true (by simp only; omega)
    simp [List.findIdx?_cons, e1, h1]
  · have e1 : hasS (r : Nat) ⟨(a : Int), (b : Int), n⟩ = false := decide_eq_false (by simp only; omega)
    by_cases h2 : r = b + 1
    · have e2 : hasS (r : Nat) ⟨(b : Int) + 1, (b : Int) + 1, z⟩ = true := decide_eq_true (by simp only; omega)
      rw [if_neg h1, if_pos h2]
      simp [List.findIdx?_cons, e1, e2]
    · have e2 : hasS (r : Nat) ⟨(b : Int) + 1, (b : Int) + 1, z⟩ = false := decide_eq_false (by simp only; omega)
      rw [if_neg h1, if_neg h2]
      simp [List.findIdx?_cons, e1, e2]
theorem fl_good {a b n z : Nat} (hab : a ≤ b) (hb : b ≤ 1114100) : ∀ j, j < 2 → ¬ badS ([⟨(a : Int), (b : Int), n⟩, ⟨(b : Int) + 1, (b : Int) + 1, z⟩].getD j default) := fun j hj => by
  rcases Nat.lt_or_ge j 1 with h | h
  · obtain rfl : j = 0 := by omega
    unfold badS; simp; omega
  · obtain rfl : j = 1 := by omega
    unfold badS; simp; omega
theorem fl_no_meet {a b n z : Nat} : ∀ j, j < 2 → ¬ meetS [⟨(a : Int), (b : Int), n⟩, ⟨(b : Int) + 1, (b : Int) + 1, z⟩] j := fun j hj => by
  rcases Nat.lt_or_ge j 1 with h | h
  · obtain rfl : j = 0 := by omega
    rintro ⟨x, -, h2⟩
    exact h2 rfl
  · obtain rfl : j = 1 := by omega
    rintro ⟨x, h1, h2⟩
    have h3 := of_decide_eq_true h1
    simp at h3
    have e1 : hasS x ⟨(a : Int), (b : Int), n⟩ = false := decide_eq_false (by simp only; omega)
    exact h2 (by unfold ownF; simp [List.findIdx?_cons, e1])
end VF
end Go.Proofs.Ytabbabkmojaoaaa
