/-
  Plain laws: visual and logical places lead back to one another.
-/
import Derived.Test.YtnnfhldfdiaddaaE2
set_option linter.unusedVariables false
namespace Go.Proofs.Ytnnfhldfdiaddaa

theorem placesL_ord {lv : List Int} {v : Nat} (hv : v < (ord lv).length) : ∃ i : Nat, (ord lv)[v] = (i : Int) ∧ i < lv.length ∧ lv.getD i 0 ≠ -1 ∧ (placesL lv).getD i 0 = (v : Int) := by
  have hm := (mem_ord lv _).1 (List.getElem_mem hv)
  obtain ⟨i, hi⟩ : ∃ i : Nat, (ord lv)[v] = (i : Int) := ⟨(ord lv)[v].toNat, by omega⟩
  have hil : i < lv.length := by omega
  have hs : lv.getD i 0 ≠ -1 := by have := hm.2.2; rw [hi] at this; simpa using this
  refine ⟨i, hi, hil, hs, ?_⟩
  obtain ⟨j, hj, hj2, hj3⟩ := places_shown lv i hil (by rw [← lv_getD lv i hil]; exact hs)
  rw [List.getD_eq_getElem?_getD, List.getElem?_eq_getElem (by rw [placesL_length]; exact hil), Option.getD_some, hj3]
  by_cases e : j = v
  · rw [e]
  · have := ord_inj lv j v hj hv e
    rw [hj2, hi] at this
    exact absurd rfl this

theorem ord_at_place {lv : List Int} {i : Nat} (hi : i < lv.length) (hs : lv.getD i 0 ≠ -1) : ∃ v : Nat, ∃ h : v < (ord lv).length, (placesL lv).getD i 0 = (v : Int) ∧ (ord lv)[v] = (i : Int) := by
  obtain ⟨j, hj, hj2, hj3⟩ := places_shown lv i hi (by rw [← lv_getD lv i hi]; exact hs)
  exact ⟨j, hj, by rw [List.getD_eq_getElem?_getD, List.getElem?_eq_getElem (by rw [placesL_length]; exact hi), Option.getD_some, hj3], hj2⟩

theorem beh_of_shown {base : Int} {lv : List Int} {i : Nat} {p l : Int} (hi : i < lv.length) (hs : lv.getD i 0 ≠ -1) (h : BehP base lv (i + 1) p l) : p = (placesL lv).getD i 0 + 1 - lv.getD i 0 % 2 := by
  rcases h with ⟨hg, _⟩ | ⟨j, hj, _, hs2, hg, hp, _⟩
  · exact absurd (hg i (by omega)) hs
  · by_cases e : j = i
    · rw [hp, e]
    · exact absurd (hg i (by omega) (by omega)) hs
theorem ahe_of_shown {base : Int} {lv : List Int} {i : Nat} {p l : Int} (hi : i < lv.length) (hs : lv.getD i 0 ≠ -1) (h : AheP base lv i p l) : p = (placesL lv).getD i 0 + lv.getD i 0 % 2 := by
  rcases h with ⟨hg, _⟩ | ⟨j, hj, _, hs2, hg, hp, _⟩
  · exact absurd (hg i (by omega) hi) hs
  · by_cases e : j = i
    · rw [hp, e]
    · exact absurd (hg i (by omega) (by omega)) hs
theorem beh_zero {base : Int} {lv : List Int} {p l : Int} (h : BehP base lv 0 p l) : p = base * (ord lv).length := by
  rcases h with ⟨_, h, _⟩ | ⟨i, hi, _⟩
  · exact h
  · omega
theorem ahe_end {base : Int} {lv : List Int} {p l : Int} (h : AheP base lv lv.length p l) : p = (1 - base) * (ord lv).length := by
  rcases h with ⟨_, h, _⟩ | ⟨i, hi, hi2, _⟩
  · exact h
  · omega

theorem placeAt_bd {base : Int} {lv : List Int} (h01 : base = 0 ∨ base = 1) (v : Nat) (hv : v ≤ (ord lv).length) (left : Bool) : 0 ≤ placeAt base lv v left ∧ placeAt base lv v left ≤ lv.length := by
  unfold placeAt
  cases left with
  | true =>
    rw [if_pos rfl]
    split
    · rcases h01 with rfl | rfl <;> simp
    · obtain ⟨i, hi, hil, _, _⟩ := placesL_ord (lv := lv) (v := v - 1) (by omega)
      rw [ord_getD lv (v - 1) (by omega), hi]
      omega
  | false =>
    rw [if_neg (by simp)]
    split
    · rcases h01 with rfl | rfl <;> simp
    · obtain ⟨i, hi, hil, _, _⟩ := placesL_ord (lv := lv) (v := v) (by omega)
      rw [ord_getD lv v (by omega), hi]
      omega

/-- from a visual place to a logical one, and back -/
theorem leads_back {base : Int} {lv : List Int} (h01 : base = 0 ∨ base = 1) (v : Nat) (hv : v ≤ (ord lv).length) (left : Bool) {s t : Int} (hc : CaretP base lv (placeAt base lv v left).toNat s t) : s = v ∨ t = v := by
  obtain ⟨p, l, q, l2, hb, ha, hh⟩ := hc
  have key : p = v ∨ q = v := by
    unfold placeAt at hb ha
    cases left with
    | true =>
      rw [if_pos rfl] at hb ha
      by_cases h0 : v = 0
      · subst h0
        rw [if_pos rfl] at hb ha
        rcases h01 with rfl | rfl
        · have := beh_zero (by simpa using hb); left; rw [this]; simp
        · have := ahe_end (by simpa using ha); right; rw [this]; simp
      · rw [if_neg h0] at hb ha
        obtain ⟨i, hi, hil, hs, hpl⟩ := placesL_ord (lv := lv) (v := v - 1) (by omega)
        rw [ord_getD lv (v - 1) (by omega), hi] at hb ha
        simp only [Int.toNat_natCast] at hb ha
        by_cases ho : lv.getD i 0 % 2 = 0
        · rw [ho] at hb
          have := beh_of_shown hil hs (by rw [show (((i : Int) + 1 - 0)).toNat = i + 1 by omega] at hb; exact hb)
          left; rw [this, hpl, ho]; omega
        · have h1 : lv.getD i 0 % 2 = 1 := by omega
          rw [h1] at ha
          have := ahe_of_shown hil hs (by rw [show (((i : Int) + 1 - 1)).toNat = i by omega] at ha; exact ha)
          right; rw [this, hpl, h1]; omega
    | false =>
      rw [if_neg (by simp)] at hb ha
      by_cases h0 : v = (ord lv).length
      · rw [if_pos h0] at hb ha
        rcases h01 with rfl | rfl
        · have := ahe_end (by simpa using ha); right; rw [this, h0]; simp
        · have := beh_zero (by simpa using hb); left; rw [this, h0]; simp
      · rw [if_neg h0] at hb ha
        obtain ⟨i, hi, hil, hs, hpl⟩ := placesL_ord (lv := lv) (v := v) (by omega)
        rw [ord_getD lv v (by omega), hi] at hb ha
        simp only [Int.toNat_natCast] at hb ha
        by_cases ho : lv.getD i 0 % 2 = 0
        · rw [ho] at ha
          have := ahe_of_shown hil hs (by rw [show (((i : Int) + 0)).toNat = i by omega] at ha; exact ha)
          right; rw [this, hpl, ho]; omega
        · have h1 : lv.getD i 0 % 2 = 1 := by omega
          rw [h1] at hb
          have := beh_of_shown hil hs (by rw [show (((i : Int) + 1)).toNat = i + 1 by omega] at hb; exact hb)
          left; rw [this, hpl, h1]; omega
  rcases hh with ⟨_, h2, h3⟩ | ⟨_, h2, h3⟩ <;> (rw [h2, h3]; rcases key with k | k <;> simp [k])

/-- nothing but Gone characters between two logical places -/
def GoneB (lv : List Int) (p a : Nat) : Prop := ∀ j, min p a ≤ j → j < max p a → lv.getD j 0 = -1
instance (lv : List Int) (p a : Nat) : Decidable (GoneB lv p a) :=
  decidable_of_iff (∀ j, j < max p a → min p a ≤ j → lv.getD j 0 = -1) ⟨fun h j h1 h2 => h j h2 h1, fun h j h1 h2 => h j h2 h1⟩

/-- the k-th try of four: which visual place, which edge -/
def tryP (s t : Int) (k : Nat) : Int := if k < 2 then s else t
def tryE (k : Nat) : Bool := decide (k % 2 = 0)

/-- from a logical place to a visual one, and back -/
theorem leads_there {base : Int} {lv : List Int} (h01 : base = 0 ∨ base = 1) (a : Nat) (hat : a ≤ lv.length) {s t : Int} (hc : CaretP base lv a s t) :
    ∃ k, k < 4 ∧ GoneB lv (placeAt base lv (tryP s t k).toNat (tryE k)).toNat a := by
  obtain ⟨p, l, q, l2, hb, ha, hh⟩ := hc
  have key : ∃ left : Bool, GoneB lv (placeAt base lv p.toNat left).toNat a := by
    rcases hb with ⟨hg, hp, _⟩ | ⟨i, hia, hi, hs, hg, hp, _⟩
    · rcases h01 with rfl | rfl
      · refine ⟨true, ?_⟩
        have : p.toNat = 0 := by rw [hp]; simp
        unfold placeAt
        rw [this, if_pos rfl, if_pos rfl]
        intro j h1 h2
        exact hg j (by simp at h2; omega)
      · refine ⟨false, ?_⟩
        have : p.toNat = (ord lv).length := by rw [hp]; simp
        unfold placeAt
        rw [this, if_neg (by simp), if_pos rfl]
        intro j h1 h2
        exact hg j (by simp at h2; omega)
    · obtain ⟨v, hv, hv1, hv2⟩ := ord_at_place hi hs
      by_cases ho : lv.getD i 0 % 2 = 0
      · refine ⟨true, ?_⟩
        have hpv : p.toNat = v + 1 := by rw [hp, hv1, ho]; omega
        unfold placeAt
        rw [hpv, if_pos rfl, if_neg (by omega), show v + 1 - 1 = v by omega, ord_getD lv v hv, hv2]
        simp only [Int.toNat_natCast]
        rw [ho]
        intro j h1 h2
        exact hg j (by omega) (by omega)
      · have h1 : lv.getD i 0 % 2 = 1 := by omega
        refine ⟨false, ?_⟩
        have hpv : p.toNat = v := by rw [hp, hv1, h1]; omega
        unfold placeAt
        rw [hpv, if_neg (by simp), if_neg (by omega), ord_getD lv v hv, hv2]
        simp only [Int.toNat_natCast]
        rw [h1]
        intro j h2 h3
        exact hg j (by omega) (by omega)
  obtain ⟨left, hk⟩ := key
  rcases hh with ⟨_, h2, h3⟩ | ⟨_, h2, h3⟩
  · cases left with
    | true => exact ⟨2, by omega, by simpa [tryP, tryE, h3] using hk⟩
    | false => exact ⟨3, by omega, by simpa [tryP, tryE, h3] using hk⟩
  · cases left with
    | true => exact ⟨0, by omega, by simpa [tryP, tryE, h2] using hk⟩
    | false => exact ⟨1, by omega, by simpa [tryP, tryE, h2] using hk⟩
end Go.Proofs.Ytnnfhldfdiaddaa
