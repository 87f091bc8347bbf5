/-
  Plain laws: the carets of a line's ends; a line of one level.
-/
import Derived.Test.YtnnfhldfdiaddaaL5
import Derived.Test.YtnnfhldfdiaddaaP4
set_option linter.unusedVariables false
namespace Go.Proofs.Ytnnfhldfdiaddaa

/-- the last shown character, at level 0, stays the last -/
theorem turns_last {α : Type} (p : α → Bool) (X : List α) (x : α) (h : p x = false) : turns p (X ++ [x]) = turns p X ++ [x] := by
  have := turns_split p X [] x h
  simpa [turns_nil] using this

theorem passes_last (lv : List Int) (k : Nat) (X : List Int) (x : Int) (h : ∀ j, 1 ≤ j → j ≤ k → lvGe lv j x = false) : passes lv k (X ++ [x]) = passes lv k X ++ [x] := by
  induction k generalizing X with
  | zero => rfl
  | succ k ih =>
    rw [passes, passes, turns_last _ X x (h (k + 1) (by omega) (by omega)), ih _ (fun j h1 h2 => h j h1 (by omega))]

/-- the places shown: those before the last one, and it -/
theorem shownIdx_last (lv : List Int) (i : Nat) (hi : i < lv.length) (hs : lv.getD i 0 ≠ -1) (hg : ∀ j, i < j → j < lv.length → lv.getD j 0 = -1) :
    shownIdx lv = shownIdx (lv.take i) ++ [(i : Int)] := by
  have H : ∀ k, i + 1 ≤ k → k ≤ lv.length → shownIdx (lv.take k) = shownIdx (lv.take i) ++ [(i : Int)] := by
    intro k hk1 hk2
    induction k with
    | zero => omega
    | succ k ih =>
      rw [shownIdx_snoc lv k (by omega)]
      by_cases e : k = i
      · subst e
        rw [if_neg (by rw [List.getD_eq_getElem?_getD, List.getElem?_eq_getElem hi] at hs; simpa using hs)]
      · have hgk := hg k (by omega) (by omega)
        rw [List.getD_eq_getElem?_getD, List.getElem?_eq_getElem (by omega)] at hgk
        rw [if_pos (by simpa using hgk), List.append_nil]
        exact ih (by omega) (by omega)
  have := H lv.length (by omega) (Nat.le_refl _)
  rwa [List.take_length] at this

theorem lv_getD (lv : List Int) (i : Nat) (hi : i < lv.length) : lv.getD i 0 = lv[i] := by simp [hi]

/-- the last shown character of the base's own level stands at the line's end -/
def turnsAbove (lv : List Int) : Nat → List Int → List Int
  | 0, l => l
  | k + 1, l => turnsAbove lv k (turns (lvGe lv (k + 2)) l)

theorem last_place {base : Int} {lv : List Int} (h01 : base = 0 ∨ base = 1) (hok : ∀ x ∈ lv, -1 ≤ x ∧ x ≤ 126) (hab : ∀ x ∈ lv, x ≠ -1 → base ≤ x) (i : Nat) (hi : i < lv.length) (hl : lv.getD i 0 = base) (hg : ∀ j, i < j → j < lv.length → lv.getD j 0 = -1) :
    (placesL lv).getD i 0 + 1 - base = (1 - base) * (ord lv).length := by
  have hbd := high_bd lv (fun x hx => (hok x hx).2)
  have hsh := shownIdx_last lv i hi (by omega) hg
  have hord := ord_eq lv 126 hbd.1 hbd.2
  rw [hsh] at hord
  obtain ⟨j, hj, hj2, hj3⟩ := places_shown lv i hi (by rw [← lv_getD lv i hi]; omega)
  rw [show (placesL lv).getD i 0 = (j : Int) by rw [List.getD_eq_getElem?_getD, List.getElem?_eq_getElem (by rw [placesL_length]; exact hi), Option.getD_some, hj3]]
  rcases h01 with rfl | rfl
  · rw [passes_last lv 126 _ (i : Int) (fun k h1 _ => by simp only [lvGe, Int.toNat_natCast, hl, decide_eq_false_iff_not]; omega)] at hord
    have hlen := congrArg List.length hord
    simp at hlen
    have : j = (ord lv).length - 1 := by
      by_cases e : j = (ord lv).length - 1
      · exact e
      · have hlast : (ord lv)[(ord lv).length - 1]'(by omega) = (i : Int) := by
          have h2 := List.getElem_of_eq hord (i := (ord lv).length - 1) (by omega)
          rw [h2, List.getElem_append_right (by omega)]
          simp [show (ord lv).length - 1 - (passes lv 126 (shownIdx (List.take i lv))).length = 0 by omega]
        have := ord_inj lv j ((ord lv).length - 1) hj (by omega) e
        rw [hj2, hlast] at this
        exact absurd rfl this
    omega
  · have hall : ∀ x ∈ turns (lvGe lv 1) [], True := by simp
    have hp2 : ord lv = (passes lv 126 (shownIdx (lv.take i) ++ [(i : Int)])) := hord
    -- the passes above 1, then the whole line turned round
    have hrev : ∀ k (X : List Int), (∀ x ∈ X, lvGe lv 1 x = true) → passes lv (k + 1) (X ++ [(i : Int)]) = (i : Int) :: (turnsAbove lv k X).reverse := by
      intro k
      induction k with
      | zero =>
        intro X hX
        show turns (lvGe lv 1) (X ++ [(i : Int)]) = _
        rw [turns_all _ _ (fun x hx => by
          rcases List.mem_append.1 hx with hx | hx
          · exact hX x hx
          · simp at hx; subst hx; simp only [lvGe, Int.toNat_natCast, hl, decide_eq_true_eq]; omega)]
        simp [turnsAbove]
      | succ k ih =>
        intro X hX
        rw [passes, turns_last _ X _ (by simp only [lvGe, Int.toNat_natCast, hl, decide_eq_false_iff_not]; omega), ih _ (fun x hx => hX x ((turns_mem _ _ _).1 hx))]
        rfl
    rw [hrev 125 _ (by
      intro x hx
      have hm : x ∈ shownIdx lv := by rw [hsh]; exact List.mem_append_left _ hx
      rw [mem_shownIdx] at hm
      have hx2 : x.toNat < lv.length := by omega
      have := hab _ (List.getElem_mem hx2) (by rw [← lv_getD lv _ hx2]; exact hm.2.2)
      simp only [lvGe, decide_eq_true_eq, lv_getD lv _ hx2]
      omega)] at hp2
    have h0 : (ord lv)[0]'(by rw [hp2]; simp) = (i : Int) := by
      have := List.getElem_of_eq hp2 (i := 0) (by rw [hp2]; simp)
      rw [this]; rfl
    have : j = 0 := by
      by_cases e : j = 0
      · exact e
      · have := ord_inj lv j 0 hj (by omega) e
        rw [hj2, h0] at this
        exact absurd rfl this
    omega
end Go.Proofs.Ytnnfhldfdiaddaa
