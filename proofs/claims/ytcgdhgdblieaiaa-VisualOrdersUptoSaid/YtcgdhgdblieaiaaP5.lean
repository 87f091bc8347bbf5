/-
  Plain laws: a list that is filled at the places that another one names.
-/
import Derived.Test.YtcgdhgdblieaiaaP4
set_option linter.unusedVariables false
namespace Go.Proofs.Ytcgdhgdblieaiaa

/-- the list base, with f j laid at place o[j], for each j below k -/
def fillL {α : Type} (o : List Int) (f : Nat → α) (base : List α) : Nat → List α
  | 0 => base
  | k + 1 => (fillL o f base k).set (o.getD k 0).toNat (f k)
section
variable {α : Type} (o : List Int) (f : Nat → α) (base : List α)
theorem fillL_length (k : Nat) : (fillL o f base k).length = base.length := by
  induction k with
  | zero => rfl
  | succ k ih => simp [fillL, ih]
theorem fillL_other (k : Nat) (i : Nat) (h : ∀ j, j < k → (o.getD j 0).toNat ≠ i) : (fillL o f base k)[i]? = base[i]? := by
  induction k with
  | zero => rfl
  | succ k ih =>
    rw [fillL, List.getElem?_set, if_neg (h k (by omega))]
    exact ih (fun j hj => h j (by omega))
theorem fillL_at (k : Nat) (j : Nat) (hj : j < k) (hi : (o.getD j 0).toNat < base.length) (h : ∀ j', j' < k → j' ≠ j → (o.getD j' 0).toNat ≠ (o.getD j 0).toNat) : (fillL o f base k)[(o.getD j 0).toNat]? = some (f j) := by
  induction k with
  | zero => omega
  | succ k ih =>
    rw [fillL, List.getElem?_set]
    by_cases e : j = k
    · subst e; rw [if_pos rfl, if_pos (by rw [fillL_length]; exact hi)]
    · rw [if_neg (h k (by omega) (by omega))]
      exact ih (by omega) (fun j' h1 h2 => h j' (by omega) h2)
end

theorem nodup_shownIdx (lv : List Int) : (shownIdx lv).Nodup := by
  unfold shownIdx
  refine List.Pairwise.map _ (R := fun a b => a ≠ b) (fun a b h => by omega) ?_
  exact List.Pairwise.filter _ List.nodup_range
theorem nodup_ord (lv : List Int) : (ord lv).Nodup := (ord_perm lv).nodup_iff.2 (nodup_shownIdx lv)

theorem ord_inj (lv : List Int) (i j : Nat) (hi : i < (ord lv).length) (hj : j < (ord lv).length) (hne : i ≠ j) : (ord lv)[i].toNat ≠ (ord lv)[j].toNat := by
  intro e
  have h1 := (mem_ord lv _).1 (List.getElem_mem hi)
  have h2 := (mem_ord lv _).1 (List.getElem_mem hj)
  have hp := List.pairwise_iff_getElem.1 (nodup_ord lv)
  rcases Nat.lt_or_gt_of_ne hne with h | h
  · exact hp i j hi hj h (by omega)
  · exact hp j i hj hi h (by omega)

theorem ord_getD (lv : List Int) (i : Nat) (hi : i < (ord lv).length) : (ord lv).getD i 0 = (ord lv)[i] := by simp [hi]

/-- filled by an order: at a place that is shown -/
theorem fill_shown {α : Type} (lv : List Int) (f : Nat → α) (base : List α) (hb : base.length = lv.length) (i : Nat) (hi : i < lv.length) (hs : lv[i] ≠ -1) :
    ∃ j, ∃ h : j < (ord lv).length, (ord lv)[j] = (i : Int) ∧ (fillL (ord lv) f base (ord lv).length)[i]? = some (f j) := by
  have hm : (i : Int) ∈ ord lv := (mem_ord lv _).2 ⟨by omega, by omega, by simpa [hi] using hs⟩
  obtain ⟨j, hj, hji⟩ := List.getElem_of_mem hm
  refine ⟨j, hj, hji, ?_⟩
  have hd : ((ord lv).getD j 0).toNat = i := by rw [ord_getD lv j hj, hji]; simp
  have := fillL_at (ord lv) f base (ord lv).length j hj (by rw [hd, hb]; exact hi) (fun j' h1 h2 => by rw [ord_getD lv j' h1, ord_getD lv j hj]; exact ord_inj lv j' j h1 hj h2)
  rwa [hd] at this
/-- and at one that is not -/
theorem fill_gone {α : Type} (lv : List Int) (f : Nat → α) (base : List α) (hb : base.length = lv.length) (i : Nat) (hi : i < lv.length) (hs : lv[i] = -1) :
    (fillL (ord lv) f base (ord lv).length)[i]? = base[i]? := by
  refine fillL_other _ _ _ _ _ ?_
  intro j hj e
  rw [ord_getD lv j hj] at e
  have h1 := (mem_ord lv _).1 (List.getElem_mem hj)
  rw [e] at h1
  have h2 := h1.2.2
  rw [List.getD_eq_getElem?_getD, List.getElem?_eq_getElem hi] at h2
  exact h2 hs

def placesL (lv : List Int) : List Int := fillL (ord lv) (fun k => (k : Int)) (List.replicate lv.length (-1)) (ord lv).length
def backL (l lv : List Int) : List Int := fillL (ord lv) (fun k => l.getD k 0) (List.replicate lv.length 0) (ord lv).length
theorem placesL_length (lv : List Int) : (placesL lv).length = lv.length := by simp [placesL, fillL_length]
theorem backL_length (l lv : List Int) : (backL l lv).length = lv.length := by simp [backL, fillL_length]
theorem places_shown (lv : List Int) (i : Nat) (hi : i < lv.length) (hs : lv[i] ≠ -1) : ∃ j, ∃ h : j < (ord lv).length, (ord lv)[j] = (i : Int) ∧ (placesL lv)[i]'(by rw [placesL_length]; exact hi) = (j : Int) := by
  obtain ⟨j, h, h1, h2⟩ := fill_shown lv (fun k => (k : Int)) (List.replicate lv.length (-1)) (by simp) i hi hs
  exact ⟨j, h, h1, (List.getElem?_eq_some_iff.1 h2).2⟩
theorem places_gone (lv : List Int) (i : Nat) (hi : i < lv.length) (hs : lv[i] = -1) : (placesL lv)[i]'(by rw [placesL_length]; exact hi) = -1 := by
  have h2 := fill_gone lv (fun k => (k : Int)) (List.replicate lv.length (-1)) (by simp) i hi hs
  rw [List.getElem?_replicate, if_pos hi] at h2
  exact (List.getElem?_eq_some_iff.1 h2).2
theorem back_shown (l lv : List Int) (i : Nat) (hi : i < lv.length) (hs : lv[i] ≠ -1) : ∃ j, ∃ h : j < (ord lv).length, (ord lv)[j] = (i : Int) ∧ (backL l lv)[i]'(by rw [backL_length]; exact hi) = l.getD j 0 := by
  obtain ⟨j, h, h1, h2⟩ := fill_shown lv (fun k => l.getD k 0) (List.replicate lv.length 0) (by simp) i hi hs
  exact ⟨j, h, h1, (List.getElem?_eq_some_iff.1 h2).2⟩
theorem back_gone (l lv : List Int) (i : Nat) (hi : i < lv.length) (hs : lv[i] = -1) : (backL l lv)[i]'(by rw [backL_length]; exact hi) = 0 := by
  have h2 := fill_gone lv (fun k => l.getD k 0) (List.replicate lv.length 0) (by simp) i hi hs
  rw [List.getElem?_replicate, if_pos hi] at h2
  exact (List.getElem?_eq_some_iff.1 h2).2
theorem shownIdx_count (lv : List Int) (h : ∀ x ∈ lv, -1 ≤ x) : (shownL lv).length = (ord lv).length := by
  rw [ord_length, ← shown_vals' lv h, List.length_map]
end Go.Proofs.Ytcgdhgdblieaiaa
