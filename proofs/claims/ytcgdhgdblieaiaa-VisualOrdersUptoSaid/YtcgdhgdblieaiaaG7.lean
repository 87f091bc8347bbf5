/-
  Plain laws: the runs told from the shown places; the insertion sort.
-/
import Derived.Test.YtcgdhgdblieaiaaG2
set_option linter.unusedVariables false
namespace Go.Proofs.Ytcgdhgdblieaiaa

def stepR (lv : List Int) (rs : List RunD) (x : Int) : List RunD := runPush rs x.toNat (lv.getD x.toNat 0)
def runsSh (lv : List Int) (k : Nat) : List RunD := ((shownIdx lv).take k).foldl (stepR lv) []
theorem runsSh_zero (lv : List Int) : runsSh lv 0 = [] := rfl
theorem runsSh_step (lv : List Int) (k : Nat) (h : k < (shownIdx lv).length) : runsSh lv (k + 1) = runPush (runsSh lv k) (shownIdx lv)[k].toNat (lv.getD (shownIdx lv)[k].toNat 0) := by
  unfold runsSh
  rw [List.take_succ_eq_append_getElem h, List.foldl_append]
  rfl
theorem fold_shown (lv : List Int) (n : Nat) : (((List.range n).filter (fun i => decide (lv.getD i 0 ≠ -1))).map (fun (i : Nat) => (i : Int))).foldl (stepR lv) [] = runsTo lv n := by
  induction n with
  | zero => rfl
  | succ n ih =>
    rw [List.range_succ, List.filter_append, List.map_append, List.foldl_append, ih, runsTo]
    by_cases h : lv.getD n 0 = -1
    · rw [if_pos h, List.filter_cons_of_neg (by simpa using h)]
      rfl
    · rw [if_neg h, List.filter_cons_of_pos (by simpa using h)]
      rfl
theorem runsSh_all (lv : List Int) : runsSh lv (shownIdx lv).length = runsL lv := by
  unfold runsSh runsL
  rw [List.take_length]
  exact fold_shown lv lv.length
theorem foldR_length (lv : List Int) (l : List Int) (acc : List RunD) : (l.foldl (stepR lv) acc).length ≤ acc.length + l.length := by
  induction l generalizing acc with
  | nil => simp
  | cons x t ih =>
    have h := ih (stepR lv acc x)
    have h2 := (runPush_length acc x.toNat (lv.getD x.toNat 0)).2
    rw [List.foldl_cons, List.length_cons]
    unfold stepR at h ⊢
    omega
theorem runsSh_length (lv : List Int) (k : Nat) : (runsSh lv k).length ≤ k := by
  have h := foldR_length lv ((shownIdx lv).take k) []
  unfold runsSh
  rw [List.length_take] at h
  simp only [List.length_nil] at h
  omega
theorem runPush_last (rs : List RunD) (i : Nat) (l : Int) : ∃ init r, runPush rs i l = init ++ [r] ∧ r.l = l := by
  by_cases h : ∃ init r, rs = init ++ [r] ∧ r.l = l
  · obtain ⟨init, r, rfl, rfl⟩ := h
    exact ⟨init, _, runPush_same init r i, rfl⟩
  · refine ⟨rs, ⟨i, i + 1, l⟩, runPush_new rs i l ?_, rfl⟩
    intro r hr hrl
    obtain ⟨ys, e⟩ := List.getLast?_eq_some_iff.1 hr
    exact h ⟨ys, r, e, hrl⟩
theorem runsSh_last (lv : List Int) (k : Nat) (h : k < (shownIdx lv).length) : ∃ init r, runsSh lv (k + 1) = init ++ [r] ∧ r.l = lv.getD (shownIdx lv)[k].toNat 0 := by
  rw [runsSh_step lv k h]
  exact runPush_last _ _ _

/-! ### insertion -/
def noR : RunD := ⟨0, 0, 0⟩
def kL (lv : List Int) (L : List RunD) (j : Nat) : Int := keyR lv (L.getD j noR)
def swapR (L : List RunD) (k : Nat) : List RunD := (L.set k (L.getD (k - 1) noR)).set (k - 1) (L.getD k noR)
theorem swapR_length (L : List RunD) (k : Nat) : (swapR L k).length = L.length := by simp [swapR]
theorem swapR_perm (L : List RunD) (k : Nat) (h0 : 0 < k) (h : k < L.length) : (swapR L k).Perm L := by
  unfold swapR
  have e1 : L.getD (k - 1) noR = L[k - 1]'(by omega) := by simp [show k - 1 < L.length by omega]
  have e2 : L.getD k noR = L[k] := by simp [h]
  rw [e1, e2]
  exact List.set_set_perm h (by omega)
theorem swapR_key (lv : List Int) (L : List RunD) (k : Nat) (h0 : 0 < k) (h : k < L.length) (j : Nat) : kL lv (swapR L k) j = if j = k then kL lv L (k - 1) else if j = k - 1 then kL lv L k else kL lv L j := by
  unfold kL swapR
  simp only [List.getD_eq_getElem?_getD, List.getElem?_set, List.length_set]
  by_cases e1 : j = k
  · subst e1
    rw [if_neg (show ¬ j - 1 = j by omega), if_pos rfl, if_pos h, if_pos rfl]
    simp
  · rw [if_neg e1]
    by_cases e2 : j = k - 1
    · subst e2
      rw [if_pos rfl, if_pos rfl, if_pos (by omega)]
      simp
    · rw [if_neg (by omega), if_neg (by omega), if_neg e2]
def SortTo (lv : List Int) (L : List RunD) (i : Nat) : Prop := ∀ a b, a < b → b < i → kL lv L a ≤ kL lv L b
def InsTo (lv : List Int) (L : List RunD) (i k : Nat) : Prop := ∀ a b, a < b → b ≤ i → b ≠ k → kL lv L a ≤ kL lv L b
theorem InsTo.start {lv : List Int} {L : List RunD} {i : Nat} (h : SortTo lv L i) : InsTo lv L i i := fun a b hab hb hne => h a b hab (by omega)
theorem InsTo.swap {lv : List Int} {L : List RunD} {i k : Nat} (h : InsTo lv L i k) (h0 : 0 < k) (hki : k ≤ i) (hl : k < L.length) (hlt : kL lv L k < kL lv L (k - 1)) : InsTo lv (swapR L k) i (k - 1) := by
  intro a b hab hb hne
  rw [swapR_key lv L k h0 hl, swapR_key lv L k h0 hl]
  by_cases e1 : b = k
  · subst e1
    rw [if_neg (show ¬ a = b by omega), if_pos rfl]
    by_cases e2 : a = b - 1
    · subst e2
      rw [if_pos rfl]
      omega
    · rw [if_neg e2]
      exact h a (b - 1) (by omega) (by omega) (by omega)
  · rw [if_neg e1, if_neg hne]
    by_cases e3 : a = k
    · rw [if_pos e3]
      exact h (k - 1) b (by omega) hb e1
    · rw [if_neg e3]
      by_cases e4 : a = k - 1
      · rw [if_pos e4]
        exact h k b (by omega) hb e1
      · rw [if_neg e4]
        exact h a b hab hb e1
theorem InsTo.stop {lv : List Int} {L : List RunD} {i k : Nat} (h : InsTo lv L i k) (hki : k ≤ i) (hs : k = 0 ∨ ¬ kL lv L k < kL lv L (k - 1)) : SortTo lv L (i + 1) := by
  intro a b hab hb
  by_cases e : b = k
  · subst e
    rcases hs with h0 | hs
    · omega
    · by_cases e2 : a = b - 1
      · subst e2; omega
      · have := h a (b - 1) (by omega) (by omega) (by omega)
        omega
  · exact h a b hab (by omega) e
theorem SortTo.start (lv : List Int) (L : List RunD) (i : Nat) (h : i ≤ 1) : SortTo lv L i := fun a b hab hb => by omega
theorem SortTo.runs {lv : List Int} (hok : ∀ x ∈ lv, -1 ≤ x ∧ x ≤ 126) {L : List RunD} (hp : L.Perm (runsL lv)) (h : SortTo lv L L.length) : L = runsS lv := by
  refine runsS_only lv hok L hp ?_
  rw [List.pairwise_iff_getElem]
  intro i j hi hj hij
  have := h i j hij hj
  unfold kL at this
  simpa [hi, hj] using this
end Go.Proofs.Ytcgdhgdblieaiaa
