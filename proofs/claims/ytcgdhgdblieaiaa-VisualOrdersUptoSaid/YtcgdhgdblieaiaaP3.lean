/-
  Plain laws: levels that are raised by two, all of them, or those above 1: the order is the same.
-/
import Derived.Test.YtcgdhgdblieaiaaP2
namespace Go.Proofs.Ytcgdhgdblieaiaa

def raises (all : Bool) (x : Int) : Bool := decide (0 ≤ x) && (all || decide (1 < x))
def raiseL (all : Bool) (zs : List Int) : List Int := zs.map (fun x => if raises all x then x + 2 else x)

theorem raiseL_length (all : Bool) (zs : List Int) : (raiseL all zs).length = zs.length := by simp [raiseL]
theorem raiseL_yes (all : Bool) (zs : List Int) (k : Nat) (h : k < zs.length) (hx : raises all zs[k] = true) : raiseL all (zs.take (k + 1)) = raiseL all (zs.take k) ++ [zs[k] + 2] := by
  unfold raiseL; rw [List.take_succ_eq_append_getElem h, List.map_append]; simp [hx]
theorem raiseL_no (all : Bool) (zs : List Int) (k : Nat) (h : k < zs.length) (hx : raises all zs[k] = false) : raiseL all (zs.take (k + 1)) = raiseL all (zs.take k) ++ [zs[k]] := by
  unfold raiseL; rw [List.take_succ_eq_append_getElem h, List.map_append]; simp [hx]

theorem raiseL_get (all : Bool) (zs : List Int) (i : Nat) (hi : i < zs.length) : (raiseL all zs).getD i 0 = if raises all zs[i] then zs[i] + 2 else zs[i] := by
  simp [raiseL, hi]

theorem shownIdx_raise (all : Bool) (zs : List Int) (h : ∀ x ∈ zs, -1 ≤ x) : shownIdx (raiseL all zs) = shownIdx zs := by
  unfold shownIdx
  rw [raiseL_length]
  congr 1
  apply List.filter_congr
  intro i hi
  rw [List.mem_range] at hi
  rw [raiseL_get all zs i hi]
  have hz := h _ (List.getElem_mem hi)
  simp only [List.getD_eq_getElem?_getD, List.getElem?_eq_getElem hi, Option.getD_some]
  unfold raises
  by_cases h0 : 0 ≤ zs[i]
  · have e : decide (zs[i] ≠ -1) = true := by simp; omega
    rw [e]
    split <;> simp <;> omega
  · have e : (decide (0 ≤ zs[i]) && (all || decide (1 < zs[i]))) = false := by simp [h0]
    rw [if_neg (by simp [e])]

theorem passes_all (zs : List Int) (X : List Int) (hz : ∀ x ∈ zs, -1 ≤ x) (hX : ∀ x ∈ X, 0 ≤ x ∧ x < zs.length ∧ zs.getD x.toNat 0 ≠ -1) (k : Nat) :
    passes (raiseL true zs) (k + 2) X = passes zs k X := by
  have val : ∀ x ∈ X, (raiseL true zs).getD x.toNat 0 = zs.getD x.toNat 0 + 2 ∧ 0 ≤ zs.getD x.toNat 0 := by
    intro x hx
    obtain ⟨h0, h1, h2⟩ := hX x hx
    have hi : x.toNat < zs.length := by omega
    rw [raiseL_get true zs _ hi]
    simp only [List.getD_eq_getElem?_getD, List.getElem?_eq_getElem hi, Option.getD_some] at h2 ⊢
    have := hz _ (List.getElem_mem hi)
    rw [if_pos (by simp [raises]; omega)]
    exact ⟨rfl, by omega⟩
  induction k generalizing X with
  | zero =>
    show turns (lvGe (raiseL true zs) 1) (turns (lvGe (raiseL true zs) 2) X) = X
    rw [turns_all (lvGe (raiseL true zs) 2) X (fun x hx => by have := val x hx; simp only [lvGe, decide_eq_true_eq]; omega), turns_all _ _ (fun x hx => by have := val x (by simpa using hx); simp only [lvGe, decide_eq_true_eq]; omega), List.reverse_reverse]
  | succ k ih =>
    rw [passes, passes, turns_congr (lvGe (raiseL true zs) (k + 2 + 1)) (lvGe zs (k + 1)) X (fun x hx => by
      have := val x hx
      simp only [lvGe, decide_eq_decide]
      omega)]
    exact ih _ (fun x hx => hX x ((turns_mem _ _ _).1 hx)) (fun x hx => val x ((turns_mem _ _ _).1 hx))

theorem passes_some (zs : List Int) (X : List Int) (hX : ∀ x ∈ X, 0 ≤ x ∧ x < zs.length) (k : Nat) :
    passes (raiseL false zs) (k + 3) X = passes zs (k + 1) X := by
  have val : ∀ x ∈ X, (raiseL false zs).getD x.toNat 0 = if 1 < zs.getD x.toNat 0 then zs.getD x.toNat 0 + 2 else zs.getD x.toNat 0 := by
    intro x hx
    obtain ⟨h0, h1⟩ := hX x hx
    have hi : x.toNat < zs.length := by omega
    rw [raiseL_get false zs _ hi]
    simp only [List.getD_eq_getElem?_getD, List.getElem?_eq_getElem hi, Option.getD_some, raises, Bool.false_or, Bool.and_eq_true, decide_eq_true_eq]
    by_cases h1 : 1 < zs[x.toNat]
    · rw [if_pos h1, if_pos ⟨by omega, h1⟩]
    · rw [if_neg h1, if_neg (fun h => h1 h.2)]
  induction k generalizing X with
  | zero =>
    show turns (lvGe (raiseL false zs) 1) (turns (lvGe (raiseL false zs) 2) (turns (lvGe (raiseL false zs) 3) X)) = turns (lvGe zs 1) X
    rw [turns_congr (lvGe (raiseL false zs) 3) (lvGe (raiseL false zs) 2) X (fun x hx => by
      have := val x hx
      simp only [lvGe, decide_eq_decide, this]
      split <;> omega), turns_turns]
    refine turns_congr _ _ _ (fun x hx => ?_)
    have := val x hx
    simp only [lvGe, decide_eq_decide, this]
    split <;> omega
  | succ k ih =>
    rw [passes, passes, turns_congr (lvGe (raiseL false zs) (k + 3 + 1)) (lvGe zs (k + 1 + 1)) X (fun x hx => by
      have := val x hx
      simp only [lvGe, decide_eq_decide, this]
      split <;> omega)]
    exact ih _ (fun x hx => hX x ((turns_mem _ _ _).1 hx)) (fun x hx => val x ((turns_mem _ _ _).1 hx))

theorem raised_ok (all : Bool) (zs : List Int) (h : ∀ x ∈ zs, -1 ≤ x ∧ x ≤ 126) (hr : ∀ x ∈ zs, raises all x = true → x ≤ 124) : ∀ x ∈ raiseL all zs, -1 ≤ x ∧ x ≤ 126 := by
  intro x hx
  unfold raiseL at hx
  rw [List.mem_map] at hx
  obtain ⟨y, hy, rfl⟩ := hx
  have h1 := h y hy
  split
  · rename_i hc
    have := hr y hy hc
    omega
  · exact h1

theorem raised (all : Bool) (zs : List Int) (h : ∀ x ∈ zs, -1 ≤ x ∧ x ≤ 126) (hr : ∀ x ∈ zs, raises all x = true → x ≤ 124) : ord (raiseL all zs) = ord zs := by
  have b1 := high_bd zs (fun x hx => (h x hx).2)
  have b2 := high_bd (raiseL all zs) (fun x hx => (raised_ok all zs h hr x hx).2)
  have hs := shownIdx_raise all zs (fun x hx => (h x hx).1)
  rw [ord_eq (raiseL all zs) 129 b2.1 (by omega), hs]
  cases all with
  | true => rw [passes_all zs _ (fun x hx => (h x hx).1) (fun x hx => (mem_shownIdx zs x).1 hx) 127, ord_eq zs 127 b1.1 (by omega)]
  | false => rw [passes_some zs _ (fun x hx => by have := (mem_shownIdx zs x).1 hx; exact ⟨this.1, this.2.1⟩) 126, ord_eq zs 127 b1.1 (by omega)]
end Go.Proofs.Ytcgdhgdblieaiaa
