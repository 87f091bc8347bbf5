/-
  Plain laws: the order of a line (rule L2) as a function of its levels. No program here.
-/
import Derived.WalkKit
namespace Go.Proofs.Ytkcdcgijbaepmaa

/-! ### every longest stretch of what answers p is turned round -/
def turnGo {α : Type} (p : α → Bool) : List α → List α → List α
  | acc, [] => acc
  | acc, x :: t => if p x then turnGo p (x :: acc) t else acc ++ x :: turnGo p [] t
def turns {α : Type} (p : α → Bool) (l : List α) : List α := turnGo p [] l

section
variable {α : Type} (p : α → Bool)
theorem turnGo_run (acc run rest : List α) (h : ∀ x ∈ run, p x = true) : turnGo p acc (run ++ rest) = turnGo p (run.reverse ++ acc) rest := by
  induction run generalizing acc with
  | nil => rfl
  | cons x t ih =>
    rw [List.cons_append, turnGo, if_pos (h x (by simp)), ih _ (fun y hy => h y (by simp [hy]))]
    simp
theorem turnGo_end (acc rest : List α) (h : ∀ x t, rest = x :: t → p x = false) : turnGo p acc rest = acc ++ turns p rest := by
  cases rest with
  | nil => simp [turnGo, turns]
  | cons x t => rw [turns, turnGo, turnGo, if_neg (by simp [h x t rfl]), if_neg (by simp [h x t rfl])]; simp
theorem turns_run (run rest : List α) (h : ∀ x ∈ run, p x = true) (h2 : ∀ x t, rest = x :: t → p x = false) : turns p (run ++ rest) = run.reverse ++ turns p rest := by
  rw [turns, turnGo_run p [] run rest h, turnGo_end p _ rest h2]; simp
theorem turns_no (x : α) (t : List α) (h : p x = false) : turns p (x :: t) = x :: turns p t := by
  rw [turns, turnGo, if_neg (by simp [h])]; simp [turns]
theorem turns_nil : turns p [] = [] := rfl
theorem turnGo_perm (acc l : List α) : (turnGo p acc l).Perm (acc ++ l) := by
  induction l generalizing acc with
  | nil => simp [turnGo]
  | cons x t ih =>
    rw [turnGo]
    split
    · refine (ih _).trans ?_
      simpa using (List.perm_middle (a := x) (l₁ := acc) (l₂ := t)).symm
    · exact List.Perm.append_left acc (by simpa using (ih []).cons x)
theorem turns_perm (l : List α) : (turns p l).Perm l := turnGo_perm p [] l
theorem turns_length (l : List α) : (turns p l).length = l.length := (turns_perm p l).length_eq
end

/-- the places that are not Gone -/
def shownIdx (lv : List Int) : List Int := ((List.range lv.length).filter (fun i => decide (lv.getD i 0 ≠ -1))).map (fun (i : Nat) => (i : Int))
/-- the highest level (0, if there is none above it) -/
def high : List Int → Int
  | [] => 0
  | l => (l.filter (fun x => decide (x ≠ -1))).foldl max 0
/-- at or above level k -/
def lvGe (lv : List Int) (k : Nat) (i : Int) : Bool := decide ((k : Int) ≤ lv.getD i.toNat 0)
def passes (lv : List Int) : Nat → List Int → List Int
  | 0, l => l
  | k + 1, l => passes lv k (turns (lvGe lv (k + 1)) l)
def ord (lv : List Int) : List Int := passes lv (high lv).toNat (shownIdx lv)

theorem passes_perm (lv : List Int) (k : Nat) (l : List Int) : (passes lv k l).Perm l := by
  induction k generalizing l with
  | zero => exact .refl _
  | succ k ih => exact (ih _).trans (turns_perm _ _)
theorem passes_length (lv : List Int) (k : Nat) (l : List Int) : (passes lv k l).length = l.length := (passes_perm lv k l).length_eq
theorem ord_perm (lv : List Int) : (ord lv).Perm (shownIdx lv) := passes_perm _ _ _
theorem shownIdx_le (lv : List Int) : (shownIdx lv).length ≤ lv.length := by
  unfold shownIdx; rw [List.length_map]; exact Nat.le_trans (List.length_filter_le _ _) (by simp)
theorem ord_length (lv : List Int) : (ord lv).length = (shownIdx lv).length := (ord_perm lv).length_eq
theorem ord_le (lv : List Int) : (ord lv).length ≤ lv.length := by rw [ord_length]; exact shownIdx_le lv
theorem mem_shownIdx (lv : List Int) (x : Int) : x ∈ shownIdx lv ↔ 0 ≤ x ∧ x < lv.length ∧ lv.getD x.toNat 0 ≠ -1 := by
  unfold shownIdx
  simp only [List.mem_map, List.mem_filter, List.mem_range, decide_eq_true_eq]
  constructor
  · rintro ⟨i, ⟨h1, h2⟩, rfl⟩; exact ⟨by omega, by omega, by simpa using h2⟩
  · rintro ⟨h0, h1, h2⟩; exact ⟨x.toNat, ⟨by omega, h2⟩, by omega⟩
theorem mem_ord (lv : List Int) (x : Int) : x ∈ ord lv ↔ 0 ≤ x ∧ x < lv.length ∧ lv.getD x.toNat 0 ≠ -1 := by
  rw [(ord_perm lv).mem_iff, mem_shownIdx]

theorem getD_take (zs : List Int) (k i : Nat) (h : i < k) : (zs.take k).getD i 0 = zs.getD i 0 := by
  simp [List.getD, h]

theorem shownIdx_snoc (lv : List Int) (k : Nat) (h : k < lv.length) :
    shownIdx (lv.take (k + 1)) = shownIdx (lv.take k) ++ (if lv[k] = -1 then [] else [(k : Int)]) := by
  unfold shownIdx
  rw [List.length_take, List.length_take, Nat.min_eq_left (by omega), Nat.min_eq_left (by omega), List.range_succ, List.filter_append, List.map_append]
  have h1 : (List.range k).filter (fun i => decide ((lv.take (k + 1)).getD i 0 ≠ -1)) = (List.range k).filter (fun i => decide ((lv.take k).getD i 0 ≠ -1)) := by
    apply List.filter_congr
    intro i hi
    rw [List.mem_range] at hi
    rw [getD_take _ _ _ (by omega), getD_take _ _ _ hi]
  rw [h1]
  congr 1
  rw [List.filter_cons, getD_take _ _ _ (by omega)]
  simp only [List.getD_eq_getElem?_getD, List.getElem?_eq_getElem h, Option.getD_some]
  by_cases hx : lv[k] = -1 <;> simp [hx]

theorem high_snoc (lv : List Int) (k : Nat) (h : k < lv.length) : high (lv.take (k + 1)) = if lv[k] = -1 then high (lv.take k) else max (high (lv.take k)) lv[k] := by
  have e : ∀ l : List Int, high l = (l.filter (fun x => decide (x ≠ -1))).foldl max 0 := by intro l; cases l <;> rfl
  rw [e, e, List.take_succ_eq_append_getElem h, List.filter_append]
  by_cases hx : lv[k] = -1
  · simp [hx]
  · simp [hx]

theorem high_bd (lv : List Int) (h : ∀ x ∈ lv, x ≤ 126) : 0 ≤ high lv ∧ high lv ≤ 126 := by
  have e : high lv = (lv.filter (fun x => decide (x ≠ -1))).foldl max 0 := by cases lv <;> rfl
  rw [e]
  have : ∀ (l : List Int) (m : Int), 0 ≤ m → m ≤ 126 → (∀ x ∈ l, x ≤ 126) → 0 ≤ l.foldl max m ∧ l.foldl max m ≤ 126 := by
    intro l
    induction l with
    | nil => intro m h0 h1 _; exact ⟨h0, h1⟩
    | cons x t ih => intro m h0 h1 hx; exact ih _ (by omega) (by have := hx x (by simp); omega) (fun y hy => hx y (by simp [hy]))
  exact this _ 0 (by omega) (by omega) (fun x hx => h x (List.mem_filter.1 hx).1)

theorem shownIdx_nonneg (lv L : List Int) (h : L.Perm (shownIdx lv)) (i : Nat) (hi : i < L.length) : ∃ x : Nat, L[i] = (x : Int) ∧ x < lv.length := by
  have := h.mem_iff.1 (List.getElem_mem hi)
  rw [mem_shownIdx] at this
  exact ⟨L[i].toNat, by omega, by omega⟩

theorem passes_end (lv L : List Int) (h : passes lv 0 L = ord lv) : L = ord lv := h

/-! ### one stretch turned round in place, an exchange at a time -/
def revSeg (zs : List Int) (lo m : Nat) : List Int := zs.take lo ++ (((zs.drop lo).take m).reverse ++ zs.drop (lo + m))
def rvL (zs : List Int) (lo m t : Nat) : List Int :=
  (List.range zs.length).map (fun x => if (lo ≤ x ∧ x < lo + t) ∨ (lo + m ≤ x + t ∧ x < lo + m) then zs.getD (2 * lo + m - 1 - x) 0 else zs.getD x 0)
theorem rvL_length (zs : List Int) (lo m t : Nat) : (rvL zs lo m t).length = zs.length := by simp [rvL]
theorem rvL_zero (zs : List Int) (lo m : Nat) : rvL zs lo m 0 = zs := by
  apply List.ext_getElem (by simp [rvL])
  intro i h1 h2
  simp only [rvL, List.getElem_map, List.getElem_range]
  rw [if_neg (by omega)]
  simp [h2]
theorem rvL_step (zs : List Int) (lo m t : Nat) (h : t + 1 + t < m) (h1 : lo + t < (rvL zs lo m t).length) (h2 : lo + (m - 1 - t) < (rvL zs lo m t).length) :
    rvL zs lo m (t + 1) = ((rvL zs lo m t).set (lo + t) (rvL zs lo m t)[lo + (m - 1 - t)]).set (lo + (m - 1 - t)) (rvL zs lo m t)[lo + t] := by
  apply List.ext_getElem (by simp [rvL])
  intro i h3 h4
  simp only [List.getElem_set]
  simp only [rvL, List.getElem_map, List.getElem_range]
  by_cases e1 : lo + (m - 1 - t) = i
  · rw [if_pos e1, if_pos (by omega), if_neg (by omega), show 2 * lo + m - 1 - i = lo + t from by omega]
  · rw [if_neg e1]
    by_cases e2 : lo + t = i
    · rw [if_pos e2, if_pos (by omega), if_neg (by omega), show 2 * lo + m - 1 - i = lo + (m - 1 - t) from by omega]
    · rw [if_neg e2]
      by_cases e3 : (lo ≤ i ∧ i < lo + t) ∨ (lo + m ≤ i + t ∧ i < lo + m)
      · rw [if_pos e3, if_pos (by omega)]
      · rw [if_neg e3, if_neg (by omega)]
theorem revSeg_length (zs : List Int) (lo m : Nat) (hm : lo + m ≤ zs.length) : (revSeg zs lo m).length = zs.length := by
  simp [revSeg]; omega
theorem rvL_end (zs : List Int) (lo m t : Nat) (h : m ≤ t + 1 + t) (ht : t ≤ m) (hm : lo + m ≤ zs.length) : rvL zs lo m t = revSeg zs lo m := by
  apply List.ext_getElem (by rw [rvL_length, revSeg_length _ _ _ hm])
  intro i h3 h4
  have h5 : i < zs.length := by rwa [rvL_length] at h3
  simp only [rvL, List.getElem_map, List.getElem_range, revSeg]
  rw [List.getElem_append]
  by_cases e1 : i < lo
  · rw [if_neg (by omega), dif_pos (by simp; omega)]
    simp [h5]
  · rw [dif_neg (by simp; omega), List.getElem_append]
    by_cases e2 : i < lo + m
    · rw [dif_pos (by simp; omega)]
      simp only [List.getElem_reverse, List.getElem_take, List.getElem_drop, List.length_take, List.length_drop]
      have hlo : min lo zs.length = lo := by omega
      have hmm : min m (zs.length - lo) = m := by omega
      simp only [hlo, hmm]
      by_cases e3 : (lo ≤ i ∧ i < lo + t) ∨ (lo + m ≤ i + t ∧ i < lo + m)
      · rw [if_pos e3, List.getD_eq_getElem?_getD, List.getElem?_eq_getElem (by omega), Option.getD_some]
        congr 1
        omega
      · rw [if_neg e3, List.getD_eq_getElem?_getD, List.getElem?_eq_getElem (by omega), Option.getD_some]
        congr 1
        omega
    · rw [dif_neg (by simp; omega)]
      simp only [List.getElem_drop, List.length_take, List.length_drop, List.length_reverse]
      rw [if_neg (by omega), List.getD_eq_getElem?_getD, List.getElem?_eq_getElem (by omega), Option.getD_some]
      congr 1
      omega

theorem revSeg_split (A run rest : List Int) : revSeg (A ++ (run ++ rest)) A.length run.length = A ++ (run.reverse ++ rest) := by
  unfold revSeg
  rw [List.take_left, List.drop_left, List.take_left, ← List.drop_drop, List.drop_left, List.drop_left]

/-- a round over the stretches: what has been turned (A), what has not (R) -/
structure Half (p : Int → Bool) (L A R : List Int) : Prop where
  tot : A ++ turns p R = turns p L
  perm : (A ++ R).Perm L
theorem Half.start (p : Int → Bool) (L : List Int) : Half p L [] L := ⟨by simp, by simp⟩
theorem Half.fin {p : Int → Bool} {L A : List Int} (h : Half p L A []) : A = turns p L := by simpa [turns_nil] using h.tot
theorem Half.one {p : Int → Bool} {L A R : List Int} {x : Int} (h : Half p L A (x :: R)) (hx : p x = false) : Half p L (A ++ [x]) R :=
  ⟨by rw [List.append_assoc, ← h.tot, turns_no p x R hx]; rfl, by rw [List.append_assoc]; exact h.perm⟩
theorem Half.run {p : Int → Bool} {L A run rest : List Int} (h : Half p L A (run ++ rest)) (h1 : ∀ x ∈ run, p x = true) (h2 : ∀ x t, rest = x :: t → p x = false) :
    Half p L (A ++ run.reverse) rest :=
  ⟨by rw [← h.tot, turns_run p run rest h1 h2, List.append_assoc],
   by rw [List.append_assoc]; exact ((List.Perm.append_left A ((List.reverse_perm run).append_right rest))).trans h.perm⟩

theorem Half.step {p : Int → Bool} {L A R : List Int} (h : Half p L A R) (m : Nat) (h0 : 0 < R.length) (hl : m ≤ R.length) (h1 : ∀ x ∈ R.take m, p x = true) (h2 : ∀ x t, R.drop m = x :: t → p x = false) :
    ∃ A' R', Half p L A' R' ∧ A'.length = A.length + max m 1 ∧ revSeg (A ++ R) A.length m = A' ++ R' := by
  have e : revSeg (A ++ R) A.length m = A ++ ((R.take m).reverse ++ R.drop m) := by
    have := revSeg_split A (R.take m) (R.drop m)
    rwa [List.take_append_drop, List.length_take, Nat.min_eq_left hl] at this
  by_cases hm : m = 0
  · subst hm
    cases R with
    | nil => simp at h0
    | cons x t => exact ⟨A ++ [x], t, h.one (h2 x t rfl), by simp, by rw [e]; simp⟩
  · refine ⟨A ++ (R.take m).reverse, R.drop m, Half.run (by rw [List.take_append_drop]; exact h) h1 h2, ?_, by rw [e]; simp⟩
    simp; omega
def AllP (p : Int → Bool) (l : List Int) : Prop := ∀ x ∈ l, p x = true
theorem lvGe_yes {lv : List Int} {k i : Nat} (h : i < lv.length) (hx : (k : Int) ≤ lv[i]) : lvGe lv k (i : Int) = true := by simp [lvGe, h, hx]
theorem lvGe_no {lv : List Int} {k i : Nat} (h : i < lv.length) (hx : ¬ (k : Int) ≤ lv[i]) : lvGe lv k (i : Int) = false := by simp [lvGe, h]; omega
theorem run_snoc {p : Int → Bool} {A R : List Int} {m : Nat} (h1 : ∀ x ∈ R.take m, p x = true) (hl : A.length + m < (A ++ R).length) (hx : p (A ++ R)[A.length + m] = true) : ∀ x ∈ R.take (m + 1), p x = true := by
  have hl' : m < R.length := by simp at hl; exact hl
  rw [List.take_succ_eq_append_getElem hl']
  intro x hm
  rcases List.mem_append.1 hm with hm | hm
  · exact h1 x hm
  · simp at hm; subst hm
    rw [List.getElem_append_right (by omega)] at hx
    simpa using hx
theorem run_stop {p : Int → Bool} {A R : List Int} {m : Nat} (hx : ∀ hl : A.length + m < (A ++ R).length, p (A ++ R)[A.length + m] = false) : ∀ x t, R.drop m = x :: t → p x = false := by
  intro x t he
  have hl : m < R.length := by
    have := congrArg List.length he
    simp at this; omega
  have := hx (by simp; omega)
  rw [List.getElem_append_right (by omega)] at this
  have h2 : R[m] = x := by
    have h3 := congrArg List.head? he
    simp [hl] at h3
    exact h3
  simpa [h2] using this
theorem nodup_shownIdx (lv : List Int) : (shownIdx lv).Nodup := by
  unfold shownIdx
  refine List.Pairwise.map _ (R := fun a b => a ≠ b) (fun a b h => by omega) ?_
  exact List.Pairwise.filter _ List.nodup_range
theorem nodup_ord (lv : List Int) : (ord lv).Nodup := (ord_perm lv).nodup_iff.2 (nodup_shownIdx lv)

theorem ord_inj (lv : List Int) (i j : Nat) (hi : i < (ord lv).length) (hj : j < (ord lv).length) (hne : i ≠ j) : (ord lv)[i].toNat ≠ (ord lv)[j].toNat := by
  intro e
  have h1 := (mem_ord lv _).1 (List.getElem_mem hi)
  have h2 := (mem_ord lv _).1 (List.getElem_mem hj)
  have hp := List.pairwise_iff_getElem.1 (nodup_ord lv)
  rcases Nat.lt_or_gt_of_ne hne with h | h
  · exact hp i j hi hj h (by omega)
  · exact hp j i hj hi h (by omega)


end Go.Proofs.Ytkcdcgijbaepmaa
