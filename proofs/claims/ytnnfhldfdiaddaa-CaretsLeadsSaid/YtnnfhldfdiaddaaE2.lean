/-
  Plain laws: the carets of a line's ends, and of a line of one level.
-/
import Derived.Test.YtnnfhldfdiaddaaE1
set_option linter.unusedVariables false
namespace Go.Proofs.Ytnnfhldfdiaddaa

theorem lv_mem {lv : List Int} {i : Nat} (hi : i < lv.length) : lv.getD i 0 ∈ lv := by rw [lv_getD lv i hi]; exact List.getElem_mem hi

/-- the strong caret of the line's beginning -/
theorem caret_first {base : Int} {lv : List Int} (h01 : base = 0 ∨ base = 1) (hab : ∀ x ∈ lv, x ≠ -1 → base ≤ x) {s t : Int} (h : CaretP base lv 0 s t) : s = base * (ord lv).length := by
  obtain ⟨p, l, q, l2, hb, ha, hh⟩ := h
  have hb2 : p = base * (ord lv).length ∧ l = base := by
    rcases hb with ⟨_, h1, h2⟩ | ⟨i, hi, _⟩
    · exact ⟨h1, h2⟩
    · omega
  have ha2 : base ≤ l2 := by
    rcases ha with ⟨_, _, h2⟩ | ⟨i, _, hi, hs, _, _, h2⟩
    · omega
    · rw [h2]; exact hab _ (lv_mem hi) hs
  rcases hh with ⟨h1, h2, _⟩ | ⟨_, h2, _⟩
  · omega
  · rw [h2, hb2.1]

theorem ord_zero {lv : List Int} (h : ∀ j, j < lv.length → lv.getD j 0 = -1) : (ord lv).length = 0 := by
  rw [ord_length]
  cases e : shownIdx lv with
  | nil => rfl
  | cons x t =>
    have hm : x ∈ shownIdx lv := by rw [e]; simp
    rw [mem_shownIdx] at hm
    exact absurd (h x.toNat (by omega)) hm.2.2

/-- the strong caret of its end -/
theorem caret_last {base : Int} {lv : List Int} (h01 : base = 0 ∨ base = 1) (hok : ∀ x ∈ lv, -1 ≤ x ∧ x ≤ 126) (hab : ∀ x ∈ lv, x ≠ -1 → base ≤ x) {s t : Int} (h : CaretP base lv lv.length s t) : s = (1 - base) * (ord lv).length := by
  obtain ⟨p, l, q, l2, hb, ha, hh⟩ := h
  have ha2 : q = (1 - base) * (ord lv).length ∧ l2 = base := by
    rcases ha with ⟨_, h1, h2⟩ | ⟨i, hi, hi2, _⟩
    · exact ⟨h1, h2⟩
    · omega
  rcases hh with ⟨_, h2, _⟩ | ⟨h1, h2, _⟩
  · rw [h2, ha2.1]
  · rw [h2]
    rcases hb with ⟨hg, hp, hl⟩ | ⟨i, _, hi, hs, hg, hp, hl⟩
    · rw [ord_zero (fun j hj => hg j hj)] at hp ⊢
      rw [hp]; simp
    · have hbase : lv.getD i 0 = base := by
        have := hab _ (lv_mem hi) hs
        omega
      have := last_place h01 hok hab i hi hbase (fun j h1 h2 => hg j h1 h2)
      rw [hp, hbase]
      rw [← this]
      rcases h01 with rfl | rfl <;> omega

/-! ### a line of one level -/
theorem shownIdx_gone (lv : List Int) (i k : Nat) (hik : i ≤ k) (hk : k ≤ lv.length) (hg : ∀ j, i ≤ j → j < k → lv.getD j 0 = -1) : shownIdx (lv.take k) = shownIdx (lv.take i) := by
  induction k with
  | zero => obtain rfl : i = 0 := by omega
            rfl
  | succ k ih =>
    by_cases e : i = k + 1
    · rw [e]
    · have hgk := hg k (by omega) (by omega)
      rw [lv_getD lv k (by omega)] at hgk
      rw [shownIdx_snoc lv k (by omega), if_pos hgk, List.append_nil]
      exact ih (by omega) (by omega) (fun j h1 h2 => hg j h1 (by omega))
theorem shownIdx_prefix (lv : List Int) (k : Nat) (hk : k ≤ lv.length) : ∃ r, shownIdx lv = shownIdx (lv.take k) ++ r := by
  have H : ∀ d, k + d ≤ lv.length → ∃ r, shownIdx (lv.take (k + d)) = shownIdx (lv.take k) ++ r := by
    intro d
    induction d with
    | zero => intro _; exact ⟨[], by simp⟩
    | succ d ih =>
      intro hd
      obtain ⟨r, hr⟩ := ih (by omega)
      rw [show k + (d + 1) = (k + d) + 1 by omega, shownIdx_snoc lv (k + d) (by omega), hr, List.append_assoc]
      exact ⟨_, rfl⟩
  obtain ⟨r, hr⟩ := H (lv.length - k) (by omega)
  rw [show k + (lv.length - k) = lv.length by omega, List.take_length] at hr
  exact ⟨r, hr⟩
/-- how many are shown ahead of a place -/
def rank (lv : List Int) (k : Nat) : Nat := (shownIdx (lv.take k)).length
theorem rank_get (lv : List Int) (i : Nat) (hi : i < lv.length) (hs : lv.getD i 0 ≠ -1) : ∃ h : rank lv i < (shownIdx lv).length, (shownIdx lv)[rank lv i] = (i : Int) := by
  obtain ⟨r, hr⟩ := shownIdx_prefix lv (i + 1) (by omega)
  rw [shownIdx_snoc lv i hi, if_neg (by rw [← lv_getD lv i hi]; exact hs), List.append_assoc] at hr
  have hl : rank lv i < (shownIdx lv).length := by rw [hr]; simp [rank]
  refine ⟨hl, ?_⟩
  have := List.getElem_of_eq hr hl
  rw [this, List.getElem_append_right (by simp [rank])]
  simp [rank]
theorem rank_succ (lv : List Int) (i : Nat) (hi : i < lv.length) (hs : lv.getD i 0 ≠ -1) : rank lv (i + 1) = rank lv i + 1 := by
  unfold rank
  rw [shownIdx_snoc lv i hi, if_neg (by rw [← lv_getD lv i hi]; exact hs)]
  simp

/-- the order of a line of one level -/
theorem ord_one {base : Int} {lv : List Int} (h01 : base = 0 ∨ base = 1) (h : ∀ x ∈ lv, x = -1 ∨ x = base) : ord lv = if base = 0 then shownIdx lv else (shownIdx lv).reverse := by
  have hbd := high_bd lv (fun x hx => by have := h x hx; omega)
  have hv : ∀ x ∈ shownIdx lv, lv.getD x.toNat 0 = base := by
    intro x hx
    rw [mem_shownIdx] at hx
    have hx2 : x.toNat < lv.length := by omega
    rcases h _ (lv_mem hx2) with h1 | h1
    · exact absurd h1 hx.2.2
    · exact h1
  rcases h01 with rfl | rfl
  · rw [if_pos rfl, ord_eq lv 126 hbd.1 hbd.2, passes_above lv 0 126 (by omega) _ (fun x hx => by rw [hv x hx]; omega)]
    rfl
  · rw [if_neg (by omega), ord_eq lv 126 hbd.1 hbd.2, passes_above lv 1 126 (by omega) _ (fun x hx => by rw [hv x hx]; omega)]
    show turns (lvGe lv 1) (shownIdx lv) = _
    rw [turns_all _ _ (fun x hx => by simp only [lvGe, hv x hx, decide_eq_true_eq]; omega)]

theorem place_one {base : Int} {lv : List Int} (h01 : base = 0 ∨ base = 1) (h : ∀ x ∈ lv, x = -1 ∨ x = base) (i : Nat) (hi : i < lv.length) (hs : lv.getD i 0 ≠ -1) :
    (placesL lv).getD i 0 = if base = 0 then (rank lv i : Int) else (ord lv).length - 1 - rank lv i := by
  obtain ⟨j, hj, hj2, hj3⟩ := places_shown lv i hi (by rw [← lv_getD lv i hi]; exact hs)
  rw [show (placesL lv).getD i 0 = (j : Int) by rw [List.getD_eq_getElem?_getD, List.getElem?_eq_getElem (by rw [placesL_length]; exact hi), Option.getD_some, hj3]]
  obtain ⟨hr, hr2⟩ := rank_get lv i hi hs
  have ho := ord_one h01 h
  have hlen := ord_length lv
  rcases h01 with rfl | rfl
  · rw [if_pos rfl] at ho ⊢
    have h2 : (ord lv)[rank lv i]'(by omega) = (i : Int) := by
      have := List.getElem_of_eq ho (i := rank lv i) (by omega)
      rw [this]; exact hr2
    by_cases e : j = rank lv i
    · rw [e]
    · have := ord_inj lv j (rank lv i) hj (by omega) e
      rw [hj2, h2] at this
      exact absurd rfl this
  · rw [if_neg (by omega)] at ho ⊢
    have h2 : (ord lv)[(ord lv).length - 1 - rank lv i]'(by omega) = (i : Int) := by
      have := List.getElem_of_eq ho (i := (ord lv).length - 1 - rank lv i) (by omega)
      rw [this, List.getElem_reverse]
      rw [← hr2]
      congr 1
      omega
    by_cases e : j = (ord lv).length - 1 - rank lv i
    · omega
    · have := ord_inj lv j _ hj (by omega) e
      rw [hj2, h2] at this
      exact absurd rfl this

theorem caret_one {base : Int} {lv : List Int} (h01 : base = 0 ∨ base = 1) (h : ∀ x ∈ lv, x = -1 ∨ x = base) (a : Nat) (hat : a ≤ lv.length) {s t : Int} (hc : CaretP base lv a s t) : s = t := by
  obtain ⟨p, l, q, l2, hb, ha, hh⟩ := hc
  have hm := ord_length lv
  have hb2 : p = if base = 0 then (rank lv a : Int) else (ord lv).length - rank lv a := by
    rcases hb with ⟨hg, hp, _⟩ | ⟨i, hia, hi, hs, hg, hp, hl⟩
    · have : rank lv a = 0 := by
        unfold rank
        rw [shownIdx_gone lv 0 a (by omega) hat (fun j _ h2 => hg j h2)]
        simp [shownIdx]
      rw [this, hp]
      rcases h01 with rfl | rfl <;> simp
    · have hr : rank lv a = rank lv i + 1 := by
        rw [← rank_succ lv i hi hs]
        unfold rank
        rw [shownIdx_gone lv (i + 1) a (by omega) hat (fun j h1 h2 => hg j (by omega) h2)]
      have hv : lv.getD i 0 = base := by rcases h _ (lv_mem hi) with h1 | h1
                                         · exact absurd h1 hs
                                         · exact h1
      rw [hp, place_one h01 h i hi hs, hv, hr]
      rcases h01 with rfl | rfl
      · simp
      · rw [if_neg (by omega), if_neg (by omega)]; omega
  have ha2 : q = if base = 0 then (rank lv a : Int) else (ord lv).length - rank lv a := by
    rcases ha with ⟨hg, hp, _⟩ | ⟨i, hia, hi, hs, hg, hp, hl⟩
    · have : rank lv a = (ord lv).length := by
        rw [hm]
        unfold rank
        rw [← shownIdx_gone lv a lv.length hat (Nat.le_refl _) hg, List.take_length]
      rw [this, hp]
      rcases h01 with rfl | rfl <;> simp
    · have hr : rank lv a = rank lv i := by
        unfold rank
        rw [shownIdx_gone lv a i (by omega) (by omega) hg]
      have hv : lv.getD i 0 = base := by rcases h _ (lv_mem hi) with h1 | h1
                                         · exact absurd h1 hs
                                         · exact h1
      rw [hp, place_one h01 h i hi hs, hv, hr]
      rcases h01 with rfl | rfl
      · simp
      · rw [if_neg (by omega), if_neg (by omega)]; omega
  rcases hh with ⟨_, h2, h3⟩ | ⟨_, h2, h3⟩
  · rw [h2, h3, hb2, ha2]
  · rw [h2, h3, hb2, ha2]
end Go.Proofs.Ytnnfhldfdiaddaa
