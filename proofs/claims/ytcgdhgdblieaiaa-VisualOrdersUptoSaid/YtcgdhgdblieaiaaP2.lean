/-
  Plain laws: turning stretches round is its own undoing, and one of them may go ahead of the other.
-/
import Derived.Test.YtcgdhgdblieaiaaP1
namespace Go.Proofs.Ytcgdhgdblieaiaa

section
variable {α : Type} (p : α → Bool)

theorem turnGo_split (acc a b : List α) (x : α) (hx : p x = false) : turnGo p acc (a ++ x :: b) = turnGo p acc a ++ x :: turns p b := by
  induction a generalizing acc with
  | nil => rw [List.nil_append, turnGo_end p acc (x :: b) (by rintro y t h; cases h; exact hx), turns_no p x b hx]; rfl
  | cons y t ih =>
    rw [List.cons_append, turnGo, turnGo]
    split
    · exact ih _
    · rw [ih]; simp
theorem turns_split (a b : List α) (x : α) (hx : p x = false) : turns p (a ++ x :: b) = turns p a ++ x :: turns p b := turnGo_split p [] a b x hx
theorem turns_all (l : List α) (h : ∀ x ∈ l, p x = true) : turns p l = l.reverse := by
  have := turns_run p l [] h (by simp)
  simpa [turns_nil] using this

/-- a list is all of p, or it parts at one that is not -/
theorem split_ind {C : List α → Prop} (h1 : ∀ l, (∀ x ∈ l, p x = true) → C l) (h2 : ∀ a x b, p x = false → C a → C b → C (a ++ x :: b)) (l : List α) : C l := by
  have H : ∀ n (l : List α), l.length = n → C l := by
    intro n
    induction n using Nat.strongRecOn with
    | _ n ih =>
      intro l hl
      by_cases ha : ∀ x ∈ l, p x = true
      · exact h1 l ha
      · simp only [Classical.not_forall] at ha
        obtain ⟨x, hx, hp⟩ := ha
        obtain ⟨a, b, rfl⟩ := List.append_of_mem hx
        simp at hl
        exact h2 a x b (by simpa using hp) (ih a.length (by omega) a rfl) (ih b.length (by omega) b rfl)
  exact H l.length l rfl

theorem turns_turns (l : List α) : turns p (turns p l) = l := by
  refine split_ind p (C := fun l => turns p (turns p l) = l) ?_ ?_ l
  · intro l h
    rw [turns_all p l h, turns_all p _ (by simpa using h), List.reverse_reverse]
  · intro a x b hx ha hb
    rw [turns_split p a b x hx, turns_split p _ _ x hx, ha, hb]

theorem turns_reverse (l : List α) : turns p l.reverse = (turns p l).reverse := by
  refine split_ind p (C := fun l => turns p l.reverse = (turns p l).reverse) ?_ ?_ l
  · intro l h
    rw [turns_all p l h, turns_all p _ (by simpa using h)]
  · intro a x b hx ha hb
    rw [List.reverse_append, List.reverse_cons, List.append_assoc, List.singleton_append, turns_split p _ _ x hx, turns_split p _ _ x hx, ha, hb]
    simp

theorem turns_mem (l : List α) (x : α) : x ∈ turns p l ↔ x ∈ l := (turns_perm p l).mem_iff

theorem turns_comm (q : α → Bool) (hpq : ∀ x, q x = true → p x = true) (l : List α) : turns q (turns p l) = turns p (turns q l) := by
  refine split_ind p (C := fun l => turns q (turns p l) = turns p (turns q l)) ?_ ?_ l
  · intro l h
    rw [turns_all p l h, turns_reverse, turns_all p (turns q l) (fun x hx => h x ((turns_mem q l x).1 hx))]
  · intro a x b hx ha hb
    have hq : q x = false := by
      cases h : q x with
      | false => rfl
      | true => rw [hpq x h] at hx; cases hx
    rw [turns_split p a b x hx, turns_split q a b x hq, turns_split q _ _ x hq, turns_split p _ _ x hx, ha, hb]

theorem turns_congr (q : α → Bool) (l : List α) (h : ∀ x ∈ l, p x = q x) : turns p l = turns q l := by
  have H : ∀ (l acc : List α), (∀ x ∈ l, p x = q x) → turnGo p acc l = turnGo q acc l := by
    intro l
    induction l with
    | nil => intro acc _; rfl
    | cons x t ih =>
      intro acc h
      rw [turnGo, turnGo, h x (by simp), ih (x :: acc) (fun y hy => h y (by simp [hy])), ih [] (fun y hy => h y (by simp [hy]))]
  exact H l [] h

theorem turns_none (l : List α) (h : ∀ x ∈ l, p x = false) : turns p l = l := by
  induction l with
  | nil => rfl
  | cons x t ih => rw [turns_no p x t (h x (by simp)), ih (fun y hy => h y (by simp [hy]))]

theorem turns_map {β : Type} (f : β → α) (l : List β) : turns p (l.map f) = (turns (fun x => p (f x)) l).map f := by
  have H : ∀ (l acc : List β), turnGo p (acc.map f) (l.map f) = (turnGo (fun x => p (f x)) acc l).map f := by
    intro l
    induction l with
    | nil => intro acc; rfl
    | cons x t ih =>
      intro acc
      rw [List.map_cons, turnGo, turnGo]
      split
      · exact ih (x :: acc)
      · rw [List.map_append, List.map_cons, ← ih []]; rfl
  exact H l []
end

theorem passes_turns (lv : List Int) (k j : Nat) (hj : j ≤ k) (l : List Int) : passes lv j (turns (lvGe lv k) l) = turns (lvGe lv k) (passes lv j l) := by
  induction j generalizing l with
  | zero => rfl
  | succ j ih =>
    rw [passes, passes, ← ih (by omega), turns_comm (lvGe lv (j + 1)) (lvGe lv k)]
    intro x hx
    simp only [lvGe, decide_eq_true_eq] at hx ⊢
    omega

theorem passes_passes (lv : List Int) (k : Nat) (l : List Int) : passes lv k (passes lv k l) = l := by
  induction k generalizing l with
  | zero => rfl
  | succ k ih => rw [passes, passes, passes_turns lv (k + 1) k (by omega), ih, turns_turns]

theorem passes_mem (lv : List Int) (k : Nat) (l : List Int) (x : Int) : x ∈ passes lv k l ↔ x ∈ l := (passes_perm lv k l).mem_iff

/-- levels above all that there are turn nothing -/
theorem passes_above (lv : List Int) (h k : Nat) (hk : h ≤ k) (l : List Int) (hl : ∀ x ∈ l, lv.getD x.toNat 0 ≤ h) : passes lv k l = passes lv h l := by
  induction k generalizing l with
  | zero => obtain rfl : h = 0 := by omega
            rfl
  | succ k ih =>
    by_cases e : h = k + 1
    · rw [e]
    · rw [passes, turns_none, ih (by omega) l hl]
      intro x hx
      have := hl x hx
      simp only [lvGe, decide_eq_false_iff_not]
      omega

theorem passes_congr (lv up : List Int) (k : Nat) (l : List Int) (h : ∀ j, 1 ≤ j → j ≤ k → ∀ x ∈ l, lvGe lv j x = lvGe up j x) : passes lv k l = passes up k l := by
  induction k generalizing l with
  | zero => rfl
  | succ k ih =>
    rw [passes, passes, turns_congr (lvGe lv (k + 1)) (lvGe up (k + 1)) l (h (k + 1) (by omega) (by omega))]
    exact ih _ (fun j h1 h2 x hx => h j h1 (by omega) x ((turns_mem _ _ _).1 hx))

theorem high_ge (lv : List Int) (i : Nat) (hi : i < lv.length) : lv[i] ≤ high lv := by
  have e : high lv = (lv.filter (fun x => decide (x ≠ -1))).foldl max 0 := by cases lv <;> rfl
  rw [e]
  have H : ∀ (l : List Int) (m : Int), m ≤ l.foldl max m ∧ ∀ x ∈ l, x ≤ l.foldl max m := by
    intro l
    induction l with
    | nil => intro m; simp
    | cons y t ih =>
      intro m
      obtain ⟨h1, h2⟩ := ih (max m y)
      refine ⟨by simp only [List.foldl_cons]; omega, ?_⟩
      intro x hx
      rcases List.mem_cons.1 hx with rfl | hx
      · simp only [List.foldl_cons]; omega
      · exact h2 x hx
  by_cases hg : lv[i] = -1
  · have := (H (lv.filter (fun x => decide (x ≠ -1))) 0).1
    omega
  · exact (H _ 0).2 _ (List.mem_filter.2 ⟨List.getElem_mem hi, by simpa using hg⟩)

/-- the order, by as many levels as there may be -/
theorem ord_eq (lv : List Int) (k : Nat) (h0 : 0 ≤ high lv) (hk : high lv ≤ k) : ord lv = passes lv k (shownIdx lv) := by
  unfold ord
  rw [passes_above lv (high lv).toNat k (by omega)]
  intro x hx
  rw [mem_shownIdx] at hx
  have := high_ge lv x.toNat (by omega)
  simp only [List.getD_eq_getElem?_getD, List.getElem?_eq_getElem (show x.toNat < lv.length by omega), Option.getD_some]
  omega
theorem high_ok (lv : List Int) (h : ∀ x ∈ lv, -1 ≤ x ∧ x ≤ 126) : 0 ≤ high lv ∧ high lv ≤ 126 := high_bd lv (fun x hx => (h x hx).2)

/-! ### a line without Gone characters -/
theorem shownIdx_all (lv : List Int) (h : ∀ x ∈ lv, x ≠ -1) : shownIdx lv = (List.range lv.length).map (fun (i : Nat) => (i : Int)) := by
  unfold shownIdx
  rw [List.filter_eq_self.2]
  intro i hi
  rw [List.mem_range] at hi
  simp only [List.getD_eq_getElem?_getD, List.getElem?_eq_getElem hi, Option.getD_some, decide_eq_true_eq]
  exact h _ (List.getElem_mem hi)

/-- levels as they are shown, ordered again, lead back -/
theorem twice (L : List Int) (h0 : ∀ x ∈ L, 0 ≤ x ∧ x ≤ 126) (M : List Int) (hM : M = (ord L).map (fun i => L.getD i.toNat 0)) :
    (ord M).map (fun j => (ord L).getD j.toNat 0) = (List.range L.length).map (fun (i : Nat) => (i : Int)) := by
  have hL : shownIdx L = (List.range L.length).map (fun (i : Nat) => (i : Int)) := shownIdx_all L (fun x hx => by have := h0 x hx; omega)
  have hlen : (ord L).length = L.length := by rw [ord_length, hL]; simp
  have hMlen : M.length = L.length := by rw [hM]; simp [hlen]
  have hmemM : ∀ x ∈ M, 0 ≤ x ∧ x ≤ 126 := by
    intro x hx
    rw [hM, List.mem_map] at hx
    obtain ⟨i, hi, rfl⟩ := hx
    rw [mem_ord] at hi
    simp only [List.getD_eq_getElem?_getD, List.getElem?_eq_getElem (show i.toNat < L.length by omega), Option.getD_some]
    exact h0 _ (List.getElem_mem _)
  have hMs : shownIdx M = (List.range L.length).map (fun (i : Nat) => (i : Int)) := by rw [← hMlen]; exact shownIdx_all M (fun x hx => by have := hmemM x hx; omega)
  have bM := high_bd M (fun x hx => (hmemM x hx).2)
  have bL := high_bd L (fun x hx => (h0 x hx).2)
  rw [ord_eq M 126 bM.1 bM.2, hMs]
  have nat : ∀ (k : Nat) (X : List Int), (∀ x ∈ X, 0 ≤ x ∧ x < L.length) → (passes M k X).map (fun j => (ord L).getD j.toNat 0) = passes L k (X.map (fun j => (ord L).getD j.toNat 0)) := by
    intro k
    induction k with
    | zero => intro X _; rfl
    | succ k ih =>
      intro X hX
      rw [passes, passes, turns_map, ih _ (fun x hx => hX x ((turns_mem _ _ _).1 hx))]
      congr 2
      refine turns_congr _ _ _ ?_
      intro x hx
      have := hX x hx
      have h1 : x.toNat < (ord L).length := by omega
      have h2 : x.toNat < M.length := by omega
      unfold lvGe
      simp only [List.getD_eq_getElem?_getD, List.getElem?_eq_getElem h1, List.getElem?_eq_getElem h2, Option.getD_some]
      have e : M[x.toNat] = L.getD ((ord L)[x.toNat]).toNat 0 := by
        have := List.getElem_of_eq hM h2
        rw [this]
        simp
      rw [e]
      simp
  rw [nat 126 _ (by intro x hx; simp at hx; obtain ⟨a, ha, rfl⟩ := hx; omega)]
  have e : ((List.range L.length).map (fun (i : Nat) => (i : Int))).map (fun j => (ord L).getD j.toNat 0) = ord L := by
    apply List.ext_getElem (by simp [hlen])
    intro i h1 h2
    simp [h2]
  rw [e]
  have := ord_eq L 126 bL.1 bL.2
  rw [this, passes_passes, hL]

theorem twice_at (L : List Int) (h0 : ∀ x ∈ L, 0 ≤ x ∧ x ≤ 126) (M : List Int) (hM : M = (ord L).map (fun i => L.getD i.toNat 0)) (k : Nat) (hk : k < (ord M).length) :
    ∃ j : Nat, (ord M)[k] = (j : Int) ∧ ∃ hj : j < (ord L).length, (ord L)[j] = (k : Int) := by
  have hL : shownIdx L = (List.range L.length).map (fun (i : Nat) => (i : Int)) := shownIdx_all L (fun x hx => by have := h0 x hx; omega)
  have hlen : (ord L).length = L.length := by rw [ord_length, hL]; simp
  have hMlen : M.length = L.length := by rw [hM]; simp [hlen]
  have hT := twice L h0 M hM
  have hm := (mem_ord M _).1 (List.getElem_mem hk)
  refine ⟨(ord M)[k].toNat, by omega, by omega, ?_⟩
  have hk2 : k < (List.map (fun (i : Nat) => (i : Int)) (List.range L.length)).length := by rw [← hT]; simpa using hk
  have h3 := List.getElem_of_eq hT (i := k) (by simpa using hk)
  simp only [List.getElem_map, List.getElem_range] at h3
  rw [List.getD_eq_getElem?_getD, List.getElem?_eq_getElem (by omega), Option.getD_some] at h3
  exact h3
end Go.Proofs.Ytcgdhgdblieaiaa
