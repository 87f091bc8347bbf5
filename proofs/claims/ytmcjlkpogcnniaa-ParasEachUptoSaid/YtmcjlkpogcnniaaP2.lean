/-
  Plain laws: the first strong one; what stands in an isolate changes nothing of it.
-/
import Derived.Test.YtmcjlkpogcnniaaP1
set_option linter.unusedVariables false
namespace Go.Proofs.Ytmcjlkpogcnniaa

/-- the first strong one from a place on; isolates are skipped -/
def firstAt (cl m : List Int) (to i : Nat) : Option Nat :=
  if i < to then
    if strC (cl.getD i 0) then some i
    else if begC (cl.getD i 0) then firstAt cl m to (max (i + 1) ((m.getD i 0).toNat + 1))
    else firstAt cl m to (i + 1)
  else none
termination_by to - i

theorem firstAt_end (cl m : List Int) (to i : Nat) (h : ¬ i < to) : firstAt cl m to i = none := by rw [firstAt, if_neg h]
theorem firstAt_str (cl m : List Int) (to i : Nat) (h : i < to) (hs : strC (cl.getD i 0)) : firstAt cl m to i = some i := by rw [firstAt, if_pos h, if_pos hs]
theorem firstAt_skip (cl m : List Int) (to i : Nat) (hs : ¬ strC (cl.getD i 0)) (hb : ¬ begC (cl.getD i 0)) : firstAt cl m to i = firstAt cl m to (i + 1) := by
  by_cases h : i < to
  · rw [firstAt, if_pos h, if_neg hs, if_neg hb]
  · rw [firstAt_end _ _ _ _ h, firstAt_end _ _ _ _ (by omega)]
theorem not_str {c : Int} (h : begC c) : ¬ strC c := by unfold begC at h; unfold strC; omega
theorem firstAt_beg (cl m : List Int) (to i : Nat) (h : i < to) (hb : begC (cl.getD i 0)) {k : Nat} (hk : m.getD i 0 = (k : Int)) (hik : i < k) : firstAt cl m to i = firstAt cl m to (k + 1) := by
  rw [firstAt, if_pos h, if_neg (not_str hb), if_pos hb, hk]
  congr 1
  simp
  omega
/-- the place that an isolate leads to is not strong itself -/
theorem firstAt_land (cl : List Int) (to i k : Nat) (hto : to ≤ cl.length) (hb : k < cl.length → cl.getD k 0 = 23) : firstAt cl (matchL cl) to k = firstAt cl (matchL cl) to (k + 1) := by
  by_cases h : k < to
  · have := hb (by omega)
    exact firstAt_skip _ _ _ _ (by rw [this]; decide) (by rw [this]; decide)
  · rw [firstAt_end _ _ _ _ h, firstAt_end _ _ _ _ (by omega)]
theorem firstAt_some (cl m : List Int) (to : Nat) : ∀ i j, firstAt cl m to i = some j → i ≤ j ∧ j < to ∧ strC (cl.getD j 0) := by
  intro i
  induction hn : to - i using Nat.strongRecOn generalizing i with
  | _ n ih =>
    intro j h
    by_cases hi : i < to
    · rw [firstAt, if_pos hi] at h
      by_cases hs : strC (cl.getD i 0)
      · rw [if_pos hs] at h
        obtain rfl := Option.some.inj h
        exact ⟨Nat.le_refl _, hi, hs⟩
      · rw [if_neg hs] at h
        by_cases hb : begC (cl.getD i 0)
        · rw [if_pos hb] at h
          have := ih _ (by omega) _ rfl j h
          exact ⟨by omega, this.2⟩
        · rw [if_neg hb] at h
          have := ih _ (by omega) _ rfl j h
          exact ⟨by omega, this.2⟩
    · rw [firstAt_end _ _ _ _ hi] at h
      cases h

def skipL : Nat → List Int → Option (List Int)
  | _, [] => none
  | d, c :: t => if c = 11 then none else if begC c then skipL (d + 1) t else if c = 23 then (if d ≤ 1 then some t else skipL (d - 1) t) else skipL d t
theorem skipL_len : ∀ (l : List Int) (d : Nat) (r : List Int), skipL d l = some r → r.length < l.length := by
  intro l
  induction l with
  | nil => intro d r h; cases h
  | cons c t ih =>
    intro d r h
    rw [skipL] at h
    split at h
    · cases h
    · split at h
      · have := ih _ _ h; simp; omega
      · split at h
        · split at h
          · obtain rfl := Option.some.inj h; simp
          · have := ih _ _ h; simp; omega
        · have := ih _ _ h; simp; omega
def fs : List Int → Option Int
  | [] => none
  | c :: t => if strC c then some c else if begC c then (match h : skipL 1 t with | none => none | some r => fs r) else fs t
termination_by l => l.length
decreasing_by
  · have := skipL_len _ _ _ h; simp; omega
  · simp

theorem fs_beg (c : Int) (t : List Int) (hb : begC c) : fs (c :: t) = (match skipL 1 t with | none => none | some r => fs r) := by
  rw [fs, if_neg (not_str hb), if_pos hb]
  split <;> rename_i h <;> rw [h]

structure GInv (cl : List Int) (k : Nat) (out : List Int) (pile : List Nat) : Prop where
  stk : ∀ p (hp : p < pile.length), skipL 1 (cl.drop (pile[p] + 1)) = skipL (pile.length - p) (cl.drop k)
  done : ∀ t, t < k → begC (cl.getD t 0) → t ∉ pile → (out.getD t 0 = (cl.length : Int) ∧ skipL 1 (cl.drop (t + 1)) = none) ∨ ∃ m : Nat, out.getD t 0 = (m : Int) ∧ m < k ∧ skipL 1 (cl.drop (t + 1)) = some (cl.drop (m + 1))

theorem drop_at (cl : List Int) (k : Nat) (hk : k < cl.length) : cl.drop k = cl.getD k 0 :: cl.drop (k + 1) := by
  rw [List.drop_eq_getElem_cons hk]
  simp [hk]

theorem GInv.step {cl : List Int} {k : Nat} {out : List Int} {pile : List Nat} (h : MInv cl k out pile) (g : GInv cl k out pile) (hk : k < cl.length) :
    GInv cl (k + 1) (mstep cl.length (out, pile) k (cl.getD k 0)).1 (mstep cl.length (out, pile) k (cl.getD k 0)).2 := by
  have hlo : k < out.length := by rw [h.len]; exact hk
  have hd := drop_at cl k hk
  have hst := g.stk
  rw [hd] at hst
  generalize hc : cl.getD k 0 = c at *
  unfold mstep
  by_cases hb : begC c
  · have hc3 : c ≠ 23 ∧ c ≠ 11 := by unfold begC at hb; omega
    rw [if_pos hb]
    constructor
    · intro p hp
      have hp' : p < (pile ++ [k]).length := hp
      show skipL 1 (cl.drop ((pile ++ [k])[p] + 1)) = skipL ((pile ++ [k]).length - p) _
      by_cases hpl : p < pile.length
      · rw [List.getElem_append_left hpl, hst p hpl, skipL, if_neg hc3.2, if_pos hb]
        congr 1
        simp
        omega
      · have hpe : p = pile.length := by simp at hp'; omega
        subst hpe
        simp
    · intro t ht hbt hn
      have hn' : t ∉ pile ∧ t ≠ k := by simpa using hn
      show ((out.set k (cl.length : Int)).getD t 0 = _ ∧ _) ∨ ∃ m : Nat, (out.set k (cl.length : Int)).getD t 0 = _ ∧ _
      rw [getD_set_ne _ (fun e => hn'.2 e.symm)]
      rcases g.done t (by omega) hbt hn'.1 with h1 | ⟨m, h1, h2, h3⟩
      · exact .inl h1
      · exact .inr ⟨m, h1, by omega, h3⟩
  · rw [if_neg hb]
    by_cases hp : c = 23 ∧ pile ≠ []
    · rw [if_pos hp]
      obtain ⟨h23, hne⟩ := hp
      obtain ⟨q, j, hq⟩ : ∃ q j, pile = q ++ [j] := ⟨pile.dropLast, pile.getLast hne, (List.dropLast_concat_getLast hne).symm⟩
      subst hq
      simp only [show (q ++ [j]).getLastD 0 = j by simp, show (q ++ [j]).dropLast = q by simp]
      have hj := h.stk j (by simp)
      have hjk : j < k := hj.1
      constructor
      · intro p hp
        have hp' : p < q.length := hp
        show skipL 1 (cl.drop (q[p] + 1)) = skipL (q.length - p) _
        have := hst p (by simp; omega)
        rw [List.getElem_append_left hp'] at this
        rw [this, skipL, if_neg (by omega), if_neg hb, if_pos h23, if_neg (by simp; omega)]
        congr 1
        simp
        omega
      · intro t ht hbt hn
        have hn' : t ∉ q := hn
        show (((out.set k (j : Int)).set j (k : Int)).getD t 0 = _ ∧ _) ∨ ∃ m : Nat, ((out.set k (j : Int)).set j (k : Int)).getD t 0 = _ ∧ _
        have htk : t ≠ k := by rintro rfl; rw [hc] at hbt; exact hb hbt
        by_cases htj : t = j
        · subst htj
          rw [getD_set_same (by simp; omega)]
          refine .inr ⟨k, rfl, by omega, ?_⟩
          have := hst q.length (by simp)
          simp only [List.getElem_concat_length] at this
          rw [this, skipL, if_neg (by omega), if_neg hb, if_pos h23, if_pos (by simp)]
        · rw [getD_set_ne _ (fun e => htj e.symm), getD_set_ne _ (fun e => htk e.symm)]
          rcases g.done t (by omega) hbt (by simp; exact ⟨hn', htj⟩) with h1 | ⟨m, h1, h2, h3⟩
          · exact .inl h1
          · exact .inr ⟨m, h1, by omega, h3⟩
    · rw [if_neg hp]
      by_cases h11 : c = 11
      · rw [if_pos h11]
        constructor
        · intro p hp'
          exact absurd hp' (by simp)
        · intro t ht hbt _
          show ((out.set k (-1)).getD t 0 = _ ∧ _) ∨ ∃ m : Nat, (out.set k (-1)).getD t 0 = _ ∧ _
          have htk : t ≠ k := by rintro rfl; rw [hc] at hbt; exact hb hbt
          rw [getD_set_ne _ (fun e => htk e.symm)]
          by_cases hm : t ∈ pile
          · refine .inl ⟨(h.stk t hm).2.2, ?_⟩
            obtain ⟨p, hp1, rfl⟩ := List.getElem_of_mem hm
            rw [hst p hp1, skipL, if_pos h11]
          · rcases g.done t (by omega) hbt hm with h1 | ⟨m, h1, h2, h3⟩
            · exact .inl h1
            · exact .inr ⟨m, h1, by omega, h3⟩
      · rw [if_neg h11]
        constructor
        · intro p hp'
          show skipL 1 (cl.drop (pile[p] + 1)) = skipL (pile.length - p) _
          have hp2 : p < pile.length := hp'
          have h23 : c ≠ 23 := by
            rintro rfl
            refine hp ⟨rfl, ?_⟩
            rintro rfl
            simp at hp2
          rw [hst p hp2, skipL, if_neg h11, if_neg hb, if_neg h23]
        · intro t ht hbt hn
          have hn' : t ∉ pile := hn
          show ((out.set k (-1)).getD t 0 = _ ∧ _) ∨ ∃ m : Nat, (out.set k (-1)).getD t 0 = _ ∧ _
          have htk : t ≠ k := by rintro rfl; rw [hc] at hbt; exact hb hbt
          rw [getD_set_ne _ (fun e => htk e.symm)]
          rcases g.done t (by omega) hbt hn' with h1 | ⟨m, h1, h2, h3⟩
          · exact .inl h1
          · exact .inr ⟨m, h1, by omega, h3⟩
theorem GInv.all (cl : List Int) (k : Nat) (hk : k ≤ cl.length) : GInv cl k (matchTo cl k).1 (matchTo cl k).2 := by
  induction k with
  | zero => exact ⟨fun p hp => absurd hp (by simp [matchTo]), fun t ht => by omega⟩
  | succ k ih => rw [matchTo]; exact GInv.step (MInv.all cl k (by omega)) (ih (by omega)) (by omega)

theorem skip_match (cl : List Int) (i : Nat) (hi : i < cl.length) (hb : begC (cl.getD i 0)) :
    ((matchL cl).getD i 0 = (cl.length : Int) ∧ skipL 1 (cl.drop (i + 1)) = none) ∨ ∃ m : Nat, (matchL cl).getD i 0 = (m : Int) ∧ m < cl.length ∧ skipL 1 (cl.drop (i + 1)) = some (cl.drop (m + 1)) := by
  have g := GInv.all cl cl.length (Nat.le_refl _)
  by_cases hm : i ∈ (matchTo cl cl.length).2
  · refine .inl ⟨((match_inv cl).stk i hm).2.2, ?_⟩
    obtain ⟨p, hp1, hp2⟩ := List.getElem_of_mem hm
    have := g.stk p hp1
    rw [hp2] at this
    rw [this, List.drop_length]
    rfl
  · exact g.done i hi hb hm

theorem first_fs (cl : List Int) : ∀ i, (firstAt cl (matchL cl) cl.length i).map (fun j => cl.getD j 0) = fs (cl.drop i) := by
  intro i
  induction hn : cl.length - i using Nat.strongRecOn generalizing i with
  | _ n ih =>
    by_cases hi : i < cl.length
    · rw [drop_at cl i hi]
      by_cases hs : strC (cl.getD i 0)
      · rw [firstAt_str _ _ _ _ hi hs, fs, if_pos hs]; rfl
      · by_cases hb : begC (cl.getD i 0)
        · obtain ⟨m, h1, h2, h3, h4⟩ := match_beg cl i hi hb
          rw [firstAt_beg _ _ _ _ hi hb h1 h2, fs_beg _ _ hb]
          rcases skip_match cl i hi hb with ⟨h5, h6⟩ | ⟨m', h5, h6, h7⟩
          · rw [h6, firstAt_end _ _ _ _ (by omega)]; rfl
          · have : m' = m := by omega
            subst this
            rw [h7]
            exact ih _ (by omega) _ rfl
        · rw [firstAt_skip _ _ _ _ hs hb, fs, if_neg hs, if_neg hb]
          exact ih _ (by omega) _ rfl
    · rw [firstAt_end _ _ _ _ hi, List.drop_eq_nil_of_le (by omega), fs]; rfl

/-- all isolates belong together within -/
def wthn : Nat → List Int → Bool
  | d, [] => decide (d = 0)
  | d, c :: t => if c = 11 then false else if begC c then wthn (d + 1) t else if c = 23 then (if d = 0 then false else wthn (d - 1) t) else wthn d t
theorem skip_within : ∀ (one : List Int) (d e : Nat) (t : List Int), 1 ≤ e → wthn d one = true → skipL (e + d) (one ++ t) = skipL e t := by
  intro one
  induction one with
  | nil => intro d e t he h; simp [wthn] at h; rw [h]; rfl
  | cons c r ih =>
    intro d e t he h
    rw [wthn] at h
    rw [List.cons_append, skipL]
    by_cases h11 : c = 11
    · rw [if_pos h11] at h; cases h
    · rw [if_neg h11] at h ⊢
      by_cases hb : begC c
      · rw [if_pos hb] at h ⊢
        exact ih (d + 1) e t he h
      · rw [if_neg hb] at h ⊢
        by_cases h23 : c = 23
        · rw [if_pos h23] at h ⊢
          by_cases hd : d = 0
          · rw [if_pos hd] at h; cases h
          · rw [if_neg hd] at h
            rw [if_neg (by omega), show e + d - 1 = e + (d - 1) by omega]
            exact ih (d - 1) e t he h
        · rw [if_neg h23] at h ⊢
          exact ih d e t he h
theorem skip_iso (kind : Int) (hb : begC kind) (one : List Int) (h : wthn 0 one = true) (t : List Int) (d : Nat) (hd : 1 ≤ d) : skipL d (kind :: (one ++ 23 :: t)) = skipL d t := by
  rw [skipL, if_neg (by unfold begC at hb; omega), if_pos hb]
  have := skip_within one 0 (d + 1) (23 :: t) (by omega) h
  rw [Nat.add_zero] at this
  rw [this, skipL, if_neg (by decide), if_neg (by decide), if_pos rfl, if_neg (by omega)]
  rfl
theorem skip_front : ∀ (a : List Int) (d : Nat), 1 ≤ d → (∀ X, skipL d (a ++ X) = none) ∨ (∃ r, r.length ≤ a.length ∧ ∀ X, skipL d (a ++ X) = some (r ++ X)) ∨ ∃ d', 1 ≤ d' ∧ ∀ X, skipL d (a ++ X) = skipL d' X := by
  intro a
  induction a with
  | nil => intro d hd; exact .inr (.inr ⟨d, hd, fun X => rfl⟩)
  | cons c t ih =>
    intro d hd
    have hu : ∀ X, skipL d (c :: t ++ X) = if c = 11 then none else if begC c then skipL (d + 1) (t ++ X) else if c = 23 then (if d ≤ 1 then some (t ++ X) else skipL (d - 1) (t ++ X)) else skipL d (t ++ X) := fun X => by rw [List.cons_append, skipL]
    have lift : ∀ d2, 1 ≤ d2 → (∀ X, skipL d (c :: t ++ X) = skipL d2 (t ++ X)) → (∀ X, skipL d (c :: t ++ X) = none) ∨ (∃ r, r.length ≤ (c :: t).length ∧ ∀ X, skipL d (c :: t ++ X) = some (r ++ X)) ∨ ∃ d', 1 ≤ d' ∧ ∀ X, skipL d (c :: t ++ X) = skipL d' X := by
      intro d2 h2 hh
      rcases ih d2 h2 with h | ⟨r, hr, h⟩ | ⟨d', h1, h⟩
      · exact .inl fun X => (hh X).trans (h X)
      · exact .inr (.inl ⟨r, by simp; omega, fun X => (hh X).trans (h X)⟩)
      · exact .inr (.inr ⟨d', h1, fun X => (hh X).trans (h X)⟩)
    by_cases h11 : c = 11
    · exact .inl fun X => by rw [hu, if_pos h11]
    · by_cases hb : begC c
      · exact lift (d + 1) (by omega) fun X => by rw [hu, if_neg h11, if_pos hb]
      · by_cases h23 : c = 23
        · by_cases h1 : d ≤ 1
          · exact .inr (.inl ⟨t, by simp, fun X => by rw [hu, if_neg h11, if_neg hb, if_pos h23, if_pos h1]⟩)
          · exact lift (d - 1) (by omega) fun X => by rw [hu, if_neg h11, if_neg hb, if_pos h23, if_neg h1]
        · exact lift d hd fun X => by rw [hu, if_neg h11, if_neg hb, if_neg h23]
theorem fs_within (kind : Int) (hb : begC kind) (one two t : List Int) (h1 : wthn 0 one = true) (h2 : wthn 0 two = true) : ∀ a : List Int, fs (a ++ kind :: (one ++ 23 :: t)) = fs (a ++ kind :: (two ++ 23 :: t)) := by
  have hk : ∀ o, wthn 0 o = true → skipL 1 (o ++ 23 :: t) = some t := fun o ho => by
    have := skip_within o 0 1 (23 :: t) (Nat.le_refl _) ho
    rw [Nat.add_zero] at this
    rw [this, skipL, if_neg (by decide), if_neg (by decide), if_pos rfl, if_pos (Nat.le_refl _)]
  intro a
  induction hn : a.length using Nat.strongRecOn generalizing a with
  | _ n ih =>
    cases a with
    | nil =>
      rw [List.nil_append, List.nil_append, fs_beg _ _ hb, fs_beg _ _ hb, hk one h1, hk two h2]
    | cons c r =>
      rw [List.cons_append, List.cons_append]
      have hl : r.length < n := by rw [← hn]; simp
      by_cases hs : strC c
      · rw [fs, if_pos hs, fs, if_pos hs]
      · by_cases hbc : begC c
        · rw [fs_beg _ _ hbc, fs_beg _ _ hbc]
          rcases skip_front r 1 (Nat.le_refl _) with h | ⟨q, hq, h⟩ | ⟨d', hd, h⟩
          · rw [h, h]
          · rw [h, h]
            exact ih _ (by omega) q rfl
          · rw [h, h, skip_iso kind hb one h1 t d' hd, skip_iso kind hb two h2 t d' hd]
        · rw [fs, if_neg hs, if_neg hbc, fs, if_neg hs, if_neg hbc]
          exact ih _ hl r rfl
end Go.Proofs.Ytmcjlkpogcnniaa
