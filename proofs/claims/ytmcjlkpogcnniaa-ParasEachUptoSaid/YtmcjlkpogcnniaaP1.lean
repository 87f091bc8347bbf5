/-
  Plain laws: isolates that belong together, and the first strong one.
-/
import Derived.WalkKit
set_option linter.unusedVariables false
namespace Go.Proofs.Ytmcjlkpogcnniaa

def begC (c : Int) : Prop := 20 ≤ c ∧ c ≤ 22
instance (c : Int) : Decidable (begC c) := by unfold begC; infer_instance
def strC (c : Int) : Prop := 1 ≤ c ∧ c ≤ 3
instance (c : Int) : Decidable (strC c) := by unfold strC; infer_instance

/-- one step of the match: what stands at i is c -/
def mstep (n : Nat) (st : List Int × List Nat) (i : Nat) (c : Int) : List Int × List Nat :=
  if begC c then (st.1.set i (n : Int), st.2 ++ [i])
  else if c = 23 ∧ st.2 ≠ [] then ((st.1.set i (st.2.getLastD 0 : Nat)).set (st.2.getLastD 0) (i : Int), st.2.dropLast)
  else if c = 11 then (st.1.set i (-1), [])
  else (st.1.set i (-1), st.2)
def matchTo (cl : List Int) : Nat → List Int × List Nat
  | 0 => (List.replicate cl.length 0, [])
  | k + 1 => mstep cl.length (matchTo cl k) k (cl.getD k 0)
def matchL (cl : List Int) : List Int := (matchTo cl cl.length).1

theorem mstep_len (n : Nat) (st : List Int × List Nat) (i : Nat) (c : Int) : (mstep n st i c).1.length = st.1.length := by
  unfold mstep; split <;> (try split) <;> (try split) <;> simp
theorem matchTo_len (cl : List Int) (k : Nat) : (matchTo cl k).1.length = cl.length := by
  induction k with
  | zero => simp [matchTo]
  | succ k ih => rw [matchTo, mstep_len, ih]
theorem matchL_len (cl : List Int) : (matchL cl).length = cl.length := matchTo_len _ _
theorem pile_lt (cl : List Int) (k : Nat) : ∀ j ∈ (matchTo cl k).2, j < k := by
  induction k with
  | zero => simp [matchTo]
  | succ k ih =>
    intro j hj
    rw [matchTo] at hj
    unfold mstep at hj
    split at hj
    · simp at hj; rcases hj with h | rfl
      · have := ih j h; omega
      · omega
    · split at hj
      · have := ih j (List.dropLast_subset _ hj); omega
      · split at hj
        · simp at hj
        · have := ih j hj; omega
theorem pile_le (cl : List Int) (k : Nat) : (matchTo cl k).2.length ≤ k := by
  induction k with
  | zero => simp [matchTo]
  | succ k ih =>
    rw [matchTo]
    unfold mstep
    split
    · simp; omega
    · split
      · simp; omega
      · split
        · simp
        · exact Nat.le_succ_of_le ih
theorem last_mem {l : List Nat} (h : l ≠ []) : l.getLastD 0 ∈ l := by
  rw [List.getLastD_eq_getLast?, List.getLast?_eq_some_getLast h]
  exact List.getLast_mem h

/-- what is known after k steps -/
structure MInv (cl : List Int) (k : Nat) (out : List Int) (pile : List Nat) : Prop where
  len : out.length = cl.length
  sorted : pile.Pairwise (· < ·)
  stk : ∀ j ∈ pile, j < k ∧ begC (cl.getD j 0) ∧ out.getD j 0 = (cl.length : Int)
  beg : ∀ t, t < k → begC (cl.getD t 0) → t ∉ pile → out.getD t 0 = (cl.length : Int) ∨ ∃ m : Nat, out.getD t 0 = (m : Int) ∧ t < m ∧ m < k ∧ cl.getD m 0 = 23 ∧ out.getD m 0 = (t : Int)
  pdi : ∀ t, t < k → cl.getD t 0 = 23 → out.getD t 0 = -1 ∨ ∃ m : Nat, out.getD t 0 = (m : Int) ∧ m < t ∧ begC (cl.getD m 0) ∧ out.getD m 0 = (t : Int)
  other : ∀ t, t < k → ¬ begC (cl.getD t 0) → cl.getD t 0 ≠ 23 → out.getD t 0 = -1
  open_ : ∀ j ∈ pile, ∀ t, j < t → t < k → cl.getD t 0 ≠ 11 ∧ (begC (cl.getD t 0) → t ∈ pile ∨ out.getD t 0 < k) ∧ (cl.getD t 0 = 23 → (j : Int) < out.getD t 0)
  shut : ∀ i, i < k → begC (cl.getD i 0) → out.getD i 0 < k → ∀ t : Nat, i < t → (t : Int) < out.getD i 0 → cl.getD t 0 ≠ 11 ∧ (begC (cl.getD t 0) → out.getD t 0 < out.getD i 0) ∧ (cl.getD t 0 = 23 → (i : Int) < out.getD t 0)

theorem getD_set_same {l : List Int} {i : Nat} (h : i < l.length) (x : Int) : (l.set i x).getD i 0 = x := by simp [List.getD_eq_getElem?_getD, h]
theorem getD_set_ne (l : List Int) {i j : Nat} (h : i ≠ j) (x : Int) : (l.set i x).getD j 0 = l.getD j 0 := by
  simp [List.getD_eq_getElem?_getD, List.getElem?_set_ne h]

theorem MInv.small {cl : List Int} {k : Nat} {out : List Int} {pile : List Nat} (h : MInv cl k out pile) (hk : k < cl.length) {i : Nat} (hi : i < k) (hb : begC (cl.getD i 0)) (ho : out.getD i 0 < (k : Int) + 1) : i ∉ pile ∧ out.getD i 0 < k := by
  by_cases hp : i ∈ pile
  · have := (h.stk i hp).2.2; omega
  · refine ⟨hp, ?_⟩
    rcases h.beg i hi hb hp with h1 | ⟨m, h1, _, h2, _⟩ <;> omega

theorem MInv.start (cl : List Int) : MInv cl 0 (List.replicate cl.length 0) [] where
  len := by simp
  sorted := List.Pairwise.nil
  stk := by simp
  beg := by omega
  pdi := by omega
  other := by omega
  open_ := by simp
  shut := by omega

theorem MInv.step {cl : List Int} {k : Nat} {out : List Int} {pile : List Nat} (h : MInv cl k out pile) (hk : k < cl.length) :
    MInv cl (k + 1) (mstep cl.length (out, pile) k (cl.getD k 0)).1 (mstep cl.length (out, pile) k (cl.getD k 0)).2 := by
  have hlo : k < out.length := by rw [h.len]; exact hk
  generalize hc : cl.getD k 0 = c
  unfold mstep
  by_cases hb : begC c
  · rw [if_pos hb]
    have hb' : begC (cl.getD k 0) := by rw [hc]; exact hb
    have g : ∀ t, t ≠ k → (out.set k (cl.length : Int)).getD t 0 = out.getD t 0 := fun t ht => getD_set_ne _ (fun e => ht e.symm) _
    have gk : (out.set k (cl.length : Int)).getD k 0 = (cl.length : Int) := getD_set_same hlo _
    have hc3 : c ≠ 23 ∧ c ≠ 11 := by unfold begC at hb; omega
    constructor
    · simp [h.len]
    · show List.Pairwise (· < ·) (pile ++ [k])
      rw [List.pairwise_append]
      refine ⟨h.sorted, by simp, ?_⟩
      intro a ha b hb2
      simp at hb2
      subst hb2
      exact (h.stk a ha).1
    · intro j hj
      show _ ∧ _ ∧ (out.set k (cl.length : Int)).getD j 0 = _
      rcases List.mem_append.1 hj with hj | hj
      · have h1 := h.stk j hj
        rw [g j (by omega)]
        exact ⟨by omega, h1.2⟩
      · obtain rfl : j = k := by simpa using hj
        exact ⟨by omega, hb', gk⟩
    · intro t ht hbt hn
      have hn' : t ∉ pile ∧ t ≠ k := by simpa using hn
      have htk : t < k := by omega
      show (out.set k (cl.length : Int)).getD t 0 = _ ∨ ∃ m : Nat, (out.set k (cl.length : Int)).getD t 0 = _ ∧ _ ∧ _ ∧ _ ∧ (out.set k (cl.length : Int)).getD m 0 = _
      rw [g t (by omega)]
      rcases h.beg t htk hbt hn'.1 with h1 | ⟨m, h1, h2, h3, h4, h5⟩
      · exact .inl h1
      · exact .inr ⟨m, h1, h2, by omega, h4, by rw [g m (by omega)]; exact h5⟩
    · intro t ht ht3
      have htk : t ≠ k := by rintro rfl; rw [hc] at ht3; omega
      show (out.set k (cl.length : Int)).getD t 0 = _ ∨ ∃ m : Nat, (out.set k (cl.length : Int)).getD t 0 = _ ∧ _ ∧ _ ∧ (out.set k (cl.length : Int)).getD m 0 = _
      rw [g t htk]
      rcases h.pdi t (by omega) ht3 with h1 | ⟨m, h1, h2, h3, h4⟩
      · exact .inl h1
      · exact .inr ⟨m, h1, h2, h3, by rw [g m (by omega)]; exact h4⟩
    · intro t ht hbt ht3
      have htk : t ≠ k := by rintro rfl; exact hbt hb'
      show (out.set k (cl.length : Int)).getD t 0 = _
      rw [g t htk]
      exact h.other t (by omega) hbt ht3
    · intro j hj t hjt ht
      show _ ∧ (_ → _ ∨ (out.set k (cl.length : Int)).getD t 0 < _) ∧ (_ → _ < (out.set k (cl.length : Int)).getD t 0)
      rcases List.mem_append.1 hj with hj | hj
      · by_cases htk : t = k
        · subst htk
          rw [hc]
          exact ⟨hc3.2, fun _ => .inl (by simp), fun e => absurd e hc3.1⟩
        · rw [g t htk]
          obtain ⟨h1, h2, h3⟩ := h.open_ j hj t hjt (by omega)
          refine ⟨h1, fun hbt => ?_, h3⟩
          rcases h2 hbt with h4 | h4
          · exact .inl (List.mem_append_left _ h4)
          · exact .inr (by omega)
      · have : j = k := by simpa using hj
        omega
    · intro i hi hbi ho t hit hto
      have ho' : (out.set k (cl.length : Int)).getD i 0 < (k : Int) + 1 := by push_cast at ho; exact ho
      have hto' : (t : Int) < (out.set k (cl.length : Int)).getD i 0 := hto
      have hik : i ≠ k := by rintro rfl; rw [gk] at ho'; omega
      rw [g i hik] at ho' hto'
      have hs := h.small hk (by omega) hbi ho'
      show _ ∧ (_ → (out.set k (cl.length : Int)).getD t 0 < (out.set k (cl.length : Int)).getD i 0) ∧ (_ → _ < (out.set k (cl.length : Int)).getD t 0)
      rw [g i hik, g t (by omega)]
      exact h.shut i (by omega) hbi hs.2 t hit hto'
  · rw [if_neg hb]
    by_cases hp : c = 23 ∧ pile ≠ []
    · rw [if_pos hp]
      obtain ⟨h23, hne⟩ := hp
      obtain ⟨q, j, hq⟩ : ∃ q j, pile = q ++ [j] := ⟨pile.dropLast, pile.getLast hne, (List.dropLast_concat_getLast hne).symm⟩
      have hjl : pile.getLastD 0 = j := by rw [hq]; simp
      have hdl : pile.dropLast = q := by rw [hq]; simp
      simp only [hjl, hdl]
      have hjm : j ∈ pile := by rw [hq]; simp
      obtain ⟨hjk, hjb, hjo⟩ := h.stk j hjm
      have hqm : ∀ x ∈ q, x ∈ pile ∧ x < j := by
        intro x hx
        refine ⟨by rw [hq]; simp [hx], ?_⟩
        have := h.sorted
        rw [hq, List.pairwise_append] at this
        exact this.2.2 x hx j (by simp)
      have hmq : ∀ x ∈ pile, x = j ∨ x ∈ q := by
        intro x hx; rw [hq] at hx; simp at hx; exact hx.symm
      have g : ∀ t, t ≠ k → t ≠ j → ((out.set k (j : Int)).set j (k : Int)).getD t 0 = out.getD t 0 := fun t h1 h2 => by
        rw [getD_set_ne _ (fun e => h2 e.symm), getD_set_ne _ (fun e => h1 e.symm)]
      have gj : ((out.set k (j : Int)).set j (k : Int)).getD j 0 = (k : Int) := getD_set_same (by simp; rw [h.len]; omega) _
      have gk : ((out.set k (j : Int)).set j (k : Int)).getD k 0 = (j : Int) := by
        rw [getD_set_ne _ (by omega), getD_set_same hlo]
      generalize ho' : (out.set k (j : Int)).set j (k : Int) = out' at *
      have hkb : ¬ begC (cl.getD k 0) := by rw [hc]; exact hb
      constructor
      · rw [← ho']; simp [h.len]
      · have := h.sorted
        rw [hq, List.pairwise_append] at this
        exact this.1
      · intro x hx
        obtain ⟨hx1, hx2⟩ := hqm x hx
        have h1 := h.stk x hx1
        show _ ∧ _ ∧ out'.getD x 0 = _
        rw [g x (by omega) (by omega)]
        exact ⟨by omega, h1.2⟩
      · intro t ht hbt hn
        have hn' : t ∉ q := hn
        have htk : t ≠ k := by rintro rfl; exact hkb hbt
        show out'.getD t 0 = _ ∨ ∃ m : Nat, out'.getD t 0 = _ ∧ _ ∧ _ ∧ _ ∧ out'.getD m 0 = _
        by_cases htj : t = j
        · subst htj
          exact .inr ⟨k, gj, by omega, by omega, by rw [hc]; exact h23, gk⟩
        · rw [g t htk htj]
          have hnp : t ∉ pile := fun hh => by rcases hmq t hh with h1 | h1; exact htj h1; exact hn' h1
          rcases h.beg t (by omega) hbt hnp with h1 | ⟨m, h1, h2, h3, h4, h5⟩
          · exact .inl h1
          · have hmj : m ≠ j := by rintro rfl; unfold begC at hjb; omega
            exact .inr ⟨m, h1, h2, by omega, h4, by rw [g m (by omega) hmj]; exact h5⟩
      · intro t ht ht3
        show out'.getD t 0 = _ ∨ ∃ m : Nat, out'.getD t 0 = _ ∧ _ ∧ _ ∧ out'.getD m 0 = _
        by_cases htk : t = k
        · subst htk
          exact .inr ⟨j, gk, hjk, hjb, gj⟩
        · have htj : t ≠ j := by rintro rfl; unfold begC at hjb; omega
          rw [g t htk htj]
          rcases h.pdi t (by omega) ht3 with h1 | ⟨m, h1, h2, h3, h4⟩
          · exact .inl h1
          · have hmj : m ≠ j := by rintro rfl; omega
            exact .inr ⟨m, h1, h2, h3, by rw [g m (by omega) hmj]; exact h4⟩
      · intro t ht hbt ht3
        have htk : t ≠ k := by rintro rfl; rw [hc] at ht3; exact ht3 h23
        have htj : t ≠ j := by rintro rfl; exact hbt hjb
        show out'.getD t 0 = _
        rw [g t htk htj]
        exact h.other t (by omega) hbt ht3
      · intro x hx t hxt ht
        obtain ⟨hx1, hx2⟩ := hqm x hx
        show _ ∧ (_ → t ∈ q ∨ out'.getD t 0 < _) ∧ (_ → _ < out'.getD t 0)
        by_cases htk : t = k
        · subst htk
          rw [gk, hc]
          exact ⟨by omega, fun hh => absurd hh hb, fun _ => by omega⟩
        · obtain ⟨h1, h2, h3⟩ := h.open_ x hx1 t hxt (by omega)
          by_cases htj : t = j
          · subst htj
            rw [gj]
            exact ⟨h1, fun _ => .inr (by omega), fun hh => by unfold begC at hjb; omega⟩
          · rw [g t htk htj]
            refine ⟨h1, fun hbt => ?_, h3⟩
            rcases h2 hbt with h4 | h4
            · rcases hmq t h4 with h5 | h5
              · exact absurd h5 htj
              · exact .inl h5
            · exact .inr (by omega)
      · intro i hi hbi ho t hit hto
        have ho2 : out'.getD i 0 < (k : Int) + 1 := by push_cast at ho; exact ho
        have hto2 : (t : Int) < out'.getD i 0 := hto
        have hik : i ≠ k := by rintro rfl; exact hkb hbi
        show _ ∧ (_ → out'.getD t 0 < out'.getD i 0) ∧ (_ → _ < out'.getD t 0)
        by_cases hij : i = j
        · subst hij
          rw [gj] at hto2 ⊢
          have htk : t ≠ k := by omega
          have hti : t ≠ i := by omega
          rw [g t htk hti]
          obtain ⟨h1, h2, h3⟩ := h.open_ i hjm t hit (by omega)
          refine ⟨h1, fun hbt => ?_, h3⟩
          rcases h2 hbt with h4 | h4
          · rcases hmq t h4 with h5 | h5
            · omega
            · have := (hqm t h5).2; omega
          · exact h4
        · rw [g i hik hij] at ho2 hto2 ⊢
          have hs := h.small hk (by omega) hbi ho2
          have htk : t ≠ k := by omega
          have hsh := h.shut i (by omega) hbi hs.2 t hit hto2
          have htj : t ≠ j := by rintro rfl; have := hsh.2.1 hjb; omega
          rw [g t htk htj]
          exact hsh
    · rw [if_neg hp]
      have g : ∀ t, t ≠ k → (out.set k (-1)).getD t 0 = out.getD t 0 := fun t ht => getD_set_ne _ (fun e => ht e.symm) _
      have gk : (out.set k (-1)).getD k 0 = -1 := getD_set_same hlo _
      have hkb : ¬ begC (cl.getD k 0) := by rw [hc]; exact hb
      generalize ho' : out.set k (-1) = out' at *
      have hshut : ∀ i, i < k + 1 → begC (cl.getD i 0) → out'.getD i 0 < ((k + 1 : Nat) : Int) → ∀ t : Nat, i < t → (t : Int) < out'.getD i 0 → cl.getD t 0 ≠ 11 ∧ (begC (cl.getD t 0) → out'.getD t 0 < out'.getD i 0) ∧ (cl.getD t 0 = 23 → (i : Int) < out'.getD t 0) := by
        intro i hi hbi ho t hit hto
        have hik : i ≠ k := by rintro rfl; exact hkb hbi
        rw [g i hik] at ho hto ⊢
        have hs := h.small hk (by omega) hbi (by omega)
        rw [g t (by omega)]
        exact h.shut i (by omega) hbi hs.2 t hit hto
      have hoth : ∀ t, t < k + 1 → ¬ begC (cl.getD t 0) → cl.getD t 0 ≠ 23 → out'.getD t 0 = -1 := by
        intro t ht hbt ht3
        by_cases htk : t = k
        · rw [htk, gk]
        · rw [g t htk]; exact h.other t (by omega) hbt ht3
      have hpdi : ∀ t, t < k + 1 → cl.getD t 0 = 23 → out'.getD t 0 = -1 ∨ ∃ m : Nat, out'.getD t 0 = (m : Int) ∧ m < t ∧ begC (cl.getD m 0) ∧ out'.getD m 0 = (t : Int) := by
        intro t ht ht3
        by_cases htk : t = k
        · rw [htk, gk]; exact .inl rfl
        · rw [g t htk]
          rcases h.pdi t (by omega) ht3 with h1 | ⟨m, h1, h2, h3, h4⟩
          · exact .inl h1
          · exact .inr ⟨m, h1, h2, h3, by rw [g m (by omega)]; exact h4⟩
      have hlen : out'.length = cl.length := by rw [← ho']; simp [h.len]
      by_cases h11 : c = 11
      · rw [if_pos h11]
        refine ⟨hlen, List.Pairwise.nil, by simp, ?_, hpdi, hoth, by simp, hshut⟩
        intro t ht hbt _
        have htk : t ≠ k := by rintro rfl; exact hkb hbt
        show out'.getD t 0 = _ ∨ ∃ m : Nat, out'.getD t 0 = _ ∧ _ ∧ _ ∧ _ ∧ out'.getD m 0 = _
        rw [g t htk]
        by_cases hm : t ∈ pile
        · exact .inl (h.stk t hm).2.2
        · rcases h.beg t (by omega) hbt hm with h1 | ⟨m, h1, h2, h3, h4, h5⟩
          · exact .inl h1
          · exact .inr ⟨m, h1, h2, by omega, h4, by rw [g m (by omega)]; exact h5⟩
      · rw [if_neg h11]
        refine ⟨hlen, h.sorted, ?_, ?_, hpdi, hoth, ?_, hshut⟩
        · intro x hx
          have h1 := h.stk x hx
          show _ ∧ _ ∧ out'.getD x 0 = _
          rw [g x (by omega)]
          exact ⟨by omega, h1.2⟩
        · intro t ht hbt hm
          have htk : t ≠ k := by rintro rfl; exact hkb hbt
          show out'.getD t 0 = _ ∨ ∃ m : Nat, out'.getD t 0 = _ ∧ _ ∧ _ ∧ _ ∧ out'.getD m 0 = _
          rw [g t htk]
          rcases h.beg t (by omega) hbt hm with h1 | ⟨m, h1, h2, h3, h4, h5⟩
          · exact .inl h1
          · exact .inr ⟨m, h1, h2, by omega, h4, by rw [g m (by omega)]; exact h5⟩
        · intro x hx t hxt ht
          show _ ∧ (_ → t ∈ pile ∨ out'.getD t 0 < _) ∧ (_ → _ < out'.getD t 0)
          by_cases htk : t = k
          · subst htk
            rw [hc]
            refine ⟨h11, fun hh => absurd hh hb, fun h23 => absurd ⟨h23, ?_⟩ hp⟩
            rintro rfl
            simp at hx
          · rw [g t htk]
            obtain ⟨h1, h2, h3⟩ := h.open_ x hx t hxt (by omega)
            refine ⟨h1, fun hbt => ?_, h3⟩
            rcases h2 hbt with h4 | h4
            · exact .inl h4
            · exact .inr (by omega)

theorem MInv.all (cl : List Int) (k : Nat) (hk : k ≤ cl.length) : MInv cl k (matchTo cl k).1 (matchTo cl k).2 := by
  induction k with
  | zero => exact MInv.start cl
  | succ k ih => rw [matchTo]; exact (ih (by omega)).step (by omega)
theorem match_inv (cl : List Int) : MInv cl cl.length (matchL cl) (matchTo cl cl.length).2 := MInv.all cl _ (Nat.le_refl _)

/-- of an isolate's beginning: its end, or the list's -/
theorem match_beg (cl : List Int) (i : Nat) (hi : i < cl.length) (hb : begC (cl.getD i 0)) : ∃ m : Nat, (matchL cl).getD i 0 = (m : Int) ∧ i < m ∧ m ≤ cl.length ∧ (m < cl.length → cl.getD m 0 = 23 ∧ (matchL cl).getD m 0 = (i : Int)) := by
  have h := match_inv cl
  by_cases hp : i ∈ (matchTo cl cl.length).2
  · exact ⟨cl.length, (h.stk i hp).2.2, hi, Nat.le_refl _, fun hh => by omega⟩
  · rcases h.beg i hi hb hp with h1 | ⟨m, h1, h2, h3, h4, h5⟩
    · exact ⟨cl.length, h1, hi, Nat.le_refl _, fun hh => by omega⟩
    · exact ⟨m, h1, h2, by omega, fun _ => ⟨h4, h5⟩⟩
end Go.Proofs.Ytmcjlkpogcnniaa
