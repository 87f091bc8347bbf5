/-
  Plain laws: the runs as they are shown rise by the place of their first character; there is one such list; a run read place by place. No program here.
-/
import Derived.Test.YtcgdhgdblieaiaaG1
set_option linter.unusedVariables false
namespace Go.Proofs.Ytcgdhgdblieaiaa

theorem perm_sorted_eq {α : Type} (key : α → Int) (A B : List α) (hp : A.Perm B) (hA : A.Pairwise (fun a b => key a < key b)) (hB : B.Pairwise (fun a b => key a ≤ key b)) : A = B := by
  induction A generalizing B with
  | nil => exact (List.Perm.nil_eq hp)
  | cons a t ih =>
    cases B with
    | nil => exact absurd hp.length_eq (by simp)
    | cons b u =>
      rw [List.pairwise_cons] at hA hB
      have hab : a = b := by
        have ha : a ∈ b :: u := hp.mem_iff.1 (by simp)
        have hb : b ∈ a :: t := hp.mem_iff.2 (by simp)
        rcases List.mem_cons.1 ha with e | ha
        · exact e
        · rcases List.mem_cons.1 hb with e | hb
          · exact e.symm
          · have h1 := hB.1 a ha
            have h2 := hA.1 b hb
            omega
      subst hab
      rw [ih u hp.cons_inv hA.2 hB.2]

/-- where a run's first character is shown -/
def keyR (lv : List Int) (r : RunD) : Int := (placesL lv).getD r.f 0
theorem keyR_at {lv : List Int} {r : RunD} (h : RunOk lv lv.length r) : ∃ j : Nat, ∃ hj : j < (ord lv).length, (ord lv)[j] = (r.f : Int) ∧ keyR lv r = (j : Int) := by
  have hfl : r.f < lv.length := by have := h.lt; have := h.le; omega
  have hs : lv[r.f] ≠ -1 := by
    have h1 := h.first
    rw [List.getD_eq_getElem?_getD, List.getElem?_eq_getElem hfl, Option.getD_some] at h1
    rw [h1]; exact h.pos
  obtain ⟨j, hj, h1, h2⟩ := places_shown lv r.f hfl hs
  refine ⟨j, hj, h1, ?_⟩
  unfold keyR
  rw [List.getD_eq_getElem?_getD, List.getElem?_eq_getElem (by rw [placesL_length]; exact hfl), Option.getD_some, h2]
theorem keyR_bd {lv : List Int} {r : RunD} (h : RunOk lv lv.length r) : 0 ≤ keyR lv r ∧ keyR lv r < lv.length := by
  obtain ⟨j, hj, _, h2⟩ := keyR_at h
  have := ord_le lv
  omega
theorem flat_sorted (o : List Int) (hn : o.Nodup) (g : RunD → List Int) (L : List RunD) (off : Nat) (ho : o.drop off = L.flatMap g) (hm : ∀ r ∈ L, (r.f : Int) ∈ g r) :
    (∀ r ∈ L, ∀ i : Nat, o[i]? = some (r.f : Int) → off ≤ i) ∧ L.Pairwise (fun a b => ∀ i j : Nat, o[i]? = some (a.f : Int) → o[j]? = some (b.f : Int) → i < j) := by
  have huniq : ∀ (i j : Nat) (x : Int), o[i]? = some x → o[j]? = some x → i = j := by
    intro i j x h1 h2
    obtain ⟨hi, e1⟩ := List.getElem?_eq_some_iff.1 h1
    obtain ⟨hj, e2⟩ := List.getElem?_eq_some_iff.1 h2
    exact (List.getElem_inj hn).1 (e1.trans e2.symm)
  induction L generalizing off with
  | nil => exact ⟨fun r hr => (by cases hr), List.Pairwise.nil⟩
  | cons r t ih =>
    rw [List.flatMap_cons] at ho
    have hd : o.drop (off + (g r).length) = t.flatMap g := by
      rw [← List.drop_drop, ho, List.drop_left]
    obtain ⟨h1, h2⟩ := ih (off + (g r).length) hd (fun x hx => hm x (by simp [hx]))
    obtain ⟨k, hk, hke⟩ := List.getElem_of_mem (hm r (by simp))
    have hat : o[off + k]? = some (r.f : Int) := by
      have : (o.drop off)[k]? = some (r.f : Int) := by rw [ho, List.getElem?_append_left hk, List.getElem?_eq_getElem hk, hke]
      rwa [List.getElem?_drop] at this
    refine ⟨?_, ?_⟩
    · intro x hx i hi
      rcases List.mem_cons.1 hx with rfl | hx
      · have := huniq _ _ _ hi hat; omega
      · have := h1 x hx i hi; omega
    · rw [List.pairwise_cons]
      refine ⟨?_, h2⟩
      intro x hx i j hi hj
      have e := huniq _ _ _ hi hat
      have := h1 x hx j hj
      omega
theorem runsS_sorted (lv : List Int) (h : ∀ x ∈ lv, -1 ≤ x ∧ x ≤ 126) : (runsS lv).Pairwise (fun a b => keyR lv a < keyR lv b) := by
  have hs := (flat_sorted (ord lv) (nodup_ord lv) (readR lv) (runsS lv) 0 (by rw [List.drop_zero]; exact ord_runs lv h) (fun r hr => by
    have := block_self (runsS_ok lv r hr)
    unfold readR
    split
    · simpa using this
    · exact this)).2
  refine List.Pairwise.imp_of_mem ?_ hs
  intro a b ha hb hab
  obtain ⟨i, hi, e1, e2⟩ := keyR_at (runsS_ok lv a ha)
  obtain ⟨j, hj, e3, e4⟩ := keyR_at (runsS_ok lv b hb)
  have := hab i j (by rw [List.getElem?_eq_getElem hi, e1]) (by rw [List.getElem?_eq_getElem hj, e3])
  omega
/-- however they were sorted: there is one list of the runs that rises by that place -/
theorem runsS_only (lv : List Int) (h : ∀ x ∈ lv, -1 ≤ x ∧ x ≤ 126) (B : List RunD) (hp : B.Perm (runsL lv)) (hB : B.Pairwise (fun a b => keyR lv a ≤ keyR lv b)) : B = runsS lv :=
  (perm_sorted_eq (keyR lv) (runsS lv) B ((runsS_perm lv).trans hp.symm) (runsS_sorted lv h) hB).symm

/-! ### a run, place by place -/
def readTo (lv : List Int) (r : RunD) (k : Nat) : List Int := if r.l % 2 = 1 then (block lv ⟨r.t - k, r.t, r.l⟩).reverse else block lv ⟨r.f, r.f + k, r.l⟩
theorem readTo_zero (lv : List Int) (r : RunD) : readTo lv r 0 = [] := by
  unfold readTo block
  simp
theorem readTo_end {lv : List Int} {r : RunD} (h : r.f < r.t) : readTo lv r (r.t - r.f) = readR lv r := by
  unfold readTo readR
  rw [show r.t - (r.t - r.f) = r.f by omega, show r.f + (r.t - r.f) = r.t by omega]
theorem block_cons (lv : List Int) (f t : Nat) (l : Int) (h : f < t) : block lv ⟨f, t, l⟩ = (if lv.getD f 0 = -1 then [] else [(f : Int)]) ++ block lv ⟨f + 1, t, l⟩ := by
  unfold block
  simp only
  rw [show t - f = (t - (f + 1)) + 1 by omega, List.range'_succ, List.filter_cons]
  by_cases hs : lv.getD f 0 = -1
  · rw [if_neg (by simpa using hs), if_pos hs]; rfl
  · rw [if_pos (decide_eq_true hs), if_neg hs]; rfl
/-- the place that step k of a run reads -/
def stepAt (r : RunD) (k : Nat) : Nat := if r.l % 2 = 1 then r.t - 1 - k else r.f + k
theorem readTo_gone {lv : List Int} {r : RunD} {k : Nat} (hk : r.f + k < r.t) (hs : lv.getD (stepAt r k) 0 = -1) : readTo lv r (k + 1) = readTo lv r k := by
  unfold readTo stepAt at *
  split
  · rename_i ho
    rw [if_pos ho] at hs
    rw [show r.t - (k + 1) = r.t - 1 - k by omega, block_cons lv _ _ _ (by omega), if_pos hs, List.nil_append, show r.t - 1 - k + 1 = r.t - k by omega]
  · rename_i ho
    rw [if_neg ho] at hs
    exact block_ext lv r.f (r.f + k) (r.f + (k + 1)) r.l (by omega) (by omega) (fun i h1 h2 => by rw [show i = r.f + k by omega]; exact hs)
theorem readTo_shown {lv : List Int} {r : RunD} {k : Nat} (hk : r.f + k < r.t) (hs : lv.getD (stepAt r k) 0 ≠ -1) : readTo lv r (k + 1) = readTo lv r k ++ [(stepAt r k : Int)] := by
  unfold readTo stepAt at *
  split
  · rename_i ho
    rw [if_pos ho] at hs
    rw [show r.t - (k + 1) = r.t - 1 - k by omega, block_cons lv _ _ _ (by omega), if_neg hs, show r.t - 1 - k + 1 = r.t - k by omega]
    simp
  · rename_i ho
    rw [if_neg ho] at hs
    exact block_push lv r.f (r.f + k) r.l (by omega) hs
theorem step_in {r : RunD} {k : Nat} (hk : r.f + k < r.t) : r.f ≤ stepAt r k ∧ stepAt r k < r.t := by
  unfold stepAt
  split <;> omega

/-! ### a line of one level -/
theorem runPush_rep (f k : Nat) (c : Int) : runPush [⟨f, k, c⟩] k c = [⟨f, k + 1, c⟩] := by simp [runPush]
theorem runs_rep (c : Int) (hc : c ≠ -1) (n k : Nat) (hk : k ≤ n) (h1 : 1 ≤ k) : runsTo (List.replicate n c) k = [⟨0, k, c⟩] := by
  induction k with
  | zero => omega
  | succ k ih =>
    have hg : (List.replicate n c).getD k 0 = c := by simp [show k < n by omega]
    rw [runsTo, if_neg (by rw [hg]; exact hc), hg]
    by_cases hk0 : k = 0
    · subst hk0; rfl
    · rw [ih (by omega) (by omega)]
      exact runPush_rep 0 k c
theorem block_rep (c : Int) (hc : c ≠ -1) (n k : Nat) (hk : k ≤ n) (l : Int) : block (List.replicate n c) ⟨0, k, l⟩ = (List.range k).map (fun (i : Nat) => (i : Int)) := by
  induction k with
  | zero => simp [block]
  | succ k ih =>
    rw [block_push _ 0 k l (Nat.zero_le _) (by simp [show k < n by omega, hc]), ih (by omega), List.range_succ, List.map_append]
    rfl
theorem ord_rep (c : Int) (h0 : 0 ≤ c) (h1 : c ≤ 126) (n : Nat) : ord (List.replicate n c) = if c % 2 = 1 then ((List.range n).map (fun (i : Nat) => (i : Int))).reverse else (List.range n).map (fun (i : Nat) => (i : Int)) := by
  cases n with
  | zero =>
    have : ord (List.replicate 0 c) = [] := by
      have := ord_length (List.replicate 0 c)
      rw [show (shownIdx (List.replicate 0 c)).length = 0 by simp [shownIdx]] at this
      exact List.length_eq_zero_iff.1 this
    rw [this]; simp
  | succ n =>
    have hrl : runsL (List.replicate (n + 1) c) = [⟨0, n + 1, c⟩] := by
      unfold runsL
      rw [List.length_replicate]
      exact runs_rep c (by omega) (n + 1) (n + 1) (Nat.le_refl _) (by omega)
    rw [ord_runs _ (fun x hx => by have := List.eq_of_mem_replicate hx; omega)]
    have hs : runsS (List.replicate (n + 1) c) = [⟨0, n + 1, c⟩] := by
      have := runsS_perm (List.replicate (n + 1) c)
      rw [hrl] at this
      exact List.perm_singleton.1 this
    rw [hs]
    simp only [List.flatMap_cons, List.flatMap_nil, List.append_nil]
    unfold readR
    rw [block_rep c (by omega) (n + 1) (n + 1) (Nat.le_refl _)]
end Go.Proofs.Ytcgdhgdblieaiaa
