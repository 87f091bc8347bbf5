/-
  Plain laws: a range of places is shown as at most two pieces for each level, and one more.
-/
import Derived.Test.YtkcdcgijbaepmaaV1
import Derived.Test.YtkcdcgijbaepmaaJ1
set_option linter.unusedVariables false
namespace Go.Proofs.Ytkcdcgijbaepmaa

/-! ### stretches of true -/
def cntB : Bool → List Bool → Nat
  | _, [] => 0
  | b, x :: t => (if x = true ∧ b = false then 1 else 0) + cntB x t
def endB : Bool → List Bool → Bool
  | b, [] => b
  | _, x :: t => endB x t
def hdB : List Bool → Bool
  | [] => false
  | x :: _ => x
theorem cntB_append (l m : List Bool) : ∀ b, cntB b (l ++ m) = cntB b l + cntB (endB b l) m := by
  induction l with
  | nil => intro b; simp [cntB, endB]
  | cons x t ih => intro b; rw [List.cons_append, cntB, cntB, endB, ih, Nat.add_assoc]
theorem endB_append (l m : List Bool) : ∀ b, endB b (l ++ m) = endB (endB b l) m := by
  induction l with
  | nil => intro b; rfl
  | cons x t ih => intro b; exact ih x
theorem cntB_head (b : Bool) (l : List Bool) : cntB b l + (if b = true ∧ hdB l = true then 1 else 0) = cntB false l := by
  cases l with
  | nil => simp [cntB, hdB]
  | cons x t => cases b <;> cases x <;> simp [cntB, hdB] <;> omega
theorem endB_rev (l : List Bool) : endB false l.reverse = hdB l := by
  cases l with
  | nil => rfl
  | cons x t => rw [List.reverse_cons, endB_append]; rfl
theorem head_rev (l : List Bool) : hdB l.reverse = endB false l := by
  have := endB_rev l.reverse
  rw [List.reverse_reverse] at this
  exact this.symm
theorem endB_any (b : Bool) (l : List Bool) (h : l ≠ []) : endB b l = endB false l := by
  cases l with
  | nil => exact absurd rfl h
  | cons x t => rfl
theorem cntB_rev (l : List Bool) : cntB false l.reverse = cntB false l := by
  induction l with
  | nil => rfl
  | cons x t ih =>
    rw [List.reverse_cons, cntB_append, ih, endB_rev]
    have h := cntB_head x t
    cases x <;> cases ht : hdB t <;> simp [ht, cntB] at h ⊢ <;> omega
theorem cntB_turn (b : Bool) (B R : List Bool) : cntB b (B.reverse ++ R) ≤ cntB b (B ++ R) + 1 := by
  by_cases hB : B = []
  · subst hB; simp
  · have hB' : B.reverse ≠ [] := by simpa using hB
    rw [cntB_append, cntB_append, endB_any b _ hB, endB_any b _ hB', endB_rev]
    have h1 := cntB_head b B
    have h2 := cntB_head b B.reverse
    rw [cntB_rev, head_rev] at h2
    have h3 := cntB_head (endB false B) R
    have h4 := cntB_head (hdB B) R
    cases b <;> cases e1 : endB false B <;> cases e2 : hdB B <;> cases e3 : hdB R <;> simp [e1, e2, e3] at h1 h2 h3 h4 ⊢ <;> omega
theorem cntB_step (b : Bool) (A B R R' : List Bool) (c : Nat) (h : ∀ b, cntB b R' ≤ cntB b R + c) : cntB b (A ++ (B.reverse ++ R')) ≤ cntB b (A ++ (B ++ R)) + (c + 1) := by
  rw [cntB_append A _ b, cntB_append A (B ++ R) b]
  have h1 := cntB_turn (endB b A) B R'
  have h2 : cntB (endB b A) (B ++ R') ≤ cntB (endB b A) (B ++ R) + c := by
    rw [cntB_append B R', cntB_append B R]
    have := h (endB (endB b A) B)
    omega
  omega

/-! ### a stretch of which the others come first -/
section
variable (p : Int → Bool)
theorem turnGo_app (B : List Int) : ∀ (A acc : List Int), (∀ y t, B = y :: t → p y = true → (A = [] ∧ acc = []) ∨ ∃ x, A.getLast? = some x ∧ p x = false) →
    turnGo p acc (A ++ B) = turnGo p acc A ++ turns p B
  | [], acc, h => by
    cases B with
    | nil => simp [turnGo, turns]
    | cons y t =>
      by_cases hy : p y = true
      · rcases h y t rfl hy with ⟨-, rfl⟩ | ⟨x, hx, -⟩
        · rfl
        · cases hx
      · rw [List.nil_append, turnGo_end p acc _ (fun y' t' e => by cases e; simpa using hy)]
        rfl
  | a :: A, acc, h => by
    rw [List.cons_append, turnGo, turnGo]
    by_cases ha : p a = true
    · rw [if_pos ha, if_pos ha]
      refine turnGo_app B A (a :: acc) (fun y t e hy => ?_)
      rcases h y t e hy with ⟨h1, -⟩ | ⟨x, hx, hp⟩
      · cases h1
      · cases A with
        | nil => simp at hx; subst hx; rw [ha] at hp; cases hp
        | cons a' A' => exact .inr ⟨x, by simpa using hx, hp⟩
    · rw [if_neg ha, if_neg ha, turnGo_app B A [] (fun y t e hy => ?_), List.append_assoc, List.cons_append]
      rcases h y t e hy with ⟨h1, -⟩ | ⟨x, hx, hp⟩
      · cases h1
      · cases A with
        | nil => exact .inl ⟨rfl, rfl⟩
        | cons a' A' => exact .inr ⟨x, by simpa using hx, hp⟩
theorem turns_app (A B : List Int) (h : ∀ x y, A.getLast? = some x → B[0]? = some y → ¬ (p x = true ∧ p y = true)) : turns p (A ++ B) = turns p A ++ turns p B := by
  refine turnGo_app p B A [] (fun y t e hy => ?_)
  subst e
  cases hA : A.getLast? with
  | none => exact .inl ⟨List.getLast?_eq_none_iff.1 hA, rfl⟩
  | some x =>
    refine .inr ⟨x, rfl, ?_⟩
    have := h x y hA rfl
    cases hx : p x
    · rfl
    · exact absurd ⟨hx, hy⟩ this

/-- between the places c - 1 and c no stretch goes through -/
def cutP (X : List Int) (c : Nat) : Prop := ∀ x y, 0 < c → X[c - 1]? = some x → X[c]? = some y → ¬ (p x = true ∧ p y = true)
/-- L is X, each stretch in an order of its own -/
def BP (L X : List Int) : Prop := L.Perm X ∧ ∀ c, cutP p X c → (L.take c).Perm (X.take c)
theorem BP.refl (X : List Int) : BP p X X := ⟨.refl _, fun _ _ => .refl _⟩
variable {p}
theorem BP.mono {p' : Int → Bool} {L X : List Int} (h : BP p L X) (hp : ∀ x, p x = true → p' x = true) : BP p' L X :=
  ⟨h.1, fun c hc => h.2 c (fun x y h0 h1 h2 ⟨h3, h4⟩ => hc x y h0 h1 h2 ⟨hp x h3, hp y h4⟩)⟩
theorem take_one (L : List Int) (c : Nat) (y : Int) (h : L[c]? = some y) : L.take (c + 1) = L.take c ++ [y] := by
  obtain ⟨hc, rfl⟩ := List.getElem?_eq_some_iff.1 h
  exact List.take_succ_eq_append_getElem hc
theorem perm_one {L X : List Int} {c : Nat} {y y' : Int} (h1 : (L.take c).Perm (X.take c)) (h2 : (L.take (c + 1)).Perm (X.take (c + 1))) (hy : L[c]? = some y) (hy' : X[c]? = some y') : y = y' := by
  rw [take_one L c y hy, take_one X c y' hy'] at h2
  have h3 := (h1.append_right [y']).symm
  have h4 := h2.trans h3
  have h5 := (List.perm_append_left_iff _).1 h4
  simpa using h5
theorem BP.cut {L X : List Int} (h : BP p L X) {c : Nat} (hc : cutP p X c) : cutP p L c := by
  intro x y h0 hx hy ⟨px, py⟩
  have hl := h.1.length_eq
  have hcl := (List.getElem?_eq_some_iff.1 hy).1
  obtain ⟨y', hy'⟩ : ∃ y', X[c]? = some y' := ⟨X[c], List.getElem?_eq_getElem (by omega)⟩
  obtain ⟨x', hx'⟩ : ∃ x', X[c - 1]? = some x' := ⟨X[c - 1], List.getElem?_eq_getElem (by omega)⟩
  have hn := hc x' y' h0 hx' hy'
  by_cases hpy : p y' = true
  · have hpx : ¬ p x' = true := fun e => hn ⟨e, hpy⟩
    have hc1 : cutP p X (c - 1) := fun u v _ _ hv ⟨_, pv⟩ => by rw [hx'] at hv; cases hv; exact hpx pv
    have := perm_one (h.2 _ hc1) (by rw [show c - 1 + 1 = c by omega]; exact h.2 _ hc) hx hx'
    exact hpx (this ▸ px)
  · have hc1 : cutP p X (c + 1) := fun u v _ hu _ ⟨pu, _⟩ => by rw [Nat.add_sub_cancel, hy'] at hu; cases hu; exact hpy pu
    have := perm_one (h.2 _ hc) (h.2 _ hc1) hy hy'
    exact hpy (this ▸ py)
theorem last_take (L : List Int) (c : Nat) (x : Int) (h : (L.take c).getLast? = some x) (hc : c ≤ L.length) : 0 < c ∧ L[c - 1]? = some x := by
  rw [List.getLast?_eq_getElem?, List.length_take, Nat.min_eq_left hc] at h
  have := (List.getElem?_eq_some_iff.1 h).1
  rw [List.length_take, Nat.min_eq_left hc] at this
  rw [List.getElem?_take, if_pos (by omega)] at h
  exact ⟨by omega, h⟩
theorem turns_take {L : List Int} {c : Nat} (hc : cutP p L c) (hl : c ≤ L.length) : turns p L = turns p (L.take c) ++ turns p (L.drop c) := by
  have h : L = L.take c ++ L.drop c := (List.take_append_drop c L).symm
  conv => lhs; rw [h]
  refine turns_app p _ _ (fun x y hx hy => ?_)
  obtain ⟨h0, h1⟩ := last_take L c x hx hl
  rw [List.getElem?_drop, Nat.add_zero] at hy
  exact hc x y h0 h1 hy
theorem BP.turn {L X : List Int} (h : BP p L X) : BP p (turns p L) X := by
  refine ⟨(turns_perm p L).trans h.1, fun c hc => ?_⟩
  by_cases hl : c ≤ L.length
  · rw [turns_take (h.cut hc) hl, List.take_left' (by rw [turns_length, List.length_take]; omega)]
    exact (turns_perm p _).trans (h.2 c hc)
  · have hx := h.1.length_eq
    rw [List.take_of_length_le (by rw [turns_length]; omega), List.take_of_length_le (by omega)]
    exact (turns_perm p L).trans h.1
/-- the stretch from s to e -/
def segL (L : List Int) (s e : Nat) : List Int := (L.take e).drop s
theorem take_seg (L : List Int) {s e : Nat} (h : s ≤ e) : L.take s ++ segL L s e = L.take e := by
  have := List.take_append_drop s (L.take e)
  rwa [List.take_take, Nat.min_eq_left h] at this
theorem drop_seg (L : List Int) {s e : Nat} (h : s ≤ e) : segL L s e ++ L.drop e = L.drop s := by
  have h1 := take_seg L h
  have h2 := List.take_append_drop e L
  rw [← h1, List.append_assoc] at h2
  have h3 := List.take_append_drop s L
  exact List.append_cancel_left (h2.trans h3.symm)
theorem BP.seg {L X : List Int} (h : BP p L X) {s e : Nat} (hs : cutP p X s) (he : cutP p X e) (hse : s ≤ e) : (segL L s e).Perm (segL X s e) := by
  have h1 := h.2 e he
  rw [← take_seg L hse, ← take_seg X hse] at h1
  exact (List.perm_append_left_iff _).1 (h1.trans ((h.2 s hs).symm.append_right _))
theorem mem_seg {X : List Int} {s e : Nat} {x : Int} (h : x ∈ segL X s e) : ∃ k, s ≤ k ∧ k < e ∧ X[k]? = some x := by
  obtain ⟨k, hk, rfl⟩ := List.mem_iff_getElem.1 h
  unfold segL at hk
  rw [List.length_drop, List.length_take] at hk
  refine ⟨s + k, by omega, by omega, ?_⟩
  rw [List.getElem?_eq_getElem (by omega)]
  simp [segL]
theorem turns_seg {L : List Int} {s e : Nat} (he : cutP p L e) (hse : s ≤ e) (hl : e ≤ L.length) : turns p (L.drop s) = turns p (segL L s e) ++ turns p (L.drop e) := by
  rw [← drop_seg L hse]
  refine turns_app p _ _ (fun x y hx hy => ?_)
  rw [List.getElem?_drop, Nat.add_zero] at hy
  unfold segL at hx
  by_cases hs : s = e
  · subst hs
    rw [List.drop_of_length_le (by rw [List.length_take]; omega)] at hx
    cases hx
  · have h1 : (L.take e).getLast? = some x := by
      rw [List.getLast?_drop, if_neg (by rw [List.length_take]; omega)] at hx
      exact hx
    obtain ⟨h0, h2⟩ := last_take L e x h1 hl
    exact he x y h0 h2 hy
theorem turns_all (B : List Int) (h : ∀ x ∈ B, p x = true) : turns p B = B.reverse := by
  have := turns_run p B [] h (fun x t e => by cases e)
  rwa [List.append_nil, turns_nil, List.append_nil] at this
theorem map_const {q : Int → Bool} {b : Bool} (A : List Int) (h : ∀ x ∈ A, q x = b) : (turns p A).map q = A.map q := by
  have e : ∀ l : List Int, (∀ x ∈ l, q x = b) → l.map q = List.replicate l.length b := fun l hl => by
    rw [List.eq_replicate_iff]
    exact ⟨by simp, fun y hy => by obtain ⟨x, hx, rfl⟩ := List.mem_map.1 hy; exact hl x hx⟩
  rw [e A h, e _ (fun x hx => h x ((turns_perm p A).mem_iff.1 hx)), turns_length]

/-! ### the stretch in which a place lies -/
theorem cut_left (p : Int → Bool) (X : List Int) : ∀ i, ∃ s, s ≤ i ∧ cutP p X s ∧ (∀ k, s < k → k ≤ i → ¬ cutP p X k) ∧ ∀ k x, s ≤ k → k < i → X[k]? = some x → p x = true := by
  intro i
  induction i with
  | zero => exact ⟨0, Nat.le_refl _, fun _ _ h => by omega, fun k h1 h2 => by omega, fun k x h1 h2 => by omega⟩
  | succ i ih =>
    by_cases hc : cutP p X (i + 1)
    · exact ⟨i + 1, Nat.le_refl _, hc, fun k h1 h2 => by omega, fun k x h1 h2 => by omega⟩
    · obtain ⟨s, h1, h2, h3, h4⟩ := ih
      refine ⟨s, by omega, h2, fun k hk1 hk2 => ?_, fun k x hk1 hk2 hx => ?_⟩
      · by_cases e : k = i + 1
        · subst e; exact hc
        · exact h3 k hk1 (by omega)
      · by_cases e : k = i
        · subst e
          refine Classical.byContradiction fun hp => hc (fun u v _ hu _ ⟨pu, _⟩ => ?_)
          rw [Nat.add_sub_cancel, hx] at hu
          cases hu
          exact hp pu
        · exact h4 k x hk1 (by omega) hx
theorem cut_right (p : Int → Bool) (X : List Int) : ∀ d i, X.length - i = d → i ≤ X.length → ∃ e, i ≤ e ∧ e ≤ X.length ∧ cutP p X e ∧ (∀ k, i ≤ k → k < e → ¬ cutP p X k) ∧ ∀ k x, i ≤ k → k < e → X[k]? = some x → p x = true := by
  intro d
  induction d with
  | zero =>
    intro i hd hi
    refine ⟨i, Nat.le_refl _, hi, fun x y _ _ hy => ?_, fun k h1 h2 => by omega, fun k x h1 h2 => by omega⟩
    have := (List.getElem?_eq_some_iff.1 hy).1
    omega
  | succ d ih =>
    intro i hd hi
    by_cases hc : cutP p X i
    · exact ⟨i, Nat.le_refl _, hi, hc, fun k h1 h2 => by omega, fun k x h1 h2 => by omega⟩
    · obtain ⟨e, h1, h2, h3, h4, h5⟩ := ih (i + 1) (by omega) (by omega)
      refine ⟨e, by omega, h2, h3, fun k hk1 hk2 => ?_, fun k x hk1 hk2 hx => ?_⟩
      · by_cases ek : k = i
        · subst ek; exact hc
        · exact h4 k (by omega) hk2
      · by_cases ek : k = i
        · subst ek
          refine Classical.byContradiction fun hp => hc (fun u v _ _ hv ⟨_, pv⟩ => ?_)
          rw [hx] at hv
          cases hv
          exact hp pv
        · exact h5 k x (by omega) hk2 hx

/-- one round: at most two more -/
theorem turn_cnt {p q : Int → Bool} {L X : List Int} (h : BP p L X) (i j : Nat) (hij : i ≤ j) (hj : j ≤ X.length) (hq : ∀ k x, X[k]? = some x → (q x = true ↔ i ≤ k ∧ k < j)) (b : Bool) :
    cntB b ((turns p L).map q) ≤ cntB b (L.map q) + 2 := by
  have hl := h.1.length_eq
  obtain ⟨s1, hs1, cs1, ns1, ps1⟩ := cut_left p X i
  obtain ⟨e1, he1, le1, ce1, ne1, pe1⟩ := cut_right p X _ i rfl (by omega)
  obtain ⟨s2, hs2, cs2, ns2, ps2⟩ := cut_left p X j
  obtain ⟨e2, he2, le2, ce2, ne2, pe2⟩ := cut_right p X _ j rfl hj
  have hcut0 : cutP p X 0 := fun _ _ h0 => by omega
  have hA : ∀ x ∈ L.take s1, q x = false := fun x hx => by
    have hx2 := (h.2 s1 cs1).mem_iff.1 hx
    obtain ⟨k, hk, rfl⟩ := List.mem_iff_getElem.1 hx2
    rw [List.length_take] at hk
    rw [List.getElem_take]
    cases e : q X[k]
    · rfl
    · have := (hq k X[k] (List.getElem?_eq_getElem (by omega))).1 e
      omega
  have hB : ∀ x ∈ segL L s1 e1, p x = true := fun x hx => by
    obtain ⟨k, h1, h2, h3⟩ := mem_seg ((h.seg cs1 ce1 (by omega)).mem_iff.1 hx)
    by_cases hk : k < i
    · exact ps1 k x h1 hk h3
    · exact pe1 k x (by omega) h2 h3
  have hE : ∀ e, cutP p X e → e ≤ X.length → j ≤ e → ∀ x ∈ L.drop e, q x = false := fun e ce he hje x hx => by
    have hp : (L.drop e).Perm (X.drop e) := by
      have h1 := h.1
      rw [← List.take_append_drop e L, ← List.take_append_drop e X] at h1
      exact (List.perm_append_left_iff _).1 (h1.trans ((h.2 e ce).symm.append_right _))
    obtain ⟨k, hk, rfl⟩ := List.mem_iff_getElem.1 (hp.mem_iff.1 hx)
    rw [List.length_drop] at hk
    rw [List.getElem_drop]
    cases e' : q X[e + k]
    · rfl
    · have := (hq (e + k) X[e + k] (List.getElem?_eq_getElem (by omega))).1 e'
      omega
  have t1 : turns p L = turns p (L.take s1) ++ (turns p (segL L s1 e1) ++ turns p (L.drop e1)) := by
    rw [turns_take (h.cut cs1) (by omega), turns_seg (h.cut ce1) (by omega : s1 ≤ e1) (by omega)]
  have l1 : L = L.take s1 ++ (segL L s1 e1 ++ L.drop e1) := by
    rw [drop_seg L (by omega : s1 ≤ e1), List.take_append_drop]
  rw [turns_all _ hB] at t1
  by_cases hc : e1 ≤ s2
  · have hC : ∀ x ∈ segL L e1 s2, q x = true := fun x hx => by
      obtain ⟨k, h1, h2, h3⟩ := mem_seg ((h.seg ce1 cs2 hc).mem_iff.1 hx)
      exact (hq k x h3).2 ⟨by omega, by omega⟩
    have hD : ∀ x ∈ segL L s2 e2, p x = true := fun x hx => by
      obtain ⟨k, h1, h2, h3⟩ := mem_seg ((h.seg cs2 ce2 (by omega)).mem_iff.1 hx)
      by_cases hk : k < j
      · exact ps2 k x h1 hk h3
      · exact pe2 k x (by omega) h2 h3
    have t2 : turns p (L.drop e1) = turns p (segL L e1 s2) ++ ((segL L s2 e2).reverse ++ turns p (L.drop e2)) := by
      rw [turns_seg (h.cut cs2) hc (by omega), turns_seg (h.cut ce2) (by omega : s2 ≤ e2) (by omega), turns_all _ hD]
    have l2 : L.drop e1 = segL L e1 s2 ++ (segL L s2 e2 ++ L.drop e2) := by
      rw [drop_seg L (by omega : s2 ≤ e2), drop_seg L hc]
    rw [t1, t2]
    conv => rhs; rw [l1, l2]
    simp only [List.map_append, List.map_reverse]
    rw [map_const _ hA, map_const _ hC, map_const _ (hE e2 ce2 le2 he2)]
    refine cntB_step b _ _ _ _ 1 (fun b => ?_)
    exact cntB_step b _ _ _ _ 0 (fun b => Nat.le_refl _)
  · have h1 : s2 < i := Classical.byContradiction fun hn => ne1 s2 (by omega) (by omega) cs2
    have h2 : j < e1 := Classical.byContradiction fun hn => ns2 e1 (by omega) (by omega) ce1
    rw [t1]
    conv => rhs; rw [l1]
    simp only [List.map_append, List.map_reverse]
    rw [map_const _ hA, map_const _ (hE e1 ce1 le1 (by omega))]
    have := cntB_step b ((L.take s1).map q) ((segL L s1 e1).map q) _ _ 0 (fun b => Nat.le_refl (cntB b ((L.drop e1).map q)))
    omega
end

theorem pass_cnt {q : Int → Bool} {X : List Int} (lv : List Int) (i j : Nat) (hij : i ≤ j) (hj : j ≤ X.length) (hq : ∀ k x, X[k]? = some x → (q x = true ↔ i ≤ k ∧ k < j)) (b : Bool) :
    ∀ (k : Nat) (L : List Int), BP (lvGe lv k) L X → cntB b ((passes lv k L).map q) ≤ cntB b (L.map q) + 2 * k := by
  intro k
  induction k with
  | zero => intro L _; exact Nat.le_refl _
  | succ k ih =>
    intro L h
    rw [passes]
    have h1 := turn_cnt h i j hij hj hq b
    have h2 := ih (turns (lvGe lv (k + 1)) L) (h.turn.mono (fun x hx => by unfold lvGe at hx ⊢; have := of_decide_eq_true hx; exact decide_eq_true (by omega)))
    omega

theorem cntB_none (l : List Bool) (h : ∀ x ∈ l, x = false) : ∀ b, cntB b l = 0 := by
  induction l with
  | nil => intro b; rfl
  | cons x t ih =>
    intro b
    rw [cntB, h x (by simp), ih (fun y hy => h y (by simp [hy]))]
    simp
theorem cntB_first (l : List Bool) : ∀ j : Nat, (∀ (k : Nat) (x : Bool), l[k]? = some x → (x = true ↔ k < j)) → cntB true l = 0 := by
  induction l with
  | nil => intro j _; rfl
  | cons x t ih =>
    intro j h
    cases j with
    | zero =>
      refine cntB_none _ (fun y hy => ?_) true
      obtain ⟨k, hk, rfl⟩ := List.mem_iff_getElem.1 hy
      have := h k _ (List.getElem?_eq_getElem hk)
      cases e : (x :: t)[k]
      · rfl
      · exact absurd (this.1 e) (by omega)
    | succ j =>
      have hx : x = true := (h 0 x rfl).2 (by omega)
      rw [cntB, hx, ih j (fun k y hy => (h (k + 1) y (by simpa using hy)).trans (by omega))]
      simp
theorem cntB_once (l : List Bool) : ∀ i j : Nat, (∀ (k : Nat) (x : Bool), l[k]? = some x → (x = true ↔ i ≤ k ∧ k < j)) → cntB false l ≤ 1 := by
  induction l with
  | nil => intro i j _; exact Nat.zero_le _
  | cons x t ih =>
    intro i j h
    cases i with
    | zero =>
      have h1 := cntB_first (x :: t) j (fun k y hy => (h k y hy).trans (by omega))
      have h2 := cntB_head true (x :: t)
      rw [h1] at h2
      split at h2 <;> omega
    | succ i =>
      have hx : x = false := by
        cases e : x
        · rfl
        · have := (h 0 x rfl).1 e; omega
      rw [cntB, hx]
      have := ih i (j - 1) (fun k y hy => (h (k + 1) y (by simpa using hy)).trans (by omega))
      simpa using this

theorem below_count (a : Int) : ∀ (X : List Int), X.Pairwise (· < ·) → ∀ k x, X[k]? = some x → (x < a ↔ k < (X.filter (fun y => decide (y < a))).length) := by
  intro X
  induction X with
  | nil => intro _ k x h; simp at h
  | cons y t ih =>
    intro hp k x h
    rw [List.pairwise_cons] at hp
    by_cases hy : y < a
    · rw [List.filter_cons, if_pos (decide_eq_true hy), List.length_cons]
      cases k with
      | zero => simp at h; subst h; omega
      | succ k =>
        have := ih hp.2 k x (by simpa using h)
        omega
    · have h0 : t.filter (fun y => decide (y < a)) = [] := by
        rw [List.filter_eq_nil_iff]
        intro z hz
        have := hp.1 z hz
        simp; omega
      rw [List.filter_cons, if_neg (by simpa using hy), h0, List.length_nil]
      have hx : ¬ x < a := by
        cases k with
        | zero => simp at h; subst h; exact hy
        | succ k => have := hp.1 x (List.mem_of_getElem? (by simpa using h)); omega
      omega
theorem sorted_shownIdx (lv : List Int) : (shownIdx lv).Pairwise (· < ·) := by
  unfold shownIdx
  rw [List.pairwise_map]
  exact (List.Pairwise.filter _ List.pairwise_lt_range).imp (fun h => by omega)

/-- a range of places: at most two stretches for each level, and one more -/
theorem ord_cnt (lv : List Int) (a b : Int) (q : Int → Bool) (hq : ∀ x, q x = true ↔ a ≤ x ∧ x < b) : cntB false ((ord lv).map q) ≤ 2 * (high lv).toNat + 1 := by
  obtain ⟨X, hX⟩ : ∃ X, X = shownIdx lv := ⟨_, rfl⟩
  have hs := sorted_shownIdx lv
  rw [← hX] at hs
  obtain ⟨i, hi⟩ : ∃ i, i = (X.filter (fun y => decide (y < a))).length := ⟨_, rfl⟩
  obtain ⟨j0, hj0⟩ : ∃ j, j = (X.filter (fun y => decide (y < b))).length := ⟨_, rfl⟩
  have hil : i ≤ X.length := by rw [hi]; exact List.length_filter_le _ _
  have hjl : j0 ≤ X.length := by rw [hj0]; exact List.length_filter_le _ _
  have key : ∀ k x, X[k]? = some x → (q x = true ↔ i ≤ k ∧ k < max i j0) := fun k x h => by
    have h1 := below_count a X hs k x h
    have h2 := below_count b X hs k x h
    rw [← hi] at h1
    rw [← hj0] at h2
    rw [hq]
    omega
  have h1 := pass_cnt lv i (max i j0) (by omega) (by omega) key false (high lv).toNat X (BP.refl _ X)
  have h2 : cntB false (X.map q) ≤ 1 := cntB_once _ i (max i j0) (fun k x h => by
    rw [List.getElem?_map] at h
    cases hx : X[k]? with
    | none => rw [hx] at h; cases h
    | some y =>
      rw [hx] at h
      simp at h
      subst h
      exact key k y hx)
  unfold ord
  rw [← hX]
  omega

/-! ### the pieces of the stretches -/
def segB : Int → Option Int → List Bool → List PD
  | _, none, [] => []
  | k, some s, [] => [⟨s, k⟩]
  | k, none, false :: t => segB (k + 1) none t
  | k, none, true :: t => segB (k + 1) (some k) t
  | k, some s, true :: t => segB (k + 1) (some s) t
  | k, some s, false :: t => ⟨s, k⟩ :: segB (k + 1) none t
theorem segB_length : ∀ (l : List Bool) (k : Int), (segB k none l).length = cntB false l ∧ ∀ s, (segB k (some s) l).length = 1 + cntB true l := by
  intro l
  induction l with
  | nil => intro k; exact ⟨rfl, fun s => rfl⟩
  | cons x t ih =>
    intro k
    obtain ⟨h1, h2⟩ := ih (k + 1)
    cases x
    · exact ⟨by simp [segB, cntB, h1], fun s => by simp [segB, cntB, h1]; omega⟩
    · exact ⟨by simp [segB, cntB, h2], fun s => by simp [segB, cntB, h2]⟩
theorem segB_nf : ∀ (l : List Bool) (k : Int), (NF (segB k none l) ∧ ∀ p ∈ segB k none l, k ≤ p.f) ∧ ∀ s, s < k → NF (segB k (some s) l) ∧ ∀ p ∈ segB k (some s) l, s ≤ p.f := by
  intro l
  induction l with
  | nil =>
    intro k
    refine ⟨⟨NF.nil, fun p hp => by cases hp⟩, fun s hs => ⟨⟨fun p hp => ?_, by simp [segB]⟩, fun p hp => ?_⟩⟩
    · simp [segB] at hp; subst hp; exact hs
    · simp [segB] at hp; subst hp; exact Int.le_refl _
  | cons x t ih =>
    intro k
    obtain ⟨⟨h1, h2⟩, h3⟩ := ih (k + 1)
    cases x
    · refine ⟨⟨h1, fun p hp => by have := h2 p hp; omega⟩, fun s hs => ⟨⟨fun p hp => ?_, ?_⟩, fun p hp => ?_⟩⟩
      · simp only [segB, List.mem_cons] at hp
        rcases hp with rfl | hp
        · exact hs
        · exact h1.pos p hp
      · simp only [segB, List.pairwise_cons]
        exact ⟨fun p hp => by have := h2 p hp; show k < p.f; omega, h1.gap⟩
      · simp only [segB, List.mem_cons] at hp
        rcases hp with rfl | hp
        · exact Int.le_refl _
        · have := h2 p hp; omega
    · obtain ⟨h4, h5⟩ := h3 k (by omega)
      refine ⟨⟨h4, h5⟩, fun s hs => ?_⟩
      obtain ⟨h6, h7⟩ := h3 s (by omega)
      exact ⟨h6, h7⟩
theorem segB_cov : ∀ (l : List Bool) (k x : Int), (cov (segB k none l) x ↔ ∃ i : Nat, x = k + i ∧ l[i]? = some true) ∧ ∀ s, s < k → (cov (segB k (some s) l) x ↔ (s ≤ x ∧ x < k) ∨ ∃ i : Nat, x = k + i ∧ l[i]? = some true) := by
  intro l
  induction l with
  | nil =>
    intro k x
    refine ⟨?_, fun s hs => ?_⟩
    · simp [segB, cov]
    · simp [segB, cov]
  | cons y t ih =>
    intro k x
    obtain ⟨h1, h2⟩ := ih (k + 1) x
    have hs : (∃ i : Nat, x = k + i ∧ (y :: t)[i]? = some true) ↔ (x = k ∧ y = true) ∨ ∃ i : Nat, x = k + 1 + i ∧ t[i]? = some true := by
      constructor
      · rintro ⟨i, e, h⟩
        cases i with
        | zero => simp at h; exact .inl ⟨by simpa using e, h⟩
        | succ i => exact .inr ⟨i, by push_cast at e; omega, by simpa using h⟩
      · rintro (⟨e, h⟩ | ⟨i, e, h⟩)
        · exact ⟨0, by simpa using e, by simpa using h⟩
        · exact ⟨i + 1, by push_cast; omega, by simpa using h⟩
    rw [hs]
    cases y
    · refine ⟨by rw [segB, h1]; simp, fun s hsk => ?_⟩
      rw [segB, cov_cons, h1]
      simp
    · refine ⟨?_, fun s hsk => ?_⟩
      · rw [segB, h2 k (by omega)]
        constructor
        · rintro (h | h)
          · exact .inl ⟨by omega, rfl⟩
          · exact .inr h
        · rintro (⟨h, -⟩ | h)
          · exact .inl (by omega)
          · exact .inr h
      · rw [segB, h2 s (by omega)]
        constructor
        · rintro (h | h)
          · by_cases e : x < k
            · exact .inl ⟨h.1, e⟩
            · exact .inr (.inl ⟨by omega, rfl⟩)
          · exact .inr (.inr h)
        · rintro (h | ⟨h, -⟩ | h)
          · exact .inl (by omega)
          · exact .inl (by omega)
          · exact .inr h
/-- joined pieces of what is true: as many as there are stretches -/
theorem nf_cnt {R : List PD} (h : NF R) (l : List Bool) (hc : ∀ x, cov R x ↔ ∃ i : Nat, x = i ∧ l[i]? = some true) : R.length = cntB false l := by
  have e : R = segB 0 none l := h.unique (segB_nf l 0).1.1 (fun x => by rw [hc, (segB_cov l 0 x).1]; simp)
  rw [e, (segB_length l 0).1]
end Go.Proofs.Ytkcdcgijbaepmaa
