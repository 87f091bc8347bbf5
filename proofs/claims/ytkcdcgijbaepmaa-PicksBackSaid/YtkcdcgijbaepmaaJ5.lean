/-
  Plain laws: what was picked of what is shown (the way back): places in rising order, joined where neighbours are picked.
-/
import Derived.Test.YtkcdcgijbaepmaaJ2
import Derived.Test.YtkcdcgijbaepmaaJ3
set_option linter.unusedVariables false
namespace Go.Proofs.Ytkcdcgijbaepmaa

/-- one place more: f its number, t = 1 if it is picked -/
def logStep (st : List PD × Bool) (p : PD) : List PD × Bool :=
  if p.t = 1 then
    (if st.2 = true then (match st.1.getLast? with
      | some q => st.1.dropLast ++ [⟨q.f, p.f + 1⟩]
      | none => st.1) else st.1 ++ [⟨p.f, p.f + 1⟩], true)
  else (st.1, false)
def logT (l : List PD) : List PD × Bool := l.foldl logStep ([], false)
theorem logT_nil : logT [] = ([], false) := rfl
theorem logT_snoc (l : List PD) (p : PD) : logT (l ++ [p]) = logStep (logT l) p := by unfold logT; rw [List.foldl_append]; rfl
theorem logT_take (l : List PD) (k : Nat) (h : k < l.length) : logT (l.take (k + 1)) = logStep (logT (l.take k)) l[k] := by rw [List.take_succ_eq_append_getElem h, logT_snoc]
theorem logStep_no (st : List PD × Bool) (p : PD) (h : p.t ≠ 1) : logStep st p = (st.1, false) := if_neg h
theorem logStep_new (out : List PD) (p : PD) (h : p.t = 1) : logStep (out, false) p = (out ++ [⟨p.f, p.f + 1⟩], true) := by unfold logStep; rw [if_pos h]; rfl
theorem logStep_in (init : List PD) (q p : PD) (h : p.t = 1) : logStep (init ++ [q], true) p = (init ++ [⟨q.f, p.f + 1⟩], true) := by unfold logStep; rw [if_pos h]; simp
structure LogInv (S : List PD) (st : List PD × Bool) : Prop where
  pos : ∀ q ∈ st.1, q.f < q.t
  low : ∀ q ∈ st.1, ∃ p ∈ S, q.f = p.f
  hi : ∀ q ∈ st.1, ∃ p ∈ S, q.t ≤ p.f + 1
  cv : ∀ p ∈ S, (cov st.1 p.f ↔ p.t = 1)
  go : st.2 = true → ∃ init q, st.1 = init ++ [q] ∧ ∀ p ∈ S, p.f < q.t
theorem LogInv.nil : LogInv [] ([], false) := ⟨(fun q hq => by cases hq), (fun q hq => by cases hq), (fun q hq => by cases hq), (fun q hq => by cases hq), (fun h => by cases h)⟩
theorem LogInv.step {S : List PD} {st : List PD × Bool} (h : LogInv S st) (p : PD) (hp : ∀ q ∈ S, q.f < p.f) : LogInv (S ++ [p]) (logStep st p) := by
  have hcn : ¬ cov st.1 p.f := by
    rintro ⟨q, hq, h1, h2⟩
    obtain ⟨r, hr, h3⟩ := h.hi q hq
    have := hp r hr
    omega
  by_cases ht : p.t = 1
  · obtain ⟨out, g⟩ := st
    cases g with
    | false =>
      rw [logStep_new out p ht]
      refine ⟨fun q hq => ?_, fun q hq => ?_, fun q hq => ?_, fun r hr => ?_, fun _ => ⟨out, ⟨p.f, p.f + 1⟩, rfl, fun r hr => ?_⟩⟩
      · rcases List.mem_append.1 hq with hq | hq
        · exact h.pos q hq
        · rw [List.mem_singleton.1 hq]; simp only; omega
      · rcases List.mem_append.1 hq with hq | hq
        · obtain ⟨r, hr, e⟩ := h.low q hq; exact ⟨r, List.mem_append_left _ hr, e⟩
        · exact ⟨p, by simp, by rw [List.mem_singleton.1 hq]⟩
      · rcases List.mem_append.1 hq with hq | hq
        · obtain ⟨r, hr, e⟩ := h.hi q hq; exact ⟨r, List.mem_append_left _ hr, e⟩
        · exact ⟨p, by simp, by rw [List.mem_singleton.1 hq]; simp⟩
      · show cov (out ++ [_]) r.f ↔ r.t = 1
        rw [cov_append, cov_cons]
        simp only [cov_nil, or_false]
        rcases List.mem_append.1 hr with hr | hr
        · have h1 := h.cv r hr
          have h2 := hp r hr
          simp only at h1
          rw [← h1]
          constructor
          · rintro (h3 | h3)
            · exact h3
            · omega
          · exact .inl
        · rw [List.mem_singleton.1 hr]
          exact ⟨fun _ => ht, fun _ => .inr (by omega)⟩
      · simp only
        rcases List.mem_append.1 hr with hr | hr
        · have := hp r hr; omega
        · rw [List.mem_singleton.1 hr]; omega
    | true =>
      obtain ⟨init, q, rfl, hq⟩ := h.go rfl
      rw [logStep_in init q p ht]
      have hqf : q.f ≤ p.f := by obtain ⟨r, hr, e⟩ := h.low q (by simp); have := hp r hr; omega
      refine ⟨fun r hr => ?_, fun r hr => ?_, fun r hr => ?_, fun r hr => ?_, fun _ => ⟨init, ⟨q.f, p.f + 1⟩, rfl, fun r hr => ?_⟩⟩
      · rcases List.mem_append.1 hr with hr | hr
        · exact h.pos r (List.mem_append_left _ hr)
        · rw [List.mem_singleton.1 hr]; simp only; omega
      · rcases List.mem_append.1 hr with hr | hr
        · obtain ⟨y, hy, e⟩ := h.low r (List.mem_append_left _ hr); exact ⟨y, List.mem_append_left _ hy, e⟩
        · obtain ⟨y, hy, e⟩ := h.low q (by simp); exact ⟨y, List.mem_append_left _ hy, by rw [List.mem_singleton.1 hr]; exact e⟩
      · rcases List.mem_append.1 hr with hr | hr
        · obtain ⟨y, hy, e⟩ := h.hi r (List.mem_append_left _ hr); exact ⟨y, List.mem_append_left _ hy, e⟩
        · exact ⟨p, by simp, by rw [List.mem_singleton.1 hr]; simp⟩
      · show cov (init ++ [_]) r.f ↔ r.t = 1
        rw [cov_append, cov_cons]
        simp only [cov_nil, or_false]
        rcases List.mem_append.1 hr with hr | hr
        · have h1 := h.cv r hr
          have h2 := hp r hr
          have h3 := hq r hr
          simp only at h1
          rw [cov_append, cov_cons] at h1
          simp only [cov_nil, or_false] at h1
          rw [← h1]
          constructor
          · rintro (h4 | h4)
            · exact .inl h4
            · exact .inr ⟨h4.1, h3⟩
          · rintro (h4 | h4)
            · exact .inl h4
            · exact .inr ⟨h4.1, by omega⟩
        · rw [List.mem_singleton.1 hr]
          exact ⟨fun _ => ht, fun _ => .inr (by omega)⟩
      · simp only
        rcases List.mem_append.1 hr with hr | hr
        · have := hp r hr; omega
        · rw [List.mem_singleton.1 hr]; omega
  · rw [logStep_no st p ht]
    refine ⟨h.pos, fun q hq => ?_, fun q hq => ?_, fun r hr => ?_, fun hf => by cases hf⟩
    · obtain ⟨r, hr, e⟩ := h.low q hq; exact ⟨r, List.mem_append_left _ hr, e⟩
    · obtain ⟨r, hr, e⟩ := h.hi q hq; exact ⟨r, List.mem_append_left _ hr, e⟩
    · rcases List.mem_append.1 hr with hr | hr
      · exact h.cv r hr
      · rw [List.mem_singleton.1 hr]
        exact ⟨fun hc => absurd hc hcn, fun e => absurd e ht⟩
theorem logT_inv (l : List PD) (hs : l.Pairwise (fun a b => a.f < b.f)) : ∀ k, k ≤ l.length → LogInv (l.take k) (logT (l.take k)) := by
  intro k
  induction k with
  | zero => intro _; exact LogInv.nil
  | succ k ih =>
    intro hk
    rw [logT_take l k (by omega), List.take_succ_eq_append_getElem (by omega : k < l.length)]
    refine (ih (by omega)).step _ (fun q hq => ?_)
    obtain ⟨j, hj, rfl⟩ := List.mem_iff_getElem.1 hq
    rw [List.length_take] at hj
    rw [List.getElem_take]
    exact List.pairwise_iff_getElem.1 hs j k (by omega) (by omega) (by omega)
theorem logT_ok (l : List PD) (hs : l.Pairwise (fun a b => a.f < b.f)) : LogInv l (logT l) := by
  have := logT_inv l hs l.length (Nat.le_refl _)
  rwa [List.take_length] at this
theorem logStep_length (st : List PD × Bool) (p : PD) : (logStep st p).1.length ≤ st.1.length + 1 := by
  unfold logStep
  split
  · simp only
    split
    · split
      · simp
      · omega
    · simp
  · simp only; omega
theorem logT_length (l : List PD) : (logT l).1.length ≤ l.length := by
  have h : ∀ (l : List PD) (st : List PD × Bool), (l.foldl logStep st).1.length ≤ st.1.length + l.length := by
    intro l
    induction l with
    | nil => intro st; simp
    | cons p t ih =>
      intro st
      have h1 := ih (logStep st p)
      have h2 := logStep_length st p
      simp only [List.foldl_cons, List.length_cons]
      omega
  have := h l ([], false)
  simpa [logT] using this

/-! ### the places in rising order -/
def covD (ps : List PD) (x : Int) : Bool := decide (cov ps x)
/-- 1 if the place is shown where pieces pick it -/
def pickI (os : List Int) (ps : List PD) (x : Int) : Int := if (List.range os.length).any (fun v => decide (os.getD v 0 = x) && covD ps (v : Int)) = true then 1 else 0
theorem pickI_one {os : List Int} {ps : List PD} {x : Int} : pickI os ps x = 1 ↔ ∃ v : Nat, v < os.length ∧ os.getD v 0 = x ∧ cov ps (v : Int) := by
  unfold pickI
  constructor
  · intro h
    split at h
    · rename_i h2
      obtain ⟨v, hv, h3⟩ := List.any_eq_true.1 h2
      simp [covD] at h3 hv
      exact ⟨v, hv, by simpa using h3.1, h3.2⟩
    · omega
  · rintro ⟨v, hv, h1, h2⟩
    rw [if_pos]
    exact List.any_eq_true.2 ⟨v, List.mem_range.2 hv, by rw [decide_eq_true h1]; simpa [covD] using h2⟩
theorem pickI_bit (os : List Int) (ps : List PD) (x : Int) : pickI os ps x = 0 ∨ pickI os ps x = 1 := by
  unfold pickI
  split
  · exact .inr rfl
  · exact .inl rfl
def logP (os : List Int) (ps : List PD) : List PD := (sortI os).map (fun x => ⟨x, pickI os ps x⟩)
def logL (os : List Int) (ps : List PD) : List PD := (logT (logP os ps)).1
theorem logP_length (os : List Int) (ps : List PD) : (logP os ps).length = os.length := by simp [logP, (sortI_perm os).length_eq]
theorem logL_length (os : List Int) (ps : List PD) : (logL os ps).length ≤ os.length := by have := logT_length (logP os ps); rw [logP_length] at this; exact this
theorem sortI_strict {os : List Int} (h : os.Nodup) : (sortI os).Pairwise (· < ·) := by
  have h1 := sortI_sorted os
  have h2 : (sortI os).Nodup := (sortI_perm os).nodup_iff.2 h
  exact (h1.and h2).imp (fun h => by omega)
theorem logP_strict {os : List Int} (ps : List PD) (h : os.Nodup) : (logP os ps).Pairwise (fun a b => a.f < b.f) := by
  unfold logP
  rw [List.pairwise_map]
  exact sortI_strict h
theorem logL_cov {os : List Int} (ps : List PD) (h : os.Nodup) (x : Int) (hx : x ∈ os) : cov (logL os ps) x ↔ pickI os ps x = 1 := by
  have := (logT_ok (logP os ps) (logP_strict ps h)).cv ⟨x, pickI os ps x⟩ (List.mem_map.2 ⟨x, (sortI_perm os).mem_iff.2 hx, rfl⟩)
  exact this
theorem logL_mem {os : List Int} {ps : List PD} (h : os.Nodup) {q : PD} (hq : q ∈ logL os ps) : q.f < q.t ∧ q.f ∈ os ∧ ∃ x ∈ os, q.t ≤ x + 1 := by
  have hi := logT_ok (logP os ps) (logP_strict ps h)
  have hm : ∀ p ∈ logP os ps, p.f ∈ os := fun p hp => by
    obtain ⟨x, hx, rfl⟩ := List.mem_map.1 hp
    exact (sortI_perm os).mem_iff.1 hx
  obtain ⟨p, hp, e⟩ := hi.low q hq
  obtain ⟨r, hr, e2⟩ := hi.hi q hq
  exact ⟨hi.pos q hq, by rw [e]; exact hm p hp, r.f, hm r hr, e2⟩
theorem pickI_at {os : List Int} (ps : List PD) (h : os.Nodup) (v : Nat) (hv : v < os.length) : pickI os ps (os.getD v 0) = if covD ps (v : Int) = true then 1 else 0 := by
  by_cases hc : cov ps (v : Int)
  · rw [if_pos (by simpa [covD] using hc)]
    exact pickI_one.2 ⟨v, hv, rfl, hc⟩
  · rw [if_neg (by simpa [covD] using hc)]
    rcases pickI_bit os ps (os.getD v 0) with h1 | h1
    · exact h1
    · obtain ⟨u, hu, e, hcu⟩ := pickI_one.1 h1
      have : u = v := by
        simp only [List.getD_eq_getElem?_getD, List.getElem?_eq_getElem hu, List.getElem?_eq_getElem hv, Option.getD_some] at e
        rcases Nat.lt_trichotomy u v with h2 | h2 | h2
        · exact absurd e (List.pairwise_iff_getElem.1 h u v hu hv h2)
        · exact h2
        · exact absurd e.symm (List.pairwise_iff_getElem.1 h v u hv hu h2)
      subst this
      exact absurd hcu hc
/-- the document's places, one by one -/
def rowsL (os : List Int) (ps : List PD) (k : Nat) : List PD := (List.range k).map (fun v => ⟨os.getD v 0, if covD ps (v : Int) = true then 1 else 0⟩)
theorem rowsL_succ (os : List Int) (ps : List PD) (k : Nat) : rowsL os ps (k + 1) = rowsL os ps k ++ [⟨os.getD k 0, if covD ps (k : Int) = true then 1 else 0⟩] := by
  unfold rowsL
  rw [List.range_succ, List.map_append]
  rfl
theorem rowsL_f (os : List Int) (ps : List PD) : (rowsL os ps os.length).map PD.f = os := by
  unfold rowsL
  rw [List.map_map]
  apply List.ext_getElem
  · simp
  · intro i h1 h2
    simp [h2]
theorem rows_only {os : List Int} (ps : List PD) (h : os.Nodup) (S : List PD) (hp : S.Perm (rowsL os ps os.length)) (hs : Rising S) : S = logP os ps := by
  have e1 : S.map PD.f = sortI os := by
    refine sortI_only ?_ ?_
    · rw [← rowsL_f os ps]
      conv => rhs; rw [rowsL_f os ps]
      have := hp.map PD.f
      rwa [rowsL_f os ps] at this
    · rw [List.pairwise_map]; exact hs
  have e2 : ∀ p ∈ S, p = ⟨p.f, pickI os ps p.f⟩ := fun p hpS => by
    obtain ⟨v, hv, rfl⟩ := List.mem_map.1 (hp.mem_iff.1 hpS)
    simp only
    rw [pickI_at ps h v (List.mem_range.1 hv)]
  unfold logP
  rw [← e1, List.map_map]
  conv => lhs; rw [← List.map_id S]
  exact List.map_congr_left (fun p hpS => e2 p hpS)

/-! ### the places of pieces -/
def placesP (p : PD) : List Int := (List.range (p.t - p.f).toNat).map (fun (i : Nat) => p.f + i)
def placesL (l : List PD) : List Int := l.flatMap placesP
theorem mem_placesP (p : PD) (x : Int) : x ∈ placesP p ↔ p.f ≤ x ∧ x < p.t := by
  unfold placesP
  rw [List.mem_map]
  constructor
  · rintro ⟨i, hi, rfl⟩
    have := List.mem_range.1 hi
    omega
  · intro h
    exact ⟨(x - p.f).toNat, List.mem_range.2 (by omega), by omega⟩
theorem mem_placesL (l : List PD) (x : Int) : x ∈ placesL l ↔ cov l x := by
  unfold placesL
  rw [List.mem_flatMap]
  constructor
  · rintro ⟨p, hp, hx⟩; exact ⟨p, hp, (mem_placesP p x).1 hx⟩
  · rintro ⟨p, hp, hx⟩; exact ⟨p, hp, (mem_placesP p x).2 hx⟩
theorem placesP_length (p : PD) : (placesP p).length = (p.t - p.f).toNat := by simp [placesP]
theorem placesL_split (l : List PD) (j : Nat) (hj : j < l.length) : placesL l = placesL (l.take j) ++ (placesP l[j] ++ placesL (l.drop (j + 1))) := by
  have e : l = l.take j ++ l[j] :: l.drop (j + 1) := by rw [← List.drop_eq_getElem_cons hj, List.take_append_drop]
  have h : placesL (l.take j ++ l[j] :: l.drop (j + 1)) = placesL (l.take j) ++ (placesP l[j] ++ placesL (l.drop (j + 1))) := by
    unfold placesL
    rw [List.flatMap_append, List.flatMap_cons]
  rw [← h, ← e]
/-- what has been told when k of the places of the piece numbered j are told -/
def toldL (l : List PD) (j k : Nat) : List Int := placesL (l.take j) ++ (placesP (l.getD j ⟨0, 0⟩)).take k
theorem toldL_zero (l : List PD) : toldL l 0 0 = [] := by simp [toldL, placesL]
theorem toldL_next (l : List PD) (j k : Nat) (hj : j < l.length) (hk : l[j].f + k < l[j].t) : toldL l j (k + 1) = toldL l j k ++ [l[j].f + (k : Int)] := by
  have e : l.getD j ⟨0, 0⟩ = l[j] := by simp [hj]
  unfold toldL
  rw [e, List.append_assoc]
  congr 1
  have hk2 : k < (placesP l[j]).length := by rw [placesP_length]; omega
  rw [List.take_succ_eq_append_getElem hk2]
  congr 1
  simp [placesP]
theorem toldL_over (l : List PD) (j k : Nat) (hj : j < l.length) (hk : l[j].t ≤ l[j].f + k) : toldL l j k = toldL l (j + 1) 0 := by
  have e : l.getD j ⟨0, 0⟩ = l[j] := by simp [hj]
  unfold toldL
  rw [e, List.take_of_length_le (l := placesP l[j]) (by rw [placesP_length]; omega), List.take_zero, List.append_nil, List.take_succ_eq_append_getElem hj]
  unfold placesL
  rw [List.flatMap_append]
  simp
theorem toldL_all (l : List PD) (j : Nat) (hj : l.length ≤ j) : toldL l j 0 = placesL l := by
  unfold toldL
  rw [List.take_of_length_le hj]
  simp
theorem placesL_length_take (l : List PD) (j k : Nat) (hj : j < l.length) (hk : l[j].f + k < l[j].t) : (toldL l j k).length < (placesL l).length := by
  have e : l.getD j ⟨0, 0⟩ = l[j] := by simp [hj]
  have e2 := placesL_split l j hj
  have hk2 : k < (placesP l[j]).length := by rw [placesP_length]; omega
  unfold toldL
  rw [e, e2]
  simp only [List.length_append, List.length_take]
  omega
theorem toldL_prefix (l : List PD) (j k : Nat) (hj : j < l.length) (hk : l[j].f + k ≤ l[j].t) : toldL l j k = (placesL l).take (toldL l j k).length := by
  have e : l.getD j ⟨0, 0⟩ = l[j] := by simp [hj]
  have e2 := placesL_split l j hj
  have e3 : placesL l = toldL l j k ++ ((placesP l[j]).drop k ++ placesL (l.drop (j + 1))) := by
    unfold toldL
    rw [e, e2]
    rw [List.append_assoc]
    congr 1
    rw [← List.append_assoc, List.take_append_drop]
  rw [e3, List.take_left]
end Go.Proofs.Ytkcdcgijbaepmaa
