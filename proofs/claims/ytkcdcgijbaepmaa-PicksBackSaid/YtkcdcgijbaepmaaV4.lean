/-
  Plain laws: what is picked is shown, what is shown was picked (PicksBack).
-/
import Derived.Test.YtkcdcgijbaepmaaV2
import Derived.Test.YtkcdcgijbaepmaaV3
import Derived.Test.YtkcdcgijbaepmaaW23
set_option linter.unusedVariables false
namespace Go.Proofs.Ytkcdcgijbaepmaa

theorem ord_orderB (zs : List Int) (hl : zs.length ≤ 1048576) : orderB (ord zs) = true := by
  refine decide_eq_true ⟨fun x hx => ?_, nodup_ord zs⟩
  have := (mem_ord zs x).1 hx
  omega
theorem shL_cov (os : List Int) (ps : List PD) (n : Nat) (x : Int) : cov (shL os ps n) x ↔ ∃ i : Nat, i < n ∧ x = (i : Int) ∧ covB ps (os.getD i 0) = true := by
  unfold shL cov
  constructor
  · rintro ⟨p, hp, h1, h2⟩
    obtain ⟨i, hi, rfl⟩ := List.mem_map.1 hp
    obtain ⟨h3, h4⟩ := List.mem_filter.1 hi
    rw [List.mem_range] at h3
    exact ⟨i, h3, by simp only at h1 h2; omega, h4⟩
  · rintro ⟨i, h1, rfl, h2⟩
    exact ⟨⟨(i : Int), (i : Int) + 1⟩, List.mem_map.2 ⟨i, List.mem_filter.2 ⟨List.mem_range.2 h1, h2⟩, rfl⟩, by simp, by simp; omega⟩
theorem visL_eq {os : List Int} {ps : List PD} (h : orderB os = true) (hw : Any_wrong ps = false) : visE os ps = 0 ∧ visL os ps = joinL (shL os ps os.length) := by
  unfold visE visL
  rw [if_neg (by simp [h]), if_neg (by simp [hw]), if_neg (by simp [h]), if_neg (by simp [hw])]
  exact ⟨rfl, rfl⟩
theorem visL_bad {os : List Int} {ps : List PD} (h : orderB os = true) (hw : Any_wrong ps = true) : visE os ps = 260 ∧ visL os ps = [] := by
  unfold visE visL
  rw [if_neg (by simp [h]), if_pos hw, if_neg (by simp [h]), if_pos hw]
  exact ⟨rfl, rfl⟩
theorem visL_nf {os : List Int} {ps : List PD} (h : orderB os = true) (hw : Any_wrong ps = false) : NF (visL os ps) := by
  rw [(visL_eq h hw).2]; exact (joinL_ok _).1
theorem visL_cov {os : List Int} {ps : List PD} (h : orderB os = true) (hw : Any_wrong ps = false) (x : Int) : cov (visL os ps) x ↔ ∃ i : Nat, i < os.length ∧ x = (i : Int) ∧ covB ps (os.getD i 0) = true := by
  rw [(visL_eq h hw).2, (joinL_ok _).2 x, shL_cov]
theorem covB_iff {ps : List PD} {x : Int} : covB ps x = true ↔ cov ps x := by unfold covB; exact decide_eq_true_iff
theorem visL_in {os : List Int} {ps : List PD} (h : orderB os = true) (hw : Any_wrong ps = false) (i : Nat) (hi : i < os.length) : covB (visL os ps) (i : Int) = covB ps (os.getD i 0) := by
  rw [Bool.eq_iff_iff, covB_iff, visL_cov h hw]
  constructor
  · rintro ⟨j, h1, h2, h3⟩
    obtain rfl : i = j := by omega
    exact h3
  · intro h3
    exact ⟨i, hi, rfl, h3⟩
theorem visL_within {os : List Int} {ps : List PD} (h : orderB os = true) (hw : Any_wrong ps = false) {p : PD} (hp : p ∈ visL os ps) : 0 ≤ p.f ∧ p.f < p.t ∧ p.t ≤ (os.length : Int) := by
  have hpos := (visL_nf h hw).pos p hp
  obtain ⟨i, h1, h2, -⟩ := (visL_cov h hw p.f).1 ⟨p, hp, Int.le_refl _, hpos⟩
  obtain ⟨j, h3, h4, -⟩ := (visL_cov h hw (p.t - 1)).1 ⟨p, hp, by omega, by omega⟩
  omega
theorem logE_vis {os : List Int} {ps : List PD} (h : orderB os = true) (hw : Any_wrong ps = false) : logE os (visL os ps) = 0 ∧ logRL os (visL os ps) = logL os (visL os ps) := by
  have ha : Any_log os.length (visL os ps) = false := by
    refine decide_eq_false ?_
    rintro ⟨p, hp, h1⟩
    have h2 := visL_within h hw hp
    rcases h1 with h1 | h1
    · rcases h1 with h1 | h1 <;> omega
    · omega
  unfold logE logRL
  rw [if_neg (by simp [h]), if_neg (by simp [ha]), if_neg (by simp [h]), if_neg (by simp [ha])]
  exact ⟨rfl, rfl⟩
theorem log_in {os : List Int} (hd : os.Nodup) (v : List PD) (i : Nat) (hi : i < os.length) : covB (logL os v) (os.getD i 0) = covB v (i : Int) := by
  have hm : os.getD i 0 ∈ os := by rw [show os.getD i 0 = os[i] by simp [hi]]; exact List.getElem_mem hi
  rw [Bool.eq_iff_iff, covB_iff, covB_iff, logL_cov v hd _ hm, pickI_at v hd i hi]
  unfold covD
  by_cases h : cov v (i : Int)
  · simp [h]
  · simp [h]
theorem log_right {os : List Int} (hd : os.Nodup) (h0 : ∀ x ∈ os, 0 ≤ x) (v : List PD) : Any_wrong (logL os v) = false := by
  refine decide_eq_false ?_
  rintro ⟨p, hp, h1⟩
  obtain ⟨h2, h3, -⟩ := logL_mem hd hp
  have := h0 _ h3
  rcases h1 with h1 | h1 <;> omega
theorem back_eq {os : List Int} {ps : List PD} (h : orderB os = true) (hd : os.Nodup) (h0 : ∀ x ∈ os, 0 ≤ x) (hw : Any_wrong ps = false) : visL os (logL os (visL os ps)) = visL os ps := by
  have hr := log_right hd h0 (visL os ps)
  refine (visL_nf h hr).unique (visL_nf h hw) (fun x => ?_)
  rw [visL_cov h hr, visL_cov h hw]
  constructor
  · rintro ⟨i, h1, rfl, h2⟩
    rw [log_in hd _ i h1, visL_in h hw i h1] at h2
    exact ⟨i, h1, rfl, h2⟩
  · rintro ⟨i, h1, rfl, h2⟩
    refine ⟨i, h1, rfl, ?_⟩
    rw [log_in hd _ i h1, visL_in h hw i h1]
    exact h2
theorem whole_right (n : Nat) : Any_wrong [⟨0, (n : Int)⟩] = false := by
  refine decide_eq_false ?_
  rintro ⟨p, hp, h1⟩
  rw [List.mem_singleton] at hp
  subst hp
  rcases h1 with h1 | h1 <;> simp only at h1 <;> omega
theorem whole_eq {os : List Int} {n : Nat} (h : orderB os = true) (hb : ∀ x ∈ os, 0 ≤ x ∧ x < (n : Int)) : visL os [⟨0, (n : Int)⟩] = if os.length = 0 then [] else [⟨0, (os.length : Int)⟩] := by
  have hall : ∀ i : Nat, i < os.length → covB [⟨0, (n : Int)⟩] (os.getD i 0) = true := fun i hi => by
    have hm : os.getD i 0 ∈ os := by rw [show os.getD i 0 = os[i] by simp [hi]]; exact List.getElem_mem hi
    rw [covB_iff]
    exact ⟨_, List.mem_singleton.2 rfl, (hb _ hm).1, (hb _ hm).2⟩
  refine (visL_nf h (whole_right n)).unique ?_ (fun x => ?_)
  · split
    · exact NF.nil
    · refine ⟨fun p hp => ?_, by simp⟩
      rw [List.mem_singleton] at hp
      subst hp
      simp only
      omega
  · rw [visL_cov h (whole_right n)]
    split
    · rename_i h0
      constructor
      · rintro ⟨i, h1, -⟩; omega
      · intro hc; exact absurd hc (cov_nil x)
    · constructor
      · rintro ⟨i, h1, rfl, -⟩
        exact ⟨_, List.mem_singleton.2 rfl, by simp, by simp; omega⟩
      · rintro ⟨p, hp, h1, h2⟩
        rw [List.mem_singleton] at hp
        subst hp
        simp only at h1 h2
        exact ⟨x.toNat, by omega, by omega, hall _ (by omega)⟩
/-- one range: at most two pieces for each level, and one more -/
theorem one_le {zs : List Int} {ps : List PD} (hl : zs.length ≤ 1048576) (hw : Any_wrong ps = false) (h1 : ps.length = 1) : ((visL (ord zs) ps).length : Int) ≤ 2 * high zs + 1 ∨ high zs < 0 := by
  obtain ⟨p, rfl⟩ : ∃ p, ps = [p] := List.length_eq_one_iff.1 h1
  have ho := ord_orderB zs hl
  have h2 := ord_cnt zs p.f p.t (covB [p]) (fun x => by
    rw [covB_iff]
    constructor
    · rintro ⟨q, hq, h3, h4⟩
      rw [List.mem_singleton] at hq
      subst hq
      exact ⟨h3, h4⟩
    · intro h; exact ⟨p, List.mem_singleton.2 rfl, h.1, h.2⟩)
  have h3 := nf_cnt (visL_nf ho hw) ((ord zs).map (covB [p])) (fun x => by
    rw [visL_cov ho hw]
    constructor
    · rintro ⟨i, h4, rfl, h5⟩
      refine ⟨i, rfl, ?_⟩
      rw [List.getElem?_map, List.getElem?_eq_getElem h4]
      rw [show (ord zs).getD i 0 = (ord zs)[i] by simp [h4]] at h5
      simp [h5]
    · rintro ⟨i, rfl, h5⟩
      rw [List.getElem?_map] at h5
      cases h6 : (ord zs)[i]? with
      | none => rw [h6] at h5; cases h5
      | some y =>
        rw [h6] at h5
        obtain ⟨h7, h8⟩ := List.getElem?_eq_some_iff.1 h6
        refine ⟨i, h7, rfl, ?_⟩
        rw [show (ord zs).getD i 0 = (ord zs)[i] by simp [h7], h8]
        simpa using h5)
  rw [← h3] at h2
  omega
theorem high_le {zs : List Int} {h : Int} (h0 : 0 ≤ h) (hz : ∀ x ∈ ord zs, zs.getD x.toNat 0 ≤ h) : high zs ≤ h := by
  have e : high zs = (zs.filter (fun x => decide (x ≠ -1))).foldl max 0 := by cases zs <;> rfl
  have key : ∀ (l : List Int) (m : Int), m ≤ h → (∀ x ∈ l, x ≤ h) → l.foldl max m ≤ h := by
    intro l
    induction l with
    | nil => intro m hm _; exact hm
    | cons x t ih => intro m hm hx; exact ih _ (by have := hx x (by simp); omega) (fun y hy => hx y (by simp [hy]))
  rw [e]
  refine key _ _ h0 (fun x hx => ?_)
  obtain ⟨h1, h2⟩ := List.mem_filter.1 hx
  obtain ⟨i, hi, rfl⟩ := List.mem_iff_getElem.1 h1
  have hm : (i : Int) ∈ ord zs := by
    rw [mem_ord]
    refine ⟨by omega, by omega, ?_⟩
    simpa [hi] using h2
  have := hz _ hm
  simpa [hi] using this
theorem high_pos (zs : List Int) : 0 ≤ high zs := by
  have e : high zs = (zs.filter (fun x => decide (x ≠ -1))).foldl max 0 := by cases zs <;> rfl
  have key : ∀ (l : List Int) (m : Int), 0 ≤ m → 0 ≤ l.foldl max m := by
    intro l
    induction l with
    | nil => intro m hm; exact hm
    | cons x t ih => intro m hm; exact ih _ (by omega)
  rw [e]
  exact key _ _ (Int.le_refl _)
end Go.Proofs.Ytkcdcgijbaepmaa
