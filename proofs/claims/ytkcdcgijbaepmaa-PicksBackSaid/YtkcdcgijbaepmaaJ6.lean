/-
  What the chapter's own calls give, plain.
-/
import Derived.Test.YtkcdcgijbaepmaaW24
set_option linter.unusedVariables false
namespace Go.Proofs.Ytkcdcgijbaepmaa

theorem ks_join : joinL [⟨5, 7⟩, ⟨1, 3⟩, ⟨3, 4⟩] = [⟨1, 4⟩, ⟨5, 7⟩] := by
  refine (joinL_of ⟨fun p hp => ?_, ?_⟩ (fun x => ?_)).symm
  · simp at hp; rcases hp with rfl | rfl <;> simp
  · simp
  · simp [cov_cons, cov_nil]; omega
theorem ks_cov (a b x : Int) : covB [⟨a, b⟩] x = decide (a ≤ x ∧ x < b) := by
  unfold covB
  refine decide_eq_decide.2 ?_
  rw [cov_cons]
  simp [cov_nil]
def ksO : List Int := [0, 1, 4, 3, 2, 5]
theorem ks_ord : orderB ksO = true := decide_eq_true ⟨fun x hx => by simp [ksO] at hx; omega, by simp [ksO]⟩
theorem ks_shL : shL ksO [⟨1, 4⟩] 6 = [⟨1, 2⟩, ⟨3, 4⟩, ⟨4, 5⟩] := by
  simp [shL, ks_cov, ksO, List.range_succ]
theorem ks_visL : visL ksO [⟨1, 4⟩] = [⟨1, 2⟩, ⟨3, 5⟩] := by
  have hw : ¬ Any_wrong [⟨1, 4⟩] = true := by simp [Any_wrong, wrongP]
  unfold visL
  rw [if_neg (by rw [ks_ord]; simp), if_neg hw, show ksO.length = 6 from rfl, ks_shL]
  refine (joinL_of ⟨fun p hp => ?_, ?_⟩ (fun x => ?_)).symm
  · simp at hp; rcases hp with rfl | rfl <;> simp
  · simp
  · simp [cov_cons, cov_nil]; omega
theorem ks_visE : visE ksO [⟨1, 4⟩] = 0 := by
  have hw : ¬ Any_wrong [⟨1, 4⟩] = true := by simp [Any_wrong, wrongP]
  unfold visE
  rw [if_neg (by rw [ks_ord]; simp), if_neg hw]
theorem ks_sort : sortI ksO = [0, 1, 2, 3, 4, 5] := (sortI_only (by decide) (by simp)).symm
theorem ks_pick (x : Int) : pickI ksO [⟨1, 3⟩] x = if x = 1 ∨ x = 4 then 1 else 0 := by
  by_cases h : x = 1 ∨ x = 4
  · rw [if_pos h]
    rcases h with rfl | rfl
    · exact pickI_one.2 ⟨1, by decide, rfl, ⟨⟨1, 3⟩, by simp, by simp, by simp⟩⟩
    · exact pickI_one.2 ⟨2, by decide, rfl, ⟨⟨1, 3⟩, by simp, by simp, by simp⟩⟩
  · rw [if_neg h]
    rcases pickI_bit ksO [⟨1, 3⟩] x with h1 | h1
    · exact h1
    · exfalso
      obtain ⟨v, hv, e, p, hp, h2, h3⟩ := pickI_one.1 h1
      simp at hp
      subst hp
      simp only at h2 h3
      have : v = 1 ∨ v = 2 := by omega
      rcases this with rfl | rfl
      · exact h (.inl e.symm)
      · exact h (.inr e.symm)
theorem ks_logRL : logRL ksO [⟨1, 3⟩] = [⟨1, 2⟩, ⟨4, 5⟩] := by
  have hw : ¬ Any_log ksO.length [⟨1, 3⟩] = true := by simp [Any_log, overP, wrongP, ksO]
  unfold logRL
  rw [if_neg (by rw [ks_ord]; simp), if_neg hw]
  unfold logL logP
  rw [ks_sort]
  simp [ks_pick, logT, logStep]
theorem ks_logE : logE ksO [⟨1, 3⟩] = 0 := by
  have hw : ¬ Any_log ksO.length [⟨1, 3⟩] = true := by simp [Any_log, overP, wrongP, ksO]
  unfold logE
  rw [if_neg (by rw [ks_ord]; simp), if_neg hw]
theorem ks_two : visE [0, 0] [] = 261 := by
  unfold visE
  rw [if_pos (show orderB [0, 0] = false from decide_eq_false (fun h => by have := h.2; simp at this))]
def ksS : ByteArray := { data := #[97, 255, 195, 169] }
theorem ks_beg : begL ksS = [0, 1, 2] := by decide +kernel
theorem ks_txtE : txtE ksS [⟨1, 3⟩] = 0 := by
  have hw : ¬ Any_text (begL ksS).length [⟨1, 3⟩] = true := by rw [ks_beg]; simp [Any_text, overP, wrongP]
  unfold txtE
  rw [if_neg hw]
theorem ks_txtS : txtS ksS [⟨1, 3⟩] = { data := #[255, 195, 169] } := by
  have hw : ¬ Any_text (begL ksS).length [⟨1, 3⟩] = true := by rw [ks_beg]; simp [Any_text, overP, wrongP]
  have hN : NF [⟨1, 3⟩] := ⟨fun p hp => by simp at hp; rw [hp]; simp, by simp⟩
  unfold txtS
  rw [if_neg hw, text_join ksS [⟨1, 3⟩] _ rfl hw, joinL_NF hN]
  show ByteArray.empty ++ subS ksS 1 3 = _
  have : subS ksS 1 3 = { data := #[255, 195, 169] } := by decide +kernel
  rw [this]
  rfl
end Go.Proofs.Ytkcdcgijbaepmaa
