/-
  What the calls of PicksKnown give, plain.
-/
import Derived.Test.YtkcdcgijbaepmaaW28
import Derived.Test.YtkcdcgijbaepmaaW32
set_option linter.unusedVariables false
namespace Go.Proofs.Ytkcdcgijbaepmaa

theorem kn_turn : turnL [⟨0, 5⟩] [⟨3, 8⟩] = [⟨0, 3⟩, ⟨5, 8⟩] := by
  refine (turnL_ok _ _).1.unique ⟨fun p hp => ?_, ?_⟩ (fun x => ?_)
  · simp at hp; rcases hp with rfl | rfl <;> simp
  · simp
  · rw [(turnL_ok _ _).2 x]; simp [cov_cons, cov_nil]; omega
def knO : List Int := [0, 2, 4]
theorem kn_ord : orderB knO = true := decide_eq_true ⟨fun x hx => by simp [knO] at hx; omega, by simp [knO]⟩
theorem kn_sort : sortI knO = [0, 2, 4] := (sortI_only (by decide) (by simp)).symm
theorem kn_pick (x : Int) : pickI knO [⟨0, 2⟩] x = if x = 0 ∨ x = 2 then 1 else 0 := by
  by_cases h : x = 0 ∨ x = 2
  · rw [if_pos h]
    rcases h with rfl | rfl
    · exact pickI_one.2 ⟨0, by decide, rfl, ⟨⟨0, 2⟩, by simp, by simp, by simp⟩⟩
    · exact pickI_one.2 ⟨1, by decide, rfl, ⟨⟨0, 2⟩, by simp, by simp, by simp⟩⟩
  · rw [if_neg h]
    rcases pickI_bit knO [⟨0, 2⟩] x with h1 | h1
    · exact h1
    · exfalso
      obtain ⟨v, hv, e, p, hp, h2, h3⟩ := pickI_one.1 h1
      simp at hp
      subst hp
      simp only at h2 h3
      have : v = 0 ∨ v = 1 := by omega
      rcases this with rfl | rfl
      · exact h (.inl e.symm)
      · exact h (.inr e.symm)
theorem kn_logRL : logRL knO [⟨0, 2⟩] = [⟨0, 3⟩] := by
  have hw : ¬ Any_log knO.length [⟨0, 2⟩] = true := by simp [Any_log, overP, wrongP, knO]
  unfold logRL
  rw [if_neg (by rw [kn_ord]; simp), if_neg hw]
  unfold logL logP
  rw [kn_sort]
  simp [kn_pick, logT, logStep]
theorem kn_logE : logE knO [⟨0, 2⟩] = 0 := by
  have hw : ¬ Any_log knO.length [⟨0, 2⟩] = true := by simp [Any_log, overP, wrongP, knO]
  unfold logE
  rw [if_neg (by rw [kn_ord]; simp), if_neg hw]
theorem kn_ord2 : orderB [1, 0] = true := decide_eq_true ⟨fun x hx => by simp at hx; omega, by simp⟩
theorem kn_ord0 : orderB [0] = true := decide_eq_true ⟨fun x hx => by simp at hx; omega, by simp⟩
theorem kn_far : ([1, 0] : List Int).any (farP 2) = false := by simp [farP]
theorem kn_wid : ([10, 20] : List Int).any widP = false := by simp [widP]
theorem kn_right : ¬ Any_wrong [⟨0, 1⟩] = true := by simp [Any_wrong, wrongP]
theorem kn_visL : visL [1, 0] [⟨0, 1⟩] = [⟨1, 2⟩] := by
  unfold visL
  rw [if_neg (by rw [kn_ord2]; simp), if_neg kn_right]
  have : shL [1, 0] [⟨0, 1⟩] ([1, 0] : List Int).length = [⟨1, 2⟩] := by simp [shL, ks_cov, List.range_succ]
  rw [this]
  exact joinL_NF ⟨fun p hp => by simp at hp; subst hp; simp, by simp⟩
theorem kn_colE : colE [1, 0] [10, 20] [⟨0, 1⟩] = 0 := by
  unfold colE
  rw [if_neg (by rw [kn_ord2]; simp), if_neg (by rw [show ([10, 20] : List Int).length = 2 from rfl, kn_far]; simp), if_neg kn_right, if_neg (by rw [kn_wid]; simp)]
theorem kn_colL : colL [1, 0] [10, 20] [⟨0, 1⟩] = [⟨20, 30⟩] := by
  unfold colL
  rw [if_neg (by rw [kn_ord2]; simp), if_neg (by rw [show ([10, 20] : List Int).length = 2 from rfl, kn_far]; simp), if_neg kn_right, if_neg (by rw [kn_wid]; simp), kn_visL]
  simp [colP, sumTo]
theorem kn_visE : visE [0] [⟨-1, 1⟩] = 260 := by
  unfold visE
  rw [if_neg (by rw [kn_ord0]; simp), if_pos (by simp [Any_wrong, wrongP])]
theorem kn_logE2 : logE [0] [⟨0, 2⟩] = 260 := by
  unfold logE
  rw [if_neg (by rw [kn_ord0]; simp), if_pos (by simp [Any_log, overP, wrongP])]
def knS : ByteArray := { data := #[97] }
theorem kn_beg : begL knS = [0] := by decide +kernel
theorem kn_txtE : txtE knS [⟨0, 2⟩] = 260 := by
  unfold txtE
  rw [if_pos (by rw [kn_beg]; simp [Any_text, overP, wrongP])]
theorem kn_colE2 : colE [1] [1] [] = 261 := by
  unfold colE
  rw [if_neg (by rw [show orderB [1] = true from decide_eq_true ⟨fun x hx => by simp at hx; omega, by simp⟩]; simp), if_pos (by simp [farP])]
end Go.Proofs.Ytkcdcgijbaepmaa
