/-
  Plain laws: a text with a dot behind it; what is picked and what is left.
-/
import Derived.Test.YtkcdcgijbaepmaaJA
import Derived.Test.YtkcdcgijbaepmaaJ6
set_option linter.unusedVariables false
set_option linter.unusedSimpArgs false
namespace Go.Proofs.Ytkcdcgijbaepmaa
open Go.RowKit

def dotS (s : ByteArray) : ByteArray := s ++ { data := #[46] }
theorem dot_size (s : ByteArray) : (dotS s).size = s.size + 1 := by simp [dotS]; rfl
theorem dot_byte (s : ByteArray) (k : Nat) (h : k < s.size) : byteN (dotS s) k = byteN s k := by
  rw [← byteN_get s k h, ← byteN_get (dotS s) k (by rw [dot_size]; omega)]
  congr 1
  exact ByteArray.getElem_append_left h
theorem dot_last (s : ByteArray) : byteN (dotS s) s.size = 46 := by
  rw [← byteN_get (dotS s) s.size (by rw [dot_size]; omega)]
  have : (dotS s)[s.size]'(by rw [dot_size]; omega) = 46 := by
    unfold dotS
    rw [ByteArray.getElem_append_right (Nat.le_refl _)]
    simp
    rfl
  rw [this]
  rfl
theorem dot_cont (s : ByteArray) (k : Nat) : contN (dotS s) k ↔ contN s k := by
  unfold contN
  rw [dot_size]
  by_cases h : k < s.size
  · rw [dot_byte s k h]
    omega
  · by_cases h2 : k = s.size
    · subst h2
      rw [dot_last]
      omega
    · omega
theorem dot_decode (s : ByteArray) (i : Nat) (h : i < s.size) : Utf8.decode (dotS s) i = Utf8.decode s i := by
  have e0 := dot_byte s i h
  have hc := fun k => dot_cont s k
  have hb : ∀ k, contN s k → byteN (dotS s) k = byteN s k := fun k hk => dot_byte s k hk.1
  rw [decode_eq, decode_eq, e0]
  simp only [hc]
  by_cases h1 : contN s (i + 1)
  · rw [hb _ h1]
    by_cases h2 : contN s (i + 2)
    · rw [hb _ h2]
      by_cases h3 : contN s (i + 3)
      · rw [hb _ h3]
      · simp [h1, h2, h3]
    · simp [h1, h2]
  · simp [h1]
theorem dot_at (s : ByteArray) : ∀ k, k ≤ (begL s).length → k < (begL (dotS s)).length ∧ atN (dotS s) k = atN s k := by
  intro k
  induction k with
  | zero =>
    intro _
    refine ⟨?_, by rw [atN_zero, atN_zero]⟩
    by_cases h : 0 < (begL (dotS s)).length
    · exact h
    · have h1 := atN_last (dotS s)
      rw [show (begL (dotS s)).length = 0 by omega, atN_zero, dot_size] at h1
      omega
  | succ k ih =>
    intro hk
    obtain ⟨h1, h2⟩ := ih (by omega)
    have hat := atN_lt s k (by omega)
    have e : atN (dotS s) (k + 1) = atN s (k + 1) := by
      rw [atN_succ _ k h1, atN_succ s k (by omega), h2, dot_decode s _ hat]
    refine ⟨?_, e⟩
    by_cases h : k + 1 < (begL (dotS s)).length
    · exact h
    · have h3 := atN_last (dotS s)
      rw [show (begL (dotS s)).length = k + 1 by omega, e, dot_size] at h3
      have := atN_le s (k + 1) hk
      omega
theorem dot_len (s : ByteArray) : (begL (dotS s)).length = (begL s).length + 1 := by
  obtain ⟨h1, h2⟩ := dot_at s (begL s).length (Nat.le_refl _)
  rw [atN_last] at h2
  have h3 := atN_succ (dotS s) _ h1
  have h4 := decode_pos (dotS s) (atN (dotS s) (begL s).length) (by rw [h2, dot_size]; omega)
  have h5 := atN_le (dotS s) ((begL s).length + 1) (by omega)
  rw [dot_size] at h5
  have h6 := atN_last (dotS s)
  rw [dot_size] at h6
  exact (atN_inj (dotS s) _ _ (by omega) (Nat.le_refl _) (by rw [h6]; omega)).symm
theorem dot_pos (s : ByteArray) (k : Nat) (h0 : 0 < k) (hk : k ≤ (begL s).length) : 0 < atN s k := by
  obtain ⟨j, rfl⟩ : ∃ j, k = j + 1 := ⟨k - 1, by omega⟩
  rw [atN_succ s j (by omega)]
  have := decode_pos s (atN s j) (atN_lt s j (by omega))
  omega

/-! ### what is picked, and what is left -/
theorem all_one (m : Nat) : joinL [⟨0, (m : Int)⟩] = if 0 < m then [⟨0, (m : Int)⟩] else [] := by
  by_cases h : 0 < m
  · rw [if_pos h]
    exact joinL_NF ⟨fun p hp => by simp at hp; rw [hp]; simp; omega, by simp⟩
  · rw [if_neg h]
    refine (joinL_of NF.nil (fun x => ?_)).symm
    rw [cov_cons]
    simp [cov_nil]
    omega
theorem all_ok (s : ByteArray) : ¬ Any_text (begL s).length [⟨0, ((begL s).length : Int)⟩] = true := by
  simp [Any_text, overP, wrongP]
theorem all_txtE (s : ByteArray) : txtE s [⟨0, ((begL s).length : Int)⟩] = 0 := by
  unfold txtE
  rw [if_neg (all_ok s)]
theorem all_txtS (s : ByteArray) : txtS s [⟨0, ((begL s).length : Int)⟩] = s := by
  unfold txtS
  rw [if_neg (all_ok s), text_join s _ _ rfl (all_ok s), all_one]
  by_cases h : 0 < (begL s).length
  · rw [if_pos h]
    show ByteArray.empty ++ subS s (Int.toNat 0) (Int.toNat ((begL s).length : Int)) = s
    rw [Int.toNat_natCast]
    show ByteArray.empty ++ subS s 0 _ = s
    rw [subS_all]
    simp
  · rw [if_neg h]
    have h1 := atN_last s
    rw [show (begL s).length = 0 by omega, atN_zero] at h1
    show ByteArray.empty = s
    have : s.data = #[] := by
      apply Array.eq_empty_of_size_eq_zero
      have : s.size = 0 := h1.symm
      exact this
    obtain ⟨d⟩ := s
    simp at this
    subst this
    rfl
def restL (m : Nat) (ps : List PD) : List PD := turnL [⟨0, (m : Int)⟩] (joinL ps)
theorem rest_cov (m : Nat) (ps : List PD) (h : ∀ p ∈ ps, 0 ≤ p.f ∧ p.t ≤ (m : Int)) (x : Int) : cov (restL m ps) x ↔ (0 ≤ x ∧ x < m ∧ ¬ cov ps x) := by
  unfold restL
  rw [(turnL_ok _ _).2 x, (joinL_ok ps).2 x, cov_cons]
  simp only [cov_nil, or_false]
  constructor
  · intro h1
    by_cases hc : cov ps x
    · obtain ⟨p, hp, h2, h3⟩ := hc
      have h4 := h p hp
      exact absurd ⟨p, hp, h2, h3⟩ (h1.1 ⟨by omega, by omega⟩)
    · have := h1.2 hc
      exact ⟨this.1, this.2, hc⟩
  · rintro ⟨h1, h2, h3⟩
    exact ⟨fun _ => h3, fun _ => ⟨by simpa using h1, by simpa using h2⟩⟩
theorem rest_ok (m : Nat) (ps : List PD) (h : ∀ p ∈ ps, 0 ≤ p.f ∧ p.t ≤ (m : Int)) : ¬ Any_text m (restL m ps) = true := by
  unfold Any_text
  rw [decide_eq_true_iff]
  rintro ⟨p, hp, ho⟩
  have hpos := (turnL_ok [⟨0, (m : Int)⟩] (joinL ps)).1.pos p hp
  have h1 := (rest_cov m ps h p.f).1 ⟨p, hp, Int.le_refl _, hpos⟩
  have h2 := (rest_cov m ps h (p.t - 1)).1 ⟨p, hp, by omega, by omega⟩
  unfold overP wrongP at ho
  omega
theorem rest_txtE (s : ByteArray) (ps : List PD) (h : ∀ p ∈ ps, 0 ≤ p.f ∧ p.t ≤ ((begL s).length : Int)) : txtE s (restL (begL s).length ps) = 0 := by
  unfold txtE
  rw [if_neg (rest_ok _ ps h)]
theorem rest_txtS (s : ByteArray) (ps : List PD) (h : ∀ p ∈ ps, 0 ≤ p.f ∧ p.t ≤ ((begL s).length : Int)) : txtS s (restL (begL s).length ps) = textP s (fun i => !covB ps (i : Int)) (begL s).length := by
  unfold txtS
  rw [if_neg (rest_ok _ ps h)]
  refine textP_congr s _ _ _ (fun i hi => ?_)
  have h1 := rest_cov (begL s).length ps h (i : Int)
  simp only [Function.comp, covB]
  by_cases hc : cov ps (i : Int)
  · have : ¬ cov (restL (begL s).length ps) (Int.ofNat i) := fun h2 => (h1.1 h2).2.2 hc
    rw [decide_eq_false this, decide_eq_true hc]; rfl
  · have : cov (restL (begL s).length ps) (Int.ofNat i) := h1.2 ⟨by omega, by omega, hc⟩
    rw [decide_eq_true this, decide_eq_false hc]; rfl
theorem parts_size (s : ByteArray) (P : Nat → Bool) : ∀ k, k ≤ (begL s).length → (textP s P k).size + (textP s (fun i => !P i) k).size = atN s k := by
  intro k
  induction k with
  | zero => intro _; rw [atN_zero]; rfl
  | succ k ih =>
    intro hk
    have h1 := ih (by omega)
    have h2 := subS_size s k (k + 1) hk
    have h3 := atN_mono s k (k + 1) (by omega) hk
    cases hp : P k
    · rw [textP_no hp, textP_yes (P := fun i => !P i) (by simp [hp]), ByteArray.size_append]
      omega
    · rw [textP_yes hp, textP_no (P := fun i => !P i) (by simp [hp]), ByteArray.size_append]
      omega
end Go.Proofs.Ytkcdcgijbaepmaa
