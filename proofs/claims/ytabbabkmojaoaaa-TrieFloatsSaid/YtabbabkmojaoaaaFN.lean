/-
  The walk of nan.
-/
import Derived.Test.YtabbabkmojaoaaaTF
import Derived.Test.YtabbabkmojaoaaaQF
import Derived.WalkLawsBesides
set_option linter.unusedVariables false
set_option linter.unusedSimpArgs false
namespace Go.Proofs.Ytabbabkmojaoaaa.VF
open Go.RowKit

theorem nan_bits (x y t : Nat) : 0x7ff0000000000000 < (Question.nanBits .f64 x y).cut t % 2 ^ 63 := by
  simp only [Question.cut]
  have h1 : t / 2 % (2 ^ 52 - 1) < 2 ^ 52 - 1 := Nat.mod_lt _ (by decide)
  generalize t / 2 % (2 ^ 52 - 1) = r at *
  have h2 : t % 2 < 2 := Nat.mod_lt _ (by decide)
  generalize t % 2 = p at *
  have h3 : (2 : Nat) ^ 63 = 9223372036854775808 := by decide
  have h4 : (2 : Nat) ^ 52 - 1 = 4503599627370495 := by decide
  rw [h4] at h1
  rw [h3]
  omega
theorem nan_walk (w : World) : Calls Try.prog 29 #[] w fun e w' => ∃ b, e = .returned (.float .f64 b) ∧ 0x7ff0000000000000 < b % 2 ^ 63 ∧ w' = w.drewN 1 := by
  have hn := nan_bits 0 0 (w.tape w.drawn (.nanBits .f64 0 0))
  obtain ⟨b, hb⟩ : ∃ b, b = (Question.nanBits .f64 0 0).cut (w.tape w.drawn (.nanBits .f64 0 0)) := ⟨_, rfl⟩
  rw [← hb] at hn
  have hq : (binOp .quo 47 (.float .f64 0) (.float .f64 0)).run Try.prog w = .ok (.float .f64 b) (w.drewN 1) := by
    have h0 : FloatKind.f64.format.div 0 0 = none := by decide +kernel
    simp [binOp, Op.floatArith, h0, Question.forced, ← hb]
    rfl
  go_enter Try.func29, Try.ntmps29
  go_wp2
  go_ret
  exact ⟨b, by rw [hb]; rfl, hn, rfl⟩
end Go.Proofs.Ytabbabkmojaoaaa.VF
