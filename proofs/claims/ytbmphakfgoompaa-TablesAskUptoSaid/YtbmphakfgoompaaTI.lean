/-
  The plain look through spans (naive).
-/
import Derived.Test.YtbmphakfgoompaaTN
import Derived.Test.YtbmphakfgoompaaTD
set_option linter.unusedVariables false
set_option linter.unusedSimpArgs false
namespace Go.Proofs.Ytbmphakfgoompaa
open Go.RowKit

theorem ownF_hit {l : List SpanD} {x : Int} {k : Nat} (hk : k < l.length) (h : hasS x l[k] = true) (hno : ∀ j (hj : j < k), ¬ hasS x (l[j]'(by omega)) = true) : ownF l x = (k : Int) + 1 := by
  have e : l.findIdx? (hasS x) = some k := by
    rw [List.findIdx?_eq_some_iff_getElem]
    exact ⟨hk, h, fun j hj => by have := hno j hj; simpa using this⟩
  unfold ownF
  rw [e]
theorem ownF_none {l : List SpanD} {x : Int} (hno : ∀ j (hj : j < l.length), ¬ hasS x l[j] = true) : ownF l x = 0 := by
  have e : l.findIdx? (hasS x) = none := by
    rw [List.findIdx?_eq_none_iff]
    intro s hs
    obtain ⟨j, hj, rfl⟩ := List.mem_iff_getElem.1 hs
    have := hno j hj
    simpa using this
  unfold ownF
  rw [e]
theorem fS_hit {rest : Int} {l : List SpanD} {r k : Nat} (hk : k < l.length) (h : hasS (r : Nat) l[k] = true) (hno : ∀ j (hj : j < k), ¬ hasS (r : Nat) (l[j]'(by omega)) = true) : fS rest l r = l[k].v := by
  unfold fS
  rw [ownF_hit hk h hno, if_neg (by omega), show ((k : Int) + 1 - 1).toNat = k by omega]
  simp [hk]
theorem fS_none {rest : Int} {l : List SpanD} {r : Nat} (hno : ∀ j (hj : j < l.length), ¬ hasS (r : Nat) l[j] = true) : fS rest l r = rest := by
  unfold fS
  rw [ownF_none hno, if_pos rfl]
end Go.Proofs.Ytbmphakfgoompaa
