/-
  Plain laws: a piece set into a rising list.
-/
import Derived.Test.YtkcdcgijbaepmaaJ1
set_option linter.unusedVariables false
namespace Go.Proofs.Ytkcdcgijbaepmaa

def Rising (S : List PD) : Prop := S.Pairwise (fun a b => a.f ≤ b.f)
/-- S with a hole at k: what lies behind it is higher than x -/
structure HoleAt (S L : List PD) (x : PD) (k : Nat) : Prop where
  le : k ≤ S.length
  len : L.length = S.length + 1
  low : L.take k = S.take k
  high : L.drop (k + 1) = S.drop k
  more : ∀ p ∈ S.drop k, x.f < p.f
theorem HoleAt.start (S : List PD) (x : PD) : HoleAt S (S ++ [x]) x S.length :=
  ⟨Nat.le_refl _, by simp, by simp, by rw [List.drop_eq_nil_of_le (by simp), List.drop_length], fun p hp => by rw [List.drop_length] at hp; cases hp⟩
theorem HoleAt.at {S L : List PD} {x : PD} {k : Nat} (h : HoleAt S L x (k + 1)) : ∃ hk : k < S.length, ∃ hl : k < L.length, L[k] = S[k] := by
  have h1 := h.le
  have h2 := h.len
  refine ⟨by omega, by omega, ?_⟩
  have := congrArg (fun l : List PD => l[k]?) h.low
  simp only [List.getElem?_take_of_lt (Nat.lt_succ_self k)] at this
  rw [List.getElem?_eq_getElem (by omega), List.getElem?_eq_getElem (by omega)] at this
  exact Option.some.inj this
theorem HoleAt.step {S L : List PD} {x : PD} {k : Nat} (h : HoleAt S L x (k + 1)) (y : PD) (hk : k < S.length) (hy : y = S[k]) (hx : x.f < y.f) : HoleAt S (L.set (k + 1) y) x k := by
  subst hy
  have h2 := h.len
  refine ⟨by omega, by simpa using h2, ?_, ?_, ?_⟩
  · apply List.ext_getElem?
    intro i
    by_cases hi : i < k
    · rw [List.getElem?_take_of_lt hi, List.getElem?_take_of_lt hi, List.getElem?_set, if_neg (by omega)]
      have := congrArg (fun l : List PD => l[i]?) h.low
      simpa [List.getElem?_take_of_lt (show i < k + 1 by omega)] using this
    · rw [List.getElem?_take_eq_none (by omega), List.getElem?_take_eq_none (by omega)]
  · rw [List.drop_eq_getElem_cons hk, ← h.high, List.drop_eq_getElem_cons (show k + 1 < (L.set (k + 1) S[k]).length by simp; omega)]
    congr 1
    · simp
    · apply List.ext_getElem?
      intro i
      rw [List.getElem?_drop, List.getElem?_drop, List.getElem?_set, if_neg (by omega)]
  · intro p hp
    rw [List.drop_eq_getElem_cons hk] at hp
    rcases List.mem_cons.1 hp with rfl | hp
    · exact hx
    · exact h.more p hp
theorem HoleAt.fill {S L : List PD} {x : PD} {k : Nat} (h : HoleAt S L x k) : L.set k x = S.take k ++ x :: S.drop k := by
  have h1 := h.le
  have h2 := h.len
  have e : L.set k x = L.take k ++ x :: L.drop (k + 1) := by rw [List.set_eq_take_append_cons_drop, if_pos (by omega)]
  rw [e, h.low, h.high]
theorem HoleAt.done {S L : List PD} {x : PD} {k : Nat} (h : HoleAt S L x k) (hs : Rising S) (hb : k = 0 ∨ ∃ hk : k - 1 < S.length, S[k - 1].f ≤ x.f) : Rising (L.set k x) ∧ (L.set k x).Perm (S ++ [x]) := by
  rw [h.fill]
  constructor
  · unfold Rising
    rw [List.pairwise_append]
    refine ⟨List.Pairwise.sublist (List.take_sublist k S) hs, ?_, ?_⟩
    · rw [List.pairwise_cons]
      exact ⟨fun p hp => Int.le_of_lt (h.more p hp), List.Pairwise.sublist (List.drop_sublist k S) hs⟩
    · intro p hp q hq
      have hpx : p.f ≤ x.f := by
        obtain ⟨i, hi, rfl⟩ := List.mem_iff_getElem.1 hp
        rw [List.length_take] at hi
        rcases hb with rfl | ⟨hk, hb⟩
        · omega
        · rw [List.getElem_take]
          by_cases e : i = k - 1
          · subst e; exact hb
          · have := List.pairwise_iff_getElem.1 hs i (k - 1) (by omega) hk (by omega)
            omega
      rcases List.mem_cons.1 hq with rfl | hq
      · exact hpx
      · have := h.more q hq; omega
  · refine List.perm_middle.trans ?_
    rw [List.take_append_drop]
    exact List.perm_append_singleton x S |>.symm
end Go.Proofs.Ytkcdcgijbaepmaa
