/-
  Where the characters of a text begin; a range over a text; a text's places.
-/
import Derived.Test.YtmcjlkpogcnniaaW11
import Derived.Test.YtmcjlkpogcnniaaBase5
import Derived.Laws.RangeAny
import Derived.RangeFuncOwn
set_option linter.unusedVariables false
namespace Go.Proofs.Ytmcjlkpogcnniaa
open Go.RowKit

def begFrom (s : ByteArray) : Nat → Nat → List Nat
  | 0, _ => []
  | b + 1, i => if i < s.size then i :: begFrom s b (i + (Utf8.decode s i).2) else []
def begL (s : ByteArray) : List Nat := begFrom s s.size 0
theorem runesFrom_beg (s : ByteArray) : ∀ (b i : Nat) (acc : Array Value), (Conv.runesFrom s b i acc).toList = acc.toList ++ (begFrom s b i).map (fun j => .int .i32 (Int.ofNat (Utf8.decode s j).1)) := by
  intro b
  induction b with
  | zero => intro i acc; simp [Conv.runesFrom, begFrom]
  | succ b ih =>
    intro i acc
    rw [Conv.runesFrom, begFrom]
    by_cases h : i < s.size
    · simp only [h, if_true]
      rw [ih]
      simp
    · simp [h]
theorem runesL_beg (s : ByteArray) : runesL s = (begL s).map (fun j => ((Utf8.decode s j).1 : Int)) := by
  unfold runesL
  rw [runesFrom_beg]
  simp [begL, Function.comp_def]
theorem begL_length (s : ByteArray) : (begL s).length = (runesL s).length := by rw [runesL_beg]; simp
theorem begFrom_lt (s : ByteArray) : ∀ b i, ∀ j ∈ begFrom s b i, i ≤ j ∧ j < s.size := by
  intro b
  induction b with
  | zero => intro i j h; simp [begFrom] at h
  | succ b ih =>
    intro i j h
    rw [begFrom] at h
    by_cases hi : i < s.size
    · rw [if_pos hi] at h
      rcases List.mem_cons.1 h with rfl | h
      · exact ⟨Nat.le_refl _, hi⟩
      · have := ih _ _ h; omega
    · rw [if_neg hi] at h; simp at h
theorem begFrom_sorted (s : ByteArray) : ∀ b i, (begFrom s b i).Pairwise (· ≤ ·) := by
  intro b
  induction b with
  | zero => intro i; simp [begFrom]
  | succ b ih =>
    intro i
    rw [begFrom]
    by_cases hi : i < s.size
    · rw [if_pos hi, List.pairwise_cons]
      exact ⟨fun j hj => by have := begFrom_lt s _ _ j hj; omega, ih _⟩
    · rw [if_neg hi]; exact List.Pairwise.nil
/-- where the characters begin, and the end -/
def atsL (s : ByteArray) : List Nat := begL s ++ [s.size]
theorem atsL_length (s : ByteArray) : (atsL s).length = (runesL s).length + 1 := by simp [atsL, begL_length]
theorem atsL_le (s : ByteArray) : ∀ j ∈ atsL s, j ≤ s.size := by
  intro j hj
  rcases List.mem_append.1 hj with h | h
  · have := begFrom_lt s _ _ j h; omega
  · simp at h; omega
theorem atsL_sorted (s : ByteArray) : (atsL s).Pairwise (· ≤ ·) := by
  unfold atsL
  rw [List.pairwise_append]
  refine ⟨begFrom_sorted s _ _, by simp, fun a ha b hb => ?_⟩
  have := begFrom_lt s _ _ a ha
  simp at hb
  omega
theorem atsL_mono (s : ByteArray) (i j : Nat) (hij : i ≤ j) (hj : j < (atsL s).length) : (atsL s).getD i 0 ≤ (atsL s).getD j 0 := by
  have hi : i < (atsL s).length := by omega
  simp only [List.getD_eq_getElem?_getD, List.getElem?_eq_getElem hi, List.getElem?_eq_getElem hj, Option.getD_some]
  by_cases h : i = j
  · subst h; exact Nat.le_refl _
  · exact List.pairwise_iff_getElem.1 (atsL_sorted s) i j hi hj (by omega)
theorem atsL_getD_le (s : ByteArray) (i : Nat) (hi : i < (atsL s).length) : (atsL s).getD i 0 ≤ s.size := by
  simp only [List.getD_eq_getElem?_getD, List.getElem?_eq_getElem hi, Option.getD_some]
  exact atsL_le s _ (List.getElem_mem hi)
/-- the text of a stretch of characters -/
def subS (s : ByteArray) (p : Nat × Nat) : ByteArray := s.extract ((atsL s).getD p.1 0) ((atsL s).getD p.2 0)

/-- one step of a range over a text, whatever else lies in memory -/
theorem run_next_at {P : Program} (w : World) (b : Nat) (s : ByteArray) (pos : Nat) (ty : TypeId) (hb : w.heap[b]? = some (.stringIter s pos)) (h : pos < s.size) :
    (Instr.next (.pointer (some ⟨b, 0, none⟩)) true ty).run P w = .ok (.tuple #[.bool true, .int .i64 pos, .int .i32 (Utf8.decode s pos).1]) (w.putObj b (.stringIter s (pos + (Utf8.decode s pos).2))) := by
  simp only [Instr.next, getObj, setObj, Sem.run_bind, Sem.run, hb, Result.andThen, h, if_true]
  simp [goInt, World.putObj]
theorem run_next_over {P : Program} (w : World) (b : Nat) (s : ByteArray) (pos : Nat) (ty : TypeId) (hb : w.heap[b]? = some (.stringIter s pos)) (h : ¬ pos < s.size) :
    (Instr.next (.pointer (some ⟨b, 0, none⟩)) true ty).run P w = .ok (.tuple #[.bool false]) w := by
  simp [Instr.next, getObj, Sem.run, hb, h]

/-- where a range over a text stands: k characters have come -/
def RangeAt (s : ByteArray) (k pos : Nat) : Prop := ∃ b, begFrom s b pos = (begL s).drop k ∧ s.size ≤ pos + b
theorem RangeAt.start (s : ByteArray) : RangeAt s 0 0 := ⟨s.size, rfl, by omega⟩
theorem RangeAt.next {s : ByteArray} {k pos : Nat} (h : RangeAt s k pos) (hp : pos < s.size) : ∃ hk : k < (begL s).length, (begL s)[k] = pos ∧ RangeAt s (k + 1) (pos + (Utf8.decode s pos).2) := by
  obtain ⟨b, hb, hs⟩ := h
  cases b with
  | zero => omega
  | succ b =>
    rw [begFrom, if_pos hp] at hb
    have hk : k < (begL s).length := by
      by_cases hk : k < (begL s).length
      · exact hk
      · rw [List.drop_eq_nil_of_le (by omega)] at hb; cases hb
    rw [List.drop_eq_getElem_cons hk] at hb
    simp only [List.cons.injEq] at hb
    have hw : 1 ≤ (Utf8.decode s pos).2 := by
      by_cases ha : (s[pos]'hp).toNat < 128
      · rw [decode_ascii s pos hp ha]; exact Nat.le_refl _
      · exact (decode_high s pos hp (by omega)).2
    exact ⟨hk, hb.1.symm, b, hb.2, by omega⟩
theorem RangeAt.end_ {s : ByteArray} {k pos : Nat} (h : RangeAt s k pos) (hp : ¬ pos < s.size) : (begL s).length ≤ k := by
  obtain ⟨b, hb, hs⟩ := h
  have : begFrom s b pos = [] := by
    cases b with
    | zero => rfl
    | succ b => rw [begFrom, if_neg hp]
  rw [this] at hb
  exact List.drop_eq_nil_iff.1 hb.symm
end Go.Proofs.Ytmcjlkpogcnniaa
