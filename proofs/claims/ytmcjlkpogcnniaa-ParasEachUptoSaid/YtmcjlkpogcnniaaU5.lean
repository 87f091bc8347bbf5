/-
  The walks of the maker of the iterator, of a text mended; a text put together of its pieces.
-/
import Derived.Test.YtmcjlkpogcnniaaU4
import Derived.Test.YtmcjlkpogcnniaaP6
import Derived.Test.YtmcjlkpogcnniaaS9
import Derived.Test.YtmcjlkpogcnniaaR1
set_option linter.unusedVariables false
namespace Go.Proofs.Ytmcjlkpogcnniaa
open Go.RowKit

theorem Each_walk (v : Value) (hv : v.oneCell' = true) (s : ByteArray) (w : World) :
    Calls Try.prog 36 #[v, .string s] w fun e w' => e = .returned (.func (.func 47) #[] #[.pointer (some ⟨w.heap.size, 0, none⟩), .pointer (some ⟨w.heap.size + 1, 0, none⟩)]) ∧
      w'.cell? ⟨w.heap.size, 0, none⟩ = some v ∧ w'.cell? ⟨w.heap.size + 1, 0, none⟩ = some (.string s) ∧ w'.heap.size = w.heap.size + 2 ∧ Below w.heap.size w w' := by
  go_enter Try.func36, Try.ntmps36
  go_wp2
  go_ret
  have hA : ((w.alloc (.cells #[v] 84)).alloc (.cells #[.string s] 9)).heap[w.heap.size]? = some (.cells #[v] 84 (0, 0)) := by
    rw [Below.heap_alloc _ _ w.heap.size (by simp)]
    exact heap_alloc_new w _
  have hB : ((w.alloc (.cells #[v] 84)).alloc (.cells #[.string s] 9)).heap[w.heap.size + 1]? = some (.cells #[.string s] 9 (0, 0)) := by
    have := heap_alloc_new (w.alloc (.cells #[v] 84)) (.cells #[.string s] 9)
    simpa using this
  have c0 := cell_of_row _ w.heap.size 0 _ _ (0, 0) hA
  have c1 := cell_of_row _ (w.heap.size + 1) 0 _ _ (0, 0) hB
  exact ⟨rfl, c0, c1, by simp, ((Below.refl _ w).alloc (Nat.le_refl _) _).alloc (by simp) _⟩

/-- a text mended -/
def mendS (s : ByteArray) : ByteArray := runesBytes (runesL s)
theorem mend_conv (s : ByteArray) (w : World) (h46 : s.size ≤ 70368744177664) :
    ∃ g c w', Own w.heap.size 21 w' (some ⟨g, 0, none⟩) (runesL s).length c (ivs .i32 (runesL s)) ∧ Below w.heap.size w w' ∧ (convert 9 26 (.string s)).run Try.prog w = .ok (.slice (some ⟨g, 0, none⟩) (runesL s).length c) w' ∧
      (convert 26 9 (.slice (some ⟨g, 0, none⟩) (runesL s).length c)).run Try.prog w' = .ok (.string (mendS s)) w' := by
  obtain ⟨a, c, w', ho, hb, hr⟩ := runes_at s w h46
  have hle := runesL_le s
  rw [runesL_length] at hle
  have hr2 := run_runes_of_string (P := Try.prog) w 9 26 21 s Try.underlying9 Try.underlying26 Try.underlying21 (by omega)
  rw [hr] at hr2
  simp only [Result.ok.injEq, Value.slice.injEq] at hr2
  obtain ⟨⟨rfl, _, _⟩, _⟩ := hr2
  refine ⟨_, c, w', ho, hb, hr, ?_⟩
  rw [run_convert_runes_string w' _ _ 21 _ _ _ Try.underlying26 Try.underlying21 Try.underlying9]
  refine run_runesToString w' _ _ c (runesL s) ?_
  have := run_loadCells_list (P := Try.prog) w' ⟨w.heap.size, 0, none⟩ (ivs .i32 (runesL s)) (fun j v hv => by
    obtain ⟨hj, rfl⟩ := List.getElem?_eq_some_iff.1 hv
    rw [Addr.add_lit, Nat.zero_add]
    exact ho.cell j hj)
  rw [ivs_length] at this
  exact this

/-- the first k pieces of a text, one behind the other -/
def textTo (s : ByteArray) (ps : List (Nat × Nat)) : ByteArray := ps.foldl (fun t p => t ++ subS s p) ByteArray.empty
theorem textTo_push (s : ByteArray) (ps : List (Nat × Nat)) (p : Nat × Nat) : textTo s (ps ++ [p]) = textTo s ps ++ subS s p := by simp [textTo]
theorem subS_size (s : ByteArray) (p : Nat × Nat) : (subS s p).size ≤ s.size := by
  unfold subS
  rw [ByteArray.size_extract]
  omega
theorem textTo_size (s : ByteArray) (ps : List (Nat × Nat)) : (textTo s ps).size ≤ ps.length * s.size := by
  have h : ∀ (t : ByteArray), (ps.foldl (fun t p => t ++ subS s p) t).size ≤ t.size + ps.length * s.size := by
    induction ps with
    | nil => intro t; simp
    | cons p r ih =>
      intro t
      rw [List.foldl_cons, List.length_cons, Nat.add_mul, Nat.one_mul]
      have h1 := ih (t ++ subS s p)
      have h2 := subS_size s p
      rw [ByteArray.size_append] at h1
      omega
  have := h ByteArray.empty
  simpa [textTo] using this
theorem cat_le (s : ByteArray) (ps : List (Nat × Nat)) (p : Nat × Nat) (hs : s.size ≤ 4194304) (hp : ps.length ≤ 4194305) : (textTo s ps).size + (subS s p).size ≤ 9223372036854775807 := by
  have h1 := textTo_size s ps
  have h2 := subS_size s p
  have h3 : ps.length * s.size ≤ 4194305 * 4194304 := Nat.mul_le_mul hp hs
  omega
theorem atsL_zero (s : ByteArray) : (atsL s).getD 0 0 = 0 := by
  unfold atsL begL
  by_cases h : 0 < s.size
  · obtain ⟨b, hb⟩ : ∃ b, s.size = b + 1 := ⟨s.size - 1, by omega⟩
    have : begFrom s s.size 0 = 0 :: begFrom s b (0 + (Utf8.decode s 0).2) := by
      conv => lhs; arg 2; rw [hb]
      rw [begFrom, if_pos h]
    rw [this]
    rfl
  · have : begFrom s s.size 0 = [] := by
      rw [show s.size = 0 by omega]; rfl
    rw [this]
    show s.size = 0
    omega
theorem atsL_last (s : ByteArray) : (atsL s).getD (runesL s).length 0 = s.size := by
  unfold atsL
  rw [← begL_length]
  simp
theorem textTo_take (s : ByteArray) (cl : List Int) (ps : List (Nat × Nat)) (hF : CutF (runesL s) cl ps) (hl : cl.length = (runesL s).length) : ∀ k, k ≤ ps.length → textTo s (ps.take k) = s.extract 0 ((atsL s).getD (endAt ps k) 0) := by
  intro k
  induction k with
  | zero =>
    intro _
    rw [show endAt ps 0 = 0 from rfl, atsL_zero]
    simp [textTo]
  | succ k ih =>
    intro hk
    have hkl : k < ps.length := by omega
    obtain ⟨f1, f2, f3, _, _⟩ := hF.one k hkl
    rw [List.take_succ_eq_append_getElem hkl, textTo_push, ih (by omega), endAt_succ ps k hkl, ← f1]
    unfold subS
    have m1 := atsL_mono s (ps[k]).1 (ps[k]).2 (by omega) (by rw [atsL_length]; omega)
    have m2 := atsL_getD_le s (ps[k]).2 (by rw [atsL_length]; omega)
    rw [ByteArray.extract_append_extract]
    simp only [Nat.zero_le, Nat.min_eq_left, Nat.max_eq_right m1]
theorem textTo_all (s : ByteArray) (cl : List Int) (hl : cl.length = (runesL s).length) : textTo s (splitL (runesL s) cl) = s := by
  have h := textTo_take s cl _ (cut_facts (runesL s) cl) hl _ (Nat.le_refl _)
  rw [List.take_length, (cut_facts (runesL s) cl).last, hl, atsL_last] at h
  rw [h]
  simp
end Go.Proofs.Ytmcjlkpogcnniaa
