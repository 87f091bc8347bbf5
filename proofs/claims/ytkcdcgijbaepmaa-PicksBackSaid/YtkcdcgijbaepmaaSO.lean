/-
  Laws over the model alone: a row of the call's own, of elements of k cells, behind the library's sort.
-/
import Derived.Shelf.GgSortFunc.InsertionK
import Derived.Sort.OwnSortedInts
import Derived.Test.YtkcdcgijbaepmaaBase5
set_option linter.unusedVariables false
namespace Go.Proofs.Ytkcdcgijbaepmaa
open Go.RowKit Go.Sort

section
variable {α : Type} {enc : α → List Value} {k : Nat}
theorem flat_get (hk : ∀ x, (enc x).length = k) (l : List α) (i j : Nat) (hi : i < l.length) (hj : j < k) : (l.flatMap enc)[i * k + j]? = some ((enc l[i])[j]'(by rw [hk]; exact hj)) := by
  induction l generalizing i with
  | nil => simp at hi
  | cons x t ih =>
    rw [List.flatMap_cons]
    cases i with
    | zero =>
      rw [List.getElem?_append_left (by rw [hk]; omega)]
      simp [hk, hj]
    | succ i =>
      have hi' : i < t.length := by simpa using hi
      rw [List.getElem?_append_right (by rw [hk, Nat.add_mul]; omega), hk, show (i + 1) * k + j - k = i * k + j by rw [Nat.add_mul]; omega, ih i hi']
      simp
theorem flat_length (hk : ∀ x, (enc x).length = k) (l : List α) : (l.flatMap enc).length = l.length * k := by
  induction l with
  | nil => simp
  | cons x t ih => rw [List.flatMap_cons, List.length_append, hk, ih, List.length_cons, Nat.add_mul]; omega
end
section
variable {α : Type} [Inhabited α] {enc : α → List Value} {k : Nat}
theorem flatK_list (hk : ∀ x, (enc x).length = k) (k0 : 0 < k) (d : Array α) : (flatK enc k d).toList = d.toList.flatMap enc := by
  apply List.ext_getElem?
  intro t
  by_cases ht : t < d.size * k
  · have hdiv : t / k < d.size := Nat.div_lt_of_lt_mul (by rwa [Nat.mul_comm] at ht)
    have hmod : t % k < k := Nat.mod_lt _ k0
    have e : t = t / k * k + t % k := by rw [Nat.mul_comm]; exact (Nat.div_add_mod t k).symm
    have h1 := flat_get hk d.toList (t / k) (t % k) (by simpa using hdiv) hmod
    rw [← e] at h1
    rw [h1, Array.getElem?_toList]
    have h2 := get_flatK enc k d t ht
    rw [getElem!_pos _ t (by simpa using ht), getElem!_pos d (t / k) hdiv, getElem!_pos _ (t % k) (by rw [hk]; exact hmod)] at h2
    rw [Array.getElem?_eq_getElem (by simpa using ht), h2]
    simp
  · rw [List.getElem?_eq_none (by simp; omega), List.getElem?_eq_none (by rw [flat_length hk]; simp; omega)]

theorem holdsK_of {w : World} {base g cap : Nat} {e : TypeId} {d : Array α} (hk : ∀ x, (enc x).length = k) (k0 : 0 < k) (h : w.ownsRow base e k (.slice (some ⟨g, 0, none⟩) d.size cap) d.size (d.toList.flatMap enc)) : HoldsK enc k w g 0 d := by
  intro j hj
  have hj' : j < d.size * k := by simpa using hj
  rcases h.2 with ⟨h', _⟩ | ⟨g', cap', cur, h', hb, hg, hnc, hcm, hcs, htake⟩
  · simp at h'
  · simp only [Value.slice.injEq, Option.some.injEq, Addr.mk.injEq, and_true, true_and] at h'
    obtain ⟨rfl, rfl⟩ := h'
    refine ⟨?_, by simp [World.frozen?, hg]⟩
    rw [← flatK_list hk k0] at htake
    have h1 : (cur.toList.take (d.size * k))[j]? = (flatK enc k d).toList[j]? := by rw [htake]
    rw [List.getElem?_take_of_lt hj'] at h1
    simp only [World.cell?, hg, Nat.zero_add]
    simp only [Option.isSome_none, Bool.false_eq_true, if_false]
    rw [← Array.getElem?_toList, h1, Array.getElem?_toList, Array.getElem?_eq_getElem hj, getElem!_pos _ j hj]
    rfl
theorem heap_sortK {w : World} {g n : Nat} {os : Array Obj} {cur : Array Value} {e : TypeId} {fr : Nat × Nat} (d : Array α) (hb : w.heap[g]? = some (.cells cur e fr)) :
    (sortWorldK enc k w g 0 n d os).heap[g]? = some (.cells (putCells id 0 (flatK enc k d) cur) e fr) := by
  have hg : g < w.heap.size := (Array.getElem?_eq_some_iff.1 hb).1
  unfold sortWorldK putRowK
  rw [heap_grow_old _ _ (by simpa using hg)]
  simp [putRow, mapBlock, Sort.ahead, Array.getElem?_modify, hb, onCells]
theorem grownBy_sortK {w : World} {g n : Nat} {os : Array Obj} (d : Array α) : w.grownBy (sortWorldK enc k w g 0 n d os) (some g) := by
  unfold sortWorldK putRowK
  refine ⟨rfl, rfl, rfl, by simp, fun j hj hne => ?_⟩
  rw [heap_grow_old _ _ (by simpa using hj)]
  have : g ≠ j := fun e => hne (by rw [e])
  simp [putRow, mapBlock, Sort.ahead, Array.getElem?_modify, this]
theorem take_putCellsK (cur : Array Value) (F : Array Value) (h : F.size ≤ cur.size) : (putCells id 0 F cur).toList.take F.size = F.toList := by
  apply List.ext_getElem?
  intro j
  by_cases hj : j < F.size
  · rw [List.getElem?_take_of_lt hj, Array.getElem?_toList]
    simp [putCells, hj, show j < cur.size by omega]
  · rw [List.getElem?_take_eq_none (by omega), List.getElem?_eq_none (by simp; omega)]
theorem sort_own {w : World} {base g cap n : Nat} {e : TypeId} {os : Array Obj} {d d' : Array α} (hk : ∀ x, (enc x).length = k) (k0 : 0 < k) (hs : d'.size = d.size) (h : w.ownsRow base e k (.slice (some ⟨g, 0, none⟩) d.size cap) d.size (d.toList.flatMap enc)) :
    (sortWorldK enc k w g 0 n d' os).ownsRow base e k (.slice (some ⟨g, 0, none⟩) d.size cap) d.size (d'.toList.flatMap enc) := by
  rcases h.2 with ⟨h', _⟩ | ⟨g', cap', cur, h', hb, hg, hnc, hcm, hcs, htake⟩
  · simp at h'
  · simp only [Value.slice.injEq, Option.some.injEq, Addr.mk.injEq, and_true, true_and] at h'
    obtain ⟨rfl, rfl⟩ := h'
    have hsz : (flatK enc k d').size = d.size * k := by simp [hs]
    refine ⟨by rw [flat_length hk]; simp [hs], .inr ⟨g, cap, _, rfl, hb, heap_sortK d' hg, hnc, hcm, by simp [putCells, hcs], ?_⟩⟩
    rw [← hsz, ← flatK_list hk k0]
    exact take_putCellsK cur _ (by rw [hsz, hcs]; exact Nat.mul_le_mul_right _ hnc)
/-- in a world that the sort passes through, what lies elsewhere -/
theorem cell_sortK {w : World} {g n b o : Nat} {os : Array Obj} {v : Value} (d : Array α) (hc : w.cell? ⟨b, o, none⟩ = some v) (hne : b ≠ g) : (sortWorldK enc k w g 0 n d os).cell? ⟨b, o, none⟩ = some v := by
  have hb := (grownBy_sortK (enc := enc) (k := k) (w := w) (g := g) (n := n) (os := os) d).block b (World.block_lt_of_cell? w _ hc) (fun e => hne (by cases e; rfl))
  rw [World.cell?_of_block (w := w) (a := ⟨b, o, none⟩) hb]; exact hc
end
end Go.Proofs.Ytkcdcgijbaepmaa
