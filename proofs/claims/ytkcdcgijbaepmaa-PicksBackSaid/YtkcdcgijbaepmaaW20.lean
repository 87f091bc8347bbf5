/-
  The library's sort of numbers.
-/
import Derived.Test.YtkcdcgijbaepmaaW16
import Derived.Test.YtkcdcgijbaepmaaGS2
import Derived.Test.YtkcdcgijbaepmaaJ3
import Derived.Shelf.SortM.Plain
import Derived.Shelf.SortM.SortNone
import Derived.Sort.OwnSortedInts
set_option linter.unusedVariables false
namespace Go.Proofs.Ytkcdcgijbaepmaa
open Go.RowKit

theorem sortI_some (B g m c' : Nat) (zs : List Int) (wr : World) (hlt : m ≤ 1048576) (hO : Own B 3 wr (some ⟨g, 0, none⟩) m c' (ivs .i64 zs)) (hm : 0 < m) :
    Calls Try.prog 53 #[.slice (some ⟨g, 0, none⟩) m c'] wr fun e w' =>
      e = .returned (.tuple #[]) ∧ Own B 3 w' (some ⟨g, 0, none⟩) m c' (ivs .i64 (sortI zs)) ∧ Below B wr w' := by
  have hlen : zs.length = m := hO.lenI
  have hsl : (sortI zs).length = zs.length := (sortI_perm zs).length_eq
  obtain ⟨hl, ⟨h0, -⟩ | ⟨g', cap', cur, hv, hB, hg, hnc, hcm, hcs, ht⟩⟩ := hO
  · cases h0
  · simp only [Value.slice.injEq, Option.some.injEq, Addr.mk.injEq, and_true, true_and] at hv
    obtain ⟨rfl, rfl⟩ := hv
    have hgl : g < wr.heap.size := (Array.getElem?_eq_some_iff.1 hg).1
    have hH : Go.Sort.Holds (Value.int .i64) wr g 0 zs.toArray := holds_of_blockI hg (by rw [hlen]; simpa [ivs] using ht)
    have hcon := AnyM.slices_Sort_int (P := Try.prog) (ρ := sortInt_ren) sortInt g 0 c' zs wr hH hgl (by omega)
    change Calls Try.prog 53 _ _ _ at hcon
    rw [hlen] at hcon
    refine hcon.mono ?_
    rintro e w' ⟨rfl, q, os, rfl⟩
    refine ⟨rfl, ?_, ?_⟩
    · have := ownsRow_sortedI (n := q) (os := os) (ts := sortI zs) hsl hB hg (by omega) hcm hcs
      rw [hlen] at this
      exact this
    · exact Below.ofGrown (v := .slice (some ⟨g, 0, none⟩) m c') (grownBy_sortedI _) (by omega) (fun k hk => by cases hk; exact hB)
theorem sortI_walk (B : Nat) (a : Option Addr) (m c' : Nat) (zs : List Int) (wr : World) (hlt : m ≤ 1048576) (hO : Own B 3 wr a m c' (ivs .i64 zs)) :
    Calls Try.prog 53 #[.slice a m c'] wr fun e w' =>
      e = .returned (.tuple #[]) ∧ Own B 3 w' a m c' (ivs .i64 (sortI zs)) ∧ Below B wr w' := by
  by_cases hm : 0 < m
  · obtain ⟨g, rfl, _⟩ := hO.at hm
    exact sortI_some B g m c' zs wr hlt hO hm
  · obtain rfl : m = 0 := by omega
    have h0 : zs = [] := List.length_eq_zero_iff.1 hO.lenI
    subst h0
    have h := AnyM.slices_Sort_int_none (P := Try.prog) (ρ := sortInt_ren) sortInt a c' wr
    change Calls Try.prog 53 _ _ _ at h
    refine h.mono ?_
    rintro e w' ⟨rfl, rfl⟩
    exact ⟨rfl, by rw [show sortI [] = [] from by simp [sortI]]; exact hO, Below.refl _ _⟩
end Go.Proofs.Ytkcdcgijbaepmaa
