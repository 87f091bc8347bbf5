/-
  The walks of a stretch of a text's places.
-/
import Derived.Test.YtmcjlkpogcnniaaU2
set_option linter.unusedVariables false
namespace Go.Proofs.Ytmcjlkpogcnniaa
open Go.RowKit

theorem PlacesAt.next {s : ByteArray} {g : Nat} {a : Option Addr} {c : Nat} {ar : Option Addr} {cr : Nat} {w w' : World} (h : PlacesAt s g a c ar cr w) (hb : Below w.heap.size w w') : PlacesAt s g a c ar cr w' :=
  ⟨by rw [hb.block g (Array.getElem?_eq_some_iff.1 h.blk).1]; exact h.blk, h.ats.below hb (Nat.le_refl _)⟩
theorem PlacesAt.cells {s : ByteArray} {g : Nat} {a : Option Addr} {c : Nat} {ar : Option Addr} {cr : Nat} {w : World} (h : PlacesAt s g a c ar cr w) :
    w.cell? ⟨g, 0, none⟩ = some (.string s) ∧ w.cell? ⟨g, 1, none⟩ = some (.slice a (atsL s).length c) ∧ w.cell? ⟨g, 2, none⟩ = some (.slice ar (runesL s).length cr) := by
  have c0 := cell_of_row w g 0 _ _ (0, 0) h.blk
  have c1 := cell_of_row w g 1 _ _ (0, 0) h.blk
  have c2 := cell_of_row w g 2 _ _ (0, 0) h.blk
  exact ⟨by simpa using c0, by simpa using c1, by simpa using c2⟩
theorem PlacesAt.some {s : ByteArray} {g : Nat} {a : Option Addr} {c : Nat} {ar : Option Addr} {cr : Nat} {w : World} (h : PlacesAt s g a c ar cr w) : ∃ b o, a = Option.some ⟨b, o, none⟩ :=
  h.ats.some (by rw [natsI_length, atsL_length]; omega)

theorem Pnone_walk (s : ByteArray) (g : Nat) (a : Option Addr) (c : Nat) (ar : Option Addr) (cr : Nat) (w : World) (h : PlacesAt s g a c ar cr w) :
    Calls Try.prog 51 #[.pointer (some ⟨g, 0, none⟩)] w fun e w' => e = .returned (.bool false) ∧ w = w' := by
  obtain ⟨b, o, rfl⟩ := h.some
  obtain ⟨c0, c1, c2⟩ := h.cells
  clear h
  have qT := fun w => Lib.run_eql_slice_nil (P := Try.prog) w 48 3 (some ⟨b, o, none⟩) (atsL s).length c 0 0 Try.underlying48
  go_enter Try.func51, Try.ntmps51
  go_wp2
  go_ret
  exact ⟨rfl, rfl⟩

set_option maxHeartbeats 2000000 in
theorem PSlice_walk (s : ByteArray) (g : Nat) (a : Option Addr) (c : Nat) (ar : Option Addr) (cr f t : Nat) (w : World) (h : PlacesAt s g a c ar cr w) (hft : f ≤ t) (ht : t ≤ (runesL s).length) (hs : s.size ≤ 4194304) :
    Calls Try.prog 49 #[.pointer (some ⟨g, 0, none⟩), .int .i64 f, .int .i64 t] w fun e w' => e = .returned (.tuple #[.string (subS s (f, t)), .int .i64 0]) ∧ Below w.heap.size w w' := by
  have HP := Lib.hid h; clear h
  obtain ⟨b, o, rfl⟩ := HP.out.some
  obtain ⟨c0, c1, c2⟩ := HP.out.cells
  have hl := atsL_length s
  have hfl : f < (atsL s).length := by omega
  have htl : t < (atsL s).length := by omega
  have k1 := HP.out.ats.get f (by rw [natsI_length]; exact hfl)
  have k2 := HP.out.ats.get t (by rw [natsI_length]; exact htl)
  rw [show (natsI (atsL s))[f]'(by rw [natsI_length]; exact hfl) = ((atsL s).getD f 0 : Nat) by simp [natsI, hfl]] at k1
  rw [show (natsI (atsL s))[t]'(by rw [natsI_length]; exact htl) = ((atsL s).getD t 0 : Nat) by simp [natsI, htl]] at k2
  have m1 := atsL_mono s f t hft htl
  have m2 := atsL_getD_le s t htl
  have HR := Lib.hid (show subS s (f, t) = s.extract ((atsL s).getD f 0) ((atsL s).getD t 0) from rfl)
  generalize (atsL s).getD f 0 = x at *
  generalize (atsL s).getD t 0 = y at *
  generalize (atsL s).length = m at *
  generalize (runesL s).length = q at *
  have n1 : ¬ ((f : Int) < 0) := by omega
  have n2 : ¬ ((t : Int) < (f : Int)) := by omega
  have n3 : ¬ ((q : Int) < (t : Int)) := by omega
  have i1 : (f : Int) < (m : Int) := by omega
  have i2 : (t : Int) < (m : Int) := by omega
  have i3 : (x : Int) ≤ (y : Int) := by omega
  have i4 : (y : Int) ≤ (s.size : Int) := by omega
  go_enter Try.func49, Try.ntmps49
  go_wp2_with fail
  refine (Pnone_walk s g (some ⟨b, o, none⟩) c ar cr w HP.out).mono ?_
  rintro e w' ⟨rfl, rfl⟩
  go_wp2
  go_quiet (fail)
  go_wp2
  go_ret2
  exact ⟨by rw [HR.out]; rfl, below_drewN (Below.refl _ _) _⟩
end Go.Proofs.Ytmcjlkpogcnniaa
