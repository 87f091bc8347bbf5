/-
  The walk of PicksText.
-/
import Derived.Test.YtkcdcgijbaepmaaW25
set_option linter.unusedVariables false
namespace Go.Proofs.Ytkcdcgijbaepmaa
open Go.RowKit

theorem marks_get (ps : List PD) : (ps ++ marks).take ps.length = ps := by simp
theorem PiecesAt.front {w : World} {a : Option Addr} {ps qs : List PD} (h : PiecesAt w a (ps ++ qs)) : PiecesAt w a ps := fun i hi => by
  have := h i (by rw [List.length_append]; omega)
  rwa [List.getElem_append_left hi] at this

set_option maxRecDepth 100000 in
set_option maxHeartbeats 4000000 in
theorem picksText_walk (s : ByteArray) (a : Option Addr) (n c : Nat) (ps : List PD) (w : World) (hs : s.size ≤ 1048576) (hn : ps.length = n) (hm : n ≤ 1048576) (hc : PiecesAt w a ps) (hnone : a = none → c = 0) :
    Calls Try.prog 3 #[.string s, .slice a n c] w fun e w' => e = .returned (.bool true) ∧ Below w.heap.size w w' := by
  have HN := Lib.hid hn; clear hn
  have HC := Lib.hid hc; clear hc
  have HZ := Lib.hid hnone; clear hnone
  by_cases h6 : 600 < n
  · have h6i : (600 : Int) < (n : Int) := by omega
    go_enter Try.func3, Try.ntmps3
    go_wp2_with fail
    refine (awake_walk _).mono ?_
    rintro e w1 ⟨rfl, hb⟩
    have HB := Lib.hid hb; clear hb
    go_wp2
    go_ret
    exact ⟨rfl, HB.out⟩
  · have h6i : ¬ (600 : Int) < (n : Int) := by omega
    go_enter Try.func3, Try.ntmps3
    go_wp2_with fail
    refine (lent_walk a n c ps w HN.out (by omega) HC.out HZ.out).mono ?_
    rintro e w1 ⟨g, c1, rfl, ho, hb⟩
    have HO1 := Lib.hid ho.pieces
    have hcap : n + 2 ≤ c1 := by obtain ⟨g', e, h1, h2, h3, h4⟩ := ho.at (by omega); exact h3
    have HB1 := Lib.hid hb; clear ho hb
    go_wp2_with fail
    refine (Text_walk s (some ⟨g, 0, none⟩) n c1 ps w1 hs HN.out (by omega) HO1.out.front (fun h => by cases h)).mono ?_
    rintro e w2 ⟨rfl, hb⟩
    have HB2 := Lib.hid (below_sq HB1.out hb)
    have HO2 := Lib.hid (HO1.out.below hb (Nat.le_refl _))
    clear hb HO1
    go_wp2_with fail
    refine (rText_walk s a n c ps w2 hs HN.out (by omega) (HC.out.below HB2.out (Nat.le_refl _))).mono ?_
    rintro e w3 ⟨rfl, hb⟩
    have HB3 := Lib.hid (below_sq HB2.out hb)
    have HO3 := Lib.hid (HO2.out.below hb (Nat.le_refl _))
    clear hb HO2
    generalize txtS s ps = t at *
    generalize txtE s ps = ec at *
    have b1 : (t == t) = true := (MapKept.bytes_beq t t).2 rfl
    have b2 : (ec == ec) = true := by simp
    go_wp2_with fail
    refine (kept_walk g c1 a n c ps w3 HN.out (by omega) hcap HO3.out (HC.out.below HB3.out (Nat.le_refl _))).mono ?_
    rintro e w4 ⟨rfl, hb⟩
    have HB4 := Lib.hid (below_sq HB3.out hb)
    clear hb HO3
    go_wp2_with fail
    refine (awake_walk _).mono ?_
    rintro e w5 ⟨rfl, hb⟩
    have HB5 := Lib.hid (below_sq HB4.out hb); clear hb
    go_wp2
    go_ret
    exact ⟨rfl, HB5.out⟩
end Go.Proofs.Ytkcdcgijbaepmaa
