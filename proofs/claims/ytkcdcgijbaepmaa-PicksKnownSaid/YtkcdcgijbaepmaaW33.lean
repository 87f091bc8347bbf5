/-
  The walk of PicksKnown.
-/
import Derived.Test.YtkcdcgijbaepmaaJ8
set_option linter.unusedVariables false
namespace Go.Proofs.Ytkcdcgijbaepmaa
open Go.RowKit

/-- two lists of pieces, one behind the other -/
theorem pp_lit (w : World) (qs rs : List PD) (cs ds : Array Value) (h1 : (flatP qs).toArray = cs) (h2 : (flatP rs).toArray = ds) :
    PiecesAt ((w.alloc (.cells cs 45)).alloc (.cells ds 45)) (some ⟨w.heap.size, 0, none⟩) qs ∧ PiecesAt ((w.alloc (.cells cs 45)).alloc (.cells ds 45)) (some ⟨w.heap.size + 1, 0, none⟩) rs ∧
      Below w.heap.size w ((w.alloc (.cells cs 45)).alloc (.cells ds 45)) := by
  have hs : (w.alloc (.cells cs 45)).heap.size = w.heap.size + 1 := by simp
  refine ⟨(pieces_lit w qs cs h1).below ((Below.refl _ _).alloc (Nat.le_refl _) _) (Nat.le_refl _), ?_, ((Below.refl _ w).alloc (Nat.le_refl _) _).alloc (by simp) _⟩
  have := pieces_lit (w.alloc (.cells cs 45)) rs ds h2
  rw [hs] at this
  exact this
/-- two lists of numbers, one behind the other -/
theorem ii_lit (w : World) (qs rs : List Int) (cs ds : Array Value) (h1 : (ivs .i64 qs).toArray = cs) (h2 : (ivs .i64 rs).toArray = ds) :
    Ints .i64 ((w.alloc (.cells cs 3)).alloc (.cells ds 3)) (some ⟨w.heap.size, 0, none⟩) qs ∧ Ints .i64 ((w.alloc (.cells cs 3)).alloc (.cells ds 3)) (some ⟨w.heap.size + 1, 0, none⟩) rs ∧
      Below w.heap.size w ((w.alloc (.cells cs 3)).alloc (.cells ds 3)) := by
  have hs : (w.alloc (.cells cs 3)).heap.size = w.heap.size + 1 := by simp
  refine ⟨(ints_lit w qs cs h1).below ((Below.refl _ _).alloc (Nat.le_refl _) _) (Nat.le_refl _), ?_, ((Below.refl _ w).alloc (Nat.le_refl _) _).alloc (by simp) _⟩
  have := ints_lit (w.alloc (.cells cs 3)) rs ds h2
  rw [hs] at this
  exact this
theorem iip_lit (w : World) (qs rs : List Int) (ps : List PD) (cs ds es : Array Value) (h1 : (ivs .i64 qs).toArray = cs) (h2 : (ivs .i64 rs).toArray = ds) (h3 : (flatP ps).toArray = es) :
    Ints .i64 (((w.alloc (.cells cs 3)).alloc (.cells ds 3)).alloc (.cells es 45)) (some ⟨w.heap.size, 0, none⟩) qs ∧ Ints .i64 (((w.alloc (.cells cs 3)).alloc (.cells ds 3)).alloc (.cells es 45)) (some ⟨w.heap.size + 1, 0, none⟩) rs ∧
      PiecesAt (((w.alloc (.cells cs 3)).alloc (.cells ds 3)).alloc (.cells es 45)) (some ⟨w.heap.size + 1 + 1, 0, none⟩) ps ∧ Below w.heap.size w (((w.alloc (.cells cs 3)).alloc (.cells ds 3)).alloc (.cells es 45)) := by
  obtain ⟨a, b, c⟩ := ii_lit w qs rs cs ds h1 h2
  have hs : ((w.alloc (.cells cs 3)).alloc (.cells ds 3)).heap.size = w.heap.size + 1 + 1 := by simp
  have hb := (Below.refl ((w.alloc (.cells cs 3)).alloc (.cells ds 3)).heap.size ((w.alloc (.cells cs 3)).alloc (.cells ds 3))).alloc (Nat.le_refl _) (.cells es 45)
  refine ⟨a.below hb (Nat.le_refl _), b.below hb (Nat.le_refl _), ?_, below_sq c hb⟩
  have := pieces_lit ((w.alloc (.cells cs 3)).alloc (.cells ds 3)) ps es h3
  rw [hs] at this
  exact this

set_option maxRecDepth 100000 in
set_option maxHeartbeats 8000000 in
theorem picksKnown_walk (w : World) : Calls Try.prog 9 #[] w fun e w' => e = .returned (.bool true) ∧ Below w.heap.size w w' := by
  have HT1 := Lib.hid (pp_lit w [⟨0, 5⟩] [⟨3, 8⟩] #[.int .i64 0, .int .i64 5] #[.int .i64 3, .int .i64 8] rfl rfl)
  go_enter Try.func9, Try.ntmps9
  go_wp2_with fail
  refine (Turn_walk (some ⟨w.heap.size, 0, none⟩) 1 1 [⟨0, 5⟩] (some ⟨w.heap.size + 1, 0, none⟩) 1 1 [⟨3, 8⟩] _ rfl (by decide) HT1.out.1 (fun h => by cases h) rfl (by decide) HT1.out.2.1 (fun h => by cases h)).mono ?_
  rintro e w1 ⟨a1, m1, c1, rfl, ho, hb⟩
  rw [kn_turn] at ho
  obtain rfl : m1 = 2 := by have := ho.len; simpa using this.symm
  have HO1 := Lib.hid ho.pieces
  have HB1 := Lib.hid (below_sq HT1.out.2.2 hb)
  clear ho hb HT1
  have HT2 := Lib.hid (two_lit w1 knO [⟨0, 2⟩] #[.int .i64 0, .int .i64 2, .int .i64 4] #[.int .i64 0, .int .i64 2] rfl rfl)
  go_wp2_with fail
  refine (Logical_walk (some ⟨w1.heap.size, 0, none⟩) 3 3 knO (some ⟨w1.heap.size + 1, 0, none⟩) 1 1 [⟨0, 2⟩] _ rfl (by decide) HT2.out.1 rfl (by decide) HT2.out.2.1 (fun h => by cases h)).mono ?_
  rintro e w2 ⟨a2, m2, c2, rfl, ho, hb⟩
  rw [kn_logRL] at ho
  rw [kn_logE]
  obtain rfl : m2 = 1 := by have := ho.len; simpa using this.symm
  have hb2 := below_sq HT2.out.2.2 hb
  have HO2 := Lib.hid ho.pieces
  have HB2 := Lib.hid (below_sq HB1.out hb2)
  have HO12 := Lib.hid (HO1.out.below hb2 (Nat.le_refl _))
  clear ho hb hb2 HT2 HO1
  have HT3 := Lib.hid (iip_lit w2 [1, 0] [10, 20] [⟨0, 1⟩] #[.int .i64 1, .int .i64 0] #[.int .i64 10, .int .i64 20] #[.int .i64 0, .int .i64 1] rfl rfl rfl)
  go_wp2_with fail
  refine (Columns_walk (some ⟨w2.heap.size, 0, none⟩) 2 2 [1, 0] (some ⟨w2.heap.size + 1, 0, none⟩) 2 2 [10, 20] (some ⟨w2.heap.size + 1 + 1, 0, none⟩) 1 1 [⟨0, 1⟩] _ rfl (by decide) HT3.out.1 rfl (by decide) HT3.out.2.1 rfl (by decide) HT3.out.2.2.1 (fun h => by cases h)).mono ?_
  rintro e w3 ⟨a3, m3, c3, rfl, ho, hb⟩
  rw [kn_colL] at ho
  rw [kn_colE]
  obtain rfl : m3 = 1 := by have := ho.len; simpa using this.symm
  have hb2 := below_sq HT3.out.2.2.2 hb
  have HO3 := Lib.hid ho.pieces
  have HB3 := Lib.hid (below_sq HB2.out hb2)
  have HO13 := Lib.hid (HO12.out.below hb2 (Nat.le_refl _))
  have HO23 := Lib.hid (HO2.out.below hb2 (Nat.le_refl _))
  clear ho hb hb2 HT3 HO2 HO12
  have HT4 := Lib.hid (two_lit w3 [0] [⟨-1, 1⟩] #[.int .i64 0] #[.int .i64 (-1), .int .i64 1] rfl rfl)
  go_wp2_with fail
  refine (Visual_walk (some ⟨w3.heap.size, 0, none⟩) 1 1 [0] (some ⟨w3.heap.size + 1, 0, none⟩) 1 1 [⟨-1, 1⟩] _ rfl (by decide) HT4.out.1 rfl (by decide) HT4.out.2.1 (fun h => by cases h)).mono ?_
  rintro e w4 ⟨a4, m4, c4, rfl, ho, hb⟩
  rw [kn_visE]
  have hb2 := below_sq HT4.out.2.2 hb
  have HB4 := Lib.hid (below_sq HB3.out hb2)
  have HO14 := Lib.hid (HO13.out.below hb2 (Nat.le_refl _))
  have HO24 := Lib.hid (HO23.out.below hb2 (Nat.le_refl _))
  have HO34 := Lib.hid (HO3.out.below hb2 (Nat.le_refl _))
  clear ho hb hb2 HT4 HO3 HO13 HO23
  have HT5 := Lib.hid (two_lit w4 [0] [⟨0, 2⟩] #[.int .i64 0] #[.int .i64 0, .int .i64 2] rfl rfl)
  go_wp2_with fail
  refine (Logical_walk (some ⟨w4.heap.size, 0, none⟩) 1 1 [0] (some ⟨w4.heap.size + 1, 0, none⟩) 1 1 [⟨0, 2⟩] _ rfl (by decide) HT5.out.1 rfl (by decide) HT5.out.2.1 (fun h => by cases h)).mono ?_
  rintro e w5 ⟨a5, m5, c5, rfl, ho, hb⟩
  rw [kn_logE2]
  have hb2 := below_sq HT5.out.2.2 hb
  have HB5 := Lib.hid (below_sq HB4.out hb2)
  have HO15 := Lib.hid (HO14.out.below hb2 (Nat.le_refl _))
  have HO25 := Lib.hid (HO24.out.below hb2 (Nat.le_refl _))
  have HO35 := Lib.hid (HO34.out.below hb2 (Nat.le_refl _))
  clear ho hb hb2 HT5 HO14 HO24 HO34
  have HT6 := Lib.hid (pieces_lit w5 [⟨0, 2⟩] #[.int .i64 0, .int .i64 2] rfl)
  have HA6 : Hid (Below w5.heap.size w5 (w5.alloc (.cells #[.int .i64 0, .int .i64 2] 45))) := Lib.hid ((Below.refl _ _).alloc (Nat.le_refl _) _)
  go_wp2_with fail
  refine (Text_walk knS (some ⟨w5.heap.size, 0, none⟩) 1 1 [⟨0, 2⟩] _ (by decide) rfl (by decide) HT6.out (fun h => by cases h)).mono ?_
  rintro e w6 ⟨rfl, hb⟩
  rw [kn_txtE]
  generalize txtS knS [⟨0, 2⟩] = tx
  have hb2 := below_sq HA6.out hb
  have HB6 := Lib.hid (below_sq HB5.out hb2)
  have HO16 := Lib.hid (HO15.out.below hb2 (Nat.le_refl _))
  have HO26 := Lib.hid (HO25.out.below hb2 (Nat.le_refl _))
  have HO36 := Lib.hid (HO35.out.below hb2 (Nat.le_refl _))
  clear hb hb2 HT6 HA6 HO15 HO25 HO35
  have HT7 := Lib.hid (ii_lit w6 [1] [1] #[.int .i64 1] #[.int .i64 1] rfl rfl)
  go_wp2_with fail
  refine (Columns_walk (some ⟨w6.heap.size, 0, none⟩) 1 1 [1] (some ⟨w6.heap.size + 1, 0, none⟩) 1 1 [1] none 0 0 [] _ rfl (by decide) HT7.out.1 rfl (by decide) HT7.out.2.1 rfl (by decide) (PiecesAt.nil _ _) (fun _ => rfl)).mono ?_
  rintro e w7 ⟨a7, m7, c7, rfl, ho, hb⟩
  rw [kn_colE2]
  have hb2 := below_sq HT7.out.2.2 hb
  have HB7 := Lib.hid (below_sq HB6.out hb2)
  have HO17 := Lib.hid (HO16.out.below hb2 (Nat.le_refl _))
  have HO27 := Lib.hid (HO26.out.below hb2 (Nat.le_refl _))
  have HO37 := Lib.hid (HO36.out.below hb2 (Nat.le_refl _))
  clear ho hb hb2 HT7 HO16 HO26 HO36
  have HT8 := Lib.hid (pieces_lit w7 [⟨0, 3⟩, ⟨5, 8⟩] #[.int .i64 0, .int .i64 3, .int .i64 5, .int .i64 8] rfl)
  have HA8 : Hid (Below w7.heap.size w7 (w7.alloc (.cells #[.int .i64 0, .int .i64 3, .int .i64 5, .int .i64 8] 45))) := Lib.hid ((Below.refl _ _).alloc (Nat.le_refl _) _)
  go_wp2_with fail
  refine (same_walk a1 2 c1 [⟨0, 3⟩, ⟨5, 8⟩] (some ⟨w7.heap.size, 0, none⟩) 2 2 [⟨0, 3⟩, ⟨5, 8⟩] _ rfl rfl (by decide) (HO17.out.below HA8.out (Nat.le_refl _)) HT8.out).mono ?_
  rintro e w8 ⟨rfl, hb⟩
  rw [decide_eq_true rfl]
  have hb2 := below_sq HA8.out hb
  have HB8 := Lib.hid (below_sq HB7.out hb2)
  have HO28 := Lib.hid (HO27.out.below hb2 (Nat.le_refl _))
  have HO38 := Lib.hid (HO37.out.below hb2 (Nat.le_refl _))
  clear hb hb2 HT8 HA8 HO17 HO27 HO37
  have HT9 := Lib.hid (pieces_lit w8 [⟨0, 3⟩] #[.int .i64 0, .int .i64 3] rfl)
  have HA9 : Hid (Below w8.heap.size w8 (w8.alloc (.cells #[.int .i64 0, .int .i64 3] 45))) := Lib.hid ((Below.refl _ _).alloc (Nat.le_refl _) _)
  go_wp2_with fail
  refine (same_walk a2 1 c2 [⟨0, 3⟩] (some ⟨w8.heap.size, 0, none⟩) 1 1 [⟨0, 3⟩] _ rfl rfl (by decide) (HO28.out.below HA9.out (Nat.le_refl _)) HT9.out).mono ?_
  rintro e w9 ⟨rfl, hb⟩
  rw [decide_eq_true rfl]
  have hb2 := below_sq HA9.out hb
  have HB9 := Lib.hid (below_sq HB8.out hb2)
  have HO39 := Lib.hid (HO38.out.below hb2 (Nat.le_refl _))
  clear hb hb2 HT9 HA9 HO28 HO38
  have HT10 := Lib.hid (pieces_lit w9 [⟨20, 30⟩] #[.int .i64 20, .int .i64 30] rfl)
  have HA10 : Hid (Below w9.heap.size w9 (w9.alloc (.cells #[.int .i64 20, .int .i64 30] 45))) := Lib.hid ((Below.refl _ _).alloc (Nat.le_refl _) _)
  go_wp2_with fail
  refine (same_walk a3 1 c3 [⟨20, 30⟩] (some ⟨w9.heap.size, 0, none⟩) 1 1 [⟨20, 30⟩] _ rfl rfl (by decide) (HO39.out.below HA10.out (Nat.le_refl _)) HT10.out).mono ?_
  rintro e w10 ⟨rfl, hb⟩
  rw [decide_eq_true rfl]
  have HB10 := Lib.hid (below_sq HB9.out (below_sq HA10.out hb))
  clear hb HT10 HA10 HO39
  go_wp2_with fail
  refine (awake_walk w10).mono ?_
  rintro e w11 ⟨rfl, hb⟩
  have HB11 := Lib.hid (below_sq HB10.out hb); clear hb
  go_wp2
  go_ret
  exact ⟨rfl, HB11.out⟩
end Go.Proofs.Ytkcdcgijbaepmaa
