/-
  The walk of awake.
-/
import Derived.Test.YtkcdcgijbaepmaaJ6
set_option linter.unusedVariables false
namespace Go.Proofs.Ytkcdcgijbaepmaa
open Go.RowKit

theorem eql_piece (a b c d : Int) (w : World) : (binOp .eql 45 (.agg #[.int .i64 a, .int .i64 b]) (.agg #[.int .i64 c, .int .i64 d])).run Try.prog w = .ok (.bool (a == c && b == d)) w := by
  rw [run_eql_struct, run_equalIn_agg w 9999 45 _ _ (by kernel_rfl) (by kernel_rfl), eqF_piece w a b c d _ piece_fields]
  rfl
theorem eqg_piece2 (xs ys : Array Value) (x y : Operand) (w : World) : (eqGuard .eql 45 x y (.agg xs) (.agg ys)).run Try.prog w = .ok () w := run_eqGuard_agg w .eql 45 x y xs ys (by kernel_rfl)
theorem pieces_lit (w : World) (rs : List PD) (cs : Array Value) (h : (flatP rs).toArray = cs) : PiecesAt (w.alloc (.cells cs 45)) (some ⟨w.heap.size, 0, none⟩) rs := by
  intro i hi
  subst h
  obtain ⟨h1, h2⟩ := flatP_get rs i hi
  refine ⟨w.heap.size, 0, rfl, ?_, ?_⟩
  · rw [cell_of_row _ w.heap.size _ _ _ (0, 0) (heap_alloc_new w _), Nat.zero_add]; simpa using h1
  · rw [cell_of_row _ w.heap.size _ _ _ (0, 0) (heap_alloc_new w _), Nat.zero_add]; simpa using h2
theorem ints_lit (w : World) (zs : List Int) (cs : Array Value) (h : (ivs .i64 zs).toArray = cs) : Ints .i64 (w.alloc (.cells cs 3)) (some ⟨w.heap.size, 0, none⟩) zs := by
  intro i hi
  subst h
  refine ⟨w.heap.size, 0, rfl, ?_⟩
  rw [cell_of_row _ w.heap.size _ _ _ (0, 0) (heap_alloc_new w _), Nat.zero_add]
  simp [ivs, hi]

theorem two_lit (w : World) (zs : List Int) (rs : List PD) (cs ds : Array Value) (h1 : (ivs .i64 zs).toArray = cs) (h2 : (flatP rs).toArray = ds) :
    Ints .i64 ((w.alloc (.cells cs 3)).alloc (.cells ds 45)) (some ⟨w.heap.size, 0, none⟩) zs ∧ PiecesAt ((w.alloc (.cells cs 3)).alloc (.cells ds 45)) (some ⟨w.heap.size + 1, 0, none⟩) rs ∧
      Below w.heap.size w ((w.alloc (.cells cs 3)).alloc (.cells ds 45)) := by
  have hs : (w.alloc (.cells cs 3)).heap.size = w.heap.size + 1 := by simp
  refine ⟨(ints_lit w zs cs h1).below ((Below.refl _ _).alloc (Nat.le_refl _) _) (Nat.le_refl _), ?_, ((Below.refl _ w).alloc (Nat.le_refl _) _).alloc (by simp) _⟩
  have := pieces_lit (w.alloc (.cells cs 3)) rs ds h2
  rw [hs] at this
  exact this

set_option maxRecDepth 100000 in
set_option maxHeartbeats 4000000 in
theorem awake_walk (w : World) : Calls Try.prog 10 #[] w fun e w' => e = .returned (.bool true) ∧ Below w.heap.size w w' := by
  have HP1 := Lib.hid (pieces_lit w [⟨5, 7⟩, ⟨1, 3⟩, ⟨3, 4⟩] _ rfl)
  have HA1 : Hid (Below w.heap.size w (w.alloc (.cells #[.int .i64 5, .int .i64 7, .int .i64 1, .int .i64 3, .int .i64 3, .int .i64 4] 45))) := Lib.hid ((Below.refl _ w).alloc (Nat.le_refl _) _)
  go_enter Try.func10, Try.ntmps10
  go_wp2_with fail
  refine (Join_walk (some ⟨w.heap.size, 0, none⟩) 3 3 [⟨5, 7⟩, ⟨1, 3⟩, ⟨3, 4⟩] _ rfl (by decide) HP1.out (fun h => by cases h)).mono ?_
  rintro e w1 ⟨a1, m1, c1, rfl, ho, hb⟩
  rw [ks_join] at ho
  obtain rfl : m1 = 2 := by have := ho.len; simpa using this.symm
  obtain ⟨g1, rfl, -, hg1, -, -⟩ := ho.at (by decide)
  have HO1 := Lib.hid ho.pieces
  have HB1 := Lib.hid (below_sq HA1.out hb)
  clear ho hb
  have HT2 := Lib.hid (two_lit w1 ksO [⟨1, 4⟩] #[.int .i64 0, .int .i64 1, .int .i64 4, .int .i64 3, .int .i64 2, .int .i64 5] #[.int .i64 1, .int .i64 4] rfl rfl)
  go_wp2_with fail
  refine (Visual_walk (some ⟨w1.heap.size, 0, none⟩) 6 6 ksO (some ⟨w1.heap.size + 1, 0, none⟩) 1 1 [⟨1, 4⟩] _ rfl (by decide) HT2.out.1 rfl (by decide) HT2.out.2.1 (fun h => by cases h)).mono ?_
  rintro e w2 ⟨a2, m2, c2, rfl, ho, hb⟩
  rw [ks_visL] at ho
  rw [ks_visE]
  obtain rfl : m2 = 2 := by have := ho.len; simpa using this.symm
  obtain ⟨g2, rfl, -, hg2, -, -⟩ := ho.at (by decide)
  have hb2 := below_sq HT2.out.2.2 hb
  have HO2 := Lib.hid ho.pieces
  have HB2 := Lib.hid (below_sq HB1.out hb2)
  have HO12 := Lib.hid (HO1.out.below hb2 (Nat.le_refl _))
  clear ho hb hb2 HT2
  have HT3 := Lib.hid (two_lit w2 ksO [⟨1, 3⟩] #[.int .i64 0, .int .i64 1, .int .i64 4, .int .i64 3, .int .i64 2, .int .i64 5] #[.int .i64 1, .int .i64 3] rfl rfl)
  go_wp2_with fail
  refine (Logical_walk (some ⟨w2.heap.size, 0, none⟩) 6 6 ksO (some ⟨w2.heap.size + 1, 0, none⟩) 1 1 [⟨1, 3⟩] _ rfl (by decide) HT3.out.1 rfl (by decide) HT3.out.2.1 (fun h => by cases h)).mono ?_
  rintro e w3 ⟨a3, m3, c3, rfl, ho, hb⟩
  rw [ks_logRL] at ho
  rw [ks_logE]
  obtain rfl : m3 = 2 := by have := ho.len; simpa using this.symm
  obtain ⟨g3, rfl, -, hg3, -, -⟩ := ho.at (by decide)
  have hb2 := below_sq HT3.out.2.2 hb
  have HO3 := Lib.hid ho.pieces
  have HB3 := Lib.hid (below_sq HB2.out hb2)
  have HO13 := Lib.hid (HO12.out.below hb2 (Nat.le_refl _))
  have HO23 := Lib.hid (HO2.out.below hb2 (Nat.le_refl _))
  clear ho hb hb2 HT3 HO1 HO2 HO12
  have HT4 := Lib.hid (pieces_lit w3 [⟨1, 3⟩] #[.int .i64 1, .int .i64 3] rfl)
  have HA4 : Hid (Below w3.heap.size w3 (w3.alloc (.cells #[.int .i64 1, .int .i64 3] 45))) := Lib.hid ((Below.refl _ _).alloc (Nat.le_refl _) _)
  go_wp2_with fail
  refine (Text_walk ksS (some ⟨w3.heap.size, 0, none⟩) 1 1 [⟨1, 3⟩] _ (by decide) rfl (by decide) HT4.out (fun h => by cases h)).mono ?_
  rintro e w4 ⟨rfl, hb⟩
  rw [ks_txtS, ks_txtE]
  have hb2 := below_sq HA4.out hb
  have HB4 := Lib.hid (below_sq HB3.out hb2)
  have HO14 := Lib.hid (HO13.out.below hb2 (Nat.le_refl _))
  have HO24 := Lib.hid (HO23.out.below hb2 (Nat.le_refl _))
  have HO34 := Lib.hid (HO3.out.below hb2 (Nat.le_refl _))
  clear hb hb2 HT4 HA4 HO13 HO23 HO3
  have HT5 := Lib.hid (ints_lit w4 [0, 0] #[.int .i64 0, .int .i64 0] rfl)
  have HA5 : Hid (Below w4.heap.size w4 (w4.alloc (.cells #[.int .i64 0, .int .i64 0] 3))) := Lib.hid ((Below.refl _ _).alloc (Nat.le_refl _) _)
  go_wp2_with fail
  refine (Visual_walk (some ⟨w4.heap.size, 0, none⟩) 2 2 [0, 0] none 0 0 [] _ rfl (by decide) HT5.out rfl (by decide) (PiecesAt.nil _ _) (fun _ => rfl)).mono ?_
  rintro e w5 ⟨a5, m5, c5, rfl, -, hb⟩
  rw [ks_two]
  have hb2 := below_sq HA5.out hb
  have HB5 := Lib.hid (below_sq HB4.out hb2)
  obtain ⟨p0, p1⟩ := (HO14.out.below hb2 (Nat.le_refl _)).get 0 (by decide)
  obtain ⟨q0, q1⟩ := (HO24.out.below hb2 (Nat.le_refl _)).get 1 (by decide)
  obtain ⟨r0, r1⟩ := (HO34.out.below hb2 (Nat.le_refl _)).get 1 (by decide)
  simp at p0 p1 q0 q1 r0 r1
  clear hb hb2 HT5 HA5 HO14 HO24 HO34
  have e1 := eql_piece
  have e2 := eqg_piece2
  go_wp2
  go_ret
  exact ⟨rfl, HB5.out⟩
end Go.Proofs.Ytkcdcgijbaepmaa
