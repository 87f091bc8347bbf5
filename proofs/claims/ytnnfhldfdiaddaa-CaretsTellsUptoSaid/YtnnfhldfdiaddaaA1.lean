/-
  The walk of CaretsAcross.
-/
import Derived.Test.YtnnfhldfdiaddaaL8
set_option linter.unusedVariables false
namespace Go.Proofs.Ytnnfhldfdiaddaa
open Go.RowKit

/-- the statement's own copy of its argument -/
structure InBox (b : Nat) (w : World) (base : Int) (a : Option Addr) (n cap : Nat) (a1 : Option Addr) (n1 cap1 : Nat) (a2 : Option Addr) (n2 cap2 : Nat) : Prop where
  blk : w.heap[b]? = some (.cells #[.int .i8 base, .slice a n cap, .slice a1 n1 cap1, .slice a2 n2 cap2] 28 (0, 0))
section
variable {b : Nat} {w : World} {base : Int} {a : Option Addr} {n cap : Nat} {a1 : Option Addr} {n1 cap1 : Nat} {a2 : Option Addr} {n2 cap2 : Nat}
theorem InBox.lt (h : InBox b w base a n cap a1 n1 cap1 a2 n2 cap2) : b < w.heap.size := (Array.getElem?_eq_some_iff.1 h.blk).1
theorem InBox.below {w' : World} {B : Nat} (h : InBox b w base a n cap a1 n1 cap1 a2 n2 cap2) (hb : Below B w w') (hB : w.heap.size ≤ B) : InBox b w' base a n cap a1 n1 cap1 a2 n2 cap2 :=
  ⟨by rw [hb.block b (by have := h.lt; omega)]; exact h.blk⟩
theorem InBox.r0 (h : InBox b w base a n cap a1 n1 cap1 a2 n2 cap2) : w.cell? ⟨b, 0, none⟩ = some (.int .i8 base) := by
  have := cell_of_row w b 0 _ _ (0, 0) h.blk; simpa using this
theorem InBox.r1 (h : InBox b w base a n cap a1 n1 cap1 a2 n2 cap2) : w.cell? ⟨b, 1, none⟩ = some (.slice a n cap) := by
  have := cell_of_row w b 1 _ _ (0, 0) h.blk; simpa using this
theorem InBox.r2 (h : InBox b w base a n cap a1 n1 cap1 a2 n2 cap2) : w.cell? ⟨b, 2, none⟩ = some (.slice a1 n1 cap1) := by
  have := cell_of_row w b 2 _ _ (0, 0) h.blk; simpa using this
theorem InBox.r3 (h : InBox b w base a n cap a1 n1 cap1 a2 n2 cap2) : w.cell? ⟨b, 3, none⟩ = some (.slice a2 n2 cap2) := by
  have := cell_of_row w b 3 _ _ (0, 0) h.blk; simpa using this
theorem InBox.new (w : World) (base : Int) (a : Option Addr) (n cap : Nat) (a1 : Option Addr) (n1 cap1 : Nat) (a2 : Option Addr) (n2 cap2 : Nat) :
    InBox w.heap.size (w.alloc (.cells #[.int .i8 base, .slice a n cap, .slice a1 n1 cap1, .slice a2 n2 cap2] 28)) base a n cap a1 n1 cap1 a2 n2 cap2 := ⟨heap_alloc_new w _⟩
end

def AcrossR (m : Nat) (w4 : World) (v k : Value) (wr : World) : Prop := ∃ i : Nat, i ≤ m ∧ k = .int .i64 i ∧ v = .int .i64 i ∧ Below w4.heap.size w4 wr

set_option maxRecDepth 100000 in
set_option maxHeartbeats 2000000 in
theorem across_walk (w : World) (base : Int) (a : Option Addr) (n cap : Nat) (a1 : Option Addr) (n1 cap1 : Nat) (a2 : Option Addr) (n2 cap2 : Nat) (lv ws : List Int) (h : InOk w base a n cap a1 n1 cap1 lv ws) :
    Calls Try.prog 8 #[.agg #[.int .i8 base, .slice a n cap, .slice a1 n1 cap1, .slice a2 n2 cap2]] w fun e w' => e = .returned (.bool true) ∧ Below w.heap.size w w' := by
  have hw0 : Below w.heap.size w (w.alloc (.cells #[.int .i8 base, .slice a n cap, .slice a1 n1 cap1, .slice a2 n2 cap2] 28)) := (Below.refl _ w).alloc (Nat.le_refl _) _
  have HW0 := Lib.hid hw0; clear hw0
  have HH := Lib.hid (h.below HW0.out (Nat.le_refl _)); clear h
  have HB0 := Lib.hid (InBox.new w base a n cap a1 n1 cap1 a2 n2 cap2)
  go_enter Try.func8, Try.ntmps8
  go_wp2_with fail
  refine (of_walk _ base a n cap a1 n1 cap1 a2 n2 cap2 lv ws HH.out).mono ?_
  rintro e w1 (⟨rfl, hb⟩ | ⟨g, hL, hn3, rfl, hline, hg, hb⟩)
  · have HB1 := Lib.hid (below_seq HW0.out hb); clear hb
    go_wp2_with fail
    refine (lives_walk _).mono ?_
    rintro e w2 ⟨rfl, hb2⟩
    go_wp2
    go_ret
    exact ⟨rfl, below_seq HB1.out hb2⟩
  · have HLO := Lib.hid hL; clear hL
    have HBX := Lib.hid (HB0.out.below hb (Nat.le_refl _))
    have HI1 := Lib.hid (HH.out.below hb (Nat.le_refl _))
    have HB1 := Lib.hid (below_seq HW0.out hb); clear hb hg
    have HL1 := Lib.hid hline; clear hline
    go_wp2_with fail
    refine (lives_walk _).mono ?_
    rintro e w2 ⟨rfl, hb2⟩
    have HBX2 := Lib.hid (HBX.out.below hb2 (Nat.le_refl _))
    have HI2 := Lib.hid (HI1.out.below hb2 (Nat.le_refl _))
    have HL2 := Lib.hid (HL1.out.below hb2 (Nat.le_refl _))
    have HB2 := Lib.hid (below_seq HB1.out hb2); clear hb2
    clear HB0 HBX HI1 HL1 HB1
    have r1 := HBX2.out.r1
    have hnn3 : n ≤ 3000 := by rw [← HI2.out.hl]; exact hn3
    have hbx := HBX2.out.lt
    clear hn3
    go_wp2_with fail
    refine (Order_walk a n cap lv _ HI2.out.hl (by omega) HLO.out.ok HI2.out.il).mono ?_
    rintro e w3 ⟨a3, m, cap3, rfl, hown3, hb3⟩
    have hm := Lib.hid hown3.lenI
    have hmn : m ≤ n := by have := hown3.lenI; have := ord_le lv; have := HI2.out.hl; omega
    have HO3 := Lib.hid hown3; clear hown3
    have HBX3 := Lib.hid (HBX2.out.below hb3 (Nat.le_refl _))
    have HI3 := Lib.hid (HI2.out.below hb3 (Nat.le_refl _))
    have HL3 := Lib.hid (HL2.out.below hb3 (Nat.le_refl _))
    have HB3 := Lib.hid (below_seq HB2.out hb3); clear hb3
    clear r1 HBX2 HI2 HL2 HB2
    have r1 := HBX3.out.r1
    have r2 := HBX3.out.r2
    have hmm : ((m : Int) != (m : Int)) = false := by simp
    have hnn : ((n : Int) != (n : Int)) = false := by simp
    have HSh : Hid (∀ d, Calls Try.prog 13 #[.pointer (some ⟨g, 0, none⟩)] (w3.drewN d) fun e w' => e = .returned (.int .i64 (m : Nat)) ∧ w' = w3.drewN d) := Lib.hid (fun d => by
      have := Shown_walk g base lv ws (w3.drewN d) (HL3.out.below (below_drewN (Below.refl w3.heap.size w3) d) (Nat.le_refl _))
      rw [hm.out] at this
      exact this.mono (fun e w' h => ⟨h.1, h.2.symm⟩))
    have HLe : Hid (∀ d, Calls Try.prog 16 #[.pointer (some ⟨g, 0, none⟩)] (w3.drewN d) fun e w' => e = .returned (.int .i64 (n : Nat)) ∧ w' = w3.drewN d) := Lib.hid (fun d => by
      have := Len_walk g base lv ws (w3.drewN d) (HL3.out.below (below_drewN (Below.refl w3.heap.size w3) d) (Nat.le_refl _))
      rw [HI3.out.hl] at this
      exact this.mono (fun e w' h => ⟨h.1, h.2.symm⟩))
    go_wp2
    go_quiet ((first | (go_at_call 13; exact Calls.quiet_of_same (HSh.out _)) | (go_at_call 16; exact Calls.quiet_of_same (HLe.out _))))
    obtain ⟨w4, hw4⟩ : ∃ w4, w4 = w3.drewN nq := ⟨_, rfl⟩
    rw [← hw4]
    have hb4 : Below w3.heap.size w3 w4 := by rw [hw4]; exact below_drewN (Below.refl _ _) _
    have HBX4 := Lib.hid (HBX3.out.below hb4 (Nat.le_refl _))
    have HI4 := Lib.hid (HI3.out.below hb4 (Nat.le_refl _))
    have HL4 := Lib.hid (HL3.out.below hb4 (Nat.le_refl _))
    have HO4 := Lib.hid (HO3.out.below hb4 (Nat.le_refl _))
    have HB4 := Lib.hid (below_seq HB3.out hb4)
    clear hb4 hw4 HBX3 HI3 HL3 HO3 HB3 HSh HLe r1 r2
    go_wp2
    go_loopw [6, 7] (AcrossR m w4) (fun _ k _ => m - (intOf k).toNat)
    case atStart => exact ⟨0, Nat.zero_le _, rfl, rfl, Below.refl _ _⟩
    case round =>
      obtain ⟨i, hi, rfl, rfl, hbel⟩ := hrel
      have HBX5 := Lib.hid (HBX4.out.below hbel (Nat.le_refl _))
      have HI5 := Lib.hid (HI4.out.below hbel (Nat.le_refl _))
      have HL5 := Lib.hid (HL4.out.below hbel (Nat.le_refl _))
      have HO5 := Lib.hid (HO4.out.ints.below hbel (Nat.le_refl _))
      have HBe := Lib.hid hbel; clear hbel
      by_cases him : i < m
      · have hio : i < (ord lv).length := by rw [hm.out]; exact him
        obtain ⟨x, hxe, hxl⟩ := ord_nonneg lv i hio
        obtain ⟨g3, ha, _⟩ := HO4.out.at (by omega)
        subst ha
        have c3 := HO5.out.get i hio
        rw [hxe] at c3
        simp only [Nat.zero_add] at c3
        have hxw : x < ws.length := by rw [HLO.out.widths]; exact hxl
        obtain ⟨bw, ow, ha⟩ := HI5.out.iw.some (by omega)
        subst ha
        have cw := HI5.out.iw.get x hxw
        have hxn1 : x < n1 := by rw [← HI5.out.hl1]; exact hxw
        have hxb : (x : Int) < (n1 : Int) := by omega
        have hib : (i : Int) < (m : Int) := by omega
        have hsu := colAt_succ ws (ord lv) i hio
        rw [hxe] at hsu
        rw [show ws.getD ((x : Int)).toNat 0 = ws[x] by simp [hxw]] at hsu
        have hb0 := colAt_mono HLO.out.range (ord lv) i
        have hb1 := ws_getD HLO.out.range x
        rw [show ws.getD x 0 = ws[x] by simp [hxw]] at hb1
        have HCo0 := Lib.hid (Column_walk g base lv ws wr i HL5.out (by omega))
        have HCo1 := Lib.hid (Column_walk g base lv ws wr (i + 1) HL5.out (by omega))
        rw [hsu] at HCo1
        have HRi := Lib.hid (Right_walk g base lv ws wr i HL5.out hio)
        have HLf := Lib.hid (Left_walk g base lv ws wr (i + 1) HL5.out (by omega) (by omega))
        have r1 := HBX5.out.r1
        have r2 := HBX5.out.r2
        generalize colAt ws (ord lv) i = y at *
        generalize ws[x] = z at *
        clear hsu hxe hio
        obtain ⟨hy0, hy1⟩ := hb0
        obtain ⟨hz0, hz1⟩ := hb1
        have hi2 : (i : Int) ≤ 3000 := by omega
        have hyz : IntKind.i64.wrap (y + z - y) = z := by rw [IntWalk.i64_in _ (by omega)]; omega
        have hi1w : IntKind.i64.wrap ((i : Int) + 1) = (i : Int) + 1 := IntWalk.i64_in _ (by omega)
        have hzz : (z != z) = false := by simp
        have hii : ((i : Int) != (i : Int)) = false := by simp
        have hii1 : ((i : Int) + 1 != (i : Int) + 1) = false := by simp
        go_wp2_with fail
        refine HCo0.out.mono ?_
        rintro e w' ⟨rfl, rfl⟩
        go_wp2_with fail
        refine HRi.out.mono ?_
        rintro e w' ⟨rfl, rfl⟩
        go_wp2_with fail
        rw [show ((i : Int) + 1) = ((i + 1 : Nat) : Int) by omega]
        refine HCo1.out.mono ?_
        rintro e w' ⟨rfl, rfl⟩
        go_wp2_with fail
        refine HLf.out.mono ?_
        rintro e w' ⟨rfl, rfl⟩
        rw [show (((i + 1 : Nat) : Int) - 1) = (i : Int) by omega]
        go_wp2
        go_quiet (fail)
        go_wp2
        go_roundw
        case rel => exact ⟨i + 1, by omega, by go_num, by go_num, below_drewN HBe.out _⟩
        case measure => simp [intOf]; omega
      · obtain rfl : m = i := by omega
        have HRn := Lib.hid (Right_no g base lv ws wr m HL5.out (.inr (by rw [hm.out]; omega)))
        have HLn := Lib.hid (Left_no g base lv ws wr 0 HL5.out (.inl (by omega)))
        have HCo := Lib.hid (Column_walk g base lv ws wr m HL5.out (by rw [hm.out]; omega))
        have HSh := Lib.hid (Shown_walk g base lv ws wr HL5.out)
        have HWi := Lib.hid (Width_walk g base lv ws wr HL5.out)
        rw [hm.out] at HSh HWi
        generalize colAt ws (ord lv) m = y at *
        go_wp2_with fail
        refine HRn.out.mono ?_
        rintro e w' ⟨rfl, rfl⟩
        go_wp2_with fail
        refine HLn.out.mono ?_
        rintro e w' ⟨rfl, rfl⟩
        go_wp2_with fail
        refine HCo.out.mono ?_
        rintro e w' ⟨rfl, rfl⟩
        go_wp2_with fail
        refine HSh.out.mono ?_
        rintro e w' ⟨rfl, rfl⟩
        go_wp2_with fail
        refine HWi.out.mono ?_
        rintro e w' ⟨rfl, d, rfl⟩
        go_wp2
        go_ret
        exact ⟨rfl, below_drewN (below_seq HB4.out HBe.out) _⟩
end Go.Proofs.Ytnnfhldfdiaddaa
