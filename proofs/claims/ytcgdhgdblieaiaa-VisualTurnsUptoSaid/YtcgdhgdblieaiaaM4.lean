/-
  The walk of VisualMirrors.
-/
import Derived.Test.YtcgdhgdblieaiaaM3
import Derived.Test.YtcgdhgdblieaiaaW5
import Derived.Shelf.RegionOpen
import Derived.Deep.Cut
import Derived.Deep.CutBlock
set_option linter.unusedVariables false
namespace Go.Proofs.Ytcgdhgdblieaiaa
open Go.RowKit Go.Shelf
attribute [local go_sem] Oper.semAt_some

theorem Ints.grownN {k : IntKind} {w w' : World} {a : Option Addr} {zs : List Int} {row : Option Nat} (h : Ints k w a zs) (hg : w.grownBy w' row) (hne : ∀ b o, a = Option.some ⟨b, o, none⟩ → row ≠ Option.some b) : Ints k w' a zs := by
  intro i hi
  obtain ⟨b, o, rfl, hc⟩ := h i hi
  have hlt := World.block_lt_of_cell? w _ hc
  refine ⟨b, o, rfl, ?_⟩
  rw [World.cell?_of_block (w := w) (a := ⟨b, o + i, none⟩) (hg.block b hlt (fun e => hne b o rfl e.symm))]
  exact hc
theorem Ints.grownOld {k : IntKind} {w0 w w' : World} {a : Option Addr} {zs : List Int} {row : Option Nat} (h0 : Ints k w0 a zs) (h : Ints k w a zs) (hg : w.grownBy w' row) (hr : ∀ g, row = Option.some g → w0.heap.size ≤ g) : Ints k w' a zs := by
  intro i hi
  obtain ⟨b, o, e, hc⟩ := h i hi
  obtain ⟨b', o', e', hc'⟩ := h0 i hi
  rw [e] at e'
  simp only [Option.some.injEq, Addr.mk.injEq, and_true] at e'
  obtain ⟨rfl, rfl⟩ := e'
  have hlt := World.block_lt_of_cell? w _ hc
  have hl0 := World.block_lt_of_cell? w0 _ hc'
  refine ⟨b, o, e, ?_⟩
  rw [World.cell?_of_block (w := w) (a := ⟨b, o + i, none⟩) (hg.block b hlt (fun e => by have := hr b e.symm; simp at hl0; omega))]
  exact hc
theorem Own.blkI {B : Nat} {E : TypeId} {w : World} {a : Option Addr} {n cap : Nat} {xs : List Value} (h : Own B E w a n cap xs) {b o : Nat} (e : a = some ⟨b, o, none⟩) : B ≤ b ∧ b < w.heap.size := World.ownsRow.lt h b (by rw [e]; rfl)
theorem Ints.left {k : IntKind} {w : World} {a : Option Addr} {xs ys : List Int} (h : Ints k w a (xs ++ ys)) : Ints k w a xs := by
  intro i hi
  obtain ⟨b, o, e, hc⟩ := h i (by rw [List.length_append]; omega)
  exact ⟨b, o, e, by rw [hc, List.getElem_append_left hi]⟩
theorem mirR_le (cs : List CharD) (xs zs : List Int) : (mirR cs xs zs).length ≤ xs.length := by
  unfold mirR
  split
  · rw [mirL_length]; exact Nat.le_refl _
  · exact Nat.zero_le _
theorem lineR_le (cs : List CharD) (xs zs : List Int) : (lineR cs xs zs).length ≤ zs.length := by
  unfold lineR
  split
  · rw [pickL_length]; exact ord_le zs
  · exact Nat.zero_le _
theorem sameRunes_self (a a2 : Option Addr) (n cap n2 cap2 : Nat) (xs : List Int) (w : World) (hn : xs.length = n) (hn2 : xs.length = n2) (hm : n ≤ 1048576) (hc : Ints .i32 w a xs) (hc2 : Ints .i32 w a2 xs) :
    Calls Try.prog 34 #[.slice a n cap, .slice a2 n2 cap2] w fun e w' => e = .returned (.bool true) ∧ Below w.heap.size w w' := by
  have h := sameRunes_walk a a2 n cap n2 cap2 xs xs w hn hn2 hm hc hc2
  rwa [show decide (xs = xs) = true from decide_eq_true rfl] at h
theorem Own.apart {B1 B2 : Nat} {E1 E2 : TypeId} {w1 w2 : World} {a1 a2 : Option Addr} {n1 c1 n2 c2 : Nat} {xs ys : List Value} (h1 : Own B1 E1 w1 a1 n1 c1 xs) (h2 : Own B2 E2 w2 a2 n2 c2 ys) (hs : w1.heap.size ≤ B2 ∨ w2.heap.size ≤ B1) :
    (Value.slice a2 n2 c2).ownBlock = none ∨ (Value.slice a2 n2 c2).ownBlock ≠ (Value.slice a1 n1 c1).ownBlock := by
  cases h : (Value.slice a2 n2 c2).ownBlock with
  | none => exact .inl rfl
  | some k =>
    refine .inr (fun e => ?_)
    have e1 := World.ownsRow.lt h2 k h
    have e2 := World.ownsRow.lt h1 k e.symm
    omega
def OvR (B : Nat) (a : Option Addr) (n c : Nat) (w0 : World) (v : Value) (wr : World) : Prop := ∃ (k : Nat) (ys : List Int), k ≤ n ∧ v = .int .i64 k ∧ Own B 21 wr a n c (ivs .i32 ys) ∧ w0.grownBy wr (Value.slice a n c).ownBlock

set_option maxRecDepth 100000 in
set_option maxHeartbeats 8000000 in
theorem mirrors_walk (rest : Int) (a : Option Addr) (n cap : Nat) (cs : List CharD) (a1 : Option Addr) (n1 c1 : Nat) (xs : List Int) (a2 : Option Addr) (n2 c2 : Nat) (zs : List Int) (w : World)
    (hn : cs.length = n) (hm : n ≤ 1048576) (hc : Chars w a cs) (h1 : ArgL .i32 w a1 n1 c1 xs) (h2 : ArgL .i8 w a2 n2 c2 zs) :
    Calls Try.prog 9 #[.agg #[.int .u8 rest, .slice a n cap], .slice a1 n1 c1, .slice a2 n2 c2] w fun e w' => e = .returned (.bool true) ∧ Below w.heap.size w w' := by
  have HN := Lib.hid hn; clear hn
  have HC := Lib.hid hc; clear hc
  have H1 := Lib.hid h1; clear h1
  have H2 := Lib.hid h2; clear h2
  have hm1 := H1.out.le
  have hm2 := H2.out.le
  have HP0 := Lib.hid (PB.start w rest a n cap)
  have p0 := HP0.out.c0
  have p1 := HP0.out.c1
  go_enter Try.func9, Try.ntmps9
  go_wp2_with fail
  generalize w.alloc (.cells #[.int .u8 rest, .slice a n cap] 54) = w0 at *
  refine (beyond_walk a2 n2 c2 w0 hm2).mono ?_
  rintro e w' ⟨rfl, rfl⟩
  generalize decide (65536 < n2) = by_ at *
  cases by_ with
  | true =>
    go_wp2_with fail
    refine (lives_walk _).mono ?_
    rintro e w1 ⟨rfl, hb⟩
    have HB1 := Lib.hid (HP0.out.next hb).below; clear hb p0 p1
    go_wp2
    go_ret
    exact ⟨rfl, HB1.out⟩
  | false =>
  go_wp2_with fail
  refine (PMay_walk rest a n cap cs w0 HN.out (by omega) (HC.out.below HP0.out.below (Nat.le_refl _))).mono ?_
  rintro e w1 ⟨my, rfl, hb⟩
  have HP1 := Lib.hid (HP0.out.next hb); clear hb p0 p1
  cases my with
  | false =>
    go_wp2_with fail
    refine (lives_walk _).mono ?_
    rintro e w2 ⟨rfl, hb⟩
    have HB2 := Lib.hid (HP1.out.next hb).below; clear hb
    go_wp2
    go_ret
    exact ⟨rfl, HB2.out⟩
  | true =>
  go_wp2_with fail
  refine (lent_walk a2 n2 c2 zs w1 (H2.out.below HP1.out.below (Nat.le_refl _))).mono ?_
  rintro e w2 ⟨g7, c7, rfl, ho, hb⟩
  have HP2 := Lib.hid (HP1.out.next hb); clear hb
  have HO7 := Lib.hid ho; clear ho
  have hs1 := HP1.out.below.size
  go_wp2_with (at_builtin; refine wpList_appS Try.elemRune rfl (.tmp 37) (.tmp 38) rfl (Own.nil w2.heap.size _ w2) (Nat.le_refl _) (by rw [ivs_length]; exact H1.out.len) (H1.out.below HP2.out.below (Nat.le_refl _)).ints.vals H1.out.none_ (ivs_one _ _) (by omega) (by unfold maxLen; omega) rfl rfl ?_)
  intro a8 c8 w3 ho hg _
  have HB3 := Lib.hid ((Own.nil w2.heap.size 21 w2).app hg (Nat.le_refl _))
  have HO3 : Hid (Own w2.heap.size 21 w3 a8 n1 c8 (ivs .i32 xs)) := Lib.hid (by simpa using ho)
  clear ho hg
  go_wp2_with (at_builtin; refine wpList_app1 Try.elemRune rfl (.tmp 40) (.tmp 41) rfl HO3.out HB3.out.size (by omega) (by omega) _ rfl _ rfl rfl ?_)
  intro a8 c8 w4 ho hg
  have HB4 := Lib.hid (HB3.out.trans (HO3.out.app hg HB3.out.size))
  have HO8 : Hid (Own w2.heap.size 21 w4 a8 (n1 + 1) c8 (ivs .i32 (xs ++ [-77]))) := Lib.hid (by rw [ivs_append]; exact ho)
  clear ho hg HB3 HO3
  obtain ⟨g8, ha, hg1, hg2, hg3, hg4⟩ := HO8.out.at (by omega)
  subst ha
  have hnc : n1 ≤ c8 := by omega
  have HG8 := Lib.hid (And.intro hg1 hg2); clear hg1 hg2 hg3 hg4
  have HP4 := Lib.hid (HP2.out.next HB4.out)
  have HO74 := Lib.hid (HO7.out.below HB4.out (Nat.le_refl _))
  go_upto_region 7 with (fail)
  have HF : Hid (∀ W, Below w4.heap.size w4 W → PB w rest a n cap W ∧ Ints .i32 W a1 xs ∧ Ints .i8 W a2 zs ∧ Ints .i32 W (some ⟨g8, 0, none⟩) (xs ++ [-77]) ∧ Ints .i8 W (some ⟨g7, 0, none⟩) (zs ++ [77]) ∧ Chars W a cs ∧ Below w.heap.size w W) := Lib.hid (fun W hb =>
    have hP := HP4.out.next hb
    ⟨hP, H1.out.ints.below hP.below (Nat.le_refl _), H2.out.ints.below hP.below (Nat.le_refl _), HO8.out.ints.below hb (Nat.le_refl _), HO74.out.ints.below hb (Nat.le_refl _), HC.out.below hP.below (Nat.le_refl _), hP.below⟩)
  have HN1 := Lib.hid H1.out.len
  have HN2 := Lib.hid H2.out.len
  have hsz : w.heap.size ≤ w4.heap.size := HP4.out.below.size
  go_cut [9, 10] from 43 (fun u v w' => ∃ a' n' c', u = .slice a' n' c' ∧ v = .int .i64 (mirC xs zs) ∧ Own w4.heap.size 21 w' a' n' c' (ivs .i32 (mirR cs xs zs)) ∧ Below w4.heap.size w4 w')
  case first =>
    have HDr : Hid (Below w4.heap.size w4 w4.drew) := Lib.hid (below_drewN (Below.refl _ w4) 1)
    obtain ⟨f1, f2, f3, f4, f5, f6, f7⟩ := HF.out w4.drew (HDr.out)
    have HCl := Lib.hid (Mirror_walk rest a n cap cs (some ⟨g8, 0, none⟩) n1 c8 xs (some ⟨g7, 0, none⟩) n2 c7 zs w4.drew HN.out hm f6 HN1.out hm1 f4.left HN2.out hm2 f5.left)
    have p0 := f1.c0
    have p1 := f1.c1
    have HSw := Lib.hid (fun (W : World) (hb : Below w4.drew.heap.size w4.drew W) => show W.cell? ⟨w.heap.size, 0, none⟩ = some (.int .u8 rest) ∧ W.cell? ⟨w.heap.size, 1, none⟩ = some (.slice a n cap) from ⟨(f1.next hb).c0, (f1.next hb).c1⟩)
    clear f1 f2 f3 f4 f5 f6 f7
    have q0 : w4.cell? ⟨w.heap.size, 0, none⟩ = some (.int .u8 rest) := p0
    have q1 : w4.cell? ⟨w.heap.size, 1, none⟩ = some (.slice a n cap) := p1
    go_wp2
    go_region_held3 (fun w' : World => w'.cell? ⟨w.heap.size, 0, none⟩ = some (.int .u8 rest) ∧ w'.cell? ⟨w.heap.size, 1, none⟩ = some (.slice a n cap)) (first | exact ⟨p0, p1⟩ | exact HSw.out _ hb5) (first
      | (go_at_call 30; refine HCl.out.mono ?_; rintro e w5 ⟨a5, n5, c5, rfl, ho5, hb5⟩))
    all_goals
      have HO5 := Lib.hid ho5
      have HB5 := Lib.hid (HDr.out.trans (hb5.mono HDr.out.size))
      clear ho5 hb5
      go_wp2
      go_meet
      case rel => exact ⟨_, _, _, rfl, rfl, HO5.out, HB5.out⟩
  case rest =>
  obtain ⟨a9, n9, c9, rfl, rfl, ho, hb⟩ := hcut
  generalize wc = w5 at *
  have HO9 := Lib.hid ho; clear ho
  have D5 := Lib.hid hb
  have HB5 := Lib.hid hb; clear hb
  obtain ⟨f1, f2, f3, f4, f5, f6, f7⟩ := HF.out w5 HB5.out
  have HCl := Lib.hid (Mirror_walk rest a n cap cs a1 n1 c1 xs a2 n2 c2 zs w5 HN.out hm f6 HN1.out hm1 f2 HN2.out hm2 f3)
  have p0 := f1.c0
  have p1 := f1.c1
  clear f1 f2 f3 f4 f5 f6 f7
  go_wp2_with fail
  refine HCl.out.mono ?_
  rintro e w6 ⟨a11, n11, c11, rfl, ho, hb⟩
  have HO11 := Lib.hid ho; clear ho
  have D6 := Lib.hid hb
  have HB6 := Lib.hid (HB5.out.trans (hb.mono HB5.out.size)); clear hb HCl p0 p1
  go_upto_region 9 with (fail)
  go_cut [13, 14] from 62 (fun u v w' => ∃ a' n' c', u = .slice a' n' c' ∧ v = .int .i64 (mirC xs zs) ∧ Own w6.heap.size 21 w' a' n' c' (ivs .i32 (lineR cs xs zs)) ∧ Below w6.heap.size w6 w')
  case first =>
    have HDr : Hid (Below w6.heap.size w6 w6.drew) := Lib.hid (below_drewN (Below.refl _ w6) 1)
    obtain ⟨f1, f2, f3, f4, f5, f6, f7⟩ := HF.out w6.drew (HB6.out.trans (HDr.out.mono HB6.out.size))
    have HCl := Lib.hid (Line_walk rest a n cap cs (some ⟨g8, 0, none⟩) n1 c8 xs (some ⟨g7, 0, none⟩) n2 c7 zs w6.drew HN.out hm f6 HN1.out hm1 f4.left HN2.out hm2 f5.left)
    have p0 := f1.c0
    have p1 := f1.c1
    have HSw := Lib.hid (fun (W : World) (hb : Below w6.drew.heap.size w6.drew W) => show W.cell? ⟨w.heap.size, 0, none⟩ = some (.int .u8 rest) ∧ W.cell? ⟨w.heap.size, 1, none⟩ = some (.slice a n cap) from ⟨(f1.next hb).c0, (f1.next hb).c1⟩)
    clear f1 f2 f3 f4 f5 f6 f7
    have q0 : w6.cell? ⟨w.heap.size, 0, none⟩ = some (.int .u8 rest) := p0
    have q1 : w6.cell? ⟨w.heap.size, 1, none⟩ = some (.slice a n cap) := p1
    go_wp2
    go_region_held3 (fun w' : World => w'.cell? ⟨w.heap.size, 0, none⟩ = some (.int .u8 rest) ∧ w'.cell? ⟨w.heap.size, 1, none⟩ = some (.slice a n cap)) (first | exact ⟨p0, p1⟩ | exact HSw.out _ hb5) (first
      | (go_at_call 31; refine HCl.out.mono ?_; rintro e w5 ⟨a5, n5, c5, rfl, ho5, hb5⟩))
    all_goals
      have HO5 := Lib.hid ho5
      have HB5 := Lib.hid (HDr.out.trans (hb5.mono HDr.out.size))
      clear ho5 hb5
      go_wp2
      go_meet
      case rel => exact ⟨_, _, _, rfl, rfl, HO5.out, HB5.out⟩
  case rest =>
  obtain ⟨a13, n13, c13, rfl, rfl, ho, hb⟩ := hcut
  generalize wc = w7 at *
  have HO13 := Lib.hid ho; clear ho
  have D7 := Lib.hid hb
  have HB7 := Lib.hid (HB6.out.trans (hb.mono HB6.out.size)); clear hb
  obtain ⟨f1, f2, f3, f4, f5, f6, f7⟩ := HF.out w7 HB7.out
  have HCl := Lib.hid (Line_walk rest a n cap cs a1 n1 c1 xs a2 n2 c2 zs w7 HN.out hm f6 HN1.out hm1 f2 HN2.out hm2 f3)
  have p0 := f1.c0
  have p1 := f1.c1
  clear f1 f2 f3 f4 f5 f6 f7
  go_wp2_with fail
  refine HCl.out.mono ?_
  rintro e w8 ⟨a15, n15, c15, rfl, ho, hb⟩
  have HO15 := Lib.hid ho; clear ho
  have D8 := Lib.hid hb
  have HB8 := Lib.hid (HB7.out.trans (hb.mono HB7.out.size)); clear hb HCl p0 p1
  obtain ⟨f1, f2, f3, f4, f5, f6, f7⟩ := HF.out w8 HB8.out
  have HCl := Lib.hid (rMirror_walk rest a n cap cs a1 n1 c1 xs a2 n2 c2 zs w8 HN.out hm f6 HN1.out hm1 f2 HN2.out hm2 f3)
  have p0 := f1.c0
  have p1 := f1.c1
  clear f1 f2 f3 f4 f5 f6 f7
  go_wp2_with fail
  refine HCl.out.mono ?_
  rintro e w9 ⟨a17, n17, c17, rfl, ho, hb⟩
  have HO17 := Lib.hid ho; clear ho
  have D9 := Lib.hid hb
  have HB9 := Lib.hid (HB8.out.trans (hb.mono HB8.out.size)); clear hb HCl p0 p1
  obtain ⟨f1, f2, f3, f4, f5, f6, f7⟩ := HF.out w9 HB9.out
  have HCl := Lib.hid (rLine_walk rest a n cap cs a1 n1 c1 xs a2 n2 c2 zs w9 HN.out hm f6 HN1.out hm1 f2 HN2.out hm2 f3)
  have p0 := f1.c0
  have p1 := f1.c1
  clear f1 f2 f3 f4 f5 f6 f7
  go_wp2_with fail
  refine HCl.out.mono ?_
  rintro e w10 ⟨a19, n19, c19, rfl, ho, hb⟩
  have HO19 := Lib.hid ho; clear ho
  have D10 := Lib.hid hb
  have HB10 := Lib.hid (HB9.out.trans (hb.mono HB9.out.size)); clear hb HCl p0 p1
  have hMR := mirR_le cs xs zs
  have hLR := lineR_le cs xs zs
  rw [HN1.out] at hMR
  rw [HN2.out] at hLR
  generalize mirR cs xs zs = MR at *
  generalize lineR cs xs zs = LR at *
  generalize mirC xs zs = code at *
  have hcc : (code != code) = false := by simp
  have l9 := HO9.out.lenI
  have l13 := HO13.out.lenI
  have s10 := HB10.out.size
  have k9 := Lib.hid (below_seq (below_seq (below_seq D7.out D8.out) D9.out) D10.out)
  have HCa := Lib.hid (fun (W : World) (hb : Below w10.heap.size w10 W) => show Ints .i32 W a9 MR ∧ Ints .i32 W a17 MR ∧ Ints .i32 W a13 LR ∧ Ints .i32 W a19 LR from
    ⟨(HO9.out.ints.below (below_seq D6.out k9.out) (Nat.le_refl _)).below hb (Nat.le_refl _), (HO17.out.ints.below D10.out (Nat.le_refl _)).below hb (Nat.le_refl _), (HO13.out.ints.below (below_seq (below_seq D8.out D9.out) D10.out) (Nat.le_refl _)).below hb (Nat.le_refl _), HO19.out.ints.below hb (Nat.le_refl _)⟩)
  obtain ⟨g1, g2, g3, g4⟩ := HCa.out w10 (Below.refl _ _)
  have HCl := Lib.hid (sameRunes_self a9 a17 n9 c9 n17 c17 MR w10 HO9.out.lenI HO17.out.lenI (by omega) g1 g2)
  clear g1 g2 g3 g4
  go_wp2_with fail
  refine HCl.out.mono ?_
  rintro e w11 ⟨rfl, hb⟩
  have D11 := Lib.hid hb; clear hb HCl
  obtain ⟨g1, g2, g3, g4⟩ := HCa.out w11 D11.out
  have HCl := Lib.hid (sameRunes_self a13 a19 n13 c13 n19 c19 LR w11 HO13.out.lenI HO19.out.lenI (by omega) g3 g4)
  clear g1 g2 g3 g4
  go_wp2_with fail
  refine HCl.out.mono ?_
  rintro e w12 ⟨rfl, hb⟩
  have D12 := Lib.hid hb
  have HB12 := Lib.hid (HB10.out.trans ((below_seq D11.out hb).mono s10)); clear hb HCl
  obtain ⟨f1, f2, f3, f4, f5, f6, f7⟩ := HF.out w12 HB12.out
  have HCl := Lib.hid (kept_walk g7 c7 a2 n2 c2 zs w12 HN2.out hm2 (by obtain ⟨gg, _, _, _, h, _⟩ := HO74.out.at (by omega); exact h) f5 f3)
  clear f1 f2 f3 f4 f5 f6 f7
  go_wp2_with fail
  refine HCl.out.mono ?_
  rintro e w13 ⟨rfl, hb⟩
  have D13 := Lib.hid hb
  have HB13 := Lib.hid (HB12.out.trans (hb.mono HB12.out.size)); clear hb HCl
  have k10 := Lib.hid (below_seq (below_seq D11.out D12.out) D13.out)
  have q77 := (HF.out w13 HB13.out).2.2.2.1.get n1 (by rw [List.length_append, HN1.out]; simp)
  rw [show (xs ++ [-77])[n1]'(by rw [List.length_append, HN1.out]; simp) = -77 by rw [List.getElem_append_right (by rw [HN1.out]; exact Nat.le_refl _)]; simp] at q77
  simp only [Nat.zero_add] at q77
  have hn1lt : (n1 : Int) < (n1 : Int) + 1 := by omega
  have O9 := Lib.hid (HO9.out.below (below_seq (below_seq D6.out k9.out) k10.out) (Nat.le_refl _))
  have O11 := Lib.hid (HO11.out.below (below_seq k9.out k10.out) (Nat.le_refl _))
  have O13 := Lib.hid (HO13.out.below (below_seq (below_seq (below_seq D8.out D9.out) D10.out) k10.out) (Nat.le_refl _))
  have O15 := Lib.hid (HO15.out.below (below_seq (below_seq D9.out D10.out) k10.out) (Nat.le_refl _))
  have O17 := Lib.hid (HO17.out.below (below_seq D10.out k10.out) (Nat.le_refl _))
  have O19 := Lib.hid (HO19.out.below k10.out (Nat.le_refl _))
  have O8 := Lib.hid (HO8.out.below HB13.out (Nat.le_refl _))
  have S13 := Lib.hid (show w4.heap.size ≤ w13.heap.size ∧ w5.heap.size ≤ w6.heap.size ∧ w6.heap.size ≤ w7.heap.size ∧ w7.heap.size ≤ w8.heap.size ∧ w8.heap.size ≤ w9.heap.size ∧ w6.heap.size ≤ w13.heap.size from ⟨HB13.out.size, D6.out.size, D7.out.size, D8.out.size, D9.out.size, Nat.le_trans D7.out.size (Nat.le_trans (below_seq (below_seq D8.out D9.out) D10.out).size k10.out.size)⟩)
  go_wp2
  go_loopw [21] (OvR w4.heap.size a9 n9 c9 w13) (fun v _ => n9 - (intOf v).toNat)
  case atStart => exact ⟨0, MR, Nat.zero_le _, rfl, O9.out, World.grownBy.refl _ _⟩
  case round =>
  obtain ⟨k, ys, hk, rfl, hown, hgr⟩ := hrel
  have HO := Lib.hid hown; clear hown
  have HG := Lib.hid hgr; clear hgr
  clear q77
  by_cases hlt : k < n9
  · obtain ⟨g, ha, hg1, hg2, hg3, hg4⟩ := HO.out.at (by omega)
    subst ha
    have fz := HO.out.unfrozen k
    obtain ⟨v0, cz⟩ : ∃ v0, wr.cell? ⟨g, k, none⟩ = some v0 := ⟨_, HO.out.cell k (by rw [ivs_length, HO.out.lenI]; exact hlt)⟩
    have hki : (k : Int) < (n9 : Int) := by omega
    go_wp2
    go_roundw
    case rel => exact ⟨k + 1, ys.set k (-9), hlt, by go_num, by rw [← ivs_set]; exact HO.out.store k _, grown_trans HG.out (grown_store wr g k _)⟩
    case measure => simp [intOf]; omega
  · have hki : ¬ (k : Int) < (n9 : Int) := by omega
    generalize wr = w14 at *
    have G14 := Lib.hid HG.out; clear HG HO
    have P13 := Lib.hid (O13.out.grown G14.out (HO9.out.apart HO13.out (.inl S13.out.2.1)))
    go_wp2
    clear hlt hki hk
    go_loopw [22] (OvR w6.heap.size a13 n13 c13 w14) (fun v _ => n13 - (intOf v).toNat)
    case atStart => exact ⟨0, LR, Nat.zero_le _, rfl, P13.out, World.grownBy.refl _ _⟩
    case round =>
    obtain ⟨k, ys, hk, rfl, hown, hgr⟩ := hrel
    have HO := Lib.hid hown; clear hown
    have HG := Lib.hid hgr; clear hgr
    by_cases hlt : k < n13
    · obtain ⟨g, ha, hg1, hg2, hg3, hg4⟩ := HO.out.at (by omega)
      subst ha
      have fz := HO.out.unfrozen k
      obtain ⟨v0, cz⟩ : ∃ v0, wr.cell? ⟨g, k, none⟩ = some v0 := ⟨_, HO.out.cell k (by rw [ivs_length, HO.out.lenI]; exact hlt)⟩
      have hki : (k : Int) < (n13 : Int) := by omega
      go_wp2
      go_roundw
      case rel => exact ⟨k + 1, ys.set k (-9), hlt, by go_num, by rw [← ivs_set]; exact HO.out.store k _, grown_trans HG.out (grown_store wr g k _)⟩
      case measure => simp [intOf]; omega
    · have hki : ¬ (k : Int) < (n13 : Int) := by omega
      generalize wr = w15 at *
      have G15 := Lib.hid HG.out; clear HG HO
      have I11 := Lib.hid ((O11.out.grown G14.out (HO9.out.apart HO11.out (.inl (Nat.le_refl _)))).grown G15.out (HO13.out.apart HO11.out (.inr (Nat.le_refl _)))).ints
      have I15 := Lib.hid ((O15.out.grown G14.out (HO9.out.apart HO15.out (.inl (by have := S13.out; omega)))).grown G15.out (HO13.out.apart HO15.out (.inl (Nat.le_refl _)))).ints
      have I17 := Lib.hid ((O17.out.grown G14.out (HO9.out.apart HO17.out (.inl (by have := S13.out; omega)))).grown G15.out (HO13.out.apart HO17.out (.inl (by have := S13.out; omega)))).ints
      have I19 := Lib.hid ((O19.out.grown G14.out (HO9.out.apart HO19.out (.inl (by have := S13.out; omega)))).grown G15.out (HO13.out.apart HO19.out (.inl (by have := S13.out; omega)))).ints
      have I8 := Lib.hid ((O8.out.grown G14.out (HO9.out.apart HO8.out (.inr (Nat.le_refl _)))).grown G15.out (HO13.out.apart HO8.out (.inr (by have := HB6.out.size; omega)))).ints.left
      have I1 := Lib.hid (Ints.grownOld H1.out.ints (Ints.grownOld H1.out.ints (HF.out w13 HB13.out).2.1 G14.out (fun g e => Nat.le_trans hsz (World.ownsRow.lt HO9.out g e).1)) G15.out (fun g e => Nat.le_trans hsz (Nat.le_trans HB6.out.size (World.ownsRow.lt HO13.out g e).1)))
      have Bw := Lib.hid (((HF.out w13 HB13.out).2.2.2.2.2.2.trans ((O9.out.app G14.out S13.out.1).mono hsz)).trans ((P13.out.app G15.out (Nat.le_trans S13.out.2.2.2.2.2 G14.out.size)).mono (Nat.le_trans hsz HB6.out.size)))
      have l11 := HO11.out.lenI
      have l15 := HO15.out.lenI
      go_wp2_with fail
      refine (Mirror_nil a1 n1 c1 a2 n2 c2 w15).mono ?_
      rintro e w' ⟨rfl, rfl⟩
      go_wp2_with fail
      refine (Line_nil a1 n1 c1 a2 n2 c2 w15).mono ?_
      rintro e w' ⟨rfl, rfl⟩
      go_wp2_with fail
      refine (sameRunes_self (some ⟨g8, 0, none⟩) a1 n1 c8 n1 c1 xs w15 HN1.out HN1.out hm1 I8.out I1.out).mono ?_
      rintro e w16 ⟨rfl, hb⟩
      have D16 := Lib.hid hb; clear hb
      go_wp2_with fail
      refine (sameRunes_self a11 a17 n11 c11 n17 c17 MR w16 l11 HO17.out.lenI (by omega) (I11.out.below D16.out (Nat.le_refl _)) (I17.out.below D16.out (Nat.le_refl _))).mono ?_
      rintro e w17 ⟨rfl, hb⟩
      have D17 := Lib.hid (below_seq D16.out hb); clear hb
      go_wp2_with fail
      refine (sameRunes_self a15 a19 n15 c15 n19 c19 LR w17 l15 HO19.out.lenI (by omega) (I15.out.below D17.out (Nat.le_refl _)) (I19.out.below D17.out (Nat.le_refl _))).mono ?_
      rintro e w18 ⟨rfl, hb⟩
      have D18 := Lib.hid (below_seq D17.out hb); clear hb
      go_wp2_with fail
      refine (lives_walk _).mono ?_
      rintro e w19 ⟨rfl, hb⟩
      have D19 := Lib.hid (below_seq D18.out hb); clear hb
      go_wp2
      go_ret
      exact ⟨rfl, Bw.out.trans (D19.out.mono Bw.out.size)⟩
end Go.Proofs.Ytcgdhgdblieaiaa
