/-
  The walk of TrieSmall.
-/
import Derived.Test.YtabbabkmojaoaaaTX
set_option linter.unusedVariables false
set_option linter.unusedSimpArgs false
namespace Go.Proofs.Ytabbabkmojaoaaa
open Go.RowKit

set_option maxRecDepth 100000 in
set_option maxHeartbeats 1600000 in
theorem trieSmall_walk (rest : Int) (a : Option Addr) (n c : Nat) (l : List SpanD) (x : SpanD) (w : World) (hl : l.length = n) (hs : SpansAt w a l) (hnone : a = none → c = 0) (hwf : ∀ s ∈ l, -2147483648 ≤ s.f ∧ s.f ≤ 2147483647 ∧ -2147483648 ≤ s.t ∧ s.t ≤ 2147483647)
    (hx : -2147483648 ≤ x.f ∧ x.f ≤ 2147483647 ∧ -2147483648 ≤ x.t ∧ x.t ≤ 2147483647) :
    Calls Try.prog 3 #[.int .u8 rest, .slice a n c, .agg #[.int .i32 x.f, .int .i32 x.t, .int .u8 x.v]] w fun e w' => e = .returned (.bool true) ∧ Below w.heap.size w w' := by
  have HL := Lib.hid hl; clear hl
  have HS := Lib.hid hs; clear hs
  have HZ := Lib.hid hnone; clear hnone
  have HWf := Lib.hid hwf; clear hwf
  have HXw := Lib.hid hx; clear hx
  have HB0 := Lib.hid ((Below.refl w.heap.size w).alloc (Nat.le_refl _) (.cells #[.int .i32 x.f, .int .i32 x.t, .int .u8 x.v] 24))
  have HC0 := Lib.hid (heap_alloc_new w (.cells #[.int .i32 x.f, .int .i32 x.t, .int .u8 x.v] 24))
  by_cases h6 : 60 < n
  · have h6i : (60 : Int) < (n : Int) := by omega
    go_enter Try.func3, Try.ntmps3
    go_wp2_with fail
    refine (awake_walk _).mono ?_
    rintro e w1 ⟨rfl, hb⟩
    have HB1 := Lib.hid (HB0.out.trans (hb.mono HB0.out.size)); clear hb
    go_wp2
    go_ret
    exact ⟨rfl, HB1.out⟩
  · have h6i : ¬ (60 : Int) < (n : Int) := by omega
    go_enter Try.func3, Try.ntmps3
    go_wp2_with fail
    generalize hw1 : (w.alloc (.cells #[.int .i32 x.f, .int .i32 x.t, .int .u8 x.v] 24)) = w1 at *
    clear hw1
    obtain ⟨bx, hbx⟩ : ∃ bx, bx = w.heap.size := ⟨_, rfl⟩
    rw [← hbx] at HC0 ⊢
    have HBx := Lib.hid hbx; clear hbx
    have HS1 := Lib.hid (HS.out.below HB0.out (fun b o e h0 => HS.out.lt b o e h0))
    refine (Build8_any rest a n c l w1 HL.out (by omega) HS1.out HWf.out).mono ?_
    rintro e w2 ⟨tv1, at1, er1, rfl, hb, hi⟩
    have HI1 := Lib.hid hi
    have HB2 := Lib.hid (HB0.out.trans (hb.mono HB0.out.size))
    have HS2 := Lib.hid (HS1.out.below hb (fun b o e h0 => HS1.out.lt b o e h0))
    have HC2 := Lib.hid ((hb.block bx (Array.getElem?_eq_some_iff.1 HC0.out).1).trans HC0.out)
    clear hb hi HC0 HB0
    go_upto_region 4 with (fail)
    have q0 := cell_of_row w2 bx 0 _ _ (0, 0) HC2.out
    have q1 := cell_of_row w2 bx 1 _ _ (0, 0) HC2.out
    have q2 := cell_of_row w2 bx 2 _ _ (0, 0) HC2.out
    simp at q0 q1 q2
    have hfl : (flatS l).length = n * 3 := by rw [flatS_length, HL.out]
    have HSrA := Lib.hid (show ∀ j v, (flatS l)[j]? = some v → ∃ ad, a = some ad ∧ w2.drew.cell? (ad.add j) = some v from HS2.out.src)
    have HSrB := Lib.hid (show ∀ j v, (flatS l)[j]? = some v → ∃ ad, a = some ad ∧ (w2.alloc (.cells #[.int .i32 x.f, .int .i32 x.t, .int .u8 x.v] 24)).drew.cell? (ad.add j) = some v from (SpansAt.below (w := w2.drew) HS2.out ((Below.refl _ _).alloc (Nat.le_refl _) _) (fun b o e h0 => HS2.out.lt b o e h0)).src)
    have hbd1 : (0 + n) * 12 ≤ 140737488355328 := by omega
    have hbd2 : 0 + n ≤ maxLen := by unfold maxLen; omega
    have hbd3 : (n + 1) * 12 ≤ 140737488355328 := by omega
    have hbd4 : n < 140737488355328 := by omega
    have HBdr : Hid (Below w2.heap.size w2 w2.drew) := Lib.hid (below_drewN (Below.refl _ w2) 1)
    have HXo := Lib.hid (show ∀ u ∈ [Value.int .i32 x.f, .int .i32 x.t, .int .u8 x.v], u.oneCell' = true from fun u hu => by simp at hu; rcases hu with rfl | rfl | rfl <;> rfl)
    have HQA := Lib.hid (fun (w3 : World) (hg : w2.drew.grownBy w3 (Value.slice none 0 0).ownBlock) => show (w3.cell? ⟨bx, 0, none⟩ = some (.int .i32 x.f) ∧ w3.cell? ⟨bx, 1, none⟩ = some (.int .i32 x.t) ∧ w3.cell? ⟨bx, 2, none⟩ = some (.int .u8 x.v)) ∧ Below w2.heap.size w2 w3 from
      ⟨⟨cell_grown hg q0 (fun k e => by cases e), cell_grown hg q1 (fun k e => by cases e), cell_grown hg q2 (fun k e => by cases e)⟩, HBdr.out.trans (below_grown hg (fun k e => by cases e) (Nat.le_refl _))⟩)
    have HQB := Lib.hid (fun (w3 : World) (hg : (w2.alloc (.cells #[.int .i32 x.f, .int .i32 x.t, .int .u8 x.v] 24)).drew.grownBy w3 (Value.slice none 0 0).ownBlock) => show (∀ j v, [Value.int .i32 x.f, .int .i32 x.t, .int .u8 x.v][j]? = some v → w3.cell? ⟨w2.heap.size, j, none⟩ = some v) ∧ Below w2.heap.size w2 w3 from
      ⟨fun j v hv => cell_grown hg (by
        have h := cell_of_row (w2.alloc (.cells #[.int .i32 x.f, .int .i32 x.t, .int .u8 x.v] 24)) w2.heap.size j _ _ (0, 0) (heap_alloc_new w2 _)
        exact h.trans (by simpa using hv)) (fun k e => by cases e), (HBdr.out.alloc (Nat.le_refl _) _).trans (below_grown hg (fun k e => by cases e) (by simp))⟩)
    have HWx := Lib.hid (show ∀ s ∈ l ++ [x], -2147483648 ≤ s.f ∧ s.f ≤ 2147483647 ∧ -2147483648 ≤ s.t ∧ s.t ≤ 2147483647 from fun s hs => by
      rcases List.mem_append.1 hs with h | h
      · exact HWf.out s h
      · rw [List.mem_singleton.1 h]; exact HXw.out)
    have HLx := Lib.hid (show (l ++ [x]).length = n + 1 by rw [List.length_append, HL.out]; rfl)
    go_region_law (first
      | (refine step_appSN Try.elemSpan rfl (.const (.slice none 0 0)) (.tmp 35) rfl (World.ownsRow_nil _ w2.heap.size _ _) (by first | exact Nat.le_refl _ | simp) hfl (by exact HSrA.out) HZ.out (flatS_one l) hbd1 hbd2 rfl rfl ?_; intro a3 c3 w3 ho3 hg3 hn3; simp only [Nat.zero_add, List.nil_append] at ho3 hn3 ⊢; obtain ⟨⟨r0, r1, r2⟩, hB3⟩ := HQA.out w3 hg3)
      | (refine step_appSN Try.elemSpan rfl (.const (.slice none 0 0)) (.tmp 35) rfl (World.ownsRow_nil _ w2.heap.size _ _) (by first | exact Nat.le_refl _ | simp) hfl (by exact HSrB.out) HZ.out (flatS_one l) hbd1 hbd2 rfl rfl ?_; intro a3 c3 w3 ho3 hg3 hn3; simp only [Nat.zero_add, List.nil_append] at ho3 hn3 ⊢; obtain ⟨hr3, hB3⟩ := HQB.out w3 hg3)
      | (refine step_appN Try.elemSpan rfl (.tmp 36) (.tmp 38) rfl (World.ownsRow.alloc ho3 _) (by simp; have := hB3.size; omega) hbd3 hbd4 w3.heap.size [.int .i32 x.f, .int .i32 x.t, .int .u8 x.v] rfl (fun j v hv => by rw [cell_of_row _ w3.heap.size j _ _ (0, 0) (heap_alloc_new w3 _)]; simpa using hv) HXo.out rfl rfl ?_; intro a4 c4 w4 ho4 hg4 hn4; have hB4 : Below w2.heap.size w2 w4 := (hB3.alloc hB3.size _).trans (below_grown hg4 (fun k e => (World.ownsRow.lt ho3 k e).1) (by simp; have := hB3.size; omega)))
      | (refine step_appN Try.elemSpan rfl (.tmp 36) (.tmp 38) rfl ho3 hB3.size hbd3 hbd4 w2.heap.size [.int .i32 x.f, .int .i32 x.t, .int .u8 x.v] rfl hr3 HXo.out rfl rfl ?_; intro a4 c4 w4 ho4 hg4 hn4; have hB4 : Below w2.heap.size w2 w4 := hB3.trans (below_grown hg4 (fun k e => (World.ownsRow.lt ho3 k e).1) hB3.size))
      | (go_simp; go_at_call 14; refine (Build8_any rest a4 (n + 1) c4 (l ++ [x]) w4 HLx.out (by omega) (spans_of_row (by rw [flatS_snoc]; exact ho4)) HWx.out).mono ?_; rintro e w5 ⟨tv2, at2, er2, rfl, hb5, hi5⟩))
    all_goals
      have HI2 := Lib.hid hi5
      have HB5 := Lib.hid (hB4.trans (hb5.mono hB4.size))
      have HI1b := Lib.hid (HI1.out.below HB5.out)
      have HB5w := Lib.hid (HB2.out.trans (HB5.out.mono HB2.out.size))
      clear hb5 hi5 hB4 hn4 hg4 ho4 hB3 hn3 hg3 ho3 HQA HQB HSrA HSrB HI1 HB5 HBdr HC2 HS2 HS1 HB2 HWx HLx HXo
      go_wp2_with fail
      refine (Build8_any rest none 0 0 [] w5 rfl (by omega) (fun i hi => absurd hi (by simp)) (fun s hs => by simp at hs)).mono ?_
      rintro e w6 ⟨tv3, at3, er3, rfl, hb6, hi6⟩
      have hk3 : er3 = 0 ∧ ∃ g S, tv3 = .pointer (some ⟨g, 0, none⟩) ∧ Made8 (fS rest []) S ∧ TrieAt val8 114 64 w6 g (trieS S) := by
        rcases hi6 with ⟨-, h⟩ | ⟨h, -, h'⟩
        · exact absurd okS_nil h
        · exact ⟨h, h'⟩
      obtain ⟨rfl, g3, S3, rfl, hS3, hT3⟩ := hk3
      have HT3 := Lib.hid hT3
      have HS3 := Lib.hid hS3
      have HI1c := Lib.hid (HI1b.out.below hb6)
      have HI2c := Lib.hid (HI2.out.below hb6)
      have HB6 := Lib.hid (HB5w.out.trans (hb6.mono HB5w.out.size))
      clear hi6 hT3 hS3 HI1b HI2 HB5w hb6
      by_cases h1 : er1 = 0
      · have hk1 : okS l ∧ ∃ g S, tv1 = .pointer (some ⟨g, 0, none⟩) ∧ Made8 (fS rest l) S ∧ TrieAt val8 114 64 w6 g (trieS S) := by
          rcases HI1c.out with ⟨h, -⟩ | ⟨-, h, h'⟩
          · exact absurd h1 h
          · exact ⟨h, h'⟩
        obtain ⟨hok, g1, S1, rfl, hS1, hT1⟩ := hk1
        subst h1
        have hm1 : (S1.mids.length : Int) ≤ 272 ∧ 1 ≤ (S1.mids.length : Int) ∧ (S1.lows.length : Int) ≤ 17408 ∧ 1 ≤ (S1.lows.length : Int) ∧ (S1.lows.length : Int) ≤ 64 * (S1.mids.length : Int) ∧ (S1.mids.length : Int) ≤ 1 + 3 * (n : Int) ∧ (S1.lows.length : Int) ≤ 1 + 3 * (n : Int) := by
          have a1 := hS1.ml
          have a2 := hS1.ll
          have a3 := hS1.pos
          have a4 := low_le_mid hS1
          have a5 := count_le rest l hok.1 hok.2 l.length (Nat.le_refl _) S1 (by rw [List.take_length]; exact hS1)
          have a6 := HL.out
          omega
        have hm3 := only1 HS3.out rest (fun r => by simp [fS, ownF])
        have HT1 := Lib.hid hT1
        have HS1 := Lib.hid hS1
        have HOk := Lib.hid hok
        clear hT1 hS1 hok HI1c
        go_wp2_with fail
        refine (Blocks8_walk w6 g1 (trieS S1) HS1.out.trie HS1.out.pos.1 HT1.out).mono ?_
        rintro e w7 ⟨rfl, q, rfl⟩
        have HB7 := Lib.hid (HB6.out.trans (below_drewN (Below.refl _ w6) q))
        have HT37 : Hid (TrieAt val8 114 64 (w6.drewN q) g3 (trieS S3)) := Lib.hid (HT3.out.below (below_drewN (Below.refl w6.heap.size w6) q) (Nat.le_refl _))
        have HI27 : Hid (BldI rest (l ++ [x]) tv2 er2 (w6.drewN q)) := Lib.hid (HI2c.out.below (below_drewN (Below.refl w6.heap.size w6) q))
        rw [show (trieS S1).mid.length = S1.mids.length from rfl, show (trieS S1).low.length = S1.lows.length from rfl]
        clear HT3 HI2c HT1 HB6
        generalize w6.drewN q = w7 at *
        go_wp2_with fail
        refine (Blocks8_walk w7 g3 (trieS S3) HS3.out.trie HS3.out.pos.1 HT37.out).mono ?_
        rintro e w8 ⟨rfl, q, rfl⟩
        have HB8 := Lib.hid (HB7.out.trans (below_drewN (Below.refl _ w7) q))
        have HI28 : Hid (BldI rest (l ++ [x]) tv2 er2 (w7.drewN q)) := Lib.hid (HI27.out.below (below_drewN (Below.refl w7.heap.size w7) q))
        rw [show (trieS S3).mid.length = 1 from hm3.2, show (trieS S3).low.length = 1 from hm3.1]
        clear HT37 HI27 HB7
        generalize w7.drewN q = w8 at *
        generalize hM1 : (S1.mids.length : Int) = M1 at *
        generalize hN1 : (S1.lows.length : Int) = N1 at *
        have HM1 := Lib.hid hM1
        have HN1 := Lib.hid hN1
        clear hM1 hN1
        obtain ⟨b1, b2, b3, b4, b5, b6, b7⟩ := hm1
        clear hm3
        by_cases h2 : er2 = 0
        · obtain ⟨hok2, g2, S2, rfl, hS2, hT2⟩ : okS (l ++ [x]) ∧ ∃ g S, tv2 = .pointer (some ⟨g, 0, none⟩) ∧ Made8 (fS rest (l ++ [x])) S ∧ TrieAt val8 114 64 w8 g (trieS S) := by
            rcases HI28.out with ⟨h, -⟩ | ⟨-, h, h'⟩
            · exact absurd h2 h
            · exact ⟨h, h'⟩
          subst h2
          have hm2 : (S2.mids.length : Int) ≤ M1 + 3 ∧ (S2.lows.length : Int) ≤ N1 + 3 := by
            obtain ⟨-, hb, hm⟩ := okS_snoc hok2
            have := more3 HS1.out hS2 x.f.toNat x.t.toNat (by unfold badS at hb; omega) (by unfold badS at hb; omega) x.v (fS_snoc rest l x hm hb)
            have e1 := HM1.out
            have e2 := HN1.out
            omega
          have HS2 := Lib.hid hS2
          have HT2 := Lib.hid hT2
          clear hok2 hS2 hT2 HI28
          go_wp2_with fail
          refine (Blocks8_walk w8 g2 (trieS S2) HS2.out.trie HS2.out.pos.1 HT2.out).mono ?_
          rintro e w9 ⟨rfl, q, rfl⟩
          have HB9 := Lib.hid (HB8.out.trans (below_drewN (Below.refl _ w8) q))
          rw [show (trieS S2).mid.length = S2.mids.length from rfl, show (trieS S2).low.length = S2.lows.length from rfl]
          clear HT2 HB8
          generalize w8.drewN q = w9 at *
          generalize hM2 : (S2.mids.length : Int) = M2 at *
          generalize hN2 : (S2.lows.length : Int) = N2 at *
          obtain ⟨c1, c2⟩ := hm2
          clear hM2 hN2
          go_wp2_with fail
          refine (awake_walk _).mono ?_
          rintro e w10 ⟨rfl, hb⟩
          have HB10 := Lib.hid (HB9.out.trans (hb.mono HB9.out.size)); clear hb
          go_wp2
          go_ret
          exact ⟨rfl, HB10.out⟩
        · go_wp2_with fail
          refine (awake_walk _).mono ?_
          rintro e w10 ⟨rfl, hb⟩
          have HB10 := Lib.hid (HB8.out.trans (hb.mono HB8.out.size)); clear hb
          go_wp2
          go_ret
          exact ⟨rfl, HB10.out⟩
      · have h2 : ¬ er2 = 0 := by
          rcases HI1c.out with ⟨-, h⟩ | ⟨h, -⟩
          · rcases HI2c.out with ⟨h', -⟩ | ⟨-, h', -⟩
            · exact h'
            · exact absurd (okS_snoc h').1 h
          · exact absurd h h1
        clear HI1c HI2c
        go_wp2_with fail
        refine (awake_walk _).mono ?_
        rintro e w10 ⟨rfl, hb⟩
        have HB10 := Lib.hid (HB6.out.trans (hb.mono HB6.out.size)); clear hb
        go_wp2
        go_ret
        refine ⟨?_, HB10.out⟩
        show Ending.returned (Value.bool (er1 != 0 && er2 != 0)) = _
        rw [show (er1 != 0 && er2 != 0) = true by simp [h1, h2]]
end Go.Proofs.Ytabbabkmojaoaaa
