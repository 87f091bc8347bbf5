/-
  The document's line: made, or refused.
-/
import Derived.Test.YtnnfhldfdiaddaaXB
import Derived.Test.YtnnfhldfdiaddaaL6
set_option linter.unusedVariables false
namespace Go.Proofs.Ytnnfhldfdiaddaa
open Go.RowKit

def RNewPost (a : Option Addr) (cap : Nat) (a1 : Option Addr) (cap1 : Nat) (base : Int) (lv ws : List Int) (w : World) (e : Ending) (w' : World) : Prop :=
  (LineOk base lv ws ∧ ∃ g, e = .returned (.tuple #[.pointer (some ⟨g, 0, none⟩), .int .i64 0]) ∧ RefX w.heap.size w' g base lv ws a cap a1 cap1 ∧ w.heap.size ≤ g ∧ Below w.heap.size w w') ∨
  (newErr base lv ws ≠ 0 ∧ e = .returned (.tuple #[.pointer none, .int .i64 (newErr base lv ws)]) ∧ w = w')

theorem rNew_bad (base : Int) (a a1 : Option Addr) (n cap n1 cap1 : Nat) (lv ws : List Int) (w : World) (h0 : base ≠ 0) (h1 : base ≠ 1) :
    Calls Try.prog 25 #[.int .i8 base, .slice a n cap, .slice a1 n1 cap1] w (RNewPost a cap a1 cap1 base lv ws w) := by
  have HE : Hid (newErr base lv ws = 160) := Lib.hid (if_pos ⟨h0, h1⟩)
  have e0 : (base != 0) = true := by simpa using h0
  have e1 : (base != 1) = true := by simpa using h1
  clear h0 h1
  go_enter Try.func25, Try.ntmps25
  go_wp2
  go_ret2
  exact .inr ⟨by rw [HE.out]; omega, by rw [HE.out]; rfl, rfl⟩
theorem rNew_lv (base : Int) (h01 : base = 0 ∨ base = 1) (a a1 : Option Addr) (n cap n1 cap1 : Nat) (lv ws : List Int) (w : World) (HN : Hid (lv.length = n)) (hlt : n ≤ 1048576) (hok : okL lv = false) (hc : Ints .i8 w a lv) :
    Calls Try.prog 25 #[.int .i8 base, .slice a n cap, .slice a1 n1 cap1] w (RNewPost a cap a1 cap1 base lv ws w) := by
  have HE : Hid (newErr base lv ws = 2) := Lib.hid (by unfold newErr; rw [if_neg (by omega), if_pos hok])
  have hm : mayN lv = 2 := by unfold mayN; rw [hok]; rfl
  have HM := Lib.hid hm; clear hm hok
  rcases h01 with rfl | rfl
  all_goals
    go_enter Try.func25, Try.ntmps25
    go_wp2_with fail
    refine (Check_walk a n cap lv _ HN.out hlt hc).mono ?_
    rintro e w' ⟨rfl, rfl⟩
    rw [HM.out]
    go_wp2
    go_ret2
    exact .inr ⟨by rw [HE.out]; omega, by rw [HE.out]; rfl, rfl⟩
set_option maxRecDepth 20000 in
set_option maxHeartbeats 2000000 in
theorem rNew_in (base : Int) (h01 : base = 0 ∨ base = 1) (a a1 : Option Addr) (n cap n1 cap1 : Nat) (lv ws : List Int) (w : World) (HN : Hid (lv.length = n)) (HN1 : Hid (ws.length = n1)) (hlt : n ≤ 1048576) (hlt1 : n1 ≤ 9223372036854775807) (HK : Hid (okL lv = true)) (hc : Ints .i8 w a lv) (hc1 : Ints .i64 w a1 ws) :
    Calls Try.prog 25 #[.int .i8 base, .slice a n cap, .slice a1 n1 cap1] w (RNewPost a cap a1 cap1 base lv ws w) := by
  have hm : mayN lv = 0 := by unfold mayN; rw [HK.out]; rfl
  have HM := Lib.hid hm; clear hm
  have HC := Lib.hid hc; clear hc
  have HC1 := Lib.hid hc1; clear hc1
  rcases h01 with rfl | rfl
  · go_enter Try.func25, Try.ntmps25
    go_wp2_with fail
    refine (Check_walk a n cap lv _ HN.out hlt HC.out).mono ?_
    rintro e w' ⟨rfl, rfl⟩
    rw [HM.out]
    go_wp2
    go_loop [9] (NewA 0 lv n) (fun v => n - (intOf v).toNat)
    case atStart => exact ⟨0, Nat.zero_le _, rfl, by simp⟩
    case round =>
      obtain ⟨k, hk, rfl, hall⟩ := hrel
      have HA := Lib.hid hall; clear hall
      by_cases hkn : k < n
      · have hkl : k < lv.length := by rw [HN.out]; exact hkn
        obtain ⟨b, o, ha⟩ := HC.out.some (by omega)
        subst ha
        have c0 := HC.out.get k hkl
        have hz := okL_get lv HK.out k hkl
        by_cases hgone : lv[k] = -1
        · have HT := Lib.hid (take_all hkl HA.out (fun h => absurd hgone h))
          rw [hgone] at c0
          clear hgone
          go_wp2
          go_round
          case rel => exact ⟨k + 1, by omega, by go_num, HT.out⟩
          case measure => simp [intOf]; omega
        · have hge : 0 ≤ lv[k] := by omega
          by_cases hlo : lv[k] < 0
          · have HE : Hid (newErr 0 lv ws = 2) := by
              refine Lib.hid ?_
              unfold newErr
              rw [if_neg (by omega), if_neg (by rw [HK.out]; simp), if_pos (fun h => by have := h _ (List.getElem_mem hkl) hgone; omega)]
            clear hgone
            generalize lv[k] = x at *
            go_wp2
            go_ret2
            exact .inr ⟨by rw [HE.out]; omega, by rw [HE.out]; rfl, rfl⟩
          · have HT := Lib.hid (take_all hkl HA.out (fun _ => by omega))
            clear hgone
            generalize lv[k] = x at *
            go_wp2
            go_round
            case rel => exact ⟨k + 1, by omega, by go_num, HT.out⟩
            case measure => simp [intOf]; omega
      · rw [List.take_of_length_le (by have := HN.out; omega)] at HA
        by_cases hlen : n1 = n
        · subst hlen
          have hne : ((n1 : Int) != (n1 : Int)) = false := by simp
          go_wp2
          go_loop [10] (NewB ws n1) (fun v => n1 - (intOf v).toNat)
          case atStart => exact ⟨0, Nat.zero_le _, rfl, by simp⟩
          case round =>
            obtain ⟨k, hk, rfl, hall⟩ := hrel
            have HA2 := Lib.hid hall; clear hall
            by_cases hkn : k < n1
            · have hkl : k < ws.length := by rw [HN1.out]; exact hkn
              obtain ⟨b, o, ha⟩ := HC1.out.some (by omega)
              subst ha
              have c0 := HC1.out.get k hkl
              by_cases hr : 0 ≤ ws[k] ∧ ws[k] ≤ 1048576
              · have HT := Lib.hid (take_all hkl HA2.out hr)
                obtain ⟨hr0, hr1⟩ := hr
                generalize ws[k] = x at *
                go_wp2
                go_round
                case rel => exact ⟨k + 1, by omega, by go_num, HT.out⟩
                case measure => simp [intOf]; omega
              · have HE : Hid (newErr 0 lv ws = 251) := by
                  refine Lib.hid ?_
                  unfold newErr
                  rw [if_neg (by omega), if_neg (by rw [HK.out]; simp), if_neg (fun h => h HA.out), if_neg (by rw [HN.out, HN1.out]; simp), if_pos (fun h => hr (h _ (List.getElem_mem hkl)))]
                have hr2 : ws[k] < 0 ∨ (¬ ws[k] < 0 ∧ 1048576 < ws[k]) := by omega
                clear hr
                generalize ws[k] = x at *
                rcases hr2 with hr2 | ⟨hr2, hr3⟩
                all_goals
                  go_wp2
                  go_ret2
                  exact .inr ⟨by rw [HE.out]; omega, by rw [HE.out]; rfl, rfl⟩
            · rw [List.take_of_length_le (by have := HN1.out; omega)] at HA2
              have hL : LineOk 0 lv ws := ⟨by omega, HK.out, HA.out, by rw [HN.out, HN1.out], HA2.out, by rw [HN.out]; exact hlt⟩
              have HL := Lib.hid hL; clear hL
              go_wp2_with fail
              refine (rOrder_walk a n1 cap lv _ HN.out hlt HK.out HC.out).mono ?_
              rintro e w1 ⟨aO, m, cO, rfl, hown1, hb1⟩
              have hm := Lib.hid hown1.lenI
              have HO1 := Lib.hid hown1; clear hown1
              have HB1 := Lib.hid hb1; clear hb1
              go_wp2_with fail
              refine (rPlaces_walk a n1 cap lv _ HN.out hlt HK.out (HC.out.below HB1.out (Nat.le_refl _))).mono ?_
              rintro e w2 ⟨aA, n3, cA, rfl, hown2, hb2⟩
              obtain rfl : n1 = n3 := by have := hown2.lenI; rw [placesL_length] at this; have := HN.out; omega
              have HO2 := Lib.hid hown2; clear hown2
              have HB2 := Lib.hid hb2; clear hb2
              go_wp2
              go_ret2
              have hB := below_seq HB1.out HB2.out
              have hal : Below w2.heap.size w2 (w2.alloc (.cells #[.int .i8 0, .slice a n1 cap, .slice a1 n1 cap1, .slice aO m cO, .slice aA n1 cA] 73)) := (Below.refl _ _).alloc (Nat.le_refl _) _
              refine .inl ⟨HL.out, w2.heap.size, rfl, ⟨HL.out, hB.size, aO, cO, aA, cA, ?_, ⟨?_, ?_⟩, HO1.out.ab, HO2.out.ab.mono HB1.out.size⟩, hB.size, below_seq hB hal⟩
              · rw [HN.out, HN1.out, hm.out]
                exact heap_alloc_new w2 _
              · exact (HO1.out.ints.below HB2.out (Nat.le_refl _)).below hal (Nat.le_refl _)
              · exact HO2.out.ints.below hal (Nat.le_refl _)
        · have HE : Hid (newErr 0 lv ws = 220) := by
            refine Lib.hid ?_
            unfold newErr
            rw [if_neg (by omega), if_neg (by rw [HK.out]; simp), if_neg (fun h => h HA.out), if_pos (by rw [HN.out, HN1.out]; exact hlen)]
          have hne : ((n1 : Int) != (n : Int)) = true := by simp; omega
          clear hlen
          go_wp2
          go_ret2
          exact .inr ⟨by rw [HE.out]; omega, by rw [HE.out]; rfl, rfl⟩
  · go_enter Try.func25, Try.ntmps25
    go_wp2_with fail
    refine (Check_walk a n cap lv _ HN.out hlt HC.out).mono ?_
    rintro e w' ⟨rfl, rfl⟩
    rw [HM.out]
    go_wp2
    go_loop [9] (NewA 1 lv n) (fun v => n - (intOf v).toNat)
    case atStart => exact ⟨0, Nat.zero_le _, rfl, by simp⟩
    case round =>
      obtain ⟨k, hk, rfl, hall⟩ := hrel
      have HA := Lib.hid hall; clear hall
      by_cases hkn : k < n
      · have hkl : k < lv.length := by rw [HN.out]; exact hkn
        obtain ⟨b, o, ha⟩ := HC.out.some (by omega)
        subst ha
        have c0 := HC.out.get k hkl
        have hz := okL_get lv HK.out k hkl
        by_cases hgone : lv[k] = -1
        · have HT := Lib.hid (take_all hkl HA.out (fun h => absurd hgone h))
          rw [hgone] at c0
          clear hgone
          go_wp2
          go_round
          case rel => exact ⟨k + 1, by omega, by go_num, HT.out⟩
          case measure => simp [intOf]; omega
        · have hge : 0 ≤ lv[k] := by omega
          by_cases hlo : lv[k] < 1
          · have HE : Hid (newErr 1 lv ws = 2) := by
              refine Lib.hid ?_
              unfold newErr
              rw [if_neg (by omega), if_neg (by rw [HK.out]; simp), if_pos (fun h => by have := h _ (List.getElem_mem hkl) hgone; omega)]
            clear hgone
            generalize lv[k] = x at *
            go_wp2
            go_ret2
            exact .inr ⟨by rw [HE.out]; omega, by rw [HE.out]; rfl, rfl⟩
          · have HT := Lib.hid (take_all hkl HA.out (fun _ => by omega))
            clear hgone
            generalize lv[k] = x at *
            go_wp2
            go_round
            case rel => exact ⟨k + 1, by omega, by go_num, HT.out⟩
            case measure => simp [intOf]; omega
      · rw [List.take_of_length_le (by have := HN.out; omega)] at HA
        by_cases hlen : n1 = n
        · subst hlen
          have hne : ((n1 : Int) != (n1 : Int)) = false := by simp
          go_wp2
          go_loop [10] (NewB ws n1) (fun v => n1 - (intOf v).toNat)
          case atStart => exact ⟨0, Nat.zero_le _, rfl, by simp⟩
          case round =>
            obtain ⟨k, hk, rfl, hall⟩ := hrel
            have HA2 := Lib.hid hall; clear hall
            by_cases hkn : k < n1
            · have hkl : k < ws.length := by rw [HN1.out]; exact hkn
              obtain ⟨b, o, ha⟩ := HC1.out.some (by omega)
              subst ha
              have c0 := HC1.out.get k hkl
              by_cases hr : 0 ≤ ws[k] ∧ ws[k] ≤ 1048576
              · have HT := Lib.hid (take_all hkl HA2.out hr)
                obtain ⟨hr0, hr1⟩ := hr
                generalize ws[k] = x at *
                go_wp2
                go_round
                case rel => exact ⟨k + 1, by omega, by go_num, HT.out⟩
                case measure => simp [intOf]; omega
              · have HE : Hid (newErr 1 lv ws = 251) := by
                  refine Lib.hid ?_
                  unfold newErr
                  rw [if_neg (by omega), if_neg (by rw [HK.out]; simp), if_neg (fun h => h HA.out), if_neg (by rw [HN.out, HN1.out]; simp), if_pos (fun h => hr (h _ (List.getElem_mem hkl)))]
                have hr2 : ws[k] < 0 ∨ (¬ ws[k] < 0 ∧ 1048576 < ws[k]) := by omega
                clear hr
                generalize ws[k] = x at *
                rcases hr2 with hr2 | ⟨hr2, hr3⟩
                all_goals
                  go_wp2
                  go_ret2
                  exact .inr ⟨by rw [HE.out]; omega, by rw [HE.out]; rfl, rfl⟩
            · rw [List.take_of_length_le (by have := HN1.out; omega)] at HA2
              have hL : LineOk 1 lv ws := ⟨by omega, HK.out, HA.out, by rw [HN.out, HN1.out], HA2.out, by rw [HN.out]; exact hlt⟩
              have HL := Lib.hid hL; clear hL
              go_wp2_with fail
              refine (rOrder_walk a n1 cap lv _ HN.out hlt HK.out HC.out).mono ?_
              rintro e w1 ⟨aO, m, cO, rfl, hown1, hb1⟩
              have hm := Lib.hid hown1.lenI
              have HO1 := Lib.hid hown1; clear hown1
              have HB1 := Lib.hid hb1; clear hb1
              go_wp2_with fail
              refine (rPlaces_walk a n1 cap lv _ HN.out hlt HK.out (HC.out.below HB1.out (Nat.le_refl _))).mono ?_
              rintro e w2 ⟨aA, n3, cA, rfl, hown2, hb2⟩
              obtain rfl : n1 = n3 := by have := hown2.lenI; rw [placesL_length] at this; have := HN.out; omega
              have HO2 := Lib.hid hown2; clear hown2
              have HB2 := Lib.hid hb2; clear hb2
              go_wp2
              go_ret2
              have hB := below_seq HB1.out HB2.out
              have hal : Below w2.heap.size w2 (w2.alloc (.cells #[.int .i8 1, .slice a n1 cap, .slice a1 n1 cap1, .slice aO m cO, .slice aA n1 cA] 73)) := (Below.refl _ _).alloc (Nat.le_refl _) _
              refine .inl ⟨HL.out, w2.heap.size, rfl, ⟨HL.out, hB.size, aO, cO, aA, cA, ?_, ⟨?_, ?_⟩, HO1.out.ab, HO2.out.ab.mono HB1.out.size⟩, hB.size, below_seq hB hal⟩
              · rw [HN.out, HN1.out, hm.out]
                exact heap_alloc_new w2 _
              · exact (HO1.out.ints.below HB2.out (Nat.le_refl _)).below hal (Nat.le_refl _)
              · exact HO2.out.ints.below hal (Nat.le_refl _)
        · have HE : Hid (newErr 1 lv ws = 220) := by
            refine Lib.hid ?_
            unfold newErr
            rw [if_neg (by omega), if_neg (by rw [HK.out]; simp), if_neg (fun h => h HA.out), if_pos (by rw [HN.out, HN1.out]; exact hlen)]
          have hne : ((n1 : Int) != (n : Int)) = true := by simp; omega
          clear hlen
          go_wp2
          go_ret2
          exact .inr ⟨by rw [HE.out]; omega, by rw [HE.out]; rfl, rfl⟩
theorem rNew_walk (base : Int) (a a1 : Option Addr) (n cap n1 cap1 : Nat) (lv ws : List Int) (w : World) (hn : lv.length = n) (hn1 : ws.length = n1) (hlt : n ≤ 1048576) (hlt1 : n1 ≤ 9223372036854775807) (hc : Ints .i8 w a lv) (hc1 : Ints .i64 w a1 ws) :
    Calls Try.prog 25 #[.int .i8 base, .slice a n cap, .slice a1 n1 cap1] w (RNewPost a cap a1 cap1 base lv ws w) := by
  by_cases h01 : base = 0 ∨ base = 1
  · cases hok : okL lv with
    | true => exact rNew_in base h01 a a1 n cap n1 cap1 lv ws w hn hn1 hlt hlt1 hok hc hc1
    | false => exact rNew_lv base h01 a a1 n cap n1 cap1 lv ws w hn hlt hok hc
  · exact rNew_bad base a a1 n cap n1 cap1 lv ws w (fun h => h01 (.inl h)) (fun h => h01 (.inr h))
end Go.Proofs.Ytnnfhldfdiaddaa
