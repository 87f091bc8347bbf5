/-
  The walk of VisualOnce.
-/
import Derived.Test.YtcgdhgdblieaiaaW8
set_option linter.unusedVariables false
namespace Go.Proofs.Ytcgdhgdblieaiaa
open Go.RowKit

theorem Try.elemBool : Elem Try.prog 37 4 (.bool false) 1 := ⟨Try.underlying37, by kernel_rfl, by kernel_rfl⟩

/-- a list that is filled from its beginning on -/
def rf (f : Nat → Int) (z : Int) (n k : Nat) : List Int := (List.range n).map (fun x => if x < k then f x else z)
theorem rf_length (f : Nat → Int) (z : Int) (n k : Nat) : (rf f z n k).length = n := by simp [rf]
theorem rf_zero (f : Nat → Int) (z : Int) (n : Nat) : List.replicate n z = rf f z n 0 := by
  apply List.ext_getElem (by simp [rf])
  intro i h1 h2
  simp [rf]
theorem rf_step (f : Nat → Int) (z : Int) (n k : Nat) : (rf f z n k).set k (f k) = rf f z n (k + 1) := by
  apply List.ext_getElem (by simp [rf])
  intro i h1 h2
  simp only [List.getElem_set, rf, List.getElem_map, List.getElem_range]
  by_cases e : k = i
  · subst e; rw [if_pos rfl, if_pos (by omega)]
  · rw [if_neg e]
    by_cases h : i < k
    · rw [if_pos h, if_pos (by omega)]
    · rw [if_neg h, if_neg (by omega)]
theorem rf_getD (f : Nat → Int) (z : Int) (n k i : Nat) (h : i < n) (hk : i < k) : (rf f z n k).getD i 0 = f i := by simp [rf, h, hk]

theorem pickL_getD (xs o : List Int) (j : Nat) (h : j < o.length) : (pickL xs o).getD j 0 = xs.getD o[j].toNat 0 := by simp [pickL, h]

def bvs (S : List Bool) : List Value := S.map .bool
theorem bvs_set (S : List Bool) (i : Nat) (b : Bool) : (bvs S).set i (.bool b) = bvs (S.set i b) := by simp [bvs, List.map_set]

/-- what has been seen stands among the first k -/
def SeenP (o : List Int) (n k : Nat) (S : List Bool) : Prop := S.length = n ∧ ∀ x : Nat, S[x]? = some true → ∃ j, j < k ∧ o.getD j 0 = (x : Int)
theorem SeenP.start (o : List Int) (n : Nat) : SeenP o n 0 (List.replicate n false) := ⟨by simp, fun x h => by simp [List.getElem?_replicate] at h⟩
theorem SeenP.step {o : List Int} {n k : Nat} {S : List Bool} (h : SeenP o n k S) (x : Nat) (hx : o.getD k 0 = (x : Int)) : SeenP o n (k + 1) (S.set x true) := by
  refine ⟨by simp [h.1], fun y hy => ?_⟩
  by_cases e : x = y
  · subst e; exact ⟨k, by omega, hx⟩
  · rw [List.getElem?_set, if_neg e] at hy
    obtain ⟨j, hj, hj2⟩ := h.2 y hy
    exact ⟨j, by omega, hj2⟩
theorem SeenP.fresh {zs : List Int} {n k : Nat} {S : List Bool} (h : SeenP (ord zs) n k S) (hk : k < (ord zs).length) (x : Nat) (hx : (ord zs)[k] = (x : Int)) (hl : x < S.length) : S[x] = false := by
  cases e : S[x] with
  | false => rfl
  | true =>
    obtain ⟨j, hj, hj2⟩ := h.2 x (by rw [List.getElem?_eq_getElem hl, e])
    rw [ord_getD zs j (by omega)] at hj2
    exact absurd (by rw [hj2, hx]) (ord_inj zs j k (by omega) hk (by omega))

def OnceA (zs : List Int) (v9 v7 : Value) : Prop := ∃ k : Nat, k ≤ zs.length ∧ v9 = .int .i64 k ∧ v7 = .int .i64 ((shownL (zs.take k)).length : Nat)
def OnceB (w : World) (zs : List Int) (n : Nat) (v10 : Value) (wr : World) : Prop :=
  ∃ (k : Nat) (S : List Bool), k ≤ (ord zs).length ∧ v10 = .int .i64 k ∧ SeenP (ord zs) n k S ∧ Own w.heap.size 4 wr (some ⟨w.heap.size, 0, none⟩) n n (bvs S) ∧ Below w.heap.size w wr
def OnceC (w : World) (n : Nat) (v12 : Value) (wr : World) : Prop :=
  ∃ k : Nat, k ≤ n ∧ v12 = .int .i64 k ∧ Own w.heap.size 3 wr (some ⟨w.heap.size, 0, none⟩) n n (ivs .i64 (rf (fun x => (x : Int) + 1) 0 n k)) ∧ Below w.heap.size w wr

set_option maxRecDepth 100000 in
set_option maxHeartbeats 2000000 in
theorem once_walk (a : Option Addr) (n cap : Nat) (zs : List Int) (w : World) (hn : zs.length = n) (hm : n ≤ 9223372036854775807) (hc : Ints .i8 w a zs) :
    Calls Try.prog 7 #[.slice a n cap] w fun e w' => e = .returned (.bool true) ∧ Below w.heap.size w w' := by
  have HN := Lib.hid hn; clear hn
  by_cases hok : (okL zs && decide (n ≤ 65536)) = true
  · have HC := Lib.hid hok
    rw [Bool.and_eq_true, decide_eq_true_eq] at hok
    obtain ⟨hk, h65⟩ := hok
    have HK := Lib.hid hk; clear hk
    go_enter Try.func7, Try.ntmps7
    go_wp2_with fail
    refine (lmay_walk a n cap zs _ HN.out hm hc).mono ?_
    rintro e w' ⟨rfl, rfl⟩
    rw [HC.out]
    go_wp2_with fail
    refine (lives_walk _).mono ?_
    rintro e w1 ⟨rfl, hb1⟩
    have HC1 := Lib.hid (hc.below hb1 (Nat.le_refl _))
    have HB1 := Lib.hid hb1; clear hb1
    go_wp2_with fail
    refine (Order_walk a n cap zs _ HN.out (by omega) HK.out HC1.out).mono ?_
    rintro e w2 ⟨a2, n2, cap2, rfl, hown2, hb2⟩
    have hl2 := Lib.hid hown2.lenI
    have hn2 : n2 ≤ n := by have := hown2.lenI; have := ord_le zs; have := HN.out; omega
    have HO2 := Lib.hid hown2; clear hown2
    have HB2 := Lib.hid hb2; clear hb2
    have HC2 := Lib.hid (HC1.out.below HB2.out (Nat.le_refl _))
    go_wp2_with fail
    refine (Places_walk a n cap zs _ HN.out (by omega) HK.out HC2.out).mono ?_
    rintro e w3 ⟨a3, n3, cap3, rfl, hown3, hb3⟩
    obtain rfl : n = n3 := by have := hown3.lenI; rw [placesL_length] at this; have := HN.out; omega
    have HO3 := Lib.hid hown3; clear hown3
    have HB3 := Lib.hid hb3; clear hb3
    have HC3 := Lib.hid (HC2.out.below HB3.out (Nat.le_refl _))
    have HI2 := Lib.hid (HO2.out.ints.below HB3.out (Nat.le_refl _))
    have hnn : ((n : Int) != (n : Int)) = false := by simp
    go_wp2_with (at_make; refine wpList_mk Try.elemBool rfl rfl (.tmp 50) (.tmp 50) rfl n (by omega) (by unfold maxLen; omega) rfl rfl ?_)
    intro w4 hown4 hb4 _
    have HO4 := Lib.hid hown4; clear hown4
    have HB4 := Lib.hid hb4; clear hb4
    have HC4 := Lib.hid (HC3.out.below HB4.out (Nat.le_refl _))
    have HI24 := Lib.hid (HI2.out.below HB4.out (Nat.le_refl _))
    have HI34 := Lib.hid (HO3.out.ints.below HB4.out (Nat.le_refl _))
    go_wp2
    go_loop [9, 7] (OnceA zs) (fun i _ => n - (intOf i).toNat)
    case atStart => exact ⟨0, Nat.zero_le _, rfl, rfl⟩
    case round =>
      obtain ⟨k, hk, rfl, rfl⟩ := hrel
      have hsl : (shownL (zs.take k)).length ≤ n := by have := shownL_le (zs.take k); have := List.length_take_le' k zs; have := HN.out; omega
      by_cases hkn : k < n
      · have hkz : k < zs.length := by rw [HN.out]; exact hkn
        obtain ⟨b, o, ha⟩ := HC4.out.some (by omega)
        subst ha
        have c0 := HC4.out.get k hkz
        obtain ⟨g3, ha, _⟩ := HO3.out.at (by omega)
        subst ha
        have hkp : k < (placesL zs).length := by rw [placesL_length]; exact hkz
        have c3 := HI34.out.get k hkp
        simp only [Nat.zero_add] at c3
        have hz := okL_get zs HK.out k hkz
        by_cases h0 : 0 ≤ zs[k]
        · have HS := Lib.hid (congrArg List.length (shownL_yes zs k hkz h0))
          obtain ⟨j, hj1, hj2, hj3⟩ := places_shown zs k hkz (by omega)
          rw [hj3] at c3
          obtain ⟨g2, ha, _⟩ := HO2.out.at (by have := hl2.out; omega)
          subst ha
          have c2 := HI24.out.get j hj1
          rw [hj2] at c2
          simp only [Nat.zero_add] at c2
          have hjn : j < n2 := by have := hl2.out; omega
          have hkk : ((k : Int) != (k : Int)) = false := by simp
          clear hj1 hj2 hj3
          go_wp2
          go_round
          case rel => exact ⟨k + 1, by omega, by go_num, by rw [HS.out]; simp⟩
          case measure => simp [intOf]; omega
        · have HS := Lib.hid (congrArg List.length (shownL_no zs k hkz h0))
          have hg : zs[k] = -1 := by omega
          rw [places_gone zs k hkz hg] at c3
          clear hg
          go_wp2
          go_round
          case rel => exact ⟨k + 1, by omega, by go_num, by rw [HS.out]⟩
          case measure => simp [intOf]; omega
      · have hse : (shownL (zs.take k)).length = n2 := by
          rw [List.take_of_length_le (by have := HN.out; omega), shownIdx_count zs (fun x hx => (okL_mem zs HK.out x hx).1)]
          exact hl2.out
        rw [hse]
        clear hse hsl
        go_wp2
        go_loopw [10] (OnceB w3 zs n) (fun i _ => n2 - (intOf i).toNat)
        case atStart => exact ⟨0, List.replicate n false, Nat.zero_le _, rfl, SeenP.start _ _, by have := HO4.out; simpa [bvs] using this, HB4.out⟩
        case round =>
          obtain ⟨k, S, hk, rfl, hS, hown, hbel⟩ := hrel
          have HS := Lib.hid hS; clear hS
          have HO5 := Lib.hid hown; clear hown
          have HB5 := Lib.hid hbel; clear hbel
          by_cases hk2 : k < n2
          · have hko : k < (ord zs).length := by rw [hl2.out]; exact hk2
            obtain ⟨x, hxe, hxl⟩ := ord_nonneg zs k hko
            have hmem := ((mem_ord zs _).1 (List.getElem_mem hko)).2.2
            rw [hxe] at hmem
            simp only [Int.toNat_natCast, List.getD_eq_getElem?_getD, List.getElem?_eq_getElem hxl, Option.getD_some] at hmem
            have hz := okL_get zs HK.out x hxl
            have hz0 : 0 ≤ zs[x] := by omega
            obtain ⟨g2, ha, _⟩ := HO2.out.at (by omega)
            subst ha
            have c2 := (HI2.out.below HB5.out (Nat.le_refl _)).get k hko
            rw [hxe] at c2
            simp only [Nat.zero_add] at c2
            obtain ⟨b, o, ha⟩ := HC3.out.some (by omega)
            subst ha
            have c0 := (HC3.out.below HB5.out (Nat.le_refl _)).get x hxl
            have hxn : x < n := by have := HN.out; omega
            have hxS : x < S.length := by rw [HS.out.1]; exact hxn
            have c5 := HO5.out.cell x (by simpa [bvs] using hxS)
            rw [show (bvs S)[x]'(by simpa [bvs] using hxS) = .bool false from by simp [bvs, HS.out.fresh hko x hxe hxS]] at c5
            have fr := HO5.out.unfrozen x
            have HP := Lib.hid (HS.out.step x (by rw [ord_getD zs k hko, hxe]))
            clear hxe hmem
            go_wp2
            go_roundw
            case rel =>
              refine ⟨k + 1, S.set x true, by have := hl2.out; omega, by go_num, HP.out, ?_, HB5.out.trans ((Below.refl _ _).setCell (p := ⟨w3.heap.size, x, none⟩) (Nat.le_refl _) _)⟩
              rw [← bvs_set]
              exact HO5.out.store x _
            case measure => simp [intOf]; omega
          · go_wp2_with (at_make; refine wpList_mk Try.elemInt rfl rfl (.tmp 141) (.tmp 141) rfl n (by omega) (by unfold maxLen; omega) rfl rfl ?_)
            intro w6 hown6 hb6 _
            have HO6 := Lib.hid hown6; clear hown6
            have HB6 := Lib.hid hb6; clear hb6
            obtain ⟨w5, rfl⟩ : ∃ w5 : World, w5 = wr := ⟨_, rfl⟩
            go_wp2
            go_loopw [12] (OnceC w5 n) (fun i _ => n - (intOf i).toNat)
            case atStart => exact ⟨0, Nat.zero_le _, rfl, by rw [← rf_zero, ← ivs_replicate]; exact HO6.out, HB6.out⟩
            case round =>
              obtain ⟨k, hk, rfl, hown, hbel⟩ := hrel
              have HO7 := Lib.hid hown; clear hown
              have HB7 := Lib.hid hbel; clear hbel
              by_cases hkn : k < n
              · have fr := HO7.out.unfrozen k
                have cl : ∃ u, wr.cell? ⟨w5.heap.size, k, none⟩ = some u := ⟨_, HO7.out.cell k (by rw [HO7.out.len]; exact hkn)⟩
                obtain ⟨u, cl⟩ := cl
                go_wp2
                go_roundw
                case rel =>
                  refine ⟨k + 1, by omega, by go_num, ?_, HB7.out.trans ((Below.refl _ _).setCell (p := ⟨w5.heap.size, k, none⟩) (Nat.le_refl _) _)⟩
                  rw [← rf_step, ← ivs_set]
                  exact HO7.out.store k _
                case measure => simp [intOf]; omega
              · obtain rfl : n = k := by omega
                obtain ⟨w7, rfl⟩ : ∃ w7 : World, w7 = wr := ⟨_, rfl⟩
                have HC7 := Lib.hid ((HC3.out.below HB5.out (Nat.le_refl _)).below HB7.out (Nat.le_refl _))
                go_wp2_with fail
                refine (TurnInt_walk _ a n n cap (rf (fun x => (x : Int) + 1) 0 n n) zs _ HN.out (rf_length _ _ _ _) (by omega) HK.out HO7.out.ints HC7.out).mono ?_
                rintro e w8 ⟨a8, n8, cap8, rfl, hown8, hb8⟩
                obtain rfl : n2 = n8 := by have := hown8.lenI; rw [pickL_length, hl2.out] at this; exact this
                have HO8 := Lib.hid hown8; clear hown8
                have HB8 := Lib.hid hb8; clear hb8
                have HC8 := Lib.hid (HC7.out.below HB8.out (Nat.le_refl _))
                have hl8 := Lib.hid HO8.out.lenI
                go_wp2_with fail
                refine (BackInt_walk a8 a n2 cap8 n cap (pickL (rf (fun x => (x : Int) + 1) 0 n n) (ord zs)) zs _ HN.out hl8.out hl2.out.symm (by omega) HK.out HO8.out.ints HC8.out).mono ?_
                rintro e w9 ⟨a9, n9, cap9, rfl, hown9, hb9⟩
                obtain rfl : n = n9 := by have := hown9.lenI; rw [backL_length, HN.out] at this; exact this
                have HO9 := Lib.hid hown9; clear hown9
                have HB9 := Lib.hid hb9; clear hb9
                have HC9 := Lib.hid (HC8.out.below HB9.out (Nat.le_refl _))
                have HBall := Lib.hid (below_seq HB1.out (below_seq HB2.out (below_seq HB3.out (below_seq HB5.out (below_seq HB7.out (below_seq HB8.out HB9.out))))))
                have hnn2 : ((n2 : Int) != (n2 : Int)) = false := by simp
                go_wp2
                go_loop [17] (fun i => ∃ k : Nat, k ≤ n ∧ i = .int .i64 k) (fun i => n - (intOf i).toNat)
                case atStart => exact ⟨0, Nat.zero_le _, rfl⟩
                case round =>
                  obtain ⟨k, hk, rfl⟩ := hrel
                  by_cases hkn : k < n
                  · have hkz : k < zs.length := by rw [HN.out]; exact hkn
                    obtain ⟨b, o, ha⟩ := HC9.out.some (by omega)
                    subst ha
                    have c0 := HC9.out.get k hkz
                    obtain ⟨g9, ha, _⟩ := HO9.out.at (by omega)
                    subst ha
                    have hkb : k < (backL (pickL (rf (fun x => (x : Int) + 1) 0 n n) (ord zs)) zs).length := by rw [backL_length]; exact hkz
                    have c9 := HO9.out.ints.get k hkb
                    simp only [Nat.zero_add] at c9
                    have hz := okL_get zs HK.out k hkz
                    by_cases h0 : 0 ≤ zs[k]
                    · obtain ⟨j, hj1, hj2, hj3⟩ := back_shown (pickL (rf (fun x => (x : Int) + 1) 0 n n) (ord zs)) zs k hkz (by omega)
                      have hv : (pickL (rf (fun x => (x : Int) + 1) 0 n n) (ord zs)).getD j 0 = (k : Int) + 1 := by
                        rw [pickL_getD _ _ _ hj1, hj2]
                        have := rf_getD (fun x => (x : Int) + 1) 0 n n k hkn hkn
                        simpa using this
                      rw [hj3, hv] at c9
                      have hkk : (((k : Int) + 1) != ((k : Int) + 1)) = false := by simp
                      clear hj3 hv hj1 hj2
                      go_wp2
                      go_round
                      case rel => exact ⟨k + 1, by omega, by go_num⟩
                      case measure => simp [intOf]; omega
                    · have hg : zs[k] = -1 := by omega
                      rw [back_gone _ zs k hkz hg] at c9
                      clear hg
                      go_wp2
                      go_round
                      case rel => exact ⟨k + 1, by omega, by go_num⟩
                      case measure => simp [intOf]; omega
                  · go_wp2
                    go_ret
                    exact ⟨rfl, HBall.out⟩
  · have hf : (okL zs && decide (n ≤ 65536)) = false := by simpa using hok
    have HC := Lib.hid hf; clear hf hok
    go_enter Try.func7, Try.ntmps7
    go_wp2_with fail
    refine (lmay_walk a n cap zs _ HN.out hm hc).mono ?_
    rintro e w' ⟨rfl, rfl⟩
    rw [HC.out]
    go_wp2_with fail
    refine (lives_walk _).mono ?_
    rintro e w1 ⟨rfl, hb1⟩
    go_wp2
    go_ret
    exact ⟨rfl, hb1⟩
end Go.Proofs.Ytcgdhgdblieaiaa
