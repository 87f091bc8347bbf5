/-
  The walks of VisualNames and VisualRaised.
-/
import Derived.Test.YtcgdhgdblieaiaaW5
import Derived.Test.YtcgdhgdblieaiaaP3
namespace Go.Proofs.Ytcgdhgdblieaiaa
open Go.RowKit

theorem names_walk (w : World) : Calls Try.prog 6 #[] w fun e w' => e = .returned (.bool true) ∧ Below w.heap.size w w' := by
  go_enter Try.func6, Try.ntmps6
  go_wp2_with fail
  refine (lives_walk _).mono ?_
  rintro e w1 ⟨rfl, hb1⟩
  go_wp2
  go_ret
  exact ⟨rfl, hb1⟩

/-- the part that every statement of this file begins with, where nothing is asked -/
theorem okL_mem (zs : List Int) (h : okL zs = true) : ∀ x ∈ zs, -1 ≤ x ∧ x ≤ 126 := by
  intro x hx
  obtain ⟨i, hi, rfl⟩ := List.getElem_of_mem hx
  exact okL_get zs h i hi
theorem okL_mem2 (zs : List Int) (h : ∀ x ∈ zs, -1 ≤ x ∧ x ≤ 126) : okL zs = true := by
  unfold okL
  rw [List.all_eq_true]
  intro x hx
  simpa using h x hx

def RaisedR (w : World) (all : Bool) (zs : List Int) (v i : Value) (wr : World) : Prop :=
  ∃ k : Nat, k ≤ zs.length ∧ i = .int .i64 k ∧ (∀ x ∈ zs.take k, raises all x = true → x ≤ 124) ∧ ∃ a' n' cap', v = .slice a' n' cap' ∧ Own w.heap.size 33 wr a' n' cap' (ivs .i8 (raiseL all (zs.take k))) ∧ Below w.heap.size w wr

theorem raised_snoc (all : Bool) (zs : List Int) (k : Nat) (h : k < zs.length) (h1 : ∀ x ∈ zs.take k, raises all x = true → x ≤ 124) (h2 : raises all zs[k] = true → zs[k] ≤ 124) : ∀ x ∈ zs.take (k + 1), raises all x = true → x ≤ 124 := by
  rw [List.take_succ_eq_append_getElem h]
  intro x hx
  rcases List.mem_append.1 hx with hx | hx
  · exact h1 x hx
  · simp at hx; subst hx; exact h2

set_option maxHeartbeats 1000000 in
theorem raised_walk (a : Option Addr) (n cap : Nat) (zs : List Int) (all : Bool) (w : World) (hn : zs.length = n) (hm : n ≤ 9223372036854775807) (hc : Ints .i8 w a zs) :
    Calls Try.prog 5 #[.slice a n cap, .bool all] w fun e w' => e = .returned (.bool true) ∧ Below w.heap.size w w' := by
  have HN := Lib.hid hn; clear hn
  by_cases hok : (okL zs && decide (n ≤ 65536)) = true
  · have HC := Lib.hid hok
    rw [Bool.and_eq_true, decide_eq_true_eq] at hok
    obtain ⟨hk, h65⟩ := hok
    have HK := Lib.hid hk; clear hk
    go_enter Try.func5, Try.ntmps5
    go_wp2_with fail
    refine (lmay_walk a n cap zs _ HN.out hm hc).mono ?_
    rintro e w' ⟨rfl, rfl⟩
    rw [HC.out]
    go_wp2_with fail
    refine (lives_walk _).mono ?_
    rintro e w1 ⟨rfl, hb1⟩
    have hc1 := hc.below hb1 (Nat.le_refl _)
    have HB1 := Lib.hid hb1; clear hb1
    go_wp2
    go_loopw [5, 6] (RaisedR w1 all zs) (fun _ i _ => zs.length - (intOf i).toNat)
    case atStart => exact ⟨0, Nat.zero_le _, rfl, by simp, none, 0, 0, rfl, Own.nil _ _ _, Below.refl _ _⟩
    case round =>
      obtain ⟨k, hk, rfl, hr, a', n', cap', rfl, hown, hbel⟩ := hrel
      have HR := Lib.hid hr; clear hr
      have hn' : n' ≤ zs.length := by have := hown.lenI; have := raiseL_length all (zs.take k); have := List.length_take_le' k zs; omega
      have hzn : zs.length ≤ n := by have := HN.out; omega
      have hzn2 : n ≤ zs.length := by have := HN.out; omega
      have HO := Lib.hid hown; clear hown
      have HB := Lib.hid hbel; clear hbel
      by_cases hlt : k < n
      · have hkz : k < zs.length := by omega
        obtain ⟨b, o, ha⟩ := hc.some (by omega)
        subst ha
        have hcell := (hc1.below HB.out (Nat.le_refl _)).get k hkz
        obtain ⟨hx1, hx2⟩ := okL_get zs HK.out k hkz
        have push : ∀ y : Int, raiseL all (zs.take (k + 1)) = raiseL all (zs.take k) ++ [y] → (raises all zs[k] = true → zs[k] ≤ 124) → Hid (raiseL all (zs.take (k + 1)) = raiseL all (zs.take k) ++ [y]) ∧ Hid (∀ x ∈ zs.take (k + 1), raises all x = true → x ≤ 124) :=
          fun y h1 h2 => ⟨h1, raised_snoc all zs k hkz HR.out h2⟩
        have HP := Lib.hid push; clear push
        by_cases h0 : 0 ≤ zs[k]
        · by_cases hraise : raises all zs[k] = true
          · have HRK := Lib.hid hraise
            have hall : all = true ∨ (all = false ∧ 1 < zs[k]) := by
              cases all with
              | true => exact .inl rfl
              | false => simp [raises] at hraise; exact .inr ⟨rfl, hraise.2⟩
            clear hraise
            by_cases h124 : 124 < zs[k]
            · rcases hall with rfl | ⟨rfl, h1⟩
              · go_wp2
                go_ret
                exact ⟨rfl, below_seq HB1.out HB.out⟩
              · go_wp2
                go_ret
                exact ⟨rfl, below_seq HB1.out HB.out⟩
            · obtain ⟨HS, HT⟩ := HP.out (zs[k] + 2) (raiseL_yes all zs k hkz HRK.out) (fun _ => by omega)
              rcases hall with rfl | ⟨rfl, h1⟩
              all_goals
                go_wp2_with (at_builtin; refine wpList_app1 Try.elemLevel rfl (.tmp 43) (.tmp 45) rfl HO.out HB.out.size (by omega) (by omega) _ rfl _ rfl rfl ?_)
                intro a2 cap2 w2 hown2 hg
                have HO2 := Lib.hid hown2; clear hown2
                have HG := Lib.hid (HO.out.app hg HB.out.size); clear hg
                go_wp2
                go_roundw
                case rel => exact ⟨k + 1, by omega, by go_num, HT.out, _, _, _, rfl, by rw [HS.out, ivs_append]; exact HO2.out, HB.out.trans HG.out⟩
                case measure => simp [intOf]; omega
          · have hrf : raises all zs[k] = false := by simpa using hraise
            have HRK := Lib.hid hrf
            have hall : all = false ∧ ¬ 1 < zs[k] := by
              cases all with
              | true => simp [raises, h0] at hrf
              | false => simp [raises, h0] at hrf; exact ⟨rfl, by omega⟩
            obtain ⟨rfl, h1⟩ := hall
            clear hraise hrf
            obtain ⟨HS, HT⟩ := HP.out zs[k] (raiseL_no false zs k hkz HRK.out) (fun h => by rw [HRK.out] at h; cases h)
            go_wp2_with (at_builtin; refine wpList_app1 Try.elemLevel rfl (.tmp 43) (.tmp 45) rfl HO.out HB.out.size (by omega) (by omega) _ rfl _ rfl rfl ?_)
            intro a2 cap2 w2 hown2 hg
            have HO2 := Lib.hid hown2; clear hown2
            have HG := Lib.hid (HO.out.app hg HB.out.size); clear hg
            go_wp2
            go_roundw
            case rel => exact ⟨k + 1, by omega, by go_num, HT.out, _, _, _, rfl, by rw [HS.out, ivs_append]; exact HO2.out, HB.out.trans HG.out⟩
            case measure => simp [intOf]; omega
        · have HRK := Lib.hid (show raises all zs[k] = false by simp [raises, h0])
          obtain ⟨HS, HT⟩ := HP.out zs[k] (raiseL_no all zs k hkz HRK.out) (fun h => by rw [HRK.out] at h; cases h)
          go_wp2_with (at_builtin; refine wpList_app1 Try.elemLevel rfl (.tmp 43) (.tmp 45) rfl HO.out HB.out.size (by omega) (by omega) _ rfl _ rfl rfl ?_)
          intro a2 cap2 w2 hown2 hg
          have HO2 := Lib.hid hown2; clear hown2
          have HG := Lib.hid (HO.out.app hg HB.out.size); clear hg
          go_wp2
          go_roundw
          case rel => exact ⟨k + 1, by omega, by go_num, HT.out, _, _, _, rfl, by rw [HS.out, ivs_append]; exact HO2.out, HB.out.trans HG.out⟩
          case measure => simp [intOf]; omega
      · have hke : zs.take k = zs := List.take_of_length_le (by omega)
        rw [hke] at HO HR
        have hup := Lib.hid (raised_ok all zs (okL_mem zs HK.out) HR.out)
        have hord := Lib.hid (raised all zs (okL_mem zs HK.out) HR.out)
        have hl := Lib.hid HO.out.lenI
        have HUK := Lib.hid (okL_mem2 _ hup.out)
        clear hke
        go_wp2_with fail
        refine (Order_walk a n cap zs _ HN.out (by omega) HK.out (hc1.below HB.out (Nat.le_refl _))).mono ?_
        rintro e w3 ⟨a3, n3, cap3, rfl, hown3, hb3⟩
        have hl3 : n3 ≤ n := by have := hown3.lenI; have := ord_le zs; have := HN.out; omega
        have HO3 := Lib.hid hown3; clear hown3
        have HB3 := Lib.hid hb3; clear hb3
        go_wp2_with fail
        refine (Order_walk a' n' cap' (raiseL all zs) _ hl.out (by omega) HUK.out (HO.out.ints.below HB3.out (Nat.le_refl _))).mono ?_
        rintro e w4 ⟨a4, n4, cap4, rfl, hown4, hb4⟩
        rw [hord.out] at hown4
        have HO4 := Lib.hid hown4; clear hown4
        have HB4 := Lib.hid hb4; clear hb4
        have HL3 := Lib.hid HO3.out.lenI
        have HL4 := Lib.hid HO4.out.lenI
        go_wp2_with fail
        refine (sameInts_walk a3 a4 n3 cap3 n4 cap4 (ord zs) (ord zs) _ HL3.out HL4.out (by omega) (HO3.out.ints.below HB4.out (Nat.le_refl _)) HO4.out.ints).mono ?_
        rintro e w5 ⟨rfl, hb5⟩
        rw [show decide (ord zs = ord zs) = true from by simp]
        have HB5 := Lib.hid hb5; clear hb5
        go_wp2
        go_ret
        exact ⟨rfl, below_seq HB1.out (below_seq HB.out (below_seq HB3.out (below_seq HB4.out HB5.out)))⟩
  · have hf : (okL zs && decide (n ≤ 65536)) = false := by simpa using hok
    have HC := Lib.hid hf; clear hf hok
    go_enter Try.func5, Try.ntmps5
    go_wp2_with fail
    refine (lmay_walk a n cap zs _ HN.out hm hc).mono ?_
    rintro e w' ⟨rfl, rfl⟩
    rw [HC.out]
    go_wp2_with fail
    refine (lives_walk _).mono ?_
    rintro e w1 ⟨rfl, hb1⟩
    go_wp2
    go_ret
    exact ⟨rfl, hb1⟩
end Go.Proofs.Ytcgdhgdblieaiaa
