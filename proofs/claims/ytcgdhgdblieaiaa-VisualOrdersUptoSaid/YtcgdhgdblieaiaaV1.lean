/-
  Walks: the document's answer for a line's order.
-/
import Derived.Test.YtcgdhgdblieaiaaW3
import Derived.Test.YtcgdhgdblieaiaaP2
set_option linter.unusedVariables false
namespace Go.Proofs.Ytcgdhgdblieaiaa
open Go.RowKit

theorem shownIdx_yes {zs : List Int} {k : Nat} (h : k < zs.length) (hx : 0 ≤ zs[k]) : shownIdx (zs.take (k + 1)) = shownIdx (zs.take k) ++ [(k : Int)] := by
  rw [shownIdx_snoc zs k h, if_neg (by omega)]
theorem shownIdx_no {zs : List Int} {k : Nat} (h : k < zs.length) (hx : zs[k] = -1) : shownIdx (zs.take (k + 1)) = shownIdx (zs.take k) := by
  rw [shownIdx_snoc zs k h, if_pos hx, List.append_nil]
theorem high_foldl (l : List Int) (m : Int) : m ≤ l.foldl max m ∧ ∀ x ∈ l, x ≤ l.foldl max m := by
  induction l generalizing m with
  | nil => exact ⟨Int.le_refl _, fun x h => by simp at h⟩
  | cons y t ih =>
    obtain ⟨h1, h2⟩ := ih (max m y)
    refine ⟨by simp only [List.foldl_cons]; omega, fun x hx => ?_⟩
    simp only [List.foldl_cons]
    rcases List.mem_cons.1 hx with rfl | hx
    · omega
    · exact h2 x hx
theorem le_high (zs : List Int) (i : Nat) (h : i < zs.length) (hx : zs[i] ≠ -1) : zs[i] ≤ high zs := by
  have e : high zs = (zs.filter (fun x => decide (x ≠ -1))).foldl max 0 := by cases zs <;> rfl
  rw [e]
  exact (high_foldl _ 0).2 _ (List.mem_filter.2 ⟨List.getElem_mem h, by simpa using hx⟩)
theorem passes_top (zs : List Int) (hok : okL zs = true) : passes zs 126 (shownIdx zs) = ord zs := by
  have hb := high_bd zs (fun x hx => by
    obtain ⟨i, hi, rfl⟩ := List.getElem_of_mem hx
    exact (okL_get zs hok i hi).2)
  refine passes_above zs (high zs).toNat 126 (by omega) _ (fun x hx => ?_)
  obtain ⟨h0, h1, h2⟩ := (mem_shownIdx zs x).1 hx
  have hl : x.toNat < zs.length := by omega
  rw [List.getD_eq_getElem?_getD, List.getElem?_eq_getElem hl, Option.getD_some] at h2 ⊢
  have := le_high zs x.toNat hl h2
  omega

/-- 'Check' -/
theorem Check_walk (a : Option Addr) (n cap : Nat) (zs : List Int) (w : World) (hn : zs.length = n) (hlt : n ≤ 1048576) (hc : Ints .i8 w a zs) :
    Calls Try.prog 36 #[.slice a n cap] w fun e w' => e = .returned (.int .i64 (mayN zs)) ∧ w = w' := by
  subst hn
  go_enter Try.func36, Try.ntmps36
  go_wp2
  go_loop [3] (fun i => ∃ k : Nat, k ≤ zs.length ∧ i = .int .i64 k ∧ okL (zs.take k) = true) (fun i => zs.length - (intOf i).toNat)
  case atStart => exact ⟨0, Nat.zero_le _, rfl, rfl⟩
  case round =>
    obtain ⟨k, hk, rfl, hp⟩ := hrel
    have HP := Lib.hid hp; clear hp
    by_cases hlt : k < zs.length
    · obtain ⟨b, o, rfl⟩ := hc.some (by omega)
      have hcell := hc.get k hlt
      by_cases hx : -1 ≤ zs[k] ∧ zs[k] ≤ 126
      · have HS := Lib.hid (okL_snoc zs k hlt HP.out hx)
        obtain ⟨hx1, hx2⟩ := hx
        go_wp2
        go_round
        case rel => exact ⟨k + 1, by omega, by go_num, HS.out⟩
        case measure => simp [intOf]; omega
      · have HS := Lib.hid (okL_no zs k hlt hx)
        by_cases hx1 : -1 ≤ zs[k]
        · have hx2 : ¬ zs[k] ≤ 126 := fun h => hx ⟨hx1, h⟩
          clear hx
          go_wp2
          go_ret
          exact ⟨by simp [mayN, HS.out], rfl⟩
        · clear hx
          go_wp2
          go_ret
          exact ⟨by simp [mayN, HS.out], rfl⟩
    · have HS := Lib.hid (okL_yes zs k hlt HP.out)
      go_wp2
      go_ret
      exact ⟨by simp [mayN, HS.out], rfl⟩

/-- 'Shown' -/
theorem Shown22_walk (a : Option Addr) (n cap : Nat) (zs : List Int) (w : World) (hn : zs.length = n) (hm : n ≤ 1048576) (hok : okL zs = true) (hc : Ints .i8 w a zs) :
    Calls Try.prog 53 #[.slice a n cap] w fun e w' => ∃ a' n' cap', e = .returned (.slice a' n' cap') ∧ Own w.heap.size 3 w' a' n' cap' (ivs .i64 (shownIdx zs)) ∧ Below w.heap.size w w' := by
  subst hn
  have HK := Lib.hid hok; clear hok
  go_enter Try.func53, Try.ntmps53
  go_wp2
  go_loopw [3, 4] (fun v i wr => ∃ k : Nat, k ≤ zs.length ∧ i = .int .i64 k ∧ ∃ a' n' cap', v = .slice a' n' cap' ∧ Own w.heap.size 3 wr a' n' cap' (ivs .i64 (shownIdx (zs.take k))) ∧ Below w.heap.size w wr) (fun _ i _ => zs.length - (intOf i).toNat)
  case atStart => exact ⟨0, Nat.zero_le _, rfl, none, 0, 0, rfl, Own.nil _ _ _, Below.refl _ _⟩
  case round =>
    obtain ⟨k, hk, rfl, a', n', cap', rfl, hown, hbel⟩ := hrel
    by_cases hlt : k < zs.length
    · obtain ⟨b, o, rfl⟩ := hc.some (by omega)
      have hcell := (hc.below hbel (Nat.le_refl _)).get k hlt
      have hl' := hown.lenI
      have hl2 := shownIdx_le (zs.take k)
      have hn' : n' ≤ zs.length := by have := List.length_take_le k zs; omega
      clear hl' hl2
      have HZ := Lib.hid (okL_get zs HK.out k hlt).1
      have HO := Lib.hid hown; clear hown
      have HB := Lib.hid hbel; clear hbel
      by_cases hx : 0 ≤ zs[k]
      · have HS := Lib.hid (shownIdx_yes hlt hx)
        go_wp2_with (at_builtin; refine wpList_app1 Try.elemInt rfl (.tmp 16) (.tmp 18) rfl HO.out HB.out.size (by omega) (by omega) _ rfl _ rfl rfl ?_)
        intro a2 cap2 w2 hown2 hg
        have HO2 := Lib.hid hown2; clear hown2
        have HG := Lib.hid (HO.out.app hg HB.out.size); clear hg
        go_wp2
        go_roundw
        case rel => exact ⟨k + 1, by omega, by go_num, _, _, _, rfl, by rw [HS.out, ivs_append]; exact HO2.out, HB.out.trans HG.out⟩
        case measure => simp [intOf]; omega
      · have HS := Lib.hid (shownIdx_no hlt (by have := HZ.out; omega))
        go_wp2
        go_roundw
        case rel => exact ⟨k + 1, by omega, by go_num, _, _, _, rfl, by rw [HS.out]; exact HO.out, HB.out⟩
        case measure => simp [intOf]; omega
    · have HO := Lib.hid hown; clear hown
      go_wp2
      go_ret
      exact ⟨_, _, _, rfl, by have := HO.out; rwa [List.take_of_length_le (by omega)] at this, hbel⟩

set_option maxRecDepth 20000 in
set_option maxHeartbeats 4000000 in
/-- 'Order' -/
theorem rOrder_walk (a : Option Addr) (n cap : Nat) (zs : List Int) (w : World) (hn : zs.length = n) (hlt : n ≤ 1048576) (hok : okL zs = true) (hc : Ints .i8 w a zs) :
    Calls Try.prog 37 #[.slice a n cap] w fun e w' => ∃ a' n' cap', e = .returned (.slice a' n' cap') ∧ Own w.heap.size 3 w' a' n' cap' (ivs .i64 (ord zs)) ∧ Below w.heap.size w w' := by
  subst hn
  have HK := Lib.hid hok; clear hok
  go_enter Try.func37, Try.ntmps37
  go_wp2_with fail
  refine (Shown22_walk a _ cap zs w rfl hlt HK.out hc).mono ?_
  rintro e w1 ⟨a', n', cap', rfl, hown, hbel⟩
  have hn' := hown.lenI
  have hn2 : n' ≤ zs.length := by have := shownIdx_le zs; omega
  clear hn'
  have HO := Lib.hid hown; clear hown
  have HB := Lib.hid hbel; clear hbel
  obtain ⟨h, hh⟩ : ∃ h : Nat, h = 126 := ⟨_, rfl⟩
  have HR := Lib.hid (passes_top zs HK.out)
  rw [← hh] at HR
  have hh2 : h ≤ 126 := by omega
  have HHh := Lib.hid hh; clear hh
  go_wp2
  go_loopw [4] (fun K wr => ∃ (kk : Nat) (L : List Int), kk ≤ h ∧ K = .int .i64 kk ∧ passes zs kk L = ord zs ∧ L.Perm (shownIdx zs) ∧ Own w.heap.size 3 wr a' n' cap' (ivs .i64 L) ∧ Below w.heap.size w wr) (fun K _ => (intOf K).toNat)
  case atStart => exact ⟨h, shownIdx zs, Nat.le_refl _, by rw [HHh.out]; rfl, HR.out, .refl _, HO.out, HB.out⟩
  case round =>
    obtain ⟨kk, L, hkh, rfl, hps, hperm, hown, hbel⟩ := hrel
    have HP := Lib.hid hps; clear hps
    have HM := Lib.hid hperm; clear hperm
    have HO1 := Lib.hid hown; clear hown
    have HB1 := Lib.hid hbel; clear hbel
    cases kk with
    | zero =>
      go_wp2
      go_ret
      exact ⟨_, _, _, rfl, by rw [← passes_end zs L HP.out]; exact HO1.out, HB1.out⟩
    | succ kk =>
      obtain ⟨w2, rfl⟩ : ∃ w2 : World, w2 = wr := ⟨_, rfl⟩
      go_wp2
      go_loopw [5] (OrdC w a' n' cap' kk zs L) (fun i _ => n' - (intOf i).toNat)
      case atStart => exact ⟨[], L, rfl, HO1.out.lenI, Half.start _ _, HO1.out, HB1.out⟩
      case round =>
        obtain ⟨A, R, rfl, hlen, hhalf, hown, hbel⟩ := hrel
        have hAR : A.length + R.length = n' := by rw [← hlen]; simp
        have HN := Lib.hid hlen; clear hlen
        have HH := Lib.hid hhalf; clear hhalf
        have HO2 := Lib.hid hown; clear hown
        have HB2 := Lib.hid hbel; clear hbel
        have hA : A.length ≤ n' := by omega
        by_cases hR : R.length = 0
        · have hRn : R = [] := List.eq_nil_of_length_eq_zero hR
          subst hRn
          have hA2 : n' ≤ A.length := by omega
          clear hAR hR
          go_wp2
          go_roundw
          case rel => exact ⟨kk, A, by omega, by go_num, by rw [HH.out.fin]; exact HP.out, by have := HH.out.perm.trans HM.out; simpa using this, by simpa using HO2.out, HB2.out⟩
          case measure => simp [intOf]
        · have hAl : A.length < n' := by omega
          obtain ⟨g, ha, hg1, hg2, hg3, hg4⟩ := HO2.out.at (by omega)
          subst ha
          have hR0 : 0 < R.length := by omega
          have hRn : R.length ≤ n' - A.length := by omega
          have hRm : n' ≤ A.length + R.length := by omega
          clear hAR hR
          obtain ⟨w3, rfl⟩ : ∃ w3 : World, w3 = wr := ⟨_, rfl⟩
          go_wp2
          go_loop [6] (fun j => ∃ m : Nat, j = .int .i64 ((A.length + m : Nat) : Int) ∧ m ≤ R.length ∧ AllP (lvGe zs (kk + 1)) (R.take m)) (fun j => n' - (intOf j).toNat)
          case atStart => exact ⟨0, rfl, Nat.zero_le _, fun x hx => by simp at hx⟩
          case round =>
            obtain ⟨m, rfl, hm, hall⟩ := hrel
            have HP2 := Lib.hid hall; clear hall
            by_cases hJ : A.length + m < n'
            · have hJ' : A.length + m < (A ++ R).length := by have := HN.out; omega
              obtain ⟨xn, hxe, hxn⟩ := shownIdx_nonneg zs (A ++ R) (HH.out.perm.trans HM.out) (A.length + m) hJ'
              have c1 := HO2.out.cell (A.length + m) (by simpa [ivs] using hJ')
              rw [show (ivs .i64 (A ++ R))[A.length + m]'(by simpa [ivs] using hJ') = .int .i64 ((xn : Nat) : Int) from by rw [← hxe]; simp [ivs]] at c1
              obtain ⟨b, o, rfl⟩ := hc.some (by omega)
              have c2 := (hc.below HB2.out (Nat.le_refl _)).get xn hxn
              have HX := Lib.hid hxe; clear hxe
              have hwr : wrap64 zs[xn] = zs[xn] := by have := okL_get zs HK.out xn hxn; unfold wrap64; omega
              by_cases hp : (kk : Int) + 1 ≤ zs[xn]
              · have HS := Lib.hid (run_snoc (p := lvGe zs (kk + 1)) (m := m) HP2.out hJ' (by rw [HX.out]; exact lvGe_yes hxn (by omega)))
                clear HX hJ'
                go_wp2
                go_round
                case rel => exact ⟨m + 1, by go_num, by omega, HS.out⟩
                case measure => simp [intOf]; omega
              · have HQ := Lib.hid (run_stop (p := lvGe zs (kk + 1)) (A := A) (R := R) (m := m) (fun hl => by rw [HX.out]; exact lvGe_no hxn (by omega)))
                clear HX hJ'
                go_wp2
                clear c1 c2
                have hmR : m ≤ R.length := by omega
                go_loopw [7, 8] (fun i j wr => ∃ t : Nat, t ≤ m ∧ i = .int .i64 ((A.length + t : Nat) : Int) ∧ j = .int .i64 ((A.length : Int) + m - 1 - t) ∧ Own w.heap.size 3 wr (some ⟨g, 0, none⟩) n' cap' (ivs .i64 (rvL (A ++ R) A.length m t)) ∧ w3.grownBy wr (some g)) (fun i _ _ => A.length + m - (intOf i).toNat)
                case atStart => exact ⟨0, Nat.zero_le _, by simp, by congr 1; omega, by rw [rvL_zero]; exact HO2.out, World.grownBy.refl _ _⟩
                case round =>
                  obtain ⟨t, ht, rfl, rfl, hown, hgr⟩ := hrel
                  have HG := Lib.hid hgr; clear hgr
                  by_cases hlt2 : t + 1 + t < m
                  · have hlen := HN.out
                    have h1 : A.length + t < (rvL (A ++ R) A.length m t).length := by rw [rvL_length]; omega
                    have h2 : A.length + (m - 1 - t) < (rvL (A ++ R) A.length m t).length := by rw [rvL_length]; omega
                    have HS := Lib.hid (rvL_step (A ++ R) A.length m t hlt2 h1 h2)
                    clear hlen
                    have c1 := hown.cell (A.length + t) (by simpa [ivs] using h1)
                    have c2 := hown.cell (A.length + (m - 1 - t)) (by simpa [ivs] using h2)
                    have f1 := hown.unfrozen (A.length + t)
                    have f2 := hown.unfrozen (A.length + (m - 1 - t))
                    rw [show (ivs .i64 (rvL (A ++ R) A.length m t))[A.length + t]'(by simpa [ivs] using h1) = .int .i64 (rvL (A ++ R) A.length m t)[A.length + t] from by simp [ivs]] at c1
                    rw [show (ivs .i64 (rvL (A ++ R) A.length m t))[A.length + (m - 1 - t)]'(by simpa [ivs] using h2) = .int .i64 (rvL (A ++ R) A.length m t)[A.length + (m - 1 - t)] from by simp [ivs]] at c2
                    generalize (rvL (A ++ R) A.length m t)[A.length + t] = x at *
                    generalize (rvL (A ++ R) A.length m t)[A.length + (m - 1 - t)] = y at *
                    have HO1 := Lib.hid hown; clear hown
                    clear h1 h2
                    obtain ⟨d, hd⟩ : ∃ d : Nat, d = A.length + (m - 1 - t) := ⟨_, rfl⟩
                    rw [← hd] at c2 f2 HS
                    have e1 : ((A.length : Int) + m - 1 - t) = (d : Int) := by omega
                    rw [e1]
                    obtain ⟨p, hp⟩ : ∃ p : Nat, p = A.length + t := ⟨_, rfl⟩
                    rw [← hp] at c1 f1 HS ⊢
                    have e2 : p < d := by omega
                    have e3 : d < n' := by omega
                    have e4 : (p : Int) < (d : Int) := by omega
                    have HD := Lib.hid hd; clear hd e1
                    have HPp := Lib.hid hp; clear hp
                    go_wp2
                    go_roundw
                    case rel =>
                      refine ⟨t + 1, by omega, ?_, ?_, ?_, ?_⟩
                      · have := HPp.out; go_num
                      · have := HD.out; go_num
                      · rw [HS.out, ← ivs_set, ← ivs_set]
                        exact (HO1.out.store p _).store d _
                      · exact grown_trans HG.out (grown_trans (grown_store wr g p _) (grown_store (wr.setCell ⟨g, p, none⟩ (.int .i64 y)) g d (.int .i64 x)))
                    case measure => have := HPp.out; simp [intOf]; omega
                  · have HS := Lib.hid (rvL_end (A ++ R) A.length m t (by omega) ht (by have := HN.out; omega))
                    obtain ⟨A', R', hh', hA', hAR'⟩ := HH.out.step m hR0 hmR HP2.out HQ.out
                    rw [HS.out, hAR'] at hown
                    have hlen4 := hown.lenI
                    have HO4 := Lib.hid hown; clear hown
                    have HG4 := Lib.hid (HO2.out.app HG.out HB2.out.size)
                    have HH4 := Lib.hid hh'; clear hh'
                    have HA4 := Lib.hid hA'; clear hA' hAR'
                    have HL4 := Lib.hid hlen4; clear hlen4
                    have hge : ¬ ((A.length : Int) + t) < (A.length : Int) + m - 1 - t := by omega
                    by_cases hm0 : m = 0
                    · subst hm0
                      go_wp2
                      go_roundw
                      case rel =>
                        refine ⟨A', R', ?_, HL4.out, HH4.out, HO4.out, HB2.out.trans HG4.out⟩
                        have := HA4.out
                        congr 1
                        omega
                      case measure => simp [intOf]; omega
                    · have hmp : (A.length : Int) < (A.length : Int) + m := by omega
                      go_wp2
                      go_roundw
                      case rel =>
                        refine ⟨A', R', ?_, HL4.out, HH4.out, HO4.out, HB2.out.trans HG4.out⟩
                        have := HA4.out
                        congr 1
                        omega
                      case measure => simp [intOf]; omega
            · have HQ := Lib.hid (run_stop (p := lvGe zs (kk + 1)) (A := A) (R := R) (m := m) (fun hl => by have := HN.out; omega))
              go_wp2
              have hmR : m ≤ R.length := by omega
              go_loopw [7, 8] (fun i j wr => ∃ t : Nat, t ≤ m ∧ i = .int .i64 ((A.length + t : Nat) : Int) ∧ j = .int .i64 ((A.length : Int) + m - 1 - t) ∧ Own w.heap.size 3 wr (some ⟨g, 0, none⟩) n' cap' (ivs .i64 (rvL (A ++ R) A.length m t)) ∧ w3.grownBy wr (some g)) (fun i _ _ => A.length + m - (intOf i).toNat)
              case atStart => exact ⟨0, Nat.zero_le _, by simp, by congr 1; omega, by rw [rvL_zero]; exact HO2.out, World.grownBy.refl _ _⟩
              case round =>
                obtain ⟨t, ht, rfl, rfl, hown, hgr⟩ := hrel
                have HG := Lib.hid hgr; clear hgr
                by_cases hlt2 : t + 1 + t < m
                · have hlen := HN.out
                  have h1 : A.length + t < (rvL (A ++ R) A.length m t).length := by rw [rvL_length]; omega
                  have h2 : A.length + (m - 1 - t) < (rvL (A ++ R) A.length m t).length := by rw [rvL_length]; omega
                  have HS := Lib.hid (rvL_step (A ++ R) A.length m t hlt2 h1 h2)
                  clear hlen
                  have c1 := hown.cell (A.length + t) (by simpa [ivs] using h1)
                  have c2 := hown.cell (A.length + (m - 1 - t)) (by simpa [ivs] using h2)
                  have f1 := hown.unfrozen (A.length + t)
                  have f2 := hown.unfrozen (A.length + (m - 1 - t))
                  rw [show (ivs .i64 (rvL (A ++ R) A.length m t))[A.length + t]'(by simpa [ivs] using h1) = .int .i64 (rvL (A ++ R) A.length m t)[A.length + t] from by simp [ivs]] at c1
                  rw [show (ivs .i64 (rvL (A ++ R) A.length m t))[A.length + (m - 1 - t)]'(by simpa [ivs] using h2) = .int .i64 (rvL (A ++ R) A.length m t)[A.length + (m - 1 - t)] from by simp [ivs]] at c2
                  generalize (rvL (A ++ R) A.length m t)[A.length + t] = x at *
                  generalize (rvL (A ++ R) A.length m t)[A.length + (m - 1 - t)] = y at *
                  have HO1 := Lib.hid hown; clear hown
                  clear h1 h2
                  obtain ⟨d, hd⟩ : ∃ d : Nat, d = A.length + (m - 1 - t) := ⟨_, rfl⟩
                  rw [← hd] at c2 f2 HS
                  have e1 : ((A.length : Int) + m - 1 - t) = (d : Int) := by omega
                  rw [e1]
                  obtain ⟨p, hp⟩ : ∃ p : Nat, p = A.length + t := ⟨_, rfl⟩
                  rw [← hp] at c1 f1 HS ⊢
                  have e2 : p < d := by omega
                  have e3 : d < n' := by omega
                  have e4 : (p : Int) < (d : Int) := by omega
                  have HD := Lib.hid hd; clear hd e1
                  have HPp := Lib.hid hp; clear hp
                  go_wp2
                  go_roundw
                  case rel =>
                    refine ⟨t + 1, by omega, ?_, ?_, ?_, ?_⟩
                    · have := HPp.out; go_num
                    · have := HD.out; go_num
                    · rw [HS.out, ← ivs_set, ← ivs_set]
                      exact (HO1.out.store p _).store d _
                    · exact grown_trans HG.out (grown_trans (grown_store wr g p _) (grown_store (wr.setCell ⟨g, p, none⟩ (.int .i64 y)) g d (.int .i64 x)))
                  case measure => have := HPp.out; simp [intOf]; omega
                · have HS := Lib.hid (rvL_end (A ++ R) A.length m t (by omega) ht (by have := HN.out; omega))
                  obtain ⟨A', R', hh', hA', hAR'⟩ := HH.out.step m hR0 hmR HP2.out HQ.out
                  rw [HS.out, hAR'] at hown
                  have hlen4 := hown.lenI
                  have HO4 := Lib.hid hown; clear hown
                  have HG4 := Lib.hid (HO2.out.app HG.out HB2.out.size)
                  have HH4 := Lib.hid hh'; clear hh'
                  have HA4 := Lib.hid hA'; clear hA' hAR'
                  have HL4 := Lib.hid hlen4; clear hlen4
                  have hge : ¬ ((A.length : Int) + t) < (A.length : Int) + m - 1 - t := by omega
                  by_cases hm0 : m = 0
                  · exact absurd hAl (by omega)
                  · have hmp : (A.length : Int) < (A.length : Int) + m := by omega
                    go_wp2
                    go_roundw
                    case rel =>
                      refine ⟨A', R', ?_, HL4.out, HH4.out, HO4.out, HB2.out.trans HG4.out⟩
                      have := HA4.out
                      congr 1
                      omega
                    case measure => simp [intOf]; omega
end Go.Proofs.Ytcgdhgdblieaiaa
