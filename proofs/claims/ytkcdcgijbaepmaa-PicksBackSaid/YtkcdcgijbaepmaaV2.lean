/-
  Walks: the order of a line (visual.Order).
-/
import Derived.Test.YtkcdcgijbaepmaaProg
import Derived.Test.YtkcdcgijbaepmaaBase
import Derived.Test.YtkcdcgijbaepmaaV1
import Derived.Deep.QuietTactic
import Derived.BigQuiet
import Derived.RegionTactic
import Derived.BigRegion
namespace Go.Proofs.Ytkcdcgijbaepmaa
open Go.RowKit

def okL (l : List Int) : Bool := l.all (fun x => decide (-1 ≤ x ∧ x ≤ 126))
def mayN (l : List Int) : Int := if okL l = true then 0 else 2

theorem okL_yes (zs : List Int) (k : Nat) (h : ¬ k < zs.length) (hp : okL (zs.take k) = true) : okL zs = true := by
  rwa [List.take_of_length_le (by omega)] at hp
theorem okL_no (zs : List Int) (k : Nat) (h : k < zs.length) (hx : ¬ (-1 ≤ zs[k] ∧ zs[k] ≤ 126)) : okL zs = false := by
  unfold okL; rw [Bool.eq_false_iff]; intro hh; rw [List.all_eq_true] at hh; exact hx (by simpa using hh zs[k] (List.getElem_mem h))
theorem okL_snoc (zs : List Int) (k : Nat) (h : k < zs.length) (hp : okL (zs.take k) = true) (hx : -1 ≤ zs[k] ∧ zs[k] ≤ 126) : okL (zs.take (k + 1)) = true := by
  unfold okL at *; rw [List.take_succ_eq_append_getElem h, List.all_append, hp]; simpa using hx
theorem okL_get (zs : List Int) (h : okL zs = true) (k : Nat) (hk : k < zs.length) : -1 ≤ zs[k] ∧ zs[k] ≤ 126 := by
  unfold okL at h; rw [List.all_eq_true] at h; simpa using h zs[k] (List.getElem_mem hk)
theorem Try.elemIntV : Elem Try.prog 31 3 (.int .i64 0) 8 := ⟨Try.underlying31, by kernel_rfl, by kernel_rfl⟩
theorem Try.elemLevel : Elem Try.prog 49 53 (.int .i8 0) 1 := ⟨Try.underlying49, by kernel_rfl, by kernel_rfl⟩
/-- 'visual.may' -/
theorem vmay_walk (a : Option Addr) (n cap : Nat) (zs : List Int) (w : World) (hn : zs.length = n) (hlt : n ≤ 1048576) (hc : Ints .i8 w a zs) :
    Calls Try.prog 57 #[.slice a n cap] w fun e w' => e = .returned (.int .i64 (mayN zs)) ∧ w = w' := by
  subst hn
  go_enter Try.func57, Try.ntmps57
  go_wp2
  go_loop [10] (fun i => ∃ k : Nat, k ≤ zs.length ∧ i = .int .i64 k ∧ okL (zs.take k) = true) (fun i => zs.length - (intOf i).toNat)
  case atStart => exact ⟨0, Nat.zero_le _, rfl, rfl⟩
  case round =>
    obtain ⟨k, hk, rfl, hp⟩ := hrel
    have HP := Lib.hid hp; clear hp
    by_cases hlt : k < zs.length
    · obtain ⟨b, o, rfl⟩ := hc.some (by omega)
      have hcell := hc.get k hlt
      by_cases hx : -1 ≤ zs[k] ∧ zs[k] ≤ 126
      · have HS := Lib.hid (okL_snoc zs k hlt HP.out hx)
        obtain ⟨hx1, hx2⟩ := hx
        go_wp2
        go_round
        case rel => exact ⟨k + 1, by omega, by go_num, HS.out⟩
        case measure => simp [intOf]; omega
      · have HS := Lib.hid (okL_no zs k hlt hx)
        by_cases hx1 : -1 ≤ zs[k]
        · have hx2 : ¬ zs[k] ≤ 126 := fun h => hx ⟨hx1, h⟩
          clear hx
          go_wp2
          go_ret
          exact ⟨by simp [mayN, HS.out], rfl⟩
        · clear hx
          go_wp2
          go_ret
          exact ⟨by simp [mayN, HS.out], rfl⟩
    · have HS := Lib.hid (okL_yes zs k hlt HP.out)
      go_wp2
      go_ret
      exact ⟨by simp [mayN, HS.out], rfl⟩



set_option maxHeartbeats 400000 in
/-- 'slices.Reverse' of a stretch of a row of the call's own -/
theorem reverse_walk (B g n cap lo m c : Nat) (zs : List Int) (w : World) (hn : zs.length = n) (hlt : n ≤ 1048576) (hlo : lo + m ≤ n) (hown : Own B 3 w (some ⟨g, 0, none⟩) n cap (ivs .i64 zs)) :
    Calls Try.prog 72 #[.slice (some ⟨g, lo, none⟩) m c] w fun e w' => e = .returned (.tuple #[]) ∧ Own B 3 w' (some ⟨g, 0, none⟩) n cap (ivs .i64 (revSeg zs lo m)) ∧ w.grownBy w' (some g) := by
  subst hn
  have HO := Lib.hid hown; clear hown
  go_enter Try.func72, Try.ntmps72
  go_wp2
  go_loopw [2, 3] (fun i j wr => ∃ t : Nat, t ≤ m ∧ i = .int .i64 t ∧ j = .int .i64 ((m : Int) - 1 - t) ∧ Own B 3 wr (some ⟨g, 0, none⟩) zs.length cap (ivs .i64 (rvL zs lo m t)) ∧ w.grownBy wr (some g)) (fun i _ _ => m - (intOf i).toNat)
  case atStart => exact ⟨0, Nat.zero_le _, rfl, by simp, by rw [rvL_zero]; exact HO.out, World.grownBy.refl _ _⟩
  case round =>
    obtain ⟨t, ht, rfl, rfl, hown, hgr⟩ := hrel
    have HG := Lib.hid hgr; clear hgr
    by_cases hlt : t + 1 + t < m
    · have h1 : lo + t < (rvL zs lo m t).length := by rw [rvL_length]; omega
      have h2 : lo + (m - 1 - t) < (rvL zs lo m t).length := by rw [rvL_length]; omega
      have HS := Lib.hid (rvL_step zs lo m t hlt h1 h2)
      have c1 := hown.cell (lo + t) (by simpa [ivs] using h1)
      have c2 := hown.cell (lo + (m - 1 - t)) (by simpa [ivs] using h2)
      have f1 := hown.unfrozen (lo + t)
      have f2 := hown.unfrozen (lo + (m - 1 - t))
      rw [show (ivs .i64 (rvL zs lo m t))[lo + t]'(by simpa [ivs] using h1) = .int .i64 (rvL zs lo m t)[lo + t] from by simp [ivs]] at c1
      rw [show (ivs .i64 (rvL zs lo m t))[lo + (m - 1 - t)]'(by simpa [ivs] using h2) = .int .i64 (rvL zs lo m t)[lo + (m - 1 - t)] from by simp [ivs]] at c2
      generalize (rvL zs lo m t)[lo + t] = x at *
      generalize (rvL zs lo m t)[lo + (m - 1 - t)] = y at *
      have HO1 := Lib.hid hown; clear hown
      clear h1 h2
      obtain ⟨d, hd⟩ : ∃ d : Nat, d = m - 1 - t := ⟨_, rfl⟩
      rw [← hd] at c2 f2 HS
      have e1 : ((m : Int) - 1 - t) = (d : Int) := by omega
      rw [e1]
      have e2 : t < d := by omega
      have e3 : d < m := by omega
      have HD := Lib.hid hd; clear hd e1
      go_wp2
      go_region
      go_wp2
      go_roundw
      case rel =>
        refine ⟨t + 1, by omega, by go_num, ?_, ?_, ?_⟩
        · have := HD.out; go_num
        · rw [HS.out, ← ivs_set, ← ivs_set]
          exact (HO1.out.store (lo + t) _).store (lo + d) _
        · exact grown_trans HG.out (grown_trans (grown_store wr g (lo + t) _) (grown_drew (grown_store (wr.setCell ⟨g, lo + t, none⟩ (.int .i64 y)) g (lo + d) (.int .i64 x))))
      case measure => simp [intOf]; omega
    · have HS := Lib.hid (rvL_end zs lo m t (by omega) ht hlo)
      go_wp2
      go_end0
      exact ⟨rfl, by rw [← HS.out]; exact hown, HG.out⟩

def OrdC (w : World) (a' : Option Addr) (n' cap' kk : Nat) (zs L : List Int) (i : Value) (wr : World) : Prop :=
  ∃ (A R : List Int), i = .int .i64 A.length ∧ (A ++ R).length = n' ∧ Half (lvGe zs (kk + 1)) L A R ∧ Own w.heap.size 3 wr a' n' cap' (ivs .i64 (A ++ R)) ∧ Below w.heap.size w wr

set_option maxHeartbeats 1000000 in
/-- 'visual.order' -/
theorem order_walk (a : Option Addr) (n cap : Nat) (zs : List Int) (w : World) (hn : zs.length = n) (hlt : n ≤ 1048576) (hok : okL zs = true) (hc : Ints .i8 w a zs) :
    Calls Try.prog 58 #[.slice a n cap] w fun e w' => ∃ a' n' cap', e = .returned (.slice a' n' cap') ∧ Own w.heap.size 3 w' a' n' cap' (ivs .i64 (ord zs)) ∧ Below w.heap.size w w' := by
  subst hn
  have HK := Lib.hid hok; clear hok
  go_enter Try.func58, Try.ntmps58
  go_wp2
  go_loopw [3, 4, 12] (fun v h i wr => ∃ k : Nat, k ≤ zs.length ∧ i = .int .i64 k ∧ h = .int .i8 (high (zs.take k)) ∧ ∃ a' n' cap', v = .slice a' n' cap' ∧ Own w.heap.size 3 wr a' n' cap' (ivs .i64 (shownIdx (zs.take k))) ∧ Below w.heap.size w wr) (fun _ _ i _ => zs.length - (intOf i).toNat)
  case atStart => exact ⟨0, Nat.zero_le _, rfl, rfl, none, 0, 0, rfl, Own.nil _ _ _, Below.refl _ _⟩
  case round =>
    obtain ⟨k, hk, rfl, rfl, a', n', cap', rfl, hown, hbel⟩ := hrel
    by_cases hlt : k < zs.length
    · obtain ⟨b, o, rfl⟩ := hc.some (by omega)
      have hcell := (hc.below hbel (Nat.le_refl _)).get k hlt
      have hl' := hown.lenI
      have hl2 := shownIdx_le (zs.take k)
      have hn' : n' ≤ zs.length := by have := List.length_take_le k zs; omega
      clear hl' hl2
      obtain ⟨hz1, hz2⟩ := okL_get zs HK.out k hlt
      obtain ⟨hh1, hh2⟩ := high_bd (zs.take k) (fun x hx => by
        obtain ⟨i, hi, rfl⟩ := List.getElem_of_mem (List.mem_of_mem_take hx)
        exact (okL_get zs HK.out i hi).2)
      have HO := Lib.hid hown; clear hown
      have HB := Lib.hid hbel; clear hbel
      have HS := Lib.hid (shownIdx_snoc zs k hlt)
      have HH := Lib.hid (high_snoc zs k hlt)
      by_cases hx : zs[k] = -1
      · have hxx : (zs[k] != -1) = false := by simp [hx]
        have HX := Lib.hid hx; clear hx
        go_wp2
        go_roundw
        case rel => exact ⟨k + 1, by omega, by go_num, by rw [HH.out, if_pos HX.out], _, _, _, rfl, by rw [HS.out, if_pos HX.out, List.append_nil]; exact HO.out, HB.out⟩
        case measure => simp [intOf]; omega
      · have hxx : (zs[k] != -1) = true := by simp [hx]
        have HX := Lib.hid hx; clear hx
        go_wp2_with (at_builtin; refine wpList_app1 Try.elemIntV rfl (.tmp 19) (.tmp 21) rfl HO.out HB.out.size (by omega) (by omega) _ rfl _ rfl rfl ?_)
        intro a2 cap2 w2 hown2 hg
        have HO2 := Lib.hid hown2; clear hown2
        have HG := Lib.hid (HO.out.app hg HB.out.size); clear hg
        go_wp2
        refine ⟨⟨k + 1, by omega, by go_num, ?_, _, _, _, rfl, ?_, HB.out.trans HG.out⟩, by simp [intOf]; omega⟩
        · rw [HH.out, if_neg HX.out, Int.max_def]
          congr 1
          split <;> split <;> omega
        · rw [HS.out, if_neg HX.out, ivs_append]; exact HO2.out
    · have hke : zs.take k = zs := List.take_of_length_le (by omega)
      rw [hke] at hown ⊢
      clear hke
      obtain ⟨hh1, hh2⟩ := high_bd zs (fun x hx => by
        obtain ⟨i, hi, rfl⟩ := List.getElem_of_mem hx
        exact (okL_get zs HK.out i hi).2)
      obtain ⟨h, hh⟩ : ∃ h : Nat, high zs = (h : Int) := ⟨(high zs).toNat, by omega⟩
      have hord : passes zs h (shownIdx zs) = ord zs := by unfold ord; rw [hh]; rfl
      rw [hh] at hh1 hh2 ⊢
      clear hh
      have hn' := hown.lenI
      have hn2 : n' ≤ zs.length := by have := shownIdx_le zs; omega
      clear hn'
      have HO := Lib.hid hown; clear hown
      have HB := Lib.hid hbel; clear hbel
      have HR := Lib.hid hord; clear hord
      obtain ⟨w1, rfl⟩ : ∃ w1 : World, w1 = wr := ⟨_, rfl⟩
      go_wp2
      go_loopw [7] (fun K wr => ∃ (kk : Nat) (L : List Int), kk ≤ h ∧ K = .int .i8 kk ∧ passes zs kk L = ord zs ∧ L.Perm (shownIdx zs) ∧ Own w.heap.size 3 wr a' n' cap' (ivs .i64 L) ∧ Below w.heap.size w wr) (fun K _ => (intOf K).toNat)
      case atStart => exact ⟨h, shownIdx zs, Nat.le_refl _, rfl, HR.out, .refl _, HO.out, HB.out⟩
      case round =>
        obtain ⟨kk, L, hkh, rfl, hps, hperm, hown, hbel⟩ := hrel
        have HP := Lib.hid hps; clear hps
        have HM := Lib.hid hperm; clear hperm
        have HO1 := Lib.hid hown; clear hown
        have HB1 := Lib.hid hbel; clear hbel
        cases kk with
        | zero =>
          go_wp2
          go_ret
          exact ⟨_, _, _, rfl, by rw [← passes_end zs L HP.out]; exact HO1.out, HB1.out⟩
        | succ kk =>
          obtain ⟨w2, rfl⟩ : ∃ w2 : World, w2 = wr := ⟨_, rfl⟩
          have hgt : (0 : Int) < (kk : Int) + 1 := by omega
          go_wp2
          go_loopw [8] (OrdC w a' n' cap' kk zs L) (fun i _ => n' - (intOf i).toNat)
          case atStart => exact ⟨[], L, rfl, HO1.out.lenI, Half.start _ _, HO1.out, HB1.out⟩
          case round =>
            obtain ⟨A, R, rfl, hlen, hhalf, hown, hbel⟩ := hrel
            have hAR : A.length + R.length = n' := by rw [← hlen]; simp
            have HN := Lib.hid hlen; clear hlen
            have HH := Lib.hid hhalf; clear hhalf
            have HO2 := Lib.hid hown; clear hown
            have HB2 := Lib.hid hbel; clear hbel
            have hA : A.length ≤ n' := by omega
            by_cases hR : R.length = 0
            · have hRn : R = [] := List.eq_nil_of_length_eq_zero hR
              subst hRn
              have hA2 : n' ≤ A.length := by omega
              clear hAR hR
              go_wp2
              go_roundw
              case rel => exact ⟨kk, A, by omega, by go_num, by rw [HH.out.fin]; exact HP.out, by have := HH.out.perm.trans HM.out; simpa using this, by simpa using HO2.out, HB2.out⟩
              case measure => simp [intOf]
            · have hAl : A.length < n' := by omega
              obtain ⟨g, ha, hg1, hg2, hg3, hg4⟩ := HO2.out.at (by omega)
              subst ha
              have hR0 : 0 < R.length := by omega
              have hRn : R.length ≤ n' - A.length := by omega
              have hRm : n' ≤ A.length + R.length := by omega
              clear hAR hR
              obtain ⟨w3, rfl⟩ : ∃ w3 : World, w3 = wr := ⟨_, rfl⟩
              go_wp2
              go_loop [9] (fun j => ∃ m : Nat, j = .int .i64 ((A.length + m : Nat) : Int) ∧ m ≤ R.length ∧ AllP (lvGe zs (kk + 1)) (R.take m)) (fun j => n' - (intOf j).toNat)
              case atStart => exact ⟨0, rfl, Nat.zero_le _, fun x hx => by simp at hx⟩
              case round =>
                obtain ⟨m, rfl, hm, hall⟩ := hrel
                have HP2 := Lib.hid hall; clear hall
                by_cases hJ : A.length + m < n'
                · have hJ' : A.length + m < (A ++ R).length := by have := HN.out; omega
                  obtain ⟨xn, hxe, hxn⟩ := shownIdx_nonneg zs (A ++ R) (HH.out.perm.trans HM.out) (A.length + m) hJ'
                  have c1 := HO2.out.cell (A.length + m) (by simpa [ivs] using hJ')
                  rw [show (ivs .i64 (A ++ R))[A.length + m]'(by simpa [ivs] using hJ') = .int .i64 ((xn : Nat) : Int) from by rw [← hxe]; simp [ivs]] at c1
                  obtain ⟨b, o, rfl⟩ := hc.some (by omega)
                  have c2 := (hc.below HB2.out (Nat.le_refl _)).get xn hxn
                  have HX := Lib.hid hxe; clear hxe
                  by_cases hp : (kk : Int) + 1 ≤ zs[xn]
                  · have HS := Lib.hid (run_snoc (p := lvGe zs (kk + 1)) (m := m) HP2.out hJ' (by rw [HX.out]; exact lvGe_yes hxn (by omega)))
                    clear HX hJ'
                    go_wp2
                    go_round
                    case rel => exact ⟨m + 1, by go_num, by omega, HS.out⟩
                    case measure => simp [intOf]; omega
                  · have HQ := Lib.hid (run_stop (p := lvGe zs (kk + 1)) (A := A) (R := R) (m := m) (fun hl => by rw [HX.out]; exact lvGe_no hxn (by omega)))
                    clear HX hJ'
                    go_wp2_with fail
                    have hmR : m ≤ R.length := by omega
                    refine (reverse_walk w.heap.size g n' cap' A.length m _ (A ++ R) _ HN.out (by omega) (by omega) HO2.out).mono ?_
                    rintro e w4 ⟨rfl, hown4, hg4'⟩
                    obtain ⟨A', R', hh', hA', hAR'⟩ := HH.out.step m hR0 hmR HP2.out HQ.out
                    rw [hAR'] at hown4
                    have hlen4 := hown4.lenI
                    have HO4 := Lib.hid hown4; clear hown4
                    have HG4 := Lib.hid (HO2.out.app hg4' HB2.out.size); clear hg4'
                    have HH4 := Lib.hid hh'; clear hh'
                    have HA4 := Lib.hid hA'; clear hA' hAR'
                    have HL4 := Lib.hid hlen4; clear hlen4
                    go_wp2
                    all_goals
                      go_roundw
                      case rel =>
                        refine ⟨A', R', ?_, HL4.out, HH4.out, HO4.out, HB2.out.trans HG4.out⟩
                        have := HA4.out
                        congr 1
                        omega
                      case measure => simp [intOf]; omega
                · have HQ := Lib.hid (run_stop (p := lvGe zs (kk + 1)) (A := A) (R := R) (m := m) (fun hl => by have := HN.out; omega))
                  go_wp2_with fail
                  have hmR : m ≤ R.length := by omega
                  refine (reverse_walk w.heap.size g n' cap' A.length m _ (A ++ R) _ HN.out (by omega) (by omega) HO2.out).mono ?_
                  rintro e w4 ⟨rfl, hown4, hg4'⟩
                  obtain ⟨A', R', hh', hA', hAR'⟩ := HH.out.step m hR0 hmR HP2.out HQ.out
                  rw [hAR'] at hown4
                  have hlen4 := hown4.lenI
                  have HO4 := Lib.hid hown4; clear hown4
                  have HG4 := Lib.hid (HO2.out.app hg4' HB2.out.size); clear hg4'
                  have HH4 := Lib.hid hh'; clear hh'
                  have HA4 := Lib.hid hA'; clear hA' hAR'
                  have HL4 := Lib.hid hlen4; clear hlen4
                  go_wp2
                  all_goals
                    go_roundw
                    case rel =>
                      refine ⟨A', R', ?_, HL4.out, HH4.out, HO4.out, HB2.out.trans HG4.out⟩
                      have := HA4.out
                      congr 1
                      omega
                    case measure => simp [intOf]; omega
/-- 'visual.Order' of levels that may be -/
theorem Order_walk (a : Option Addr) (n cap : Nat) (zs : List Int) (w : World) (hn : zs.length = n) (hlt : n ≤ 1048576) (hok : okL zs = true) (hc : Ints .i8 w a zs) :
    Calls Try.prog 30 #[.slice a n cap] w fun e w' => ∃ a' n' cap', e = .returned (.tuple #[.slice a' n' cap', .int .i64 0]) ∧ Own w.heap.size 3 w' a' n' cap' (ivs .i64 (ord zs)) ∧ Below w.heap.size w w' := by
  have HN := Lib.hid hn; clear hn
  have HK := Lib.hid hok; clear hok
  have hm : mayN zs = 0 := by unfold mayN; rw [if_pos HK.out]
  have HM := Lib.hid hm; clear hm
  go_enter Try.func30, Try.ntmps30
  go_wp2_with fail
  refine (vmay_walk a n cap zs _ HN.out hlt hc).mono ?_
  rintro e w' ⟨rfl, rfl⟩
  rw [HM.out]
  go_wp2_with fail
  refine (order_walk a n cap zs _ HN.out hlt HK.out hc).mono ?_
  rintro e w' ⟨a', n', cap', rfl, hown, hb⟩
  have HO := Lib.hid hown; clear hown
  have HB := Lib.hid hb; clear hb
  go_wp2
  go_ret2
  exact ⟨_, _, _, rfl, HO.out, HB.out⟩

/-- 'visual.Order' of levels that may not be -/
theorem Order_bad (a : Option Addr) (n cap : Nat) (zs : List Int) (w : World) (hn : zs.length = n) (hlt : n ≤ 1048576) (hok : okL zs = false) (hc : Ints .i8 w a zs) :
    Calls Try.prog 30 #[.slice a n cap] w fun e w' => e = .returned (.tuple #[.slice none 0 0, .int .i64 2]) ∧ w = w' := by
  have HN := Lib.hid hn; clear hn
  have hm : mayN zs = 2 := by unfold mayN; rw [hok]; rfl
  have HM := Lib.hid hm; clear hm hok
  go_enter Try.func30, Try.ntmps30
  go_wp2_with fail
  refine (vmay_walk a n cap zs _ HN.out hlt hc).mono ?_
  rintro e w' ⟨rfl, rfl⟩
  rw [HM.out]
  go_wp2
  go_ret2
  exact ⟨rfl, rfl⟩

end Go.Proofs.Ytkcdcgijbaepmaa
