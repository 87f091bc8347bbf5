/-
  The walk of picks.Join.
-/
import Derived.Test.YtkcdcgijbaepmaaW3
import Derived.Test.YtkcdcgijbaepmaaW4
import Derived.Deep.RegionLaw
import Derived.StillTailTactics
set_option linter.unusedVariables false
namespace Go.Proofs.Ytkcdcgijbaepmaa
open Go.RowKit

theorem below_sq {w w1 w2 : World} (h1 : Below w.heap.size w w1) (h2 : Below w1.heap.size w1 w2) : Below w.heap.size w w2 := h1.trans (h2.mono h1.size)
theorem mergeL_take (qs : List PD) (j : Nat) (h : j < qs.length) : mergeL (qs.take (j + 1)) = mergeStep (mergeL (qs.take j)) qs[j] := by
  unfold mergeL
  rw [List.take_succ_eq_append_getElem h, List.foldl_append]
  rfl
def RjR (w3 : World) (k : Nat) (qs : List PD) (v i : Value) (wr : World) : Prop :=
  ∃ (j : Nat) (a' : Option Addr) (m c' : Nat), j ≤ k ∧ i = .int .i64 j ∧ v = .slice a' m c' ∧ OwnP w3.heap.size wr a' m c' (mergeL (qs.take j)) ∧ Below w3.heap.size w3 wr

set_option maxRecDepth 100000 in
set_option maxHeartbeats 4000000 in
theorem Join_walk (a : Option Addr) (n c : Nat) (ps : List PD) (w : World) (hn : ps.length = n) (hlt : n ≤ 1048576) (hc : PiecesAt w a ps) (hnone : a = none → c = 0) :
    Calls Try.prog 23 #[.slice a n c] w fun e w' => ∃ a' m c', e = .returned (.slice a' m c') ∧ OwnP w.heap.size w' a' m c' (joinL ps) ∧ Below w.heap.size w w' := by
  have HN := Lib.hid hn; clear hn
  go_enter Try.func23, Try.ntmps23
  go_wp2_with fail
  refine (Clone_walk a n c ps w HN.out hlt hc hnone).mono ?_
  rintro e w1 ⟨a1, c1, rfl, ho1, hb1⟩
  have HO1 := Lib.hid ho1; clear ho1
  have HB1 := Lib.hid hb1; clear hb1
  clear hc hnone
  go_wp2_with fail
  refine (Delete_walk w.heap.size a1 n c1 ps w1 hlt HB1.out.size HO1.out).mono ?_
  rintro e w2 ⟨k, rfl, ho2, hb2⟩
  have HO2 := Lib.hid ho2; clear ho2
  have HB2 := Lib.hid (HB1.out.trans hb2); clear hb2
  have hkn : k ≤ n := by have := HO2.out.len; have := live_le ps; have := HN.out; omega
  go_wp2_with fail
  refine (sortP_walk w.heap.size a1 k c1 (liveL ps) w2 (by omega) HO2.out).mono ?_
  rintro e w3 ⟨rfl, qs, hperm, hsort, ho3, hb3⟩
  have HJ := Lib.hid (join_only ps qs hperm hsort); clear hperm hsort
  have HQ := Lib.hid ho3.pieces
  have HK := Lib.hid ho3.len
  clear ho3
  have HB3 := Lib.hid (HB2.out.trans hb3); clear hb3
  go_wp2
  go_loopw [4, 15] (RjR w3 k qs) (fun _ i _ => k - (intOf i).toNat)
  case atStart => exact ⟨0, none, 0, 0, Nat.zero_le _, rfl, rfl, OwnP.nil _ _, Below.refl _ _⟩
  case round =>
    obtain ⟨j, a', m, c', hj, rfl, rfl, hown, hbel⟩ := hrel
    have hm := hown.len
    have hml := mergeL_length (qs.take j)
    rw [List.length_take] at hml
    have HO := Lib.hid hown; clear hown
    have HBl := Lib.hid hbel; clear hbel
    by_cases hjk : j < k
    · have hjq : j < qs.length := by rw [HK.out]; exact hjk
      obtain ⟨b, o, ha⟩ := HQ.out.some (by omega)
      subst ha
      obtain ⟨c0, c1'⟩ := (HQ.out.below HBl.out (Nat.le_refl _)).get j hjq
      have HP := Lib.hid (mergeL_take qs j hjq)
      generalize qs[j] = p at *
      generalize mergeL (qs.take j) = L at *
      clear hjq
      have hji : (j : Int) < (k : Int) := by omega
      have HAL := Lib.hid ((Below.refl wr.heap.size wr).alloc (Nat.le_refl _) (.cells #[.int .i64 p.f, .int .i64 p.t] 45))
      have HBX : Hid ((wr.alloc (.cells #[.int .i64 p.f, .int .i64 p.t] 45)).heap[wr.heap.size]? = some (.cells #[.int .i64 p.f, .int .i64 p.t] 45 (0, 0))) := Lib.hid (heap_alloc_new wr _)
      go_upto_region 7 with (fail)
      generalize hbx : wr.heap.size = bx at *
      rw [← hbx] at HAL
      generalize (wr.alloc (.cells #[.int .i64 p.f, .int .i64 p.t] 45)) = w5 at *
      have HO5 := Lib.hid (HO.out.below HAL.out (Nat.le_refl _))
      have HB5 := Lib.hid (HBl.out.trans (HAL.out.mono HBl.out.size))
      have d0 : w5.cell? ⟨bx, 0, none⟩ = some (.int .i64 p.f) := by simp [World.cell?, HBX.out]
      have d1 : w5.cell? ⟨bx, 1, none⟩ = some (.int .i64 p.t) := by simp [World.cell?, HBX.out]
      have hbxl : bx < w5.heap.size := (Array.getElem?_eq_some_iff.1 HBX.out).1
      have hmk : m ≤ 1048576 := by omega
      clear c0 c1' hbx
      by_cases hm0 : m = 0
      · subst hm0
        have hL : L = [] := List.length_eq_zero_iff.1 hm
        subst hL
        have HE : Hid (flatP (mergeL (qs.take (j + 1))) = flatP [] ++ [.int .i64 p.f, .int .i64 p.t]) := Lib.hid (by rw [HP.out]; rfl)
        clear HP
        go_wp2
        go_quiet (fail)
        have HO6 := Lib.hid (HO5.out.below (below_drewN (Below.refl w5.heap.size w5) nq) (Nat.le_refl _))
        have HB6 := Lib.hid (below_drewN HB5.out nq)
        replace d0 : (w5.drewN nq).cell? _ = _ := d0
        replace d1 : (w5.drewN nq).cell? _ = _ := d1
        generalize w5.drewN nq = w6 at *
        go_wp2_with (at_builtin; refine wpList_appN Try.elemPiece rfl (.tmp 48) (.tmp 50) rfl HO6.out HB6.out.size (by omega) (by omega) #[.int .i64 p.f, .int .i64 p.t] rfl (by intro u hu; simp at hu; rcases hu with rfl | rfl <;> rfl) _ rfl rfl ?_)
        intro a9 c9 w9 ho9 hg9 _
        have HN9 : Hid (OwnP w3.heap.size w9 a9 (0 + 1) c9 (mergeL (qs.take (j + 1)))) := Lib.hid (by unfold OwnP; rw [HE.out]; exact ho9)
        have HB9 := Lib.hid (HB6.out.trans (HO6.out.app hg9 HB6.out.size))
        clear ho9 hg9
        go_wp2
        go_roundw
        case rel => exact ⟨j + 1, _, _, _, by omega, by go_num, rfl, HN9.out, HB9.out⟩
        case measure => simp [intOf]; omega
      · obtain ⟨init, q, rfl⟩ : ∃ init q, L = init ++ [q] := by
          rcases List.eq_nil_or_concat L with h | ⟨init, q, h⟩
          · rw [h] at hm; simp at hm; omega
          · exact ⟨init, q, by rw [h, List.concat_eq_append]⟩
        obtain ⟨mm, rfl⟩ : ∃ mm, m = mm + 1 := ⟨m - 1, by omega⟩
        have hmi : init.length = mm := by simpa using hm
        obtain ⟨g, ha, hg1, hg2, hg3, hg4⟩ := HO5.out.at (by omega)
        subst ha
        have hget := HO5.out.pieces.get mm (by simp; omega)
        rw [show (init ++ [q])[mm]'(by simp; omega) = q by rw [List.getElem_append_right (by omega)]; simp [hmi]] at hget
        obtain ⟨g0, g1⟩ := hget
        simp only [Nat.zero_add] at g0 g1
        have hmm1 : (mm : Int) < (mm : Int) + 1 := by omega
        have hmm2 : (mm : Int) + 1 ≤ (k : Int) := by
          have : (init ++ [q]).length ≤ min j qs.length := hml
          simp at this
          omega
        have hd : decide (0 < mm + 1) = true := by simp
        have hm9 : mm + 1 ≤ 1048576 := hmk
        clear hm hml hm0
        by_cases hin : p.f ≤ q.t
        · have HE : Hid (mergeL (qs.take (j + 1)) = init ++ [⟨q.f, max q.t p.t⟩]) := Lib.hid (by rw [HP.out, mergeStep_in init q p hin])
          have hdk : decide (p.f ≤ q.t) = true := decide_eq_true hin
          clear HP
          go_wp2
          go_quiet (fail)
          have HO6 := Lib.hid (HO5.out.below (below_drewN (Below.refl w5.heap.size w5) nq) (Nat.le_refl _))
          have HB6 := Lib.hid (below_drewN HB5.out nq)
          replace d0 : (w5.drewN nq).cell? _ = _ := d0
          replace d1 : (w5.drewN nq).cell? _ = _ := d1
          replace g0 : (w5.drewN nq).cell? _ = _ := g0
          replace g1 : (w5.drewN nq).cell? _ = _ := g1
          generalize w5.drewN nq = w6 at *
          have fz : w6.frozen? ⟨g, mm * 2 + 1, none⟩ = false := World.ownsRow.frozenAt HO6.out _
          have HOs : Hid (OwnP w3.heap.size (w6.drew.setCell ⟨g, mm * 2 + 1, none⟩ (.int .i64 (max q.t p.t))) (some ⟨g, 0, none⟩) (mm + 1) c' (mergeL (qs.take (j + 1)))) := by
            refine Lib.hid ?_
            have h1 := (World.ownsRow.stored (World.ownsRow.drew HO6.out) (mm * 2 + 1) (.int .i64 (max q.t p.t))).1
            rw [← hmi, flatP_set init q (max q.t p.t)] at h1
            rw [HE.out, ← hmi]
            exact h1
          have HBs : Hid (Below w3.heap.size w3 (w6.drew.setCell ⟨g, mm * 2 + 1, none⟩ (.int .i64 (max q.t p.t)))) := Lib.hid ((below_drewN HB6.out 1).setCell hg1 _)
          clear hmi
          have hwm : IntKind.i64.wrap (mm : Int) = (mm : Int) := IntWalk.i64_in _ (by omega)
          go_wp2
          refine wp_region_still_tail 14 (by kernel_rfl) (by kernel_rfl) ?_
          simp only [List.take_succ_cons, List.take_zero, List.drop_succ_cons, List.drop_zero]
          change wpStill _ _ (World.drew _) (fun a' => wpList _ _ _ _ a' (World.drew _)) _ _
          repeat still_step
          refine wpStill_nil ?_
          go_wp2
          go_roundw
          case rel => exact ⟨j + 1, _, _, _, by omega, by go_num, rfl, HOs.out, HBs.out⟩
          case measure => simp [intOf]; omega
        · have HE : Hid (flatP (mergeL (qs.take (j + 1))) = flatP (init ++ [q]) ++ [.int .i64 p.f, .int .i64 p.t]) := Lib.hid (by rw [HP.out, mergeStep_new init q p hin, flatP_push])
          have hdk : decide (p.f ≤ q.t) = false := decide_eq_false hin
          clear HP
          go_wp2
          go_quiet (fail)
          have HO6 := Lib.hid (HO5.out.below (below_drewN (Below.refl w5.heap.size w5) nq) (Nat.le_refl _))
          have HB6 := Lib.hid (below_drewN HB5.out nq)
          replace d0 : (w5.drewN nq).cell? _ = _ := d0
          replace d1 : (w5.drewN nq).cell? _ = _ := d1
          generalize w5.drewN nq = w6 at *
          go_wp2_with (at_builtin; refine wpList_appN Try.elemPiece rfl (.tmp 48) (.tmp 50) rfl HO6.out HB6.out.size (by omega) (by omega) #[.int .i64 p.f, .int .i64 p.t] rfl (by intro u hu; simp at hu; rcases hu with rfl | rfl <;> rfl) _ rfl rfl ?_)
          intro a9 c9 w9 ho9 hg9 _
          have HN9 : Hid (OwnP w3.heap.size w9 a9 (mm + 1 + 1) c9 (mergeL (qs.take (j + 1)))) := Lib.hid (by unfold OwnP; rw [HE.out]; exact ho9)
          have HB9 := Lib.hid (HB6.out.trans (HO6.out.app hg9 HB6.out.size))
          clear ho9 hg9
          go_wp2
          go_roundw
          case rel => exact ⟨j + 1, _, _, _, by omega, by go_num, rfl, HN9.out, HB9.out⟩
          case measure => simp [intOf]; omega
    · obtain rfl : k = j := by omega
      have HRes : Hid (OwnP w.heap.size wr a' m c' (joinL ps)) := Lib.hid (by
        have := HO.out
        rw [List.take_of_length_le (by rw [HK.out]; exact Nat.le_refl _), HJ.out] at this
        exact this.mono HB3.out.size)
      have HEnd := Lib.hid (below_sq HB3.out HBl.out)
      go_wp2
      go_ret
      exact ⟨_, _, _, rfl, HRes.out, HEnd.out⟩
end Go.Proofs.Ytkcdcgijbaepmaa
