/-
  The walk of VisualGone.
-/
import Derived.Test.YtcgdhgdblieaiaaW6
import Derived.Test.YtcgdhgdblieaiaaP4
namespace Go.Proofs.Ytcgdhgdblieaiaa
open Go.RowKit

def GoneA (w : World) (g n2 m : Nat) (i : Value) (wr : World) : Prop :=
  ∃ (k : Nat) (M : List Int), k ≤ m ∧ i = .int .i64 k ∧ Counts M (n2 + 1) k ∧ Own w.heap.size 3 wr (some ⟨g, 0, none⟩) (n2 + 1) (n2 + 1) (ivs .i64 M) ∧ Below w.heap.size w wr

/-- what has been put together: up to character i, and j that are Gone ahead of it -/
structure GoneSt (w : World) (l M : List Int) (i j : Nat) (a9 : Option Addr) (n9 c9 : Nat) (a10 : Option Addr) (n10 c10 : Nat) (W : List Int) (wr : World) : Prop where
  ok : ∀ x ∈ W, -1 ≤ x ∧ x ≤ 126
  shown : shownL W = l.take i
  len : (W.length : Int) ≤ i + (M.take i).sum + j
  o9 : Own w.heap.size 33 wr a9 n9 c9 (ivs .i8 W)
  o10 : Own w.heap.size 3 wr a10 n10 c10 (ivs .i64 (shownIdx W))
  below : Below w.heap.size w wr
  apart : (Value.slice a9 n9 c9).ownBlock = none ∨ (Value.slice a9 n9 c9).ownBlock ≠ (Value.slice a10 n10 c10).ownBlock

theorem GoneSt.start (w : World) (l M : List Int) : GoneSt w l M 0 0 none 0 0 none 0 0 [] w :=
  ⟨fun x hx => by simp at hx, by simp [shownL], by simp, Own.nil _ _ _, Own.nil _ _ _, Below.refl _ _, .inl rfl⟩

theorem GoneSt.putGone {w : World} {l M : List Int} {i j : Nat} {a9 a10 : Option Addr} {n9 c9 n10 c10 : Nat} {W : List Int} {wr : World} (h : GoneSt w l M i j a9 n9 c9 a10 n10 c10 W wr)
    {a' : Option Addr} {c' : Nat} {w' : World} (ho : Own w.heap.size 33 w' a' (n9 + 1) c' (ivs .i8 W ++ [.int .i8 (-1)])) (hg : wr.grownBy w' (Value.slice a9 n9 c9).ownBlock) (hb : newBlock wr (.slice a9 n9 c9) (.slice a' (n9 + 1) c')) :
    GoneSt w l M i (j + 1) a' (n9 + 1) c' a10 n10 c10 (W ++ [-1]) w' := by
  refine ⟨?_, by rw [shownL_push_gone]; exact h.shown, by have := h.len; simp; omega, by rw [ivs_append]; exact ho, by rw [shownIdx_push_gone]; exact h.o10.grown hg (apart_symm h.apart), h.below.trans (h.o9.app hg h.below.size), ?_⟩
  · intro x hx
    rcases List.mem_append.1 hx with hx | hx
    · exact h.ok x hx
    · simp at hx; omega
  · exact apart_symm (apart_new hb h.o10.lt (apart_symm h.apart))

theorem GoneSt.putAt {w : World} {l M : List Int} {i j : Nat} {a9 a10 : Option Addr} {n9 c9 n10 c10 : Nat} {W : List Int} {wr : World} (h : GoneSt w l M i j a9 n9 c9 a10 n10 c10 W wr) (hi : i < l.length) (hM : i < M.length) (hj : (j : Int) = M[i]) (hl : 0 ≤ l[i] ∧ l[i] ≤ 126)
    {a' : Option Addr} {c' : Nat} {w' : World} (ho : Own w.heap.size 3 w' a' (n10 + 1) c' (ivs .i64 (shownIdx W) ++ [.int .i64 n9])) (hg : wr.grownBy w' (Value.slice a10 n10 c10).ownBlock) (hb : newBlock wr (.slice a10 n10 c10) (.slice a' (n10 + 1) c'))
    {a2 : Option Addr} {c2 : Nat} {w2 : World} (ho2 : Own w.heap.size 33 w' a9 n9 c9 (ivs .i8 W) → Own w.heap.size 33 w2 a2 (n9 + 1) c2 (ivs .i8 W ++ [.int .i8 l[i]])) (hg2 : w'.grownBy w2 (Value.slice a9 n9 c9).ownBlock) (hb2 : newBlock w' (.slice a9 n9 c9) (.slice a2 (n9 + 1) c2)) :
    GoneSt w l M (i + 1) 0 a2 (n9 + 1) c2 a' (n10 + 1) c' (W ++ [l[i]]) w2 := by
  have hn9 : W.length = n9 := h.o9.lenI
  have ap : (Value.slice a9 n9 c9).ownBlock = none ∨ (Value.slice a9 n9 c9).ownBlock ≠ (Value.slice a' (n10 + 1) c').ownBlock := apart_new hb h.o9.lt h.apart
  have k9 := h.o9.grown hg h.apart
  refine ⟨?_, ?_, ?_, by rw [ivs_append]; exact ho2 k9, ?_, (h.below.trans (h.o10.app hg h.below.size)).trans (k9.app hg2 (Nat.le_trans h.below.size hg.size)), ?_⟩
  · intro x hx
    rcases List.mem_append.1 hx with hx | hx
    · exact h.ok x hx
    · simp at hx; omega
  · rw [shownL_push _ _ hl.1, h.shown, List.take_succ_eq_append_getElem hi]
  · rw [sum_take_succ M i hM]; have := h.len; simp; omega
  · rw [shownIdx_push W l[i] (by omega), ivs_append, hn9]; exact ho.grown hg2 (apart_symm ap)
  · exact apart_symm (apart_new hb2 ho.lt (apart_symm ap))

theorem GoneSt.last {w : World} {l M : List Int} {i j : Nat} {a9 a10 : Option Addr} {n9 c9 n10 c10 : Nat} {W : List Int} {wr : World} (h : GoneSt w l M i j a9 n9 c9 a10 n10 c10 W wr) (hi : l.length ≤ i) (hM : i < M.length) (hj : (j : Int) = M[i]) :
    GoneSt w l M (i + 1) 0 a9 n9 c9 a10 n10 c10 W wr :=
  ⟨h.ok, by rw [h.shown, List.take_of_length_le hi, List.take_of_length_le (by omega)], by rw [sum_take_succ M i hM]; have := h.len; simp; omega, h.o9, h.o10, h.below, h.apart⟩

theorem GoneSt.drew {w : World} {l M : List Int} {i j : Nat} {a9 a10 : Option Addr} {n9 c9 n10 c10 : Nat} {W : List Int} {wr : World} (h : GoneSt w l M i j a9 n9 c9 a10 n10 c10 W wr) (hM : ∀ x ∈ M, 0 ≤ x) {n1 : Nat} (hs : M.sum ≤ n1) (hi : i < M.length) (hj : (j : Int) ≤ M[i]) : n9 ≤ i + n1 ∧ n10 ≤ n9 := by
  have h1 := h.o9.lenI
  have h2 := h.o10.lenI
  have h3 := shownIdx_le W
  have h4 := h.len
  have h5 := sum_take_le M hM i hi
  omega

def GoneB (w : World) (l M : List Int) (v9 v10 v11 : Value) (wr : World) : Prop :=
  ∃ (i : Nat) (a9 : Option Addr) (n9 c9 : Nat) (a10 : Option Addr) (n10 c10 : Nat) (W : List Int), i ≤ l.length + 1 ∧ v11 = .int .i64 (i : Nat) ∧ v9 = .slice a9 n9 c9 ∧ v10 = .slice a10 n10 c10 ∧ GoneSt w l M i 0 a9 n9 c9 a10 n10 c10 W wr
def GoneC (w : World) (l M : List Int) (i : Nat) (m : Int) (a10 : Option Addr) (n10 c10 : Nat) (v9 v12 : Value) (wr : World) : Prop :=
  ∃ (j : Nat) (a9 : Option Addr) (n9 c9 : Nat) (W : List Int), (j : Int) ≤ m ∧ v12 = .int .i64 (j : Nat) ∧ v9 = .slice a9 n9 c9 ∧ GoneSt w l M i j a9 n9 c9 a10 n10 c10 W wr

set_option maxHeartbeats 1000000 in
theorem gone_walk (a : Option Addr) (n cap : Nat) (zs : List Int) (a1 : Option Addr) (n1 cap1 : Nat) (ins : List Int) (w : World) (hn : zs.length = n) (hm : n ≤ 9223372036854775807) (hc : Ints .i8 w a zs)
    (hn1 : ins.length = n1) (hm1 : n1 ≤ 9223372036854775807) (hc1 : Ints .i64 w a1 ins) (hwf : ∀ x ∈ ins, (Lit.int .i64 x).wf = true) :
    Calls Try.prog 4 #[.slice a n cap, .slice a1 n1 cap1] w fun e w' => e = .returned (.bool true) ∧ Below w.heap.size w w' := by
  have HN := Lib.hid hn; clear hn
  have HN1 := Lib.hid hn1; clear hn1
  have HWF := Lib.hid hwf; clear hwf
  by_cases hok : (okL zs && decide (n ≤ 65536)) = true
  · by_cases h1000 : n1 ≤ 1000
    · have HC := Lib.hid hok
      rw [Bool.and_eq_true, decide_eq_true_eq] at hok
      obtain ⟨hk, h65⟩ := hok
      have HK := Lib.hid hk; clear hk
      go_enter Try.func4, Try.ntmps4
      go_wp2_with fail
      refine (lmay_walk a n cap zs _ HN.out hm hc).mono ?_
      rintro e w' ⟨rfl, rfl⟩
      rw [HC.out]
      go_wp2_with fail
      refine (lives_walk _).mono ?_
      rintro e w1 ⟨rfl, hb1⟩
      have hcA := hc.below hb1 (Nat.le_refl _)
      have hcI := hc1.below hb1 (Nat.le_refl _)
      have HB1 := Lib.hid hb1; clear hb1
      go_wp2_with fail
      refine (shown_walk a n cap zs _ HN.out (by omega) hcA).mono ?_
      rintro e w2 ⟨a2, n2, cap2, rfl, hown2, hb2⟩
      have hl2 : n2 ≤ n := by have := hown2.lenI; have := shownL_le zs; have := HN.out; omega
      have hcI2 := hcI.below hb2 (Nat.le_refl _)
      have HO2 := Lib.hid hown2; clear hown2
      have HB2 := Lib.hid (below_seq HB1.out hb2); clear hb2 HB1
      go_wp2_with (at_make; refine wpList_mk Try.elemInt rfl rfl (.tmp 35) (.tmp 35) rfl (n2 + 1) (by omega) (by unfold maxLen; omega) rfl rfl ?_)
      intro w3 hown3 hb3 hsz
      have HO3 := Lib.hid hown3; clear hown3
      have HB3 := Lib.hid hb3; clear hb3
      have HSZ := Lib.hid hsz; clear hsz
      go_wp2
      go_loopw [7] (GoneA w2 w2.heap.size n2 n1) (fun i _ => n1 - (intOf i).toNat)
      case atStart => exact ⟨0, List.replicate (n2 + 1) 0, Nat.zero_le _, rfl, Counts.start _, by rw [← ivs_replicate]; exact HO3.out, HB3.out⟩
      case round =>
        obtain ⟨k, M, hk, rfl, hcnt, hown, hbel⟩ := hrel
        have HCN := Lib.hid hcnt; clear hcnt
        have HO := Lib.hid hown; clear hown
        have HB := Lib.hid hbel; clear hbel
        by_cases hlt : k < n1
        · obtain ⟨b1, o1, ha⟩ := hcI2.some (by have := HN1.out; omega)
          subst ha
          have hki : k < ins.length := by have := HN1.out; omega
          have c1 := (hcI2.below HB.out (Nat.le_refl _)).get k hki
          have hw := HWF.out _ (List.getElem_mem hki)
          generalize ins[k] = x at *
          have rest : ∀ d : Nat, d ≤ n2 → Hid (∃ y : Int, 0 ≤ y ∧ y ≤ 1000 ∧ wr.cell? ⟨w2.heap.size, d, none⟩ = some (.int .i64 y) ∧ Counts (M.set d (y + 1)) (n2 + 1) (k + 1)) := by
            intro d hd
            have hdl : d < M.length := by rw [HCN.out.len]; omega
            have hb := HCN.out.at d hdl
            refine ⟨M[d], hb.1, by omega, ?_, HCN.out.up d hdl⟩
            have := HO.out.cell d (by simpa [ivs] using hdl)
            simpa [ivs] using this
          have RS := Lib.hid rest; clear rest
          have FR := Lib.hid (fun d => HO.out.unfrozen d)
          by_cases h0 : 0 ≤ x
          · obtain ⟨d, hd, hdn⟩ : ∃ d : Nat, x % ((n2 : Int) + 1) = (d : Int) ∧ d ≤ n2 := ⟨(x % ((n2 : Int) + 1)).toNat, by have := Int.emod_nonneg x (show ((n2 : Int) + 1) ≠ 0 by omega); omega, by have := Int.emod_lt_of_pos x (show 0 < ((n2 : Int) + 1) by omega); omega⟩
            obtain ⟨y, hy0, hy1, c2, hcu⟩ := RS.out d hdn
            have fr := FR.out d
            have HCU := Lib.hid hcu; clear hcu
            go_wp2
            go_roundw
            case rel =>
              refine ⟨k + 1, _, by omega, by go_num, HCU.out, ?_, HB.out.trans ((Below.refl _ _).setCell (p := ⟨w2.heap.size, d, none⟩) (Nat.le_refl _) _)⟩
              rw [← ivs_set]
              exact HO.out.store d _
            case measure => simp [intOf]; omega
          · obtain ⟨d, hd, hdn⟩ : ∃ d : Nat, x.tmod ((n2 : Int) + 1) = -(d : Int) ∧ d ≤ n2 := by
              have e := Int.neg_tmod (-x) ((n2 : Int) + 1)
              rw [Int.neg_neg, Int.tmod_eq_emod_of_nonneg (show 0 ≤ -x by omega)] at e
              have h1 := Int.emod_nonneg (-x) (show ((n2 : Int) + 1) ≠ 0 by omega)
              have h2 := Int.emod_lt_of_pos (-x) (show 0 < ((n2 : Int) + 1) by omega)
              exact ⟨((-x) % ((n2 : Int) + 1)).toNat, by rw [e]; omega, by omega⟩
            obtain ⟨y, hy0, hy1, c2, hcu⟩ := RS.out d hdn
            have fr := FR.out d
            have HCU := Lib.hid hcu; clear hcu
            by_cases hd0 : d = 0
            · subst hd0
              have hd' : x.tmod ((n2 : Int) + 1) = 0 := by simpa using hd
              clear hd
              go_wp2
              go_roundw
              case rel =>
                refine ⟨k + 1, _, by omega, by go_num, HCU.out, ?_, HB.out.trans ((Below.refl _ _).setCell (p := ⟨w2.heap.size, 0, none⟩) (Nat.le_refl _) _)⟩
                rw [← ivs_set]
                exact HO.out.store 0 _
              case measure => simp [intOf]; omega
            · have hdp : 0 < d := by omega
              go_wp2
              go_roundw
              case rel =>
                refine ⟨k + 1, _, by omega, by go_num, HCU.out, ?_, HB.out.trans ((Below.refl _ _).setCell (p := ⟨w2.heap.size, d, none⟩) (Nat.le_refl _) _)⟩
                rw [← ivs_set]
                exact HO.out.store d _
              case measure => simp [intOf]; omega
        · have hn1r : n1 ≤ 1000 := h1000
          obtain ⟨l, hl⟩ : ∃ l, l = shownL zs := ⟨_, rfl⟩
          rw [← hl] at HO2
          have hll : l.length = n2 := HO2.out.lenI
          have HLl := Lib.hid hll; clear hll
          have hL : ∀ x ∈ l, 0 ≤ x ∧ x ≤ 126 := by rw [hl]; exact shownL_ok zs HK.out
          have HLk := Lib.hid hL; clear hL
          have HLe := Lib.hid hl; clear hl
          have HM0 := Lib.hid (HCN.out.pos)
          have HMs : Hid (M.sum ≤ n1) := by have := HCN.out.sum; have h : M.sum ≤ n1 := by omega
                                            exact h
          have HMl := Lib.hid (HCN.out.len)
          obtain ⟨w4, rfl⟩ : ∃ w4 : World, w4 = wr := ⟨_, rfl⟩
          have HI4 := Lib.hid (HO2.out.ints.below HB.out (Nat.le_refl _))
          have HM4 := Lib.hid HO.out.ints
          go_wp2
          go_loopw [9, 10, 11] (GoneB w4 l M) (fun _ _ i _ => n2 + 1 - (intOf i).toNat)
          case atStart => exact ⟨0, none, 0, 0, none, 0, 0, [], Nat.zero_le _, rfl, rfl, rfl, GoneSt.start _ _ _⟩
          case round =>
            obtain ⟨i, a9, n9, c9, a10, n10, c10, W, hi, rfl, rfl, rfl, hst⟩ := hrel
            have HST := Lib.hid hst; clear hst
            have hi' : i ≤ n2 + 1 := by have := HLl.out; omega
            clear hi
            by_cases hin : i ≤ n2
            · have hiM : i < M.length := by rw [HMl.out]; omega
              have cm := (HM4.out.below HST.out.below (Nat.le_refl _)).get i hiM
              have hmb : 0 ≤ M[i] ∧ M[i] ≤ 1000 := by have h1 := HM0.out _ (List.getElem_mem hiM); have h2 := le_sum M HM0.out i hiM; have := HMs.out; have h3 : M.sum ≤ n1 := this; omega
              obtain ⟨m, hm1, hm2⟩ : ∃ m : Nat, M[i] = (m : Int) ∧ m ≤ 1000 := ⟨M[i].toNat, by omega, by omega⟩
              rw [hm1] at cm
              simp only [Nat.zero_add] at cm
              have HMI := Lib.hid hm1; clear hm1 hmb
              obtain ⟨w5, rfl⟩ : ∃ w5 : World, w5 = wr := ⟨_, rfl⟩
              go_wp2
              go_loopw [9, 12] (GoneC w4 l M i (m : Int) a10 n10 c10) (fun _ j _ => m - (intOf j).toNat)
              case atStart => exact ⟨0, a9, n9, c9, W, by omega, rfl, rfl, HST.out⟩
              case round =>
                obtain ⟨j, a9, n9, c9, W, hj, rfl, rfl, hst⟩ := hrel
                have HS3 := Lib.hid hst; clear hst
                have hbd := HS3.out.drew HM0.out HMs.out hiM (by rw [HMI.out]; exact hj)
                obtain ⟨hn9, hn10⟩ := hbd
                have cm2 := (HM4.out.below HS3.out.below (Nat.le_refl _)).get i hiM
                rw [HMI.out] at cm2
                simp only [Nat.zero_add] at cm2
                have HO9 := Lib.hid HS3.out.o9
                have HBs := Lib.hid HS3.out.below.size
                by_cases hjm : j < m
                · go_wp2_with (at_builtin; refine wpList_app1x Try.elemLevel rfl (.tmp 74) (.tmp 75) rfl HO9.out HBs.out (by omega) (by omega) _ rfl _ rfl rfl ?_)
                  intro a' c' w' ho hg hb
                  have HP := Lib.hid (HS3.out.putGone ho hg hb); clear ho hg hb
                  go_wp2
                  go_roundw
                  case rel => exact ⟨j + 1, _, _, _, _, by omega, by go_num, rfl, HP.out⟩
                  case measure => simp [intOf]; omega
                · have hje : (j : Int) = (m : Int) := by omega
                  have HJ := Lib.hid hje; clear hje
                  by_cases hil : i < n2
                  · have hill : i < l.length := by rw [HLl.out]; exact hil
                    have hlv := HLk.out _ (List.getElem_mem hill)
                    obtain ⟨b2, o2, ha2⟩ := HI4.out.some (by omega)
                    subst ha2
                    have HO10 := Lib.hid HS3.out.o10
                    go_wp2_with (at_builtin; refine wpList_app1x Try.elemInt rfl (.tmp 81) (.tmp 84) rfl HO10.out HBs.out (by omega) (by omega) _ rfl _ rfl rfl ?_)
                    intro a' c' w' ho hg hb
                    have hB2 := HS3.out.below.trans (HO10.out.app hg HBs.out)
                    have hcl := (HI4.out.below hB2 (Nat.le_refl _)).get i hill
                    have hok := HO9.out.grown hg HS3.out.apart
                    have HK9 := Lib.hid hok; clear hok
                    have HBs2 := Lib.hid hB2.size; clear hB2
                    have HA1 := Lib.hid ho; clear ho
                    have HA2 := Lib.hid hg; clear hg
                    have HA3 := Lib.hid hb; clear hb
                    obtain ⟨hlv0, hlv1⟩ := hlv
                    go_wp2_with (at_builtin; refine wpList_app1x Try.elemLevel rfl (.tmp 86) (.tmp 91) rfl HK9.out HBs2.out (by omega) (by omega) _ rfl _ rfl rfl ?_)
                    intro a2' c2' w2' ho hg hb
                    have HP := Lib.hid (HS3.out.putAt hill hiM (by rw [HMI.out]; exact HJ.out) (HLk.out _ (List.getElem_mem hill)) HA1.out HA2.out HA3.out (fun _ => ho) hg hb)
                    clear ho hg hb
                    go_wp2
                    go_roundw
                    case rel => exact ⟨i + 1, _, _, _, _, _, _, _, by have := HLl.out; omega, by go_num, rfl, rfl, HP.out⟩
                    case measure => simp [intOf]; omega
                  · have HP := Lib.hid (HS3.out.last (by rw [HLl.out]; omega) hiM (by rw [HMI.out]; exact HJ.out))
                    go_wp2
                    go_roundw
                    case rel => exact ⟨i + 1, _, _, _, _, _, _, _, by have := HLl.out; omega, by go_num, rfl, rfl, HP.out⟩
                    case measure => simp [intOf]; omega
            · have hie : i = l.length + 1 := by have := HLl.out; omega
              have hsW : shownL W = l := by rw [HST.out.shown, List.take_of_length_le (by omega)]
              have hWl : W.length = n9 := HST.out.o9.lenI
              have hWb : n9 ≤ 66600 := by
                have h1 := HST.out.len
                have h2 : (M.take i).sum ≤ n1 := by
                  rw [List.take_of_length_le (by have := HMl.out; have := HLl.out; omega)]
                  exact HMs.out
                have := HLl.out
                omega
              have HWl := Lib.hid hWl; clear hWl
              have HWo := Lib.hid (okL_mem2 W HST.out.ok)
              have HGo := Lib.hid (gone W HST.out.ok)
              have HSW := Lib.hid hsW; clear hsW hie
              have HLo := Lib.hid (okL_of _ HLk.out)
              have HI5 := Lib.hid (HI4.out.below HST.out.below (Nat.le_refl _))
              have hl10 : (shownIdx W).length = n2 := by
                have := congrArg List.length (shown_vals' W (fun x hx => (HST.out.ok x hx).1))
                rw [List.length_map, HSW.out, HLl.out] at this
                exact this
              obtain rfl : n2 = n10 := by have := HST.out.o10.lenI; omega
              have HL10 := Lib.hid hl10; clear hl10
              go_wp2_with fail
              refine (Order_walk a2 n2 cap2 l _ HLl.out (by omega) HLo.out HI5.out).mono ?_
              rintro e w6 ⟨a6, n6, cap6, rfl, hown6, hb6⟩
              have hlo : (ord l).length = n2 := by
                rw [ord_length, shownIdx_all _ (fun x hx => by have := HLk.out x hx; omega)]
                simp [HLl.out]
              obtain rfl : n2 = n6 := by have := hown6.lenI; omega
              have HLO := Lib.hid hlo; clear hlo
              have HO6 := Lib.hid hown6; clear hown6
              have HB6 := Lib.hid hb6; clear hb6
              go_wp2_with fail
              refine (Order_walk a9 n9 c9 W _ HWl.out (by omega) HWo.out (HST.out.o9.ints.below HB6.out (Nat.le_refl _))).mono ?_
              rintro e w7 ⟨a7, n7, cap7, rfl, hown7, hb7⟩
              have hlo7 : (ord W).length = n2 := by rw [HGo.out, List.length_map, HSW.out]; exact HLO.out
              obtain rfl : n2 = n7 := by have := hown7.lenI; omega
              have HL7 := Lib.hid hlo7; clear hlo7
              have HO7 := Lib.hid hown7; clear hown7
              have HB7 := Lib.hid hb7; clear hb7
              have hnn : ((n2 : Int) != (n2 : Int)) = false := by simp
              have HB67 := Lib.hid (below_seq HB6.out HB7.out)
              have HIa := Lib.hid (HO6.out.ints.below HB7.out (Nat.le_refl _))
              have HIt := Lib.hid (HST.out.o10.ints.below HB67.out (Nat.le_refl _))
              have HBall := Lib.hid (below_seq HB2.out (below_seq HB.out (below_seq HST.out.below HB67.out)))
              go_wp2
              go_loopw [17] (fun i wr => ∃ k : Nat, k ≤ n2 ∧ i = .int .i64 k ∧ Below w7.heap.size w7 wr) (fun i _ => n2 - (intOf i).toNat)
              case atStart => exact ⟨0, Nat.zero_le _, rfl, Below.refl _ _⟩
              case round =>
                obtain ⟨k, hk, rfl, hbel⟩ := hrel
                by_cases hlt : k < n2
                · have h1 : k < (ord W).length := by rw [HL7.out]; exact hlt
                  have h2 : k < (ord l).length := by rw [HLO.out]; exact hlt
                  have hmem := (mem_ord l _).1 (List.getElem_mem h2)
                  obtain ⟨j, hj1⟩ : ∃ j : Nat, (ord l)[k] = (j : Int) := ⟨(ord l)[k].toNat, by omega⟩
                  have hj2 : j < n2 := by have := HLl.out; omega
                  have h3 : j < (shownIdx W).length := by rw [HL10.out]; exact hj2
                  have hv : (ord W)[k] = (shownIdx W)[j] := by
                    have := List.getElem_of_eq HGo.out h1
                    rw [this, List.getElem_map]
                    have e : (ord (shownL W))[k]'(by rw [HSW.out]; exact h2) = (j : Int) := by
                      rw [← hj1]
                      congr 1
                      rw [HSW.out]
                    rw [e]
                    simp [h3]
                  obtain ⟨g6, ha, _⟩ := HO6.out.at (by omega)
                  subst ha
                  obtain ⟨g7, ha, _⟩ := HO7.out.at (by omega)
                  subst ha
                  obtain ⟨g10, ha, _⟩ := HST.out.o10.at (by omega)
                  subst ha
                  have c7 := (HO7.out.ints.below hbel (Nat.le_refl _)).get k h1
                  have c6 := (HIa.out.below hbel (Nat.le_refl _)).get k h2
                  have c10 := (HIt.out.below hbel (Nat.le_refl _)).get j h3
                  rw [hv] at c7
                  rw [hj1] at c6
                  simp only [Nat.zero_add] at c7 c6 c10
                  generalize (shownIdx W)[j] = y at *
                  have hyy : (y != y) = false := by simp
                  have HBe := Lib.hid hbel; clear hbel
                  clear hv hj1 hmem h1 h2 h3
                  go_wp2
                  go_quiet (fail)
                  go_wp2
                  go_roundw
                  case rel => exact ⟨k + 1, by omega, by go_num, below_drewN HBe.out _⟩
                  case measure => simp [intOf]; omega
                · have HBe := Lib.hid hbel; clear hbel
                  go_wp2
                  go_ret
                  exact ⟨rfl, below_seq HBall.out HBe.out⟩
    · have HC := Lib.hid hok; clear hok
      go_enter Try.func4, Try.ntmps4
      go_wp2_with fail
      refine (lmay_walk a n cap zs _ HN.out hm hc).mono ?_
      rintro e w' ⟨rfl, rfl⟩
      rw [HC.out]
      go_wp2_with fail
      refine (lives_walk _).mono ?_
      rintro e w1 ⟨rfl, hb1⟩
      go_wp2
      go_ret
      exact ⟨rfl, hb1⟩
  · have hf : (okL zs && decide (n ≤ 65536)) = false := by simpa using hok
    have HC := Lib.hid hf; clear hf hok
    go_enter Try.func4, Try.ntmps4
    go_wp2_with fail
    refine (lmay_walk a n cap zs _ HN.out hm hc).mono ?_
    rintro e w' ⟨rfl, rfl⟩
    rw [HC.out]
    go_wp2_with fail
    refine (lives_walk _).mono ?_
    rintro e w1 ⟨rfl, hb1⟩
    go_wp2
    go_ret
    exact ⟨rfl, hb1⟩
end Go.Proofs.Ytcgdhgdblieaiaa
