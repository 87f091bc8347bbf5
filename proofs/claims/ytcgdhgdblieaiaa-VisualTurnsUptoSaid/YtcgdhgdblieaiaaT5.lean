/-
  Walks: the document's own turning back of texts.
-/
import Derived.Test.YtcgdhgdblieaiaaT2
set_option linter.unusedVariables false
namespace Go.Proofs.Ytcgdhgdblieaiaa
open Go.RowKit

def RbA (w : World) (n : Nat) (v i : Value) (wr : World) : Prop := ∃ k : Nat, k ≤ n ∧ i = .int .i64 k ∧ ∃ a' c', v = .slice a' k c' ∧ Own w.heap.size 9 wr a' k c' (svs (List.replicate k noS)) ∧ Below w.heap.size w wr
def RbB (w : World) (a' : Option Addr) (n c' m : Nat) (o : List Int) (ss base : List ByteArray) (i : Value) (wr : World) : Prop :=
  ∃ k : Nat, k ≤ m ∧ i = .int .i64 k ∧ Own w.heap.size 9 wr a' n c' (svs (fillL o (fun k => ss.getD k noS) base k)) ∧ Below w.heap.size w wr

set_option maxRecDepth 100000 in
set_option maxHeartbeats 4000000 in
/-- 'furrowref22.Back' -/
theorem rBack_walk (a1 : Option Addr) (n1 c1 : Nat) (ss : List ByteArray) (a : Option Addr) (n cap : Nat) (zs : List Int) (w : World) (hx : ss.length = n1) (hm1 : n1 ≤ 1048576) (hc1 : Strs w a1 ss) (hn : zs.length = n) (hlt : n ≤ 1048576) (hc : Ints .i8 w a zs) :
    Calls Try.prog 28 #[.slice a1 n1 c1, .slice a n cap] w fun e w' => ∃ a' n' cap', e = .returned (.tuple #[.slice a' n' cap', .int .i64 (lenC n1 zs (ord zs).length)]) ∧ Own w.heap.size 9 w' a' n' cap' (svs (backS ss zs)) ∧ Below w.heap.size w w' := by
  have HN := Lib.hid hn; clear hn
  have HX := Lib.hid hx; clear hx
  go_enter Try.func28, Try.ntmps28
  go_wp2_with fail
  refine (Check_walk a n cap zs _ HN.out hlt hc).mono ?_
  rintro e w' ⟨rfl, rfl⟩
  by_cases hok : okL zs = true
  · have HK := Lib.hid hok
    rw [show mayN zs = 0 from if_pos hok]
    clear hok
    go_wp2_with fail
    refine (rOrder_walk a n cap zs _ HN.out hlt HK.out hc).mono ?_
    rintro e w1 ⟨a2, m, cap2, rfl, hown, hb⟩
    have hml := hown.lenI
    have HO := Lib.hid hown; clear hown
    have HB := Lib.hid hb; clear hb
    have HM := Lib.hid hml
    have hl2 : m ≤ n := by have := ord_le zs; have := HN.out; omega
    clear hml
    by_cases hl : n1 = m
    · subst hl
      have hnn : ((n1 : Int) != (n1 : Int)) = false := by simp
      have HC0 := Lib.hid (show lenC n1 zs (ord zs).length = 0 by unfold lenC; rw [if_pos HK.out, if_pos HM.out.symm])
      have HR0 := Lib.hid (show backS ss zs = backSF ss zs from if_pos ⟨HK.out, by rw [HX.out, HM.out]⟩)
      go_wp2
      clear hnn
      go_loopw [8, 9] (RbA w1 n) (fun _ i _ => n - (intOf i).toNat)
      case atStart => exact ⟨0, Nat.zero_le _, rfl, none, 0, rfl, Own.nil _ _ _, Below.refl _ _⟩
      case round =>
        obtain ⟨k, hk, rfl, a', c', rfl, hown, hbel⟩ := hrel
        have HO1 := Lib.hid hown; clear hown
        have HB1 := Lib.hid hbel; clear hbel
        by_cases hlt3 : k < n
        · have hki : (k : Int) < (n : Int) := by omega
          go_wp2_with (at_builtin; refine wpList_app1 Try.elemStr rfl (.tmp 29) (.tmp 30) rfl HO1.out HB1.out.size (by omega) (by omega) _ rfl _ rfl rfl ?_)
          intro a3 cap3 w3 hown3 hg
          have HO3 : Hid (Own w1.heap.size 9 w3 a3 (k + 1) cap3 (svs (List.replicate (k + 1) noS))) := Lib.hid (by
            rw [List.replicate_succ', svs_append]; exact hown3)
          have HG := Lib.hid (HO1.out.app hg HB1.out.size); clear hg hown3
          go_wp2
          go_roundw
          case rel => exact ⟨k + 1, hlt3, by go_num, _, _, rfl, HO3.out, HB1.out.trans HG.out⟩
          case measure => simp [intOf]; omega
        · obtain rfl : k = n := by omega
          have hki : ¬ (k : Int) < (k : Int) := by omega
          generalize wr = w2 at *
          go_wp2
          clear hki hlt3 hk
          go_loopw [10] (RbB w1 a' k c' n1 (ord zs) ss (List.replicate k noS)) (fun i _ => n1 - (intOf i).toNat)
          case atStart => exact ⟨0, Nat.zero_le _, rfl, HO1.out, HB1.out⟩
          case round =>
            obtain ⟨j, hj, rfl, hown, hbel⟩ := hrel
            have HO7 := Lib.hid hown; clear hown
            have HB7 := Lib.hid hbel; clear hbel
            by_cases hkm : j < n1
            · have hko : j < (ord zs).length := by rw [HM.out]; exact hkm
              obtain ⟨x, hxe, hxl⟩ := ord_nonneg zs j hko
              obtain ⟨g2, ha, hg2, hg3, _⟩ := HO.out.at (by omega)
              subst ha
              have e1 := (HO.out.ints.below HB7.out (Nat.le_refl _)).get j hko
              rw [hxe] at e1
              simp only [Nat.zero_add] at e1
              have hxk : j < ss.length := by rw [HX.out]; exact hkm
              obtain ⟨b, o, ha⟩ := hc1.some (by omega)
              subst ha
              have e2 := ((hc1.below HB.out (Nat.le_refl _)).below HB7.out (Nat.le_refl _)).get j hxk
              have hxn : x < k := by have := HN.out; omega
              have hxi : (x : Int) < (k : Int) := by omega
              have hki : (j : Int) < (n1 : Int) := by omega
              obtain ⟨g, ha, hgg1, hgg2, hgg3, hgg4⟩ := HO7.out.at (by omega)
              subst ha
              have fr := HO7.out.unfrozen x
              obtain ⟨u, cl⟩ : ∃ u, wr.cell? ⟨g, x, none⟩ = some u := ⟨_, HO7.out.cell x (by rw [HO7.out.len]; exact hxn)⟩
              have HE := Lib.hid (show (fillL (ord zs) (fun k => ss.getD k noS) (List.replicate k noS) (j + 1)) = (fillL (ord zs) (fun k => ss.getD k noS) (List.replicate k noS) j).set x ss[j] by
                rw [fillL, ord_getD zs j hko, hxe]; simp [hxk])
              clear hxe hko
              generalize ss[j] = sj at *
              clear hxk
              go_wp2
              go_region
              go_wp2
              go_roundw
              case rel =>
                refine ⟨j + 1, by omega, by go_num, ?_, ?_⟩
                · rw [HE.out, ← svs_set]
                  exact World.ownsRow.drew (HO7.out.store x _)
                · exact below_drewN (HB7.out.setCell (p := ⟨g, x, none⟩) hgg1 _) 1
              case measure => simp [intOf]; omega
            · obtain rfl : n1 = j := by omega
              go_wp2
              go_ret2
              refine ⟨_, _, _, by rw [HC0.out]; rfl, ?_, HB.out.trans (HB7.out.mono HB.out.size)⟩
              have := HO7.out.mono HB.out.size
              rw [HR0.out]
              unfold backSF
              rw [HM.out, HN.out]
              exact this
    · have hnn : ((n1 : Int) != (m : Int)) = true := by simpa using fun h => hl (by omega)
      have HC0 := Lib.hid (show lenC n1 zs (ord zs).length = 220 by unfold lenC; rw [if_pos HK.out, if_neg (fun h => hl (by rw [h, HM.out]))])
      have HR0 := Lib.hid (show backS ss zs = [] from if_neg (fun h => hl (by rw [← HX.out, ← HM.out]; exact h.2)))
      go_wp2
      go_ret2
      exact ⟨_, _, _, by rw [HC0.out]; rfl, by rw [HR0.out]; exact Own.nil _ _ _, HB.out⟩
  · have HC0 := Lib.hid (show lenC n1 zs (ord zs).length = 2 from if_neg hok)
    have HR0 := Lib.hid (show backS ss zs = [] from if_neg (fun h => hok h.1))
    rw [show mayN zs = 2 from if_neg hok]
    go_wp2
    go_ret2
    exact ⟨_, _, _, by rw [HC0.out]; rfl, by rw [HR0.out]; exact Own.nil _ _ _, Below.refl _ _⟩
end Go.Proofs.Ytcgdhgdblieaiaa
