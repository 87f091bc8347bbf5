/-
  Walks of a line's methods: behind, ahead, Caret.
-/
import Derived.Test.YtnnfhldfdiaddaaL3
import Derived.StillTailTactics
set_option linter.unusedVariables false
namespace Go.Proofs.Ytnnfhldfdiaddaa
open Go.RowKit

theorem Ints.lt {k : IntKind} {w : World} {b o : Nat} {zs : List Int} (h : Ints k w (Option.some ⟨b, o, none⟩) zs) (hn : 0 < zs.length) : b < w.heap.size := by
  have := World.block_lt_of_cell? w _ (h.get 0 hn)
  exact this
/-- the caret behind the last shown character ahead of a place -/
def BehP (base : Int) (lv : List Int) (at_ : Nat) (p l : Int) : Prop :=
  ((∀ j, j < at_ → lv.getD j 0 = -1) ∧ p = base * (ord lv).length ∧ l = base) ∨
  ∃ i, i < at_ ∧ i < lv.length ∧ lv.getD i 0 ≠ -1 ∧ (∀ j, i < j → j < at_ → lv.getD j 0 = -1) ∧ p = (placesL lv).getD i 0 + 1 - lv.getD i 0 % 2 ∧ l = lv.getD i 0
/-- the caret ahead of the first shown one from a place on -/
def AheP (base : Int) (lv : List Int) (at_ : Nat) (p l : Int) : Prop :=
  ((∀ j, at_ ≤ j → j < lv.length → lv.getD j 0 = -1) ∧ p = (1 - base) * (ord lv).length ∧ l = base) ∨
  ∃ i, at_ ≤ i ∧ i < lv.length ∧ lv.getD i 0 ≠ -1 ∧ (∀ j, at_ ≤ j → j < i → lv.getD j 0 = -1) ∧ p = (placesL lv).getD i 0 + lv.getD i 0 % 2 ∧ l = lv.getD i 0

def MarkPost (R : Int → Int → Prop) (w : World) (e : Ending) (w' : World) : Prop := ∃ p l, e = .returned (.agg #[.int .i64 p, .int .i8 l]) ∧ R p l ∧ Below w.heap.size w w'

def BehLoop (lv : List Int) (at_ : Nat) (v : Value) : Prop := ∃ k : Nat, k ≤ at_ ∧ v = .int .i64 ((k : Int) - 1) ∧ ∀ j, k ≤ j → j < at_ → lv.getD j 0 = -1

def AheLoop (lv : List Int) (at_ n : Nat) (v : Value) : Prop := ∃ k : Nat, at_ ≤ k ∧ k ≤ n ∧ v = .int .i64 (k : Int) ∧ ∀ j, at_ ≤ j → j < k → lv.getD j 0 = -1

/-- what stands at a place: shown, or not -/
theorem place_at (lv : List Int) (i : Nat) (hi : i < lv.length) : (lv.getD i 0 = -1 ∧ (placesL lv)[i]'(by rw [placesL_length]; exact hi) = -1) ∨ (lv.getD i 0 ≠ -1 ∧ 0 ≤ (placesL lv)[i]'(by rw [placesL_length]; exact hi) ∧ (placesL lv)[i]'(by rw [placesL_length]; exact hi) < (ord lv).length) := by
  have e : lv.getD i 0 = lv[i] := by simp [hi]
  by_cases h : lv[i] = -1
  · exact .inl ⟨by rw [e]; exact h, places_gone lv i hi h⟩
  · obtain ⟨j, hj, _, h2⟩ := places_shown lv i hi h
    exact .inr ⟨by rw [e]; exact h, by rw [h2]; omega, by rw [h2]; omega⟩

set_option maxHeartbeats 1000000 in
theorem behind_walk (g : Nat) (base : Int) (lv ws : List Int) (w : World) (at_ : Nat) (h : IsLine w g base lv ws) (hat : at_ ≤ lv.length) :
    Calls Try.prog 32 #[.pointer (some ⟨g, 0, none⟩), .int .i64 at_] w (MarkPost (BehP base lv at_) w) := by
  obtain ⟨n, m, aL, cL, aO, cO, aA, cA, bC, oC, cC, hn, hm, hM, hmn, hn2, iL, iO, iA, iC⟩ := h.open
  have HH := Lib.hid h
  have hgl := h.lt
  have h01 := h.ok.h01
  have HOK := Lib.hid h.ok.ok
  clear h
  have hat' : at_ ≤ n := by rw [← hn.out]; exact hat
  clear hat
  have k0 := hM.k0
  have k1 := hM.k1
  have k2 := hM.k2
  have k3 := hM.k3
  go_enter Try.func32, Try.ntmps32
  go_wp2
  go_loop [5] (BehLoop lv at_) (fun v => (intOf v + 1).toNat)
  case atStart => exact ⟨at_, Nat.le_refl _, rfl, fun j h1 h2 => by omega⟩
  case round =>
    obtain ⟨k, hk, rfl, hgone⟩ := hrel
    have HG := Lib.hid hgone; clear hgone
    by_cases hk0 : k = 0
    · subst hk0
      have HR : Hid (BehP base lv at_ (base * (ord lv).length) base) := .inl ⟨fun j hj => HG.out j (Nat.zero_le _) hj, rfl, rfl⟩
      rw [hm.out] at HR
      rcases h01 with rfl | rfl
      all_goals
        go_wp2
        refine wp_region_still_tail 16 (by kernel_rfl) (by kernel_rfl) ?_
        simp only [List.take_succ_cons, List.take_zero, List.drop_succ_cons, List.drop_zero]
        change wpStill _ _ (World.drew _) (fun a' => wpList _ _ _ _ a' (World.drew _)) _ _
        repeat still_step
        refine wpStill_nil ?_
        go_wp2
        go_returns
        refine ⟨_, _, rfl, ?_, by go_grown⟩
        simpa using HR.out
    · have hkn : k - 1 < lv.length := by rw [hn.out]; omega
      have hp := place_at lv (k - 1) hkn
      have c3 := iA.out
      obtain ⟨bA, oA, ha⟩ := iA.out.some (by rw [placesL_length]; omega)
      subst ha
      have hbA : bA < w.heap.size := iA.out.lt (by rw [placesL_length]; omega)
      have c3 := iA.out.get (k - 1) (by rw [placesL_length]; exact hkn)
      rw [show ((k : Int) - 1) = ((k - 1 : Nat) : Int) by omega]
      have hkk : k - 1 < n := by omega
      have HP0 : Hid ((placesL lv).getD (k - 1) 0 = (placesL lv)[k - 1]'(by rw [placesL_length]; exact hkn)) := by
        refine Lib.hid ?_
        simp [placesL_length, hkn]
      generalize (placesL lv)[k - 1]'(by rw [placesL_length]; exact hkn) = y at *
      rcases hp with ⟨h1, h2⟩ | ⟨h1, h2, h3⟩
      · have hg2 : ∀ j, k - 1 ≤ j → j < at_ → lv.getD j 0 = -1 := by
          intro j hj1 hj2
          by_cases e : j = k - 1
          · rw [e]; exact h1
          · exact HG.out j (by omega) hj2
        have HG2 := Lib.hid hg2; clear hg2
        subst h2
        clear h1
        have hka : k - 1 ≤ at_ := by omega
        generalize k - 1 = kk at *
        go_wp2
        go_round
        case rel => exact ⟨kk, hka, by go_num, HG2.out⟩
        case measure => simp [intOf]
      · obtain ⟨bL, oL, ha⟩ := iL.out.some (by omega)
        subst ha
        have hbL : bL < w.heap.size := iL.out.lt (by omega)
        have c1 := iL.out.get (k - 1) hkn
        have HR : Hid (BehP base lv at_ (y + 1 - lv.getD (k - 1) 0 % 2) (lv.getD (k - 1) 0)) := by
          refine Lib.hid (.inr ⟨k - 1, by omega, hkn, h1, fun j hj1 hj2 => HG.out j (by omega) hj2, by rw [HP0.out], rfl⟩)
        have hm1 := hm.out
        have HO := Lib.hid (fun W (hW : IsLine W g base lv ws) => odd_walk g base lv ws W ((k - 1 : Nat) : Int) hW (by omega) (by omega))
        simp only [Int.toNat_natCast] at HO
        have hok := okL_get lv HOK.out (k - 1) hkn
        rw [show lv.getD (k - 1) 0 = lv[k - 1] by simp [hkn]] at HR HO
        generalize lv[k - 1] = x at *
        clear hm1 h1
        generalize k - 1 = kk at *
        have hyb : y < m := by rw [← hm.out]; exact h3
        clear h3
        have hx0 : 0 ≤ x % 2 := by omega
        have hx1 : x % 2 < 2 := by omega
        generalize hx2 : x % 2 = x2 at *
        have HX2 := Lib.hid hx2; clear hx2
        go_wp2
        refine wp_region_still_tail 20 (by kernel_rfl) (by kernel_rfl) ?_
        simp only [List.take_succ_cons, List.take_zero, List.drop_succ_cons, List.drop_zero]
        change wpStill _ _ (World.drew _) (fun a' => wpList _ _ _ _ a' (World.drew _)) _ _
        repeat still_step
        still_call ((HO.out _ (HH.out.below (below_drewN ((Below.refl _ w).alloc (Nat.le_refl _) _) 1) (Nat.le_refl _))).mono (fun e w' h => ⟨h.1, h.2.symm⟩))
        repeat still_step
        refine wpStill_nil ?_
        go_wp2
        go_returns
        exact ⟨_, _, rfl, HR.out, by go_grown⟩
set_option maxHeartbeats 1000000 in
theorem ahead_walk (g : Nat) (base : Int) (lv ws : List Int) (w : World) (at_ : Nat) (h : IsLine w g base lv ws) (hat : at_ ≤ lv.length) :
    Calls Try.prog 33 #[.pointer (some ⟨g, 0, none⟩), .int .i64 at_] w (MarkPost (AheP base lv at_) w) := by
  obtain ⟨n, m, aL, cL, aO, cO, aA, cA, bC, oC, cC, hn, hm, hM, hmn, hn2, iL, iO, iA, iC⟩ := h.open
  have HH := Lib.hid h
  have hgl := h.lt
  have h01 := h.ok.h01
  have HOK := Lib.hid h.ok.ok
  clear h
  have hat' : at_ ≤ n := by rw [← hn.out]; exact hat
  clear hat
  have k0 := hM.k0
  have k1 := hM.k1
  have k2 := hM.k2
  have k3 := hM.k3
  go_enter Try.func33, Try.ntmps33
  go_wp2
  go_loop [5] (AheLoop lv at_ n) (fun v => n - (intOf v).toNat)
  case atStart => exact ⟨at_, Nat.le_refl _, hat', rfl, fun j h1 h2 => by omega⟩
  case round =>
    obtain ⟨k, hk, hkn', rfl, hgone⟩ := hrel
    have HG := Lib.hid hgone; clear hgone
    by_cases hk0 : ¬ k < n
    · have HR : Hid (AheP base lv at_ ((1 - base) * (ord lv).length) base) := Lib.hid (.inl ⟨fun j hj1 hj2 => HG.out j hj1 (by have := hn.out; omega), rfl, rfl⟩)
      rw [hm.out] at HR
      rcases h01 with rfl | rfl
      all_goals
        go_wp2
        refine wp_region_still_tail 17 (by kernel_rfl) (by kernel_rfl) ?_
        simp only [List.take_succ_cons, List.take_zero, List.drop_succ_cons, List.drop_zero]
        change wpStill _ _ (World.drew _) (fun a' => wpList _ _ _ _ a' (World.drew _)) _ _
        repeat still_step
        refine wpStill_nil ?_
        go_wp2
        go_returns
        refine ⟨_, _, rfl, ?_, by go_grown⟩
        simpa using HR.out
    · have hkn : k < lv.length := by rw [hn.out]; omega
      have hp := place_at lv (k) hkn
      have c3 := iA.out
      obtain ⟨bA, oA, ha⟩ := iA.out.some (by rw [placesL_length]; omega)
      subst ha
      have hbA : bA < w.heap.size := iA.out.lt (by rw [placesL_length]; omega)
      have c3 := iA.out.get (k) (by rw [placesL_length]; exact hkn)
      have hkk : k < n := by omega
      have HP0 : Hid ((placesL lv).getD (k) 0 = (placesL lv)[k]'(by rw [placesL_length]; exact hkn)) := by
        refine Lib.hid ?_
        simp [placesL_length, hkn]
      generalize (placesL lv)[k]'(by rw [placesL_length]; exact hkn) = y at *
      rcases hp with ⟨h1, h2⟩ | ⟨h1, h2, h3⟩
      · have hg2 : ∀ j, at_ ≤ j → j < k + 1 → lv.getD j 0 = -1 := by
          intro j hj1 hj2
          by_cases e : j = k
          · rw [e]; exact h1
          · exact HG.out j hj1 (by omega)
        have HG2 := Lib.hid hg2; clear hg2
        subst h2
        clear h1
        go_wp2
        go_round
        case rel => exact ⟨k + 1, by omega, by omega, by go_num, HG2.out⟩
        case measure => simp [intOf]; omega
      · obtain ⟨bL, oL, ha⟩ := iL.out.some (by omega)
        subst ha
        have hbL : bL < w.heap.size := iL.out.lt (by omega)
        have c1 := iL.out.get (k) hkn
        have HR : Hid (AheP base lv at_ (y + lv.getD (k) 0 % 2) (lv.getD (k) 0)) := by
          refine Lib.hid (.inr ⟨k, hk, hkn, h1, fun j hj1 hj2 => HG.out j hj1 hj2, by rw [HP0.out], rfl⟩)
        have hm1 := hm.out
        have HO := Lib.hid (fun W (hW : IsLine W g base lv ws) => odd_walk g base lv ws W ((k : Nat) : Int) hW (by omega) (by omega))
        simp only [Int.toNat_natCast] at HO
        have hok := okL_get lv HOK.out (k) hkn
        rw [show lv.getD (k) 0 = lv[k] by simp [hkn]] at HR HO
        generalize lv[k] = x at *
        clear hm1 h1
        have hyb : y < m := by rw [← hm.out]; exact h3
        clear h3
        have hx0 : 0 ≤ x % 2 := by omega
        have hx1 : x % 2 < 2 := by omega
        generalize hx2 : x % 2 = x2 at *
        have HX2 := Lib.hid hx2; clear hx2
        go_wp2
        refine wp_region_still_tail 19 (by kernel_rfl) (by kernel_rfl) ?_
        simp only [List.take_succ_cons, List.take_zero, List.drop_succ_cons, List.drop_zero]
        change wpStill _ _ (World.drew _) (fun a' => wpList _ _ _ _ a' (World.drew _)) _ _
        repeat still_step
        still_call ((HO.out _ (HH.out.below (below_drewN ((Below.refl _ w).alloc (Nat.le_refl _) _) 1) (Nat.le_refl _))).mono (fun e w' h => ⟨h.1, h.2.symm⟩))
        repeat still_step
        refine wpStill_nil ?_
        go_wp2
        go_returns
        exact ⟨_, _, rfl, HR.out, by go_grown⟩
end Go.Proofs.Ytnnfhldfdiaddaa
