/-
  The contract of the iterator over a line's visual places.
-/
import Derived.Test.YtnnfhldfdiaddaaRG
import Derived.Test.YtnnfhldfdiaddaaN1
import Derived.Test.YtnnfhldfdiaddaaL8
import Derived.Shelf.RegionOpen
import Derived.RangeFuncBound
import Derived.OwnWalkIn
import Derived.TacticsInMore
import Derived.LoopNIn
import Derived.LoopIn
import Derived.Deep.Cut
set_option linter.unusedVariables false
namespace Go.Proofs.Ytnnfhldfdiaddaa
open Go.RowKit Go.Shelf
attribute [local go_sem] Oper.semAt_some

def encA (ws o : List Int) (v : Nat) : Array Value := #[.int .i64 v, .int .i64 (colAt ws o v)]
theorem Ints.kept {T R : Nat → Prop} {W W' : World} {k : IntKind} {a : Option Addr} {zs : List Int} (h : Ints k W a zs) (hk : Kept T R W W') (ht : ∀ b o, a = Option.some ⟨b, o, none⟩ → T b ∨ R b) : Ints k W' a zs := by
  intro i hi
  obtain ⟨b, o, rfl, h1⟩ := h i hi
  exact ⟨b, o, rfl, hk.cell h1 (ht b o rfl)⟩
structure AcSt (J : (Nat → Prop) → List Nat → World → Prop) (ws o : List Int) (bC oC k : Nat) (T : Nat → Prop) (wr : World) : Prop where
  j : J T (List.range k) wr
  ints : Ints .i64 wr (some ⟨bC, oC, none⟩) (colsL ws o)
def AcR (J : (Nat → Prop) → List Nat → World → Prop) (ws o : List Int) (m bC oC : Nat) (v : Value) (wr : World) : Prop :=
  ∃ (k : Nat) (T : Nat → Prop), k ≤ m + 1 ∧ v = .int .i64 k ∧ AcSt J ws o bC oC k T wr

set_option maxRecDepth 100000 in
set_option maxHeartbeats 2000000 in
theorem across_seq (g : Nat) (base : Int) (lv ws : List Int) (B1 m bC oC cC : Nat) (w : World) (h : IsLine w g base lv ws) (hm : (ord lv).length = m) (hm2 : m ≤ 1048576) (h1 : w.cell? ⟨B1, 0, none⟩ = some (.pointer (some ⟨g, 0, none⟩)))
    (h4 : w.cell? ⟨g, 4, none⟩ = some (.slice (some ⟨bC, oC, none⟩) (m + 1) cC)) (hi : Ints .i64 w (some ⟨bC, oC, none⟩) (colsL ws (ord lv))) :
    SeqX Try.prog 48 #[.pointer (some ⟨B1, 0, none⟩)] (encA ws (ord lv)) (fun k => k = bC) (fun xs => xs = List.range (m + 1)) (fun pre => ∃ k, k < m + 1 ∧ pre = List.range (k + 1)) (m + 1) w := by
  intro l J Jx W hW hJ hJx hY h0
  refine callsIn_wide.2 ?_
  have HM := Lib.hid hm; clear hm
  have HL := Lib.hid (h.below hW (Nat.le_refl _))
  have HI := Lib.hid (hi.below hW (Nat.le_refl _))
  have q1 : W.cell? ⟨B1, 0, none⟩ = some (.pointer (some ⟨g, 0, none⟩)) := by rw [hW.cell (p := ⟨B1, 0, none⟩) (World.block_lt_of_cell? w _ h1)]; exact h1
  have q4 : W.cell? ⟨g, 4, none⟩ = some (.slice (some ⟨bC, oC, none⟩) (m + 1) cC) := by rw [hW.cell (p := ⟨g, 4, none⟩) (World.block_lt_of_cell? w _ h4)]; exact h4
  have HY := Lib.hid hY; clear hY
  have H0 := Lib.hid h0; clear h0
  clear h hi h1 h4 hW hJ hJx
  have HSt : Hid (AcSt J ws (ord lv) bC oC 0 (fun _ => False) W) := Lib.hid ⟨H0.out, HI.out⟩
  go_enter Try.func48, Try.ntmps48
  go_wp2_with fail
  refine (none_walk g base lv ws _ HL.out).mono ?_
  rintro e w' ⟨rfl, rfl⟩
  go_wp2
  go_loopw [12] (AcR J ws (ord lv) m bC oC) (fun v _ => m + 1 - (intOf v).toNat)
  case atStart => exact ⟨0, _, Nat.zero_le _, rfl, HSt.out⟩
  case round =>
    obtain ⟨k, T, hk, rfl, hst⟩ := hrel
    have HST := Lib.hid hst; clear hst
    by_cases hlt : k < m + 1
    · have hkl : k < (colsL ws (ord lv)).length := by rw [colsL_length, HM.out]; exact hlt
      have r1 := HST.out.ints.get k hkl
      rw [colsL_get] at r1
      have HTk := Lib.hid (show List.range (k + 1) = List.range k ++ [k] from List.range_succ)
      have hki : (k : Int) < (m : Int) + 1 := by omega
      clear hkl
      obtain ⟨fn, tmps, assign, body, hy, hR⟩ := HY.out T (List.range k) k wr HST.out.j (by simpa using hlt)
      rw [encA] at hy
      have HR := Lib.hid hR; clear hR
      generalize colAt ws (ord lv) k = c at *
      go_upto_region 4 with (fail)
      refine (wpIn_wide (n := 2)).1 ?_
      gi_wp2
      refine HR.out.mono ?_
      rintro e W3 (⟨rfl, hJ3, hk3⟩ | ⟨rfl, hx3⟩)
      · rw [← HTk.out] at hJ3
        have HN3 : Hid (AcSt J ws (ord lv) bC oC (k + 1) T W3) := Lib.hid ⟨hJ3, HST.out.ints.kept hk3 (fun b' o' e => .inr (by cases e; rfl))⟩
        clear hJ3 hk3 hy r1
        gi_wp2
        go_wp2
        go_roundw
        case rel => exact ⟨k + 1, T, by omega, by go_num, HN3.out⟩
        case measure => simp [intOf]; omega
      · rw [← HTk.out] at hx3
        have HX3 := Lib.hid hx3
        clear hx3 hy r1
        gi_wp2
        go_wp2
        refine bodyPost_ret (results_none rfl _ _ _) rfl ?_
        exact ⟨⟨_, rfl⟩, .inr ⟨T, _, ⟨k, hlt, rfl⟩, HX3.out⟩⟩
    · obtain rfl : k = m + 1 := by omega
      go_wp2
      go_end0
      exact ⟨⟨_, rfl⟩, .inl ⟨T, _, rfl, HST.out.j⟩⟩
end Go.Proofs.Ytnnfhldfdiaddaa
