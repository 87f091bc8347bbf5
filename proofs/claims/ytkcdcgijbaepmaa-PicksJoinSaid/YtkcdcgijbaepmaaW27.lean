/-
  The contract of the iterator over a list's pairs.
-/
import Derived.Test.YtkcdcgijbaepmaaW23
set_option linter.unusedVariables false
namespace Go.Proofs.Ytkcdcgijbaepmaa
open Go.RowKit Go.Shelf
attribute [local go_sem] Oper.semAt_some

def encC (g : Nat) (i : Nat) : Array Value := #[.slice (some ⟨g, i * 2, none⟩) 2 2]
structure ChSt (J : (Nat → Prop) → List Nat → World → Prop) (a : Option Addr) (n c b1 b2 k : Nat) (wr : World) : Prop where
  j : J (fun _ => False) (List.range k) wr
  c1 : wr.cell? ⟨b1, 0, none⟩ = some (.slice a n c)
  c2 : wr.cell? ⟨b2, 0, none⟩ = some (.int .i64 2)
def ChR (J : (Nat → Prop) → List Nat → World → Prop) (a : Option Addr) (n c b1 b2 m : Nat) (v : Value) (wr : World) : Prop :=
  ∃ k : Nat, k ≤ m ∧ v = .int .i64 ((k * 2 : Nat) : Int) ∧ ChSt J a n c b1 b2 k wr

set_option maxRecDepth 100000 in
set_option maxHeartbeats 4000000 in
theorem chunk_stops (a : Option Addr) (g n c m b1 b2 : Nat) (R : Nat → Prop) (w : World) (hn : n = m * 2) (ha : 0 < m → a = some ⟨g, 0, none⟩) (hnc : n ≤ c) (hm : c ≤ 9223372036854775807) (hn0 : n ≤ 1048576) (hR1 : R b1) (hR2 : R b2)
    (h1 : w.cell? ⟨b1, 0, none⟩ = some (.slice a n c)) (h2 : w.cell? ⟨b2, 0, none⟩ = some (.int .i64 2)) :
    SeqX Try.prog 71 #[.pointer (some ⟨b1, 0, none⟩), .pointer (some ⟨b2, 0, none⟩)] (encC g) R (fun xs => xs = List.range m) (fun pre => ∃ k, k < m ∧ pre = List.range (k + 1)) m w := by
  intro l J Jx W hW hJ hJx hY h0
  refine callsIn_wide.2 ?_
  have HJ := Lib.hid hJ; clear hJ
  have HJx := Lib.hid hJx; clear hJx
  have HY := Lib.hid hY; clear hY
  have HSt : Hid (ChSt J a n c b1 b2 0 W) := Lib.hid ⟨h0, by rw [hW.cell (p := ⟨b1, 0, none⟩) (World.block_lt_of_cell? w _ h1)]; exact h1, by rw [hW.cell (p := ⟨b2, 0, none⟩) (World.block_lt_of_cell? w _ h2)]; exact h2⟩
  have HN := Lib.hid hn; clear hn
  clear h0 h1 h2 hW
  go_enter Try.func71, Try.ntmps71
  go_wp2
  go_loopw [4] (ChR J a n c b1 b2 m) (fun v _ => n - (intOf v).toNat)
  case atStart => exact ⟨0, Nat.zero_le _, rfl, HSt.out⟩
  case round =>
    obtain ⟨k, hk, rfl, hst⟩ := hrel
    have HST := Lib.hid hst; clear hst
    have p1 := HST.out.c1
    have p2 := HST.out.c2
    by_cases hlt : k < m
    · obtain rfl := ha (by omega)
      have hkn : k * 2 + 2 ≤ n := by have := HN.out; omega
      have HRg := Lib.hid (show List.range (k + 1) = List.range k ++ [k] from List.range_succ)
      obtain ⟨x, hx⟩ : ∃ x, x = k * 2 := ⟨_, rfl⟩
      have HX := Lib.hid hx
      rw [← hx] at hkn ⊢
      clear hx
      have hki : (x : Int) < (n : Int) := by omega
      have e1 : min (2 : Int) ((n - x : Nat) : Int) = 2 := by omega
      have e2 : ((x : Int) + 2).toNat - x = 2 := by omega
      have hxc : x ≠ c := by omega
      go_wp2
      go_quiet (fail)
      have HJ2 := Lib.hid (HJ.out (fun _ => False) (fun _ => False) _ wr (wr.drewN nq) HST.out.j (Off.of_below (below_drewN (Below.refl _ wr) nq)) (Wider.refl _ _ _))
      obtain ⟨fn, tmps, assign, body, hy, hR⟩ := HY.out (fun _ => False) (List.range k) k (wr.drewN nq) HJ2.out (by rw [List.length_range]; omega) ⟨k, hlt, HRg.out.symm⟩
      dsimp only [encC] at hy
      rw [← HX.out] at hy
      have HRr := Lib.hid hR; clear hR
      replace p1 : (wr.drewN nq).cell? _ = _ := p1
      replace p2 : (wr.drewN nq).cell? _ = _ := p2
      generalize wr.drewN nq = w6 at *
      go_upto_region 4 with (fail)
      refine (wpIn_wide (n := 2)).1 ?_
      gi_wp2
      refine HRr.out.mono ?_
      rintro e W3 (⟨rfl, hJ3, hk3⟩ | ⟨rfl, hx3⟩)
      · rw [← HRg.out] at hJ3
        have HN3 : Hid (ChSt J (some ⟨g, 0, none⟩) n c b1 b2 (k + 1) W3) := Lib.hid ⟨hJ3, hk3.cell p1 (.inr hR1), hk3.cell p2 (.inr hR2)⟩
        have p2' := HN3.out.c2
        have p1' := HN3.out.c1
        have HE := Lib.hid (show (x : Int) + 2 = (((k + 1) * 2 : Nat) : Int) by have := HX.out; omega)
        clear hJ3 hk3 hy p1 p2
        gi_wp2
        go_wp2
        go_roundw
        case rel => exact ⟨k + 1, hlt, by rw [HE.out], HN3.out⟩
        case measure => simp [intOf]; omega
      · rw [← HRg.out] at hx3
        have HX3 := Lib.hid hx3
        clear hx3 hy
        gi_wp2
        go_wp2
        refine bodyPost_ret (results_none rfl _ _ _) rfl ?_
        exact ⟨⟨_, rfl⟩, .inr ⟨_, _, ⟨k, hlt, rfl⟩, HX3.out⟩⟩
    · obtain rfl : k = m := by omega
      have hki : ¬ (((k * 2 : Nat) : Int)) < (n : Int) := by have := HN.out; omega
      go_wp2
      go_end0
      exact ⟨⟨_, rfl⟩, .inl ⟨_, HST.out.j⟩⟩
end Go.Proofs.Ytkcdcgijbaepmaa
