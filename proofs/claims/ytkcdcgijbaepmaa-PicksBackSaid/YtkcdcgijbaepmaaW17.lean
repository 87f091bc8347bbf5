/-
  Walks: the document's reading of a text, character by character.
-/
import Derived.Test.YtkcdcgijbaepmaaProg
import Derived.Test.YtkcdcgijbaepmaaJA
import Derived.Deep.QuietTactic
import Derived.BigQuiet
import Derived.Deep.RegionLaw
import Derived.StillTailTactics
import Derived.Deep.Cut
set_option linter.unusedVariables false
set_option linter.unusedSimpArgs false
namespace Go.Proofs.Ytkcdcgijbaepmaa
open Go.RowKit

theorem long_walk (b : Nat) (w : World) : Calls Try.prog 74 #[.int .u8 (b : Nat)] w fun e w' => e = .returned (.int .i64 (longN b)) ∧ w = w' := by
  by_cases h1 : b < 128
  · have HR := Lib.hid (show longN b = 1 from if_pos h1)
    rw [HR.out]
    have h1i : (b : Int) < 128 := by omega
    go_enter Try.func74, Try.ntmps74
    go_wp2
    go_ret
    exact ⟨rfl, rfl⟩
  · by_cases h2 : b < 192
    · have HR := Lib.hid (show longN b = 0 by unfold longN; rw [if_neg h1, if_pos (.inl h2)])
      rw [HR.out]
      have h1i : ¬ (b : Int) < 128 := by omega
      have h2i : (b : Int) < 192 := by omega
      go_enter Try.func74, Try.ntmps74
      go_wp2
      go_ret
      exact ⟨rfl, rfl⟩
    · by_cases h3 : 247 < b
      · have HR := Lib.hid (show longN b = 0 by unfold longN; rw [if_neg h1, if_pos (.inr h3)])
        rw [HR.out]
        have h1i : ¬ (b : Int) < 128 := by omega
        have h2i : ¬ (b : Int) < 192 := by omega
        have h3i : 247 < (b : Int) := by omega
        go_enter Try.func74, Try.ntmps74
        go_wp2
        go_ret
        exact ⟨rfl, rfl⟩
      · have h1i : ¬ (b : Int) < 128 := by omega
        have h2i : ¬ (b : Int) < 192 := by omega
        have h3i : ¬ 247 < (b : Int) := by omega
        by_cases h4 : b < 224
        · have HR := Lib.hid (show longN b = 2 by unfold longN; rw [if_neg h1, if_neg (by omega), if_pos h4])
          rw [HR.out]
          have h4i : (b : Int) < 224 := by omega
          go_enter Try.func74, Try.ntmps74
          go_wp2
          go_ret
          exact ⟨rfl, rfl⟩
        · have h4i : ¬ (b : Int) < 224 := by omega
          by_cases h5 : b < 240
          · have HR := Lib.hid (show longN b = 3 by unfold longN; rw [if_neg h1, if_neg (by omega), if_neg h4, if_pos h5])
            rw [HR.out]
            have h5i : (b : Int) < 240 := by omega
            go_enter Try.func74, Try.ntmps74
            go_wp2
            go_ret
            exact ⟨rfl, rfl⟩
          · have HR := Lib.hid (show longN b = 4 by unfold longN; rw [if_neg h1, if_neg (by omega), if_neg h4, if_neg h5])
            rw [HR.out]
            have h5i : ¬ (b : Int) < 240 := by omega
            go_enter Try.func74, Try.ntmps74
            go_wp2
            go_ret
            exact ⟨rfl, rfl⟩

def SpotAt (s : ByteArray) (i : Nat) (e : Ending) : Prop := ∃ r c : Int, e = .returned (.agg #[.int .i64 (i : Nat), .int .i64 ((Utf8.decode s i).2 : Nat), .int .i32 r, .int .i64 c])
theorem SpotAt.one {s : ByteArray} {i : Nat} (h : (Utf8.decode s i).2 = 1) (r c : Int) : SpotAt s i (.returned (.agg #[.int .i64 (i : Nat), .int .i64 1, .int .i32 r, .int .i64 c])) := ⟨r, c, by rw [h]; rfl⟩
def AtR (s : ByteArray) (i n : Nat) (x j : Value) : Prop := ∃ k : Nat, 1 ≤ k ∧ k ≤ n ∧ j = .int .i64 k ∧ x = .int .i64 (accN s i n (k - 1) : Nat) ∧ ∀ q, 1 ≤ q → q < k → contN s (i + q)

set_option maxRecDepth 100000 in
set_option maxHeartbeats 4000000 in
theorem At_walk (s : ByteArray) (i : Nat) (w : World) (hi : i < s.size) (hs : s.size ≤ 1048576) :
    Calls Try.prog 61 #[.string s, .int .i64 (i : Nat)] w fun e w' => SpotAt s i e ∧ Below w.heap.size w w' := by
  have hb0 := byteN_get s i hi
  have hlt := byteN_lt s i
  by_cases h0 : longN (byteN s i) = 0
  · have HW := Lib.hid (wide_lead s i h0)
    go_enter Try.func61, Try.ntmps61
    go_wp2_with fail
    refine (long_walk (byteN s i) _).mono ?_
    rintro e w1 ⟨rfl, rfl⟩
    rw [h0]
    clear h0
    go_wp2
    refine bodyPost_ret (v := .agg #[.int .i64 (i : Nat), .int .i64 1, .int .i32 65533, .int .i64 10]) (by simp [results, Try.results61, go_sem]) rfl ⟨SpotAt.one HW.out _ _, by go_grown⟩
  · obtain ⟨hn1, hn4⟩ := long_pos h0
    have HF := Lib.hid (wide_full s i h0)
    have HC := Lib.hid (fun k h1 h2 h3 => wide_cut s i k h1 h2 h3)
    have HA := Lib.hid (fun n k h1 h2 => acc_two s i n k h1 h2)
    have HM := Lib.hid (and_all ⟨byteN s i, hlt⟩)
    clear h0
    obtain ⟨n0, hn⟩ : ∃ n0, n0 = longN (byteN s i) := ⟨_, rfl⟩
    rw [← hn] at HF HC hn1 hn4
    have HN := Lib.hid hn
    have HI := Lib.hid (show accN s i n0 0 = byteN s i % maskN n0 from rfl)
    have hz : ((n0 : Int) == 0) = false := by simp; omega
    have HMn := Lib.hid (mask_all (byteN s i) n0 hlt hn1 hn4)
    have hn4i : (n0 : Int) ≤ 4 := by omega
    clear hn HM
    have HB2 : Hid (Below w.heap.size w ((w.alloc (.cells #[.int .i64 0, .int .i64 0, .int .i32 0, .int .i64 0] 69)).alloc (.cells #[.int .i64 (i : Nat), .int .i64 1, .int .i32 65533, .int .i64 0] 69))) := Lib.hid (((Below.refl _ w).alloc (Nat.le_refl _) _).alloc (by simp) _)
    have HR : Hid (((w.alloc (.cells #[.int .i64 0, .int .i64 0, .int .i32 0, .int .i64 0] 69)).alloc (.cells #[.int .i64 (i : Nat), .int .i64 1, .int .i32 65533, .int .i64 0] 69)).heap[w.heap.size]? = some (.cells #[.int .i64 0, .int .i64 0, .int .i32 0, .int .i64 0] 69 (0, 0))) := Lib.hid (by
      rw [Below.heap_alloc _ _ w.heap.size (by simp)]
      exact heap_alloc_new w _)
    have HS : Hid (((w.alloc (.cells #[.int .i64 0, .int .i64 0, .int .i32 0, .int .i64 0] 69)).alloc (.cells #[.int .i64 (i : Nat), .int .i64 1, .int .i32 65533, .int .i64 0] 69)).heap[w.heap.size + 1]? = some (.cells #[.int .i64 (i : Nat), .int .i64 1, .int .i32 65533, .int .i64 0] 69 (0, 0))) := Lib.hid (by
      have := heap_alloc_new (w.alloc (.cells #[.int .i64 0, .int .i64 0, .int .i32 0, .int .i64 0] 69)) (.cells #[.int .i64 (i : Nat), .int .i64 1, .int .i32 65533, .int .i64 0] 69)
      simpa using this)
    go_enter Try.func61, Try.ntmps61
    go_wp2_with fail
    refine (long_walk (byteN s i) _).mono ?_
    rintro e w1 ⟨rfl, rfl⟩
    rw [← HN.out]
    generalize ((w.alloc (.cells #[.int .i64 0, .int .i64 0, .int .i32 0, .int .i64 0] 69)).alloc (.cells #[.int .i64 (i : Nat), .int .i64 1, .int .i32 65533, .int .i64 0] 69)) = w2 at *
    obtain ⟨b, hb⟩ : ∃ b, b = w.heap.size := ⟨_, rfl⟩
    rw [← hb] at HR HS ⊢
    have HBw := Lib.hid hb
    have hbl : b + 1 < w2.heap.size := (Array.getElem?_eq_some_iff.1 HS.out).1
    have hwb : w.heap.size ≤ b := by omega
    clear hb
    go_wp2
    have hm := HMn.out
    have hcm : (w2.alloc (.cells #[.int .i64 0, .int .i64 127, .int .i64 31, .int .i64 15, .int .i64 7] 3)).cell? ⟨w2.heap.size, n0, none⟩ = some (.int .i64 (maskV n0)) := by
      rw [cell_of_row _ w2.heap.size n0 _ _ (0, 0) (heap_alloc_new w2 _)]
      obtain rfl | rfl | rfl | rfl : n0 = 1 ∨ n0 = 2 ∨ n0 = 3 ∨ n0 = 4 := by omega
      all_goals rfl
    generalize maskV n0 = mv at *
    go_quiet (fail)
    clear hm hcm
    obtain ⟨w6, hw6⟩ : ∃ w6, w6 = ((w2.alloc (.cells #[.int .i64 0, .int .i64 127, .int .i64 31, .int .i64 15, .int .i64 7] 3)).drewN nq) := ⟨_, rfl⟩
    rw [← hw6]
    have hb6 : Below w2.heap.size w2 w6 := by rw [hw6]; exact below_drewN ((Below.refl _ w2).alloc (Nat.le_refl _) _) nq
    have hr := (hb6.block b (by omega)).trans HR.out
    have hs2 := (hb6.block (b + 1) hbl).trans HS.out
    have r0 := cell_of_row w6 b 0 _ _ (0, 0) hr
    have r1 := cell_of_row w6 b 1 _ _ (0, 0) hr
    have r2 := cell_of_row w6 b 2 _ _ (0, 0) hr
    have r3 := cell_of_row w6 b 3 _ _ (0, 0) hr
    have s0 := cell_of_row w6 (b + 1) 0 _ _ (0, 0) hs2
    have s1 := cell_of_row w6 (b + 1) 1 _ _ (0, 0) hs2
    have s2 := cell_of_row w6 (b + 1) 2 _ _ (0, 0) hs2
    have s3 := cell_of_row w6 (b + 1) 3 _ _ (0, 0) hs2
    have f0 := frozen_of_row w6 b 0 _ _ hr
    have f1 := frozen_of_row w6 b 1 _ _ hr
    have f2 := frozen_of_row w6 b 2 _ _ hr
    have f3 := frozen_of_row w6 b 3 _ _ hr
    have g0 := frozen_of_row w6 (b + 1) 0 _ _ hs2
    have g1 := frozen_of_row w6 (b + 1) 1 _ _ hs2
    have g2 := frozen_of_row w6 (b + 1) 2 _ _ hs2
    have g3 := frozen_of_row w6 (b + 1) 3 _ _ hs2
    simp at r0 r1 r2 r3 s0 s1 s2 s3
    have HB6 := Lib.hid (HB2.out.trans (hb6.mono HB2.out.size))
    have hbl6 : b + 1 < w6.heap.size := (Array.getElem?_eq_some_iff.1 hs2).1
    clear hr hs2 hb6 hw6
    go_wp2
    go_loop [8, 9] (fun x j => AtR s i n0 x j) (fun _ j => 4 - (intOf j).toNat)
    case atStart => exact ⟨1, by omega, by omega, rfl, by rw [HI.out, Int.natCast_emod], fun q h1 h2 => by omega⟩
    case round =>
      obtain ⟨k, hk1, hkn, rfl, rfl, hc⟩ := hrel
      have HCo := Lib.hid hc; clear hc
      by_cases hkl : k < n0
      rotate_left
      · obtain rfl : k = n0 := by omega
        have HFt := Lib.hid (HF.out (fun q h1 h2 => HCo.out q h1 h2))
        generalize accN s i k (k - 1) = X at *
        clear HC HF HN HI HMn
        go_upto_region 20 with (fail)
        have hcl : (w6.alloc (.cells #[.int .i64 0, .int .i64 0, .int .i64 128, .int .i64 2048, .int .i64 65536] 3)).cell? ⟨w6.heap.size, k, none⟩ = some (.int .i64 (leastN k : Nat)) := by
          rw [cell_of_row _ w6.heap.size k _ _ (0, 0) (heap_alloc_new w6 _)]
          obtain rfl | rfl | rfl | rfl : k = 1 ∨ k = 2 ∨ k = 3 ∨ k = 4 := by omega
          all_goals rfl
        have hb8 : Below w6.heap.size w6 (w6.alloc (.cells #[.int .i64 0, .int .i64 0, .int .i64 128, .int .i64 2048, .int .i64 65536] 3)) := (Below.refl _ w6).alloc (Nat.le_refl _) _
        generalize (w6.alloc (.cells #[.int .i64 0, .int .i64 0, .int .i64 128, .int .i64 2048, .int .i64 65536] 3)) = w8 at *
        have hbl0 : b < w6.heap.size := by omega
        replace r0 := (hb8.cell (p := ⟨b, 0, none⟩) hbl0).trans r0
        replace f0 := (hb8.frozen (p := ⟨b, 0, none⟩) hbl0).trans f0
        replace r1 := (hb8.cell (p := ⟨b, 1, none⟩) hbl0).trans r1
        replace f1 := (hb8.frozen (p := ⟨b, 1, none⟩) hbl0).trans f1
        replace r2 := (hb8.cell (p := ⟨b, 2, none⟩) hbl0).trans r2
        replace f2 := (hb8.frozen (p := ⟨b, 2, none⟩) hbl0).trans f2
        replace r3 := (hb8.cell (p := ⟨b, 3, none⟩) hbl0).trans r3
        replace f3 := (hb8.frozen (p := ⟨b, 3, none⟩) hbl0).trans f3
        replace s0 := (hb8.cell (p := ⟨b + 1, 0, none⟩) hbl6).trans s0
        replace g0 := (hb8.frozen (p := ⟨b + 1, 0, none⟩) hbl6).trans g0
        replace s1 := (hb8.cell (p := ⟨b + 1, 1, none⟩) hbl6).trans s1
        replace g1 := (hb8.frozen (p := ⟨b + 1, 1, none⟩) hbl6).trans g1
        replace s2 := (hb8.cell (p := ⟨b + 1, 2, none⟩) hbl6).trans s2
        replace g2 := (hb8.frozen (p := ⟨b + 1, 2, none⟩) hbl6).trans g2
        replace s3 := (hb8.cell (p := ⟨b + 1, 3, none⟩) hbl6).trans s3
        replace g3 := (hb8.frozen (p := ⟨b + 1, 3, none⟩) hbl6).trans g3
        have HB8 := Lib.hid (HB6.out.trans (hb8.mono HB6.out.size))
        clear hb8
        generalize leastN k = L at *
        by_cases hc1 : X < L
        · have HW := Lib.hid (show (Utf8.decode s i).2 = 1 by rw [HFt.out, if_pos (.inl hc1)])
          have hc1i : (X : Int) < (L : Int) := by omega
          clear HFt
          go_wp2
          refine bodyPost_ret (v := .agg #[.int .i64 (i : Nat), .int .i64 1, .int .i32 65533, .int .i64 13]) (by simp [results, Try.results61, go_sem, r0, r1, r2, r3]) rfl ⟨SpotAt.one HW.out _ _, ?_⟩
          repeat (first | exact HB8.out | refine Below.setCell ?_ (by simp; omega) _ | refine Below.alloc ?_ (by have := HB8.out.size; simp; omega) _)
        · have hc1i : ¬ (X : Int) < (L : Int) := by omega
          by_cases hs1 : 55296 ≤ X ∧ X ≤ 57343
          · have HW := Lib.hid (show (Utf8.decode s i).2 = 1 by rw [HFt.out, if_pos (.inr (.inl hs1))])
            obtain ⟨hs1, hs2⟩ := hs1
            have hs1i : (55296 : Int) ≤ (X : Int) := by omega
            have hs2i : (X : Int) ≤ 57343 := by omega
            clear HFt
            go_wp2
            refine bodyPost_ret (v := .agg #[.int .i64 (i : Nat), .int .i64 1, .int .i32 65533, .int .i64 14]) (by simp [results, Try.results61, go_sem, r0, r1, r2, r3]) rfl ⟨SpotAt.one HW.out _ _, ?_⟩
            repeat (first | exact HB8.out | refine Below.setCell ?_ (by simp; omega) _ | refine Below.alloc ?_ (by have := HB8.out.size; simp; omega) _)
          · by_cases hs3 : 1114111 < X
            · have HW := Lib.hid (show (Utf8.decode s i).2 = 1 by rw [HFt.out, if_pos (.inr (.inr hs3))])
              have hs1i : (55296 : Int) ≤ (X : Int) := by omega
              have hs2i : ¬ (X : Int) ≤ 57343 := by omega
              have hs3i : (1114111 : Int) < (X : Int) := by omega
              clear hs1 HFt
              go_wp2
              refine bodyPost_ret (v := .agg #[.int .i64 (i : Nat), .int .i64 1, .int .i32 65533, .int .i64 15]) (by simp [results, Try.results61, go_sem, r0, r1, r2, r3]) rfl ⟨SpotAt.one HW.out _ _, ?_⟩
              repeat (first | exact HB8.out | refine Below.setCell ?_ (by simp; omega) _ | refine Below.alloc ?_ (by have := HB8.out.size; simp; omega) _)
            · have HW := Lib.hid (show (Utf8.decode s i).2 = k by rw [HFt.out, if_neg (by omega)])
              have hs3i : ¬ (1114111 : Int) < (X : Int) := by omega
              clear HFt
              by_cases hs4 : 55296 ≤ X
              · have hs1i : (55296 : Int) ≤ (X : Int) := by omega
                have hs2i : ¬ (X : Int) ≤ 57343 := by omega
                clear hs1
                go_wp2
                refine bodyPost_ret (v := .agg #[.int .i64 (i : Nat), .int .i64 (k : Nat), .int .i32 (X : Nat), .int .i64 0]) (by simp [results, Try.results61, go_sem, r0, r1, r2, r3]) rfl ⟨⟨_, _, by rw [HW.out]⟩, ?_⟩
                repeat (first | exact HB8.out | refine Below.setCell ?_ (by simp; omega) _ | refine Below.alloc ?_ (by have := HB8.out.size; simp; omega) _)
              · have hs1i : ¬ (55296 : Int) ≤ (X : Int) := by omega
                clear hs1
                go_wp2
                refine bodyPost_ret (v := .agg #[.int .i64 (i : Nat), .int .i64 (k : Nat), .int .i32 (X : Nat), .int .i64 0]) (by simp [results, Try.results61, go_sem, r0, r1, r2, r3]) rfl ⟨⟨_, _, by rw [HW.out]⟩, ?_⟩
                repeat (first | exact HB8.out | refine Below.setCell ?_ (by simp; omega) _ | refine Below.alloc ?_ (by have := HB8.out.size; simp; omega) _)
      · have HFx := HF
        by_cases hin : i + k < s.size
        · have hini : ¬ (s.size : Int) ≤ (i : Int) + (k : Int) := by omega
          have hbk := byteN_get s (i + k) hin
          have hlk := byteN_lt s (i + k)
          have ha := HA.out n0 (k - 1) (by omega) (fun j h1 h2 => HCo.out j h1 (by omega))
          have hg1 : (byteN s (i + k) : Int) ≤ 255 := by omega
          have hg2 : (accN s i n0 (k - 1) : Int) ≤ 524288 := by omega
          by_cases hcn : 128 ≤ byteN s (i + k) ∧ byteN s (i + k) ≤ 191
          · have hc1 : ¬ (byteN s (i + k) : Int) < 128 := by omega
            have hc2 : ¬ 191 < (byteN s (i + k) : Int) := by omega
            have HCn : Hid (contN s (i + k)) := Lib.hid ⟨hin, hcn⟩
            have HAc : Hid (accN s i n0 k = accN s i n0 (k - 1) * 64 + byteN s (i + k) - 128) := Lib.hid (by
              obtain ⟨q, rfl⟩ : ∃ q, k = q + 1 := ⟨k - 1, by omega⟩
              rfl)
            have HAn : Hid (128 ≤ accN s i n0 (k - 1) * 64 + byteN s (i + k)) := Lib.hid (by omega)
            clear hcn
            generalize accN s i n0 (k - 1) = X at *
            go_wp2
            go_round
            case rel =>
              refine ⟨k + 1, by omega, by omega, by go_num, ?_, fun q h1 h2 => ?_⟩
              · rw [show k + 1 - 1 = k from rfl, HAc.out]
                have := HAn.out
                congr 1
                omega
              · by_cases e : q = k
                · subst e; exact HCn.out
                · exact HCo.out q h1 (by omega)
            case measure => simp [intOf]; omega
          · have HW := Lib.hid (HC.out k hk1 hkl (fun h => hcn h.2))
            by_cases hc1 : byteN s (i + k) < 128
            · have hc1i : (byteN s (i + k) : Int) < 128 := by omega
              clear hcn
              go_wp2
              refine bodyPost_ret (v := .agg #[.int .i64 (i : Nat), .int .i64 1, .int .i32 65533, .int .i64 12]) (by simp [results, Try.results61, go_sem, r0, r1, r2, r3]) rfl ⟨SpotAt.one HW.out _ _, ?_⟩
              repeat (first | exact HB6.out | refine Below.setCell ?_ (by simp; omega) _ | refine Below.alloc ?_ (by have := HB6.out.size; simp; omega) _)
            · have hc1i : ¬ (byteN s (i + k) : Int) < 128 := by omega
              have hc2i : 191 < (byteN s (i + k) : Int) := by omega
              clear hcn
              go_wp2
              refine bodyPost_ret (v := .agg #[.int .i64 (i : Nat), .int .i64 1, .int .i32 65533, .int .i64 12]) (by simp [results, Try.results61, go_sem, r0, r1, r2, r3]) rfl ⟨SpotAt.one HW.out _ _, ?_⟩
              repeat (first | exact HB6.out | refine Below.setCell ?_ (by simp; omega) _ | refine Below.alloc ?_ (by have := HB6.out.size; simp; omega) _)
        · have hini : (s.size : Int) ≤ (i : Int) + (k : Int) := by omega
          have HW := Lib.hid (HC.out k hk1 hkl (fun h => hin h.1))
          go_wp2
          refine bodyPost_ret (v := .agg #[.int .i64 (i : Nat), .int .i64 1, .int .i32 65533, .int .i64 11]) (by simp [results, Try.results61, go_sem, r0, r1, r2, r3]) rfl ⟨SpotAt.one HW.out _ _, ?_⟩
          repeat (first | exact HB6.out | refine Below.setCell ?_ (by simp; omega) _ | refine Below.alloc ?_ (by have := HB6.out.size; simp; omega) _)
end Go.Proofs.Ytkcdcgijbaepmaa
