/-
  The walk of 'awake'.
-/
import Derived.Test.YtabbabkmojaoaaaTR
import Derived.Test.YtabbabkmojaoaaaTU
set_option linter.unusedVariables false
set_option linter.unusedSimpArgs false
namespace Go.Proofs.Ytabbabkmojaoaaa
open Go.RowKit

def awL : List SpanD := [⟨65, 90, 5⟩]
theorem awL_fine : (∀ j, j < awL.length → ¬ badS (awL.getD j default)) ∧ ∀ j, j < awL.length → ¬ meetS awL j := by
  refine ⟨fun j hj => ?_, fun j hj => ?_⟩
  · obtain rfl : j = 0 := by simp [awL] at hj; exact hj
    simp [awL, badS]
  · obtain rfl : j = 0 := by simp [awL] at hj; exact hj
    rintro ⟨x, -, h⟩
    exact h rfl
theorem awF (r : Nat) : fS 3 awL r = if 65 ≤ r ∧ r ≤ 90 then 5 else 3 := by
  have h := fS_snoc 3 [] ⟨65, 90, 5⟩ (fun ⟨x, _, h⟩ => h rfl) (by simp [badS]) r
  rw [show awL = [] ++ [⟨65, 90, 5⟩] from rfl, h]
  simp [fS, ownF]
theorem aw_two {S : MkS Int} (hS : Made8 (fS 3 awL) S) : S.lows.length = 2 ∧ S.mids.length = 2 := by
  have hU : ∀ j, j ≠ 1 → blkF (fS 3 awL) j = List.replicate 64 3 := fun j hj => blkF_const (fun i hi => by rw [awF, if_neg (by omega)])
  have hA : blkF (fS 3 awL) 1 ≠ List.replicate 64 3 := fun e => by
    have := congrArg (fun l => l.getD 1 0) e
    simp [blkF, awF] at this
  have hV : ∀ c, c ≠ 0 → bigB (blkF (fS 3 awL)) c = List.replicate 64 (List.replicate 64 3) := fun c hc => bigB_const (fun i hi => by rw [awF, if_neg (by omega)])
  have hB : bigB (blkF (fS 3 awL)) 0 ≠ List.replicate 64 (List.replicate 64 3) := fun e => by
    have h1 : (bigB (blkF (fS 3 awL)) 0).getD 1 [] = (List.replicate 64 (List.replicate 64 (3 : Int))).getD 1 [] := by rw [e]
    unfold bigB at h1
    rw [List.getD_eq_getElem?_getD, List.getD_eq_getElem?_getD, List.getElem?_map, List.getElem?_range (by omega), List.getElem?_replicate, if_pos (by omega)] at h1
    exact hA (by simpa using h1)
  constructor
  · have h1 := nodup_le S.lows [List.replicate 64 3, blkF (fS 3 awL) 1] hS.nl (fun x hx => by
      obtain ⟨j, hj, rfl⟩ := (hS.made.low_mem x).1 hx
      by_cases e : j = 1
      · rw [e]; exact List.mem_cons_of_mem _ (List.mem_singleton.2 rfl)
      · rw [hU j e]; exact List.mem_cons_self)
    have h2 := nodup_le [List.replicate 64 3, blkF (fS 3 awL) 1] S.lows (by
      rw [List.nodup_cons]
      exact ⟨fun h => hA (List.mem_singleton.1 h).symm, List.nodup_cons.2 ⟨List.not_mem_nil, List.nodup_nil⟩⟩) (fun x hx => by
      rw [hS.made.low_mem]
      rcases List.mem_cons.1 hx with rfl | hx
      · exact ⟨0, by omega, (hU 0 (by omega)).symm⟩
      · rw [List.mem_singleton.1 hx]; exact ⟨1, by omega, rfl⟩)
    simp only [List.length_cons, List.length_nil] at h1 h2
    omega
  · have h1 := nodup_le (S.mids.map (namedBy S.lows)) [List.replicate 64 (List.replicate 64 3), bigB (blkF (fS 3 awL)) 0] hS.made.big_nd (fun x hx => by
      obtain ⟨c, hc, rfl⟩ := (hS.made.big_mem x).1 hx
      by_cases e : c = 0
      · rw [e]; exact List.mem_cons_of_mem _ (List.mem_singleton.2 rfl)
      · rw [hV c e]; exact List.mem_cons_self)
    have h2 := nodup_le [List.replicate 64 (List.replicate 64 3), bigB (blkF (fS 3 awL)) 0] (S.mids.map (namedBy S.lows)) (by
      rw [List.nodup_cons]
      exact ⟨fun h => hB (List.mem_singleton.1 h).symm, List.nodup_cons.2 ⟨List.not_mem_nil, List.nodup_nil⟩⟩) (fun x hx => by
      rw [hS.made.big_mem]
      rcases List.mem_cons.1 hx with rfl | hx
      · exact ⟨1, by omega, (hV 1 (by omega)).symm⟩
      · rw [List.mem_singleton.1 hx]; exact ⟨0, by omega, rfl⟩)
    simp only [List.length_cons, List.length_nil, List.length_map] at h1 h2
    omega

theorem parts_top (a b c : Value) (w : World) : (Instr.field 79 (.agg #[a, b, c]) 0).run Try.prog w = .ok a w := by kernel_rfl
theorem parts_low (a b c : Value) (w : World) : (Instr.field 79 (.agg #[a, b, c]) 2).run Try.prog w = .ok c w := by kernel_rfl
set_option maxRecDepth 100000 in
set_option maxHeartbeats 1600000 in
theorem awake_walk (w : World) : Calls Try.prog 13 #[] w fun e w' => e = .returned (.bool true) ∧ Below w.heap.size w w' := by
  have HA := Lib.hid (show SpansAt (w.alloc (.cells #[.int .i32 65, .int .i32 90, .int .u8 5] 24)) (some ⟨w.heap.size, 0, none⟩) awL from fun i hi => by
    obtain rfl : i = 0 := by simp [awL] at hi; exact hi
    refine ⟨w.heap.size, 0, rfl, ?_, ?_, ?_⟩
    all_goals rw [cell_of_row _ w.heap.size _ _ _ (0, 0) (heap_alloc_new w _)]; rfl)
  have HB := Lib.hid ((Below.refl w.heap.size w).alloc (Nat.le_refl _) (.cells #[.int .i32 65, .int .i32 90, .int .u8 5] 24))
  go_enter Try.func13, Try.ntmps13
  go_wp2_with fail
  generalize (w.alloc (.cells #[.int .i32 65, .int .i32 90, .int .u8 5] 24)) = w1 at *
  refine (Build8_walk 3 (some ⟨w.heap.size, 0, none⟩) 1 1 awL w1 rfl (by omega) HA.out (fun s hs => by simp [awL] at hs; subst hs; simp)).mono ?_
  intro e w2 hq
  obtain ⟨hb, hq⟩ := bldQ_of hq
  rcases hq with ⟨i, hi, h1, -⟩ | ⟨-, k, hk, h1, -⟩ | ⟨-, -, g, S, rfl, hg, hS, hT⟩
  · exact absurd h1 (awL_fine.1 i hi)
  · exact absurd h1 (awL_fine.2 k hk)
  · have HB2 := Lib.hid (below_sq HB.out hb)
    have HT := Lib.hid hT
    have HS := Lib.hid hS
    obtain ⟨n1, n2⟩ := aw_two hS
    have HN := Lib.hid (And.intro n1 n2)
    have hok := hS.trie
    have HOk := Lib.hid hok
    have hp : 0 < (trieS S).low.length := hS.pos.1
    have HLk := Lib.hid (fun (r : Int) (v : Int) (hv : fS 3 awL (runeR r) = v) => show lookT 0 (trieS S) (runeR r) = v from (hS.look (runeR r) (runeR_le r)).trans hv)
    clear hb hg hS hT n1 n2 hok
    go_wp2_with fail
    refine (Blocks8_walk w2 g (trieS S) HOk.out hp HT.out).mono ?_
    rintro e w3 ⟨rfl, q, rfl⟩
    rw [show (trieS S).mid.length = 2 from HN.out.2, show (trieS S).low.length = 2 from HN.out.1]
    have HB3 := Lib.hid (HB2.out.trans (below_drewN (Below.refl _ _) q))
    have HT3 : Hid (TrieAt val8 114 64 (w2.drewN q) g (trieS S)) := Lib.hid (HT.out.below (below_drewN (Below.refl w2.heap.size w2) q) (Nat.le_refl _))
    clear HT HB2
    generalize w2.drewN q = w3 at *
    go_wp2_with fail
    refine (At8_walk w3 g (trieS S) HOk.out hp HT3.out 64 (by omega) (by omega)).mono ?_
    rintro e w4 ⟨rfl, q, rfl⟩
    rw [HLk.out 64 3 (by rw [awF]; simp [runeR])]
    have HB4 := Lib.hid (HB3.out.trans (below_drewN (Below.refl _ w3) q))
    have HT4 : Hid (TrieAt val8 114 64 (w3.drewN q) g (trieS S)) := Lib.hid (HT3.out.below (below_drewN (Below.refl w3.heap.size w3) q) (Nat.le_refl _))
    clear HT3 HB3
    generalize w3.drewN q = w4 at *
    unfold val8
    go_wp2_with fail
    refine (At8_walk w4 g (trieS S) HOk.out hp HT4.out 65 (by omega) (by omega)).mono ?_
    rintro e w5 ⟨rfl, q, rfl⟩
    rw [HLk.out 65 5 (by rw [awF]; simp [runeR])]
    have HB5 := Lib.hid (HB4.out.trans (below_drewN (Below.refl _ w4) q))
    have HT5 : Hid (TrieAt val8 114 64 (w4.drewN q) g (trieS S)) := Lib.hid (HT4.out.below (below_drewN (Below.refl w4.heap.size w4) q) (Nat.le_refl _))
    clear HT4 HB4
    generalize w4.drewN q = w5 at *
    unfold val8
    go_wp2_with fail
    refine (At8_walk w5 g (trieS S) HOk.out hp HT5.out 90 (by omega) (by omega)).mono ?_
    rintro e w6 ⟨rfl, q, rfl⟩
    rw [HLk.out 90 5 (by rw [awF]; simp [runeR])]
    have HB6 := Lib.hid (HB5.out.trans (below_drewN (Below.refl _ w5) q))
    have HT6 : Hid (TrieAt val8 114 64 (w5.drewN q) g (trieS S)) := Lib.hid (HT5.out.below (below_drewN (Below.refl w5.heap.size w5) q) (Nat.le_refl _))
    clear HT5 HB5
    generalize w5.drewN q = w6 at *
    unfold val8
    go_wp2_with fail
    refine (At8_walk w6 g (trieS S) HOk.out hp HT6.out (-1) (by omega) (by omega)).mono ?_
    rintro e w7 ⟨rfl, q, rfl⟩
    rw [HLk.out (-1) 3 (by rw [awF]; simp [runeR])]
    have HB7 := Lib.hid (HB6.out.trans (below_drewN (Below.refl _ w6) q))
    have HT7 : Hid (TrieAt val8 114 64 (w6.drewN q) g (trieS S)) := Lib.hid (HT6.out.below (below_drewN (Below.refl w6.heap.size w6) q) (Nat.le_refl _))
    clear HT6 HB6
    generalize w6.drewN q = w7 at *
    unfold val8
    go_wp2_with fail
    have fp0 := parts_top
    have fp2 := parts_low
    refine (Parts8_walk w7 g (trieS S) HOk.out hp HT7.out).mono ?_
    rintro e w8 ⟨at8, ct8, am8, cm8, al8, cl8, rfl, -, -, -, hb⟩
    rw [show (trieS S).mid.length = 2 from HN.out.2, show (trieS S).low.length = 2 from HN.out.1]
    have HB8 := Lib.hid (HB7.out.trans (hb.mono HB7.out.size))
    have HT8 := Lib.hid (HT7.out.below hb (Nat.le_refl _))
    clear HT7 HB7 hb
    simp only [Nat.reduceMul]
    go_wp2_with fail
    refine (Parts8_walk w8 g (trieS S) HOk.out hp HT8.out).mono ?_
    rintro e w9 ⟨at9, ct9, am9, cm9, al9, cl9, rfl, -, -, -, hb⟩
    rw [show (trieS S).mid.length = 2 from HN.out.2, show (trieS S).low.length = 2 from HN.out.1]
    have HB9 := Lib.hid (HB8.out.trans (hb.mono HB8.out.size))
    have HT9 := Lib.hid (HT8.out.below hb (Nat.le_refl _))
    clear HT8 HB8 hb
    simp only [Nat.reduceMul]
    go_wp2
    go_ret
    exact ⟨rfl, HB9.out⟩
end Go.Proofs.Ytabbabkmojaoaaa
