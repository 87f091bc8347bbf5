/-
  The walks of 'begin' and 'Fill' (int).
-/
import Derived.Test.YtabbabkmojaoaaaTAI
import Derived.Test.YtabbabkmojaoaaaTF
set_option linter.unusedVariables false
set_option linter.unusedSimpArgs false
namespace Go.Proofs.Ytabbabkmojaoaaa.VI
open Go.RowKit

def S0 : MkS El := { top := List.replicate 272 0, cur := List.replicate 64 0, lows := [], mids := [], blocks := 0 }
theorem S0_ok : MkW S0 := ⟨List.length_replicate, List.length_replicate, fun _ h => absurd h (List.not_mem_nil), fun _ h => absurd h (List.not_mem_nil)⟩
set_option maxRecDepth 100000 in
set_option maxHeartbeats 1600000 in
theorem begin8_walk (w : World) :
    Calls Try.prog 99 #[] w fun e w' => e = .returned (.pointer (some ⟨w.heap.size + 3, 0, none⟩)) ∧
      MkAt val8 1 184 186 120 154 w' w.heap.size S0 [] [] none 0 none 0 ∧ Below w.heap.size w w' := by
  go_enter Try.func99, Try.ntmps99
  go_upto_region 1 with (fail)
  refine wp_region_list ?_
  refine wpList_val (v := .agg (trC S0 none 0 none 0).toArray) (w' := w) rfl (by kernel_rfl) ?_
  refine wpList_val (v := .pointer (some ⟨w.heap.size, 0, none⟩)) (w' := w.alloc (.cells (trC S0 none 0 none 0).toArray 186)) rfl (by kernel_rfl) ?_
  obtain ⟨w1, hw1⟩ : ∃ w1, w1 = w.alloc (.cells (trC S0 none 0 none 0).toArray 186) := ⟨_, rfl⟩
  have hs1 : w1.heap.size = w.heap.size + 1 := by rw [hw1]; simp
  rw [← hw1]
  refine wpList_val (v := .map (some (w.heap.size + 1))) (w' := w1.alloc (.map #[] 0)) rfl (by rw [← hs1]; kernel_rfl) ?_
  obtain ⟨w2, hw2⟩ : ∃ w2, w2 = w1.alloc (.map #[] 0) := ⟨_, rfl⟩
  have hs2 : w2.heap.size = w.heap.size + 2 := by rw [hw2]; simp [hs1]
  rw [← hw2]
  refine wpList_val (v := .map (some (w.heap.size + 2))) (w' := w2.alloc (.map #[] 0)) rfl (by rw [← hs2]; kernel_rfl) ?_
  obtain ⟨w3, hw3⟩ : ∃ w3, w3 = w2.alloc (.map #[] 0) := ⟨_, rfl⟩
  have hs3 : w3.heap.size = w.heap.size + 3 := by rw [hw3]; simp [hs2]
  rw [← hw3]
  refine wpList_val (v := .agg (mkC w.heap.size S0).toArray) (w' := w3) rfl (by kernel_rfl) ?_
  refine wpList_val (v := .pointer (some ⟨w.heap.size + 3, 0, none⟩)) (w' := w3.alloc (.cells (mkC w.heap.size S0).toArray 184)) rfl (by rw [← hs3]; kernel_rfl) ?_
  obtain ⟨w4, hw4⟩ : ∃ w4, w4 = w3.alloc (.cells (mkC w.heap.size S0).toArray 184) := ⟨_, rfl⟩
  rw [← hw4]
  refine wpList_val (v := .pointer (some ⟨w.heap.size + 3, 0, none⟩)) (w' := w4) rfl (by kernel_rfl) ?_
  have b1 : Below w.heap.size w w1 := by rw [hw1]; exact (Below.refl _ _).alloc (Nat.le_refl _) _
  have b2 : Below w1.heap.size w1 w2 := by rw [hw2]; exact (Below.refl _ _).alloc (Nat.le_refl _) _
  have b3 : Below w2.heap.size w2 w3 := by rw [hw3]; exact (Below.refl _ _).alloc (Nat.le_refl _) _
  have b4 : Below w3.heap.size w3 w4 := by rw [hw4]; exact (Below.refl _ _).alloc (Nat.le_refl _) _
  have k1 : w1.heap[w.heap.size]? = some (.cells (trC S0 none 0 none 0).toArray 186 (0, 0)) := by rw [hw1]; exact heap_alloc_new w _
  have k2 : w2.heap[w.heap.size + 1]? = some (.map #[] 0) := by rw [← hs1, hw2]; exact heap_alloc_new w1 _
  have k3 : w3.heap[w.heap.size + 2]? = some (.map #[] 0) := by rw [← hs2, hw3]; exact heap_alloc_new w2 _
  have k4 : w4.heap[w.heap.size + 3]? = some (.cells (mkC w.heap.size S0).toArray 184 (0, 0)) := by rw [← hs3, hw4]; exact heap_alloc_new w3 _
  have HB := Lib.hid (below_sq (below_sq (below_sq b1 b2) b3) b4)
  have HM : Hid (MkAt val8 1 184 186 120 154 w4 w.heap.size S0 [] [] none 0 none 0) := Lib.hid
    ⟨k4, (b4.block _ (by omega)).trans ((b3.block _ (by omega)).trans ((b2.block _ (by omega)).trans k1)), World.ownsRow_nil _ _ _ _, World.ownsRow_nil _ _ _ _, (fun k e => by cases e),
      (b4.block _ (by omega)).trans ((b3.block _ (by omega)).trans k2), (b4.block _ (by omega)).trans k3⟩
  clear b1 b2 b3 b4 k1 k2 k3 k4 hw1 hw2 hw3 hw4 hs1 hs2 hs3
  go_wp2
  go_ret
  exact ⟨rfl, HM.out, HB.out⟩

/-- block number k of a function -/
def blkF (f : Nat → El) (k : Nat) : List El := (List.range 64).map (fun i => f (64 * k + i))
theorem blkF_length (f : Nat → El) (k : Nat) : (blkF f k).length = 64 := by simp [blkF]
/-- the maker after k blocks -/
def mkF (f : Nat → El) : Nat → MkS El
  | 0 => S0
  | k + 1 => addS eq8 (mkF f k) (blkF f k)
theorem addS_ok {S : MkS El} {b : List El} (h : MkW S) (hb : b.length = 64) : MkW (addS eq8 S b) ∧ (addS eq8 S b).blocks = S.blocks + 1 := by
  by_cases h1 : (S.blocks + 1) % 64 = 0
  · rw [addS_full h1]
    exact ⟨⟨by simpa using h.top, by simpa using h.cur, numB_len h.low hb, numB_len h.mid (by simpa using h.cur)⟩, rfl⟩
  · rw [addS_less h1]
    exact ⟨⟨h.top, by simpa using h.cur, numB_len h.low hb, h.mid⟩, rfl⟩
theorem mkF_ok (f : Nat → El) (k : Nat) : MkW (mkF f k) ∧ (mkF f k).blocks = k ∧ (mkF f k).lows.length ≤ k ∧ (mkF f k).mids.length ≤ k / 64 := by
  induction k with
  | zero => exact ⟨S0_ok, rfl, Nat.le_refl _, Nat.le_refl _⟩
  | succ k ih =>
    obtain ⟨h1, h2, h3, h4⟩ := ih
    obtain ⟨h5, h6⟩ := addS_ok h1 (blkF_length f k)
    refine ⟨h5, by rw [mkF, h6, h2], ?_, ?_⟩
    · rw [mkF]
      have := numB_le eq8 (mkF f k).lows (blkF f k)
      by_cases h7 : ((mkF f k).blocks + 1) % 64 = 0
      · rw [addS_full h7]; simp only; omega
      · rw [addS_less h7]; simp only; omega
    · rw [mkF]
      by_cases h7 : ((mkF f k).blocks + 1) % 64 = 0
      · rw [addS_full h7]
        have := numB_le eq16 (mkF f k).mids ((mkF f k).cur.set ((mkF f k).blocks % 64) (numB eq8 (mkF f k).lows (blkF f k)).2)
        simp only
        omega
      · rw [addS_less h7]; simp only; omega

/-- what lies from B on is left alone -/
theorem Keeps.mkAt (B : Nat) {W W' : World} {g : Nat} {S : MkS El} {ml : List (List El)} {mm : List (List Nat)} {am : Option Addr} {cm : Nat} {al : Option Addr} {cl : Nat} {tM tT tA tV : TypeId} (hk : Keeps B W W') (hB : B ≤ g)
    (h : MkAt val8 1 tM tT tA tV W g S ml mm am cm al cl) : MkAt val8 1 tM tT tA tV W' g S ml mm am cm al cl := by
  have hl := h.lt
  have k : ∀ b, B ≤ b → b < W.heap.size → W'.heap[b]? = W.heap[b]? := hk.block
  have r : ∀ {E : TypeId} {s : Nat} {v : Value} {n : Nat} {xs : List Value}, W.ownsRow (g + 4) E s v n xs → W'.ownsRow (g + 4) E s v n xs := fun {E s v n xs} h => by
    refine ⟨h.1, ?_⟩
    rcases h.2 with hn | ⟨gg, cap, cur, e, hbg, hgg, rest⟩
    · exact .inl hn
    · exact .inr ⟨gg, cap, cur, e, hbg, by rw [k gg (by omega) (Array.getElem?_eq_some_iff.1 hgg).1]; exact hgg, rest⟩
  exact ⟨(k _ (by omega) (by omega)).trans h.mk_, (k _ hB (by omega)).trans h.tr, r h.rm, r h.rl, h.ap, (k _ (by omega) (by omega)).trans h.lm, (k _ (by omega) (by omega)).trans h.mm_⟩

end Go.Proofs.Ytabbabkmojaoaaa.VI
