/-
  The contract of the iterator over the numbers of a value that no number has (Where, float64).
-/
import Derived.Test.YtabbabkmojaoaaaSPF
import Derived.Test.YtabbabkmojaoaaaTK
set_option linter.unusedVariables false
set_option linter.unusedSimpArgs false
namespace Go.Proofs.Ytabbabkmojaoaaa.VF
open Go.RowKit
attribute [local go_sem] Oper.semAt_some run_store_float

theorem Spans8_fun (q : Option Addr) (w : World) : Calls Try.prog 30 #[.pointer q] w fun e w' => e = .returned (.func (.func 71) #[] #[.pointer (some ⟨w.heap.size, 0, none⟩)]) ∧
    w'.cell? ⟨w.heap.size, 0, none⟩ = some (.pointer q) ∧ w'.heap.size = w.heap.size + 1 ∧ Below w.heap.size w w' := by
  go_enter Try.func30, Try.ntmps30
  go_wp2
  go_ret
  have c0 := cell_of_row _ w.heap.size 0 _ _ (0, 0) (heap_alloc_new w (.cells #[.pointer q] 48))
  exact ⟨rfl, c0, by simp, (Below.refl _ w).alloc (Nat.le_refl _) _⟩
theorem Where8_fun (q : Option Addr) (v : El) (w : World) : Calls Try.prog 31 #[.pointer q, .float .f64 v] w fun e w' => e = .returned (.func (.func 75) #[] #[.pointer (some ⟨w.heap.size, 0, none⟩), .pointer (some ⟨w.heap.size + 1, 0, none⟩)]) ∧
    w'.cell? ⟨w.heap.size, 0, none⟩ = some (.pointer q) ∧ w'.cell? ⟨w.heap.size + 1, 0, none⟩ = some (.float .f64 v) ∧ w'.heap.size = w.heap.size + 2 ∧ Below w.heap.size w w' := by
  have HA := Lib.hid (heap_alloc_new w (.cells #[.pointer q] 48))
  have HB := Lib.hid ((Below.refl _ w).alloc (Nat.le_refl _) (.cells #[.pointer q] 48))
  have HS := Lib.hid (World.size_alloc w (.cells #[.pointer q] 48))
  go_enter Try.func31, Try.ntmps31
  go_wp2
  go_ret
  generalize w.alloc (.cells #[.pointer q] 48) = w1 at *
  have c0 := cell_of_row _ w.heap.size 0 _ _ (0, 0) HA.out
  have hA := (Below.refl _ w1).alloc (Nat.le_refl _) (.cells #[.float .f64 v] 47)
  have c1 := cell_of_row _ w1.heap.size 0 _ _ (0, 0) (heap_alloc_new w1 (.cells #[.float .f64 v] 47))
  have hs := HS.out
  refine ⟨by simp [hs], (hA.cell (p := ⟨w.heap.size, 0, none⟩) (by show w.heap.size < _; omega)).trans c0, by rw [← hs]; exact c1, by simp; omega, HB.out.trans (hA.mono (by omega))⟩
structure WhSt (J : (Nat → Prop) → List Int → World → Prop) (w0 : World) (v : El) (l bv bt br n : Nat) (wr : World) : Prop where
  j : J (fun k => k = bt ∨ k = br) [] wr
  lies : Lies w0 wr
  cv : wr.cell? ⟨bv, 0, none⟩ = some (.float .f64 v)
  ct : wr.heap[bt]? = some (.cells #[.func (.yield l) #[] #[]] 115 (0, 0))
  cr : wr.heap[br]? = some (.cells #[.int .i32 (n : Nat)] 21 (0, 0))
theorem WhSt.put {J : (Nat → Prop) → List Int → World → Prop} {w0 : World} {v : El} {l bv bt br n : Nat} {wr : World} (h : WhSt J w0 v l bv bt br n wr) (hJ : Abide J) (hne : bt ≠ br) (hv : bv ≠ br) (h0 : w0.heap.size ≤ br) (m : Nat) :
    WhSt J w0 v l bv bt br m (wr.setCell ⟨br, 0, none⟩ (.int .i32 (m : Nat))) := by
  have oth : ∀ k, k ≠ br → (wr.setCell ⟨br, 0, none⟩ (.int .i32 (m : Nat))).heap[k]? = wr.heap[k]? := fun k hk => heap_setCell_other wr ⟨br, 0, none⟩ k _ hk
  refine ⟨hJ _ _ _ _ _ h.j (Off.of_grown (grown_store wr br 0 _) (fun k e => by cases e; exact .inr rfl)) (Wider.refl _ _ _), fun k hk => (oth k (by omega)).trans (h.lies k hk), ?_, (oth bt hne).trans h.ct, ?_⟩
  · rw [World.cell?_of_block (w := wr) (a := ⟨bv, 0, none⟩) (oth bv hv)]; exact h.cv
  · rw [heap_setCell_same wr br 0 _ _ _ h.cr]; rfl
def WhR (J : (Nat → Prop) → List Int → World → Prop) (w0 : World) (f : Nat → El) (v : El) (l bv bt br k : Nat) (i : Value) (wr : World) : Prop :=
  ∃ j : Nat, j ≤ 64 ∧ i = .int .i64 (j : Nat) ∧ WhSt J w0 v l bv bt br (64 * k + j) wr
set_option maxRecDepth 100000 in
set_option maxHeartbeats 4000000 in
theorem whereC_walk (J Jx : (Nat → Prop) → List Int → World → Prop) (R : Nat → Prop) (w0 : World) (f : Nat → El) (v : El) (l bv bt br k : Nat) (N : Nat) (hN : N = 1114112) (W : World) (b o : Nat) (bs : List El) (hkk : k < 17408) (hbl : bs.length = 64) (hbs : ∀ j, j < 64 → bs.getD j 0 = f (64 * k + j))
    (hJ : Abide J) (hY : ∀ r, r < N → (FloatKind.f64.format.order (f r) v == some .eq) = false) (hR0 : ∀ k, k < w0.heap.size → R k) (hRv : R bv) (hne : bt ≠ br) (hvb : bv ≠ bt ∧ bv ≠ br) (h0r : w0.heap.size ≤ br) (hb : w0.rangeAt b o (blkC val8 bs)) (hst : WhSt J w0 v l bv bt br (64 * k) W) :
    Calls Try.prog 76 #[.pointer (some ⟨b, o, none⟩), .pointer (some ⟨bv, 0, none⟩), .pointer (some ⟨bt, 0, none⟩), .pointer (some ⟨br, 0, none⟩)] W fun e W' =>
      e = .returned (.bool true) ∧ WhSt J w0 v l bv bt br (64 * (k + 1)) W' := by
  have HN := Lib.hid hN; clear hN
  have HJ := Lib.hid hJ; clear hJ
  have HY := Lib.hid hY; clear hY
  have HR0 := Lib.hid hR0; clear hR0
  have HRv := Lib.hid hRv; clear hRv
  have HB := Lib.hid hb; clear hb
  have HBs := Lib.hid hbs; clear hbs
  have HS := Lib.hid hst; clear hst
  have HV := Lib.hid hvb; clear hvb
  go_enter Try.func76, Try.ntmps76
  go_wp2
  go_loopw [9] (WhR J w0 f v l bv bt br k) (fun i _ => 64 - (intOf i).toNat)
  case atStart => exact ⟨0, Nat.zero_le _, rfl, HS.out⟩
  case round =>
    obtain ⟨j, hj, rfl, hst⟩ := hrel
    have HST := Lib.hid hst; clear hst
    by_cases hjn : j < 64
    · have hji : (j : Int) < 64 := by omega
      have q0 : wr.cell? ⟨b, o + j, none⟩ = some (.float .f64 (f (64 * k + j))) := by
        have hjl : j < bs.length := by omega
        rw [HST.out.lies.range HB.out j _ (blkC_get val8_cells bs j hjl), ← HBs.out j hjn, getD_at (d := 0) hjl]
        rfl
      have HJn : Hid (j < 64) := Lib.hid hjn
      obtain ⟨n, hn⟩ : ∃ n, n = 64 * k + j := ⟨_, rfl⟩
      have hnN : n < 1114112 := by omega
      have hni : (n : Int) < 1114112 := by omega
      rw [← hn] at q0 HST
      have q1 := HST.out.cv
      have q2 : wr.cell? ⟨bt, 0, none⟩ = some (.func (.yield l) #[] #[]) := cell_of_row wr bt 0 _ _ (0, 0) HST.out.ct
      have q3 : wr.cell? ⟨br, 0, none⟩ = some (.int .i32 (n : Nat)) := cell_of_row wr br 0 _ _ (0, 0) HST.out.cr
      have q4 := frozen_of_row wr br 0 _ _ HST.out.cr
      have hsz : w0.heap.size ≤ wr.heap.size := by have := (Array.getElem?_eq_some_iff.1 HST.out.cr).1; omega
      have HNn := Lib.hid hn; clear hn
      have hv' : (FloatKind.f64.format.order (f n) v == some .eq) = false := HY.out n (by rw [HN.out]; exact hnN)
      have HS4 := Lib.hid (HST.out.put HJ.out hne HV.out.2 h0r (n + 1))
      have hcast : ((n + 1 : Nat) : Int) = (n : Int) + 1 := by omega
      rw [hcast] at HS4
      generalize hx : f n = x at *
      clear hx
      go_wp2
      go_roundw
      case rel =>
        have e : 64 * k + (j + 1) = n + 1 := by have := HNn.out; omega
        refine ⟨j + 1, by omega, by go_num, ?_⟩
        rw [e]
        exact HS4.out
      case measure => simp [intOf]; omega
    · obtain rfl : j = 64 := by omega
      have HS6 : Hid (WhSt J w0 v l bv bt br (64 * (k + 1)) wr) := Lib.hid HST.out
      go_wp2
      go_ret
      exact ⟨rfl, HS6.out⟩

set_option maxRecDepth 100000 in
theorem where_none (w0 : World) (g : Nat) (T : TrieD El) (hk : TrieOk T) (h0 : 0 < T.low.length) (ht : TrieAt val8 148 64 w0 g T) (v : El) (b : Nat) (R : Nat → Prop) (w : World) (hw : Lies w0 w) (hs : w0.heap.size ≤ w.heap.size) (hR0 : ∀ k, k < w0.heap.size → R k) (hR1 : R b) (hR2 : R (b + 1))
    (c1 : w.cell? ⟨b, 0, none⟩ = some (.pointer (some ⟨g, 0, none⟩))) (c2 : w.cell? ⟨b + 1, 0, none⟩ = some (.float .f64 v)) (N : Nat) (hN : N = 1114112) (hv : ∀ r, r < N → (FloatKind.f64.format.order (lookT (0 : El) T r) v == some .eq) = false) :
    SeqX Try.prog 75 #[.pointer (some ⟨b, 0, none⟩), .pointer (some ⟨b + 1, 0, none⟩)] encR R (fun xs => xs = []) (fun _ => False) N w := by
  intro l J Jx W hW hJ hJx hY h1
  refine callsIn_wide.2 ?_
  have HJ := Lib.hid hJ
  have hWl : Lies w0 W := hw.of_below hs hW
  have hWs : w0.heap.size ≤ W.heap.size := Nat.le_trans hs hW.size
  have d1 := (hW.cell (p := ⟨b, 0, none⟩) (World.block_lt_of_cell? w _ c1)).trans c1
  have d2 := (hW.cell (p := ⟨b + 1, 0, none⟩) (World.block_lt_of_cell? w _ c2)).trans c2
  have hbl : b + 1 < W.heap.size := World.block_lt_of_cell? W ⟨b + 1, 0, none⟩ d2
  obtain ⟨bt, hbt⟩ : ∃ bt, bt = W.heap.size := ⟨_, rfl⟩
  have hB1 := (Below.refl _ W).alloc (Nat.le_refl _) (.cells #[.func (.yield l) #[] #[]] 115)
  have hA1 := heap_alloc_new W (.cells #[.func (.yield l) #[] #[]] 115)
  have hz1 := World.size_alloc W (.cells #[.func (.yield l) #[] #[]] 115)
  have HW1 : Hid (∃ w1, W.alloc (.cells #[.func (.yield l) #[] #[]] 115) = w1) := Lib.hid ⟨_, rfl⟩
  obtain ⟨w1, hw1⟩ := HW1.out
  clear HW1
  rw [hw1] at hB1 hA1 hz1
  have hB2 := (Below.refl _ w1).alloc (Nat.le_refl _) (.cells #[.int .i32 0] 21)
  have hA2 := heap_alloc_new w1 (.cells #[.int .i32 0] 21)
  obtain ⟨w2, hw2⟩ : ∃ w2, w1.alloc (.cells #[.int .i32 0] 21) = w2 := ⟨_, rfl⟩
  have hz2 := World.size_alloc w1 (.cells #[.int .i32 0] 21)
  rw [hw2] at hB2 hA2 hz2
  have hB02 := hB1.trans (hB2.mono (by omega))
  have HS2 : Hid (WhSt J w0 v l (b + 1) bt (bt + 1) 0 w2) := Lib.hid (by
    refine ⟨hJ _ _ _ _ _ h1 (Off.of_below hB02) (fun k hk => .inr (by rcases hk with hk | hk <;> omega)), hWl.of_below hWs hB02, (hB02.cell (p := ⟨b + 1, 0, none⟩) hbl).trans d2, ?_, ?_⟩
    · rw [hbt]; exact (hB2.block _ (by omega)).trans hA1
    · rw [hbt, ← hz1]; exact hA2)
  have e1 : w1.cell? ⟨b, 0, none⟩ = some (.pointer (some ⟨g, 0, none⟩)) := (hB1.cell (p := ⟨b, 0, none⟩) (by show b < _; omega)).trans d1
  have HE1 := Lib.hid e1
  have e2 : w2.cell? ⟨b, 0, none⟩ = some (.pointer (some ⟨g, 0, none⟩)) := (hB2.cell (p := ⟨b, 0, none⟩) (by show b < _; omega)).trans e1
  have HT1 := Lib.hid (there8_walk w1 g T hk h0 ((hWl.of_below hWs hB1).trie ht))
  have HBl := Lib.hid (blocks8_walk w0 g T hk h0 ht 76 #[.pointer (some ⟨b + 1, 0, none⟩), .pointer (some ⟨bt, 0, none⟩), .pointer (some ⟨bt + 1, 0, none⟩)]
    (fun k W => WhSt J w0 v l (b + 1) bt (bt + 1) (64 * k) W) (fun _ => False) w2 (enters_of Try.func76 (by kernel_rfl) rfl)
    (fun k W h => h.lies) (fun k W b' o' hk' hst hr => whereC_walk J Jx R w0 (lookT (0 : El) T) v l (b + 1) bt (bt + 1) k N hN W b' o' (lowAt T k) hk' (lowAt_length hk k hk') (fun j hj => lowAt_look (0 : El) T k j hj) hJ hv hR0 hR2 (by omega) ⟨by omega, by omega⟩ (by omega) hr hst |>.mono fun _ _ h => .inl h) HS2.out)
  have HN := Lib.hid hN
  rw [← hbt] at hz1
  clear hJ hJx hY h1 hW hWl hWs d2 hbl hB1 hA1 hB2 hA2 hB02 HS2 hz2 e1 hR0 hR1 hR2 c1 c2 hN hs hw ht hk h0
  have hbt' : W.heap.size = bt := hbt.symm
  rw [← hw2] at e2
  have HW2 := Lib.hid hw2
  clear hbt hw2
  go_enter Try.func75, Try.ntmps75
  have e1 := HE1.out
  go_wp2_with fail
  refine HT1.out.mono ?_
  rintro e w1' ⟨rfl, h1'⟩
  subst h1'
  clear HT1
  go_wp2_with fail
  rw [HW2.out]
  refine HBl.out.mono ?_
  rintro e w5 ⟨⟨u, rfl⟩, (h5 | h5)⟩
  · have H5 := Lib.hid h5; clear h5
    go_wp2
    go_end0
    have h6 := H5.out.j
    exact ⟨⟨_, rfl⟩, .inl ⟨_, _, rfl, h6⟩⟩
  · exact h5.elim
end Go.Proofs.Ytabbabkmojaoaaa.VF
