/-
  The walk of TriePoints.
-/
import Derived.Test.YtabbabkmojaoaaaTI
import Derived.Test.YtabbabkmojaoaaaRQ
set_option linter.unusedVariables false
set_option linter.unusedSimpArgs false
namespace Go.Proofs.Ytabbabkmojaoaaa
open Go.RowKit
attribute [local go_sem] Oper.semAt_some wide_fn

/-- the four boxes at the beginning -/
def Pts4 (w : World) (rest v : Int) (a : Option Addr) (n c : Nat) : World :=
  (((w.alloc (.cells #[.int .u8 rest] 5)).alloc (.cells #[.slice a n c] 22)).alloc (.cells #[.int .u8 v] 5)).alloc (.cells #[.bool false] 4)
structure Pts4At (w : World) (rest v : Int) (a : Option Addr) (n c b0 : Nat) (W : World) : Prop where
  size : W.heap.size = b0 + 4
  bel : Below w.heap.size w W
  h0 : W.heap[b0]? = some (.cells #[.int .u8 rest] 5 (0, 0))
  h1 : W.heap[b0 + 1]? = some (.cells #[.slice a n c] 22 (0, 0))
  h2 : W.heap[b0 + 2]? = some (.cells #[.int .u8 v] 5 (0, 0))
  h3 : W.heap[b0 + 3]? = some (.cells #[.bool false] 4 (0, 0))
theorem pts4 (w : World) (rest v : Int) (a : Option Addr) (n c : Nat) : Pts4At w rest v a n c w.heap.size (Pts4 w rest v a n c) := by
  unfold Pts4
  have b1 := (Below.refl _ w).alloc (Nat.le_refl _) (.cells #[.int .u8 rest] 5)
  have a1 := heap_alloc_new w (.cells #[.int .u8 rest] 5)
  have s1 := World.size_alloc w (.cells #[.int .u8 rest] 5)
  generalize w.alloc (.cells #[.int .u8 rest] 5) = w1 at *
  have b2 := (Below.refl _ w1).alloc (Nat.le_refl _) (.cells #[.slice a n c] 22)
  have a2 := heap_alloc_new w1 (.cells #[.slice a n c] 22)
  have s2 := World.size_alloc w1 (.cells #[.slice a n c] 22)
  generalize w1.alloc (.cells #[.slice a n c] 22) = w2 at *
  have b3 := (Below.refl _ w2).alloc (Nat.le_refl _) (.cells #[.int .u8 v] 5)
  have a3 := heap_alloc_new w2 (.cells #[.int .u8 v] 5)
  have s3 := World.size_alloc w2 (.cells #[.int .u8 v] 5)
  generalize w2.alloc (.cells #[.int .u8 v] 5) = w3 at *
  have b4 := (Below.refl _ w3).alloc (Nat.le_refl _) (.cells #[.bool false] 4)
  have a4 := heap_alloc_new w3 (.cells #[.bool false] 4)
  have s4 := World.size_alloc w3 (.cells #[.bool false] 4)
  generalize w3.alloc (.cells #[.bool false] 4) = w4 at *
  refine ⟨by omega, ((b1.trans (b2.mono (by omega))).trans (b3.mono (by omega))).trans (b4.mono (by omega)), ?_, ?_, ?_, ?_⟩
  · exact (b4.block _ (by omega)).trans ((b3.block _ (by omega)).trans ((b2.block _ (by omega)).trans a1))
  · rw [← s1]; exact (b4.block _ (by omega)).trans ((b3.block _ (by omega)).trans a2)
  · rw [show w.heap.size + 2 = w2.heap.size by omega]; exact (b4.block _ (by omega)).trans a3
  · rw [show w.heap.size + 3 = w3.heap.size by omega]; exact a4

theorem Build8_any2 (rest : Int) (a : Option Addr) (n c : Nat) (l : List SpanD) (w : World) (hl : l.length = n) (hn : n ≤ 1048576) (hs : SpansAt w a l) (hwf : ∀ s ∈ l, -2147483648 ≤ s.f ∧ s.f ≤ 2147483647 ∧ -2147483648 ≤ s.t ∧ s.t ≤ 2147483647) :
    Calls Try.prog 14 #[.int .u8 rest, .slice a n c] w fun e w' => ∃ tv at_ er, e = .returned (.tuple #[tv, .int .i64 at_, .int .i64 er]) ∧ Below w.heap.size w w' ∧
      ((er ≠ 0 ∧ tv = .pointer none ∧ ¬ okS l) ∨ (er = 0 ∧ okS l ∧ ∃ g S, tv = .pointer (some ⟨g, 0, none⟩) ∧ Made8 (fS rest l) S ∧ TrieAt val8 114 64 w' g (trieS S))) := by
  refine (Build8_walk rest a n c l w hl hn hs hwf).mono ?_
  intro e w' hq
  obtain ⟨hb, hq⟩ := bldQ_of hq
  rcases hq with ⟨i, hi, h1, -, rfl⟩ | ⟨-, k, hk, h1, -, rfl⟩ | ⟨h1, h2, g, S, rfl, -, hS, hT⟩
  · exact ⟨_, _, _, rfl, hb, .inl ⟨by omega, rfl, fun h => h.1 i hi h1⟩⟩
  · exact ⟨_, _, _, rfl, hb, .inl ⟨by omega, rfl, fun h => h.2 k hk h1⟩⟩
  · exact ⟨_, _, _, rfl, hb, .inr ⟨rfl, ⟨h1, h2⟩, g, S, rfl, hS, hT⟩⟩
theorem whL_strict {f : Nat → Int} {v : Int} {n j : Nat} (hj : f j = v) (h1 : n ≤ j) : ∀ k, j < k → (whL f v n).length < (whL f v k).length := by
  have mono : ∀ k, n ≤ k → (whL f v n).length ≤ (whL f v k).length := by
    intro k
    induction k with
    | zero => intro h; rw [show n = 0 by omega]; exact Nat.le_refl _
    | succ k ih =>
      intro h
      by_cases e : n = k + 1
      · rw [e]; exact Nat.le_refl _
      · have := ih (by omega)
        by_cases h2 : f k = v
        · rw [whL_hit h2, List.length_append, List.length_singleton]; omega
        · rw [whL_miss h2]; exact this
  intro k
  induction k with
  | zero => intro h; omega
  | succ k ih =>
    intro h
    by_cases e : j = k
    · subst e
      rw [whL_hit hj, List.length_append, List.length_singleton]
      have := mono j h1
      omega
    · have := ih (by omega)
      by_cases h2 : f k = v
      · rw [whL_hit h2, List.length_append, List.length_singleton]; omega
      · rw [whL_miss h2]; exact this
/-- between two rounds: the next number -/
structure PtI (w2 : World) (F : Nat → Int) (v : Int) (N : Nat) (T : Nat → Prop) (pre : List Int) (W : World) : Prop where
  bel : Below w2.heap.size w2 W
  tn : ∀ k, T k → w2.heap.size < k
  cell : ∃ m, m ≤ N ∧ pre = whL F v m ∧ W.heap[w2.heap.size]? = some (.cells #[.int .i32 (m : Nat)] 21 (0, 0))
theorem PtI.abide (w2 : World) (F : Nat → Int) (v : Int) (N : Nat) : Abide (PtI w2 F v N) := by
  rintro T T' pre W W' ⟨h1, h2, m, h3, h4, h5⟩ ho hw
  have hl := (Array.getElem?_eq_some_iff.1 h5).1
  refine ⟨h1.trans (ho.below _ h1.size (fun k hk => Nat.le_of_lt (h2 k hk))), fun k hk => ?_, m, h3, h4, ho.cellsBlock h5 (fun h => Nat.lt_irrefl _ (h2 _ h))⟩
  rcases hw k hk with h | h
  · exact h2 k h
  · omega
def ColR (p1 v1 : Nat) (tmps : Array Value) (T : Nat → Prop) (x : Int) (a' : Act) (W : World) : Prop :=
  a' = { tmps := (tmps.setIfInBounds p1 (.int .i32 x)).setIfInBounds v1 (.int .i32 x), defers := [] }
theorem lies_below {w W : World} (h : Below w.heap.size w W) : Lies w W := fun k hk => h.block k hk
theorem SpansAt.lies {w W : World} {a : Option Addr} {l : List SpanD} (h : SpansAt w a l) (hy : Lies w W) : SpansAt W a l := fun i hi => by
  obtain ⟨b, o, e, h1, h2, h3⟩ := h i hi
  exact ⟨b, o, e, hy.cell h1, hy.cell h2, hy.cell h3⟩

theorem grown_refl (W : World) (r : Option Nat) : W.grownBy W r := ⟨rfl, rfl, rfl, Nat.le_refl _, fun _ _ _ => rfl⟩
def PtL (W : World) (M m k : Nat) (i : Value) (wr : World) : Prop :=
  ∃ j, m ≤ j ∧ j ≤ k ∧ wr.heap[M]? = some (.cells #[.int .i32 (j : Nat)] 21 (0, 0)) ∧ W.grownBy wr (some M)
def mP (k M : Nat) (wr : World) : Nat := match wr.cell? ⟨M, 0, none⟩ with
  | some (Value.int _ x) => (k - x).toNat
  | _ => 0
theorem mP_of {k M j : Nat} {wr : World} (h : wr.heap[M]? = some (.cells #[.int .i32 (j : Nat)] 21 (0, 0))) : mP k M wr = k - j := by
  have hc : wr.cell? ⟨M, 0, none⟩ = some (.int .i32 (j : Nat)) := cell_of_row wr M 0 _ _ (0, 0) h
  unfold mP
  rw [hc]
  simp only
  omega
theorem PtL.put {W wr : World} {M : Nat} (h : W.grownBy wr (some M)) {j : Nat} (hc : wr.heap[M]? = some (.cells #[.int .i32 (j : Nat)] 21 (0, 0))) (j' : Nat) :
    (wr.setCell ⟨M, 0, none⟩ (.int .i32 (j' : Nat))).heap[M]? = some (.cells #[.int .i32 (j' : Nat)] 21 (0, 0)) ∧ W.grownBy (wr.setCell ⟨M, 0, none⟩ (.int .i32 (j' : Nat))) (some M) := by
  refine ⟨?_, grown_trans h (grown_store wr M 0 _)⟩
  rw [heap_setCell_same wr M 0 _ _ _ hc]
  rfl
theorem lies_grown {w2 W wr : World} (h : Below w2.heap.size w2 W) (hg : W.grownBy wr (some w2.heap.size)) : Lies w2 wr := fun k hk =>
  (hg.block k (Nat.lt_of_lt_of_le hk h.size) (fun e => by cases e; exact Nat.lt_irrefl _ hk)).trans (h.block k hk)

theorem below_bel {B : Nat} {w W W' : World} {row : Option Nat} (h : Below B w W) (hg : W.grownBy W' row) (hr : ∀ k, row = some k → B ≤ k) (hB : B ≤ w.heap.size := by exact Nat.le_refl _) : Below B w W' :=
  h.trans (below_grown hg hr (Nat.le_trans hB h.size))
def PtE (w20 : World) (i : Value) (wr : World) : Prop := ∃ r : Nat, r ≤ 1114112 ∧ i = .int .i32 (r : Nat) ∧ ∃ q, wr = w20.drewN q
theorem drewN_add (w : World) (a b : Nat) : (w.drewN a).drewN b = w.drewN (a + b) := by
  unfold World.drewN
  simp [Nat.add_assoc]

set_option maxRecDepth 100000 in
set_option maxHeartbeats 1600000 in
theorem triePoints_walk (rest : Int) (a : Option Addr) (n c : Nat) (l : List SpanD) (v : Int) (w : World) (hl : l.length = n) (hs : SpansAt w a l) (hwf : ∀ s ∈ l, -2147483648 ≤ s.f ∧ s.f ≤ 2147483647 ∧ -2147483648 ≤ s.t ∧ s.t ≤ 2147483647) :
    Calls Try.prog 4 #[.int .u8 rest, .slice a n c, .int .u8 v] w fun e w' => e = .returned (.bool true) ∧ Below w.heap.size w w' := by
  have HL := Lib.hid hl; clear hl
  have HS := Lib.hid hs; clear hs
  have HWf := Lib.hid hwf; clear hwf
  have HP := Lib.hid (pts4 w rest v a n c)
  obtain ⟨b0, hb0⟩ : ∃ b0, b0 = w.heap.size := ⟨_, rfl⟩
  refine calls_of_wpM Try.func4 rfl ?_
  simp only [Try.ntmps4, List.size_toArray, List.length_cons, List.length_nil, Nat.reduceAdd, Nat.reduceSub, Array.replicate_succ, Array.replicate_zero, List.push_toArray, List.append_toArray, List.nil_append, List.cons_append]
  go_upto_region 1 with (fail)
  change Code.wp _ _ _ _ (Pts4 w rest v a n c)
  rw [← hb0] at HP ⊢
  generalize Pts4 w rest v a n c = w1 at *
  have hbw : w.heap.size ≤ b0 := by omega
  clear hb0
  have HS1 := Lib.hid (HS.out.below HP.out.bel (fun b o e h0 => HS.out.lt b o e h0))
  have q0 : w1.cell? ⟨b0, 0, none⟩ = some (.int .u8 rest) := cell_of_row w1 b0 0 _ _ (0, 0) HP.out.h0
  have q1 : w1.cell? ⟨b0 + 1, 0, none⟩ = some (.slice a n c) := cell_of_row w1 (b0 + 1) 0 _ _ (0, 0) HP.out.h1
  by_cases h6 : 12 < n
  · have h6i : (12 : Int) < (n : Int) := by omega
    go_wp2_with fail
    refine (awake_walk _).mono ?_
    rintro e w2 ⟨rfl, hb⟩
    have r3 := (hb.block (b0 + 3) (by rw [HP.out.size]; omega)).trans HP.out.h3
    have q3 : w2.cell? ⟨b0 + 3, 0, none⟩ = some (.bool false) := cell_of_row w2 (b0 + 3) 0 _ _ (0, 0) r3
    have f3 := frozen_of_row w2 (b0 + 3) 0 _ _ r3
    have e3 := World.cell?_setCell_same' w2 ⟨b0 + 3, 0, none⟩ (.bool true) (by rw [q3]; rfl)
    have HB2 := Lib.hid (show Below w.heap.size w (w2.setCell ⟨b0 + 3, 0, none⟩ (.bool true)) from (HP.out.bel.trans (hb.mono HP.out.bel.size)).setCell (p := ⟨b0 + 3, 0, none⟩) (by show w.heap.size ≤ b0 + 3; omega) _)
    clear hb r3
    go_wp2
    refine leaves_nil (v := .bool true) (by simp [results, Try.results4, go_sem, e3]) ?_
    exact ⟨rfl, HB2.out⟩
  · have h6i : ¬ (12 : Int) < (n : Int) := by omega
    go_wp2_with fail
    refine (Build8_any2 rest a n c l w1 HL.out (by omega) HS1.out HWf.out).mono ?_
    rintro e w2 ⟨tv, at_, er, rfl, hb, hi⟩
    have r0 := Lib.hid ((hb.block b0 (by rw [HP.out.size]; omega)).trans HP.out.h0)
    have r1 := Lib.hid ((hb.block (b0 + 1) (by rw [HP.out.size]; omega)).trans HP.out.h1)
    have r2 := Lib.hid ((hb.block (b0 + 2) (by rw [HP.out.size]; omega)).trans HP.out.h2)
    have r3 := Lib.hid ((hb.block (b0 + 3) (by rw [HP.out.size]; omega)).trans HP.out.h3)
    have HS2 := Lib.hid (HS1.out.below hb (fun b o e h0 => HS1.out.lt b o e h0))
    have hsz : b0 + 4 ≤ w2.heap.size := by have := hb.size; have := HP.out.size; omega
    have HBw := Lib.hid (HP.out.bel.trans (hb.mono HP.out.bel.size))
    clear hb q0 q1 HP HS1 HS
    rcases hi with ⟨her, rfl, -⟩ | ⟨rfl, hok, g, S, rfl, hS, hT⟩
    · have her' : (er != 0) = true := by simpa using her
      go_wp2_with fail
      refine (awake_walk _).mono ?_
      rintro e w3 ⟨rfl, hb⟩
      have k3 := (hb.block (b0 + 3) (by omega)).trans r3.out
      have q3 : w3.cell? ⟨b0 + 3, 0, none⟩ = some (.bool false) := cell_of_row w3 (b0 + 3) 0 _ _ (0, 0) k3
      have f3 := frozen_of_row w3 (b0 + 3) 0 _ _ k3
      have e3 := World.cell?_setCell_same' w3 ⟨b0 + 3, 0, none⟩ (.bool true) (by rw [q3]; rfl)
      have HB3 := Lib.hid (show Below w.heap.size w (w3.setCell ⟨b0 + 3, 0, none⟩ (.bool true)) from (HBw.out.trans (hb.mono HBw.out.size)).setCell (p := ⟨b0 + 3, 0, none⟩) (by show w.heap.size ≤ b0 + 3; omega) _)
      clear hb k3
      go_wp2
      refine leaves_nil (v := .bool true) (by simp [results, Try.results4, go_sem, e3]) ?_
      exact ⟨rfl, HB3.out⟩
    · obtain ⟨T, hTe⟩ : ∃ T, T = trieS S := ⟨_, rfl⟩
      have HF := Lib.hid (show ∀ k, k ≤ 1114111 → lookT 0 T k = fS rest l k from fun k hk => by rw [hTe]; exact hS.look k hk)
      have HOk := Lib.hid (show TrieOk T from by rw [hTe]; exact hS.trie)
      have hpos : 0 < T.low.length := by rw [hTe]; exact hS.pos.1
      rw [← hTe] at hT
      have HT := Lib.hid hT
      clear hT hTe hS hok
      obtain ⟨N, hN⟩ : ∃ N, N = 1114112 := ⟨_, rfl⟩
      have HN := Lib.hid hN; clear hN
      have qF := fun (w : World) (cs : Array Value) => run_eql_func_nil (P := Try.prog) w 34 (.func 61) #[] cs _ _ _ Try.underlying34
      have HA3 := Lib.hid (heap_alloc_new w2 (.cells #[.int .i32 0] 21))
      have HB3 := Lib.hid ((Below.refl w2.heap.size w2).alloc (Nat.le_refl _) (.cells #[.int .i32 0] 21))
      have HZ3 := Lib.hid (World.size_alloc w2 (.cells #[.int .i32 0] 21))
      have p2 : (w2.alloc (.cells #[.int .i32 0] 21)).cell? ⟨b0 + 2, 0, none⟩ = some (.int .u8 v) := (HB3.out.cell (p := ⟨b0 + 2, 0, none⟩) (by show b0 + 2 < _; omega)).trans (cell_of_row w2 (b0 + 2) 0 _ _ (0, 0) r2.out)
      go_wp2_with fail
      generalize w2.alloc (.cells #[.int .i32 0] 21) = w3 at *
      refine (Where8_fun (some ⟨g, 0, none⟩) v w3).mono ?_
      rintro e w4 ⟨rfl, -, -, -, hb4⟩
      have p4 := (hb4.cell (p := ⟨b0 + 2, 0, none⟩) (World.block_lt_of_cell? w3 _ p2)).trans p2
      have HB4 := Lib.hid (HB3.out.trans (hb4.mono HB3.out.size))
      have HA4 := Lib.hid ((hb4.block _ (Array.getElem?_eq_some_iff.1 HA3.out).1).trans HA3.out)
      clear hb4 p2 HB3 HA3 HZ3
      go_wp2_with fail
      clear qF
      refine (Where8_fun (some ⟨g, 0, none⟩) v w4).mono ?_
      rintro e w5 ⟨rfl, c5, d5, hz5, hb5⟩
      have HB5 := Lib.hid (HB4.out.trans (hb5.mono HB4.out.size))
      have hM4 : w2.heap.size < w4.heap.size := (Array.getElem?_eq_some_iff.1 HA4.out).1
      have HA5 := Lib.hid ((hb5.block _ hM4).trans HA4.out)
      clear hb5 p4 HB4 HA4
      have HSeq := Lib.hid (where_stops w2 g T HOk.out hpos HT.out v w4.heap.size (fun k => k < w5.heap.size ∧ k ≠ w2.heap.size) w5 (lies_below HB5.out) HB5.out.size (fun k hk => ⟨Nat.lt_of_lt_of_le hk HB5.out.size, by omega⟩) ⟨by omega, by omega⟩ ⟨by omega, by omega⟩ c5 d5 N HN.out)
      clear c5 d5 hz5
      go_wp2
      refine wp_rangeX (gf := 61) (lb := #[.pointer (some ⟨w4.heap.size, 0, none⟩), .pointer (some ⟨w4.heap.size + 1, 0, none⟩)]) rfl (enters_of Try.func61 (by kernel_rfl) rfl) HSeq.out (Below.refl _ _) (fun k hk => hk.1) (fun _ => rfl)
        (PtI w2 (lookT 0 T) v N) (fun _ _ _ _ => False) (PtI.abide _ _ _ _) (fun _ _ _ _ _ _ h => h.elim) ⟨HB5.out, fun _ h => h.elim, 0, Nat.zero_le _, rfl, HA5.out⟩
        (ColR 41 11) (fun T x a' W W' h ho => h) ?assign ?body ?done ?stop
      case stop =>
        rintro D c T pre W - - - h
        exact h.elim
      case assign =>
        rintro l T pre x W K hi hK
        have HK := Lib.hid hK; clear hK
        simp only [encR]
        gi_wp2
        exact HK.out _ _ (Kept.refl _ _ _) hi rfl
      case body =>
        rintro lp Tt pre x a' W hTl hl - hst hA hlen hsp
        unfold ColR at hA
        subst hA
        obtain ⟨k, hkN, hfk, hpk⟩ := hsp
        obtain ⟨hbel, htn, m, hmN, hpm, hcell⟩ := hst
        have HPk := Lib.hid hpk
        rw [whL_hit hfk] at hpk
        obtain ⟨hpre, hx⟩ := List.append_inj' hpk rfl
        obtain rfl : x = (k : Int) := by simpa using hx
        have hmk : m ≤ k := Nat.le_of_not_lt fun h => by
          have := whL_strict hfk (Nat.le_refl k) m h
          rw [← hpm, ← hpre] at this
          exact Nat.lt_irrefl _ this
        have HMiss : Hid (∀ j, m ≤ j → j < k → ¬ lookT 0 T j = v) := Lib.hid (fun j h1 h2 h3 => by
          have := whL_strict h3 h1 k h2
          rw [← hpm, ← hpre] at this
          exact Nat.lt_irrefl _ this)
        have hk1 : k ≤ 1114111 := by have := HN.out; omega
        have hfk2 : fS rest l k = v := by rw [← HF.out k hk1]; exact hfk
        have HFk := Lib.hid hfk2
        have HBe := Lib.hid hbel
        have HTn := Lib.hid htn
        have HCe := Lib.hid hcell
        clear hpk hpre hx hfk hbel htn hcell hpm hfk2 hlen hl hTl
        obtain ⟨M, hM⟩ : ∃ M, M = w2.heap.size := ⟨_, rfl⟩
        rw [← hM] at HCe ⊢
        have HMe := Lib.hid hM; clear hM
        gi_wp2
        gi_loopw [42] (PtL W M m k) (fun _ wr => mP k M wr)
        case atStart => exact ⟨m, Nat.le_refl _, hmk, HCe.out, grown_refl _ _⟩
        case round =>
          obtain ⟨j, hj1, hj2, hjc, hjg⟩ := hrel
          have HJc := Lib.hid hjc; clear hjc
          have HJg := Lib.hid hjg; clear hjg
          have HLy : Hid (Lies w2 wr) := Lib.hid (lies_grown HBe.out (by rw [← HMe.out]; exact HJg.out))
          have k0 : wr.cell? ⟨b0, 0, none⟩ = some (.int .u8 rest) := cell_of_row wr b0 0 _ _ (0, 0) (HLy.out.block r0.out)
          have k1 : wr.cell? ⟨b0 + 1, 0, none⟩ = some (.slice a n c) := cell_of_row wr (b0 + 1) 0 _ _ (0, 0) (HLy.out.block r1.out)
          have k2 : wr.cell? ⟨b0 + 2, 0, none⟩ = some (.int .u8 v) := cell_of_row wr (b0 + 2) 0 _ _ (0, 0) (HLy.out.block r2.out)
          have k3 : wr.cell? ⟨M, 0, none⟩ = some (.int .i32 (j : Nat)) := cell_of_row wr M 0 _ _ (0, 0) HJc.out
          have k4 := frozen_of_row wr M 0 _ _ HJc.out
          by_cases hjk : j < k
          · have hji : (j : Int) < (k : Int) := by omega
            have HNv := Lib.hid (fun q => naive_walk rest a n c l (wr.drewN q) HL.out (by omega) (HS2.out.lies (fun b hb => HLy.out b hb)) j (by omega))
            have hne : ¬ fS rest l j = v := by rw [← HF.out j (by omega)]; exact HMiss.out j hj1 hjk
            generalize fS rest l j = y at *
            have hne' : (y == v) = false := beq_false_of_ne hne
            have HNe := Lib.hid hne; clear hne
            gi_wp2
            refine wpIn_region_quietR (by kernel_rfl) (by kernel_rfl) (by kernel_rfl) ?_
            iterate 6 (gi_big_quiet_step ((gi_at_call 17; exact CallsIn.quiet_of_same (CallsIn.inRound lp (callsIn_wide.2 (HNv.out _))))))
            refine wpQuietIn_nil ?_
            rintro _ ⟨nq, rfl⟩
            have HJc6 : Hid ((wr.drewN nq).heap[M]? = some (.cells #[.int .i32 (j : Nat)] 21 (0, 0))) := Lib.hid HJc.out
            have HJg6 : Hid (W.grownBy (wr.drewN nq) (some M)) := Lib.hid (grown_trans HJg.out ⟨rfl, rfl, rfl, Nat.le_refl _, fun _ _ _ => rfl⟩)
            generalize wr.drewN nq = w6 at *
            clear k0 k1 k2 k3 k4
            have k3 : w6.cell? ⟨M, 0, none⟩ = some (.int .i32 (j : Nat)) := cell_of_row w6 M 0 _ _ (0, 0) HJc6.out
            have k4 := frozen_of_row w6 M 0 _ _ HJc6.out
            have HPut := Lib.hid (PtL.put HJg6.out HJc6.out (j + 1))
            have hcast : ((j + 1 : Nat) : Int) = (j : Int) + 1 := by omega
            rw [hcast] at HPut
            gi_wp2
            go_roundw
            case rel => exact ⟨j + 1, by omega, by omega, by rw [hcast]; exact HPut.out.1, HPut.out.2⟩
            case measure =>
              rw [mP_of HJc.out, mP_of (j := j + 1) (by rw [hcast]; exact HPut.out.1)]
              omega
          · obtain rfl : j = k := by omega
            have hji : ¬ (j : Int) < (j : Int) := by omega
            have HNv := Lib.hid (fun q => naive_walk rest a n c l (wr.drewN q) HL.out (by omega) (HS2.out.lies (fun b hb => HLy.out b hb)) j (by omega))
            rw [HFk.out] at HNv
            gi_wp2
            refine wpIn_region_quietR (by kernel_rfl) (by kernel_rfl) (by kernel_rfl) ?_
            iterate 6 (gi_big_quiet_step ((gi_at_call 17; exact CallsIn.quiet_of_same (CallsIn.inRound lp (callsIn_wide.2 (HNv.out _))))))
            refine wpQuietIn_nil ?_
            rintro _ ⟨nq, rfl⟩
            have HJc6 : Hid ((wr.drewN nq).heap[M]? = some (.cells #[.int .i32 (j : Nat)] 21 (0, 0))) := Lib.hid HJc.out
            have HJg6 : Hid (W.grownBy (wr.drewN nq) (some M)) := Lib.hid (grown_trans HJg.out ⟨rfl, rfl, rfl, Nat.le_refl _, fun _ _ _ => rfl⟩)
            generalize wr.drewN nq = w6 at *
            clear k0 k1 k2 k3 k4
            have k3 : w6.cell? ⟨M, 0, none⟩ = some (.int .i32 (j : Nat)) := cell_of_row w6 M 0 _ _ (0, 0) HJc6.out
            have k4 := frozen_of_row w6 M 0 _ _ HJc6.out
            have HPut := Lib.hid (PtL.put HJg6.out HJc6.out (j + 1))
            have hcast : ((j + 1 : Nat) : Int) = (j : Int) + 1 := by omega
            rw [hcast] at HPut
            gi_wp2
            have hM2 : M = w2.heap.size := HMe.out
            refine ⟨Kept.of_grown HPut.out.2 (fun k e hk => ?_), below_bel HBe.out HPut.out.2 (fun k e => by cases e; omega), fun k hk => HTn.out k hk, j + 1, by omega, HPk.out, by rw [← hM2, hcast]; exact HPut.out.1⟩
            cases e
            rcases hk with hk | hk
            · have := HTn.out _ hk; omega
            · exact hk.2 rfl
      case done =>
        rintro D Tt xs w20 hD hTD rfl hst hDk
        obtain ⟨hbel, htn, m, hmN, hpm, hcell⟩ := hst
        have HMiss : Hid (∀ j, m ≤ j → j ≤ 1114111 → ¬ fS rest l j = v) := Lib.hid (fun j h1 h2 h3 => by
          have h4 : lookT 0 T j = v := by rw [HF.out j h2]; exact h3
          have := whL_strict h4 h1 N (by have := HN.out; omega)
          rw [hpm] at this
          exact Nat.lt_irrefl _ this)
        have hbD : b0 + 3 < D := by have := HB5.out.size; omega
        have HBe := Lib.hid hbel
        have HDk := Lib.hid hDk
        have HLy := Lib.hid (lies_below HBe.out)
        have HCe := Lib.hid hcell
        clear hbel htn hpm hcell hDk hTD hD
        obtain ⟨M, hM⟩ : ∃ M, M = w2.heap.size := ⟨_, rfl⟩
        rw [← hM] at HCe ⊢
        have HMe := Lib.hid hM; clear hM
        go_wp2
        go_loopw [12] (PtE w20) (fun i _ => 1114112 - (intOf i).toNat)
        case atStart => exact ⟨0, Nat.zero_le _, rfl, 0, rfl⟩
        case round =>
          obtain ⟨r, hr, rfl, q, rfl⟩ := hrel
          have HLq : Hid (Lies w2 (w20.drewN q)) := Lib.hid (fun b hb => HLy.out b hb)
          have k0 : (w20.drewN q).cell? ⟨b0, 0, none⟩ = some (.int .u8 rest) := cell_of_row w20 b0 0 _ _ (0, 0) (HLy.out.block r0.out)
          have k1 : (w20.drewN q).cell? ⟨b0 + 1, 0, none⟩ = some (.slice a n c) := cell_of_row w20 (b0 + 1) 0 _ _ (0, 0) (HLy.out.block r1.out)
          have k2 : (w20.drewN q).cell? ⟨b0 + 2, 0, none⟩ = some (.int .u8 v) := cell_of_row w20 (b0 + 2) 0 _ _ (0, 0) (HLy.out.block r2.out)
          have k3 : (w20.drewN q).cell? ⟨M, 0, none⟩ = some (.int .i32 (m : Nat)) := cell_of_row w20 M 0 _ _ (0, 0) HCe.out
          by_cases hrN : r < 1114112
          · have hri : (r : Int) ≤ 1114111 := by omega
            have HNv := Lib.hid (naive_walk rest a n c l (w20.drewN q) HL.out (by omega) (HS2.out.lies HLq.out) r (by omega))
            have HAt := Lib.hid (At8_walk (w20.drewN q) g T HOk.out hpos (HLq.out.trie HT.out) (r : Nat) (by omega) (by omega))
            have hru : runeR ((r : Nat) : Int) = r := by unfold runeR; rw [if_neg (by omega)]; omega
            rw [hru, HF.out r (by omega)] at HAt
            have HMr := Lib.hid (fun h => HMiss.out r h (by omega))
            clear hru
            generalize fS rest l r = y at *
            have hyy : (y != y) = false := by simp
            go_wp2_with fail
            refine HNv.out.mono ?_
            rintro e w21 ⟨rfl, rfl⟩
            go_wp2_with fail
            refine HAt.out.mono ?_
            rintro e w22 ⟨rfl, q2, rfl⟩
            unfold val8
            have k2' : ((w20.drewN q).drewN q2).cell? ⟨b0 + 2, 0, none⟩ = some (.int .u8 v) := k2
            have k3' : ((w20.drewN q).drewN q2).cell? ⟨M, 0, none⟩ = some (.int .i32 (m : Nat)) := k3
            clear HAt HNv
            rw [drewN_add] at k2' k3' ⊢
            obtain ⟨w22, hw22⟩ : ∃ w22, w22 = w20.drewN (q + q2) := ⟨_, rfl⟩
            rw [← hw22] at k2' k3' ⊢
            have HW22 := Lib.hid hw22; clear hw22 k0 k1 k2 k3
            by_cases hmr : m ≤ r
            · have hmi : (m : Int) ≤ (r : Int) := by omega
              have dm : decide ((m : Int) ≤ (r : Int)) = true := decide_eq_true hmi
              have hv : (y == v) = false := beq_false_of_ne (HMr.out hmr)
              go_wp2
              go_roundw
              case rel => exact ⟨r + 1, by omega, by go_num, q + q2, HW22.out⟩
              case measure => simp [intOf]; omega
            · have hmi : ¬ (m : Int) ≤ (r : Int) := by omega
              have dm : decide ((m : Int) ≤ (r : Int)) = false := decide_eq_false hmi
              go_wp2
              go_roundw
              case rel => exact ⟨r + 1, by omega, by go_num, q + q2, HW22.out⟩
              case measure => simp [intOf]; omega
          · obtain rfl : r = 1114112 := by omega
            have HBq : Hid (Below w2.heap.size w2 (w20.drewN q)) := Lib.hid (below_drewN HBe.out q)
            have HDq : Hid ((w20.drewN q).heap[D]? = some (.deferred (some []))) := Lib.hid HDk.out
            generalize w20.drewN q = w23 at *
            clear k0 k1 k2 k3
            go_wp2_with fail
            refine (awake_walk _).mono ?_
            rintro e w24 ⟨rfl, hb⟩
            have k3 := (hb.block (b0 + 3) (by have := HBq.out.size; omega)).trans ((HBq.out.block (b0 + 3) (by omega)).trans r3.out)
            have q3 : w24.cell? ⟨b0 + 3, 0, none⟩ = some (.bool false) := cell_of_row w24 (b0 + 3) 0 _ _ (0, 0) k3
            have f3 := frozen_of_row w24 (b0 + 3) 0 _ _ k3
            have hD24 := (hb.block D (Array.getElem?_eq_some_iff.1 HDq.out).1).trans HDq.out
            have HD25 : Hid ((w24.setCell ⟨b0 + 3, 0, none⟩ (.bool true)).heap[D]? = some (.deferred (some []))) := Lib.hid (by rw [heap_setCell_other _ ⟨b0 + 3, 0, none⟩ D _ (by simp; omega)]; exact hD24)
            have HE3 := Lib.hid (World.cell?_setCell_same' w24 ⟨b0 + 3, 0, none⟩ (.bool true) (by rw [q3]; rfl))
            have HB25 := Lib.hid (show Below w.heap.size w (w24.setCell ⟨b0 + 3, 0, none⟩ (.bool true)) from ((HBw.out.trans (HBq.out.mono HBw.out.size)).trans (hb.mono (by have := HBw.out.size; have := HBq.out.size; omega))).setCell (p := ⟨b0 + 3, 0, none⟩) (by show w.heap.size ≤ b0 + 3; omega) _)
            clear hb k3 hD24
            go_wp2
            refine leaves_mark HD25.out (leaves_nil (v := .bool true) ?_ ?_)
            · have q := cell_mark HE3.out D (.deferred none) (by omega)
              simp [results, Try.results4, go_sem, q]
            · exact ⟨rfl, below_mark2 HB25.out D _ (by omega)⟩
end Go.Proofs.Ytabbabkmojaoaaa
