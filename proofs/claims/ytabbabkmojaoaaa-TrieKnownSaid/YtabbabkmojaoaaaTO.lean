/-
  The walk of TrieKnown.
-/
import Derived.Great.BuildSlice
import Derived.Test.YtabbabkmojaoaaaTC
import Derived.Test.YtabbabkmojaoaaaTGI
import Derived.Test.YtabbabkmojaoaaaTWI
import Derived.Test.YtabbabkmojaoaaaTT
set_option linter.unusedVariables false
set_option linter.unusedSimpArgs false
namespace Go.Proofs.Ytabbabkmojaoaaa
open Go.RowKit

set_option maxRecDepth 100000 in
theorem From8_empty (w : World) : Calls Try.prog 47 #[.agg #[.slice none 0 0, .slice none 0 0, .slice none 0 0]] w fun e w' => e = .returned (.tuple #[.pointer none, .int .i64 112]) ∧ Below w.heap.size w w' := by
  have hA := heap_alloc_new w (.cells #[.slice none 0 0, .slice none 0 0, .slice none 0 0] 79)
  have q0 : (w.alloc (.cells #[.slice none 0 0, .slice none 0 0, .slice none 0 0] 79)).cell? ⟨w.heap.size, 0, none⟩ = some (.slice none 0 0) := cell_of_row _ w.heap.size 0 _ _ (0, 0) hA
  have HB := Lib.hid ((Below.refl w.heap.size w).alloc (Nat.le_refl _) (.cells #[.slice none 0 0, .slice none 0 0, .slice none 0 0] 79))
  clear hA
  go_enter Try.func47, Try.ntmps47
  go_wp2
  go_ret2
  exact ⟨rfl, HB.out⟩
theorem known1_walk (v : Int) (hv : v = 0 ∨ v = 1) (w : World) : Calls Try.prog 49 #[.int .u8 v] w fun e w' => e = .returned (.int .i64 (v + 1)) ∧ Below w.heap.size w w' := by
  go_enter Try.func49, Try.ntmps49
  rcases hv with rfl | rfl
  · go_wp2
    go_ret
    exact ⟨rfl, Below.refl _ _⟩
  · go_wp2
    go_ret
    exact ⟨rfl, Below.refl _ _⟩
def knL2 : List SpanD := [⟨5, 4, 1⟩]
def knL3 : List SpanD := [⟨0, 9, 1⟩, ⟨32, 41, 1⟩, ⟨9, 15, 2⟩]
theorem knL2_bad : badS (knL2.getD 0 default) := by simp [knL2, badS]
theorem knL3_good : ∀ j, j < knL3.length → ¬ badS (knL3.getD j default) := by
  intro j hj
  match j, hj with
  | 0, _ => simp [knL3, badS]
  | 1, _ => simp [knL3, badS]
  | 2, _ => simp [knL3, badS]
  | j + 3, h => exact absurd h (by simp [knL3])
theorem knL3_meet : meetS knL3 2 := ⟨9, rfl, by decide⟩
theorem knL3_no : ∀ j, j < 2 → ¬ meetS knL3 j := by
  intro j hj
  match j, hj with
  | 0, _ => rintro ⟨x, -, h⟩; exact h rfl
  | 1, _ =>
    rintro ⟨x, h1, h2⟩
    have h1 := of_decide_eq_true h1
    simp only [knL3, List.getD, List.getElem?_cons_succ, List.getElem?_cons_zero, Option.getD_some] at h1
    refine h2 ?_
    have hn : ¬ hasS x ⟨0, 9, 1⟩ = true := fun e => by have := of_decide_eq_true e; simp only at this; omega
    simp [ownF, knL3, List.findIdx?_cons, hn]
/-- what lies in memory reads as these spans -/
theorem spans_lit (w : World) (b : Nat) (t : TypeId) (cs : Array Value) (l : List SpanD) (hb : w.heap[b]? = some (.cells cs t (0, 0))) (h : ∀ i (hi : i < l.length), cs[i * 3]? = some (.int .i32 l[i].f) ∧ cs[i * 3 + 1]? = some (.int .i32 l[i].t) ∧ cs[i * 3 + 2]? = some (.int .u8 l[i].v)) :
    SpansAt w (some ⟨b, 0, none⟩) l := fun i hi => by
  obtain ⟨h1, h2, h3⟩ := h i hi
  exact ⟨b, 0, rfl, by rw [Nat.zero_add, cell_of_row w b _ _ _ (0, 0) hb]; exact h1, by rw [Nat.zero_add, cell_of_row w b _ _ _ (0, 0) hb]; exact h2, by rw [Nat.zero_add, cell_of_row w b _ _ _ (0, 0) hb]; exact h3⟩

theorem own_get {B : Nat} {E : TypeId} {w : World} {g n cap : Nat} {xs : List Value} (h : Own B E w (some ⟨g, 0, none⟩) n cap xs) (i : Nat) (v : Value) (hi : xs[i]? = some v) : w.cell? ⟨g, i, none⟩ = some v := by
  obtain ⟨h1, h2⟩ := List.getElem?_eq_some_iff.1 hi
  rw [h.cell i h1, h2]
theorem flatV2 {α : Type} (val : α → Value) (a b : List α) (i : Nat) (h : i < a.length) : (flatV val [a, b])[i]? = (a.map val)[i]? := by
  simp only [flatV, List.flatMap_cons, List.flatMap_nil, List.append_nil]
  rw [List.getElem?_append_left (by simpa using h)]
theorem flatV2r {α : Type} (val : α → Value) (a b : List α) (i j : Nat) (h : i = a.length + j) : (flatV val [a, b])[i]? = (b.map val)[j]? := by
  simp only [flatV, List.flatMap_cons, List.flatMap_nil, List.append_nil]
  rw [List.getElem?_append_right (by rw [List.length_map]; omega), List.length_map, h]
  congr 1
  omega
structure KnC (w : World) (gt gm gl : Nat) : Prop where
  t0 : w.cell? ⟨gt, 0, none⟩ = some (.int .u16 0)
  t1 : w.cell? ⟨gt, 1, none⟩ = some (.int .u16 1)
  m0 : w.cell? ⟨gm, 0, none⟩ = some (.int .u16 0)
  m1 : w.cell? ⟨gm, 1, none⟩ = some (.int .u16 1)
  m2 : w.cell? ⟨gm, 2, none⟩ = some (.int .u16 0)
  m3 : w.cell? ⟨gm, 64, none⟩ = some (.int .u16 0)
  l0 : w.cell? ⟨gl, 0, none⟩ = some (.int .u8 0)
  l1 : w.cell? ⟨gl, 64, none⟩ = some (.int .u8 0)
  l2 : w.cell? ⟨gl, 65, none⟩ = some (.int .u8 1)
theorem KnC.below {w w' : World} {gt gm gl : Nat} (h : KnC w gt gm gl) (hb : Below w.heap.size w w') : KnC w' gt gm gl := by
  have k : ∀ {b o : Nat} {v : Value}, w.cell? ⟨b, o, none⟩ = some v → w'.cell? ⟨b, o, none⟩ = some v := fun {b o v} hc => (hb.cell (p := ⟨b, o, none⟩) (World.block_lt_of_cell? w _ hc)).trans hc
  exact ⟨k h.t0, k h.t1, k h.m0, k h.m1, k h.m2, k h.m3, k h.l0, k h.l1, k h.l2⟩
set_option maxRecDepth 100000 in
set_option maxHeartbeats 1600000 in
theorem trieKnown_walk (w : World) : Calls Try.prog 9 #[] w fun e w' => e = .returned (.bool true) ∧ Below w.heap.size w w' := by
  have HA := Lib.hid (spans_lit _ w.heap.size _ _ knL (heap_alloc_new w (.cells #[.int .i32 65, .int .i32 90, .int .u8 1] 24)) (fun i hi => by
    obtain rfl : i = 0 := by simp [knL] at hi; exact hi
    exact ⟨rfl, rfl, rfl⟩))
  have HB := Lib.hid ((Below.refl w.heap.size w).alloc (Nat.le_refl _) (.cells #[.int .i32 65, .int .i32 90, .int .u8 1] 24))
  go_enter Try.func9, Try.ntmps9
  go_wp2_with fail
  generalize (w.alloc (.cells #[.int .i32 65, .int .i32 90, .int .u8 1] 24)) = w1 at *
  refine (Build8_walk 0 (some ⟨w.heap.size, 0, none⟩) 1 1 knL w1 rfl (by omega) HA.out (fun s hs => by simp [knL] at hs; subst hs; simp)).mono ?_
  intro e w2 hq
  obtain ⟨hb, hq⟩ := bldQ_of hq
  rcases hq with ⟨i, hi, h1, -⟩ | ⟨-, k, hk, h1, -⟩ | ⟨-, -, g, S, rfl, hg, hS, hT⟩
  · exact absurd h1 (knL_fine.1 i hi)
  · exact absurd h1 (knL_fine.2 k hk)
  have HB2 := Lib.hid (below_sq HB.out hb)
  have HT := Lib.hid hT
  have HS := Lib.hid hS
  have HKn := Lib.hid (known hS)
  clear hb hg hS hT HA HB
  have HA := Lib.hid (spans_lit _ w2.heap.size _ _ knL2 (heap_alloc_new w2 (.cells #[.int .i32 5, .int .i32 4, .int .u8 1] 24)) (fun i hi => by
    obtain rfl : i = 0 := by simp [knL2] at hi; exact hi
    exact ⟨rfl, rfl, rfl⟩))
  have HB := Lib.hid ((Below.refl w2.heap.size w2).alloc (Nat.le_refl _) (.cells #[.int .i32 5, .int .i32 4, .int .u8 1] 24))
  go_wp2_with fail
  generalize (w2.alloc (.cells #[.int .i32 5, .int .i32 4, .int .u8 1] 24)) = w3 at *
  refine (Build8_walk 0 (some ⟨w2.heap.size, 0, none⟩) 1 1 knL2 w3 rfl (by omega) HA.out (fun s hs => by simp [knL2] at hs; subst hs; simp)).mono ?_
  intro e w4 hq
  obtain ⟨hb, hq⟩ := bldQ_of hq
  rcases hq with ⟨i, hi, -, -, rfl⟩ | ⟨h1, -⟩ | ⟨h1, -⟩
  rotate_left
  · exact absurd knL2_bad (h1 0 (by simp [knL2]))
  · exact absurd knL2_bad (h1 0 (by simp [knL2]))
  obtain rfl : i = 0 := by simp [knL2] at hi; exact hi
  have HB4 := Lib.hid (below_sq HB.out hb)
  clear hb hi HA HB
  have HA := Lib.hid (spans_lit _ w4.heap.size _ _ knL3 (heap_alloc_new w4 (.cells #[.int .i32 0, .int .i32 9, .int .u8 1, .int .i32 32, .int .i32 41, .int .u8 1, .int .i32 9, .int .i32 15, .int .u8 2] 24)) (fun i hi => by
    match i, hi with
    | 0, _ => exact ⟨rfl, rfl, rfl⟩
    | 1, _ => exact ⟨rfl, rfl, rfl⟩
    | 2, _ => exact ⟨rfl, rfl, rfl⟩
    | j + 3, h => exact absurd h (by simp [knL3])))
  have HB := Lib.hid ((Below.refl w4.heap.size w4).alloc (Nat.le_refl _) (.cells #[.int .i32 0, .int .i32 9, .int .u8 1, .int .i32 32, .int .i32 41, .int .u8 1, .int .i32 9, .int .i32 15, .int .u8 2] 24))
  go_wp2_with fail
  generalize (w4.alloc (.cells #[.int .i32 0, .int .i32 9, .int .u8 1, .int .i32 32, .int .i32 41, .int .u8 1, .int .i32 9, .int .i32 15, .int .u8 2] 24)) = w5 at *
  refine (Build8_walk 0 (some ⟨w4.heap.size, 0, none⟩) 3 3 knL3 w5 rfl (by omega) HA.out (fun s hs => by simp [knL3] at hs; rcases hs with rfl | rfl | rfl <;> simp)).mono ?_
  intro e w6 hq
  obtain ⟨hb, hq⟩ := bldQ_of hq
  rcases hq with ⟨i, hi, h1, -⟩ | ⟨-, k, hk, h1, h2, rfl⟩ | ⟨-, h1, -⟩
  · exact absurd h1 (knL3_good i hi)
  rotate_left
  · exact absurd knL3_meet (h1 2 (by simp [knL3]))
  obtain rfl : k = 2 := by
    have hk3 : k < 3 := hk
    rcases Nat.lt_trichotomy k 2 with h | h | h
    · exact absurd h1 (knL3_no k h)
    · exact h
    · omega
  have HB6 := Lib.hid (HB2.out.trans ((HB4.out.trans ((below_sq HB.out hb).mono HB4.out.size)).mono HB2.out.size))
  have HT6 := Lib.hid (HT.out.below (HB4.out.trans ((below_sq HB.out hb).mono HB4.out.size)) (Nat.le_refl _))
  clear hb h1 h2 hk HA HB HB2 HB4 HT
  go_wp2_with fail
  refine (From8_empty w6).mono ?_
  rintro e w7 ⟨rfl, hb⟩
  have HB7 := Lib.hid (HB6.out.trans (hb.mono HB6.out.size))
  have HT7 := Lib.hid (HT6.out.below hb (Nat.le_refl _))
  clear hb HB6 HT6
  go_wp2_with fail
  refine (Parts8_walk w7 g (trieS S) HS.out.trie HS.out.pos.1 HT7.out).mono ?_
  rintro e w8 ⟨at8, ct8, am8, cm8, al8, cl8, rfl, ho1, ho2, ho3, hb⟩
  rw [show (trieS S).mid.length = 2 from HKn.out.m2] at ho2 ⊢
  rw [show (trieS S).low.length = 2 from HKn.out.l2] at ho3 ⊢
  simp only [Nat.reduceMul] at ho2 ho3 ⊢
  obtain ⟨gt, rfl, -⟩ := ho1.at (by omega)
  obtain ⟨gm, rfl, -⟩ := ho2.at (by omega)
  obtain ⟨gl, rfl, -⟩ := ho3.at (by omega)
  have HC : Hid (KnC w8 gt gm gl) := Lib.hid (by
    obtain ⟨m0, m1, hm, k0, k1, k2, k3⟩ := HKn.out.m
    have hm0 : m0.length = 64 := HS.out.made.ok.mid _ (by rw [hm]; simp)
    rw [show (trieS S).mid = [m0, m1] from hm] at ho2
    rw [show (trieS S).low = _ from HKn.out.l] at ho3
    have b0 : (blkF (fS 0 knL) 0)[0]? = some 0 := by simp [blkF, knF]
    have b1 : (blkF (fS 0 knL) 1)[0]? = some 0 := by simp [blkF, knF]
    have b2 : (blkF (fS 0 knL) 1)[1]? = some 1 := by simp [blkF, knF]
    have hb0 := blkF_length (fS 0 knL) 0
    refine ⟨own_get ho1 0 _ ?_, own_get ho1 1 _ ?_, own_get ho2 0 _ ?_, own_get ho2 1 _ ?_, own_get ho2 2 _ ?_, own_get ho2 64 _ ?_, own_get ho3 0 _ ?_, own_get ho3 64 _ ?_, own_get ho3 65 _ ?_⟩
    · rw [List.getElem?_map, show (trieS S).top[0]? = _ from HKn.out.t0]; rfl
    · rw [List.getElem?_map, show (trieS S).top[1]? = _ from HKn.out.t1]; rfl
    · rw [flatV2 _ _ _ _ (by omega), List.getElem?_map, k0]; rfl
    · rw [flatV2 _ _ _ _ (by omega), List.getElem?_map, k1]; rfl
    · rw [flatV2 _ _ _ _ (by omega), List.getElem?_map, k2]; rfl
    · rw [flatV2r num16 _ _ 64 0 (by omega), List.getElem?_map, k3]; rfl
    · rw [flatV2 _ _ _ _ (by omega), List.getElem?_map, b0]; rfl
    · rw [flatV2r val8 _ _ 64 0 (by omega), List.getElem?_map, b1]; rfl
    · rw [flatV2r val8 _ _ 65 1 (by omega), List.getElem?_map, b2]; rfl)
  have HB8 := Lib.hid (HB7.out.trans (hb.mono HB7.out.size))
  have HT8 := Lib.hid (HT7.out.below hb (Nat.le_refl _))
  have HMem : Hid (∀ v, (∃ l ∈ (trieS S).low, v ∈ l) → v = 0 ∨ v = 1) := Lib.hid (fun v ⟨l, hl, hv⟩ => by
    rw [show (trieS S).low = _ from HKn.out.l] at hl
    have : ∃ j, l = blkF (fS 0 knL) j := by
      rcases List.mem_cons.1 hl with rfl | hl
      · exact ⟨_, rfl⟩
      · exact ⟨_, List.mem_singleton.1 hl⟩
    obtain ⟨j, rfl⟩ := this
    obtain ⟨i, hi, rfl⟩ := List.mem_map.1 hv
    rw [knF]
    split
    · exact .inr rfl
    · exact .inl rfl)
  clear hb ho1 ho2 ho3 HB7 HT7
  obtain ⟨bp, hbp⟩ : ∃ bp, bp = w8.heap.size := ⟨_, rfl⟩
  have hA9 := heap_alloc_new w8 (.cells #[.slice (some ⟨gt, 0, none⟩) 272 ct8, .slice (some ⟨gm, 0, none⟩) 128 cm8, .slice (some ⟨gl, 0, none⟩) 128 cl8] 79)
  have hB9 := (Below.refl _ w8).alloc (Nat.le_refl _) (.cells #[.slice (some ⟨gt, 0, none⟩) 272 ct8, .slice (some ⟨gm, 0, none⟩) 128 cm8, .slice (some ⟨gl, 0, none⟩) 128 cl8] 79)
  have HA9 := Lib.hid hA9; have HB9 := Lib.hid hB9
  clear hA9 hB9
  go_wp2_with fail
  generalize (w8.alloc (.cells #[.slice (some ⟨gt, 0, none⟩) 272 ct8, .slice (some ⟨gm, 0, none⟩) 128 cm8, .slice (some ⟨gl, 0, none⟩) 128 cl8] 79)) = w9 at *
  rw [← hbp] at HA9 ⊢
  clear hbp
  have HT9 := Lib.hid (HT8.out.below HB9.out (Nat.le_refl _))
  refine (VI.Map_walk w9 g (trieS S) HS.out.trie HS.out.pos.1 HT9.out 49 #[] (fun v => v + 1) (enters_of Try.func49 (by kernel_rfl) rfl) (fun v W hm _ => known1_walk v (HMem.out v hm) W)).mono ?_
  rintro e w10 ⟨g10, S10, rfl, -, hb10, hS10, hT10⟩
  have HC10 := Lib.hid ((HC.out.below HB9.out).below hb10)
  have HA10 := (hb10.block bp (Array.getElem?_eq_some_iff.1 HA9.out).1).trans HA9.out
  have HB10 := Lib.hid (HB8.out.trans ((HB9.out.trans (hb10.mono HB9.out.size)).mono HB8.out.size))
  have HS10 := Lib.hid hS10
  have HT10 := Lib.hid hT10
  have HLk : Hid (∀ r : Nat, r ≤ 1114111 → lookT (0 : VI.El) (VI.trieS S10) r = (if 65 ≤ r ∧ r ≤ 90 then 1 else 0) + 1) := Lib.hid (fun r hr => by
    refine (HS10.out.look r hr).trans ?_
    show lookT 0 (trieS S) r + 1 = _
    rw [HS.out.look r hr, knF])
  have p0 := cell_of_row w10 bp 0 _ _ (0, 0) HA10
  have p1 := cell_of_row w10 bp 1 _ _ (0, 0) HA10
  have p2 := cell_of_row w10 bp 2 _ _ (0, 0) HA10
  simp at p0 p1 p2
  obtain ⟨c0, c1, c2, c3, c4, c5, c6, c7, c8⟩ := HC10.out
  clear HC HA9 HB9 HT8 HT9 hb10 hS10 hT10 HA10 HB8
  go_wp2_with fail
  refine (VI.At8_walk w10 g10 (VI.trieS S10) HS10.out.trie HS10.out.pos.1 HT10.out 65 (by omega) (by omega)).mono ?_
  rintro e w11 ⟨rfl, q, rfl⟩
  rw [show runeR 65 = 65 from rfl, HLk.out 65 (by omega), if_pos (by omega)]
  have HB11 := Lib.hid (below_drewN HB10.out q)
  have HT11 : Hid (TrieAt VI.val8 186 64 (w10.drewN q) g10 (VI.trieS S10)) := Lib.hid (HT10.out.below (below_drewN (Below.refl w10.heap.size w10) q) (Nat.le_refl _))
  clear HB10 HT10 c0 c1 c2 c3 c4 c5 c6 c7 c8 p0 p1 p2 HC10
  generalize w10.drewN q = w11 at *
  unfold VI.val8
  go_wp2_with fail
  refine (VI.At8_walk w11 g10 (VI.trieS S10) HS10.out.trie HS10.out.pos.1 HT11.out 64 (by omega) (by omega)).mono ?_
  rintro e w12 ⟨rfl, q, rfl⟩
  rw [show runeR 64 = 64 from rfl, HLk.out 64 (by omega), if_neg (by omega)]
  have HB12 := Lib.hid (below_drewN HB11.out q)
  clear HB11 HT11
  generalize w11.drewN q = w12 at *
  unfold VI.val8
  go_wp2_with fail
  refine (awake_walk _).mono ?_
  rintro e w13 ⟨rfl, hb⟩
  have HB13 := Lib.hid (HB12.out.trans (hb.mono HB12.out.size)); clear hb
  go_wp2
  go_ret
  exact ⟨rfl, HB13.out⟩
end Go.Proofs.Ytabbabkmojaoaaa
