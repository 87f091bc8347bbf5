/- several texts in one: UNJ CUJ THJ FCJ -/
import Derived.Test.YtbmphakfgoompaaG6
import Derived.Test.YtbmphakfgoompaaTC
import Derived.Test.YtbmphakfgoompaaSP0
import Derived.Test.YtbmphakfgoompaaTN
import Derived.Test.YtbmphakfgoompaaTWJ
import Derived.Test.YtbmphakfgoompaaRC
import Derived.Laws.Cover3
import Derived.Test.YtbmphakfgoompaaTQJ
import Derived.Test.YtbmphakfgoompaaTZ
set_option linter.unusedVariables false
set_option linter.unusedSimpArgs false
/-
  The walk of 'unlike' (int32).
-/
namespace Go.Proofs.Ytbmphakfgoompaa.VJ
open Go.RowKit
theorem exec_lookup {P : Program} {o : Oper} {a : Act} {w : World} (ty : TypeId) (x y : Operand) (ok : Bool) (ho : o.op = .lookup ty x y ok) (xv yv v : Value) (hx : a.eval x = xv) (hy : a.eval y = yv) (hr : (Instr.lookup ty xv yv ok).run P w = .ok v w) : (execOp a.eval o).run P w = .ok (.value v) w := by
  unfold execOp
  simp only [ho, hx, hy, Sem.run_bind, Sem.run_pure, Result.andThen_ok, hr]
/-- no block is like one before it, among the first n -/
def UnL (eqB : El → El → Bool) (L : List (List El)) (n : Nat) : Prop := ∀ k (h : k < L.length), k < n → findB eqB L[k] (L.take k) = none
def UnR (w : World) (L : List (List El)) (i : Value) (wr : World) : Prop := ∃ k : Nat, k ≤ L.length ∧ i = .int .i64 (k : Nat) ∧ UnL (fun a b => decide (a = b)) L k ∧ IdxMapG val8 (fun _ => .int .i64 1) wr w.heap.size (L.take k) ∧ Below w.heap.size w wr
set_option maxRecDepth 100000 in
set_option maxHeartbeats 1600000 in
theorem unlike_walk (w : World) (a : Option Addr) (n c : Nat) (L : List (List El)) (hn : L.length = n) (hn2 : n ≤ 1048576) (hl : ∀ l ∈ L, l.length = 64) (h : BlocksAt val8 64 w a L) :
    Calls Try.prog 92 #[.slice a n c] w fun e w' => (e = .returned (.bool true) ∧ Below w.heap.size w w' ∧ UnL (fun a b => decide (a = b)) L n) ∨ (e = .returned (.bool false) ∧ Below w.heap.size w w' ∧ ¬ UnL (fun a b => decide (a = b)) L n) := by
  have HN := Lib.hid hn; clear hn
  have HLl := Lib.hid hl; clear hl
  have HA := Lib.hid h; clear h
  go_enter Try.func92, Try.ntmps92
  go_upto_region 1 with (fail)
  refine wp_region_list ?_
  refine wpList_val (v := .map (some w.heap.size)) (w' := w.alloc (.map #[] 0)) rfl (by kernel_rfl) ?_
  have hA0 := heap_alloc_new w (.map #[] 0)
  have hB0 : Below w.heap.size w (w.alloc (.map #[] 0)) := (Below.refl _ _).alloc (Nat.le_refl _) _
  have hz0 := World.size_alloc w (.map #[] 0)
  obtain ⟨b0, hb0⟩ : ∃ b0, b0 = w.heap.size := ⟨_, rfl⟩
  rw [← hb0]
  have HB0 := Lib.hid hB0
  have HA0 : Hid (IdxMapG val8 (fun _ => .int .i64 1) (w.alloc (.map #[] 0)) w.heap.size (L.take 0)) := Lib.hid hA0
  have HBz := Lib.hid hb0
  clear hA0 hB0 hz0 hb0
  generalize w.alloc (.map #[] 0) = w1 at *
  go_wp2
  go_loopw [9] (UnR w L) (fun i _ => n - (intOf i).toNat)
  case atStart => exact ⟨0, Nat.zero_le _, rfl, fun k h hk => by omega, HA0.out, HB0.out⟩
  case round =>
    obtain ⟨k, hk, rfl, hun, hmap, hbel⟩ := hrel
    have HUn := Lib.hid hun; clear hun
    have HMp := Lib.hid hmap; clear hmap
    have HBe := Lib.hid hbel; clear hbel
    by_cases hkn : k < n
    · have hki : (k : Int) < (n : Int) := by omega
      have hkl : k < L.length := by rw [HN.out]; exact hkn
      obtain ⟨ba, oa, ha⟩ := HA.out.some (by omega)
      subst ha
      have HR : Hid (wr.rangeAt ba (oa + k * 64) (blkC val8 L[k])) := Lib.hid (rangeAt_below (HA.out.get k hkl) HBe.out (Nat.le_refl _))
      have hl64 : (L[k]).length = 64 := HLl.out _ (List.getElem_mem hkl)
      have HTk : Hid (L.take (k + 1) = L.take k ++ [L[k]]) := Lib.hid (List.take_succ_eq_append_getElem hkl)
      have HUs : Hid (findB (fun a b => decide (a = b)) L[k] (L.take k) = none → UnL (fun a b => decide (a = b)) L (k + 1)) := Lib.hid (fun h j hj hj2 => by
        by_cases e : j = k
        · subst e; exact h
        · exact HUn.out j hj (by omega))
      have HUf : Hid (¬ findB (fun a b => decide (a = b)) L[k] (L.take k) = none → ¬ UnL (fun a b => decide (a = b)) L n) := Lib.hid (fun h h2 => h (h2 k hkl hkn))
      generalize L[k] = l at *
      have hbs : (blkC val8 l).length = 64 := by rw [blkC_length (sz := 1) (fun _ => rfl), hl64]
      have hlt : (L.take k).length = k := by rw [List.length_take]; omega
      have HLt : Hid (∀ m ∈ L.take k, m.length = 64) := Lib.hid (fun m hm => HLl.out m (List.mem_of_mem_take hm))
      go_upto_region 4 with (fail)
      refine wp_region_list ?_
      refine wpList_val (v := .pointer (some ⟨ba, oa + k * 64, none⟩)) (w' := wr) rfl (by go_simp) ?_
      refine wpList_load_mid rfl 143 (.tmp 11) rfl ba (oa + k * 64) rfl (blkC val8 l) (.array 64 21) HR.out Try.underlying143 rfl (by rw [hbs]; kernel_rfl) ?_
      refine wpList_val (v := .pointer (some ⟨wr.heap.size, 0, none⟩)) (w' := wr.alloc (.cells (blkC val8 (List.replicate 64 (0 : El))).toArray 143)) rfl (by kernel_rfl) ?_
      obtain ⟨b7, hb7⟩ : ∃ b7, b7 = wr.heap.size := ⟨_, rfl⟩
      have hA1 := heap_alloc_new wr (.cells (blkC val8 (List.replicate 64 (0 : El))).toArray 143)
      have hB1 : Below wr.heap.size wr (wr.alloc (.cells (blkC val8 (List.replicate 64 (0 : El))).toArray 143)) := (Below.refl _ _).alloc (Nat.le_refl _) _
      rw [← hb7] at hA1 hB1 ⊢
      generalize wr.alloc (.cells (blkC val8 (List.replicate 64 (0 : El))).toArray 143) = v1 at *
      refine wpList_store_row rfl 143 (.tmp 5) (.tmp 12) rfl b7 (blkC val8 l).toArray rfl rfl 143 _ hA1 (by rw [List.size_toArray, hbs]; kernel_rfl) (by rw [List.size_toArray, List.size_toArray, hbs, blkC_length (sz := 1) (fun _ => rfl)]; rfl) (all_oneCell_toArray (fun u hu => blkC8_one l u (by simpa using hu))) ?_
      have hA2 := setRow_heap v1 b7 _ (blkC val8 l).toArray _ _ hA1
      have hB2 : Below b7 wr (v1.setRow b7 (blkC val8 l).toArray) := ⟨hB1.os, hB1.tape, hB1.output, by rw [setRow_size]; exact hB1.size, fun k hk => by rw [setRow_other v1 b7 k _ (by omega)]; exact hB1.block k hk⟩
      generalize v1.setRow b7 (blkC val8 l).toArray = v2 at *
      have HR2 : Hid (v2.rangeAt b7 0 (blkC val8 l)) := Lib.hid (by
        have := World.rangeAt_of_block hA2 0 (blkC val8 l).length
        simpa using this)
      have hmb : w.heap.size < wr.heap.size := (Array.getElem?_eq_some_iff.1 HMp.out).1
      have HMp2 : Hid (IdxMapG val8 (fun _ => .int .i64 1) v2 w.heap.size (L.take k)) := Lib.hid ((hB2.block _ (by omega)).trans HMp.out)
      have HB2 : Hid (Below w.heap.size w v2) := Lib.hid (HBe.out.trans (hB2.mono (by omega)))
      have HB7 := Lib.hid hb7
      clear hA1 hB1 hA2 hB2 hb7 v1 HR HMp HBe
      obtain ⟨u, hu⟩ : ∃ u : Int, u = (if findB (fun a b => decide (a = b)) l (L.take k) = none then 0 else 1) := ⟨_, rfl⟩
      have HLk : Hid ((Instr.lookup 185 (.map (some w.heap.size)) (blkV val8 l) false).run Try.prog v2 = .ok (.int .i64 u) v2) := Lib.hid (by
        rw [Try.k8.lookupG (te := 3) Try.underlying185 (z := .int .i64 0) (fun w => by kernel_rfl) HMp2.out l hl64 HLt.out false, hu]
        cases findB (fun a b => decide (a = b)) l (L.take k) <;> rfl)
      have hbz : w.heap.size = b0 := HBz.out.symm
      rw [hbz] at HLk
      have HU := Lib.hid hu; clear hu
      go_upto_region 5 with (fail)
      refine wp_region_list ?_
      refine wpList_val (v := .map (some b0)) (w' := v2) rfl (by rfl) ?_
      refine wpList_load_mid rfl 143 (.tmp 5) rfl b7 0 (by first | rfl | (rw [HB7.out]; rfl)) (blkC val8 l) (.array 64 21) HR2.out Try.underlying143 rfl (by rw [hbs]; kernel_rfl) ?_
      refine wpList_val (v := .int .i64 u) (w' := v2) rfl (exec_lookup 185 (.tmp 13) (.tmp 14) false rfl (.map (some b0)) (blkV val8 l) _ rfl rfl HLk.out) ?_
      by_cases hf : findB (fun a b => decide (a = b)) l (L.take k) = none
      · have hu0 : u = 0 := by rw [HU.out, if_pos hf]
        have HF := Lib.hid hf; clear hf
        have HU2 := Lib.hid (HUs.out HF.out)
        have HSt := Lib.hid (Try.k8.storeG Try.underlying185 (te := 3) HMp2.out l hl64 HLt.out HF.out (.int .i64 1) rfl)
        have HMp3 : Hid (IdxMapG val8 (fun _ => .int .i64 1) (putB v2 w.heap.size (.map (entsG val8 (fun _ => .int .i64 1) 0 (L.take k ++ [l])).toArray (L.take k ++ [l]).length)) w.heap.size (L.take (k + 1))) := Lib.hid (by
          rw [HTk.out]
          exact putB_same v2 _ (Array.getElem?_eq_some_iff.1 HMp2.out).1)
        have HB3 : Hid (Below w.heap.size w (putB v2 w.heap.size (.map (entsG val8 (fun _ => .int .i64 1) 0 (L.take k ++ [l])).toArray (L.take k ++ [l]).length))) := Lib.hid (HB2.out.trans (below_putB v2 _ _ (Nat.le_refl _)))
        rw [hbz] at HSt HMp3 HB3
        generalize (putB v2 b0 (.map (entsG val8 (fun _ => .int .i64 1) 0 (L.take k ++ [l])).toArray (L.take k ++ [l]).length)) = v3 at *
        subst hu0
        clear hbz
        go_upto_region 7 with (fail)
        refine wp_region_list ?_
        refine wpList_val (v := .map (some b0)) (w' := v2) rfl (by rfl) ?_
        refine wpList_load_mid rfl 143 (.tmp 5) rfl b7 0 (by first | rfl | (rw [HB7.out]; rfl)) (blkC val8 l) (.array 64 21) HR2.out Try.underlying143 rfl (by rw [hbs]; kernel_rfl) ?_
        refine wpList_mapUpdate_val rfl 185 (.tmp 17) (.tmp 18) (.const (.int .i64 1)) rfl (.map (some b0)) (blkV val8 l) (.int .i64 1) rfl rfl rfl HSt.out ?_
        go_wp2
        go_roundw
        case rel => exact ⟨k + 1, by omega, by go_num, HU2.out, by rw [HBz.out] at HMp3; exact HMp3.out, by rw [HBz.out] at HB3; exact HB3.out⟩
        case measure => simp [intOf]; omega
      · have hu1 : u = 1 := by rw [HU.out, if_neg hf]
        have HF := Lib.hid (HUf.out hf); clear hf
        subst hu1
        go_wp2
        go_ret
        exact .inr ⟨rfl, HB2.out, HF.out⟩
    · obtain rfl : k = n := by have := HN.out; omega
      have hki : ¬ (k : Int) < (k : Int) := by omega
      go_wp2
      go_ret
      exact .inl ⟨rfl, HBe.out, HUn.out⟩
end Go.Proofs.Ytbmphakfgoompaa.VJ

/-
  The walk of 'cut', over the library's Chunk (int32).
-/
namespace Go.Proofs.Ytbmphakfgoompaa.VJ
open Go.RowKit
attribute [local go_sem] Oper.semAt_some

/-- the chunk number q of a list -/
def encK (b o : Nat) (q : Nat) : Array Value := #[.slice (some ⟨b, o + 64 * q, none⟩) 64 64]
set_option maxRecDepth 100000 in
theorem Chunk_fun (a : Option Addr) (n c : Nat) (w : World) : Calls Try.prog 100 #[.slice a n c, .int .i64 64] w fun e w' => e = .returned (.func (.func 109) #[] #[.pointer (some ⟨w.heap.size, 0, none⟩), .pointer (some ⟨w.heap.size + 1, 0, none⟩)]) ∧
    w'.cell? ⟨w.heap.size, 0, none⟩ = some (.slice a n c) ∧ w'.cell? ⟨w.heap.size + 1, 0, none⟩ = some (.int .i64 64) ∧ Below w.heap.size w w' ∧ w'.heap.size = w.heap.size + 2 := by
  have HA := Lib.hid (heap_alloc_new w (.cells #[.slice a n c] 39))
  have HB := Lib.hid ((Below.refl _ w).alloc (Nat.le_refl _) (.cells #[.slice a n c] 39))
  have HS := Lib.hid (World.size_alloc w (.cells #[.slice a n c] 39))
  go_enter Try.func100, Try.ntmps100
  go_wp2
  go_ret
  generalize w.alloc (.cells #[.slice a n c] 39) = w1 at *
  have c0 := cell_of_row _ w.heap.size 0 _ _ (0, 0) HA.out
  have hA := (Below.refl _ w1).alloc (Nat.le_refl _) (.cells #[.int .i64 64] 3)
  have c1 := cell_of_row _ w1.heap.size 0 _ _ (0, 0) (heap_alloc_new w1 (.cells #[.int .i64 64] 3))
  have hs := HS.out
  refine ⟨by simp [hs], (hA.cell (p := ⟨w.heap.size, 0, none⟩) (by show w.heap.size < _; omega)).trans c0, by rw [← hs]; exact c1, HB.out.trans (hA.mono (by omega)), by simp; omega⟩
def ChR (J : (Nat → Prop) → List Nat → World → Prop) (w : World) (K b2 b3 : Nat) (i : Value) (wr : World) (sl n64 : Value) : Prop :=
  ∃ q, q ≤ K ∧ i = .int .i64 ((64 * q : Nat) : Int) ∧ J (fun _ => False) (List.range q) wr ∧ wr.cell? ⟨b2, 0, none⟩ = some sl ∧ wr.cell? ⟨b3, 0, none⟩ = some n64
set_option maxRecDepth 100000 in
set_option maxHeartbeats 1600000 in
theorem chunk_stops (b o c K : Nat) (hK : K ≤ 1048576) (hc : 64 * K ≤ c) (hc2 : c ≤ maxLen) (b2 b3 : Nat) (R : Nat → Prop) (w : World) (hR1 : R b2) (hR2 : R b3)
    (c1 : w.cell? ⟨b2, 0, none⟩ = some (.slice (some ⟨b, o, none⟩) (64 * K) c)) (c2 : w.cell? ⟨b3, 0, none⟩ = some (.int .i64 64)) :
    SeqX Try.prog 109 #[.pointer (some ⟨b2, 0, none⟩), .pointer (some ⟨b3, 0, none⟩)] (encK b o) R (fun xs => xs = List.range K) (fun pre => ∃ q, q ≤ K ∧ pre = List.range q) K w := by
  intro l J Jx W hW hJ hJx hY h1
  refine callsIn_wide.2 ?_
  have HY := Lib.hid hY
  have HJ := Lib.hid hJ
  have d1 := (hW.cell (p := ⟨b2, 0, none⟩) (World.block_lt_of_cell? w _ c1)).trans c1
  have d2 := (hW.cell (p := ⟨b3, 0, none⟩) (World.block_lt_of_cell? w _ c2)).trans c2
  have H1 := Lib.hid h1
  have D1 := Lib.hid d1; have D2 := Lib.hid d2
  have HRr := Lib.hid (And.intro hR1 hR2)
  clear hJ hJx hY h1 hW c1 c2 d1 d2 hR1 hR2
  go_enter Try.func109, Try.ntmps109
  go_wp2
  go_loopw [4] (fun i wr => ChR J w K b2 b3 i wr (.slice (some ⟨b, o, none⟩) (64 * K) c) (.int .i64 64)) (fun i _ => 64 * K - (intOf i).toNat)
  case atStart => exact ⟨0, Nat.zero_le _, rfl, H1.out, D1.out, D2.out⟩
  case round =>
    obtain ⟨q, hq, rfl, hj, e1, e2⟩ := hrel
    have HJq := Lib.hid hj; clear hj
    obtain ⟨n, hn⟩ : ∃ n, n = 64 * K := ⟨_, rfl⟩
    obtain ⟨p, hp⟩ : ∃ p, p = 64 * q := ⟨_, rfl⟩
    rw [← hn] at e1
    rw [← hp]
    have E1 := Lib.hid e1; have E2 := Lib.hid e2
    by_cases hqn : q < K
    · have hpi : (p : Int) < (n : Int) := by omega
      have hpn : p ≤ n := by omega
      have hnc : n ≤ c := by omega
      have hcm : c ≤ 9223372036854775807 := by unfold maxLen at hc2; exact hc2
      have HPq := Lib.hid (And.intro hn hp); clear hn hp
      have hnm : ¬ ((n : Int) - (p : Int) < 64) := by have := HPq.out; omega
      have dnm : decide ((n : Int) - (p : Int) < 64) = false := decide_eq_false hnm
      have hnm2 : ¬ (((n - p : Nat) : Int) < 64) := by have := HPq.out; omega
      have dnm2 : decide (((n - p : Nat) : Int) < 64) = false := decide_eq_false hnm2
      have hcp : ¬ c = p := by omega
      have hmn : ∀ (w : World) (ts : Array TypeId) (t : TypeId), (Builtin.min_ ts t #[.int .i64 64, .int .i64 ((n - p : Nat) : Int)]).run Try.prog w = .ok (.int .i64 64) w := fun w ts t => by
        rw [run_min_int2, if_neg hnm2]
      go_wp2
      go_quiet (fail)
      have e3 : (wr.drewN nq).cell? ⟨b2, 0, none⟩ = some (.slice (some ⟨b, o, none⟩) n c) := e1
      have e4 : (wr.drewN nq).cell? ⟨b3, 0, none⟩ = some (.int .i64 64) := e2
      have hj2 : J (fun _ => False) (List.range q) (wr.drewN nq) := HJ.out _ _ _ _ _ HJq.out ⟨rfl, rfl, rfl, Nat.le_refl _, fun _ _ _ => rfl⟩ (Wider.refl _ _ _)
      generalize wr.drewN nq = W1 at *
      clear e1 e2 E1 E2 HJq hmn
      obtain ⟨fn, tmps, assign, body, hy, hR⟩ := HY.out (fun _ => False) (List.range q) q W1 hj2 (by rw [List.length_range]; exact hqn) ⟨q + 1, hqn, List.range_succ.symm⟩
      dsimp only [encK] at hy
      rw [← HPq.out.2] at hy
      rw [← List.range_succ] at hR
      have HRy := Lib.hid hR; clear hR hj2
      have E3 := Lib.hid e3; have E4 := Lib.hid e4
      have h64a : (p : Int) + 64 ≤ (c : Int) := by have := HPq.out; omega
      have h64n : p + 64 ≤ c := by omega
      have hpz : (0 : Int) ≤ (p : Int) + 64 := by omega
      have hpp : (p : Int) ≤ (p : Int) + 64 := by omega
      go_upto_region 4 with (fail)
      refine (wpIn_wide (n := 2)).1 ?_
      gi_wp2
      refine HRy.out.mono ?_
      rintro e W3 (⟨rfl, hJ3, hk3⟩ | ⟨rfl, hx3, hk3⟩)
      · have HJ3 := Lib.hid hJ3
        have f3 := Lib.hid (hk3.cell E3.out (.inr HRr.out.1))
        have f4 := Lib.hid (hk3.cell E4.out (.inr HRr.out.2))
        have hq1 : (p : Int) + 64 = ((64 * (q + 1) : Nat) : Int) := by have := HPq.out; omega
        have HQ1 := Lib.hid hq1; clear hq1
        have e4' := f4.out
        clear hJ3 hk3 hy e3 e4
        gi_wp2
        go_wp2
        go_roundw
        case rel => exact ⟨q + 1, by omega, by rw [← HQ1.out], HJ3.out, by rw [← HPq.out.1]; exact f3.out, f4.out⟩
        case measure => simp [intOf]; have := HPq.out; omega
      · have HX3 := Lib.hid hx3
        clear hx3 hk3 hy e3 e4
        gi_wp2
        go_wp2
        refine bodyPost_ret (results_none rfl _ _ _) rfl ?_
        exact ⟨⟨_, rfl⟩, .inr ⟨_, _, ⟨_, hqn, rfl⟩, HX3.out⟩⟩
    · obtain rfl : q = K := by omega
      have hpi : ¬ (p : Int) < (n : Int) := by omega
      clear hn hp E1 E2
      go_wp2
      go_end0
      exact ⟨⟨_, rfl⟩, .inl ⟨fun _ => False, HJq.out⟩⟩

/-- chunk number q -/
def ckL (zs : List El) (q : Nat) : List El := (zs.drop (64 * q)).take 64
/-- all of them -/
def cksL (zs : List El) (K : Nat) : List (List El) := (List.range K).map (ckL zs)
theorem ckL_length (zs : List El) (K q : Nat) (hz : zs.length = 64 * K) (hq : q < K) : (ckL zs q).length = 64 := by
  unfold ckL
  rw [List.length_take, List.length_drop]
  omega
theorem ckL_get (zs : List El) (q j : Nat) (hj : j < 64) : (ckL zs q)[j]? = zs[64 * q + j]? := by
  unfold ckL
  simp [List.getElem?_take, hj]
theorem cksL_succ (zs : List El) (K : Nat) : cksL zs (K + 1) = cksL zs K ++ [ckL zs K] := by
  unfold cksL
  rw [List.range_succ, List.map_append]
  rfl
theorem cksL_length (zs : List El) (K : Nat) : (cksL zs K).length = K := by simp [cksL]
structure CuI (w : World) (z bo : Nat) (zs : List El) (T : Nat → Prop) (pre : List Nat) (W : World) : Prop where
  bel : Below w.heap.size w W
  tn : ∀ k, T k → bo < k ∧ k < W.heap.size
  q : pre = List.range pre.length
  row : ∃ a c, W.heap[bo]? = some (.cells #[.slice a pre.length c] 148 (0, 0)) ∧ W.ownsRow w.heap.size 143 64 (.slice a pre.length c) pre.length ((cksL zs pre.length).flatMap (blkC val8)) ∧ ∀ k, (Value.slice a pre.length c).ownBlock = some k → ¬ T k ∧ z ≤ k
  sz : z ≤ W.heap.size
theorem CuI.abide (w : World) (z bo : Nat) (zs : List El) (hbo : w.heap.size ≤ bo) : Abide (CuI w z bo zs) := by
  rintro T T' pre W W' ⟨h1, h2, h3, ⟨a, c, h4, h5, h6⟩, h7⟩ ho hw
  have hl := (Array.getElem?_eq_some_iff.1 h4).1
  refine ⟨h1.trans (ho.below _ h1.size (fun k hk => by have := (h2 k hk).1; omega)), fun k hk => ?_, h3, ⟨a, c, ho.cellsBlock h4 (fun h => Nat.lt_irrefl _ (h2 _ h).1), ownsRow_off h5 ho (fun k e => (h6 k e).1), fun k e => ⟨fun ht => ?_, (h6 k e).2⟩⟩, Nat.le_trans h7 ho.size⟩
  · rcases hw k hk with h | h
    · have := h2 k h; have := ho.size; omega
    · omega
  · rcases hw k ht with h | h
    · exact (h6 k e).1 h
    · have := (World.ownsRow.lt h5 k e).2; omega
set_option maxRecDepth 100000 in
set_option maxHeartbeats 1600000 in
theorem cut_walk (w : World) (b o c K : Nat) (zs : List El) (hK : K ≤ 1048576) (hc : 64 * K ≤ c) (hc2 : c ≤ maxLen) (hz : zs.length = 64 * K) (hr : w.rangeAt b o (blkC val8 zs)) (hb : b < w.heap.size) :
    Calls Try.prog 88 #[.slice (some ⟨b, o, none⟩) (64 * K) c] w fun e w' => ∃ a c', e = .returned (.slice a K c') ∧ w'.ownsRow w.heap.size 143 64 (.slice a K c') K ((cksL zs K).flatMap (blkC val8)) ∧ Below w.heap.size w w' := by
  have HR := Lib.hid hr; clear hr
  have hA1 := heap_alloc_new w (.cells #[.slice none 0 0] 148)
  have hB1 := (Below.refl _ w).alloc (Nat.le_refl _) (.cells #[.slice none 0 0] 148)
  have hz1 := World.size_alloc w (.cells #[.slice none 0 0] 148)
  have HA1 := Lib.hid hA1; have HB1 := Lib.hid hB1; have HZ1 := Lib.hid hz1
  clear hA1 hB1 hz1
  obtain ⟨bo, hbo⟩ : ∃ bo, bo = w.heap.size := ⟨_, rfl⟩
  refine calls_of_wpM Try.func88 rfl ?_
  simp only [Try.ntmps88, List.size_toArray, List.length_cons, List.length_nil, Nat.reduceAdd, Nat.reduceSub, Array.replicate_succ, Array.replicate_zero, List.push_toArray, List.append_toArray, List.nil_append, List.cons_append]
  go_wp2_with fail
  generalize w.alloc (.cells #[.slice none 0 0] 148) = w1 at *
  refine (Chunk_fun (some ⟨b, o, none⟩) (64 * K) c w1).mono ?_
  rintro e w2 ⟨rfl, c2, c3, hb2, hz2⟩
  have HZ2 := Lib.hid hz2
  have HSt := Lib.hid (chunk_stops b o c K hK hc hc2 w1.heap.size (w1.heap.size + 1) (fun k => k < w2.heap.size ∧ k ≠ bo) w2 ⟨by omega, by have := HZ1.out; omega⟩ ⟨by omega, by have := HZ1.out; omega⟩ c2 c3)
  have HB2 := Lib.hid hb2
  have HI0 : Hid (CuI w w2.heap.size bo zs (fun _ => False) [] w2) := Lib.hid ⟨HB1.out.trans (hb2.mono HB1.out.size), fun _ h => h.elim, rfl, ⟨none, 0, by rw [hbo]; exact (hb2.block _ (by have := HZ1.out; omega)).trans HA1.out, World.ownsRow_nil _ _ _ _, fun k e => by cases e⟩, Nat.le_refl _⟩
  have HBo := Lib.hid hbo
  clear c2 c3 hb2 hz2
  rw [← hbo]
  clear hbo
  go_wp2
  refine wp_rangeX (gf := 109) (lb := #[.pointer (some ⟨w1.heap.size, 0, none⟩), .pointer (some ⟨w1.heap.size + 1, 0, none⟩)]) rfl (enters_of Try.func109 (by kernel_rfl) rfl) HSt.out (Below.refl _ _) (fun k hk => hk.1) (fun _ => rfl)
    (CuI w w2.heap.size bo zs) (fun _ _ _ _ => False) (CuI.abide w _ bo zs (by rw [HBo.out]; exact Nat.le_refl _)) (fun _ _ _ _ _ _ h => h.elim) HI0.out
    (fun tmps T q a' W => a' = { tmps := (tmps.setIfInBounds 7 (.slice (some ⟨b, o + 64 * q, none⟩) 64 64)).setIfInBounds 4 (.slice (some ⟨b, o + 64 * q, none⟩) 64 64), defers := [] }) (fun T x a' W W' h ho => h) ?assign ?body ?done ?stop
  case stop =>
    rintro D c T pre W - - - h
    exact h.elim
  case assign =>
    rintro l T pre x W K hi hK
    have HK := Lib.hid hK; clear hK
    simp only [encK]
    gi_wp2
    exact HK.out _ _ (Kept.refl _ _ _) hi rfl
  case body =>
    rintro lp Tt pre q a' W hTl hl - hst hA hlen ⟨q', hq', hpq⟩
    subst hA
    have hq : q = pre.length ∧ q < K := by
      have h1 := hst.q
      have h2 : pre.length + 1 = q' := by have := congrArg List.length hpq; simpa using this
      rw [← h2, List.range_succ] at hpq
      obtain ⟨h3, h4⟩ := List.append_inj' hpq rfl
      have h5 : q = pre.length := by simpa using h4
      exact ⟨h5, by omega⟩
    obtain ⟨hq1, hqK⟩ := hq
    clear hpq hq' hlen
    obtain ⟨hbel, htn, hpre, ⟨a0, c0, hcell, hown, hblk⟩, hsz⟩ := hst
    rw [← hq1] at hcell hown hblk
    have HBe := Lib.hid hbel; have HTn := Lib.hid htn; have HPr := Lib.hid hpre; have HCe := Lib.hid hcell; have HOw := Lib.hid hown; have HBk := Lib.hid hblk; have HQ := Lib.hid hq1
    have HRk : Hid (W.rangeAt b (o + 64 * q) (blkC val8 (ckL zs q))) := Lib.hid (fun j v hv => by
      rw [blkC8_map, List.getElem?_map] at hv
      have hj : j < 64 := by
        by_cases hj : j < 64
        · exact hj
        · rw [List.getElem?_eq_none (by rw [ckL_length zs K q hz hqK]; omega)] at hv
          cases hv
      rw [ckL_get zs q j hj] at hv
      have h1 := HR.out (64 * q + j) v (by rw [blkC8_map, List.getElem?_map]; exact hv)
      rw [Nat.add_assoc]
      exact (HBe.out.cell (p := ⟨b, o + (64 * q + j), none⟩) hb).trans h1)
    have hcl := ckL_length zs K q hz hqK
    have HSu := Lib.hid (cksL_succ zs q)
    clear hbel htn hpre hcell hown hblk hq1
    generalize ckL zs q = l at *
    have hbs : (blkC val8 l).length = 64 := by rw [blkC_length (sz := 1) (fun _ => rfl), hcl]
    have p0 : W.cell? ⟨bo, 0, none⟩ = some (.slice a0 q c0) := cell_of_row W bo 0 _ _ (0, 0) HCe.out
    have hbw : b < W.heap.size := Nat.lt_of_lt_of_le hb HBe.out.size
    have hbob : bo ≠ b := by rw [HBo.out]; omega
    simp only [List.setIfInBounds_toArray, List.set_cons_zero, List.set_cons_succ]
    gi_wp2
    refine wpIn_region_calm [6] (fun w' : World => w'.cell? ⟨bo, 0, none⟩ = some (.slice a0 q c0) ∧ w'.rangeAt b (o + 64 * q) (blkC val8 l)) (by kernel_rfl) ?_
    have HCx : Hid ((fun w' : World => w'.cell? ⟨bo, 0, none⟩ = some (.slice a0 q c0) ∧ w'.rangeAt b (o + 64 * q) (blkC val8 l)) W.drew) := Lib.hid ⟨p0, HRk.out⟩
    have HO3 : Hid (W.drew.ownsRow w.heap.size 143 64 (.slice a0 q c0) q ((cksL zs q).flatMap (blkC val8))) := Lib.hid (World.ownsRow.drew HOw.out)
    have HD : Hid (Below W.heap.size W W.drew) := Lib.hid (Below.refl _ W).drew
    clear p0
    generalize W.drew = w3 at *
    have hw3 : w.heap.size ≤ w3.heap.size := Nat.le_trans HBe.out.size HD.out.size
    refine' anyC_take (i := 0) (v := _) [5, 6] (by kernel_rfl) rfl (by kernel_rfl) (fun _ _ _ h => h) (by rfl) ?h0 HCx.out ?k0
    case h0 =>
      rintro w' ⟨c0, c1⟩
      go_simp
      try with_reducible rfl
    simp only [List.getElem_toArray, List.getElem_cons_zero, List.getElem_cons_succ, Act.put, List.setIfInBounds_toArray, List.set_cons_zero, List.set_cons_succ]
    refine' anyC_take (i := 1) (v := _) [2, 3, 4, 5, 6] (by kernel_rfl) rfl (by kernel_rfl) (fun _ _ _ h => h) (by rfl) ?h1 HCx.out ?k1
    case h1 =>
      rintro w' ⟨c0, c1⟩
      go_simp
      try with_reducible rfl
    simp only [List.getElem_toArray, List.getElem_cons_zero, List.getElem_cons_succ, Act.put, List.setIfInBounds_toArray, List.set_cons_zero, List.set_cons_succ]
    refine' anyC_take (i := 2) (v := .pointer (some ⟨b, o + 64 * q, none⟩)) [3, 4, 5, 6] (by kernel_rfl) rfl (by kernel_rfl) (fun _ _ _ h => h) (by rfl) ?h2 HCx.out ?k2
    case h2 =>
      rintro w' ⟨c0, c1⟩
      have ha := run_arrayAt (P := Try.prog) w' 143 21 64 (some ⟨b, o + 64 * q, none⟩) 64 64 Try.underlying143 (Nat.le_refl _)
      go_simp
      try with_reducible rfl
    simp only [List.getElem_toArray, List.getElem_cons_zero, List.getElem_cons_succ, Act.put, List.setIfInBounds_toArray, List.set_cons_zero, List.set_cons_succ]
    refine' anyC_take (i := 3) (v := _) [4, 5, 6] (by kernel_rfl) rfl (by kernel_rfl) (fun _ _ _ h => h) (by rfl) ?h3 HCx.out ?k3
    case h3 => exact fun w' hC => by refine exec_load 143 (.tmp 10) ?_ b (o + 64 * q) ?_ (blkC val8 l) (.array 64 21) hC.2 Try.underlying143 rfl (by rw [hbs]; kernel_rfl) <;> rfl
    simp only [List.getElem_toArray, List.getElem_cons_zero, List.getElem_cons_succ, Act.put, List.setIfInBounds_toArray, List.set_cons_zero, List.set_cons_succ]
    refine anyC_one (i := 4) (v := .slice (some ⟨w3.heap.size, 0, none⟩) 1 1) (w' := w3.alloc (.cells (blkC val8 l).toArray 143)) (by kernel_rfl) rfl (by kernel_rfl) (by rfl) (by go_simp; exact congrArg (fun c => w3.alloc (.cells c 143)) (fill_all (blkC val8 l) _ (by rw [hbs]; rfl))) ⟨cell_allocN HCx.out.1 _, World.rangeAt_alloc HCx.out.2 _⟩ ?_
    simp only [List.getElem_toArray, List.getElem_cons_zero, List.getElem_cons_succ, Act.put, List.setIfInBounds_toArray, List.set_cons_zero, List.set_cons_succ]
    have hbow : bo < w2.heap.size := by have := HZ1.out; have := HZ2.out; have := HBo.out; omega
    refine anyC_app (i := 5) Try.elemB8 (by kernel_rfl) rfl (by kernel_rfl) (by rfl) (.tmp 8) (.tmp 12) rfl HO3.out (by omega) (by omega) hw3 (blkC val8 l) hbs (fun u hu => blkC8_one l u (by simpa using hu)) 143 rfl rfl (fun w' hg => ⟨cell_grown hg HCx.out.1 (fun k e => by have := (HBk.out k e).2; omega), range_grown hg HCx.out.2 (fun k e => by have := (HBk.out k e).2; have := HB1.out.size; have := HB2.out.size; omega)⟩) ?_
    intro a' c' w5 ho5 hg5 hn5
    simp only [List.getElem_toArray, List.getElem_cons_zero, List.getElem_cons_succ, Act.put, List.setIfInBounds_toArray, List.set_cons_zero, List.set_cons_succ]
    refine anyC_tail 6 (by rfl) (by kernel_rfl) (by kernel_rfl) ?_
    simp only [List.drop_succ_cons, List.drop_zero]
    have h5c : w5.heap[bo]? = some (.cells #[.slice a0 q c0] 148 (0, 0)) := (other_grown hg5 (by have := HD.out.size; omega) (fun k e => by have := (HBk.out k e).2; omega)).trans ((HD.out.block bo (by omega)).trans HCe.out)
    have p1 : w5.cell? ⟨bo, 0, none⟩ = some (.slice a0 q c0) := cell_of_row w5 bo 0 _ _ (0, 0) h5c
    have f1 := frozen_of_row w5 bo 0 _ _ h5c
    have h6c := heap_setCell_same w5 bo 0 _ _ (.slice a' (q + 1) c') h5c
    have H5c := Lib.hid h6c; have H5 := Lib.hid ho5; have HG5 := Lib.hid hg5; have HN5 := Lib.hid hn5
    clear h5c h6c ho5 hg5 hn5
    gi_wp2
    have hnb := HN5.out
    have hgw : W.grownBy w5 (Value.slice a0 q c0).ownBlock := grown_trans ⟨HD.out.os, HD.out.tape, HD.out.output, HD.out.size, fun k hk _ => HD.out.block k hk⟩ HG5.out
    have hblk5 : ∀ k, (Value.slice a' (q + 1) c').ownBlock = some k → ¬ Tt k ∧ w2.heap.size ≤ k := fun k e => by
      rcases hnb with h | ⟨g, h, hg⟩
      · rw [h] at e; exact HBk.out k e
      · rw [h] at e
        cases e
        have := HD.out.size
        exact ⟨fun ht => by have := (HTn.out _ ht).2; omega, by omega⟩
    have hsz6 : (w5.setCell ⟨bo, 0, none⟩ (.slice a' (q + 1) c')).heap.size = w5.heap.size := by simp
    refine ⟨⟨by rw [hsz6]; exact hgw.size, fun k hk hT => ?_⟩, ⟨?_, fun k hk => ⟨(HTn.out k hk).1, ?_⟩, ?_, ⟨a', c', ?_, ?_, ?_⟩, ?_⟩⟩
    · have hkb : k ≠ bo := by
        rcases hT with h | h
        · have := (HTn.out k h).1; omega
        · exact h.2
      rw [heap_setCell_other w5 ⟨bo, 0, none⟩ k _ hkb]
      refine hgw.block k hk (fun e => ?_)
      have := HBk.out k e.symm
      rcases hT with h | h
      · exact this.1 h
      · omega
    · exact (HBe.out.trans (below_grown hgw (fun k e => by have := (HBk.out k e).2; have := HB1.out.size; have := HB2.out.size; omega) HBe.out.size)).setCell (p := ⟨bo, 0, none⟩) (by show w.heap.size ≤ bo; rw [HBo.out]; exact Nat.le_refl _) _
    · rw [hsz6]; exact Nat.lt_of_lt_of_le (HTn.out k hk).2 hgw.size
    · rw [List.length_append, List.length_singleton, List.range_succ, ← HPr.out, ← HQ.out]
    · have e : (pre ++ [q]).length = q + 1 := by rw [List.length_append, List.length_singleton, HQ.out]
      rw [e]
      exact H5c.out
    · have e : (pre ++ [q]).length = q + 1 := by rw [List.length_append, List.length_singleton, HQ.out]
      rw [e, HSu.out, List.flatMap_append]
      simp only [List.flatMap_cons, List.flatMap_nil, List.append_nil]
      refine H5.out.kept (grown_store w5 bo 0 _) ?_
      cases e2 : (Value.slice a' (q + 1) c').ownBlock with
      | none => exact .inl rfl
      | some k => exact .inr (fun e3 => by cases e3; have := (hblk5 _ e2).2; omega)
    · have e : (pre ++ [q]).length = q + 1 := by rw [List.length_append, List.length_singleton, HQ.out]
      rw [e]
      exact hblk5
    · rw [hsz6]; exact Nat.le_trans hsz hgw.size
  case done =>
    rintro D Tt xs w20 hD hTD rfl hst hDk
    obtain ⟨hbel, htn, -, ⟨a0, c0, hcell, hown, hblk⟩, hsz⟩ := hst
    rw [List.length_range] at hcell hown hblk
    have p0 : w20.cell? ⟨bo, 0, none⟩ = some (.slice a0 K c0) := cell_of_row w20 bo 0 _ _ (0, 0) hcell
    have HBe := Lib.hid hbel; have HOw := Lib.hid hown; have HBk := Lib.hid hblk; have HDk := Lib.hid hDk; have HTD := Lib.hid hTD
    have hwD : w.heap.size ≤ D := by have := HB1.out.size; have := HB2.out.size; omega
    clear hbel htn hcell hown hblk hDk hTD
    go_wp2
    refine leaves_mark HDk.out (leaves_nil (results_tmp rfl _ _ _) ?_)
    refine ⟨a0, c0, rfl, ?_, below_mark2 HBe.out D _ hwD⟩
    refine HOw.out.kept (grownBy_putObj' w20 D _) ?_
    cases e2 : (Value.slice a0 K c0).ownBlock with
    | none => exact .inl rfl
    | some k => exact .inr (fun e3 => by cases e3; exact (HBk.out _ e2).1 HTD.out)
end Go.Proofs.Ytbmphakfgoompaa.VJ

/-
  The walk of 'Same' (int32).
-/
namespace Go.Proofs.Ytbmphakfgoompaa.VJ
open Go.RowKit

theorem wpStill_bin {P : Program} {ops : Array Oper} {w : World} {Q : Act → Prop} {rest : List Oper} {o : Oper} {a : Act} (hg : o.guard = none) (bo : BinOp) (t : TypeId) (x y : Operand) (t2 : TypeId) (ho : o.op = .binOp bo t x y t2) (xv yv v : Value) (hx : a.eval x = xv) (hy : a.eval y = yv)
    (hG : (eqGuard bo t x y xv yv).run P w = .ok () w) (hr : (binOp bo t xv yv).run P w = .ok v w) (h : wpStill P ops w Q rest (a.put o.dst v)) : wpStill P ops w Q (o :: rest) a := by
  refine wpStill_val hg ?_ h
  unfold execOp
  simp only [ho, hx, hy, Sem.run_bind, Sem.run_pure, Result.andThen_ok, hG, hr]
theorem eqg_low (xs ys : Array Value) (x y : Operand) (w : World) : (eqGuard .neq 143 x y (.agg xs) (.agg ys)).run Try.prog w = .ok () w := run_eqGuard_agg w .neq 143 x y xs ys (by kernel_rfl)
theorem neq_agg {P : Program} (w : World) (t : TypeId) (xs ys : Array Value) (b : Bool) (h : (Op.equal t (.agg xs) (.agg ys)).run P w = .ok b w) : (binOp .neq t (.agg xs) (.agg ys)).run P w = .ok (.bool (!b)) w := by
  simp [binOp, h]
theorem eqL_low (l m : List El) (h : l.length = m.length) : eqL (fun a b => decide (a = b)) l m = decide (l = m) := by
  by_cases e : l = m
  · rw [(eqL_iff l m h).2 e]; simp [e]
  · cases e2 : eqL (fun a b => decide (a = b)) l m
    · simp [e]
    · exact absurd ((eqL_iff l m h).1 e2) e
theorem neq_low (l m : List El) (hl : l.length = 64) (hm : m.length = 64) (w : World) : (binOp .neq 143 (.agg (blkC val8 l).toArray) (.agg (blkC val8 m).toArray)).run Try.prog w = .ok (.bool (!decide (l = m))) w := by
  have := Try.k8.equal w l m hl hm
  rw [eqL_low l m (by omega)] at this
  exact neq_agg w _ _ _ _ this
end Go.Proofs.Ytbmphakfgoompaa.VJ

/-
  The closures of 'From' (int32).
-/
namespace Go.Proofs.Ytbmphakfgoompaa.VJ
open Go.RowKit

theorem eqg_lowE (xs ys : Array Value) (x y : Operand) (w : World) : (eqGuard .eql 143 x y (.agg xs) (.agg ys)).run Try.prog w = .ok () w := run_eqGuard_agg w .eql 143 x y xs ys (by kernel_rfl)
theorem eql_agg {P : Program} (w : World) (t : TypeId) (xs ys : Array Value) (b : Bool) (h : (Op.equal t (.agg xs) (.agg ys)).run P w = .ok b w) : (binOp .eql t (.agg xs) (.agg ys)).run P w = .ok (.bool b) w := by
  simp [binOp, h]
theorem eql_low (l : List El) (hl : l.length = 64) (w : World) : (binOp .eql 143 (.agg (blkC val8 l).toArray) (.agg (blkC val8 l).toArray)).run Try.prog w = .ok (.bool true) w := by
  have := Try.k8.equal w l l hl hl
  rw [eqL_low l l rfl] at this
  simpa using eql_agg w _ _ _ _ this
/-- what 'From' has laid: the trie, its own variable, the closure's -/
structure FrAt (w : World) (g bt : Nat) (T : TrieD El) : Prop where
  tr : TrieAt val8 150 64 w g T
  tp : T.top.length = 272
  ml : ∀ m ∈ T.mid, m.length = 64
  ll : ∀ l ∈ T.low, l.length = 64
  mn : T.mid.length ≤ 1048576
  ln : T.low.length ≤ 1048576
  ct : w.cell? ⟨bt, 0, none⟩ = some (.pointer (some ⟨g, 0, none⟩))
theorem FrAt.below {w w' : World} {g bt : Nat} {T : TrieD El} (h : FrAt w g bt T) (hb : Below w.heap.size w w') : FrAt w' g bt T :=
  ⟨h.tr.below hb (Nat.le_refl _), h.tp, h.ml, h.ll, h.mn, h.ln, (hb.cell (p := ⟨bt, 0, none⟩) (World.block_lt_of_cell? w _ h.ct)).trans h.ct⟩
theorem FrAt.low {w : World} {g bt : Nat} {T : TrieD El} (h : FrAt w g bt T) : ∃ a c, w.cell? ⟨g, 273, none⟩ = some (.slice a T.low.length c) ∧ BlocksAt val8 64 w a T.low := by
  obtain ⟨am, cm, al, cl, h1, h2, h3⟩ := h.tr
  refine ⟨al, cl, ?_, h3⟩
  rw [cell_of_row w g 273 _ _ (0, 0) h1]
  simp [trieC, h.tp]
theorem FrAt.mid {w : World} {g bt : Nat} {T : TrieD El} (h : FrAt w g bt T) : ∃ a c, w.cell? ⟨g, 272, none⟩ = some (.slice a T.mid.length c) ∧ BlocksAt num16 64 w a T.mid := by
  obtain ⟨am, cm, al, cl, h1, h2, h3⟩ := h.tr
  refine ⟨am, cm, ?_, h2⟩
  rw [cell_of_row w g 272 _ _ (0, 0) h1]
  simp [trieC, h.tp]

set_option maxRecDepth 100000 in
theorem same1_walk (w : World) (g bt : Nat) (T : TrieD El) (h : FrAt w g bt T) (no : Nat) (hno : no < T.low.length) :
    Calls Try.prog 89 #[.int .u16 (no : Nat), .pointer (some ⟨bt, 0, none⟩)] w fun e w' => e = .returned (.bool true) ∧ Below w.heap.size w w' := by
  obtain ⟨a, c, c1, hbl⟩ := h.low
  obtain ⟨b, o, rfl⟩ := hbl.some (by omega)
  have HR := Lib.hid (hbl.get no hno)
  have hl := h.ll _ (List.getElem_mem hno)
  have c0 := h.ct
  have hln := h.ln
  clear h hbl
  generalize T.low[no] = l at *
  generalize T.low.length = nl at *
  have hs : (blkC val8 l).length = 64 := by rw [blkC_length (sz := 1) (fun _ => rfl), hl]
  have g1 : (0 : Int) ≤ (no : Int) := by omega
  have g2 : (no : Int) < (nl : Int) := by omega
  go_enter Try.func89, Try.ntmps89
  go_upto_region 1 with (fail)
  refine wp_region_still_lit (by kernel_rfl) (by kernel_rfl) ?_
  iterate 6 still_step
  refine wpStill_load rfl 143 (.tmp 9) rfl b (o + no * 64) rfl (blkC val8 l) _ (show w.drew.rangeAt b (o + no * 64) (blkC val8 l) from HR.out) Try.underlying143 rfl (by rw [hs]; kernel_rfl) ?_
  iterate 6 still_step
  refine wpStill_load rfl 143 (.tmp 16) rfl b (o + no * 64) rfl (blkC val8 l) _ (show w.drew.rangeAt b (o + no * 64) (blkC val8 l) from HR.out) Try.underlying143 rfl (by rw [hs]; kernel_rfl) ?_
  refine wpStill_bin rfl .eql 143 (.tmp 10) (.tmp 17) _ rfl (.agg (blkC val8 l).toArray) (.agg (blkC val8 l).toArray) _ rfl rfl (eqg_lowE _ _ _ _ _) (eql_low l hl _) ?_
  still_step
  refine wpStill_nil ?_
  go_wp2
  go_ret
  exact ⟨rfl, (Below.refl _ w).drew⟩
set_option maxRecDepth 100000 in
theorem same3_walk (w : World) (g bt b5 : Nat) (T : TrieD El) (h : FrAt w g bt T) (no : Nat) (hno : no < T.low.length) (h5 : w.cell? ⟨b5, 0, none⟩ = some (.func (.func 89) #[] #[.pointer (some ⟨bt, 0, none⟩)])) :
    Calls Try.prog 91 #[.int .u16 (no : Nat), .pointer (some ⟨b5, 0, none⟩)] w fun e w' => e = .returned (.bool false) ∧ Below w.heap.size w w' := by
  have HS := Lib.hid (same1_walk w g bt T h no hno)
  clear h
  go_enter Try.func91, Try.ntmps91
  go_wp2_with fail
  refine HS.out.mono ?_
  rintro e w1 ⟨rfl, hb⟩
  have HB := Lib.hid hb; clear hb
  go_wp2
  go_ret
  exact ⟨rfl, HB.out⟩
set_option maxRecDepth 100000 in
theorem same2_walk (w : World) (g bt b5 : Nat) (T : TrieD El) (h : FrAt w g bt T) (no : Nat) (hno : no < T.mid.length) (hmid : ∀ m ∈ T.mid, ∀ k ∈ m, k < T.low.length) (h5 : w.cell? ⟨b5, 0, none⟩ = some (.func (.func 89) #[] #[.pointer (some ⟨bt, 0, none⟩)])) :
    Calls Try.prog 90 #[.int .u16 (no : Nat), .pointer (some ⟨bt, 0, none⟩), .pointer (some ⟨b5, 0, none⟩)] w fun e w' => e = .returned (.bool true) ∧ Below w.heap.size w w' := by
  obtain ⟨a, c, c1, hbl⟩ := h.mid
  obtain ⟨b, o, rfl⟩ := hbl.some (by omega)
  have hl := h.ml _ (List.getElem_mem hno)
  have HNA : Hid (NumsAt w (some ⟨b, o + no * 64, none⟩) T.mid[no]) := Lib.hid (fun i hi => ⟨b, o + no * 64, rfl, hbl.cell num16_cells no hno i hi⟩)
  have HCf := Lib.hid (ContainsFunc_none w b (o + no * 64) 64 64 T.mid[no] 91 #[.pointer (some ⟨b5, 0, none⟩)] hl (by omega) HNA.out (enters_of Try.func91 (by kernel_rfl) rfl)
    (fun x W hx hb => same3_walk W g bt b5 T (h.below hb) x (hmid _ (List.getElem_mem hno) x hx) ((hb.cell (p := ⟨b5, 0, none⟩) (World.block_lt_of_cell? w _ h5)).trans h5)))
  have c0 := h.ct
  have hmn := h.mn
  clear h hbl hl hmid HNA
  generalize T.mid.length = nm at *
  have g1 : (0 : Int) ≤ (no : Int) := by omega
  have g2 : (no : Int) < (nm : Int) := by omega
  go_enter Try.func90, Try.ntmps90
  go_wp2_with fail
  refine HCf.out.mono ?_
  rintro e w1 ⟨rfl, hb⟩
  have HB := Lib.hid hb; clear hb
  go_wp2
  go_ret
  exact ⟨rfl, HB.out⟩
end Go.Proofs.Ytbmphakfgoompaa.VJ
