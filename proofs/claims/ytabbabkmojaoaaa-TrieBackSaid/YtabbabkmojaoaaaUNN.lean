/-
  The walk of 'unlike' (uint16).
-/
import Derived.Test.YtabbabkmojaoaaaTM2
import Derived.Test.YtabbabkmojaoaaaTC
import Derived.Test.YtabbabkmojaoaaaTN
set_option linter.unusedVariables false
set_option linter.unusedSimpArgs false
namespace Go.Proofs.Ytabbabkmojaoaaa.VN
open Go.RowKit
abbrev El := Nat
abbrev val8 : El → Value := num16
theorem blkC8_one (b : List El) : ∀ u ∈ (blkC val8 b).toArray.toList, u.oneCell' = true := blkC16_one b
theorem Try.k8 : ArrK Try.prog 120 91 64 1 val8 (fun a b => decide (a = b)) := Try.k16
theorem blkC8_map (b : List El) : blkC val8 b = b.map val8 := blkC16_map b
theorem Try.elemB8 : ElemN Try.prog 111 120 (.agg (Array.replicate 64 (.int .u16 0))) 64 128 := Try.elemB16
theorem exec_lookup {P : Program} {o : Oper} {a : Act} {w : World} (ty : TypeId) (x y : Operand) (ok : Bool) (ho : o.op = .lookup ty x y ok) (xv yv v : Value) (hx : a.eval x = xv) (hy : a.eval y = yv) (hr : (Instr.lookup ty xv yv ok).run P w = .ok v w) : (execOp a.eval o).run P w = .ok (.value v) w := by
  unfold execOp
  simp only [ho, hx, hy, Sem.run_bind, Sem.run_pure, Result.andThen_ok, hr]
/-- no block is like one before it, among the first n -/
def UnL (eqB : El → El → Bool) (L : List (List El)) (n : Nat) : Prop := ∀ k (h : k < L.length), k < n → findB eqB L[k] (L.take k) = none
def UnR (w : World) (L : List (List El)) (i : Value) (wr : World) : Prop := ∃ k : Nat, k ≤ L.length ∧ i = .int .i64 (k : Nat) ∧ UnL (fun a b => decide (a = b)) L k ∧ IdxMapG val8 (fun _ => .int .i64 1) wr w.heap.size (L.take k) ∧ Below w.heap.size w wr
set_option maxRecDepth 100000 in
set_option maxHeartbeats 1600000 in
theorem unlike_walk (w : World) (a : Option Addr) (n c : Nat) (L : List (List El)) (hn : L.length = n) (hn2 : n ≤ 1048576) (hl : ∀ l ∈ L, l.length = 64) (h : BlocksAt val8 64 w a L) :
    Calls Try.prog 98 #[.slice a n c] w fun e w' => (e = .returned (.bool true) ∧ Below w.heap.size w w' ∧ UnL (fun a b => decide (a = b)) L n) ∨ (e = .returned (.bool false) ∧ Below w.heap.size w w' ∧ ¬ UnL (fun a b => decide (a = b)) L n) := by
  have HN := Lib.hid hn; clear hn
  have HLl := Lib.hid hl; clear hl
  have HA := Lib.hid h; clear h
  go_enter Try.func98, Try.ntmps98
  go_upto_region 1 with (fail)
  refine wp_region_list ?_
  refine wpList_val (v := .map (some w.heap.size)) (w' := w.alloc (.map #[] 0)) rfl (by kernel_rfl) ?_
  have hA0 := heap_alloc_new w (.map #[] 0)
  have hB0 : Below w.heap.size w (w.alloc (.map #[] 0)) := (Below.refl _ _).alloc (Nat.le_refl _) _
  have hz0 := World.size_alloc w (.map #[] 0)
  obtain ⟨b0, hb0⟩ : ∃ b0, b0 = w.heap.size := ⟨_, rfl⟩
  rw [← hb0]
  have HB0 := Lib.hid hB0
  have HA0 : Hid (IdxMapG val8 (fun _ => .int .i64 1) (w.alloc (.map #[] 0)) w.heap.size (L.take 0)) := Lib.hid hA0
  have HBz := Lib.hid hb0
  clear hA0 hB0 hz0 hb0
  generalize w.alloc (.map #[] 0) = w1 at *
  go_wp2
  go_loopw [9] (UnR w L) (fun i _ => n - (intOf i).toNat)
  case atStart => exact ⟨0, Nat.zero_le _, rfl, fun k h hk => by omega, HA0.out, HB0.out⟩
  case round =>
    obtain ⟨k, hk, rfl, hun, hmap, hbel⟩ := hrel
    have HUn := Lib.hid hun; clear hun
    have HMp := Lib.hid hmap; clear hmap
    have HBe := Lib.hid hbel; clear hbel
    by_cases hkn : k < n
    · have hki : (k : Int) < (n : Int) := by omega
      have hkl : k < L.length := by rw [HN.out]; exact hkn
      obtain ⟨ba, oa, ha⟩ := HA.out.some (by omega)
      subst ha
      have HR : Hid (wr.rangeAt ba (oa + k * 64) (blkC val8 L[k])) := Lib.hid (rangeAt_below (HA.out.get k hkl) HBe.out (Nat.le_refl _))
      have hl64 : (L[k]).length = 64 := HLl.out _ (List.getElem_mem hkl)
      have HTk : Hid (L.take (k + 1) = L.take k ++ [L[k]]) := Lib.hid (List.take_succ_eq_append_getElem hkl)
      have HUs : Hid (findB (fun a b => decide (a = b)) L[k] (L.take k) = none → UnL (fun a b => decide (a = b)) L (k + 1)) := Lib.hid (fun h j hj hj2 => by
        by_cases e : j = k
        · subst e; exact h
        · exact HUn.out j hj (by omega))
      have HUf : Hid (¬ findB (fun a b => decide (a = b)) L[k] (L.take k) = none → ¬ UnL (fun a b => decide (a = b)) L n) := Lib.hid (fun h h2 => h (h2 k hkl hkn))
      generalize L[k] = l at *
      have hbs : (blkC val8 l).length = 64 := by rw [blkC_length (sz := 1) (fun _ => rfl), hl64]
      have hlt : (L.take k).length = k := by rw [List.length_take]; omega
      have HLt : Hid (∀ m ∈ L.take k, m.length = 64) := Lib.hid (fun m hm => HLl.out m (List.mem_of_mem_take hm))
      go_upto_region 4 with (fail)
      refine wp_region_list ?_
      refine wpList_val (v := .pointer (some ⟨ba, oa + k * 64, none⟩)) (w' := wr) rfl (by go_simp) ?_
      refine wpList_load_mid rfl 120 (.tmp 11) rfl ba (oa + k * 64) rfl (blkC val8 l) (.array 64 91) HR.out Try.underlying120 rfl (by rw [hbs]; kernel_rfl) ?_
      refine wpList_val (v := .pointer (some ⟨wr.heap.size, 0, none⟩)) (w' := wr.alloc (.cells (blkC val8 (List.replicate 64 (0 : El))).toArray 120)) rfl (by kernel_rfl) ?_
      obtain ⟨b7, hb7⟩ : ∃ b7, b7 = wr.heap.size := ⟨_, rfl⟩
      have hA1 := heap_alloc_new wr (.cells (blkC val8 (List.replicate 64 (0 : El))).toArray 120)
      have hB1 : Below wr.heap.size wr (wr.alloc (.cells (blkC val8 (List.replicate 64 (0 : El))).toArray 120)) := (Below.refl _ _).alloc (Nat.le_refl _) _
      rw [← hb7] at hA1 hB1 ⊢
      generalize wr.alloc (.cells (blkC val8 (List.replicate 64 (0 : El))).toArray 120) = v1 at *
      refine wpList_store_row rfl 120 (.tmp 5) (.tmp 12) rfl b7 (blkC val8 l).toArray rfl rfl 120 _ hA1 (by rw [List.size_toArray, hbs]; kernel_rfl) (by rw [List.size_toArray, List.size_toArray, hbs, blkC_length (sz := 1) (fun _ => rfl)]; rfl) (all_oneCell_toArray (fun u hu => blkC8_one l u (by simpa using hu))) ?_
      have hA2 := setRow_heap v1 b7 _ (blkC val8 l).toArray _ _ hA1
      have hB2 : Below b7 wr (v1.setRow b7 (blkC val8 l).toArray) := ⟨hB1.os, hB1.tape, hB1.output, by rw [setRow_size]; exact hB1.size, fun k hk => by rw [setRow_other v1 b7 k _ (by omega)]; exact hB1.block k hk⟩
      generalize v1.setRow b7 (blkC val8 l).toArray = v2 at *
      have HR2 : Hid (v2.rangeAt b7 0 (blkC val8 l)) := Lib.hid (by
        have := World.rangeAt_of_block hA2 0 (blkC val8 l).length
        simpa using this)
      have hmb : w.heap.size < wr.heap.size := (Array.getElem?_eq_some_iff.1 HMp.out).1
      have HMp2 : Hid (IdxMapG val8 (fun _ => .int .i64 1) v2 w.heap.size (L.take k)) := Lib.hid ((hB2.block _ (by omega)).trans HMp.out)
      have HB2 : Hid (Below w.heap.size w v2) := Lib.hid (HBe.out.trans (hB2.mono (by omega)))
      have HB7 := Lib.hid hb7
      clear hA1 hB1 hA2 hB2 hb7 v1 HR HMp HBe
      obtain ⟨u, hu⟩ : ∃ u : Int, u = (if findB (fun a b => decide (a = b)) l (L.take k) = none then 0 else 1) := ⟨_, rfl⟩
      have HLk : Hid ((Instr.lookup 231 (.map (some w.heap.size)) (blkV val8 l) false).run Try.prog v2 = .ok (.int .i64 u) v2) := Lib.hid (by
        rw [Try.k8.lookupG (te := 3) Try.underlying231 (z := .int .i64 0) (fun w => by kernel_rfl) HMp2.out l hl64 HLt.out false, hu]
        cases findB (fun a b => decide (a = b)) l (L.take k) <;> rfl)
      have hbz : w.heap.size = b0 := HBz.out.symm
      rw [hbz] at HLk
      have HU := Lib.hid hu; clear hu
      go_upto_region 5 with (fail)
      refine wp_region_list ?_
      refine wpList_val (v := .map (some b0)) (w' := v2) rfl (by rfl) ?_
      refine wpList_load_mid rfl 120 (.tmp 5) rfl b7 0 (by first | rfl | (rw [HB7.out]; rfl)) (blkC val8 l) (.array 64 91) HR2.out Try.underlying120 rfl (by rw [hbs]; kernel_rfl) ?_
      refine wpList_val (v := .int .i64 u) (w' := v2) rfl (exec_lookup 231 (.tmp 13) (.tmp 14) false rfl (.map (some b0)) (blkV val8 l) _ rfl rfl HLk.out) ?_
      by_cases hf : findB (fun a b => decide (a = b)) l (L.take k) = none
      · have hu0 : u = 0 := by rw [HU.out, if_pos hf]
        have HF := Lib.hid hf; clear hf
        have HU2 := Lib.hid (HUs.out HF.out)
        have HSt := Lib.hid (Try.k8.storeG Try.underlying231 (te := 3) HMp2.out l hl64 HLt.out HF.out (.int .i64 1) rfl)
        have HMp3 : Hid (IdxMapG val8 (fun _ => .int .i64 1) (putB v2 w.heap.size (.map (entsG val8 (fun _ => .int .i64 1) 0 (L.take k ++ [l])).toArray (L.take k ++ [l]).length)) w.heap.size (L.take (k + 1))) := Lib.hid (by
          rw [HTk.out]
          exact putB_same v2 _ (Array.getElem?_eq_some_iff.1 HMp2.out).1)
        have HB3 : Hid (Below w.heap.size w (putB v2 w.heap.size (.map (entsG val8 (fun _ => .int .i64 1) 0 (L.take k ++ [l])).toArray (L.take k ++ [l]).length))) := Lib.hid (HB2.out.trans (below_putB v2 _ _ (Nat.le_refl _)))
        rw [hbz] at HSt HMp3 HB3
        generalize (putB v2 b0 (.map (entsG val8 (fun _ => .int .i64 1) 0 (L.take k ++ [l])).toArray (L.take k ++ [l]).length)) = v3 at *
        subst hu0
        clear hbz
        go_upto_region 7 with (fail)
        refine wp_region_list ?_
        refine wpList_val (v := .map (some b0)) (w' := v2) rfl (by rfl) ?_
        refine wpList_load_mid rfl 120 (.tmp 5) rfl b7 0 (by first | rfl | (rw [HB7.out]; rfl)) (blkC val8 l) (.array 64 91) HR2.out Try.underlying120 rfl (by rw [hbs]; kernel_rfl) ?_
        refine wpList_mapUpdate_val rfl 231 (.tmp 17) (.tmp 18) (.const (.int .i64 1)) rfl (.map (some b0)) (blkV val8 l) (.int .i64 1) rfl rfl rfl HSt.out ?_
        go_wp2
        go_roundw
        case rel => exact ⟨k + 1, by omega, by go_num, HU2.out, by rw [HBz.out] at HMp3; exact HMp3.out, by rw [HBz.out] at HB3; exact HB3.out⟩
        case measure => simp [intOf]; omega
      · have hu1 : u = 1 := by rw [HU.out, if_neg hf]
        have HF := Lib.hid (HUf.out hf); clear hf
        subst hu1
        go_wp2
        go_ret
        exact .inr ⟨rfl, HB2.out, HF.out⟩
    · obtain rfl : k = n := by have := HN.out; omega
      have hki : ¬ (k : Int) < (k : Int) := by omega
      go_wp2
      go_ret
      exact .inl ⟨rfl, HBe.out, HUn.out⟩
end Go.Proofs.Ytabbabkmojaoaaa.VN
