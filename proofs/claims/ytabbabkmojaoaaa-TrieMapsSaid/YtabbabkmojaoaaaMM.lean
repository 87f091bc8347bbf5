/- several texts in one: LMS WM WN WO -/
import Derived.Test.YtabbabkmojaoaaaMI
import Derived.Test.YtabbabkmojaoaaaMK
import Derived.Test.YtabbabkmojaoaaaMJ
import Derived.Test.YtabbabkmojaoaaaML
import Derived.Test.YtabbabkmojaoaaaMD
import Derived.Test.YtabbabkmojaoaaaME
import Derived.Test.YtabbabkmojaoaaaWF
import Derived.Deep.CutRange
import Derived.Test.YtabbabkmojaoaaaTV
set_option linter.unusedVariables false
set_option linter.unusedSimpArgs false
/-
  Plain laws: a trie of values made of numbers, and the document's stages of the numbers (string).
-/
namespace Go.Proofs.Ytabbabkmojaoaaa.VS
open Go.RowKit
theorem blkF_of {F : Nat → Int} {f : Nat → El} {of : Int → El} {N : Nat} (hf : ∀ r, r < N → f r = of (F r)) (k : Nat) (hk : 64 * (k + 1) ≤ N) : blkF f k = (Go.Proofs.Ytabbabkmojaoaaa.blkF F k).map of := by
  apply List.ext_getElem
  · simp [blkF, Go.Proofs.Ytabbabkmojaoaaa.blkF]
  · intro i h1 h2
    simp [blkF] at h1
    simp [blkF, Go.Proofs.Ytabbabkmojaoaaa.blkF, hf (64 * k + i) (by omega)]
theorem mkF_of {F : Nat → Int} {f : Nat → El} {of : Int → El} {N : Nat} (hi : inj8 of) (hf : ∀ r, r < N → f r = of (F r)) (hr : ∀ r, r < N → rng8 (F r)) : ∀ k, 64 * k ≤ N → mkF f k = mapS of (Go.Proofs.Ytabbabkmojaoaaa.mkF F k) ∧ ∀ l ∈ (Go.Proofs.Ytabbabkmojaoaaa.mkF F k).lows, ∀ x ∈ l, rng8 x
  | 0, _ => ⟨rfl, fun l hl => by cases hl⟩
  | k + 1, hk => by
    obtain ⟨h1, h2⟩ := mkF_of hi hf hr k (by omega)
    have hb : ∀ x ∈ Go.Proofs.Ytabbabkmojaoaaa.blkF F k, rng8 x := fun x hx => by
      simp only [Go.Proofs.Ytabbabkmojaoaaa.blkF, List.mem_map, List.mem_range] at hx
      obtain ⟨i, hi, rfl⟩ := hx
      exact hr _ (by omega)
    rw [mkF, Go.Proofs.Ytabbabkmojaoaaa.mkF, h1, blkF_of hf k (by omega)]
    exact ⟨addS_of hi hb h2, addS_rng hb h2⟩
theorem lkOk {F : Nat → Int} {f : Nat → El} {of : Int → El} {S : MkS El} {N M : Nat} (hN : N = 1114112) (hM : M = 17408) (hS : Made8 f S) (hi : inj8 of) (hf : ∀ r, r < N → f r = of (F r)) (hr : ∀ r, r < N → 0 ≤ F r ∧ F r ≤ 255) : LkOk (trieS S) (Go.Proofs.Ytabbabkmojaoaaa.mkF F M) F of N := by
  obtain ⟨K, hK, hSe⟩ := hS.eq
  obtain ⟨h1, h2⟩ := mkF_of hi hf hr M (by omega)
  have hSM : S = mapS of (Go.Proofs.Ytabbabkmojaoaaa.mkF F M) := by rw [hSe, show K = M by omega, h1]
  refine ⟨hS.trie, hS.pos.1, ?_, ?_, ?_, fun r hr' => ?_, hr, hi, h2⟩
  · show S.top = _
    rw [hSM]; rfl
  · show S.mids = _
    rw [hSM]; rfl
  · show S.lows = _
    rw [hSM]; rfl
  · rw [hS.look r (by omega), hf r hr']
end Go.Proofs.Ytabbabkmojaoaaa.VS

/-
  Walks: spans with numbers for the document; the closures of TrieMaps.
-/
namespace Go.Proofs.Ytabbabkmojaoaaa
open Go.RowKit
attribute [local go_sem] Oper.semAt_some

theorem plain1_walk (v : Int) (w : World) (h1 : 0 ≤ v) (h2 : v ≤ 255) : Calls Try.prog 79 #[.int .u8 v] w fun e w' => e = .returned (.int .i64 v) ∧ Below w.heap.size w w' := by
  go_enter Try.func79, Try.ntmps79
  have hw : wrap64 v = v := by unfold wrap64; omega
  go_wp2
  go_ret
  exact ⟨rfl, Below.refl _ _⟩
theorem flatO_get (l : List SpanD) : ∀ (i : Nat) (hi : i < l.length), (VI.flatO (fun x => x) l)[i * 3]? = some (.int .i32 l[i].f) ∧ (VI.flatO (fun x => x) l)[i * 3 + 1]? = some (.int .i32 l[i].t) ∧ (VI.flatO (fun x => x) l)[i * 3 + 2]? = some (.int .i64 l[i].v) := by
  induction l with
  | nil => intro i hi; simp at hi
  | cons s t ih =>
    have e : VI.flatO (fun x => x) (s :: t) = .int .i32 s.f :: .int .i32 s.t :: .int .i64 s.v :: VI.flatO (fun x => x) t := rfl
    intro i hi
    cases i with
    | zero => rw [e]; simp
    | succ i =>
      have := ih i (by simpa using hi)
      rw [e, show (i + 1) * 3 = i * 3 + 1 + 1 + 1 by omega]
      simpa using this
theorem spansK_of_row {B : Nat} {E : TypeId} {w : World} {a : Option Addr} {n c : Nat} {l : List SpanD} (hl : l.length = n) (h : w.ownsRow B E 3 (.slice a n c) n (VI.flatO (fun x => x) l)) : SpansK .i64 w a l := by
  intro i hi
  rcases h.2 with ⟨e, h0⟩ | ⟨g, cap', cur, e, hb, hg, hnc, hcm, hcs, ht⟩
  · omega
  · simp only [Value.slice.injEq] at e
    obtain ⟨rfl, _, rfl⟩ := e
    obtain ⟨h1, h2, h3⟩ := flatO_get l i hi
    have k : ∀ j, j < 3 → w.cell? ⟨g, 0 + i * 3 + j, none⟩ = (VI.flatO (fun x => x) l)[i * 3 + j]? := fun j hj => by
      rw [cell_of_row w g _ _ _ (0, 0) hg, Nat.zero_add, ← Array.getElem?_toList, ← ht, List.getElem?_take_of_lt (by omega)]
    exact ⟨g, 0, rfl, (k 0 (by omega)).trans h1, (k 1 (by omega)).trans h2, (k 2 (by omega)).trans h3⟩
set_option maxRecDepth 100000 in
theorem plain_walk (w : World) (a : Option Addr) (n c : Nat) (l : List SpanD) (hl : l.length = n) (hn : n ≤ 1048576) (hs : SpansAt w a l) (hv : ∀ s ∈ l, 0 ≤ s.v ∧ s.v ≤ 255) :
    Calls Try.prog 35 #[.slice a n c] w fun e w' => ∃ a' c', e = .returned (.slice a' n c') ∧ SpansK .i64 w' a' l ∧ Below w.heap.size w w' := by
  have HS := Lib.hid (VI.spans_walk w a n c l hl hn hs (fun x => x) 79 #[] (enters_of Try.func79 (by kernel_rfl) rfl) (fun s hs' W hb => plain1_walk s.v W (hv s hs').1 (hv s hs').2))
  have HL := Lib.hid hl
  clear hl hs hv
  go_enter Try.func35, Try.ntmps35
  go_wp2_with fail
  refine HS.out.mono ?_
  rintro e w2 ⟨a2, c2, rfl, ho, hb⟩
  have HB := Lib.hid hb; have HO := Lib.hid ho
  clear hb ho HS
  go_wp2
  go_ret
  exact ⟨_, _, rfl, spansK_of_row HL.out HO.out, HB.out⟩

/-- the last run ends behind each number -/
theorem runL_last {F : Nat → Int} {N r i : Nat} (hr : r < N) (h : CurL (runL F N) i r) (hi : i + 1 = (runL F N).length) : (r : Int) ≤ ((runL F N)[i]'(by omega)).1 := by
  by_cases h2 : (r : Int) ≤ ((runL F N)[i]'(by omega)).1
  · exact h2
  · have := runL_more hr (h.next (by omega) (by omega))
    omega
def McR (w2 : World) (bi k : Nat) (L : List (Int × Int)) (iv : Value) (wr : World) : Prop := ∃ i : Nat, i < L.length ∧ CurL L i k ∧ wr.heap[bi]? = some (.cells #[.int .i64 (i : Nat)] 3 (0, 0)) ∧ w2.grownBy wr (some bi)
def mQ (k M : Nat) (wr : World) : Nat := match wr.cell? ⟨M, 0, none⟩ with
  | some (Value.int _ x) => (k - x).toNat
  | _ => 0
theorem mQ_of {k M j : Nat} {wr : World} (h : wr.heap[M]? = some (.cells #[.int .i64 (j : Nat)] 3 (0, 0))) : mQ k M wr = k - j := by
  have hc : wr.cell? ⟨M, 0, none⟩ = some (.int .i64 (j : Nat)) := cell_of_row wr M 0 _ _ (0, 0) h
  unfold mQ
  rw [hc]
  simp only
  omega
/-- between two calls of the closure: the next number, the place among the runs -/
structure McJ (w0 w10 : World) (B bn : Nat) (L : List (Int × Int)) (k : Nat) (W : World) : Prop where
  le : k ≤ 1114112
  bel : Below bn w10 W
  cn : W.heap[bn]? = some (.cells #[.int .i32 (k : Nat)] 21 (0, 0))
  ci : ∃ i : Nat, i < L.length ∧ CurL L i k ∧ W.heap[bn + 1]? = some (.cells #[.int .i64 (i : Nat)] 3 (0, 0))
  cr : W.heap[bn + 2]? = some (.cells #[.bool true] 4 (0, 0))
theorem McJ.below {w0 w10 W W' : World} {B bn B' k : Nat} {L : List (Int × Int)} (h : McJ w0 w10 B bn L k W) (hb : Below B' W W') (hB : bn + 3 ≤ B') : McJ w0 w10 B bn L k W' := by
  obtain ⟨i, h1, h2, h3⟩ := h.ci
  exact ⟨h.le, h.bel.trans (hb.mono (by omega)), (hb.block _ (by omega)).trans h.cn, ⟨i, h1, h2, (hb.block _ (by omega)).trans h3⟩, (hb.block _ (by omega)).trans h.cr⟩
set_option maxRecDepth 100000 in
set_option maxHeartbeats 1600000 in
theorem maps1_walk (w0 w10 : World) (B bf bn k : Nat) (F : Nat → Int) (N : Nat) (hN : N = 1114112) (aT : Option Addr) (cT : Nat) (aV : Option Addr) (cV nR : Nat) (hnR : nR = (runL F N).length) (hr : ∀ r, r < N → 0 ≤ F r ∧ F r ≤ 255)
    (hf : w10.heap[bf]? = some (.cells #[.slice aT nR cT, .slice aV nR cV] 63 (0, 0))) (hT : Ints .i32 w10 aT ((runL F N).map (·.1))) (hV : Ints .i64 w10 aV ((runL F N).map (·.2))) (hw10 : w10.heap.size = bn) (W : World) (hk : k < N) (hJ : McJ w0 w10 B bn (runL F N) k W) :
    Calls Try.prog 37 #[.int .i32 (k : Nat), .pointer (some ⟨bn + 2, 0, none⟩), .pointer (some ⟨bn, 0, none⟩), .pointer (some ⟨bn + 1, 0, none⟩), .pointer (some ⟨bf, 0, none⟩)] W fun e W' => e = .returned (.int .u8 (F k)) ∧ McJ w0 w10 B bn (runL F N) (k + 1) W' ∧ Keeps (bn + 3) W W' := by
  obtain ⟨hk2, hbel, hcn, ⟨i, hi1, hi2, hci⟩, hcr⟩ := hJ
  have hfk := hr k hk
  have hnl : nR ≤ 1114112 := by rw [hnR, ← hN]; exact runL_length F N
  have HN := Lib.hid hN; have HNr := Lib.hid hnR; have HF := Lib.hid hf; have HT := Lib.hid hT; have HV := Lib.hid hV; have HZ := Lib.hid hw10
  have HB := Lib.hid hbel
  clear hN hnR hf hT hV hw10 hbel hr
  have hkN : k < 1114112 := by have := HN.out; omega
  have h3 : bn + 2 < W.heap.size := (Array.getElem?_eq_some_iff.1 hcr).1
  have qr : W.cell? ⟨bn + 2, 0, none⟩ = some (.bool true) := cell_of_row W (bn + 2) 0 _ _ (0, 0) hcr
  have fr := frozen_of_row W (bn + 2) 0 _ _ hcr
  have qn : W.cell? ⟨bn, 0, none⟩ = some (.int .i32 (k : Nat)) := cell_of_row W bn 0 _ _ (0, 0) hcn
  have y1 := heap_setCell_same W (bn + 2) 0 _ _ (.bool true) hcr
  have y2 := (heap_setCell_other W ⟨bn + 2, 0, none⟩ bn (.bool true) (by simp <;> omega)).trans hcn
  have y3 := (heap_setCell_other W ⟨bn + 2, 0, none⟩ (bn + 1) (.bool true) (by simp <;> omega)).trans hci
  have y4 := grown_store W (bn + 2) 0 (.bool true)
  generalize hW1 : W.setCell ⟨bn + 2, 0, none⟩ (.bool true) = W1 at *
  have fn := frozen_of_row W1 bn 0 _ _ y2
  have qn1 : W1.cell? ⟨bn, 0, none⟩ = some (.int .i32 (k : Nat)) := cell_of_row W1 bn 0 _ _ (0, 0) y2
  have z1 := heap_setCell_same W1 bn 0 _ _ (.int .i32 ((k : Int) + 1)) y2
  have z2 := (heap_setCell_other W1 ⟨bn, 0, none⟩ (bn + 2) (.int .i32 ((k : Int) + 1)) (by simp <;> omega)).trans y1
  have z3 := (heap_setCell_other W1 ⟨bn, 0, none⟩ (bn + 1) (.int .i32 ((k : Int) + 1)) (by simp <;> omega)).trans y3
  have z4 := grown_store W1 bn 0 (.int .i32 ((k : Int) + 1))
  have hz5 : W1.heap.size = W.heap.size := by rw [← hW1]; simp
  generalize hW2 : W1.setCell ⟨bn, 0, none⟩ (.int .i32 ((k : Int) + 1)) = W2 at *
  have hz6 : W2.heap.size = W1.heap.size := by rw [← hW2]; simp
  have HK2 : Hid (Keeps (bn + 3) W W2) := Lib.hid ⟨z4.os.trans y4.os, z4.tape.trans y4.tape, z4.output.trans y4.output, by omega, fun b hb hb2 => (z4.block b (by omega) (fun e => by simp at e; omega)).trans (y4.block b hb2 (fun e => by simp at e; omega))⟩
  have HB2 : Hid (Below bn w10 W2) := Lib.hid ((HB.out.grown y4 (by omega) (fun q e => by cases e; omega)).grown z4 (by omega) (fun q e => by cases e; omega))
  have HI2 : Hid (W2.heap[bn]? = some (.cells #[.int .i32 ((k : Int) + 1)] 21 (0, 0)) ∧ W2.heap[bn + 1]? = some (.cells #[.int .i64 (i : Nat)] 3 (0, 0)) ∧ W2.heap[bn + 2]? = some (.cells #[.bool true] 4 (0, 0))) := Lib.hid ⟨z1, z3, z2⟩
  have HC := Lib.hid (And.intro hi1 hi2)
  have HW := Lib.hid (And.intro hW1 hW2)
  have HSz := Lib.hid (show bn + 3 ≤ W2.heap.size by omega)
  clear y1 y2 y3 y4 z1 z2 z3 z4 hz5 hz6 hi1 hi2 hcn hci hcr
  go_enter Try.func37, Try.ntmps37
  go_wp2
  clear hW1 hW2 qr fr qn fn qn1
  go_loopw [15] (McR W2 (bn + 1) k (runL F N)) (fun _ wr => mQ nR (bn + 1) wr)
  case atStart => exact ⟨i, HC.out.1, HC.out.2, HI2.out.2.1, grown_refl _ _⟩
  case round =>
    obtain ⟨i2, hi1, hi2, hci, hg⟩ := hrel
    have HCi := Lib.hid hci; have HG := Lib.hid hg
    have HBr : Hid (Below bn w10 wr) := Lib.hid (HB2.out.grown hg (by have := HSz.out; omega) (fun q e => by cases e; omega))
    have x0 := (HBr.out.block bf (by have := (Array.getElem?_eq_some_iff.1 HF.out).1; have := HZ.out; omega)).trans HF.out
    have q0 : wr.cell? ⟨bf, 0, none⟩ = some (.slice aT nR cT) := cell_of_row wr bf 0 _ _ (0, 0) x0
    have q1 : wr.cell? ⟨bf, 1, none⟩ = some (.slice aV nR cV) := cell_of_row wr bf 1 _ _ (0, 0) x0
    have qi : wr.cell? ⟨bn + 1, 0, none⟩ = some (.int .i64 (i2 : Nat)) := cell_of_row wr (bn + 1) 0 _ _ (0, 0) hci
    have fi := frozen_of_row wr (bn + 1) 0 _ _ hci
    obtain ⟨b1, o1, ea1, c1⟩ := (HT.out.below HBr.out (by rw [HZ.out]; exact Nat.le_refl _)) i2 (by rw [List.length_map]; exact hi1)
    obtain ⟨b2, o2, ea2, c2⟩ := (HV.out.below HBr.out (by rw [HZ.out]; exact Nat.le_refl _)) i2 (by rw [List.length_map]; exact hi1)
    subst ea1 ea2
    simp only [List.getElem_map] at c1 c2
    have hin : i2 < nR := by rw [HNr.out]; exact hi1
    have hini : (i2 : Int) < (nR : Int) := by omega
    have HLs := Lib.hid (fun (h : i2 + 1 = nR) => show (k : Int) ≤ ((runL F N)[i2]).1 from runL_last (F := F) (N := N) (r := k) hk hi2 (by rw [h]; exact HNr.out))
    have HNx := Lib.hid (fun h => hi2.next hi1 h)
    have HAt := Lib.hid (fun h => runL_at (N := N) hk hi2 hi1 h)
    have HM2 := Lib.hid (fun (h : i2 + 1 < nR) => show i2 + 1 < (runL F N).length by rw [← HNr.out]; exact h)
    generalize (runL F N)[i2] = x at *
    have HX := Lib.hid (And.intro hi1 hi2)
    clear hci hg x0 hi1 hi2
    go_upto_region 3 with (fail)
    go_cut [29] from 15 to 29 (fun p wx => p = .bool (decide (i2 + 1 < nR ∧ x.1 < (k : Int))) ∧ wx = wr)
    case first =>
      by_cases h1 : i2 + 1 < nR
      · have hi3 : (i2 : Int) < (nR : Int) - 1 := by omega
        have d3 : decide ((i2 : Int) < (nR : Int) - 1) = true := decide_eq_true hi3
        by_cases h2 : x.1 < (k : Int)
        · have H3 := Lib.hid (decide_eq_true (p := i2 + 1 < nR ∧ x.1 < (k : Int)) ⟨h1, h2⟩)
          go_wp2
          go_meet
          exact ⟨congrArg Value.bool H3.out.symm, by first | rfl | trivial⟩
        · have H3 := Lib.hid (decide_eq_false (p := i2 + 1 < nR ∧ x.1 < (k : Int)) (fun h => h2 h.2))
          go_wp2
          go_meet
          exact ⟨congrArg Value.bool H3.out.symm, by first | rfl | trivial⟩
      · have hi3 : ¬ (i2 : Int) < (nR : Int) - 1 := by omega
        have d3 : decide ((i2 : Int) < (nR : Int) - 1) = false := decide_eq_false hi3
        have H3 := Lib.hid (decide_eq_false (p := i2 + 1 < nR ∧ x.1 < (k : Int)) (fun h => h1 h.1))
        go_wp2
        go_meet
        exact ⟨congrArg Value.bool H3.out.symm, by first | rfl | trivial⟩
    case rest =>
    obtain ⟨rfl, rfl⟩ := hcut
    by_cases hp : i2 + 1 < nR ∧ x.1 < (k : Int)
    · rw [decide_eq_true hp]
      obtain ⟨h1, h2⟩ := hp
      have y1 := heap_setCell_same wc (bn + 1) 0 _ _ (.int .i64 ((i2 : Int) + 1)) HCi.out
      have HY := Lib.hid (And.intro y1 (grown_trans HG.out (grown_store wc (bn + 1) 0 (.int .i64 ((i2 : Int) + 1)))))
      clear y1
      have hcast : ((i2 + 1 : Nat) : Int) = (i2 : Int) + 1 := by omega
      go_wp2
      go_roundw
      case rel => exact ⟨i2 + 1, HM2.out h1, HNx.out h2, by rw [hcast]; exact HY.out.1, HY.out.2⟩
      case measure =>
        rw [mQ_of HCi.out, mQ_of (j := i2 + 1) (by rw [hcast]; exact HY.out.1)]
        omega
    · rw [decide_eq_false hp]
      have hle : (k : Int) ≤ x.1 := by
        by_cases h : i2 + 1 < nR
        · have : ¬ x.1 < (k : Int) := fun h2 => hp ⟨h, h2⟩
          omega
        · exact HLs.out (by omega)
      have hF := HAt.out hle
      rw [hF] at c2
      have hwv : IntKind.u8.wrap (F k) = F k := by simp [IntKind.wrap, IntKind.bits, IntKind.signed]; omega
      have HFk := Lib.hid hF
      clear hF hle hp
      go_wp2
      go_ret
      have hcn := (HG.out.block bn (by have := HSz.out; omega) (by simp)).trans HI2.out.1
      have hcr := (HG.out.block (bn + 2) (by have := HSz.out; omega) (by simp)).trans HI2.out.2.2
      refine ⟨rfl, ⟨by omega, HBr.out, hcn, ⟨i2, HX.out.1, HX.out.2.mono (by omega), HCi.out⟩, hcr⟩, ?_⟩
      have hk2 := HK2.out
      refine ⟨HG.out.os.trans hk2.os, HG.out.tape.trans hk2.tape, HG.out.output.trans hk2.output, Nat.le_trans hk2.size HG.out.size, fun b hb hb2 => (HG.out.block b (Nat.lt_of_lt_of_le hb2 hk2.size) (fun e => by simp at e; omega)).trans (hk2.block b hb hb2)⟩
end Go.Proofs.Ytabbabkmojaoaaa

/-
  The walk of TrieMaps.
-/
namespace Go.Proofs.Ytabbabkmojaoaaa
open Go.RowKit
attribute [local go_sem] Oper.semAt_some

theorem runL_congr {F G : Nat → Int} : ∀ n, (∀ r, r < n → F r = G r) → runL F n = runL G n
  | 0, _ => rfl
  | n + 1, h => by rw [runL, runL, runL_congr n (fun r hr => h r (by omega)), h n (by omega)]
theorem runL_inj {F G : Nat → Int} (n : Nat) : runL F n = runL G n ↔ ∀ r, r < n → F r = G r := by
  refine ⟨fun h r hr => ?_, runL_congr n⟩
  obtain ⟨A, x, B, k1, k2, k3, k4⟩ := runL_find F n r hr
  have hl : A.length < (runL G n).length := by rw [← h, k1]; simp
  have hx : (runL G n)[A.length] = x := by simp only [← h, k1]; rw [List.getElem_append_right (by omega)]; simp
  have hc : CurL (runL G n) A.length r := fun j hj hjA => by
    have : (runL G n)[j] ∈ A := by simp only [← h, k1]; rw [List.getElem_append_left hjA]; exact List.getElem_mem hjA
    exact k2 _ this
  have := runL_at hr hc hl (by rw [hx]; exact k3)
  rw [hx] at this
  rw [← k4, this]
theorem exec_callN {P : Program} {o : Oper} {a : Act} {w : World} (f : FuncId) (xs : Array Operand) (ts : Array TypeId) (ho : o.op = .call { callee := .value (.func f), args := xs, argTypes := ts }) (vs : Array Value) (hv : xs.map a.eval = vs) (eg : ∀ args W, (callFunc f args).run P W = .ok (.enter f args) W) :
    (execOp a.eval o).run P w = .ok (.enter f vs) w := by
  subst hv
  unfold execOp
  simp only [ho]
  simp [resolve, invoke, go_sem, eg, Act.eval]
def turnF (add most v : Int) : Int := minI (IntKind.u8.wrap (v + add)) most
theorem wrap8_rng (x : Int) : 0 ≤ IntKind.u8.wrap x ∧ IntKind.u8.wrap x ≤ 255 := by
  simp [IntKind.wrap, IntKind.bits, IntKind.signed]
  omega
theorem turnF_rng {add most : Int} (hm : 0 ≤ most ∧ most ≤ 255) (v : Int) : 0 ≤ turnF add most v ∧ turnF add most v ≤ 255 := by
  unfold turnF minI
  have := wrap8_rng (v + add)
  split <;> omega
set_option maxRecDepth 10000 in
theorem maps2_walk (v add most : Int) (b1 b2 : Nat) (w : World) (h1 : w.cell? ⟨b1, 0, none⟩ = some (.int .u8 add)) (h2 : w.cell? ⟨b2, 0, none⟩ = some (.int .u8 most)) :
    Calls Try.prog 40 #[.int .u8 v, .pointer (some ⟨b1, 0, none⟩), .pointer (some ⟨b2, 0, none⟩)] w fun e w' => e = .returned (.int .u8 (turnF add most v)) ∧ w' = w := by
  have hm : ∀ (w : World) (ts : Array TypeId) (t : TypeId), (Builtin.min_ ts t #[.int .u8 (IntKind.u8.wrap (v + add)), .int .u8 most]).run Try.prog w = .ok (.int .u8 (turnF add most v)) w := fun w ts t => run_min_int2 w ts t _ _ _ _
  generalize turnF add most v = m at *
  go_enter Try.func40, Try.ntmps40
  go_upto_region 1 with (fail)
  refine wp_region_list ?_
  refine wpList_val (v := .int .u8 v) (w' := w) rfl (by rfl) ?_
  refine wpList_val (v := .int .u8 add) (w' := w) rfl (by go_simp) ?_
  refine wpList_val (v := .int .u8 (IntKind.u8.wrap (v + add))) (w' := w) rfl (by go_simp) ?_
  refine wpList_val (v := .int .u8 most) (w' := w) rfl (by go_simp) ?_
  refine wpList_val (v := .int .u8 m) (w' := w) rfl (exec_min (.tmp 7) (.tmp 8) _ rfl .u8 _ most m rfl rfl (hm _ _ _)) ?_
  go_wp2
  go_ret
  exact ⟨rfl, rfl⟩
end Go.Proofs.Ytabbabkmojaoaaa

/-
  The walk of TrieMaps.
-/
namespace Go.Proofs.Ytabbabkmojaoaaa
open Go.RowKit
attribute [local go_sem] Oper.semAt_some

theorem three_boxes (w : World) (c0 c1 c2 : Array Value) (t0 t1 t2 : TypeId) : Below w.heap.size w (((w.alloc (.cells c0 t0)).alloc (.cells c1 t1)).alloc (.cells c2 t2)) ∧ (((w.alloc (.cells c0 t0)).alloc (.cells c1 t1)).alloc (.cells c2 t2)).heap[w.heap.size]? = some (.cells c0 t0 (0, 0)) ∧
    (((w.alloc (.cells c0 t0)).alloc (.cells c1 t1)).alloc (.cells c2 t2)).heap[w.heap.size + 1]? = some (.cells c1 t1 (0, 0)) ∧ (((w.alloc (.cells c0 t0)).alloc (.cells c1 t1)).alloc (.cells c2 t2)).heap[w.heap.size + 2]? = some (.cells c2 t2 (0, 0)) ∧ (((w.alloc (.cells c0 t0)).alloc (.cells c1 t1)).alloc (.cells c2 t2)).heap.size = w.heap.size + 3 := by
  obtain ⟨h1, h2, h3, h4⟩ := two_boxes w c0 c1 t0 t1
  have h5 := (Below.refl _ ((w.alloc (.cells c0 t0)).alloc (.cells c1 t1))).alloc (Nat.le_refl _) (.cells c2 t2)
  have h6 := heap_alloc_new ((w.alloc (.cells c0 t0)).alloc (.cells c1 t1)) (.cells c2 t2)
  rw [h4] at h6
  exact ⟨h1.trans (h5.mono h1.size), (h5.block _ (by omega)).trans h2, (h5.block _ (by omega)).trans h3, h6, by rw [World.size_alloc, h4]⟩
theorem fS_rng {rest : Int} {l : List SpanD} (hr : 0 ≤ rest ∧ rest ≤ 255) (hv : ∀ s ∈ l, 0 ≤ s.v ∧ s.v ≤ 255) (r : Nat) : 0 ≤ fS rest l r ∧ fS rest l r ≤ 255 := by
  unfold fS
  by_cases h0 : ownF l (r : Nat) = 0
  · rw [if_pos h0]; exact hr
  · rw [if_neg h0]
    obtain ⟨i, hi, -, h2⟩ := ownF_some h0
    rw [h2, show ((i : Int) + 1 - 1).toNat = i by omega]
    have : l.getD i default = l[i] := by simp [hi]
    rw [this]
    exact hv _ (List.getElem_mem hi)
/-- the list that turns values -/
def OfR (w0 : World) (h : Int → Int) (ov iv : Value) (wr : World) : Prop := ∃ (k : Nat) (a : Option Addr) (c : Nat), k ≤ 256 ∧ iv = .int .i64 (k : Nat) ∧ ov = .slice a k c ∧ Own w0.heap.size 3 wr a k c (ivs .i64 ((List.range k).map (fun v => h (v : Nat)))) ∧ Below w0.heap.size w0 wr
theorem inj8_id : inj8 (fun x : Int => x) := fun x y _ _ _ _ h => h
theorem inj8_textB : inj8 textB := fun x y h1 h2 h3 h4 h => by
  unfold textB strOfNums at h
  have h := congrArg (fun b : ByteArray => b.data.toList.head?) h
  simp at h
  have h5 := congrArg UInt8.toNat h
  simp at h5
  omega
/-- the boxes that stay: the numbers' function, the turned one, the stages -/
def C7 (bf bg bs : Nat) (f0 f1 g0 g1 s0 s1 s2 : Value) (w : World) : Prop := w.heap[bf]? = some (.cells #[f0, f1] 63 (0, 0)) ∧ w.heap[bg]? = some (.cells #[g0, g1] 63 (0, 0)) ∧ w.heap[bs]? = some (.cells #[s0, s1, s2] 70 (0, 0))
theorem C7.below {bf bg bs : Nat} {f0 f1 g0 g1 s0 s1 s2 : Value} {w w' : World} (h : C7 bf bg bs f0 f1 g0 g1 s0 s1 s2 w) (hb : Below w.heap.size w w') : C7 bf bg bs f0 f1 g0 g1 s0 s1 s2 w' :=
  ⟨(hb.block bf (Array.getElem?_eq_some_iff.1 h.1).1).trans h.1, (hb.block bg (Array.getElem?_eq_some_iff.1 h.2.1).1).trans h.2.1, (hb.block bs (Array.getElem?_eq_some_iff.1 h.2.2).1).trans h.2.2⟩
theorem C7.get {bf bg bs : Nat} {f0 f1 g0 g1 s0 s1 s2 : Value} {w : World} (h : C7 bf bg bs f0 f1 g0 g1 s0 s1 s2 w) : w.cell? ⟨bf, 0, none⟩ = some f0 ∧ w.cell? ⟨bf, 1, none⟩ = some f1 ∧ w.cell? ⟨bg, 0, none⟩ = some g0 ∧ w.cell? ⟨bg, 1, none⟩ = some g1 ∧ w.cell? ⟨bs, 0, none⟩ = some s0 ∧ w.cell? ⟨bs, 1, none⟩ = some s1 ∧ w.cell? ⟨bs, 2, none⟩ = some s2 :=
  ⟨cell_of_row w bf 0 _ _ (0, 0) h.1, cell_of_row w bf 1 _ _ (0, 0) h.1, cell_of_row w bg 0 _ _ (0, 0) h.2.1, cell_of_row w bg 1 _ _ (0, 0) h.2.1, cell_of_row w bs 0 _ _ (0, 0) h.2.2, cell_of_row w bs 1 _ _ (0, 0) h.2.2, cell_of_row w bs 2 _ _ (0, 0) h.2.2⟩
set_option maxRecDepth 100000 in
set_option maxHeartbeats 4000000 in
theorem trieMaps_walk (rest : Int) (a : Option Addr) (n c : Nat) (l : List SpanD) (add most : Int) (w : World) (hl : l.length = n) (hs : SpansAt w a l) (hwf : ∀ s ∈ l, -2147483648 ≤ s.f ∧ s.f ≤ 2147483647 ∧ -2147483648 ≤ s.t ∧ s.t ≤ 2147483647) (hv : ∀ s ∈ l, 0 ≤ s.v ∧ s.v ≤ 255) (hr : 0 ≤ rest ∧ rest ≤ 255) (hmo : 0 ≤ most ∧ most ≤ 255) :
    Calls Try.prog 7 #[.int .u8 rest, .slice a n c, .int .u8 add, .int .u8 most] w fun e w' => e = .returned (.bool true) ∧ Below w.heap.size w w' := by
  have HL := Lib.hid hl; have HS := Lib.hid hs; have HWf := Lib.hid hwf; have HV := Lib.hid hv; have HMo := Lib.hid hmo; have HR := Lib.hid hr
  clear hl hs hwf hv hmo
  obtain ⟨b0, hb0⟩ : ∃ b0, b0 = w.heap.size := ⟨_, rfl⟩
  obtain ⟨W1, hW1⟩ : ∃ W1, W1 = (w.alloc (.cells #[.int .u8 add] 5)).alloc (.cells #[.int .u8 most] 5) := ⟨_, rfl⟩
  have HP : Hid (Below w.heap.size w W1 ∧ W1.heap[b0]? = some (.cells #[.int .u8 add] 5 (0, 0)) ∧ W1.heap[b0 + 1]? = some (.cells #[.int .u8 most] 5 (0, 0)) ∧ W1.heap.size = b0 + 2) := Lib.hid (by
    rw [hb0, hW1]
    exact two_boxes w _ _ _ _)
  have HW := Lib.hid hW1; have HB0 := Lib.hid hb0; clear hW1 hb0
  go_enter Try.func7, Try.ntmps7
  go_upto_region 1 with (fail)
  rw [← HB0.out, ← HW.out]
  by_cases h6 : 60 < n
  · have h6i : (60 : Int) < (n : Int) := by omega
    go_wp2_with fail
    refine (awake_walk _).mono ?_
    rintro e w3 ⟨rfl, hb⟩
    have HB3 := Lib.hid (HP.out.1.trans (hb.mono HP.out.1.size)); clear hb
    go_wp2
    go_ret
    exact ⟨rfl, HB3.out⟩
  have h6i : ¬ (60 : Int) < (n : Int) := by omega
  have HS1 := Lib.hid (HS.out.below HP.out.1 (fun b o e h0 => by obtain ⟨b', o', e', h1, -⟩ := HS.out 0 h0; rw [e] at e'; cases e'; exact World.block_lt_of_cell? w _ h1))
  have hwr : wrap64 rest = rest := by unfold wrap64; omega
  go_wp2_with fail
  refine (plain_walk W1 a n c l HL.out (by omega) HS1.out HV.out).mono ?_
  rintro e w2 ⟨a2, c2, rfl, hk, hb⟩
  have HB2 := Lib.hid hb; have HK2 := Lib.hid hk
  clear hb hk
  go_wp2_with fail
  refine (refBuild_walk rest a2 n c2 l w2 HL.out (by omega) HK2.out HWf.out).mono ?_
  rintro e w3 ⟨hb3, fv, hpost⟩
  have HB3 := Lib.hid (HB2.out.trans (hb3.mono HB2.out.size))
  have HB03 := Lib.hid (HP.out.1.trans (HB3.out.mono HP.out.1.size))
  clear hb3 hwr HB2 HK2
  rcases hpost with ⟨i, hi, -, -, rfl, rfl⟩ | ⟨-, k, hk, -, -, rfl, rfl⟩ | ⟨hok, rfl, hfn⟩
  · go_wp2_with fail
    refine (awake_walk _).mono ?_
    rintro e w4 ⟨rfl, hb⟩
    have HB4 : Hid (Below w.heap.size w w4) := Lib.hid (HB03.out.trans ((((Below.refl _ w3).alloc (Nat.le_refl _) _).trans (hb.mono (by simp))).mono HB03.out.size))
    clear hb
    go_wp2
    go_ret
    exact ⟨rfl, HB4.out⟩
  · go_wp2_with fail
    refine (awake_walk _).mono ?_
    rintro e w4 ⟨rfl, hb⟩
    have HB4 : Hid (Below w.heap.size w w4) := Lib.hid (HB03.out.trans ((((Below.refl _ w3).alloc (Nat.le_refl _) _).trans (hb.mono (by simp))).mono HB03.out.size))
    clear hb
    go_wp2
    go_ret
    exact ⟨rfl, HB4.out⟩
  obtain ⟨N, hN⟩ : ∃ N, N = 1114112 := ⟨_, rfl⟩
  obtain ⟨M, hM⟩ : ∃ M, M = 17408 := ⟨_, rfl⟩
  rw [← hN] at hfn
  obtain ⟨F, hF⟩ : ∃ F, F = fS rest l := ⟨_, rfl⟩
  rw [← hF] at hfn
  have HRg : Hid (∀ r, r < N → 0 ≤ F r ∧ F r ≤ 255) := Lib.hid (fun r _ => by rw [hF]; exact fS_rng HR.out HV.out r)
  clear hF hok
  obtain ⟨aT, cT, aV, cV, rfl, hT, hVv, hn1, hn2⟩ := hfn
  have hnRl : (runL F N).length ≤ 1114112 := by rw [← hN]; exact runL_length F N
  obtain ⟨nR, hnR⟩ : ∃ nR, nR = (runL F N).length := ⟨_, rfl⟩
  rw [← hnR] at hnRl ⊢
  have HN := Lib.hid hN; have HM := Lib.hid hM; have HnR := Lib.hid hnR; have HT3 := Lib.hid hT; have HV3 := Lib.hid hVv; have HNn := Lib.hid (And.intro hn1 hn2)
  clear hN hM hnR hT hVv hn1 hn2
  obtain ⟨bf, hbf⟩ : ∃ bf, bf = w3.heap.size := ⟨_, rfl⟩
  have A1 := heap_alloc_new w3 (.cells #[.slice aT nR cT, .slice aV nR cV] 63)
  have A2 := (Below.refl _ w3).alloc (Nat.le_refl _) (.cells #[.slice aT nR cT, .slice aV nR cV] 63)
  have A3 := World.size_alloc w3 (.cells #[.slice aT nR cT, .slice aV nR cV] 63)
  rw [← hbf] at A1 A3
  have HBf := Lib.hid hbf; clear hbf
  obtain ⟨w4, hw4⟩ : ∃ w4, w4 = w3.alloc (.cells #[.slice aT nR cT, .slice aV nR cV] 63) := ⟨_, rfl⟩
  rw [← hw4] at A1 A2 A3
  obtain ⟨wB, hwB⟩ : ∃ wB, wB = ((w4.alloc (.cells #[.int .i32 0] 21)).alloc (.cells #[.int .i64 0] 3)).alloc (.cells #[.bool true] 4) := ⟨_, rfl⟩
  have H3 : Hid (Below w4.heap.size w4 wB ∧ wB.heap[bf + 1]? = some (.cells #[.int .i32 0] 21 (0, 0)) ∧ wB.heap[bf + 1 + 1]? = some (.cells #[.int .i64 0] 3 (0, 0)) ∧ wB.heap[bf + 1 + 2]? = some (.cells #[.bool true] 4 (0, 0)) ∧ wB.heap.size = bf + 1 + 3) := Lib.hid (by
    rw [← A3, hwB]
    exact three_boxes w4 _ _ _ _ _ _)
  have HA := Lib.hid (And.intro A1 (And.intro A2 A3)); have HW4 := Lib.hid hw4; have HWB := Lib.hid hwB
  clear A1 A2 A3 hw4 hwB
  go_upto_region 8 with (fail)
  rw [← HW4.out, ← HWB.out, ← HBf.out]
  have HFl := Lib.hid (Fill8_walk 37 #[.pointer (some ⟨bf + 1 + 2, 0, none⟩), .pointer (some ⟨bf + 1, 0, none⟩), .pointer (some ⟨bf + 1 + 1, 0, none⟩), .pointer (some ⟨bf, 0, none⟩)] wB F (fun k W => McJ w w4 0 (bf + 1) (runL F N) k W) (enters_of Try.func37 (by kernel_rfl) rfl)
    (fun k W W' h hb => h.below hb (by have := H3.out.2.2.2.2; omega))
    (fun k W hk hJ hs => by
      rw [H3.out.2.2.2.2]
      exact maps1_walk w w4 0 bf (bf + 1) k F N HN.out aT cT aV cV nR HnR.out HRg.out HA.out.1 (HT3.out.below HA.out.2.1 (Nat.le_refl _)) (HV3.out.below HA.out.2.1 (Nat.le_refl _)) HA.out.2.2 W (by rw [HN.out]; exact hk) hJ)
    ⟨Nat.zero_le _, by rw [← HA.out.2.2]; exact H3.out.1, H3.out.2.1, ⟨0, runL_more (r := 0) (by rw [HN.out]; omega) (fun j _ h => absurd h (Nat.not_lt_zero _)), fun j _ h => absurd h (Nat.not_lt_zero _), H3.out.2.2.1⟩, H3.out.2.2.2.1⟩)
  go_wp2_with fail
  refine HFl.out.mono ?_
  clear HFl
  rintro e w5 ⟨g, rfl, hg, ⟨am, cm, al, cl, hmk⟩, hJ⟩
  rw [← HM.out] at hmk
  have hMade := made8 F M HM.out
  generalize hS : mkF F M = S at hmk hMade
  have HS := Lib.hid hS; have HMade := Lib.hid hMade
  have HTr := Lib.hid (trieS_at hMade hmk)
  clear hS hmk hMade
  obtain ⟨-, hbel, hcn, -, hcr⟩ := hJ
  have hfb := (hbel.block bf (by omega)).trans HA.out.1
  have q0 : w5.cell? ⟨bf, 0, none⟩ = some (.slice aT nR cT) := cell_of_row w5 bf 0 _ _ (0, 0) hfb
  have q1 : w5.cell? ⟨bf, 1, none⟩ = some (.slice aV nR cV) := cell_of_row w5 bf 1 _ _ (0, 0) hfb
  have HC5 := Lib.hid (And.intro hfb (And.intro hcn hcr)); have HB5 := Lib.hid hbel
  have hT5 : FnAt w5 (.agg #[.slice aT nR cT, .slice aV nR cV]) (runL F N) := by
    rw [HnR.out]
    have hb35 : Below w3.heap.size w3 w5 := HA.out.2.1.trans (HB5.out.mono (by have := HBf.out; omega))
    exact ⟨aT, cT, aV, cV, rfl, HT3.out.below hb35 (Nat.le_refl _), HV3.out.below hb35 (Nat.le_refl _), HNn.out.1, HNn.out.2⟩
  have HF5 := Lib.hid hT5
  clear hT5 hfb hcn hcr hbel hg
  go_wp2_with fail
  refine (refStages_walk w5 _ F N M HN.out HM.out HF5.out).mono ?_
  rintro e w6 ⟨sv, rfl, hsv, hb⟩
  obtain ⟨sT, dT, sM, dM, sL, dL, rfl, k1, k2, k3⟩ := hsv
  have HB6 := Lib.hid hb
  rw [HS.out] at k1 k2 k3 ⊢
  have HSt6 : Hid (StagesAt w6 (.agg #[.slice sT S.top.length dT, .slice sM (64 * S.mids.length) dM, .slice sL (64 * S.lows.length) dL]) S) := Lib.hid ⟨sT, dT, sM, dM, sL, dL, rfl, k1, k2, k3⟩
  clear hb k1 k2 k3 q0 q1
  obtain ⟨bs, hbs⟩ : ∃ bs, bs = w6.heap.size := ⟨_, rfl⟩
  have A1 := heap_alloc_new w6 (.cells #[.slice sT S.top.length dT, .slice sM (64 * S.mids.length) dM, .slice sL (64 * S.lows.length) dL] 70)
  have A2 := HB6.out.alloc HB6.out.size (.cells #[.slice sT S.top.length dT, .slice sM (64 * S.mids.length) dM, .slice sL (64 * S.lows.length) dL] 70)
  have A3 := (Below.refl _ w6).alloc (Nat.le_refl _) (.cells #[.slice sT S.top.length dT, .slice sM (64 * S.mids.length) dM, .slice sL (64 * S.lows.length) dL] 70)
  rw [← hbs] at A1
  obtain ⟨w7, hw7⟩ : ∃ w7, w7 = w6.alloc (.cells #[.slice sT S.top.length dT, .slice sM (64 * S.mids.length) dM, .slice sL (64 * S.lows.length) dL] 70) := ⟨_, rfl⟩
  rw [← hw7] at A1 A2 A3
  have hlt := (Array.getElem?_eq_some_iff.1 HC5.out.2.2).1
  have x0 := (A2.block bf (by omega)).trans HC5.out.1
  have x1 := (A2.block (bf + 1) (by omega)).trans HC5.out.2.1
  have x2 := (A2.block (bf + 1 + 2) (by omega)).trans HC5.out.2.2
  have hT7 := HTr.out.below A2 (Nat.le_refl _)
  have hF7 := HF5.out.below A2
  have hS7 : StagesAt w7 (.agg #[.slice sT S.top.length dT, .slice sM (64 * S.mids.length) dM, .slice sL (64 * S.lows.length) dL]) S := by
    obtain ⟨_, _, _, _, _, _, e, k1, k2, k3⟩ := HSt6.out
    exact ⟨_, _, _, _, _, _, e, k1.below A3 (Nat.le_refl _), k2.below A3 (Nat.le_refl _), k3.below A3 (Nat.le_refl _)⟩
  have HLk := Lib.hid (looks_walk w7 g (trieS S) S F (fun x => x) N HN.out (by rw [← HS.out]; rw [← HS.out] at HMade; exact lkOk HN.out HM.out HMade.out (fun x y _ _ _ _ h => h) (fun r _ => rfl) HRg.out) hT7 _ _ hF7 hS7
    27 #[] (enters_of Try.func27 (by kernel_rfl) rfl) (fun v _ _ W _ => same_walk v W) none 0 0 [] (Ints.nil _ _ _) rfl (fun z hz => absurd hz List.not_mem_nil))
  have HC7 := Lib.hid (And.intro x0 (And.intro x1 (And.intro x2 A1)))
  have HT7 := Lib.hid hT7; have HF7 := Lib.hid hF7; have HS7 := Lib.hid hS7
  have HB7 : Hid (Below w.heap.size w w7) := Lib.hid (HB03.out.trans ((HA.out.2.1.trans ((HB5.out.trans (A2.mono (by omega))).mono (by have := HBf.out; omega))).mono HB03.out.size))
  have HB17 : Hid (Below w3.heap.size w3 w7) := Lib.hid (HA.out.2.1.trans ((HB5.out.trans (A2.mono (by omega))).mono (by have := HBf.out; omega)))
  have HW7 := Lib.hid hw7; have HBs := Lib.hid hbs
  clear x0 x1 x2 A1 A2 A3 hT7 hF7 hS7 hlt hw7 hbs HC5 HF5 HTr HSt6 HB6 HB5 H3
  go_upto_region 10 with (fail)
  rw [← HW7.out, ← HBs.out]
  have q0 : w7.cell? ⟨bf, 0, none⟩ = some (.slice aT nR cT) := cell_of_row w7 bf 0 _ _ (0, 0) HC7.out.1
  have q1 : w7.cell? ⟨bf, 1, none⟩ = some (.slice aV nR cV) := cell_of_row w7 bf 1 _ _ (0, 0) HC7.out.1
  have q2 : w7.cell? ⟨bf + 1, 0, none⟩ = some (.int .i32 1114112) := cell_of_row w7 (bf + 1) 0 _ _ (0, 0) HC7.out.2.1
  have q3 : w7.cell? ⟨bf + 1 + 2, 0, none⟩ = some (.bool true) := cell_of_row w7 (bf + 1 + 2) 0 _ _ (0, 0) HC7.out.2.2.1
  have q4 : w7.cell? ⟨bs, 0, none⟩ = some (.slice sT S.top.length dT) := cell_of_row w7 bs 0 _ _ (0, 0) HC7.out.2.2.2
  have q5 : w7.cell? ⟨bs, 1, none⟩ = some (.slice sM (64 * S.mids.length) dM) := cell_of_row w7 bs 1 _ _ (0, 0) HC7.out.2.2.2
  have q6 : w7.cell? ⟨bs, 2, none⟩ = some (.slice sL (64 * S.lows.length) dL) := cell_of_row w7 bs 2 _ _ (0, 0) HC7.out.2.2.2
  go_wp2_with fail
  refine HLk.out.mono ?_
  clear HLk q0 q1 q2 q3 q4 q5 q6
  rintro e w8 ⟨rfl, hb⟩
  have HB8 := Lib.hid hb; clear hb
  have hb08 := (HB3.out.trans (HB17.out.mono HB3.out.size)).trans (HB8.out.mono (Nat.le_trans HB3.out.size HB17.out.size))
  have x0 := (hb08.block b0 (by have := HP.out.2.2.2; omega)).trans HP.out.2.1
  have x1 := (hb08.block (b0 + 1) (by have := HP.out.2.2.2; omega)).trans HP.out.2.2.1
  have HCa := Lib.hid (And.intro x0 x1)
  have hd : Below w7.heap.size w7 (w8.drewN 0) := HB8.out
  have HT8 := Lib.hid (HT7.out.below HB8.out (Nat.le_refl _))
  have HMp := Lib.hid (Map_walk w8 g (trieS S) HMade.out.trie HMade.out.pos.1 HT8.out 40 #[.pointer (some ⟨b0, 0, none⟩), .pointer (some ⟨b0 + 1, 0, none⟩)] (turnF add most) (enters_of Try.func40 (by kernel_rfl) rfl)
    (fun v W _ hb => (maps2_walk v add most b0 (b0 + 1) W
      ((hb.cell (p := ⟨b0, 0, none⟩) (Array.getElem?_eq_some_iff.1 HCa.out.1).1).trans (cell_of_row w8 b0 0 _ _ (0, 0) HCa.out.1))
      ((hb.cell (p := ⟨b0 + 1, 0, none⟩) (Array.getElem?_eq_some_iff.1 HCa.out.2).1).trans (cell_of_row w8 (b0 + 1) 0 _ _ (0, 0) HCa.out.2))).mono (fun e w' ⟨h1, h2⟩ => ⟨h1, by rw [h2]; exact Below.refl _ _⟩)))
  clear hb08 x0 x1 hd
  go_wp2_with fail
  refine HMp.out.mono ?_
  clear HMp
  rintro e w9 ⟨u, S2, rfl, hu, hb, hM2, hT2⟩
  have HB9 := Lib.hid hb; have HM2 := Lib.hid hM2; have HU9 := Lib.hid hT2
  have HB29 : Hid (Below w7.heap.size w7 w9) := Lib.hid (HB8.out.trans (hb.mono HB8.out.size))
  clear hb hM2 hT2 hu
  go_wp2
  go_loopw [19, 20] (OfR w9 (turnF add most)) (fun _ i _ => 256 - (intOf i).toNat)
  case atStart => exact ⟨0, none, 0, Nat.zero_le _, rfl, rfl, Own.nil _ _ _, Below.refl _ _⟩
  case round =>
    obtain ⟨k, a2, c2, hk, rfl, rfl, hown, hbel⟩ := hrel
    have HOw := Lib.hid hown; have HBl := Lib.hid hbel
    clear hown hbel
    by_cases hkn : k < 256
    · have hki : (k : Int) < 256 := by omega
      have hwk : IntKind.u8.wrap (k : Int) = k := by simp [IntKind.wrap, IntKind.bits, IntKind.signed]; omega
      have elI : Elem Try.prog 61 3 (.int .i64 0) 8 := ⟨Try.underlying61, by kernel_rfl, by kernel_rfl⟩
      have hb9 := HB29.out.trans (HBl.out.mono HB29.out.size)
      have hb9 := (HB3.out.trans (HB17.out.mono HB3.out.size)).trans (hb9.mono (Nat.le_trans HB3.out.size HB17.out.size))
      have x0 := (hb9.block b0 (by have := HP.out.2.2.2; omega)).trans HP.out.2.1
      have x1 := (hb9.block (b0 + 1) (by have := HP.out.2.2.2; omega)).trans HP.out.2.2.1
      have HC2 := Lib.hid (maps2_walk (k : Nat) add most b0 (b0 + 1) wr (cell_of_row wr b0 0 _ _ (0, 0) x0) (cell_of_row wr (b0 + 1) 0 _ _ (0, 0) x1))
      clear hb9 x0 x1
      go_wp2_with fail
      refine HC2.out.mono ?_
      rintro e w' ⟨rfl, rfl⟩
      have hrg := turnF_rng (add := add) HMo.out (k : Nat)
      obtain ⟨x, hx⟩ : ∃ x, x = turnF add most (k : Nat) := ⟨_, rfl⟩
      rw [← hx] at hrg ⊢
      have hw : IntKind.i64.wrap x = x := by simp [IntKind.wrap, IntKind.bits, IntKind.signed]; omega
      have hw2 : wrap64 x = x := by unfold wrap64; omega
      have HX := Lib.hid hx; clear hx
      go_wp2_with (at_builtin; refine wpList_app1 elI rfl (.tmp 68) (.tmp 74) rfl HOw.out HBl.out.size (by omega) (by omega) (.int .i64 x) rfl _ rfl rfl ?_)
      intro a3 c3 w4 ho hg
      have HO4 : Hid (Own w9.heap.size 3 w4 a3 (k + 1) c3 (ivs .i64 ((List.range (k + 1)).map (fun v => turnF add most (v : Nat))))) := Lib.hid (by
        rw [List.range_succ, List.map_append, ivs_append]
        show Own _ _ _ _ _ _ (_ ++ [.int .i64 (turnF add most (k : Nat))])
        rw [← HX.out]
        exact ho)
      have HB4 : Hid (Below w9.heap.size w9 w4) := Lib.hid (HBl.out.trans (HOw.out.app hg HBl.out.size))
      clear ho hg
      go_wp2
      go_roundw
      case rel => exact ⟨k + 1, a3, c3, by omega, by go_num, rfl, HO4.out, HB4.out⟩
      case measure => simp [intOf]; omega
    · obtain rfl : k = 256 := by omega
      have hki : ¬ ((256 : Nat) : Int) < 256 := by omega
      have hb7 : Below w7.heap.size w7 wr := HB29.out.trans (HBl.out.mono HB29.out.size)
      have x0 := (hb7.block bf (Array.getElem?_eq_some_iff.1 HC7.out.1).1).trans HC7.out.1
      have x1 := (hb7.block bs (Array.getElem?_eq_some_iff.1 HC7.out.2.2.2).1).trans HC7.out.2.2.2
      have HFr := Lib.hid (HF7.out.below hb7)
      have HR7 := Lib.hid (And.intro x0 x1)
      have HO10 := Lib.hid HOw.out.ints
      have HBr7 := Lib.hid hb7
      have q0 : wr.cell? ⟨bf, 0, none⟩ = some (.slice aT nR cT) := cell_of_row wr bf 0 _ _ (0, 0) x0
      have q1 : wr.cell? ⟨bf, 1, none⟩ = some (.slice aV nR cV) := cell_of_row wr bf 1 _ _ (0, 0) x0
      have HMp := Lib.hid (refMap_walk wr (.agg #[.slice aT nR cT, .slice aV nR cV]) (runL F N) a2 256 c2 ((List.range 256).map (fun v => turnF add most (v : Nat))) (by rw [← HnR.out]; exact hnRl) HFr.out HO10.out (by simp) (fun x hx => by
        obtain ⟨r, h1, h2⟩ := run_val hx
        have := HRg.out r h1
        rw [h2]; omega))
      rw [show turnL (fun v => ((List.range 256).map (fun v => turnF add most (v : Nat))).getD v.toNat 0) (runL F N) = runL (fun r => turnF add most (F r)) N from (turnL_run _ F N).trans (runL_congr N (fun r hr => by
        have := HRg.out r hr
        have h2 : (F r).toNat < 256 := by omega
        have h3 : (((F r).toNat : Nat) : Int) = F r := by omega
        simp [h2, h3]))] at HMp
      obtain ⟨G, hG⟩ : ∃ G, G = fun r => turnF add most (F r) := ⟨_, rfl⟩
      rw [← hG] at HMp
      have HG := Lib.hid hG
      clear hb7 x0 x1 hG
      go_wp2_with fail
      refine HMp.out.mono ?_
      rintro e w10 ⟨fg, rfl, hfg, hb⟩
      obtain ⟨aT2, cT2, aV2, cV2, rfl, k1, k2, k3, k4⟩ := hfg
      obtain ⟨nG, hnG⟩ : ∃ nG, nG = (runL G N).length := ⟨_, rfl⟩
      rw [← hnG]
      have HnG := Lib.hid hnG
      have HFg := Lib.hid (show FnAt w10 (.agg #[.slice aT2 nG cT2, .slice aV2 nG cV2]) (runL G N) from ⟨aT2, cT2, aV2, cV2, by rw [hnG], k1, k2, k3, k4⟩)
      have HB10 := Lib.hid hb
      clear hb k1 k2 k3 k4 hnG HMp q0 q1
      obtain ⟨bg, hbg⟩ : ∃ bg, bg = w10.heap.size := ⟨_, rfl⟩
      have A1 := heap_alloc_new w10 (.cells #[.slice aT2 nG cT2, .slice aV2 nG cV2] 63)
      have A3 := (Below.refl _ w10).alloc (Nat.le_refl _) (.cells #[.slice aT2 nG cT2, .slice aV2 nG cV2] 63)
      rw [← hbg] at A1
      obtain ⟨w11, hw11⟩ : ∃ w11, w11 = w10.alloc (.cells #[.slice aT2 nG cT2, .slice aV2 nG cV2] 63) := ⟨_, rfl⟩
      rw [← hw11] at A1 A3
      have hr11 : Below wr.heap.size wr w11 := HB10.out.trans (A3.mono HB10.out.size)
      have h711 : Below w7.heap.size w7 w11 := HBr7.out.trans (hr11.mono HBr7.out.size)
      have HB11 := Lib.hid h711
      have HC11 : Hid (C7 bf bg bs (.slice aT nR cT) (.slice aV nR cV) (.slice aT2 nG cT2) (.slice aV2 nG cV2) (.slice sT S.top.length dT) (.slice sM (64 * S.mids.length) dM) (.slice sL (64 * S.lows.length) dL) w11) := Lib.hid ⟨(hr11.block bf (Array.getElem?_eq_some_iff.1 HR7.out.1).1).trans HR7.out.1, A1, (hr11.block bs (Array.getElem?_eq_some_iff.1 HR7.out.2).1).trans HR7.out.2⟩
      have HG11 := Lib.hid (HFg.out.below A3)
      have HF11 := Lib.hid (HF7.out.below h711)
      have HS11 : Hid (StagesAt w11 (.agg #[.slice sT S.top.length dT, .slice sM (64 * S.mids.length) dM, .slice sL (64 * S.lows.length) dL]) S) := Lib.hid (by
        obtain ⟨_, _, _, _, _, _, e, k1, k2, k3⟩ := HS7.out
        exact ⟨_, _, _, _, _, _, e, k1.below h711 (Nat.le_refl _), k2.below h711 (Nat.le_refl _), k3.below h711 (Nat.le_refl _)⟩)
      have HT11 := Lib.hid (HT7.out.below h711 (Nat.le_refl _))
      have HU11 := Lib.hid (HU9.out.below ((HBl.out.trans (hr11.mono HBl.out.size))) (Nat.le_refl _))
      have HW11 := Lib.hid (And.intro hw11 hbg)
      have hrG : Hid (∀ r, r < N → 0 ≤ G r ∧ G r ≤ 255) := Lib.hid (fun r _ => by rw [HG.out]; exact turnF_rng HMo.out _)
      have HKS : Hid (LkOk (trieS S) S F (fun x => x) N) := Lib.hid (by have := lkOk HN.out HM.out HMade.out inj8_id (fun r _ => rfl) HRg.out; rwa [HS.out] at this)
      have HKG : Hid (LkOk (trieS S2) (mkF G M) G (fun x => x) N) := Lib.hid (lkOk HN.out HM.out HM2.out inj8_id (fun r hr => by
        rw [HG.out]
        show turnF add most (lookT 0 (trieS S) r) = turnF add most (F r)
        rw [HMade.out.look r (by have := HN.out; omega)]) hrG.out)
      have HMp := Lib.hid (VS.Map_walk w11 g (trieS S) HMade.out.trie HMade.out.pos.1 HT11.out 21 #[] textB (enters_of Try.func21 (by kernel_rfl) rfl) (fun v W _ _ => text_walk v W))
      clear hr11 h711 A1 A3 hw11 hbg HFg HS7 HT7 HF7 HC7 HU9 HFr HO10 HOw HR7
      go_upto_region 20 with (fail)
      rw [← HW11.out.1, ← HW11.out.2]
      go_wp2_with fail
      refine HMp.out.mono ?_
      clear HMp
      rintro e w12 ⟨v, S3, rfl, -, hb, hM3, hT3⟩
      have HV12 := Lib.hid hT3; have HB12 := Lib.hid hb
      have HKV : Hid (VS.LkOk (VS.trieS S3) S F textB N) := Lib.hid (by
        have := VS.lkOk HN.out HM.out hM3 inj8_textB (fun r hr => by
          show textB (lookT 0 (trieS S) r) = textB (F r)
          rw [HMade.out.look r (by have := HN.out; omega)]) HRg.out
        rwa [HS.out] at this)
      clear hb hM3 hT3
      go_upto_region 21 with (fail)
      refine (wpIn_wide (n := 2)).1 ?_
      refine wpIn_region_calm [] (fun w' : World => C7 bf bg bs (.slice aT nR cT) (.slice aV nR cV) (.slice aT2 nG cT2) (.slice aV2 nG cV2) (.slice sT S.top.length dT) (.slice sM (64 * S.mids.length) dM) (.slice sL (64 * S.lows.length) dL) w') (by kernel_rfl) ?_
      have HC12 : Hid (C7 bf bg bs (.slice aT nR cT) (.slice aV nR cV) (.slice aT2 nG cT2) (.slice aV2 nG cV2) (.slice sT S.top.length dT) (.slice sM (64 * S.mids.length) dM) (.slice sL (64 * S.lows.length) dL) w12.drew) := Lib.hid (HC11.out.below (w' := w12.drew) HB12.out.drew)
      have HV13 := Lib.hid (HV12.out.below (Below.refl w12.heap.size w12).drew (Nat.le_refl _))
      have Hv13 : Hid (Below w11.heap.size w11 w12.drew) := Lib.hid HB12.out.drew
      clear HB12 HV12
      generalize w12.drew = v13 at *
      refine' anyD_take (i := 0) (v := _) [1, 2, 3, 4, 5, 6, 7, 8, 9, 10, 11, 12, 13, 14, 15, 16, 17, 18, 19, 20, 21, 22, 23, 24, 25, 26, 27] (by kernel_rfl) rfl (by rfl) (by kernel_rfl) (fun _ _ _ h => h) (by rfl) ?hx0 HC12.out ?kx0
      case hx0 =>
        intro w' hc
        obtain ⟨c0, c1, c2, c3, c4, c5, c6⟩ := hc.get
        go_simp
        try with_reducible rfl
      simp only [List.getElem_toArray, List.getElem_cons_zero, List.getElem_cons_succ, Act.put, List.setIfInBounds_toArray, List.set_cons_zero, List.set_cons_succ]
      refine' anyD_take (i := 1) (v := _) [2, 3, 4, 5, 6, 7, 8, 9, 10, 11, 12, 13, 14, 15, 16, 17, 18, 19, 20, 21, 22, 23, 24, 25, 26, 27] (by kernel_rfl) rfl (by rfl) (by kernel_rfl) (fun _ _ _ h => h) (by rfl) ?hx1 HC12.out ?kx1
      case hx1 =>
        intro w' hc
        obtain ⟨c0, c1, c2, c3, c4, c5, c6⟩ := hc.get
        go_simp
        try with_reducible rfl
      simp only [List.getElem_toArray, List.getElem_cons_zero, List.getElem_cons_succ, Act.put, List.setIfInBounds_toArray, List.set_cons_zero, List.set_cons_succ]
      refine' anyD_take (i := 2) (v := _) [3, 4, 5, 6, 7, 8, 9, 10, 11, 12, 13, 14, 15, 16, 17, 18, 19, 20, 21, 22, 23, 24, 25, 26, 27] (by kernel_rfl) rfl (by rfl) (by kernel_rfl) (fun _ _ _ h => h) (by rfl) ?hx2 HC12.out ?kx2
      case hx2 =>
        intro w' hc
        obtain ⟨c0, c1, c2, c3, c4, c5, c6⟩ := hc.get
        go_simp
        try with_reducible rfl
      simp only [List.getElem_toArray, List.getElem_cons_zero, List.getElem_cons_succ, Act.put, List.setIfInBounds_toArray, List.set_cons_zero, List.set_cons_succ]
      refine' anyD_take (i := 3) (v := _) [4, 5, 6, 7, 8, 9, 10, 11, 12, 13, 14, 15, 16, 17, 18, 19, 20, 21, 22, 23, 24, 25, 26, 27] (by kernel_rfl) rfl (by rfl) (by kernel_rfl) (fun _ _ _ h => h) (by rfl) ?hx3 HC12.out ?kx3
      case hx3 =>
        intro w' hc
        obtain ⟨c0, c1, c2, c3, c4, c5, c6⟩ := hc.get
        go_simp
        try with_reducible rfl
      simp only [List.getElem_toArray, List.getElem_cons_zero, List.getElem_cons_succ, Act.put, List.setIfInBounds_toArray, List.set_cons_zero, List.set_cons_succ]
      refine' anyD_take (i := 4) (v := _) [5, 6, 7, 8, 9, 10, 11, 12, 13, 14, 15, 16, 17, 18, 19, 20, 21, 22, 23, 24, 25, 26, 27] (by kernel_rfl) rfl (by rfl) (by kernel_rfl) (fun _ _ _ h => h) (by rfl) ?hx4 HC12.out ?kx4
      case hx4 =>
        intro w' hc
        obtain ⟨c0, c1, c2, c3, c4, c5, c6⟩ := hc.get
        go_simp
        try with_reducible rfl
      simp only [List.getElem_toArray, List.getElem_cons_zero, List.getElem_cons_succ, Act.put, List.setIfInBounds_toArray, List.set_cons_zero, List.set_cons_succ]
      refine' anyD_take (i := 5) (v := _) [6, 7, 8, 9, 10, 11, 12, 13, 14, 15, 16, 17, 18, 19, 20, 21, 22, 23, 24, 25, 26, 27] (by kernel_rfl) rfl (by rfl) (by kernel_rfl) (fun _ _ _ h => h) (by rfl) ?hx5 HC12.out ?kx5
      case hx5 =>
        intro w' hc
        obtain ⟨c0, c1, c2, c3, c4, c5, c6⟩ := hc.get
        go_simp
        try with_reducible rfl
      simp only [List.getElem_toArray, List.getElem_cons_zero, List.getElem_cons_succ, Act.put, List.setIfInBounds_toArray, List.set_cons_zero, List.set_cons_succ]
      refine' anyD_take (i := 6) (v := _) [7, 8, 9, 10, 11, 12, 13, 14, 15, 16, 17, 18, 19, 20, 21, 22, 23, 24, 25, 26, 27] (by kernel_rfl) rfl (by rfl) (by kernel_rfl) (fun _ _ _ h => h) (by rfl) ?hx6 HC12.out ?kx6
      case hx6 =>
        intro w' hc
        obtain ⟨c0, c1, c2, c3, c4, c5, c6⟩ := hc.get
        go_simp
        try with_reducible rfl
      simp only [List.getElem_toArray, List.getElem_cons_zero, List.getElem_cons_succ, Act.put, List.setIfInBounds_toArray, List.set_cons_zero, List.set_cons_succ]
      refine' anyD_take (i := 7) (v := _) [11, 12, 13, 14, 15, 16, 17, 18, 19, 20, 21, 22, 23, 24, 25, 26, 27] (by kernel_rfl) rfl (by rfl) (by kernel_rfl) (fun _ _ _ h => h) (by rfl) ?hx7 HC12.out ?kx7
      case hx7 =>
        intro w' hc
        obtain ⟨c0, c1, c2, c3, c4, c5, c6⟩ := hc.get
        go_simp
        try with_reducible rfl
      simp only [List.getElem_toArray, List.getElem_cons_zero, List.getElem_cons_succ, Act.put, List.setIfInBounds_toArray, List.set_cons_zero, List.set_cons_succ]
      refine' anyD_take (i := 8) (v := _) [11, 12, 13, 14, 15, 16, 17, 18, 19, 20, 21, 22, 23, 24, 25, 26, 27] (by kernel_rfl) rfl (by rfl) (by kernel_rfl) (fun _ _ _ h => h) (by rfl) ?hx8 HC12.out ?kx8
      case hx8 =>
        intro w' hc
        obtain ⟨c0, c1, c2, c3, c4, c5, c6⟩ := hc.get
        go_simp
        try with_reducible rfl
      simp only [List.getElem_toArray, List.getElem_cons_zero, List.getElem_cons_succ, Act.put, List.setIfInBounds_toArray, List.set_cons_zero, List.set_cons_succ]
      refine' anyD_take (i := 9) (v := _) [10, 11, 12, 13, 14, 15, 16, 17, 18, 19, 20, 21, 22, 23, 24, 25, 26, 27] (by kernel_rfl) rfl (by rfl) (by kernel_rfl) (fun _ _ _ h => h) (by rfl) ?hx9 HC12.out ?kx9
      case hx9 =>
        intro w' hc
        obtain ⟨c0, c1, c2, c3, c4, c5, c6⟩ := hc.get
        go_simp
        try with_reducible rfl
      simp only [List.getElem_toArray, List.getElem_cons_zero, List.getElem_cons_succ, Act.put, List.setIfInBounds_toArray, List.set_cons_zero, List.set_cons_succ]
      refine anyC_r1 (i := 10) (by kernel_rfl) ?_
      refine stepCall (i := 10) rfl (by rfl) (by rfl) (fun _ _ => trivial) (exec_call1 38 (.tmp 90) _ rfl (.agg #[.slice aT2 nG cT2, .slice aV2 nG cV2]) rfl (enters_of Try.func38 (by kernel_rfl) rfl)) (fun h => by cases h) ?_
      refine callsIn_wide.2 ?_
      refine (refStages_walk v13 (.agg #[.slice aT2 nG cT2, .slice aV2 nG cV2]) G N M HN.out HM.out (HG11.out.below Hv13.out)).mono ?_
      rintro e v14 ⟨sg, rfl, hsg, hb⟩
      refine ⟨_, rfl, fun _ => HC12.out.below hb, ?_⟩
      have HC14 := Lib.hid (HC12.out.below hb)
      have Hv14 : Hid (Below w11.heap.size w11 v14) := Lib.hid (Hv13.out.trans (hb.mono Hv13.out.size))
      have HSg := Lib.hid hsg
      have HB1314 := Lib.hid hb
      clear hsg
      clear hb
      simp only [List.getElem_toArray, List.getElem_cons_zero, List.getElem_cons_succ, Act.put, List.setIfInBounds_toArray, List.set_cons_zero, List.set_cons_succ]
      refine anyC_r1 (i := 11) (by kernel_rfl) ?_
      refine stepCall (i := 11) rfl (by rfl) (by rfl) (fun _ _ => trivial) (exec_callN 39 _ _ rfl #[.pointer (some ⟨u, 0, none⟩), (.agg #[.slice aT2 nG cT2, .slice aV2 nG cV2]), sg, .func (.func 27) #[] #[], .slice none 0 0] (by simp only [List.map_toArray, List.map_cons, List.map_nil]; rfl) (enters_of Try.func39 (by kernel_rfl) rfl)) (fun h => by cases h) ?_
      refine callsIn_wide.2 ?_
      refine (looks_walk v14 u (trieS S2) (mkF G M) G (fun x => x) N HN.out HKG.out (HU11.out.below Hv14.out (Nat.le_refl _)) _ _ (HG11.out.below Hv14.out) HSg.out 27 #[] (enters_of Try.func27 (by kernel_rfl) rfl) (fun v _ _ W _ => same_walk v W) none 0 0 [] (Ints.nil _ _ _) rfl (fun z hz => absurd hz List.not_mem_nil)).mono ?_
      rintro e v15 ⟨rfl, hb⟩
      refine ⟨_, rfl, fun _ => HC14.out.below hb, ?_⟩
      have HC15 := Lib.hid (HC14.out.below hb)
      have Hv15 : Hid (Below w11.heap.size w11 v15) := Lib.hid (Hv14.out.trans (hb.mono Hv14.out.size))
      have HB1315 := Lib.hid (HB1314.out.trans (hb.mono HB1314.out.size))
      clear HSg HB1314
      clear hb
      simp only [List.getElem_toArray, List.getElem_cons_zero, List.getElem_cons_succ, Act.put, List.setIfInBounds_toArray, List.set_cons_zero, List.set_cons_succ]
      refine' anyD_take (i := 12) (v := _) [13, 14, 15, 16, 17, 18, 19, 20, 21, 22, 23, 24, 25, 26, 27] (by kernel_rfl) rfl (by rfl) (by kernel_rfl) (fun _ _ _ h => h) (by rfl) ?hx12 HC15.out ?kx12
      case hx12 =>
        intro w' hc
        obtain ⟨c0, c1, c2, c3, c4, c5, c6⟩ := hc.get
        go_simp
        try with_reducible rfl
      simp only [List.getElem_toArray, List.getElem_cons_zero, List.getElem_cons_succ, Act.put, List.setIfInBounds_toArray, List.set_cons_zero, List.set_cons_succ]
      refine' anyD_take (i := 13) (v := _) [14, 15, 16, 17, 18, 19, 20, 21, 22, 23, 24, 25, 26, 27] (by kernel_rfl) rfl (by rfl) (by kernel_rfl) (fun _ _ _ h => h) (by rfl) ?hx13 HC15.out ?kx13
      case hx13 =>
        intro w' hc
        obtain ⟨c0, c1, c2, c3, c4, c5, c6⟩ := hc.get
        go_simp
        try with_reducible rfl
      simp only [List.getElem_toArray, List.getElem_cons_zero, List.getElem_cons_succ, Act.put, List.setIfInBounds_toArray, List.set_cons_zero, List.set_cons_succ]
      refine' anyD_take (i := 14) (v := _) [15, 16, 17, 18, 19, 20, 21, 22, 23, 24, 25, 26, 27] (by kernel_rfl) rfl (by rfl) (by kernel_rfl) (fun _ _ _ h => h) (by rfl) ?hx14 HC15.out ?kx14
      case hx14 =>
        intro w' hc
        obtain ⟨c0, c1, c2, c3, c4, c5, c6⟩ := hc.get
        go_simp
        try with_reducible rfl
      simp only [List.getElem_toArray, List.getElem_cons_zero, List.getElem_cons_succ, Act.put, List.setIfInBounds_toArray, List.set_cons_zero, List.set_cons_succ]
      refine' anyD_take (i := 15) (v := _) [18, 19, 20, 21, 22, 23, 24, 25, 26, 27] (by kernel_rfl) rfl (by rfl) (by kernel_rfl) (fun _ _ _ h => h) (by rfl) ?hx15 HC15.out ?kx15
      case hx15 =>
        intro w' hc
        obtain ⟨c0, c1, c2, c3, c4, c5, c6⟩ := hc.get
        go_simp
        try with_reducible rfl
      simp only [List.getElem_toArray, List.getElem_cons_zero, List.getElem_cons_succ, Act.put, List.setIfInBounds_toArray, List.set_cons_zero, List.set_cons_succ]
      refine' anyD_take (i := 16) (v := _) [18, 19, 20, 21, 22, 23, 24, 25, 26, 27] (by kernel_rfl) rfl (by rfl) (by kernel_rfl) (fun _ _ _ h => h) (by rfl) ?hx16 HC15.out ?kx16
      case hx16 =>
        intro w' hc
        obtain ⟨c0, c1, c2, c3, c4, c5, c6⟩ := hc.get
        go_simp
        try with_reducible rfl
      simp only [List.getElem_toArray, List.getElem_cons_zero, List.getElem_cons_succ, Act.put, List.setIfInBounds_toArray, List.set_cons_zero, List.set_cons_succ]
      refine' anyD_take (i := 17) (v := _) [18, 19, 20, 21, 22, 23, 24, 25, 26, 27] (by kernel_rfl) rfl (by rfl) (by kernel_rfl) (fun _ _ _ h => h) (by rfl) ?hx17 HC15.out ?kx17
      case hx17 =>
        intro w' hc
        obtain ⟨c0, c1, c2, c3, c4, c5, c6⟩ := hc.get
        go_simp
        try with_reducible rfl
      simp only [List.getElem_toArray, List.getElem_cons_zero, List.getElem_cons_succ, Act.put, List.setIfInBounds_toArray, List.set_cons_zero, List.set_cons_succ]
      have HS15 : Hid (StagesAt v15 (.agg #[.slice sT S.top.length dT, .slice sM (64 * S.mids.length) dM, .slice sL (64 * S.lows.length) dL]) S) := Lib.hid (by
        obtain ⟨_, _, _, _, _, _, e, k1, k2, k3⟩ := HS11.out
        exact ⟨_, _, _, _, _, _, e, k1.below Hv15.out (Nat.le_refl _), k2.below Hv15.out (Nat.le_refl _), k3.below Hv15.out (Nat.le_refl _)⟩)
      have HV15 := Lib.hid (HV13.out.below (HB1315.out) (Nat.le_refl _))
      refine anyC_r1 (i := 18) (by kernel_rfl) ?_
      refine stepCall (i := 18) rfl (by rfl) (by rfl) (fun _ _ => trivial) (exec_callN 42 _ _ rfl #[.pointer (some ⟨v, 0, none⟩), (.agg #[.slice aT nR cT, .slice aV nR cV]), (.agg #[.slice sT S.top.length dT, .slice sM (64 * S.mids.length) dM, .slice sL (64 * S.lows.length) dL]), .func (.func 21) #[] #[], .slice none 0 0] (by simp only [List.map_toArray, List.map_cons, List.map_nil]; rfl) (enters_of Try.func42 (by kernel_rfl) rfl)) (fun h => by cases h) ?_
      refine callsIn_wide.2 ?_
      refine (VS.looks_walk v15 v (VS.trieS S3) S F textB N HN.out HKV.out HV15.out _ _ (HF11.out.below Hv15.out) HS15.out 21 #[] (enters_of Try.func21 (by kernel_rfl) rfl) (fun v _ _ W _ => text_walk v W) none 0 0 [] (Ints.nil _ _ _) rfl (fun z hz => absurd hz List.not_mem_nil)).mono ?_
      rintro e v16 ⟨rfl, hb⟩
      refine ⟨_, rfl, fun _ => HC15.out.below hb, ?_⟩
      have HC16 := Lib.hid (HC15.out.below hb)
      have Hv16 : Hid (Below w11.heap.size w11 v16) := Lib.hid (Hv15.out.trans (hb.mono Hv15.out.size))
      clear hb
      simp only [List.getElem_toArray, List.getElem_cons_zero, List.getElem_cons_succ, Act.put, List.setIfInBounds_toArray, List.set_cons_zero, List.set_cons_succ]
      refine' anyD_take (i := 19) (v := _) [20, 21, 22, 23, 24, 25, 26, 27] (by kernel_rfl) rfl (by rfl) (by kernel_rfl) (fun _ _ _ h => h) (by rfl) ?hx19 HC16.out ?kx19
      case hx19 =>
        intro w' hc
        obtain ⟨c0, c1, c2, c3, c4, c5, c6⟩ := hc.get
        go_simp
        try with_reducible rfl
      simp only [List.getElem_toArray, List.getElem_cons_zero, List.getElem_cons_succ, Act.put, List.setIfInBounds_toArray, List.set_cons_zero, List.set_cons_succ]
      refine' anyD_take (i := 20) (v := _) [21, 22, 23, 24, 25, 26, 27] (by kernel_rfl) rfl (by rfl) (by kernel_rfl) (fun _ _ _ h => h) (by rfl) ?hx20 HC16.out ?kx20
      case hx20 =>
        intro w' hc
        obtain ⟨c0, c1, c2, c3, c4, c5, c6⟩ := hc.get
        go_simp
        try with_reducible rfl
      simp only [List.getElem_toArray, List.getElem_cons_zero, List.getElem_cons_succ, Act.put, List.setIfInBounds_toArray, List.set_cons_zero, List.set_cons_succ]
      refine' anyD_take (i := 21) (v := _) [22, 23, 24, 25, 26, 27] (by kernel_rfl) rfl (by rfl) (by kernel_rfl) (fun _ _ _ h => h) (by rfl) ?hx21 HC16.out ?kx21
      case hx21 =>
        intro w' hc
        obtain ⟨c0, c1, c2, c3, c4, c5, c6⟩ := hc.get
        go_simp
        try with_reducible rfl
      simp only [List.getElem_toArray, List.getElem_cons_zero, List.getElem_cons_succ, Act.put, List.setIfInBounds_toArray, List.set_cons_zero, List.set_cons_succ]
      refine' anyD_take (i := 22) (v := _) [23, 25, 26, 27] (by kernel_rfl) rfl (by rfl) (by kernel_rfl) (fun _ _ _ h => h) (by rfl) ?hx22 HC16.out ?kx22
      case hx22 =>
        intro w' hc
        obtain ⟨c0, c1, c2, c3, c4, c5, c6⟩ := hc.get
        go_simp
        try with_reducible rfl
      simp only [List.getElem_toArray, List.getElem_cons_zero, List.getElem_cons_succ, Act.put, List.setIfInBounds_toArray, List.set_cons_zero, List.set_cons_succ]
      refine' anyD_take (i := 24) (v := _) [25, 26, 27] (by kernel_rfl) rfl (by rfl) (by kernel_rfl) (fun _ _ _ h => h) (by rfl) ?hx24 HC16.out ?kx24
      case hx24 =>
        intro w' hc
        obtain ⟨c0, c1, c2, c3, c4, c5, c6⟩ := hc.get
        go_simp
        try with_reducible rfl
      simp only [List.getElem_toArray, List.getElem_cons_zero, List.getElem_cons_succ, Act.put, List.setIfInBounds_toArray, List.set_cons_zero, List.set_cons_succ]
      refine anyC_r1 (i := 23) (by kernel_rfl) ?_
      refine stepCall (i := 23) rfl (by rfl) (by rfl) (fun _ _ => trivial) (exec_call1 44 (.tmp 103) _ rfl (.pointer (some ⟨g, 0, none⟩)) rfl (enters_of Try.func44 (by kernel_rfl) rfl)) (fun h => by cases h) ?_
      refine callsIn_wide.2 ?_
      refine (Parts8_walk v16 g (trieS S) HMade.out.trie HMade.out.pos.1 (HT11.out.below Hv16.out (Nat.le_refl _))).mono ?_
      rintro e v17 ⟨at_, ct, am, cm, al, cl, rfl, ho1, ho2, ho3, hb⟩
      refine ⟨_, rfl, fun _ => HC16.out.below hb, ?_⟩
      have HC17 := Lib.hid (HC16.out.below hb)
      have Hv17 : Hid (Below w11.heap.size w11 v17) := Lib.hid (Hv16.out.trans (hb.mono Hv16.out.size))
      have HV1 : Hid (Vals v17 at_ (S.top.map num16)) := Lib.hid (own_vals ho1)
      have HV2 : Hid (Vals v17 am (S.mids.flatten.map num16)) := Lib.hid (by have := own_vals ho2; rw [flatV_flatten] at this; exact this)
      have HV3 : Hid (Vals v17 al (S.lows.flatten.map (fun v => val8 ((fun x => x) v)))) := Lib.hid (by have := own_vals ho3; rw [flatV_flatten] at this; exact this)
      clear ho1 ho2 ho3
      clear hb
      simp only [List.getElem_toArray, List.getElem_cons_zero, List.getElem_cons_succ, Act.put, List.setIfInBounds_toArray, List.set_cons_zero, List.set_cons_succ]
      have hbs := HKS.out.ok
      have HL272 : Hid (S.top.length = 272) := Lib.hid hbs.top
      have HS17 : Hid (StagesAt v17 (.agg #[.slice sT S.top.length dT, .slice sM (64 * S.mids.length) dM, .slice sL (64 * S.lows.length) dL]) S) := Lib.hid (by
        obtain ⟨_, _, _, _, _, _, e, k1, k2, k3⟩ := HS11.out
        exact ⟨_, _, _, _, _, _, e, k1.below Hv17.out (Nat.le_refl _), k2.below Hv17.out (Nat.le_refl _), k3.below Hv17.out (Nat.le_refl _)⟩)
      have HStg : Hid (Ints .i64 v17 sT (natsI S.top) ∧ Ints .i64 v17 sM (natsI S.mids.flatten) ∧ Ints .i64 v17 sL S.lows.flatten) := Lib.hid (by
        obtain ⟨_, _, _, _, _, _, e, k1, k2, k3⟩ := HS17.out
        simp only [Value.agg.injEq, Array.mk.injEq, List.cons.injEq, Value.slice.injEq] at e
        obtain ⟨⟨rfl, -, rfl⟩, ⟨rfl, -, rfl⟩, ⟨rfl, -, rfl⟩, -⟩ := e
        exact ⟨k1, k2, k3⟩)
      refine anyC_r1 (i := 25) (by kernel_rfl) ?_
      refine stepCall (i := 25) rfl (by rfl) (by rfl) (fun _ _ => trivial) (exec_call3 43 (.tmp 104) (.tmp 105) (.func 27) _ rfl (.agg #[.slice at_ 272 ct, .slice am (64 * S.mids.length) cm, .slice al (64 * S.lows.length) cl]) (.agg #[.slice sT 272 dT, .slice sM (64 * S.mids.length) dM, .slice sL (64 * S.lows.length) dL]) (.func (.func 27) #[] #[]) rfl (by show Value.agg #[Value.slice sT S.top.length dT, _, _] = _; rw [HL272.out]) rfl (enters_of Try.func43 (by kernel_rfl) rfl)) (fun h => by cases h) ?_
      refine callsIn_wide.2 ?_
      refine (alike_walk v17 at_ ct am cm al cl sT dT sM dM sL dL S.top S.mids.flatten S.lows.flatten 272 (64 * S.mids.length) (64 * S.lows.length) HL272.out (flatten_len _ (fun l hl => hbs.mid l hl)) (flatten_len _ (fun l hl => hbs.low l hl)) (by have h1 : S.mids.length ≤ 272 := hbs.midL; have h2 : S.lows.length ≤ 17408 := hbs.lowL; omega) (fun x => x) 27 #[] (enters_of Try.func27 (by kernel_rfl) rfl) HV1.out HV2.out HV3.out HStg.out.1 HStg.out.2.1 HStg.out.2.2 (fun v hv => by obtain ⟨l, hl, h⟩ := List.mem_flatten.1 hv; exact HKS.out.lo l hl v h) (fun x hx => by have := hbs.topN x hx; have := hbs.midL; omega) (fun x hx => by obtain ⟨l, hl, h⟩ := List.mem_flatten.1 hx; have := hbs.midN l hl x h; have := hbs.lowL; omega) (fun v _ W _ => same_walk v W)).mono ?_
      rintro e v18 ⟨rfl, hb⟩
      refine ⟨_, rfl, fun _ => HC17.out.below hb, ?_⟩
      have HC18 := Lib.hid (HC17.out.below hb)
      have Hv18 : Hid (Below w11.heap.size w11 v18) := Lib.hid (Hv17.out.trans (hb.mono Hv17.out.size))
      clear hb
      simp only [List.getElem_toArray, List.getElem_cons_zero, List.getElem_cons_succ, Act.put, List.setIfInBounds_toArray, List.set_cons_zero, List.set_cons_succ]
      clear HStg HV1 HV2 HV3 hbs HL272 HS17
      refine' anyD_take (i := 26) (v := _) [27] (by kernel_rfl) rfl (by rfl) (by kernel_rfl) (fun _ _ _ h => h) (by rfl) ?hx26 HC18.out ?kx26
      case hx26 =>
        intro w' hc
        obtain ⟨c0, c1, c2, c3, c4, c5, c6⟩ := hc.get
        go_simp
        try with_reducible rfl
      simp only [List.getElem_toArray, List.getElem_cons_zero, List.getElem_cons_succ, Act.put, List.setIfInBounds_toArray, List.set_cons_zero, List.set_cons_succ]
      refine anyC_r1 (i := 27) (by kernel_rfl) ?_
      refine stepV (i := 27) (v := .bool false) (w' := v18) rfl (by rfl) (fun _ _ => trivial) (by rfl) (by go_simp; try with_reducible rfl) (fun _ => HC18.out) ?_
      simp only [List.getElem_toArray, List.getElem_cons_zero, List.getElem_cons_succ, Act.put, List.setIfInBounds_toArray, List.set_cons_zero, List.set_cons_succ]
      refine ⟨by kernel_rfl, ?_⟩
      have HDe := Lib.hid (runL_inj (F := F) (G := G) N)
      go_upto_region 23 with (fail)
      refine (wpIn_wide (n := 2)).1 ?_
      refine wpIn_region_calm [] (fun w' : World => C7 bf bg bs (.slice aT nR cT) (.slice aV nR cV) (.slice aT2 nG cT2) (.slice aV2 nG cV2) (.slice sT S.top.length dT) (.slice sM (64 * S.mids.length) dM) (.slice sL (64 * S.lows.length) dL) w') (by kernel_rfl) ?_
      have HC19 : Hid (C7 bf bg bs (.slice aT nR cT) (.slice aV nR cV) (.slice aT2 nG cT2) (.slice aV2 nG cV2) (.slice sT S.top.length dT) (.slice sM (64 * S.mids.length) dM) (.slice sL (64 * S.lows.length) dL) v18.drew) := Lib.hid (HC18.out.below (w' := v18.drew) (Below.refl _ v18).drew)
      have Hv19 : Hid (Below w11.heap.size w11 v18.drew) := Lib.hid Hv18.out.drew
      clear HC18 Hv18
      generalize v18.drew = v19 at *
      refine' anyD_take (i := 0) (v := _) [2, 5, 6, 7, 8, 9, 10] (by kernel_rfl) rfl (by rfl) (by kernel_rfl) (fun _ _ _ h => h) (by rfl) ?hy0 HC19.out ?ky0
      case hy0 =>
        intro w' hc
        obtain ⟨c0, c1, c2, c3, c4, c5, c6⟩ := hc.get
        go_simp
        try with_reducible rfl
      simp only [List.getElem_toArray, List.getElem_cons_zero, List.getElem_cons_succ, Act.put, List.setIfInBounds_toArray, List.set_cons_zero, List.set_cons_succ]
      refine' anyD_take (i := 1) (v := _) [2, 5, 6, 7, 8, 9, 10] (by kernel_rfl) rfl (by rfl) (by kernel_rfl) (fun _ _ _ h => h) (by rfl) ?hy1 HC19.out ?ky1
      case hy1 =>
        intro w' hc
        obtain ⟨c0, c1, c2, c3, c4, c5, c6⟩ := hc.get
        go_simp
        try with_reducible rfl
      simp only [List.getElem_toArray, List.getElem_cons_zero, List.getElem_cons_succ, Act.put, List.setIfInBounds_toArray, List.set_cons_zero, List.set_cons_succ]
      refine' anyD_take (i := 3) (v := _) [5, 6, 7, 8, 9, 10] (by kernel_rfl) rfl (by rfl) (by kernel_rfl) (fun _ _ _ h => h) (by rfl) ?hy3 HC19.out ?ky3
      case hy3 =>
        intro w' hc
        obtain ⟨c0, c1, c2, c3, c4, c5, c6⟩ := hc.get
        go_simp
        try with_reducible rfl
      simp only [List.getElem_toArray, List.getElem_cons_zero, List.getElem_cons_succ, Act.put, List.setIfInBounds_toArray, List.set_cons_zero, List.set_cons_succ]
      refine' anyD_take (i := 4) (v := _) [5, 6, 7, 8, 9, 10] (by kernel_rfl) rfl (by rfl) (by kernel_rfl) (fun _ _ _ h => h) (by rfl) ?hy4 HC19.out ?ky4
      case hy4 =>
        intro w' hc
        obtain ⟨c0, c1, c2, c3, c4, c5, c6⟩ := hc.get
        go_simp
        try with_reducible rfl
      simp only [List.getElem_toArray, List.getElem_cons_zero, List.getElem_cons_succ, Act.put, List.setIfInBounds_toArray, List.set_cons_zero, List.set_cons_succ]
      have HT19 := Lib.hid (HT11.out.below Hv19.out (Nat.le_refl _)); have HU19 := Lib.hid (HU11.out.below Hv19.out (Nat.le_refl _))
      refine anyC_r1 (i := 2) (by kernel_rfl) ?_
      refine stepCall (i := 2) rfl (by rfl) (by rfl) (fun _ _ => trivial) (exec_callN 26 _ _ rfl #[.pointer (some ⟨g, 0, none⟩), .pointer (some ⟨u, 0, none⟩)] (by simp only [List.map_toArray, List.map_cons, List.map_nil]; rfl) (enters_of Try.func26 (by kernel_rfl) rfl)) (fun h => by cases h) ?_
      refine callsIn_wide.2 ?_
      refine (Same_walk v19 g u (trieS S) (trieS S2) HMade.out.trie HM2.out.trie HMade.out.pos.1 HM2.out.pos.1 HT19.out HU19.out).mono ?_
      rintro e v20 ⟨b, q, rfl, hq, hbq⟩
      have hb : Below v19.heap.size v19 v20 := by rw [hq]; exact below_drewN (Below.refl _ _) q
      refine ⟨_, rfl, fun _ => HC19.out.below hb, ?_⟩
      have HC20 := Lib.hid (HC19.out.below hb)
      have Hv20 : Hid (Below w11.heap.size w11 v20) := Lib.hid (Hv19.out.trans (hb.mono Hv19.out.size))
      have HBq : Hid (b = decide (runL F N = runL G N)) := Lib.hid (by
        rw [Bool.eq_iff_iff, hbq, decide_eq_true_iff, HDe.out]
        constructor
        · intro h r hr
          have hr2 : r ≤ 1114111 := by have := HN.out; omega
          have := h r hr2
          rw [HMade.out.look r hr2, HM2.out.look r hr2, HMade.out.look r hr2] at this
          rw [HG.out]; exact this
        · intro h r hr
          have hr2 : r < N := by have := HN.out; omega
          have := h r hr2
          rw [HG.out] at this
          rw [HMade.out.look r hr, HM2.out.look r hr, HMade.out.look r hr]; exact this)
      clear hq hbq
      clear hb
      simp only [List.getElem_toArray, List.getElem_cons_zero, List.getElem_cons_succ, Act.put, List.setIfInBounds_toArray, List.set_cons_zero, List.set_cons_succ]
      rw [HBq.out]
      refine anyC_r1 (i := 5) (by kernel_rfl) ?_
      refine stepCall (i := 5) rfl (by rfl) (by rfl) (fun _ _ => trivial) (exec_callN 45 _ _ rfl #[(.agg #[.slice aT nR cT, .slice aV nR cV]), (.agg #[.slice aT2 nG cT2, .slice aV2 nG cV2])] (by simp only [List.map_toArray, List.map_cons, List.map_nil]; rfl) (enters_of Try.func45 (by kernel_rfl) rfl)) (fun h => by cases h) ?_
      refine callsIn_wide.2 ?_
      refine (refSame_walk v20 (.agg #[.slice aT nR cT, .slice aV nR cV]) (.agg #[.slice aT2 nG cT2, .slice aV2 nG cV2]) (runL F N) (runL G N) (by rw [← HN.out]; exact runL_length F N) (by rw [← HN.out]; exact runL_length G N) (HF11.out.below Hv20.out) (HG11.out.below Hv20.out)).mono ?_
      rintro e v21 ⟨rfl, hb⟩
      refine ⟨_, rfl, fun _ => HC20.out.below hb, ?_⟩
      have HC21 := Lib.hid (HC20.out.below hb)
      have Hv21 : Hid (Below w11.heap.size w11 v21) := Lib.hid (Hv20.out.trans (hb.mono Hv20.out.size))
      clear hb
      simp only [List.getElem_toArray, List.getElem_cons_zero, List.getElem_cons_succ, Act.put, List.setIfInBounds_toArray, List.set_cons_zero, List.set_cons_succ]
      clear HDe HBq
      generalize decide (runL F N = runL G N) = d at *
      refine' anyD_take (i := 6) (v := .bool true) [7, 8, 9, 10] (by kernel_rfl) rfl (by rfl) (by kernel_rfl) (fun _ _ _ h => h) (by rfl) ?hy6 HC21.out ?ky6
      case hy6 =>
        intro w' hc
        obtain ⟨c0, c1, c2, c3, c4, c5, c6⟩ := hc.get
        go_simp
        try with_reducible rfl
      simp only [List.getElem_toArray, List.getElem_cons_zero, List.getElem_cons_succ, Act.put, List.setIfInBounds_toArray, List.set_cons_zero, List.set_cons_succ]
      refine' anyD_take (i := 7) (v := _) [8, 9, 10] (by kernel_rfl) rfl (by rfl) (by kernel_rfl) (fun _ _ _ h => h) (by rfl) ?hy7 HC21.out ?ky7
      case hy7 =>
        intro w' hc
        obtain ⟨c0, c1, c2, c3, c4, c5, c6⟩ := hc.get
        go_simp
        try with_reducible rfl
      simp only [List.getElem_toArray, List.getElem_cons_zero, List.getElem_cons_succ, Act.put, List.setIfInBounds_toArray, List.set_cons_zero, List.set_cons_succ]
      refine anyC_r1 (i := 8) (by kernel_rfl) ?_
      refine stepCall (i := 8) rfl (by rfl) (by rfl) (fun _ _ => trivial) (exec_callN 13 _ _ rfl #[] (by simp) (enters_of Try.func13 (by kernel_rfl) rfl)) (fun h => by cases h) ?_
      refine callsIn_wide.2 ?_
      refine (awake_walk v21).mono ?_
      rintro e v22 ⟨rfl, hb⟩
      refine ⟨_, rfl, fun _ => HC21.out.below hb, ?_⟩
      have HC22 := Lib.hid (HC21.out.below hb)
      have Hv22 : Hid (Below w11.heap.size w11 v22) := Lib.hid (Hv21.out.trans (hb.mono Hv21.out.size))
      clear hb
      simp only [List.getElem_toArray, List.getElem_cons_zero, List.getElem_cons_succ, Act.put, List.setIfInBounds_toArray, List.set_cons_zero, List.set_cons_succ]
      refine' anyD_take (i := 9) (v := _) [10] (by kernel_rfl) rfl (by rfl) (by kernel_rfl) (fun _ _ _ h => h) (by rfl) ?hy9 HC22.out ?ky9
      case hy9 =>
        intro w' hc
        obtain ⟨c0, c1, c2, c3, c4, c5, c6⟩ := hc.get
        go_simp
        try with_reducible rfl
      simp only [List.getElem_toArray, List.getElem_cons_zero, List.getElem_cons_succ, Act.put, List.setIfInBounds_toArray, List.set_cons_zero, List.set_cons_succ]
      refine anyC_r1 (i := 10) (by kernel_rfl) ?_
      refine stepV (i := 10) (v := .bool true) (w' := v22) rfl (by rfl) (fun _ _ => trivial) (by rfl) (by go_simp; try with_reducible rfl) (fun _ => HC22.out) ?_
      simp only [List.getElem_toArray, List.getElem_cons_zero, List.getElem_cons_succ, Act.put, List.setIfInBounds_toArray, List.set_cons_zero, List.set_cons_succ]
      refine ⟨by kernel_rfl, ?_⟩
      have HBw : Hid (Below w.heap.size w v22) := Lib.hid (HB7.out.trans ((HB11.out.trans (Hv22.out.mono HB11.out.size)).mono HB7.out.size))
      go_wp2
      go_ret
      exact ⟨rfl, HBw.out⟩
end Go.Proofs.Ytabbabkmojaoaaa
