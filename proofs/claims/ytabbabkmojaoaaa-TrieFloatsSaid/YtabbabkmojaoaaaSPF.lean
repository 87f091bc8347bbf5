/-
  The contract of the iterator over the stretches (Spans, string).
-/
import Derived.Test.YtabbabkmojaoaaaSP0
import Derived.Test.YtabbabkmojaoaaaTN
import Derived.Test.YtabbabkmojaoaaaTZF
set_option linter.unusedVariables false
set_option linter.unusedSimpArgs false
namespace Go.Proofs.Ytabbabkmojaoaaa.VF
open Go.RowKit
attribute [local go_sem] Oper.semAt_some run_store_float

def neV : El → El → Bool := fun a b => FloatKind.f64.format.order (a) (b) != some .eq
/-- a stretch that is told -/
def encQ (s : Stretch El) : Array Value := #[.agg #[.int .i32 (s.f : Nat), .int .i32 (s.t : Nat), val8 s.v]]
/-- the three cells of 'now' behind n numbers -/
def nowC (ne : El → El → Bool) (f : Nat → El) (n : Nat) : List Value := if n = 0 then [.int .i32 0, .int .i32 (-1), val8 (f 0)] else [.int .i32 ((spT ne f n).2 : Nat), .int .i32 ((n - 1 : Nat) : Int), val8 (f (spT ne f n).2)]
structure SpSt (J : (Nat → Prop) → List (Stretch El) → World → Prop) (w0 : World) (ne : El → El → Bool) (f : Nat → El) (l bt bn bm n : Nat) (wr : World) : Prop where
  j : J (fun k => k = bt ∨ k = bn ∨ k = bm) (spT ne f n).1 wr
  lies : Lies w0 wr
  ct : wr.heap[bt]? = some (.cells #[.func (.yield l) #[] #[]] 141 (0, 0))
  cn : wr.heap[bn]? = some (.cells (nowC ne f n).toArray 53 (0, 0))
  cm : wr.heap[bm]? = some (.cells #[.bool true] 4 (0, 0))
def SpR (J : (Nat → Prop) → List (Stretch El) → World → Prop) (w0 : World) (ne : El → El → Bool) (f : Nat → El) (l bt bn bm k : Nat) (i : Value) (wr : World) : Prop :=
  ∃ j : Nat, j ≤ 64 ∧ i = .int .i64 (j : Nat) ∧ SpSt J w0 ne f l bt bn bm (64 * k + j) wr
/-- what the range's side gives -/
def SpY (J Jx : (Nat → Prop) → List (Stretch El) → World → Prop) (R : Nat → Prop) (full : List (Stretch El)) (l : Nat) : Prop :=
  ∀ T pre x W1, J T pre W1 → pre.length < full.length → pre ++ [x] = full.take (pre.length + 1) → YieldAt Fence.wide 1 Try.prog l (encQ x) W1 fun e W' =>
      (e = .returned (.bool true) ∧ J T (pre ++ [x]) W' ∧ Kept T R W1 W') ∨ (e = .returned (.bool false) ∧ Jx T (pre ++ [x]) W' ∧ Kept T (fun _ => False) W1 W')
theorem SpSt.put {J : (Nat → Prop) → List (Stretch El) → World → Prop} {w0 : World} {ne : El → El → Bool} {f : Nat → El} {l bt bn bm n : Nat} {wr wr' : World} (h : SpSt J w0 ne f l bt bn bm n wr) (hJ : Abide J) (hg : wr.grownBy wr' (some bn)) (h1 : bt ≠ bn) (h2 : bm ≠ bn) (h0 : w0.heap.size ≤ bn) (m : Nat)
    (hm : (spT ne f m).1 = (spT ne f n).1) (hc : wr'.heap[bn]? = some (.cells (nowC ne f m).toArray 53 (0, 0))) : SpSt J w0 ne f l bt bn bm m wr' := by
  have oth : ∀ k, k < wr.heap.size → k ≠ bn → wr'.heap[k]? = wr.heap[k]? := fun k hk hne => hg.block k hk (fun e => hne (by simpa using e))
  have z1 := (Array.getElem?_eq_some_iff.1 h.ct).1
  have z2 := (Array.getElem?_eq_some_iff.1 h.cn).1
  have z3 := (Array.getElem?_eq_some_iff.1 h.cm).1
  exact ⟨hm ▸ hJ _ _ _ _ _ h.j (Off.of_grown hg (fun k e => by cases e; exact .inr (.inl rfl))) (Wider.refl _ _ _), fun k hk => (oth k (by omega) (by omega)).trans (h.lies k hk), (oth bt z1 h1).trans h.ct, hc, (oth bm z3 h2).trans h.cm⟩
theorem SpSt.kept {J : (Nat → Prop) → List (Stretch El) → World → Prop} {w0 : World} {ne : El → El → Bool} {f : Nat → El} {l bt bn bm n : Nat} {wr W : World} {R : Nat → Prop} (h : SpSt J w0 ne f l bt bn bm n wr) (hR0 : ∀ k, k < w0.heap.size → R k)
    (hk : Kept (fun k => k = bt ∨ k = bn ∨ k = bm) R wr W) (h0 : w0.heap.size ≤ wr.heap.size) :
    Lies w0 W ∧ W.heap[bt]? = some (.cells #[.func (.yield l) #[] #[]] 141 (0, 0)) ∧ W.heap[bn]? = some (.cells (nowC ne f n).toArray 53 (0, 0)) ∧ W.heap[bm]? = some (.cells #[.bool true] 4 (0, 0)) :=
  ⟨fun k hk' => (hk.block k (by omega) (.inr (hR0 k hk'))).trans (h.lies k hk'), hk.below h.ct (.inl (.inl rfl)), hk.below h.cn (.inl (.inr (.inl rfl))), hk.below h.cm (.inl (.inr (.inr rfl)))⟩

set_option maxRecDepth 100000 in
set_option maxHeartbeats 4000000 in
theorem spansC_walk (J Jx : (Nat → Prop) → List (Stretch El) → World → Prop) (R : Nat → Prop) (w0 : World) (f : Nat → El) (l bt bn bm k N : Nat) (hN : N = 1114112) (W : World) (b o : Nat) (bs : List El) (hkk : k < 17408) (hbl : bs.length = 64) (hbs : ∀ j, j < 64 → bs.getD j 0 = f (64 * k + j))
    (hJ : Abide J) (hJx : Abide Jx) (hY : SpY J Jx R (spL neV f N) l) (hR0 : ∀ k, k < w0.heap.size → R k) (h1 : bt ≠ bn) (h2 : bm ≠ bn) (h3 : bt ≠ bm) (h0n : w0.heap.size ≤ bn) (h0m : w0.heap.size ≤ bm) (hb : w0.rangeAt b o (blkC val8 bs)) (hst : SpSt J w0 neV f l bt bn bm (64 * k) W) :
    Calls Try.prog 74 #[.pointer (some ⟨b, o, none⟩), .pointer (some ⟨bn, 0, none⟩), .pointer (some ⟨bt, 0, none⟩), .pointer (some ⟨bm, 0, none⟩)] W fun e W' =>
      (e = .returned (.bool true) ∧ SpSt J w0 neV f l bt bn bm (64 * (k + 1)) W') ∨ (e = .returned (.bool false) ∧ (∃ T q, 0 < q ∧ q ≤ (spL neV f N).length ∧ Jx T ((spL neV f N).take q) W') ∧ W'.heap[bm]? = some (.cells #[.bool false] 4 (0, 0)) ) := by
  have HN := Lib.hid hN; clear hN
  have HJ := Lib.hid hJ; clear hJ
  have HJx := Lib.hid hJx; clear hJx
  have HY := Lib.hid hY; clear hY
  have HR0 := Lib.hid hR0; clear hR0
  have HB := Lib.hid hb; clear hb
  have HBs := Lib.hid hbs; clear hbs
  have HS := Lib.hid hst; clear hst
  have HNe := Lib.hid (And.intro h1 (And.intro h2 h3)); clear h1 h2 h3
  go_enter Try.func74, Try.ntmps74
  go_wp2
  go_loopw [9] (SpR J w0 neV f l bt bn bm k) (fun i _ => 64 - (intOf i).toNat)
  case atStart => exact ⟨0, Nat.zero_le _, rfl, HS.out⟩
  case round =>
    obtain ⟨j, hj, rfl, hst⟩ := hrel
    have HST := Lib.hid hst; clear hst
    by_cases hjn : j < 64
    · have hji : (j : Int) < 64 := by omega
      have q0 : wr.cell? ⟨b, o + j, none⟩ = some (val8 (f (64 * k + j))) := by
        have hjl : j < bs.length := by omega
        rw [HST.out.lies.range HB.out j _ (blkC_get val8_cells bs j hjl), ← HBs.out j hjn, getD_at (d := 0) hjl]
      have HJn : Hid (j < 64) := Lib.hid hjn
      obtain ⟨n, hn⟩ : ∃ n, n = 64 * k + j := ⟨_, rfl⟩
      have hnN : n < 1114112 := by omega
      rw [← hn] at q0 HST
      have q2 : wr.cell? ⟨bt, 0, none⟩ = some (.func (.yield l) #[] #[]) := cell_of_row wr bt 0 _ _ (0, 0) HST.out.ct
      have q3 : wr.cell? ⟨bm, 0, none⟩ = some (.bool true) := cell_of_row wr bm 0 _ _ (0, 0) HST.out.cm
      have q4 := frozen_of_row wr bm 0 _ _ HST.out.cm
      have p0 := cell_of_row wr bn 0 _ _ (0, 0) HST.out.cn
      have p1 := cell_of_row wr bn 1 _ _ (0, 0) HST.out.cn
      have p2 := cell_of_row wr bn 2 _ _ (0, 0) HST.out.cn
      have f0 := frozen_of_row wr bn 0 _ _ HST.out.cn
      have f1 := frozen_of_row wr bn 1 _ _ HST.out.cn
      have f2 := frozen_of_row wr bn 2 _ _ HST.out.cn
      have hsz : w0.heap.size ≤ wr.heap.size := by have := (Array.getElem?_eq_some_iff.1 HST.out.cn).1; omega
      have HNn := Lib.hid hn; clear hn
      unfold val8 at q0
      by_cases hn0 : n = 0
      · have e : nowC neV f n = [.int .i32 0, .int .i32 (-1), val8 (f 0)] := by unfold nowC; rw [if_pos hn0]
        rw [e] at p0 p1 p2
        simp only [List.getElem?_toArray, List.getElem?_cons_zero, List.getElem?_cons_succ] at p0 p1 p2
        have HSt : Hid (SpSt J w0 neV f l bt bn bm 1 (wr.setCell ⟨bn, 1, none⟩ (.int .i32 0))) := Lib.hid (by
          refine HST.out.put HJ.out (grown_store wr bn 1 _) HNe.out.1 HNe.out.2.1 h0n 1 (by rw [hn0, spT_one]; rfl) ?_
          rw [heap_setCell_same wr bn 1 _ _ _ HST.out.cn, e]
          have e1 : nowC neV f 1 = [.int .i32 0, .int .i32 0, val8 (f 0)] := by unfold nowC; rw [if_neg (by omega), spT_one]; rfl
          rw [e1]
          rfl)
        rw [hn0] at q0
        have HE0 := Lib.hid hn0; clear hn0 e
        unfold val8 at p2
        generalize f 0 = x at *
        rcases Bool.eq_false_or_eq_true (FloatKind.f64.format.order (x) (x) != some .eq) with hv | hv
        · go_wp2
          go_roundw
          case rel =>
            have e : 64 * k + (j + 1) = 1 := by have := HNn.out; have := HE0.out; omega
            refine ⟨j + 1, by omega, by go_num, ?_⟩
            rw [e]
            exact HSt.out
          case measure => simp [intOf]; omega
        · go_wp2
          go_roundw
          case rel =>
            have e : 64 * k + (j + 1) = 1 := by have := HNn.out; have := HE0.out; omega
            refine ⟨j + 1, by omega, by go_num, ?_⟩
            rw [e]
            exact HSt.out
          case measure => simp [intOf]; omega
      · obtain ⟨m, rfl⟩ : ∃ m, n = m + 1 := ⟨n - 1, by omega⟩
        have hlt := spT_lt neV f (m + 1) hn0
        have htold := fun h => spT_told (ne := neV) (f := f) (n := m + 1) (N := N) hn0 h (by rw [HN.out]; exact hnN)
        have hcut := fun h => spT_cut (ne := neV) (f := f) (n := m + 1) hn0 h
        have hon := fun h => spT_on (ne := neV) (f := f) (n := m + 1) hn0 h
        have e : nowC neV f (m + 1) = [.int .i32 ((spT neV f (m + 1)).2 : Nat), .int .i32 (m : Nat), val8 (f (spT neV f (m + 1)).2)] := by unfold nowC; rw [if_neg hn0]; rfl
        rw [e] at p0 p1 p2
        simp only [List.getElem?_toArray, List.getElem?_cons_zero, List.getElem?_cons_succ] at p0 p1 p2
        unfold val8 at p2
        obtain ⟨s, hs⟩ : ∃ s, s = (spT neV f (m + 1)).2 := ⟨_, rfl⟩
        rw [← hs] at p0 p2 hlt htold hcut hon e
        have E := Lib.hid e; clear e
        have HSs := Lib.hid hs; clear hs
        have hsm : (s : Int) ≤ (m : Int) := by omega
        have dsm : decide ((s : Int) ≤ (m : Int)) = true := decide_eq_true hsm
        have hms : ¬ (m : Int) < (s : Int) := by omega
        have dms : decide ((m : Int) < (s : Int)) = false := decide_eq_false hms
        have HTo := Lib.hid htold; clear htold
        have HCu := Lib.hid hcut; clear hcut
        have HOn := Lib.hid hon; clear hon
        by_cases hne : neV (f (m + 1)) (f s) = true
        · obtain ⟨t1, t2⟩ := HTo.out hne
          have hcu := HCu.out hne
          obtain ⟨fn, tmps, assign, body, hy, hR⟩ := HY.out _ (spT neV f (m + 1)).1 ⟨s, m, f s⟩ wr HST.out.j t1 t2
          have HT2 := Lib.hid (And.intro t1 t2); clear t1 t2
          have HCt := Lib.hid hcu; clear hcu
          dsimp only [encQ] at hy
          have HRr := Lib.hid hR; clear hR
          have hv : (FloatKind.f64.format.order (f (m + 1)) (f s) != some .eq) = true := hne
          have HNe2 := Lib.hid hne; clear hne
          unfold val8 at hy
          have HXe : Hid (f (m + 1) = f (m + 1)) := Lib.hid rfl
          generalize hfs : f s = y at hy hv p2 HRr HT2 HCt
          generalize hfm : f (m + 1) = x at q0 hv
          have HFs := Lib.hid hfs; have HFm := Lib.hid hfm; clear hfs hfm
          go_upto_region 5 with (fail)
          refine (wpIn_wide (n := 2)).1 ?_
          gi_wp2
          refine HRr.out.mono ?_
          rintro e W3 (⟨rfl, hJ3, hk3⟩ | ⟨rfl, hx3, hk3⟩)
          · obtain ⟨l3, ct3, cn3, cm3⟩ := HST.out.kept HR0.out hk3 hsz
            rw [E.out] at cn3
            have HJ3 := Lib.hid hJ3
            have x0 : W3.cell? ⟨bm, 0, none⟩ = some (.bool true) := cell_of_row W3 bm 0 _ _ (0, 0) cm3
            have x1 := frozen_of_row W3 bm 0 _ _ cm3
            have hz3 : wr.heap.size ≤ W3.heap.size := hk3.size
            obtain ⟨W4, hW4⟩ : ∃ W4, W4 = W3.setCell ⟨bm, 0, none⟩ (.bool true) := ⟨_, rfl⟩
            have oth4 : ∀ k, k ≠ bm → W4.heap[k]? = W3.heap[k]? := fun k hk => by rw [hW4]; exact heap_setCell_other W3 ⟨bm, 0, none⟩ k _ hk
            have cm4 : W4.heap[bm]? = some (.cells #[.bool true] 4 (0, 0)) := by rw [hW4, heap_setCell_same W3 bm 0 _ _ _ cm3]; rfl
            have cn4 := (oth4 bn (fun h => HNe.out.2.1 h.symm)).trans cn3
            have HJ4 := Lib.hid (HJ.out _ _ _ _ _ hJ3 (show Off _ W3 W4 from by rw [hW4]; exact Off.of_grown (grown_store W3 bm 0 _) (fun k e => by cases e; exact .inr (.inr rfl))) (Wider.refl _ _ _))
            have y0 : W4.cell? ⟨bn, 0, none⟩ = some (.int .i32 (s : Nat)) := cell_of_row W4 bn 0 _ _ (0, 0) cn4
            have y1 : W4.cell? ⟨bn, 1, none⟩ = some (.int .i32 (m : Nat)) := cell_of_row W4 bn 1 _ _ (0, 0) cn4
            have y2 : W4.cell? ⟨bn, 2, none⟩ = some (val8 (f s)) := cell_of_row W4 bn 2 _ _ (0, 0) cn4
            have y3 := frozen_of_row W4 bn 0 _ _ cn4
            have y4 := frozen_of_row W4 bn 1 _ _ cn4
            have y5 := frozen_of_row W4 bn 2 _ _ cn4
            have y6 : W4.cell? ⟨bm, 0, none⟩ = some (.bool true) := cell_of_row W4 bm 0 _ _ (0, 0) cm4
            have HW4 := Lib.hid hW4
            have HX := Lib.hid (And.intro l3 (And.intro ct3 (And.intro cn4 cm4)))
            have HO4 := Lib.hid oth4
            clear hy q0 q2 q3 q4 p0 p1 p2 f0 f1 f2 hJ3 hk3 cn4 cm4 l3 ct3 cn3 cm3 hW4 oth4
            gi_wp2
            rw [← HW4.out]
            clear x0 x1
            go_upto_region 9 with (fail)
            obtain ⟨W5, hW5⟩ : ∃ W5, W5 = ((W4.setCell ⟨bn, 0, none⟩ (.int .i32 ((m : Int) + 1))).setCell ⟨bn, 1, none⟩ (.int .i32 0)).setCell ⟨bn, 2, none⟩ (val8 x) := ⟨_, rfl⟩
            obtain ⟨cn5, hg5⟩ := three_set HX.out.2.2.1 (.int .i32 ((m : Int) + 1)) (.int .i32 0) (val8 x)
            rw [← hW5] at cn5 hg5
            have cn6 := heap_setCell_same W5 bn 1 _ _ (.int .i32 ((m : Int) + 1)) cn5
            have hg6 := grown_trans hg5 (grown_store W5 bn 1 (.int .i32 ((m : Int) + 1)))
            have z0 : W5.cell? ⟨bn, 0, none⟩ = some (.int .i32 ((m : Int) + 1)) := cell_of_row W5 bn 0 _ _ (0, 0) cn5
            have z1 : W5.cell? ⟨bn, 1, none⟩ = some (.int .i32 0) := cell_of_row W5 bn 1 _ _ (0, 0) cn5
            have z4 := frozen_of_row W5 bn 1 _ _ cn5
            have HC6 := Lib.hid cn6; have HG6 := Lib.hid hg6
            unfold val8 at hW5
            rw [← hW5]
            clear y0 y1 y2 y3 y4 y5 y6 cn5 cn6 hg5 hg6 hW5
            have d1 : (0 : Int) < (m : Int) + 1 := by omega
            have d2 : decide ((0 : Int) < (m : Int) + 1) = true := decide_eq_true d1
            go_wp2
            go_roundw
            case rel =>
              have e : 64 * k + (j + 1) = m + 1 + 1 := by have := HNn.out; omega
              refine ⟨j + 1, by omega, by go_num, ?_⟩
              rw [e]
              have oth : ∀ k, k < W4.heap.size → k ≠ bn → (W5.setCell ⟨bn, 1, none⟩ (.int .i32 ((m : Int) + 1))).heap[k]? = W4.heap[k]? := fun k hk hne => HG6.out.block k hk (fun e => hne (by simpa using e))
              have hl4 : bm < W4.heap.size := (Array.getElem?_eq_some_iff.1 HX.out.2.2.2).1
              have hbt : W4.heap[bt]? = _ := (HO4.out bt HNe.out.2.2).trans HX.out.2.1
              refine ⟨?_, fun k hk => ?_, ?_, ?_, ?_⟩
              · rw [HCt.out]
                exact HJ.out _ _ _ _ _ HJ4.out (Off.of_grown HG6.out (fun k e => by cases e; exact .inr (.inl rfl))) (Wider.refl _ _ _)
              · rw [oth k (by omega) (by omega), HO4.out k (by omega)]
                exact HX.out.1 k hk
              · exact (oth bt (Array.getElem?_eq_some_iff.1 hbt).1 HNe.out.1).trans hbt
              · have e2 : nowC neV f (m + 1 + 1) = [.int .i32 ((m + 1 : Nat) : Int), .int .i32 ((m + 1 : Nat) : Int), val8 x] := by
                  unfold nowC
                  rw [if_neg (by omega), HCt.out, HFm.out]
                  rfl
                rw [e2]
                have := HC6.out
                simp only [List.setIfInBounds_toArray, List.set_cons_succ, List.set_cons_zero] at this
                exact this
              · exact (oth bm hl4 HNe.out.2.1).trans HX.out.2.2.2
            case measure => simp [intOf]; omega
          · have cm3 := hk3.below HST.out.cm (.inl (.inr (.inr rfl)))
            have x0 : W3.cell? ⟨bm, 0, none⟩ = some (.bool true) := cell_of_row W3 bm 0 _ _ (0, 0) cm3
            have x1 := frozen_of_row W3 bm 0 _ _ cm3
            have cm4 : (W3.setCell ⟨bm, 0, none⟩ (.bool false)).heap[bm]? = some (.cells #[.bool false] 4 (0, 0)) := by rw [heap_setCell_same W3 bm 0 _ _ _ cm3]; rfl
            have x2 : (W3.setCell ⟨bm, 0, none⟩ (.bool false)).cell? ⟨bm, 0, none⟩ = some (.bool false) := cell_of_row _ bm 0 _ _ (0, 0) cm4
            have HCm := Lib.hid cm4
            have HXf := Lib.hid (HJx.out _ _ _ _ _ hx3 (Off.of_grown (grown_store W3 bm 0 (.bool false)) (fun k e => by cases e; exact .inr (.inr rfl))) (Wider.refl _ _ _))
            clear hy q0 q2 q3 q4 p0 p1 p2 f0 f1 f2 hx3 hk3 cm3 cm4
            gi_wp2
            go_wp2
            go_ret
            refine .inr ⟨rfl, ⟨fun k => k = bt ∨ k = bn ∨ k = bm, _, Nat.succ_pos _, HT2.out.1, ?_⟩, HCm.out⟩
            rw [← HT2.out.2]
            exact HXf.out
        · have hv : (FloatKind.f64.format.order (f (m + 1)) (f s) != some .eq) = false := eq_false_of_ne_true hne
          have hc := HOn.out hne
          have HSt : Hid (SpSt J w0 neV f l bt bn bm (m + 1 + 1) (wr.setCell ⟨bn, 1, none⟩ (.int .i32 ((m : Int) + 1)))) := Lib.hid (by
            refine HST.out.put HJ.out (grown_store wr bn 1 _) HNe.out.1 HNe.out.2.1 h0n (m + 1 + 1) (by rw [hc]) ?_
            rw [heap_setCell_same wr bn 1 _ _ _ HST.out.cn, E.out]
            have e1 : nowC neV f (m + 1 + 1) = [.int .i32 (s : Nat), .int .i32 ((m + 1 : Nat) : Int), val8 (f s)] := by unfold nowC; rw [if_neg (by omega), hc, ← HSs.out]; rfl
            rw [e1]
            rfl)
          clear hc hne
          generalize f s = y at hv p2
          generalize f (m + 1) = x at q0 hv
          go_wp2
          go_roundw
          case rel =>
            have e : 64 * k + (j + 1) = m + 1 + 1 := by have := HNn.out; omega
            refine ⟨j + 1, by omega, by go_num, ?_⟩
            rw [e]
            exact HSt.out
          case measure => simp [intOf]; omega
    · obtain rfl : j = 64 := by omega
      have HS6 : Hid (SpSt J w0 neV f l bt bn bm (64 * (k + 1)) wr) := Lib.hid HST.out
      go_wp2
      go_ret
      exact .inl ⟨rfl, HS6.out⟩

set_option maxRecDepth 100000 in
set_option maxHeartbeats 1600000 in
theorem spans_stops (w0 : World) (g : Nat) (T : TrieD El) (hk : TrieOk T) (h0 : 0 < T.low.length) (ht : TrieAt val8 148 64 w0 g T) (b : Nat) (R : Nat → Prop) (w : World) (hw : Lies w0 w) (hs : w0.heap.size ≤ w.heap.size) (hR0 : ∀ k, k < w0.heap.size → R k) (hR1 : R b)
    (c1 : w.cell? ⟨b, 0, none⟩ = some (.pointer (some ⟨g, 0, none⟩))) (N : Nat) (hN : N = 1114112) :
    SeqX Try.prog 71 #[.pointer (some ⟨b, 0, none⟩)] encQ R (fun xs => xs = spL neV (lookT 0 T) N) (fun pre => ∃ q, 0 < q ∧ q ≤ (spL neV (lookT 0 T) N).length ∧ pre = (spL neV (lookT 0 T) N).take q) (spL neV (lookT 0 T) N).length w := by
  intro l J Jx W hW hJ hJx hY h1
  refine callsIn_wide.2 ?_
  have HY : Hid (SpY J Jx R (spL neV (lookT 0 T) N) l) := Lib.hid (fun T pre x W1 hj hlen htk => hY T pre x W1 hj hlen ⟨pre.length + 1, Nat.succ_pos _, hlen, htk⟩)
  have HJ := Lib.hid hJ
  have HJx := Lib.hid hJx
  have hWl : Lies w0 W := hw.of_below hs hW
  have hWs : w0.heap.size ≤ W.heap.size := Nat.le_trans hs hW.size
  have d1 := (hW.cell (p := ⟨b, 0, none⟩) (World.block_lt_of_cell? w _ c1)).trans c1
  have hbl : b < W.heap.size := World.block_lt_of_cell? W ⟨b, 0, none⟩ d1
  obtain ⟨bt, hbt⟩ : ∃ bt, bt = W.heap.size := ⟨_, rfl⟩
  have hB1 := (Below.refl _ W).alloc (Nat.le_refl _) (.cells #[.func (.yield l) #[] #[]] 141)
  have hA1 := heap_alloc_new W (.cells #[.func (.yield l) #[] #[]] 141)
  have hz1 := World.size_alloc W (.cells #[.func (.yield l) #[] #[]] 141)
  have HW1 : Hid (∃ w1, W.alloc (.cells #[.func (.yield l) #[] #[]] 141) = w1) := Lib.hid ⟨_, rfl⟩
  obtain ⟨w1, hw1⟩ := HW1.out
  clear HW1
  rw [hw1] at hB1 hA1 hz1
  have e1 : w1.cell? ⟨b, 0, none⟩ = some (.pointer (some ⟨g, 0, none⟩)) := (hB1.cell (p := ⟨b, 0, none⟩) (by show b < _; omega)).trans d1
  have HT1 := Lib.hid (there8_walk w1 g T hk h0 ((hWl.of_below hWs hB1).trie ht))
  have HAt := Lib.hid (At8_walk w1 g T hk h0 ((hWl.of_below hWs hB1).trie ht) 0 (by omega) (by omega))
  rw [show runeR 0 = 0 from rfl] at HAt
  obtain ⟨y0, hy0⟩ : ∃ y0, y0 = lookT 0 T 0 := ⟨_, rfl⟩
  rw [← hy0] at HAt
  have HY0 := Lib.hid hy0; clear hy0
  have HBl := Lib.hid (fun (w2 : World) => blocks8_walk w0 g T hk h0 ht 74 #[.pointer (some ⟨bt + 1, 0, none⟩), .pointer (some ⟨bt, 0, none⟩), .pointer (some ⟨bt + 1 + 1, 0, none⟩)]
    (fun k W => SpSt J w0 neV (lookT 0 T) l bt (bt + 1) (bt + 1 + 1) (64 * k) W) (fun W' => (∃ T' q, 0 < q ∧ q ≤ (spL neV (lookT 0 T) N).length ∧ Jx T' ((spL neV (lookT 0 T) N).take q) W') ∧ W'.heap[bt + 1 + 1]? = some (.cells #[.bool false] 4 (0, 0))) w2 (enters_of Try.func74 (by kernel_rfl) rfl)
    (fun k W h => h.lies) (fun k W b' o' hk' hst hr => spansC_walk J Jx R w0 (lookT 0 T) l bt (bt + 1) (bt + 1 + 1) k N hN W b' o' (lowAt T k) hk' (lowAt_length hk k hk') (fun j hj => lowAt_look 0 T k j hj) hJ hJx HY.out hR0 (by omega) (by omega) (by omega) (by omega) (by omega) hr hst))
  have HN := Lib.hid hN
  have HW1 := Lib.hid (And.intro hWl (And.intro hB1 (And.intro hA1 h1)))
  have HSz := Lib.hid (And.intro hWs hbt)
  have HH := Lib.hid hw1
  have hb1 : W.heap.size = bt := hbt.symm
  have hz1' : w1.heap.size = bt + 1 := by rw [hz1, hb1]
  have E1 := Lib.hid e1
  clear hJ hJx hY h1 hW hWl hWs d1 hbl hB1 hA1 e1 hR0 hR1 c1 hN hs hw ht hk h0 hbt hw1 hz1
  go_enter Try.func71, Try.ntmps71
  go_upto_region 1 with (fail)
  rw [HH.out]
  have e1 := E1.out
  go_wp2_with fail
  refine HT1.out.mono ?_
  rintro e w1' ⟨rfl, h1'⟩
  subst h1'
  clear HT1
  go_wp2_with fail
  refine HAt.out.mono ?_
  rintro e w2 ⟨rfl, q, rfl⟩
  have HBd : Hid (Below w1.heap.size w1 (w1.drewN q)) := Lib.hid (below_drewN (Below.refl _ w1) q)
  have e2 : (w1.drewN q).cell? ⟨b, 0, none⟩ = some (.pointer (some ⟨g, 0, none⟩)) := e1
  have hz2 : (w1.drewN q).heap.size = bt + 1 := hz1'
  clear e1 HAt hz1'
  generalize w1.drewN q = w2 at *
  have hB3 := (Below.refl _ w2).alloc (Nat.le_refl _) (.cells #[.int .i32 0, .int .i32 (-1), val8 y0] 53)
  have hA3 := heap_alloc_new w2 (.cells #[.int .i32 0, .int .i32 (-1), val8 y0] 53)
  have hz3 := World.size_alloc w2 (.cells #[.int .i32 0, .int .i32 (-1), val8 y0] 53)
  obtain ⟨w3, hw3⟩ : ∃ w3, w3 = w2.alloc (.cells #[.int .i32 0, .int .i32 (-1), val8 y0] 53) := ⟨_, rfl⟩
  rw [← hw3] at hB3 hA3 hz3
  have hB4 := (Below.refl _ w3).alloc (Nat.le_refl _) (.cells #[.bool true] 4)
  have hA4 := heap_alloc_new w3 (.cells #[.bool true] 4)
  have hz4 := World.size_alloc w3 (.cells #[.bool true] 4)
  obtain ⟨w4, hw4⟩ : ∃ w4, w4 = w3.alloc (.cells #[.bool true] 4) := ⟨_, rfl⟩
  rw [← hw4] at hB4 hA4 hz4
  have hB24 := hB3.trans (hB4.mono (by omega))
  have hB14 := HBd.out.trans (hB24.mono HBd.out.size)
  have HS4 : Hid (SpSt J w0 neV (lookT 0 T) l bt (bt + 1) (bt + 1 + 1) (64 * 0) w4) := Lib.hid (by
    obtain ⟨hWl, hB1, hA1, h1⟩ := HW1.out
    have hb4 : Below W.heap.size W w4 := hB1.trans (hB14.mono hB1.size)
    refine ⟨HJ.out _ _ _ _ _ h1 (Off.of_below hb4) (fun k hk => .inr (by rcases hk with hk | hk | hk <;> omega)), hWl.of_below HSz.out.1 hb4, ?_, ?_, ?_⟩
    · rw [hb1] at hA1
      exact (hB14.block _ (by have := (Array.getElem?_eq_some_iff.1 hA1).1; omega)).trans hA1
    · rw [hz2] at hA3
      have e : nowC neV (lookT 0 T) (64 * 0) = [.int .i32 0, .int .i32 (-1), val8 y0] := by rw [HY0.out]; rfl
      rw [e]
      exact (hB4.block _ (by omega)).trans hA3
    · rw [hz3, hz2] at hA4
      exact hA4)
  have e4 : w4.cell? ⟨b, 0, none⟩ = some (.pointer (some ⟨g, 0, none⟩)) := (hB24.cell (p := ⟨b, 0, none⟩) (World.block_lt_of_cell? w2 _ e2)).trans e2
  unfold val8 at hw3
  unfold val8
  have HW3 := Lib.hid (And.intro hw3 hw4)
  have HE4 := Lib.hid e4
  have hz3' : w3.heap.size = bt + 1 + 1 := by rw [hz3, hz2]
  have HZ := Lib.hid (And.intro hz2 hz3')
  clear hB3 hA3 hz3 hB4 hA4 hz4 hB24 hB14 e4 hw3 hw4 hz2 hz3'
  go_upto_region 4 with (fail)
  rw [← HW3.out.1, ← HW3.out.2, HZ.out.1]
  have e4 := HE4.out
  clear e2
  go_wp2_with fail
  refine (HBl.out w4 HS4.out).mono ?_
  clear HBl e4
  rintro e w5 ⟨⟨u, rfl⟩, (h5 | ⟨⟨T', q, hq0, hql, hx5⟩, hm5⟩)⟩
  · rw [show 64 * 17408 = N by rw [HN.out]] at h5
    have hN0 : N ≠ 0 := by rw [HN.out]; omega
    have e : nowC neV (lookT 0 T) N = [.int .i32 ((spT neV (lookT 0 T) N).2 : Nat), .int .i32 ((N - 1 : Nat) : Int), val8 (lookT 0 T (spT neV (lookT 0 T) N).2)] := by unfold nowC; rw [if_neg hN0]
    obtain ⟨fn, tmps, assign, body, hy, hR⟩ := HY.out _ (spT neV (lookT 0 T) N).1 ⟨(spT neV (lookT 0 T) N).2, N - 1, lookT 0 T (spT neV (lookT 0 T) N).2⟩ w5 h5.j (spL_last neV (lookT 0 T) N).1 (spL_last neV (lookT 0 T) N).2
    have HRr := Lib.hid hR; clear hR
    dsimp only [encQ] at hy
    have hcn := h5.cn
    rw [e] at hcn
    have q0 : w5.cell? ⟨bt, 0, none⟩ = some (.func (.yield l) #[] #[]) := cell_of_row w5 bt 0 _ _ (0, 0) h5.ct
    have q1 : w5.cell? ⟨bt + 1, 0, none⟩ = some (.int .i32 ((spT neV (lookT 0 T) N).2 : Nat)) := cell_of_row w5 (bt + 1) 0 _ _ (0, 0) hcn
    have q2 : w5.cell? ⟨bt + 1, 1, none⟩ = some (.int .i32 ((N - 1 : Nat) : Int)) := cell_of_row w5 (bt + 1) 1 _ _ (0, 0) hcn
    have q3 : w5.cell? ⟨bt + 1, 2, none⟩ = some (val8 (lookT 0 T (spT neV (lookT 0 T) N).2)) := cell_of_row w5 (bt + 1) 2 _ _ (0, 0) hcn
    have q4 : w5.cell? ⟨bt + 1 + 1, 0, none⟩ = some (.bool true) := cell_of_row w5 (bt + 1 + 1) 0 _ _ (0, 0) h5.cm
    have HLast := Lib.hid (spL_last neV (lookT 0 T) N)
    have HFull : Hid ((spT neV (lookT 0 T) N).1 ++ [⟨(spT neV (lookT 0 T) N).2, N - 1, lookT 0 T (spT neV (lookT 0 T) N).2⟩] = spL neV (lookT 0 T) N) := Lib.hid rfl
    clear h5 hcn e
    unfold val8 at q3 hy
    generalize hgs : lookT 0 T (spT neV (lookT 0 T) N).2 = y at q3 hy HRr HLast HFull
    generalize hgs2 : (spT neV (lookT 0 T) N).2 = s at q1 hy HRr HLast HFull
    generalize hgs3 : N - 1 = M at q2 hy HRr HLast HFull
    clear hgs hgs2 hgs3
    go_upto_region 6 with (fail)
    refine (wpIn_wide (n := 2)).1 ?_
    gi_wp2
    refine HRr.out.mono ?_
    rintro e W3 (⟨rfl, hJ3, hk3⟩ | ⟨rfl, hx3, hk3⟩)
    · rw [HFull.out] at hJ3
      have HJ3 := Lib.hid hJ3
      clear hJ3 hk3 hy q0 q1 q2 q3 q4
      gi_wp2
      go_wp2
      go_end0
      exact ⟨⟨_, rfl⟩, .inl ⟨_, _, rfl, HJ3.out⟩⟩
    · rw [HLast.out.2] at hx3
      have HX3 := Lib.hid hx3
      clear hx3 hk3 hy q0 q1 q2 q3 q4
      gi_wp2
      go_wp2
      go_end0
      exact ⟨⟨_, rfl⟩, .inr ⟨_, _, ⟨_, Nat.succ_pos _, HLast.out.1, rfl⟩, HX3.out⟩⟩
  · have q4 : w5.cell? ⟨bt + 1 + 1, 0, none⟩ = some (.bool false) := cell_of_row w5 (bt + 1 + 1) 0 _ _ (0, 0) hm5
    have HX5 := Lib.hid hx5
    clear hx5 hm5
    go_wp2
    go_end0
    exact ⟨⟨_, rfl⟩, .inr ⟨_, _, ⟨q, hq0, hql, rfl⟩, HX5.out⟩⟩
end Go.Proofs.Ytabbabkmojaoaaa.VF
