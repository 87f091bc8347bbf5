/-
  The walk of the library's removal of the empty pieces.
-/
import Derived.Test.YtkcdcgijbaepmaaW2
set_option linter.unusedVariables false
namespace Go.Proofs.Ytkcdcgijbaepmaa
open Go.RowKit

def DelR (B n g c : Nat) (ps : List PD) (w : World) (i j : Value) (wr : World) : Prop :=
  ∃ (ii jj : Nat) (L : List PD), ii + 1 ≤ jj ∧ jj ≤ n ∧ i = .int .i64 ii ∧ j = .int .i64 jj ∧ L.take ii = liveL (ps.take jj) ∧ L.drop jj = ps.drop jj ∧ OwnP B wr (some ⟨g, 0, none⟩) n c L ∧ Below B w wr
theorem del_keep {ps L : List PD} {ii jj : Nat} (h1 : ii + 1 ≤ jj) (hj : jj < ps.length) (hl : L.length = ps.length) (ht : L.take ii = liveL (ps.take jj)) (hd : L.drop jj = ps.drop jj) (hlv : ¬ ps[jj].t ≤ ps[jj].f) :
    (L.set ii ps[jj]).take (ii + 1) = liveL (ps.take (jj + 1)) ∧ (L.set ii ps[jj]).drop (jj + 1) = ps.drop (jj + 1) := by
  constructor
  · rw [live_take ps jj hj, if_neg hlv, ← ht, List.take_succ_eq_append_getElem (by simp; omega)]
    have e : (L.set ii ps[jj]).take ii = L.take ii := by
      apply List.ext_getElem?
      intro i
      by_cases hi : i < ii
      · rw [List.getElem?_take_of_lt hi, List.getElem?_take_of_lt hi, List.getElem?_set, if_neg (by omega)]
      · rw [List.getElem?_take_eq_none (by omega), List.getElem?_take_eq_none (by omega)]
    rw [e]
    simp
  · have e : (L.set ii ps[jj]).drop (jj + 1) = L.drop (jj + 1) := by
      apply List.ext_getElem?
      intro i
      simp only [List.getElem?_drop, List.getElem?_set]
      rw [if_neg (by omega)]
    rw [e]
    have := congrArg (List.drop 1) hd
    simpa [List.drop_drop] using this
theorem del_drop {ps L : List PD} {ii jj : Nat} (hj : jj < ps.length) (ht : L.take ii = liveL (ps.take jj)) (hd : L.drop jj = ps.drop jj) (hlv : ps[jj].t ≤ ps[jj].f) :
    L.take ii = liveL (ps.take (jj + 1)) ∧ L.drop (jj + 1) = ps.drop (jj + 1) := by
  constructor
  · rw [live_take ps jj hj, if_pos hlv, ht, List.append_nil]
  · have := congrArg (List.drop 1) hd
    simpa [List.drop_drop] using this

set_option maxRecDepth 100000 in
set_option maxHeartbeats 2000000 in
theorem Delete_walk (B : Nat) (a : Option Addr) (n c : Nat) (ps : List PD) (w : World) (hlt : n ≤ 1048576) (hB : B ≤ w.heap.size) (ho : OwnP B w a n c ps) :
    Calls Try.prog 48 #[.slice a n c, .func (.func 50) #[] #[]] w fun e w' => ∃ k, e = .returned (.slice a k c) ∧ OwnP B w' a k c (liveL ps) ∧ Below B w w' := by
  have HN := Lib.hid ho.len
  have HO := Lib.hid ho; clear ho
  go_enter Try.func48, Try.ntmps48
  go_wp2_with fail
  refine (IndexGone_walk a n c ps w HN.out hlt HO.out.pieces).mono ?_
  rintro e w1 ⟨hf, hb⟩
  have HB1 := Lib.hid (hb.mono hB)
  have HO1 := Lib.hid (HO.out.below hb (Nat.le_refl _))
  have hsz := hb.size
  clear hb
  rcases hf with ⟨i, hi, rfl, hdead, hnone⟩ | ⟨rfl, hnone⟩
  · have hin : i < n := by rw [← HN.out]; exact hi
    have HL : Hid (ps.take i = liveL (ps.take (i + 1))) := Lib.hid (by rw [live_take ps i hi, if_pos hdead, List.append_nil, live_take_all ps i (by omega) hnone])
    obtain ⟨g, ha, hg1, hg2, hg3, hg4⟩ := HO1.out.at (by omega)
    subst ha
    clear hi hdead hnone
    have hni : (((i : Nat) : Int) == -1) = false := by
      rw [beq_eq_false_iff_ne]
      omega
    go_wp2
    go_loopw [5, 6] (DelR B n g c ps w1) (fun _ j _ => n - (intOf j).toNat)
    case atStart => exact ⟨i, i + 1, ps, Nat.le_refl _, hin, rfl, by go_num, HL.out, rfl, HO1.out, Below.refl _ _⟩
    case round =>
      obtain ⟨ii, jj, L, h1, h2, rfl, rfl, ht, hd, hown, hbel⟩ := hrel
      have HLl := Lib.hid hown.len
      have HOw := Lib.hid hown; clear hown
      have HBl := Lib.hid hbel; clear hbel
      have HT := Lib.hid ht; clear ht
      have HD := Lib.hid hd; clear hd
      by_cases hjn : jj < n
      · have hjl : jj < ps.length := by rw [HN.out]; exact hjn
        have hjL : jj < L.length := by rw [HLl.out]; exact hjn
        have HE : Hid (L[jj] = ps[jj]) := by
          have := congrArg (fun l : List PD => l[0]?) HD.out
          simp only [List.getElem?_drop, Nat.add_zero] at this
          rw [List.getElem?_eq_getElem hjL, List.getElem?_eq_getElem hjl] at this
          exact Lib.hid (Option.some.inj this)
        have hLp : L.length = ps.length := by rw [HLl.out, HN.out]
        have HK := Lib.hid (fun h => del_keep h1 hjl hLp HT.out HD.out h)
        have HG := Lib.hid (fun h => del_drop hjl HT.out HD.out h)
        have HSt := Lib.hid (fun (w' : World) (h : OwnP B w' (some ⟨g, 0, none⟩) n c L) => h.store ii (by omega) ps[jj])
        obtain ⟨u0, u1⟩ := HOw.out.pieces.get jj hjL
        rw [HE.out] at u0 u1
        simp only [Nat.zero_add] at u0 u1
        generalize ps[jj] = p at *
        clear HE hjl hjL hLp
        have hin2 : ii < n := by omega
        have hji : (jj : Int) < (n : Int) := by omega
        have hii : (ii : Int) < (n : Int) := by omega
        have HAL := Lib.hid ((Below.refl wr.heap.size wr).alloc (Nat.le_refl _) (.cells #[.int .i64 p.f, .int .i64 p.t] 45))
        have HBX : Hid ((wr.alloc (.cells #[.int .i64 p.f, .int .i64 p.t] 45)).heap[wr.heap.size]? = some (.cells #[.int .i64 p.f, .int .i64 p.t] 45 (0, 0))) := Lib.hid (heap_alloc_new wr _)
        have HBs := Lib.hid (show B ≤ wr.heap.size from by have := HBl.out.size; omega)
        go_wp2_with fail
        generalize (wr.alloc (.cells #[.int .i64 p.f, .int .i64 p.t] 45)) = w5 at *
        have HO5 := Lib.hid (HOw.out.below HAL.out (Nat.le_refl _))
        have HB5 := Lib.hid (HBl.out.trans (HAL.out.mono HBs.out))
        refine (gone_walk p w5).mono ?_
        rintro e w6 ⟨rfl, hb6⟩
        have HO6 := Lib.hid (HO5.out.below hb6 (Nat.le_refl _))
        have HB6 := Lib.hid (HB5.out.trans (hb6.mono (by have := HBs.out; have := HAL.out.size; omega)))
        have HBX6 : Hid (w6.heap[wr.heap.size]? = some (.cells #[.int .i64 p.f, .int .i64 p.t] 45 (0, 0))) := Lib.hid (by
          rw [hb6.block _ (Array.getElem?_eq_some_iff.1 HBX.out).1]; exact HBX.out)
        clear hb6
        by_cases hdead : p.t ≤ p.f
        · rw [decide_eq_true hdead]
          obtain ⟨HG1, HG2⟩ := HG.out hdead
          have HG1 := Lib.hid HG1
          have HG2 := Lib.hid HG2
          clear hdead
          go_wp2
          go_roundw
          case rel =>
            exact ⟨ii, jj + 1, L, by omega, by omega, rfl, by go_num, HG1.out, HG2.out, HO6.out, HB6.out⟩
          case measure => simp [intOf]; omega
        · rw [decide_eq_false hdead]
          obtain ⟨HK1, HK2⟩ := HK.out (by omega)
          have HK1 := Lib.hid HK1
          have HK2 := Lib.hid HK2
          clear hdead u0 u1
          have d0 : w6.cell? ⟨wr.heap.size, 0, none⟩ = some (.int .i64 p.f) := by simp [World.cell?, HBX6.out]
          have d1 : w6.cell? ⟨wr.heap.size, 1, none⟩ = some (.int .i64 p.t) := by simp [World.cell?, HBX6.out]
          obtain ⟨v0, v1, a0, b0, a1, b1⟩ := there_two (HO6.out.there ii hin2) (.int .i64 p.f)
          have HO7 := Lib.hid (HSt.out w6 HO6.out)
          have HB7 := Lib.hid (below_setCells HB6.out g (ii * 2) (cellsP p) hg1)
          go_wp2
          go_roundw
          case rel => exact ⟨ii + 1, jj + 1, _, by omega, by omega, by go_num, by go_num, HK1.out, HK2.out, HO7.out, HB7.out⟩
          case measure => simp [intOf]; omega
      · obtain rfl : n = jj := by omega
        have HLive : Hid (L.take ii = liveL ps) := Lib.hid (by rw [HT.out, List.take_of_length_le (by rw [HN.out]; exact Nat.le_refl _)])
        have hin2 : ii < n := by omega
        have hic : ii ≤ c := by omega
        have hnc : n ≤ c := hg3
        have hcl : ∀ j, j < (n - ii) * (Value.agg #[.int .i64 0, .int .i64 0]).cells.size → (wr.cell? ⟨g, ii * 2 + j, none⟩).isSome = true := by
          intro j hj
          have hj' : j < (n - ii) * 2 := hj
          have hl := HOw.out.1
          rw [World.ownsRow.cellAt HOw.out (ii * 2 + j) (by omega), List.getElem?_eq_getElem (by omega)]
          rfl
        have hfz : ∀ j, j < (n - ii) * (Value.agg #[.int .i64 0, .int .i64 0]).cells.size → wr.frozen? ⟨g, ii * 2 + j, none⟩ = false := fun j _ => World.ownsRow.frozenAt HOw.out _
        have HCl := Lib.hid hcl; clear hcl
        have HFz := Lib.hid hfz; clear hfz
        have HOf := Lib.hid (HOw.out.cleared ii (by omega) (Builtin.zeroCells (Value.agg #[.int .i64 0, .int .i64 0]).cells (n - ii)).toList)
        have HBf := Lib.hid (below_setCells (HB1.out.trans HBl.out) g (ii * 2) (Builtin.zeroCells (Value.agg #[.int .i64 0, .int .i64 0]).cells (n - ii)).toList hg1)
        rw [HLive.out] at HOf
        have hr : (Builtin.clear_ #[22] 0 #[.slice (some ⟨g, ii * 2, none⟩) (n - ii) (c - ii)]).run Try.prog wr = .ok (.tuple #[]) (wr.setCells g (ii * 2) (Builtin.zeroCells (Value.agg #[.int .i64 0, .int .i64 0]).cells (n - ii)).toList) := run_clearN wr _ _ _ _ Try.underlying22 Try.zeroValue45 zero_one g (ii * 2) (n - ii) (c - ii) HCl.out HFz.out
        go_wp2
        go_ret
        exact ⟨_, rfl, HOf.out, HBf.out⟩
  · have HAll : Hid (liveL ps = ps) := Lib.hid (by
      have := live_take_all ps ps.length (Nat.le_refl _) hnone
      rwa [List.take_length] at this)
    clear hnone
    go_wp2
    go_ret
    exact ⟨_, rfl, by rw [HAll.out]; exact HO1.out, HB1.out⟩
end Go.Proofs.Ytkcdcgijbaepmaa
