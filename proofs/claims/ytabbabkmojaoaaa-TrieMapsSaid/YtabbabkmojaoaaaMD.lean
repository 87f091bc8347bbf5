/- several texts in one: TH8 FC8 TJ TG8 -/
import Derived.Test.YtabbabkmojaoaaaTQ
import Derived.Test.YtabbabkmojaoaaaTZ
import Derived.Test.YtabbabkmojaoaaaMB
import Derived.Test.YtabbabkmojaoaaaSP0
import Derived.Test.YtabbabkmojaoaaaTN
import Derived.Test.YtabbabkmojaoaaaTI
import Derived.Test.YtabbabkmojaoaaaRQ
set_option linter.unusedVariables false
set_option linter.unusedSimpArgs false
/-
  The walk of 'Same' (uint8).
-/
namespace Go.Proofs.Ytabbabkmojaoaaa
open Go.RowKit

theorem there_walk (w : World) (g : Nat) (T : TrieD Int) (hk : TrieOk T) (h0 : 0 < T.low.length) (h : TrieAt val8 114 64 w g T) :
    Calls Try.prog 60 #[.pointer (some ⟨g, 0, none⟩)] w fun e w' => e = .returned (.bool true) ∧ w = w' := by
  obtain ⟨am, cm, al, cl, h1, h2, h3⟩ := h
  have c2 := TrieAt.cell_low (val := val8) hk h1
  have h0i : (0 : Int) < (T.low.length : Int) := by omega
  have d0 : decide ((0 : Int) < (T.low.length : Int)) = true := decide_eq_true h0i
  have H1 := Lib.hid h1; clear h1
  have H2 := Lib.hid h2; clear h2
  have H3 := Lib.hid h3; clear h3
  clear hk
  generalize T.low.length = n at *
  go_enter Try.func60, Try.ntmps60
  go_wp2
  go_ret
  exact ⟨rfl, rfl⟩
theorem wpStill_bin {P : Program} {ops : Array Oper} {w : World} {Q : Act → Prop} {rest : List Oper} {o : Oper} {a : Act} (hg : o.guard = none) (bo : BinOp) (t : TypeId) (x y : Operand) (t2 : TypeId) (ho : o.op = .binOp bo t x y t2) (xv yv v : Value) (hx : a.eval x = xv) (hy : a.eval y = yv)
    (hG : (eqGuard bo t x y xv yv).run P w = .ok () w) (hr : (binOp bo t xv yv).run P w = .ok v w) (h : wpStill P ops w Q rest (a.put o.dst v)) : wpStill P ops w Q (o :: rest) a := by
  refine wpStill_val hg ?_ h
  unfold execOp
  simp only [ho, hx, hy, Sem.run_bind, Sem.run_pure, Result.andThen_ok, hG, hr]
theorem eqg_low (xs ys : Array Value) (x y : Operand) (w : World) : (eqGuard .neq 119 x y (.agg xs) (.agg ys)).run Try.prog w = .ok () w := run_eqGuard_agg w .neq 119 x y xs ys (by kernel_rfl)
theorem neq_agg {P : Program} (w : World) (t : TypeId) (xs ys : Array Value) (b : Bool) (h : (Op.equal t (.agg xs) (.agg ys)).run P w = .ok b w) : (binOp .neq t (.agg xs) (.agg ys)).run P w = .ok (.bool (!b)) w := by
  simp [binOp, h]
theorem eqL_low (l m : List Int) (h : l.length = m.length) : eqL (fun a b => decide (a = b)) l m = decide (l = m) := by
  by_cases e : l = m
  · rw [(eqL_iff l m h).2 e]; simp [e]
  · cases e2 : eqL (fun a b => decide (a = b)) l m
    · simp [e]
    · exact absurd ((eqL_iff l m h).1 e2) e
theorem neq_low (l m : List Int) (hl : l.length = 64) (hm : m.length = 64) (w : World) : (binOp .neq 119 (.agg (blkC val8 l).toArray) (.agg (blkC val8 m).toArray)).run Try.prog w = .ok (.bool (!decide (l = m))) w := by
  have := Try.k8.equal w l m hl hm
  rw [eqL_low l m (by omega)] at this
  exact neq_agg w _ _ _ _ this
def SaO (w : World) (T1 T2 : TrieD Int) (v : Value) (wr : World) : Prop := ∃ c : Nat, c ≤ 272 ∧ v = .int .i64 (c : Nat) ∧ (∀ k, k < 64 * c → lowAt T1 k = lowAt T2 k) ∧ ∃ n, wr = w.drewN n
def SaI (w : World) (T1 T2 : TrieD Int) (c : Nat) (v : Value) (wr : World) : Prop := ∃ j : Nat, j ≤ 64 ∧ v = .int .i64 (j : Nat) ∧ (∀ k, k < 64 * c + j → lowAt T1 k = lowAt T2 k) ∧ ∃ n, wr = w.drewN n
theorem same_look {T1 T2 : TrieD Int} (h1 : TrieOk T1) (h2 : TrieOk T2) : (∀ k, k < 17408 → lowAt T1 k = lowAt T2 k) ↔ ∀ r, r ≤ 1114111 → lookT 0 T1 r = lookT 0 T2 r := by
  constructor
  · intro h r hr
    have e := h (r / 64) (by omega)
    rw [show r = 64 * (r / 64) + r % 64 by omega, ← lowAt_look 0 T1 (r / 64) (r % 64) (by omega), ← lowAt_look 0 T2 (r / 64) (r % 64) (by omega), e]
  · intro h k hk
    apply List.ext_getElem?
    intro j
    have l1 := lowAt_length h1 k hk
    have l2 := lowAt_length h2 k hk
    by_cases hj : j < 64
    · have := h (64 * k + j) (by omega)
      rw [← lowAt_look 0 T1 k j hj, ← lowAt_look 0 T2 k j hj, getD_at (by omega), getD_at (by omega)] at this
      rw [List.getElem?_eq_getElem (by omega), List.getElem?_eq_getElem (by omega), this]
    · rw [List.getElem?_eq_none (by omega), List.getElem?_eq_none (by omega)]
/-- what a trie's cells tell of middle block c -/
structure TopC (w : World) (g : Nat) (T : TrieD Int) (c cm cl i bm om bl ol : Nat) : Prop where
  mid : w.cell? ⟨g, 272, none⟩ = some (.slice (some ⟨bm, om, none⟩) T.mid.length cm)
  low : w.cell? ⟨g, 273, none⟩ = some (.slice (some ⟨bl, ol, none⟩) T.low.length cl)
  top : w.cell? ⟨g, c, none⟩ = some (.int .u16 (i : Nat))
  il : i < T.mid.length
  m : ∀ j, j < 64 → ∃ q, w.cell? ⟨bm, om + i * 64 + j, none⟩ = some (.int .u16 (q : Nat)) ∧ q < T.low.length ∧ w.rangeAt bl (ol + q * 64) (blkC val8 (lowAt T (64 * c + j)))
theorem topC {w : World} {g : Nat} {T : TrieD Int} (hk : TrieOk T) (h0 : 0 < T.low.length) (h : TrieAt val8 114 64 w g T) (c : Nat) (hc : c < 272) : ∃ cm cl i bm om bl ol, TopC w g T c cm cl i bm om bl ol := by
  obtain ⟨am, cm, al, cl, h1, h2, h3⟩ := h
  have ht := TrieAt.cell_top (val := val8) hk h1 c hc
  have htl : c < T.top.length := by rw [hk.top]; exact hc
  obtain ⟨i, hi⟩ : ∃ i, i = T.top.getD c 0 := ⟨_, rfl⟩
  have hil : i < T.mid.length := by
    rw [hi, getD_at (d := 0) htl]
    exact hk.topN _ (List.getElem_mem htl)
  have hml : (T.mid[i]).length = 64 := hk.mid _ (List.getElem_mem hil)
  obtain ⟨bm, om, rfl⟩ := h2.some (by omega)
  obtain ⟨bl, ol, rfl⟩ := h3.some h0
  refine ⟨cm, cl, i, bm, om, bl, ol, TrieAt.cell_mid (val := val8) hk h1, TrieAt.cell_low (val := val8) hk h1, by rw [ht, ← hi]; rfl, hil, fun j hj => ?_⟩
  have hmj : j < (T.mid[i]).length := by rw [hml]; exact hj
  have hjl : (T.mid[i]).getD j 0 < T.low.length := by
    rw [getD_at (d := 0) hmj]
    exact hk.midN _ (List.getElem_mem hil) _ (List.getElem_mem hmj)
  refine ⟨(T.mid[i]).getD j 0, ?_, hjl, ?_⟩
  · rw [h2.cell num16_cells i hil j hmj, getD_at (d := 0) hmj]
    rfl
  · have e : lowAt T (64 * c + j) = T.low[(T.mid[i]).getD j 0] := by
      unfold lowAt
      rw [show (64 * c + j) / 64 = c by omega, show (64 * c + j) % 64 = j by omega, ← hi, getD_at (d := []) hil, getD_at (d := []) hjl]
    rw [e]
    exact h3.get _ hjl

set_option maxRecDepth 100000 in
set_option maxHeartbeats 1600000 in
theorem Same_walk (w : World) (g1 g2 : Nat) (T1 T2 : TrieD Int) (hk1 : TrieOk T1) (hk2 : TrieOk T2) (h01 : 0 < T1.low.length) (h02 : 0 < T2.low.length) (ht1 : TrieAt val8 114 64 w g1 T1) (ht2 : TrieAt val8 114 64 w g2 T2) :
    Calls Try.prog 26 #[.pointer (some ⟨g1, 0, none⟩), .pointer (some ⟨g2, 0, none⟩)] w fun e w' => ∃ b n, e = .returned (.bool b) ∧ w' = w.drewN n ∧ (b = true ↔ ∀ r, r ≤ 1114111 → lookT 0 T1 r = lookT 0 T2 r) := by
  have HTh1 := Lib.hid (there_walk w g1 T1 hk1 h01 ht1)
  have HTh2 := Lib.hid (there_walk w g2 T2 hk2 h02 ht2)
  have HC1 := Lib.hid (topC hk1 h01 ht1)
  have HC2 := Lib.hid (topC hk2 h02 ht2)
  have HS := Lib.hid (same_look hk1 hk2)
  have HL1 := Lib.hid (lowAt_length hk1)
  have HL2 := Lib.hid (lowAt_length hk2)
  have hm1 := hk1.midL
  have hm2 := hk2.midL
  have hl1 := hk1.lowL
  have hl2 := hk2.lowL
  clear ht1 ht2 hk1 hk2
  go_enter Try.func26, Try.ntmps26
  go_wp2_with fail
  refine HTh1.out.mono ?_
  rintro e w1 ⟨rfl, rfl⟩
  go_wp2_with fail
  refine HTh2.out.mono ?_
  rintro e w1 ⟨rfl, rfl⟩
  go_wp2
  go_loopw [17] (SaO w T1 T2) (fun i _ => 272 - (intOf i).toNat)
  case atStart => exact ⟨0, Nat.zero_le _, rfl, fun k hk => by omega, 0, rfl⟩
  case round =>
    obtain ⟨c, hc, rfl, hsame, q, rfl⟩ := hrel
    have HSm := Lib.hid hsame; clear hsame
    by_cases hcn : c < 272
    · have hci : (c : Int) < 272 := by omega
      obtain ⟨cm1, cl1, i1, bm1, om1, bl1, ol1, hc1⟩ := HC1.out c hcn
      obtain ⟨cm2, cl2, i2, bm2, om2, bl2, ol2, hc2⟩ := HC2.out c hcn
      have p1 : w.cell? ⟨g1, 272, none⟩ = _ := hc1.mid
      have p2 : w.cell? ⟨g1, c, none⟩ = _ := hc1.top
      have p3 : w.cell? ⟨g2, 272, none⟩ = _ := hc2.mid
      have p4 : w.cell? ⟨g2, c, none⟩ = _ := hc2.top
      have i1l := hc1.il
      have i2l := hc2.il
      have H1 := Lib.hid hc1; clear hc1
      have H2 := Lib.hid hc2; clear hc2
      generalize hnm1 : T1.mid.length = nm1 at *
      generalize hnm2 : T2.mid.length = nm2 at *
      have HN := Lib.hid (And.intro hnm1 hnm2)
      clear hnm1 hnm2
      have g1' : (0 : Int) ≤ (i1 : Int) := by omega
      have g2' : (i1 : Int) < (nm1 : Int) := by omega
      have g3' : (0 : Int) ≤ (i2 : Int) := by omega
      have g4' : (i2 : Int) < (nm2 : Int) := by omega
      have g5' : (0 : Int) ≤ (c : Int) := by omega
      go_wp2
      go_quiet (fail)
      clear p1 p2 p3 p4
      go_wp2
      go_loopw [42] (SaI w T1 T2 c) (fun i _ => 64 - (intOf i).toNat)
      case atStart => exact ⟨0, Nat.zero_le _, rfl, HSm.out, q + nq, by rw [World.drewN_drewN]⟩
      case round =>
        obtain ⟨j, hj, rfl, hsame, q, rfl⟩ := hrel
        have HSm2 := Lib.hid hsame; clear hsame
        by_cases hjn : j < 64
        · have hji : (j : Int) < 64 := by omega
          obtain ⟨k1, m1, l1, r1⟩ := H1.out.m j hjn
          obtain ⟨k2, m2, l2, r2⟩ := H2.out.m j hjn
          have p1 : (w.drewN q).cell? ⟨g1, 273, none⟩ = _ := H1.out.low
          have p3 : (w.drewN q).cell? ⟨g2, 273, none⟩ = _ := H2.out.low
          have m1 : (w.drewN q).cell? ⟨bm1, om1 + i1 * 64 + j, none⟩ = _ := m1
          have m2 : (w.drewN q).cell? ⟨bm2, om2 + i2 * 64 + j, none⟩ = _ := m2
          have r1 : (w.drewN q).rangeAt bl1 (ol1 + k1 * 64) (blkC val8 (lowAt T1 (64 * c + j))) := r1
          have r2 : (w.drewN q).rangeAt bl2 (ol2 + k2 * 64) (blkC val8 (lowAt T2 (64 * c + j))) := r2
          obtain ⟨wr, hwr⟩ : ∃ wr, wr = w.drewN q := ⟨_, rfl⟩
          rw [← hwr] at p1 p3 m1 m2 r1 r2 ⊢
          have HWr := Lib.hid hwr; clear hwr
          have e1 := HL1.out (64 * c + j) (by omega)
          have e2 := HL2.out (64 * c + j) (by omega)
          obtain ⟨b1, hb1⟩ : ∃ b1, b1 = lowAt T1 (64 * c + j) := ⟨_, rfl⟩
          obtain ⟨b2, hb2⟩ : ∃ b2, b2 = lowAt T2 (64 * c + j) := ⟨_, rfl⟩
          rw [← hb1] at e1 r1
          rw [← hb2] at e2 r2
          have hs1 : (blkC val8 b1).length = 64 := by rw [blkC_length (sz := 1) (fun _ => rfl), e1]
          have hs2 : (blkC val8 b2).length = 64 := by rw [blkC_length (sz := 1) (fun _ => rfl), e2]
          have R1 := Lib.hid r1; clear r1
          have R2 := Lib.hid r2; clear r2
          have HB := Lib.hid (And.intro hb1 hb2); clear hb1 hb2
          generalize hnl1 : T1.low.length = nl1 at *
          generalize hnl2 : T2.low.length = nl2 at *
          clear hnl1 hnl2
          have g1' : (0 : Int) ≤ (k1 : Int) := by omega
          have g2' : (k1 : Int) < (nl1 : Int) := by omega
          have g3' : (0 : Int) ≤ (k2 : Int) := by omega
          have g4' : (k2 : Int) < (nl2 : Int) := by omega
          have g5' : (0 : Int) ≤ (j : Int) := by omega
          go_upto_region 10 with (fail)
          refine wp_region_still_lit (by kernel_rfl) (by kernel_rfl) ?_
          iterate 10 still_step
          refine wpStill_load rfl 119 (.tmp 54) rfl bl1 (ol1 + k1 * 64) rfl (blkC val8 b1) _ (show (wr.drew).rangeAt bl1 (ol1 + k1 * 64) (blkC val8 b1) from R1.out) Try.underlying119 rfl (by rw [hs1]; kernel_rfl) ?_
          iterate 10 still_step
          refine wpStill_load rfl 119 (.tmp 65) rfl bl2 (ol2 + k2 * 64) rfl (blkC val8 b2) _ (show (wr.drew).rangeAt bl2 (ol2 + k2 * 64) (blkC val8 b2) from R2.out) Try.underlying119 rfl (by rw [hs2]; kernel_rfl) ?_
          refine wpStill_bin rfl .neq 119 (.tmp 55) (.tmp 66) _ rfl (.agg (blkC val8 b1).toArray) (.agg (blkC val8 b2).toArray) _ rfl rfl (eqg_low _ _ _ _ _) (neq_low b1 b2 e1 e2 _) ?_
          refine wpStill_nil ?_
          clear p1 p3 m1 m2
          by_cases hbb : b1 = b2
          · have hd : decide (b1 = b2) = true := decide_eq_true hbb
            rw [hd]
            have HSm3 : Hid (∀ k, k < 64 * c + (j + 1) → lowAt T1 k = lowAt T2 k) := Lib.hid (fun k hk => by
              by_cases e : k = 64 * c + j
              · rw [e, ← HB.out.1, ← HB.out.2, hbb]
              · exact HSm2.out k (by omega))
            clear hbb hd
            go_wp2
            go_roundw
            case rel => exact ⟨j + 1, by omega, by go_num, HSm3.out, q + 1, by rw [HWr.out]; rfl⟩
            case measure => simp [intOf]; omega
          · have hd : decide (b1 = b2) = false := decide_eq_false hbb
            rw [hd]
            have HNe : Hid (¬ ∀ r, r ≤ 1114111 → lookT 0 T1 r = lookT 0 T2 r) := Lib.hid (fun h => hbb (by rw [HB.out.1, HB.out.2]; exact HS.out.2 h _ (by omega)))
            clear hbb hd
            go_wp2
            go_ret
            exact ⟨false, q + 1, rfl, by rw [HWr.out]; rfl, fun h => absurd h (by simp), fun h => absurd h HNe.out⟩
        · obtain rfl : j = 64 := by omega
          have HSm3 : Hid (∀ k, k < 64 * (c + 1) → lowAt T1 k = lowAt T2 k) := Lib.hid HSm2.out
          go_wp2
          go_roundw
          case rel => exact ⟨c + 1, by omega, by go_num, HSm3.out, q, rfl⟩
          case measure => simp [intOf]; omega
    · obtain rfl : c = 272 := by omega
      have HSe := Lib.hid (HS.out.1 HSm.out)
      go_wp2
      go_ret
      exact ⟨true, q, rfl, rfl, fun _ => HSe.out, fun _ => rfl⟩
end Go.Proofs.Ytabbabkmojaoaaa

/-
  The closures of 'From' (uint8).
-/
namespace Go.Proofs.Ytabbabkmojaoaaa
open Go.RowKit

theorem eqg_lowE (xs ys : Array Value) (x y : Operand) (w : World) : (eqGuard .eql 119 x y (.agg xs) (.agg ys)).run Try.prog w = .ok () w := run_eqGuard_agg w .eql 119 x y xs ys (by kernel_rfl)
theorem eql_agg {P : Program} (w : World) (t : TypeId) (xs ys : Array Value) (b : Bool) (h : (Op.equal t (.agg xs) (.agg ys)).run P w = .ok b w) : (binOp .eql t (.agg xs) (.agg ys)).run P w = .ok (.bool b) w := by
  simp [binOp, h]
theorem eql_low (l : List Int) (hl : l.length = 64) (w : World) : (binOp .eql 119 (.agg (blkC val8 l).toArray) (.agg (blkC val8 l).toArray)).run Try.prog w = .ok (.bool true) w := by
  have := Try.k8.equal w l l hl hl
  rw [eqL_low l l rfl] at this
  simpa using eql_agg w _ _ _ _ this
/-- what 'From' has laid: the trie, its own variable, the closure's -/
structure FrAt (w : World) (g bt : Nat) (T : TrieD Int) : Prop where
  tr : TrieAt val8 114 64 w g T
  tp : T.top.length = 272
  ml : ∀ m ∈ T.mid, m.length = 64
  ll : ∀ l ∈ T.low, l.length = 64
  mn : T.mid.length ≤ 1048576
  ln : T.low.length ≤ 1048576
  ct : w.cell? ⟨bt, 0, none⟩ = some (.pointer (some ⟨g, 0, none⟩))
theorem FrAt.below {w w' : World} {g bt : Nat} {T : TrieD Int} (h : FrAt w g bt T) (hb : Below w.heap.size w w') : FrAt w' g bt T :=
  ⟨h.tr.below hb (Nat.le_refl _), h.tp, h.ml, h.ll, h.mn, h.ln, (hb.cell (p := ⟨bt, 0, none⟩) (World.block_lt_of_cell? w _ h.ct)).trans h.ct⟩
theorem FrAt.low {w : World} {g bt : Nat} {T : TrieD Int} (h : FrAt w g bt T) : ∃ a c, w.cell? ⟨g, 273, none⟩ = some (.slice a T.low.length c) ∧ BlocksAt val8 64 w a T.low := by
  obtain ⟨am, cm, al, cl, h1, h2, h3⟩ := h.tr
  refine ⟨al, cl, ?_, h3⟩
  rw [cell_of_row w g 273 _ _ (0, 0) h1]
  simp [trieC, h.tp]
theorem FrAt.mid {w : World} {g bt : Nat} {T : TrieD Int} (h : FrAt w g bt T) : ∃ a c, w.cell? ⟨g, 272, none⟩ = some (.slice a T.mid.length c) ∧ BlocksAt num16 64 w a T.mid := by
  obtain ⟨am, cm, al, cl, h1, h2, h3⟩ := h.tr
  refine ⟨am, cm, ?_, h2⟩
  rw [cell_of_row w g 272 _ _ (0, 0) h1]
  simp [trieC, h.tp]

set_option maxRecDepth 100000 in
theorem same1_walk (w : World) (g bt : Nat) (T : TrieD Int) (h : FrAt w g bt T) (no : Nat) (hno : no < T.low.length) :
    Calls Try.prog 92 #[.int .u16 (no : Nat), .pointer (some ⟨bt, 0, none⟩)] w fun e w' => e = .returned (.bool true) ∧ Below w.heap.size w w' := by
  obtain ⟨a, c, c1, hbl⟩ := h.low
  obtain ⟨b, o, rfl⟩ := hbl.some (by omega)
  have HR := Lib.hid (hbl.get no hno)
  have hl := h.ll _ (List.getElem_mem hno)
  have c0 := h.ct
  have hln := h.ln
  clear h hbl
  generalize T.low[no] = l at *
  generalize T.low.length = nl at *
  have hs : (blkC val8 l).length = 64 := by rw [blkC_length (sz := 1) (fun _ => rfl), hl]
  have g1 : (0 : Int) ≤ (no : Int) := by omega
  have g2 : (no : Int) < (nl : Int) := by omega
  go_enter Try.func92, Try.ntmps92
  go_upto_region 1 with (fail)
  refine wp_region_still_lit (by kernel_rfl) (by kernel_rfl) ?_
  iterate 6 still_step
  refine wpStill_load rfl 119 (.tmp 9) rfl b (o + no * 64) rfl (blkC val8 l) _ (show w.drew.rangeAt b (o + no * 64) (blkC val8 l) from HR.out) Try.underlying119 rfl (by rw [hs]; kernel_rfl) ?_
  iterate 6 still_step
  refine wpStill_load rfl 119 (.tmp 16) rfl b (o + no * 64) rfl (blkC val8 l) _ (show w.drew.rangeAt b (o + no * 64) (blkC val8 l) from HR.out) Try.underlying119 rfl (by rw [hs]; kernel_rfl) ?_
  refine wpStill_bin rfl .eql 119 (.tmp 10) (.tmp 17) _ rfl (.agg (blkC val8 l).toArray) (.agg (blkC val8 l).toArray) _ rfl rfl (eqg_lowE _ _ _ _ _) (eql_low l hl _) ?_
  still_step
  refine wpStill_nil ?_
  go_wp2
  go_ret
  exact ⟨rfl, (Below.refl _ w).drew⟩
set_option maxRecDepth 100000 in
theorem same3_walk (w : World) (g bt b5 : Nat) (T : TrieD Int) (h : FrAt w g bt T) (no : Nat) (hno : no < T.low.length) (h5 : w.cell? ⟨b5, 0, none⟩ = some (.func (.func 92) #[] #[.pointer (some ⟨bt, 0, none⟩)])) :
    Calls Try.prog 95 #[.int .u16 (no : Nat), .pointer (some ⟨b5, 0, none⟩)] w fun e w' => e = .returned (.bool false) ∧ Below w.heap.size w w' := by
  have HS := Lib.hid (same1_walk w g bt T h no hno)
  clear h
  go_enter Try.func95, Try.ntmps95
  go_wp2_with fail
  refine HS.out.mono ?_
  rintro e w1 ⟨rfl, hb⟩
  have HB := Lib.hid hb; clear hb
  go_wp2
  go_ret
  exact ⟨rfl, HB.out⟩
set_option maxRecDepth 100000 in
theorem same2_walk (w : World) (g bt b5 : Nat) (T : TrieD Int) (h : FrAt w g bt T) (no : Nat) (hno : no < T.mid.length) (hmid : ∀ m ∈ T.mid, ∀ k ∈ m, k < T.low.length) (h5 : w.cell? ⟨b5, 0, none⟩ = some (.func (.func 92) #[] #[.pointer (some ⟨bt, 0, none⟩)])) :
    Calls Try.prog 93 #[.int .u16 (no : Nat), .pointer (some ⟨bt, 0, none⟩), .pointer (some ⟨b5, 0, none⟩)] w fun e w' => e = .returned (.bool true) ∧ Below w.heap.size w w' := by
  obtain ⟨a, c, c1, hbl⟩ := h.mid
  obtain ⟨b, o, rfl⟩ := hbl.some (by omega)
  have hl := h.ml _ (List.getElem_mem hno)
  have HNA : Hid (NumsAt w (some ⟨b, o + no * 64, none⟩) T.mid[no]) := Lib.hid (fun i hi => ⟨b, o + no * 64, rfl, hbl.cell num16_cells no hno i hi⟩)
  have HCf := Lib.hid (ContainsFunc_none w b (o + no * 64) 64 64 T.mid[no] 95 #[.pointer (some ⟨b5, 0, none⟩)] hl (by omega) HNA.out (enters_of Try.func95 (by kernel_rfl) rfl)
    (fun x W hx hb => same3_walk W g bt b5 T (h.below hb) x (hmid _ (List.getElem_mem hno) x hx) ((hb.cell (p := ⟨b5, 0, none⟩) (World.block_lt_of_cell? w _ h5)).trans h5)))
  have c0 := h.ct
  have hmn := h.mn
  clear h hbl hl hmid HNA
  generalize T.mid.length = nm at *
  have g1 : (0 : Int) ≤ (no : Int) := by omega
  have g2 : (no : Int) < (nm : Int) := by omega
  go_enter Try.func93, Try.ntmps93
  go_wp2_with fail
  refine HCf.out.mono ?_
  rintro e w1 ⟨rfl, hb⟩
  have HB := Lib.hid hb; clear hb
  go_wp2
  go_ret
  exact ⟨rfl, HB.out⟩
end Go.Proofs.Ytabbabkmojaoaaa

/-
  The walk of TriePoints.
-/
namespace Go.Proofs.Ytabbabkmojaoaaa
open Go.RowKit
attribute [local go_sem] Oper.semAt_some wide_fn

/-- the four boxes at the beginning -/
def Pts4 (w : World) (rest v : Int) (a : Option Addr) (n c : Nat) : World :=
  (((w.alloc (.cells #[.int .u8 rest] 5)).alloc (.cells #[.slice a n c] 22)).alloc (.cells #[.int .u8 v] 5)).alloc (.cells #[.bool false] 4)
structure Pts4At (w : World) (rest v : Int) (a : Option Addr) (n c b0 : Nat) (W : World) : Prop where
  size : W.heap.size = b0 + 4
  bel : Below w.heap.size w W
  h0 : W.heap[b0]? = some (.cells #[.int .u8 rest] 5 (0, 0))
  h1 : W.heap[b0 + 1]? = some (.cells #[.slice a n c] 22 (0, 0))
  h2 : W.heap[b0 + 2]? = some (.cells #[.int .u8 v] 5 (0, 0))
  h3 : W.heap[b0 + 3]? = some (.cells #[.bool false] 4 (0, 0))
theorem pts4 (w : World) (rest v : Int) (a : Option Addr) (n c : Nat) : Pts4At w rest v a n c w.heap.size (Pts4 w rest v a n c) := by
  unfold Pts4
  have b1 := (Below.refl _ w).alloc (Nat.le_refl _) (.cells #[.int .u8 rest] 5)
  have a1 := heap_alloc_new w (.cells #[.int .u8 rest] 5)
  have s1 := World.size_alloc w (.cells #[.int .u8 rest] 5)
  generalize w.alloc (.cells #[.int .u8 rest] 5) = w1 at *
  have b2 := (Below.refl _ w1).alloc (Nat.le_refl _) (.cells #[.slice a n c] 22)
  have a2 := heap_alloc_new w1 (.cells #[.slice a n c] 22)
  have s2 := World.size_alloc w1 (.cells #[.slice a n c] 22)
  generalize w1.alloc (.cells #[.slice a n c] 22) = w2 at *
  have b3 := (Below.refl _ w2).alloc (Nat.le_refl _) (.cells #[.int .u8 v] 5)
  have a3 := heap_alloc_new w2 (.cells #[.int .u8 v] 5)
  have s3 := World.size_alloc w2 (.cells #[.int .u8 v] 5)
  generalize w2.alloc (.cells #[.int .u8 v] 5) = w3 at *
  have b4 := (Below.refl _ w3).alloc (Nat.le_refl _) (.cells #[.bool false] 4)
  have a4 := heap_alloc_new w3 (.cells #[.bool false] 4)
  have s4 := World.size_alloc w3 (.cells #[.bool false] 4)
  generalize w3.alloc (.cells #[.bool false] 4) = w4 at *
  refine ⟨by omega, ((b1.trans (b2.mono (by omega))).trans (b3.mono (by omega))).trans (b4.mono (by omega)), ?_, ?_, ?_, ?_⟩
  · exact (b4.block _ (by omega)).trans ((b3.block _ (by omega)).trans ((b2.block _ (by omega)).trans a1))
  · rw [← s1]; exact (b4.block _ (by omega)).trans ((b3.block _ (by omega)).trans a2)
  · rw [show w.heap.size + 2 = w2.heap.size by omega]; exact (b4.block _ (by omega)).trans a3
  · rw [show w.heap.size + 3 = w3.heap.size by omega]; exact a4

theorem Build8_any2 (rest : Int) (a : Option Addr) (n c : Nat) (l : List SpanD) (w : World) (hl : l.length = n) (hn : n ≤ 1048576) (hs : SpansAt w a l) (hwf : ∀ s ∈ l, -2147483648 ≤ s.f ∧ s.f ≤ 2147483647 ∧ -2147483648 ≤ s.t ∧ s.t ≤ 2147483647) :
    Calls Try.prog 14 #[.int .u8 rest, .slice a n c] w fun e w' => ∃ tv at_ er, e = .returned (.tuple #[tv, .int .i64 at_, .int .i64 er]) ∧ Below w.heap.size w w' ∧
      ((er ≠ 0 ∧ tv = .pointer none ∧ ¬ okS l) ∨ (er = 0 ∧ okS l ∧ ∃ g S, tv = .pointer (some ⟨g, 0, none⟩) ∧ Made8 (fS rest l) S ∧ TrieAt val8 114 64 w' g (trieS S))) := by
  refine (Build8_walk rest a n c l w hl hn hs hwf).mono ?_
  intro e w' hq
  obtain ⟨hb, hq⟩ := bldQ_of hq
  rcases hq with ⟨i, hi, h1, -, rfl⟩ | ⟨-, k, hk, h1, -, rfl⟩ | ⟨h1, h2, g, S, rfl, -, hS, hT⟩
  · exact ⟨_, _, _, rfl, hb, .inl ⟨by omega, rfl, fun h => h.1 i hi h1⟩⟩
  · exact ⟨_, _, _, rfl, hb, .inl ⟨by omega, rfl, fun h => h.2 k hk h1⟩⟩
  · exact ⟨_, _, _, rfl, hb, .inr ⟨rfl, ⟨h1, h2⟩, g, S, rfl, hS, hT⟩⟩
theorem whL_strict {f : Nat → Int} {v : Int} {n j : Nat} (hj : f j = v) (h1 : n ≤ j) : ∀ k, j < k → (whL f v n).length < (whL f v k).length := by
  have mono : ∀ k, n ≤ k → (whL f v n).length ≤ (whL f v k).length := by
    intro k
    induction k with
    | zero => intro h; rw [show n = 0 by omega]; exact Nat.le_refl _
    | succ k ih =>
      intro h
      by_cases e : n = k + 1
      · rw [e]; exact Nat.le_refl _
      · have := ih (by omega)
        by_cases h2 : f k = v
        · rw [whL_hit h2, List.length_append, List.length_singleton]; omega
        · rw [whL_miss h2]; exact this
  intro k
  induction k with
  | zero => intro h; omega
  | succ k ih =>
    intro h
    by_cases e : j = k
    · subst e
      rw [whL_hit hj, List.length_append, List.length_singleton]
      have := mono j h1
      omega
    · have := ih (by omega)
      by_cases h2 : f k = v
      · rw [whL_hit h2, List.length_append, List.length_singleton]; omega
      · rw [whL_miss h2]; exact this
/-- between two rounds: the next number -/
structure PtI (w2 : World) (F : Nat → Int) (v : Int) (N : Nat) (T : Nat → Prop) (pre : List Int) (W : World) : Prop where
  bel : Below w2.heap.size w2 W
  tn : ∀ k, T k → w2.heap.size < k
  cell : ∃ m, m ≤ N ∧ pre = whL F v m ∧ W.heap[w2.heap.size]? = some (.cells #[.int .i32 (m : Nat)] 21 (0, 0))
theorem PtI.abide (w2 : World) (F : Nat → Int) (v : Int) (N : Nat) : Abide (PtI w2 F v N) := by
  rintro T T' pre W W' ⟨h1, h2, m, h3, h4, h5⟩ ho hw
  have hl := (Array.getElem?_eq_some_iff.1 h5).1
  refine ⟨h1.trans (ho.below _ h1.size (fun k hk => Nat.le_of_lt (h2 k hk))), fun k hk => ?_, m, h3, h4, ho.cellsBlock h5 (fun h => Nat.lt_irrefl _ (h2 _ h))⟩
  rcases hw k hk with h | h
  · exact h2 k h
  · omega
def ColR (p1 v1 : Nat) (tmps : Array Value) (T : Nat → Prop) (x : Int) (a' : Act) (W : World) : Prop :=
  a' = { tmps := (tmps.setIfInBounds p1 (.int .i32 x)).setIfInBounds v1 (.int .i32 x), defers := [] }
theorem lies_below {w W : World} (h : Below w.heap.size w W) : Lies w W := fun k hk => h.block k hk
theorem SpansAt.lies {w W : World} {a : Option Addr} {l : List SpanD} (h : SpansAt w a l) (hy : Lies w W) : SpansAt W a l := fun i hi => by
  obtain ⟨b, o, e, h1, h2, h3⟩ := h i hi
  exact ⟨b, o, e, hy.cell h1, hy.cell h2, hy.cell h3⟩

theorem grown_refl (W : World) (r : Option Nat) : W.grownBy W r := ⟨rfl, rfl, rfl, Nat.le_refl _, fun _ _ _ => rfl⟩
def PtL (W : World) (M m k : Nat) (i : Value) (wr : World) : Prop :=
  ∃ j, m ≤ j ∧ j ≤ k ∧ wr.heap[M]? = some (.cells #[.int .i32 (j : Nat)] 21 (0, 0)) ∧ W.grownBy wr (some M)
def mP (k M : Nat) (wr : World) : Nat := match wr.cell? ⟨M, 0, none⟩ with
  | some (Value.int _ x) => (k - x).toNat
  | _ => 0
theorem mP_of {k M j : Nat} {wr : World} (h : wr.heap[M]? = some (.cells #[.int .i32 (j : Nat)] 21 (0, 0))) : mP k M wr = k - j := by
  have hc : wr.cell? ⟨M, 0, none⟩ = some (.int .i32 (j : Nat)) := cell_of_row wr M 0 _ _ (0, 0) h
  unfold mP
  rw [hc]
  simp only
  omega
theorem PtL.put {W wr : World} {M : Nat} (h : W.grownBy wr (some M)) {j : Nat} (hc : wr.heap[M]? = some (.cells #[.int .i32 (j : Nat)] 21 (0, 0))) (j' : Nat) :
    (wr.setCell ⟨M, 0, none⟩ (.int .i32 (j' : Nat))).heap[M]? = some (.cells #[.int .i32 (j' : Nat)] 21 (0, 0)) ∧ W.grownBy (wr.setCell ⟨M, 0, none⟩ (.int .i32 (j' : Nat))) (some M) := by
  refine ⟨?_, grown_trans h (grown_store wr M 0 _)⟩
  rw [heap_setCell_same wr M 0 _ _ _ hc]
  rfl
theorem lies_grown {w2 W wr : World} (h : Below w2.heap.size w2 W) (hg : W.grownBy wr (some w2.heap.size)) : Lies w2 wr := fun k hk =>
  (hg.block k (Nat.lt_of_lt_of_le hk h.size) (fun e => by cases e; exact Nat.lt_irrefl _ hk)).trans (h.block k hk)

theorem below_bel {B : Nat} {w W W' : World} {row : Option Nat} (h : Below B w W) (hg : W.grownBy W' row) (hr : ∀ k, row = some k → B ≤ k) (hB : B ≤ w.heap.size := by exact Nat.le_refl _) : Below B w W' :=
  h.trans (below_grown hg hr (Nat.le_trans hB h.size))
def PtE (w20 : World) (i : Value) (wr : World) : Prop := ∃ r : Nat, r ≤ 1114112 ∧ i = .int .i32 (r : Nat) ∧ ∃ q, wr = w20.drewN q
theorem drewN_add (w : World) (a b : Nat) : (w.drewN a).drewN b = w.drewN (a + b) := by
  unfold World.drewN
  simp [Nat.add_assoc]

set_option maxRecDepth 100000 in
set_option maxHeartbeats 1600000 in
theorem triePoints_walk (rest : Int) (a : Option Addr) (n c : Nat) (l : List SpanD) (v : Int) (w : World) (hl : l.length = n) (hs : SpansAt w a l) (hwf : ∀ s ∈ l, -2147483648 ≤ s.f ∧ s.f ≤ 2147483647 ∧ -2147483648 ≤ s.t ∧ s.t ≤ 2147483647) :
    Calls Try.prog 4 #[.int .u8 rest, .slice a n c, .int .u8 v] w fun e w' => e = .returned (.bool true) ∧ Below w.heap.size w w' := by
  have HL := Lib.hid hl; clear hl
  have HS := Lib.hid hs; clear hs
  have HWf := Lib.hid hwf; clear hwf
  have HP := Lib.hid (pts4 w rest v a n c)
  obtain ⟨b0, hb0⟩ : ∃ b0, b0 = w.heap.size := ⟨_, rfl⟩
  refine calls_of_wpM Try.func4 rfl ?_
  simp only [Try.ntmps4, List.size_toArray, List.length_cons, List.length_nil, Nat.reduceAdd, Nat.reduceSub, Array.replicate_succ, Array.replicate_zero, List.push_toArray, List.append_toArray, List.nil_append, List.cons_append]
  go_upto_region 1 with (fail)
  change Code.wp _ _ _ _ (Pts4 w rest v a n c)
  rw [← hb0] at HP ⊢
  generalize Pts4 w rest v a n c = w1 at *
  have hbw : w.heap.size ≤ b0 := by omega
  clear hb0
  have HS1 := Lib.hid (HS.out.below HP.out.bel (fun b o e h0 => HS.out.lt b o e h0))
  have q0 : w1.cell? ⟨b0, 0, none⟩ = some (.int .u8 rest) := cell_of_row w1 b0 0 _ _ (0, 0) HP.out.h0
  have q1 : w1.cell? ⟨b0 + 1, 0, none⟩ = some (.slice a n c) := cell_of_row w1 (b0 + 1) 0 _ _ (0, 0) HP.out.h1
  by_cases h6 : 12 < n
  · have h6i : (12 : Int) < (n : Int) := by omega
    go_wp2_with fail
    refine (awake_walk _).mono ?_
    rintro e w2 ⟨rfl, hb⟩
    have r3 := (hb.block (b0 + 3) (by rw [HP.out.size]; omega)).trans HP.out.h3
    have q3 : w2.cell? ⟨b0 + 3, 0, none⟩ = some (.bool false) := cell_of_row w2 (b0 + 3) 0 _ _ (0, 0) r3
    have f3 := frozen_of_row w2 (b0 + 3) 0 _ _ r3
    have e3 := World.cell?_setCell_same' w2 ⟨b0 + 3, 0, none⟩ (.bool true) (by rw [q3]; rfl)
    have HB2 := Lib.hid (show Below w.heap.size w (w2.setCell ⟨b0 + 3, 0, none⟩ (.bool true)) from (HP.out.bel.trans (hb.mono HP.out.bel.size)).setCell (p := ⟨b0 + 3, 0, none⟩) (by show w.heap.size ≤ b0 + 3; omega) _)
    clear hb r3
    go_wp2
    refine leaves_nil (v := .bool true) (by simp [results, Try.results4, go_sem, e3]) ?_
    exact ⟨rfl, HB2.out⟩
  · have h6i : ¬ (12 : Int) < (n : Int) := by omega
    go_wp2_with fail
    refine (Build8_any2 rest a n c l w1 HL.out (by omega) HS1.out HWf.out).mono ?_
    rintro e w2 ⟨tv, at_, er, rfl, hb, hi⟩
    have r0 := Lib.hid ((hb.block b0 (by rw [HP.out.size]; omega)).trans HP.out.h0)
    have r1 := Lib.hid ((hb.block (b0 + 1) (by rw [HP.out.size]; omega)).trans HP.out.h1)
    have r2 := Lib.hid ((hb.block (b0 + 2) (by rw [HP.out.size]; omega)).trans HP.out.h2)
    have r3 := Lib.hid ((hb.block (b0 + 3) (by rw [HP.out.size]; omega)).trans HP.out.h3)
    have HS2 := Lib.hid (HS1.out.below hb (fun b o e h0 => HS1.out.lt b o e h0))
    have hsz : b0 + 4 ≤ w2.heap.size := by have := hb.size; have := HP.out.size; omega
    have HBw := Lib.hid (HP.out.bel.trans (hb.mono HP.out.bel.size))
    clear hb q0 q1 HP HS1 HS
    rcases hi with ⟨her, rfl, -⟩ | ⟨rfl, hok, g, S, rfl, hS, hT⟩
    · have her' : (er != 0) = true := by simpa using her
      go_wp2_with fail
      refine (awake_walk _).mono ?_
      rintro e w3 ⟨rfl, hb⟩
      have k3 := (hb.block (b0 + 3) (by omega)).trans r3.out
      have q3 : w3.cell? ⟨b0 + 3, 0, none⟩ = some (.bool false) := cell_of_row w3 (b0 + 3) 0 _ _ (0, 0) k3
      have f3 := frozen_of_row w3 (b0 + 3) 0 _ _ k3
      have e3 := World.cell?_setCell_same' w3 ⟨b0 + 3, 0, none⟩ (.bool true) (by rw [q3]; rfl)
      have HB3 := Lib.hid (show Below w.heap.size w (w3.setCell ⟨b0 + 3, 0, none⟩ (.bool true)) from (HBw.out.trans (hb.mono HBw.out.size)).setCell (p := ⟨b0 + 3, 0, none⟩) (by show w.heap.size ≤ b0 + 3; omega) _)
      clear hb k3
      go_wp2
      refine leaves_nil (v := .bool true) (by simp [results, Try.results4, go_sem, e3]) ?_
      exact ⟨rfl, HB3.out⟩
    · obtain ⟨T, hTe⟩ : ∃ T, T = trieS S := ⟨_, rfl⟩
      have HF := Lib.hid (show ∀ k, k ≤ 1114111 → lookT 0 T k = fS rest l k from fun k hk => by rw [hTe]; exact hS.look k hk)
      have HOk := Lib.hid (show TrieOk T from by rw [hTe]; exact hS.trie)
      have hpos : 0 < T.low.length := by rw [hTe]; exact hS.pos.1
      rw [← hTe] at hT
      have HT := Lib.hid hT
      clear hT hTe hS hok
      obtain ⟨N, hN⟩ : ∃ N, N = 1114112 := ⟨_, rfl⟩
      have HN := Lib.hid hN; clear hN
      have qF := fun (w : World) (cs : Array Value) => run_eql_func_nil (P := Try.prog) w 34 (.func 61) #[] cs _ _ _ Try.underlying34
      have HA3 := Lib.hid (heap_alloc_new w2 (.cells #[.int .i32 0] 21))
      have HB3 := Lib.hid ((Below.refl w2.heap.size w2).alloc (Nat.le_refl _) (.cells #[.int .i32 0] 21))
      have HZ3 := Lib.hid (World.size_alloc w2 (.cells #[.int .i32 0] 21))
      have p2 : (w2.alloc (.cells #[.int .i32 0] 21)).cell? ⟨b0 + 2, 0, none⟩ = some (.int .u8 v) := (HB3.out.cell (p := ⟨b0 + 2, 0, none⟩) (by show b0 + 2 < _; omega)).trans (cell_of_row w2 (b0 + 2) 0 _ _ (0, 0) r2.out)
      go_wp2_with fail
      generalize w2.alloc (.cells #[.int .i32 0] 21) = w3 at *
      refine (Where8_fun (some ⟨g, 0, none⟩) v w3).mono ?_
      rintro e w4 ⟨rfl, -, -, -, hb4⟩
      have p4 := (hb4.cell (p := ⟨b0 + 2, 0, none⟩) (World.block_lt_of_cell? w3 _ p2)).trans p2
      have HB4 := Lib.hid (HB3.out.trans (hb4.mono HB3.out.size))
      have HA4 := Lib.hid ((hb4.block _ (Array.getElem?_eq_some_iff.1 HA3.out).1).trans HA3.out)
      clear hb4 p2 HB3 HA3 HZ3
      go_wp2_with fail
      clear qF
      refine (Where8_fun (some ⟨g, 0, none⟩) v w4).mono ?_
      rintro e w5 ⟨rfl, c5, d5, hz5, hb5⟩
      have HB5 := Lib.hid (HB4.out.trans (hb5.mono HB4.out.size))
      have hM4 : w2.heap.size < w4.heap.size := (Array.getElem?_eq_some_iff.1 HA4.out).1
      have HA5 := Lib.hid ((hb5.block _ hM4).trans HA4.out)
      clear hb5 p4 HB4 HA4
      have HSeq := Lib.hid (where_stops w2 g T HOk.out hpos HT.out v w4.heap.size (fun k => k < w5.heap.size ∧ k ≠ w2.heap.size) w5 (lies_below HB5.out) HB5.out.size (fun k hk => ⟨Nat.lt_of_lt_of_le hk HB5.out.size, by omega⟩) ⟨by omega, by omega⟩ ⟨by omega, by omega⟩ c5 d5 N HN.out)
      clear c5 d5 hz5
      go_wp2
      refine wp_rangeX (gf := 61) (lb := #[.pointer (some ⟨w4.heap.size, 0, none⟩), .pointer (some ⟨w4.heap.size + 1, 0, none⟩)]) rfl (enters_of Try.func61 (by kernel_rfl) rfl) HSeq.out (Below.refl _ _) (fun k hk => hk.1) (fun _ => rfl)
        (PtI w2 (lookT 0 T) v N) (fun _ _ _ _ => False) (PtI.abide _ _ _ _) (fun _ _ _ _ _ _ h => h.elim) ⟨HB5.out, fun _ h => h.elim, 0, Nat.zero_le _, rfl, HA5.out⟩
        (ColR 41 11) (fun T x a' W W' h ho => h) ?assign ?body ?done ?stop
      case stop =>
        rintro D c T pre W - - - h
        exact h.elim
      case assign =>
        rintro l T pre x W K hi hK
        have HK := Lib.hid hK; clear hK
        simp only [encR]
        gi_wp2
        exact HK.out _ _ (Kept.refl _ _ _) hi rfl
      case body =>
        rintro lp Tt pre x a' W hTl hl - hst hA hlen hsp
        unfold ColR at hA
        subst hA
        obtain ⟨k, hkN, hfk, hpk⟩ := hsp
        obtain ⟨hbel, htn, m, hmN, hpm, hcell⟩ := hst
        have HPk := Lib.hid hpk
        rw [whL_hit hfk] at hpk
        obtain ⟨hpre, hx⟩ := List.append_inj' hpk rfl
        obtain rfl : x = (k : Int) := by simpa using hx
        have hmk : m ≤ k := Nat.le_of_not_lt fun h => by
          have := whL_strict hfk (Nat.le_refl k) m h
          rw [← hpm, ← hpre] at this
          exact Nat.lt_irrefl _ this
        have HMiss : Hid (∀ j, m ≤ j → j < k → ¬ lookT 0 T j = v) := Lib.hid (fun j h1 h2 h3 => by
          have := whL_strict h3 h1 k h2
          rw [← hpm, ← hpre] at this
          exact Nat.lt_irrefl _ this)
        have hk1 : k ≤ 1114111 := by have := HN.out; omega
        have hfk2 : fS rest l k = v := by rw [← HF.out k hk1]; exact hfk
        have HFk := Lib.hid hfk2
        have HBe := Lib.hid hbel
        have HTn := Lib.hid htn
        have HCe := Lib.hid hcell
        clear hpk hpre hx hfk hbel htn hcell hpm hfk2 hlen hl hTl
        obtain ⟨M, hM⟩ : ∃ M, M = w2.heap.size := ⟨_, rfl⟩
        rw [← hM] at HCe ⊢
        have HMe := Lib.hid hM; clear hM
        gi_wp2
        gi_loopw [42] (PtL W M m k) (fun _ wr => mP k M wr)
        case atStart => exact ⟨m, Nat.le_refl _, hmk, HCe.out, grown_refl _ _⟩
        case round =>
          obtain ⟨j, hj1, hj2, hjc, hjg⟩ := hrel
          have HJc := Lib.hid hjc; clear hjc
          have HJg := Lib.hid hjg; clear hjg
          have HLy : Hid (Lies w2 wr) := Lib.hid (lies_grown HBe.out (by rw [← HMe.out]; exact HJg.out))
          have k0 : wr.cell? ⟨b0, 0, none⟩ = some (.int .u8 rest) := cell_of_row wr b0 0 _ _ (0, 0) (HLy.out.block r0.out)
          have k1 : wr.cell? ⟨b0 + 1, 0, none⟩ = some (.slice a n c) := cell_of_row wr (b0 + 1) 0 _ _ (0, 0) (HLy.out.block r1.out)
          have k2 : wr.cell? ⟨b0 + 2, 0, none⟩ = some (.int .u8 v) := cell_of_row wr (b0 + 2) 0 _ _ (0, 0) (HLy.out.block r2.out)
          have k3 : wr.cell? ⟨M, 0, none⟩ = some (.int .i32 (j : Nat)) := cell_of_row wr M 0 _ _ (0, 0) HJc.out
          have k4 := frozen_of_row wr M 0 _ _ HJc.out
          by_cases hjk : j < k
          · have hji : (j : Int) < (k : Int) := by omega
            have HNv := Lib.hid (fun q => naive_walk rest a n c l (wr.drewN q) HL.out (by omega) (HS2.out.lies (fun b hb => HLy.out b hb)) j (by omega))
            have hne : ¬ fS rest l j = v := by rw [← HF.out j (by omega)]; exact HMiss.out j hj1 hjk
            generalize fS rest l j = y at *
            have hne' : (y == v) = false := beq_false_of_ne hne
            have HNe := Lib.hid hne; clear hne
            gi_wp2
            refine wpIn_region_quietR (by kernel_rfl) (by kernel_rfl) (by kernel_rfl) ?_
            iterate 6 (gi_big_quiet_step ((gi_at_call 17; exact CallsIn.quiet_of_same (CallsIn.inRound lp (callsIn_wide.2 (HNv.out _))))))
            refine wpQuietIn_nil ?_
            rintro _ ⟨nq, rfl⟩
            have HJc6 : Hid ((wr.drewN nq).heap[M]? = some (.cells #[.int .i32 (j : Nat)] 21 (0, 0))) := Lib.hid HJc.out
            have HJg6 : Hid (W.grownBy (wr.drewN nq) (some M)) := Lib.hid (grown_trans HJg.out ⟨rfl, rfl, rfl, Nat.le_refl _, fun _ _ _ => rfl⟩)
            generalize wr.drewN nq = w6 at *
            clear k0 k1 k2 k3 k4
            have k3 : w6.cell? ⟨M, 0, none⟩ = some (.int .i32 (j : Nat)) := cell_of_row w6 M 0 _ _ (0, 0) HJc6.out
            have k4 := frozen_of_row w6 M 0 _ _ HJc6.out
            have HPut := Lib.hid (PtL.put HJg6.out HJc6.out (j + 1))
            have hcast : ((j + 1 : Nat) : Int) = (j : Int) + 1 := by omega
            rw [hcast] at HPut
            gi_wp2
            go_roundw
            case rel => exact ⟨j + 1, by omega, by omega, by rw [hcast]; exact HPut.out.1, HPut.out.2⟩
            case measure =>
              rw [mP_of HJc.out, mP_of (j := j + 1) (by rw [hcast]; exact HPut.out.1)]
              omega
          · obtain rfl : j = k := by omega
            have hji : ¬ (j : Int) < (j : Int) := by omega
            have HNv := Lib.hid (fun q => naive_walk rest a n c l (wr.drewN q) HL.out (by omega) (HS2.out.lies (fun b hb => HLy.out b hb)) j (by omega))
            rw [HFk.out] at HNv
            gi_wp2
            refine wpIn_region_quietR (by kernel_rfl) (by kernel_rfl) (by kernel_rfl) ?_
            iterate 6 (gi_big_quiet_step ((gi_at_call 17; exact CallsIn.quiet_of_same (CallsIn.inRound lp (callsIn_wide.2 (HNv.out _))))))
            refine wpQuietIn_nil ?_
            rintro _ ⟨nq, rfl⟩
            have HJc6 : Hid ((wr.drewN nq).heap[M]? = some (.cells #[.int .i32 (j : Nat)] 21 (0, 0))) := Lib.hid HJc.out
            have HJg6 : Hid (W.grownBy (wr.drewN nq) (some M)) := Lib.hid (grown_trans HJg.out ⟨rfl, rfl, rfl, Nat.le_refl _, fun _ _ _ => rfl⟩)
            generalize wr.drewN nq = w6 at *
            clear k0 k1 k2 k3 k4
            have k3 : w6.cell? ⟨M, 0, none⟩ = some (.int .i32 (j : Nat)) := cell_of_row w6 M 0 _ _ (0, 0) HJc6.out
            have k4 := frozen_of_row w6 M 0 _ _ HJc6.out
            have HPut := Lib.hid (PtL.put HJg6.out HJc6.out (j + 1))
            have hcast : ((j + 1 : Nat) : Int) = (j : Int) + 1 := by omega
            rw [hcast] at HPut
            gi_wp2
            have hM2 : M = w2.heap.size := HMe.out
            refine ⟨Kept.of_grown HPut.out.2 (fun k e hk => ?_), below_bel HBe.out HPut.out.2 (fun k e => by cases e; omega), fun k hk => HTn.out k hk, j + 1, by omega, HPk.out, by rw [← hM2, hcast]; exact HPut.out.1⟩
            cases e
            rcases hk with hk | hk
            · have := HTn.out _ hk; omega
            · exact hk.2 rfl
      case done =>
        rintro D Tt xs w20 hD hTD rfl hst hDk
        obtain ⟨hbel, htn, m, hmN, hpm, hcell⟩ := hst
        have HMiss : Hid (∀ j, m ≤ j → j ≤ 1114111 → ¬ fS rest l j = v) := Lib.hid (fun j h1 h2 h3 => by
          have h4 : lookT 0 T j = v := by rw [HF.out j h2]; exact h3
          have := whL_strict h4 h1 N (by have := HN.out; omega)
          rw [hpm] at this
          exact Nat.lt_irrefl _ this)
        have hbD : b0 + 3 < D := by have := HB5.out.size; omega
        have HBe := Lib.hid hbel
        have HDk := Lib.hid hDk
        have HLy := Lib.hid (lies_below HBe.out)
        have HCe := Lib.hid hcell
        clear hbel htn hpm hcell hDk hTD hD
        obtain ⟨M, hM⟩ : ∃ M, M = w2.heap.size := ⟨_, rfl⟩
        rw [← hM] at HCe ⊢
        have HMe := Lib.hid hM; clear hM
        go_wp2
        go_loopw [12] (PtE w20) (fun i _ => 1114112 - (intOf i).toNat)
        case atStart => exact ⟨0, Nat.zero_le _, rfl, 0, rfl⟩
        case round =>
          obtain ⟨r, hr, rfl, q, rfl⟩ := hrel
          have HLq : Hid (Lies w2 (w20.drewN q)) := Lib.hid (fun b hb => HLy.out b hb)
          have k0 : (w20.drewN q).cell? ⟨b0, 0, none⟩ = some (.int .u8 rest) := cell_of_row w20 b0 0 _ _ (0, 0) (HLy.out.block r0.out)
          have k1 : (w20.drewN q).cell? ⟨b0 + 1, 0, none⟩ = some (.slice a n c) := cell_of_row w20 (b0 + 1) 0 _ _ (0, 0) (HLy.out.block r1.out)
          have k2 : (w20.drewN q).cell? ⟨b0 + 2, 0, none⟩ = some (.int .u8 v) := cell_of_row w20 (b0 + 2) 0 _ _ (0, 0) (HLy.out.block r2.out)
          have k3 : (w20.drewN q).cell? ⟨M, 0, none⟩ = some (.int .i32 (m : Nat)) := cell_of_row w20 M 0 _ _ (0, 0) HCe.out
          by_cases hrN : r < 1114112
          · have hri : (r : Int) ≤ 1114111 := by omega
            have HNv := Lib.hid (naive_walk rest a n c l (w20.drewN q) HL.out (by omega) (HS2.out.lies HLq.out) r (by omega))
            have HAt := Lib.hid (At8_walk (w20.drewN q) g T HOk.out hpos (HLq.out.trie HT.out) (r : Nat) (by omega) (by omega))
            have hru : runeR ((r : Nat) : Int) = r := by unfold runeR; rw [if_neg (by omega)]; omega
            rw [hru, HF.out r (by omega)] at HAt
            have HMr := Lib.hid (fun h => HMiss.out r h (by omega))
            clear hru
            generalize fS rest l r = y at *
            have hyy : (y != y) = false := by simp
            go_wp2_with fail
            refine HNv.out.mono ?_
            rintro e w21 ⟨rfl, rfl⟩
            go_wp2_with fail
            refine HAt.out.mono ?_
            rintro e w22 ⟨rfl, q2, rfl⟩
            unfold val8
            have k2' : ((w20.drewN q).drewN q2).cell? ⟨b0 + 2, 0, none⟩ = some (.int .u8 v) := k2
            have k3' : ((w20.drewN q).drewN q2).cell? ⟨M, 0, none⟩ = some (.int .i32 (m : Nat)) := k3
            clear HAt HNv
            rw [drewN_add] at k2' k3' ⊢
            obtain ⟨w22, hw22⟩ : ∃ w22, w22 = w20.drewN (q + q2) := ⟨_, rfl⟩
            rw [← hw22] at k2' k3' ⊢
            have HW22 := Lib.hid hw22; clear hw22 k0 k1 k2 k3
            by_cases hmr : m ≤ r
            · have hmi : (m : Int) ≤ (r : Int) := by omega
              have dm : decide ((m : Int) ≤ (r : Int)) = true := decide_eq_true hmi
              have hv : (y == v) = false := beq_false_of_ne (HMr.out hmr)
              go_wp2
              go_roundw
              case rel => exact ⟨r + 1, by omega, by go_num, q + q2, HW22.out⟩
              case measure => simp [intOf]; omega
            · have hmi : ¬ (m : Int) ≤ (r : Int) := by omega
              have dm : decide ((m : Int) ≤ (r : Int)) = false := decide_eq_false hmi
              go_wp2
              go_roundw
              case rel => exact ⟨r + 1, by omega, by go_num, q + q2, HW22.out⟩
              case measure => simp [intOf]; omega
          · obtain rfl : r = 1114112 := by omega
            have HBq : Hid (Below w2.heap.size w2 (w20.drewN q)) := Lib.hid (below_drewN HBe.out q)
            have HDq : Hid ((w20.drewN q).heap[D]? = some (.deferred (some []))) := Lib.hid HDk.out
            generalize w20.drewN q = w23 at *
            clear k0 k1 k2 k3
            go_wp2_with fail
            refine (awake_walk _).mono ?_
            rintro e w24 ⟨rfl, hb⟩
            have k3 := (hb.block (b0 + 3) (by have := HBq.out.size; omega)).trans ((HBq.out.block (b0 + 3) (by omega)).trans r3.out)
            have q3 : w24.cell? ⟨b0 + 3, 0, none⟩ = some (.bool false) := cell_of_row w24 (b0 + 3) 0 _ _ (0, 0) k3
            have f3 := frozen_of_row w24 (b0 + 3) 0 _ _ k3
            have hD24 := (hb.block D (Array.getElem?_eq_some_iff.1 HDq.out).1).trans HDq.out
            have HD25 : Hid ((w24.setCell ⟨b0 + 3, 0, none⟩ (.bool true)).heap[D]? = some (.deferred (some []))) := Lib.hid (by rw [heap_setCell_other _ ⟨b0 + 3, 0, none⟩ D _ (by simp; omega)]; exact hD24)
            have HE3 := Lib.hid (World.cell?_setCell_same' w24 ⟨b0 + 3, 0, none⟩ (.bool true) (by rw [q3]; rfl))
            have HB25 := Lib.hid (show Below w.heap.size w (w24.setCell ⟨b0 + 3, 0, none⟩ (.bool true)) from ((HBw.out.trans (HBq.out.mono HBw.out.size)).trans (hb.mono (by have := HBw.out.size; have := HBq.out.size; omega))).setCell (p := ⟨b0 + 3, 0, none⟩) (by show w.heap.size ≤ b0 + 3; omega) _)
            clear hb k3 hD24
            go_wp2
            refine leaves_mark HD25.out (leaves_nil (v := .bool true) ?_ ?_)
            · have q := cell_mark HE3.out D (.deferred none) (by omega)
              simp [results, Try.results4, go_sem, q]
            · exact ⟨rfl, below_mark2 HB25.out D _ (by omega)⟩
end Go.Proofs.Ytabbabkmojaoaaa

/-
  The walk of 'Map' from numbers of eight bits (uint8).
-/
namespace Go.Proofs.Ytabbabkmojaoaaa
open Go.RowKit

theorem run_index_low (cs : Array Value) (c : Nat) (v : Value) (hc : c < 64) (hv : cs[c]? = some v) (w : World) : (Instr.index 119 (.agg cs) (.int .i64 (c : Nat))).run Try.prog w = .ok v w := by
  have h1 : (isAgg 5).run Try.prog w = .ok false w := by kernel_rfl
  have h2 : (sizeOf 5).run Try.prog w = .ok 1 w := by kernel_rfl
  have h3 : (c : Int) < 64 := by omega
  simp [Instr.index, run_underlying Try.underlying119, asIntOf, h3, part, h1, h2, hv]
  omega
/-- between two rounds: the row of turned blocks -/
def MaT (w : World) (h : Int → Int) (L : List (List Int)) (nl : Nat) (i sl : Value) (wr : World) : Prop :=
  ∃ (j : Nat) (a : Option Addr) (c : Nat), j ≤ nl ∧ i = .int .i64 (j : Nat) ∧ sl = .slice a j c ∧ wr.ownsRow w.heap.size 119 64 (.slice a j c) j ((L.take j).flatMap (fun l => blkC val8 (l.map h))) ∧ Below w.heap.size w wr
def MaI (W : World) (h : Int → Int) (l : List Int) (bc : Nat) (i : Value) (wr : World) : Prop :=
  ∃ (q : Nat) (cs : List Int), q ≤ 64 ∧ i = .int .i64 (q : Nat) ∧ cs.length = 64 ∧ (∀ p, p < q → cs[p]? = (l[p]?).map h) ∧ wr.heap[bc]? = some (.cells (blkC val8 cs).toArray 119 (0, 0)) ∧ Below bc W wr
def MaO (w1 : World) (f : Nat → Int) (v : Value) (wr : World) : Prop :=
  ∃ (c : Nat) (am : Option Addr) (cm : Nat) (al : Option Addr) (cl : Nat), c ≤ 272 ∧ v = .int .i64 (c : Nat) ∧ Below w1.heap.size w1 wr ∧
    MkAt val8 1 135 114 120 119 wr w1.heap.size (mkF f (64 * c)) (mkF f (64 * c)).lows (mkF f (64 * c)).mids am cm al cl
def MaP (w1 : World) (f : Nat → Int) (c : Nat) (v : Value) (wr : World) : Prop :=
  ∃ (j : Nat) (am : Option Addr) (cm : Nat) (al : Option Addr) (cl : Nat), j ≤ 64 ∧ v = .int .i64 (j : Nat) ∧ Below w1.heap.size w1 wr ∧
    MkAt val8 1 135 114 120 119 wr w1.heap.size (mkF f (64 * c + j)) (mkF f (64 * c + j)).lows (mkF f (64 * c + j)).mids am cm al cl
theorem take_map {β γ : Type} (L : List β) (f : β → List γ) (j : Nat) (hj : j < L.length) : (L.take (j + 1)).flatMap f = (L.take j).flatMap f ++ f L[j] := by
  rw [List.take_succ_eq_append_getElem hj, List.flatMap_append]
  simp
theorem lowAt_map (h : Int → Int) (T : TrieD Int) (hk : TrieOk T) (k : Nat) (hk2 : k < 17408) : (lowAt T k).map h = blkF (fun r => h (lookT 0 T r)) k := by
  apply List.ext_getElem?
  intro j
  unfold blkF
  rw [List.getElem?_map, List.getElem?_map]
  by_cases hj : j < 64
  · rw [List.getElem?_range hj, List.getElem?_eq_getElem (by rw [lowAt_length hk k hk2]; exact hj)]
    simp only [Option.map_some]
    rw [← lowAt_look 0 T k j hj]
    simp [List.getD_eq_getElem?_getD, lowAt_length hk k hk2, hj]
  · rw [List.getElem?_eq_none (by rw [lowAt_length hk k hk2]; omega), List.getElem?_eq_none (by simp; omega)]
    rfl

set_option maxRecDepth 100000 in
set_option maxHeartbeats 1600000 in
theorem Map_walk (w : World) (g : Nat) (T : TrieD Int) (hk : TrieOk T) (h0 : 0 < T.low.length) (ht : TrieAt Go.Proofs.Ytabbabkmojaoaaa.val8 114 64 w g T) (cf : Nat) (lb : Array Value) (h : Int → Int) (eg : ∀ args W, (callFunc cf args).run Try.prog W = .ok (.enter cf args) W)
    (hcall : ∀ v W, (∃ l ∈ T.low, v ∈ l) → Below w.heap.size w W → Calls Try.prog cf (#[.int .u8 v] ++ lb) W fun e W' => e = .returned (val8 (h v)) ∧ Below W.heap.size W W') :
    Calls Try.prog 23 #[.pointer (some ⟨g, 0, none⟩), .func (.func cf) #[] lb] w fun e w' => ∃ g' S, e = .returned (.pointer (some ⟨g', 0, none⟩)) ∧ w.heap.size ≤ g' ∧ Below w.heap.size w w' ∧
      Made8 (fun r => h (lookT 0 T r)) S ∧ TrieAt val8 114 64 w' g' (trieS S) := by
  have HCl := Lib.hid hcall; clear hcall
  have HEg := Lib.hid eg; clear eg
  have HK := Lib.hid hk; clear hk
  have HT0 := Lib.hid ht
  have HTh := Lib.hid (there8_walk w g T HK.out h0 ht)
  obtain ⟨am, cm, al, cl, hh1, hh2, hh3⟩ := ht
  have HG1 := Lib.hid hh1; have HG2 := Lib.hid hh2; have HG3 := Lib.hid hh3
  have c2 := TrieAt.cell_low (val := Go.Proofs.Ytabbabkmojaoaaa.val8) HK.out hh1
  obtain ⟨bl, ol, rfl⟩ := hh3.some h0
  clear hh1 hh2 hh3
  have hll := HK.out.lowL
  have qF := fun (w : World) (cs : Array Value) => run_eql_func_nil (P := Try.prog) w 39 (.func cf) #[] cs _ _ _ Try.underlying39
  obtain ⟨nl, hnl⟩ : ∃ nl, nl = T.low.length := ⟨_, rfl⟩
  rw [← hnl] at c2 hll h0
  have HNl := Lib.hid hnl; clear hnl
  go_enter Try.func23, Try.ntmps23
  go_wp2_with fail
  refine HTh.out.mono ?_
  rintro e w1 ⟨rfl, rfl⟩
  go_wp2
  go_loopw [28, 5] (MaT w h T.low nl) (fun i _ _ => nl - (intOf i).toNat)
  case atStart => exact ⟨0, none, 0, Nat.zero_le _, rfl, rfl, World.ownsRow_nil _ _ _ _, Below.refl _ _⟩
  case round =>
    obtain ⟨j, a, c, hj, rfl, rfl, hown, hbel⟩ := hrel
    have HOw := Lib.hid hown; clear hown
    have HBe := Lib.hid hbel; clear hbel
    by_cases hjn : j < nl
    · have hji : (j : Int) < (nl : Int) := by omega
      have hjl : j < T.low.length := by rw [← HNl.out]; exact hjn
      have HR : Hid (wr.rangeAt bl (ol + j * 64) (blkC Go.Proofs.Ytabbabkmojaoaaa.val8 T.low[j])) := Lib.hid (rangeAt_below (HG3.out.get j hjl) HBe.out (Nat.le_refl _))
      have hll64 : (T.low[j]).length = 64 := HK.out.low _ (List.getElem_mem hjl)
      have HMem : Hid (∀ v ∈ T.low[j], ∃ l ∈ T.low, v ∈ l) := Lib.hid (fun v hv => ⟨_, List.getElem_mem hjl, hv⟩)
      have HTk := Lib.hid (take_map T.low (fun l => blkC val8 (l.map h)) j hjl)
      generalize T.low[j] = l at *
      have hbs : (blkC Go.Proofs.Ytabbabkmojaoaaa.val8 l).length = 64 := by rw [blkC_length (sz := 1) (fun _ => rfl), hll64]
      go_upto_region 6 with (fail)
      refine wp_region_list ?_
      refine wpList_val (v := .pointer (some ⟨bl, ol + j * 64, none⟩)) (w' := wr) rfl (by go_simp) ?_
      refine wpList_load_mid rfl 119 (.tmp 30) rfl bl (ol + j * 64) rfl (blkC Go.Proofs.Ytabbabkmojaoaaa.val8 l) (.array 64 5) HR.out Try.underlying119 rfl (by rw [hbs]; kernel_rfl) ?_
      refine wpList_val (v := .pointer (some ⟨wr.heap.size, 0, none⟩)) (w' := wr.alloc (.cells (blkC Go.Proofs.Ytabbabkmojaoaaa.val8 (List.replicate 64 0)).toArray 119)) rfl (by kernel_rfl) ?_
      obtain ⟨b7, hb7⟩ : ∃ b7, b7 = wr.heap.size := ⟨_, rfl⟩
      have hA1 := heap_alloc_new wr (.cells (blkC Go.Proofs.Ytabbabkmojaoaaa.val8 (List.replicate 64 0)).toArray 119)
      have hB1 : Below wr.heap.size wr (wr.alloc (.cells (blkC Go.Proofs.Ytabbabkmojaoaaa.val8 (List.replicate 64 0)).toArray 119)) := (Below.refl _ _).alloc (Nat.le_refl _) _
      have hz1 := World.size_alloc wr (.cells (blkC Go.Proofs.Ytabbabkmojaoaaa.val8 (List.replicate 64 0)).toArray 119)
      rw [← hb7] at hA1 hB1 hz1 ⊢
      generalize wr.alloc (.cells (blkC Go.Proofs.Ytabbabkmojaoaaa.val8 (List.replicate 64 0)).toArray 119) = v1 at *
      refine wpList_store_row rfl 119 (.tmp 7) (.tmp 31) rfl b7 (blkC Go.Proofs.Ytabbabkmojaoaaa.val8 l).toArray rfl rfl 119 _ hA1 (by rw [List.size_toArray, hbs]; kernel_rfl) (by rw [List.size_toArray, List.size_toArray, hbs, blkC_length (sz := 1) (fun _ => rfl)]; rfl) (by rw [Go.Proofs.Ytabbabkmojaoaaa.blkC8_map]; exact all_oneCell_toArray (Go.Proofs.Ytabbabkmojaoaaa.val8_one _)) ?_
      have hA2 := setRow_heap v1 b7 _ (blkC Go.Proofs.Ytabbabkmojaoaaa.val8 l).toArray _ _ hA1
      have hB2 : Below b7 wr (v1.setRow b7 (blkC Go.Proofs.Ytabbabkmojaoaaa.val8 l).toArray) := ⟨hB1.os, hB1.tape, hB1.output, by rw [setRow_size]; exact hB1.size, fun k hk => by rw [setRow_other v1 b7 k _ (by omega)]; exact hB1.block k hk⟩
      have hz2 : (v1.setRow b7 (blkC Go.Proofs.Ytabbabkmojaoaaa.val8 l).toArray).heap.size = b7 + 1 := by rw [setRow_size]; exact hz1
      generalize v1.setRow b7 (blkC Go.Proofs.Ytabbabkmojaoaaa.val8 l).toArray = v2 at *
      have HB7 := Lib.hid hb7
      clear hA1 hB1 hz1 HR hb7
      go_upto_region 8 with (fail)
      change Code.wp _ _ _ _ (v2.alloc (.cells (blkC val8 (List.replicate 64 (0 : Int))).toArray 119))
      have hA3 := heap_alloc_new v2 (.cells (blkC val8 (List.replicate 64 (0 : Int))).toArray 119)
      have hB3 : Below v2.heap.size v2 (v2.alloc (.cells (blkC val8 (List.replicate 64 (0 : Int))).toArray 119)) := (Below.refl _ _).alloc (Nat.le_refl _) _
      have hz3 := World.size_alloc v2 (.cells (blkC val8 (List.replicate 64 (0 : Int))).toArray 119)
      generalize v2.alloc (.cells (blkC val8 (List.replicate 64 (0 : Int))).toArray 119) = v3 at *
      rw [hz2] at hA3 hB3 hz3
      have hA7 : v3.heap[b7]? = some (.cells (blkC Go.Proofs.Ytabbabkmojaoaaa.val8 l).toArray 119 (0, 0)) := (hB3.block b7 (by omega)).trans hA2
      have HR7 : Hid (v3.rangeAt b7 0 (blkC Go.Proofs.Ytabbabkmojaoaaa.val8 l)) := Lib.hid (by
        have := World.rangeAt_of_block hA7 0 (blkC Go.Proofs.Ytabbabkmojaoaaa.val8 l).length
        simpa using this)
      have HC3 := Lib.hid hA3
      have HB3 : Hid (Below b7 wr v3) := Lib.hid (hB2.trans (hB3.mono (by omega)))
      have HBw3 : Hid (Below w.heap.size w v3) := Lib.hid (HBe.out.trans (HB3.out.mono (by rw [HB7.out]; exact HBe.out.size)))
      have HOw3 : Hid (v3.ownsRow w.heap.size 119 64 (.slice a j c) j ((T.low.take j).flatMap (fun l => blkC val8 (l.map h)))) := Lib.hid (HOw.out.kept (row := none) ⟨HB3.out.os, HB3.out.tape, HB3.out.output, HB3.out.size, fun k hk _ => HB3.out.block k (by rw [HB7.out]; exact hk)⟩ (by cases e : (Value.slice a j c).ownBlock <;> simp))
      have HZ3 := Lib.hid hz3
      have HOlt : Hid (∀ k, (Value.slice a j c).ownBlock = some k → k < b7) := Lib.hid (fun k e => by rw [HB7.out]; exact (World.ownsRow.lt HOw.out k e).2)
      have hwb : w.heap.size ≤ b7 := by rw [HB7.out]; exact HBe.out.size
      clear hA2 hB2 hA3 hB3 hA7 hz2 hz3 v1 v2 HOw HBe
      refine wp_region_list ?_
      refine wpList_load_mid rfl 119 (.tmp 7) rfl b7 0 rfl (blkC Go.Proofs.Ytabbabkmojaoaaa.val8 l) (.array 64 5) HR7.out Try.underlying119 rfl (by rw [hbs]; kernel_rfl) ?_
      have HIx : Hid (∀ q (hq : q < l.length), (blkC Go.Proofs.Ytabbabkmojaoaaa.val8 l).toArray[q]? = some (.int .u8 (l[q]))) := Lib.hid (fun q hq => by rw [List.getElem?_toArray, blkC_get Go.Proofs.Ytabbabkmojaoaaa.val8_cells _ q hq]; rfl)
      generalize (blkC Go.Proofs.Ytabbabkmojaoaaa.val8 l).toArray = arr at *
      go_wp2
      go_loopw [33] (MaI v3 h l (b7 + 1)) (fun i _ => 64 - (intOf i).toNat)
      case atStart => exact ⟨0, List.replicate 64 0, Nat.zero_le _, rfl, List.length_replicate, fun p hp => by omega, HC3.out, Below.refl _ _⟩
      case round =>
        obtain ⟨q, cs, hq, rfl, hcl, hcs, hcell, hbel⟩ := hrel
        have HCs := Lib.hid hcs; clear hcs
        have HCe := Lib.hid hcell; clear hcell
        have HBe := Lib.hid hbel; clear hbel
        have HBwr : Hid (Below w.heap.size w wr) := Lib.hid (HBw3.out.trans (HBe.out.mono (by omega)))
        by_cases hqn : q < 64
        · have hqi : (q : Int) < 64 := by omega
          have a1 := run_index_low arr q _ hqn (HIx.out q (by omega)) wr
          have HCv := Lib.hid (HCl.out (l[q]'(by omega)) wr (HMem.out _ (List.getElem_mem _)) HBwr.out)
          have HLq : Hid (l[q]? = some (l[q]'(by omega))) := Lib.hid (List.getElem?_eq_getElem _)
          generalize l[q]'(by omega) = x at *
          have heg := HEg.out
          go_wp2_with fail
          refine HCv.out.mono ?_
          rintro e w5 ⟨rfl, hb5⟩
          have hbcl : b7 + 1 < wr.heap.size := (Array.getElem?_eq_some_iff.1 HCe.out).1
          have HC5 := Lib.hid ((hb5.block (b7 + 1) hbcl).trans HCe.out)
          have HB5 : Hid (Below (b7 + 1) v3 w5) := Lib.hid (HBe.out.trans (hb5.mono (by omega)))
          obtain ⟨z1, q1⟩ : ∃ v, w5.cell? ⟨b7 + 1, q, none⟩ = some v := by
            rw [cell_of_row w5 (b7 + 1) q _ _ (0, 0) HC5.out, blkC8_map]
            exact ⟨_, by rw [List.getElem?_toArray, List.getElem?_map, List.getElem?_eq_getElem (by omega)]; rfl⟩
          have f1 := frozen_of_row w5 (b7 + 1) q _ _ HC5.out
          have HC6 : Hid ((w5.setCell ⟨b7 + 1, q, none⟩ (val8 (h x))).heap[b7 + 1]? = some (.cells (blkC val8 (cs.set q (h x))).toArray 119 (0, 0))) := Lib.hid (by
            rw [heap_setCell_same w5 (b7 + 1) q _ _ (val8 (h x)) HC5.out, blkC8_map, blkC8_map, List.map_set]
            simp)
          have HB6 : Hid (Below (b7 + 1) v3 (w5.setCell ⟨b7 + 1, q, none⟩ (val8 (h x)))) := Lib.hid (HB5.out.setCell (p := ⟨b7 + 1, q, none⟩) (Nat.le_refl _) _)
          have HCs6 : Hid (∀ p, p < q + 1 → (cs.set q (h x))[p]? = (l[p]?).map h) := Lib.hid (fun p hp => by
            by_cases e : q = p
            · subst e
              rw [List.getElem?_set_self (by omega), HLq.out]
              rfl
            · rw [List.getElem?_set_ne e]
              exact HCs.out p (by omega))
          have hcl6 : (cs.set q (h x)).length = 64 := by simpa using hcl
          clear hb5 HCv HLq
          generalize hw6 : w5.setCell ⟨b7 + 1, q, none⟩ (val8 (h x)) = w6 at *
          generalize cs.set q (h x) = cs6 at *
          generalize h x = y at *
          unfold val8 at hw6
          unfold val8
          go_wp2
          go_roundw
          case rel => exact ⟨q + 1, cs6, by omega, by go_num, hcl6, HCs6.out, HC6.out, HB6.out⟩
          case measure => simp [intOf]; omega
        · obtain rfl : q = 64 := by omega
          have hcs : cs = l.map h := by
            apply List.ext_getElem?
            intro p
            by_cases hp : p < 64
            · rw [HCs.out p hp, List.getElem?_map]
            · rw [List.getElem?_eq_none (by omega), List.getElem?_eq_none (by simp; omega)]
          have hcbs : (blkC val8 cs).length = 64 := by rw [blkC_length (sz := 1) (fun _ => rfl), hcl]
          have HRc : Hid (wr.rangeAt (b7 + 1) 0 (blkC val8 cs)) := Lib.hid (by
            have := World.rangeAt_of_block HCe.out 0 (blkC val8 cs).length
            simpa using this)
          have HOw4 : Hid (wr.ownsRow w.heap.size 119 64 (.slice a j c) j ((T.low.take j).flatMap (fun l => blkC val8 (l.map h)))) := Lib.hid (HOw3.out.kept (row := some (b7 + 1)) ⟨HBe.out.os, HBe.out.tape, HBe.out.output, HBe.out.size, fun k hk hne => HBe.out.block k (by have := HZ3.out; have : k ≠ b7 + 1 := fun e => hne (by rw [e]); omega)⟩ (by
            cases e : (Value.slice a j c).ownBlock with
            | none => exact .inl rfl
            | some k => exact .inr (fun e2 => by cases e2; have := HOlt.out _ e; omega)))
          have HCq := Lib.hid hcs; clear hcs
          have hbase : w.heap.size ≤ wr.heap.size := HBwr.out.size
          have hj2 : j < 17408 := by omega
          go_upto_region 13 with (fail)
          refine wp_region_list ?_
          refine wpList_val (v := .slice a j c) (w' := wr) rfl (by rfl) ?_
          refine wpList_load_mid rfl 119 (.tmp 8) rfl (b7 + 1) 0 rfl (blkC val8 cs) (.array 64 5) HRc.out Try.underlying119 rfl (by rw [hcbs]; kernel_rfl) ?_
          refine wpList_val (v := .slice (some ⟨wr.heap.size, 0, none⟩) 1 1) (w' := wr.alloc (.cells (blkC val8 cs).toArray 119)) rfl (by go_simp; exact congrArg (fun c => wr.alloc (.cells c 119)) (fill_all (blkC val8 cs) _ (by rw [hcbs]; rfl))) ?_
          refine wpList_appN Try.elemB8 rfl (.tmp 43) (.tmp 45) rfl HOw4.out hbase (by omega) (by omega) (blkC val8 cs).toArray (by rw [List.size_toArray, hcbs]) (fun u hu => blkC8_one cs u hu) 119 rfl rfl ?_
          intro a' c' w5 ho5 hg5 hn5
          have HOw5 : Hid (w5.ownsRow w.heap.size 119 64 (.slice a' (j + 1) c') (j + 1) ((T.low.take (j + 1)).flatMap (fun l => blkC val8 (l.map h)))) := Lib.hid (by
            rw [HTk.out, ← HCq.out]
            exact ho5)
          have HB5 : Hid (Below w.heap.size w w5) := Lib.hid (HBwr.out.trans (below_grown hg5 (fun k e => (World.ownsRow.lt HOw4.out k e).1) hbase))
          clear ho5 hg5 hn5 HCq
          go_wp2
          go_roundw
          case rel => exact ⟨j + 1, a', c', by omega, by go_num, rfl, HOw5.out, HB5.out⟩
          case measure => simp [intOf]; omega
    · obtain rfl : j = nl := by omega
      have hji : ¬ (j : Int) < (j : Int) := by omega
      obtain ⟨w2, rfl⟩ : ∃ w2, w2 = wr := ⟨_, rfl⟩
      have hjT : (T.low.map (List.map h)).length = j := by rw [List.length_map, HNl.out]
      have HTur : Hid (BlocksAt val8 64 w2 a (T.low.map (List.map h))) := Lib.hid (by
        refine blocks_of_row (B := w.heap.size) (m := 64) (E := 119) (c := c) ?_ (fun l hl => ?_)
        · rw [hjT]
          have := HOw.out
          rwa [List.take_of_length_le (by rw [HNl.out]; exact Nat.le_refl _), ← List.flatMap_map] at this
        · obtain ⟨m, hm, rfl⟩ := List.mem_map.1 hl
          rw [blkC_length (sz := 1) (fun _ => rfl), List.length_map, HK.out.low _ hm])
      obtain ⟨ba, oa, rfl⟩ := HTur.out.some (by omega)
      obtain ⟨f, hf⟩ : ∃ f : Nat → Int, f = fun r => h (lookT 0 T r) := ⟨_, rfl⟩
      have HFf := Lib.hid (show ∀ k, k < 17408 → (lowAt T k).map h = blkF f k from fun k hk => by rw [hf]; exact lowAt_map h T HK.out k hk)
      have HFe := Lib.hid hf; clear hf
      have HT2 := Lib.hid (HT0.out.below HBe.out (Nat.le_refl _))
      have HBw2 := Lib.hid HBe.out
      clear HCl HOw HBe HG1 HG2 HG3 HT0 HTh c2
      go_wp2_with fail
      refine (begin8_walk w2).mono ?_
      rintro e w3 ⟨rfl, hm, hb⟩
      have HM3 := Lib.hid hm
      have HB3 := Lib.hid hb; clear hm hb
      obtain ⟨am1, cm1, al1, cl1, hh1, hh2, hh3⟩ := HT2.out
      have HG1 := Lib.hid hh1; have HG2 := Lib.hid hh2
      clear hh1 hh2 hh3
      have hh1 := (HB3.out.block g (Array.getElem?_eq_some_iff.1 HG1.out).1).trans HG1.out
      have HR0 : Hid (w3.rangeAt g 0 (blkC num16 T.top)) := Lib.hid (by
        intro j v hv
        have hjl : j < T.top.length := by
          have := (List.getElem?_eq_some_iff.1 hv).1
          rw [blkC_length (sz := 1) (fun _ => rfl)] at this
          omega
        rw [Nat.zero_add, TrieAt.cell_top (val := Go.Proofs.Ytabbabkmojaoaaa.val8) HK.out hh1 j (by rw [← HK.out.top]; exact hjl), getD_at (d := 0) hjl, ← hv, blkC_get num16_cells _ j hjl])
      have hts : (blkC num16 T.top).length = 272 := by rw [blkC_length (sz := 1) (fun _ => rfl), HK.out.top]
      clear hh1
      have hh16 : w2.heap.size + 3 < w3.heap.size := by have := HM3.out.lt; omega
      go_upto_region 16 with (fail)
      refine wp_region_list ?_
      refine wpList_val (v := .pointer (some ⟨g, 0, none⟩)) (w' := w3) rfl (by rfl) ?_
      refine wpList_val (v := .pointer (some ⟨g, 0, none⟩)) (w' := w3) rfl (by rfl) ?_
      refine wpList_val (v := .pointer (some ⟨g, 0, none⟩)) (w' := w3) rfl (by go_simp) ?_
      refine wpList_load_mid rfl 110 (.tmp 51) rfl g 0 rfl (blkC num16 T.top) (.array 272 91) HR0.out Try.underlying110 rfl (by rw [hts]; kernel_rfl) ?_
      have HTop : Hid (∀ c, c < 272 → (blkC num16 T.top).toArray[c]? = some (num16 (T.top.getD c 0))) := Lib.hid (fun c hc => by
        have hcl : c < T.top.length := by rw [HK.out.top]; exact hc
        rw [List.getElem?_toArray, blkC_get num16_cells _ c hcl, getD_at (d := 0) hcl])
      generalize (blkC num16 T.top).toArray = top at *
      clear hts HR0
      go_wp2
      go_loopw [53] (MaO w2 f) (fun i _ => 272 - (intOf i).toNat)
      case atStart => exact ⟨0, none, 0, none, 0, Nat.zero_le _, rfl, HB3.out, HM3.out⟩
      case round =>
        obtain ⟨c4, am4, cm4, al4, cl4, hc4, rfl, hbel, hmk⟩ := hrel
        have HBe := Lib.hid hbel; clear hbel
        have HMk := Lib.hid hmk; clear hmk
        by_cases hcn : c4 < 272
        · have hci : (c4 : Int) < 272 := by omega
          have a1 := run_index_top top c4 _ hcn (HTop.out c4 hcn) wr
          have htl : c4 < T.top.length := by rw [HK.out.top]; exact hcn
          have hil : T.top.getD c4 0 < T.mid.length := by rw [getD_at (d := 0) htl]; exact HK.out.topN _ (List.getElem_mem htl)
          obtain ⟨i, hi⟩ : ∃ i, i = T.top.getD c4 0 := ⟨_, rfl⟩
          rw [← hi] at a1 hil
          have HI := Lib.hid hi; clear hi
          have c1 := TrieAt.cell_mid (val := Go.Proofs.Ytabbabkmojaoaaa.val8) HK.out ((HBe.out.block g (by have := (Array.getElem?_eq_some_iff.1 HG1.out).1; omega)).trans HG1.out)
          obtain ⟨bm, om, rfl⟩ := HG2.out.some (by omega)
          have HR := Lib.hid (rangeAt_below (HG2.out.get i hil) HBe.out (Nat.le_refl _))
          have hml : (T.mid[i]).length = 64 := HK.out.mid _ (List.getElem_mem hil)
          have hms : (blkC num16 T.mid[i]).length = 64 := by rw [blkC_length (sz := 1) (fun _ => rfl), hml]
          have hnm : T.mid.length ≤ 272 := HK.out.midL
          have HMid : Hid (∀ j, j < 64 → (blkC num16 T.mid[i]).toArray[j]? = some (num16 ((T.mid.getD i []).getD j 0))) := Lib.hid (fun j hj => by
            rw [List.getElem?_toArray, blkC_get num16_cells _ j (by omega), getD_at (d := []) hil, getD_at (d := 0) (by omega)])
          unfold num16 at a1
          have g1 : (0 : Int) ≤ (i : Int) := by omega
          have g2 : (i : Int) < ((T.mid.length : Nat) : Int) := by omega
          generalize hnn : T.mid.length = nm at c1 g2 hnm
          clear hnn
          go_upto_region 19 with (fail)
          refine wp_region_list ?_
          refine wpList_val (v := .pointer (some ⟨g, 0, none⟩)) (w' := wr) rfl (by rfl) ?_
          refine wpList_val (v := .pointer (some ⟨g, 0, none⟩)) (w' := wr) rfl (by rfl) ?_
          refine wpList_val (v := .pointer (some ⟨g, 272, none⟩)) (w' := wr) rfl (by go_simp) ?_
          refine wpList_val (v := .slice (some ⟨bm, om, none⟩) nm cm1) (w' := wr) rfl (by go_simp) ?_
          refine wpList_val (v := .int .u16 (i : Nat)) (w' := wr) rfl (by rfl) ?_
          refine wpList_val (v := .pointer (some ⟨bm, om + i * 64, none⟩)) (w' := wr) rfl (by go_simp) ?_
          refine wpList_load_mid rfl 120 (.tmp 61) rfl bm (om + i * 64) rfl (blkC num16 T.mid[i]) (.array 64 91) HR.out Try.underlying120 rfl (by rw [hms]; kernel_rfl) ?_
          generalize (blkC num16 T.mid[i]).toArray = mid at *
          clear hms HR c1 g1 g2 hnm a1
          go_wp2
          go_loopw [63] (MaP w2 f c4) (fun i _ => 64 - (intOf i).toNat)
          case atStart => exact ⟨0, am4, cm4, al4, cl4, Nat.zero_le _, rfl, HBe.out, HMk.out⟩
          case round =>
            obtain ⟨k, am5, cm5, al5, cl5, hk, rfl, hbel, hmk⟩ := hrel
            have HBe5 := Lib.hid hbel; clear hbel
            have HMk5 := Lib.hid hmk; clear hmk
            by_cases hkn : k < 64
            · have hki : (k : Int) < 64 := by omega
              have b1 := run_index_mid mid k _ hkn (HMid.out k hkn) wr
              have hkk : 64 * c4 + k < 17408 := by omega
              have hLow : lowAt T (64 * c4 + k) = T.low.getD ((T.mid.getD i []).getD k 0) [] := by
                unfold lowAt
                rw [show (64 * c4 + k) / 64 = c4 by omega, show (64 * c4 + k) % 64 = k by omega, ← HI.out]
              have hmj : k < (T.mid[i]).length := by rw [hml]; exact hkn
              have hll2 : (T.mid.getD i []).getD k 0 < T.low.length := by
                rw [getD_at (d := []) hil, getD_at (d := 0) hmj]
                exact HK.out.midN _ (List.getElem_mem hil) _ (List.getElem_mem hmj)
              obtain ⟨q, hq⟩ : ∃ q, q = (T.mid.getD i []).getD k 0 := ⟨_, rfl⟩
              rw [← hq] at b1 hLow hll2
              have hqT : q < (T.low.map (List.map h)).length := by rw [List.length_map]; exact hll2
              have HRl : Hid (wr.rangeAt ba (oa + q * 64) (blkC val8 (blkF f (64 * c4 + k)))) := Lib.hid (by
                rw [← HFf.out _ hkk, hLow, getD_at (d := []) hll2]
                have := HTur.out.get q hqT
                rw [List.getElem_map] at this
                exact rangeAt_below this HBe5.out (Nat.le_refl _))
              have hbF : (blkC val8 (blkF f (64 * c4 + k))).length = 64 := by rw [blkC_length (sz := 1) (fun _ => rfl), blkF_length]
              have hqj : q < j := by rw [HNl.out]; exact hll2
              clear hq hLow
              unfold num16 at b1
              have g3 : (0 : Int) ≤ (q : Int) := by omega
              have g4 : (q : Int) < (j : Int) := by omega
              obtain ⟨hk1, hk2, hk3, hk4⟩ := mkF_ok f (64 * c4 + k)
              have HKf := Lib.hid hk1; clear hk1
              go_upto_region 22 with (fail)
              refine wp_region_list ?_
              refine wpList_val (v := .pointer (some ⟨w2.heap.size + 3, 0, none⟩)) (w' := wr) rfl (by rfl) ?_
              refine wpList_val (v := .slice (some ⟨ba, oa, none⟩) j c) (w' := wr) rfl (by rfl) ?_
              refine wpList_val (v := .int .u16 (q : Nat)) (w' := wr) rfl (by rfl) ?_
              refine wpList_val (v := .pointer (some ⟨ba, oa + q * 64, none⟩)) (w' := wr) rfl (by go_simp) ?_
              refine wpList_load_mid rfl 119 (.tmp 69) rfl ba (oa + q * 64) rfl (blkC val8 (blkF f (64 * c4 + k))) (.array 64 5) HRl.out Try.underlying119 rfl (by rw [hbF]; kernel_rfl) ?_
              go_wp2_with fail
              refine (add8_walk wr w2.heap.size (mkF f (64 * c4 + k)) (blkF f (64 * c4 + k)) am5 cm5 al5 cl5 HKf.out (blkF_length _ _) (by omega) (by omega) (by omega) HMk5.out).mono ?_
              rintro e w7 ⟨rfl, am', cm', al', cl', hm7, ha7⟩
              have hB7 := ha7.to_below (fun k' e => by rw [← ob_eq am5 (mkF f (64 * c4 + k)).mids.length cm5] at e; have := (World.ownsRow.lt HMk5.out.rm k' e).1; omega) (fun k' e => by rw [← ob_eq al5 (mkF f (64 * c4 + k)).lows.length cl5] at e; have := (World.ownsRow.lt HMk5.out.rl k' e).1; omega) HBe5.out.size
              have HM7 := Lib.hid hm7
              have HB7 := Lib.hid (HBe5.out.trans hB7)
              clear hm7 ha7 hB7 hk2 hk3 hk4
              go_wp2
              go_roundw
              case rel => exact ⟨k + 1, am', cm', al', cl', by omega, by go_num, HB7.out, HM7.out⟩
              case measure => simp [intOf]; omega
            · obtain rfl : k = 64 := by omega
              have HM6 : Hid (MkAt val8 1 135 114 120 119 wr w2.heap.size (mkF f (64 * (c4 + 1))) (mkF f (64 * (c4 + 1))).lows (mkF f (64 * (c4 + 1))).mids am5 cm5 al5 cl5) := Lib.hid HMk5.out
              go_wp2
              go_roundw
              case rel => exact ⟨c4 + 1, am5, cm5, al5, cl5, by omega, by go_num, HBe5.out, HM6.out⟩
              case measure => simp [intOf]; omega
        · obtain rfl : c4 = 272 := by omega
          have HM8 : Hid (MkAt val8 1 135 114 120 119 wr w2.heap.size (mkF f 17408) (mkF f 17408).lows (mkF f 17408).mids am4 cm4 al4 cl4) := Lib.hid HMk.out
          have c0 := HM8.out.c_t
          go_wp2
          go_ret
          have hM := made8 f 17408 rfl
          have hm8 := HM8.out
          generalize mkF f 17408 = S at *
          exact ⟨_, S, rfl, HBw2.out.size, HBw2.out.trans (HBe.out.mono HBw2.out.size), HFe.out ▸ hM, trieS_at hM hm8⟩
end Go.Proofs.Ytabbabkmojaoaaa
