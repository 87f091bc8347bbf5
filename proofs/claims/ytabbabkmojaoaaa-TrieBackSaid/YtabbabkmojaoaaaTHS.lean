/-
  The walk of 'Same' (string).
-/
import Derived.Test.YtabbabkmojaoaaaTQS
import Derived.Test.YtabbabkmojaoaaaTZ
set_option linter.unusedVariables false
set_option linter.unusedSimpArgs false
namespace Go.Proofs.Ytabbabkmojaoaaa.VS
open Go.RowKit

theorem there_walk (w : World) (g : Nat) (T : TrieD El) (hk : TrieOk T) (h0 : 0 < T.low.length) (h : TrieAt val8 138 64 w g T) :
    Calls Try.prog 68 #[.pointer (some ⟨g, 0, none⟩)] w fun e w' => e = .returned (.bool true) ∧ w = w' := by
  obtain ⟨am, cm, al, cl, h1, h2, h3⟩ := h
  have c2 := TrieAt.cell_low (val := val8) hk h1
  have h0i : (0 : Int) < (T.low.length : Int) := by omega
  have d0 : decide ((0 : Int) < (T.low.length : Int)) = true := decide_eq_true h0i
  have H1 := Lib.hid h1; clear h1
  have H2 := Lib.hid h2; clear h2
  have H3 := Lib.hid h3; clear h3
  clear hk
  generalize T.low.length = n at *
  go_enter Try.func68, Try.ntmps68
  go_wp2
  go_ret
  exact ⟨rfl, rfl⟩
theorem wpStill_bin {P : Program} {ops : Array Oper} {w : World} {Q : Act → Prop} {rest : List Oper} {o : Oper} {a : Act} (hg : o.guard = none) (bo : BinOp) (t : TypeId) (x y : Operand) (t2 : TypeId) (ho : o.op = .binOp bo t x y t2) (xv yv v : Value) (hx : a.eval x = xv) (hy : a.eval y = yv)
    (hG : (eqGuard bo t x y xv yv).run P w = .ok () w) (hr : (binOp bo t xv yv).run P w = .ok v w) (h : wpStill P ops w Q rest (a.put o.dst v)) : wpStill P ops w Q (o :: rest) a := by
  refine wpStill_val hg ?_ h
  unfold execOp
  simp only [ho, hx, hy, Sem.run_bind, Sem.run_pure, Result.andThen_ok, hG, hr]
theorem eqg_low (xs ys : Array Value) (x y : Operand) (w : World) : (eqGuard .neq 122 x y (.agg xs) (.agg ys)).run Try.prog w = .ok () w := run_eqGuard_agg w .neq 122 x y xs ys (by kernel_rfl)
theorem neq_agg {P : Program} (w : World) (t : TypeId) (xs ys : Array Value) (b : Bool) (h : (Op.equal t (.agg xs) (.agg ys)).run P w = .ok b w) : (binOp .neq t (.agg xs) (.agg ys)).run P w = .ok (.bool (!b)) w := by
  simp [binOp, h]
theorem eqL_low (l m : List El) (h : l.length = m.length) : eqL (fun a b => decide (a = b)) l m = decide (l = m) := by
  by_cases e : l = m
  · rw [(eqL_iff l m h).2 e]; simp [e]
  · cases e2 : eqL (fun a b => decide (a = b)) l m
    · simp [e]
    · exact absurd ((eqL_iff l m h).1 e2) e
theorem neq_low (l m : List El) (hl : l.length = 64) (hm : m.length = 64) (w : World) : (binOp .neq 122 (.agg (blkC val8 l).toArray) (.agg (blkC val8 m).toArray)).run Try.prog w = .ok (.bool (!decide (l = m))) w := by
  have := Try.k8.equal w l m hl hm
  rw [eqL_low l m (by omega)] at this
  exact neq_agg w _ _ _ _ this
def SaO (w : World) (T1 T2 : TrieD El) (v : Value) (wr : World) : Prop := ∃ c : Nat, c ≤ 272 ∧ v = .int .i64 (c : Nat) ∧ (∀ k, k < 64 * c → lowAt T1 k = lowAt T2 k) ∧ ∃ n, wr = w.drewN n
def SaI (w : World) (T1 T2 : TrieD El) (c : Nat) (v : Value) (wr : World) : Prop := ∃ j : Nat, j ≤ 64 ∧ v = .int .i64 (j : Nat) ∧ (∀ k, k < 64 * c + j → lowAt T1 k = lowAt T2 k) ∧ ∃ n, wr = w.drewN n
theorem same_look {T1 T2 : TrieD El} (h1 : TrieOk T1) (h2 : TrieOk T2) : (∀ k, k < 17408 → lowAt T1 k = lowAt T2 k) ↔ ∀ r, r ≤ 1114111 → lookT ByteArray.empty T1 r = lookT ByteArray.empty T2 r := by
  constructor
  · intro h r hr
    have e := h (r / 64) (by omega)
    rw [show r = 64 * (r / 64) + r % 64 by omega, ← lowAt_look ByteArray.empty T1 (r / 64) (r % 64) (by omega), ← lowAt_look ByteArray.empty T2 (r / 64) (r % 64) (by omega), e]
  · intro h k hk
    apply List.ext_getElem?
    intro j
    have l1 := lowAt_length h1 k hk
    have l2 := lowAt_length h2 k hk
    by_cases hj : j < 64
    · have := h (64 * k + j) (by omega)
      rw [← lowAt_look ByteArray.empty T1 k j hj, ← lowAt_look ByteArray.empty T2 k j hj, getD_at (by omega), getD_at (by omega)] at this
      rw [List.getElem?_eq_getElem (by omega), List.getElem?_eq_getElem (by omega), this]
    · rw [List.getElem?_eq_none (by omega), List.getElem?_eq_none (by omega)]
/-- what a trie's cells tell of middle block c -/
structure TopC (w : World) (g : Nat) (T : TrieD El) (c cm cl i bm om bl ol : Nat) : Prop where
  mid : w.cell? ⟨g, 272, none⟩ = some (.slice (some ⟨bm, om, none⟩) T.mid.length cm)
  low : w.cell? ⟨g, 273, none⟩ = some (.slice (some ⟨bl, ol, none⟩) T.low.length cl)
  top : w.cell? ⟨g, c, none⟩ = some (.int .u16 (i : Nat))
  il : i < T.mid.length
  m : ∀ j, j < 64 → ∃ q, w.cell? ⟨bm, om + i * 64 + j, none⟩ = some (.int .u16 (q : Nat)) ∧ q < T.low.length ∧ w.rangeAt bl (ol + q * 64) (blkC val8 (lowAt T (64 * c + j)))
theorem topC {w : World} {g : Nat} {T : TrieD El} (hk : TrieOk T) (h0 : 0 < T.low.length) (h : TrieAt val8 138 64 w g T) (c : Nat) (hc : c < 272) : ∃ cm cl i bm om bl ol, TopC w g T c cm cl i bm om bl ol := by
  obtain ⟨am, cm, al, cl, h1, h2, h3⟩ := h
  have ht := TrieAt.cell_top (val := val8) hk h1 c hc
  have htl : c < T.top.length := by rw [hk.top]; exact hc
  obtain ⟨i, hi⟩ : ∃ i, i = T.top.getD c 0 := ⟨_, rfl⟩
  have hil : i < T.mid.length := by
    rw [hi, getD_at (d := 0) htl]
    exact hk.topN _ (List.getElem_mem htl)
  have hml : (T.mid[i]).length = 64 := hk.mid _ (List.getElem_mem hil)
  obtain ⟨bm, om, rfl⟩ := h2.some (by omega)
  obtain ⟨bl, ol, rfl⟩ := h3.some h0
  refine ⟨cm, cl, i, bm, om, bl, ol, TrieAt.cell_mid (val := val8) hk h1, TrieAt.cell_low (val := val8) hk h1, by rw [ht, ← hi]; rfl, hil, fun j hj => ?_⟩
  have hmj : j < (T.mid[i]).length := by rw [hml]; exact hj
  have hjl : (T.mid[i]).getD j 0 < T.low.length := by
    rw [getD_at (d := 0) hmj]
    exact hk.midN _ (List.getElem_mem hil) _ (List.getElem_mem hmj)
  refine ⟨(T.mid[i]).getD j 0, ?_, hjl, ?_⟩
  · rw [h2.cell num16_cells i hil j hmj, getD_at (d := 0) hmj]
    rfl
  · have e : lowAt T (64 * c + j) = T.low[(T.mid[i]).getD j 0] := by
      unfold lowAt
      rw [show (64 * c + j) / 64 = c by omega, show (64 * c + j) % 64 = j by omega, ← hi, getD_at (d := []) hil, getD_at (d := []) hjl]
    rw [e]
    exact h3.get _ hjl

set_option maxRecDepth 100000 in
set_option maxHeartbeats 1600000 in
theorem Same_walk (w : World) (g1 g2 : Nat) (T1 T2 : TrieD El) (hk1 : TrieOk T1) (hk2 : TrieOk T2) (h01 : 0 < T1.low.length) (h02 : 0 < T2.low.length) (ht1 : TrieAt val8 138 64 w g1 T1) (ht2 : TrieAt val8 138 64 w g2 T2) :
    Calls Try.prog 25 #[.pointer (some ⟨g1, 0, none⟩), .pointer (some ⟨g2, 0, none⟩)] w fun e w' => ∃ b n, e = .returned (.bool b) ∧ w' = w.drewN n ∧ (b = true ↔ ∀ r, r ≤ 1114111 → lookT ByteArray.empty T1 r = lookT ByteArray.empty T2 r) := by
  have HTh1 := Lib.hid (there_walk w g1 T1 hk1 h01 ht1)
  have HTh2 := Lib.hid (there_walk w g2 T2 hk2 h02 ht2)
  have HC1 := Lib.hid (topC hk1 h01 ht1)
  have HC2 := Lib.hid (topC hk2 h02 ht2)
  have HS := Lib.hid (same_look hk1 hk2)
  have HL1 := Lib.hid (lowAt_length hk1)
  have HL2 := Lib.hid (lowAt_length hk2)
  have hm1 := hk1.midL
  have hm2 := hk2.midL
  have hl1 := hk1.lowL
  have hl2 := hk2.lowL
  clear ht1 ht2 hk1 hk2
  go_enter Try.func25, Try.ntmps25
  go_wp2_with fail
  refine HTh1.out.mono ?_
  rintro e w1 ⟨rfl, rfl⟩
  go_wp2_with fail
  refine HTh2.out.mono ?_
  rintro e w1 ⟨rfl, rfl⟩
  go_wp2
  go_loopw [17] (SaO w T1 T2) (fun i _ => 272 - (intOf i).toNat)
  case atStart => exact ⟨0, Nat.zero_le _, rfl, fun k hk => by omega, 0, rfl⟩
  case round =>
    obtain ⟨c, hc, rfl, hsame, q, rfl⟩ := hrel
    have HSm := Lib.hid hsame; clear hsame
    by_cases hcn : c < 272
    · have hci : (c : Int) < 272 := by omega
      obtain ⟨cm1, cl1, i1, bm1, om1, bl1, ol1, hc1⟩ := HC1.out c hcn
      obtain ⟨cm2, cl2, i2, bm2, om2, bl2, ol2, hc2⟩ := HC2.out c hcn
      have p1 : w.cell? ⟨g1, 272, none⟩ = _ := hc1.mid
      have p2 : w.cell? ⟨g1, c, none⟩ = _ := hc1.top
      have p3 : w.cell? ⟨g2, 272, none⟩ = _ := hc2.mid
      have p4 : w.cell? ⟨g2, c, none⟩ = _ := hc2.top
      have i1l := hc1.il
      have i2l := hc2.il
      have H1 := Lib.hid hc1; clear hc1
      have H2 := Lib.hid hc2; clear hc2
      generalize hnm1 : T1.mid.length = nm1 at *
      generalize hnm2 : T2.mid.length = nm2 at *
      have HN := Lib.hid (And.intro hnm1 hnm2)
      clear hnm1 hnm2
      have g1' : (0 : Int) ≤ (i1 : Int) := by omega
      have g2' : (i1 : Int) < (nm1 : Int) := by omega
      have g3' : (0 : Int) ≤ (i2 : Int) := by omega
      have g4' : (i2 : Int) < (nm2 : Int) := by omega
      have g5' : (0 : Int) ≤ (c : Int) := by omega
      go_wp2
      go_quiet (fail)
      clear p1 p2 p3 p4
      go_wp2
      go_loopw [42] (SaI w T1 T2 c) (fun i _ => 64 - (intOf i).toNat)
      case atStart => exact ⟨0, Nat.zero_le _, rfl, HSm.out, q + nq, by rw [World.drewN_drewN]⟩
      case round =>
        obtain ⟨j, hj, rfl, hsame, q, rfl⟩ := hrel
        have HSm2 := Lib.hid hsame; clear hsame
        by_cases hjn : j < 64
        · have hji : (j : Int) < 64 := by omega
          obtain ⟨k1, m1, l1, r1⟩ := H1.out.m j hjn
          obtain ⟨k2, m2, l2, r2⟩ := H2.out.m j hjn
          have p1 : (w.drewN q).cell? ⟨g1, 273, none⟩ = _ := H1.out.low
          have p3 : (w.drewN q).cell? ⟨g2, 273, none⟩ = _ := H2.out.low
          have m1 : (w.drewN q).cell? ⟨bm1, om1 + i1 * 64 + j, none⟩ = _ := m1
          have m2 : (w.drewN q).cell? ⟨bm2, om2 + i2 * 64 + j, none⟩ = _ := m2
          have r1 : (w.drewN q).rangeAt bl1 (ol1 + k1 * 64) (blkC val8 (lowAt T1 (64 * c + j))) := r1
          have r2 : (w.drewN q).rangeAt bl2 (ol2 + k2 * 64) (blkC val8 (lowAt T2 (64 * c + j))) := r2
          obtain ⟨wr, hwr⟩ : ∃ wr, wr = w.drewN q := ⟨_, rfl⟩
          rw [← hwr] at p1 p3 m1 m2 r1 r2 ⊢
          have HWr := Lib.hid hwr; clear hwr
          have e1 := HL1.out (64 * c + j) (by omega)
          have e2 := HL2.out (64 * c + j) (by omega)
          obtain ⟨b1, hb1⟩ : ∃ b1, b1 = lowAt T1 (64 * c + j) := ⟨_, rfl⟩
          obtain ⟨b2, hb2⟩ : ∃ b2, b2 = lowAt T2 (64 * c + j) := ⟨_, rfl⟩
          rw [← hb1] at e1 r1
          rw [← hb2] at e2 r2
          have hs1 : (blkC val8 b1).length = 64 := by rw [blkC_length (sz := 1) (fun _ => rfl), e1]
          have hs2 : (blkC val8 b2).length = 64 := by rw [blkC_length (sz := 1) (fun _ => rfl), e2]
          have R1 := Lib.hid r1; clear r1
          have R2 := Lib.hid r2; clear r2
          have HB := Lib.hid (And.intro hb1 hb2); clear hb1 hb2
          generalize hnl1 : T1.low.length = nl1 at *
          generalize hnl2 : T2.low.length = nl2 at *
          clear hnl1 hnl2
          have g1' : (0 : Int) ≤ (k1 : Int) := by omega
          have g2' : (k1 : Int) < (nl1 : Int) := by omega
          have g3' : (0 : Int) ≤ (k2 : Int) := by omega
          have g4' : (k2 : Int) < (nl2 : Int) := by omega
          have g5' : (0 : Int) ≤ (j : Int) := by omega
          go_upto_region 10 with (fail)
          refine wp_region_still_lit (by kernel_rfl) (by kernel_rfl) ?_
          iterate 10 still_step
          refine wpStill_load rfl 122 (.tmp 54) rfl bl1 (ol1 + k1 * 64) rfl (blkC val8 b1) _ (show (wr.drew).rangeAt bl1 (ol1 + k1 * 64) (blkC val8 b1) from R1.out) Try.underlying122 rfl (by rw [hs1]; kernel_rfl) ?_
          iterate 10 still_step
          refine wpStill_load rfl 122 (.tmp 65) rfl bl2 (ol2 + k2 * 64) rfl (blkC val8 b2) _ (show (wr.drew).rangeAt bl2 (ol2 + k2 * 64) (blkC val8 b2) from R2.out) Try.underlying122 rfl (by rw [hs2]; kernel_rfl) ?_
          refine wpStill_bin rfl .neq 122 (.tmp 55) (.tmp 66) _ rfl (.agg (blkC val8 b1).toArray) (.agg (blkC val8 b2).toArray) _ rfl rfl (eqg_low _ _ _ _ _) (neq_low b1 b2 e1 e2 _) ?_
          refine wpStill_nil ?_
          clear p1 p3 m1 m2
          by_cases hbb : b1 = b2
          · have hd : decide (b1 = b2) = true := decide_eq_true hbb
            rw [hd]
            have HSm3 : Hid (∀ k, k < 64 * c + (j + 1) → lowAt T1 k = lowAt T2 k) := Lib.hid (fun k hk => by
              by_cases e : k = 64 * c + j
              · rw [e, ← HB.out.1, ← HB.out.2, hbb]
              · exact HSm2.out k (by omega))
            clear hbb hd
            go_wp2
            go_roundw
            case rel => exact ⟨j + 1, by omega, by go_num, HSm3.out, q + 1, by rw [HWr.out]; rfl⟩
            case measure => simp [intOf]; omega
          · have hd : decide (b1 = b2) = false := decide_eq_false hbb
            rw [hd]
            have HNe : Hid (¬ ∀ r, r ≤ 1114111 → lookT ByteArray.empty T1 r = lookT ByteArray.empty T2 r) := Lib.hid (fun h => hbb (by rw [HB.out.1, HB.out.2]; exact HS.out.2 h _ (by omega)))
            clear hbb hd
            go_wp2
            go_ret
            exact ⟨false, q + 1, rfl, by rw [HWr.out]; rfl, fun h => absurd h (by simp), fun h => absurd h HNe.out⟩
        · obtain rfl : j = 64 := by omega
          have HSm3 : Hid (∀ k, k < 64 * (c + 1) → lowAt T1 k = lowAt T2 k) := Lib.hid HSm2.out
          go_wp2
          go_roundw
          case rel => exact ⟨c + 1, by omega, by go_num, HSm3.out, q, rfl⟩
          case measure => simp [intOf]; omega
    · obtain rfl : c = 272 := by omega
      have HSe := Lib.hid (HS.out.1 HSm.out)
      go_wp2
      go_ret
      exact ⟨true, q, rfl, rfl, fun _ => HSe.out, fun _ => rfl⟩
end Go.Proofs.Ytabbabkmojaoaaa.VS
