/-
  Walks: lists of pieces compared.
-/
import Derived.Test.YtkcdcgijbaepmaaW6
set_option linter.unusedVariables false
set_option linter.unusedSimpArgs false
namespace Go.Proofs.Ytkcdcgijbaepmaa
open Go.RowKit

theorem part_plain {P : Program} (w : World) (t : TypeId) (xs : Array Value) (i : Nat) (v : Value) (k : IntKind) (hu : P.underlying t = some (.int k)) (hx : xs[i]? = some v) : (part t xs i).run P w = .ok v w := by
  simp [part, isAgg, run_underlying hu, hx]
theorem piece_fields : (Try.prog.fieldsOf 45).toList.map (fun f => (f.name, f.type, f.offset)) = [("From", 3, 0), ("To", 3, 1)] := by kernel_rfl
theorem eqF_piece (w : World) (a b c d : Int) : ∀ fs : List Field, fs.map (fun f => (f.name, f.type, f.offset)) = [("From", 3, 0), ("To", 3, 1)] →
    (Op.eqFields 9999 #[.int .i64 a, .int .i64 b] #[.int .i64 c, .int .i64 d] fs).run Try.prog w = .ok (a == c && b == d) w
  | [f0, f1], h => by
    simp only [List.map_cons, List.map_nil, List.cons.injEq, Prod.mk.injEq, and_true] at h
    obtain ⟨⟨n0, t0, o0⟩, n1, t1, o1⟩ := h
    have p0 := part_plain (P := Try.prog) w 3 #[.int .i64 a, .int .i64 b] 0 (.int .i64 a) .i64 Try.underlying3 rfl
    have p1 := part_plain (P := Try.prog) w 3 #[.int .i64 a, .int .i64 b] 1 (.int .i64 b) .i64 Try.underlying3 rfl
    have r0 := part_plain (P := Try.prog) w 3 #[.int .i64 c, .int .i64 d] 0 (.int .i64 c) .i64 Try.underlying3 rfl
    have r1 := part_plain (P := Try.prog) w 3 #[.int .i64 c, .int .i64 d] 1 (.int .i64 d) .i64 Try.underlying3 rfl
    have e0 := run_equalIn_int (P := Try.prog) w 9998 3 .i64 .i64 a c Try.underlying3
    have e1 := run_equalIn_int (P := Try.prog) w 9998 3 .i64 .i64 b d Try.underlying3
    by_cases h0 : a = c
    · subst h0
      by_cases h1 : b = d
      · subst h1
        simp [Op.eqFields, Sem.run_bind, Sem.run_pure, Result.andThen, n0, t0, o0, n1, t1, o1, p0, p1, r0, r1, e0, e1]
      · simp [Op.eqFields, Sem.run_bind, Sem.run_pure, Result.andThen, n0, t0, o0, n1, t1, o1, p0, p1, r0, r1, e0, e1, h1]
    · simp [Op.eqFields, Sem.run_bind, Sem.run_pure, Result.andThen, n0, t0, o0, n1, t1, o1, p0, p1, r0, r1, e0, e1, h0]
  | [], h => by simp at h
  | [_], h => by simp at h
  | _ :: _ :: _ :: _, h => by simp at h
theorem neq_piece (a b c d : Int) (w : World) : (binOp .neq 45 (.agg #[.int .i64 a, .int .i64 b]) (.agg #[.int .i64 c, .int .i64 d])).run Try.prog w = .ok (.bool (!(a == c && b == d))) w := by
  rw [run_neq_struct, run_equalIn_agg w 9999 45 _ _ (by kernel_rfl) (by kernel_rfl), eqF_piece w a b c d _ piece_fields]
  rfl
theorem eqg_piece (xs ys : Array Value) (x y : Operand) (w : World) : (eqGuard .neq 45 x y (.agg xs) (.agg ys)).run Try.prog w = .ok () w := run_eqGuard_agg w .neq 45 x y xs ys (by kernel_rfl)
theorem piece_ext {p q : PD} (h1 : p.f = q.f) (h2 : p.t = q.t) : p = q := by cases p; cases q; simp_all
theorem same_take {ps qs : List PD} {k : Nat} (h : ps.take k = qs.take k) (hp : k < ps.length) (hq : k < qs.length) (e : ps[k] = qs[k]) : ps.take (k + 1) = qs.take (k + 1) := by
  rw [List.take_succ_eq_append_getElem hp, List.take_succ_eq_append_getElem hq, h, e]
def SameR (w : World) (n : Nat) (ps qs : List PD) (i : Value) (wr : World) : Prop := ∃ k : Nat, k ≤ n ∧ i = .int .i64 k ∧ ps.take k = qs.take k ∧ Below w.heap.size w wr

set_option maxHeartbeats 1000000 in
theorem Same_walk (a : Option Addr) (n c : Nat) (ps : List PD) (a2 : Option Addr) (n2 c2 : Nat) (qs : List PD) (w : World) (hn : ps.length = n) (hn2 : qs.length = n2) (hlt : n ≤ 1048576) (hc : PiecesAt w a ps) (hc2 : PiecesAt w a2 qs) :
    Calls Try.prog 21 #[.slice a n c, .slice a2 n2 c2] w fun e w' => e = .returned (.bool (decide (ps = qs))) ∧ Below w.heap.size w w' := by
  have HN := Lib.hid hn; clear hn
  have HN2 := Lib.hid hn2; clear hn2
  have HC := Lib.hid hc; clear hc
  have HC2 := Lib.hid hc2; clear hc2
  by_cases hl : n = n2
  · subst hl
    have hnn : ((n : Int) != (n : Int)) = false := by simp
    have q1 := neq_piece
    have q2 := eqg_piece
    go_enter Try.func21, Try.ntmps21
    go_wp2
    go_loopw [5] (SameR w n ps qs) (fun i _ => n - (intOf i).toNat)
    case atStart => exact ⟨0, Nat.zero_le _, rfl, rfl, Below.refl _ _⟩
    case round =>
      obtain ⟨k, hk, rfl, htk, hbel⟩ := hrel
      have HT := Lib.hid htk; clear htk
      have HB := Lib.hid hbel; clear hbel
      by_cases hkn : k < n
      · have hk1 : k < ps.length := by rw [HN.out]; exact hkn
        have hk2 : k < qs.length := by rw [HN2.out]; exact hkn
        obtain ⟨b, o, ha⟩ := HC.out.some (by omega)
        subst ha
        obtain ⟨b2, o2, ha⟩ := HC2.out.some (by omega)
        subst ha
        obtain ⟨u0, u1⟩ := (HC.out.below HB.out (Nat.le_refl _)).get k hk1
        obtain ⟨v0, v1⟩ := (HC2.out.below HB.out (Nat.le_refl _)).get k hk2
        have HS := Lib.hid (fun e => same_take HT.out hk1 hk2 e)
        have HD : Hid (ps[k] ≠ qs[k] → ps ≠ qs) := Lib.hid (fun h e => h (by subst e; rfl))
        generalize ps[k] = p at *
        generalize qs[k] = q at *
        have hki : (k : Int) < (n : Int) := by omega
        by_cases he : p.f = q.f ∧ p.t = q.t
        · have HE := Lib.hid (HS.out (piece_ext he.1 he.2))
          rw [he.1] at u0
          rw [he.2] at u1
          have hb1 : (q.f == q.f) = true := by simp
          have hb2 : (q.t == q.t) = true := by simp
          clear he
          go_wp2
          go_quiet (fail)
          have HBd := Lib.hid (below_drewN HB.out nq)
          go_wp2
          go_roundw
          case rel => exact ⟨k + 1, by omega, by go_num, HE.out, HBd.out⟩
          case measure => simp [intOf]; omega
        · have HR := Lib.hid (decide_eq_false (HD.out (fun e => he (by rw [e]; exact ⟨rfl, rfl⟩))))
          have hbb : (p.f == q.f && p.t == q.t) = false := by
            rw [Bool.and_eq_false_iff]
            by_cases h1 : p.f = q.f
            · exact .inr (by simpa using fun h2 => he ⟨h1, h2⟩)
            · exact .inl (by simpa using h1)
          have HBB := Lib.hid hbb
          clear he
          go_wp2
          go_quiet (fail)
          have HBd := Lib.hid (below_drewN HB.out nq)
          go_wp2
          go_ret
          exact ⟨by rw [HR.out]; rfl, HBd.out⟩
      · have HR : Hid (decide (ps = qs) = true) := Lib.hid (decide_eq_true (by
          have := HT.out
          rwa [List.take_of_length_le (by have := HN.out; omega), List.take_of_length_le (by have := HN2.out; omega)] at this))
        go_wp2
        go_ret
        exact ⟨by rw [HR.out]; rfl, HB.out⟩
  · have hnn : ((n : Int) != (n2 : Int)) = true := by simpa using fun h => hl (by omega)
    have HR : Hid (decide (ps = qs) = false) := Lib.hid (decide_eq_false (fun e => hl (by rw [← HN.out, ← HN2.out, e])))
    go_enter Try.func21, Try.ntmps21
    go_wp2
    go_ret
    exact ⟨by rw [HR.out]; rfl, Below.refl _ _⟩

set_option maxHeartbeats 1000000 in
theorem same_walk (a : Option Addr) (n c : Nat) (ps : List PD) (a2 : Option Addr) (n2 c2 : Nat) (qs : List PD) (w : World) (hn : ps.length = n) (hn2 : qs.length = n2) (hlt : n ≤ 1048576) (hc : PiecesAt w a ps) (hc2 : PiecesAt w a2 qs) :
    Calls Try.prog 28 #[.slice a n c, .slice a2 n2 c2] w fun e w' => e = .returned (.bool (decide (ps = qs))) ∧ Below w.heap.size w w' := by
  have HN := Lib.hid hn; clear hn
  have HN2 := Lib.hid hn2; clear hn2
  have HC := Lib.hid hc; clear hc
  have HC2 := Lib.hid hc2; clear hc2
  by_cases hl : n = n2
  · subst hl
    have hnn : ((n : Int) != (n : Int)) = false := by simp
    have q1 := neq_piece
    have q2 := eqg_piece
    go_enter Try.func28, Try.ntmps28
    go_wp2
    go_loopw [5] (SameR w n ps qs) (fun i _ => n - (intOf i).toNat)
    case atStart => exact ⟨0, Nat.zero_le _, rfl, rfl, Below.refl _ _⟩
    case round =>
      obtain ⟨k, hk, rfl, htk, hbel⟩ := hrel
      have HT := Lib.hid htk; clear htk
      have HB := Lib.hid hbel; clear hbel
      by_cases hkn : k < n
      · have hk1 : k < ps.length := by rw [HN.out]; exact hkn
        have hk2 : k < qs.length := by rw [HN2.out]; exact hkn
        obtain ⟨b, o, ha⟩ := HC.out.some (by omega)
        subst ha
        obtain ⟨b2, o2, ha⟩ := HC2.out.some (by omega)
        subst ha
        obtain ⟨u0, u1⟩ := (HC.out.below HB.out (Nat.le_refl _)).get k hk1
        obtain ⟨v0, v1⟩ := (HC2.out.below HB.out (Nat.le_refl _)).get k hk2
        have HS := Lib.hid (fun e => same_take HT.out hk1 hk2 e)
        have HD : Hid (ps[k] ≠ qs[k] → ps ≠ qs) := Lib.hid (fun h e => h (by subst e; rfl))
        generalize ps[k] = p at *
        generalize qs[k] = q at *
        have hki : (k : Int) < (n : Int) := by omega
        by_cases he : p.f = q.f ∧ p.t = q.t
        · have HE := Lib.hid (HS.out (piece_ext he.1 he.2))
          rw [he.1] at u0
          rw [he.2] at u1
          have hb1 : (q.f == q.f) = true := by simp
          have hb2 : (q.t == q.t) = true := by simp
          clear he
          go_wp2
          go_quiet (fail)
          have HBd := Lib.hid (below_drewN HB.out nq)
          go_wp2
          go_roundw
          case rel => exact ⟨k + 1, by omega, by go_num, HE.out, HBd.out⟩
          case measure => simp [intOf]; omega
        · have HR := Lib.hid (decide_eq_false (HD.out (fun e => he (by rw [e]; exact ⟨rfl, rfl⟩))))
          have hbb : (p.f == q.f && p.t == q.t) = false := by
            rw [Bool.and_eq_false_iff]
            by_cases h1 : p.f = q.f
            · exact .inr (by simpa using fun h2 => he ⟨h1, h2⟩)
            · exact .inl (by simpa using h1)
          have HBB := Lib.hid hbb
          clear he
          go_wp2
          go_quiet (fail)
          have HBd := Lib.hid (below_drewN HB.out nq)
          go_wp2
          go_ret
          exact ⟨by rw [HR.out]; rfl, HBd.out⟩
      · have HR : Hid (decide (ps = qs) = true) := Lib.hid (decide_eq_true (by
          have := HT.out
          rwa [List.take_of_length_le (by have := HN.out; omega), List.take_of_length_le (by have := HN2.out; omega)] at this))
        go_wp2
        go_ret
        exact ⟨by rw [HR.out]; rfl, HB.out⟩
  · have hnn : ((n : Int) != (n2 : Int)) = true := by simpa using fun h => hl (by omega)
    have HR : Hid (decide (ps = qs) = false) := Lib.hid (decide_eq_false (fun e => hl (by rw [← HN.out, ← HN2.out, e])))
    go_enter Try.func28, Try.ntmps28
    go_wp2
    go_ret
    exact ⟨by rw [HR.out]; rfl, Below.refl _ _⟩
end Go.Proofs.Ytkcdcgijbaepmaa
