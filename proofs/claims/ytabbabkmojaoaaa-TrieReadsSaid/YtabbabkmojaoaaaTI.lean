/-
  The plain look through spans (naive).
-/
import Derived.Test.YtabbabkmojaoaaaTK
set_option linter.unusedVariables false
set_option linter.unusedSimpArgs false
namespace Go.Proofs.Ytabbabkmojaoaaa
open Go.RowKit

theorem ownF_hit {l : List SpanD} {x : Int} {k : Nat} (hk : k < l.length) (h : hasS x l[k] = true) (hno : ∀ j (hj : j < k), ¬ hasS x (l[j]'(by omega)) = true) : ownF l x = (k : Int) + 1 := by
  have e : l.findIdx? (hasS x) = some k := by
    rw [List.findIdx?_eq_some_iff_getElem]
    exact ⟨hk, h, fun j hj => by have := hno j hj; simpa using this⟩
  unfold ownF
  rw [e]
theorem ownF_none {l : List SpanD} {x : Int} (hno : ∀ j (hj : j < l.length), ¬ hasS x l[j] = true) : ownF l x = 0 := by
  have e : l.findIdx? (hasS x) = none := by
    rw [List.findIdx?_eq_none_iff]
    intro s hs
    obtain ⟨j, hj, rfl⟩ := List.mem_iff_getElem.1 hs
    have := hno j hj
    simpa using this
  unfold ownF
  rw [e]
theorem fS_hit {rest : Int} {l : List SpanD} {r k : Nat} (hk : k < l.length) (h : hasS (r : Nat) l[k] = true) (hno : ∀ j (hj : j < k), ¬ hasS (r : Nat) (l[j]'(by omega)) = true) : fS rest l r = l[k].v := by
  unfold fS
  rw [ownF_hit hk h hno, if_neg (by omega), show ((k : Int) + 1 - 1).toNat = k by omega]
  simp [hk]
theorem fS_none {rest : Int} {l : List SpanD} {r : Nat} (hno : ∀ j (hj : j < l.length), ¬ hasS (r : Nat) l[j] = true) : fS rest l r = rest := by
  unfold fS
  rw [ownF_none hno, if_pos rfl]
def NaR (w : World) (l : List SpanD) (n r : Nat) (i : Value) (wr : World) : Prop :=
  ∃ k : Nat, k ≤ n ∧ i = .int .i64 (k : Nat) ∧ wr = w ∧ ∀ j (hj : j < l.length), j < k → ¬ hasS (r : Nat) l[j] = true

set_option maxRecDepth 100000 in
theorem naive_walk (rest : Int) (a : Option Addr) (n c : Nat) (l : List SpanD) (w : World) (hl : l.length = n) (hn : n ≤ 1048576) (hs : SpansAt w a l) (r : Nat) (hr : r ≤ 1114111) :
    Calls Try.prog 17 #[.int .u8 rest, .slice a n c, .int .i32 (r : Nat)] w fun e w' => e = .returned (.int .u8 (fS rest l r)) ∧ w' = w := by
  have HL := Lib.hid hl; clear hl
  have HS := Lib.hid hs; clear hs
  have n1 : ¬ (r : Int) < 0 := by omega
  have n2 : ¬ (1114111 : Int) < (r : Int) := by omega
  have d1 : decide ((r : Int) < 0) = false := decide_eq_false n1
  have d2 : decide ((1114111 : Int) < (r : Int)) = false := decide_eq_false n2
  go_enter Try.func17, Try.ntmps17
  go_wp2
  go_loopw [7] (NaR w l n r) (fun i _ => n - (intOf i).toNat)
  case atStart => exact ⟨0, Nat.zero_le _, rfl, rfl, fun j hj h => by omega⟩
  case round =>
    obtain ⟨k, hk, rfl, rfl, hno⟩ := hrel
    have HNo := Lib.hid hno; clear hno
    by_cases hkn : k < n
    · have hki : (k : Int) < (n : Int) := by omega
      have hkl : k < l.length := by rw [HL.out]; exact hkn
      obtain ⟨b, o, ha⟩ := HS.out.some (by omega)
      subst ha
      obtain ⟨k1, k2, k3⟩ := HS.out.get k hkl
      have HIn := Lib.hid (show ∀ rest, hasS (r : Nat) l[k] = true → fS rest l r = l[k].v from fun rest h => fS_hit hkl h (fun j hj => HNo.out j (by omega) hj))
      have HNx := Lib.hid (show ¬ hasS (r : Nat) l[k] = true → ∀ j (hj : j < l.length), j < k + 1 → ¬ hasS (r : Nat) l[j] = true from fun h j hj hj2 => by
        by_cases e : j = k
        · subst e; exact h
        · exact HNo.out j hj (by omega))
      have HHas : Hid (hasS (r : Nat) l[k] = decide (l[k].f ≤ (r : Int) ∧ (r : Int) ≤ l[k].t)) := Lib.hid rfl
      generalize l[k] = s at *
      by_cases h1 : s.f ≤ (r : Int)
      · have e1 : decide (s.f ≤ (r : Int)) = true := decide_eq_true h1
        by_cases h2 : (r : Int) ≤ s.t
        · have e2 : decide ((r : Int) ≤ s.t) = true := decide_eq_true h2
          have HF := Lib.hid (HIn.out rest (by rw [HHas.out]; exact decide_eq_true ⟨h1, h2⟩))
          go_wp2
          go_ret
          exact ⟨by rw [HF.out]; rfl, rfl⟩
        · have e2 : decide ((r : Int) ≤ s.t) = false := decide_eq_false h2
          have HF := Lib.hid (HNx.out (by rw [HHas.out]; simp; intro _; omega))
          go_wp2
          go_roundw
          case rel => exact ⟨k + 1, by omega, by go_num, rfl, HF.out⟩
          case measure => simp [intOf]; omega
      · have e1 : decide (s.f ≤ (r : Int)) = false := decide_eq_false h1
        have HF := Lib.hid (HNx.out (by rw [HHas.out]; simp; intro _; omega))
        go_wp2
        go_roundw
        case rel => exact ⟨k + 1, by omega, by go_num, rfl, HF.out⟩
        case measure => simp [intOf]; omega
    · obtain rfl : k = n := by omega
      have hki : ¬ (k : Int) < (k : Int) := by omega
      have HF := Lib.hid (fS_none (rest := rest) (l := l) (r := r) (fun j hj => HNo.out j hj (by rw [← HL.out]; exact hj)))
      go_wp2
      go_ret
      exact ⟨by rw [HF.out]; rfl, rfl⟩
end Go.Proofs.Ytabbabkmojaoaaa
