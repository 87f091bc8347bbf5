/-
  The walk of 'numbers'.
-/
import Derived.Test.YtabbabkmojaoaaaTC
set_option linter.unusedVariables false
set_option linter.unusedSimpArgs false
namespace Go.Proofs.Ytabbabkmojaoaaa
open Go.RowKit

/-- 'numbers', by definition: the next new number, or none -/
def numsF (many : Nat) (ag : Nat → Bool) : List Nat → Nat → Option Nat
  | [], n => some n
  | x :: l, n => if x = n ∧ n < many then numsF many ag l (n + 1) else if n ≤ x ∨ ag x = false then none else numsF many ag l n
theorem numsF_take (many : Nat) (ag : Nat → Bool) : ∀ (l : List Nat) (n k : Nat) (m : Nat) (hk : k < l.length), numsF many ag (l.take k) n = some m → numsF many ag (l.take (k + 1)) n = numsF many ag [l[k]] m
  | x :: l, n, 0, m, hk, h => by
    simp only [List.take_zero, numsF, Option.some.injEq] at h
    subst h
    simp
  | x :: l, n, k + 1, m, hk, h => by
    rw [List.take_succ_cons, numsF] at h
    rw [List.take_succ_cons, numsF]
    split at h
    · rw [if_pos (by assumption)]
      exact numsF_take many ag l (n + 1) k m (by simpa using hk) h
    · rw [if_neg (by assumption)]
      split at h
      · cases h
      · rw [if_neg (by assumption)]
        exact numsF_take many ag l n k m (by simpa using hk) h
theorem numsF_none (many : Nat) (ag : Nat → Bool) : ∀ (l : List Nat) (n k : Nat), numsF many ag (l.take k) n = none → numsF many ag l n = none
  | [], n, k, h => by simp at h; simpa using h
  | x :: l, n, 0, h => by simp [numsF] at h
  | x :: l, n, k + 1, h => by
    rw [List.take_succ_cons, numsF] at h
    rw [numsF]
    split at h
    · rw [if_pos (by assumption)]
      exact numsF_none many ag l (n + 1) k h
    · rw [if_neg (by assumption)]
      split at h
      · rw [if_pos (by assumption)]
      · rw [if_neg (by assumption)]
        exact numsF_none many ag l n k h
theorem numsF_le {many : Nat} {ag : Nat → Bool} : ∀ {l : List Nat} {n m : Nat}, n ≤ many → numsF many ag l n = some m → m ≤ many ∧ n ≤ m ∧ m ≤ n + l.length
  | [], n, m, hn, h => by simp only [numsF, Option.some.injEq] at h; subst h; exact ⟨hn, Nat.le_refl _, Nat.le_refl _⟩
  | x :: l, n, m, hn, h => by
    rw [numsF] at h
    split at h
    · rename_i hc
      have := numsF_le (by omega) h
      simp only [List.length_cons]
      omega
    · split at h
      · cases h
      · have := numsF_le hn h
        simp only [List.length_cons]
        omega
/-- the row of numbers -/
def NumsAt (w : World) (a : Option Addr) (zs : List Nat) : Prop := ∀ i (h : i < zs.length), ∃ b o, a = some ⟨b, o, none⟩ ∧ w.cell? ⟨b, o + i, none⟩ = some (num16 zs[i])
theorem NumsAt.below {w w' : World} {a : Option Addr} {zs : List Nat} (h : NumsAt w a zs) (hb : Below w.heap.size w w') : NumsAt w' a zs := fun i hi => by
  obtain ⟨b, o, e, hc⟩ := h i hi
  exact ⟨b, o, e, (hb.cell (p := ⟨b, o + i, none⟩) (World.block_lt_of_cell? w _ hc)).trans hc⟩
def NuR (w : World) (zs : List Nat) (many : Nat) (ag : Nat → Bool) (i nx : Value) (wr : World) : Prop :=
  ∃ k m : Nat, k ≤ zs.length ∧ i = .int .i64 (k : Nat) ∧ nx = .int .i64 (m : Nat) ∧ numsF many ag (zs.take k) 0 = some m ∧ Below w.heap.size w wr
theorem decide_lt {a b : Nat} (h : a < b) : decide ((a : Int) < (b : Int)) = true := decide_eq_true (by omega)

set_option maxRecDepth 100000 in
set_option maxHeartbeats 1600000 in
theorem numbers_walk (w : World) (a : Option Addr) (n c : Nat) (zs : List Nat) (many : Nat) (ag : Nat → Bool) (cf : Nat) (lb : Array Value) (hn : zs.length = n) (hn2 : n ≤ 1048576) (hm2 : many ≤ 1048576) (hz : ∀ z ∈ zs, z < 65536) (h : NumsAt w a zs) (eg : ∀ args W, (callFunc cf args).run Try.prog W = .ok (.enter cf args) W)
    (hcall : ∀ (x : Nat) W, x < many → x ∈ zs → Below w.heap.size w W → Calls Try.prog cf (#[.int .u16 (x : Nat)] ++ lb) W fun e W' => e = .returned (.bool (ag x)) ∧ Below W.heap.size W W') :
    Calls Try.prog 96 #[.slice a n c, .int .i64 (many : Nat), .func (.func cf) #[] lb] w fun e w' => e = .returned (.bool (decide (numsF many ag zs 0 = some many))) ∧ Below w.heap.size w w' := by
  have HN := Lib.hid hn; clear hn
  have HZ := Lib.hid hz; clear hz
  have HA := Lib.hid h; clear h
  have HEg := Lib.hid eg; clear eg
  have HCl := Lib.hid hcall; clear hcall
  go_enter Try.func96, Try.ntmps96
  go_wp2
  go_loopw [12, 7] (NuR w zs many ag) (fun i _ _ => n - (intOf i).toNat)
  case atStart => exact ⟨0, 0, Nat.zero_le _, rfl, rfl, rfl, Below.refl _ _⟩
  case round =>
    obtain ⟨k, m, hk, rfl, rfl, hs, hb⟩ := hrel
    have HS := Lib.hid hs; clear hs
    have HB := Lib.hid hb; clear hb
    have hmm : m ≤ many := (numsF_le (Nat.zero_le _) HS.out).1
    by_cases hkn : k < n
    · have hki : (k : Int) < (n : Int) := by omega
      have hkl : k < zs.length := by rw [HN.out]; exact hkn
      have HNx := Lib.hid (numsF_take many ag zs 0 k m hkl HS.out)
      have HNo := Lib.hid (numsF_none many ag zs 0 (k + 1))
      obtain ⟨b, o, ha, hc⟩ := (HA.out.below HB.out) k hkl
      subst ha
      have hx := HZ.out _ (List.getElem_mem hkl)
      have HMem : Hid (zs[k] ∈ zs) := Lib.hid (List.getElem_mem hkl)
      generalize zs[k] = x at *
      unfold num16 at hc
      have hx2 : (x : Int) < 65536 := by omega
      by_cases h1 : x = m ∧ m < many
      · obtain ⟨rfl, h2⟩ := h1
        have h2i : (x : Int) < (many : Int) := by omega
        have d2 : decide ((x : Int) < (many : Int)) = true := decide_eq_true h2i
        have hnx : numsF many ag (zs.take (k + 1)) 0 = some (x + 1) := by rw [HNx.out, numsF, if_pos ⟨rfl, h2⟩]; rfl
        have HS2 := Lib.hid hnx; clear hnx
        go_wp2
        go_roundw
        case rel => exact ⟨k + 1, x + 1, by omega, by go_num, by go_num, HS2.out, HB.out⟩
        case measure => simp [intOf]; omega
      · have hf : ((x : Int) == (m : Int)) = true → decide ((m : Int) < (many : Int)) = false := fun e => decide_eq_false (by
          have := beq_iff_eq.1 e
          intro h; exact h1 ⟨by omega, by omega⟩)
        by_cases h3 : m ≤ x
        · have h3i : (m : Int) ≤ (x : Int) := by omega
          have d3 : decide ((m : Int) ≤ (x : Int)) = true := decide_eq_true h3i
          have hnx : numsF many ag zs 0 = none := HNo.out (by rw [HNx.out, numsF, if_neg h1, if_pos (.inl h3)])
          have HS2 : Hid (decide (numsF many ag zs 0 = some many) = false) := Lib.hid (decide_eq_false (by rw [hnx]; exact fun h => by cases h))
          clear hnx
          cases hq : ((x : Int) == (m : Int))
          · clear hf
            go_wp2
            go_ret
            exact ⟨by rw [HS2.out]; rfl, HB.out⟩
          · have h4 := hf hq
            have h5 : ¬ (m : Int) < (many : Int) := of_decide_eq_false h4
            clear hf
            go_wp2
            go_ret
            exact ⟨by rw [HS2.out]; rfl, HB.out⟩
        · have h3i : ¬ (m : Int) ≤ (x : Int) := by omega
          have d3 : decide ((m : Int) ≤ (x : Int)) = false := decide_eq_false h3i
          have hq : ((x : Int) == (m : Int)) = false := beq_false_of_ne (by omega)
          clear hf
          have heg := HEg.out
          go_wp2_with fail
          refine (HCl.out x wr (by omega) HMem.out HB.out).mono ?_
          rintro e w1 ⟨rfl, hb1⟩
          have HB1 := Lib.hid (HB.out.trans (hb1.mono HB.out.size)); clear hb1
          cases hag : ag x
          · have hnx : numsF many ag zs 0 = none := HNo.out (by rw [HNx.out, numsF, if_neg h1, if_pos (.inr hag)])
            have HS2 : Hid (decide (numsF many ag zs 0 = some many) = false) := Lib.hid (decide_eq_false (by rw [hnx]; exact fun h => by cases h))
            clear hnx
            go_wp2
            go_ret
            exact ⟨by rw [HS2.out]; rfl, HB1.out⟩
          · have hnx : numsF many ag (zs.take (k + 1)) 0 = some m := by rw [HNx.out, numsF, if_neg h1, if_neg (by rw [hag]; simp; omega)]; rfl
            have HS2 := Lib.hid hnx; clear hnx
            go_wp2
            go_roundw
            case rel => exact ⟨k + 1, m, by omega, by go_num, rfl, HS2.out, HB1.out⟩
            case measure => simp [intOf]; omega
    · obtain rfl : k = n := by have := HN.out; omega
      have hki : ¬ (k : Int) < (k : Int) := by omega
      have hS := HS.out
      rw [List.take_of_length_le (by rw [HN.out]; exact Nat.le_refl _)] at hS
      have HD : Hid (decide (numsF many ag zs 0 = some many) = ((m : Int) == (many : Int))) := Lib.hid (by
        rw [hS]
        by_cases e : m = many
        · subst e; simp
        · have : ¬ (m : Int) = (many : Int) := by omega
          simp [e, this])
      clear hS
      go_wp2
      go_ret
      exact ⟨by rw [HD.out]; rfl, HB.out⟩
end Go.Proofs.Ytabbabkmojaoaaa
