/-
  The walk of the document's test of an order.
-/
import Derived.Test.YtkcdcgijbaepmaaW12
set_option linter.unusedVariables false
namespace Go.Proofs.Ytkcdcgijbaepmaa
open Go.RowKit

def OrdP (os : List Int) : Prop := (∀ x ∈ os, 0 ≤ x ∧ x ≤ 1048576) ∧ os.Nodup
instance (os : List Int) : Decidable (OrdP os) := by unfold OrdP; infer_instance
def orderB (os : List Int) : Bool := decide (OrdP os)
theorem ord_nil (os : List Int) : OrdP (os.take 0) := ⟨fun x hx => by simp at hx, by simp⟩
theorem ord_step {os : List Int} {k : Nat} (h : OrdP (os.take k)) (hk : k < os.length) (h0 : 0 ≤ os[k]) (h1 : os[k] ≤ 1048576) (hn : ∀ j, (hj : j < k) → (hl : j < os.length) → os[j] ≠ os[k]) : OrdP (os.take (k + 1)) := by
  rw [List.take_succ_eq_append_getElem hk]
  refine ⟨fun x hx => ?_, ?_⟩
  · rcases List.mem_append.1 hx with hx | hx
    · exact h.1 x hx
    · rw [List.mem_singleton.1 hx]; exact ⟨h0, h1⟩
  · rw [List.nodup_append]
    refine ⟨h.2, by simp, fun x hx y hy => ?_⟩
    rw [List.mem_singleton.1 hy]
    obtain ⟨j, hj, rfl⟩ := List.mem_iff_getElem.1 hx
    rw [List.length_take] at hj
    rw [List.getElem_take]
    exact hn j (by omega) (by omega)
theorem ord_range {os : List Int} {k : Nat} (hk : k < os.length) (h : os[k] < 0 ∨ 1048576 < os[k]) : orderB os = false := decide_eq_false (fun hp => by
  have := hp.1 _ (List.getElem_mem hk)
  omega)
theorem ord_twice {os : List Int} {j k : Nat} (hj : j < k) (hk : k < os.length) (h : (os[j]'(by omega)) = os[k]) : orderB os = false := decide_eq_false (fun hp => by
  have := (List.nodup_iff_pairwise_ne.1 hp.2)
  exact List.pairwise_iff_getElem.1 this j k (by omega) hk hj h)
def OrR (w : World) (n : Nat) (os : List Int) (i : Value) (wr : World) : Prop := ∃ k : Nat, k ≤ n ∧ i = .int .i64 k ∧ OrdP (os.take k) ∧ Below w.heap.size w wr
def OrS (w : World) (k : Nat) (os : List Int) (z : Int) (i : Value) (wr : World) : Prop := ∃ j : Nat, j ≤ k ∧ i = .int .i64 j ∧ (∀ q, (hq : q < j) → (hl : q < os.length) → os[q] ≠ z) ∧ Below w.heap.size w wr

set_option maxRecDepth 100000 in
set_option maxHeartbeats 2000000 in
theorem ordered_walk (a : Option Addr) (n c : Nat) (os : List Int) (w : World) (hn : os.length = n) (hlt : n ≤ 65536) (hc : Ints .i64 w a os) :
    Calls Try.prog 47 #[.slice a n c] w fun e w' => e = .returned (.bool (orderB os)) ∧ Below w.heap.size w w' := by
  have HN := Lib.hid hn; clear hn
  have HC := Lib.hid hc; clear hc
  go_enter Try.func47, Try.ntmps47
  go_wp2
  go_loopw [3] (OrR w n os) (fun i _ => n - (intOf i).toNat)
  case atStart => exact ⟨0, Nat.zero_le _, rfl, ord_nil os, Below.refl _ _⟩
  case round =>
    obtain ⟨k, hk, rfl, hord, hbel⟩ := hrel
    have HO := Lib.hid hord; clear hord
    have HB := Lib.hid hbel; clear hbel
    by_cases hkn : k < n
    · have hk1 : k < os.length := by rw [HN.out]; exact hkn
      obtain ⟨b, o, ha⟩ := HC.out.some (by omega)
      subst ha
      have cz := (HC.out.below HB.out (Nat.le_refl _)).get k hk1
      have HRg := Lib.hid (fun h => ord_range hk1 h)
      have HTw := Lib.hid (fun (j : Nat) (hj : j < k) (h : (os[j]'(by omega)) = os[k]) => ord_twice hj hk1 h)
      have HSt := Lib.hid (fun h0 h1 hnn => ord_step HO.out hk1 h0 h1 hnn)
      generalize os[k] = z at *
      have hki : (k : Int) < (n : Int) := by omega
      by_cases h0 : z < 0
      · have HR := Lib.hid (HRg.out (.inl h0))
        go_wp2
        go_ret
        exact ⟨by rw [HR.out]; rfl, HB.out⟩
      · by_cases h1 : (1048576 : Int) < z
        · have HR := Lib.hid (HRg.out (.inr h1))
          go_wp2
          go_ret
          exact ⟨by rw [HR.out]; rfl, HB.out⟩
        · have HSt2 := Lib.hid (HSt.out (by omega) (by omega))
          clear HSt HRg
          go_wp2
          go_loopw [4] (OrS w k os z) (fun i _ => k - (intOf i).toNat)
          case atStart => exact ⟨0, Nat.zero_le _, rfl, fun q hq => absurd hq (Nat.not_lt_zero _), HB.out⟩
          case round =>
            obtain ⟨j, hj, rfl, hne, hbel⟩ := hrel
            have HNe := Lib.hid hne; clear hne
            have HB2 := Lib.hid hbel; clear hbel
            by_cases hjk : j < k
            · have hj1 : j < os.length := by omega
              have cy := (HC.out.below HB2.out (Nat.le_refl _)).get j hj1
              have cz2 : wr.cell? ⟨b, o + k, none⟩ = some (.int .i64 z) := by
                have := (HC.out.below HB2.out (Nat.le_refl _)).get k hk1
                have e := cz
                have h3 := (HC.out.below HB.out (Nat.le_refl _)).get k hk1
                rw [e] at h3
                rw [this]
                exact h3.symm
              have HT2 := Lib.hid (HTw.out j hjk)
              have HNx : Hid (os[j] ≠ z → ∀ q, (hq : q < j + 1) → (hl : q < os.length) → os[q] ≠ z) := Lib.hid (fun hd q hq hl => by
                by_cases e : q = j
                · subst e; exact hd
                · exact HNe.out q (by omega) hl)
              generalize os[j] = y at *
              have hji : (j : Int) < (k : Int) := by omega
              have hjn : (j : Int) < (n : Int) := by omega
              by_cases he : y = z
              · have HR := Lib.hid (HT2.out he)
                rw [he] at cy
                have hzz : (z == z) = true := by simp
                clear he
                go_wp2
                go_quiet (fail)
                have HBd := Lib.hid (below_drewN HB2.out nq)
                go_wp2
                go_ret
                exact ⟨by rw [HR.out]; rfl, HBd.out⟩
              · have HR := Lib.hid (HNx.out he)
                have hyz : (y == z) = false := by simpa using he
                clear he
                go_wp2
                go_quiet (fail)
                have HBd := Lib.hid (below_drewN HB2.out nq)
                go_wp2
                go_roundw
                case rel => exact ⟨j + 1, by omega, by go_num, HR.out, HBd.out⟩
                case measure => simp [intOf]; omega
            · obtain rfl : j = k := by omega
              have HR := Lib.hid (HSt2.out HNe.out)
              go_wp2
              go_roundw
              case rel => exact ⟨j + 1, by omega, by go_num, HR.out, HB2.out⟩
              case measure => simp [intOf]; omega
    · have HR : Hid (orderB os = true) := Lib.hid (decide_eq_true (by
        have := HO.out
        rwa [List.take_of_length_le (by have := HN.out; omega)] at this))
      go_wp2
      go_ret
      exact ⟨by rw [HR.out]; rfl, HB.out⟩
end Go.Proofs.Ytkcdcgijbaepmaa
