/-
  Walks: a place in pieces; the document's test of pieces.
-/
import Derived.Test.YtkcdcgijbaepmaaW7
set_option linter.unusedVariables false
namespace Go.Proofs.Ytkcdcgijbaepmaa
open Go.RowKit

def covB (ps : List PD) (x : Int) : Bool := decide (cov ps x)
def NotIn (ps : List PD) (x : Int) (k : Nat) : Prop := ∀ j, (hj : j < k) → (hl : j < ps.length) → ¬ (ps[j].f ≤ x ∧ x < ps[j].t)
theorem covB_yes {ps : List PD} {x : Int} {k : Nat} (h : k < ps.length) (hx : ps[k].f ≤ x ∧ x < ps[k].t) : covB ps x = true := decide_eq_true ⟨_, List.getElem_mem h, hx⟩
theorem covB_no {ps : List PD} {x : Int} (h : NotIn ps x ps.length) : covB ps x = false := decide_eq_false (fun ⟨p, hp, hx⟩ => by
  obtain ⟨j, hj, rfl⟩ := List.mem_iff_getElem.1 hp
  exact h j hj hj hx)
theorem NotIn.step {ps : List PD} {x : Int} {k : Nat} (h : NotIn ps x k) (hk : k < ps.length) (hx : ¬ (ps[k].f ≤ x ∧ x < ps[k].t)) : NotIn ps x (k + 1) := fun j hj hl => by
  by_cases e : j = k
  · subst e; exact hx
  · exact h j (by omega) hl
def HasR (n : Nat) (ps : List PD) (x : Int) (i : Value) : Prop := ∃ k : Nat, k ≤ n ∧ i = .int .i64 k ∧ NotIn ps x k

theorem Has_walk (a : Option Addr) (n c : Nat) (ps : List PD) (x : Int) (w : World) (hn : ps.length = n) (hlt : n ≤ 1048576) (hc : PiecesAt w a ps) :
    Calls Try.prog 38 #[.slice a n c, .int .i64 x] w fun e w' => e = .returned (.bool (covB ps x)) ∧ w = w' := by
  have HN := Lib.hid hn; clear hn
  have HC := Lib.hid hc; clear hc
  go_enter Try.func38, Try.ntmps38
  go_wp2
  go_loop [5] (HasR n ps x) (fun i => n - (intOf i).toNat)
  case atStart => exact ⟨0, Nat.zero_le _, rfl, fun j hj => absurd hj (Nat.not_lt_zero _)⟩
  case round =>
    obtain ⟨k, hk, rfl, hnot⟩ := hrel
    have HA := Lib.hid hnot; clear hnot
    by_cases hkn : k < n
    · have hk1 : k < ps.length := by rw [HN.out]; exact hkn
      obtain ⟨b, o, ha⟩ := HC.out.some (by omega)
      subst ha
      obtain ⟨u0, u1⟩ := HC.out.get k hk1
      have HY := Lib.hid (fun h => covB_yes (ps := ps) (x := x) hk1 h)
      have HS := Lib.hid (fun h => HA.out.step hk1 h)
      generalize ps[k] = p at *
      have hki : (k : Int) < (n : Int) := by omega
      by_cases h1 : p.f ≤ x
      · by_cases h2 : x < p.t
        · have HR := Lib.hid (HY.out ⟨h1, h2⟩)
          have d1 : decide (p.f ≤ x) = true := decide_eq_true h1
          have d2 : decide (x < p.t) = true := decide_eq_true h2
          go_wp2
          go_ret
          exact ⟨by rw [HR.out]; rfl, rfl⟩
        · have HR := Lib.hid (HS.out (fun h => h2 h.2))
          have d1 : decide (p.f ≤ x) = true := decide_eq_true h1
          have d2 : decide (x < p.t) = false := decide_eq_false h2
          go_wp2
          go_round
          case rel => exact ⟨k + 1, by omega, by go_num, HR.out⟩
          case measure => simp [intOf]; omega
      · have HR := Lib.hid (HS.out (fun h => h1 h.1))
        have d1 : decide (p.f ≤ x) = false := decide_eq_false h1
        go_wp2
        go_round
        case rel => exact ⟨k + 1, by omega, by go_num, HR.out⟩
        case measure => simp [intOf]; omega
    · have HR : Hid (covB ps x = false) := Lib.hid (covB_no (by have := HA.out; rwa [show k = ps.length by rw [HN.out]; omega] at this))
      go_wp2
      go_ret
      exact ⟨by rw [HR.out]; rfl, rfl⟩

theorem in_walk (a : Option Addr) (n c : Nat) (ps : List PD) (x : Int) (w : World) (hn : ps.length = n) (hlt : n ≤ 1048576) (hc : PiecesAt w a ps) :
    Calls Try.prog 29 #[.slice a n c, .int .i64 x] w fun e w' => e = .returned (.bool (covB ps x)) ∧ w = w' := by
  have HN := Lib.hid hn; clear hn
  have HC := Lib.hid hc; clear hc
  go_enter Try.func29, Try.ntmps29
  go_wp2
  go_loop [5] (HasR n ps x) (fun i => n - (intOf i).toNat)
  case atStart => exact ⟨0, Nat.zero_le _, rfl, fun j hj => absurd hj (Nat.not_lt_zero _)⟩
  case round =>
    obtain ⟨k, hk, rfl, hnot⟩ := hrel
    have HA := Lib.hid hnot; clear hnot
    by_cases hkn : k < n
    · have hk1 : k < ps.length := by rw [HN.out]; exact hkn
      obtain ⟨b, o, ha⟩ := HC.out.some (by omega)
      subst ha
      obtain ⟨u0, u1⟩ := HC.out.get k hk1
      have HY := Lib.hid (fun h => covB_yes (ps := ps) (x := x) hk1 h)
      have HS := Lib.hid (fun h => HA.out.step hk1 h)
      generalize ps[k] = p at *
      have hki : (k : Int) < (n : Int) := by omega
      by_cases h1 : p.f ≤ x
      · by_cases h2 : x < p.t
        · have HR := Lib.hid (HY.out ⟨h1, h2⟩)
          have d1 : decide (p.f ≤ x) = true := decide_eq_true h1
          have d2 : decide (x < p.t) = true := decide_eq_true h2
          go_wp2
          go_ret
          exact ⟨by rw [HR.out]; rfl, rfl⟩
        · have HR := Lib.hid (HS.out (fun h => h2 h.2))
          have d1 : decide (p.f ≤ x) = true := decide_eq_true h1
          have d2 : decide (x < p.t) = false := decide_eq_false h2
          go_wp2
          go_round
          case rel => exact ⟨k + 1, by omega, by go_num, HR.out⟩
          case measure => simp [intOf]; omega
      · have HR := Lib.hid (HS.out (fun h => h1 h.1))
        have d1 : decide (p.f ≤ x) = false := decide_eq_false h1
        go_wp2
        go_round
        case rel => exact ⟨k + 1, by omega, by go_num, HR.out⟩
        case measure => simp [intOf]; omega
    · have HR : Hid (covB ps x = false) := Lib.hid (covB_no (by have := HA.out; rwa [show k = ps.length by rw [HN.out]; omega] at this))
      go_wp2
      go_ret
      exact ⟨by rw [HR.out]; rfl, rfl⟩

/-- the document's test: 'most' below 0: any place -/
def badP (most : Int) (p : PD) : Prop := p.f < 0 ∨ p.t < p.f ∨ (0 ≤ most ∧ most < p.t)
instance (most : Int) (p : PD) : Decidable (badP most p) := by unfold badP; infer_instance
def badB (most : Int) (ps : List PD) : Bool := decide (∃ p ∈ ps, badP most p)
def NotBad (most : Int) (ps : List PD) (k : Nat) : Prop := ∀ j, (hj : j < k) → (hl : j < ps.length) → ¬ badP most ps[j]
theorem badB_yes {most : Int} {ps : List PD} {k : Nat} (h : k < ps.length) (hx : badP most ps[k]) : badB most ps = true := decide_eq_true ⟨_, List.getElem_mem h, hx⟩
theorem badB_no {most : Int} {ps : List PD} (h : NotBad most ps ps.length) : badB most ps = false := decide_eq_false (fun ⟨p, hp, hx⟩ => by
  obtain ⟨j, hj, rfl⟩ := List.mem_iff_getElem.1 hp
  exact h j hj hj hx)
theorem NotBad.step {most : Int} {ps : List PD} {k : Nat} (h : NotBad most ps k) (hk : k < ps.length) (hx : ¬ badP most ps[k]) : NotBad most ps (k + 1) := fun j hj hl => by
  by_cases e : j = k
  · subst e; exact hx
  · exact h j (by omega) hl
theorem badB_neg (ps : List PD) : badB (-1) ps = Any_wrong ps := by
  unfold badB Any_wrong
  congr 1
  apply propext
  constructor
  · rintro ⟨p, hp, h⟩; exact ⟨p, hp, by unfold badP at h; unfold wrongP; omega⟩
  · rintro ⟨p, hp, h⟩; exact ⟨p, hp, by unfold badP; unfold wrongP at h; omega⟩
theorem badB_nat (m : Nat) (ps : List PD) : badB (m : Int) ps = Any_text m ps := by
  unfold badB Any_text
  congr 1
  apply propext
  constructor
  · rintro ⟨p, hp, h⟩; exact ⟨p, hp, by unfold badP at h; unfold overP wrongP; omega⟩
  · rintro ⟨p, hp, h⟩; exact ⟨p, hp, by unfold badP; unfold overP wrongP at h; omega⟩
def BadR (w : World) (n : Nat) (most : Int) (ps : List PD) (i : Value) (wr : World) : Prop := ∃ k : Nat, k ≤ n ∧ i = .int .i64 k ∧ NotBad most ps k ∧ Below w.heap.size w wr
set_option maxHeartbeats 2000000 in
theorem rwrong_walk (a : Option Addr) (n c : Nat) (ps : List PD) (most : Int) (w : World) (hn : ps.length = n) (hlt : n ≤ 1048576) (hc : PiecesAt w a ps) :
    Calls Try.prog 37 #[.slice a n c, .int .i64 most] w fun e w' => e = .returned (.bool (badB most ps)) ∧ Below w.heap.size w w' := by
  have HN := Lib.hid hn; clear hn
  have HC := Lib.hid hc; clear hc
  go_enter Try.func37, Try.ntmps37
  go_wp2
  go_loopw [5] (BadR w n most ps) (fun i _ => n - (intOf i).toNat)
  case atStart => exact ⟨0, Nat.zero_le _, rfl, fun j hj => absurd hj (Nat.not_lt_zero _), Below.refl _ _⟩
  case round =>
    obtain ⟨k, hk, rfl, hnot, hbel⟩ := hrel
    have HA := Lib.hid hnot; clear hnot
    have HB := Lib.hid hbel; clear hbel
    by_cases hkn : k < n
    · have hk1 : k < ps.length := by rw [HN.out]; exact hkn
      obtain ⟨b, o, ha⟩ := HC.out.some (by omega)
      subst ha
      obtain ⟨u0, u1⟩ := (HC.out.below HB.out (Nat.le_refl _)).get k hk1
      have HY := Lib.hid (fun h => badB_yes (ps := ps) (most := most) hk1 h)
      have HS := Lib.hid (fun h => HA.out.step hk1 h)
      generalize ps[k] = p at *
      have hki : (k : Int) < (n : Int) := by omega
      by_cases h1 : p.f < 0
      · have HR := Lib.hid (HY.out (.inl h1))
        have d1 : decide (p.f < 0) = true := decide_eq_true h1
        go_wp2
        go_quiet (fail)
        have HBd := Lib.hid (below_drewN HB.out nq)
        go_wp2
        go_ret
        exact ⟨by rw [HR.out]; rfl, HBd.out⟩
      · by_cases h2 : p.t < p.f
        · have HR := Lib.hid (HY.out (.inr (.inl h2)))
          have d1 : decide (p.f < 0) = false := decide_eq_false h1
          have d2 : decide (p.t < p.f) = true := decide_eq_true h2
          go_wp2
          go_quiet (fail)
          have HBd := Lib.hid (below_drewN HB.out nq)
          go_wp2
          go_ret
          exact ⟨by rw [HR.out]; rfl, HBd.out⟩
        · by_cases h3 : 0 ≤ most
          · by_cases h4 : most < p.t
            · have HR := Lib.hid (HY.out (.inr (.inr ⟨h3, h4⟩)))
              have d1 : decide (p.f < 0) = false := decide_eq_false h1
              have d2 : decide (p.t < p.f) = false := decide_eq_false h2
              have d3 : decide (0 ≤ most) = true := decide_eq_true h3
              have d4 : decide (most < p.t) = true := decide_eq_true h4
              go_wp2
              go_quiet (fail)
              have HBd := Lib.hid (below_drewN HB.out nq)
              go_wp2
              go_ret
              exact ⟨by rw [HR.out]; rfl, HBd.out⟩
            · have HR := Lib.hid (HS.out (by unfold badP; omega))
              have d1 : decide (p.f < 0) = false := decide_eq_false h1
              have d2 : decide (p.t < p.f) = false := decide_eq_false h2
              have d3 : decide (0 ≤ most) = true := decide_eq_true h3
              have d4 : decide (most < p.t) = false := decide_eq_false h4
              go_wp2
              go_quiet (fail)
              have HBd := Lib.hid (below_drewN HB.out nq)
              go_wp2
              go_roundw
              case rel => exact ⟨k + 1, by omega, by go_num, HR.out, HBd.out⟩
              case measure => simp [intOf]; omega
          · have HR := Lib.hid (HS.out (by unfold badP; omega))
            have d1 : decide (p.f < 0) = false := decide_eq_false h1
            have d2 : decide (p.t < p.f) = false := decide_eq_false h2
            have d3 : decide (0 ≤ most) = false := decide_eq_false h3
            go_wp2
            go_quiet (fail)
            have HBd := Lib.hid (below_drewN HB.out nq)
            go_wp2
            go_roundw
            case rel => exact ⟨k + 1, by omega, by go_num, HR.out, HBd.out⟩
            case measure => simp [intOf]; omega
    · have HR : Hid (badB most ps = false) := Lib.hid (badB_no (by have := HA.out; rwa [show k = ps.length by rw [HN.out]; omega] at this))
      go_wp2
      go_ret
      exact ⟨by rw [HR.out]; rfl, HB.out⟩
end Go.Proofs.Ytkcdcgijbaepmaa
