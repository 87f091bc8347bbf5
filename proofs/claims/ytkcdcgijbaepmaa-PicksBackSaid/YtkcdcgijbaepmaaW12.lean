/-
  Walks: the library's binary search for the piece of a place.
-/
import Derived.Test.YtkcdcgijbaepmaaW11
set_option linter.unusedVariables false
namespace Go.Proofs.Ytkcdcgijbaepmaa
open Go.RowKit

def sideP (p : PD) (x : Int) : Int := if p.t ≤ x then -1 else if x < p.f then 1 else 0
theorem side_walk (p : PD) (x : Int) (w : World) : Calls Try.prog 63 #[.agg #[.int .i64 p.f, .int .i64 p.t], .int .i64 x] w fun e w' => e = .returned (.int .i64 (sideP p x)) ∧ Below w.heap.size w w' := by
  by_cases h1 : p.t ≤ x
  · have HR := Lib.hid (show sideP p x = -1 from if_pos h1)
    rw [HR.out]
    go_enter Try.func63, Try.ntmps63
    go_wp2
    go_ret
    exact ⟨rfl, by go_grown⟩
  · by_cases h2 : x < p.f
    · have HR := Lib.hid (show sideP p x = 1 by unfold sideP; rw [if_neg h1, if_pos h2])
      rw [HR.out]
      go_enter Try.func63, Try.ntmps63
      go_wp2
      go_ret
      exact ⟨rfl, by go_grown⟩
    · have HR := Lib.hid (show sideP p x = 0 by unfold sideP; rw [if_neg h1, if_neg h2])
      rw [HR.out]
      go_enter Try.func63, Try.ntmps63
      go_wp2
      go_ret
      exact ⟨rfl, by go_grown⟩
/-- what lies ahead of i ends by x; what lies from j on does not -/
structure SeekP (ps : List PD) (x : Int) (i j : Nat) : Prop where
  le : i ≤ j
  top : j ≤ ps.length
  low : ∀ k, (hk : k < i) → (hl : k < ps.length) → ps[k].t ≤ x
  high : ∀ k, (hk : j ≤ k) → (hl : k < ps.length) → ¬ ps[k].t ≤ x
theorem NF.rise {ps : List PD} (h : NF ps) {i j : Nat} (hij : i < j) (hj : j < ps.length) : (ps[i]'(by omega)).t < ps[j].f ∧ ps[j].f < ps[j].t := ⟨List.pairwise_iff_getElem.1 h.gap i j (by omega) hj hij, h.pos _ (List.getElem_mem hj)⟩
theorem SeekP.right {ps : List PD} {x : Int} {i j h : Nat} (hs : SeekP ps x i j) (hn : NF ps) (h1 : i ≤ h) (h2 : h < j) (hl : h < ps.length) (ht : ps[h].t ≤ x) : SeekP ps x (h + 1) j :=
  ⟨by omega, hs.top, fun k hk hkl => by
    by_cases e : k = h
    · subst e; exact ht
    · have := hn.rise (show k < h by omega) hl
      omega, hs.high⟩
theorem SeekP.left {ps : List PD} {x : Int} {i j h : Nat} (hs : SeekP ps x i j) (hn : NF ps) (h1 : i ≤ h) (h2 : h < j) (hl : h < ps.length) (ht : ¬ ps[h].t ≤ x) : SeekP ps x i h :=
  ⟨h1, by omega, hs.low, fun k hk hkl => by
    by_cases e : k = h
    · subst e; exact ht
    · have := hn.rise (show h < k by omega) hkl
      omega⟩
theorem SeekP.found {ps : List PD} {x : Int} {i : Nat} (hs : SeekP ps x i i) (hn : NF ps) : covB ps x = if h : i < ps.length then decide (sideP ps[i] x = 0) else false := by
  by_cases h : i < ps.length
  · rw [dif_pos h]
    have hh := hs.high i (Nat.le_refl _) h
    unfold covB
    congr 1
    apply propext
    constructor
    · rintro ⟨p, hp, h1, h2⟩
      obtain ⟨k, hk, rfl⟩ := List.mem_iff_getElem.1 hp
      have e : k = i := by
        rcases Nat.lt_trichotomy k i with h3 | h3 | h3
        · have := hs.low k h3 hk; omega
        · exact h3
        · have := hn.rise h3 hk; omega
      subst e
      unfold sideP
      rw [if_neg hh, if_neg (by omega)]
    · intro h0
      unfold sideP at h0
      rw [if_neg hh] at h0
      by_cases h1 : x < ps[i].f
      · rw [if_pos h1] at h0; omega
      · exact ⟨_, List.getElem_mem h, by omega, by omega⟩
  · rw [dif_neg h]
    refine decide_eq_false ?_
    rintro ⟨p, hp, h1, h2⟩
    obtain ⟨k, hk, rfl⟩ := List.mem_iff_getElem.1 hp
    have := hs.low k (by omega) hk
    omega
def SkR (w : World) (ps : List PD) (x : Int) (u v : Value) (wr : World) : Prop := ∃ i j : Nat, u = .int .i64 i ∧ v = .int .i64 j ∧ SeekP ps x i j ∧ Below w.heap.size w wr

set_option maxHeartbeats 2000000 in
theorem Search_walk (a : Option Addr) (n c : Nat) (ps : List PD) (x : Int) (w : World) (hn : ps.length = n) (hlt : n ≤ 1048576) (hc : PiecesAt w a ps) (hnf : NF ps) :
    Calls Try.prog 62 #[.slice a n c, .int .i64 x, .func (.func 63) #[] #[]] w fun e w' => ∃ i : Nat, e = .returned (.tuple #[.int .i64 i, .bool (covB ps x)]) ∧ Below w.heap.size w w' := by
  have HN := Lib.hid hn; clear hn
  have HC := Lib.hid hc; clear hc
  have HF := Lib.hid hnf; clear hnf
  go_enter Try.func62, Try.ntmps62
  go_wp2
  go_loopw [9, 10] (SkR w ps x) (fun u v _ => (intOf v).toNat - (intOf u).toNat)
  case atStart => exact ⟨0, n, rfl, rfl, ⟨Nat.zero_le _, by rw [HN.out]; exact Nat.le_refl _, fun k hk => absurd hk (Nat.not_lt_zero _), fun k hk hl => absurd hl (by have := HN.out; omega)⟩, Below.refl _ _⟩
  case round =>
    obtain ⟨i, j, rfl, rfl, hs, hbel⟩ := hrel
    have hij := hs.le
    have hjn : j ≤ n := by have := hs.top; have := HN.out; omega
    have HS := Lib.hid hs; clear hs
    have HB := Lib.hid hbel; clear hbel
    by_cases hlt2 : i < j
    · have hiji : (i : Int) < (j : Int) := by omega
      have hsum : (i : Int) + (j : Int) ≤ 2097152 := by omega
      go_upto_region 5 with (fail)
      have hh : ((i : Int) + (j : Int)) / 2 = (((i + j) / 2 : Nat) : Int) := by omega
      have h1 : i ≤ (i + j) / 2 := by omega
      have h2 : (i + j) / 2 < j := by omega
      rw [hh]
      clear hh
      generalize (i + j) / 2 = h at *
      have hhl : h < ps.length := by have := HN.out; omega
      obtain ⟨b, o, ha⟩ := HC.out.some (by omega)
      subst ha
      obtain ⟨u0, u1⟩ := (HC.out.below HB.out (Nat.le_refl _)).get h hhl
      have HRt := Lib.hid (fun ht => HS.out.right HF.out h1 h2 hhl ht)
      have HLt := Lib.hid (fun ht => HS.out.left HF.out h1 h2 hhl ht)
      generalize ps[h] = p at *
      have hhn : (h : Int) < (n : Int) := by omega
      clear hhl
      go_wp2_with fail
      refine (side_walk p x wr).mono ?_
      rintro e w2 ⟨rfl, hb2⟩
      have HB2 := Lib.hid (HB.out.trans (hb2.mono HB.out.size)); clear hb2
      by_cases ht : p.t ≤ x
      · have HS2 := Lib.hid (HRt.out ht)
        rw [show sideP p x = -1 from if_pos ht]
        clear HRt HLt ht
        go_wp2
        go_roundw
        case rel => exact ⟨h + 1, j, by go_num, rfl, HS2.out, HB2.out⟩
        case measure => simp [intOf]; omega
      · have HS2 := Lib.hid (HLt.out (by omega))
        obtain ⟨s, hs0, hse⟩ : ∃ s : Int, 0 ≤ s ∧ sideP p x = s := ⟨_, by unfold sideP; rw [if_neg ht]; split <;> omega, rfl⟩
        rw [hse]
        clear HRt HLt ht hse
        go_wp2
        go_roundw
        case rel => exact ⟨i, h, rfl, rfl, HS2.out, HB2.out⟩
        case measure => simp [intOf]; omega
    · obtain rfl : i = j := by omega
      have HFd := Lib.hid (HS.out.found HF.out)
      by_cases hil : i < n
      · have hip : i < ps.length := by rw [HN.out]; exact hil
        obtain ⟨b, o, ha⟩ := HC.out.some (by omega)
        subst ha
        obtain ⟨u0, u1⟩ := (HC.out.below HB.out (Nat.le_refl _)).get i hip
        have HV : Hid (covB ps x = decide (sideP ps[i] x = 0)) := Lib.hid (by rw [HFd.out, dif_pos hip])
        clear HFd
        generalize ps[i] = p at *
        have hii : (i : Int) < (n : Int) := by omega
        go_wp2_with fail
        refine (side_walk p x wr).mono ?_
        rintro e w2 ⟨rfl, hb2⟩
        have HB2 := Lib.hid (HB.out.trans (hb2.mono HB.out.size)); clear hb2
        by_cases h0 : sideP p x = 0
        · have HR := Lib.hid (HV.out.trans (decide_eq_true h0))
          rw [h0]
          clear h0 HV
          go_wp2
          go_ret2
          exact ⟨i, by rw [HR.out]; rfl, HB2.out⟩
        · have HR := Lib.hid (HV.out.trans (decide_eq_false h0))
          have hne : (sideP p x == 0) = false := by simpa using h0
          clear HV
          generalize sideP p x = s at *
          clear h0
          go_wp2
          go_ret2
          exact ⟨i, by rw [HR.out]; rfl, HB2.out⟩
      · have HR : Hid (covB ps x = false) := Lib.hid (by rw [HFd.out, dif_neg (by rw [HN.out]; exact hil)])
        clear HFd
        go_wp2
        go_ret2
        exact ⟨i, by rw [HR.out]; rfl, HB.out⟩
theorem has_walk (a : Option Addr) (n c : Nat) (ps : List PD) (x : Int) (w : World) (hn : ps.length = n) (hlt : n ≤ 1048576) (hc : PiecesAt w a ps) (hnf : NF ps) :
    Calls Try.prog 40 #[.slice a n c, .int .i64 x] w fun e w' => e = .returned (.bool (covB ps x)) ∧ Below w.heap.size w w' := by
  go_enter Try.func40, Try.ntmps40
  go_wp2_with fail
  refine (Search_walk a n c ps x w hn hlt hc hnf).mono ?_
  rintro e w1 ⟨i, rfl, hb⟩
  obtain ⟨v, hv⟩ : ∃ v, covB ps x = v := ⟨_, rfl⟩
  rw [hv]
  have HV := Lib.hid hv
  clear hnf hn hv
  cases v with
  | false =>
    go_wp2
    go_ret
    exact ⟨by rw [HV.out]; rfl, hb⟩
  | true =>
    go_wp2
    go_ret
    exact ⟨by rw [HV.out]; rfl, hb⟩
end Go.Proofs.Ytkcdcgijbaepmaa
