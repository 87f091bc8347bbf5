/- several texts in one: RR1 RJ RP RR2 -/
import Derived.Test.YtabbabkmojaoaaaQ3
import Derived.Test.YtabbabkmojaoaaaQ4
import Derived.Test.YtabbabkmojaoaaaQ6
import Derived.Test.YtabbabkmojaoaaaRI
set_option linter.unusedVariables false
set_option linter.unusedSimpArgs false
/-
  TrieReads: small walks (two lists, two stages; a number counted round).
-/
namespace Go.Proofs.Ytabbabkmojaoaaa
open Go.RowKit
attribute [local go_sem] Oper.semAt_some

def LsR (n : Nat) (w2 : World) (L1 L2 : List Int) (iv : Value) (wr : World) : Prop := ∃ k q : Nat, k ≤ n ∧ iv = .int .i64 (k : Nat) ∧ wr = w2.drewN q ∧ ∀ j, j < k → L1[j]? = L2[j]?
set_option maxRecDepth 100000 in
set_option maxHeartbeats 1600000 in
theorem refList_walk (w : World) (a1 a2 : Option Addr) (n m c1 c2 : Nat) (L1 L2 : List Int) (hn : L1.length = n) (hm : L2.length = m) (b1 : n ≤ 1152921504606846976) (b2 : m ≤ 1152921504606846976) (H1 : Ints .i64 w a1 L1) (H2 : Ints .i64 w a2 L2) :
    Calls Try.prog 123 #[.slice a1 n c1, .slice a2 m c2] w fun e w' => e = .returned (.bool (decide (L1 = L2))) ∧ ∃ q, w' = w.drewN q := by
  have HN := Lib.hid hn; have HM := Lib.hid hm; have HX := Lib.hid H1; have HY := Lib.hid H2
  clear hn hm H1 H2
  go_enter Try.func123, Try.ntmps123
  by_cases hnm : n = m
  · subst hnm
    go_wp2
    go_loopw [5] (LsR n w L1 L2) (fun i _ => n - (intOf i).toNat)
    case atStart => exact ⟨0, 0, Nat.zero_le _, rfl, rfl, fun j hj => by omega⟩
    case round =>
      obtain ⟨k, q, hk, rfl, rfl, hsame⟩ := hrel
      have HSm := Lib.hid hsame; clear hsame
      by_cases hkn : k < n
      · have hki : (k : Int) < (n : Int) := by omega
        have k1 : k < L1.length := by rw [HN.out]; exact hkn
        have k2 : k < L2.length := by rw [HM.out]; exact hkn
        obtain ⟨g1, o1, e1⟩ := HX.out.some (by omega)
        obtain ⟨g2, o2, e2⟩ := HY.out.some (by omega)
        subst e1 e2
        have d1 := HX.out.get k k1
        have d2 := HY.out.get k k2
        have HNx := Lib.hid (show L1 = L2 → L1[k] = L2[k] from fun h => by subst h; rfl)
        have HSx := Lib.hid (fun (h : L1[k] = L2[k]) j (hj : j < k + 1) => show L1[j]? = L2[j]? from by
          by_cases e : j = k
          · subst e; rw [List.getElem?_eq_getElem k1, List.getElem?_eq_getElem k2, h]
          · exact HSm.out j (by omega))
        generalize L1[k] = x at *
        generalize L2[k] = y at *
        by_cases ht : x = y
        · have n1 : (x != y) = false := by simp [ht]
          have HE := Lib.hid ht
          clear ht
          go_upto_region 6 with (fail)
          refine wp_region_quiet_lit (by kernel_rfl) (by kernel_rfl) ?_
          iterate 9 (go_big_quiet_step (fail))
          refine wpQuiet_nil ?_
          rintro _ ⟨nq, rfl⟩
          go_wp2
          go_roundw
          case rel => exact ⟨k + 1, q + nq, by omega, by go_num, by first | rfl | (simp [World.drewN, Nat.add_assoc]), HSx.out HE.out⟩
          case measure => simp [intOf]; omega
        · have n1 : (x != y) = true := by simp [ht]
          have HNe : Hid (¬ L1 = L2) := Lib.hid (fun h => ht (HNx.out h))
          clear ht
          go_upto_region 6 with (fail)
          refine wp_region_quiet_lit (by kernel_rfl) (by kernel_rfl) ?_
          iterate 9 (go_big_quiet_step (fail))
          refine wpQuiet_nil ?_
          rintro _ ⟨nq, rfl⟩
          go_wp2
          go_ret
          exact ⟨by rw [decide_eq_false HNe.out]; rfl, q + nq, by simp [World.drewN, Nat.add_assoc]⟩
      · obtain rfl : k = n := by omega
        have hki : ¬ (k : Int) < (k : Int) := by omega
        have HEq : Hid (L1 = L2) := Lib.hid (List.ext_getElem? fun j => by
          by_cases hj : j < k
          · exact HSm.out j hj
          · rw [List.getElem?_eq_none (by rw [HN.out]; omega), List.getElem?_eq_none (by rw [HM.out]; omega)])
        go_wp2
        go_ret
        exact ⟨by rw [decide_eq_true HEq.out]; rfl, _, rfl⟩
  · have hnb : ((n : Int) != (m : Int)) = true := by simp; omega
    have HNe : Hid (¬ L1 = L2) := Lib.hid (fun h => hnm (by rw [← HN.out, ← HM.out, h]))
    clear hnm
    go_wp2
    go_ret
    exact ⟨by rw [decide_eq_false HNe.out]; rfl, 0, rfl⟩

/-- three lists of numbers -/
def ThreeAt (w : World) (sv : Value) (A B C : List Int) : Prop := ∃ aT cT aM cM aL cL, sv = .agg #[.slice aT A.length cT, .slice aM B.length cM, .slice aL C.length cL] ∧ Ints .i64 w aT A ∧ Ints .i64 w aM B ∧ Ints .i64 w aL C
theorem ThreeAt.below {w w' : World} {sv : Value} {A B C : List Int} (h : ThreeAt w sv A B C) (hb : Below w.heap.size w w') : ThreeAt w' sv A B C := by
  obtain ⟨_, _, _, _, _, _, e, h1, h2, h3⟩ := h
  exact ⟨_, _, _, _, _, _, e, h1.below hb (Nat.le_refl _), h2.below hb (Nat.le_refl _), h3.below hb (Nat.le_refl _)⟩
theorem StagesAt.three {w : World} {sv : Value} {S : MkS Int} (hm : ∀ m ∈ S.mids, m.length = 64) (hl : ∀ m ∈ S.lows, m.length = 64) (h : StagesAt w sv S) : ThreeAt w sv (natsI S.top) (natsI S.mids.flatten) S.lows.flatten := by
  obtain ⟨aT, cT, aM, cM, aL, cL, e, h1, h2, h3⟩ := h
  refine ⟨aT, cT, aM, cM, aL, cL, ?_, h1, h2, h3⟩
  rw [e, natsI_length, natsI_length, flat_len _ hm, flat_len _ hl]
set_option maxRecDepth 100000 in
set_option maxHeartbeats 1600000 in
theorem refEqual_walk (w : World) (s t : Value) (A B C A' B' C' : List Int) (h1 : A.length ≤ 1152921504606846976) (h2 : B.length ≤ 1152921504606846976) (h3 : C.length ≤ 1152921504606846976) (h1' : A'.length ≤ 1152921504606846976) (h2' : B'.length ≤ 1152921504606846976) (h3' : C'.length ≤ 1152921504606846976)
    (hs : ThreeAt w s A B C) (ht : ThreeAt w t A' B' C') :
    Calls Try.prog 103 #[s, t] w fun e w' => e = .returned (.bool (decide (A = A' ∧ B = B' ∧ C = C'))) ∧ Below w.heap.size w w' := by
  obtain ⟨aT, cT, aM, cM, aL, cL, rfl, hT, hM, hL⟩ := hs
  obtain ⟨bT, dT, bM, dM, bL, dL, rfl, kT, kM, kL⟩ := ht
  obtain ⟨n1, hn1⟩ : ∃ n, A.length = n := ⟨_, rfl⟩
  obtain ⟨n2, hn2⟩ : ∃ n, B.length = n := ⟨_, rfl⟩
  obtain ⟨n3, hn3⟩ : ∃ n, C.length = n := ⟨_, rfl⟩
  obtain ⟨m1, hm1⟩ : ∃ n, A'.length = n := ⟨_, rfl⟩
  obtain ⟨m2, hm2⟩ : ∃ n, B'.length = n := ⟨_, rfl⟩
  obtain ⟨m3, hm3⟩ : ∃ n, C'.length = n := ⟨_, rfl⟩
  rw [hn1, hn2, hn3, hm1, hm2, hm3]
  rw [hn1] at h1; rw [hn2] at h2; rw [hn3] at h3; rw [hm1] at h1'; rw [hm2] at h2'; rw [hm3] at h3'
  obtain ⟨b0, hb0⟩ : ∃ b0, b0 = w.heap.size := ⟨_, rfl⟩
  obtain ⟨W, hW⟩ : ∃ W, W = (w.alloc (.cells #[.slice aT n1 cT, .slice aM n2 cM, .slice aL n3 cL] 70)).alloc (.cells #[.slice bT m1 dT, .slice bM m2 dM, .slice bL m3 dL] 70) := ⟨_, rfl⟩
  have HP : Hid (Below w.heap.size w W ∧ W.heap[b0]? = some (.cells #[.slice aT n1 cT, .slice aM n2 cM, .slice aL n3 cL] 70 (0, 0)) ∧ W.heap[b0 + 1]? = some (.cells #[.slice bT m1 dT, .slice bM m2 dM, .slice bL m3 dL] 70 (0, 0)) ∧ W.heap.size = b0 + 2) := Lib.hid (by
    rw [hb0, hW]
    exact two_boxes w _ _ _ _)
  have HL : Hid (∀ q, Below W.heap.size W (W.drewN q)) := Lib.hid (fun q => below_drewN (Below.refl _ _) q)
  have HC1 : Hid (∀ q, Calls Try.prog 123 #[.slice aT n1 cT, .slice bT m1 dT] (W.drewN q) fun e w' => e = .returned (.bool (decide (A = A'))) ∧ ∃ p, w' = (W.drewN q).drewN p) := Lib.hid (fun q => refList_walk _ aT bT n1 m1 cT dT A A' hn1 hm1 h1 h1' ((hT.below HP.out.1 (Nat.le_refl _)).below (HL.out q) (Nat.le_refl _)) ((kT.below HP.out.1 (Nat.le_refl _)).below (HL.out q) (Nat.le_refl _)))
  have HC2 : Hid (∀ q, Calls Try.prog 123 #[.slice aM n2 cM, .slice bM m2 dM] (W.drewN q) fun e w' => e = .returned (.bool (decide (B = B'))) ∧ ∃ p, w' = (W.drewN q).drewN p) := Lib.hid (fun q => refList_walk _ aM bM n2 m2 cM dM B B' hn2 hm2 h2 h2' ((hM.below HP.out.1 (Nat.le_refl _)).below (HL.out q) (Nat.le_refl _)) ((kM.below HP.out.1 (Nat.le_refl _)).below (HL.out q) (Nat.le_refl _)))
  have HC3 : Hid (∀ q, Calls Try.prog 123 #[.slice aL n3 cL, .slice bL m3 dL] (W.drewN q) fun e w' => e = .returned (.bool (decide (C = C'))) ∧ ∃ p, w' = (W.drewN q).drewN p) := Lib.hid (fun q => refList_walk _ aL bL n3 m3 cL dL C C' hn3 hm3 h3 h3' ((hL.below HP.out.1 (Nat.le_refl _)).below (HL.out q) (Nat.le_refl _)) ((kL.below HP.out.1 (Nat.le_refl _)).below (HL.out q) (Nat.le_refl _)))
  have q0 := cell_of_row W b0 0 _ _ (0, 0) HP.out.2.1
  have q1 := cell_of_row W b0 1 _ _ (0, 0) HP.out.2.1
  have q2 := cell_of_row W b0 2 _ _ (0, 0) HP.out.2.1
  have p0 := cell_of_row W (b0 + 1) 0 _ _ (0, 0) HP.out.2.2.1
  have p1 := cell_of_row W (b0 + 1) 1 _ _ (0, 0) HP.out.2.2.1
  have p2 := cell_of_row W (b0 + 1) 2 _ _ (0, 0) HP.out.2.2.1
  simp at q0 q1 q2 p0 p1 p2
  have HW := Lib.hid hW; have HBz := Lib.hid hb0; have HBd : Hid (∀ q, Below w.heap.size w (W.drewN q)) := Lib.hid (fun q => below_drewN HP.out.1 q)
  clear hW hb0 hT hM hL kT kM kL hn1 hn2 hn3 hm1 hm2 hm3 HL
  have d0 : W.drewN 0 = W := rfl
  have HC1' := Lib.hid (HC1.out 0)
  rw [d0] at HC1'
  clear HC1
  go_enter Try.func103, Try.ntmps103
  go_upto_region 1 with (fail)
  rw [← HBz.out, ← HW.out]
  clear d0
  by_cases e1 : A = A'
  · have HE1 := Lib.hid e1
    rw [decide_eq_true e1] at HC1'
    clear e1
    by_cases e2 : B = B'
    · have HE2 := Lib.hid e2
      rw [decide_eq_true e2] at HC2
      clear e2
      by_cases e3 : C = C'
      · have HD : Hid (decide (A = A' ∧ B = B' ∧ C = C') = true) := Lib.hid (decide_eq_true ⟨HE1.out, HE2.out, e3⟩)
        rw [decide_eq_true e3] at HC3
        clear e3
        go_wp2_with fail
        refine HC1'.out.mono ?_
        rintro e w1 ⟨rfl, p, rfl⟩
        replace q1 : (W.drewN p).cell? _ = _ := q1
        replace p1 : (W.drewN p).cell? _ = _ := p1
        go_wp2_with fail
        refine (HC2.out _).mono ?_
        rintro e w2 ⟨rfl, p', hq'⟩
        have hp' : w2 = W.drewN (p + p') := by rw [hq']; simp [World.drewN, Nat.add_assoc]
        clear hq'
        replace q2 : w2.cell? ⟨b0, 2, none⟩ = some (.slice aL n3 cL) := by rw [hp']; exact q2
        replace p2 : w2.cell? ⟨b0 + 1, 2, none⟩ = some (.slice bL m3 dL) := by rw [hp']; exact p2
        replace HC3 := Lib.hid (HC3.out (p + p'))
        rw [← hp'] at HC3
        have HBw2 : Hid (Below w.heap.size w w2) := Lib.hid (by rw [hp']; exact HBd.out _)
        clear hp'
        go_wp2_with fail
        refine HC3.out.mono ?_
        rintro e w3 ⟨rfl, p'', hp''⟩
        have HBw3 : Hid (Below w.heap.size w w3) := Lib.hid (by rw [hp'']; exact below_drewN HBw2.out _)
        clear hp''
        go_wp2
        go_ret
        exact ⟨by rw [HD.out]; rfl, HBw3.out⟩
      · have HD : Hid (decide (A = A' ∧ B = B' ∧ C = C') = false) := Lib.hid (decide_eq_false (fun h => e3 h.2.2))
        rw [decide_eq_false e3] at HC3
        clear e3
        go_wp2_with fail
        refine HC1'.out.mono ?_
        rintro e w1 ⟨rfl, p, rfl⟩
        replace q1 : (W.drewN p).cell? _ = _ := q1
        replace p1 : (W.drewN p).cell? _ = _ := p1
        go_wp2_with fail
        refine (HC2.out _).mono ?_
        rintro e w2 ⟨rfl, p', hq'⟩
        have hp' : w2 = W.drewN (p + p') := by rw [hq']; simp [World.drewN, Nat.add_assoc]
        clear hq'
        replace q2 : w2.cell? ⟨b0, 2, none⟩ = some (.slice aL n3 cL) := by rw [hp']; exact q2
        replace p2 : w2.cell? ⟨b0 + 1, 2, none⟩ = some (.slice bL m3 dL) := by rw [hp']; exact p2
        replace HC3 := Lib.hid (HC3.out (p + p'))
        rw [← hp'] at HC3
        have HBw2 : Hid (Below w.heap.size w w2) := Lib.hid (by rw [hp']; exact HBd.out _)
        clear hp'
        go_wp2_with fail
        refine HC3.out.mono ?_
        rintro e w3 ⟨rfl, p'', hp''⟩
        have HBw3 : Hid (Below w.heap.size w w3) := Lib.hid (by rw [hp'']; exact below_drewN HBw2.out _)
        clear hp''
        go_wp2
        go_ret
        exact ⟨by rw [HD.out]; rfl, HBw3.out⟩
    · have HNe : Hid (¬ (A = A' ∧ B = B' ∧ C = C')) := Lib.hid (fun h => e2 h.2.1)
      rw [decide_eq_false e2] at HC2
      clear e2
      go_wp2_with fail
      refine HC1'.out.mono ?_
      rintro e w1 ⟨rfl, p, rfl⟩
      replace q1 : (W.drewN p).cell? _ = _ := q1
      replace p1 : (W.drewN p).cell? _ = _ := p1
      go_wp2_with fail
      refine (HC2.out _).mono ?_
      rintro e w2 ⟨rfl, p', hp'⟩
      have HBw2 : Hid (Below w.heap.size w w2) := Lib.hid (by rw [hp']; exact below_drewN (HBd.out _) _)
      clear hp'
      go_wp2
      go_ret
      exact ⟨by rw [decide_eq_false HNe.out]; rfl, HBw2.out⟩
  · have HNe : Hid (¬ (A = A' ∧ B = B' ∧ C = C')) := Lib.hid (fun h => e1 h.1)
    rw [decide_eq_false e1] at HC1'
    clear e1
    go_wp2_with fail
    refine HC1'.out.mono ?_
    rintro e w1 ⟨rfl, p, rfl⟩
    go_wp2
    go_ret
    exact ⟨by rw [decide_eq_false HNe.out]; rfl, HBd.out _⟩

/-- a number counted round -/
def placeN (i : Int) (n : Nat) : Nat := (i % (n : Int)).toNat
theorem placeN_lt {i : Int} {n : Nat} (h : 0 < n) : placeN i n < n := by
  unfold placeN
  have := Int.emod_lt_of_pos i (show (0 : Int) < n by omega)
  have := Int.emod_nonneg i (show (n : Int) ≠ 0 by omega)
  omega
set_option maxHeartbeats 1600000 in
theorem place_walk (i : Int) (n : Nat) (w : World) (h0 : 0 < n) (hn : n ≤ 1152921504606846976) (hi : -9223372036854775808 ≤ i ∧ i ≤ 9223372036854775807) :
    Calls Try.prog 102 #[.int .i64 i, .int .i64 (n : Nat)] w fun e w' => e = .returned (.int .i64 ((placeN i n : Nat) : Int)) ∧ w = w' := by
  have hp : (placeN i n : Int) = i % (n : Int) := by
    unfold placeN
    have := Int.emod_nonneg i (show (n : Int) ≠ 0 by omega)
    omega
  have hm1 := Int.emod_lt_of_pos i (show (0 : Int) < n by omega)
  have hm0 := Int.emod_nonneg i (show (n : Int) ≠ 0 by omega)
  have hne : ((n : Int) == 0) = false := by simp; omega
  have ht : i.tmod (n : Int) = if i < 0 ∧ i % (n : Int) ≠ 0 then i % (n : Int) - (n : Int) else i % (n : Int) := by
    rw [Int.tmod_eq_emod]
    by_cases h : 0 ≤ i
    · rw [if_pos (.inl h), if_neg (by omega)]; omega
    · by_cases hd : (n : Int) ∣ i
      · rw [if_pos (.inr hd), if_neg (by rw [Int.emod_eq_zero_of_dvd hd]; simp)]; omega
      · rw [if_neg (by simp [h, hd]), if_pos ⟨by omega, fun e => hd (Int.dvd_of_emod_eq_zero e)⟩]
        have : ((n : Int).natAbs : Int) = n := by simp
        omega
  have HP := Lib.hid hp; clear hp
  obtain ⟨t, htd⟩ : ∃ t, t = i.tmod (n : Int) := ⟨_, rfl⟩
  rw [← htd] at ht
  by_cases hneg : i < 0 ∧ i % (n : Int) ≠ 0
  · rw [if_pos hneg] at ht
    have h1 : t < 0 := by omega
    have h2 : t + (n : Int) = (placeN i n : Int) := by have := HP.out; omega
    have hw : IntKind.i64.wrap t = t := IntWalk.i64_in _ (by omega)
    have hw' : IntKind.i64.wrap (i.tmod (n : Int)) = t := by rw [← htd]; exact hw
    have hw2 : IntKind.i64.wrap (t + (n : Int)) = (placeN i n : Int) := by rw [IntWalk.i64_in _ (by omega)]; exact h2
    have hw3 : wrap64 (t + (n : Int)) = (placeN i n : Int) := by rw [← h2]; unfold wrap64; omega
    rw [htd] at h1 hw3
    have d1 : decide (i.tmod (n : Int) < 0) = true := decide_eq_true h1
    clear ht htd hm1 hm0 hneg HP hw hw' hw2
    go_enter Try.func102, Try.ntmps102
    go_wp2
    go_ret
    exact ⟨by show Ending.returned (Value.int .i64 (wrap64 _)) = _; rw [hw3], rfl⟩
  · rw [if_neg hneg] at ht
    have h1 : ¬ t < 0 := by omega
    have h2 : t = (placeN i n : Int) := by have := HP.out; omega
    have hw : IntKind.i64.wrap t = t := IntWalk.i64_in _ (by omega)
    have hw' : IntKind.i64.wrap (i.tmod (n : Int)) = t := by rw [← htd]; exact hw
    rw [htd] at h1 h2
    have d1 : decide (i.tmod (n : Int) < 0) = false := decide_eq_false h1
    clear ht htd hm1 hm0 hneg HP hw hw'
    have H2 := Lib.hid h2; clear h2
    go_enter Try.func102, Try.ntmps102
    go_wp2
    go_ret
    exact ⟨by rw [← H2.out]; rfl, rfl⟩
end Go.Proofs.Ytabbabkmojaoaaa

/-
  A region that draws its order: more lanes (a list is copied; a row of the call's own gets a literal behind it, in place or anew).
-/
namespace Go.Proofs.Ytabbabkmojaoaaa
open Go.RowKit

/-- a lane: a list is copied -/
def cpJ (i s z : Nat) (E : TypeId) (n : Nat) (xs : List Value) (l : Array Bool) (t : Array Value) (T : Nat → Prop) (w : World) : Prop :=
  l.getD i false = true → ∃ a c, t[s]? = some (.slice a n c) ∧ w.ownsRow z E 1 (.slice a n c) n xs ∧ ∀ k, (Value.slice a n c).ownBlock = some k → T k
theorem cpJ_loc {i s z : Nat} {E : TypeId} {n : Nat} {xs : List Value} {l l' : Array Bool} {t t' : Array Value} {T : Nat → Prop} {w w' : World} (h : cpJ i s z E n xs l t T w) (h1 : l'.getD i false = l.getD i false) (k1 : t'[s]? = t[s]?) (hk : ∀ k, T k → w'.heap[k]? = w.heap[k]?) : cpJ i s z E n xs l' t' T w' := by
  unfold cpJ at h ⊢
  rw [h1, k1]
  intro e
  obtain ⟨a, c, g1, g2, g3⟩ := h e
  exact ⟨a, c, g1, ownsRow_at g2 (fun k e => hk k (g3 k e)), g3⟩
/-- a lane: a value that reads no memory -/
def ptJ (i s : Nat) (v : Value) (l : Array Bool) (t : Array Value) (T : Nat → Prop) (w : World) : Prop := l.getD i false = true → t[s]? = some v
theorem ptJ_loc {i s : Nat} {v : Value} {l l' : Array Bool} {t t' : Array Value} {T T' : Nat → Prop} {w w' : World} (h : ptJ i s v l t T w) (h1 : l'.getD i false = l.getD i false) (k1 : t'[s]? = t[s]?) : ptJ i s v l' t' T' w' := by
  unfold ptJ at h ⊢
  rw [h1, k1]
  exact h
theorem ptJ_one {P : Program} {i s z : Nat} {v : Value} {l : Array Bool} {a : Act} {T : Nat → Prop} {w : World} {o : Oper} (hd : o.dst = some s) (hs : s < a.tmps.size) (hT : ∀ k, T k → z ≤ k ∧ k < w.heap.size) (hr : (execOp a.eval o).run P w = .ok (.value v) w) :
    ∃ v' w' T', (execOp a.eval o).run P w = .ok (.value v') w' ∧ Off T w w' ∧ Wider T T' w w' ∧ (∀ k, T' k → k < w'.heap.size) ∧ ptJ i s v (l.setIfInBounds i true) (a.put o.dst v').tmps T' w' :=
  ⟨v, w, T, hr, Off.refl _ _, Wider.refl _ _ _, fun k hk => (hT k hk).2, fun _ => put_same hd hs⟩
/-- a lane: a literal is laid, then put behind a row of the call's own -/
def growJ (iB iA sB sA z : Nat) (E : TypeId) (a : Option Addr) (c n m : Nat) (xs ys : List Value) (l : Array Bool) (t : Array Value) (T : Nat → Prop) (w : World) : Prop :=
  (l.getD iA false = false → w.ownsRow z E 1 (.slice a n c) n xs ∧ ∀ k, (Value.slice a n c).ownBlock = some k → T k) ∧
  (l.getD iB false = true → l.getD iA false = false → ∃ b, t[sB]? = some (.slice (some ⟨b, 0, none⟩) m m) ∧ (∀ j v, ys[j]? = some v → w.cell? ⟨b, j, none⟩ = some v) ∧ T b) ∧
  (l.getD iA false = true → ∃ a' c', t[sA]? = some (.slice a' (n + m) c') ∧ w.ownsRow z E 1 (.slice a' (n + m) c') (n + m) (xs ++ ys) ∧ ∀ k, (Value.slice a' (n + m) c').ownBlock = some k → T k) ∧
  (l.getD iA false = true → l.getD iB false = true)
theorem growJ_loc {iB iA sB sA z : Nat} {E : TypeId} {a : Option Addr} {c n m : Nat} {xs ys : List Value} {l l' : Array Bool} {t t' : Array Value} {T : Nat → Prop} {w w' : World} (h : growJ iB iA sB sA z E a c n m xs ys l t T w)
    (h1 : l'.getD iB false = l.getD iB false) (h2 : l'.getD iA false = l.getD iA false) (k1 : t'[sB]? = t[sB]?) (k2 : t'[sA]? = t[sA]?) (hk : ∀ k, T k → w'.heap[k]? = w.heap[k]?) : growJ iB iA sB sA z E a c n m xs ys l' t' T w' := by
  unfold growJ at h ⊢
  rw [h1, h2, k1, k2]
  refine ⟨fun e => ?_, fun e1 e2 => ?_, fun e => ?_, h.2.2.2⟩
  · obtain ⟨g1, g2⟩ := h.1 e
    exact ⟨ownsRow_at g1 (fun k e => hk k (g2 k e)), g2⟩
  · obtain ⟨b, g1, g2, g3⟩ := h.2.1 e1 e2
    exact ⟨b, g1, fun j v hv => by rw [World.cell?_of_block (w := w) (a := ⟨b, j, none⟩) (hk b g3)]; exact g2 j v hv, g3⟩
  · obtain ⟨a', c', g1, g2, g3⟩ := h.2.2.1 e
    exact ⟨a', c', g1, ownsRow_at g2 (fun k e => hk k (g3 k e)), g3⟩
section
variable {P : Program} {tS E : TypeId} {zv : Value} {bytes : Nat} {i s iB iA sB sA z : Nat} {n m : Nat} {xs ys : List Value} {l : Array Bool} {a : Act} {T : Nat → Prop} {w : World}
theorem cpJ_one (el : ElemN P tS E zv 1 bytes) {o : Oper} (hd : o.dst = some s) (hs : s < a.tmps.size) {x : Operand} (ho : o.op = .call { callee := .builtin .append, args := #[.const (.slice none 0 0), x], argTypes := #[tS, tS] })
    (hz : z ≤ w.heap.size) (hT : ∀ k, T k → z ≤ k ∧ k < w.heap.size)
    {ax : Option Addr} {cx : Nat} (hx : a.eval x = .slice ax n cx) (hxs : xs.length = n) (hsrc : ∀ j v, xs[j]? = some v → ∃ ad, ax = some ad ∧ w.cell? (ad.add j) = some v) (hnone : ax = none → cx = 0) (hone : ∀ u ∈ xs, u.oneCell' = true) (hn : n * bytes ≤ 140737488355328) (hm : n ≤ maxLen) :
    ∃ v w' T', (execOp a.eval o).run P w = .ok (.value v) w' ∧ Off T w w' ∧ Wider T T' w w' ∧ (∀ k, T' k → k < w'.heap.size) ∧ cpJ i s z E n xs (l.setIfInBounds i true) (a.put o.dst v).tmps T' w' := by
  obtain ⟨a', c', w', hr, ho', hg, hn'⟩ := exec_appSN el (act := a) (.const (.slice none 0 0)) x ho (World.ownsRow_nil w z E 1) hz (ys := xs) (by simpa using hxs) hsrc hnone hone (by simpa using hn) (by simpa using hm) rfl hx
  rw [Nat.zero_add] at hr ho' hn'
  rw [List.nil_append] at ho'
  refine ⟨_, w', fun k => T k ∨ (w.heap.size ≤ k ∧ k < w'.heap.size), hr, off_of_grown hg (fun k e => by cases e), fun k hk => hk, fun k hk => ?_, ?_⟩
  · rcases hk with h | h
    · exact Nat.lt_of_lt_of_le (hT k h).2 hg.size
    · exact h.2
  · intro _
    refine ⟨a', c', put_same hd hs, ho', fun k e => ?_⟩
    rcases hn' with h | ⟨g, h, hg2⟩
    · rw [h] at e; cases e
    · have hl := (World.ownsRow.lt ho' k e).2
      rw [h] at e
      cases e
      exact .inr ⟨hg2, hl⟩
theorem growJ_lit {a0 : Option Addr} {c0 : Nat} (hAB : iB ≠ iA) {o : Oper} (hd : o.dst = some sB) (hs : sB < a.tmps.size) (hi : iB < l.size) (hu : l.getD iB true = false) (hJ : growJ iB iA sB sA z E a0 c0 n m xs ys l a.tmps T w) (hT : ∀ k, T k → z ≤ k ∧ k < w.heap.size)
    (hr : (execOp a.eval o).run P w = .ok (.value (.slice (some ⟨w.heap.size, 0, none⟩) m m)) (w.alloc (.cells ys.toArray E))) :
    ∃ v w' T', (execOp a.eval o).run P w = .ok (.value v) w' ∧ Off T w w' ∧ Wider T T' w w' ∧ (∀ k, T' k → k < w'.heap.size) ∧ growJ iB iA sB sA z E a0 c0 n m xs ys (l.setIfInBounds iB true) (a.put o.dst v).tmps T' w' := by
  have h3 : l.getD iA false = false := by
    cases h : l.getD iA false with
    | false => rfl
    | true => have := hJ.2.2.2 h; rw [getD_tf hu] at this; cases this
  refine ⟨_, _, fun k => T k ∨ (w.heap.size ≤ k ∧ k < (w.alloc (.cells ys.toArray E)).heap.size), hr, Off.alloc T w _, fun k hk => hk, fun k hk => ?_, ?_⟩
  · rcases hk with h | h
    · have := (hT k h).2; rw [World.size_alloc]; omega
    · exact h.2
  · unfold growJ
    rw [getD_set_eq2 true hi, getD_set_ne2 true hAB]
    refine ⟨fun e => ?_, fun _ _ => ⟨w.heap.size, put_same hd hs, fun j v hv => ?_, .inr ⟨Nat.le_refl _, by rw [World.size_alloc]; omega⟩⟩, (fun e => by rw [h3] at e; cases e), fun _ => rfl⟩
    · obtain ⟨g1, g2⟩ := hJ.1 e
      exact ⟨World.ownsRow.alloc g1 _, fun k e => .inl (g2 k e)⟩
    · rw [cell_of_row _ w.heap.size j _ _ (0, 0) (heap_alloc_new w _), List.getElem?_toArray]; exact hv
theorem growJ_app {a0 : Option Addr} {c0 : Nat} (el : ElemN P tS E zv 1 bytes) (hAB : iA ≠ iB) {o : Oper} (hd : o.dst = some sA) (hs : sA < a.tmps.size) {x : Operand} (ho : o.op = .call { callee := .builtin .append, args := #[x, .tmp sB], argTypes := #[tS, tS] }) (hx : a.eval x = .slice a0 n c0)
    (hi : iA < l.size) (h2 : l.getD iB false = true) (h3 : l.getD iA false = false) (hJ : growJ iB iA sB sA z E a0 c0 n m xs ys l a.tmps T w) (hz : z ≤ w.heap.size) (hT : ∀ k, T k → z ≤ k ∧ k < w.heap.size)
    (hys : ys.length = m) (hone : ∀ u ∈ ys, u.oneCell' = true) (hn : (n + m) * bytes ≤ 140737488355328) (hm : n + m ≤ maxLen) :
    ∃ v w' T', (execOp a.eval o).run P w = .ok (.value v) w' ∧ Off T w w' ∧ Wider T T' w w' ∧ (∀ k, T' k → k < w'.heap.size) ∧ growJ iB iA sB sA z E a0 c0 n m xs ys (l.setIfInBounds iA true) (a.put o.dst v).tmps T' w' := by
  obtain ⟨g2, g3⟩ := hJ.1 h3
  obtain ⟨b, k1, k2, k3⟩ := hJ.2.1 h2 h3
  obtain ⟨a', c', w', hr, ho', hg, hn'⟩ := exec_appSN el (act := a) x (.tmp sB) ho g2 hz (a2 := some ⟨b, 0, none⟩) (m := m) (c := m) (ys := ys) (by simpa using hys) (fun j v hv => ⟨_, rfl, by rw [Addr.add_lit]; have := k2 j v hv; simpa using this⟩) (fun e => by cases e) hone hn hm hx (eval_slot k1)
  have hoff : Off T w w' := off_of_grown hg g3
  refine ⟨_, w', fun k => T k ∨ (w.heap.size ≤ k ∧ k < w'.heap.size), hr, hoff, fun k hk => hk, fun k hk => ?_, ?_⟩
  · rcases hk with h | h
    · exact Nat.lt_of_lt_of_le (hT k h).2 hg.size
    · exact h.2
  · unfold growJ
    rw [getD_set_eq2 true hi, getD_set_ne2 true hAB]
    refine ⟨(fun e => by cases e), (fun _ e => by cases e), fun _ => ⟨a', c', put_same hd hs, ho', fun k e => ?_⟩, fun _ => h2⟩
    rcases hn' with h | ⟨g, h, hg2⟩
    · rw [h] at e; exact .inl (g3 k e)
    · have hl := (World.ownsRow.lt ho' k e).2
      rw [h] at e
      cases e
      exact .inr ⟨hg2, hl⟩
end
end Go.Proofs.Ytabbabkmojaoaaa

/-
  Plain laws of TrieReads: parts that 'From' takes are those of the function that they tell.
-/
namespace Go.Proofs.Ytabbabkmojaoaaa

/-- the value that parts give of a number -/
def partF (zT zM : List Nat) (zL : List Int) (r : Nat) : Int := zL.getD (64 * (zM.getD (64 * (zT.getD (r / 4096) 0) + r / 64 % 64) 0) + r % 64) 0
theorem ck_get {β : Type} (z : List β) (q j : Nat) (hj : j < 64) : ((z.drop (64 * q)).take 64)[j]? = z[64 * q + j]? := by simp [List.getElem?_take, hj]
theorem blkF_part (zT zM : List Nat) (zL : List Int) (KL k x : Nat) (hl : zL.length = 64 * KL) (hx : x < KL) (e : zM.getD (64 * zT.getD (k / 64) 0 + k % 64) 0 = x) : blkF (partF zT zM zL) k = ckL zL x := by
  apply List.ext_getElem?
  intro i
  unfold blkF
  rw [List.getElem?_map]
  by_cases hi : i < 64
  · rw [List.getElem?_range hi, ckL_get zL x i hi]
    simp only [Option.map_some, partF]
    rw [show (64 * k + i) / 4096 = k / 64 by omega, show (64 * k + i) / 64 % 64 = k % 64 by omega, show (64 * k + i) % 64 = i by omega, e]
    rw [List.getD_eq_getElem?_getD, List.getElem?_eq_getElem (by omega)]
    rfl
  · rw [List.getElem?_eq_none (by simp; omega), List.getElem?_eq_none (by rw [ckL_length zL KL x hl hx]; omega)]
    rfl
theorem nodup_at {β : Type} {C : List β} (h : C.Nodup) {i j : Nat} (hi : i < C.length) (hj : j < C.length) (e : C[i] = C[j]) : i = j := by
  have h1 := List.pairwise_iff_getElem.1 (List.nodup_iff_pairwise_ne.1 h)
  rcases Nat.lt_trichotomy i j with h2 | h2 | h2
  · exact absurd e (h1 i j hi hj h2)
  · exact h2
  · exact absurd e.symm (h1 j i hj hi h2)
theorem numB_old {β : Type} [DecidableEq β] {C : List (List β)} (hn : C.Nodup) (hl : ∀ l ∈ C, l.length = 64) {b x : Nat} (hb : b ≤ C.length) (hx : x < b) : numB (fun x y => decide (x = y)) (C.take b) (C[x]'(by omega)) = (C.take b, x) := by
  have hxl : x < C.length := by omega
  rcases numB_cases (L := C.take b) (b := C[x]) (fun m hm => by rw [hl m (List.mem_of_mem_take hm), hl _ (List.getElem_mem hxl)]) with ⟨k, hk, h1, h2⟩ | ⟨h1, h2⟩
  · rw [h2]
    rw [List.length_take] at hk
    rw [List.getElem?_take_of_lt (by omega), List.getElem?_eq_getElem (by omega)] at h1
    rw [nodup_at hn (by omega) hxl (Option.some.inj h1)]
  · exact absurd (List.mem_take_iff_getElem.2 ⟨x, by omega, rfl⟩) h1
theorem numB_new {β : Type} [DecidableEq β] {C : List (List β)} (hn : C.Nodup) (hl : ∀ l ∈ C, l.length = 64) {b : Nat} (hb : b < C.length) : numB (fun x y => decide (x = y)) (C.take b) C[b] = (C.take (b + 1), b) := by
  rcases numB_cases (L := C.take b) (b := C[b]) (fun m hm => by rw [hl m (List.mem_of_mem_take hm), hl _ (List.getElem_mem hb)]) with ⟨k, hk, h1, h2⟩ | ⟨h1, h2⟩
  · rw [List.length_take] at hk
    rw [List.getElem?_take_of_lt (by omega), List.getElem?_eq_getElem (by omega)] at h1
    have := nodup_at hn (by omega) hb (Option.some.inj h1)
    omega
  · rw [h2, List.take_succ_eq_append_getElem hb, List.length_take, Nat.min_eq_left (by omega)]
theorem numsF_next {many : Nat} {l l' : List Nat} {x n a m : Nat} (h : numsF many (fun _ => true) (l ++ x :: l') n = some m) (ha : numsF many (fun _ => true) l n = some a) : (x = a ∧ a < many ∧ numsF many (fun _ => true) (l ++ [x]) n = some (a + 1)) ∨ (x < a ∧ numsF many (fun _ => true) (l ++ [x]) n = some a) := by
  rw [numsF_append, ha] at h
  rw [numsF_append, ha]
  simp only [Option.bind_some] at h ⊢
  rw [numsF] at h
  split at h
  · rename_i hc
    exact .inl ⟨hc.1, hc.2, by rw [hc.1]; exact numsF_one_new _ _ hc.2⟩
  · split at h
    · cases h
    · rename_i hc hd
      have hx : x < a := by
        have : ¬ a ≤ x := fun e => hd (.inl e)
        omega
      exact .inr ⟨hx, numsF_one_old _ _ _ hx⟩
theorem row_append (zM : List Nat) (a KM i : Nat) (hz : zM.length = 64 * KM) (ha : a < KM) (hi : i < 64) : ∃ x l, zM[64 * a + i]? = some x ∧ zM = (zM.take (64 * a) ++ (VN.ckL zM a).take i) ++ x :: l ∧ (VN.ckL zM a).take (i + 1) = (VN.ckL zM a).take i ++ [x] := by
  have hlt : 64 * a + i < zM.length := by omega
  refine ⟨zM[64 * a + i], zM.drop (64 * a + i + 1), List.getElem?_eq_getElem hlt, ?_, ?_⟩
  · have h1 : zM.take (64 * a) ++ (VN.ckL zM a).take i = zM.take (64 * a + i) := by
      unfold VN.ckL
      rw [List.take_take, Nat.min_eq_left (by omega), List.take_add]
    rw [h1, ← List.drop_eq_getElem_cons hlt, List.take_append_drop]
  · have hl := VN.ckL_length zM KM a hz ha
    rw [List.take_succ_eq_append_getElem (by omega)]
    congr 2
    have h2 := VN.ckL_get zM a i hi
    rw [List.getElem?_eq_getElem (by omega), List.getElem?_eq_getElem hlt] at h2
    exact Option.some.inj h2
/-- what the maker has after k blocks of the function that parts tell -/
structure RdI (zT zM : List Nat) (zL : List Int) (KM KL k : Nat) (S : MkS Int) (a b : Nat) : Prop where
  al : a ≤ KM
  bl : b ≤ KL
  na : numsF KM (fun _ => true) (zT.take (k / 64)) 0 = some a
  mids : S.mids = (VN.cksL zM KM).take a
  nb : numsF KL (fun _ => true) (zM.take (64 * a) ++ (VN.ckL zM (zT.getD (k / 64) 0)).take (k % 64)) 0 = some b
  lows : S.lows = (cksL zL KL).take b
  cur : S.cur.take (k % 64) = (VN.ckL zM (zT.getD (k / 64) 0)).take (k % 64)
  top : S.top.take (k / 64) = zT.take (k / 64)
theorem cksL_get (zs : List Int) (K q : Nat) (h : q < (cksL zs K).length) : (cksL zs K)[q] = ckL zs q := by simp [cksL]
theorem VN.cksL_get (zs : List Nat) (K q : Nat) (h : q < (VN.cksL zs K).length) : (VN.cksL zs K)[q] = VN.ckL zs q := by simp [VN.cksL]
theorem rdI {zT zM : List Nat} {zL : List Int} {KM KL : Nat} (hT : zT.length = 272) (hM : zM.length = 64 * KM) (hL : zL.length = 64 * KL)
    (nm : numsF KL (fun _ => true) zM 0 = some KL) (nt : numsF KM (fun _ => true) zT 0 = some KM) (ul : (cksL zL KL).Nodup) (um : (VN.cksL zM KM).Nodup) :
    ∀ k, k ≤ 17408 → ∃ a b, RdI zT zM zL KM KL k (mkF (partF zT zM zL) k) a b := by
  have lM : (VN.cksL zM KM).length = KM := VN.cksL_length zM KM
  have lL : (cksL zL KL).length = KL := cksL_length zL KL
  have hlM : ∀ l ∈ VN.cksL zM KM, l.length = 64 := fun l hl => by
    unfold VN.cksL at hl
    obtain ⟨q, hq, rfl⟩ := List.mem_map.1 hl
    exact VN.ckL_length zM KM q hM (List.mem_range.1 hq)
  have hlL : ∀ l ∈ cksL zL KL, l.length = 64 := fun l hl => by
    unfold cksL at hl
    obtain ⟨q, hq, rfl⟩ := List.mem_map.1 hl
    exact ckL_length zL KL q hL (List.mem_range.1 hq)
  intro k
  induction k with
  | zero => intro _; exact ⟨0, 0, Nat.zero_le _, Nat.zero_le _, rfl, rfl, rfl, rfl, rfl, rfl⟩
  | succ k ih =>
    intro hk
    obtain ⟨a, b, h⟩ := ih (by omega)
    obtain ⟨hw, hb, -, -⟩ := mkF_ok (partF zT zM zL) k
    obtain ⟨F, hF⟩ : ∃ F, F = partF zT zM zL := ⟨_, rfl⟩
    rw [← hF] at h hw hb ⊢
    obtain ⟨S, hS⟩ : ∃ S, S = mkF F k := ⟨_, rfl⟩
    rw [mkF, ← hS]
    rw [← hS] at h hw hb
    obtain ⟨h1, h2, h3, h4, h5, h6, h7, h8⟩ := h
    have hc : k / 64 < zT.length := by omega
    have hi : k % 64 < 64 := Nat.mod_lt _ (by omega)
    obtain ⟨y, hy⟩ : ∃ y, y = zT.getD (k / 64) 0 := ⟨_, rfl⟩
    have hyg : zT[k / 64] = y := by rw [hy, List.getD_eq_getElem?_getD, List.getElem?_eq_getElem hc]; rfl
    rw [← hy] at h5 h7
    have hsp : zT = zT.take (k / 64) ++ y :: zT.drop (k / 64 + 1) := by
      rw [← hyg, ← List.drop_eq_getElem_cons hc, List.take_append_drop]
    have hY := numsF_next (l := zT.take (k / 64)) (x := y) (l' := zT.drop (k / 64 + 1)) (hsp ▸ nt) h3
    have hyk : y < KM := by rcases hY with h | h <;> omega
    obtain ⟨x, l, hx1, hx2, hx3⟩ := row_append zM y KM (k % 64) hM hyk hi
    have hX : (x = b ∧ b < KL ∧ numsF KL (fun _ => true) (zM.take (64 * a) ++ (VN.ckL zM y).take (k % 64 + 1)) 0 = some (b + 1)) ∨ (x < b ∧ numsF KL (fun _ => true) (zM.take (64 * a) ++ (VN.ckL zM y).take (k % 64 + 1)) 0 = some b) := by
      rw [hx3, ← List.append_assoc]
      by_cases hya : y < a
      · have hmem : x ∈ zM.take (64 * a) ++ (VN.ckL zM y).take (k % 64) := List.mem_append_left _ (List.mem_take_iff_getElem.2 ⟨64 * y + k % 64, by omega, (List.getElem?_eq_some_iff.1 hx1).2⟩)
        have hxb := (numsF_bound h5).2 x hmem
        refine .inr ⟨hxb, ?_⟩
        rw [numsF_append, h5]
        exact numsF_one_old _ _ _ hxb
      · have hya : y = a := by rcases hY with h | h <;> omega
        subst hya
        exact numsF_next (l' := l) (hx2 ▸ nm) h5
    have hxl : x < KL := by rcases hX with h | h <;> omega
    have hgx : zM.getD (64 * zT.getD (k / 64) 0 + k % 64) 0 = x := by
      rw [← hy, List.getD_eq_getElem?_getD, hx1]; rfl
    have hblk : blkF F k = ckL zL x := by rw [hF]; exact blkF_part zT zM zL KL k x hL hxl hgx
    have hN : ∃ b', b' ≤ KL ∧ numB eq8 S.lows (blkF F k) = ((cksL zL KL).take b', x) ∧ numsF KL (fun _ => true) (zM.take (64 * a) ++ (VN.ckL zM y).take (k % 64 + 1)) 0 = some b' := by
      rw [h6, hblk, ← cksL_get zL KL x (by omega)]
      rcases hX with ⟨rfl, e2, e3⟩ | ⟨e1, e2⟩
      · exact ⟨x + 1, by omega, numB_new ul hlL (by omega), e3⟩
      · exact ⟨b, h2, numB_old ul hlL (by omega) e1, e2⟩
    obtain ⟨b', hb', hN1, hN2⟩ := hN
    have hcl : k % 64 < S.cur.length := by rw [hw.cur]; omega
    have hset : (S.cur.set (k % 64) x).take (k % 64 + 1) = (VN.ckL zM y).take (k % 64 + 1) := by
      rw [List.take_succ_eq_append_getElem (by simpa using hcl), hx3, ← h7]
      simp [List.take_set]
      exact List.set_eq_of_length_le (by simp; omega)
    by_cases hf : (k + 1) % 64 = 0
    · have hq : (k + 1) / 64 = k / 64 + 1 := by omega
      have h63 : k % 64 + 1 = 64 := by omega
      have hcy := VN.ckL_length zM KM y hM hyk
      rw [h63] at hset hN2
      rw [List.take_of_length_le (l := VN.ckL zM y) (by omega)] at hset hN2
      rw [List.take_of_length_le (by simp [hw.cur])] at hset
      rw [addS_full (by rw [hb]; exact hf)]
      simp only [hb, hN1, hset]
      have htl : k / 64 < S.top.length := by rw [hw.top]; omega
      have htop : (S.top.set (k / 64) y).take (k / 64 + 1) = zT.take (k / 64 + 1) := by
        rw [List.take_succ_eq_append_getElem (by simpa using htl), List.take_succ_eq_append_getElem hc, hyg, ← h8]
        simp [List.take_set]
        exact List.set_eq_of_length_le (by simp; omega)
      have htt : zT.take (k / 64) ++ [y] = zT.take (k / 64 + 1) := by rw [List.take_succ_eq_append_getElem hc, hyg]
      rw [h4, ← VN.cksL_get zM KM y (by omega)]
      rcases hY with ⟨rfl, e2, e3⟩ | ⟨e1, e2⟩
      · have hB : numB eq16 ((VN.cksL zM KM).take y) ((VN.cksL zM KM)[y]'(by omega)) = ((VN.cksL zM KM).take (y + 1), y) := numB_new um hlM (by omega)
        rw [hB]
        refine ⟨y + 1, b', by omega, hb', by rw [hq, ← htt]; exact e3, rfl, ?_, rfl, by rw [hf]; rfl, by rw [hq]; exact htop⟩
        rw [hf, List.take_zero, List.append_nil, show 64 * (y + 1) = 64 * y + 64 by omega, List.take_add]
        exact hN2
      · have hB : numB eq16 ((VN.cksL zM KM).take a) ((VN.cksL zM KM)[y]'(by omega)) = ((VN.cksL zM KM).take a, y) := numB_old um hlM (by omega) e1
        rw [hB]
        refine ⟨a, b', by omega, hb', by rw [hq, ← htt]; exact e2, rfl, ?_, rfl, by rw [hf]; rfl, by rw [hq]; exact htop⟩
        rw [hf, List.take_zero, List.append_nil]
        rw [numsF_append] at hN2
        cases e : numsF KL (fun _ => true) (zM.take (64 * a)) 0 with
        | none => rw [e] at hN2; cases hN2
        | some n' =>
          have e4 := (numsF_bound e).2
          rw [e] at hN2
          rw [← hN2]
          refine (numsF_old _ _ _ (fun z hz => e4 z ?_)).symm
          unfold VN.ckL at hz
          obtain ⟨j, hj, rfl⟩ := List.mem_iff_getElem.1 hz
          rw [List.length_take, List.length_drop] at hj
          rw [List.getElem_take, List.getElem_drop]
          exact List.mem_take_iff_getElem.2 ⟨64 * y + j, by omega, rfl⟩
    · have hq : (k + 1) / 64 = k / 64 := by omega
      have hm : (k + 1) % 64 = k % 64 + 1 := by omega
      rw [addS_less (by rw [hb]; exact hf)]
      simp only [hb, hN1]
      exact ⟨a, b', h1, hb', by rw [hq]; exact h3, h4, by rw [hq, hm, ← hy]; exact hN2, rfl, by rw [hq, hm, ← hy]; exact hset, by rw [hq]; exact h8⟩
theorem ck_join {β : Type} (z : List β) : ∀ K, z.length = 64 * K → ((List.range K).map (fun q => (z.drop (64 * q)).take 64)).flatten = z := by
  intro K h
  have key : ∀ K, 64 * K ≤ z.length → ((List.range K).map (fun q => (z.drop (64 * q)).take 64)).flatten = z.take (64 * K) := by
    intro K
    induction K with
    | zero => intro _; simp
    | succ K ih =>
      intro hK
      rw [List.range_succ, List.map_append, List.flatten_append, ih (by omega)]
      simp only [List.map_cons, List.map_nil, List.flatten_cons, List.flatten_nil, List.append_nil]
      rw [show 64 * (K + 1) = 64 * K + 64 by omega, List.take_add]
  rw [key K (by omega), List.take_of_length_le (by omega)]
/-- the parts are in range: each number leads to a value -/
def PartsIn (zT zM : List Nat) (zL : List Int) : Prop := ∀ r, r ≤ 1114111 → 64 * zT.getD (r / 4096) 0 + r / 64 % 64 < zM.length ∧ 64 * (zM.getD (64 * zT.getD (r / 4096) 0 + r / 64 % 64) 0) + r % 64 < zL.length
theorem fromOk_iff (zT zM : List Nat) (zL : List Int) (M : Nat) (hM : M = 17408) :
    FromOk zT zM zL ↔ zT.length = 272 ∧ PartsIn zT zM zL ∧ (mkF (partF zT zM zL) M).top = zT ∧ (mkF (partF zT zM zL) M).mids.flatten = zM ∧ (mkF (partF zT zM zL) M).lows.flatten = zL := by
  constructor
  · intro h
    obtain ⟨KM, hKM⟩ : ∃ KM, KM = zM.length / 64 := ⟨_, rfl⟩
    obtain ⟨KL, hKL⟩ : ∃ KL, KL = zL.length / 64 := ⟨_, rfl⟩
    have h64 := h.m64
    have h65 := h.l64
    have hm : zM.length = 64 * KM := by omega
    have hl : zL.length = 64 * KL := by omega
    have nm := h.nm
    have nt := h.nt
    have ul := h.ul
    have um := h.um
    rw [← hKL] at nm ul
    rw [← hKM] at nt um
    have lL : (cksL zL KL).length = KL := cksL_length zL KL
    have lM : (VN.cksL zM KM).length = KM := VN.cksL_length zM KM
    have hlM : ∀ l ∈ VN.cksL zM KM, l.length = 64 := fun l hl => by
      unfold VN.cksL at hl
      obtain ⟨q, hq, rfl⟩ := List.mem_map.1 hl
      exact VN.ckL_length zM KM q hm (List.mem_range.1 hq)
    have hlL : ∀ l ∈ cksL zL KL, l.length = 64 := fun l hl2 => by
      unfold cksL at hl2
      obtain ⟨q, hq, rfl⟩ := List.mem_map.1 hl2
      exact ckL_length zL KL q hl (List.mem_range.1 hq)
    have ul2 : (cksL zL KL).Nodup := (unL_iff hlL).1 (fun k h1 _ => ul k h1 (by omega))
    have um2 : (VN.cksL zM KM).Nodup := (unL_iff hlM).1 (fun k h1 _ => um k h1 (by omega))
    obtain ⟨a, b, hr⟩ := rdI h.t hm hl nm nt ul2 um2 M (by omega)
    obtain ⟨hw, -, -, -⟩ := mkF_ok (partF zT zM zL) M
    have hT := h.t
    have q1 : M / 64 = 272 := by omega
    have q2 : M % 64 = 0 := by omega
    obtain ⟨r1, r2, r3, r4, r5, r6, r7, r8⟩ := hr
    rw [q1, List.take_of_length_le (by omega), nt] at r3
    cases r3
    rw [q1, List.take_of_length_le (by rw [hw.top]; omega), List.take_of_length_le (by omega)] at r8
    rw [q2, List.take_zero, List.append_nil, List.take_of_length_le (by omega), nm] at r5
    cases r5
    rw [List.take_of_length_le (by omega)] at r4 r6
    have hbT := (numsF_bound nt).2
    have hbM := (numsF_bound nm).2
    refine ⟨hT, fun r hr => ?_, r8, by rw [r4]; exact ck_join zM KM hm, by rw [r6]; exact ck_join zL KL hl⟩
    have hc : r / 4096 < zT.length := by omega
    have e1 : zT.getD (r / 4096) 0 < KM := by
      rw [List.getD_eq_getElem?_getD, List.getElem?_eq_getElem hc]
      exact hbT _ (List.getElem_mem hc)
    have e2 : 64 * zT.getD (r / 4096) 0 + r / 64 % 64 < zM.length := by omega
    refine ⟨e2, ?_⟩
    have e3 : zM.getD (64 * zT.getD (r / 4096) 0 + r / 64 % 64) 0 < KL := by
      rw [List.getD_eq_getElem?_getD, List.getElem?_eq_getElem e2]
      exact hbM _ (List.getElem_mem e2)
    omega
  · rintro ⟨h1, h2, h3, h4, h5⟩
    have hS := made8 (partF zT zM zL) M hM
    have := (hS.fromOk).1
    rw [h3, h4, h5] at this
    exact this
theorem fromOk_made {zT zM : List Nat} {zL : List Int} (M : Nat) (hM : M = 17408) (h : FromOk zT zM zL) : Made8 (partF zT zM zL) (mkF (partF zT zM zL) M) ∧ fromT zT zM zL = trieS (mkF (partF zT zM zL) M) := by
  have hS := made8 (partF zT zM zL) M hM
  refine ⟨hS, ?_⟩
  obtain ⟨-, -, h3, h4, h5⟩ := (fromOk_iff zT zM zL M hM).1 h
  have h6 := hS.fromOk.2
  rw [h3, h4, h5] at h6
  exact h6
end Go.Proofs.Ytabbabkmojaoaaa

/-
  TrieReads: parts as numbers ('stages').
-/
namespace Go.Proofs.Ytabbabkmojaoaaa
open Go.RowKit
attribute [local go_sem] Oper.semAt_some

theorem Try.elemIntR : Elem Try.prog 61 3 (.int .i64 0) 8 := ⟨Try.underlying61, by kernel_rfl, by decide⟩
/-- parts of numbers -/
def PartsV (w : World) (pv : Value) (zT zM : List Nat) (zL : List Int) : Prop := ∃ aT cT aM cM aL cL, pv = .agg #[.slice aT zT.length cT, .slice aM zM.length cM, .slice aL zL.length cL] ∧ Ints .u16 w aT (natsI zT) ∧ Ints .u16 w aM (natsI zM) ∧ Ints .u8 w aL zL
theorem PartsV.below {w w' : World} {pv : Value} {zT zM : List Nat} {zL : List Int} (h : PartsV w pv zT zM zL) (hb : Below w.heap.size w w') : PartsV w' pv zT zM zL := by
  obtain ⟨_, _, _, _, _, _, e, h1, h2, h3⟩ := h
  exact ⟨_, _, _, _, _, _, e, h1.below hb (Nat.le_refl _), h2.below hb (Nat.le_refl _), h3.below hb (Nat.le_refl _)⟩
/-- one of the three rows on its way -/
def StR (v : World) (bs n : Nat) (zs : List Int) (mk : Value → List Value) (iv : Value) (W : World) : Prop := ∃ (k : Nat) (a : Option Addr) (c : Nat), k ≤ n ∧ iv = .int .i64 (k : Nat) ∧ Own v.heap.size 3 W a k c (ivs .i64 (zs.take k)) ∧ W.heap[bs]? = some (.cells (mk (.slice a k c)).toArray 70 (0, 0)) ∧ But v.heap.size (fun b => b = bs) v W
theorem take_snoc {β : Type} (l : List β) (k : Nat) (h : k < l.length) : l.take (k + 1) = l.take k ++ [l[k]] := List.take_succ_eq_append_getElem h
theorem one_vals (w : World) (u : Value) (E : TypeId) : Vals (w.alloc (.cells #[u] E)).drew (some ⟨w.heap.size, 0, none⟩) [u] := by
  intro i hi
  have hi0 : i = 0 := by simp at hi; exact hi
  subst hi0
  refine ⟨w.heap.size, 0, rfl, ?_⟩
  have := cell_of_row (w.alloc (.cells #[u] E)) w.heap.size 0 #[u] E (0, 0) (heap_alloc_new w _)
  exact this
/-- a row more in the box -/
theorem StR.step {v : World} {bs n k : Nat} {zs : List Int} {mk : Value → List Value} {a : Option Addr} {c : Nat} {wr w9 : World} {x : Int} {a9 : Option Addr} {c9 : Nat} {j : Nat} (hbs : bs < v.heap.size) (ho : Own v.heap.size 3 wr a k c (ivs .i64 (zs.take k))) (hb : But v.heap.size (fun b => b = bs) v wr) (hk : k < zs.length) (hx : zs[k] = x) (hkn : k + 1 ≤ n) (hn : zs.length = n)
    {o : Obj} (ho9 : Own v.heap.size 3 w9 a9 (k + 1) c9 (ivs .i64 (zs.take k) ++ [.int .i64 x])) (hg9 : (wr.alloc o).drew.grownBy w9 (Value.slice a k c).ownBlock) (hbox : wr.heap[bs]? = some (.cells (mk (.slice a k c)).toArray 70 (0, 0)))
    (hmk : (mk (.slice a k c)).toArray.setIfInBounds j (.slice a9 (k + 1) c9) = (mk (.slice a9 (k + 1) c9)).toArray) :
    StR v bs n zs mk (.int .i64 ((k + 1 : Nat) : Int)) (w9.setCell ⟨bs, j, none⟩ (.slice a9 (k + 1) c9)) := by
  have hbw : bs < wr.heap.size := (Array.getElem?_eq_some_iff.1 hbox).1
  have hne : ∀ q, (Value.slice a k c).ownBlock = some q → q ≠ bs := fun q e => by have := (World.ownsRow.lt ho q e).1; omega
  have hb9 : w9.heap[bs]? = some (.cells (mk (.slice a k c)).toArray 70 (0, 0)) := by
    rw [hg9.block bs (by simp; omega) (fun e => hne bs e.symm rfl)]
    exact (Below.heap_alloc wr o bs hbw).trans hbox
  have hrow := heap_setCell_same w9 bs j _ _ (.slice a9 (k + 1) c9) hb9
  refine ⟨k + 1, a9, c9, hkn, rfl, ?_, by rw [hrow, hmk], ?_⟩
  · have h1 : Own v.heap.size 3 w9 a9 (k + 1) c9 (ivs .i64 (zs.take (k + 1))) := by rw [take_snoc zs k hk, hx, ivs_append]; exact ho9
    exact h1.grown (grown_store w9 bs j _) (.inr (fun e => by have := (World.ownsRow.lt h1 bs e).1; omega))
  · have h2 : But v.heap.size (fun b => b = bs) v (wr.alloc o).drew := by
      have := hb.alloc hb.size o
      exact ⟨this.os, this.tape, this.output, this.size, this.block⟩
    exact (h2.grown hg9 h2.size (fun q e => .inr (World.ownsRow.lt ho q e).1)).setCell bs j _ (.inl rfl)
structure StK (w : World) (b0 bs : Nat) (pc : Array Value) (V : World) : Prop where
  bel : Below w.heap.size w V
  par : V.heap[b0]? = some (.cells pc 79 (0, 0))
  res : V.heap[b0 + 1]? = some (.cells #[.slice none 0 0, .slice none 0 0, .slice none 0 0] 70 (0, 0))
  sz : b0 + 3 ≤ V.heap.size
  e : bs = b0 + 2
  z : b0 = w.heap.size
theorem StK.but {w V V' : World} {b0 bs : Nat} {pc : Array Value} (h : StK w b0 bs pc V) (hb : But V.heap.size (fun b => b = bs) V V') : StK w b0 bs pc V' := by
  have h1 := h.e
  have h2 := h.z
  have h3 := h.sz
  exact ⟨h.bel.trans (hb.below _ h.bel.size (fun k e => by omega)), hb.keep h.par (by omega) (by omega), hb.keep h.res (by omega) (by omega), Nat.le_trans h.sz hb.size, h.e, h.z⟩
theorem Own.but {B bs : Nat} {E : TypeId} {V V' : World} {a : Option Addr} {n c : Nat} {xs : List Value} (h : Own B E V a n c xs) (hb : But V.heap.size (fun b => b = bs) V V') (hB : bs < B) : Own B E V' a n c xs :=
  ownsRow_at h (fun k e => hb.block k (World.ownsRow.lt h k e).2 (by have := (World.ownsRow.lt h k e).1; omega))
set_option maxRecDepth 100000 in
set_option maxHeartbeats 1600000 in
theorem stages_walk (w : World) (pv : Value) (zT zM : List Nat) (zL : List Int) (h1 : zT.length ≤ 1099511627776) (h2 : zM.length ≤ 1099511627776) (h3 : zL.length ≤ 1099511627776) (r1 : ∀ x ∈ zT, x < 65536) (r2 : ∀ x ∈ zM, x < 65536) (r3 : ∀ x ∈ zL, 0 ≤ x ∧ x ≤ 255) (hp : PartsV w pv zT zM zL) :
    Calls Try.prog 53 #[pv] w fun e w' => ∃ sv, e = .returned sv ∧ ThreeAt w' sv (natsI zT) (natsI zM) zL ∧ Below w.heap.size w w' := by
  obtain ⟨aT, cT, aM, cM, aL, cL, rfl, hT, hM, hL⟩ := hp
  have hnT : (natsI zT).length = zT.length := natsI_length _
  have hnM : (natsI zM).length = zM.length := natsI_length _
  have hrT : ∀ x ∈ natsI zT, 0 ≤ x ∧ x ≤ 65535 := fun x hx => by
    obtain ⟨y, hy, rfl⟩ := List.mem_map.1 hx
    have := r1 y hy; omega
  have hrM : ∀ x ∈ natsI zM, 0 ≤ x ∧ x ≤ 65535 := fun x hx => by
    obtain ⟨y, hy, rfl⟩ := List.mem_map.1 hx
    have := r2 y hy; omega
  generalize natsI zT = yT at *
  generalize natsI zM = yM at *
  obtain ⟨nT, hnT'⟩ : ∃ n, zT.length = n := ⟨_, rfl⟩
  obtain ⟨nM, hnM'⟩ : ∃ n, zM.length = n := ⟨_, rfl⟩
  obtain ⟨nL, hnL⟩ : ∃ n, zL.length = n := ⟨_, rfl⟩
  rw [hnT'] at h1 hnT ⊢
  rw [hnM'] at h2 hnM ⊢
  rw [hnL] at h3 ⊢
  clear hnT' hnM' r1 r2
  have HT := Lib.hid hT; have HM := Lib.hid hM; have HL := Lib.hid hL
  have HnT := Lib.hid hnT; have HnM := Lib.hid hnM; have HnL := Lib.hid hnL
  have HrT := Lib.hid hrT; have HrM := Lib.hid hrM; have HrL := Lib.hid r3
  clear hT hM hL hnT hnM hnL hrT hrM r3
  obtain ⟨b0, hb0⟩ : ∃ b0, b0 = w.heap.size := ⟨_, rfl⟩
  obtain ⟨W, hW⟩ : ∃ W, W = ((w.alloc (.cells #[.slice aT nT cT, .slice aM nM cM, .slice aL nL cL] 79)).alloc (.cells #[.slice none 0 0, .slice none 0 0, .slice none 0 0] 70)).alloc (.cells #[.slice none 0 0, .slice none 0 0, .slice none 0 0] 70) := ⟨_, rfl⟩
  have HP : Hid (Below w.heap.size w W ∧ W.heap[b0]? = some (.cells #[.slice aT nT cT, .slice aM nM cM, .slice aL nL cL] 79 (0, 0)) ∧ W.heap[b0 + 1]? = some (.cells #[.slice none 0 0, .slice none 0 0, .slice none 0 0] 70 (0, 0)) ∧ W.heap[b0 + 2]? = some (.cells #[.slice none 0 0, .slice none 0 0, .slice none 0 0] 70 (0, 0)) ∧ W.heap.size = b0 + 3) := Lib.hid (by
    rw [hb0, hW]
    obtain ⟨h1, h2, h3, h4⟩ := two_boxes w #[.slice aT nT cT, .slice aM nM cM, .slice aL nL cL] #[.slice none 0 0, .slice none 0 0, .slice none 0 0] 79 70
    have h5 := (Below.refl _ ((w.alloc (.cells #[.slice aT nT cT, .slice aM nM cM, .slice aL nL cL] 79)).alloc (.cells #[.slice none 0 0, .slice none 0 0, .slice none 0 0] 70))).alloc (Nat.le_refl _) (.cells #[.slice none 0 0, .slice none 0 0, .slice none 0 0] 70)
    have h6 := heap_alloc_new ((w.alloc (.cells #[.slice aT nT cT, .slice aM nM cM, .slice aL nL cL] 79)).alloc (.cells #[.slice none 0 0, .slice none 0 0, .slice none 0 0] 70)) (.cells #[.slice none 0 0, .slice none 0 0, .slice none 0 0] 70)
    rw [h4] at h6
    exact ⟨h1.trans (h5.mono h1.size), (h5.block _ (by omega)).trans h2, (h5.block _ (by omega)).trans h3, h6, by rw [World.size_alloc, h4]⟩)
  have HW := Lib.hid hW; have HBz := Lib.hid hb0; clear hW hb0
  go_enter Try.func53, Try.ntmps53
  go_upto_region 2 with (fail)
  rw [← HW.out, ← HBz.out]
  have h2b : b0 + 1 + 1 = b0 + 2 := rfl
  try rw [h2b]
  clear h2b
  obtain ⟨bs, hbs⟩ : ∃ bs, bs = b0 + 2 := ⟨_, rfl⟩
  rw [← hbs]
  obtain ⟨V0, hV0⟩ : ∃ V0, V0 = W := ⟨_, rfl⟩
  have HS0 : Hid (V0.heap[bs]? = some (.cells #[.slice none 0 0, .slice none 0 0, .slice none 0 0] 70 (0, 0))) := Lib.hid (by rw [hbs, hV0]; exact HP.out.2.2.2.1)
  have HK0 : Hid (StK w b0 bs #[.slice aT nT cT, .slice aM nM cM, .slice aL nL cL] V0) := Lib.hid (by rw [hV0]; exact ⟨HP.out.1, HP.out.2.1, HP.out.2.2.1, by have := HP.out.2.2.2.2; omega, hbs, HBz.out⟩)
  rw [← hV0]
  clear hV0 hbs HP HW HBz
  go_wp2
  go_loopw [4] (StR V0 bs nT yT (fun v => [v, .slice none 0 0, .slice none 0 0])) (fun iv _ => nT - (intOf iv).toNat)
  case atStart => exact ⟨0, none, 0, Nat.zero_le _, rfl, Own.nil _ _ _, HS0.out, But.refl _ _ _⟩
  case round =>
    obtain ⟨k, q0, d0, hk, rfl, hown, hbox, hbut⟩ := hrel
    have HO := Lib.hid hown; have HX := Lib.hid hbox; have HU := Lib.hid hbut
    clear hown hbox hbut
    obtain ⟨V1, hv1⟩ : ∃ v1, v1 = wr := ⟨_, rfl⟩
    rw [← hv1] at HO HX HU ⊢
    clear hv1
    have HK1 := Lib.hid (HK0.out.but HU.out)
    have p0 := cell_of_row V1 b0 0 _ _ (0, 0) HK1.out.par
    have s0 := cell_of_row V1 bs 0 _ _ (0, 0) HX.out
    simp at p0 s0
    by_cases hkn : k < nT
    · have hki : (k : Int) < (nT : Int) := by omega
      have k1 : k < yT.length := by rw [HnT.out]; exact hkn
      obtain ⟨g1, o1, e1⟩ := HT.out.some (by omega)
      have c1 := (HT.out.below HK1.out.bel (Nat.le_refl _))
      rw [e1] at c1
      subst e1
      have c1 := c1.get k k1
      have hx := HrT.out _ (List.getElem_mem k1)
      obtain ⟨x, hxx⟩ : ∃ x, x = yT[k] := ⟨_, rfl⟩
      rw [← hxx] at c1 hx
      have HXX := Lib.hid hxx; clear hxx
      have hw64 : IntKind.i64.wrap x = x := IntWalk.i64_in _ (by omega)
      have s0A : ∀ o : Obj, (V1.alloc o).cell? ⟨bs, 0, none⟩ = some (.slice q0 k d0) := fun o => (World.cell?_of_block (w := V1) (a := ⟨bs, 0, none⟩) (Below.heap_alloc V1 o bs (Array.getElem?_eq_some_iff.1 HX.out).1)).trans s0
      have p0A : ∀ o : Obj, (V1.alloc o).cell? ⟨b0, 0, none⟩ = some (.slice (some ⟨g1, o1, none⟩) nT cT) := fun o => (World.cell?_of_block (w := V1) (a := ⟨b0, 0, none⟩) (Below.heap_alloc V1 o b0 (Array.getElem?_eq_some_iff.1 HK1.out.par).1)).trans p0
      have c1A : ∀ o : Obj, (V1.alloc o).cell? ⟨g1, o1 + k, none⟩ = some (.int .u16 x) := fun o => (World.cell?_of_block (w := V1) (a := ⟨g1, o1 + k, none⟩) (Below.heap_alloc V1 o g1 (World.block_lt_of_cell? V1 _ c1))).trans c1
      have hbnd1 : (k + 1) * 8 ≤ 140737488355328 := by omega
      have hbnd2 : k + 1 ≤ maxLen := by unfold maxLen; omega
      have HB5 : Hid (∀ o : Obj, (V1.alloc o).drew.heap[bs]? = some (.cells #[.slice q0 k d0, .slice none 0 0, .slice none 0 0] 70 (0, 0))) := Lib.hid (fun o => (Below.heap_alloc V1 o bs (Array.getElem?_eq_some_iff.1 HX.out).1).trans HX.out)
      have HSz : Hid (V0.heap.size ≤ V1.heap.size ∧ bs < V0.heap.size) := Lib.hid ⟨HU.out.size, by have := HK0.out.sz; have := HK0.out.e; omega⟩
      go_wp2
      go_region_law (refine step_appS Try.elemIntR rfl (.tmp 15) (.tmp 22) rfl (World.ownsRow.drew (World.ownsRow.alloc HO.out _)) (by have := HSz.out.1; simp; omega) (ys := [.int .i64 x]) rfl (one_vals V1 _ _) (by simp) (by intro u hu; simp at hu; subst hu; rfl) hbnd1 hbnd2 rfl rfl ?_; intro a9 c9 w9 ho9 hg9 hb9; have hbl9 := (hg9.block bs (by have := HSz.out; simp; omega) (fun e => by have := (World.ownsRow.lt HO.out bs e.symm).1; have := HSz.out; omega)).trans (HB5.out _); have k9 := cell_of_row w9 bs 0 _ _ (0, 0) hbl9; simp at k9; have f9 := frozen_of_row w9 bs 0 _ _ hbl9)
      all_goals
        have HN9 := Lib.hid (StR.step (mk := (fun v => [v, .slice none 0 0, .slice none 0 0])) HSz.out.2 HO.out HU.out k1 HXX.out.symm (Nat.succ_le_of_lt hkn) HnT.out ho9 hg9 HX.out (j := 0) rfl)
        clear ho9 hg9 hb9 hbl9
        go_wp2
        go_roundw
        case rel => exact HN9.out
        case measure => simp [intOf]; omega
    · obtain rfl : nT = k := by omega
      have hki : ¬ (nT : Int) < (nT : Int) := by omega
      have HR0 : Hid (Own (b0 + 3) 3 V1 q0 nT d0 (ivs .i64 yT)) := Lib.hid (by have := HO.out.mono HK0.out.sz; rwa [List.take_of_length_le (by rw [HnT.out]; exact Nat.le_refl _)] at this)
      have HS1 : Hid (V1.heap[bs]? = some (.cells #[.slice q0 nT d0, .slice none 0 0, .slice none 0 0] 70 (0, 0))) := Lib.hid HX.out
      clear HO HX HU
      go_wp2
      go_loopw [5] (StR V1 bs nM yM (fun v => [.slice q0 nT d0, v, .slice none 0 0])) (fun iv _ => nM - (intOf iv).toNat)
      case atStart => exact ⟨0, none, 0, Nat.zero_le _, rfl, Own.nil _ _ _, HS1.out, But.refl _ _ _⟩
      case round =>
        obtain ⟨k, q1, d1, hk, rfl, hown, hbox, hbut⟩ := hrel
        have HO := Lib.hid hown; have HX := Lib.hid hbox; have HU := Lib.hid hbut
        clear hown hbox hbut
        obtain ⟨V2, hv1⟩ : ∃ v1, v1 = wr := ⟨_, rfl⟩
        rw [← hv1] at HO HX HU ⊢
        clear hv1
        have HK2 := Lib.hid (HK1.out.but HU.out)
        have p1 := cell_of_row V2 b0 1 _ _ (0, 0) HK2.out.par
        have s1 := cell_of_row V2 bs 1 _ _ (0, 0) HX.out
        simp at p1 s1
        by_cases hkn : k < nM
        · have hki : (k : Int) < (nM : Int) := by omega
          have k1 : k < yM.length := by rw [HnM.out]; exact hkn
          obtain ⟨g1, o1, e1⟩ := HM.out.some (by omega)
          have c1 := (HM.out.below HK2.out.bel (Nat.le_refl _))
          rw [e1] at c1
          subst e1
          have c1 := c1.get k k1
          have hx := HrM.out _ (List.getElem_mem k1)
          obtain ⟨x, hxx⟩ : ∃ x, x = yM[k] := ⟨_, rfl⟩
          rw [← hxx] at c1 hx
          have HXX := Lib.hid hxx; clear hxx
          have hw64 : IntKind.i64.wrap x = x := IntWalk.i64_in _ (by omega)
          have s0A : ∀ o : Obj, (V2.alloc o).cell? ⟨bs, 1, none⟩ = some (.slice q1 k d1) := fun o => (World.cell?_of_block (w := V2) (a := ⟨bs, 1, none⟩) (Below.heap_alloc V2 o bs (Array.getElem?_eq_some_iff.1 HX.out).1)).trans s1
          have p0A : ∀ o : Obj, (V2.alloc o).cell? ⟨b0, 1, none⟩ = some (.slice (some ⟨g1, o1, none⟩) nM cM) := fun o => (World.cell?_of_block (w := V2) (a := ⟨b0, 1, none⟩) (Below.heap_alloc V2 o b0 (Array.getElem?_eq_some_iff.1 HK2.out.par).1)).trans p1
          have c1A : ∀ o : Obj, (V2.alloc o).cell? ⟨g1, o1 + k, none⟩ = some (.int .u16 x) := fun o => (World.cell?_of_block (w := V2) (a := ⟨g1, o1 + k, none⟩) (Below.heap_alloc V2 o g1 (World.block_lt_of_cell? V2 _ c1))).trans c1
          have hbnd1 : (k + 1) * 8 ≤ 140737488355328 := by omega
          have hbnd2 : k + 1 ≤ maxLen := by unfold maxLen; omega
          have HB5 : Hid (∀ o : Obj, (V2.alloc o).drew.heap[bs]? = some (.cells #[.slice q0 nT d0, .slice q1 k d1, .slice none 0 0] 70 (0, 0))) := Lib.hid (fun o => (Below.heap_alloc V2 o bs (Array.getElem?_eq_some_iff.1 HX.out).1).trans HX.out)
          have HSz : Hid (V1.heap.size ≤ V2.heap.size ∧ bs < V1.heap.size) := Lib.hid ⟨HU.out.size, by have := HK1.out.sz; have := HK1.out.e; omega⟩
          go_wp2
          go_region_law (refine step_appS Try.elemIntR rfl (.tmp 33) (.tmp 40) rfl (World.ownsRow.drew (World.ownsRow.alloc HO.out _)) (by have := HSz.out.1; simp; omega) (ys := [.int .i64 x]) rfl (one_vals V2 _ _) (by simp) (by intro u hu; simp at hu; subst hu; rfl) hbnd1 hbnd2 rfl rfl ?_; intro a9 c9 w9 ho9 hg9 hb9; have hbl9 := (hg9.block bs (by have := HSz.out; simp; omega) (fun e => by have := (World.ownsRow.lt HO.out bs e.symm).1; have := HSz.out; omega)).trans (HB5.out _); have k9 := cell_of_row w9 bs 1 _ _ (0, 0) hbl9; simp at k9; have f9 := frozen_of_row w9 bs 1 _ _ hbl9)
          all_goals
            have HN9 := Lib.hid (StR.step (mk := (fun v => [.slice q0 nT d0, v, .slice none 0 0])) HSz.out.2 HO.out HU.out k1 HXX.out.symm (Nat.succ_le_of_lt hkn) HnM.out ho9 hg9 HX.out (j := 1) rfl)
            clear ho9 hg9 hb9 hbl9
            go_wp2
            go_roundw
            case rel => exact HN9.out
            case measure => simp [intOf]; omega
        · obtain rfl : nM = k := by omega
          have hki : ¬ (nM : Int) < (nM : Int) := by omega
          have HR1 : Hid (Own (b0 + 3) 3 V2 q1 nM d1 (ivs .i64 yM)) := Lib.hid (by have := HO.out.mono HK1.out.sz; rwa [List.take_of_length_le (by rw [HnM.out]; exact Nat.le_refl _)] at this)
          have HS2 : Hid (V2.heap[bs]? = some (.cells #[.slice q0 nT d0, .slice q1 nM d1, .slice none 0 0] 70 (0, 0))) := Lib.hid HX.out
          replace HR0 := Lib.hid (HR0.out.but HU.out (by have := HK1.out.e; omega))
          clear HO HX HU
          go_wp2
          go_loopw [6] (StR V2 bs nL zL (fun v => [.slice q0 nT d0, .slice q1 nM d1, v])) (fun iv _ => nL - (intOf iv).toNat)
          case atStart => exact ⟨0, none, 0, Nat.zero_le _, rfl, Own.nil _ _ _, HS2.out, But.refl _ _ _⟩
          case round =>
            obtain ⟨k, q2, d2, hk, rfl, hown, hbox, hbut⟩ := hrel
            have HO := Lib.hid hown; have HX := Lib.hid hbox; have HU := Lib.hid hbut
            clear hown hbox hbut
            obtain ⟨V3, hv1⟩ : ∃ v1, v1 = wr := ⟨_, rfl⟩
            rw [← hv1] at HO HX HU ⊢
            clear hv1
            have HK3 := Lib.hid (HK2.out.but HU.out)
            have p2 := cell_of_row V3 b0 2 _ _ (0, 0) HK3.out.par
            have s2 := cell_of_row V3 bs 2 _ _ (0, 0) HX.out
            simp at p2 s2
            by_cases hkn : k < nL
            · have hki : (k : Int) < (nL : Int) := by omega
              have k1 : k < zL.length := by rw [HnL.out]; exact hkn
              obtain ⟨g1, o1, e1⟩ := HL.out.some (by omega)
              have c1 := (HL.out.below HK3.out.bel (Nat.le_refl _))
              rw [e1] at c1
              subst e1
              have c1 := c1.get k k1
              have hx := HrL.out _ (List.getElem_mem k1)
              obtain ⟨x, hxx⟩ : ∃ x, x = zL[k] := ⟨_, rfl⟩
              rw [← hxx] at c1 hx
              have HXX := Lib.hid hxx; clear hxx
              have hw64 : IntKind.i64.wrap x = x := IntWalk.i64_in _ (by omega)
              have s0A : ∀ o : Obj, (V3.alloc o).cell? ⟨bs, 2, none⟩ = some (.slice q2 k d2) := fun o => (World.cell?_of_block (w := V3) (a := ⟨bs, 2, none⟩) (Below.heap_alloc V3 o bs (Array.getElem?_eq_some_iff.1 HX.out).1)).trans s2
              have p0A : ∀ o : Obj, (V3.alloc o).cell? ⟨b0, 2, none⟩ = some (.slice (some ⟨g1, o1, none⟩) nL cL) := fun o => (World.cell?_of_block (w := V3) (a := ⟨b0, 2, none⟩) (Below.heap_alloc V3 o b0 (Array.getElem?_eq_some_iff.1 HK3.out.par).1)).trans p2
              have c1A : ∀ o : Obj, (V3.alloc o).cell? ⟨g1, o1 + k, none⟩ = some (.int .u8 x) := fun o => (World.cell?_of_block (w := V3) (a := ⟨g1, o1 + k, none⟩) (Below.heap_alloc V3 o g1 (World.block_lt_of_cell? V3 _ c1))).trans c1
              have hbnd1 : (k + 1) * 8 ≤ 140737488355328 := by omega
              have hbnd2 : k + 1 ≤ maxLen := by unfold maxLen; omega
              have HB5 : Hid (∀ o : Obj, (V3.alloc o).drew.heap[bs]? = some (.cells #[.slice q0 nT d0, .slice q1 nM d1, .slice q2 k d2] 70 (0, 0))) := Lib.hid (fun o => (Below.heap_alloc V3 o bs (Array.getElem?_eq_some_iff.1 HX.out).1).trans HX.out)
              have HSz : Hid (V2.heap.size ≤ V3.heap.size ∧ bs < V2.heap.size) := Lib.hid ⟨HU.out.size, by have := HK2.out.sz; have := HK2.out.e; omega⟩
              go_wp2
              go_region_law (refine step_appS Try.elemIntR rfl (.tmp 51) (.tmp 58) rfl (World.ownsRow.drew (World.ownsRow.alloc HO.out _)) (by have := HSz.out.1; simp; omega) (ys := [.int .i64 x]) rfl (one_vals V3 _ _) (by simp) (by intro u hu; simp at hu; subst hu; rfl) hbnd1 hbnd2 rfl rfl ?_; intro a9 c9 w9 ho9 hg9 hb9; have hbl9 := (hg9.block bs (by have := HSz.out; simp; omega) (fun e => by have := (World.ownsRow.lt HO.out bs e.symm).1; have := HSz.out; omega)).trans (HB5.out _); have k9 := cell_of_row w9 bs 2 _ _ (0, 0) hbl9; simp at k9; have f9 := frozen_of_row w9 bs 2 _ _ hbl9)
              all_goals
                have HN9 := Lib.hid (StR.step (mk := (fun v => [.slice q0 nT d0, .slice q1 nM d1, v])) HSz.out.2 HO.out HU.out k1 HXX.out.symm (Nat.succ_le_of_lt hkn) HnL.out ho9 hg9 HX.out (j := 2) rfl)
                clear ho9 hg9 hb9 hbl9
                go_wp2
                go_roundw
                case rel => exact HN9.out
                case measure => simp [intOf]; omega
            · obtain rfl : nL = k := by omega
              have hki : ¬ (nL : Int) < (nL : Int) := by omega
              have HR2 : Hid (Own (b0 + 3) 3 V3 q2 nL d2 (ivs .i64 zL)) := Lib.hid (by have := HO.out.mono HK2.out.sz; rwa [List.take_of_length_le (by rw [HnL.out]; exact Nat.le_refl _)] at this)
              have HS3 : Hid (V3.heap[bs]? = some (.cells #[.slice q0 nT d0, .slice q1 nM d1, .slice q2 nL d2] 70 (0, 0))) := Lib.hid HX.out
              replace HR0 := Lib.hid (HR0.out.but HU.out (by have := HK2.out.e; omega))
              replace HR1 := Lib.hid (HR1.out.but HU.out (by have := HK2.out.e; omega))
              clear HO HX HU
              have s0 := cell_of_row V3 bs 0 _ _ (0, 0) HS3.out
              have s1 := cell_of_row V3 bs 1 _ _ (0, 0) HS3.out
              have r0 := cell_of_row V3 (b0 + 1) 0 _ _ (0, 0) HK3.out.res
              have r1 := cell_of_row V3 (b0 + 1) 1 _ _ (0, 0) HK3.out.res
              have r2 := cell_of_row V3 (b0 + 1) 2 _ _ (0, 0) HK3.out.res
              have f0 := frozen_of_row V3 (b0 + 1) 0 _ _ HK3.out.res
              have f1 := frozen_of_row V3 (b0 + 1) 1 _ _ HK3.out.res
              have f2 := frozen_of_row V3 (b0 + 1) 2 _ _ HK3.out.res
              simp at s0 s1 r0 r1 r2
              have y1 := heap_setCell_same V3 (b0 + 1) 0 _ _ (.slice q0 nT d0) HK3.out.res
              have y2 := heap_setCell_same _ (b0 + 1) 1 _ _ (.slice q1 nM d1) y1
              have y3 := heap_setCell_same _ (b0 + 1) 2 _ _ (.slice q2 nL d2) y2
              have hg : V3.grownBy (((V3.setCell ⟨b0 + 1, 0, none⟩ (.slice q0 nT d0)).setCell ⟨b0 + 1, 1, none⟩ (.slice q1 nM d1)).setCell ⟨b0 + 1, 2, none⟩ (.slice q2 nL d2)) (some (b0 + 1)) := grown_trans (grown_trans (grown_store V3 (b0 + 1) 0 _) (grown_store _ (b0 + 1) 1 _)) (grown_store _ (b0 + 1) 2 _)
              have HY := Lib.hid y3; have HG := Lib.hid hg
              clear y1 y2 y3 hg
              go_wp2
              refine bodyPost_ret (results_cell_row rfl _ _ (b0 + 1) _ _ _ _ rfl HY.out Try.underlying70 rfl rfl) rfl ?_
              have kp : ∀ {q : Option Addr} {n d : Nat} {xs : List Value}, Own (b0 + 3) 3 V3 q n d xs → Own (b0 + 3) 3 (((V3.setCell ⟨b0 + 1, 0, none⟩ (.slice q0 nT d0)).setCell ⟨b0 + 1, 1, none⟩ (.slice q1 nM d1)).setCell ⟨b0 + 1, 2, none⟩ (.slice q2 nL d2)) q n d xs := fun h => h.grown HG.out (.inr (fun e => by have := (World.ownsRow.lt h (b0 + 1) e).1; omega))
              refine ⟨_, rfl, ⟨q0, d0, q1, d1, q2, d2, ?_, (kp HR0.out).ints, (kp HR1.out).ints, (kp HR2.out).ints⟩, HK3.out.bel.grown HG.out HK3.out.bel.size (fun k e => by cases e; have := HK3.out.z; omega)⟩
              rw [HnT.out, HnM.out, HnL.out]
              rfl
end Go.Proofs.Ytabbabkmojaoaaa
