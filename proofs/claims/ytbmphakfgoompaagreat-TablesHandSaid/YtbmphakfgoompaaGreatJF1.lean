/- several texts in one: UF1 UF2 UF3 -/
import Derived.Test.YtbmphakfgoompaaGreatJH
import Derived.Test.YtbmphakfgoompaaGreatGTA
import Derived.Test.YtbmphakfgoompaaGreatG1
import Derived.Test.YtbmphakfgoompaaGreatJW
import Derived.Test.YtbmphakfgoompaaGreatJQ
import Derived.Deep.CutRange
set_option linter.unusedVariables false
set_option linter.unusedSimpArgs false
/-
 The numbers at which the document looks for what is amiss: plain laws.
-/
namespace Go.Proofs.YtbmphakfgoompaaGreat
open Go.RowKit

/-- where run i begins -/
def fromL (L : List (Int × Int)) (i : Nat) : Int := if i = 0 then 0 else (L.getD (i - 1) (0, 0)).1 + 1
theorem fromL_succ {L : List (Int × Int)} {i : Nat} (h : i < L.length) : fromL L (i + 1) = (L[i]).1 + 1 := by
 unfold fromL
 rw [if_neg (by omega), Nat.add_sub_cancel, List.getD_eq_getElem?_getD, List.getElem?_eq_getElem h]
 rfl
/-- one stands in run i at its beginning -/
theorem run_from (F : Nat → Int) (N : Nat) : ∀ i, i ≤ (runL F N).length → ∃ r : Nat, fromL (runL F N) i = (r : Nat) ∧ r ≤ N ∧ InRun F N i r
 | 0, _ => ⟨0, rfl, Nat.zero_le _, .zero F N⟩
 | i + 1, h => by
  obtain ⟨r, h1, h2, h3⟩ := run_from F N i (by omega)
  have hi : i < (runL F N).length := by omega
  have hge := h3.ge i hi (Nat.le_refl _)
  have hlt := runL_lt F N _ (List.getElem_mem hi)
  obtain ⟨t, ht⟩ : ∃ t : Nat, ((runL F N)[i]).1 = (t : Nat) := ⟨((runL F N)[i]).1.toNat, by omega⟩
  exact ⟨t + 1, by rw [fromL_succ hi, ht]; omega, by omega, h3.over hi ht⟩
theorem run_val {F : Nat → Int} {N i : Nat} (hi : i < (runL F N).length) {q : Nat} (h1 : fromL (runL F N) i ≤ (q : Int)) (h2 : (q : Int) ≤ ((runL F N)[i]).1) : F q = ((runL F N)[i]).2 := by
 obtain ⟨r, e, -, h3⟩ := run_from F N i (by omega)
 exact (h3.val hi (by omega) h2).symm
/-- the run of a number -/
theorem run_of {F : Nat → Int} {N q : Nat} (hq : q < N) : ∃ i, ∃ h : i < (runL F N).length, fromL (runL F N) i ≤ (q : Int) ∧ (q : Int) ≤ ((runL F N)[i]).1 := by
 obtain ⟨A, x, B, k1, k2, k3, k4⟩ := runL_find F N q hq
 have hl : A.length < (runL F N).length := by rw [k1]; simp
 have hx : (runL F N)[A.length] = x := by simp only [k1]; rw [List.getElem_append_right (by omega)]; simp
 refine ⟨A.length, hl, ?_, by rw [hx]; exact k3⟩
 unfold fromL
 by_cases e : A.length = 0
 ·rw [if_pos e]; omega
 ·rw [if_neg e]
  have hm : (runL F N).getD (A.length - 1) (0, 0) ∈ A := by
   rw [k1, List.getD_eq_getElem?_getD, List.getElem?_append_left (by omega), List.getElem?_eq_getElem (by omega)]
   exact List.getElem_mem _
  have := k2 _ hm
  omega
/-- of each stretch the first ones, and the one that its value tells -/
def saidA (f t v : Int) : List Int := if v = 0 then [] else ((List.range 64).filterMap (fun k => if f + (k : Nat) ≤ t then some (f + (k : Nat)) else none)) ++ (if f ≤ v - 1 ∧ v - 1 ≤ t then [v - 1] else [])
def saidI (L : List (Int × Int)) (n : Nat) : List Int := (List.range n).flatMap (fun i => saidA (fromL L i) (L.getD i (0, 0)).1 (L.getD i (0, 0)).2)
theorem saidI_next (L : List (Int × Int)) (n : Nat) : saidI L (n + 1) = saidI L n ++ saidA (fromL L n) (L.getD n (0, 0)).1 (L.getD n (0, 0)).2 := by
 unfold saidI
 rw [List.range_succ, List.flatMap_append]
 simp
theorem saidA_mem {f t v x : Int} (h : x ∈ saidA f t v) : f ≤ x ∧ x ≤ t := by
 unfold saidA at h
 split at h
 ·cases h
 ·rcases List.mem_append.1 h with h | h
  ·obtain ⟨k, hk, e⟩ := List.mem_filterMap.1 h
   split at e
   ·cases e; omega
   ·cases e
  ·split at h
   ·rw [List.mem_singleton.1 h]; assumption
   ·cases h
theorem saidA_first {f t v : Int} (hv : v ≠ 0) {k : Nat} (hk : k < 64) (ht : f + (k : Nat) ≤ t) : f + (k : Nat) ∈ saidA f t v := by
 unfold saidA
 rw [if_neg hv]
 exact List.mem_append.2 (.inl (List.mem_filterMap.2 ⟨k, by simpa using hk, by rw [if_pos ht]⟩))
theorem saidA_self {f t v : Int} (hv : v ≠ 0) (h1 : f ≤ v - 1) (h2 : v - 1 ≤ t) : v - 1 ∈ saidA f t v := by
 unfold saidA
 rw [if_neg hv, if_pos ⟨h1, h2⟩]
 exact List.mem_append.2 (.inr (by simp))
theorem saidI_mem {L : List (Int × Int)} {n : Nat} {x : Int} (h : x ∈ saidI L n) : ∃ i, i < n ∧ fromL L i ≤ x ∧ x ≤ (L.getD i (0, 0)).1 := by
 obtain ⟨i, hi, h2⟩ := List.mem_flatMap.1 h
 exact ⟨i, by simpa using hi, saidA_mem h2⟩
theorem saidI_has {L : List (Int × Int)} {i : Nat} (hi : i < L.length) {x : Int} (h : x ∈ saidA (fromL L i) (L[i]).1 (L[i]).2) : x ∈ saidI L L.length :=
 List.mem_flatMap.2 ⟨i, by simpa using hi, by rw [List.getD_eq_getElem?_getD, List.getElem?_eq_getElem hi]; exact h⟩
def saidL (N : Nat) (b t m : Nat → Int) : List Int := saidI (runL b N) (runL b N).length ++ saidI (runL t N) (runL t N).length ++ saidI (runL m N) (runL m N).length
theorem saidI_in {N : Nat} {F : Nat → Int} {x : Int} (h : x ∈ saidI (runL F N) (runL F N).length) : 0 ≤ x ∧ x < (N : Nat) := by
 obtain ⟨i, hi, h1, h2⟩ := saidI_mem h
 rw [List.getD_eq_getElem?_getD, List.getElem?_eq_getElem hi] at h2
 have h3 := runL_lt F N _ (List.getElem_mem hi)
 obtain ⟨r, e, -, -⟩ := run_from F N i (by omega)
 simp only [Option.getD_some] at h2
 omega
theorem saidL_in {N : Nat} {b t m : Nat → Int} {x : Int} (h : x ∈ saidL N b t m) : 0 ≤ x ∧ x < (N : Nat) := by
 unfold saidL at h
 rcases List.mem_append.1 h with h | h
 ·rcases List.mem_append.1 h with h | h
  ·exact saidI_in h
  ·exact saidI_in h
 ·exact saidI_in h
theorem not_wrong_b {c b t m : Nat → Int} {q : Nat} (h : wrongF c b t m q = false) (hv : b q ≠ 0) : brO (b (runeR (brO (b q)))) = (q : Nat) := by
 simp only [wrongF, Bool.or_eq_false_iff, Bool.and_eq_false_iff, bne_eq_false_iff_eq, oddF] at h
 rcases h.1.1 with h1 | h1
 ·exact absurd h1 hv
 ·exact h1.1.2
theorem one_each {c b t m : Nat → Int} {q q' : Nat} (h : wrongF c b t m q = false) (h' : wrongF c b t m q' = false) (e : b q = b q') (hv : b q ≠ 0) : q = q' := by
 have h1 := not_wrong_b h hv
 have h2 := not_wrong_b h' (by rw [← e]; exact hv)
 rw [e, h2] at h1
 omega
theorem not_wrong_t {c b t m : Nat → Int} {q : Nat} (h : wrongF c b t m q = false) (hv : t q ≠ 0) : b q ≠ 0 := by
 intro e
 simp only [wrongF, Bool.or_eq_false_iff, Bool.and_eq_false_iff, bne_eq_false_iff_eq, strangeF] at h
 rcases h.1.2 with h1 | h1
 ·exact hv h1
 ·have := h1.1.1.1.1
  rw [e] at this
  cases this
/-- stretches of brackets -/
def nzR (N : Nat) (b : Nat → Int) : List (Int × Int) := (runL b N).filter (fun x => x.2 != 0)
theorem many_runs {N : Nat} {c b t m : Nat → Int} {f n : Nat} (hN : f + n ≤ N) (h : ∀ j, j < n → wrongF c b t m (f + j) = false ∧ b (f + j) ≠ 0) : n ≤ (nzR N b).length := by
 have hex : ∀ j, j < n → ∃ x : Int, x ∈ (nzR N b).map (fun y => y.1) ∧ ∃ i, ∃ hi : i < (runL b N).length, x = ((runL b N)[i]).1 ∧ fromL (runL b N) i ≤ ((f + j : Nat) : Int) ∧ ((f + j : Nat) : Int) ≤ ((runL b N)[i]).1 := by
  intro j hj
  obtain ⟨i, hi, h1, h2⟩ := run_of (F := b) (N := N) (q := f + j) (by omega)
  have hv := run_val hi h1 h2
  refine ⟨((runL b N)[i]).1, List.mem_map.2 ⟨(runL b N)[i], List.mem_filter.2 ⟨List.getElem_mem hi, ?_⟩, rfl⟩, i, hi, rfl, h1, h2⟩
  rw [← hv]
  simpa using (h j hj).2
 let g : Nat → Int := fun j => if hj : j < n then Classical.choose (hex j hj) else 0
 have hg : ∀ j, (hj : j < n) → g j ∈ (nzR N b).map (fun y => y.1) ∧ ∃ i, ∃ hi : i < (runL b N).length, g j = ((runL b N)[i]).1 ∧ fromL (runL b N) i ≤ ((f + j : Nat) : Int) ∧ ((f + j : Nat) : Int) ≤ ((runL b N)[i]).1 := by
  intro j hj
  have := Classical.choose_spec (hex j hj)
  simp only [g, dif_pos hj]
  exact this
 have hinj : ∀ j j', j < n → j' < n → g j = g j' → j = j' := by
  intro j j' hj hj' e
  obtain ⟨-, i, hi, e1, a1, a2⟩ := hg j hj
  obtain ⟨-, i', hi', e2, b1, b2⟩ := hg j' hj'
  have hii : i = i' := by
   rcases Nat.lt_trichotomy i i' with h1 | h1 | h1
   ·have := List.pairwise_iff_getElem.1 (runL_rise b N) i i' hi hi' h1; omega
   ·exact h1
   ·have := List.pairwise_iff_getElem.1 (runL_rise b N) i' i hi' hi h1; omega
  subst hii
  have v1 := run_val hi a1 a2
  have v2 := run_val hi b1 b2
  have := one_each (h j hj).1 (h j' hj').1 (by rw [v1, v2]) (h j hj).2
  omega
 have := nodup_le ((List.range n).map g) ((nzR N b).map (fun y => y.1)) (by
  rw [List.nodup_iff_pairwise_ne]
  refine List.pairwise_map.2 (List.Pairwise.imp_of_mem ?_ (List.nodup_iff_pairwise_ne.1 (List.nodup_range (n := n))))
  intro x y hx hy hne e
  exact hne (hinj x y (by simpa using hx) (by simpa using hy) e)) (fun x hx => by
  obtain ⟨j, hj, rfl⟩ := List.mem_map.1 hx
  exact (hg j (by simpa using hj)).1)
 simpa using this
theorem said_has {N : Nat} {c b t m : Nat → Int} {k : Nat} (hk : Least (wrongF c b t m) N k) (hkN : k < N) (hr : (nzR N b).length < 64) : (k : Int) ∈ saidL N b t m := by
 have hp := hk.yes hkN
 unfold saidL
 by_cases hb : b k = 0
 ·by_cases ht : t k = 0
  ·have hm : m k = (k : Nat) + 1 := by
    simp only [wrongF, hb, ht, bne_self_eq_false, Bool.false_and, Bool.false_or, Bool.and_eq_true, selfF, beq_iff_eq] at hp
    exact hp.2
   obtain ⟨i, hi, h1, h2⟩ := run_of (F := m) hkN
   have hv := run_val hi h1 h2
   refine List.mem_append.2 (.inr (saidI_has hi ?_))
   have e : (k : Int) = ((runL m N)[i]).2 - 1 := by omega
   rw [e]
   exact saidA_self (by omega) (by omega) (by omega)
  ·obtain ⟨i, hi, h1, h2⟩ := run_of (F := t) hkN
   have hv := run_val hi h1 h2
   obtain ⟨f, hf, hfN, -⟩ := run_from t N i (by omega)
   refine List.mem_append.2 (.inl (List.mem_append.2 (.inr (saidI_has hi ?_))))
   by_cases h64 : k - f < 64
   ·have e : (k : Int) = fromL (runL t N) i + ((k - f : Nat) : Int) := by omega
    rw [e]
    exact saidA_first (by rw [← hv]; exact ht) h64 (by omega)
   ·have := many_runs (N := N) (c := c) (b := b) (t := t) (m := m) (f := f) (n := 64) (by omega) (fun j hj => by
     have h3 := hk.no (f + j) (by omega)
     have h4 := run_val (F := t) hi (q := f + j) (by omega) (by omega)
     exact ⟨h3, not_wrong_t h3 (by rw [h4, ← hv]; exact ht)⟩)
    omega
 ·obtain ⟨i, hi, h1, h2⟩ := run_of (F := b) hkN
  have hv := run_val hi h1 h2
  obtain ⟨f, hf, hfN, -⟩ := run_from b N i (by omega)
  refine List.mem_append.2 (.inl (List.mem_append.2 (.inl (saidI_has hi ?_))))
  have h3 : k < f + 2 := by
   refine Decidable.byContradiction (fun h3 => ?_)
   have v1 := run_val (F := b) hi (q := f) (by omega) (by omega)
   have v2 := run_val (F := b) hi (q := f + 1) (by omega) (by omega)
   have := one_each (hk.no f (by omega)) (hk.no (f + 1) (by omega)) (by rw [v1, v2]) (by rw [v1, ← hv]; exact hb)
   omega
  have e : (k : Int) = fromL (runL b N) i + ((k - f : Nat) : Int) := by omega
  rw [e]
  exact saidA_first (by rw [← hv]; exact hb) (by omega) (by omega)
/-- brackets at few numbers -/
theorem few_runs {N : Nat} {b : Nat → Int} {K : List Nat} (h : ∀ r, r < N → b r ≠ 0 → r ∈ K) : (nzR N b).length ≤ K.length := by
 have h2 := nodup_le ((nzR N b).map (fun y => y.1)) (K.map (fun x : Nat => (x : Int))) (by
  rw [List.nodup_iff_pairwise_ne]
  refine List.pairwise_map.2 ?_
  unfold nzR
  refine List.Pairwise.imp ?_ ((runL_rise b N).filter _)
  intro x y hxy e
  omega) (fun x hx => by
  obtain ⟨y, hy, rfl⟩ := List.mem_map.1 hx
  obtain ⟨hy1, hy2⟩ := List.mem_filter.1 hy
  obtain ⟨i, hi, rfl⟩ := List.getElem_of_mem hy1
  obtain ⟨r, e, -, h3⟩ := run_from b N i (by omega)
  have hge := h3.ge i hi (Nat.le_refl _)
  have hlt := runL_lt b N _ (List.getElem_mem hi)
  obtain ⟨q, hq⟩ : ∃ q : Nat, ((runL b N)[i]).1 = (q : Nat) := ⟨((runL b N)[i]).1.toNat, by omega⟩
  have hv := run_val hi (q := q) (by omega) (by omega)
  rw [hq]
  exact List.mem_map.2 ⟨q, h q (by omega) (by rw [hv]; simpa using hy2), rfl⟩)
 simpa using h2
end Go.Proofs.YtbmphakfgoompaaGreat

/-
 What packed tables of the document say, and where they are wrong.
-/
namespace Go.Proofs.YtbmphakfgoompaaGreat
open Go.RowKit
attribute [local go_sem] Oper.semAt_some

theorem FnAt.at_walk {w : World} {fv : Value} {F : Nat → Int} (hf : FnAt w fv (runL F 1114112)) (r : Int) (hr : wf32 r) :
  Calls Tryz.prog 122 #[fv, .int .i32 r] w fun e w' => e = .returned (.int .i64 (F (runeR r))) ∧ Below w.heap.size w w' := refAt_walk w fv F 1114112 rfl hf r hr.1 hr.2
/-- values of the document that may be -/
structure FitD (F : Nat → Nat → Int) : Prop where
 c : ∀ r, r ≤ 1114111 → 1 ≤ F 0 r ∧ F 0 r ≤ 23
 b : ∀ r, r ≤ 1114111 → -1114112 ≤ F 1 r ∧ F 1 r ≤ 1114112
 t : ∀ r, r ≤ 1114111 → 0 ≤ F 2 r ∧ F 2 r ≤ 1114112
 m : ∀ r, r ≤ 1114111 → 0 ≤ F 3 r ∧ F 3 r ≤ 1114112
set_option maxRecDepth 100000 in
set_option maxHeartbeats 4000000 in
theorem dBracket_walk (w : World) (f : Value) (F : Nat → Nat → Int) (hf : FourAt w f F) (hfit : FitD F) (r : Int) (hr : wf32 r) :
  Calls Tryz.prog 121 #[f, .int .i32 r] w fun e w' => e = .returned (.tuple #[.int .i32 (brO (F 1 (runeR r))), .int .u8 (brS (F 1 (runeR r)))]) ∧ Below w.heap.size w w' := by
 have hv := hfit.b (runeR r) (runeR_le r)
 obtain ⟨x0, x1, x2, x3, x4, x5, x6, x7, rfl, g0, g1, g2, g3⟩ := hf
 obtain ⟨⟨xa0, xn0, xc0, rfl⟩, ⟨xa1, xn1, xc1, rfl⟩⟩ := g0.slices
 obtain ⟨⟨xa2, xn2, xc2, rfl⟩, ⟨xa3, xn3, xc3, rfl⟩⟩ := g1.slices
 obtain ⟨⟨xa4, xn4, xc4, rfl⟩, ⟨xa5, xn5, xc5, rfl⟩⟩ := g2.slices
 obtain ⟨⟨xa6, xn6, xc6, rfl⟩, ⟨xa7, xn7, xc7, rfl⟩⟩ := g3.slices
 have HF := Lib.hid (show FourAt w (.agg #[.slice xa0 xn0 xc0, .slice xa1 xn1 xc1, .slice xa2 xn2 xc2, .slice xa3 xn3 xc3, .slice xa4 xn4 xc4, .slice xa5 xn5 xc5, .slice xa6 xn6 xc6, .slice xa7 xn7 xc7]) F from ⟨_, _, _, _, _, _, _, _, rfl, g0, g1, g2, g3⟩)
 have HG := Lib.hid (And.intro g0 (And.intro g1 (And.intro g2 g3)))
 clear g0 g1 g2 g3
 have HA := Lib.hid (heap_alloc_new w (.cells #[.slice xa0 xn0 xc0, .slice xa1 xn1 xc1, .slice xa2 xn2 xc2, .slice xa3 xn3 xc3, .slice xa4 xn4 xc4, .slice xa5 xn5 xc5, .slice xa6 xn6 xc6, .slice xa7 xn7 xc7] 37))
 have HB := Lib.hid ((Below.refl _ w).alloc (Nat.le_refl _) (.cells #[.slice xa0 xn0 xc0, .slice xa1 xn1 xc1, .slice xa2 xn2 xc2, .slice xa3 xn3 xc3, .slice xa4 xn4 xc4, .slice xa5 xn5 xc5, .slice xa6 xn6 xc6, .slice xa7 xn7 xc7] 37))
 go_enter Tryz.func121, Tryz.ntmps121
 go_upto_region 1 with (fail)
 obtain ⟨b0, hb0⟩ : ∃ b0, b0 = w.heap.size := ⟨_, rfl⟩
 rw [← hb0] at HA ⊢
 clear hb0
 generalize w.alloc (.cells #[.slice xa0 xn0 xc0, .slice xa1 xn1 xc1, .slice xa2 xn2 xc2, .slice xa3 xn3 xc3, .slice xa4 xn4 xc4, .slice xa5 xn5 xc5, .slice xa6 xn6 xc6, .slice xa7 xn7 xc7] 37) = w1 at *
 have q0 := cell_of_row w1 b0 0 _ _ (0, 0) HA.out
 have q1 := cell_of_row w1 b0 1 _ _ (0, 0) HA.out
 have q2 := cell_of_row w1 b0 2 _ _ (0, 0) HA.out
 have q3 := cell_of_row w1 b0 3 _ _ (0, 0) HA.out
 have q4 := cell_of_row w1 b0 4 _ _ (0, 0) HA.out
 have q5 := cell_of_row w1 b0 5 _ _ (0, 0) HA.out
 have q6 := cell_of_row w1 b0 6 _ _ (0, 0) HA.out
 have q7 := cell_of_row w1 b0 7 _ _ (0, 0) HA.out
 simp at q0 q1 q2 q3 q4 q5 q6 q7
 have HAt := Lib.hid ((HG.out.2.1.below HB.out).at_walk r hr)
 obtain ⟨v, hve⟩ : ∃ v, v = F 1 (runeR r) := ⟨_, rfl⟩
 rw [← hve] at hv HAt
 have HVe := Lib.hid hve
 clear hfit hve
 go_wp2_with fail
 refine HAt.out.mono ?_
 rintro e w2 ⟨rfl, hb⟩
 have HB2 := Lib.hid (HB.out.trans (hb.mono HB.out.size))
 clear hb HAt HA q0 q1 q2 q3 q4 q5 q6 q7
 by_cases h1 : 0 < v
 ·have e1 : IntKind.i32.wrap (v - 1) = v - 1 := IntWalk.i32_in _ (by omega)
  have HO := Lib.hid (show brO v = v - 1 from if_pos h1)
  have HS := Lib.hid (show brS v = 1 from if_pos h1)
  go_wp2
  refine bodyPost_ret (v := .tuple #[.int .i32 (v - 1), .int .u8 1]) (by simp [results, Tryz.results121, go_sem]) rfl ?_
  exact ⟨by rw [← HVe.out, HO.out, HS.out], HB2.out⟩
 ·by_cases h2 : v < 0
  ·have e1 : IntKind.i32.wrap (-v - 1) = -v - 1 := IntWalk.i32_in _ (by omega)
   have HO := Lib.hid (show brO v = -v - 1 by unfold brO; rw [if_neg h1, if_pos h2])
   have HS := Lib.hid (show brS v = 2 by unfold brS; rw [if_neg h1, if_pos h2])
   go_wp2
   refine bodyPost_ret (v := .tuple #[.int .i32 (-v - 1), .int .u8 2]) (by simp [results, Tryz.results121, go_sem]) rfl ?_
   exact ⟨by rw [← HVe.out, HO.out, HS.out], HB2.out⟩
  ·have HO := Lib.hid (show brO v = 0 by unfold brO; rw [if_neg h1, if_neg h2])
   have HS := Lib.hid (show brS v = 0 by unfold brS; rw [if_neg h1, if_neg h2])
   go_wp2
   refine bodyPost_ret (v := .tuple #[.int .i32 0, .int .u8 0]) (by simp [results, Tryz.results121, go_sem]) rfl ?_
   exact ⟨by rw [← HVe.out, HO.out, HS.out], HB2.out⟩
set_option maxRecDepth 100000 in
set_option maxHeartbeats 4000000 in
theorem dTwin_walk (w : World) (f : Value) (F : Nat → Nat → Int) (hf : FourAt w f F) (hfit : FitD F) (r : Int) (hr : wf32 r) :
  Calls Tryz.prog 123 #[f, .int .i32 r] w fun e w' => e = .returned (.int .i32 (twF (F 2) (runeR r))) ∧ Below w.heap.size w w' := by
 have hv := hfit.t (runeR r) (runeR_le r)
 have HTw := Lib.hid (show twF (F 2) (runeR r) = if 0 < F 2 (runeR r) then F 2 (runeR r) - 1 else ((runeR r : Nat) : Int) from rfl)
 obtain ⟨x0, x1, x2, x3, x4, x5, x6, x7, rfl, g0, g1, g2, g3⟩ := hf
 obtain ⟨⟨xa0, xn0, xc0, rfl⟩, ⟨xa1, xn1, xc1, rfl⟩⟩ := g0.slices
 obtain ⟨⟨xa2, xn2, xc2, rfl⟩, ⟨xa3, xn3, xc3, rfl⟩⟩ := g1.slices
 obtain ⟨⟨xa4, xn4, xc4, rfl⟩, ⟨xa5, xn5, xc5, rfl⟩⟩ := g2.slices
 obtain ⟨⟨xa6, xn6, xc6, rfl⟩, ⟨xa7, xn7, xc7, rfl⟩⟩ := g3.slices
 have HF := Lib.hid (show FourAt w (.agg #[.slice xa0 xn0 xc0, .slice xa1 xn1 xc1, .slice xa2 xn2 xc2, .slice xa3 xn3 xc3, .slice xa4 xn4 xc4, .slice xa5 xn5 xc5, .slice xa6 xn6 xc6, .slice xa7 xn7 xc7]) F from ⟨_, _, _, _, _, _, _, _, rfl, g0, g1, g2, g3⟩)
 have HG := Lib.hid (And.intro g0 (And.intro g1 (And.intro g2 g3)))
 clear g0 g1 g2 g3
 have HA := Lib.hid (heap_alloc_new w (.cells #[.slice xa0 xn0 xc0, .slice xa1 xn1 xc1, .slice xa2 xn2 xc2, .slice xa3 xn3 xc3, .slice xa4 xn4 xc4, .slice xa5 xn5 xc5, .slice xa6 xn6 xc6, .slice xa7 xn7 xc7] 37))
 have HB := Lib.hid ((Below.refl _ w).alloc (Nat.le_refl _) (.cells #[.slice xa0 xn0 xc0, .slice xa1 xn1 xc1, .slice xa2 xn2 xc2, .slice xa3 xn3 xc3, .slice xa4 xn4 xc4, .slice xa5 xn5 xc5, .slice xa6 xn6 xc6, .slice xa7 xn7 xc7] 37))
 go_enter Tryz.func123, Tryz.ntmps123
 go_upto_region 1 with (fail)
 obtain ⟨b0, hb0⟩ : ∃ b0, b0 = w.heap.size := ⟨_, rfl⟩
 rw [← hb0] at HA ⊢
 clear hb0
 generalize w.alloc (.cells #[.slice xa0 xn0 xc0, .slice xa1 xn1 xc1, .slice xa2 xn2 xc2, .slice xa3 xn3 xc3, .slice xa4 xn4 xc4, .slice xa5 xn5 xc5, .slice xa6 xn6 xc6, .slice xa7 xn7 xc7] 37) = w1 at *
 have q0 := cell_of_row w1 b0 0 _ _ (0, 0) HA.out
 have q1 := cell_of_row w1 b0 1 _ _ (0, 0) HA.out
 have q2 := cell_of_row w1 b0 2 _ _ (0, 0) HA.out
 have q3 := cell_of_row w1 b0 3 _ _ (0, 0) HA.out
 have q4 := cell_of_row w1 b0 4 _ _ (0, 0) HA.out
 have q5 := cell_of_row w1 b0 5 _ _ (0, 0) HA.out
 have q6 := cell_of_row w1 b0 6 _ _ (0, 0) HA.out
 have q7 := cell_of_row w1 b0 7 _ _ (0, 0) HA.out
 simp at q0 q1 q2 q3 q4 q5 q6 q7
 have HAt := Lib.hid ((HG.out.2.2.1.below HB.out).at_walk r hr)
 obtain ⟨v, hve⟩ : ∃ v, v = F 2 (runeR r) := ⟨_, rfl⟩
 rw [← hve] at hv HAt HTw
 clear hfit hve
 go_wp2_with fail
 refine HAt.out.mono ?_
 rintro e w2 ⟨rfl, hb⟩
 have HB2 := Lib.hid (HB.out.trans (hb.mono HB.out.size))
 clear hb HAt HA q0 q1 q2 q3 q4 q5 q6 q7
 by_cases h1 : v = 0
 ·have HO := Lib.hid (HTw.out.trans (if_neg (show ¬ 0 < v by omega)))
  subst h1
  go_wp2_with fail
  refine (plain_walk r w2).mono ?_
  rintro e w3 ⟨rfl, rfl⟩
  go_wp2
  go_ret
  exact ⟨by rw [HO.out]; rfl, HB2.out⟩
 ·have e1 : IntKind.i32.wrap (v - 1) = v - 1 := IntWalk.i32_in _ (by omega)
  have hd : (v == 0) = false := beq_false_of_ne h1
  have HO := Lib.hid (HTw.out.trans (if_pos (show 0 < v by omega)))
  go_wp2
  go_ret
  exact ⟨by rw [HO.out]; rfl, HB2.out⟩
end Go.Proofs.YtbmphakfgoompaaGreat


/-
 Where packed tables of the document are wrong.
-/
namespace Go.Proofs.YtbmphakfgoompaaGreat
open Go.RowKit
attribute [local go_sem] Oper.semAt_some

theorem brS_nz (v : Int) : (v != 0) = (brS v != 0) := by
 unfold brS
 by_cases h1 : 0 < v
 ·rw [if_pos h1]; simp; omega
 ·rw [if_neg h1]
  by_cases h2 : v < 0
  ·rw [if_pos h2]; simp; omega
  ·rw [if_neg h2]; simp; omega
theorem self_ok (v : Int) (r : Nat) : (v != 0 && (v == (r : Nat) + 1)) = (v == ((r : Nat) : Int) + 1) := by
 by_cases h : v = ((r : Nat) : Int) + 1
 ·rw [h]; simp; omega
 ·rw [beq_false_of_ne h]; simp
set_option maxRecDepth 100000 in
set_option maxHeartbeats 8000000 in
theorem dWrong_walk (w : World) (f : Value) (F : Nat → Nat → Int) (hf : FourAt w f F) (hfit : FitD F) (r : Nat) (hr : r ≤ 1114111) :
  Calls Tryz.prog 93 #[f, .int .i32 (r : Nat)] w fun e w' => e = .returned (.bool (wrongF (F 0) (F 1) (F 2) (F 3) r)) ∧ Below w.heap.size w w' := by
 have hv := hfit.b r hr
 have hol := brO_le hv
 have htv := hfit.t r hr
 have HW : Hid (wrongF (F 0) (F 1) (F 2) (F 3) r = (((F 1 r != 0) && oddF (F 0) (F 1) r) || ((F 2 r != 0) && strangeF (F 1) (F 2) r) || (F 3 r == ((r : Nat) : Int) + 1))) := Lib.hid (by unfold wrongF selfF; rw [self_ok])
 have HOd : Hid (oddF (F 0) (F 1) r = (brS (F 1 (runeR (brO (F 1 r)))) == 0 || brS (F 1 (runeR (brO (F 1 r)))) == brS (F 1 r) || brO (F 1 (runeR (brO (F 1 r)))) != (r : Nat) || F 0 r != 14)) := Lib.hid rfl
 have HSt0 : Hid (F 2 r ≠ 0 → strangeF (F 1) (F 2) r = (brS (F 1 r) == 0 || F 2 r - 1 == ((r : Nat) : Int) || brS (F 1 (runeR (F 2 r - 1))) != brS (F 1 r) || F 2 (runeR (F 2 r - 1)) != 0 || brO (F 1 (runeR (F 2 r - 1))) != twF (F 2) (runeR (brO (F 1 r))))) := Lib.hid (fun h => by
  have e : twF (F 2) r = F 2 r - 1 := if_pos (by omega)
  unfold strangeF
  rw [e])
 have HB1 := Lib.hid (fun (W : World) (hb : Below w.heap.size w W) => dBracket_walk W f F (hf.below hb) hfit (r : Nat) (by unfold wf32; omega))
 have HB2 := Lib.hid (fun (W : World) (hb : Below w.heap.size w W) => dBracket_walk W f F (hf.below hb) hfit (brO (F 1 r)) (by unfold wf32; omega))
 have HBt := Lib.hid (fun (W : World) (hb : Below w.heap.size w W) => dBracket_walk W f F (hf.below hb) hfit (F 2 r - 1) (by unfold wf32; omega))
 have HTw := Lib.hid (fun (W : World) (hb : Below w.heap.size w W) => dTwin_walk W f F (hf.below hb) hfit (brO (F 1 r)) (by unfold wf32; omega))
 obtain ⟨x0, x1, x2, x3, x4, x5, x6, x7, rfl, g0, g1, g2, g3⟩ := hf
 obtain ⟨⟨xa0, xn0, xc0, rfl⟩, ⟨xa1, xn1, xc1, rfl⟩⟩ := g0.slices
 obtain ⟨⟨xa2, xn2, xc2, rfl⟩, ⟨xa3, xn3, xc3, rfl⟩⟩ := g1.slices
 obtain ⟨⟨xa4, xn4, xc4, rfl⟩, ⟨xa5, xn5, xc5, rfl⟩⟩ := g2.slices
 obtain ⟨⟨xa6, xn6, xc6, rfl⟩, ⟨xa7, xn7, xc7, rfl⟩⟩ := g3.slices
 have HF := Lib.hid (show FourAt w (.agg #[.slice xa0 xn0 xc0, .slice xa1 xn1 xc1, .slice xa2 xn2 xc2, .slice xa3 xn3 xc3, .slice xa4 xn4 xc4, .slice xa5 xn5 xc5, .slice xa6 xn6 xc6, .slice xa7 xn7 xc7]) F from ⟨_, _, _, _, _, _, _, _, rfl, g0, g1, g2, g3⟩)
 have HG := Lib.hid (And.intro g0 (And.intro g1 (And.intro g2 g3)))
 clear g0 g1 g2 g3
 have HA_w1 := Lib.hid (heap_alloc_new w (.cells #[.slice xa0 xn0 xc0, .slice xa1 xn1 xc1, .slice xa2 xn2 xc2, .slice xa3 xn3 xc3, .slice xa4 xn4 xc4, .slice xa5 xn5 xc5, .slice xa6 xn6 xc6, .slice xa7 xn7 xc7] 37))
 have HB_w1 := Lib.hid ((Below.refl _ w).alloc (Nat.le_refl _) (.cells #[.slice xa0 xn0 xc0, .slice xa1 xn1 xc1, .slice xa2 xn2 xc2, .slice xa3 xn3 xc3, .slice xa4 xn4 xc4, .slice xa5 xn5 xc5, .slice xa6 xn6 xc6, .slice xa7 xn7 xc7] 37))
 go_enter Tryz.func93, Tryz.ntmps93
 go_upto_region 1 with (fail)
 obtain ⟨b0, hb0⟩ : ∃ b0, b0 = w.heap.size := ⟨_, rfl⟩
 rw [← hb0] at HA_w1 ⊢
 clear hb0
 generalize w.alloc (.cells #[.slice xa0 xn0 xc0, .slice xa1 xn1 xc1, .slice xa2 xn2 xc2, .slice xa3 xn3 xc3, .slice xa4 xn4 xc4, .slice xa5 xn5 xc5, .slice xa6 xn6 xc6, .slice xa7 xn7 xc7] 37) = w1 at *
 have q0 := cell_of_row w1 b0 0 _ _ (0, 0) HA_w1.out
 have q1 := cell_of_row w1 b0 1 _ _ (0, 0) HA_w1.out
 have q2 := cell_of_row w1 b0 2 _ _ (0, 0) HA_w1.out
 have q3 := cell_of_row w1 b0 3 _ _ (0, 0) HA_w1.out
 have q4 := cell_of_row w1 b0 4 _ _ (0, 0) HA_w1.out
 have q5 := cell_of_row w1 b0 5 _ _ (0, 0) HA_w1.out
 have q6 := cell_of_row w1 b0 6 _ _ (0, 0) HA_w1.out
 have q7 := cell_of_row w1 b0 7 _ _ (0, 0) HA_w1.out
 simp at q0 q1 q2 q3 q4 q5 q6 q7
 have HCt := Lib.hid (fun (W : World) (hb : Below w.heap.size w W) => (HG.out.1.below hb).at_walk (r : Nat) (by unfold wf32; omega))
 have HTt := Lib.hid (fun (W : World) (hb : Below w.heap.size w W) => (HG.out.2.2.1.below hb).at_walk (r : Nat) (by unfold wf32; omega))
 have HTt1 := Lib.hid (fun (W : World) (hb : Below w.heap.size w W) => (HG.out.2.2.1.below hb).at_walk (F 2 r - 1) (by unfold wf32; omega))
 have HMt := Lib.hid (fun (W : World) (hb : Below w.heap.size w W) => (HG.out.2.2.2.below hb).at_walk (r : Nat) (by unfold wf32; omega))
 have hrr : runeR ((r : Nat) : Int) = r := runeR_nat hr
 rw [hrr] at HB1 HCt HTt HMt
 have HVs := Lib.hid (brS_nz (F 1 r))
 clear hfit HF HG hrr hv
 obtain ⟨wv, hwv⟩ : ∃ wv, wv = wrongF (F 0) (F 1) (F 2) (F 3) r := ⟨_, rfl⟩
 rw [← hwv] at HW
 have HWv := Lib.hid hwv
 clear hwv
 generalize oddF (F 0) (F 1) r = od at *
 generalize strangeF (F 1) (F 2) r = st at *
 generalize brO (F 1 (runeR (brO (F 1 r)))) = p at *
 generalize brS (F 1 (runeR (brO (F 1 r)))) = t at *
 generalize brO (F 1 (runeR (F 2 r - 1))) = p2 at *
 generalize brS (F 1 (runeR (F 2 r - 1))) = u at *
 generalize F 2 (runeR (F 2 r - 1)) = tt at *
 generalize twF (F 2) (runeR (brO (F 1 r))) = tw at *
 generalize brO (F 1 r) = o at *
 generalize brS (F 1 r) = s at *
 generalize F 0 r = c at *
 generalize F 1 r = v at *
 generalize F 2 r = tv at *
 generalize F 3 r = mv at *
 go_wp2_with fail
 refine (HB1.out w1 HB_w1.out).mono ?_
 rintro e w2 ⟨rfl, hb⟩
 have HB_w2 := Lib.hid (HB_w1.out.trans (hb.mono HB_w1.out.size))
 have HA_w2 := Lib.hid ((hb.block b0 (Array.getElem?_eq_some_iff.1 HA_w1.out).1).trans HA_w1.out)
 clear hb q0 q1 q2 q3 q4 q5 q6 q7
 have q0 := cell_of_row w2 b0 0 _ _ (0, 0) HA_w2.out
 have q1 := cell_of_row w2 b0 1 _ _ (0, 0) HA_w2.out
 have q2 := cell_of_row w2 b0 2 _ _ (0, 0) HA_w2.out
 have q3 := cell_of_row w2 b0 3 _ _ (0, 0) HA_w2.out
 have q4 := cell_of_row w2 b0 4 _ _ (0, 0) HA_w2.out
 have q5 := cell_of_row w2 b0 5 _ _ (0, 0) HA_w2.out
 have q6 := cell_of_row w2 b0 6 _ _ (0, 0) HA_w2.out
 have q7 := cell_of_row w2 b0 7 _ _ (0, 0) HA_w2.out
 simp at q0 q1 q2 q3 q4 q5 q6 q7
 by_cases hs : s = 0
 ·have HS0 : Hid ((s != 0) = false) := Lib.hid (by simp [hs])
  have hd : (s != 0) = false := HS0.out
  have HSt : Hid (tv ≠ 0 → st = (s == 0 || tv - 1 == ((r : Nat) : Int) || u != s || tt != 0 || p2 != tw)) := HSt0
  clear hs
  go_wp2_with fail
  refine (HTt.out w2 HB_w2.out).mono ?_
  rintro e w5 ⟨rfl, hb⟩
  have HB_w5 := Lib.hid (HB_w2.out.trans (hb.mono HB_w2.out.size))
  have HA_w5 := Lib.hid ((hb.block b0 (Array.getElem?_eq_some_iff.1 HA_w2.out).1).trans HA_w2.out)
  clear hb q0 q1 q2 q3 q4 q5 q6 q7
  have q0 := cell_of_row w5 b0 0 _ _ (0, 0) HA_w5.out
  have q1 := cell_of_row w5 b0 1 _ _ (0, 0) HA_w5.out
  have q2 := cell_of_row w5 b0 2 _ _ (0, 0) HA_w5.out
  have q3 := cell_of_row w5 b0 3 _ _ (0, 0) HA_w5.out
  have q4 := cell_of_row w5 b0 4 _ _ (0, 0) HA_w5.out
  have q5 := cell_of_row w5 b0 5 _ _ (0, 0) HA_w5.out
  have q6 := cell_of_row w5 b0 6 _ _ (0, 0) HA_w5.out
  have q7 := cell_of_row w5 b0 7 _ _ (0, 0) HA_w5.out
  simp at q0 q1 q2 q3 q4 q5 q6 q7
  by_cases htv : tv = 0
  ·have hd : (tv != 0) = false := by simp [htv]
   have HD := Lib.hid hd
   clear htv
   go_wp2_with fail
   refine (HMt.out w5 HB_w5.out).mono ?_
   rintro e w9 ⟨rfl, hb⟩
   have HB_w9 := Lib.hid (HB_w5.out.trans (hb.mono HB_w5.out.size))
   have HA_w9 := Lib.hid ((hb.block b0 (Array.getElem?_eq_some_iff.1 HA_w5.out).1).trans HA_w5.out)
   clear hb q0 q1 q2 q3 q4 q5 q6 q7
   have q0 := cell_of_row w9 b0 0 _ _ (0, 0) HA_w9.out
   have q1 := cell_of_row w9 b0 1 _ _ (0, 0) HA_w9.out
   have q2 := cell_of_row w9 b0 2 _ _ (0, 0) HA_w9.out
   have q3 := cell_of_row w9 b0 3 _ _ (0, 0) HA_w9.out
   have q4 := cell_of_row w9 b0 4 _ _ (0, 0) HA_w9.out
   have q5 := cell_of_row w9 b0 5 _ _ (0, 0) HA_w9.out
   have q6 := cell_of_row w9 b0 6 _ _ (0, 0) HA_w9.out
   have q7 := cell_of_row w9 b0 7 _ _ (0, 0) HA_w9.out
   simp at q0 q1 q2 q3 q4 q5 q6 q7
   have HV := Lib.hid (show wv = (mv == ((r : Nat) : Int) + 1) by rw [HW.out, HD.out, HVs.out, HS0.out]; simp)
   go_wp2
   go_ret
   exact ⟨by rw [← HWv.out, HV.out]; rfl, HB_w9.out⟩
  ·have hd : (tv != 0) = true := by simp [htv]
   have HD := Lib.hid hd
   have e1 : IntKind.i32.wrap (tv - 1) = tv - 1 := IntWalk.i32_in _ (by omega)
   have HTv := Lib.hid htv
   clear htv
   go_wp2_with fail
   refine (HBt.out w5 HB_w5.out).mono ?_
   rintro e w6 ⟨rfl, hb⟩
   have HB_w6 := Lib.hid (HB_w5.out.trans (hb.mono HB_w5.out.size))
   have HA_w6 := Lib.hid ((hb.block b0 (Array.getElem?_eq_some_iff.1 HA_w5.out).1).trans HA_w5.out)
   clear hb q0 q1 q2 q3 q4 q5 q6 q7
   have q0 := cell_of_row w6 b0 0 _ _ (0, 0) HA_w6.out
   have q1 := cell_of_row w6 b0 1 _ _ (0, 0) HA_w6.out
   have q2 := cell_of_row w6 b0 2 _ _ (0, 0) HA_w6.out
   have q3 := cell_of_row w6 b0 3 _ _ (0, 0) HA_w6.out
   have q4 := cell_of_row w6 b0 4 _ _ (0, 0) HA_w6.out
   have q5 := cell_of_row w6 b0 5 _ _ (0, 0) HA_w6.out
   have q6 := cell_of_row w6 b0 6 _ _ (0, 0) HA_w6.out
   have q7 := cell_of_row w6 b0 7 _ _ (0, 0) HA_w6.out
   simp at q0 q1 q2 q3 q4 q5 q6 q7
   have hs0 : (s == 0) = true := by have := HS0.out; simpa using this
   have HV := Lib.hid (show wv = true by rw [HW.out, HSt.out HTv.out, HD.out, hs0]; simp)
   go_wp2
   go_ret
   exact ⟨by rw [← HWv.out, HV.out]; rfl, HB_w6.out⟩
 ·have HS0 : Hid ((s != 0) = true) := Lib.hid (by simp [hs])
  have hd : (s != 0) = true := HS0.out
  have HSt : Hid (tv ≠ 0 → st = (s == 0 || tv - 1 == ((r : Nat) : Int) || u != s || tt != 0 || p2 != tw)) := HSt0
  clear hs
  go_wp2_with fail
  refine (HB2.out w2 HB_w2.out).mono ?_
  rintro e w3 ⟨rfl, hb⟩
  have HB_w3 := Lib.hid (HB_w2.out.trans (hb.mono HB_w2.out.size))
  have HA_w3 := Lib.hid ((hb.block b0 (Array.getElem?_eq_some_iff.1 HA_w2.out).1).trans HA_w2.out)
  clear hb q0 q1 q2 q3 q4 q5 q6 q7
  have q0 := cell_of_row w3 b0 0 _ _ (0, 0) HA_w3.out
  have q1 := cell_of_row w3 b0 1 _ _ (0, 0) HA_w3.out
  have q2 := cell_of_row w3 b0 2 _ _ (0, 0) HA_w3.out
  have q3 := cell_of_row w3 b0 3 _ _ (0, 0) HA_w3.out
  have q4 := cell_of_row w3 b0 4 _ _ (0, 0) HA_w3.out
  have q5 := cell_of_row w3 b0 5 _ _ (0, 0) HA_w3.out
  have q6 := cell_of_row w3 b0 6 _ _ (0, 0) HA_w3.out
  have q7 := cell_of_row w3 b0 7 _ _ (0, 0) HA_w3.out
  simp at q0 q1 q2 q3 q4 q5 q6 q7
  go_upto_region 4 with (fail)
  go_cut [44] from 26 to 44 (fun x wx => x = .bool od ∧ wx.heap[b0]? = some (.cells #[.slice xa0 xn0 xc0, .slice xa1 xn1 xc1, .slice xa2 xn2 xc2, .slice xa3 xn3 xc3, .slice xa4 xn4 xc4, .slice xa5 xn5 xc5, .slice xa6 xn6 xc6, .slice xa7 xn7 xc7] 37 (0, 0)) ∧ Below w.heap.size w wx)
  case first =>
   by_cases c1 : (p != ((r : Nat) : Int)) = true
   ·have HV := Lib.hid (show od = true by rw [HOd.out, c1]; simp)
    go_wp2
    go_meet
    case rel => exact ⟨by rw [HV.out], HA_w3.out, HB_w3.out⟩
   ·have c1 := Bool.eq_false_iff.2 c1
    by_cases c2 : (t == 0) = true
    ·have HV := Lib.hid (show od = true by rw [HOd.out, c2]; simp)
     go_wp2
     go_meet
     case rel => exact ⟨by rw [HV.out], HA_w3.out, HB_w3.out⟩
    ·have c2 := Bool.eq_false_iff.2 c2
     by_cases c3 : (t == s) = true
     ·have HV := Lib.hid (show od = true by rw [HOd.out, c3]; simp)
      go_wp2
      go_meet
      case rel => exact ⟨by rw [HV.out], HA_w3.out, HB_w3.out⟩
     ·have c3 := Bool.eq_false_iff.2 c3
      have HC := Lib.hid (And.intro c1 (And.intro c2 c3))
      go_wp2_with fail
      refine (HCt.out w3 HB_w3.out).mono ?_
      rintro e w4 ⟨rfl, hb⟩
      have HB_w4 := Lib.hid (HB_w3.out.trans (hb.mono HB_w3.out.size))
      have HA_w4 := Lib.hid ((hb.block b0 (Array.getElem?_eq_some_iff.1 HA_w3.out).1).trans HA_w3.out)
      clear hb q0 q1 q2 q3 q4 q5 q6 q7
      have q0 := cell_of_row w4 b0 0 _ _ (0, 0) HA_w4.out
      have q1 := cell_of_row w4 b0 1 _ _ (0, 0) HA_w4.out
      have q2 := cell_of_row w4 b0 2 _ _ (0, 0) HA_w4.out
      have q3 := cell_of_row w4 b0 3 _ _ (0, 0) HA_w4.out
      have q4 := cell_of_row w4 b0 4 _ _ (0, 0) HA_w4.out
      have q5 := cell_of_row w4 b0 5 _ _ (0, 0) HA_w4.out
      have q6 := cell_of_row w4 b0 6 _ _ (0, 0) HA_w4.out
      have q7 := cell_of_row w4 b0 7 _ _ (0, 0) HA_w4.out
      simp at q0 q1 q2 q3 q4 q5 q6 q7
      have HV := Lib.hid (show od = (c != 14) by rw [HOd.out, HC.out.1, HC.out.2.1, HC.out.2.2]; simp)
      go_wp2
      go_meet
      case rel => exact ⟨by rw [HV.out], HA_w4.out, HB_w4.out⟩
  case rest =>
  obtain ⟨rfl, hA10, hB10⟩ := hcut
  have HA_wc := Lib.hid hA10; have HB_wc := Lib.hid hB10
  clear hA10 hB10 q0 q1 q2 q3 q4 q5 q6 q7
  cases od
  ·have HOdF : Hid (∀ x : Bool, (x && false) = false) := Lib.hid (fun x => by cases x <;> rfl)
   obtain ⟨w4, hw4⟩ : ∃ w4, w4 = wc := ⟨_, rfl⟩
   rw [← hw4] at HA_wc HB_wc ⊢
   clear hw4
   have HA_w4 := Lib.hid HA_wc.out
   have HB_w4 := Lib.hid HB_wc.out
   have q0 := cell_of_row w4 b0 0 _ _ (0, 0) HA_w4.out
   have q1 := cell_of_row w4 b0 1 _ _ (0, 0) HA_w4.out
   have q2 := cell_of_row w4 b0 2 _ _ (0, 0) HA_w4.out
   have q3 := cell_of_row w4 b0 3 _ _ (0, 0) HA_w4.out
   have q4 := cell_of_row w4 b0 4 _ _ (0, 0) HA_w4.out
   have q5 := cell_of_row w4 b0 5 _ _ (0, 0) HA_w4.out
   have q6 := cell_of_row w4 b0 6 _ _ (0, 0) HA_w4.out
   have q7 := cell_of_row w4 b0 7 _ _ (0, 0) HA_w4.out
   simp at q0 q1 q2 q3 q4 q5 q6 q7
   go_wp2_with fail
   refine (HTt.out w4 HB_w4.out).mono ?_
   rintro e w5 ⟨rfl, hb⟩
   have HB_w5 := Lib.hid (HB_w4.out.trans (hb.mono HB_w4.out.size))
   have HA_w5 := Lib.hid ((hb.block b0 (Array.getElem?_eq_some_iff.1 HA_w4.out).1).trans HA_w4.out)
   clear hb q0 q1 q2 q3 q4 q5 q6 q7
   have q0 := cell_of_row w5 b0 0 _ _ (0, 0) HA_w5.out
   have q1 := cell_of_row w5 b0 1 _ _ (0, 0) HA_w5.out
   have q2 := cell_of_row w5 b0 2 _ _ (0, 0) HA_w5.out
   have q3 := cell_of_row w5 b0 3 _ _ (0, 0) HA_w5.out
   have q4 := cell_of_row w5 b0 4 _ _ (0, 0) HA_w5.out
   have q5 := cell_of_row w5 b0 5 _ _ (0, 0) HA_w5.out
   have q6 := cell_of_row w5 b0 6 _ _ (0, 0) HA_w5.out
   have q7 := cell_of_row w5 b0 7 _ _ (0, 0) HA_w5.out
   simp at q0 q1 q2 q3 q4 q5 q6 q7
   by_cases htv : tv = 0
   ·have hd : (tv != 0) = false := by simp [htv]
    have HD := Lib.hid hd
    clear htv
    go_wp2_with fail
    refine (HMt.out w5 HB_w5.out).mono ?_
    rintro e w9 ⟨rfl, hb⟩
    have HB_w9 := Lib.hid (HB_w5.out.trans (hb.mono HB_w5.out.size))
    have HA_w9 := Lib.hid ((hb.block b0 (Array.getElem?_eq_some_iff.1 HA_w5.out).1).trans HA_w5.out)
    clear hb q0 q1 q2 q3 q4 q5 q6 q7
    have q0 := cell_of_row w9 b0 0 _ _ (0, 0) HA_w9.out
    have q1 := cell_of_row w9 b0 1 _ _ (0, 0) HA_w9.out
    have q2 := cell_of_row w9 b0 2 _ _ (0, 0) HA_w9.out
    have q3 := cell_of_row w9 b0 3 _ _ (0, 0) HA_w9.out
    have q4 := cell_of_row w9 b0 4 _ _ (0, 0) HA_w9.out
    have q5 := cell_of_row w9 b0 5 _ _ (0, 0) HA_w9.out
    have q6 := cell_of_row w9 b0 6 _ _ (0, 0) HA_w9.out
    have q7 := cell_of_row w9 b0 7 _ _ (0, 0) HA_w9.out
    simp at q0 q1 q2 q3 q4 q5 q6 q7
    have HV := Lib.hid (show wv = (mv == ((r : Nat) : Int) + 1) by rw [HW.out, HD.out, HOdF.out]; simp)
    go_wp2
    go_ret
    exact ⟨by rw [← HWv.out, HV.out]; rfl, HB_w9.out⟩
   ·have hd : (tv != 0) = true := by simp [htv]
    have HD := Lib.hid hd
    have e1 : IntKind.i32.wrap (tv - 1) = tv - 1 := IntWalk.i32_in _ (by omega)
    have HTv := Lib.hid htv
    clear htv
    go_wp2_with fail
    refine (HBt.out w5 HB_w5.out).mono ?_
    rintro e w6 ⟨rfl, hb⟩
    have HB_w6 := Lib.hid (HB_w5.out.trans (hb.mono HB_w5.out.size))
    have HA_w6 := Lib.hid ((hb.block b0 (Array.getElem?_eq_some_iff.1 HA_w5.out).1).trans HA_w5.out)
    clear hb q0 q1 q2 q3 q4 q5 q6 q7
    have q0 := cell_of_row w6 b0 0 _ _ (0, 0) HA_w6.out
    have q1 := cell_of_row w6 b0 1 _ _ (0, 0) HA_w6.out
    have q2 := cell_of_row w6 b0 2 _ _ (0, 0) HA_w6.out
    have q3 := cell_of_row w6 b0 3 _ _ (0, 0) HA_w6.out
    have q4 := cell_of_row w6 b0 4 _ _ (0, 0) HA_w6.out
    have q5 := cell_of_row w6 b0 5 _ _ (0, 0) HA_w6.out
    have q6 := cell_of_row w6 b0 6 _ _ (0, 0) HA_w6.out
    have q7 := cell_of_row w6 b0 7 _ _ (0, 0) HA_w6.out
    simp at q0 q1 q2 q3 q4 q5 q6 q7
    have hs0 : (s == 0) = false := by have := HS0.out; simpa using this
    go_upto_region 9 with (fail)
    go_cut [88] from 59 to 88 (fun x wx => x = .bool st ∧ wx.heap[b0]? = some (.cells #[.slice xa0 xn0 xc0, .slice xa1 xn1 xc1, .slice xa2 xn2 xc2, .slice xa3 xn3 xc3, .slice xa4 xn4 xc4, .slice xa5 xn5 xc5, .slice xa6 xn6 xc6, .slice xa7 xn7 xc7] 37 (0, 0)) ∧ Below w.heap.size w wx)
    case first =>
     by_cases c1 : (tv - 1 == ((r : Nat) : Int)) = true
     ·have HV := Lib.hid (show st = true by rw [HSt.out HTv.out, c1]; simp)
      go_wp2
      go_meet
      case rel => exact ⟨by rw [HV.out], HA_w6.out, HB_w6.out⟩
     ·have c1 := Bool.eq_false_iff.2 c1
      by_cases c2 : (u != s) = true
      ·have HV := Lib.hid (show st = true by rw [HSt.out HTv.out, c2]; simp)
       go_wp2
       go_meet
       case rel => exact ⟨by rw [HV.out], HA_w6.out, HB_w6.out⟩
      ·have c2 := Bool.eq_false_iff.2 c2
       go_wp2_with fail
       refine (HTt1.out w6 HB_w6.out).mono ?_
       rintro e w7 ⟨rfl, hb⟩
       have HB_w7 := Lib.hid (HB_w6.out.trans (hb.mono HB_w6.out.size))
       have HA_w7 := Lib.hid ((hb.block b0 (Array.getElem?_eq_some_iff.1 HA_w6.out).1).trans HA_w6.out)
       clear hb q0 q1 q2 q3 q4 q5 q6 q7
       have q0 := cell_of_row w7 b0 0 _ _ (0, 0) HA_w7.out
       have q1 := cell_of_row w7 b0 1 _ _ (0, 0) HA_w7.out
       have q2 := cell_of_row w7 b0 2 _ _ (0, 0) HA_w7.out
       have q3 := cell_of_row w7 b0 3 _ _ (0, 0) HA_w7.out
       have q4 := cell_of_row w7 b0 4 _ _ (0, 0) HA_w7.out
       have q5 := cell_of_row w7 b0 5 _ _ (0, 0) HA_w7.out
       have q6 := cell_of_row w7 b0 6 _ _ (0, 0) HA_w7.out
       have q7 := cell_of_row w7 b0 7 _ _ (0, 0) HA_w7.out
       simp at q0 q1 q2 q3 q4 q5 q6 q7
       by_cases c3 : (tt != 0) = true
       ·have HV := Lib.hid (show st = true by rw [HSt.out HTv.out, c3]; simp)
        go_wp2
        go_meet
        case rel => exact ⟨by rw [HV.out], HA_w7.out, HB_w7.out⟩
       ·have c3 := Bool.eq_false_iff.2 c3
        have HC := Lib.hid (And.intro c1 (And.intro c2 (And.intro c3 hs0)))
        go_wp2_with fail
        refine (HTw.out w7 HB_w7.out).mono ?_
        rintro e w8 ⟨rfl, hb⟩
        have HB_w8 := Lib.hid (HB_w7.out.trans (hb.mono HB_w7.out.size))
        have HA_w8 := Lib.hid ((hb.block b0 (Array.getElem?_eq_some_iff.1 HA_w7.out).1).trans HA_w7.out)
        clear hb q0 q1 q2 q3 q4 q5 q6 q7
        have q0 := cell_of_row w8 b0 0 _ _ (0, 0) HA_w8.out
        have q1 := cell_of_row w8 b0 1 _ _ (0, 0) HA_w8.out
        have q2 := cell_of_row w8 b0 2 _ _ (0, 0) HA_w8.out
        have q3 := cell_of_row w8 b0 3 _ _ (0, 0) HA_w8.out
        have q4 := cell_of_row w8 b0 4 _ _ (0, 0) HA_w8.out
        have q5 := cell_of_row w8 b0 5 _ _ (0, 0) HA_w8.out
        have q6 := cell_of_row w8 b0 6 _ _ (0, 0) HA_w8.out
        have q7 := cell_of_row w8 b0 7 _ _ (0, 0) HA_w8.out
        simp at q0 q1 q2 q3 q4 q5 q6 q7
        have HV := Lib.hid (show st = (p2 != tw) by rw [HSt.out HTv.out, HC.out.1, HC.out.2.1, HC.out.2.2.1, HC.out.2.2.2]; simp)
        go_wp2
        go_meet
        case rel => exact ⟨by rw [HV.out], HA_w8.out, HB_w8.out⟩
    case rest =>
    obtain ⟨rfl, hA10, hB10⟩ := hcut
    have HA_wc := Lib.hid hA10; have HB_wc := Lib.hid hB10
    clear hA10 hB10 q0 q1 q2 q3 q4 q5 q6 q7
    have q0 := cell_of_row wc b0 0 _ _ (0, 0) HA_wc.out
    have q1 := cell_of_row wc b0 1 _ _ (0, 0) HA_wc.out
    have q2 := cell_of_row wc b0 2 _ _ (0, 0) HA_wc.out
    have q3 := cell_of_row wc b0 3 _ _ (0, 0) HA_wc.out
    have q4 := cell_of_row wc b0 4 _ _ (0, 0) HA_wc.out
    have q5 := cell_of_row wc b0 5 _ _ (0, 0) HA_wc.out
    have q6 := cell_of_row wc b0 6 _ _ (0, 0) HA_wc.out
    have q7 := cell_of_row wc b0 7 _ _ (0, 0) HA_wc.out
    simp at q0 q1 q2 q3 q4 q5 q6 q7
    cases st
    ·have HV0 := Lib.hid (show wv = (mv == ((r : Nat) : Int) + 1) by rw [HW.out, HOdF.out]; simp)
     go_wp2_with fail
     refine (HMt.out wc HB_wc.out).mono ?_
     rintro e w9 ⟨rfl, hb⟩
     have HB_w9 := Lib.hid (HB_wc.out.trans (hb.mono HB_wc.out.size))
     have HA_w9 := Lib.hid ((hb.block b0 (Array.getElem?_eq_some_iff.1 HA_wc.out).1).trans HA_wc.out)
     clear hb q0 q1 q2 q3 q4 q5 q6 q7
     have q0 := cell_of_row w9 b0 0 _ _ (0, 0) HA_w9.out
     have q1 := cell_of_row w9 b0 1 _ _ (0, 0) HA_w9.out
     have q2 := cell_of_row w9 b0 2 _ _ (0, 0) HA_w9.out
     have q3 := cell_of_row w9 b0 3 _ _ (0, 0) HA_w9.out
     have q4 := cell_of_row w9 b0 4 _ _ (0, 0) HA_w9.out
     have q5 := cell_of_row w9 b0 5 _ _ (0, 0) HA_w9.out
     have q6 := cell_of_row w9 b0 6 _ _ (0, 0) HA_w9.out
     have q7 := cell_of_row w9 b0 7 _ _ (0, 0) HA_w9.out
     simp at q0 q1 q2 q3 q4 q5 q6 q7
     go_wp2
     go_ret
     exact ⟨by rw [← HWv.out, HV0.out]; rfl, HB_w9.out⟩

    ·have HV := Lib.hid (show wv = true by rw [HW.out, HD.out]; simp)
     go_wp2
     go_ret
     exact ⟨by rw [← HWv.out, HV.out]; rfl, HB_wc.out⟩
  ·have HV := Lib.hid (show wv = true by rw [HW.out, HVs.out, HS0.out]; simp)
   go_wp2
   go_ret
   exact ⟨by rw [← HWv.out, HV.out]; rfl, HB_wc.out⟩
end Go.Proofs.YtbmphakfgoompaaGreat

