/-
  Plain laws: the numbers of blocks are those of their first places.
-/
import Derived.Test.YtabbabkmojaoaaaTV
set_option linter.unusedVariables false
set_option linter.unusedSimpArgs false
namespace Go.Proofs.Ytabbabkmojaoaaa

theorem mkF_pre (f : Nat → Int) (k : Nat) : ∀ j (i : Nat), (∀ x, (mkF f k).lows[i]? = some x → (mkF f (k + j)).lows[i]? = some x) ∧ (∀ x, (mkF f k).mids[i]? = some x → (mkF f (k + j)).mids[i]? = some x) := by
  intro j
  induction j with
  | zero => exact fun i => ⟨fun x h => h, fun x h => h⟩
  | succ j ih =>
    intro i
    obtain ⟨h1, h2⟩ := ih i
    obtain ⟨hw, -⟩ := mkF_ok f (k + j)
    have hN := numB_ok (L := (mkF f (k + j)).lows) (b := blkF f (k + j)) (fun m hm => by rw [hw.low m hm, blkF_length])
    rw [← Nat.add_assoc, mkF]
    by_cases h7 : ((mkF f (k + j)).blocks + 1) % 64 = 0
    · rw [addS_full h7]
      have hM := numB_ok (L := (mkF f (k + j)).mids) (b := (mkF f (k + j)).cur.set ((mkF f (k + j)).blocks % 64) (numB eq8 (mkF f (k + j)).lows (blkF f (k + j))).2) (fun m hm => by rw [hw.mid m hm]; simp [hw.cur])
      exact ⟨fun x h => hN.pre i x (h1 x h), fun x h => hM.pre i x (h2 x h)⟩
    · rw [addS_less h7]
      exact ⟨fun x h => hN.pre i x (h1 x h), fun x h => h2 x h⟩
theorem nodup_idx {β : Type} {l : List β} (h : l.Nodup) {i j : Nat} {x : β} (hi : l[i]? = some x) (hj : l[j]? = some x) : i = j := by
  obtain ⟨hi1, rfl⟩ := List.getElem?_eq_some_iff.1 hi
  obtain ⟨hj1, hj2⟩ := List.getElem?_eq_some_iff.1 hj
  rcases Nat.lt_trichotomy i j with h4 | h4 | h4
  · exact absurd hj2.symm (List.pairwise_iff_getElem.1 h i j hi1 hj1 h4)
  · exact h4
  · exact absurd hj2 (List.pairwise_iff_getElem.1 h j i hj1 hi1 h4)
theorem numB_nil {β : Type} (eqB : β → β → Bool) (b : List β) : numB eqB [] b = ([b], 0) := rfl
theorem Made8.first {f : Nat → Int} {S : MkS Int} (hS : Made8 f S) : S.lows[0]? = some (blkF f 0) ∧ ∃ m, S.mids[0]? = some m ∧ RowOf (blkF f) S.lows 0 m 64 := by
  obtain ⟨K, hK, rfl⟩ := hS.eq
  constructor
  · have h1 : (mkF f 1).lows[0]? = some (blkF f 0) := by
      rw [mkF, addS_less (by show ¬ (0 + 1) % 64 = 0; omega)]
      rfl
    have := (mkF_pre f 1 (K - 1) 0).1 _ h1
    rwa [show 1 + (K - 1) = K by omega] at this
  · have hi := inv8 f 64 (by omega)
    obtain ⟨i, m, h1, h2, h3⟩ := hi.tp 0 (by omega)
    obtain ⟨-, -, -, hl⟩ := mkF_ok f 64
    have hi0 : i = 0 := by have := (List.getElem?_eq_some_iff.1 h2).1; omega
    subst hi0
    have p1 := (mkF_pre f 64 (K - 64) 0).2 _ h2
    rw [show 64 + (K - 64) = K by omega] at p1
    refine ⟨m, p1, h3.grow (fun i x h => ?_)⟩
    have := (mkF_pre f 64 (K - 64) i).1 _ h
    rwa [show 64 + (K - 64) = K by omega] at this
theorem Made8.second {f : Nat → Int} {S : MkS Int} (hS : Made8 f S) (hne : blkF f 1 ≠ blkF f 0) : S.lows[1]? = some (blkF f 1) := by
  obtain ⟨K, hK, rfl⟩ := hS.eq
  have h0 : (mkF f 1).lows = [blkF f 0] := by
    rw [mkF, addS_less (by show ¬ (0 + 1) % 64 = 0; omega)]
    rfl
  have hb1 : (mkF f 1).blocks = 1 := (mkF_ok f 1).2.1
  have h1 : (mkF f 2).lows[1]? = some (blkF f 1) := by
    rw [mkF, addS_less (by rw [hb1]; omega)]
    simp only [h0]
    have hf : findB eq8 (blkF f 1) [blkF f 0] = none := by
      unfold findB
      rw [List.findIdx?_eq_none_iff]
      intro l hl
      rw [List.mem_singleton.1 hl]
      cases e : eqL eq8 (blkF f 1) (blkF f 0)
      · rfl
      · exact absurd ((eqL_iff _ _ (by rw [blkF_length, blkF_length])).1 e) hne
    unfold numB
    rw [hf]
    rfl
  have := (mkF_pre f 2 (K - 2) 1).1 _ h1
  rwa [show 2 + (K - 2) = K by omega] at this
theorem Made8.row_inj {f : Nat → Int} {S : MkS Int} (hS : Made8 f S) {m m' : List Nat} {c : Nat} (hm : m.length = 64) (hm' : m'.length = 64) (h : RowOf (blkF f) S.lows c m 64) (h' : RowOf (blkF f) S.lows c m' 64) : m = m' :=
  named_inj hS.nl (h.lt hm) (h'.lt hm') ((h.named hm).trans (h'.named hm').symm)

/-! ### the chapter's example -/
def knL : List SpanD := [⟨65, 90, 1⟩]
theorem knL_fine : (∀ j, j < knL.length → ¬ badS (knL.getD j default)) ∧ ∀ j, j < knL.length → ¬ meetS knL j := by
  refine ⟨fun j hj => ?_, fun j hj => ?_⟩
  · obtain rfl : j = 0 := by simp [knL] at hj; exact hj
    simp [knL, badS]
  · obtain rfl : j = 0 := by simp [knL] at hj; exact hj
    rintro ⟨x, -, h⟩
    exact h rfl
theorem knF (r : Nat) : fS 0 knL r = if 65 ≤ r ∧ r ≤ 90 then 1 else 0 := by
  have h := fS_snoc 0 [] ⟨65, 90, 1⟩ (fun ⟨x, _, h⟩ => h rfl) (by simp [badS]) r
  rw [show knL = [] ++ [⟨65, 90, 1⟩] from rfl, h]
  simp [fS, ownF]
structure KnP (S : MkS Int) : Prop where
  l2 : S.lows.length = 2
  m2 : S.mids.length = 2
  t0 : S.top[0]? = some 0
  t1 : S.top[1]? = some 1
  m : ∃ m0 m1, S.mids = [m0, m1] ∧ m0[0]? = some 0 ∧ m0[1]? = some 1 ∧ m0[2]? = some 0 ∧ m1[0]? = some 0
  l : S.lows = [blkF (fS 0 knL) 0, blkF (fS 0 knL) 1]
theorem known {S : MkS Int} (hS : Made8 (fS 0 knL) S) : KnP S := by
  have hU : ∀ j, j ≠ 1 → blkF (fS 0 knL) j = List.replicate 64 0 := fun j hj => blkF_const (fun i hi => by rw [knF, if_neg (by omega)])
  have hA : blkF (fS 0 knL) 1 ≠ List.replicate 64 0 := fun e => by
    have := congrArg (fun l => l.getD 1 0) e
    simp [blkF, knF] at this
  have hne : blkF (fS 0 knL) 1 ≠ blkF (fS 0 knL) 0 := by rw [hU 0 (by omega)]; exact hA
  have hV : ∀ c, c ≠ 0 → bigB (blkF (fS 0 knL)) c = List.replicate 64 (List.replicate 64 0) := fun c hc => bigB_const (fun i hi => by rw [knF, if_neg (by omega)])
  obtain ⟨f0, m0, fm, r0⟩ := hS.first
  have f1 := hS.second hne
  have h1 := nodup_le S.lows [List.replicate 64 0, blkF (fS 0 knL) 1] hS.nl (fun x hx => by
    obtain ⟨j, hj, rfl⟩ := (hS.made.low_mem x).1 hx
    by_cases e : j = 1
    · rw [e]; exact List.mem_cons_of_mem _ (List.mem_singleton.2 rfl)
    · rw [hU j e]; exact List.mem_cons_self)
  have h2 := nodup_le (S.mids.map (namedBy S.lows)) [List.replicate 64 (List.replicate 64 0), bigB (blkF (fS 0 knL)) 0] hS.made.big_nd (fun x hx => by
    obtain ⟨c, hc, rfl⟩ := (hS.made.big_mem x).1 hx
    by_cases e : c = 0
    · rw [e]; exact List.mem_cons_of_mem _ (List.mem_singleton.2 rfl)
    · rw [hV c e]; exact List.mem_cons_self)
  simp only [List.length_cons, List.length_nil, List.length_map] at h1 h2
  have h1' : 1 < S.lows.length := (List.getElem?_eq_some_iff.1 f1).1
  have hl2 : S.lows.length = 2 := by omega
  have hml : ∀ m ∈ S.mids, m.length = 64 := hS.made.ok.mid
  obtain ⟨i0, n0, a1, a2, a3⟩ := hS.made.inv.tp 0 (by omega)
  obtain ⟨i1, n1, b1, b2, b3⟩ := hS.made.inv.tp 1 (by omega)
  have e0 : n0 = m0 := hS.row_inj (hml _ (List.mem_of_getElem? a2)) (hml _ (List.mem_of_getElem? fm)) a3 r0
  subst e0
  have hi0 : i0 = 0 := nodup_idx hS.made.inv.nm a2 fm
  subst hi0
  have hi1 : i1 ≠ 0 := fun e => by
    subst e
    rw [fm] at b2
    obtain rfl := Option.some.inj b2
    obtain ⟨x, x1, x2⟩ := r0 1 (by omega)
    obtain ⟨y, y1, y2⟩ := b3 1 (by omega)
    rw [x1] at y1
    obtain rfl := Option.some.inj y1
    rw [x2] at y2
    have := Option.some.inj y2
    rw [hU (64 * 1 + 1) (by omega)] at this
    exact hA this
  have hm1 := (List.getElem?_eq_some_iff.1 b2).1
  have hm2 : S.mids.length = 2 := by omega
  obtain rfl : i1 = 1 := by omega
  have z : ∀ {i j : Nat} {x : List Int}, S.lows[i]? = some x → S.lows[j]? = some x → i = j := fun h h' => nodup_idx hS.nl h h'
  refine ⟨hl2, hm2, a1, b1, ⟨n0, n1, ?_, ?_, ?_, ?_, ?_⟩, ?_⟩
  · apply List.ext_getElem?
    intro i
    match i with
    | 0 => simpa using fm
    | 1 => simpa using b2
    | i + 2 => rw [List.getElem?_eq_none (by omega), List.getElem?_eq_none (by simp)]
  · obtain ⟨x, x1, x2⟩ := r0 0 (by omega)
    rw [x1, z x2 f0]
  · obtain ⟨x, x1, x2⟩ := r0 1 (by omega)
    rw [x1, z x2 f1]
  · obtain ⟨x, x1, x2⟩ := r0 2 (by omega)
    rw [show 64 * 0 + 2 = 2 by omega, hU 2 (by omega), ← hU 0 (by omega)] at x2
    rw [x1, z x2 f0]
  · obtain ⟨x, x1, x2⟩ := b3 0 (by omega)
    rw [show 64 * 1 + 0 = 64 by omega, hU 64 (by omega), ← hU 0 (by omega)] at x2
    rw [x1, z x2 f0]
  · apply List.ext_getElem?
    intro i
    match i with
    | 0 => simpa using f0
    | 1 => simpa using f1
    | i + 2 => rw [List.getElem?_eq_none (by omega), List.getElem?_eq_none (by simp)]
end Go.Proofs.Ytabbabkmojaoaaa
