/- several texts in one: TC -/
import Derived.Test.YtbmphakfgoompaaGreatGTD
import Derived.Test.YtbmphakfgoompaaGreatHTR
set_option linter.unusedVariables false
set_option linter.unusedSimpArgs false
/-
 Plain laws: the numbers of blocks are those of their first places.
-/
namespace Go.Proofs.YtbmphakfgoompaaGreat

theorem mkF_pre (f : Nat → Int) (k : Nat) : ∀ j (i : Nat), (∀ x, (mkF f k).lows[i]? = some x → (mkF f (k + j)).lows[i]? = some x) ∧ (∀ x, (mkF f k).mids[i]? = some x → (mkF f (k + j)).mids[i]? = some x) := by
 intro j
 induction j with
 | zero => exact fun i => ⟨fun x h => h, fun x h => h⟩
 | succ j ih =>
  intro i
  obtain ⟨h1, h2⟩ := ih i
  obtain ⟨hw, -⟩ := mkF_ok f (k + j)
  have hN := numB_ok (L := (mkF f (k + j)).lows) (b := blkF f (k + j)) (fun m hm => by rw [hw.low m hm, blkF_length])
  rw [← Nat.add_assoc, mkF]
  by_cases h7 : ((mkF f (k + j)).blocks + 1) % 64 = 0
  ·rw [addS_full h7]
   have hM := numB_ok (L := (mkF f (k + j)).mids) (b := (mkF f (k + j)).cur.set ((mkF f (k + j)).blocks % 64) (numB eq8 (mkF f (k + j)).lows (blkF f (k + j))).2) (fun m hm => by rw [hw.mid m hm]; simp [hw.cur])
   exact ⟨fun x h => hN.pre i x (h1 x h), fun x h => hM.pre i x (h2 x h)⟩
  ·rw [addS_less h7]
   exact ⟨fun x h => hN.pre i x (h1 x h), fun x h => h2 x h⟩
theorem nodup_idx {β : Type} {l : List β} (h : l.Nodup) {i j : Nat} {x : β} (hi : l[i]? = some x) (hj : l[j]? = some x) : i = j := by
 obtain ⟨hi1, rfl⟩ := List.getElem?_eq_some_iff.1 hi
 obtain ⟨hj1, hj2⟩ := List.getElem?_eq_some_iff.1 hj
 rcases Nat.lt_trichotomy i j with h4 | h4 | h4
 ·exact absurd hj2.symm (List.pairwise_iff_getElem.1 h i j hi1 hj1 h4)
 ·exact h4
 ·exact absurd hj2 (List.pairwise_iff_getElem.1 h j i hj1 hi1 h4)
theorem numB_nil {β : Type} (eqB : β → β → Bool) (b : List β) : numB eqB [] b = ([b], 0) := rfl
theorem Made8.first {f : Nat → Int} {S : MkS Int} (hS : Made8 f S) : S.lows[0]? = some (blkF f 0) ∧ ∃ m, S.mids[0]? = some m ∧ RowOf (blkF f) S.lows 0 m 64 := by
 obtain ⟨K, hK, rfl⟩ := hS.eq
 constructor
 ·have h1 : (mkF f 1).lows[0]? = some (blkF f 0) := by
   rw [mkF, addS_less (by show ¬ (0 + 1) % 64 = 0; omega)]
   rfl
  have := (mkF_pre f 1 (K - 1) 0).1 _ h1
  rwa [show 1 + (K - 1) = K by omega] at this
 ·have hi := inv8 f 64 (by omega)
  obtain ⟨i, m, h1, h2, h3⟩ := hi.tp 0 (by omega)
  obtain ⟨-, -, -, hl⟩ := mkF_ok f 64
  have hi0 : i = 0 := by have := (List.getElem?_eq_some_iff.1 h2).1; omega
  subst hi0
  have p1 := (mkF_pre f 64 (K - 64) 0).2 _ h2
  rw [show 64 + (K - 64) = K by omega] at p1
  refine ⟨m, p1, h3.grow (fun i x h => ?_)⟩
  have := (mkF_pre f 64 (K - 64) i).1 _ h
  rwa [show 64 + (K - 64) = K by omega] at this
theorem Made8.second {f : Nat → Int} {S : MkS Int} (hS : Made8 f S) (hne : blkF f 1 ≠ blkF f 0) : S.lows[1]? = some (blkF f 1) := by
 obtain ⟨K, hK, rfl⟩ := hS.eq
 have h0 : (mkF f 1).lows = [blkF f 0] := by
  rw [mkF, addS_less (by show ¬ (0 + 1) % 64 = 0; omega)]
  rfl
 have hb1 : (mkF f 1).blocks = 1 := (mkF_ok f 1).2.1
 have h1 : (mkF f 2).lows[1]? = some (blkF f 1) := by
  rw [mkF, addS_less (by rw [hb1]; omega)]
  simp only [h0]
  have hf : findB eq8 (blkF f 1) [blkF f 0] = none := by
   unfold findB
   rw [List.findIdx?_eq_none_iff]
   intro l hl
   rw [List.mem_singleton.1 hl]
   cases e : eqL eq8 (blkF f 1) (blkF f 0)
   ·rfl
   ·exact absurd ((eqL_iff _ _ (by rw [blkF_length, blkF_length])).1 e) hne
  unfold numB
  rw [hf]
  rfl
 have := (mkF_pre f 2 (K - 2) 1).1 _ h1
 rwa [show 2 + (K - 2) = K by omega] at this
theorem Made8.row_inj {f : Nat → Int} {S : MkS Int} (hS : Made8 f S) {m m' : List Nat} {c : Nat} (hm : m.length = 64) (hm' : m'.length = 64) (h : RowOf (blkF f) S.lows c m 64) (h' : RowOf (blkF f) S.lows c m' 64) : m = m' :=
 named_inj hS.nl (h.lt hm) (h'.lt hm') ((h.named hm).trans (h'.named hm').symm)

/-! ### the chapter's example -/
end Go.Proofs.YtbmphakfgoompaaGreat
