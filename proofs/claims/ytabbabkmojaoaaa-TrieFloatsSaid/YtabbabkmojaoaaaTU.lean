/-
  Plain laws: how many blocks a function's trie has.
-/
import Derived.Test.YtabbabkmojaoaaaTQ
set_option linter.unusedVariables false
set_option linter.unusedSimpArgs false
namespace Go.Proofs.Ytabbabkmojaoaaa

theorem blkF_ext {f f' : Nat → Int} {j : Nat} (h : ∀ i, i < 64 → f' (64 * j + i) = f (64 * j + i)) : blkF f' j = blkF f j := by
  unfold blkF
  apply List.map_congr_left
  intro i hi
  exact h i (List.mem_range.1 hi)
theorem blkF_const {f : Nat → Int} {j : Nat} {v : Int} (h : ∀ i, i < 64 → f (64 * j + i) = v) : blkF f j = List.replicate 64 v := by
  rw [List.eq_replicate_iff]
  refine ⟨blkF_length f j, fun x hx => ?_⟩
  obtain ⟨i, hi, rfl⟩ := List.mem_map.1 hx
  exact h i (List.mem_range.1 hi)
theorem bigB_ext {f f' : Nat → Int} {c : Nat} (h : ∀ i, i < 4096 → f' (4096 * c + i) = f (4096 * c + i)) : bigB (blkF f') c = bigB (blkF f) c := by
  unfold bigB
  apply List.map_congr_left
  intro j hj
  have hj := List.mem_range.1 hj
  refine blkF_ext (fun i hi => ?_)
  have := h (64 * j + i) (by omega)
  rw [show 4096 * c + (64 * j + i) = 64 * (64 * c + j) + i by omega] at this
  exact this
theorem bigB_const {f : Nat → Int} {c : Nat} {v : Int} (h : ∀ i, i < 4096 → f (4096 * c + i) = v) : bigB (blkF f) c = List.replicate 64 (List.replicate 64 v) := by
  rw [List.eq_replicate_iff]
  refine ⟨by simp [bigB], fun x hx => ?_⟩
  obtain ⟨j, hj, rfl⟩ := List.mem_map.1 hx
  have hj := List.mem_range.1 hj
  refine blkF_const (fun i hi => ?_)
  have := h (64 * j + i) (by omega)
  rw [show 4096 * c + (64 * j + i) = 64 * (64 * c + j) + i by omega] at this
  exact this
theorem Made8.nl {f : Nat → Int} {S : MkS Int} (hS : Made8 f S) : S.lows.Nodup := hS.made.inv.nl
theorem more3 {f f' : Nat → Int} {S S' : MkS Int} (hS : Made8 f S) (hS' : Made8 f' S') (a b : Nat) (hab : a ≤ b) (hb : b ≤ 1114111) (v : Int) (h : ∀ r, f' r = if a ≤ r ∧ r ≤ b then v else f r) :
    S'.lows.length ≤ S.lows.length + 3 ∧ S'.mids.length ≤ S.mids.length + 3 := by
  constructor
  · have := nodup_le S'.lows (S.lows ++ [List.replicate 64 v, blkF f' (a / 64), blkF f' (b / 64)]) hS'.nl (fun x hx => by
      obtain ⟨j, hj, rfl⟩ := (hS'.made.low_mem x).1 hx
      rw [List.mem_append]
      by_cases h1 : 64 * j + 63 < a ∨ b < 64 * j
      · refine .inl ((hS.made.low_mem _).2 ⟨j, hj, blkF_ext (fun i hi => ?_)⟩)
        rw [h, if_neg (by omega)]
      · by_cases h2 : a ≤ 64 * j ∧ 64 * j + 63 ≤ b
        · have e : blkF f' j = List.replicate 64 v := blkF_const (fun i hi => by rw [h, if_pos (by omega)])
          rw [e]; simp
        · by_cases h3 : a ≤ 64 * j
          · rw [show j = b / 64 by omega]; simp
          · rw [show j = a / 64 by omega]; simp)
    simpa using this
  · have := nodup_le (S'.mids.map (namedBy S'.lows)) (S.mids.map (namedBy S.lows) ++ [List.replicate 64 (List.replicate 64 v), bigB (blkF f') (a / 4096), bigB (blkF f') (b / 4096)]) hS'.made.big_nd (fun x hx => by
      obtain ⟨c, hc, rfl⟩ := (hS'.made.big_mem x).1 hx
      rw [List.mem_append]
      by_cases h1 : 4096 * c + 4095 < a ∨ b < 4096 * c
      · refine .inl ((hS.made.big_mem _).2 ⟨c, hc, bigB_ext (fun i hi => ?_)⟩)
        rw [h, if_neg (by omega)]
      · by_cases h2 : a ≤ 4096 * c ∧ 4096 * c + 4095 ≤ b
        · have e : bigB (blkF f') c = List.replicate 64 (List.replicate 64 v) := bigB_const (fun i hi => by rw [h, if_pos (by omega)])
          rw [e]
          exact .inr (by simp only [List.mem_cons]; exact .inl trivial)
        · by_cases h3 : a ≤ 4096 * c
          · rw [show c = b / 4096 by omega]
            exact .inr (by simp only [List.mem_cons]; exact .inr (.inr (.inl trivial)))
          · rw [show c = a / 4096 by omega]
            exact .inr (by simp only [List.mem_cons]; exact .inr (.inl trivial)))
    simpa using this
theorem only1 {f : Nat → Int} {S : MkS Int} (hS : Made8 f S) (v : Int) (h : ∀ r, f r = v) : S.lows.length = 1 ∧ S.mids.length = 1 := by
  have hp := hS.pos
  have h1 := nodup_le S.lows [List.replicate 64 v] hS.nl (fun x hx => by
    obtain ⟨j, hj, rfl⟩ := (hS.made.low_mem x).1 hx
    rw [blkF_const (fun i hi => h _)]
    exact List.mem_singleton.2 rfl)
  have h2 := nodup_le (S.mids.map (namedBy S.lows)) [List.replicate 64 (List.replicate 64 v)] hS.made.big_nd (fun x hx => by
    obtain ⟨c, hc, rfl⟩ := (hS.made.big_mem x).1 hx
    rw [bigB_const (fun i hi => h _)]
    exact List.mem_singleton.2 rfl)
  simp only [List.length_singleton, List.length_map] at h1 h2
  omega
theorem flat_len {β : Type} : ∀ (L : List (List β)), (∀ l ∈ L, l.length = 64) → L.flatten.length = 64 * L.length
  | [], _ => rfl
  | l :: L, h => by
    rw [List.flatten_cons, List.length_append, h l (by simp), flat_len L (fun l hl => h l (by simp [hl])), List.length_cons]
    omega
theorem low_le_mid {f : Nat → Int} {S : MkS Int} (hS : Made8 f S) : S.lows.length ≤ 64 * S.mids.length := by
  have := nodup_le S.lows (S.mids.map (namedBy S.lows)).flatten hS.nl (fun x hx => by
    obtain ⟨j, hj, rfl⟩ := (hS.made.low_mem x).1 hx
    rw [List.mem_flatten]
    refine ⟨bigB (blkF f) (j / 64), (hS.made.big_mem _).2 ⟨j / 64, by omega, rfl⟩, ?_⟩
    exact List.mem_map.2 ⟨j % 64, List.mem_range.2 (by omega), by rw [show 64 * (j / 64) + j % 64 = j by omega]⟩)
  rw [flat_len _ (fun l hl => by
    obtain ⟨c, hc, rfl⟩ := (hS.made.big_mem l).1 hl
    simp [bigB])] at this
  simpa using this
/-- a span more -/
theorem fS_snoc (rest : Int) (l : List SpanD) (x : SpanD) (hm : ¬ meetS (l ++ [x]) l.length) (hb : ¬ badS x) : ∀ r, fS rest (l ++ [x]) r = if x.f.toNat ≤ r ∧ r ≤ x.t.toNat then x.v else fS rest l r := by
  intro r
  have hb2 : 0 ≤ x.f ∧ x.t ≤ 1114111 ∧ x.f ≤ x.t := by unfold badS at hb; omega
  unfold fS
  rw [ownF_snoc]
  by_cases h : x.f.toNat ≤ r ∧ r ≤ x.t.toNat
  · have hh : hasS ((r : Nat) : Int) x = true := decide_eq_true (by omega)
    have h0 : ownF l ((r : Nat) : Int) = 0 := Classical.byContradiction fun hn => hm ⟨((r : Nat) : Int), by simp [List.getD_eq_getElem?_getD, hh], by simpa using hn⟩
    rw [if_pos h, if_pos h0, if_pos hh, if_neg (by omega)]
    rw [show ((l.length : Int) + 1 - 1).toNat = l.length by omega]
    simp [List.getD_eq_getElem?_getD]
  · have hh : ¬ hasS ((r : Nat) : Int) x = true := fun e => by have := of_decide_eq_true e; omega
    rw [if_neg h]
    by_cases h0 : ownF l ((r : Nat) : Int) = 0
    · rw [if_pos h0, if_neg hh]
      simp [h0]
    · rw [if_neg h0, if_neg h0, if_neg h0]
      congr 1
      rcases ownF_le l ((r : Nat) : Int) with h1 | ⟨i, hi, h1⟩
      · exact absurd h1 h0
      · rw [h1, show ((i : Int) + 1 - 1).toNat = i by omega]
        rw [List.getD_eq_getElem?_getD, List.getD_eq_getElem?_getD, List.getElem?_append_left hi]
theorem meet_take {l : List SpanD} {k j : Nat} (hj : j < k) (h : meetS (l.take k) j) : meetS l j := by
  obtain ⟨x, h1, h2⟩ := h
  refine ⟨x, ?_, ?_⟩
  · rw [List.getD_eq_getElem?_getD, List.getElem?_take, if_pos hj, ← List.getD_eq_getElem?_getD] at h1
    exact h1
  · rw [List.take_take, Nat.min_eq_left (by omega)] at h2
    exact h2
theorem count_le (rest : Int) (l : List SpanD) (hb : ∀ j, j < l.length → ¬ badS (l.getD j default)) (hm : ∀ j, j < l.length → ¬ meetS l j) :
    ∀ k, k ≤ l.length → ∀ S, Made8 (fS rest (l.take k)) S → S.lows.length ≤ 1 + 3 * k ∧ S.mids.length ≤ 1 + 3 * k := by
  intro k
  induction k with
  | zero =>
    intro _ S hS
    have := only1 hS rest (fun r => by simp [fS, ownF])
    omega
  | succ k ih =>
    intro hk S hS
    have hS0 := made8 (fS rest (l.take k)) 17408 rfl
    generalize mkF (fS rest (l.take k)) 17408 = S0 at *
    have h1 := ih (by omega) S0 hS0
    have hkl : k < l.length := by omega
    have e : l.take (k + 1) = l.take k ++ [l[k]] := List.take_succ_eq_append_getElem hkl
    have hlen : (l.take k).length = k := by rw [List.length_take]; omega
    have hbk : ¬ badS l[k] := by have := hb k hkl; rwa [show l.getD k default = l[k] by simp [hkl]] at this
    have hmk : ¬ meetS (l.take k ++ [l[k]]) (l.take k).length := by
      rw [← e, hlen]
      exact fun h => hm k hkl (meet_take (by omega) h)
    rw [e] at hS
    have h2 := more3 hS0 hS l[k].f.toNat l[k].t.toNat (by unfold badS at hbk; omega) (by unfold badS at hbk; omega) l[k].v (fS_snoc rest (l.take k) l[k] hmk hbk)
    omega
end Go.Proofs.Ytabbabkmojaoaaa
