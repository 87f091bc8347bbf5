/-
  Plain laws: what a maker has made of a function's blocks, where blocks are compared by an equality of which no more is known than that blocks which it calls alike are the same.
-/
import Derived.Test.YtabbabkmojaoaaaTP
set_option linter.unusedVariables false
set_option linter.unusedSimpArgs false
namespace Go.Proofs.Ytabbabkmojaoaaa

section
variable {α : Type} {eqB : α → α → Bool}
structure NumF (L : List (List α)) (b : List α) (N : List (List α) × Nat) : Prop where
  pre : ∀ (i : Nat) (x : List α), L[i]? = some x → N.1[i]? = some x
  at_ : N.1[N.2]? = some b
  mem : ∀ x, x ∈ N.1 ↔ x ∈ L ∨ x = b
theorem numB_okF {L : List (List α)} {b : List α} (hL : ∀ m ∈ L, eqL eqB b m = true → m = b) : NumF L b (numB eqB L b) := by
  unfold numB
  cases h : findB eqB b L with
  | some k =>
    unfold findB at h
    obtain ⟨hk, h1, -⟩ := List.findIdx?_eq_some_iff_getElem.1 h
    have h2 := hL _ (List.getElem_mem hk) h1
    have h3 : L[k]? = some b := by rw [List.getElem?_eq_getElem hk, h2]
    exact ⟨fun i x hx => hx, h3, fun x => ⟨.inl, fun hx => by rcases hx with hx | hx; exact hx; rw [hx]; exact List.mem_of_getElem? h3⟩⟩
  | none =>
    refine ⟨fun i x hx => ?_, by simp, fun x => by simp⟩
    rw [List.getElem?_append_left (List.getElem?_eq_some_iff.1 hx).1]; exact hx
structure InvF (bl : Nat → List α) (k : Nat) (S : MkS α) : Prop where
  fl : ∀ l ∈ S.lows, ∃ j, j < k ∧ l = bl j
  hl : ∀ j, j < k → bl j ∈ S.lows
  cur : RowOf bl S.lows (k / 64) S.cur (k % 64)
  md : ∀ m ∈ S.mids, ∃ c, c < k / 64 ∧ RowOf bl S.lows c m 64
  tp : ∀ c, c < k / 64 → ∃ i m, S.top[c]? = some i ∧ S.mids[i]? = some m ∧ RowOf bl S.lows c m 64
/-- blocks that are alike are the same -/
def InjB (eqB : α → α → Bool) (bl : Nat → List α) : Prop := ∀ i j, i < 17408 → j < 17408 → eqL eqB (bl i) (bl j) = true → bl j = bl i
theorem InvF.next {bl : Nat → List α} {k : Nat} {S : MkS α} (h : InvF bl k S) (hi : InjB eqB bl) (hw : MkW S) (hk : S.blocks = k) (hk2 : k < 17408) : InvF bl (k + 1) (addS eqB S (bl k)) := by
  have hN := numB_okF (eqB := eqB) (L := S.lows) (b := bl k) (fun m hm he => by
    obtain ⟨j, hj, rfl⟩ := h.fl m hm
    exact hi k j hk2 (by omega) he)
  obtain ⟨N, hNe⟩ : ∃ N, N = numB eqB S.lows (bl k) := ⟨_, rfl⟩
  rw [← hNe] at hN
  have hcs : k % 64 < S.cur.length := by rw [hw.cur]; omega
  have hcur : RowOf bl N.1 (k / 64) (S.cur.set (k % 64) N.2) (k % 64 + 1) := fun j hj => by
    by_cases e : k % 64 = j
    · subst e
      refine ⟨N.2, List.getElem?_set_self hcs, ?_⟩
      rw [hN.at_, show 64 * (k / 64) + k % 64 = k by omega]
    · obtain ⟨i, h1, h2⟩ := h.cur j (by omega)
      exact ⟨i, by rw [List.getElem?_set_ne e]; exact h1, hN.pre _ _ h2⟩
  have hfl : ∀ l ∈ N.1, ∃ j, j < k + 1 ∧ l = bl j := fun l hl => by
    rcases (hN.mem l).1 hl with h1 | h1
    · obtain ⟨j, hj, e⟩ := h.fl l h1; exact ⟨j, by omega, e⟩
    · exact ⟨k, by omega, h1⟩
  have hhl : ∀ j, j < k + 1 → bl j ∈ N.1 := fun j hj => by
    rw [hN.mem]
    by_cases e : j = k
    · exact .inr (by rw [e])
    · exact .inl (h.hl j (by omega))
  by_cases hf : (k + 1) % 64 = 0
  · have hM := numB_ok (L := S.mids) (b := S.cur.set (k % 64) N.2) (fun m hm => by rw [hw.mid m hm]; simp [hw.cur])
    obtain ⟨M, hMe⟩ : ∃ M, M = numB (fun a b : Nat => decide (a = b)) S.mids (S.cur.set (k % 64) N.2) := ⟨_, rfl⟩
    rw [← hMe] at hM
    have e : addS eqB S (bl k) = { top := S.top.set (k / 64) M.2, cur := S.cur.set (k % 64) N.2, lows := N.1, mids := M.1, blocks := k + 1 } := by
      unfold addS
      simp only [hk]
      rw [if_pos hf, hMe, hNe]
    have hq : (k + 1) / 64 = k / 64 + 1 := by omega
    have hrow : RowOf bl N.1 (k / 64) (S.cur.set (k % 64) N.2) 64 := fun j hj => hcur j (by omega)
    rw [e]
    refine ⟨hfl, hhl, ?_, fun m hm => ?_, fun c hc => ?_⟩
    · intro j hj
      omega
    · rcases (hM.mem m).1 hm with h1 | h1
      · obtain ⟨c, hc, hr⟩ := h.md m h1
        exact ⟨c, by omega, hr.grow hN.pre⟩
      · exact ⟨k / 64, by omega, by rw [h1]; exact hrow⟩
    · by_cases ec : k / 64 = c
      · subst ec
        exact ⟨M.2, _, List.getElem?_set_self (by rw [hw.top]; omega), hM.at_, hrow⟩
      · obtain ⟨i, m, h1, h2, h3⟩ := h.tp c (by omega)
        exact ⟨i, m, by rw [List.getElem?_set_ne ec]; exact h1, hM.pre _ _ h2, h3.grow hN.pre⟩
  · have e : addS eqB S (bl k) = { S with cur := S.cur.set (k % 64) N.2, lows := N.1, blocks := k + 1 } := by
      unfold addS
      simp only [hk]
      rw [if_neg hf, hNe]
    have hq : (k + 1) / 64 = k / 64 := by omega
    rw [e]
    refine ⟨hfl, hhl, ?_, fun m hm => ?_, fun c hc => ?_⟩
    · simp only
      rw [hq, show (k + 1) % 64 = k % 64 + 1 by omega]
      exact hcur
    · obtain ⟨c, hc, hr⟩ := h.md m hm
      exact ⟨c, by omega, hr.grow hN.pre⟩
    · obtain ⟨i, m, h1, h2, h3⟩ := h.tp c (by omega)
      exact ⟨i, m, h1, h2, h3.grow hN.pre⟩
theorem InvF.zero (bl : Nat → List α) (S : MkS α) (h1 : S.lows = []) (h2 : S.mids = []) : InvF bl 0 S :=
  ⟨by rw [h1]; simp, fun j hj => by omega, fun j hj => by omega, by rw [h2]; simp, fun c hc => by omega⟩
structure MadeF (bl : Nat → List α) (S : MkS α) : Prop where
  inv : InvF bl 17408 S
  ok : MkW S
end
end Go.Proofs.Ytabbabkmojaoaaa
