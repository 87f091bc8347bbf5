/-
  Plain laws: what a maker has made of a function's blocks.
-/
import Derived.Test.YtabbabkmojaoaaaTS
set_option linter.unusedVariables false
set_option linter.unusedSimpArgs false
namespace Go.Proofs.Ytabbabkmojaoaaa

section
variable {α : Type} [DecidableEq α]
theorem eqL_iff : ∀ (a b : List α), a.length = b.length → (eqL (fun x y => decide (x = y)) a b = true ↔ a = b)
  | [], [], _ => by simp [eqL]
  | [], y :: b, h => by simp at h
  | x :: a, [], h => by simp at h
  | x :: a, y :: b, h => by
    rw [eqL, Bool.and_eq_true, eqL_iff a b (by simpa using h), List.cons.injEq, decide_eq_true_iff]
theorem findB_some {b : List α} {L : List (List α)} {k : Nat} (hL : ∀ m ∈ L, m.length = b.length) (h : findB (fun x y => decide (x = y)) b L = some k) : L[k]? = some b := by
  unfold findB at h
  obtain ⟨hk, h1, -⟩ := List.findIdx?_eq_some_iff_getElem.1 h
  rw [eqL_iff _ _ (hL _ (List.getElem_mem hk)).symm] at h1
  rw [List.getElem?_eq_getElem hk, ← h1]
theorem findB_none {b : List α} {L : List (List α)} (hL : ∀ m ∈ L, m.length = b.length) (h : findB (fun x y => decide (x = y)) b L = none) : b ∉ L := by
  unfold findB at h
  intro hb
  have := List.findIdx?_eq_none_iff.1 h b hb
  rw [(eqL_iff b b rfl).2 rfl] at this
  cases this
structure NumOk (L : List (List α)) (b : List α) (N : List (List α) × Nat) : Prop where
  pre : ∀ (i : Nat) (x : List α), L[i]? = some x → N.1[i]? = some x
  at_ : N.1[N.2]? = some b
  nd : L.Nodup → N.1.Nodup
  mem : ∀ x, x ∈ N.1 ↔ x ∈ L ∨ x = b
theorem numB_ok {L : List (List α)} {b : List α} (hL : ∀ m ∈ L, m.length = b.length) : NumOk L b (numB (fun x y => decide (x = y)) L b) := by
  unfold numB
  cases h : findB (fun x y => decide (x = y)) b L with
  | some k =>
    have h1 := findB_some hL h
    exact ⟨fun i x hx => hx, h1, id, fun x => ⟨.inl, fun hx => by rcases hx with hx | hx; exact hx; rw [hx]; exact List.mem_of_getElem? h1⟩⟩
  | none =>
    have h1 := findB_none hL h
    refine ⟨fun i x hx => ?_, by simp, fun hd => ?_, fun x => by simp⟩
    · rw [List.getElem?_append_left (List.getElem?_eq_some_iff.1 hx).1]; exact hx
    · rw [List.nodup_append]
      refine ⟨hd, by simp, fun x hx y hy => ?_⟩
      rw [List.mem_singleton.1 hy]
      exact fun e => h1 (e ▸ hx)
end

section
variable {α : Type}
/-- m holds the numbers of the blocks from 64 c on -/
def RowOf (bl : Nat → List α) (L : List (List α)) (c : Nat) (m : List Nat) (n : Nat) : Prop := ∀ j, j < n → ∃ i, m[j]? = some i ∧ L[i]? = some (bl (64 * c + j))
structure InvT (bl : Nat → List α) (k : Nat) (S : MkS α) : Prop where
  nl : S.lows.Nodup
  fl : ∀ l ∈ S.lows, ∃ j, j < k ∧ l = bl j
  hl : ∀ j, j < k → bl j ∈ S.lows
  cur : RowOf bl S.lows (k / 64) S.cur (k % 64)
  nm : S.mids.Nodup
  md : ∀ m ∈ S.mids, ∃ c, c < k / 64 ∧ RowOf bl S.lows c m 64
  tp : ∀ c, c < k / 64 → ∃ i m, S.top[c]? = some i ∧ S.mids[i]? = some m ∧ RowOf bl S.lows c m 64
  t0 : ∀ c, k / 64 ≤ c → c < 272 → S.top[c]? = some 0
theorem RowOf.grow {bl : Nat → List α} {L L' : List (List α)} {c : Nat} {m : List Nat} {n : Nat} (h : RowOf bl L c m n) (hp : ∀ (i : Nat) (x : List α), L[i]? = some x → L'[i]? = some x) : RowOf bl L' c m n := fun j hj => by
  obtain ⟨i, h1, h2⟩ := h j hj
  exact ⟨i, h1, hp _ _ h2⟩
theorem InvT.next [DecidableEq α] {bl : Nat → List α} {k : Nat} {S : MkS α} (h : InvT bl k S) (hw : MkW S) (hk : S.blocks = k) (hb : (bl k).length = 64) (hk2 : k < 17408) : InvT bl (k + 1) (addS (fun a b => decide (a = b)) S (bl k)) := by
  have hN := numB_ok (L := S.lows) (b := bl k) (fun m hm => by rw [hw.low m hm, hb])
  obtain ⟨N, hNe⟩ : ∃ N, N = numB (fun a b => decide (a = b)) S.lows (bl k) := ⟨_, rfl⟩
  rw [← hNe] at hN
  have hcs : k % 64 < S.cur.length := by rw [hw.cur]; omega
  have hcur : RowOf bl N.1 (k / 64) (S.cur.set (k % 64) N.2) (k % 64 + 1) := fun j hj => by
    by_cases e : k % 64 = j
    · subst e
      refine ⟨N.2, List.getElem?_set_self hcs, ?_⟩
      rw [hN.at_, show 64 * (k / 64) + k % 64 = k by omega]
    · obtain ⟨i, h1, h2⟩ := h.cur j (by omega)
      exact ⟨i, by rw [List.getElem?_set_ne e]; exact h1, hN.pre _ _ h2⟩
  have hfl : ∀ l ∈ N.1, ∃ j, j < k + 1 ∧ l = bl j := fun l hl => by
    rcases (hN.mem l).1 hl with h1 | h1
    · obtain ⟨j, hj, e⟩ := h.fl l h1; exact ⟨j, by omega, e⟩
    · exact ⟨k, by omega, h1⟩
  have hhl : ∀ j, j < k + 1 → bl j ∈ N.1 := fun j hj => by
    rw [hN.mem]
    by_cases e : j = k
    · exact .inr (by rw [e])
    · exact .inl (h.hl j (by omega))
  by_cases hf : (k + 1) % 64 = 0
  · have hM := numB_ok (L := S.mids) (b := S.cur.set (k % 64) N.2) (fun m hm => by rw [hw.mid m hm]; simp [hw.cur])
    obtain ⟨M, hMe⟩ : ∃ M, M = numB (fun a b : Nat => decide (a = b)) S.mids (S.cur.set (k % 64) N.2) := ⟨_, rfl⟩
    rw [← hMe] at hM
    have e : addS (fun a b => decide (a = b)) S (bl k) = { top := S.top.set (k / 64) M.2, cur := S.cur.set (k % 64) N.2, lows := N.1, mids := M.1, blocks := k + 1 } := by
      unfold addS
      simp only [hk]
      rw [if_pos hf, hMe, hNe]
    have hq : (k + 1) / 64 = k / 64 + 1 := by omega
    have hrow : RowOf bl N.1 (k / 64) (S.cur.set (k % 64) N.2) 64 := fun j hj => hcur j (by omega)
    rw [e]
    refine ⟨hN.nd h.nl, hfl, hhl, ?_, hM.nd h.nm, fun m hm => ?_, fun c hc => ?_, fun c hc1 hc2 => ?_⟩
    · intro j hj
      omega
    · rcases (hM.mem m).1 hm with h1 | h1
      · obtain ⟨c, hc, hr⟩ := h.md m h1
        exact ⟨c, by omega, hr.grow hN.pre⟩
      · exact ⟨k / 64, by omega, by rw [h1]; exact hrow⟩
    · by_cases ec : k / 64 = c
      · subst ec
        exact ⟨M.2, _, List.getElem?_set_self (by rw [hw.top]; omega), hM.at_, hrow⟩
      · obtain ⟨i, m, h1, h2, h3⟩ := h.tp c (by omega)
        exact ⟨i, m, by rw [List.getElem?_set_ne ec]; exact h1, hM.pre _ _ h2, h3.grow hN.pre⟩
    · simp only
      rw [List.getElem?_set_ne (by omega)]
      exact h.t0 c (by omega) hc2
  · have e : addS (fun a b => decide (a = b)) S (bl k) = { S with cur := S.cur.set (k % 64) N.2, lows := N.1, blocks := k + 1 } := by
      unfold addS
      simp only [hk]
      rw [if_neg hf, hNe]
    have hq : (k + 1) / 64 = k / 64 := by omega
    rw [e]
    refine ⟨hN.nd h.nl, hfl, hhl, ?_, h.nm, fun m hm => ?_, fun c hc => ?_, fun c hc1 hc2 => h.t0 c (by omega) hc2⟩
    · simp only
      rw [hq, show (k + 1) % 64 = k % 64 + 1 by omega]
      exact hcur
    · obtain ⟨c, hc, hr⟩ := h.md m hm
      exact ⟨c, by omega, hr.grow hN.pre⟩
    · obtain ⟨i, m, h1, h2, h3⟩ := h.tp c (by omega)
      exact ⟨i, m, h1, h2, h3.grow hN.pre⟩
theorem InvT.zero (bl : Nat → List α) (S : MkS α) (h1 : S.lows = []) (h2 : S.mids = []) (h3 : S.top = List.replicate 272 0) : InvT bl 0 S := by
  refine ⟨by rw [h1]; exact List.nodup_nil, by rw [h1]; simp, fun j hj => by omega, fun j hj => by omega, by rw [h2]; exact List.nodup_nil, by rw [h2]; simp, fun c hc => by omega, fun c _ hc => ?_⟩
  rw [h3, List.getElem?_replicate, if_pos hc]

/-! ### how many -/
theorem nodup_le {β : Type} [DecidableEq β] : ∀ (l m : List β), l.Nodup → (∀ x ∈ l, x ∈ m) → l.length ≤ m.length
  | [], m, _, _ => Nat.zero_le _
  | x :: l, m, hn, hm => by
    rw [List.nodup_cons] at hn
    have hx := hm x (by simp)
    have h1 := nodup_le l (m.erase x) hn.2 (fun y hy => by
      have hy2 := hm y (by simp [hy])
      have hne : y ≠ x := fun e => hn.1 (e ▸ hy)
      exact (List.mem_erase_of_ne hne).2 hy2)
    rw [List.length_erase_of_mem hx] at h1
    have := List.length_pos_of_mem hx
    rw [List.length_cons]
    omega
/-- the blocks that a middle block names -/
def namedBy (L : List (List α)) (m : List Nat) : List (List α) := m.map (fun i => L.getD i [])
def bigB (bl : Nat → List α) (c : Nat) : List (List α) := (List.range 64).map (fun j => bl (64 * c + j))
theorem RowOf.named {bl : Nat → List α} {L : List (List α)} {c : Nat} {m : List Nat} (h : RowOf bl L c m 64) (hm : m.length = 64) : namedBy L m = bigB bl c := by
  apply List.ext_getElem?
  intro j
  unfold namedBy bigB
  rw [List.getElem?_map, List.getElem?_map]
  by_cases hj : j < 64
  · obtain ⟨i, h1, h2⟩ := h j hj
    rw [h1, List.getElem?_range hj]
    simp [List.getD, h2]
  · rw [List.getElem?_eq_none (by omega), List.getElem?_eq_none (by simp; omega)]
    rfl
theorem named_inj {L : List (List α)} (hL : L.Nodup) : ∀ {m m' : List Nat}, (∀ i ∈ m, i < L.length) → (∀ i ∈ m', i < L.length) → namedBy L m = namedBy L m' → m = m'
  | [], [], _, _, _ => rfl
  | [], y :: m', _, _, h => by simp [namedBy] at h
  | x :: m, [], _, _, h => by simp [namedBy] at h
  | x :: m, y :: m', hx, hy, h => by
    simp only [namedBy, List.map_cons, List.cons.injEq] at h
    have h1 := hx x (by simp)
    have h2 := hy y (by simp)
    have e : x = y := by
      have h3 := h.1
      simp only [List.getD, List.getElem?_eq_getElem h1, List.getElem?_eq_getElem h2, Option.getD_some] at h3
      rcases Nat.lt_trichotomy x y with h4 | h4 | h4
      · exact absurd h3 (List.pairwise_iff_getElem.1 hL x y h1 h2 h4)
      · exact h4
      · exact absurd h3.symm (List.pairwise_iff_getElem.1 hL y x h2 h1 h4)
    rw [e, named_inj hL (fun i hi => hx i (by simp [hi])) (fun i hi => hy i (by simp [hi])) h.2]
theorem RowOf.lt {bl : Nat → List α} {L : List (List α)} {c : Nat} {m : List Nat} (h : RowOf bl L c m 64) (hm : m.length = 64) : ∀ i ∈ m, i < L.length := fun i hi => by
  obtain ⟨j, hj, rfl⟩ := List.mem_iff_getElem.1 hi
  obtain ⟨i', h1, h2⟩ := h j (by omega)
  rw [List.getElem?_eq_getElem hj] at h1
  cases h1
  exact (List.getElem?_eq_some_iff.1 h2).1
/-- the whole of it: all blocks are told -/
structure MadeT (bl : Nat → List α) (S : MkS α) : Prop where
  inv : InvT bl 17408 S
  ok : MkW S
theorem MadeT.low_mem {bl : Nat → List α} {S : MkS α} (h : MadeT bl S) (l : List α) : l ∈ S.lows ↔ ∃ j, j < 17408 ∧ l = bl j :=
  ⟨h.inv.fl l, fun ⟨j, hj, e⟩ => e ▸ h.inv.hl j hj⟩
theorem MadeT.big_mem {bl : Nat → List α} {S : MkS α} (h : MadeT bl S) (B : List (List α)) : B ∈ S.mids.map (namedBy S.lows) ↔ ∃ c, c < 272 ∧ B = bigB bl c := by
  constructor
  · intro hB
    obtain ⟨m, hm, rfl⟩ := List.mem_map.1 hB
    obtain ⟨c, hc, hr⟩ := h.inv.md m hm
    exact ⟨c, by omega, hr.named (h.ok.mid m hm)⟩
  · rintro ⟨c, hc, rfl⟩
    obtain ⟨i, m, -, h2, h3⟩ := h.inv.tp c (by omega)
    have hm := List.mem_of_getElem? h2
    exact List.mem_map.2 ⟨m, hm, h3.named (h.ok.mid m hm)⟩
theorem MadeT.big_nd {bl : Nat → List α} {S : MkS α} (h : MadeT bl S) : (S.mids.map (namedBy S.lows)).Nodup := by
  have key : ∀ l : List (List Nat), (∀ m ∈ l, m ∈ S.mids) → l.Nodup → (l.map (namedBy S.lows)).Nodup := by
    intro l
    induction l with
    | nil => intro _ _; exact List.nodup_nil
    | cons x l ih =>
      intro hl hd
      rw [List.nodup_cons] at hd
      rw [List.map_cons, List.nodup_cons]
      refine ⟨fun hx => ?_, ih (fun m hm => hl m (by simp [hm])) hd.2⟩
      obtain ⟨y, hy, e⟩ := List.mem_map.1 hx
      have hxm := hl x (by simp)
      have hym := hl y (by simp [hy])
      obtain ⟨c, -, hr⟩ := h.inv.md x hxm
      obtain ⟨c', -, hr'⟩ := h.inv.md y hym
      have := named_inj h.inv.nl (hr'.lt (h.ok.mid y hym)) (hr.lt (h.ok.mid x hxm)) e
      exact hd.1 (this ▸ hy)
  exact key _ (fun _ h => h) h.inv.nm
end
end Go.Proofs.Ytabbabkmojaoaaa
