/- several texts in one: CN CNJ -/
import Derived.Test.YtbmphakfgoompaaG8
import Derived.Test.YtbmphakfgoompaaG9
set_option linter.unusedVariables false
set_option linter.unusedSimpArgs false
/-
  Plain laws: what 'Fill' has made is such parts as 'From' takes.
-/
namespace Go.Proofs.Ytbmphakfgoompaa

theorem numsF_append (many : Nat) (ag : Nat → Bool) : ∀ (l l' : List Nat) (n : Nat), numsF many ag (l ++ l') n = (numsF many ag l n).bind (fun m => numsF many ag l' m)
  | [], l', n => rfl
  | x :: l, l', n => by
    rw [List.cons_append, numsF, numsF]
    split
    · exact numsF_append many ag l l' (n + 1)
    · split
      · rfl
      · exact numsF_append many ag l l' n
theorem numsF_bound {many : Nat} {ag : Nat → Bool} : ∀ {l : List Nat} {n m : Nat}, numsF many ag l n = some m → n ≤ m ∧ ∀ x ∈ l, x < m
  | [], n, m, h => by simp only [numsF, Option.some.injEq] at h; exact ⟨by omega, fun x hx => by simp at hx⟩
  | y :: l, n, m, h => by
    rw [numsF] at h
    split at h
    · rename_i hc
      obtain ⟨h1, h2⟩ := numsF_bound h
      refine ⟨by omega, fun x hx => ?_⟩
      rcases List.mem_cons.1 hx with rfl | hx
      · omega
      · exact h2 x hx
    · split at h
      · cases h
      · rename_i hc hd
        obtain ⟨h1, h2⟩ := numsF_bound h
        refine ⟨h1, fun x hx => ?_⟩
        rcases List.mem_cons.1 hx with rfl | hx
        · have : ¬ n ≤ x := fun e => hd (.inl e)
          omega
        · exact h2 x hx
theorem numsF_old (many : Nat) : ∀ (l : List Nat) (n : Nat), (∀ x ∈ l, x < n) → numsF many (fun _ => true) l n = some n
  | [], n, _ => rfl
  | x :: l, n, h => by
    have hx := h x (by simp)
    rw [numsF, if_neg (by omega), if_neg (by simp; omega)]
    exact numsF_old many l n (fun y hy => h y (by simp [hy]))
theorem numsF_one_old (many n x : Nat) (h : x < n) : numsF many (fun _ => true) [x] n = some n := numsF_old many [x] n (fun y hy => by rw [List.mem_singleton.1 hy]; exact h)
theorem numsF_one_new (many n : Nat) (h : n < many) : numsF many (fun _ => true) [n] n = some (n + 1) := by rw [numsF, if_pos ⟨rfl, h⟩]; rfl
theorem numsF_mono {many many' : Nat} (h : many ≤ many') : ∀ {l : List Nat} {n m : Nat}, numsF many (fun _ => true) l n = some m → numsF many' (fun _ => true) l n = some m
  | [], n, m, e => e
  | x :: l, n, m, e => by
    rw [numsF] at e ⊢
    split at e
    · rename_i hc
      rw [if_pos ⟨hc.1, by omega⟩]
      exact numsF_mono h e
    · rename_i hc
      split at e
      · cases e
      · rename_i hd
        have hx : x < n := by
          have : ¬ n ≤ x := fun e => hd (.inl e)
          omega
        rw [if_neg (by omega), if_neg hd]
        exact numsF_mono h e
/-- the number that a block gets: an old one, or the next -/
theorem numB_cases {β : Type} [DecidableEq β] {L : List (List β)} {b : List β} (hL : ∀ m ∈ L, m.length = b.length) :
    (∃ k, k < L.length ∧ L[k]? = some b ∧ numB (fun x y => decide (x = y)) L b = (L, k)) ∨ (b ∉ L ∧ numB (fun x y => decide (x = y)) L b = (L ++ [b], L.length)) := by
  unfold numB
  cases h : findB (fun x y => decide (x = y)) b L with
  | some k =>
    have h1 := findB_some hL h
    exact .inl ⟨k, (List.getElem?_eq_some_iff.1 h1).1, h1, rfl⟩
  | none => exact .inr ⟨findB_none hL h, rfl⟩
structure CanI (k : Nat) (S : MkS Int) : Prop where
  low : numsF S.lows.length (fun _ => true) (S.mids.flatten ++ S.cur.take (k % 64)) 0 = some S.lows.length
  top : numsF S.mids.length (fun _ => true) (S.top.take (k / 64)) 0 = some S.mids.length
theorem canI (f : Nat → Int) : ∀ k, k ≤ 17408 → CanI k (mkF f k) := by
  intro k
  induction k with
  | zero => intro _; exact ⟨rfl, rfl⟩
  | succ k ih =>
    intro hk
    obtain ⟨h1, h2⟩ := ih (by omega)
    obtain ⟨hw, hb, -, -⟩ := mkF_ok f k
    obtain ⟨S, hS⟩ : ∃ S, S = mkF f k := ⟨_, rfl⟩
    rw [mkF, ← hS]
    rw [← hS] at h1 h2 hw hb
    have hcl : k % 64 < S.cur.length := by rw [hw.cur]; omega
    -- the low block
    have hN : ∃ x L', numB eq8 S.lows (blkF f k) = (L', x) ∧ numsF L'.length (fun _ => true) (S.mids.flatten ++ (S.cur.set (k % 64) x).take (k % 64 + 1)) 0 = some L'.length := by
      have e : (S.cur.set (k % 64) ·) = fun x => S.cur.set (k % 64) x := rfl
      have hset : ∀ x, (S.cur.set (k % 64) x).take (k % 64 + 1) = S.cur.take (k % 64) ++ [x] := fun x => by
        rw [List.take_succ_eq_append_getElem (by simpa using hcl)]
        simp [List.take_set]
        exact List.set_eq_of_length_le (by simp; omega)
      rcases numB_cases (L := S.lows) (b := blkF f k) (fun m hm => by rw [hw.low m hm, blkF_length]) with ⟨x, hx, -, h⟩ | ⟨-, h⟩
      · refine ⟨x, S.lows, h, ?_⟩
        rw [hset, ← List.append_assoc, numsF_append, h1]
        exact numsF_one_old _ _ _ hx
      · refine ⟨S.lows.length, S.lows ++ [blkF f k], h, ?_⟩
        rw [hset, ← List.append_assoc, numsF_append, List.length_append, List.length_singleton, numsF_mono (Nat.le_succ _) h1]
        exact numsF_one_new _ _ (by omega)
    obtain ⟨x, L', hN1, hN2⟩ := hN
    by_cases hf : (k + 1) % 64 = 0
    · have hq : (k + 1) / 64 = k / 64 + 1 := by omega
      have h63 : k % 64 + 1 = 64 := by omega
      have hcl2 : (S.cur.set (k % 64) x).length = 64 := by simpa using hw.cur
      rw [h63, List.take_of_length_le (by omega)] at hN2
      rw [addS_full (by rw [hb]; exact hf)]
      simp only [hb, hN1]
      have htl : k / 64 < S.top.length := by rw [hw.top]; omega
      have htop : ∀ y, (S.top.set (k / 64) y).take ((k + 1) / 64) = S.top.take (k / 64) ++ [y] := fun y => by
        rw [hq, List.take_succ_eq_append_getElem (by simpa using htl)]
        simp [List.take_set]
        exact List.set_eq_of_length_le (by simp; omega)
      rcases numB_cases (L := S.mids) (b := S.cur.set (k % 64) x) (fun m hm => by rw [hw.mid m hm, hcl2]) with ⟨y, hy, hyb, h⟩ | ⟨hnot, h⟩
      · have h' : numB eq16 S.mids (S.cur.set (k % 64) x) = (S.mids, y) := h
        rw [h']
        refine ⟨?_, ?_⟩
        · simp only [hf, List.take_zero, List.append_nil]
          -- the row is an old one: it names no new block
          have h3 : ∃ n', numsF L'.length (fun _ => true) S.mids.flatten 0 = some n' := by
            rw [numsF_append] at hN2
            cases e : numsF L'.length (fun _ => true) S.mids.flatten 0 with
            | none => rw [e] at hN2; cases hN2
            | some n' => exact ⟨n', rfl⟩
          obtain ⟨n', hn'⟩ := h3
          have h4 := (numsF_bound hn').2
          have h5 : numsF L'.length (fun _ => true) (S.cur.set (k % 64) x) n' = some n' := numsF_old _ _ _ (fun z hz => h4 z (List.mem_flatten.2 ⟨_, List.mem_of_getElem? hyb, hz⟩))
          rw [numsF_append, hn'] at hN2
          rw [hn', ← hN2]
          exact h5.symm
        · simp only [htop]
          rw [numsF_append, h2]
          exact numsF_one_old _ _ _ hy
      · have h' : numB eq16 S.mids (S.cur.set (k % 64) x) = (S.mids ++ [S.cur.set (k % 64) x], S.mids.length) := h
        rw [h']
        refine ⟨?_, ?_⟩
        · simp only [hf, List.take_zero, List.append_nil, List.flatten_append, List.flatten_cons, List.flatten_nil]
          exact hN2
        · simp only [htop]
          rw [numsF_append, List.length_append, List.length_singleton, numsF_mono (Nat.le_succ _) h2]
          exact numsF_one_new _ _ (by omega)
    · have hq : (k + 1) / 64 = k / 64 := by omega
      have hm : (k + 1) % 64 = k % 64 + 1 := by omega
      rw [addS_less (by rw [hb]; exact hf)]
      simp only [hb, hN1]
      refine ⟨?_, ?_⟩
      · simp only [hm]; exact hN2
      · simp only [hq]; exact h2
theorem ck_flatten {β : Type} (L : List (List β)) (hl : ∀ l ∈ L, l.length = 64) : (List.range L.length).map (fun q => (L.flatten.drop (64 * q)).take 64) = L := by
  induction L with
  | nil => rfl
  | cons l L ih =>
    have h1 := hl l (by simp)
    rw [List.length_cons, List.range_succ_eq_map, List.map_cons, List.map_map]
    congr 1
    · rw [List.flatten_cons, Nat.mul_zero, List.drop_zero, List.take_left' h1]
    · rw [show (fun q => List.take 64 (List.drop (64 * q) (List.flatten (l :: L)))) ∘ Nat.succ = fun q => List.take 64 (List.drop (64 * q) L.flatten) from by
        funext q
        simp only [Function.comp, List.flatten_cons]
        rw [show 64 * q.succ = l.length + 64 * q by rw [h1]; omega, ← List.drop_drop, List.drop_left]]
      exact ih (fun l hl2 => hl l (by simp [hl2]))
theorem unL_iff {β : Type} [DecidableEq β] {L : List (List β)} (hl : ∀ l ∈ L, l.length = 64) : (∀ k (h : k < L.length), k < L.length → findB (fun a b => decide (a = b)) L[k] (L.take k) = none) ↔ L.Nodup := by
  constructor
  · intro h
    rw [List.nodup_iff_pairwise_ne, List.pairwise_iff_getElem]
    intro i j hi hj hij e
    have h1 := findB_none (fun m hm => by rw [hl m (List.mem_of_mem_take hm), hl _ (List.getElem_mem hj)]) (h j hj hj)
    exact h1 (by rw [← e, List.mem_take_iff_getElem]; exact ⟨i, by omega, rfl⟩)
  · intro h k hk _
    cases e : findB (fun a b => decide (a = b)) L[k] (L.take k) with
    | none => rfl
    | some i =>
      have h1 := findB_some (fun m hm => by rw [hl m (List.mem_of_mem_take hm), hl _ (List.getElem_mem hk)]) e
      obtain ⟨hi, h2⟩ := List.getElem?_eq_some_iff.1 h1
      rw [List.length_take] at hi
      rw [List.getElem_take] at h2
      exact absurd h2 (List.pairwise_iff_getElem.1 (List.nodup_iff_pairwise_ne.1 h) i k (by omega) hk (by omega))
theorem Made8.fromOk {f : Nat → Int} {S : MkS Int} (hS : Made8 f S) : FromOk S.top S.mids.flatten S.lows.flatten ∧ fromT S.top S.mids.flatten S.lows.flatten = trieS S := by
  have hp := hS.pos
  have hm := flat_len S.mids hS.made.ok.mid
  have hl := flat_len S.lows hS.made.ok.low
  have em : S.mids.flatten.length / 64 = S.mids.length := by omega
  have el : S.lows.flatten.length / 64 = S.lows.length := by omega
  have cm : VN.cksL S.mids.flatten S.mids.length = S.mids := ck_flatten S.mids hS.made.ok.mid
  have cl : cksL S.lows.flatten S.lows.length = S.lows := ck_flatten S.lows hS.made.ok.low
  have hml := hS.ml
  have hll := hS.ll
  obtain ⟨K, hK, hSK⟩ := hS.eq
  have hc := canI f K (by omega)
  rw [← hSK] at hc
  have hc1 := hc.low
  have hc2 := hc.top
  rw [show K % 64 = 0 by omega, List.take_zero, List.append_nil] at hc1
  rw [show K / 64 = 272 by omega, List.take_of_length_le (by rw [hS.made.ok.top]; exact Nat.le_refl _)] at hc2
  refine ⟨⟨hS.made.ok.top, by omega, by omega, by omega, by omega, by omega, by omega, by rw [el]; exact hc1, by rw [em]; exact hc2, ?_, ?_⟩, ?_⟩
  · rw [el, cl]; exact (unL_iff hS.made.ok.low).2 hS.nl
  · rw [em, cm]; exact (unL_iff hS.made.ok.mid).2 hS.made.inv.nm
  · unfold fromT trieS
    rw [em, el, cm, cl]
theorem mkF_congr {f g : Nat → Int} : ∀ k, (∀ r, r < 64 * k → f r = g r) → mkF f k = mkF g k
  | 0, _ => rfl
  | k + 1, h => by
    rw [mkF, mkF, mkF_congr k (fun r hr => h r (by omega))]
    congr 1
    unfold blkF
    apply List.map_congr_left
    intro i hi
    exact h _ (by have := List.mem_range.1 hi; omega)
theorem Made8.unique {f g : Nat → Int} {S S' : MkS Int} (hS : Made8 f S) (hS' : Made8 g S') (h : ∀ r, r ≤ 1114111 → f r = g r) : S = S' := by
  obtain ⟨K, hK, rfl⟩ := hS.eq
  obtain ⟨K', hK', rfl⟩ := hS'.eq
  obtain rfl : K = K' := by omega
  exact mkF_congr K (fun r hr => h r (by omega))
end Go.Proofs.Ytbmphakfgoompaa

/-
  Plain laws: what 'Fill' has made is such parts as 'From' takes (int32).
-/
namespace Go.Proofs.Ytbmphakfgoompaa.VJ

theorem Made8.nl {f : Nat → El} {S : MkS El} (hS : Made8 f S) : S.lows.Nodup := hS.made.inv.nl
theorem numsF_append (many : Nat) (ag : Nat → Bool) : ∀ (l l' : List Nat) (n : Nat), numsF many ag (l ++ l') n = (numsF many ag l n).bind (fun m => numsF many ag l' m)
  | [], l', n => rfl
  | x :: l, l', n => by
    rw [List.cons_append, numsF, numsF]
    split
    · exact numsF_append many ag l l' (n + 1)
    · split
      · rfl
      · exact numsF_append many ag l l' n
theorem numsF_bound {many : Nat} {ag : Nat → Bool} : ∀ {l : List Nat} {n m : Nat}, numsF many ag l n = some m → n ≤ m ∧ ∀ x ∈ l, x < m
  | [], n, m, h => by simp only [numsF, Option.some.injEq] at h; exact ⟨by omega, fun x hx => by simp at hx⟩
  | y :: l, n, m, h => by
    rw [numsF] at h
    split at h
    · rename_i hc
      obtain ⟨h1, h2⟩ := numsF_bound h
      refine ⟨by omega, fun x hx => ?_⟩
      rcases List.mem_cons.1 hx with rfl | hx
      · omega
      · exact h2 x hx
    · split at h
      · cases h
      · rename_i hc hd
        obtain ⟨h1, h2⟩ := numsF_bound h
        refine ⟨h1, fun x hx => ?_⟩
        rcases List.mem_cons.1 hx with rfl | hx
        · have : ¬ n ≤ x := fun e => hd (.inl e)
          omega
        · exact h2 x hx
theorem numsF_old (many : Nat) : ∀ (l : List Nat) (n : Nat), (∀ x ∈ l, x < n) → numsF many (fun _ => true) l n = some n
  | [], n, _ => rfl
  | x :: l, n, h => by
    have hx := h x (by simp)
    rw [numsF, if_neg (by omega), if_neg (by simp; omega)]
    exact numsF_old many l n (fun y hy => h y (by simp [hy]))
theorem numsF_one_old (many n x : Nat) (h : x < n) : numsF many (fun _ => true) [x] n = some n := numsF_old many [x] n (fun y hy => by rw [List.mem_singleton.1 hy]; exact h)
theorem numsF_one_new (many n : Nat) (h : n < many) : numsF many (fun _ => true) [n] n = some (n + 1) := by rw [numsF, if_pos ⟨rfl, h⟩]; rfl
theorem numsF_mono {many many' : Nat} (h : many ≤ many') : ∀ {l : List Nat} {n m : Nat}, numsF many (fun _ => true) l n = some m → numsF many' (fun _ => true) l n = some m
  | [], n, m, e => e
  | x :: l, n, m, e => by
    rw [numsF] at e ⊢
    split at e
    · rename_i hc
      rw [if_pos ⟨hc.1, by omega⟩]
      exact numsF_mono h e
    · rename_i hc
      split at e
      · cases e
      · rename_i hd
        have hx : x < n := by
          have : ¬ n ≤ x := fun e => hd (.inl e)
          omega
        rw [if_neg (by omega), if_neg hd]
        exact numsF_mono h e
/-- the number that a block gets: an old one, or the next -/
theorem numB_cases {β : Type} [DecidableEq β] {L : List (List β)} {b : List β} (hL : ∀ m ∈ L, m.length = b.length) :
    (∃ k, k < L.length ∧ L[k]? = some b ∧ numB (fun x y => decide (x = y)) L b = (L, k)) ∨ (b ∉ L ∧ numB (fun x y => decide (x = y)) L b = (L ++ [b], L.length)) := by
  unfold numB
  cases h : findB (fun x y => decide (x = y)) b L with
  | some k =>
    have h1 := findB_some hL h
    exact .inl ⟨k, (List.getElem?_eq_some_iff.1 h1).1, h1, rfl⟩
  | none => exact .inr ⟨findB_none hL h, rfl⟩
structure CanI (k : Nat) (S : MkS El) : Prop where
  low : numsF S.lows.length (fun _ => true) (S.mids.flatten ++ S.cur.take (k % 64)) 0 = some S.lows.length
  top : numsF S.mids.length (fun _ => true) (S.top.take (k / 64)) 0 = some S.mids.length
theorem canI (f : Nat → El) : ∀ k, k ≤ 17408 → CanI k (mkF f k) := by
  intro k
  induction k with
  | zero => intro _; exact ⟨rfl, rfl⟩
  | succ k ih =>
    intro hk
    obtain ⟨h1, h2⟩ := ih (by omega)
    obtain ⟨hw, hb, -, -⟩ := mkF_ok f k
    obtain ⟨S, hS⟩ : ∃ S, S = mkF f k := ⟨_, rfl⟩
    rw [mkF, ← hS]
    rw [← hS] at h1 h2 hw hb
    have hcl : k % 64 < S.cur.length := by rw [hw.cur]; omega
    -- the low block
    have hN : ∃ x L', numB eq8 S.lows (blkF f k) = (L', x) ∧ numsF L'.length (fun _ => true) (S.mids.flatten ++ (S.cur.set (k % 64) x).take (k % 64 + 1)) 0 = some L'.length := by
      have e : (S.cur.set (k % 64) ·) = fun x => S.cur.set (k % 64) x := rfl
      have hset : ∀ x, (S.cur.set (k % 64) x).take (k % 64 + 1) = S.cur.take (k % 64) ++ [x] := fun x => by
        rw [List.take_succ_eq_append_getElem (by simpa using hcl)]
        simp [List.take_set]
        exact List.set_eq_of_length_le (by simp; omega)
      rcases numB_cases (L := S.lows) (b := blkF f k) (fun m hm => by rw [hw.low m hm, blkF_length]) with ⟨x, hx, -, h⟩ | ⟨-, h⟩
      · refine ⟨x, S.lows, h, ?_⟩
        rw [hset, ← List.append_assoc, numsF_append, h1]
        exact numsF_one_old _ _ _ hx
      · refine ⟨S.lows.length, S.lows ++ [blkF f k], h, ?_⟩
        rw [hset, ← List.append_assoc, numsF_append, List.length_append, List.length_singleton, numsF_mono (Nat.le_succ _) h1]
        exact numsF_one_new _ _ (by omega)
    obtain ⟨x, L', hN1, hN2⟩ := hN
    by_cases hf : (k + 1) % 64 = 0
    · have hq : (k + 1) / 64 = k / 64 + 1 := by omega
      have h63 : k % 64 + 1 = 64 := by omega
      have hcl2 : (S.cur.set (k % 64) x).length = 64 := by simpa using hw.cur
      rw [h63, List.take_of_length_le (by omega)] at hN2
      rw [addS_full (by rw [hb]; exact hf)]
      simp only [hb, hN1]
      have htl : k / 64 < S.top.length := by rw [hw.top]; omega
      have htop : ∀ y, (S.top.set (k / 64) y).take ((k + 1) / 64) = S.top.take (k / 64) ++ [y] := fun y => by
        rw [hq, List.take_succ_eq_append_getElem (by simpa using htl)]
        simp [List.take_set]
        exact List.set_eq_of_length_le (by simp; omega)
      rcases numB_cases (L := S.mids) (b := S.cur.set (k % 64) x) (fun m hm => by rw [hw.mid m hm, hcl2]) with ⟨y, hy, hyb, h⟩ | ⟨hnot, h⟩
      · have h' : numB eq16 S.mids (S.cur.set (k % 64) x) = (S.mids, y) := h
        rw [h']
        refine ⟨?_, ?_⟩
        · simp only [hf, List.take_zero, List.append_nil]
          -- the row is an old one: it names no new block
          have h3 : ∃ n', numsF L'.length (fun _ => true) S.mids.flatten 0 = some n' := by
            rw [numsF_append] at hN2
            cases e : numsF L'.length (fun _ => true) S.mids.flatten 0 with
            | none => rw [e] at hN2; cases hN2
            | some n' => exact ⟨n', rfl⟩
          obtain ⟨n', hn'⟩ := h3
          have h4 := (numsF_bound hn').2
          have h5 : numsF L'.length (fun _ => true) (S.cur.set (k % 64) x) n' = some n' := numsF_old _ _ _ (fun z hz => h4 z (List.mem_flatten.2 ⟨_, List.mem_of_getElem? hyb, hz⟩))
          rw [numsF_append, hn'] at hN2
          rw [hn', ← hN2]
          exact h5.symm
        · simp only [htop]
          rw [numsF_append, h2]
          exact numsF_one_old _ _ _ hy
      · have h' : numB eq16 S.mids (S.cur.set (k % 64) x) = (S.mids ++ [S.cur.set (k % 64) x], S.mids.length) := h
        rw [h']
        refine ⟨?_, ?_⟩
        · simp only [hf, List.take_zero, List.append_nil, List.flatten_append, List.flatten_cons, List.flatten_nil]
          exact hN2
        · simp only [htop]
          rw [numsF_append, List.length_append, List.length_singleton, numsF_mono (Nat.le_succ _) h2]
          exact numsF_one_new _ _ (by omega)
    · have hq : (k + 1) / 64 = k / 64 := by omega
      have hm : (k + 1) % 64 = k % 64 + 1 := by omega
      rw [addS_less (by rw [hb]; exact hf)]
      simp only [hb, hN1]
      refine ⟨?_, ?_⟩
      · simp only [hm]; exact hN2
      · simp only [hq]; exact h2
theorem ck_flatten {β : Type} (L : List (List β)) (hl : ∀ l ∈ L, l.length = 64) : (List.range L.length).map (fun q => (L.flatten.drop (64 * q)).take 64) = L := by
  induction L with
  | nil => rfl
  | cons l L ih =>
    have h1 := hl l (by simp)
    rw [List.length_cons, List.range_succ_eq_map, List.map_cons, List.map_map]
    congr 1
    · rw [List.flatten_cons, Nat.mul_zero, List.drop_zero, List.take_left' h1]
    · rw [show (fun q => List.take 64 (List.drop (64 * q) (List.flatten (l :: L)))) ∘ Nat.succ = fun q => List.take 64 (List.drop (64 * q) L.flatten) from by
        funext q
        simp only [Function.comp, List.flatten_cons]
        rw [show 64 * q.succ = l.length + 64 * q by rw [h1]; omega, ← List.drop_drop, List.drop_left]]
      exact ih (fun l hl2 => hl l (by simp [hl2]))
theorem unL_iff {β : Type} [DecidableEq β] {L : List (List β)} (hl : ∀ l ∈ L, l.length = 64) : (∀ k (h : k < L.length), k < L.length → findB (fun a b => decide (a = b)) L[k] (L.take k) = none) ↔ L.Nodup := by
  constructor
  · intro h
    rw [List.nodup_iff_pairwise_ne, List.pairwise_iff_getElem]
    intro i j hi hj hij e
    have h1 := findB_none (fun m hm => by rw [hl m (List.mem_of_mem_take hm), hl _ (List.getElem_mem hj)]) (h j hj hj)
    exact h1 (by rw [← e, List.mem_take_iff_getElem]; exact ⟨i, by omega, rfl⟩)
  · intro h k hk _
    cases e : findB (fun a b => decide (a = b)) L[k] (L.take k) with
    | none => rfl
    | some i =>
      have h1 := findB_some (fun m hm => by rw [hl m (List.mem_of_mem_take hm), hl _ (List.getElem_mem hk)]) e
      obtain ⟨hi, h2⟩ := List.getElem?_eq_some_iff.1 h1
      rw [List.length_take] at hi
      rw [List.getElem_take] at h2
      exact absurd h2 (List.pairwise_iff_getElem.1 (List.nodup_iff_pairwise_ne.1 h) i k (by omega) hk (by omega))
theorem Made8.fromOk {f : Nat → El} {S : MkS El} (hS : Made8 f S) : FromOk S.top S.mids.flatten S.lows.flatten ∧ fromT S.top S.mids.flatten S.lows.flatten = trieS S := by
  have hp := hS.pos
  have hm := flat_len S.mids hS.made.ok.mid
  have hl := flat_len S.lows hS.made.ok.low
  have em : S.mids.flatten.length / 64 = S.mids.length := by omega
  have el : S.lows.flatten.length / 64 = S.lows.length := by omega
  have cm : VN.cksL S.mids.flatten S.mids.length = S.mids := ck_flatten S.mids hS.made.ok.mid
  have cl : cksL S.lows.flatten S.lows.length = S.lows := ck_flatten S.lows hS.made.ok.low
  have hml := hS.ml
  have hll := hS.ll
  obtain ⟨K, hK, hSK⟩ := hS.eq
  have hc := canI f K (by omega)
  rw [← hSK] at hc
  have hc1 := hc.low
  have hc2 := hc.top
  rw [show K % 64 = 0 by omega, List.take_zero, List.append_nil] at hc1
  rw [show K / 64 = 272 by omega, List.take_of_length_le (by rw [hS.made.ok.top]; exact Nat.le_refl _)] at hc2
  refine ⟨⟨hS.made.ok.top, by omega, by omega, by omega, by omega, by omega, by omega, by rw [el]; exact hc1, by rw [em]; exact hc2, ?_, ?_⟩, ?_⟩
  · rw [el, cl]; exact (unL_iff hS.made.ok.low).2 hS.nl
  · rw [em, cm]; exact (unL_iff hS.made.ok.mid).2 hS.made.inv.nm
  · unfold fromT trieS
    rw [em, el, cm, cl]
theorem mkF_congr {f g : Nat → El} : ∀ k, (∀ r, r < 64 * k → f r = g r) → mkF f k = mkF g k
  | 0, _ => rfl
  | k + 1, h => by
    rw [mkF, mkF, mkF_congr k (fun r hr => h r (by omega))]
    congr 1
    unfold blkF
    apply List.map_congr_left
    intro i hi
    exact h _ (by have := List.mem_range.1 hi; omega)
theorem Made8.unique {f g : Nat → El} {S S' : MkS El} (hS : Made8 f S) (hS' : Made8 g S') (h : ∀ r, r ≤ 1114111 → f r = g r) : S = S' := by
  obtain ⟨K, hK, rfl⟩ := hS.eq
  obtain ⟨K', hK', rfl⟩ := hS'.eq
  obtain rfl : K = K' := by omega
  exact mkF_congr K (fun r hr => h r (by omega))
end Go.Proofs.Ytbmphakfgoompaa.VJ
