/- several texts in one: CN PW FL TB2 TB3 TB4 -/
import Derived.Test.YtabbabkmojaoaaaFR8
import Derived.Test.YtabbabkmojaoaaaTQ
import Derived.Test.YtabbabkmojaoaaaSP8
import Derived.Test.YtabbabkmojaoaaaTX
import Derived.Test.YtabbabkmojaoaaaTI
import Derived.Test.YtabbabkmojaoaaaTT
set_option linter.unusedVariables false
set_option linter.unusedSimpArgs false
/-
  Plain laws: what 'Fill' has made is such parts as 'From' takes.
-/
namespace Go.Proofs.Ytabbabkmojaoaaa

theorem numsF_append (many : Nat) (ag : Nat → Bool) : ∀ (l l' : List Nat) (n : Nat), numsF many ag (l ++ l') n = (numsF many ag l n).bind (fun m => numsF many ag l' m)
  | [], l', n => rfl
  | x :: l, l', n => by
    rw [List.cons_append, numsF, numsF]
    split
    · exact numsF_append many ag l l' (n + 1)
    · split
      · rfl
      · exact numsF_append many ag l l' n
theorem numsF_bound {many : Nat} {ag : Nat → Bool} : ∀ {l : List Nat} {n m : Nat}, numsF many ag l n = some m → n ≤ m ∧ ∀ x ∈ l, x < m
  | [], n, m, h => by simp only [numsF, Option.some.injEq] at h; exact ⟨by omega, fun x hx => by simp at hx⟩
  | y :: l, n, m, h => by
    rw [numsF] at h
    split at h
    · rename_i hc
      obtain ⟨h1, h2⟩ := numsF_bound h
      refine ⟨by omega, fun x hx => ?_⟩
      rcases List.mem_cons.1 hx with rfl | hx
      · omega
      · exact h2 x hx
    · split at h
      · cases h
      · rename_i hc hd
        obtain ⟨h1, h2⟩ := numsF_bound h
        refine ⟨h1, fun x hx => ?_⟩
        rcases List.mem_cons.1 hx with rfl | hx
        · have : ¬ n ≤ x := fun e => hd (.inl e)
          omega
        · exact h2 x hx
theorem numsF_old (many : Nat) : ∀ (l : List Nat) (n : Nat), (∀ x ∈ l, x < n) → numsF many (fun _ => true) l n = some n
  | [], n, _ => rfl
  | x :: l, n, h => by
    have hx := h x (by simp)
    rw [numsF, if_neg (by omega), if_neg (by simp; omega)]
    exact numsF_old many l n (fun y hy => h y (by simp [hy]))
theorem numsF_one_old (many n x : Nat) (h : x < n) : numsF many (fun _ => true) [x] n = some n := numsF_old many [x] n (fun y hy => by rw [List.mem_singleton.1 hy]; exact h)
theorem numsF_one_new (many n : Nat) (h : n < many) : numsF many (fun _ => true) [n] n = some (n + 1) := by rw [numsF, if_pos ⟨rfl, h⟩]; rfl
theorem numsF_mono {many many' : Nat} (h : many ≤ many') : ∀ {l : List Nat} {n m : Nat}, numsF many (fun _ => true) l n = some m → numsF many' (fun _ => true) l n = some m
  | [], n, m, e => e
  | x :: l, n, m, e => by
    rw [numsF] at e ⊢
    split at e
    · rename_i hc
      rw [if_pos ⟨hc.1, by omega⟩]
      exact numsF_mono h e
    · rename_i hc
      split at e
      · cases e
      · rename_i hd
        have hx : x < n := by
          have : ¬ n ≤ x := fun e => hd (.inl e)
          omega
        rw [if_neg (by omega), if_neg hd]
        exact numsF_mono h e
/-- the number that a block gets: an old one, or the next -/
theorem numB_cases {β : Type} [DecidableEq β] {L : List (List β)} {b : List β} (hL : ∀ m ∈ L, m.length = b.length) :
    (∃ k, k < L.length ∧ L[k]? = some b ∧ numB (fun x y => decide (x = y)) L b = (L, k)) ∨ (b ∉ L ∧ numB (fun x y => decide (x = y)) L b = (L ++ [b], L.length)) := by
  unfold numB
  cases h : findB (fun x y => decide (x = y)) b L with
  | some k =>
    have h1 := findB_some hL h
    exact .inl ⟨k, (List.getElem?_eq_some_iff.1 h1).1, h1, rfl⟩
  | none => exact .inr ⟨findB_none hL h, rfl⟩
structure CanI (k : Nat) (S : MkS Int) : Prop where
  low : numsF S.lows.length (fun _ => true) (S.mids.flatten ++ S.cur.take (k % 64)) 0 = some S.lows.length
  top : numsF S.mids.length (fun _ => true) (S.top.take (k / 64)) 0 = some S.mids.length
theorem canI (f : Nat → Int) : ∀ k, k ≤ 17408 → CanI k (mkF f k) := by
  intro k
  induction k with
  | zero => intro _; exact ⟨rfl, rfl⟩
  | succ k ih =>
    intro hk
    obtain ⟨h1, h2⟩ := ih (by omega)
    obtain ⟨hw, hb, -, -⟩ := mkF_ok f k
    obtain ⟨S, hS⟩ : ∃ S, S = mkF f k := ⟨_, rfl⟩
    rw [mkF, ← hS]
    rw [← hS] at h1 h2 hw hb
    have hcl : k % 64 < S.cur.length := by rw [hw.cur]; omega
    -- the low block
    have hN : ∃ x L', numB eq8 S.lows (blkF f k) = (L', x) ∧ numsF L'.length (fun _ => true) (S.mids.flatten ++ (S.cur.set (k % 64) x).take (k % 64 + 1)) 0 = some L'.length := by
      have e : (S.cur.set (k % 64) ·) = fun x => S.cur.set (k % 64) x := rfl
      have hset : ∀ x, (S.cur.set (k % 64) x).take (k % 64 + 1) = S.cur.take (k % 64) ++ [x] := fun x => by
        rw [List.take_succ_eq_append_getElem (by simpa using hcl)]
        simp [List.take_set]
        exact List.set_eq_of_length_le (by simp; omega)
      rcases numB_cases (L := S.lows) (b := blkF f k) (fun m hm => by rw [hw.low m hm, blkF_length]) with ⟨x, hx, -, h⟩ | ⟨-, h⟩
      · refine ⟨x, S.lows, h, ?_⟩
        rw [hset, ← List.append_assoc, numsF_append, h1]
        exact numsF_one_old _ _ _ hx
      · refine ⟨S.lows.length, S.lows ++ [blkF f k], h, ?_⟩
        rw [hset, ← List.append_assoc, numsF_append, List.length_append, List.length_singleton, numsF_mono (Nat.le_succ _) h1]
        exact numsF_one_new _ _ (by omega)
    obtain ⟨x, L', hN1, hN2⟩ := hN
    by_cases hf : (k + 1) % 64 = 0
    · have hq : (k + 1) / 64 = k / 64 + 1 := by omega
      have h63 : k % 64 + 1 = 64 := by omega
      have hcl2 : (S.cur.set (k % 64) x).length = 64 := by simpa using hw.cur
      rw [h63, List.take_of_length_le (by omega)] at hN2
      rw [addS_full (by rw [hb]; exact hf)]
      simp only [hb, hN1]
      have htl : k / 64 < S.top.length := by rw [hw.top]; omega
      have htop : ∀ y, (S.top.set (k / 64) y).take ((k + 1) / 64) = S.top.take (k / 64) ++ [y] := fun y => by
        rw [hq, List.take_succ_eq_append_getElem (by simpa using htl)]
        simp [List.take_set]
        exact List.set_eq_of_length_le (by simp; omega)
      rcases numB_cases (L := S.mids) (b := S.cur.set (k % 64) x) (fun m hm => by rw [hw.mid m hm, hcl2]) with ⟨y, hy, hyb, h⟩ | ⟨hnot, h⟩
      · have h' : numB eq16 S.mids (S.cur.set (k % 64) x) = (S.mids, y) := h
        rw [h']
        refine ⟨?_, ?_⟩
        · simp only [hf, List.take_zero, List.append_nil]
          -- the row is an old one: it names no new block
          have h3 : ∃ n', numsF L'.length (fun _ => true) S.mids.flatten 0 = some n' := by
            rw [numsF_append] at hN2
            cases e : numsF L'.length (fun _ => true) S.mids.flatten 0 with
            | none => rw [e] at hN2; cases hN2
            | some n' => exact ⟨n', rfl⟩
          obtain ⟨n', hn'⟩ := h3
          have h4 := (numsF_bound hn').2
          have h5 : numsF L'.length (fun _ => true) (S.cur.set (k % 64) x) n' = some n' := numsF_old _ _ _ (fun z hz => h4 z (List.mem_flatten.2 ⟨_, List.mem_of_getElem? hyb, hz⟩))
          rw [numsF_append, hn'] at hN2
          rw [hn', ← hN2]
          exact h5.symm
        · simp only [htop]
          rw [numsF_append, h2]
          exact numsF_one_old _ _ _ hy
      · have h' : numB eq16 S.mids (S.cur.set (k % 64) x) = (S.mids ++ [S.cur.set (k % 64) x], S.mids.length) := h
        rw [h']
        refine ⟨?_, ?_⟩
        · simp only [hf, List.take_zero, List.append_nil, List.flatten_append, List.flatten_cons, List.flatten_nil]
          exact hN2
        · simp only [htop]
          rw [numsF_append, List.length_append, List.length_singleton, numsF_mono (Nat.le_succ _) h2]
          exact numsF_one_new _ _ (by omega)
    · have hq : (k + 1) / 64 = k / 64 := by omega
      have hm : (k + 1) % 64 = k % 64 + 1 := by omega
      rw [addS_less (by rw [hb]; exact hf)]
      simp only [hb, hN1]
      refine ⟨?_, ?_⟩
      · simp only [hm]; exact hN2
      · simp only [hq]; exact h2
theorem ck_flatten {β : Type} (L : List (List β)) (hl : ∀ l ∈ L, l.length = 64) : (List.range L.length).map (fun q => (L.flatten.drop (64 * q)).take 64) = L := by
  induction L with
  | nil => rfl
  | cons l L ih =>
    have h1 := hl l (by simp)
    rw [List.length_cons, List.range_succ_eq_map, List.map_cons, List.map_map]
    congr 1
    · rw [List.flatten_cons, Nat.mul_zero, List.drop_zero, List.take_left' h1]
    · rw [show (fun q => List.take 64 (List.drop (64 * q) (List.flatten (l :: L)))) ∘ Nat.succ = fun q => List.take 64 (List.drop (64 * q) L.flatten) from by
        funext q
        simp only [Function.comp, List.flatten_cons]
        rw [show 64 * q.succ = l.length + 64 * q by rw [h1]; omega, ← List.drop_drop, List.drop_left]]
      exact ih (fun l hl2 => hl l (by simp [hl2]))
theorem unL_iff {β : Type} [DecidableEq β] {L : List (List β)} (hl : ∀ l ∈ L, l.length = 64) : (∀ k (h : k < L.length), k < L.length → findB (fun a b => decide (a = b)) L[k] (L.take k) = none) ↔ L.Nodup := by
  constructor
  · intro h
    rw [List.nodup_iff_pairwise_ne, List.pairwise_iff_getElem]
    intro i j hi hj hij e
    have h1 := findB_none (fun m hm => by rw [hl m (List.mem_of_mem_take hm), hl _ (List.getElem_mem hj)]) (h j hj hj)
    exact h1 (by rw [← e, List.mem_take_iff_getElem]; exact ⟨i, by omega, rfl⟩)
  · intro h k hk _
    cases e : findB (fun a b => decide (a = b)) L[k] (L.take k) with
    | none => rfl
    | some i =>
      have h1 := findB_some (fun m hm => by rw [hl m (List.mem_of_mem_take hm), hl _ (List.getElem_mem hk)]) e
      obtain ⟨hi, h2⟩ := List.getElem?_eq_some_iff.1 h1
      rw [List.length_take] at hi
      rw [List.getElem_take] at h2
      exact absurd h2 (List.pairwise_iff_getElem.1 (List.nodup_iff_pairwise_ne.1 h) i k (by omega) hk (by omega))
theorem Made8.fromOk {f : Nat → Int} {S : MkS Int} (hS : Made8 f S) : FromOk S.top S.mids.flatten S.lows.flatten ∧ fromT S.top S.mids.flatten S.lows.flatten = trieS S := by
  have hp := hS.pos
  have hm := flat_len S.mids hS.made.ok.mid
  have hl := flat_len S.lows hS.made.ok.low
  have em : S.mids.flatten.length / 64 = S.mids.length := by omega
  have el : S.lows.flatten.length / 64 = S.lows.length := by omega
  have cm : VN.cksL S.mids.flatten S.mids.length = S.mids := ck_flatten S.mids hS.made.ok.mid
  have cl : cksL S.lows.flatten S.lows.length = S.lows := ck_flatten S.lows hS.made.ok.low
  have hml := hS.ml
  have hll := hS.ll
  obtain ⟨K, hK, hSK⟩ := hS.eq
  have hc := canI f K (by omega)
  rw [← hSK] at hc
  have hc1 := hc.low
  have hc2 := hc.top
  rw [show K % 64 = 0 by omega, List.take_zero, List.append_nil] at hc1
  rw [show K / 64 = 272 by omega, List.take_of_length_le (by rw [hS.made.ok.top]; exact Nat.le_refl _)] at hc2
  refine ⟨⟨hS.made.ok.top, by omega, by omega, by omega, by omega, by omega, by omega, by rw [el]; exact hc1, by rw [em]; exact hc2, ?_, ?_⟩, ?_⟩
  · rw [el, cl]; exact (unL_iff hS.made.ok.low).2 hS.nl
  · rw [em, cm]; exact (unL_iff hS.made.ok.mid).2 hS.made.inv.nm
  · unfold fromT trieS
    rw [em, el, cm, cl]
theorem mkF_congr {f g : Nat → Int} : ∀ k, (∀ r, r < 64 * k → f r = g r) → mkF f k = mkF g k
  | 0, _ => rfl
  | k + 1, h => by
    rw [mkF, mkF, mkF_congr k (fun r hr => h r (by omega))]
    congr 1
    unfold blkF
    apply List.map_congr_left
    intro i hi
    exact h _ (by have := List.mem_range.1 hi; omega)
theorem Made8.unique {f g : Nat → Int} {S S' : MkS Int} (hS : Made8 f S) (hS' : Made8 g S') (h : ∀ r, r ≤ 1114111 → f r = g r) : S = S' := by
  obtain ⟨K, hK, rfl⟩ := hS.eq
  obtain ⟨K', hK', rfl⟩ := hS'.eq
  obtain rfl : K = K' := by omega
  exact mkF_congr K (fun r hr => h r (by omega))
end Go.Proofs.Ytabbabkmojaoaaa

/-
  The walk of 'parts': parts that read alike are alike.
-/
namespace Go.Proofs.Ytabbabkmojaoaaa
open Go.RowKit

theorem NumsAt.get {w : World} {a : Option Addr} {zs : List Nat} (h : NumsAt w a zs) (i : Nat) (hi : i < zs.length) : ∃ b o, a = some ⟨b, o, none⟩ ∧ w.cell? ⟨b, o + i, none⟩ = some (.int .u16 (zs[i] : Nat)) := h i hi
theorem RowAt.get {w : World} {a : Option Addr} {zs : List Int} (h : RowAt w a zs) (i : Nat) (hi : i < zs.length) : ∃ b o, a = some ⟨b, o, none⟩ ∧ w.cell? ⟨b, o + i, none⟩ = some (.int .u8 zs[i]) := h i hi
def CntR (n : Nat) (w : World) (i : Value) (wr : World) : Prop := ∃ k q : Nat, k ≤ n ∧ i = .int .i64 (k : Nat) ∧ wr = w.drewN q
set_option maxRecDepth 100000 in
set_option maxHeartbeats 1600000 in
theorem parts_same (w : World) (a0 a1 a2 b0 b1 b2 : Option Addr) (n0 n1 n2 c0 c1 c2 d0 d1 d2 : Nat) (zT zM : List Nat) (zL : List Int) (hT : zT.length = n0) (hM : zM.length = n1) (hL : zL.length = n2) (l0 : n0 ≤ 1048576) (l1 : n1 ≤ 1048576) (l2 : n2 ≤ 4194304)
    (rT : NumsAt w a0 zT) (rM : NumsAt w a1 zM) (rL : RowAt w a2 zL) (sT : NumsAt w b0 zT) (sM : NumsAt w b1 zM) (sL : RowAt w b2 zL) :
    Calls Try.prog 58 #[.agg #[.slice a0 n0 c0, .slice a1 n1 c1, .slice a2 n2 c2], .agg #[.slice b0 n0 d0, .slice b1 n1 d1, .slice b2 n2 d2]] w fun e w' => e = .returned (.bool true) ∧ Below w.heap.size w w' := by
  have HLn := Lib.hid (And.intro hT (And.intro hM hL))
  have HR := Lib.hid (And.intro rT (And.intro rM rL)); have HS := Lib.hid (And.intro sT (And.intro sM sL))
  clear hT hM hL rT rM rL sT sM sL
  have HB1 := (Below.refl _ w).alloc (Nat.le_refl _) (.cells #[.slice a0 n0 c0, .slice a1 n1 c1, .slice a2 n2 c2] 79)
  have HA1 := heap_alloc_new w (.cells #[.slice a0 n0 c0, .slice a1 n1 c1, .slice a2 n2 c2] 79)
  have HZ1 := World.size_alloc w (.cells #[.slice a0 n0 c0, .slice a1 n1 c1, .slice a2 n2 c2] 79)
  obtain ⟨w1, hw1⟩ : ∃ w1, w1 = w.alloc (.cells #[.slice a0 n0 c0, .slice a1 n1 c1, .slice a2 n2 c2] 79) := ⟨_, rfl⟩
  rw [← hw1] at HB1 HA1 HZ1
  have HB2 := (Below.refl _ w1).alloc (Nat.le_refl _) (.cells #[.slice b0 n0 d0, .slice b1 n1 d1, .slice b2 n2 d2] 79)
  have HA2 := heap_alloc_new w1 (.cells #[.slice b0 n0 d0, .slice b1 n1 d1, .slice b2 n2 d2] 79)
  obtain ⟨w2, hw2⟩ : ∃ w2, w2 = w1.alloc (.cells #[.slice b0 n0 d0, .slice b1 n1 d1, .slice b2 n2 d2] 79) := ⟨_, rfl⟩
  rw [← hw2] at HB2 HA2
  obtain ⟨x1, hx1⟩ : ∃ x1, x1 = w.heap.size := ⟨_, rfl⟩
  have HB : Hid (Below w.heap.size w w2) := Lib.hid (HB1.trans (HB2.mono (by omega)))
  have hA1 : w2.heap[x1]? = some (.cells #[.slice a0 n0 c0, .slice a1 n1 c1, .slice a2 n2 c2] 79 (0, 0)) := by rw [hx1]; exact (HB2.block _ (by omega)).trans HA1
  have hA2 : w2.heap[x1 + 1]? = some (.cells #[.slice b0 n0 d0, .slice b1 n1 d1, .slice b2 n2 d2] 79 (0, 0)) := by rw [hx1, ← HZ1]; exact HA2
  have p0 : w2.cell? ⟨x1, 0, none⟩ = some (.slice a0 n0 c0) := cell_of_row w2 x1 0 _ _ (0, 0) hA1
  have p1 : w2.cell? ⟨x1, 1, none⟩ = some (.slice a1 n1 c1) := cell_of_row w2 x1 1 _ _ (0, 0) hA1
  have p2 : w2.cell? ⟨x1, 2, none⟩ = some (.slice a2 n2 c2) := cell_of_row w2 x1 2 _ _ (0, 0) hA1
  have q0 : w2.cell? ⟨x1 + 1, 0, none⟩ = some (.slice b0 n0 d0) := cell_of_row w2 (x1 + 1) 0 _ _ (0, 0) hA2
  have q1 : w2.cell? ⟨x1 + 1, 1, none⟩ = some (.slice b1 n1 d1) := cell_of_row w2 (x1 + 1) 1 _ _ (0, 0) hA2
  have q2 : w2.cell? ⟨x1 + 1, 2, none⟩ = some (.slice b2 n2 d2) := cell_of_row w2 (x1 + 1) 2 _ _ (0, 0) hA2
  have HW := Lib.hid (And.intro hw1 hw2)
  have HX := Lib.hid hx1
  clear HB1 HA1 HZ1 HB2 HA2 hA1 hA2 hw1 hw2 hx1
  have HN : Hid ((NumsAt w2 a0 zT ∧ NumsAt w2 a1 zM ∧ RowAt w2 a2 zL) ∧ NumsAt w2 b0 zT ∧ NumsAt w2 b1 zM ∧ RowAt w2 b2 zL) := Lib.hid ⟨⟨HR.out.1.below HB.out, HR.out.2.1.below HB.out, HR.out.2.2.below HB.out⟩, HS.out.1.below HB.out, HS.out.2.1.below HB.out, HS.out.2.2.below HB.out⟩
  go_enter Try.func58, Try.ntmps58
  go_upto_region 1 with (fail)
  rw [← HX.out, ← HW.out.1, ← HW.out.2]
  go_wp2
  go_loopw [5] (CntR n0 w2) (fun i _ => n0 - (intOf i).toNat)
  case atStart => exact ⟨0, 0, Nat.zero_le _, rfl, rfl⟩
  case round =>
    obtain ⟨k, q, hk, rfl, rfl⟩ := hrel
    by_cases hkn : k < n0
    · have hki : (k : Int) < (n0 : Int) := by omega
      have hkl : k < zT.length := by rw [HLn.out.1]; exact hkn
      obtain ⟨b, o, rfl, e1⟩ := HN.out.1.1.get k hkl
      obtain ⟨b', o', rfl, e2⟩ := HN.out.2.1.get k hkl
      generalize zT[k] = x at *
      have hxx : ((x : Int) != (x : Int)) = false := by simp
      go_wp2
      go_quiet (fail)
      go_wp2
      go_roundw
      case rel => exact ⟨k + 1, q + nq, by omega, by go_num, by first | rfl | rw [World.drewN_drewN]⟩
      case measure => simp [intOf]; omega
    · obtain rfl : k = n0 := by omega
      have hki : ¬ (k : Int) < (k : Int) := by omega
      go_wp2
      go_loopw [6] (CntR n1 w2) (fun i _ => n1 - (intOf i).toNat)
      case atStart => exact ⟨0, q, Nat.zero_le _, rfl, rfl⟩
      case round =>
        obtain ⟨k1, qq, hk1, rfl, rfl⟩ := hrel
        by_cases hkn : k1 < n1
        · have hki : (k1 : Int) < (n1 : Int) := by omega
          have hkl : k1 < zM.length := by rw [HLn.out.2.1]; exact hkn
          obtain ⟨b, o, rfl, e1⟩ := HN.out.1.2.1.get k1 hkl
          obtain ⟨b', o', rfl, e2⟩ := HN.out.2.2.1.get k1 hkl
          generalize zM[k1] = x at *
          have hxx : ((x : Int) != (x : Int)) = false := by simp
          go_wp2
          go_quiet (fail)
          go_wp2
          go_roundw
          case rel => exact ⟨k1 + 1, qq + nq, by omega, by go_num, by first | rfl | rw [World.drewN_drewN]⟩
          case measure => simp [intOf]; omega
        · obtain rfl : k1 = n1 := by omega
          have hki : ¬ (k1 : Int) < (k1 : Int) := by omega
          go_wp2
          go_loopw [7] (CntR n2 w2) (fun i _ => n2 - (intOf i).toNat)
          case atStart => exact ⟨0, qq, Nat.zero_le _, rfl, rfl⟩
          case round =>
            obtain ⟨k2, q3, hk2, rfl, rfl⟩ := hrel
            by_cases hkn : k2 < n2
            · have hki : (k2 : Int) < (n2 : Int) := by omega
              have hkl : k2 < zL.length := by rw [HLn.out.2.2]; exact hkn
              obtain ⟨b, o, rfl, e1⟩ := HN.out.1.2.2.get k2 hkl
              obtain ⟨b', o', rfl, e2⟩ := HN.out.2.2.2.get k2 hkl
              generalize zL[k2] = x at *
              have hxx : (x != x) = false := by simp
              go_wp2
              go_quiet (fail)
              go_wp2
              go_roundw
              case rel => exact ⟨k2 + 1, q3 + nq, by omega, by go_num, by first | rfl | rw [World.drewN_drewN]⟩
              case measure => simp [intOf]; omega
            · obtain rfl : k2 = n2 := by omega
              have hki : ¬ (k2 : Int) < (k2 : Int) := by omega
              go_wp2
              go_ret
              exact ⟨rfl, below_drewN HB.out _⟩
end Go.Proofs.Ytabbabkmojaoaaa

/-
  The walk of 'Fill' over a bound method (numbers of eight bits).
-/
namespace Go.Proofs.Ytabbabkmojaoaaa
open Go.RowKit

set_option maxRecDepth 100000 in
set_option maxHeartbeats 1600000 in
theorem Fill8b_walk (cf : Nat) (ob : Value) (w : World) (f : Nat → Int) (J : Nat → World → Prop) (eg : ∀ args W, (callFunc cf args).run Try.prog W = .ok (.enter cf args) W)
    (hJ : ∀ k W W', J k W → Below w.heap.size W W' → J k W')
    (hcall : ∀ k W, k < 1114112 → J k W → w.heap.size ≤ W.heap.size → Calls Try.prog cf #[ob, .int .i32 (k : Nat)] W fun e W' => e = .returned (val8 (f k)) ∧ J (k + 1) W' ∧ Keeps w.heap.size W W')
    (h0 : J 0 w) :
    Calls Try.prog 36 #[.func (.func cf) #[ob] #[]] w fun e w' => ∃ g, e = .returned (.pointer (some ⟨g, 0, none⟩)) ∧ w.heap.size ≤ g ∧
      (∃ am cm al cl, MkAt val8 1 135 114 120 119 w' g (mkF f 17408) (mkF f 17408).lows (mkF f 17408).mids am cm al cl) ∧ J 1114112 w' := by
  have HJ := Lib.hid hJ; clear hJ
  have HCl := Lib.hid hcall; clear hcall
  have H0 := Lib.hid h0; clear h0
  have HEg := Lib.hid eg; clear eg
  have qF := fun (w : World) (cs : Array Value) => run_eql_func_nil (P := Try.prog) w 37 (.func cf) #[ob] cs _ _ _ Try.underlying37
  go_enter Try.func36, Try.ntmps36
  go_wp2_with fail
  refine (begin8_walk w).mono ?_
  rintro e w1 ⟨rfl, hm, hb⟩
  have HM1 := Lib.hid hm
  have HB1 := Lib.hid hb; clear hm hb
  obtain ⟨g, hg⟩ : ∃ g, g = w.heap.size := ⟨_, rfl⟩
  rw [← hg] at HM1 ⊢
  have hgs : g + 4 ≤ w1.heap.size := HM1.out.lt
  have HG := Lib.hid hg
  rw [← hg] at HB1
  go_upto_region 5 with (fail)
  change Code.wp _ _ _ _ (w1.alloc (.cells (blkC val8 (List.replicate 64 0)).toArray 119))
  obtain ⟨w2, hw2⟩ : ∃ w2, w2 = w1.alloc (.cells (blkC val8 (List.replicate 64 0)).toArray 119) := ⟨_, rfl⟩
  have HB2 : Hid (Below w1.heap.size w1 w2) := Lib.hid (by rw [hw2]; exact (Below.refl _ _).alloc (Nat.le_refl _) _)
  have HC2 : Hid (w2.heap[w1.heap.size]? = some (.cells (blkC val8 (List.replicate 64 0)).toArray 119 (0, 0))) := Lib.hid (by rw [hw2]; exact heap_alloc_new w1 _)
  rw [← hw2]
  clear hw2
  obtain ⟨bB, hbB⟩ : ∃ bB, bB = w1.heap.size := ⟨_, rfl⟩
  have HM2 := Lib.hid (HM1.out.below HB2.out)
  rw [← hbB] at HC2 hgs ⊢
  have HW02 := Lib.hid (HB1.out.trans (HB2.out.mono (by have := HB1.out.size; have := HG.out; omega)))
  have HJ2 := Lib.hid (HJ.out 0 w w2 H0.out (by rw [← HG.out]; exact HW02.out))
  clear hbB HM1 HB1 HB2 hg
  rw [← HG.out] at HCl HJ ⊢
  go_wp2
  go_loopw [5] (FilR g f J g bB) (fun i _ => 1114112 - (intOf i).toNat)
  case atStart =>
    exact ⟨0, List.replicate 64 0, none, 0, none, 0, Nat.zero_le _, rfl, List.length_replicate, fun j hj => by omega, HC2.out, HM2.out, HJ2.out, fun k hk => by rcases hk with hk | hk <;> cases hk⟩
  case round =>
    obtain ⟨r, bc, am, cm, al, cl, hr, rfl, hbl, hbc, hcell, hmk, hj, hdis⟩ := hrel
    have HBc := Lib.hid hbc; clear hbc
    have HCe := Lib.hid hcell; clear hcell
    have HMk := Lib.hid hmk; clear hmk
    have HJr := Lib.hid hj; clear hj
    have HDi := Lib.hid hdis; clear hdis
    by_cases hrN : r < 1114112
    · have hri : (r : Int) ≤ 1114111 := by omega
      have i1 : (0 : Int) ≤ (r : Int) % 64 := by omega
      have i2 : (r : Int) % 64 < 64 := by omega
      have heg := HEg.out
      go_wp2_with fail
      refine (HCl.out r wr hrN HJr.out (by have := HMk.out.lt; omega)).mono ?_
      rintro e w5 ⟨rfl, hj5, hk5⟩
      have HM5 := Lib.hid (Keeps.mkAt g hk5 (Nat.le_refl g) HMk.out)
      have hbBl : bB < wr.heap.size := (Array.getElem?_eq_some_iff.1 HCe.out).1
      have HC5 := Lib.hid ((hk5.block bB (by omega) hbBl).trans HCe.out)
      have HJ5 := Lib.hid hj5; clear hj5
      have hs5 := hk5.size
      clear hk5
      obtain ⟨v1, q1⟩ : ∃ v, w5.cell? ⟨bB, r % 64, none⟩ = some v := by
        rw [cell_of_row w5 bB (r % 64) _ _ (0, 0) HC5.out, blkC8_map]
        exact ⟨_, by rw [List.getElem?_toArray, List.getElem?_map, List.getElem?_eq_getElem (by omega)]; rfl⟩
      have f1 := frozen_of_row w5 bB (r % 64) _ _ HC5.out
      have HC6 : Hid ((w5.setCell ⟨bB, r % 64, none⟩ (val8 (f r))).heap[bB]? = some (.cells (blkC val8 (bc.set (r % 64) (f r))).toArray 119 (0, 0))) := Lib.hid (by
        rw [heap_setCell_same w5 bB (r % 64) _ _ (val8 (f r)) HC5.out, blkC8_map, blkC8_map, List.map_set]
        simp)
      have HB6 : Hid (Below g w5 (w5.setCell ⟨bB, r % 64, none⟩ (val8 (f r)))) := Lib.hid ((Below.refl g w5).setCell (p := ⟨bB, r % 64, none⟩) (by show g ≤ bB; omega) _)
      have HM6 : Hid (MkAt val8 1 135 114 120 119 (w5.setCell ⟨bB, r % 64, none⟩ (val8 (f r))) g (mkF f (r / 64)) (mkF f (r / 64)).lows (mkF f (r / 64)).mids am cm al cl) := Lib.hid (by
        have hm := HM5.out
        have oth : ∀ k, k ≠ bB → (w5.setCell ⟨bB, r % 64, none⟩ (val8 (f r))).heap[k]? = w5.heap[k]? := fun k hk => heap_setCell_other w5 ⟨bB, r % 64, none⟩ k _ hk
        refine ⟨(oth _ (by omega)).trans hm.mk_, (oth _ (by omega)).trans hm.tr, ?_, ?_, hm.ap, (oth _ (by omega)).trans hm.lm, (oth _ (by omega)).trans hm.mm_⟩
        · exact hm.rm.kept (grown_store w5 bB (r % 64) _) (by
            cases e : (Value.slice am (mkF f (r / 64)).mids.length cm).ownBlock with
            | none => exact .inl rfl
            | some k => exact .inr (fun e2 => by cases e2; exact HDi.out bB (.inl e) rfl))
        · exact hm.rl.kept (grown_store w5 bB (r % 64) _) (by
            cases e : (Value.slice al (mkF f (r / 64)).lows.length cl).ownBlock with
            | none => exact .inl rfl
            | some k => exact .inr (fun e2 => by cases e2; exact HDi.out bB (.inr e) rfl)))
      have HJ6 := Lib.hid (HJ.out (r + 1) w5 _ HJ5.out HB6.out)
      have hl6 : bB < (w5.setCell ⟨bB, r % 64, none⟩ (val8 (f r))).heap.size := (Array.getElem?_eq_some_iff.1 HC6.out).1
      have HBs : Hid (∀ j, j < r % 64 + 1 → (bc.set (r % 64) (f r))[j]? = some (f (64 * (r / 64) + j))) := Lib.hid (fun j hj => by
        by_cases h : r % 64 = j
        · subst h
          rw [List.getElem?_set_self (by omega)]
          rw [show 64 * (r / 64) + r % 64 = r by omega]
        · rw [List.getElem?_set_ne h]
          exact HBc.out j (by omega))
      have hbl6 : (bc.set (r % 64) (f r)).length = 64 := by simpa using hbl
      generalize hw6 : w5.setCell ⟨bB, r % 64, none⟩ (val8 (f r)) = w6 at *
      unfold val8 at hw6
      generalize bc.set (r % 64) (f r) = bc6 at *
      unfold val8
      by_cases h63 : (r : Int) % 64 = 63
      · have h63' : ((r : Int) % 64 == 63) = true := beq_iff_eq.2 h63
        have HRn := Lib.hid h63; clear h63
        obtain ⟨hk1, hk2, hk3, hk4⟩ := mkF_ok f (r / 64)
        have HKf := Lib.hid hk1
        have hq : r / 64 < 17408 := by omega
        have hbf : bc6 = blkF f (r / 64) := by
          apply List.ext_getElem?
          intro j
          have h3 := HRn.out
          by_cases hj : j < 64
          · rw [HBs.out j (by omega)]
            simp [blkF, hj]
          · rw [List.getElem?_eq_none (by omega), List.getElem?_eq_none (by rw [blkF_length]; omega)]
        have HBf := Lib.hid hbf; clear hbf
        have hbs6 : (blkC val8 bc6).length = 64 := by rw [blkC_length (sz := 1) (fun _ => rfl), hbl6]
        have HR6 : Hid (w6.rangeAt bB 0 (blkC val8 bc6)) := Lib.hid (by
          have := World.rangeAt_of_block HC6.out 0 (blkC val8 bc6).length
          simpa using this)
        go_upto_region 10 with (fail)
        refine wp_region_list ?_
        refine wpList_val (v := .pointer (some ⟨g + 3, 0, none⟩)) (w' := w6) rfl (by rfl) ?_
        refine wpList_load_mid rfl 119 (.tmp 4) rfl bB 0 rfl (blkC val8 bc6) (.array 64 5) HR6.out Try.underlying119 rfl (by rw [hbs6]; kernel_rfl) ?_
        go_wp2_with fail
        rw [HBf.out]
        refine (add8_walk w6 g (mkF f (r / 64)) (blkF f (r / 64)) am cm al cl HKf.out (blkF_length _ _) (by omega) (by omega) (by omega) HM6.out).mono ?_
        rintro e w7 ⟨rfl, am', cm', al', cl', hm7, ha7⟩
        have hB7 := ha7.to_below (fun k e => by rw [← ob_eq am (mkF f (r / 64)).mids.length cm] at e; have := (World.ownsRow.lt HM6.out.rm k e).1; omega) (fun k e => by rw [← ob_eq al (mkF f (r / 64)).lows.length cl] at e; have := (World.ownsRow.lt HM6.out.rl k e).1; omega) (by omega)
        have HJ7 := Lib.hid (HJ.out (r + 1) w6 w7 HJ6.out hB7)
        have HC7 := Lib.hid ((ha7.oth bB hl6 (by omega) (fun e => HDi.out bB (.inl (by rw [ob_eq]; exact e)) rfl) (fun e => HDi.out bB (.inr (by rw [ob_eq]; exact e)) rfl)).trans HC6.out)
        have HM7 := Lib.hid hm7
        have HDi7 : Hid (∀ k, (Value.slice am' (mkF f (r / 64 + 1)).mids.length cm').ownBlock = some k ∨ (Value.slice al' (mkF f (r / 64 + 1)).lows.length cl').ownBlock = some k → k ≠ bB) := Lib.hid (fun k hk => by
          rw [ob_eq, ob_eq] at hk
          rcases hk with hk | hk
          · rcases ha7.na k hk with h | h
            · exact HDi.out k (.inl (by rw [ob_eq]; exact h))
            · omega
          · rcases ha7.nl k hk with h | h
            · exact HDi.out k (.inr (by rw [ob_eq]; exact h))
            · omega)
        clear hm7 ha7 hB7 hk1 hk2 hk3 hk4
        go_wp2
        go_roundw
        case rel =>
          have h3 := HRn.out
          refine ⟨r + 1, bc6, am', cm', al', cl', by omega, by go_num, hbl6, fun j hj => by omega, HC7.out, ?_, HJ7.out, ?_⟩
          · rw [show (r + 1) / 64 = r / 64 + 1 by omega]
            exact HM7.out
          · rw [show (r + 1) / 64 = r / 64 + 1 by omega]
            exact HDi7.out
        case measure => simp [intOf]; omega
      · have h63' : ((r : Int) % 64 == 63) = false := beq_false_of_ne h63
        have HRn := Lib.hid h63; clear h63
        go_wp2
        go_roundw
        case rel =>
          have h3 := HRn.out
          refine ⟨r + 1, bc6, am, cm, al, cl, by omega, by go_num, hbl6, fun j hj => ?_, HC6.out, ?_, HJ6.out, ?_⟩
          · rw [show (r + 1) / 64 = r / 64 by omega]
            exact HBs.out j (by omega)
          · rw [show (r + 1) / 64 = r / 64 by omega]
            exact HM6.out
          · rw [show (r + 1) / 64 = r / 64 by omega]
            exact HDi.out
        case measure => simp [intOf]; omega
    · have hr2 : r = 1114112 := by omega
      have hri : ¬ (r : Int) ≤ 1114111 := by omega
      have hq : r / 64 = 17408 := by omega
      have HM8 : Hid (MkAt val8 1 135 114 120 119 wr g (mkF f 17408) (mkF f 17408).lows (mkF f 17408).mids am cm al cl) := Lib.hid (by rw [← hq]; exact HMk.out)
      have HJ8 : Hid (J 1114112 wr) := Lib.hid (by rw [← hr2]; exact HJr.out)
      clear hr2 hq
      have c0 := HM8.out.c_t
      go_wp2
      go_ret
      exact ⟨g, rfl, by rw [← HG.out]; exact Nat.le_refl _, ⟨am, cm, al, cl, HM8.out⟩, HJ8.out⟩
end Go.Proofs.Ytabbabkmojaoaaa

/-
  Plain laws: a function built of its own stretches; spans turned round.
-/
namespace Go.Proofs.Ytabbabkmojaoaaa

/-- stretches that lie one behind the other, from a up to b, and tell f -/
def Tile (f : Nat → Int) : List (Stretch Int) → Nat → Nat → Prop
  | [], a, b => a = b
  | s :: l, a, b => s.f = a ∧ s.f ≤ s.t ∧ (∀ r, s.f ≤ r → r ≤ s.t → f r = s.v) ∧ Tile f l (s.t + 1) b
theorem tile_snoc {f : Nat → Int} : ∀ {l : List (Stretch Int)} {a b : Nat} {s : Stretch Int}, Tile f l a b → s.f = b → s.f ≤ s.t → (∀ r, s.f ≤ r → r ≤ s.t → f r = s.v) → Tile f (l ++ [s]) a (s.t + 1)
  | [], a, b, s, h, h1, h2, h3 => ⟨by rw [h1]; exact (show a = b from h).symm, h2, h3, rfl⟩
  | x :: l, a, b, s, ⟨k1, k2, k3, k4⟩, h1, h2, h3 => ⟨k1, k2, k3, tile_snoc k4 h1 h2 h3⟩
theorem tile_le {f : Nat → Int} : ∀ {l : List (Stretch Int)} {a b : Nat}, Tile f l a b → a ≤ b
  | [], a, b, h => Nat.le_of_eq h
  | x :: l, a, b, ⟨k1, k2, k3, k4⟩ => by have := tile_le k4; omega
theorem tile_mem {f : Nat → Int} : ∀ {l : List (Stretch Int)} {a b : Nat}, Tile f l a b → ∀ s ∈ l, a ≤ s.f ∧ s.f ≤ s.t ∧ s.t < b ∧ (∀ r, s.f ≤ r → r ≤ s.t → f r = s.v)
  | [], a, b, h, s, hs => by simp at hs
  | x :: l, a, b, ⟨k1, k2, k3, k4⟩, s, hs => by
    rcases List.mem_cons.1 hs with rfl | hs
    · have := tile_le k4
      exact ⟨by omega, k2, by omega, k3⟩
    · have := tile_mem k4 s hs
      exact ⟨by omega, this.2⟩
theorem tile_has {f : Nat → Int} : ∀ {l : List (Stretch Int)} {a b : Nat}, Tile f l a b → ∀ r, a ≤ r → r < b → ∃ s ∈ l, s.f ≤ r ∧ r ≤ s.t
  | [], a, b, h, r, h1, h2 => by have : a = b := h; omega
  | x :: l, a, b, ⟨k1, k2, k3, k4⟩, r, h1, h2 => by
    by_cases h : r ≤ x.t
    · exact ⟨x, by simp, by omega, h⟩
    · obtain ⟨s, hs, h3⟩ := tile_has k4 r (by omega) h2
      exact ⟨s, by simp [hs], h3⟩
theorem tile_apart {f : Nat → Int} : ∀ {l : List (Stretch Int)} {a b : Nat}, Tile f l a b → l.Pairwise (fun s t => s.t < t.f)
  | [], a, b, h => List.Pairwise.nil
  | x :: l, a, b, ⟨k1, k2, k3, k4⟩ => List.Pairwise.cons (fun s hs => by have := tile_mem k4 s hs; omega) (tile_apart k4)
theorem tile_spT (f : Nat → Int) (n : Nat) (hn : n ≠ 0) : Tile f (spT neV f n).1 0 (spT neV f n).2 ∧ ∀ r, (spT neV f n).2 ≤ r → r < n → f r = f (spT neV f n).2 := by
  induction n with
  | zero => exact absurd rfl hn
  | succ n ih =>
    by_cases h0 : n = 0
    · subst h0
      rw [spT_one]
      exact ⟨rfl, fun r _ h => by rw [show r = 0 by omega]⟩
    · obtain ⟨h1, h2⟩ := ih h0
      have hlt := spT_lt neV f n h0
      by_cases h : neV (f n) (f (spT neV f n).2) = true
      · rw [spT_cut h0 h]
        refine ⟨?_, fun r h3 h4 => by rw [show r = n by omega]⟩
        have := tile_snoc (s := ⟨(spT neV f n).2, n - 1, f (spT neV f n).2⟩) h1 rfl (by show (spT neV f n).2 ≤ n - 1; omega) (fun r h3 h4 => h2 r h3 (by have : r ≤ n - 1 := h4; omega))
        rwa [show n - 1 + 1 = n by omega] at this
      · rw [spT_on h0 h]
        refine ⟨h1, fun r h3 h4 => ?_⟩
        by_cases e : r = n
        · rw [e]
          have : ¬ (f n != f (spT neV f n).2) = true := h
          simpa using this
        · exact h2 r h3 (by omega)
theorem tile_spL (f : Nat → Int) (n : Nat) (hn : n ≠ 0) : Tile f (spL neV f n) 0 n := by
  obtain ⟨h1, h2⟩ := tile_spT f n hn
  have hlt := spT_lt neV f n hn
  have := tile_snoc (s := ⟨(spT neV f n).2, n - 1, f (spT neV f n).2⟩) h1 rfl (by show (spT neV f n).2 ≤ n - 1; omega) (fun r h3 h4 => h2 r h3 (by have : r ≤ n - 1 := h4; omega))
  rwa [show n - 1 + 1 = n by omega] at this

/-! ### spans -/
def spD (s : Stretch Int) : SpanD := ⟨s.f, s.t, s.v⟩
def Apart (l : List SpanD) : Prop := l.Pairwise (fun s t => ∀ x : Int, ¬ (hasS x s = true ∧ hasS x t = true))
theorem ownF_some {l : List SpanD} {x : Int} (h : ownF l x ≠ 0) : ∃ i, ∃ h : i < l.length, hasS x l[i] = true ∧ ownF l x = (i : Int) + 1 := by
  unfold ownF at h ⊢
  cases e : l.findIdx? (hasS x) with
  | none => rw [e] at h; exact absurd rfl h
  | some i =>
    obtain ⟨hi, h1, -⟩ := List.findIdx?_eq_some_iff_getElem.1 e
    exact ⟨i, hi, h1, rfl⟩
theorem apart_iff (l : List SpanD) : (∀ j, j < l.length → ¬ meetS l j) ↔ Apart l := by
  unfold Apart
  rw [List.pairwise_iff_getElem]
  constructor
  · intro h i j hi hj hij x ⟨h1, h2⟩
    refine h j hj ⟨x, by simpa [hj] using h2, fun e => ?_⟩
    have hit : i < (l.take j).length := by rw [List.length_take]; omega
    unfold ownF at e
    cases e2 : (l.take j).findIdx? (hasS x) with
    | none =>
      have := List.findIdx?_eq_none_iff.1 e2 (l.take j)[i] (List.getElem_mem hit)
      rw [List.getElem_take, h1] at this
      cases this
    | some k => rw [e2] at e; simp only at e; omega
  · rintro h j hj ⟨x, h1, h2⟩
    obtain ⟨i, hi, h3, -⟩ := ownF_some h2
    rw [List.length_take] at hi
    rw [List.getElem_take] at h3
    exact h i j (by omega) hj (by omega) x ⟨h3, by simpa [hj] using h1⟩
theorem fS_mem {rest : Int} {l : List SpanD} (ha : Apart l) {r : Nat} {s : SpanD} (hs : s ∈ l) (h : hasS (r : Nat) s = true) : fS rest l r = s.v := by
  have h0 : ownF l (r : Nat) ≠ 0 := fun e => by
    unfold ownF at e
    cases e2 : l.findIdx? (hasS (r : Nat)) with
    | none => have := List.findIdx?_eq_none_iff.1 e2 s hs; rw [h] at this; cases this
    | some k => rw [e2] at e; simp only at e; omega
  obtain ⟨i, hi, h1, h2⟩ := ownF_some h0
  unfold fS
  rw [if_neg h0, h2, show ((i : Int) + 1 - 1).toNat = i by omega]
  obtain ⟨j, hj, rfl⟩ := List.mem_iff_getElem.1 hs
  have : i = j := by
    rcases Nat.lt_trichotomy i j with h3 | h3 | h3
    · exact absurd ⟨h1, h⟩ (List.pairwise_iff_getElem.1 ha i j hi hj h3 (r : Nat))
    · exact h3
    · exact absurd ⟨h, h1⟩ (List.pairwise_iff_getElem.1 ha j i hj hi h3 (r : Nat))
  subst this
  simp [hi]
theorem fS_out {rest : Int} {l : List SpanD} {r : Nat} (h : ∀ s ∈ l, ¬ hasS (r : Nat) s = true) : fS rest l r = rest := by
  have h0 : ownF l (r : Nat) = 0 := by
    unfold ownF
    rw [List.findIdx?_eq_none_iff.2 (fun s hs => by have := h s hs; simpa using this)]
  unfold fS
  rw [if_pos h0]
theorem apart_rev {l : List SpanD} (h : Apart l) : Apart l.reverse := by
  unfold Apart at h ⊢
  rw [List.pairwise_reverse]
  exact h.imp (fun h x hx => h x ⟨hx.2, hx.1⟩)
theorem okS_rev {l : List SpanD} (h : okS l) : okS l.reverse := by
  obtain ⟨h1, h2⟩ := h
  refine ⟨fun j hj => ?_, (apart_iff _).2 (apart_rev ((apart_iff l).1 h2))⟩
  have hm : l.reverse[j] ∈ l := List.mem_reverse.1 (List.getElem_mem hj)
  obtain ⟨i, hi, e⟩ := List.mem_iff_getElem.1 hm
  have := h1 i hi
  rw [show l.reverse.getD j default = l.getD i default by simp [hi, ← e, List.getD_eq_getElem?_getD, List.getElem?_eq_getElem hj]]
  exact this
theorem fS_rev (rest : Int) {l : List SpanD} (h : okS l) (r : Nat) : fS rest l.reverse r = fS rest l r := by
  have ha := (apart_iff l).1 h.2
  by_cases hh : ∃ s ∈ l, hasS (r : Nat) s = true
  · obtain ⟨s, hs, h1⟩ := hh
    rw [fS_mem ha hs h1, fS_mem (apart_rev ha) (List.mem_reverse.2 hs) h1]
  · rw [fS_out (fun s hs e => hh ⟨s, hs, e⟩), fS_out (fun s hs e => hh ⟨s, List.mem_reverse.1 hs, e⟩)]
def toldL (f : Nat → Int) (N : Nat) : List SpanD := (spL neV f N).map spD
theorem told_ok (f : Nat → Int) (N : Nat) (hN : N = 1114112) : okS (toldL f N) := by
  have ht := tile_spL f N (by omega)
  refine ⟨fun j hj => ?_, (apart_iff _).2 ?_⟩
  · unfold toldL at hj ⊢
    rw [List.length_map] at hj
    have := tile_mem ht _ (List.getElem_mem hj)
    have e : ((spL neV f N).map spD).getD j default = spD (spL neV f N)[j] := by simp [List.getD_eq_getElem?_getD, hj]
    rw [e]
    unfold badS spD
    simp only
    omega
  · unfold Apart toldL
    rw [List.pairwise_map]
    refine (tile_apart ht).imp (fun {s t} h x hx => ?_)
    have h1 := of_decide_eq_true hx.1
    have h2 := of_decide_eq_true hx.2
    simp only [spD] at h1 h2
    omega
theorem told_fS (other : Int) (f : Nat → Int) (N : Nat) (hN : N = 1114112) (r : Nat) (hr : r ≤ 1114111) : fS other (toldL f N) r = f r := by
  have ht := tile_spL f N (by omega)
  obtain ⟨s, hs, h1, h2⟩ := tile_has ht r (Nat.zero_le _) (by omega)
  rw [fS_mem (s := spD s) ((apart_iff _).1 (told_ok f N hN).2) (List.mem_map.2 ⟨s, hs, rfl⟩) (decide_eq_true (by simp only [spD]; omega))]
  exact ((tile_mem ht s hs).2.2.2 r h1 h2).symm
theorem told_len (f : Nat → Int) (N : Nat) (hN : N ≠ 0) : (spL neV f N).length ≤ N := by
  have : ∀ n, n ≠ 0 → (spT neV f n).1.length ≤ (spT neV f n).2 := by
    intro n
    induction n with
    | zero => intro h; exact absurd rfl h
    | succ n ih =>
      intro _
      by_cases h0 : n = 0
      · subst h0; rw [spT_one]; exact Nat.le_refl _
      · have := ih h0
        have hlt := spT_lt neV f n h0
        by_cases h : neV (f n) (f (spT neV f n).2) = true
        · rw [spT_cut h0 h]; simp only [List.length_append, List.length_singleton]; omega
        · rw [spT_on h0 h]; exact this
  have h1 := this N hN
  have h2 := spT_lt neV f N hN
  unfold spL
  rw [List.length_append, List.length_singleton]
  omega
end Go.Proofs.Ytabbabkmojaoaaa

/-
  TrieBack: what the walk stands on (the list of what was told; parts of a trie; a build that goes well).
-/
namespace Go.Proofs.Ytabbabkmojaoaaa
open Go.RowKit

theorem Build8_any3 (rest : Int) (a : Option Addr) (n c : Nat) (l : List SpanD) (w : World) (hl : l.length = n) (hn : n ≤ 2097152) (hs : SpansAt w a l) (hwf : ∀ s ∈ l, -2147483648 ≤ s.f ∧ s.f ≤ 2147483647 ∧ -2147483648 ≤ s.t ∧ s.t ≤ 2147483647) (hok : okS l) :
    Calls Try.prog 14 #[.int .u8 rest, .slice a n c] w fun e w' => ∃ g S, e = .returned (.tuple #[.pointer (some ⟨g, 0, none⟩), .int .i64 0, .int .i64 0]) ∧ Below w.heap.size w w' ∧ Made8 (fS rest l) S ∧ TrieAt val8 114 64 w' g (trieS S) := by
  refine (Build8_walkB rest a n c l w hl hn hs hwf).mono ?_
  intro e w' hq
  obtain ⟨hb, hq⟩ := bldQ_of hq
  rcases hq with ⟨i, hi, h1, -, rfl⟩ | ⟨-, k, hk, h1, -, rfl⟩ | ⟨h1, h2, g, S, rfl, -, hS, hT⟩
  · exact absurd h1 (hok.1 i hi)
  · exact absurd h1 (hok.2 k hk)
  · exact ⟨g, S, rfl, hb, hS, hT⟩
theorem told_wf (f : Nat → Int) (N : Nat) (hN : N = 1114112) : ∀ s ∈ toldL f N, -2147483648 ≤ s.f ∧ s.f ≤ 2147483647 ∧ -2147483648 ≤ s.t ∧ s.t ≤ 2147483647 := by
  intro s hs
  obtain ⟨t, ht, rfl⟩ := List.mem_map.1 hs
  have h := tile_mem (tile_spL f N (by omega)) t ht
  simp only [spD]
  omega
theorem Own.nums {B : Nat} {E : TypeId} {w : World} {a : Option Addr} {n c : Nat} {zs : List Nat} (h : Own B E w a n c (zs.map num16)) : NumsAt w a zs := by
  intro i hi
  have hl := h.len
  rw [List.length_map] at hl
  obtain ⟨g, rfl, -⟩ := h.at (by omega)
  refine ⟨g, 0, rfl, ?_⟩
  rw [Nat.zero_add]
  rw [h.cell i (by simpa using hi), List.getElem_map]
theorem Own.bytes {B : Nat} {E : TypeId} {w : World} {a : Option Addr} {n c : Nat} {zs : List Int} (h : Own B E w a n c (zs.map val8)) : RowAt w a zs := by
  intro i hi
  have hl := h.len
  rw [List.length_map] at hl
  obtain ⟨g, rfl, -⟩ := h.at (by omega)
  refine ⟨g, 0, rfl, ?_⟩
  rw [Nat.zero_add]
  rw [h.cell i (by simpa using hi), List.getElem_map]
theorem flatV_map {α : Type} (val : α → Value) (L : List (List α)) : flatV val L = L.flatten.map val := by
  induction L with
  | nil => rfl
  | cons x L ih => rw [flatV, List.flatMap_cons, ← flatV, ih, List.flatten_cons, List.map_append]
/-- what the parts of a made trie are -/
def PartsAt (w : World) (S : MkS Int) (v : Value) : Prop :=
  ∃ at_ ct am cm al cl, v = .agg #[.slice at_ 272 ct, .slice am (64 * S.mids.length) cm, .slice al (64 * S.lows.length) cl] ∧ (272 ≤ ct ∧ ct ≤ maxLen) ∧ (64 * S.mids.length ≤ cm ∧ cm ≤ maxLen) ∧ (64 * S.lows.length ≤ cl ∧ cl ≤ maxLen) ∧
    NumsAt w at_ S.top ∧ NumsAt w am S.mids.flatten ∧ RowAt w al S.lows.flatten
theorem PartsAt.below {w w' : World} {S : MkS Int} {v : Value} (h : PartsAt w S v) (hb : Below w.heap.size w w') : PartsAt w' S v := by
  obtain ⟨at_, ct, am, cm, al, cl, h1, h2, h3, h4, h5, h6, h7⟩ := h
  exact ⟨at_, ct, am, cm, al, cl, h1, h2, h3, h4, h5.below hb, h6.below hb, h7.below hb⟩
theorem parts_at (w : World) (g : Nat) (f : Nat → Int) (S : MkS Int) (hS : Made8 f S) (h : TrieAt val8 114 64 w g (trieS S)) :
    Calls Try.prog 44 #[.pointer (some ⟨g, 0, none⟩)] w fun e w' => ∃ v, e = .returned v ∧ PartsAt w' S v ∧ Below w.heap.size w w' := by
  refine (Parts8_walk w g (trieS S) hS.trie hS.pos.1 h).mono ?_
  rintro e w' ⟨at_, ct, am, cm, al, cl, rfl, h1, h2, h3, hb⟩
  rw [flatV_map] at h2 h3
  exact ⟨_, rfl, ⟨at_, ct, am, cm, al, cl, rfl, h1.cap, h2.cap, h3.cap, h1.nums, h2.nums, h3.bytes⟩, hb⟩
theorem parts_eq (w : World) (f : Nat → Int) (S : MkS Int) (hS : Made8 f S) (u v : Value) (hu : PartsAt w S u) (hv : PartsAt w S v) :
    Calls Try.prog 58 #[u, v] w fun e w' => e = .returned (.bool true) ∧ Below w.heap.size w w' := by
  obtain ⟨at_, ct, am, cm, al, cl, rfl, -, -, -, h1, h2, h3⟩ := hu
  obtain ⟨bt, dt, bm, dm, bl, dl, rfl, -, -, -, k1, k2, k3⟩ := hv
  have hm := flat_len S.mids hS.made.ok.mid
  have hl := flat_len S.lows hS.made.ok.low
  have h4 := hS.ml
  have h5 := hS.ll
  exact parts_same w at_ am al bt bm bl 272 (64 * S.mids.length) (64 * S.lows.length) ct cm cl dt dm dl S.top S.mids.flatten S.lows.flatten hS.made.ok.top hm hl (by omega) (by omega) (by omega) h1 h2 h3 k1 k2 k3
theorem from_made (w : World) (f : Nat → Int) (S : MkS Int) (hS : Made8 f S) (v : Value) (hv : PartsAt w S v) :
    Calls Try.prog 47 #[v] w fun e w' => ∃ g, e = .returned (.tuple #[.pointer (some ⟨g, 0, none⟩), .int .i64 0]) ∧ Below w.heap.size w w' ∧ TrieAt val8 114 64 w' g (trieS S) := by
  obtain ⟨at_, ct, am, cm, al, cl, rfl, b1, b2, b3, h1, h2, h3⟩ := hv
  have hm := flat_len S.mids hS.made.ok.mid
  have hl := flat_len S.lows hS.made.ok.low
  obtain ⟨k1, k2⟩ := hS.fromOk
  refine (From_walk w at_ am al 272 ct (64 * S.mids.length) cm (64 * S.lows.length) cl S.top S.mids.flatten S.lows.flatten hS.made.ok.top hm hl b1 b2 b3 ?_ ?_ h1 h2 h3).mono ?_
  · intro z hz
    have h1 : z < S.mids.length := hS.trie.topN z hz
    have := hS.ml
    omega
  · intro z hz
    obtain ⟨m, hm, hz⟩ := List.mem_flatten.1 hz
    have h1 : z < S.lows.length := hS.trie.midN m hm z hz
    have := hS.ll
    omega
  · rintro e w' ⟨hb, ⟨rfl, h⟩ | ⟨-, g, rfl, -, ht⟩⟩
    · exact absurd k1 h
    · rw [k2] at ht
      exact ⟨g, rfl, hb, ht⟩
/-- between two rounds: what was told lies in the box -/
structure TdI (w : World) (z bo : Nat) (T : Nat → Prop) (pre : List (Stretch Int)) (W : World) : Prop where
  bel : Below w.heap.size w W
  tn : ∀ k, T k → bo < k ∧ k < W.heap.size
  row : ∃ a c, W.heap[bo]? = some (.cells #[.slice a pre.length c] 22 (0, 0)) ∧ W.ownsRow z 24 3 (.slice a pre.length c) pre.length (flatS (pre.map spD)) ∧ ∀ k, (Value.slice a pre.length c).ownBlock = some k → ¬ T k
  sz : z ≤ W.heap.size
theorem TdI.abide (w : World) (z bo : Nat) (hbo : w.heap.size ≤ bo) : Abide (TdI w z bo) := by
  rintro T T' pre W W' ⟨h1, h2, ⟨a, c, h4, h5, h6⟩, h7⟩ ho hw
  have hl := (Array.getElem?_eq_some_iff.1 h4).1
  refine ⟨h1.trans (ho.below _ h1.size (fun k hk => by have := (h2 k hk).1; omega)), fun k hk => ?_, ⟨a, c, ho.cellsBlock h4 (fun h => Nat.lt_irrefl _ (h2 _ h).1), ownsRow_off h5 ho (fun k e => h6 k e), fun k e ht => ?_⟩, Nat.le_trans h7 ho.size⟩
  · rcases hw k hk with h | h
    · have := h2 k h; have := ho.size; omega
    · omega
  · rcases hw k ht with h | h
    · exact h6 k e h
    · have := (World.ownsRow.lt h5 k e).2; omega
def TdA (p1 v1 : Nat) (tmps : Array Value) (T : Nat → Prop) (x : Stretch Int) (a' : Act) (W : World) : Prop :=
  ∃ B, W.heap[B]? = some (.cells #[.int .i32 (x.f : Nat), .int .i32 (x.t : Nat), .int .u8 x.v] 24 (0, 0)) ∧ ¬ T B ∧
    a' = { tmps := (tmps.setIfInBounds p1 (.agg #[.int .i32 (x.f : Nat), .int .i32 (x.t : Nat), .int .u8 x.v])).setIfInBounds v1 (.pointer (some ⟨B, 0, none⟩)), defers := [] }
theorem TdA.off {p1 v1 : Nat} {tmps : Array Value} {T : Nat → Prop} {x : Stretch Int} {a' : Act} {W W' : World} (h : TdA p1 v1 tmps T x a' W) (ho : Off T W W') : TdA p1 v1 tmps T x a' W' := by
  obtain ⟨B, h1, h2, h3⟩ := h
  exact ⟨B, ho.cellsBlock h1 h2, h2, h3⟩
/-- between two rounds of the loop: the spans turned round so far -/
def TuR (z : Nat) (l : List SpanD) (w0 : World) (tv iv : Value) (wr : World) : Prop :=
  ∃ m, m ≤ l.length ∧ iv = .int .i64 ((m : Int) - 1) ∧ Below z w0 wr ∧ ∃ a c, tv = .slice a (l.length - m) c ∧ wr.ownsRow z 24 3 (.slice a (l.length - m) c) (l.length - m) (flatS (l.reverse.take (l.length - m)))
theorem rev_take (l : List SpanD) (j : Nat) (hj : j < l.length) : l.reverse.take (l.length - j) = l.reverse.take (l.length - (j + 1)) ++ [l[j]] := by
  have e : l.length - j = l.length - (j + 1) + 1 := by omega
  rw [e, List.take_add_one, List.getElem?_reverse (by omega)]
  have e2 : l.length - 1 - (l.length - (j + 1)) = j := by omega
  rw [e2, List.getElem?_eq_getElem hj]
  rfl
end Go.Proofs.Ytabbabkmojaoaaa

/-
  The walk of TrieBack.
-/
namespace Go.Proofs.Ytabbabkmojaoaaa
open Go.RowKit
attribute [local go_sem] Oper.semAt_some

/-- tries of one content -/
def Ts (S : MkS Int) (W : World) (gs : List Nat) : Prop := ∀ k ∈ gs, TrieAt val8 114 64 W k (trieS S)
theorem Ts.below {S : MkS Int} {W W' : World} {gs : List Nat} (h : Ts S W gs) (hb : Below W.heap.size W W') : Ts S W' gs := fun k hk => (h k hk).below hb (Nat.le_refl _)
theorem Ts.push {S : MkS Int} {W : World} {gs : List Nat} (h : Ts S W gs) {k : Nat} (hk : TrieAt val8 114 64 W k (trieS S)) : Ts S W (k :: gs) := fun x hx => by
  rcases List.mem_cons.1 hx with rfl | hx
  · exact hk
  · exact h x hx
/-- between two rounds of the last loop -/
def BkR (w0 : World) (iv : Value) (wr : World) : Prop := ∃ k : Nat, k ≤ 5 ∧ iv = .int .i64 (k : Nat) ∧ Below w0.heap.size w0 wr

set_option maxRecDepth 100000 in
set_option maxHeartbeats 1600000 in
theorem trieBack_walk (rest : Int) (a : Option Addr) (n c : Nat) (l : List SpanD) (other : Int) (w : World) (hl : l.length = n) (hs : SpansAt w a l) (hwf : ∀ s ∈ l, -2147483648 ≤ s.f ∧ s.f ≤ 2147483647 ∧ -2147483648 ≤ s.t ∧ s.t ≤ 2147483647) :
    Calls Try.prog 12 #[.int .u8 rest, .slice a n c, .int .u8 other] w fun e w' => e = .returned (.bool true) ∧ Below w.heap.size w w' := by
  have HL := Lib.hid hl; clear hl
  have HS := Lib.hid hs; clear hs
  have HWf := Lib.hid hwf; clear hwf
  refine calls_of_wpM Try.func12 rfl ?_
  simp only [Try.ntmps12, List.size_toArray, List.length_cons, List.length_nil, Nat.reduceAdd, Nat.reduceSub, Array.replicate_succ, Array.replicate_zero, List.push_toArray, List.append_toArray, List.nil_append, List.cons_append]
  go_wp2_with fail
  refine (awake_walk _).mono ?_
  rintro e w1 ⟨rfl, hb⟩
  have HB1 := Lib.hid hb
  have HS1 := Lib.hid (HS.out.below hb (fun b o e h0 => HS.out.lt b o e h0)); clear hb HS
  by_cases h6 : 60 < n
  · have h6i : (60 : Int) < (n : Int) := by omega
    go_wp2_with fail
    refine (awake_walk _).mono ?_
    rintro e w2 ⟨rfl, hb⟩
    have HB2 := Lib.hid (HB1.out.trans (hb.mono HB1.out.size)); clear hb
    go_wp2
    refine leaves_nil (results_tmp rfl _ _ _) ?_
    exact ⟨rfl, HB2.out⟩
  · have h6i : ¬ (60 : Int) < (n : Int) := by omega
    have hn60 : n ≤ 60 := by omega
    go_wp2_with fail
    refine (Build8_any2 rest a n c l w1 HL.out (by omega) HS1.out HWf.out).mono ?_
    rintro e w2 ⟨tv, at_, er, rfl, hb, hi⟩
    have HS2 := Lib.hid (HS1.out.below hb (fun b o e h0 => HS1.out.lt b o e h0))
    have HSl := Lib.hid (fun b o e h0 => HS1.out.lt b o e h0)
    have HB2 := Lib.hid (HB1.out.trans (hb.mono HB1.out.size)); clear hb HS1 HB1
    rcases hi with ⟨her, rfl, -⟩ | ⟨rfl, hok, g, S, rfl, hS, hT⟩
    · have her' : (er != 0) = true := by simpa using her
      go_wp2_with fail
      refine (awake_walk _).mono ?_
      rintro e w3 ⟨rfl, hb⟩
      have HB3 := Lib.hid (HB2.out.trans (hb.mono HB2.out.size)); clear hb
      go_wp2
      refine leaves_nil (results_tmp rfl _ _ _) ?_
      exact ⟨rfl, HB3.out⟩
    · have HMs := Lib.hid hS; have HOk := Lib.hid hok
      have HT := Lib.hid hT
      clear hT hS hok
      obtain ⟨N, hN⟩ : ∃ N, N = 1114112 := ⟨_, rfl⟩
      have HN := Lib.hid hN; clear hN
      have qF := fun (w : World) (cs : Array Value) => run_eql_func_nil (P := Try.prog) w 83 (.func 88) #[] cs _ _ _ Try.underlying83
      obtain ⟨e1, e2, e3⟩ := box_fact w2 (.slice none 0 0) 22
      have E1 := Lib.hid e1; have E2 := Lib.hid e2; have E3 := Lib.hid e3
      clear e1 e2 e3
      obtain ⟨bo, hbo⟩ : ∃ bo, bo = w2.heap.size := ⟨_, rfl⟩
      have HBo := Lib.hid hbo
      rw [← hbo] at E2 E3
      go_wp2_with fail
      rw [← hbo]
      clear hbo
      generalize w2.alloc (.cells #[.slice none 0 0] 22) = w3 at *
      refine (Spans8_fun (some ⟨g, 0, none⟩) w3).mono ?_
      rintro e w4 ⟨rfl, -, -, hb4⟩
      have HB4 := Lib.hid (E1.out.trans (hb4.mono E1.out.size))
      have HA4 := Lib.hid ((hb4.block bo (by rw [E3.out]; omega)).trans E2.out)
      clear hb4 E1 E2
      go_wp2_with fail
      clear qF
      refine (Spans8_fun (some ⟨g, 0, none⟩) w4).mono ?_
      rintro e w5 ⟨rfl, c5, hz5, hb5⟩
      have HB5 := Lib.hid (HB4.out.trans (hb5.mono HB4.out.size))
      have hbo4 : bo < w4.heap.size := (Array.getElem?_eq_some_iff.1 HA4.out).1
      have HA5 := Lib.hid ((hb5.block bo hbo4).trans HA4.out)
      have HLen := Lib.hid (told_len (lookT 0 (trieS S)) N (by rw [HN.out]; decide))
      have HSt := Lib.hid (spans_stops w2 g (trieS S) HMs.out.trie HMs.out.pos.1 HT.out w4.heap.size (fun k => k < w5.heap.size ∧ k ≠ bo) w5 (lies_below HB5.out) HB5.out.size (fun k hk => ⟨Nat.lt_of_lt_of_le hk HB5.out.size, by have := HBo.out; omega⟩) ⟨by omega, by omega⟩ c5 N HN.out)
      have HI0 : Hid (TdI w2 w5.heap.size bo (fun _ => False) [] w5) := Lib.hid ⟨HB5.out, fun _ h => h.elim, ⟨none, 0, HA5.out, World.ownsRow_nil _ _ _ _, fun k e => by cases e⟩, Nat.le_refl _⟩
      have HZ5 : Hid (w2.heap.size ≤ bo ∧ bo < w5.heap.size) := Lib.hid ⟨by rw [HBo.out]; exact Nat.le_refl _, by omega⟩
      clear hb5 c5 hz5 HA4 HB4
      go_wp2
      refine wp_rangeX (gf := 88) (lb := #[.pointer (some ⟨w4.heap.size, 0, none⟩)]) rfl (enters_of Try.func88 (by kernel_rfl) rfl) HSt.out (Below.refl _ _) (fun k hk => hk.1) (fun _ => rfl)
        (TdI w2 w5.heap.size bo) (fun _ _ _ _ => False) (TdI.abide w2 _ bo HZ5.out.1) (fun _ _ _ _ _ _ h => h.elim) HI0.out
        (TdA 46 12) (fun T x a' W W' h ho => h.off ho) ?assign ?body ?done ?stop
      case stop =>
        rintro D c T pre W - - - h
        exact h.elim
      case assign =>
        rintro lp T pre x W K hi hK
        have HK := Lib.hid hK; clear hK
        simp only [encQ, val8]
        gi_wp2
        refine HK.out _ _ (Kept.of_below ((Below.refl _ W).alloc (Nat.le_refl _) _)) (TdI.abide w2 _ bo HZ5.out.1 _ _ _ _ _ hi (Off.alloc T W _) (Wider.refl _ _ _)) ?_
        exact ⟨W.heap.size, heap_alloc_new W _, fun h => by have := (hi.tn _ h).2; omega, rfl⟩
      case body =>
        rintro lp T pre x a' W hTl hl - ⟨hbel, htn, ⟨a0, c0, hcell, hown, hblk⟩, hsz⟩ ⟨Bx, hBx, hTB, rfl⟩ hlen hsp
        have HBe := Lib.hid hbel; have HTn := Lib.hid htn; have HCe := Lib.hid hcell; have HOw := Lib.hid hown; have HBk := Lib.hid hblk
        have hlen2 : pre.length < 1114112 := by have := HLen.out; have := HN.out; omega
        clear hlen hsp hbel htn hcell hown hblk
        have q0 := cell_of_row W bo 0 _ _ (0, 0) HCe.out
        have r0 := cell_of_row W Bx 0 _ _ (0, 0) hBx
        have r1 := cell_of_row W Bx 1 _ _ (0, 0) hBx
        have r2 := cell_of_row W Bx 2 _ _ (0, 0) hBx
        simp at q0 r0 r1 r2
        gi_wp2_with (gi_at_builtin; refine wpListIn_appN Try.elemSpan rfl (.tmp 47) (.tmp 49) rfl HOw.out hsz (by omega) (by omega) _ rfl (by intro u hu; simp at hu; rcases hu with rfl | rfl | rfl <;> rfl) _ rfl rfl ?_)
        intro a9 c9 w9 ho9 hg9 hn9
        have hne : ∀ k, (Value.slice a0 pre.length c0).ownBlock = some k → w5.heap.size ≤ k ∧ k < W.heap.size := fun k e => World.ownsRow.lt HOw.out k e
        have x9 := (hg9.block bo (Array.getElem?_eq_some_iff.1 HCe.out).1 (fun e => by have := (hne bo e.symm).1; have := HZ5.out; omega)).trans HCe.out
        have q1 := cell_of_row w9 bo 0 _ _ (0, 0) x9
        have f1 := frozen_of_row w9 bo 0 _ _ x9
        have HX9 := Lib.hid (heap_setCell_same w9 bo 0 _ _ (.slice a9 (pre.length + 1) c9) x9)
        have HO9 := Lib.hid ho9; have HG9 := Lib.hid hg9; have HN9 := Lib.hid hn9; have HNe := Lib.hid hne
        clear ho9 hg9 hn9 hne x9 q0 r0 r1 r2
        gi_wp2
        have hlp : (pre ++ [x]).length = pre.length + 1 := by simp
        refine ⟨⟨by simp; exact HG9.out.size, fun k hk h => ?_⟩, ?_, fun k hk => ⟨(HTn.out k hk).1, ?_⟩, ⟨a9, c9, ?_, ?_, ?_⟩, ?_⟩
        · have hkb : k ≠ bo := by
            rcases h with h | h
            · have := (HTn.out k h).1; omega
            · exact h.2
          rw [heap_setCell_other w9 ⟨bo, 0, none⟩ k _ hkb]
          refine HG9.out.block k hk (fun e => ?_)
          have := HNe.out k e.symm
          rcases h with h | h
          · exact HBk.out k e.symm h
          · omega
        · exact (below_bel HBe.out HG9.out (fun k e => by have := (HNe.out k e).1; have := HB5.out.size; omega)).setCell (p := ⟨bo, 0, none⟩) (by show _ ≤ bo; exact HZ5.out.1) _
        · have := (HTn.out k hk).2; have := HG9.out.size; simp; omega
        · rw [hlp]; exact HX9.out
        · rw [hlp, List.map_append, List.map_singleton, flatS_snoc]
          refine HO9.out.kept (grown_store w9 bo 0 _) ?_
          cases e2 : (Value.slice a9 (pre.length + 1) c9).ownBlock with
          | none => exact .inl rfl
          | some k => exact .inr (fun e3 => by cases e3; have := (World.ownsRow.lt HO9.out _ e2).1; have := HZ5.out; omega)
        · rw [hlp]
          intro k e hT
          rcases HN9.out with h | ⟨gg, h, hgg⟩
          · rw [h] at e; exact HBk.out k e hT
          · rw [h] at e
            cases e
            have := (HTn.out _ hT).2
            omega
        · simp; exact Nat.le_trans hsz HG9.out.size
      case done =>
        rintro D Tt xs w20 hD hTD rfl hst hDk
        obtain ⟨hbel, htn, ⟨a0, c0, hcell, hown, hblk⟩, hsz⟩ := hst
        have HSp : Hid (SpansAt w20 a0 (toldL (lookT 0 (trieS S)) N)) := Lib.hid (spans_of_row hown)
        obtain ⟨N1, hN1⟩ : ∃ N1, N1 = (spL neV (lookT 0 (trieS S)) N).length := ⟨_, rfl⟩
        rw [← hN1] at hcell HLen
        have HN1 : Hid ((toldL (lookT 0 (trieS S)) N).length = N1) := Lib.hid (by unfold toldL; rw [List.length_map, hN1])
        have HBe := Lib.hid hbel; have HCe := Lib.hid hcell; have HDk := Lib.hid hDk
        have HSz := Lib.hid hsz
        have HwD : Hid (w.heap.size ≤ D) := Lib.hid (by have := HB2.out.size; have := HZ5.out; omega)
        clear hbel htn hcell hown hblk hsz hDk hN1 hTD hD
        have HS20 := Lib.hid (HS2.out.below HBe.out (fun b o e h0 => HS2.out.lt b o e h0))
        have HT20 : Hid (Ts S w20 [g]) := Lib.hid (fun k hk => by rw [List.mem_singleton.1 hk]; exact HT.out.below HBe.out (Nat.le_refl _))
        have HB20 := Lib.hid (HB2.out.trans (HBe.out.mono HB2.out.size))
        go_wp2
        go_loopw [11, 13] (TuR w20.heap.size l w20) (fun _ i _ => (intOf i + 1).toNat)
        case atStart => exact ⟨n, by rw [HL.out]; exact Nat.le_refl _, rfl, Below.refl _ _, none, 0, by rw [HL.out, Nat.sub_self], by rw [HL.out, Nat.sub_self]; exact World.ownsRow_nil _ _ _ _⟩
        case round =>
          obtain ⟨m, hm, rfl, hbel, a1, c1, rfl, hown⟩ := hrel
          have HBr := Lib.hid hbel; clear hbel
          cases m with
          | zero =>
            have hsp := spans_of_row (l := l.reverse) (by rw [Nat.sub_zero, List.take_of_length_le (by simp)] at hown; exact hown)
            rw [Nat.sub_zero]
            rw [HL.out]
            have HSr := Lib.hid hsp; clear hown hsp
            have HS21 := Lib.hid (HSp.out.below HBr.out (fun b o e h0 => HSp.out.lt b o e h0))
            have q0 : wr.cell? ⟨bo, 0, none⟩ = some (.slice a0 N1 c0) := (HBr.out.cell (p := ⟨bo, 0, none⟩) (Array.getElem?_eq_some_iff.1 HCe.out).1).trans (cell_of_row w20 bo 0 _ _ (0, 0) HCe.out)
            have HTs := Lib.hid (HT20.out.below HBr.out)
            rw [show ((0 : Nat) : Int) - 1 = -1 from rfl]
            clear HSp HCe HT20
            go_wp2_with fail
            refine (Build8_any3 other a0 N1 c0 (toldL (lookT 0 (trieS S)) N) wr HN1.out (by have := HLen.out; have := HN.out; omega) HS21.out (told_wf _ N HN.out) (told_ok _ N HN.out)).mono ?_
            rintro e w22 ⟨gu, Su, rfl, hb, hSu, hTu⟩
            have HUu := Lib.hid (HMs.out.unique hSu (fun r hr => ((told_fS other _ N HN.out r hr).trans (HMs.out.look r hr)).symm))
            rw [← HUu.out] at hTu
            have HTs2 := Lib.hid ((HTs.out.below hb).push hTu)
            have HB22 := Lib.hid (HBr.out.trans (hb.mono HBr.out.size))
            have HSr2 := Lib.hid (HSr.out.below hb (fun b o e h0 => HSr.out.lt b o e h0))
            clear hb hSu hTu HTs HSr HS21 HBr HUu Su q0
            go_wp2_with fail
            refine (Build8_any3 rest a1 n c1 l.reverse w22 (by rw [List.length_reverse]; exact HL.out) (by omega) HSr2.out (fun s hs => HWf.out s (List.mem_reverse.1 hs)) (okS_rev HOk.out)).mono ?_
            rintro e w23 ⟨gw, Sw, rfl, hb, hSw, hTw⟩
            have HUw := Lib.hid (HMs.out.unique hSw (fun r hr => (fS_rev rest HOk.out r).symm))
            rw [← HUw.out] at hTw
            have HTs3 := Lib.hid ((HTs2.out.below hb).push hTw)
            have HB23 := Lib.hid (HB22.out.trans (hb.mono HB22.out.size))
            clear hb hSw hTw HTs2 HB22 HUw Sw HSr2
            go_wp2_with fail
            refine (parts_at w23 g _ S HMs.out (HTs3.out g (by simp))).mono ?_
            rintro e w24 ⟨pv, rfl, hpv, hb⟩
            have HPv := Lib.hid hpv
            have HTs4 := Lib.hid (HTs3.out.below hb)
            have HB24 := Lib.hid (HB23.out.trans (hb.mono HB23.out.size))
            clear hb hpv HTs3 HB23
            go_wp2_with fail
            refine (from_made w24 _ S HMs.out pv HPv.out).mono ?_
            rintro e w25 ⟨gx, rfl, hb, hTx⟩
            have HTs5 := Lib.hid ((HTs4.out.below hb).push hTx)
            have HB25 := Lib.hid (HB24.out.trans (hb.mono HB24.out.size))
            clear hb hTx HTs4 HB24 HPv
            go_wp2_with fail
            refine (Map_walk w25 g (trieS S) HMs.out.trie HMs.out.pos.1 (HTs5.out g (by simp)) 27 #[] (fun v => v) (enters_of Try.func27 (by kernel_rfl) rfl) (fun v W' _ _ => same_walk v W')).mono ?_
            rintro e w26 ⟨gy, Sy, rfl, -, hb, hSy, hTy⟩
            have HUy := Lib.hid (HMs.out.unique hSy (fun r hr => (HMs.out.look r hr).symm))
            rw [← HUy.out] at hTy
            have HTs6 := Lib.hid ((HTs5.out.below hb).push hTy)
            have HB26 := Lib.hid (HB25.out.trans (hb.mono HB25.out.size))
            clear hb hSy hTy HTs5 HB25 HUy Sy
            go_wp2_with fail
            refine (Fill8b_walk 18 (.pointer (some ⟨g, 0, none⟩)) w26 (lookT 0 (trieS S)) (fun _ W => Below w26.heap.size w26 W) (enters_of Try.func18 (by kernel_rfl) rfl) (fun k W W' h hb => h.trans hb) (fun k W hk hJ _ => ?_) (Below.refl _ _)).mono ?_
            · have hru : runeR ((k : Nat) : Int) = k := by unfold runeR; rw [if_neg (by omega)]; omega
              refine (At8_walk W g (trieS S) HMs.out.trie HMs.out.pos.1 ((HTs6.out g (by simp)).below hJ (Nat.le_refl _)) (k : Nat) (by omega) (by omega)).mono ?_
              rintro e W' ⟨rfl, q, rfl⟩
              rw [hru]
              exact ⟨rfl, below_drewN hJ q, ⟨rfl, rfl, rfl, Nat.le_refl _, fun _ _ _ => rfl⟩⟩
            rintro e w27 ⟨gz, rfl, -, ⟨am, cm, al, cl, hMk⟩, hb⟩
            have HTz : Hid (TrieAt val8 114 64 w27 gz (trieS S)) := Lib.hid (by
              have hM := made8 (lookT 0 (trieS S)) 17408 rfl
              generalize mkF (lookT 0 (trieS S)) 17408 = Sz at *
              rw [HMs.out.unique hM (fun r hr => (HMs.out.look r hr).symm)]
              exact trieS_at hM hMk)
            have HTs7 := Lib.hid ((HTs6.out.below hb).push HTz.out)
            have HB27 := Lib.hid (HB26.out.trans (hb.mono HB26.out.size))
            clear hb hMk HTz HTs6 HB26
            have HA := Lib.hid (heap_alloc_new w27 (.cells #[.pointer (some ⟨gu, 0, none⟩), .pointer (some ⟨gw, 0, none⟩), .pointer (some ⟨gx, 0, none⟩), .pointer (some ⟨gy, 0, none⟩), .pointer (some ⟨gz, 0, none⟩)] 26))
            have HBA := Lib.hid ((Below.refl _ w27).alloc (Nat.le_refl _) (.cells #[.pointer (some ⟨gu, 0, none⟩), .pointer (some ⟨gw, 0, none⟩), .pointer (some ⟨gx, 0, none⟩), .pointer (some ⟨gy, 0, none⟩), .pointer (some ⟨gz, 0, none⟩)] 26))
            go_wp2
            generalize w27.alloc (.cells #[.pointer (some ⟨gu, 0, none⟩), .pointer (some ⟨gw, 0, none⟩), .pointer (some ⟨gx, 0, none⟩), .pointer (some ⟨gy, 0, none⟩), .pointer (some ⟨gz, 0, none⟩)] 26) = w28 at *
            obtain ⟨ba, hba⟩ : ∃ ba, ba = w27.heap.size := ⟨_, rfl⟩
            rw [← hba] at HA ⊢
            have HTs8 := Lib.hid (HTs7.out.below HBA.out)
            have HB28 := Lib.hid (HB27.out.trans (HBA.out.mono HB27.out.size))
            have HPt : Hid (∀ k, k < 5 → ∃ gk, w28.cell? ⟨ba, k, none⟩ = some (.pointer (some ⟨gk, 0, none⟩)) ∧ TrieAt val8 114 64 w28 gk (trieS S)) := Lib.hid (fun k hk => by
              have hc := cell_of_row w28 ba k _ _ (0, 0) HA.out
              rcases k with _ | _ | _ | _ | _ | k
              · exact ⟨gu, hc, HTs8.out gu (by simp)⟩
              · exact ⟨gw, hc, HTs8.out gw (by simp)⟩
              · exact ⟨gx, hc, HTs8.out gx (by simp)⟩
              · exact ⟨gy, hc, HTs8.out gy (by simp)⟩
              · exact ⟨gz, hc, HTs8.out gz (by simp)⟩
              · omega)
            have HTg := Lib.hid (HTs8.out g (by simp))
            have HDk28 := Lib.hid ((HB28.out.block D (Array.getElem?_eq_some_iff.1 HDk.out).1).trans HDk.out)
            have HBw := Lib.hid (HB20.out.trans (HB28.out.mono HB20.out.size))
            clear HTs7 HTs8 HBA HB27 hba HA HB28
            go_loopw [107] (BkR w28) (fun i _ => 5 - (intOf i).toNat)
            case atStart => exact ⟨0, Nat.zero_le _, rfl, Below.refl _ _⟩
            case round =>
              obtain ⟨k, hk5, rfl, hbel⟩ := hrel
              have HBk := Lib.hid hbel; clear hbel
              by_cases hk : k < 5
              · have hki : (k : Int) < 5 := by omega
                obtain ⟨gk, hgk, htk⟩ := HPt.out k hk
                have p0 := (HBk.out.cell (p := ⟨ba, k, none⟩) (World.block_lt_of_cell? w28 _ hgk)).trans hgk
                have HTk := Lib.hid (htk.below HBk.out (Nat.le_refl _))
                have HTg1 := Lib.hid (HTg.out.below HBk.out (Nat.le_refl _))
                clear hgk htk
                go_wp2_with fail
                refine (Same_walk wr g gk (trieS S) (trieS S) HMs.out.trie HMs.out.trie HMs.out.pos.1 HMs.out.pos.1 HTg1.out HTk.out).mono ?_
                rintro e w29 ⟨b, q, rfl, rfl, hbq⟩
                obtain rfl : b = true := hbq.2 (fun _ _ => rfl)
                have HB29 : Hid (Below w28.heap.size w28 (wr.drewN q)) := Lib.hid (below_drewN HBk.out q)
                have HTk2 := Lib.hid (HTk.out.below (below_drewN (Below.refl _ wr) q) (Nat.le_refl _))
                have HTg2 := Lib.hid (HTg1.out.below (below_drewN (Below.refl _ wr) q) (Nat.le_refl _))
                clear hbq p0 HTk HTg1
                generalize wr.drewN q = w29 at *
                go_wp2_with fail
                refine (Same_walk w29 gk g (trieS S) (trieS S) HMs.out.trie HMs.out.trie HMs.out.pos.1 HMs.out.pos.1 HTk2.out HTg2.out).mono ?_
                rintro e w30 ⟨b, q, rfl, rfl, hbq⟩
                obtain rfl : b = true := hbq.2 (fun _ _ => rfl)
                have HB30 : Hid (Below w28.heap.size w28 (w29.drewN q)) := Lib.hid (below_drewN HB29.out q)
                have HTk3 := Lib.hid (HTk2.out.below (below_drewN (Below.refl _ w29) q) (Nat.le_refl _))
                have HTg3 := Lib.hid (HTg2.out.below (below_drewN (Below.refl _ w29) q) (Nat.le_refl _))
                clear hbq HTk2 HTg2 HB29
                generalize w29.drewN q = w30 at *
                go_wp2_with fail
                refine (parts_at w30 gk _ S HMs.out HTk3.out).mono ?_
                rintro e w31 ⟨pu, rfl, hpu, hb⟩
                have HPu := Lib.hid hpu
                have HB31 := Lib.hid (HB30.out.trans (hb.mono HB30.out.size))
                have HTg4 := Lib.hid (HTg3.out.below hb (Nat.le_refl _))
                clear hb hpu HTk3 HTg3 HB30
                go_wp2_with fail
                refine (parts_at w31 g _ S HMs.out HTg4.out).mono ?_
                rintro e w32 ⟨pt, rfl, hpt, hb⟩
                have HPt2 := Lib.hid hpt
                have HPu2 := Lib.hid (HPu.out.below hb)
                have HB32 := Lib.hid (HB31.out.trans (hb.mono HB31.out.size))
                clear hb hpt HPu HTg4 HB31
                go_wp2_with fail
                refine (parts_eq w32 _ S HMs.out pu pt HPu2.out HPt2.out).mono ?_
                rintro e w33 ⟨rfl, hb⟩
                have HB33 := Lib.hid (HB32.out.trans (hb.mono HB32.out.size))
                clear hb HPt2 HPu2 HB32
                go_wp2
                go_roundw
                case rel => exact ⟨k + 1, by omega, by go_num, HB33.out⟩
                case measure => simp [intOf]; omega
              · obtain rfl : k = 5 := by omega
                have HDr := Lib.hid ((HBk.out.block D (Array.getElem?_eq_some_iff.1 HDk28.out).1).trans HDk28.out)
                have HBr := Lib.hid (HBw.out.trans (HBk.out.mono HBw.out.size))
                rw [show ((5 : Nat) : Int) = 5 from rfl]
                go_wp2_with fail
                refine (awake_walk _).mono ?_
                rintro e w34 ⟨rfl, hb⟩
                have HD34 := Lib.hid ((hb.block D (Array.getElem?_eq_some_iff.1 HDr.out).1).trans HDr.out)
                have HB34 := Lib.hid (HBr.out.trans (hb.mono HBr.out.size))
                clear hb
                go_wp2
                refine leaves_mark HD34.out (leaves_nil (results_tmp rfl _ _ _) ?_)
                exact ⟨rfl, below_mark2 HB34.out D _ HwD.out⟩
          | succ j =>
            have hjl : j < l.length := by omega
            have hjn : j < n := by rw [HL.out] at hjl; exact hjl
            have ej : ((j + 1 : Nat) : Int) - 1 = (j : Int) := by omega
            obtain ⟨b, o, ha⟩ := HS20.out.some (by omega)
            subst ha
            obtain ⟨d1, d2, d3⟩ := (HS20.out.below HBr.out (fun b o e h0 => HS20.out.lt b o e h0)).get j hjl
            have HRt := Lib.hid (rev_take l j hjl)
            generalize l[j] = s at *
            obtain ⟨q, hq⟩ : ∃ q, q = l.length - (j + 1) := ⟨_, rfl⟩
            have hq2 : l.length - j = q + 1 := by omega
            have hq60 : q ≤ 60 := by rw [HL.out] at hq; omega
            rw [← hq] at hown HRt ⊢
            rw [hq2] at HRt
            have HQ := Lib.hid (And.intro hq hq2); clear hq hq2
            have HOw := Lib.hid hown; clear hown
            have hbs := HBr.out.size
            rw [ej]
            clear ej
            go_wp2_with (at_builtin; refine wpList_appN Try.elemSpan rfl (.tmp 58) (.tmp 63) rfl HOw.out hbs (by omega) (by omega) _ rfl (by intro u hu; simp at hu; rcases hu with rfl | rfl | rfl <;> rfl) _ rfl rfl ?_)
            intro a9 c9 w9 ho9 hg9 hn9
            have HO9 := Lib.hid ho9
            have HB9 := Lib.hid (below_bel HBr.out hg9 (fun k e => (World.ownsRow.lt HOw.out k e).1))
            clear ho9 hg9 hn9 d1 d2 d3
            go_wp2
            go_roundw
            case rel => exact ⟨j, by omega, rfl, HB9.out, a9, c9, by rw [HQ.out.2], by rw [HQ.out.2, HRt.out, flatS_snoc]; exact HO9.out⟩
            case measure => simp [intOf]
end Go.Proofs.Ytabbabkmojaoaaa
