/- several texts in one: FR8 CN WG WH -/
import Derived.Lib.QuietBelow
import Derived.BigQuiet
import Derived.Great.BuildSlice
import Derived.Test.YtabbabkmojaoaaaQ1
import Derived.Test.YtabbabkmojaoaaaQ2
import Derived.Test.YtabbabkmojaoaaaQ3
import Derived.Test.YtabbabkmojaoaaaRF0
set_option linter.unusedVariables false
set_option linter.unusedSimpArgs false
/-
  The walk of 'From' (uint8).
-/
namespace Go.Proofs.Ytabbabkmojaoaaa
open Go.RowKit

theorem numsF_lt {many : Nat} {ag : Nat → Bool} : ∀ {l : List Nat} {n m : Nat}, n ≤ many → numsF many ag l n = some m → ∀ x ∈ l, x < many
  | [], n, m, hn, h => fun x hx => by simp at hx
  | y :: l, n, m, hn, h => fun x hx => by
    rw [numsF] at h
    split at h
    · rename_i hc
      rcases List.mem_cons.1 hx with rfl | hx
      · omega
      · exact numsF_lt (by omega) h x hx
    · split at h
      · cases h
      · rename_i hc hd
        rcases List.mem_cons.1 hx with rfl | hx
        · have : ¬ n ≤ x := fun e => hd (.inl e)
          omega
        · exact numsF_lt hn h x hx
/-- the row of values -/
def RowAt (w : World) (a : Option Addr) (zs : List Int) : Prop := ∀ i (h : i < zs.length), ∃ b o, a = some ⟨b, o, none⟩ ∧ w.cell? ⟨b, o + i, none⟩ = some (val8 zs[i])
theorem RowAt.below {w w' : World} {a : Option Addr} {zs : List Int} (h : RowAt w a zs) (hb : Below w.heap.size w w') : RowAt w' a zs := fun i hi => by
  obtain ⟨b, o, e, hc⟩ := h i hi
  exact ⟨b, o, e, (hb.cell (p := ⟨b, o + i, none⟩) (World.block_lt_of_cell? w _ hc)).trans hc⟩
theorem RowAt.range {w : World} {b o : Nat} {zs : List Int} (h : RowAt w (some ⟨b, o, none⟩) zs) : w.rangeAt b o (blkC val8 zs) := fun j v hv => by
  rw [blkC8_map, List.getElem?_map] at hv
  cases hz : zs[j]? with
  | none => rw [hz] at hv; cases hv
  | some x =>
    rw [hz] at hv
    obtain ⟨hj, rfl⟩ := List.getElem?_eq_some_iff.1 hz
    obtain ⟨b', o', e, hc⟩ := h j hj
    simp only [Option.some.injEq, Addr.mk.injEq, and_true] at e
    obtain ⟨rfl, rfl⟩ := e
    rw [hc]
    simpa using hv
theorem numsAt_range {w : World} {b o : Nat} {zs : List Nat} (h : NumsAt w (some ⟨b, o, none⟩) zs) : w.rangeAt b o (blkC num16 zs) := fun j v hv => by
  rw [blkC16_map, List.getElem?_map] at hv
  cases hz : zs[j]? with
  | none => rw [hz] at hv; cases hv
  | some x =>
    rw [hz] at hv
    obtain ⟨hj, rfl⟩ := List.getElem?_eq_some_iff.1 hz
    obtain ⟨b', o', e, hc⟩ := h j hj
    simp only [Option.some.injEq, Addr.mk.injEq, and_true] at e
    obtain ⟨rfl, rfl⟩ := e
    rw [hc]
    simpa using hv
/-- parts that are some trie's -/
structure FromOk (zT zM : List Nat) (zL : List Int) : Prop where
  t : zT.length = 272
  m : zM.length ≠ 0
  l : zL.length ≠ 0
  m64 : zM.length % 64 = 0
  l64 : zL.length % 64 = 0
  ml : zM.length / 64 ≤ 272
  ll : zL.length / 64 ≤ 17408
  nm : numsF (zL.length / 64) (fun _ => true) zM 0 = some (zL.length / 64)
  nt : numsF (zM.length / 64) (fun _ => true) zT 0 = some (zM.length / 64)
  ul : UnL (fun a b => decide (a = b)) (cksL zL (zL.length / 64)) (zL.length / 64)
  um : VN.UnL (fun a b => decide (a = b)) (VN.cksL zM (zM.length / 64)) (zM.length / 64)
/-- a trie's memory lies from block B on -/
def TrieFar (ty : TypeId) (w : World) (g : Nat) (T : TrieD Int) (B : Nat) : Prop := B ≤ g ∧ ∃ am cm al cl, w.heap[g]? = some (.cells (trieC T am cm al cl).toArray ty (0, 0)) ∧ (∀ x, am = some x → B ≤ x.block) ∧ ∀ x, al = some x → B ≤ x.block
theorem TrieFar.below {ty : TypeId} {w w' : World} {g : Nat} {T : TrieD Int} {B : Nat} (h : TrieFar ty w g T B) (hb : Below w.heap.size w w') : TrieFar ty w' g T B := by
  obtain ⟨h0, am, cm, al, cl, h1, h2, h3⟩ := h
  exact ⟨h0, am, cm, al, cl, (hb.block g (Array.getElem?_eq_some_iff.1 h1).1).trans h1, h2, h3⟩
theorem TrieFar.mono {ty : TypeId} {w : World} {g : Nat} {T : TrieD Int} {B B' : Nat} (h : TrieFar ty w g T B) (hb : B' ≤ B) : TrieFar ty w g T B' := by
  obtain ⟨h0, am, cm, al, cl, h1, h2, h3⟩ := h
  exact ⟨Nat.le_trans hb h0, am, cm, al, cl, h1, fun x e => Nat.le_trans hb (h2 x e), fun x e => Nat.le_trans hb (h3 x e)⟩
/-- the trie that parts tell -/
def fromT (zT zM : List Nat) (zL : List Int) : TrieD Int := ⟨zT, VN.cksL zM (zM.length / 64), cksL zL (zL.length / 64)⟩
/-- a cell that is not nil lies as it lay when the variable that holds nil is set -/
theorem setNil {W : World} {bt : Nat} {t : TypeId} (h : W.heap[bt]? = some (.cells #[.pointer none] t (0, 0))) (u : Value) {b o : Nat} {v : Value} (hc : W.cell? ⟨b, o, none⟩ = some v) (hv : v ≠ .pointer none) : (W.setRow bt #[u]).cell? ⟨b, o, none⟩ = some v := by
  by_cases e : b = bt
  · subst e
    rw [cell_of_row W b o _ _ (0, 0) h] at hc
    match o, hc with
    | 0, hc => exact absurd (by simpa using hc.symm) hv
    | o + 1, hc => simp at hc
  · rw [World.cell?_of_block (w := W) (a := ⟨b, o, none⟩) (setRow_other W bt b _ e)]
    exact hc
theorem blocks_setNil {α : Type} {val : α → Value} {W : World} {bt : Nat} {t : TypeId} (h : W.heap[bt]? = some (.cells #[.pointer none] t (0, 0))) (u : Value) {a : Option Addr} {L : List (List α)} (hb : BlocksAt val 64 W a L) (hv : ∀ l : List α, ∀ x ∈ blkC val l, x ≠ .pointer none) : BlocksAt val 64 (W.setRow bt #[u]) a L := fun i hi => by
  obtain ⟨b, o, e, hr⟩ := hb i hi
  exact ⟨b, o, e, fun j v hj => setNil h u (hr j v hj) (hv _ _ (List.mem_of_getElem? hj))⟩
/-- what the region reads -/
structure FrC (bx bt_ ot bm om bl ol cT nM cM nL cL : Nat) (zT : List Nat) (w : World) : Prop where
  p0 : w.cell? ⟨bx, 0, none⟩ = some (.slice (some ⟨bt_, ot, none⟩) 272 cT)
  p1 : w.cell? ⟨bx, 1, none⟩ = some (.slice (some ⟨bm, om, none⟩) nM cM)
  p2 : w.cell? ⟨bx, 2, none⟩ = some (.slice (some ⟨bl, ol, none⟩) nL cL)
  r : w.rangeAt bt_ ot (blkC num16 zT)
theorem FrC.below {bx bt_ ot bm om bl ol cT nM cM nL cL : Nat} {zT : List Nat} {w w' : World} (h : FrC bx bt_ ot bm om bl ol cT nM cM nL cL zT w) (hb : Below w.heap.size w w') : FrC bx bt_ ot bm om bl ol cT nM cM nL cL zT w' := by
  have k : ∀ {b o : Nat} {v : Value}, w.cell? ⟨b, o, none⟩ = some v → w'.cell? ⟨b, o, none⟩ = some v := fun {b o v} hc => (hb.cell (p := ⟨b, o, none⟩) (World.block_lt_of_cell? w _ hc)).trans hc
  exact ⟨k h.p0, k h.p1, k h.p2, rangeAt_below h.r hb (Nat.le_refl _)⟩
def frPl (i : Nat) : Option (Nat × Nat) := #[(0, 272), (272, 1), (273, 1)][i]?
theorem build_trie (w : World) (zT : List Nat) (hz : zT.length = 272) (s1 s2 : Value) (h1 : s1.cells = #[s1]) (h2 : s2.cells = #[s2]) : (Instr.build 114 #[(0, .agg (blkC num16 zT).toArray), (1, s1), (2, s2)]).run Try.prog w = .ok (.agg (zT.map num16 ++ [s1, s2]).toArray) w := by
  refine run_build w _ _ _ ?_
  have e : ∀ parts, Try.prog.built 114 parts = Instr.fill frPl (Array.replicate 272 (.int .u16 0) ++ #[.slice none 0 0, .slice none 0 0]) parts := fun parts => by kernel_rfl
  rw [e]
  have := fill3 frPl (Array.replicate 272 (.int .u16 0) ++ #[.slice none 0 0, .slice none 0 0]) (blkC num16 zT).toArray s1 s2 (by simp) (by rw [List.size_toArray, blkC_length (sz := 1) (fun _ => rfl), hz]) h1 h2 rfl rfl rfl
  rw [blkC16_map] at this
  rw [blkC16_map]
  exact this
set_option maxRecDepth 100000 in
set_option maxHeartbeats 1600000 in
theorem FromB_walk (w : World) (aT aM aL : Option Addr) (nT cT nM cM nL cL : Nat) (zT zM : List Nat) (zL : List Int) (hT : zT.length = nT) (hM : zM.length = nM) (hL : zL.length = nL) (bT : nT ≤ cT ∧ cT ≤ maxLen) (bM : nM ≤ cM ∧ cM ≤ maxLen) (bL : nL ≤ cL ∧ cL ≤ maxLen)
    (vT : ∀ z ∈ zT, z < 65536) (vM : ∀ z ∈ zM, z < 65536) (rT : NumsAt w aT zT) (rM : NumsAt w aM zM) (rL : RowAt w aL zL) :
    Calls Try.prog 47 #[.agg #[.slice aT nT cT, .slice aM nM cM, .slice aL nL cL]] w fun e w' => Below w.heap.size w w' ∧
      ((e = .returned (.tuple #[.pointer none, .int .i64 112]) ∧ ¬ FromOk zT zM zL) ∨
       (FromOk zT zM zL ∧ ∃ g, e = .returned (.tuple #[.pointer (some ⟨g, 0, none⟩), .int .i64 0]) ∧ w.heap.size ≤ g ∧ TrieAt val8 114 64 w' g (fromT zT zM zL) ∧ TrieFar 114 w' g (fromT zT zM zL) w.heap.size)) := by
  have HVT := Lib.hid vT; have HVM := Lib.hid vM; have HRT := Lib.hid rT; have HRM := Lib.hid rM; have HRL := Lib.hid rL
  have HLn := Lib.hid (And.intro hT (And.intro hM hL))
  clear vT vM rT rM rL hT hM hL
  have hA := heap_alloc_new w (.cells #[.slice aT nT cT, .slice aM nM cM, .slice aL nL cL] 79)
  have q0 : (w.alloc (.cells #[.slice aT nT cT, .slice aM nM cM, .slice aL nL cL] 79)).cell? ⟨w.heap.size, 0, none⟩ = some (.slice aT nT cT) := cell_of_row _ w.heap.size 0 _ _ (0, 0) hA
  have q1 : (w.alloc (.cells #[.slice aT nT cT, .slice aM nM cM, .slice aL nL cL] 79)).cell? ⟨w.heap.size, 1, none⟩ = some (.slice aM nM cM) := cell_of_row _ w.heap.size 1 _ _ (0, 0) hA
  have q2 : (w.alloc (.cells #[.slice aT nT cT, .slice aM nM cM, .slice aL nL cL] 79)).cell? ⟨w.heap.size, 2, none⟩ = some (.slice aL nL cL) := cell_of_row _ w.heap.size 2 _ _ (0, 0) hA
  have HB := Lib.hid ((Below.refl w.heap.size w).alloc (Nat.le_refl _) (.cells #[.slice aT nT cT, .slice aM nM cM, .slice aL nL cL] 79))
  have HA := Lib.hid hA
  have HZ := Lib.hid (World.size_alloc w (.cells #[.slice aT nT cT, .slice aM nM cM, .slice aL nL cL] 79))
  clear hA
  obtain ⟨bx, hbx⟩ : ∃ bx, bx = w.heap.size := ⟨_, rfl⟩
  rw [← hbx] at q0 q1 q2
  have HBx := Lib.hid hbx
  go_enter Try.func47, Try.ntmps47
  go_upto_region 1 with (fail)
  rw [← hbx]
  clear hbx
  generalize w.alloc (.cells #[.slice aT nT cT, .slice aM nM cM, .slice aL nL cL] 79) = w1 at *
  have hmx : maxLen = 9223372036854775807 := rfl
  rw [hmx] at bT bM bL
  clear hmx
  by_cases c1 : nT = 272
  rotate_left
  · have d1 : ((nT : Int) != 272) = true := by simpa using (by omega : ¬ (nT : Int) = 272)
    go_wp2
    go_ret2
    exact ⟨HB.out, .inl ⟨rfl, fun h => c1 (by rw [← HLn.out.1]; exact h.t)⟩⟩
  have d1 : ((nT : Int) != 272) = false := by simpa using (by omega : (nT : Int) = 272)
  by_cases c2 : nM = 0
  · have d2 : ((nM : Int) == 0) = true := by simpa using (by omega : (nM : Int) = 0)
    go_wp2
    go_ret2
    exact ⟨HB.out, .inl ⟨rfl, fun h => h.m (by rw [HLn.out.2.1]; exact c2)⟩⟩
  have d2 : ((nM : Int) == 0) = false := by simpa using (by omega : ¬ (nM : Int) = 0)
  by_cases c3 : nL = 0
  · have d3 : ((nL : Int) == 0) = true := by simpa using (by omega : (nL : Int) = 0)
    go_wp2
    go_ret2
    exact ⟨HB.out, .inl ⟨rfl, fun h => h.l (by rw [HLn.out.2.2]; exact c3)⟩⟩
  have d3 : ((nL : Int) == 0) = false := by simpa using (by omega : ¬ (nL : Int) = 0)
  by_cases c4 : nM % 64 = 0
  rotate_left
  · have d4 : (((nM : Int) % 64) != 0) = true := by simpa using (by omega : ¬ (nM : Int) % 64 = 0)
    go_wp2
    go_ret2
    exact ⟨HB.out, .inl ⟨rfl, fun h => c4 (by rw [← HLn.out.2.1]; exact h.m64)⟩⟩
  have d4 : (((nM : Int) % 64) != 0) = false := by simpa using (by omega : (nM : Int) % 64 = 0)
  by_cases c5 : nL % 64 = 0
  rotate_left
  · have d5 : (((nL : Int) % 64) != 0) = true := by simpa using (by omega : ¬ (nL : Int) % 64 = 0)
    go_wp2
    go_ret2
    exact ⟨HB.out, .inl ⟨rfl, fun h => c5 (by rw [← HLn.out.2.2]; exact h.l64)⟩⟩
  have d5 : (((nL : Int) % 64) != 0) = false := by simpa using (by omega : (nL : Int) % 64 = 0)
  have z1 : (0 : Int) ≤ (nM : Int) := by omega
  have z2 : (0 : Int) ≤ (nL : Int) := by omega
  by_cases c6 : nM / 64 ≤ 272
  rotate_left
  · have c6i : (272 : Int) < (nM : Int) / 64 := by omega
    have d6 : decide ((272 : Int) < (nM : Int) / 64) = true := decide_eq_true c6i
    go_wp2
    go_ret2
    exact ⟨HB.out, .inl ⟨rfl, fun h => c6 (by rw [← HLn.out.2.1]; exact h.ml)⟩⟩
  have c6i : ¬ (272 : Int) < (nM : Int) / 64 := by omega
  have d6 : decide ((272 : Int) < (nM : Int) / 64) = false := decide_eq_false c6i
  by_cases c7 : nL / 64 ≤ 17408
  rotate_left
  · have c7i : (17408 : Int) < (nL : Int) / 64 := by omega
    have d7 : decide ((17408 : Int) < (nL : Int) / 64) = true := decide_eq_true c7i
    go_wp2
    go_ret2
    exact ⟨HB.out, .inl ⟨rfl, fun h => c7 (by rw [← HLn.out.2.2]; exact h.ll)⟩⟩
  have c7i : ¬ (17408 : Int) < (nL : Int) / 64 := by omega
  have d7 : decide ((17408 : Int) < (nL : Int) / 64) = false := decide_eq_false c7i
  obtain ⟨KM, hKM⟩ : ∃ KM, KM = nM / 64 := ⟨_, rfl⟩
  obtain ⟨KL, hKL⟩ : ∃ KL, KL = nL / 64 := ⟨_, rfl⟩
  have eM : nM = 64 * KM := by omega
  have eL : nL = 64 * KL := by omega
  have HK := Lib.hid (And.intro hKM (And.intro hKL (And.intro eM (And.intro eL (And.intro c6 c7)))))
  clear hKM hKL eM eL c4 c5 c6 c7
  subst c1
  go_upto_region 3 with (fail)
  obtain ⟨hKM, hKL, eM, eL, c6, c7⟩ := HK.out
  have HRT1 := Lib.hid (show NumsAt w1 aT zT from fun i hi => by obtain ⟨b, o, e, hc⟩ := HRT.out i hi; exact ⟨b, o, e, (HB.out.cell (p := ⟨b, o + i, none⟩) (World.block_lt_of_cell? w _ hc)).trans hc⟩)
  have HRM1 := Lib.hid (show NumsAt w1 aM zM from fun i hi => by obtain ⟨b, o, e, hc⟩ := HRM.out i hi; exact ⟨b, o, e, (HB.out.cell (p := ⟨b, o + i, none⟩) (World.block_lt_of_cell? w _ hc)).trans hc⟩)
  have HRL1 := Lib.hid (HRL.out.below HB.out)
  obtain ⟨hT, hM, hL⟩ := HLn.out
  obtain ⟨bt_, ot, eT, -⟩ := HRT1.out 0 (by omega)
  obtain ⟨bm, om, eM2, -⟩ := HRM1.out 0 (by omega)
  obtain ⟨bl, ol, eL2, -⟩ := HRL1.out 0 (by omega)
  subst eT eM2 eL2
  subst eM eL
  have q3 := numsAt_range HRT1.out
  have HR1 := Lib.hid (numsAt_range HRM1.out)
  have HR2 := Lib.hid HRL1.out.range
  have hbm : bm < w1.heap.size := by
    obtain ⟨b, o, e, hc⟩ := HRM1.out 0 (by omega)
    simp only [Option.some.injEq, Addr.mk.injEq, and_true] at e
    obtain ⟨rfl, rfl⟩ := e
    exact World.block_lt_of_cell? w1 _ hc
  have hbl : bl < w1.heap.size := by
    obtain ⟨b, o, e, hc⟩ := HRL1.out 0 (by omega)
    simp only [Option.some.injEq, Addr.mk.injEq, and_true] at e
    obtain ⟨rfl, rfl⟩ := e
    exact World.block_lt_of_cell? w1 _ hc
  have hsT : (blkC num16 zT).length = 272 := by rw [blkC_length (sz := 1) (fun _ => rfl), hT]
  have hKM2 : KM ≤ 272 := by omega
  have hKL2 : KL ≤ 17408 := by omega
  have HT2 := Lib.hid hT; have HM2 := Lib.hid hM; have HL2 := Lib.hid hL
  have HBd := Lib.hid (And.intro bM bL)
  clear hT hM hL hKM hKL c6 c7 bM bL bT
  refine (wpIn_wide (n := 2)).1 ?_
  refine wpIn_region_calm [13] (FrC bx bt_ ot bm om bl ol cT (64 * KM) cM (64 * KL) cL zT) (by kernel_rfl) ?_
  have HC : Hid (FrC bx bt_ ot bm om bl ol cT (64 * KM) cM (64 * KL) cL zT w1.drew) := Lib.hid ⟨q0, q1, q2, q3⟩
  have HD : Hid (Below w1.heap.size w1 w1.drew) := Lib.hid (Below.refl _ w1).drew
  clear q0 q1 q2 q3
  generalize w1.drew = v0 at *
  refine' anyD_take (i := 0) (v := _) [1, 2, 3, 10, 11, 13] (by kernel_rfl) rfl (by rfl) (by kernel_rfl) (fun _ _ _ h => h) (by rfl) ?h0 HC.out ?k0
  case h0 =>
    rintro w' ⟨c0, c1, c2, c3⟩
    go_simp
    try with_reducible rfl
  simp only [List.getElem_toArray, List.getElem_cons_zero, List.getElem_cons_succ, Act.put, List.setIfInBounds_toArray, List.set_cons_zero, List.set_cons_succ]
  refine' anyD_take (i := 1) (v := _) [2, 3, 10, 11, 13] (by kernel_rfl) rfl (by rfl) (by kernel_rfl) (fun _ _ _ h => h) (by rfl) ?h1 HC.out ?k1
  case h1 =>
    rintro w' ⟨c0, c1, c2, c3⟩
    go_simp
    try with_reducible rfl
  simp only [List.getElem_toArray, List.getElem_cons_zero, List.getElem_cons_succ, Act.put, List.setIfInBounds_toArray, List.set_cons_zero, List.set_cons_succ]
  refine' anyD_take (i := 2) (v := .pointer (some ⟨bt_, ot, none⟩)) [3, 10, 11, 13] (by kernel_rfl) rfl (by rfl) (by kernel_rfl) (fun _ _ _ h => h) (by rfl) ?h2 HC.out ?k2
  case h2 =>
    rintro w' ⟨c0, c1, c2, c3⟩
    have ha := run_arrayAt (P := Try.prog) w' 110 91 272 (some ⟨bt_, ot, none⟩) 272 cT Try.underlying110 (Nat.le_refl _)
    go_simp
    try with_reducible rfl
  simp only [List.getElem_toArray, List.getElem_cons_zero, List.getElem_cons_succ, Act.put, List.setIfInBounds_toArray, List.set_cons_zero, List.set_cons_succ]
  refine' anyD_take (i := 3) (v := _) [10, 11, 13] (by kernel_rfl) rfl (by rfl) (by kernel_rfl) (fun _ _ _ h => h) (by rfl) ?h3 HC.out ?k3
  case h3 => exact fun w' hC => by refine exec_load 110 (.tmp 53) ?_ bt_ ot ?_ (blkC num16 zT) (.array 272 91) hC.r Try.underlying110 rfl (by rw [hsT]; kernel_rfl) <;> rfl
  simp only [List.getElem_toArray, List.getElem_cons_zero, List.getElem_cons_succ, Act.put, List.setIfInBounds_toArray, List.set_cons_zero, List.set_cons_succ]
  refine' anyD_take (i := 4) (v := _) [5, 6, 9, 10, 11, 13] (by kernel_rfl) rfl (by rfl) (by kernel_rfl) (fun _ _ _ h => h) (by rfl) ?h4 HC.out ?k4
  case h4 =>
    rintro w' ⟨c0, c1, c2, c3⟩
    go_simp
    try with_reducible rfl
  simp only [List.getElem_toArray, List.getElem_cons_zero, List.getElem_cons_succ, Act.put, List.setIfInBounds_toArray, List.set_cons_zero, List.set_cons_succ]
  refine' anyD_take (i := 5) (v := _) [6, 9, 10, 11, 13] (by kernel_rfl) rfl (by rfl) (by kernel_rfl) (fun _ _ _ h => h) (by rfl) ?h5 HC.out ?k5
  case h5 =>
    rintro w' ⟨c0, c1, c2, c3⟩
    go_simp
    try with_reducible rfl
  simp only [List.getElem_toArray, List.getElem_cons_zero, List.getElem_cons_succ, Act.put, List.setIfInBounds_toArray, List.set_cons_zero, List.set_cons_succ]
  refine' anyD_take (i := 7) (v := _) [8, 9, 10, 11, 13] (by kernel_rfl) rfl (by rfl) (by kernel_rfl) (fun _ _ _ h => h) (by rfl) ?h7 HC.out ?k7
  case h7 =>
    rintro w' ⟨c0, c1, c2, c3⟩
    go_simp
    try with_reducible rfl
  simp only [List.getElem_toArray, List.getElem_cons_zero, List.getElem_cons_succ, Act.put, List.setIfInBounds_toArray, List.set_cons_zero, List.set_cons_succ]
  refine' anyD_take (i := 8) (v := _) [9, 10, 11, 13] (by kernel_rfl) rfl (by rfl) (by kernel_rfl) (fun _ _ _ h => h) (by rfl) ?h8 HC.out ?k8
  case h8 =>
    rintro w' ⟨c0, c1, c2, c3⟩
    go_simp
    try with_reducible rfl
  simp only [List.getElem_toArray, List.getElem_cons_zero, List.getElem_cons_succ, Act.put, List.setIfInBounds_toArray, List.set_cons_zero, List.set_cons_succ]
  have HB0 : Hid (Below w1.heap.size w1 v0) := Lib.hid HD.out
  refine anyC_r2 (i := 6) (i' := 12) (by kernel_rfl) ?_ ?_
  refine stepCall (i := 6) rfl (by rfl) (by rfl) (fun _ _ => trivial) (exec_call1 90 (.tmp 56) _ rfl (.slice (some ⟨bm, om, none⟩) (64 * KM) cM) rfl (enters_of Try.func90 (by kernel_rfl) rfl)) (fun h => by cases h) ?_
  have hw1v : w1.heap.size ≤ v0.heap.size := HB0.out.size
  refine callsIn_wide.2 ?_
  refine (VN.cut_walk v0 bm om cM KM zM (by omega) HBd.out.1.1 HBd.out.1.2 HM2.out (rangeAt_below HR1.out HB0.out (Nat.le_refl _)) (Nat.lt_of_lt_of_le hbm HB0.out.size)).mono ?_
  rintro e v1 ⟨am, cm, rfl, ho, hb⟩
  refine ⟨_, rfl, fun _ => HC.out.below hb, ?_⟩
  have HC : Hid (FrC bx bt_ ot bm om bl ol cT (64 * KM) cM (64 * KL) cL zT v1) := Lib.hid (HC.out.below hb)
  have HB0 : Hid (Below w1.heap.size w1 v1) := Lib.hid (HB0.out.trans (hb.mono HB0.out.size))
  have Hm : Hid (BlocksAt num16 64 v1 am (VN.cksL zM KM)) := Lib.hid (blocks_of_row (B := v0.heap.size) (m := 64) (E := 120) (c := cm) (by rw [VN.cksL_length]; exact ho) (fun l hl => by rw [blkC_length (sz := 1) (fun _ => rfl)]; obtain ⟨q, hq, rfl⟩ := List.mem_map.1 hl; rw [VN.ckL_length zM KM q HM2.out (List.mem_range.1 hq)]))
  have HamB : Hid (∀ x, am = some x → w1.heap.size ≤ x.block) := Lib.hid (fun x e => by have := (World.ownsRow.lt ho x.block (by rw [e]; rfl)).1; omega)
  clear ho hb hw1v
  simp only [List.getElem_toArray, List.getElem_cons_zero, List.getElem_cons_succ, Act.put, List.setIfInBounds_toArray, List.set_cons_zero, List.set_cons_succ]
  refine anyC_r2 (i := 9) (i' := 12) (by kernel_rfl) ?_ ?_
  refine stepCall (i := 9) rfl (by rfl) (by rfl) (fun _ _ => trivial) (exec_call1 91 (.tmp 59) _ rfl (.slice (some ⟨bl, ol, none⟩) (64 * KL) cL) rfl (enters_of Try.func91 (by kernel_rfl) rfl)) (fun h => by cases h) ?_
  have hw1v : w1.heap.size ≤ v1.heap.size := HB0.out.size
  refine callsIn_wide.2 ?_
  refine (cut_walk v1 bl ol cL KL zL (by omega) HBd.out.2.1 HBd.out.2.2 HL2.out (rangeAt_below HR2.out HB0.out (Nat.le_refl _)) (Nat.lt_of_lt_of_le hbl HB0.out.size)).mono ?_
  rintro e v2 ⟨al, cl, rfl, ho, hb⟩
  refine ⟨_, rfl, fun _ => HC.out.below hb, ?_⟩
  have HC : Hid (FrC bx bt_ ot bm om bl ol cT (64 * KM) cM (64 * KL) cL zT v2) := Lib.hid (HC.out.below hb)
  have HB0 : Hid (Below w1.heap.size w1 v2) := Lib.hid (HB0.out.trans (hb.mono HB0.out.size))
  have Hm : Hid (BlocksAt num16 64 v2 am (VN.cksL zM KM)) := Lib.hid (Hm.out.below hb (Nat.le_refl _))
  have Hl : Hid (BlocksAt val8 64 v2 al (cksL zL KL)) := Lib.hid (blocks_of_row (B := v1.heap.size) (m := 64) (E := 119) (c := cl) (by rw [cksL_length]; exact ho) (fun l hl => by rw [blkC_length (sz := 1) (fun _ => rfl)]; obtain ⟨q, hq, rfl⟩ := List.mem_map.1 hl; rw [ckL_length zL KL q HL2.out (List.mem_range.1 hq)]))
  have HalB : Hid (∀ x, al = some x → w1.heap.size ≤ x.block) := Lib.hid (fun x e => by have := (World.ownsRow.lt ho x.block (by rw [e]; rfl)).1; omega)
  clear ho hb hw1v
  simp only [List.getElem_toArray, List.getElem_cons_zero, List.getElem_cons_succ, Act.put, List.setIfInBounds_toArray, List.set_cons_zero, List.set_cons_succ]
  refine anyC_r2 (i := 10) (i' := 12) (by kernel_rfl) ?_ ?_
  refine stepV (i := 10) (v := .agg (zT.map num16 ++ [Value.slice am KM cm, Value.slice al KL cl]).toArray) (w' := v2) rfl (by rfl) (fun _ _ => trivial) (by rfl) (exec_build3 114 (.tmp 54) (.tmp 57) (.tmp 60) rfl (.agg (blkC num16 zT).toArray) (.slice am KM cm) (.slice al KL cl) _ rfl rfl rfl (build_trie _ zT HT2.out _ _ rfl rfl)) (fun _ => HC.out) ?_
  simp only [List.getElem_toArray, List.getElem_cons_zero, List.getElem_cons_succ, Act.put, List.setIfInBounds_toArray, List.set_cons_zero, List.set_cons_succ]
  refine anyC_r2 (i := 11) (i' := 12) (by kernel_rfl) ?_ ?_
  obtain ⟨hb, hc⟩ : Below v2.heap.size v2 (v2.alloc (.cells (zT.map num16 ++ [Value.slice am KM cm, Value.slice al KL cl]).toArray 114)) ∧ (v2.alloc (.cells (zT.map num16 ++ [Value.slice am KM cm, Value.slice al KL cl]).toArray 114)).heap[v2.heap.size]? = some (.cells (zT.map num16 ++ [Value.slice am KM cm, Value.slice al KL cl]).toArray 114 (0, 0)) := ⟨(Below.refl _ _).alloc (Nat.le_refl _) _, heap_alloc_new _ _⟩
  refine stepV (i := 11) (v := .pointer (some ⟨v2.heap.size, 0, none⟩)) (w' := v2.alloc (.cells (zT.map num16 ++ [Value.slice am KM cm, Value.slice al KL cl]).toArray 114)) rfl (by rfl) (fun _ _ => trivial) (by rfl) (by rfl) (fun _ => HC.out.below hb) ?_
  generalize v2.alloc (.cells (zT.map num16 ++ [Value.slice am KM cm, Value.slice al KL cl]).toArray 114) = v3 at *
  have hgs : w1.heap.size ≤ v2.heap.size := HB0.out.size
  have HC : Hid (FrC bx bt_ ot bm om bl ol cT (64 * KM) cM (64 * KL) cL zT v3) := Lib.hid (HC.out.below hb)
  have HB0 : Hid (Below w1.heap.size w1 v3) := Lib.hid (HB0.out.trans (hb.mono HB0.out.size))
  have Hm : Hid (BlocksAt num16 64 v3 am (VN.cksL zM KM)) := Lib.hid (Hm.out.below hb (Nat.le_refl _))
  have Hl : Hid (BlocksAt val8 64 v3 al (cksL zL KL)) := Lib.hid (Hl.out.below hb (Nat.le_refl _))
  obtain ⟨g, hg⟩ : ∃ g, g = v2.heap.size := ⟨_, rfl⟩
  rw [← hg] at hc hgs ⊢
  have Hg := Lib.hid (And.intro hc hgs)
  clear hc hgs hb hg
  simp only [List.getElem_toArray, List.getElem_cons_zero, List.getElem_cons_succ, Act.put, List.setIfInBounds_toArray, List.set_cons_zero, List.set_cons_succ]
  refine anyC_r1 (i := 12) (by kernel_rfl) ?_
  obtain ⟨hb, hc, hz⟩ := box_fact v3 (.pointer none) 26
  refine stepV (i := 12) (v := .pointer (some ⟨v3.heap.size, 0, none⟩)) (w' := v3.alloc (.cells #[.pointer none] 26)) rfl (by rfl) (fun _ _ => trivial) (by rfl) (by kernel_rfl) (fun _ => HC.out.below hb) ?_
  generalize v3.alloc (.cells #[.pointer none] 26) = v4 at *
  have hws : w1.heap.size ≤ v3.heap.size := HB0.out.size
  have HC : Hid (FrC bx bt_ ot bm om bl ol cT (64 * KM) cM (64 * KL) cL zT v4) := Lib.hid (HC.out.below hb)
  have HB0 : Hid (Below w1.heap.size w1 v4) := Lib.hid (HB0.out.trans (hb.mono HB0.out.size))
  have Hm : Hid (BlocksAt num16 64 v4 am (VN.cksL zM KM)) := Lib.hid (Hm.out.below hb (Nat.le_refl _))
  have Hl : Hid (BlocksAt val8 64 v4 al (cksL zL KL)) := Lib.hid (Hl.out.below hb (Nat.le_refl _))
  have Hg : Hid (v4.heap[g]? = some (.cells (zT.map num16 ++ [Value.slice am KM cm, Value.slice al KL cl]).toArray 114 (0, 0)) ∧ w1.heap.size ≤ g) := Lib.hid ⟨(hb.block g (Array.getElem?_eq_some_iff.1 Hg.out.1).1).trans Hg.out.1, Hg.out.2⟩
  obtain ⟨bt, hbt⟩ : ∃ bt, bt = v3.heap.size := ⟨_, rfl⟩
  rw [← hbt] at hc ⊢
  have Hb := Lib.hid (And.intro hc (show w1.heap.size ≤ bt by rw [hbt]; exact hws))
  clear hc hz hb hbt hws
  simp only [List.getElem_toArray, List.getElem_cons_zero, List.getElem_cons_succ, Act.put, List.setIfInBounds_toArray, List.set_cons_zero, List.set_cons_succ]
  refine anyC_r1 (i := 13) (by kernel_rfl) ?_
  refine stepS (i := 13) (w' := v4.setRow bt #[.pointer (some ⟨g, 0, none⟩)]) rfl (by rfl) (fun _ _ => trivial) (by rfl) (exec_store1 26 (.tmp 4) (.tmp 62) rfl bt (.pointer (some ⟨g, 0, none⟩)) rfl rfl rfl 26 _ Hb.out.1 (by kernel_rfl)) (fun h => absurd (by simp) h) ?_
  simp only [List.getElem_toArray, List.getElem_cons_zero, List.getElem_cons_succ, Act.put, List.setIfInBounds_toArray, List.set_cons_zero, List.set_cons_succ]
  obtain ⟨v9, hv9⟩ : ∃ v9, v9 = v4 := ⟨_, rfl⟩
  rw [← hv9] at HC HB0 Hm Hl Hb Hg ⊢
  clear hv9
  refine ⟨by kernel_rfl, ?_⟩
  rotate_left
  obtain ⟨hb, hc, hz⟩ := box_fact v2 (.pointer none) 26
  refine stepV (i := 12) (v := .pointer (some ⟨v2.heap.size, 0, none⟩)) (w' := v2.alloc (.cells #[.pointer none] 26)) rfl (by rfl) (fun _ _ => trivial) (by rfl) (by kernel_rfl) (fun _ => HC.out.below hb) ?_
  generalize v2.alloc (.cells #[.pointer none] 26) = v5 at *
  have hws : w1.heap.size ≤ v2.heap.size := HB0.out.size
  have HC : Hid (FrC bx bt_ ot bm om bl ol cT (64 * KM) cM (64 * KL) cL zT v5) := Lib.hid (HC.out.below hb)
  have HB0 : Hid (Below w1.heap.size w1 v5) := Lib.hid (HB0.out.trans (hb.mono HB0.out.size))
  have Hm : Hid (BlocksAt num16 64 v5 am (VN.cksL zM KM)) := Lib.hid (Hm.out.below hb (Nat.le_refl _))
  have Hl : Hid (BlocksAt val8 64 v5 al (cksL zL KL)) := Lib.hid (Hl.out.below hb (Nat.le_refl _))
  obtain ⟨bt, hbt⟩ : ∃ bt, bt = v2.heap.size := ⟨_, rfl⟩
  rw [← hbt] at hc ⊢
  have Hb := Lib.hid (And.intro hc (show w1.heap.size ≤ bt by rw [hbt]; exact hws))
  clear hc hz hb hbt hws
  simp only [List.getElem_toArray, List.getElem_cons_zero, List.getElem_cons_succ, Act.put, List.setIfInBounds_toArray, List.set_cons_zero, List.set_cons_succ]
  refine anyC_r1 (i := 11) (by kernel_rfl) ?_
  obtain ⟨hb, hc⟩ : Below v5.heap.size v5 (v5.alloc (.cells (zT.map num16 ++ [Value.slice am KM cm, Value.slice al KL cl]).toArray 114)) ∧ (v5.alloc (.cells (zT.map num16 ++ [Value.slice am KM cm, Value.slice al KL cl]).toArray 114)).heap[v5.heap.size]? = some (.cells (zT.map num16 ++ [Value.slice am KM cm, Value.slice al KL cl]).toArray 114 (0, 0)) := ⟨(Below.refl _ _).alloc (Nat.le_refl _) _, heap_alloc_new _ _⟩
  refine stepV (i := 11) (v := .pointer (some ⟨v5.heap.size, 0, none⟩)) (w' := v5.alloc (.cells (zT.map num16 ++ [Value.slice am KM cm, Value.slice al KL cl]).toArray 114)) rfl (by rfl) (fun _ _ => trivial) (by rfl) (by rfl) (fun _ => HC.out.below hb) ?_
  generalize v5.alloc (.cells (zT.map num16 ++ [Value.slice am KM cm, Value.slice al KL cl]).toArray 114) = v6 at *
  have hgs : w1.heap.size ≤ v5.heap.size := HB0.out.size
  have HC : Hid (FrC bx bt_ ot bm om bl ol cT (64 * KM) cM (64 * KL) cL zT v6) := Lib.hid (HC.out.below hb)
  have HB0 : Hid (Below w1.heap.size w1 v6) := Lib.hid (HB0.out.trans (hb.mono HB0.out.size))
  have Hm : Hid (BlocksAt num16 64 v6 am (VN.cksL zM KM)) := Lib.hid (Hm.out.below hb (Nat.le_refl _))
  have Hl : Hid (BlocksAt val8 64 v6 al (cksL zL KL)) := Lib.hid (Hl.out.below hb (Nat.le_refl _))
  have Hb : Hid (v6.heap[bt]? = some (.cells #[.pointer none] 26 (0, 0)) ∧ w1.heap.size ≤ bt) := Lib.hid ⟨(hb.block bt (Array.getElem?_eq_some_iff.1 Hb.out.1).1).trans Hb.out.1, Hb.out.2⟩
  obtain ⟨g, hg⟩ : ∃ g, g = v5.heap.size := ⟨_, rfl⟩
  rw [← hg] at hc hgs ⊢
  have Hg := Lib.hid (And.intro hc hgs)
  clear hc hgs hb hg
  simp only [List.getElem_toArray, List.getElem_cons_zero, List.getElem_cons_succ, Act.put, List.setIfInBounds_toArray, List.set_cons_zero, List.set_cons_succ]
  refine anyC_r1 (i := 13) (by kernel_rfl) ?_
  refine stepS (i := 13) (w' := v6.setRow bt #[.pointer (some ⟨g, 0, none⟩)]) rfl (by rfl) (fun _ _ => trivial) (by rfl) (exec_store1 26 (.tmp 4) (.tmp 62) rfl bt (.pointer (some ⟨g, 0, none⟩)) rfl rfl rfl 26 _ Hb.out.1 (by kernel_rfl)) (fun h => absurd (by simp) h) ?_
  simp only [List.getElem_toArray, List.getElem_cons_zero, List.getElem_cons_succ, Act.put, List.setIfInBounds_toArray, List.set_cons_zero, List.set_cons_succ]
  obtain ⟨v9, hv9⟩ : ∃ v9, v9 = v6 := ⟨_, rfl⟩
  rw [← hv9] at HC HB0 Hm Hl Hb Hg ⊢
  clear hv9
  refine ⟨by kernel_rfl, ?_⟩
  rotate_left
  obtain ⟨hb, hc, hz⟩ := box_fact v2 (.pointer none) 26
  refine stepV (i := 12) (v := .pointer (some ⟨v2.heap.size, 0, none⟩)) (w' := v2.alloc (.cells #[.pointer none] 26)) rfl (by rfl) (fun _ _ => trivial) (by rfl) (by kernel_rfl) (fun _ => HC.out.below hb) ?_
  generalize v2.alloc (.cells #[.pointer none] 26) = v7 at *
  have hws : w1.heap.size ≤ v2.heap.size := HB0.out.size
  have HC : Hid (FrC bx bt_ ot bm om bl ol cT (64 * KM) cM (64 * KL) cL zT v7) := Lib.hid (HC.out.below hb)
  have HB0 : Hid (Below w1.heap.size w1 v7) := Lib.hid (HB0.out.trans (hb.mono HB0.out.size))
  have Hm : Hid (BlocksAt num16 64 v7 am (VN.cksL zM KM)) := Lib.hid (Hm.out.below hb (Nat.le_refl _))
  have Hl : Hid (BlocksAt val8 64 v7 al (cksL zL KL)) := Lib.hid (Hl.out.below hb (Nat.le_refl _))
  obtain ⟨bt, hbt⟩ : ∃ bt, bt = v2.heap.size := ⟨_, rfl⟩
  rw [← hbt] at hc ⊢
  have Hb := Lib.hid (And.intro hc (show w1.heap.size ≤ bt by rw [hbt]; exact hws))
  clear hc hz hb hbt hws
  simp only [List.getElem_toArray, List.getElem_cons_zero, List.getElem_cons_succ, Act.put, List.setIfInBounds_toArray, List.set_cons_zero, List.set_cons_succ]
  refine anyC_r1 (i := 10) (by kernel_rfl) ?_
  refine stepV (i := 10) (v := .agg (zT.map num16 ++ [Value.slice am KM cm, Value.slice al KL cl]).toArray) (w' := v7) rfl (by rfl) (fun _ _ => trivial) (by rfl) (exec_build3 114 (.tmp 54) (.tmp 57) (.tmp 60) rfl (.agg (blkC num16 zT).toArray) (.slice am KM cm) (.slice al KL cl) _ rfl rfl rfl (build_trie _ zT HT2.out _ _ rfl rfl)) (fun _ => HC.out) ?_
  simp only [List.getElem_toArray, List.getElem_cons_zero, List.getElem_cons_succ, Act.put, List.setIfInBounds_toArray, List.set_cons_zero, List.set_cons_succ]
  refine anyC_r1 (i := 11) (by kernel_rfl) ?_
  obtain ⟨hb, hc⟩ : Below v7.heap.size v7 (v7.alloc (.cells (zT.map num16 ++ [Value.slice am KM cm, Value.slice al KL cl]).toArray 114)) ∧ (v7.alloc (.cells (zT.map num16 ++ [Value.slice am KM cm, Value.slice al KL cl]).toArray 114)).heap[v7.heap.size]? = some (.cells (zT.map num16 ++ [Value.slice am KM cm, Value.slice al KL cl]).toArray 114 (0, 0)) := ⟨(Below.refl _ _).alloc (Nat.le_refl _) _, heap_alloc_new _ _⟩
  refine stepV (i := 11) (v := .pointer (some ⟨v7.heap.size, 0, none⟩)) (w' := v7.alloc (.cells (zT.map num16 ++ [Value.slice am KM cm, Value.slice al KL cl]).toArray 114)) rfl (by rfl) (fun _ _ => trivial) (by rfl) (by rfl) (fun _ => HC.out.below hb) ?_
  generalize v7.alloc (.cells (zT.map num16 ++ [Value.slice am KM cm, Value.slice al KL cl]).toArray 114) = v8 at *
  have hgs : w1.heap.size ≤ v7.heap.size := HB0.out.size
  have HC : Hid (FrC bx bt_ ot bm om bl ol cT (64 * KM) cM (64 * KL) cL zT v8) := Lib.hid (HC.out.below hb)
  have HB0 : Hid (Below w1.heap.size w1 v8) := Lib.hid (HB0.out.trans (hb.mono HB0.out.size))
  have Hm : Hid (BlocksAt num16 64 v8 am (VN.cksL zM KM)) := Lib.hid (Hm.out.below hb (Nat.le_refl _))
  have Hl : Hid (BlocksAt val8 64 v8 al (cksL zL KL)) := Lib.hid (Hl.out.below hb (Nat.le_refl _))
  have Hb : Hid (v8.heap[bt]? = some (.cells #[.pointer none] 26 (0, 0)) ∧ w1.heap.size ≤ bt) := Lib.hid ⟨(hb.block bt (Array.getElem?_eq_some_iff.1 Hb.out.1).1).trans Hb.out.1, Hb.out.2⟩
  obtain ⟨g, hg⟩ : ∃ g, g = v7.heap.size := ⟨_, rfl⟩
  rw [← hg] at hc hgs ⊢
  have Hg := Lib.hid (And.intro hc hgs)
  clear hc hgs hb hg
  simp only [List.getElem_toArray, List.getElem_cons_zero, List.getElem_cons_succ, Act.put, List.setIfInBounds_toArray, List.set_cons_zero, List.set_cons_succ]
  refine anyC_r1 (i := 13) (by kernel_rfl) ?_
  refine stepS (i := 13) (w' := v8.setRow bt #[.pointer (some ⟨g, 0, none⟩)]) rfl (by rfl) (fun _ _ => trivial) (by rfl) (exec_store1 26 (.tmp 4) (.tmp 62) rfl bt (.pointer (some ⟨g, 0, none⟩)) rfl rfl rfl 26 _ Hb.out.1 (by kernel_rfl)) (fun h => absurd (by simp) h) ?_
  simp only [List.getElem_toArray, List.getElem_cons_zero, List.getElem_cons_succ, Act.put, List.setIfInBounds_toArray, List.set_cons_zero, List.set_cons_succ]
  obtain ⟨v9, hv9⟩ : ∃ v9, v9 = v8 := ⟨_, rfl⟩
  rw [← hv9] at HC HB0 Hm Hl Hb Hg ⊢
  clear hv9
  refine ⟨by kernel_rfl, ?_⟩
  rotate_left
  obtain ⟨hb, hc, hz⟩ := box_fact v1 (.pointer none) 26
  refine stepV (i := 12) (v := .pointer (some ⟨v1.heap.size, 0, none⟩)) (w' := v1.alloc (.cells #[.pointer none] 26)) rfl (by rfl) (fun _ _ => trivial) (by rfl) (by kernel_rfl) (fun _ => HC.out.below hb) ?_
  generalize v1.alloc (.cells #[.pointer none] 26) = v9 at *
  have hws : w1.heap.size ≤ v1.heap.size := HB0.out.size
  have HC : Hid (FrC bx bt_ ot bm om bl ol cT (64 * KM) cM (64 * KL) cL zT v9) := Lib.hid (HC.out.below hb)
  have HB0 : Hid (Below w1.heap.size w1 v9) := Lib.hid (HB0.out.trans (hb.mono HB0.out.size))
  have Hm : Hid (BlocksAt num16 64 v9 am (VN.cksL zM KM)) := Lib.hid (Hm.out.below hb (Nat.le_refl _))
  obtain ⟨bt, hbt⟩ : ∃ bt, bt = v1.heap.size := ⟨_, rfl⟩
  rw [← hbt] at hc ⊢
  have Hb := Lib.hid (And.intro hc (show w1.heap.size ≤ bt by rw [hbt]; exact hws))
  clear hc hz hb hbt hws
  simp only [List.getElem_toArray, List.getElem_cons_zero, List.getElem_cons_succ, Act.put, List.setIfInBounds_toArray, List.set_cons_zero, List.set_cons_succ]
  refine anyC_r1 (i := 9) (by kernel_rfl) ?_
  refine stepCall (i := 9) rfl (by rfl) (by rfl) (fun _ _ => trivial) (exec_call1 91 (.tmp 59) _ rfl (.slice (some ⟨bl, ol, none⟩) (64 * KL) cL) rfl (enters_of Try.func91 (by kernel_rfl) rfl)) (fun h => by cases h) ?_
  have hw1v : w1.heap.size ≤ v9.heap.size := HB0.out.size
  refine callsIn_wide.2 ?_
  refine (cut_walk v9 bl ol cL KL zL (by omega) HBd.out.2.1 HBd.out.2.2 HL2.out (rangeAt_below HR2.out HB0.out (Nat.le_refl _)) (Nat.lt_of_lt_of_le hbl HB0.out.size)).mono ?_
  rintro e v10 ⟨al, cl, rfl, ho, hb⟩
  refine ⟨_, rfl, fun _ => HC.out.below hb, ?_⟩
  have HC : Hid (FrC bx bt_ ot bm om bl ol cT (64 * KM) cM (64 * KL) cL zT v10) := Lib.hid (HC.out.below hb)
  have HB0 : Hid (Below w1.heap.size w1 v10) := Lib.hid (HB0.out.trans (hb.mono HB0.out.size))
  have Hm : Hid (BlocksAt num16 64 v10 am (VN.cksL zM KM)) := Lib.hid (Hm.out.below hb (Nat.le_refl _))
  have Hb : Hid (v10.heap[bt]? = some (.cells #[.pointer none] 26 (0, 0)) ∧ w1.heap.size ≤ bt) := Lib.hid ⟨(hb.block bt (Array.getElem?_eq_some_iff.1 Hb.out.1).1).trans Hb.out.1, Hb.out.2⟩
  have Hl : Hid (BlocksAt val8 64 v10 al (cksL zL KL)) := Lib.hid (blocks_of_row (B := v9.heap.size) (m := 64) (E := 119) (c := cl) (by rw [cksL_length]; exact ho) (fun l hl => by rw [blkC_length (sz := 1) (fun _ => rfl)]; obtain ⟨q, hq, rfl⟩ := List.mem_map.1 hl; rw [ckL_length zL KL q HL2.out (List.mem_range.1 hq)]))
  have HalB : Hid (∀ x, al = some x → w1.heap.size ≤ x.block) := Lib.hid (fun x e => by have := (World.ownsRow.lt ho x.block (by rw [e]; rfl)).1; omega)
  clear ho hb hw1v
  simp only [List.getElem_toArray, List.getElem_cons_zero, List.getElem_cons_succ, Act.put, List.setIfInBounds_toArray, List.set_cons_zero, List.set_cons_succ]
  refine anyC_r1 (i := 10) (by kernel_rfl) ?_
  refine stepV (i := 10) (v := .agg (zT.map num16 ++ [Value.slice am KM cm, Value.slice al KL cl]).toArray) (w' := v10) rfl (by rfl) (fun _ _ => trivial) (by rfl) (exec_build3 114 (.tmp 54) (.tmp 57) (.tmp 60) rfl (.agg (blkC num16 zT).toArray) (.slice am KM cm) (.slice al KL cl) _ rfl rfl rfl (build_trie _ zT HT2.out _ _ rfl rfl)) (fun _ => HC.out) ?_
  simp only [List.getElem_toArray, List.getElem_cons_zero, List.getElem_cons_succ, Act.put, List.setIfInBounds_toArray, List.set_cons_zero, List.set_cons_succ]
  refine anyC_r1 (i := 11) (by kernel_rfl) ?_
  obtain ⟨hb, hc⟩ : Below v10.heap.size v10 (v10.alloc (.cells (zT.map num16 ++ [Value.slice am KM cm, Value.slice al KL cl]).toArray 114)) ∧ (v10.alloc (.cells (zT.map num16 ++ [Value.slice am KM cm, Value.slice al KL cl]).toArray 114)).heap[v10.heap.size]? = some (.cells (zT.map num16 ++ [Value.slice am KM cm, Value.slice al KL cl]).toArray 114 (0, 0)) := ⟨(Below.refl _ _).alloc (Nat.le_refl _) _, heap_alloc_new _ _⟩
  refine stepV (i := 11) (v := .pointer (some ⟨v10.heap.size, 0, none⟩)) (w' := v10.alloc (.cells (zT.map num16 ++ [Value.slice am KM cm, Value.slice al KL cl]).toArray 114)) rfl (by rfl) (fun _ _ => trivial) (by rfl) (by rfl) (fun _ => HC.out.below hb) ?_
  generalize v10.alloc (.cells (zT.map num16 ++ [Value.slice am KM cm, Value.slice al KL cl]).toArray 114) = v11 at *
  have hgs : w1.heap.size ≤ v10.heap.size := HB0.out.size
  have HC : Hid (FrC bx bt_ ot bm om bl ol cT (64 * KM) cM (64 * KL) cL zT v11) := Lib.hid (HC.out.below hb)
  have HB0 : Hid (Below w1.heap.size w1 v11) := Lib.hid (HB0.out.trans (hb.mono HB0.out.size))
  have Hm : Hid (BlocksAt num16 64 v11 am (VN.cksL zM KM)) := Lib.hid (Hm.out.below hb (Nat.le_refl _))
  have Hl : Hid (BlocksAt val8 64 v11 al (cksL zL KL)) := Lib.hid (Hl.out.below hb (Nat.le_refl _))
  have Hb : Hid (v11.heap[bt]? = some (.cells #[.pointer none] 26 (0, 0)) ∧ w1.heap.size ≤ bt) := Lib.hid ⟨(hb.block bt (Array.getElem?_eq_some_iff.1 Hb.out.1).1).trans Hb.out.1, Hb.out.2⟩
  obtain ⟨g, hg⟩ : ∃ g, g = v10.heap.size := ⟨_, rfl⟩
  rw [← hg] at hc hgs ⊢
  have Hg := Lib.hid (And.intro hc hgs)
  clear hc hgs hb hg
  simp only [List.getElem_toArray, List.getElem_cons_zero, List.getElem_cons_succ, Act.put, List.setIfInBounds_toArray, List.set_cons_zero, List.set_cons_succ]
  refine anyC_r1 (i := 13) (by kernel_rfl) ?_
  refine stepS (i := 13) (w' := v11.setRow bt #[.pointer (some ⟨g, 0, none⟩)]) rfl (by rfl) (fun _ _ => trivial) (by rfl) (exec_store1 26 (.tmp 4) (.tmp 62) rfl bt (.pointer (some ⟨g, 0, none⟩)) rfl rfl rfl 26 _ Hb.out.1 (by kernel_rfl)) (fun h => absurd (by simp) h) ?_
  simp only [List.getElem_toArray, List.getElem_cons_zero, List.getElem_cons_succ, Act.put, List.setIfInBounds_toArray, List.set_cons_zero, List.set_cons_succ]
  obtain ⟨v9, hv9⟩ : ∃ v9, v9 = v11 := ⟨_, rfl⟩
  rw [← hv9] at HC HB0 Hm Hl Hb Hg ⊢
  clear hv9
  refine ⟨by kernel_rfl, ?_⟩
  rotate_left
  obtain ⟨hb, hc, hz⟩ := box_fact v0 (.pointer none) 26
  refine stepV (i := 12) (v := .pointer (some ⟨v0.heap.size, 0, none⟩)) (w' := v0.alloc (.cells #[.pointer none] 26)) rfl (by rfl) (fun _ _ => trivial) (by rfl) (by kernel_rfl) (fun _ => HC.out.below hb) ?_
  generalize v0.alloc (.cells #[.pointer none] 26) = v12 at *
  have hws : w1.heap.size ≤ v0.heap.size := HB0.out.size
  have HC : Hid (FrC bx bt_ ot bm om bl ol cT (64 * KM) cM (64 * KL) cL zT v12) := Lib.hid (HC.out.below hb)
  have HB0 : Hid (Below w1.heap.size w1 v12) := Lib.hid (HB0.out.trans (hb.mono HB0.out.size))
  obtain ⟨bt, hbt⟩ : ∃ bt, bt = v0.heap.size := ⟨_, rfl⟩
  rw [← hbt] at hc ⊢
  have Hb := Lib.hid (And.intro hc (show w1.heap.size ≤ bt by rw [hbt]; exact hws))
  clear hc hz hb hbt hws
  simp only [List.getElem_toArray, List.getElem_cons_zero, List.getElem_cons_succ, Act.put, List.setIfInBounds_toArray, List.set_cons_zero, List.set_cons_succ]
  refine anyC_r1 (i := 6) (by kernel_rfl) ?_
  refine stepCall (i := 6) rfl (by rfl) (by rfl) (fun _ _ => trivial) (exec_call1 90 (.tmp 56) _ rfl (.slice (some ⟨bm, om, none⟩) (64 * KM) cM) rfl (enters_of Try.func90 (by kernel_rfl) rfl)) (fun h => by cases h) ?_
  have hw1v : w1.heap.size ≤ v12.heap.size := HB0.out.size
  refine callsIn_wide.2 ?_
  refine (VN.cut_walk v12 bm om cM KM zM (by omega) HBd.out.1.1 HBd.out.1.2 HM2.out (rangeAt_below HR1.out HB0.out (Nat.le_refl _)) (Nat.lt_of_lt_of_le hbm HB0.out.size)).mono ?_
  rintro e v13 ⟨am, cm, rfl, ho, hb⟩
  refine ⟨_, rfl, fun _ => HC.out.below hb, ?_⟩
  have HC : Hid (FrC bx bt_ ot bm om bl ol cT (64 * KM) cM (64 * KL) cL zT v13) := Lib.hid (HC.out.below hb)
  have HB0 : Hid (Below w1.heap.size w1 v13) := Lib.hid (HB0.out.trans (hb.mono HB0.out.size))
  have Hb : Hid (v13.heap[bt]? = some (.cells #[.pointer none] 26 (0, 0)) ∧ w1.heap.size ≤ bt) := Lib.hid ⟨(hb.block bt (Array.getElem?_eq_some_iff.1 Hb.out.1).1).trans Hb.out.1, Hb.out.2⟩
  have Hm : Hid (BlocksAt num16 64 v13 am (VN.cksL zM KM)) := Lib.hid (blocks_of_row (B := v12.heap.size) (m := 64) (E := 120) (c := cm) (by rw [VN.cksL_length]; exact ho) (fun l hl => by rw [blkC_length (sz := 1) (fun _ => rfl)]; obtain ⟨q, hq, rfl⟩ := List.mem_map.1 hl; rw [VN.ckL_length zM KM q HM2.out (List.mem_range.1 hq)]))
  have HamB : Hid (∀ x, am = some x → w1.heap.size ≤ x.block) := Lib.hid (fun x e => by have := (World.ownsRow.lt ho x.block (by rw [e]; rfl)).1; omega)
  clear ho hb hw1v
  simp only [List.getElem_toArray, List.getElem_cons_zero, List.getElem_cons_succ, Act.put, List.setIfInBounds_toArray, List.set_cons_zero, List.set_cons_succ]
  refine anyC_r1 (i := 9) (by kernel_rfl) ?_
  refine stepCall (i := 9) rfl (by rfl) (by rfl) (fun _ _ => trivial) (exec_call1 91 (.tmp 59) _ rfl (.slice (some ⟨bl, ol, none⟩) (64 * KL) cL) rfl (enters_of Try.func91 (by kernel_rfl) rfl)) (fun h => by cases h) ?_
  have hw1v : w1.heap.size ≤ v13.heap.size := HB0.out.size
  refine callsIn_wide.2 ?_
  refine (cut_walk v13 bl ol cL KL zL (by omega) HBd.out.2.1 HBd.out.2.2 HL2.out (rangeAt_below HR2.out HB0.out (Nat.le_refl _)) (Nat.lt_of_lt_of_le hbl HB0.out.size)).mono ?_
  rintro e v14 ⟨al, cl, rfl, ho, hb⟩
  refine ⟨_, rfl, fun _ => HC.out.below hb, ?_⟩
  have HC : Hid (FrC bx bt_ ot bm om bl ol cT (64 * KM) cM (64 * KL) cL zT v14) := Lib.hid (HC.out.below hb)
  have HB0 : Hid (Below w1.heap.size w1 v14) := Lib.hid (HB0.out.trans (hb.mono HB0.out.size))
  have Hm : Hid (BlocksAt num16 64 v14 am (VN.cksL zM KM)) := Lib.hid (Hm.out.below hb (Nat.le_refl _))
  have Hb : Hid (v14.heap[bt]? = some (.cells #[.pointer none] 26 (0, 0)) ∧ w1.heap.size ≤ bt) := Lib.hid ⟨(hb.block bt (Array.getElem?_eq_some_iff.1 Hb.out.1).1).trans Hb.out.1, Hb.out.2⟩
  have Hl : Hid (BlocksAt val8 64 v14 al (cksL zL KL)) := Lib.hid (blocks_of_row (B := v13.heap.size) (m := 64) (E := 119) (c := cl) (by rw [cksL_length]; exact ho) (fun l hl => by rw [blkC_length (sz := 1) (fun _ => rfl)]; obtain ⟨q, hq, rfl⟩ := List.mem_map.1 hl; rw [ckL_length zL KL q HL2.out (List.mem_range.1 hq)]))
  have HalB : Hid (∀ x, al = some x → w1.heap.size ≤ x.block) := Lib.hid (fun x e => by have := (World.ownsRow.lt ho x.block (by rw [e]; rfl)).1; omega)
  clear ho hb hw1v
  simp only [List.getElem_toArray, List.getElem_cons_zero, List.getElem_cons_succ, Act.put, List.setIfInBounds_toArray, List.set_cons_zero, List.set_cons_succ]
  refine anyC_r1 (i := 10) (by kernel_rfl) ?_
  refine stepV (i := 10) (v := .agg (zT.map num16 ++ [Value.slice am KM cm, Value.slice al KL cl]).toArray) (w' := v14) rfl (by rfl) (fun _ _ => trivial) (by rfl) (exec_build3 114 (.tmp 54) (.tmp 57) (.tmp 60) rfl (.agg (blkC num16 zT).toArray) (.slice am KM cm) (.slice al KL cl) _ rfl rfl rfl (build_trie _ zT HT2.out _ _ rfl rfl)) (fun _ => HC.out) ?_
  simp only [List.getElem_toArray, List.getElem_cons_zero, List.getElem_cons_succ, Act.put, List.setIfInBounds_toArray, List.set_cons_zero, List.set_cons_succ]
  refine anyC_r1 (i := 11) (by kernel_rfl) ?_
  obtain ⟨hb, hc⟩ : Below v14.heap.size v14 (v14.alloc (.cells (zT.map num16 ++ [Value.slice am KM cm, Value.slice al KL cl]).toArray 114)) ∧ (v14.alloc (.cells (zT.map num16 ++ [Value.slice am KM cm, Value.slice al KL cl]).toArray 114)).heap[v14.heap.size]? = some (.cells (zT.map num16 ++ [Value.slice am KM cm, Value.slice al KL cl]).toArray 114 (0, 0)) := ⟨(Below.refl _ _).alloc (Nat.le_refl _) _, heap_alloc_new _ _⟩
  refine stepV (i := 11) (v := .pointer (some ⟨v14.heap.size, 0, none⟩)) (w' := v14.alloc (.cells (zT.map num16 ++ [Value.slice am KM cm, Value.slice al KL cl]).toArray 114)) rfl (by rfl) (fun _ _ => trivial) (by rfl) (by rfl) (fun _ => HC.out.below hb) ?_
  generalize v14.alloc (.cells (zT.map num16 ++ [Value.slice am KM cm, Value.slice al KL cl]).toArray 114) = v15 at *
  have hgs : w1.heap.size ≤ v14.heap.size := HB0.out.size
  have HC : Hid (FrC bx bt_ ot bm om bl ol cT (64 * KM) cM (64 * KL) cL zT v15) := Lib.hid (HC.out.below hb)
  have HB0 : Hid (Below w1.heap.size w1 v15) := Lib.hid (HB0.out.trans (hb.mono HB0.out.size))
  have Hm : Hid (BlocksAt num16 64 v15 am (VN.cksL zM KM)) := Lib.hid (Hm.out.below hb (Nat.le_refl _))
  have Hl : Hid (BlocksAt val8 64 v15 al (cksL zL KL)) := Lib.hid (Hl.out.below hb (Nat.le_refl _))
  have Hb : Hid (v15.heap[bt]? = some (.cells #[.pointer none] 26 (0, 0)) ∧ w1.heap.size ≤ bt) := Lib.hid ⟨(hb.block bt (Array.getElem?_eq_some_iff.1 Hb.out.1).1).trans Hb.out.1, Hb.out.2⟩
  obtain ⟨g, hg⟩ : ∃ g, g = v14.heap.size := ⟨_, rfl⟩
  rw [← hg] at hc hgs ⊢
  have Hg := Lib.hid (And.intro hc hgs)
  clear hc hgs hb hg
  simp only [List.getElem_toArray, List.getElem_cons_zero, List.getElem_cons_succ, Act.put, List.setIfInBounds_toArray, List.set_cons_zero, List.set_cons_succ]
  refine anyC_r1 (i := 13) (by kernel_rfl) ?_
  refine stepS (i := 13) (w' := v15.setRow bt #[.pointer (some ⟨g, 0, none⟩)]) rfl (by rfl) (fun _ _ => trivial) (by rfl) (exec_store1 26 (.tmp 4) (.tmp 62) rfl bt (.pointer (some ⟨g, 0, none⟩)) rfl rfl rfl 26 _ Hb.out.1 (by kernel_rfl)) (fun h => absurd (by simp) h) ?_
  simp only [List.getElem_toArray, List.getElem_cons_zero, List.getElem_cons_succ, Act.put, List.setIfInBounds_toArray, List.set_cons_zero, List.set_cons_succ]
  obtain ⟨v9, hv9⟩ : ∃ v9, v9 = v15 := ⟨_, rfl⟩
  rw [← hv9] at HC HB0 Hm Hl Hb Hg ⊢
  clear hv9
  refine ⟨by kernel_rfl, ?_⟩
  rotate_left
  all_goals
    have hgb : g ≠ bt := fun e => by
      have h1 := Hg.out.1
      rw [e, Hb.out.1] at h1
      simp only [Option.some.injEq, Obj.cells.injEq] at h1
      have := congrArg Array.size h1.1
      simp at this
    have HTr : Hid (fromT zT zM zL = ⟨zT, VN.cksL zM KM, cksL zL KL⟩) := Lib.hid (by unfold fromT; rw [HM2.out, HL2.out, show 64 * KM / 64 = KM by omega, show 64 * KL / 64 = KL by omega])
    obtain ⟨W, hW⟩ : ∃ W, W = v9.setRow bt #[.pointer (some ⟨g, 0, none⟩)] := ⟨_, rfl⟩
    have hWb : W.heap[bt]? = some (.cells #[.pointer (some ⟨g, 0, none⟩)] 26 (0, 0)) := by rw [hW]; exact setRow_heap v9 bt _ _ _ _ Hb.out.1
    have HFr : Hid (FrAt W g bt ⟨zT, VN.cksL zM KM, cksL zL KL⟩) := Lib.hid (by
      refine ⟨⟨am, cm, al, cl, ?_, ?_, ?_⟩, HT2.out, fun m hm => ?_, fun l hl => ?_, by rw [VN.cksL_length]; omega, by rw [cksL_length]; omega, box_cell hWb⟩
      · rw [hW, setRow_other v9 bt g _ hgb, Hg.out.1]
        simp [trieC, VN.cksL_length, cksL_length]
      · rw [hW]; exact blocks_setNil Hb.out.1 _ Hm.out (fun l x hx => by rw [blkC16_map] at hx; obtain ⟨y, -, rfl⟩ := List.mem_map.1 hx; exact fun h => by cases h)
      · rw [hW]; exact blocks_setNil Hb.out.1 _ Hl.out (fun l x hx => by rw [blkC8_map] at hx; obtain ⟨y, -, rfl⟩ := List.mem_map.1 hx; exact fun h => by unfold val8 at h; cases h)
      · obtain ⟨q, hq, rfl⟩ := List.mem_map.1 hm; exact VN.ckL_length zM KM q HM2.out (List.mem_range.1 hq)
      · obtain ⟨q, hq, rfl⟩ := List.mem_map.1 hl; exact ckL_length zL KL q HL2.out (List.mem_range.1 hq))
    have HFar : Hid (TrieFar 114 W g ⟨zT, VN.cksL zM KM, cksL zL KL⟩ w1.heap.size) := Lib.hid (by
      refine ⟨Hg.out.2, am, cm, al, cl, ?_, HamB.out, HalB.out⟩
      rw [hW, setRow_other v9 bt g _ hgb, Hg.out.1]
      simp [trieC, VN.cksL_length, cksL_length])
    have HP : Hid (W.cell? ⟨bx, 0, none⟩ = some (.slice (some ⟨bt_, ot, none⟩) 272 cT) ∧ W.cell? ⟨bx, 1, none⟩ = some (.slice (some ⟨bm, om, none⟩) (64 * KM) cM)) := Lib.hid (by
      rw [hW]
      exact ⟨setNil Hb.out.1 _ HC.out.p0 (fun h => by cases h), setNil Hb.out.1 _ HC.out.p1 (fun h => by cases h)⟩)
    have HBW : Hid (Below w1.heap.size w1 W) := Lib.hid (by
      rw [hW]
      exact HB0.out.trans ⟨rfl, rfl, rfl, by rw [setRow_size]; exact Nat.le_refl _, fun k hk => setRow_other v9 bt k _ (by have := Hb.out.2; omega)⟩)
    have HGs := Lib.hid Hg.out.2
    rw [← hW]
    clear hW hWb HC HB0 Hm Hl Hb Hg hgb
    go_upto_region 4 with (fail)
    refine wp_region_list ?_
    refine wpList_val (v := .func (.func 92) #[] #[.pointer (some ⟨bt, 0, none⟩)]) (w' := W) rfl (by kernel_rfl) ?_
    refine wpList_val (v := .pointer (some ⟨W.heap.size, 0, none⟩)) (w' := W.alloc (.cells #[.nilFunc] 173)) rfl (by kernel_rfl) ?_
    refine wpList_store_one rfl 173 (.tmp 5) (.tmp 63) rfl W.heap.size rfl rfl 173 .nilFunc (heap_alloc_new W _) (by kernel_rfl) ?_
    obtain ⟨e1, e2, -⟩ := setbox_fact W .nilFunc (.func (.func 92) #[] #[.pointer (some ⟨bt, 0, none⟩)]) 173
    change wpList _ _ _ _ _ ((W.alloc (.cells #[.nilFunc] 173)).setRow W.heap.size #[.func (.func 92) #[] #[.pointer (some ⟨bt, 0, none⟩)]])
    generalize (W.alloc (.cells #[.nilFunc] 173)).setRow W.heap.size #[.func (.func 92) #[] #[.pointer (some ⟨bt, 0, none⟩)]] = W2 at *
    obtain ⟨b5, hb5⟩ : ∃ b5, b5 = W.heap.size := ⟨_, rfl⟩
    rw [← hb5] at e2 ⊢
    clear hb5
    have HF2 := Lib.hid (HFr.out.below e1)
    have HFar2 := Lib.hid (HFar.out.below e1)
    have H5 := Lib.hid (box_cell e2)
    have kp : ∀ {b o : Nat} {v : Value}, W.cell? ⟨b, o, none⟩ = some v → W2.cell? ⟨b, o, none⟩ = some v := fun {b o v} hc => (e1.cell (p := ⟨b, o, none⟩) (World.block_lt_of_cell? W _ hc)).trans hc
    have HP2 := Lib.hid (And.intro (kp HP.out.1) (kp HP.out.2))
    have HBW2 : Hid (Below w1.heap.size w1 W2) := Lib.hid (HBW.out.trans (e1.mono HBW.out.size))
    clear e1 e2 kp HFr HFar HP HBW W
    go_upto_region 6 with (fail)
    have HB12 : Hid (Below w.heap.size w w1) := Lib.hid HB.out
    have HBa : Hid (Below w.heap.size w W2) := Lib.hid (HB.out.trans (HBW2.out.mono HB.out.size))
    obtain ⟨aL, cl2, c273, hbL⟩ := HF2.out.low
    obtain ⟨aM, cm2, c272, hbM⟩ := HF2.out.mid
    have eqL : (cksL zL KL).length = KL := cksL_length zL KL
    have eqM : (VN.cksL zM KM).length = KM := VN.cksL_length zM KM
    simp only [eqL] at c273
    simp only [eqM] at c272
    have HBL := Lib.hid hbL; have HBM := Lib.hid hbM; have HEL := Lib.hid eqL; have HEM := Lib.hid eqM
    have HOk : Hid (FromOk zT zM zL ↔ numsF KL (fun _ => true) zM 0 = some KL ∧ numsF KM (fun _ => true) zT 0 = some KM ∧ UnL (fun a b => decide (a = b)) (cksL zL KL) KL ∧ VN.UnL (fun a b => decide (a = b)) (VN.cksL zM KM) KM) := Lib.hid (by
      have e1 : zM.length / 64 = KM := by rw [HM2.out]; omega
      have e2 : zL.length / 64 = KL := by rw [HL2.out]; omega
      constructor
      · intro h
        have h1 := h.nm; have h2 := h.nt; have h3 := h.ul; have h4 := h.um
        rw [e2] at h1 h3
        rw [e1] at h2 h4
        exact ⟨h1, h2, h3, h4⟩
      · rintro ⟨h1, h2, h3, h4⟩
        exact ⟨HT2.out, by rw [HM2.out]; omega, by rw [HL2.out]; omega, by rw [HM2.out]; omega, by rw [HL2.out]; omega, by rw [e1]; exact hKM2, by rw [e2]; exact hKL2, by rw [e2]; exact h1, by rw [e1]; exact h2, by rw [e2]; exact h3, by rw [e1]; exact h4⟩)
    have N1 := Lib.hid (fun (q : Regrown) => Go.Calls.regrown_of (numbers_walk (Go.Sort.grow (redrawn W2 q.d) q.os) (some ⟨bm, om, none⟩) (64 * KM) cM zM KL (fun _ => true) 92 #[.pointer (some ⟨bt, 0, none⟩)] HM2.out (by omega) (by omega) HVM.out ((HRM1.out.below HBW2.out).below (below_regrown W2 q.d q.os)) (enters_of Try.func92 (by kernel_rfl) rfl)
      (fun x W hx _ hb => same1_walk W g bt _ (HF2.out.below ((below_regrown W2 q.d q.os).trans (hb.mono (below_regrown W2 q.d q.os).size))) x (by show x < (cksL zL KL).length; rw [HEL.out]; exact hx))))
    have U1 : ∀ u : Bool, (u = true ↔ UnL (fun a b => decide (a = b)) (cksL zL KL) KL) → Hid (∀ q : Regrown, Calls Try.prog 97 #[.slice aL KL cl2] (Go.Sort.grow (redrawn W2 q.d) q.os) fun e w'' => e = .returned (.bool u) ∧ ∃ p : Regrown, w'' = Go.Sort.grow (redrawn W2 p.d) p.os) := fun u hu => Lib.hid (fun (q : Regrown) => Go.Calls.regrown_of ((unlike_walk (Go.Sort.grow (redrawn W2 q.d) q.os) aL KL cl2 (cksL zL KL) HEL.out (by omega) HF2.out.ll (HBL.out.below (below_regrown W2 q.d q.os) (Nat.le_refl _))).mono (fun e w' h => by
      rcases h with ⟨rfl, hb, h⟩ | ⟨rfl, hb, h⟩
      · rw [hu.2 h]; exact ⟨rfl, hb⟩
      · cases u
        · exact ⟨rfl, hb⟩
        · exact absurd (hu.1 rfl) h)))
    have U2 : ∀ u : Bool, (u = true ↔ VN.UnL (fun a b => decide (a = b)) (VN.cksL zM KM) KM) → Hid (∀ q : Regrown, Calls Try.prog 98 #[.slice aM KM cm2] (Go.Sort.grow (redrawn W2 q.d) q.os) fun e w'' => e = .returned (.bool u) ∧ ∃ p : Regrown, w'' = Go.Sort.grow (redrawn W2 p.d) p.os) := fun u hu => Lib.hid (fun (q : Regrown) => Go.Calls.regrown_of ((VN.unlike_walk (Go.Sort.grow (redrawn W2 q.d) q.os) aM KM cm2 (VN.cksL zM KM) HEM.out (by omega) HF2.out.ml (HBM.out.below (below_regrown W2 q.d q.os) (Nat.le_refl _))).mono (fun e w' h => by
      rcases h with ⟨rfl, hb, h⟩ | ⟨rfl, hb, h⟩
      · rw [hu.2 h]; exact ⟨rfl, hb⟩
      · cases u
        · exact ⟨rfl, hb⟩
        · exact absurd (hu.1 rfl) h)))
    have k0 := fun d os => cell_regrown HP2.out.1 d os
    have k1 := fun d os => cell_regrown HP2.out.2 d os
    have k2 := fun d os => cell_regrown HF2.out.ct d os
    have k3 := fun d os => cell_regrown c273 d os
    have k4 := fun d os => cell_regrown c272 d os
    have k5 := fun d os => cell_regrown H5.out d os
    clear eqL eqM c273 c272 hbL hbM
    by_cases n1 : numsF KL (fun _ => true) zM 0 = some KL
    rotate_left
    · rw [decide_eq_false n1] at N1
      have HX : Hid (¬ FromOk zT zM zL) := Lib.hid (fun h => n1 (HOk.out.1 h).1)
      clear n1 HOk U1 U2
      refine wp_region_quiet_below (by kernel_rfl) (by kernel_rfl) ?_
      iterate 8 (go_big_quiet_step (fail))
      go_big_quiet_step (exact N1.out _)
      iterate 10 (go_big_quiet_step (fail))
      go_big_quiet_step (fail)
      iterate 7 (go_big_quiet_step (fail))
      go_big_quiet_step (fail)
      iterate 7 (go_big_quiet_step (fail))
      go_big_quiet_step (fail)
      iterate 2 (go_big_quiet_step (fail))
      refine wpQuiet_nil ?_
      intro _ hw'
      obtain ⟨⟨dq, osq⟩, hw''⟩ := hw'
      subst hw''
      go_wp2
      go_ret2
      have hb := below_regrown W2 dq osq
      exact ⟨HBa.out.trans (hb.mono HBa.out.size), .inl ⟨rfl, HX.out⟩⟩
    have HMid : Hid (∀ m ∈ VN.cksL zM KM, ∀ k ∈ m, k < (cksL zL KL).length) := Lib.hid (fun m hm k hk => by
      obtain ⟨q, hq, rfl⟩ := List.mem_map.1 hm
      rw [HEL.out]
      exact numsF_lt (Nat.zero_le _) n1 k (List.mem_of_mem_drop (List.mem_of_mem_take hk)))
    have N2 := Lib.hid (fun (q : Regrown) => Go.Calls.regrown_of (numbers_walk (Go.Sort.grow (redrawn W2 q.d) q.os) (some ⟨bt_, ot, none⟩) 272 cT zT KM (fun _ => true) 93 #[.pointer (some ⟨bt, 0, none⟩), .pointer (some ⟨b5, 0, none⟩)] HT2.out (by omega) (by omega) HVT.out ((HRT1.out.below HBW2.out).below (below_regrown W2 q.d q.os)) (enters_of Try.func93 (by kernel_rfl) rfl)
      (fun x W hx _ hb => same2_walk W g bt b5 _ (HF2.out.below ((below_regrown W2 q.d q.os).trans (hb.mono (below_regrown W2 q.d q.os).size))) x (by show x < (VN.cksL zM KM).length; rw [HEM.out]; exact hx) HMid.out
        ((hb.cell (p := ⟨b5, 0, none⟩) (World.block_lt_of_cell? _ _ (k5 q.d q.os))).trans (k5 q.d q.os)))))
    rw [decide_eq_true n1] at N1
    by_cases n2 : numsF KM (fun _ => true) zT 0 = some KM
    rotate_left
    · rw [decide_eq_false n2] at N2
      have HX : Hid (¬ FromOk zT zM zL) := Lib.hid (fun h => n2 (HOk.out.1 h).2.1)
      clear n1 n2 HOk U1 U2
      refine wp_region_quiet_below (by kernel_rfl) (by kernel_rfl) ?_
      iterate 8 (go_big_quiet_step (fail))
      go_big_quiet_step (exact N1.out _)
      iterate 10 (go_big_quiet_step (fail))
      go_big_quiet_step (exact N2.out _)
      iterate 7 (go_big_quiet_step (fail))
      go_big_quiet_step (fail)
      iterate 7 (go_big_quiet_step (fail))
      go_big_quiet_step (fail)
      iterate 2 (go_big_quiet_step (fail))
      refine wpQuiet_nil ?_
      intro _ hw'
      obtain ⟨⟨dq, osq⟩, hw''⟩ := hw'
      subst hw''
      go_wp2
      go_ret2
      have hb := below_regrown W2 dq osq
      exact ⟨HBa.out.trans (hb.mono HBa.out.size), .inl ⟨rfl, HX.out⟩⟩
    rw [decide_eq_true n2] at N2
    by_cases n3 : UnL (fun a b => decide (a = b)) (cksL zL KL) KL
    rotate_left
    · replace U1 := U1 false ⟨fun h => absurd h (by simp), fun h => absurd h n3⟩
      have HX : Hid (¬ FromOk zT zM zL) := Lib.hid (fun h => n3 (HOk.out.1 h).2.2.1)
      clear n1 n2 n3 HOk U2
      refine wp_region_quiet_below (by kernel_rfl) (by kernel_rfl) ?_
      iterate 8 (go_big_quiet_step (fail))
      go_big_quiet_step (exact N1.out _)
      iterate 10 (go_big_quiet_step (fail))
      go_big_quiet_step (exact N2.out _)
      iterate 7 (go_big_quiet_step (fail))
      go_big_quiet_step (exact U1.out _)
      iterate 7 (go_big_quiet_step (fail))
      go_big_quiet_step (fail)
      iterate 2 (go_big_quiet_step (fail))
      refine wpQuiet_nil ?_
      intro _ hw'
      obtain ⟨⟨dq, osq⟩, hw''⟩ := hw'
      subst hw''
      go_wp2
      go_ret2
      have hb := below_regrown W2 dq osq
      exact ⟨HBa.out.trans (hb.mono HBa.out.size), .inl ⟨rfl, HX.out⟩⟩
    replace U1 := U1 true ⟨fun _ => n3, fun _ => rfl⟩
    by_cases n4 : VN.UnL (fun a b => decide (a = b)) (VN.cksL zM KM) KM
    rotate_left
    · replace U2 := U2 false ⟨fun h => absurd h (by simp), fun h => absurd h n4⟩
      have HX : Hid (¬ FromOk zT zM zL) := Lib.hid (fun h => n4 (HOk.out.1 h).2.2.2)
      clear n1 n2 n3 n4 HOk
      refine wp_region_quiet_below (by kernel_rfl) (by kernel_rfl) ?_
      iterate 8 (go_big_quiet_step (fail))
      go_big_quiet_step (exact N1.out _)
      iterate 10 (go_big_quiet_step (fail))
      go_big_quiet_step (exact N2.out _)
      iterate 7 (go_big_quiet_step (fail))
      go_big_quiet_step (exact U1.out _)
      iterate 7 (go_big_quiet_step (fail))
      go_big_quiet_step (exact U2.out _)
      iterate 2 (go_big_quiet_step (fail))
      refine wpQuiet_nil ?_
      intro _ hw'
      obtain ⟨⟨dq, osq⟩, hw''⟩ := hw'
      subst hw''
      go_wp2
      go_ret2
      have hb := below_regrown W2 dq osq
      exact ⟨HBa.out.trans (hb.mono HBa.out.size), .inl ⟨rfl, HX.out⟩⟩
    · replace U2 := U2 true ⟨fun _ => n4, fun _ => rfl⟩
      have HX : Hid (FromOk zT zM zL) := Lib.hid (HOk.out.2 ⟨n1, n2, n3, n4⟩)
      clear n1 n2 n3 n4 HOk
      refine wp_region_quiet_below (by kernel_rfl) (by kernel_rfl) ?_
      iterate 8 (go_big_quiet_step (fail))
      go_big_quiet_step (exact N1.out _)
      iterate 10 (go_big_quiet_step (fail))
      go_big_quiet_step (exact N2.out _)
      iterate 7 (go_big_quiet_step (fail))
      go_big_quiet_step (exact U1.out _)
      iterate 7 (go_big_quiet_step (fail))
      go_big_quiet_step (exact U2.out _)
      iterate 2 (go_big_quiet_step (fail))
      refine wpQuiet_nil ?_
      intro _ hw'
      obtain ⟨⟨dq, osq⟩, hw''⟩ := hw'
      subst hw''
      have k6 := k2 dq osq
      have hb := below_regrown W2 dq osq
      have HTf := Lib.hid (HF2.out.tr.below hb (Nat.le_refl _))
      have HFf := Lib.hid (HFar2.out.below hb)
      have HBf := Lib.hid hb
      clear hb
      generalize Go.Sort.grow (redrawn W2 dq) osq = W9 at *
      clear k0 k1 k2 k3 k4 k5
      go_wp2
      go_ret2
      exact ⟨HBa.out.trans (HBf.out.mono HBa.out.size), .inr ⟨HX.out, g, rfl, by have := HB.out.size; have := HGs.out; omega, by rw [HTr.out]; exact HTf.out, by rw [HTr.out]; exact HFf.out.mono HB.out.size⟩⟩
theorem From_walk (w : World) (aT aM aL : Option Addr) (nT cT nM cM nL cL : Nat) (zT zM : List Nat) (zL : List Int) (hT : zT.length = nT) (hM : zM.length = nM) (hL : zL.length = nL) (bT : nT ≤ cT ∧ cT ≤ maxLen) (bM : nM ≤ cM ∧ cM ≤ maxLen) (bL : nL ≤ cL ∧ cL ≤ maxLen)
    (vT : ∀ z ∈ zT, z < 65536) (vM : ∀ z ∈ zM, z < 65536) (rT : NumsAt w aT zT) (rM : NumsAt w aM zM) (rL : RowAt w aL zL) :
    Calls Try.prog 47 #[.agg #[.slice aT nT cT, .slice aM nM cM, .slice aL nL cL]] w fun e w' => Below w.heap.size w w' ∧
      ((e = .returned (.tuple #[.pointer none, .int .i64 112]) ∧ ¬ FromOk zT zM zL) ∨
       (FromOk zT zM zL ∧ ∃ g, e = .returned (.tuple #[.pointer (some ⟨g, 0, none⟩), .int .i64 0]) ∧ w.heap.size ≤ g ∧ TrieAt val8 114 64 w' g (fromT zT zM zL))) := by
  refine (FromB_walk w aT aM aL nT cT nM cM nL cL zT zM zL hT hM hL bT bM bL vT vM rT rM rL).mono ?_
  rintro e w' ⟨hb, h | ⟨h1, g, h2, h3, h4, -⟩⟩
  · exact ⟨hb, .inl h⟩
  · exact ⟨hb, .inr ⟨h1, g, h2, h3, h4⟩⟩
end Go.Proofs.Ytabbabkmojaoaaa

/-
  Plain laws: what 'Fill' has made is such parts as 'From' takes.
-/
namespace Go.Proofs.Ytabbabkmojaoaaa

theorem numsF_append (many : Nat) (ag : Nat → Bool) : ∀ (l l' : List Nat) (n : Nat), numsF many ag (l ++ l') n = (numsF many ag l n).bind (fun m => numsF many ag l' m)
  | [], l', n => rfl
  | x :: l, l', n => by
    rw [List.cons_append, numsF, numsF]
    split
    · exact numsF_append many ag l l' (n + 1)
    · split
      · rfl
      · exact numsF_append many ag l l' n
theorem numsF_bound {many : Nat} {ag : Nat → Bool} : ∀ {l : List Nat} {n m : Nat}, numsF many ag l n = some m → n ≤ m ∧ ∀ x ∈ l, x < m
  | [], n, m, h => by simp only [numsF, Option.some.injEq] at h; exact ⟨by omega, fun x hx => by simp at hx⟩
  | y :: l, n, m, h => by
    rw [numsF] at h
    split at h
    · rename_i hc
      obtain ⟨h1, h2⟩ := numsF_bound h
      refine ⟨by omega, fun x hx => ?_⟩
      rcases List.mem_cons.1 hx with rfl | hx
      · omega
      · exact h2 x hx
    · split at h
      · cases h
      · rename_i hc hd
        obtain ⟨h1, h2⟩ := numsF_bound h
        refine ⟨h1, fun x hx => ?_⟩
        rcases List.mem_cons.1 hx with rfl | hx
        · have : ¬ n ≤ x := fun e => hd (.inl e)
          omega
        · exact h2 x hx
theorem numsF_old (many : Nat) : ∀ (l : List Nat) (n : Nat), (∀ x ∈ l, x < n) → numsF many (fun _ => true) l n = some n
  | [], n, _ => rfl
  | x :: l, n, h => by
    have hx := h x (by simp)
    rw [numsF, if_neg (by omega), if_neg (by simp; omega)]
    exact numsF_old many l n (fun y hy => h y (by simp [hy]))
theorem numsF_one_old (many n x : Nat) (h : x < n) : numsF many (fun _ => true) [x] n = some n := numsF_old many [x] n (fun y hy => by rw [List.mem_singleton.1 hy]; exact h)
theorem numsF_one_new (many n : Nat) (h : n < many) : numsF many (fun _ => true) [n] n = some (n + 1) := by rw [numsF, if_pos ⟨rfl, h⟩]; rfl
theorem numsF_mono {many many' : Nat} (h : many ≤ many') : ∀ {l : List Nat} {n m : Nat}, numsF many (fun _ => true) l n = some m → numsF many' (fun _ => true) l n = some m
  | [], n, m, e => e
  | x :: l, n, m, e => by
    rw [numsF] at e ⊢
    split at e
    · rename_i hc
      rw [if_pos ⟨hc.1, by omega⟩]
      exact numsF_mono h e
    · rename_i hc
      split at e
      · cases e
      · rename_i hd
        have hx : x < n := by
          have : ¬ n ≤ x := fun e => hd (.inl e)
          omega
        rw [if_neg (by omega), if_neg hd]
        exact numsF_mono h e
/-- the number that a block gets: an old one, or the next -/
theorem numB_cases {β : Type} [DecidableEq β] {L : List (List β)} {b : List β} (hL : ∀ m ∈ L, m.length = b.length) :
    (∃ k, k < L.length ∧ L[k]? = some b ∧ numB (fun x y => decide (x = y)) L b = (L, k)) ∨ (b ∉ L ∧ numB (fun x y => decide (x = y)) L b = (L ++ [b], L.length)) := by
  unfold numB
  cases h : findB (fun x y => decide (x = y)) b L with
  | some k =>
    have h1 := findB_some hL h
    exact .inl ⟨k, (List.getElem?_eq_some_iff.1 h1).1, h1, rfl⟩
  | none => exact .inr ⟨findB_none hL h, rfl⟩
structure CanI (k : Nat) (S : MkS Int) : Prop where
  low : numsF S.lows.length (fun _ => true) (S.mids.flatten ++ S.cur.take (k % 64)) 0 = some S.lows.length
  top : numsF S.mids.length (fun _ => true) (S.top.take (k / 64)) 0 = some S.mids.length
theorem canI (f : Nat → Int) : ∀ k, k ≤ 17408 → CanI k (mkF f k) := by
  intro k
  induction k with
  | zero => intro _; exact ⟨rfl, rfl⟩
  | succ k ih =>
    intro hk
    obtain ⟨h1, h2⟩ := ih (by omega)
    obtain ⟨hw, hb, -, -⟩ := mkF_ok f k
    obtain ⟨S, hS⟩ : ∃ S, S = mkF f k := ⟨_, rfl⟩
    rw [mkF, ← hS]
    rw [← hS] at h1 h2 hw hb
    have hcl : k % 64 < S.cur.length := by rw [hw.cur]; omega
    -- the low block
    have hN : ∃ x L', numB eq8 S.lows (blkF f k) = (L', x) ∧ numsF L'.length (fun _ => true) (S.mids.flatten ++ (S.cur.set (k % 64) x).take (k % 64 + 1)) 0 = some L'.length := by
      have e : (S.cur.set (k % 64) ·) = fun x => S.cur.set (k % 64) x := rfl
      have hset : ∀ x, (S.cur.set (k % 64) x).take (k % 64 + 1) = S.cur.take (k % 64) ++ [x] := fun x => by
        rw [List.take_succ_eq_append_getElem (by simpa using hcl)]
        simp [List.take_set]
        exact List.set_eq_of_length_le (by simp; omega)
      rcases numB_cases (L := S.lows) (b := blkF f k) (fun m hm => by rw [hw.low m hm, blkF_length]) with ⟨x, hx, -, h⟩ | ⟨-, h⟩
      · refine ⟨x, S.lows, h, ?_⟩
        rw [hset, ← List.append_assoc, numsF_append, h1]
        exact numsF_one_old _ _ _ hx
      · refine ⟨S.lows.length, S.lows ++ [blkF f k], h, ?_⟩
        rw [hset, ← List.append_assoc, numsF_append, List.length_append, List.length_singleton, numsF_mono (Nat.le_succ _) h1]
        exact numsF_one_new _ _ (by omega)
    obtain ⟨x, L', hN1, hN2⟩ := hN
    by_cases hf : (k + 1) % 64 = 0
    · have hq : (k + 1) / 64 = k / 64 + 1 := by omega
      have h63 : k % 64 + 1 = 64 := by omega
      have hcl2 : (S.cur.set (k % 64) x).length = 64 := by simpa using hw.cur
      rw [h63, List.take_of_length_le (by omega)] at hN2
      rw [addS_full (by rw [hb]; exact hf)]
      simp only [hb, hN1]
      have htl : k / 64 < S.top.length := by rw [hw.top]; omega
      have htop : ∀ y, (S.top.set (k / 64) y).take ((k + 1) / 64) = S.top.take (k / 64) ++ [y] := fun y => by
        rw [hq, List.take_succ_eq_append_getElem (by simpa using htl)]
        simp [List.take_set]
        exact List.set_eq_of_length_le (by simp; omega)
      rcases numB_cases (L := S.mids) (b := S.cur.set (k % 64) x) (fun m hm => by rw [hw.mid m hm, hcl2]) with ⟨y, hy, hyb, h⟩ | ⟨hnot, h⟩
      · have h' : numB eq16 S.mids (S.cur.set (k % 64) x) = (S.mids, y) := h
        rw [h']
        refine ⟨?_, ?_⟩
        · simp only [hf, List.take_zero, List.append_nil]
          -- the row is an old one: it names no new block
          have h3 : ∃ n', numsF L'.length (fun _ => true) S.mids.flatten 0 = some n' := by
            rw [numsF_append] at hN2
            cases e : numsF L'.length (fun _ => true) S.mids.flatten 0 with
            | none => rw [e] at hN2; cases hN2
            | some n' => exact ⟨n', rfl⟩
          obtain ⟨n', hn'⟩ := h3
          have h4 := (numsF_bound hn').2
          have h5 : numsF L'.length (fun _ => true) (S.cur.set (k % 64) x) n' = some n' := numsF_old _ _ _ (fun z hz => h4 z (List.mem_flatten.2 ⟨_, List.mem_of_getElem? hyb, hz⟩))
          rw [numsF_append, hn'] at hN2
          rw [hn', ← hN2]
          exact h5.symm
        · simp only [htop]
          rw [numsF_append, h2]
          exact numsF_one_old _ _ _ hy
      · have h' : numB eq16 S.mids (S.cur.set (k % 64) x) = (S.mids ++ [S.cur.set (k % 64) x], S.mids.length) := h
        rw [h']
        refine ⟨?_, ?_⟩
        · simp only [hf, List.take_zero, List.append_nil, List.flatten_append, List.flatten_cons, List.flatten_nil]
          exact hN2
        · simp only [htop]
          rw [numsF_append, List.length_append, List.length_singleton, numsF_mono (Nat.le_succ _) h2]
          exact numsF_one_new _ _ (by omega)
    · have hq : (k + 1) / 64 = k / 64 := by omega
      have hm : (k + 1) % 64 = k % 64 + 1 := by omega
      rw [addS_less (by rw [hb]; exact hf)]
      simp only [hb, hN1]
      refine ⟨?_, ?_⟩
      · simp only [hm]; exact hN2
      · simp only [hq]; exact h2
theorem ck_flatten {β : Type} (L : List (List β)) (hl : ∀ l ∈ L, l.length = 64) : (List.range L.length).map (fun q => (L.flatten.drop (64 * q)).take 64) = L := by
  induction L with
  | nil => rfl
  | cons l L ih =>
    have h1 := hl l (by simp)
    rw [List.length_cons, List.range_succ_eq_map, List.map_cons, List.map_map]
    congr 1
    · rw [List.flatten_cons, Nat.mul_zero, List.drop_zero, List.take_left' h1]
    · rw [show (fun q => List.take 64 (List.drop (64 * q) (List.flatten (l :: L)))) ∘ Nat.succ = fun q => List.take 64 (List.drop (64 * q) L.flatten) from by
        funext q
        simp only [Function.comp, List.flatten_cons]
        rw [show 64 * q.succ = l.length + 64 * q by rw [h1]; omega, ← List.drop_drop, List.drop_left]]
      exact ih (fun l hl2 => hl l (by simp [hl2]))
theorem unL_iff {β : Type} [DecidableEq β] {L : List (List β)} (hl : ∀ l ∈ L, l.length = 64) : (∀ k (h : k < L.length), k < L.length → findB (fun a b => decide (a = b)) L[k] (L.take k) = none) ↔ L.Nodup := by
  constructor
  · intro h
    rw [List.nodup_iff_pairwise_ne, List.pairwise_iff_getElem]
    intro i j hi hj hij e
    have h1 := findB_none (fun m hm => by rw [hl m (List.mem_of_mem_take hm), hl _ (List.getElem_mem hj)]) (h j hj hj)
    exact h1 (by rw [← e, List.mem_take_iff_getElem]; exact ⟨i, by omega, rfl⟩)
  · intro h k hk _
    cases e : findB (fun a b => decide (a = b)) L[k] (L.take k) with
    | none => rfl
    | some i =>
      have h1 := findB_some (fun m hm => by rw [hl m (List.mem_of_mem_take hm), hl _ (List.getElem_mem hk)]) e
      obtain ⟨hi, h2⟩ := List.getElem?_eq_some_iff.1 h1
      rw [List.length_take] at hi
      rw [List.getElem_take] at h2
      exact absurd h2 (List.pairwise_iff_getElem.1 (List.nodup_iff_pairwise_ne.1 h) i k (by omega) hk (by omega))
theorem Made8.fromOk {f : Nat → Int} {S : MkS Int} (hS : Made8 f S) : FromOk S.top S.mids.flatten S.lows.flatten ∧ fromT S.top S.mids.flatten S.lows.flatten = trieS S := by
  have hp := hS.pos
  have hm := flat_len S.mids hS.made.ok.mid
  have hl := flat_len S.lows hS.made.ok.low
  have em : S.mids.flatten.length / 64 = S.mids.length := by omega
  have el : S.lows.flatten.length / 64 = S.lows.length := by omega
  have cm : VN.cksL S.mids.flatten S.mids.length = S.mids := ck_flatten S.mids hS.made.ok.mid
  have cl : cksL S.lows.flatten S.lows.length = S.lows := ck_flatten S.lows hS.made.ok.low
  have hml := hS.ml
  have hll := hS.ll
  obtain ⟨K, hK, hSK⟩ := hS.eq
  have hc := canI f K (by omega)
  rw [← hSK] at hc
  have hc1 := hc.low
  have hc2 := hc.top
  rw [show K % 64 = 0 by omega, List.take_zero, List.append_nil] at hc1
  rw [show K / 64 = 272 by omega, List.take_of_length_le (by rw [hS.made.ok.top]; exact Nat.le_refl _)] at hc2
  refine ⟨⟨hS.made.ok.top, by omega, by omega, by omega, by omega, by omega, by omega, by rw [el]; exact hc1, by rw [em]; exact hc2, ?_, ?_⟩, ?_⟩
  · rw [el, cl]; exact (unL_iff hS.made.ok.low).2 hS.nl
  · rw [em, cm]; exact (unL_iff hS.made.ok.mid).2 hS.made.inv.nm
  · unfold fromT trieS
    rw [em, el, cm, cl]
theorem mkF_congr {f g : Nat → Int} : ∀ k, (∀ r, r < 64 * k → f r = g r) → mkF f k = mkF g k
  | 0, _ => rfl
  | k + 1, h => by
    rw [mkF, mkF, mkF_congr k (fun r hr => h r (by omega))]
    congr 1
    unfold blkF
    apply List.map_congr_left
    intro i hi
    exact h _ (by have := List.mem_range.1 hi; omega)
theorem Made8.unique {f g : Nat → Int} {S S' : MkS Int} (hS : Made8 f S) (hS' : Made8 g S') (h : ∀ r, r ≤ 1114111 → f r = g r) : S = S' := by
  obtain ⟨K, hK, rfl⟩ := hS.eq
  obtain ⟨K', hK', rfl⟩ := hS'.eq
  obtain rfl : K = K' := by omega
  exact mkF_congr K (fun r hr => h r (by omega))
end Go.Proofs.Ytabbabkmojaoaaa

/-
  The document's functions: a place among the runs; the number of a block; the stages on their way, in memory.
-/
namespace Go.Proofs.Ytabbabkmojaoaaa
open Go.RowKit
attribute [local go_sem] Oper.semAt_some

/-- the runs ahead of i end ahead of r -/
def CurL (L : List (Int × Int)) (i r : Nat) : Prop := ∀ j (h : j < L.length), j < i → (L[j]).1 < (r : Int)
theorem CurL.zero (L : List (Int × Int)) (r : Nat) : CurL L 0 r := fun j _ h => by omega
theorem CurL.mono {L : List (Int × Int)} {i r r' : Nat} (h : CurL L i r) (hr : r ≤ r') : CurL L i r' := fun j hj hi => by have := h j hj hi; omega
theorem CurL.next {L : List (Int × Int)} {i r : Nat} (h : CurL L i r) (hi : i < L.length) (h2 : (L[i]).1 < (r : Int)) : CurL L (i + 1) r := fun j hj hji => by
  by_cases e : j = i
  · subst e; exact h2
  · exact h j hj (by omega)
theorem runL_more {F : Nat → Int} {N r i : Nat} (hr : r < N) (h : CurL (runL F N) i r) : i < (runL F N).length := by
  obtain ⟨A, x, B, k1, k2, k3, k4⟩ := runL_find F N r hr
  by_cases hi : i < (runL F N).length
  · exact hi
  · have hl : A.length < (runL F N).length := by rw [k1]; simp
    have := h A.length hl (by omega)
    simp only [k1] at this
    rw [List.getElem_append_right (by omega)] at this
    simp at this
    omega
theorem runL_at {F : Nat → Int} {N r i : Nat} (hr : r < N) (h : CurL (runL F N) i r) (hi : i < (runL F N).length) (h2 : (r : Int) ≤ ((runL F N)[i]).1) : ((runL F N)[i]).2 = F r := by
  obtain ⟨A, x, B, k1, k2, k3, k4⟩ := runL_find F N r hr
  have hl : A.length < (runL F N).length := by rw [k1]; simp
  have hAx : (runL F N)[A.length] = x := by simp only [k1]; rw [List.getElem_append_right (by omega)]; simp
  rcases Nat.lt_trichotomy i A.length with e | e | e
  · have : (runL F N)[i] ∈ A := by simp only [k1]; rw [List.getElem_append_left e]; exact List.getElem_mem e
    have := k2 _ this
    omega
  · subst e; rw [hAx]; exact k4
  · have := h A.length hl e
    rw [hAx] at this
    omega
/-- a block within one run -/
theorem blk_whole {F : Nat → Int} {N k i : Nat} (hk : 64 * k + 63 < N) (h : CurL (runL F N) i (64 * k)) (hi : i < (runL F N).length) (h2 : ((64 * k : Nat) : Int) + 63 ≤ ((runL F N)[i]).1) : blkF F k = List.replicate 64 ((runL F N)[i]).2 := by
  apply List.ext_getElem
  · rw [blkF_length]; simp
  · intro j h3 h4
    rw [blkF_length] at h3
    have := runL_at (F := F) (N := N) (r := 64 * k + j) (by omega) (h.mono (by omega)) hi (by omega)
    rw [List.getElem_replicate, this]
    simp [blkF]
theorem numB_at {β : Type} [DecidableEq β] {L : List (List β)} (hL : L.Nodup) {b : List β} (hl : ∀ m ∈ L, m.length = b.length) {q : Nat} (hq : L[q]? = some b) : findB (fun x y => decide (x = y)) b L = some q ∧ numB (fun x y => decide (x = y)) L b = (L, q) := by
  have : findB (fun x y => decide (x = y)) b L = some q := by
    cases h : findB (fun x y => decide (x = y)) b L with
    | none => exact absurd (List.mem_iff_getElem?.2 ⟨q, hq⟩) (findB_none hl h)
    | some j =>
      have := findB_some hl h
      rw [nodup_idx hL this hq]
  exact ⟨this, by unfold numB; rw [this]⟩

/-- the number that block k of a function gets -/
def noF (F : Nat → Int) (k : Nat) : Nat := (numB eq8 (mkF F k).lows (blkF F k)).2
/-- middle block t of a function -/
def rowF (F : Nat → Int) (t : Nat) : List Nat := (List.range 64).map (fun j => noF F (64 * t + j))
theorem rowF_length (F : Nat → Int) (t : Nat) : (rowF F t).length = 64 := by simp [rowF]
theorem mkF_lows (F : Nat → Int) (k : Nat) : (mkF F (k + 1)).lows = (numB eq8 (mkF F k).lows (blkF F k)).1 := by
  rw [mkF]
  by_cases h : ((mkF F k).blocks + 1) % 64 = 0
  · rw [addS_full h]
  · rw [addS_less h]
theorem mkF_in (F : Nat → Int) (t : Nat) : ∀ j, j ≤ 63 → (mkF F (64 * t + j)).mids = (mkF F (64 * t)).mids ∧ (mkF F (64 * t + j)).top = (mkF F (64 * t)).top ∧ ∀ i, i < j → (mkF F (64 * t + j)).cur[i]? = some (noF F (64 * t + i))
  | 0, _ => ⟨rfl, rfl, fun i hi => by omega⟩
  | j + 1, hj => by
    obtain ⟨h1, h2, h3⟩ := mkF_in F t j (by omega)
    obtain ⟨hw, hb, -, -⟩ := mkF_ok F (64 * t + j)
    have hx : ¬ ((mkF F (64 * t + j)).blocks + 1) % 64 = 0 := by rw [hb]; omega
    have e : mkF F (64 * t + (j + 1)) = addS eq8 (mkF F (64 * t + j)) (blkF F (64 * t + j)) := rfl
    rw [e, addS_less hx]
    refine ⟨h1, h2, fun i hi => ?_⟩
    show ((mkF F (64 * t + j)).cur.set ((mkF F (64 * t + j)).blocks % 64) _)[i]? = _
    rw [hb, show (64 * t + j) % 64 = j by omega]
    by_cases e : i = j
    · subst e
      rw [List.getElem?_set_self (by rw [hw.cur]; omega)]
      rfl
    · rw [List.getElem?_set_ne (by omega)]
      exact h3 i (by omega)
theorem mkF_row (F : Nat → Int) (t : Nat) : (mkF F (64 * (t + 1))).mids = (numB eq16 (mkF F (64 * t)).mids (rowF F t)).1 ∧ (mkF F (64 * (t + 1))).top = (mkF F (64 * t)).top.set t (numB eq16 (mkF F (64 * t)).mids (rowF F t)).2 := by
  obtain ⟨h1, h2, h3⟩ := mkF_in F t 63 (Nat.le_refl _)
  obtain ⟨hw, hb, -, -⟩ := mkF_ok F (64 * t + 63)
  have hx : ((mkF F (64 * t + 63)).blocks + 1) % 64 = 0 := by rw [hb]; omega
  have e : mkF F (64 * (t + 1)) = addS eq8 (mkF F (64 * t + 63)) (blkF F (64 * t + 63)) := by
    rw [show 64 * (t + 1) = 64 * t + 63 + 1 by omega]; rfl
  have hr : (mkF F (64 * t + 63)).cur.set ((mkF F (64 * t + 63)).blocks % 64) (numB eq8 (mkF F (64 * t + 63)).lows (blkF F (64 * t + 63))).2 = rowF F t := by
    apply List.ext_getElem?
    intro i
    rw [hb, show (64 * t + 63) % 64 = 63 by omega]
    by_cases h : i < 64
    · have hr : (rowF F t)[i]? = some (noF F (64 * t + i)) := by simp [rowF, h]
      rw [hr]
      by_cases e : i = 63
      · subst e; rw [List.getElem?_set_self (by rw [hw.cur]; omega)]; rfl
      · rw [List.getElem?_set_ne (by omega)]; exact h3 i (by omega)
    · rw [List.getElem?_eq_none (by simp [hw.cur]; omega), List.getElem?_eq_none (by rw [rowF_length]; omega)]
  rw [e, addS_full hx, hr, h1, h2, hb, show (64 * t + 63) / 64 = t by omega]
  exact ⟨rfl, rfl⟩
theorem mkF_tops (F : Nat → Int) (t : Nat) (ht : t < 272) : ((mkF F (64 * (t + 1))).top.take (t + 1)) = (mkF F (64 * t)).top.take t ++ [(numB eq16 (mkF F (64 * t)).mids (rowF F t)).2] := by
  obtain ⟨hw, -⟩ := mkF_ok F (64 * t)
  rw [(mkF_row F t).2, List.take_add_one, List.take_set_of_le (Nat.le_refl _), List.getElem?_set_self (by rw [hw.top]; omega)]
  rfl
theorem natsI_append (a b : List Nat) : natsI (a ++ b) = natsI a ++ natsI b := by simp [natsI]

def vI (x : Int) : Value := .int .i64 x
def vN (n : Nat) : Value := .int .i64 (n : Int)
theorem Try.kBI : ArrK Try.prog 155 3 64 1 vI (fun a b => decide (a = b)) := intArrK .i64 (fun x : Int => x) (fun _ _ h => h) Try.underlying155 Try.underlying3 (by kernel_rfl) (by kernel_rfl)
theorem Try.kBN : ArrK Try.prog 155 3 64 1 vN (fun a b => decide (a = b)) := intArrK .i64 (fun x : Nat => (x : Int)) (fun _ _ h => by omega) Try.underlying155 Try.underlying3 (by kernel_rfl) (by kernel_rfl)
theorem blkC_vI (b : List Int) : blkC vI b = ivs .i64 b := by
  induction b with
  | nil => rfl
  | cons a l ih => rw [blkC, List.flatMap_cons, ← blkC, ih]; rfl
theorem blkC_vN (b : List Nat) : blkC vN b = ivs .i64 (natsI b) := by
  induction b with
  | nil => rfl
  | cons a l ih => rw [blkC, List.flatMap_cons, ← blkC, ih]; rfl
theorem entsG_length {α : Type} (val : α → Value) (vv : Nat → Value) (L : List (List α)) : ∀ i, (entsG val vv i L).length = L.length := by
  induction L with
  | nil => intro i; rfl
  | cons x L ih => intro i; simp [entsG, ih]

set_option maxRecDepth 100000 in
set_option maxHeartbeats 1600000 in
theorem number_walk {α : Type} {val : α → Value} {eqB : α → α → Bool} (K : ArrK Try.prog 155 3 64 1 val eqB) (w : World) (bm : Nat) (L : List (List α)) (l : List α) (hl : l.length = 64) (hL : ∀ m ∈ L, m.length = 64) (hn : L.length ≤ 1048576) (h : IdxMapG val vN w bm L) :
    Calls Try.prog 80 #[.map (some bm), .agg (blkC val l).toArray] w fun e w' => e = .returned (.tuple #[.int .i64 ((numB eqB L l).2 : Nat), .bool (findB eqB l L).isSome]) ∧ w.grownBy w' (some bm) ∧ IdxMapG val vN w' bm (numB eqB L l).1 := by
  have hbs : (blkC val l).length = 64 := by rw [blkC_length K.wide, hl]
  have HL := Lib.hid hL; clear hL
  have HM := Lib.hid h; clear h
  have HK := Lib.hid K
  go_enter Try.func80, Try.ntmps80
  go_upto_region 1 with (fail)
  obtain ⟨w1, hw1⟩ : ∃ w1, w1 = w.alloc (.cells (blkC val l).toArray 155) := ⟨_, rfl⟩
  have HB1 : Hid (Below w.heap.size w w1) := by rw [hw1]; exact Lib.hid ((Below.refl _ _).alloc (Nat.le_refl _) _)
  have HR1 : Hid (w1.rangeAt w.heap.size 0 (blkC val l)) := by
    rw [hw1]
    have := World.rangeAt_of_block (heap_alloc_new w (.cells (blkC val l).toArray 155)) 0 (blkC val l).length
    simpa using Lib.hid this
  rw [← hw1]
  clear hw1
  have hbm : bm < w.heap.size := (Array.getElem?_eq_some_iff.1 HM.out).1
  have HM1 : Hid (IdxMapG val vN w1 bm L) := Lib.hid ((HB1.out.block bm hbm).trans HM.out)
  obtain ⟨bb, hbb⟩ : ∃ bb, bb = w.heap.size := ⟨_, rfl⟩
  rw [← hbb] at HR1 ⊢
  have HBb := Lib.hid hbb; clear hbb
  have HLk := Lib.hid (K.lookupG (vv := vN) (z := .int .i64 0) (te := 3) Try.underlying153 (fun w => by kernel_rfl) HM1.out l hl HL.out true)
  refine wp_region_list ?_
  refine wpList_val (v := .map (some bm)) (w' := w1) rfl (by rfl) ?_
  refine wpList_load_mid rfl 155 (.tmp 3) rfl bb 0 rfl (blkC val l) (.array 64 3) HR1.out Try.underlying155 rfl (by rw [hbs]; kernel_rfl) ?_
  cases hf : findB eqB l L with
  | some k =>
    have hnum : numB eqB L l = (L, k) := by unfold numB; rw [hf]
    rw [hf] at HLk
    have HLk2 : Hid ((Instr.lookup 153 (.map (some bm)) (blkV val l) true).run Try.prog w1 = .ok (.tuple #[.int .i64 (k : Nat), .bool true]) w1) := Lib.hid HLk.out
    refine wpList_val (v := .tuple #[.int .i64 (k : Nat), .bool true]) (w' := w1) rfl (exec_lookup 153 (.tmp 9) (.tmp 10) true rfl (.map (some bm)) (blkV val l) _ rfl rfl HLk2.out) ?_
    have HN := Lib.hid (And.intro hnum hf); clear hnum hf
    go_wp2
    go_ret2
    rw [HN.out.1, HN.out.2]
    exact ⟨rfl, ⟨HB1.out.os, HB1.out.tape, HB1.out.output, HB1.out.size, fun k hk _ => HB1.out.block k hk⟩, HM1.out⟩
  | none =>
    have hnum : numB eqB L l = (L ++ [l], L.length) := by unfold numB; rw [hf]
    rw [hf] at HLk
    have HLk2 : Hid ((Instr.lookup 153 (.map (some bm)) (blkV val l) true).run Try.prog w1 = .ok (.tuple #[.int .i64 0, .bool false]) w1) := Lib.hid HLk.out
    refine wpList_val (v := .tuple #[.int .i64 0, .bool false]) (w' := w1) rfl (exec_lookup 153 (.tmp 9) (.tmp 10) true rfl (.map (some bm)) (blkV val l) _ rfl rfl HLk2.out) ?_
    have HSt := Lib.hid (K.storeG Try.underlying153 (te := 3) HM1.out l hl HL.out hf (.int .i64 (L.length : Nat)) rfl)
    have HM3 : Hid (IdxMapG val vN (putB w1 bm (.map (entsG val vN 0 (L ++ [l])).toArray (L ++ [l]).length)) bm (L ++ [l])) := Lib.hid (putB_same w1 _ (by have := HB1.out.size; omega))
    have HG3 : Hid (w.grownBy (putB w1 bm (.map (entsG val vN 0 (L ++ [l])).toArray (L ++ [l]).length)) (some bm)) := Lib.hid ⟨HB1.out.os, HB1.out.tape, HB1.out.output, by simpa [putB] using HB1.out.size, fun k hk hne => by rw [putB_other w1 _ (fun e => hne (by rw [e]))]; exact HB1.out.block k hk⟩
    generalize (putB w1 bm (.map (entsG val vN 0 (L ++ [l])).toArray (L ++ [l]).length)) = w3 at *
    have hlen : (Builtin.len_ #[153] 3 #[.map (some bm)]).run Try.prog w1 = .ok (.int .i64 (L.length : Nat)) w1 := by
      have := run_len_map (P := Try.prog) w1 153 3 bm _ _ (by kernel_rfl) HM1.out
      rw [List.size_toArray, entsG_length] at this
      exact this
    have HN := Lib.hid (And.intro hnum hf); clear hnum hf
    go_upto_region 4 with (fail)
    refine wp_region_list ?_
    refine wpList_val (v := .map (some bm)) (w' := w1) rfl (by rfl) ?_
    refine wpList_load_mid rfl 155 (.tmp 3) rfl bb 0 rfl (blkC val l) (.array 64 3) HR1.out Try.underlying155 rfl (by rw [hbs]; kernel_rfl) ?_
    refine wpList_val (v := .int .i64 (L.length : Nat)) (w' := w1) rfl (by rfl) ?_
    refine wpList_mapUpdate_val rfl 153 (.tmp 18) (.tmp 19) (.tmp 20) rfl (.map (some bm)) (blkV val l) (.int .i64 (L.length : Nat)) rfl rfl rfl HSt.out ?_
    clear hlen
    go_wp2
    go_ret2
    rw [HN.out.1, HN.out.2]
    exact ⟨rfl, HG3.out, HM3.out⟩
end Go.Proofs.Ytabbabkmojaoaaa

/-
  The document's stages on their way, in memory.
-/
namespace Go.Proofs.Ytabbabkmojaoaaa
open Go.RowKit

structure StgAt (c : Nat) (lm : List (List Int)) (mm : List (List Nat)) (tops : List Nat) (mids : List (List Nat)) (lows : List (List Int)) (aT : Option Addr) (cT : Nat) (aM : Option Addr) (cM : Nat) (aL : Option Addr) (cL : Nat) (W : World) : Prop where
  s : W.heap[c]? = some (.cells #[.slice aT tops.length cT, .slice aM (64 * mids.length) cM, .slice aL (64 * lows.length) cL] 70 (0, 0))
  rt : Own (c + 3) 3 W aT tops.length cT (ivs .i64 (natsI tops))
  rm : Own (c + 3) 3 W aM (64 * mids.length) cM (ivs .i64 (natsI mids.flatten))
  rl : Own (c + 3) 3 W aL (64 * lows.length) cL (ivs .i64 lows.flatten)
  tm : ∀ k, ob aT = some k → ob aM ≠ some k
  tl : ∀ k, ob aT = some k → ob aL ≠ some k
  ml : ∀ k, ob aM = some k → ob aL ≠ some k
  lo : IdxMapG vI vN W (c + 1) lm
  mi : IdxMapG vN vN W (c + 2) mm
section
variable {c : Nat} {lm lm' : List (List Int)} {mm mm' : List (List Nat)} {tops : List Nat} {mids : List (List Nat)} {lows : List (List Int)} {aT : Option Addr} {cT : Nat} {aM : Option Addr} {cM : Nat} {aL : Option Addr} {cL : Nat} {W W' : World}
theorem StgAt.bT (h : StgAt c lm mm tops mids lows aT cT aM cM aL cL W) : ∀ k, ob aT = some k → c + 3 ≤ k ∧ k < W.heap.size := fun k e => World.ownsRow.lt h.rt k (by rw [ob_eq]; exact e)
theorem StgAt.bM (h : StgAt c lm mm tops mids lows aT cT aM cM aL cL W) : ∀ k, ob aM = some k → c + 3 ≤ k ∧ k < W.heap.size := fun k e => World.ownsRow.lt h.rm k (by rw [ob_eq]; exact e)
theorem StgAt.bL (h : StgAt c lm mm tops mids lows aT cT aM cM aL cL W) : ∀ k, ob aL = some k → c + 3 ≤ k ∧ k < W.heap.size := fun k e => World.ownsRow.lt h.rl k (by rw [ob_eq]; exact e)
theorem StgAt.sz (h : StgAt c lm mm tops mids lows aT cT aM cM aL cL W) : c + 3 ≤ W.heap.size := (Array.getElem?_eq_some_iff.1 h.mi).1
theorem StgAt.off (h : StgAt c lm mm tops mids lows aT cT aM cM aL cL W) {T : Nat → Prop} (ho : Off T W W') (ht : ∀ k, T k → c + 3 ≤ k ∧ ob aT ≠ some k ∧ ob aM ≠ some k ∧ ob aL ≠ some k) : StgAt c lm mm tops mids lows aT cT aM cM aL cL W' :=
  ⟨ho.cellsBlock h.s (fun e => by have := (ht _ e).1; omega),
   h.rt.off ho (fun k e e2 => (ht k e2).2.1 (by rw [← ob_eq aT tops.length cT]; exact e)),
   h.rm.off ho (fun k e e2 => (ht k e2).2.2.1 (by rw [← ob_eq aM (64 * mids.length) cM]; exact e)),
   h.rl.off ho (fun k e e2 => (ht k e2).2.2.2 (by rw [← ob_eq aL (64 * lows.length) cL]; exact e)),
   h.tm, h.tl, h.ml, ho.cellsBlock h.lo (fun e => by have := (ht _ e).1; omega), ho.cellsBlock h.mi (fun e => by have := (ht _ e).1; omega)⟩
theorem StgAt.below (h : StgAt c lm mm tops mids lows aT cT aM cM aL cL W) (hb : Below W.heap.size W W') : StgAt c lm mm tops mids lows aT cT aM cM aL cL W' :=
  h.off (T := fun _ => False) (.of_below hb) (fun _ e => e.elim)
theorem StgAt.map_lo (h : StgAt c lm mm tops mids lows aT cT aM cM aL cL W) (hg : W.grownBy W' (some (c + 1))) (hm : IdxMapG vI vN W' (c + 1) lm') : StgAt c lm' mm tops mids lows aT cT aM cM aL cL W' := by
  have ho : Off (fun k => k = c + 1) W W' := .of_grown hg (fun k e => by cases e; rfl)
  exact ⟨ho.cellsBlock h.s (by omega), h.rt.off ho (fun k e e2 => by have := h.bT k (by rw [← ob_eq aT tops.length cT]; exact e); omega), h.rm.off ho (fun k e e2 => by have := h.bM k (by rw [← ob_eq aM (64 * mids.length) cM]; exact e); omega),
    h.rl.off ho (fun k e e2 => by have := h.bL k (by rw [← ob_eq aL (64 * lows.length) cL]; exact e); omega), h.tm, h.tl, h.ml, hm, ho.cellsBlock h.mi (by omega)⟩
theorem StgAt.map_mi (h : StgAt c lm mm tops mids lows aT cT aM cM aL cL W) (hg : W.grownBy W' (some (c + 2))) (hm : IdxMapG vN vN W' (c + 2) mm') : StgAt c lm mm' tops mids lows aT cT aM cM aL cL W' := by
  have ho : Off (fun k => k = c + 2) W W' := .of_grown hg (fun k e => by cases e; rfl)
  exact ⟨ho.cellsBlock h.s (by omega), h.rt.off ho (fun k e e2 => by have := h.bT k (by rw [← ob_eq aT tops.length cT]; exact e); omega), h.rm.off ho (fun k e e2 => by have := h.bM k (by rw [← ob_eq aM (64 * mids.length) cM]; exact e); omega),
    h.rl.off ho (fun k e e2 => by have := h.bL k (by rw [← ob_eq aL (64 * lows.length) cL]; exact e); omega), h.tm, h.tl, h.ml, ho.cellsBlock h.lo (by omega), hm⟩
theorem new_ob {w : World} {a a' : Option Addr} {n c n' c' : Nat} (hn : newBlock w (.slice a n c) (.slice a' n' c')) : ob a' = ob a ∨ ∃ g, ob a' = some g ∧ w.heap.size ≤ g := by
  unfold newBlock at hn
  rw [ob_eq, ob_eq] at hn
  exact hn
/-- one more low block -/
theorem StgAt.pushL (h : StgAt c lm mm tops mids lows aT cT aM cM aL cL W) (l : List Int) {aL' : Option Addr} {cL' : Nat} (hl : l.length = 64) (ho : Own (c + 3) 3 W' aL' (64 * lows.length + 64) cL' (ivs .i64 lows.flatten ++ ivs .i64 l)) (hg : W.grownBy W' (Value.slice aL (64 * lows.length) cL).ownBlock)
    (hn : newBlock W (.slice aL (64 * lows.length) cL) (.slice aL' (64 * lows.length + 64) cL')) : StgAt c lm mm tops mids (lows ++ [l]) aT cT aM cM aL' cL' (W'.setCell ⟨c, 2, none⟩ (.slice aL' (64 * lows.length + 64) cL')) := by
  rw [ob_eq] at hg
  have hn := new_ob hn
  have hsz := h.sz
  have o1 : Off (fun k => ob aL = some k) W W' := .of_grown hg (fun k e => e)
  have o2 : Off (fun k => k = c) W' (W'.setCell ⟨c, 2, none⟩ (.slice aL' (64 * lows.length + 64) cL')) := .of_grown (grown_store W' c 2 _) (fun k e => by cases e; rfl)
  have hT : Own (c + 3) 3 W' aT tops.length cT (ivs .i64 (natsI tops)) := h.rt.off o1 (fun k e e2 => h.tl k (by rw [← ob_eq aT tops.length cT]; exact e) e2)
  have hM : Own (c + 3) 3 W' aM (64 * mids.length) cM (ivs .i64 (natsI mids.flatten)) := h.rm.off o1 (fun k e e2 => h.ml k (by rw [← ob_eq aM (64 * mids.length) cM]; exact e) e2)
  refine ⟨?_, hT.off o2 (fun k e e2 => by have := h.bT k (by rw [← ob_eq aT tops.length cT]; exact e); omega), hM.off o2 (fun k e e2 => by have := h.bM k (by rw [← ob_eq aM (64 * mids.length) cM]; exact e); omega), ?_, h.tm, ?_, ?_, ?_, ?_⟩
  · have hs := o1.cellsBlock h.s (fun e => by have := h.bL _ e; omega)
    rw [heap_setCell_same W' c 2 _ _ _ hs]
    simp [List.length_append, Nat.mul_add]
  · have := ho.off o2 (fun k e e2 => by have := World.ownsRow.lt ho k e; omega)
    have e1 : 64 * (lows ++ [l]).length = 64 * lows.length + 64 := by simp; omega
    have e2 : ivs .i64 (lows ++ [l]).flatten = ivs .i64 lows.flatten ++ ivs .i64 l := by rw [List.flatten_append, ivs_append]; simp
    rw [e1, e2]
    exact this
  · intro k e e2
    rcases hn with hn | ⟨g, hn, hg2⟩
    · rw [hn] at e2; exact h.tl k e e2
    · rw [hn] at e2; cases e2; have := h.bT k e; omega
  · intro k e e2
    rcases hn with hn | ⟨g, hn, hg2⟩
    · rw [hn] at e2; exact h.ml k e e2
    · rw [hn] at e2; cases e2; have := h.bM k e; omega
  · exact o2.cellsBlock (o1.cellsBlock h.lo (fun e => by have := h.bL _ e; omega)) (by omega)
  · exact o2.cellsBlock (o1.cellsBlock h.mi (fun e => by have := h.bL _ e; omega)) (by omega)
/-- one more middle block -/
theorem StgAt.pushM (h : StgAt c lm mm tops mids lows aT cT aM cM aL cL W) (l : List Nat) {aM' : Option Addr} {cM' : Nat} (hl : l.length = 64) (ho : Own (c + 3) 3 W' aM' (64 * mids.length + 64) cM' (ivs .i64 (natsI mids.flatten) ++ ivs .i64 (natsI l))) (hg : W.grownBy W' (Value.slice aM (64 * mids.length) cM).ownBlock)
    (hn : newBlock W (.slice aM (64 * mids.length) cM) (.slice aM' (64 * mids.length + 64) cM')) : StgAt c lm mm tops (mids ++ [l]) lows aT cT aM' cM' aL cL (W'.setCell ⟨c, 1, none⟩ (.slice aM' (64 * mids.length + 64) cM')) := by
  rw [ob_eq] at hg
  have hn := new_ob hn
  have hsz := h.sz
  have o1 : Off (fun k => ob aM = some k) W W' := .of_grown hg (fun k e => e)
  have o2 : Off (fun k => k = c) W' (W'.setCell ⟨c, 1, none⟩ (.slice aM' (64 * mids.length + 64) cM')) := .of_grown (grown_store W' c 1 _) (fun k e => by cases e; rfl)
  have hT : Own (c + 3) 3 W' aT tops.length cT (ivs .i64 (natsI tops)) := h.rt.off o1 (fun k e e2 => h.tm k (by rw [← ob_eq aT tops.length cT]; exact e) e2)
  have hL : Own (c + 3) 3 W' aL (64 * lows.length) cL (ivs .i64 lows.flatten) := h.rl.off o1 (fun k e e2 => h.ml k e2 (by rw [← ob_eq aL (64 * lows.length) cL]; exact e))
  refine ⟨?_, hT.off o2 (fun k e e2 => by have := h.bT k (by rw [← ob_eq aT tops.length cT]; exact e); omega), ?_, hL.off o2 (fun k e e2 => by have := h.bL k (by rw [← ob_eq aL (64 * lows.length) cL]; exact e); omega), ?_, h.tl, ?_, ?_, ?_⟩
  · have hs := o1.cellsBlock h.s (fun e => by have := h.bM _ e; omega)
    rw [heap_setCell_same W' c 1 _ _ _ hs]
    simp [List.length_append, Nat.mul_add]
  · have := ho.off o2 (fun k e e2 => by have := World.ownsRow.lt ho k e; omega)
    have e1 : 64 * (mids ++ [l]).length = 64 * mids.length + 64 := by simp; omega
    have e2 : ivs .i64 (natsI (mids ++ [l]).flatten) = ivs .i64 (natsI mids.flatten) ++ ivs .i64 (natsI l) := by rw [List.flatten_append, natsI_append, ivs_append]; simp
    rw [e1, e2]
    exact this
  · intro k e e2
    rcases hn with hn | ⟨g, hn, hg2⟩
    · rw [hn] at e2; exact h.tm k e e2
    · rw [hn] at e2; cases e2; have := h.bT k e; omega
  · intro k e e2
    rcases hn with hn | ⟨g, hn, hg2⟩
    · rw [hn] at e; exact h.ml k e e2
    · rw [hn] at e; cases e; have := h.bL k e2; omega
  · exact o2.cellsBlock (o1.cellsBlock h.lo (fun e => by have := h.bM _ e; omega)) (by omega)
  · exact o2.cellsBlock (o1.cellsBlock h.mi (fun e => by have := h.bM _ e; omega)) (by omega)
/-- one more number at the top -/
theorem StgAt.pushT (h : StgAt c lm mm tops mids lows aT cT aM cM aL cL W) (x : Nat) {aT' : Option Addr} {cT' : Nat} (ho : Own (c + 3) 3 W' aT' (tops.length + 1) cT' (ivs .i64 (natsI tops) ++ [.int .i64 (x : Nat)])) (hg : W.grownBy W' (Value.slice aT tops.length cT).ownBlock)
    (hn : newBlock W (.slice aT tops.length cT) (.slice aT' (tops.length + 1) cT')) : StgAt c lm mm (tops ++ [x]) mids lows aT' cT' aM cM aL cL (W'.setCell ⟨c, 0, none⟩ (.slice aT' (tops.length + 1) cT')) := by
  rw [ob_eq] at hg
  have hn := new_ob hn
  have hsz := h.sz
  have o1 : Off (fun k => ob aT = some k) W W' := .of_grown hg (fun k e => e)
  have o2 : Off (fun k => k = c) W' (W'.setCell ⟨c, 0, none⟩ (.slice aT' (tops.length + 1) cT')) := .of_grown (grown_store W' c 0 _) (fun k e => by cases e; rfl)
  have hM : Own (c + 3) 3 W' aM (64 * mids.length) cM (ivs .i64 (natsI mids.flatten)) := h.rm.off o1 (fun k e e2 => h.tm k e2 (by rw [← ob_eq aM (64 * mids.length) cM]; exact e))
  have hL : Own (c + 3) 3 W' aL (64 * lows.length) cL (ivs .i64 lows.flatten) := h.rl.off o1 (fun k e e2 => h.tl k e2 (by rw [← ob_eq aL (64 * lows.length) cL]; exact e))
  refine ⟨?_, ?_, hM.off o2 (fun k e e2 => by have := h.bM k (by rw [← ob_eq aM (64 * mids.length) cM]; exact e); omega), hL.off o2 (fun k e e2 => by have := h.bL k (by rw [← ob_eq aL (64 * lows.length) cL]; exact e); omega), ?_, ?_, h.ml, ?_, ?_⟩
  · have hs := o1.cellsBlock h.s (fun e => by have := h.bT _ e; omega)
    rw [heap_setCell_same W' c 0 _ _ _ hs]
    simp [List.length_append]
  · have := ho.off o2 (fun k e e2 => by have := World.ownsRow.lt ho k e; omega)
    have e1 : (tops ++ [x]).length = tops.length + 1 := by simp
    have e2 : ivs .i64 (natsI (tops ++ [x])) = ivs .i64 (natsI tops) ++ [.int .i64 (x : Nat)] := by rw [natsI_push, ivs_append]; rfl
    rw [e1, e2]
    exact this
  · intro k e e2
    rcases hn with hn | ⟨g, hn, hg2⟩
    · rw [hn] at e; exact h.tm k e e2
    · rw [hn] at e; cases e; have := h.bM k e2; omega
  · intro k e e2
    rcases hn with hn | ⟨g, hn, hg2⟩
    · rw [hn] at e; exact h.tl k e e2
    · rw [hn] at e; cases e; have := h.bL k e2; omega
  · exact o2.cellsBlock (o1.cellsBlock h.lo (fun e => by have := h.bT _ e; omega)) (by omega)
  · exact o2.cellsBlock (o1.cellsBlock h.mi (fun e => by have := h.bT _ e; omega)) (by omega)
end
/-- the answer's memory -/
def StagesAt (w : World) (sv : Value) (S : MkS Int) : Prop := ∃ aT cT aM cM aL cL, sv = .agg #[.slice aT S.top.length cT, .slice aM (64 * S.mids.length) cM, .slice aL (64 * S.lows.length) cL] ∧ Ints .i64 w aT (natsI S.top) ∧ Ints .i64 w aM (natsI S.mids.flatten) ∧ Ints .i64 w aL S.lows.flatten
/-- the block that was met last, where all of it has one value -/
def LastI (F : Nat → Int) (k : Nat) (n last : Int) : Prop := n = -1 ∨ ∃ q : Nat, n = (q : Int) ∧ (mkF F k).lows[q]? = some (List.replicate 64 last)
theorem LastI.next {F : Nat → Int} {k : Nat} {n last : Int} (h : LastI F k n last) : LastI F (k + 1) n last := by
  rcases h with h | ⟨q, h1, h2⟩
  · exact .inl h
  · exact .inr ⟨q, h1, (mkF_pre F k 1 q).1 _ h2⟩
/-- a block that is met again -/
theorem last_met {F : Nat → Int} {k q : Nat} {v : Int} (hk : k < 17408) (hq : (mkF F k).lows[q]? = some (List.replicate 64 v)) (hb : blkF F k = List.replicate 64 v) : noF F k = q ∧ (mkF F (k + 1)).lows = (mkF F k).lows := by
  have hi := inv8 F k (by omega)
  have hl : ∀ m ∈ (mkF F k).lows, m.length = (blkF F k).length := fun m hm => by rw [blkF_length]; exact (mkF_ok F k).1.low m hm
  have := (numB_at hi.nl hl (by rw [hb]; exact hq)).2
  have e : numB eq8 (mkF F k).lows (blkF F k) = ((mkF F k).lows, q) := this
  exact ⟨by unfold noF; rw [e], by rw [mkF_lows, e]⟩
theorem noF_at (F : Nat → Int) (k : Nat) (hk : k < 17408) : (mkF F (k + 1)).lows[noF F k]? = some (blkF F k) := by
  have hl : ∀ m ∈ (mkF F k).lows, m.length = (blkF F k).length := fun m hm => by rw [blkF_length]; exact (mkF_ok F k).1.low m hm
  rw [mkF_lows]
  exact (numB_ok hl).at_
end Go.Proofs.Ytabbabkmojaoaaa
