/- several texts in one: RR3 -/
import Derived.Test.YtabbabkmojaoaaaQ7
import Derived.Test.YtabbabkmojaoaaaQ5
set_option linter.unusedVariables false
set_option linter.unusedSimpArgs false
/-
  TrieReads: the document's 'Read'.
-/
namespace Go.Proofs.Ytabbabkmojaoaaa
open Go.RowKit
attribute [local go_sem] Oper.semAt_some

theorem exec_fieldV {P : Program} {o : Oper} {a : Act} {w : World} (ty : TypeId) (x : Operand) (j : Nat) (ho : o.op = .fieldAddr ty x j) (u v : Value) (hx : a.eval x = u) (hr : (Instr.fieldAt ty u j).run P w = .ok v w) : (execOp a.eval o).run P w = .ok (.value v) w := by
  subst hx
  unfold execOp
  simp only [ho, Sem.run_bind, hr, Result.andThen_ok, Sem.run_pure]
theorem exec_call2 {P : Program} {o : Oper} {a : Act} {w : World} (f : FuncId) (x y : Operand) (ts : Array TypeId) (ho : o.op = .call { callee := .value (.func f), args := #[x, y], argTypes := ts }) (u v : Value) (hu : a.eval x = u) (hv : a.eval y = v) (eg : ∀ args W, (callFunc f args).run P W = .ok (.enter f args) W) :
    (execOp a.eval o).run P w = .ok (.enter f #[u, v]) w := by
  subst hu hv
  unfold execOp
  simp only [ho]
  simp [resolve, invoke, go_sem, eg, Act.eval]
theorem own_none {B : Nat} {E : TypeId} {w : World} {n c : Nat} {xs : List Value} {a : Option Addr} (h : Own B E w a n c xs) (ha : a = none) : c = 0 := by
  subst ha
  rcases h.2 with ⟨e, -⟩ | ⟨g, cap, cur, e, -⟩
  · simp only [Value.slice.injEq] at e; exact e.2.2
  · simp at e
theorem runL_last (F : Nat → Int) (r : Nat) : (runL F (r + 1)).getLast? = some ((r : Int), F r) := by
  rw [runL]
  rcases withL_form (runL F r) (r : Nat) (F r) with ⟨x, -, -, h⟩ | h <;> rw [h] <;> simp
theorem withL_same {L : List (Int × Int)} {x : Int × Int} {t v : Int} (h : L.getLast? = some x) (hv : x.2 = v) : withL L t v = L.dropLast ++ [(t, v)] := by
  unfold withL; rw [h]; simp only; rw [if_pos hv]
theorem withL_new {L : List (Int × Int)} {t v : Int} (h : ∀ x, L.getLast? = some x → x.2 ≠ v) : withL L t v = L ++ [(t, v)] := by
  unfold withL
  cases hl : L.getLast? with
  | none => rw [List.getLast?_eq_none_iff.1 hl]; rfl
  | some x => simp only; rw [if_neg (h x hl)]
/-- a function on its way, in a box of its own, its two rows in blocks of their own -/
structure FnSt (z bf : Nat) (L : List (Int × Int)) (n : Nat) (aT : Option Addr) (cT : Nat) (aV : Option Addr) (cV : Nat) (W : World) : Prop where
  len : L.length = n
  blk : W.heap[bf]? = some (.cells #[.slice aT n cT, .slice aV n cV] 63 (0, 0))
  oT : Own z 21 W aT n cT (ivs .i32 (L.map (·.1)))
  oV : Own z 3 W aV n cV (ivs .i64 (L.map (·.2)))
  ne : ∀ k, (Value.slice aT n cT).ownBlock = some k → (Value.slice aV n cV).ownBlock ≠ some k
  lt : bf < z
theorem FnSt.setT {z bf : Nat} {L : List (Int × Int)} {n m : Nat} {g : Nat} {cT : Nat} {aV : Option Addr} {cV : Nat} {W : World} (h : FnSt z bf L n (some ⟨g, 0, none⟩) cT aV cV W) (hn : n = m + 1) {x : Int × Int} (hl : L.getLast? = some x) {t v : Int} (hv : x.2 = v) :
    FnSt z bf (L.dropLast ++ [(t, v)]) n (some ⟨g, 0, none⟩) cT aV cV (W.setCell ⟨g, m, none⟩ (.int .i32 t)) := by
  have hlen := h.len
  obtain ⟨hne, e⟩ := List.getLast?_eq_some_iff.1 hl
  have hdl : L.dropLast.length = m := by rw [List.length_dropLast]; omega
  have e2 : L = L.dropLast ++ [x] := by rw [e]; simp
  have hg := (World.ownsRow.lt h.oT g rfl)
  have hlt := h.lt
  refine ⟨by simp [hdl, hn], ?_, ?_, ?_, h.ne, h.lt⟩
  · rw [heap_setCell_other W ⟨g, m, none⟩ bf _ (by show bf ≠ g; omega)]; exact h.blk
  · have h1 := Own.store h.oT m (.int .i32 t)
    have h2 : (ivs .i32 (L.map (·.1))).set m (.int .i32 t) = ivs .i32 ((L.dropLast ++ [(t, v)]).map (·.1)) := by
      rw [ivs_set]
      congr 1
      conv => lhs; rw [e2]
      rw [List.map_append, List.set_append_right _ _ (by rw [List.length_map, hdl]; exact Nat.le_refl _), List.length_map, hdl, Nat.sub_self, List.map_append]
      rfl
    rw [h2] at h1
    exact h1
  · have h2 : L.map (·.2) = (L.dropLast ++ [(t, v)]).map (·.2) := by
      conv => lhs; rw [e2]
      simp [hv]
    rw [← h2]
    exact h.oV.grown (grown_store W g m _) (by
      have := h.ne g rfl
      exact .inr this)
theorem idx3 {t k j r : Nat} (h : r = 4096 * t + 64 * k + j) (hk : k < 64) (hj : j < 64) : r / 4096 = t ∧ r / 64 % 64 = k ∧ r % 64 = j := by
  subst h
  refine ⟨by omega, ?_, by omega⟩
  have : (4096 * t + 64 * k + j) / 64 = 64 * t + k := by omega
  rw [this]
  omega
theorem idx3_lt {t k j r : Nat} (h : r = 4096 * t + 64 * k + j) (ht : t < 272) (hk : k < 64) (hj : j < 64) : r < 1114112 := by omega
theorem idx3_int {t k j r : Nat} (h : r = 4096 * t + 64 * k + j) : (t : Int) * 4096 + (k : Int) * 64 + (j : Int) = (r : Int) := by omega
theorem wrap64_small {x : Int} (h1 : 0 ≤ x) (h2 : x ≤ 4611686018427387904) : wrap64 x = x := by unfold wrap64; omega
theorem wrap32_small {x : Int} (h1 : 0 ≤ x) (h2 : x ≤ 1114112) : wrap32 x = x := by unfold wrap32; omega
theorem wr1 {t : Nat} (h : t < 272) : wrap64 ((t : Int) * 4096) = (t : Int) * 4096 := wrap64_small (by omega) (by omega)
theorem wr2 {k : Nat} (h : k < 64) : wrap64 ((k : Int) * 64) = (k : Int) * 64 := wrap64_small (by omega) (by omega)
theorem wr3 {t k : Nat} (h : t < 272) (hk : k < 64) : wrap64 ((t : Int) * 4096 + (k : Int) * 64) = (t : Int) * 4096 + (k : Int) * 64 := wrap64_small (by omega) (by omega)
theorem wr4 {r : Nat} (h : r < 1114112) : wrap64 (r : Int) = (r : Int) := wrap64_small (by omega) (by omega)
theorem wr5 {r : Nat} (h : r < 1114112) : wrap32 (r : Int) = (r : Int) := wrap32_small (by omega) (by omega)
/-- in range at one number -/
def RIn (zT zM : List Nat) (zL : List Int) (r : Nat) : Prop := 64 * zT.getD (r / 4096) 0 + r / 64 % 64 < zM.length ∧ 64 * (zM.getD (64 * zT.getD (r / 4096) 0 + r / 64 % 64) 0) + r % 64 < zL.length
/-- the state behind r numbers -/
def RdL (zT zM : List Nat) (zL : List Int) (z bf : Nat) (wb : World) (r : Nat) (lv ov : Value) (W : World) : Prop :=
  ∃ (last : Int) (opn : Bool) (n : Nat) (aT : Option Addr) (cT : Nat) (aV : Option Addr) (cV : Nat), lv = .int .i64 last ∧ ov = .bool opn ∧ (r = 0 → opn = false) ∧ (∀ q, r = q + 1 → opn = true ∧ last = partF zT zM zL q) ∧
    FnSt z bf (runL (partF zT zM zL) r) n aT cT aV cV W ∧ But z (fun k => k = bf) wb W ∧ ∀ q, q < r → RIn zT zM zL q
def RdA (zT zM : List Nat) (zL : List Int) (z bf : Nat) (wb : World) (lv ov tv : Value) (W : World) : Prop := ∃ t : Nat, t ≤ 272 ∧ tv = .int .i64 (t : Nat) ∧ RdL zT zM zL z bf wb (4096 * t) lv ov W
def RdB (zT zM : List Nat) (zL : List Int) (z bf : Nat) (wb : World) (t : Nat) (lv ov kv : Value) (W : World) : Prop := ∃ k : Nat, k ≤ 64 ∧ kv = .int .i64 (k : Nat) ∧ RdL zT zM zL z bf wb (4096 * t + 64 * k) lv ov W
def RdC (zT zM : List Nat) (zL : List Int) (z bf : Nat) (wb : World) (t k : Nat) (lv ov jv : Value) (W : World) : Prop := ∃ j : Nat, j ≤ 64 ∧ jv = .int .i64 (j : Nat) ∧ RdL zT zM zL z bf wb (4096 * t + 64 * k + j) lv ov W
/-- a function's rows from block B on -/
def FnFar (B : Nat) (fv : Value) : Prop := ∃ aT n c aV n' c', fv = .agg #[.slice aT n c, .slice aV n' c'] ∧ (∀ x, aT = some x → B ≤ x.block) ∧ ∀ x, aV = some x → B ≤ x.block
/-- parts that are some function's -/
def ReadOk (zT zM : List Nat) (zL : List Int) (M : Nat) : Prop := zT.length = 272 ∧ PartsIn zT zM zL ∧ (mkF (partF zT zM zL) M).top = zT ∧ (mkF (partF zT zM zL) M).mids.flatten = zM ∧ (mkF (partF zT zM zL) M).lows.flatten = zL
def RdPost (w : World) (zT zM : List Nat) (zL : List Int) (N M : Nat) (e : Ending) (w' : World) : Prop :=
  ∃ fv ok, e = .returned (.tuple #[fv, .bool ok]) ∧ (ok = true ↔ ReadOk zT zM zL M) ∧ (ok = true → FnAt w' fv (runL (partF zT zM zL) N)) ∧ FnFar w.heap.size fv ∧ Below w.heap.size w w'
theorem RdPost.no {w w' : World} {zT zM : List Nat} {zL : List Int} {N M : Nat} (h : ¬ ReadOk zT zM zL M) (hb : Below w.heap.size w w') : RdPost w zT zM zL N M (.returned (.tuple #[.agg #[.slice none 0 0, .slice none 0 0], .bool false])) w' :=
  ⟨_, false, rfl, ⟨(fun e => by cases e), fun h' => absurd h' h⟩, (fun e => by cases e), ⟨none, 0, 0, none, 0, 0, rfl, (fun x e => by cases e), (fun x e => by cases e)⟩, hb⟩
def RdJ (F : Nat → Int) (z bf : Nat) (wb : World) (r : Nat) (v : Int) (W : World) : Prop := ∃ L n g d1 a2 d2 x, FnSt z bf L (n + 1) (some ⟨g, 0, none⟩) d1 a2 d2 W ∧ L.getLast? = some x ∧ x.2 = v ∧ L.dropLast ++ [((r : Int), v)] = runL F (r + 1) ∧ But z (fun k => k = bf) wb W
theorem FnSt.cell {z bf : Nat} {L : List (Int × Int)} {n g d1 : Nat} {a2 : Option Addr} {d2 : Nat} {W : World} (h : FnSt z bf L (n + 1) (some ⟨g, 0, none⟩) d1 a2 d2 W) : ∃ u, W.cell? ⟨g, n, none⟩ = some (.int .i32 u) := by
  have hl : n < (ivs .i32 (L.map (·.1))).length := by rw [ivs_length, List.length_map, h.len]; omega
  have := Own.cell h.oT n hl
  exact ⟨_, by rw [this]; simp [ivs]; rfl⟩
theorem RdJ.old {F : Nat → Int} {z bf : Nat} {wb : World} {r : Nat} {v : Int} {W : World} {n : Nat} {a1 : Option Addr} {d1 : Nat} {a2 : Option Addr} {d2 : Nat} (h : FnSt z bf (runL F r) n a1 d1 a2 d2 W) (hr : ∃ q, r = q + 1 ∧ F q = v) (hF : F r = v) (hb : But z (fun k => k = bf) wb W) : RdJ F z bf wb r v W := by
  obtain ⟨q, rfl, hq⟩ := hr
  have hl := runL_last F q
  have hne : runL F (q + 1) ≠ [] := fun e => by rw [e] at hl; cases hl
  have hn : 0 < n := by rw [← h.len]; exact List.length_pos_iff.2 hne
  obtain ⟨m, rfl⟩ : ∃ m, n = m + 1 := ⟨n - 1, by omega⟩
  obtain ⟨g, rfl, -⟩ := Own.at h.oT (by omega)
  refine ⟨runL F (q + 1), m, g, d1, a2, d2, _, h, hl, hq, ?_, hb⟩
  rw [show runL F (q + 1 + 1) = withL (runL F (q + 1)) ((q + 1 : Nat) : Int) (F (q + 1)) from rfl, hF]
  exact (withL_same hl hq).symm
set_option maxRecDepth 100000 in
set_option maxHeartbeats 1600000 in
theorem refRead_walk (w : World) (sv : Value) (zT zM : List Nat) (zL : List Int) (N M : Nat) (hN : N = 1114112) (hM : M = 17408) (h1 : zT.length ≤ 1099511627776) (h2 : zM.length ≤ 1099511627776) (h3 : zL.length ≤ 1099511627776) (r1 : ∀ x ∈ zT, x < 65536) (r2 : ∀ x ∈ zM, x < 65536) (hs : ThreeAt w sv (natsI zT) (natsI zM) zL) :
    Calls Try.prog 52 #[sv] w fun e w' => RdPost w zT zM zL N M e w' := by
  obtain ⟨aT, cT, aM, cM, aL, cL, rfl, hT, hM', hL⟩ := hs
  rw [natsI_length, natsI_length]
  obtain ⟨nT, hnT⟩ : ∃ n, zT.length = n := ⟨_, rfl⟩
  obtain ⟨nM, hnM⟩ : ∃ n, zM.length = n := ⟨_, rfl⟩
  obtain ⟨nL, hnL⟩ : ∃ n, zL.length = n := ⟨_, rfl⟩
  rw [hnT] at h1 ⊢; rw [hnM] at h2 ⊢; rw [hnL] at h3 ⊢
  have HT := Lib.hid hT; have HM := Lib.hid hM'; have HL := Lib.hid hL
  have HnT := Lib.hid hnT; have HnM := Lib.hid hnM; have HnL := Lib.hid hnL
  have HrT := Lib.hid r1; have HrM := Lib.hid r2; have HN := Lib.hid hN; have HMM := Lib.hid hM
  clear hT hM' hL hnT hnM hnL r1 r2 hN hM
  obtain ⟨b0, hb0⟩ : ∃ b0, b0 = w.heap.size := ⟨_, rfl⟩
  obtain ⟨W, hW⟩ : ∃ W, W = ((w.alloc (.cells #[.slice aT nT cT, .slice aM nM cM, .slice aL nL cL] 70)).alloc (.cells #[.slice none 0 0, .slice none 0 0] 63)).alloc (.cells #[.slice none 0 0, .slice none 0 0] 63) := ⟨_, rfl⟩
  have HP : Hid (Below w.heap.size w W ∧ W.heap[b0]? = some (.cells #[.slice aT nT cT, .slice aM nM cM, .slice aL nL cL] 70 (0, 0)) ∧ W.heap[b0 + 1]? = some (.cells #[.slice none 0 0, .slice none 0 0] 63 (0, 0)) ∧ W.heap[b0 + 2]? = some (.cells #[.slice none 0 0, .slice none 0 0] 63 (0, 0)) ∧ W.heap.size = b0 + 3) := Lib.hid (by
    rw [hb0, hW]
    obtain ⟨h1, h2, h3, h4⟩ := two_boxes w #[.slice aT nT cT, .slice aM nM cM, .slice aL nL cL] #[.slice none 0 0, .slice none 0 0] 70 63
    have h5 := (Below.refl _ ((w.alloc (.cells #[.slice aT nT cT, .slice aM nM cM, .slice aL nL cL] 70)).alloc (.cells #[.slice none 0 0, .slice none 0 0] 63))).alloc (Nat.le_refl _) (.cells #[.slice none 0 0, .slice none 0 0] 63)
    have h6 := heap_alloc_new ((w.alloc (.cells #[.slice aT nT cT, .slice aM nM cM, .slice aL nL cL] 70)).alloc (.cells #[.slice none 0 0, .slice none 0 0] 63)) (.cells #[.slice none 0 0, .slice none 0 0] 63)
    rw [h4] at h6
    exact ⟨h1.trans (h5.mono h1.size), (h5.block _ (by omega)).trans h2, (h5.block _ (by omega)).trans h3, h6, by rw [World.size_alloc, h4]⟩)
  have HW := Lib.hid hW; have HBz := Lib.hid hb0; clear hW hb0
  have q0 := cell_of_row W b0 0 _ _ (0, 0) HP.out.2.1
  have q1 := cell_of_row W b0 1 _ _ (0, 0) HP.out.2.1
  have q2 := cell_of_row W b0 2 _ _ (0, 0) HP.out.2.1
  have p0 := cell_of_row W (b0 + 2) 0 _ _ (0, 0) HP.out.2.2.2.1
  have p1 := cell_of_row W (b0 + 2) 1 _ _ (0, 0) HP.out.2.2.2.1
  have x0 := cell_of_row W (b0 + 1) 0 _ _ (0, 0) HP.out.2.2.1
  have x1 := cell_of_row W (b0 + 1) 1 _ _ (0, 0) HP.out.2.2.1
  have y0 := frozen_of_row W (b0 + 1) 0 _ _ HP.out.2.2.1
  have y1 := frozen_of_row W (b0 + 1) 1 _ _ HP.out.2.2.1
  simp at q0 q1 q2 p0 p1 x0 x1
  go_enter Try.func52, Try.ntmps52
  go_upto_region 2 with (fail)
  rw [← HW.out, ← HBz.out]
  have e2b : b0 + 1 + 1 = b0 + 2 := rfl
  try rw [e2b]
  clear e2b
  have HCs : Hid (∀ v, But (b0 + 3) (fun k => k = b0 + 2) W v → Below w.heap.size w v ∧ v.heap[b0]? = some (.cells #[.slice aT nT cT, .slice aM nM cM, .slice aL nL cL] 70 (0, 0)) ∧ v.heap[b0 + 1]? = some (.cells #[.slice none 0 0, .slice none 0 0] 63 (0, 0))) := Lib.hid (fun v hb =>
    ⟨HP.out.1.trans (hb.below _ (by have := HBz.out; omega) (fun q e => by subst e; have := HBz.out; omega)), hb.keep HP.out.2.1 (by omega) (by simp), hb.keep HP.out.2.2.1 (by omega) (by simp)⟩)
  have HNoR : Hid (∀ r, r < 1114112 → ¬ RIn zT zM zL r → ¬ ReadOk zT zM zL M) := Lib.hid (fun r hr hn h => hn (h.2.1 r (by omega)))
  have HBr : Hid (∀ v, But (b0 + 3) (fun k => k = b0 + 2) W v → Below w.heap.size w ((v.setCell ⟨b0 + 1, 0, none⟩ (.slice none 0 0)).setCell ⟨b0 + 1, 1, none⟩ (.slice none 0 0))) := Lib.hid (fun v hb =>
    ((HCs.out v hb).1.setCell (p := ⟨b0 + 1, 0, none⟩) (by show _ ≤ b0 + 1; have := HBz.out; omega) _).setCell (p := ⟨b0 + 1, 1, none⟩) (by show _ ≤ b0 + 1; have := HBz.out; omega) _)
  by_cases h272 : nT = 272
  · have HnE := Lib.hid h272
    subst h272
    clear p0 p1 x0 x1 y0 y1
    go_wp2
    go_loopw [5, 6, 7] (RdA zT zM zL (b0 + 3) (b0 + 2) W) (fun _ _ tv _ => 272 - (intOf tv).toNat)
    case atStart => exact ⟨0, Nat.zero_le _, rfl, 0, false, 0, none, 0, none, 0, rfl, rfl, fun _ => rfl, fun q e => by omega, ⟨rfl, HP.out.2.2.2.1, Own.nil _ _ _, Own.nil _ _ _, (fun k e => by cases e), by omega⟩, But.refl _ _ _, fun q hq => by omega⟩
    case round =>
      obtain ⟨t, ht, rfl, hst⟩ := hrel
      have HSt := Lib.hid hst; clear hst
      by_cases htn : t < 272
      · have hti : (t : Int) < 272 := by omega
        clear q0 q1 q2
        go_wp2
        go_loopw [5, 6, 8] (RdB zT zM zL (b0 + 3) (b0 + 2) W t) (fun _ _ kv _ => 64 - (intOf kv).toNat)
        case atStart => exact ⟨0, Nat.zero_le _, rfl, by rw [Nat.mul_zero, Nat.add_zero]; exact HSt.out⟩
        case round =>
          clear HSt
          obtain ⟨k, hk, rfl, hst⟩ := hrel
          have HSt := Lib.hid hst; clear hst
          obtain ⟨v1, hv1⟩ : ∃ v1, v1 = wr := ⟨_, rfl⟩
          rw [← hv1] at HSt ⊢
          clear hv1
          have HBt : Hid (But (b0 + 3) (fun k => k = b0 + 2) W v1) := Lib.hid (by obtain ⟨_, _, _, _, _, _, _, _, _, _, _, _, hb, _⟩ := HSt.out; exact hb)
          have HCv := Lib.hid (HCs.out v1 HBt.out)
          by_cases hkn : k < 64
          · have hki : (k : Int) < 64 := by omega
            have q0 := cell_of_row v1 b0 0 _ _ (0, 0) HCv.out.2.1
            have q1 := cell_of_row v1 b0 1 _ _ (0, 0) HCv.out.2.1
            have q2 := cell_of_row v1 b0 2 _ _ (0, 0) HCv.out.2.1
            have x0 := cell_of_row v1 (b0 + 1) 0 _ _ (0, 0) HCv.out.2.2
            have x1 := cell_of_row v1 (b0 + 1) 1 _ _ (0, 0) HCv.out.2.2
            have y0 := frozen_of_row v1 (b0 + 1) 0 _ _ HCv.out.2.2
            have y1 := frozen_of_row v1 (b0 + 1) 1 _ _ HCv.out.2.2
            simp at q0 q1 q2 x0 x1
            have t1 : t < zT.length := by have := HnT.out; omega
            obtain ⟨bT, oT, eT⟩ := HT.out.some (by rw [natsI_length]; omega)
            subst eT
            have c1 := (HT.out.below HCv.out.1 (Nat.le_refl _)).get t (by rw [natsI_length]; exact t1)
            rw [show (natsI zT)[t]'(by rw [natsI_length]; exact t1) = ((zT[t] : Nat) : Int) by simp [natsI]] at c1
            have hy := HrT.out _ (List.getElem_mem t1)
            obtain ⟨y, hyy⟩ : ∃ y, y = zT[t] := ⟨_, rfl⟩
            rw [← hyy] at c1 hy
            have HY : Hid (zT.getD t 0 = y) := Lib.hid (by rw [hyy, List.getD_eq_getElem?_getD, List.getElem?_eq_getElem t1]; rfl)
            clear hyy t1
            obtain ⟨m, hm⟩ : ∃ m : Nat, m = 64 * y + k := ⟨_, rfl⟩
            have hme : (y : Int) * 64 + (k : Int) = (m : Int) := by omega
            by_cases hmn : m < nM
            · have hmi : (m : Int) < (nM : Int) := by omega
              have HMd := Lib.hid hm; clear hm
              have dm : decide (nM ≤ m) = false := decide_eq_false (Nat.not_le.2 hmn)
              go_wp2
              go_loopw [5, 6, 10] (RdC zT zM zL (b0 + 3) (b0 + 2) W t k) (fun _ _ jv _ => 64 - (intOf jv).toNat)
              case atStart => exact ⟨0, Nat.zero_le _, rfl, by rw [Nat.add_zero]; exact HSt.out⟩
              case round =>
                clear HSt q0 q1 q2 x0 x1 y0 y1 c1 HCv HBt
                obtain ⟨j, hj, rfl, last, opn, n, a1, d1, a2, d2, rfl, rfl, ho1, ho2, hfn, hbut, hin⟩ := hrel
                have HO1 := Lib.hid ho1; have HO2 := Lib.hid ho2; have HFn := Lib.hid hfn; have HBt := Lib.hid hbut; have HIn := Lib.hid hin
                clear ho1 ho2 hfn hbut hin
                obtain ⟨v2, hv2⟩ : ∃ v2, v2 = wr := ⟨_, rfl⟩
                rw [← hv2] at HFn HBt ⊢
                clear hv2
                have HCv := Lib.hid (HCs.out v2 HBt.out)
                have HStJ : Hid (RdL zT zM zL (b0 + 3) (b0 + 2) W (4096 * t + 64 * k + j) (.int .i64 last) (.bool opn) v2) := Lib.hid ⟨last, opn, n, a1, d1, a2, d2, rfl, rfl, HO1.out, HO2.out, HFn.out, HBt.out, HIn.out⟩
                by_cases hjn : j < 64
                · have hji : (j : Int) < 64 := by omega
                  have q0 := cell_of_row v2 b0 0 _ _ (0, 0) HCv.out.2.1
                  have q1 := cell_of_row v2 b0 1 _ _ (0, 0) HCv.out.2.1
                  have q2 := cell_of_row v2 b0 2 _ _ (0, 0) HCv.out.2.1
                  have x0 := cell_of_row v2 (b0 + 1) 0 _ _ (0, 0) HCv.out.2.2
                  have x1 := cell_of_row v2 (b0 + 1) 1 _ _ (0, 0) HCv.out.2.2
                  have y0 := frozen_of_row v2 (b0 + 1) 0 _ _ HCv.out.2.2
                  have y1 := frozen_of_row v2 (b0 + 1) 1 _ _ HCv.out.2.2
                  simp at q0 q1 q2 x0 x1
                  have m1 : m < zM.length := by have := HnM.out; omega
                  obtain ⟨bM, oM, eM⟩ := HM.out.some (by rw [natsI_length]; omega)
                  subst eM
                  have c2 := (HM.out.below HCv.out.1 (Nat.le_refl _)).get m (by rw [natsI_length]; exact m1)
                  rw [show (natsI zM)[m]'(by rw [natsI_length]; exact m1) = ((zM[m] : Nat) : Int) by simp [natsI]] at c2
                  have hx := HrM.out _ (List.getElem_mem m1)
                  obtain ⟨x, hxx⟩ : ∃ x, x = zM[m] := ⟨_, rfl⟩
                  rw [← hxx] at c2 hx
                  have HX : Hid (zM.getD m 0 = x) := Lib.hid (by rw [hxx, List.getD_eq_getElem?_getD, List.getElem?_eq_getElem m1]; rfl)
                  clear hxx
                  obtain ⟨p, hp⟩ : ∃ p : Nat, p = 64 * x + j := ⟨_, rfl⟩
                  have hpe : (x : Int) * 64 + (j : Int) = (p : Int) := by omega
                  obtain ⟨r, hr⟩ : ∃ r : Nat, r = 4096 * t + 64 * k + j := ⟨_, rfl⟩
                  have HIx : Hid (r / 4096 = t ∧ r / 64 % 64 = k ∧ r % 64 = j) := Lib.hid (idx3 hr hkn hjn)
                  have HPd := Lib.hid hp
                  have HRI : Hid (RIn zT zM zL r ↔ p < nL) := Lib.hid (by
                    unfold RIn
                    obtain ⟨i1, i2, i3⟩ := HIx.out
                    rw [i1, i2, i3, HY.out, ← HMd.out, HX.out, ← HPd.out, HnL.out, HnM.out]
                    exact ⟨fun h => h.2, fun h => ⟨hmn, h⟩⟩)
                  rw [← hr] at HO1 HO2 HFn HIn
                  have hrl : r < 1114112 := idx3_lt hr htn hkn hjn
                  have e1 : (t : Int) * 4096 + (k : Int) * 64 + (j : Int) = (r : Int) := idx3_int hr
                  have HE1 := Lib.hid e1; clear e1
                  have HRd := Lib.hid hr; clear hr
                  by_cases hpn : p < nL
                  · have hpi : (p : Int) < (nL : Int) := Int.ofNat_lt.2 hpn
                    have dp : decide (nL ≤ p) = false := decide_eq_false (Nat.not_le.2 hpn)
                    have p1 : p < zL.length := by rw [HnL.out]; exact hpn
                    obtain ⟨bL, oL, eL⟩ := HL.out.some (Nat.lt_of_le_of_lt (Nat.zero_le _) p1)
                    subst eL
                    have c3 := (HL.out.below HCv.out.1 (Nat.le_refl _)).get p p1
                    obtain ⟨v, hvv⟩ : ∃ v, v = zL[p] := ⟨_, rfl⟩
                    rw [← hvv] at c3
                    have HF : Hid (partF zT zM zL r = v) := Lib.hid (by
                      obtain ⟨i1, i2, i3⟩ := HIx.out
                      unfold partF
                      rw [i1, i2, i3, HY.out, ← HMd.out, HX.out, ← HPd.out, hvv, List.getD_eq_getElem?_getD, List.getElem?_eq_getElem p1]
                      rfl)
                    clear hvv p1 hp
                    have e1 := HE1.out
                    go_upto_region 23 with (fail)
                    obtain ⟨nw, hnw⟩ : ∃ nw : Bool, nw = (!opn || (v != last)) := ⟨_, rfl⟩
                    have HNx : Hid ((nw = false ∧ ∃ q, r = q + 1 ∧ partF zT zM zL q = v) ∨ (nw = true ∧ ∀ x, (runL (partF zT zM zL) r).getLast? = some x → x.2 ≠ v)) := Lib.hid (by
                      rcases Nat.eq_zero_or_pos r with h0 | h0
                      · exact .inr ⟨by rw [hnw, HO1.out h0]; rfl, fun x hx => by rw [h0] at hx; cases hx⟩
                      · obtain ⟨q, rfl⟩ : ∃ q, r = q + 1 := ⟨r - 1, by omega⟩
                        obtain ⟨h1, h2⟩ := HO2.out q rfl
                        by_cases hv : v = last
                        · exact .inl ⟨by rw [hnw, h1, hv]; simp, q, rfl, by rw [← h2, hv]⟩
                        · exact .inr ⟨by rw [hnw]; simp [hv], fun x hx => by rw [runL_last] at hx; cases hx; simp only; rw [← h2]; exact fun e => hv e.symm⟩)
                    have HNw := Lib.hid hnw; clear hnw
                    go_cut [78] from 72 to 78 (fun p wx => p = .bool nw ∧ wx = v2)
                    case first =>
                      cases opn with
                      | false =>
                        have hE : Hid (nw = true) := Lib.hid (by rw [HNw.out]; rfl)
                        go_wp2
                        go_meet
                        exact ⟨congrArg Value.bool hE.out.symm, by first | rfl | trivial⟩
                      | true =>
                        have hE : Hid (nw = (v != last)) := Lib.hid (by rw [HNw.out]; rfl)
                        go_wp2
                        go_meet
                        exact ⟨congrArg Value.bool hE.out.symm, by first | rfl | trivial⟩
                    case rest =>
                      obtain ⟨rfl, rfl⟩ := hcut
                      go_step
                      go_cut [] from 79 to 90 (fun wx => RdJ (partF zT zM zL) (b0 + 3) (b0 + 2) W r v wx)
                      case first =>
                        rcases HNx.out with ⟨hnw, q, hq, hqv⟩ | ⟨hnw, hnew⟩
                        · subst hnw
                          have HJ := Lib.hid (RdJ.old HFn.out ⟨q, hq, hqv⟩ HF.out HBt.out)
                          clear hq hqv
                          go_wp2
                          go_meet
                          exact HJ.out
                        · subst hnw
                          have hlen := HFn.out.len
                          have hnl := runL_length (partF zT zM zL) r
                          rw [hlen] at hnl
                          have hnb : n ≤ 1114112 := Nat.le_of_lt (Nat.lt_of_le_of_lt hnl hrl)
                          have HNew := Lib.hid hnew
                          clear hnew hlen hnl
                          have k0 := cell_of_row wc (b0 + 2) 0 _ _ (0, 0) HFn.out.blk
                          have k1 := cell_of_row wc (b0 + 2) 1 _ _ (0, 0) HFn.out.blk
                          simp at k0 k1
                          go_upto_region 24 with (fail)
                          refine (wpIn_wide (n := 2)).1 ?_
                          refine wpIn_region_calm [11, 12, 13] (fun w' : World => w'.cell? ⟨b0 + 2, 0, none⟩ = some (.slice a1 n d1) ∧ w'.cell? ⟨b0 + 2, 1, none⟩ = some (.slice a2 n d2)) (by kernel_rfl) ?_
                          have HCx : Hid ((fun w' : World => w'.cell? ⟨b0 + 2, 0, none⟩ = some (.slice a1 n d1) ∧ w'.cell? ⟨b0 + 2, 1, none⟩ = some (.slice a2 n d2)) wc.drew) := Lib.hid ⟨k0, k1⟩
                          have HD : Hid (But (b0 + 3) (fun k => k = b0 + 2) W wc.drew ∧ FnSt (b0 + 3) (b0 + 2) (runL (partF zT zM zL) r) n a1 d1 a2 d2 wc.drew) := Lib.hid ⟨⟨HBt.out.os, HBt.out.tape, HBt.out.output, HBt.out.size, HBt.out.block⟩, HFn.out.len, HFn.out.blk, World.ownsRow.drew HFn.out.oT, World.ownsRow.drew HFn.out.oV, HFn.out.ne, HFn.out.lt⟩
                          have el32 : ElemN Try.prog 60 21 (.int .i32 0) 1 4 := ⟨Try.underlying60, by kernel_rfl, by kernel_rfl, by decide⟩
                          have el64 : ElemN Try.prog 61 3 (.int .i64 0) 1 8 := ⟨Try.underlying61, by kernel_rfl, by kernel_rfl, by decide⟩
                          clear k0 k1 c2 c3 q0 q1 q2 x0 x1 y0 y1
                          generalize wc.drew = w3 at *
                          have hz3 : b0 + 3 ≤ w3.heap.size := by have := HD.out.1.size; have := HP.out.2.2.2.2; omega
                          have HZ3 := Lib.hid hz3; clear hz3
                          refine' anyC_take (i := 0) (v := _) [1, 4, 9, 10, 11, 12, 13] (by kernel_rfl) rfl (by kernel_rfl) (fun _ _ _ h => h) (by rfl) ?h0 HCx.out ?k0
                          case h0 =>
                            rintro w' ⟨c0, c1⟩
                            go_simp
                            try with_reducible rfl
                          simp only [List.getElem_toArray, List.getElem_cons_zero, List.getElem_cons_succ, Act.put, List.setIfInBounds_toArray, List.set_cons_zero, List.set_cons_succ]
                          refine' anyC_take (i := 1) (v := _) [4, 9, 10, 11, 12, 13] (by kernel_rfl) rfl (by kernel_rfl) (fun _ _ _ h => h) (by rfl) ?h1 HCx.out ?k1
                          case h1 =>
                            rintro w' ⟨c0, c1⟩
                            go_simp
                            try with_reducible rfl
                          simp only [List.getElem_toArray, List.getElem_cons_zero, List.getElem_cons_succ, Act.put, List.setIfInBounds_toArray, List.set_cons_zero, List.set_cons_succ]
                          refine' anyC_take (i := 2) (v := _) [3, 4, 9, 10, 11, 12, 13] (by kernel_rfl) rfl (by kernel_rfl) (fun _ _ _ h => h) (by rfl) ?h2 HCx.out ?k2
                          case h2 =>
                            rintro w' ⟨c0, c1⟩
                            go_simp
                            try with_reducible rfl
                          simp only [List.getElem_toArray, List.getElem_cons_zero, List.getElem_cons_succ, Act.put, List.setIfInBounds_toArray, List.set_cons_zero, List.set_cons_succ]
                          refine' anyC_take (i := 5) (v := _) [6, 9, 10, 11, 12, 13] (by kernel_rfl) rfl (by kernel_rfl) (fun _ _ _ h => h) (by rfl) ?h5 HCx.out ?k5
                          case h5 =>
                            rintro w' ⟨c0, c1⟩
                            go_simp
                            try with_reducible rfl
                          simp only [List.getElem_toArray, List.getElem_cons_zero, List.getElem_cons_succ, Act.put, List.setIfInBounds_toArray, List.set_cons_zero, List.set_cons_succ]
                          refine' anyC_take (i := 6) (v := _) [9, 10, 11, 12, 13] (by kernel_rfl) rfl (by kernel_rfl) (fun _ _ _ h => h) (by rfl) ?h6 HCx.out ?k6
                          case h6 =>
                            rintro w' ⟨c0, c1⟩
                            go_simp
                            try with_reducible rfl
                          simp only [List.getElem_toArray, List.getElem_cons_zero, List.getElem_cons_succ, Act.put, List.setIfInBounds_toArray, List.set_cons_zero, List.set_cons_succ]
                          refine' anyC_take (i := 7) (v := _) [8, 9, 11, 12, 13] (by kernel_rfl) rfl (by kernel_rfl) (fun _ _ _ h => h) (by rfl) ?h7 HCx.out ?k7
                          case h7 =>
                            rintro w' ⟨c0, c1⟩
                            go_simp
                            try with_reducible rfl
                          simp only [List.getElem_toArray, List.getElem_cons_zero, List.getElem_cons_succ, Act.put, List.setIfInBounds_toArray, List.set_cons_zero, List.set_cons_succ]
                          refine anyC_lanes [3, 4, 8, 9, 10] [11, 12, 13] (fun i => if i ≤ 4 then 0 else if i ≤ 9 then 1 else 2) (fun c => if c = 0 then growJ 3 4 82 83 (b0 + 3) 21 a1 d1 n 1 (ivs .i32 ((runL (partF zT zM zL) r).map (·.1))) [.int .i32 (r : Nat)] else if c = 1 then growJ 8 9 87 88 (b0 + 3) 3 a2 d2 n 1 (ivs .i64 ((runL (partF zT zM zL) r).map (·.2))) [.int .i64 v] else if c = 2 then ptJ 10 89 (.pointer (some ⟨b0 + 2, 0, none⟩)) else fun _ _ _ _ => True) (b0 + 3) w3 _ [] #[true, true, true, true, true, true, true, true, true, true, true, false, false, false] 3
                            (laneB_calm (D := [82, 83, 87, 88, 89]) (own := fun i => if i ≤ 4 then 0 else if i ≤ 9 then 1 else 2) (by kernel_rfl)) (laneB_own (D := [82, 83, 87, 88, 89]) (by kernel_rfl)) ?hC ?hloc ?hstep ?hend 5 _ _ _ (fun c k => (c = 0 ∧ (Value.slice a1 n d1).ownBlock = some k) ∨ (c = 1 ∧ (Value.slice a2 n d2).ownBlock = some k)) (by kernel_rfl) rfl ?hJ rfl (fun _ _ => rfl) (Below.refl _ _) HZ3.out ?hT ?hdj
                          case hC =>
                            intro w' hb
                            exact ⟨(hb.cell (p := ⟨b0 + 2, 0, none⟩) (Nat.lt_succ_self _)).trans HCx.out.1, (hb.cell (p := ⟨b0 + 2, 1, none⟩) (Nat.lt_succ_self _)).trans HCx.out.2⟩
                          case hT =>
                            rintro c k (⟨-, h⟩ | ⟨-, h⟩)
                            · exact World.ownsRow.lt HD.out.2.oT k h
                            · exact World.ownsRow.lt HD.out.2.oV k h
                          case hdj =>
                            rintro c d k hcd (⟨h1, h2⟩ | ⟨h1, h2⟩) (⟨h3, h4⟩ | ⟨h3, h4⟩)
                            · exact hcd (h1.trans h3.symm)
                            · exact HD.out.2.ne k h2 h4
                            · exact HD.out.2.ne k h4 h2
                            · exact hcd (h1.trans h3.symm)
                          case hloc =>
                            intro c l l' t t' T w w' hJ hl ht hsz hk
                            by_cases c0 : c = 0
                            · subst c0
                              exact growJ_loc hJ (hl 3 (by simp) rfl) (hl 4 (by simp) rfl) (ht 3 (by simp) rfl 82 ⟨_, rfl, rfl⟩) (ht 4 (by simp) rfl 83 ⟨_, rfl, rfl⟩) hk
                            · by_cases c1 : c = 1
                              · subst c1
                                exact growJ_loc hJ (hl 8 (by simp) rfl) (hl 9 (by simp) rfl) (ht 8 (by simp) rfl 87 ⟨_, rfl, rfl⟩) (ht 9 (by simp) rfl 88 ⟨_, rfl, rfl⟩) hk
                              · by_cases c2 : c = 2
                                · subst c2
                                  exact ptJ_loc (T := T) (T' := T) (w := w) (w' := w') hJ (hl 10 (by simp) rfl) (ht 10 (by simp) rfl 89 ⟨_, rfl, rfl⟩)
                                · rw [if_neg c0, if_neg c1, if_neg c2]; trivial
                          case hJ =>
                            intro c
                            by_cases c0 : c = 0
                            · subst c0
                              exact ⟨fun _ => ⟨HD.out.2.oT, fun k e => .inl ⟨rfl, e⟩⟩, (fun e => by cases e), (fun e => by cases e), (fun e => by cases e)⟩
                            · by_cases c1 : c = 1
                              · subst c1
                                exact ⟨fun _ => ⟨HD.out.2.oV, fun k e => .inr ⟨rfl, e⟩⟩, (fun e => by cases e), (fun e => by cases e), (fun e => by cases e)⟩
                              · by_cases c2 : c = 2
                                · subst c2
                                  exact fun e => by cases e
                                · rw [if_neg c0, if_neg c1, if_neg c2]; trivial
                          case hstep =>
                            intro i hi o ho l a T w hisz hun hJ haft hz ho' hb hzz hT
                            have hi' : i = 3 ∨ i = 4 ∨ i = 8 ∨ i = 9 ∨ i = 10 := by simpa using hi
                            have hsl := fun s hs => ho' s (laneB_slot (D := [82, 83, 87, 88, 89]) (own := fun i => if i ≤ 4 then 0 else if i ≤ 9 then 1 else 2) (by kernel_rfl) hs)
                            clear ho' hi
                            have hzt : a.tmps.size = 105 := hz
                            have hn4 : (n + 1) * 4 ≤ 140737488355328 := Nat.le_trans (Nat.mul_le_mul_right 4 (Nat.succ_le_succ hnb)) (by decide)
                            have hn8 : (n + 1) * 8 ≤ 140737488355328 := Nat.le_trans (Nat.mul_le_mul_right 8 (Nat.succ_le_succ hnb)) (by decide)
                            have hnm : n + 1 ≤ maxLen := Nat.le_trans (Nat.succ_le_succ hnb) (by decide)
                            rcases hi' with rfl | rfl | rfl | rfl | rfl
                            · obtain rfl := Option.some.inj ho
                              exact ⟨rfl, growJ_lit (by decide) rfl (by omega) hisz hun hJ hT (exec_bs1 60 (.tmp 81) rfl _ (eval_slot (hsl 81 (by decide))) 21 (fun w => by kernel_rfl))⟩
                            · obtain rfl := Option.some.inj ho
                              exact ⟨rfl, growJ_app el32 (by decide) rfl (by omega) rfl (eval_slot (hsl 80 (by decide))) hisz (haft ⟨3, .data⟩ (by simp) rfl) (getD_tf hun) hJ hzz hT rfl (by simp [Value.oneCell']) hn4 hnm⟩
                            · obtain rfl := Option.some.inj ho
                              exact ⟨rfl, growJ_lit (by decide) rfl (by omega) hisz hun hJ hT (exec_bs1 61 (.tmp 86) rfl _ (eval_slot (hsl 86 (by decide))) 3 (fun w => by kernel_rfl))⟩
                            · obtain rfl := Option.some.inj ho
                              exact ⟨rfl, growJ_app el64 (by decide) rfl (by omega) rfl (eval_slot (hsl 85 (by decide))) hisz (haft ⟨8, .data⟩ (by simp) rfl) (getD_tf hun) hJ hzz hT rfl (by simp [Value.oneCell']) hn8 hnm⟩
                            · obtain rfl := Option.some.inj ho
                              have e4 := eval_slot (hsl 4 (by decide))
                              exact ⟨rfl, ptJ_one rfl (by omega) hT (exec_fieldV 63 (.tmp 4) 0 rfl _ _ e4 (by kernel_rfl))⟩
                          case hend =>
                            intro a w T hd hJ hz ho hb hzz hT hdj
                            obtain ⟨-, -, hA, -⟩ := hJ 0
                            obtain ⟨a1', d1', g1, o1, t1⟩ := hA rfl
                            obtain ⟨-, -, hB, -⟩ := hJ 1
                            obtain ⟨a2', d2', g2, o2, t2⟩ := hB rfl
                            have g3 := (hJ 2) rfl
                            have hne : ∀ k, (Value.slice a1' (n + 1) d1').ownBlock = some k → (Value.slice a2' (n + 1) d2').ownBlock ≠ some k := fun k e e2 => hdj 0 1 k (by decide) (t1 k e) (t2 k e2)
                            have he := frame_of [82, 83, 87, 88, 89] hz (fun s hs => ho s (laneB_slot (D := [82, 83, 87, 88, 89]) (own := fun i => if i ≤ 4 then 0 else if i ≤ 9 then 1 else 2) (by kernel_rfl) hs))
                            have k1 : a.tmps.getD 83 undef = .slice a1' (n + 1) d1' := by rw [Array.getD_eq_getD_getElem?, g1]; rfl
                            have k2 : a.tmps.getD 88 undef = .slice a2' (n + 1) d2' := by rw [Array.getD_eq_getD_getElem?, g2]; rfl
                            have k3 : a.tmps.getD 89 undef = .pointer (some ⟨b0 + 2, 0, none⟩) := by rw [Array.getD_eq_getD_getElem?, g3]; rfl
                            obtain ⟨x82, hx82⟩ : ∃ u, a.tmps.getD 82 undef = u := ⟨_, rfl⟩
                            obtain ⟨x87, hx87⟩ : ∃ u, a.tmps.getD 87 undef = u := ⟨_, rfl⟩
                            simp only [List.foldl_cons, List.foldl_nil, k1, k2, k3, hx82, hx87] at he
                            clear hx82 hx87 k1 k2 k3 g1 g2 g3
                            obtain ⟨tm, dfs⟩ := a
                            obtain rfl : dfs = [] := hd
                            obtain rfl : tm = _ := he
                            refine anyC_tail 11 (by rfl) (by kernel_rfl) (by kernel_rfl) ?_
                            simp only [List.drop_succ_cons, List.drop_zero, List.setIfInBounds_toArray, List.set_cons_zero, List.set_cons_succ]
                            have xb := (hb.block (b0 + 2) (Nat.lt_succ_self _)).trans HD.out.2.blk
                            have q0 := cell_of_row w (b0 + 2) 0 _ _ (0, 0) xb
                            have q1 := cell_of_row w (b0 + 2) 1 _ _ (0, 0) xb
                            have f0 := frozen_of_row w (b0 + 2) 0 _ _ xb
                            have f1 := frozen_of_row w (b0 + 2) 1 _ _ xb
                            simp at q0 q1
                            have z1 := heap_setCell_same w (b0 + 2) 0 _ _ (.slice a1' (n + 1) d1') xb
                            have z2 := heap_setCell_same _ (b0 + 2) 1 _ _ (.slice a2' (n + 1) d2') z1
                            have hg : w.grownBy ((w.setCell ⟨b0 + 2, 0, none⟩ (.slice a1' (n + 1) d1')).setCell ⟨b0 + 2, 1, none⟩ (.slice a2' (n + 1) d2')) (some (b0 + 2)) := grown_trans (grown_store w (b0 + 2) 0 _) (grown_store _ (b0 + 2) 1 _)
                            have o1' := World.ownsRow.kept o1 hg (.inr (fun e => by have := (World.ownsRow.lt o1 (b0 + 2) e).1; omega))
                            have o2' := World.ownsRow.kept o2 hg (.inr (fun e => by have := (World.ownsRow.lt o2 (b0 + 2) e).1; omega))
                            have HJ : Hid (RdJ (partF zT zM zL) (b0 + 3) (b0 + 2) W r v ((w.setCell ⟨b0 + 2, 0, none⟩ (.slice a1' (n + 1) d1')).setCell ⟨b0 + 2, 1, none⟩ (.slice a2' (n + 1) d2'))) := Lib.hid (by
                              obtain ⟨g, rfl, -⟩ := Own.at o1 (by omega)
                              refine ⟨runL (partF zT zM zL) r ++ [((r : Int), v)], n, g, d1', a2', d2', ((r : Int), v), ⟨by rw [List.length_append, HFn.out.len]; rfl, z2, ?_, ?_, hne, HFn.out.lt⟩, by simp, rfl, ?_, ?_⟩
                              · rw [List.map_append, ivs_append]; exact o1'
                              · rw [List.map_append, ivs_append]; exact o2'
                              · rw [show runL (partF zT zM zL) (r + 1) = withL (runL (partF zT zM zL) r) (r : Int) (partF zT zM zL r) from rfl, HF.out, withL_new HNew.out]
                                simp
                              · have hb2 : But (b0 + 3) (fun k => k = b0 + 2) W w := HD.out.1.trans (.of_below hb)
                                exact (hb2.setCell (b0 + 2) 0 _ (.inl rfl)).setCell (b0 + 2) 1 _ (.inl rfl))
                            clear o1' o2' hg z1 z2 hne hJ hz ho hT hdj hb hzz o1 o2 t1 t2 xb
                            gi_wp2
                            go_meet
                            exact HJ.out
                      case rest =>
                        obtain ⟨L, nn, g, e1', a2', e2', x', hfn, hla, hx2, hdl, hbt⟩ := hcut
                        have HFc := Lib.hid hfn; have HLa := Lib.hid hla; have HX2 := Lib.hid hx2; have HDl := Lib.hid hdl; have HBc := Lib.hid hbt
                        clear hfn hla hx2 hdl hbt
                        obtain ⟨u, hu⟩ := HFc.out.cell
                        have k0 := cell_of_row wc (b0 + 2) 0 _ _ (0, 0) HFc.out.blk
                        simp at k0
                        have hf := Own.unfrozen HFc.out.oT nn
                        have HL9 : Hid (RdL zT zM zL (b0 + 3) (b0 + 2) W (r + 1) (.int .i64 v) (.bool true) (wc.setCell ⟨g, nn, none⟩ (.int .i32 (r : Nat)))) := Lib.hid (by
                          have h1 := HFc.out.setT (m := nn) rfl HLa.out (t := (r : Int)) HX2.out
                          rw [HDl.out] at h1
                          refine ⟨v, true, nn + 1, _, _, _, _, rfl, rfl, (fun e => by cases e), fun q e => ⟨rfl, ?_⟩, h1, HBc.out.setCell g nn _ (.inr (World.ownsRow.lt HFc.out.oT g rfl).1), fun q hq => ?_⟩
                          · obtain rfl : r = q := by omega
                            exact HF.out.symm
                          · by_cases e : q = r
                            · subst e; exact HRI.out.2 hpn
                            · exact HIn.out q (by omega))
                        have HEq : Hid (4096 * t + 64 * k + (j + 1) = r + 1) := Lib.hid (by rw [HRd.out, ← Nat.add_assoc])
                        have hn0 : (0 : Int) ≤ (nn : Int) := Int.natCast_nonneg _
                        have hn1 : (nn : Int) < (nn : Int) + 1 := Int.lt_succ _
                        have hnl : nn ≤ 1114112 := by
                          have h1 := congrArg List.length HDl.out
                          have h2 := runL_length (partF zT zM zL) (r + 1)
                          rw [← h1, List.length_append, List.length_dropLast, HFc.out.len] at h2
                          have h3 : nn + 1 - 1 + 1 ≤ r + 1 := h2
                          exact Nat.le_trans (Nat.le_of_succ_le_succ h3) (Nat.le_of_lt hrl)
                        clear c2 c3 q0 q1 q2 x0 x1 y0 y1
                        go_wp2
                        go_roundw
                        case rel => exact ⟨j + 1, hjn, by go_num, by rw [HEq.out]; exact HL9.out⟩
                        case measure => simp [intOf]; omega
                  · have dp : decide (nL ≤ p) = true := decide_eq_true (Nat.not_lt.1 hpn)
                    have HNo := Lib.hid (HNoR.out r hrl (fun h => hpn (HRI.out.1 h)))
                    have HBe := Lib.hid (HBr.out v2 HBt.out)
                    have z1 := heap_setCell_same v2 (b0 + 1) 0 _ _ (.slice none 0 0) HCv.out.2.2
                    have z2 := heap_setCell_same _ (b0 + 1) 1 _ _ (.slice none 0 0) z1
                    have r0 := cell_of_row _ (b0 + 1) 0 _ _ (0, 0) z2
                    have r1 := cell_of_row _ (b0 + 1) 1 _ _ (0, 0) z2
                    simp at r0 r1
                    have R0 := Lib.hid r0; have R1 := Lib.hid r1
                    clear z1 z2 r0 r1
                    go_wp2
                    have r0 := R0.out
                    have r1 := R1.out
                    refine bodyPost_ret (v := .tuple #[.agg #[.slice none 0 0, .slice none 0 0], .bool false]) (by simp [results, Try.results52, go_sem, r0, r1]) rfl ?_
                    exact .no HNo.out HBe.out
                · obtain rfl : j = 64 := Nat.le_antisymm hj (Nat.not_lt.1 hjn)
                  have hji : ¬ ((64 : Nat) : Int) < 64 := by decide
                  go_wp2
                  go_roundw
                  case rel => exact ⟨k + 1, hkn, by go_num, by rw [show 4096 * t + 64 * (k + 1) = 4096 * t + 64 * k + 64 by rw [Nat.mul_succ, Nat.add_assoc]]; exact HStJ.out⟩
                  case measure => simp [intOf]; omega
            · have dm : decide (nM ≤ m) = true := decide_eq_true (Nat.not_lt.1 hmn)
              have HRI : Hid (¬ RIn zT zM zL (4096 * t + 64 * k)) := Lib.hid (fun h => by
                obtain ⟨i1, i2, -⟩ := idx3 (j := 0) (r := 4096 * t + 64 * k) rfl hkn (by decide)
                have h1 := h.1
                rw [i1, i2, HY.out, ← hm, HnM.out] at h1
                exact hmn h1)
              have HRl : Hid (4096 * t + 64 * k < 1114112) := Lib.hid (idx3_lt (j := 0) rfl htn hkn (by decide))
              have HNo := Lib.hid (HNoR.out _ HRl.out HRI.out)
              have HBe := Lib.hid (HBr.out v1 HBt.out)
              have z1 := heap_setCell_same v1 (b0 + 1) 0 _ _ (.slice none 0 0) HCv.out.2.2
              have z2 := heap_setCell_same _ (b0 + 1) 1 _ _ (.slice none 0 0) z1
              have r0 := cell_of_row _ (b0 + 1) 0 _ _ (0, 0) z2
              have r1 := cell_of_row _ (b0 + 1) 1 _ _ (0, 0) z2
              simp at r0 r1
              have R0 := Lib.hid r0; have R1 := Lib.hid r1
              clear z1 z2 r0 r1
              go_wp2
              have r0 := R0.out
              have r1 := R1.out
              refine bodyPost_ret (v := .tuple #[.agg #[.slice none 0 0, .slice none 0 0], .bool false]) (by simp [results, Try.results52, go_sem, r0, r1]) rfl ?_
              exact .no HNo.out HBe.out
          · obtain rfl : k = 64 := Nat.le_antisymm hk (Nat.not_lt.1 hkn)
            have hki : ¬ ((64 : Nat) : Int) < 64 := by decide
            go_wp2
            go_roundw
            case rel => exact ⟨t + 1, htn, by go_num, by rw [show 4096 * (t + 1) = 4096 * t + 64 * 64 from Nat.mul_succ 4096 t]; exact HSt.out⟩
            case measure => simp [intOf]; omega
      · obtain rfl : t = 272 := Nat.le_antisymm ht (Nat.not_lt.1 htn)
        have hti : ¬ ((272 : Nat) : Int) < 272 := by decide
        have hE : 4096 * 272 = N := by rw [HN.out]
        obtain ⟨last, opn, n, a1, d1, a2, d2, rfl, rfl, -, -, hfn, hbut, hin⟩ := HSt.out
        rw [hE] at hfn hin
        have HFn := Lib.hid hfn; have HBt := Lib.hid hbut
        have HPI : Hid (PartsIn zT zM zL) := Lib.hid (fun r hr => hin r (by rw [HN.out]; omega))
        obtain ⟨v1, hv1⟩ : ∃ v1, v1 = wr := ⟨_, rfl⟩
        rw [← hv1] at HFn HBt ⊢
        clear hv1 hfn hbut hin hE HSt
        have HCv := Lib.hid (HCs.out v1 HBt.out)
        have HFA : Hid (FnAt v1 (.agg #[.slice a1 n d1, .slice a2 n d2]) (runL (partF zT zM zL) N)) := Lib.hid ⟨a1, d1, a2, d2, by rw [HFn.out.len], HFn.out.oT.ints, HFn.out.oV.ints, own_none HFn.out.oT, own_none HFn.out.oV⟩
        have HFar : Hid (FnFar w.heap.size (.agg #[.slice a1 n d1, .slice a2 n d2])) := Lib.hid ⟨a1, n, d1, a2, n, d2, rfl, fun x e => (by subst e; have := (World.ownsRow.lt HFn.out.oT x.block rfl).1; have := HBz.out; omega), fun x e => (by subst e; have := (World.ownsRow.lt HFn.out.oV x.block rfl).1; have := HBz.out; omega)⟩
        have HTh : Hid (ThreeAt v1 (.agg #[.slice aT 272 cT, .slice aM nM cM, .slice aL nL cL]) (natsI zT) (natsI zM) zL) := Lib.hid ⟨aT, cT, aM, cM, aL, cL, by rw [natsI_length, natsI_length, HnT.out, HnM.out, HnL.out], HT.out.below HCv.out.1 (Nat.le_refl _), HM.out.below HCv.out.1 (Nat.le_refl _), HL.out.below HCv.out.1 (Nat.le_refl _)⟩
        go_upto_region 27 with (fail)
        refine (wpIn_wide (n := 2)).1 ?_
        refine wpIn_region_calm [5, 6] (fun w' : World => w'.heap[b0 + 2]? = some (.cells #[.slice a1 n d1, .slice a2 n d2] 63 (0, 0)) ∧ w'.heap[b0]? = some (.cells #[.slice aT 272 cT, .slice aM nM cM, .slice aL nL cL] 70 (0, 0)) ∧ w'.heap[b0 + 1]? = some (.cells #[.slice none 0 0, .slice none 0 0] 63 (0, 0))) (by kernel_rfl) ?_
        have HCx : Hid ((fun w' : World => w'.heap[b0 + 2]? = some (.cells #[.slice a1 n d1, .slice a2 n d2] 63 (0, 0)) ∧ w'.heap[b0]? = some (.cells #[.slice aT 272 cT, .slice aM nM cM, .slice aL nL cL] 70 (0, 0)) ∧ w'.heap[b0 + 1]? = some (.cells #[.slice none 0 0, .slice none 0 0] 63 (0, 0))) v1.drew) := Lib.hid ⟨HFn.out.blk, HCv.out.2.1, HCv.out.2.2⟩
        have HDr : Hid (Below v1.heap.size v1 v1.drew) := Lib.hid (Below.refl _ v1).drew
        have HFA2 := Lib.hid (HFA.out.below HDr.out); have HTh2 := Lib.hid (HTh.out.below HDr.out)
        have HB2 : Hid (Below w.heap.size w v1.drew) := Lib.hid (HCv.out.1.trans (HDr.out.mono HCv.out.1.size))
        clear HFA HTh HCv HBt
        generalize v1.drew = v2 at *
        refine' anyD_take (i := 0) (v := _) [5, 6] (by kernel_rfl) rfl (by rfl) (by kernel_rfl) (fun _ _ _ h => h) (by rfl) ?hz0 HCx.out ?kz0
        case hz0 =>
          rintro w' ⟨c0, c1, c2⟩
          have d0 := cell_of_row w' (b0 + 2) 0 _ _ (0, 0) c0
          have d1' := cell_of_row w' (b0 + 2) 1 _ _ (0, 0) c0
          have d2' := cell_of_row w' b0 0 _ _ (0, 0) c1
          have d3' := cell_of_row w' b0 1 _ _ (0, 0) c1
          have d4' := cell_of_row w' b0 2 _ _ (0, 0) c1
          simp at d0 d1' d2' d3' d4'
          clear c0 c1 c2
          go_simp
          try with_reducible rfl
        simp only [List.getElem_toArray, List.getElem_cons_zero, List.getElem_cons_succ, Act.put, List.setIfInBounds_toArray, List.set_cons_zero, List.set_cons_succ]
        refine' anyD_take (i := 1) (v := _) [2, 4, 5, 6] (by kernel_rfl) rfl (by rfl) (by kernel_rfl) (fun _ _ _ h => h) (by rfl) ?hz1 HCx.out ?kz1
        case hz1 =>
          rintro w' ⟨c0, c1, c2⟩
          have d0 := cell_of_row w' (b0 + 2) 0 _ _ (0, 0) c0
          have d1' := cell_of_row w' (b0 + 2) 1 _ _ (0, 0) c0
          have d2' := cell_of_row w' b0 0 _ _ (0, 0) c1
          have d3' := cell_of_row w' b0 1 _ _ (0, 0) c1
          have d4' := cell_of_row w' b0 2 _ _ (0, 0) c1
          simp at d0 d1' d2' d3' d4'
          clear c0 c1 c2
          go_simp
          try with_reducible rfl
        simp only [List.getElem_toArray, List.getElem_cons_zero, List.getElem_cons_succ, Act.put, List.setIfInBounds_toArray, List.set_cons_zero, List.set_cons_succ]
        refine' anyD_take (i := 3) (v := _) [4, 5, 6] (by kernel_rfl) rfl (by rfl) (by kernel_rfl) (fun _ _ _ h => h) (by rfl) ?hz3 HCx.out ?kz3
        case hz3 =>
          rintro w' ⟨c0, c1, c2⟩
          have d0 := cell_of_row w' (b0 + 2) 0 _ _ (0, 0) c0
          have d1' := cell_of_row w' (b0 + 2) 1 _ _ (0, 0) c0
          have d2' := cell_of_row w' b0 0 _ _ (0, 0) c1
          have d3' := cell_of_row w' b0 1 _ _ (0, 0) c1
          have d4' := cell_of_row w' b0 2 _ _ (0, 0) c1
          simp at d0 d1' d2' d3' d4'
          clear c0 c1 c2
          go_simp
          try with_reducible rfl
        simp only [List.getElem_toArray, List.getElem_cons_zero, List.getElem_cons_succ, Act.put, List.setIfInBounds_toArray, List.set_cons_zero, List.set_cons_succ]
        refine anyC_r1 (i := 2) (by kernel_rfl) ?_
        refine stepCall (i := 2) rfl (by rfl) (by rfl) (fun _ _ => trivial) (exec_call1 38 (.tmp 101) _ rfl (.agg #[.slice a1 n d1, .slice a2 n d2]) rfl (enters_of Try.func38 (by kernel_rfl) rfl)) (fun h => by cases h) ?_
        refine callsIn_wide.2 ?_
        refine (refStages_walk v2 _ (partF zT zM zL) N M HN.out HMM.out HFA2.out).mono ?_
        rintro e v3 ⟨sv, rfl, hsv, hb⟩
        have HCx3 : Hid ((fun w' : World => w'.heap[b0 + 2]? = some (.cells #[.slice a1 n d1, .slice a2 n d2] 63 (0, 0)) ∧ w'.heap[b0]? = some (.cells #[.slice aT 272 cT, .slice aM nM cM, .slice aL nL cL] 70 (0, 0)) ∧ w'.heap[b0 + 1]? = some (.cells #[.slice none 0 0, .slice none 0 0] 63 (0, 0))) v3) := Lib.hid ⟨(hb.block _ (Array.getElem?_eq_some_iff.1 HCx.out.1).1).trans HCx.out.1, (hb.block _ (Array.getElem?_eq_some_iff.1 HCx.out.2.1).1).trans HCx.out.2.1, (hb.block _ (Array.getElem?_eq_some_iff.1 HCx.out.2.2).1).trans HCx.out.2.2⟩
        refine ⟨_, rfl, fun _ => HCx3.out, ?_⟩
        simp only [List.getElem_toArray, List.getElem_cons_zero, List.getElem_cons_succ, Act.put, List.setIfInBounds_toArray, List.set_cons_zero, List.set_cons_succ]
        have HFA3 := Lib.hid (HFA2.out.below hb); have HTh3 := Lib.hid (HTh2.out.below hb)
        have HB3 : Hid (Below w.heap.size w v3) := Lib.hid (HB2.out.trans (hb.mono HB2.out.size))
        clear hb
        obtain ⟨S, hS⟩ : ∃ S, S = mkF (partF zT zM zL) M := ⟨_, rfl⟩
        rw [← hS] at hsv
        have HMk := mkF_ok (partF zT zM zL) M
        rw [← hS] at HMk
        have HTS := Lib.hid (StagesAt.three HMk.1.mid HMk.1.low hsv)
        have HLs : Hid ((natsI S.top).length ≤ 1152921504606846976 ∧ (natsI S.mids.flatten).length ≤ 1152921504606846976 ∧ S.lows.flatten.length ≤ 1152921504606846976) := Lib.hid (by
          have h1 := HMk.1.top; have h2 := flat_len _ HMk.1.mid; have h3 := flat_len _ HMk.1.low; have h4 := HMk.2.2.1; have h5 := HMk.2.2.2; have h6 := HMM.out
          rw [natsI_length, natsI_length, h1, h2, h3]
          omega)
        have HLz : Hid ((natsI zT).length ≤ 1152921504606846976 ∧ (natsI zM).length ≤ 1152921504606846976 ∧ zL.length ≤ 1152921504606846976) := Lib.hid (by
          rw [natsI_length, natsI_length, HnT.out, HnM.out, HnL.out]
          omega)
        have HSe := Lib.hid hS
        clear hsv HMk hS
        refine anyC_r1 (i := 4) (by kernel_rfl) ?_
        refine stepCall (i := 4) rfl (by rfl) (by rfl) (fun _ _ => trivial) (exec_call2 103 (.tmp 102) (.tmp 103) _ rfl sv (.agg #[.slice aT 272 cT, .slice aM nM cM, .slice aL nL cL]) rfl rfl (enters_of Try.func103 (by kernel_rfl) rfl)) (fun h => by cases h) ?_
        refine callsIn_wide.2 ?_
        refine (refEqual_walk v3 sv _ _ _ _ _ _ _ HLs.out.1 HLs.out.2.1 HLs.out.2.2 HLz.out.1 HLz.out.2.1 HLz.out.2.2 HTS.out HTh3.out).mono ?_
        rintro e v4 ⟨rfl, hb⟩
        have HCx4 : Hid ((fun w' : World => w'.heap[b0 + 2]? = some (.cells #[.slice a1 n d1, .slice a2 n d2] 63 (0, 0)) ∧ w'.heap[b0]? = some (.cells #[.slice aT 272 cT, .slice aM nM cM, .slice aL nL cL] 70 (0, 0)) ∧ w'.heap[b0 + 1]? = some (.cells #[.slice none 0 0, .slice none 0 0] 63 (0, 0))) v4) := Lib.hid ⟨(hb.block _ (Array.getElem?_eq_some_iff.1 HCx3.out.1).1).trans HCx3.out.1, (hb.block _ (Array.getElem?_eq_some_iff.1 HCx3.out.2.1).1).trans HCx3.out.2.1, (hb.block _ (Array.getElem?_eq_some_iff.1 HCx3.out.2.2).1).trans HCx3.out.2.2⟩
        refine ⟨_, rfl, fun _ => HCx4.out, ?_⟩
        simp only [List.getElem_toArray, List.getElem_cons_zero, List.getElem_cons_succ, Act.put, List.setIfInBounds_toArray, List.set_cons_zero, List.set_cons_succ]
        have HFA4 := Lib.hid (HFA3.out.below hb)
        have HB4 : Hid (Below w.heap.size w v4) := Lib.hid (HB3.out.trans (hb.mono HB3.out.size))
        clear hb
        obtain ⟨ok, hok⟩ : ∃ ok : Bool, ok = decide (natsI S.top = natsI zT ∧ natsI S.mids.flatten = natsI zM ∧ S.lows.flatten = zL) := ⟨_, rfl⟩
        rw [← hok]
        have HOk : Hid (ok = true ↔ ReadOk zT zM zL M) := Lib.hid (by
          rw [hok, decide_eq_true_iff]
          have inj : ∀ a b : List Nat, natsI a = natsI b ↔ a = b := fun a b => ⟨fun h => by
            have := congrArg (List.map Int.toNat) h
            simpa [natsI, Function.comp_def] using this, fun h => by rw [h]⟩
          rw [inj, inj, HSe.out]
          exact ⟨fun h => ⟨HnT.out, HPI.out, h⟩, fun h => h.2.2⟩)
        clear hok
        refine anyC_tail 5 (by rfl) (by kernel_rfl) (by kernel_rfl) ?_
        simp only [List.drop_succ_cons, List.drop_zero, List.setIfInBounds_toArray, List.set_cons_zero, List.set_cons_succ]
        have x0 := cell_of_row v4 (b0 + 1) 0 _ _ (0, 0) HCx4.out.2.2
        have x1 := cell_of_row v4 (b0 + 1) 1 _ _ (0, 0) HCx4.out.2.2
        have y0 := frozen_of_row v4 (b0 + 1) 0 _ _ HCx4.out.2.2
        have y1 := frozen_of_row v4 (b0 + 1) 1 _ _ HCx4.out.2.2
        simp at x0 x1
        have z1 := heap_setCell_same v4 (b0 + 1) 0 _ _ (.slice a1 n d1) HCx4.out.2.2
        have z2 := heap_setCell_same _ (b0 + 1) 1 _ _ (.slice a2 n d2) z1
        have r0 := cell_of_row _ (b0 + 1) 0 _ _ (0, 0) z2
        have r1 := cell_of_row _ (b0 + 1) 1 _ _ (0, 0) z2
        simp at r0 r1
        have R0 := Lib.hid r0; have R1 := Lib.hid r1
        have HBe : Hid (Below w.heap.size w ((v4.setCell ⟨b0 + 1, 0, none⟩ (.slice a1 n d1)).setCell ⟨b0 + 1, 1, none⟩ (.slice a2 n d2))) := Lib.hid ((HB4.out.setCell (p := ⟨b0 + 1, 0, none⟩) (by show _ ≤ b0 + 1; have := HBz.out; omega) _).setCell (p := ⟨b0 + 1, 1, none⟩) (by show _ ≤ b0 + 1; have := HBz.out; omega) _)
        have HFA5 : Hid (FnAt ((v4.setCell ⟨b0 + 1, 0, none⟩ (.slice a1 n d1)).setCell ⟨b0 + 1, 1, none⟩ (.slice a2 n d2)) (.agg #[.slice a1 n d1, .slice a2 n d2]) (runL (partF zT zM zL) N)) := Lib.hid ((HFA4.out.box HCx4.out.2.2 (fun k z e => by cases e) (fun k z e => by cases e) 0 _).box z1 (fun k z e => by cases e) (fun k z e => by cases e) 1 _)
        clear z1 z2 r0 r1
        gi_wp2
        have r0 := R0.out
        have r1 := R1.out
        go_wp2
        refine bodyPost_ret (v := .tuple #[.agg #[.slice a1 n d1, .slice a2 n d2], .bool ok]) (by simp [results, Try.results52, go_sem, r0, r1]) rfl ?_
        exact ⟨_, ok, rfl, HOk.out, fun _ => HFA5.out, HFar.out, HBe.out⟩
  · have hne : ((nT : Int) != 272) = true := by simp; omega
    have HNo : Hid (¬ ReadOk zT zM zL M) := Lib.hid (fun h => h272 (by rw [← HnT.out]; exact h.1))
    have HBe : Hid (Below w.heap.size w ((W.setCell ⟨b0 + 1, 0, none⟩ (.slice none 0 0)).setCell ⟨b0 + 1, 1, none⟩ (.slice none 0 0))) := Lib.hid ((HP.out.1.setCell (p := ⟨b0 + 1, 0, none⟩) (by show _ ≤ b0 + 1; have := HBz.out; omega) _).setCell (p := ⟨b0 + 1, 1, none⟩) (by show _ ≤ b0 + 1; have := HBz.out; omega) _)
    have z1 := heap_setCell_same W (b0 + 1) 0 _ _ (.slice none 0 0) HP.out.2.2.1
    have z2 := heap_setCell_same _ (b0 + 1) 1 _ _ (.slice none 0 0) z1
    have r0 := cell_of_row _ (b0 + 1) 0 _ _ (0, 0) z2
    have r1 := cell_of_row _ (b0 + 1) 1 _ _ (0, 0) z2
    simp at r0 r1
    have R0 := Lib.hid r0; have R1 := Lib.hid r1
    clear h272 z1 z2 r0 r1
    go_wp2
    have r0 := R0.out
    have r1 := R1.out
    refine bodyPost_ret (v := .tuple #[.agg #[.slice none 0 0, .slice none 0 0], .bool false]) (by simp [results, Try.results52, go_sem, r0, r1]) rfl ?_
    exact .no HNo.out HBe.out
end Go.Proofs.Ytabbabkmojaoaaa
