/-
  The walk of picks.Turn.
-/
import Derived.Test.YtkcdcgijbaepmaaW25
import Derived.Test.YtkcdcgijbaepmaaW27
import Derived.Test.YtkcdcgijbaepmaaRH
set_option linter.unusedVariables false
set_option linter.unusedSimpArgs false
namespace Go.Proofs.Ytkcdcgijbaepmaa
open Go.RowKit Go.Shelf
attribute [local go_sem] Oper.semAt_some

theorem Chunk_walk (a : Option Addr) (n c : Nat) (w : World) :
    Calls Try.prog 54 #[.slice a n c, .int .i64 2] w fun e w' => e = .returned (.func (.func 71) #[] #[.pointer (some ⟨w.heap.size, 0, none⟩), .pointer (some ⟨w.heap.size + 1, 0, none⟩)]) ∧
      w'.cell? ⟨w.heap.size, 0, none⟩ = some (.slice a n c) ∧ w'.cell? ⟨w.heap.size + 1, 0, none⟩ = some (.int .i64 2) ∧ w'.heap.size = w.heap.size + 2 ∧ Below w.heap.size w w' := by
  go_enter Try.func54, Try.ntmps54
  go_wp2
  go_ret
  have hA : ((w.alloc (.cells #[.slice a n c] 31)).alloc (.cells #[.int .i64 2] 3)).heap[w.heap.size]? = some (.cells #[.slice a n c] 31 (0, 0)) := by
    rw [Below.heap_alloc _ _ w.heap.size (by simp)]
    exact heap_alloc_new w _
  have hB : ((w.alloc (.cells #[.slice a n c] 31)).alloc (.cells #[.int .i64 2] 3)).heap[w.heap.size + 1]? = some (.cells #[.int .i64 2] 3 (0, 0)) := by
    have := heap_alloc_new (w.alloc (.cells #[.slice a n c] 31)) (.cells #[.int .i64 2] 3)
    simpa using this
  have c0 := cell_of_row _ w.heap.size 0 _ _ (0, 0) hA
  have c1 := cell_of_row _ (w.heap.size + 1) 0 _ _ (0, 0) hB
  exact ⟨rfl, c0, c1, by simp, ((Below.refl _ w).alloc (Nat.le_refl _) _).alloc (by simp) _⟩

/-- the edges of the lists that have come -/
def edgN (A B : List PD) (i : Nat) : List Int := if i = 0 then [] else if i = 1 then edgesL A else edgesL A ++ edgesL B
theorem edgN_step (A B : List PD) (i : Nat) (hi : i < 2) : edgN A B (i + 1) = edgN A B i ++ edgesL (if i = 0 then A else B) := by
  obtain rfl | rfl : i = 0 ∨ i = 1 := by omega
  · simp [edgN]
  · simp [edgN]
def EdR (w3 : World) (A B : List PD) (v i : Value) (wr : World) : Prop :=
  ∃ (k : Nat) (a' : Option Addr) (m c' : Nat), k ≤ 2 ∧ i = .int .i64 k ∧ v = .slice a' m c' ∧ Own w3.heap.size 3 wr a' m c' (ivs .i64 (edgN A B k)) ∧ Below w3.heap.size w3 wr
def EdS (w3 : World) (E : List Int) (L : List PD) (v i : Value) (wr : World) : Prop :=
  ∃ (j : Nat) (a' : Option Addr) (m c' : Nat), j ≤ L.length ∧ i = .int .i64 j ∧ v = .slice a' m c' ∧ Own w3.heap.size 3 wr a' m c' (ivs .i64 (E ++ edgesL (L.take j))) ∧ Below w3.heap.size w3 wr
theorem pairs_range : ∀ (k : Nat) (e : List Int), e.length = k * 2 → (List.range k).map (fun i => (⟨e.getD (i * 2) 0, e.getD (i * 2 + 1) 0⟩ : PD)) = pairsL e := by
  intro k
  induction k with
  | zero => intro e h; have : e = [] := List.length_eq_zero_iff.1 (by omega); subst this; rfl
  | succ k ih =>
    intro e h
    match e, h with
    | a :: b :: r, h =>
      have h2 : r.length = k * 2 := by simp at h; omega
      rw [List.range_succ_eq_map, List.map_cons, List.map_map]
      show _ = (⟨a, b⟩ : PD) :: pairsL r
      rw [← ih r h2]
      congr 1
      apply List.map_congr_left
      intro i _
      simp only [Function.comp]
      rw [show (i + 1) * 2 = i * 2 + 1 + 1 by omega]
      rfl
    | [a], h => simp at h; omega
    | [], h => simp at h

/-- between two rounds of the second loop: the pieces that have come -/
structure TuSt (W0 : World) (n1 bx : Nat) (S : List Int) (T : Nat → Prop) (pre : List Nat) (W : World) (ax : Option Addr) (cx : Nat) : Prop where
  but : But n1 (fun k => k = bx) W0 W
  bx_ : W.heap[bx]? = some (.cells #[.slice ax pre.length cx] 22 (0, 0))
  own : OwnP n1 W ax pre.length cx (pre.map (fun i => ⟨S.getD (i * 2) 0, S.getD (i * 2 + 1) 0⟩))
  tx : ¬ T bx
  ta : ∀ k, (Value.slice ax pre.length cx).ownBlock = some k → ¬ T k
  tn : ∀ k, T k → n1 ≤ k
  tl : ∀ k, T k → k < W.heap.size
def TuI (W0 : World) (n1 bx : Nat) (S : List Int) (T : Nat → Prop) (pre : List Nat) (W : World) : Prop := ∃ ax cx, TuSt W0 n1 bx S T pre W ax cx
theorem TuI.abide {W0 : World} {n1 bx : Nat} {S : List Int} (hx : bx < n1) (h1 : n1 ≤ W0.heap.size) : Abide (TuI W0 n1 bx S) := by
  rintro T T' pre W W' ⟨ax, cx, h⟩ ho hwd
  have hn : n1 ≤ W.heap.size := Nat.le_trans h1 h.but.size
  have hb : ∀ b, b < W.heap.size → ¬ T b → ¬ T' b := fun b hb hT hT' => by
    rcases hwd b hT' with h2 | h2
    · exact hT h2
    · omega
  refine ⟨ax, cx, h.but.off ho h.tn hn, ho.cellsBlock h.bx_ h.tx, ownsRow_off h.own ho h.ta, hb _ (by omega) h.tx, fun k hk => hb k (World.ownsRow.lt h.own k hk).2 (h.ta k hk), fun k hk => ?_, fun k hk => ?_⟩
  · rcases hwd k hk with h2 | h2
    · exact h.tn k h2
    · omega
  · rcases hwd k hk with h2 | h2
    · have := h.tl k h2; have := ho.size; omega
    · exact h2.2
def TuA (g p1 v1 : Nat) (tmps : Array Value) (T : Nat → Prop) (x : Nat) (a' : Act) (W : World) : Prop :=
  a' = { tmps := (tmps.setIfInBounds p1 (.slice (some ⟨g, x * 2, none⟩) 2 2)).setIfInBounds v1 (.slice (some ⟨g, x * 2, none⟩) 2 2), defers := [] }

theorem cell_alloc {w : World} {p : Addr} {v : Value} {o : Obj} (h : w.cell? p = some v) : (w.alloc o).cell? p = some v := by rw [World.cell?_alloc_lt _ _ _ (World.block_lt_of_cell? w _ h)]; exact h

set_option maxRecDepth 100000 in
set_option maxHeartbeats 8000000 in
theorem Turn_walk (a : Option Addr) (n c : Nat) (ps : List PD) (b : Option Addr) (n2 c2 : Nat) (qs : List PD) (w : World) (hn : ps.length = n) (hlt : n ≤ 65536) (hc : PiecesAt w a ps) (hnone : a = none → c = 0) (hn2 : qs.length = n2) (hlt2 : n2 ≤ 65536) (hc2 : PiecesAt w b qs) (hnone2 : b = none → c2 = 0) :
    Calls Try.prog 24 #[.slice a n c, .slice b n2 c2] w fun e w' => ∃ a' m c', e = .returned (.slice a' m c') ∧ OwnP w.heap.size w' a' m c' (turnL ps qs) ∧ Below w.heap.size w w' := by
  have HN := Lib.hid hn; clear hn
  have HC := Lib.hid hc; clear hc
  have HZ := Lib.hid hnone; clear hnone
  have HN2 := Lib.hid hn2; clear hn2
  have HC2 := Lib.hid hc2; clear hc2
  have HZ2 := Lib.hid hnone2; clear hnone2
  refine calls_of_wpM Try.func24 rfl ?_
  simp only [Try.ntmps24, List.size_toArray, List.length_cons, List.length_nil, Nat.reduceAdd, Nat.reduceSub, Array.replicate_succ, Array.replicate_zero, List.push_toArray, List.append_toArray, List.nil_append, List.cons_append]
  go_wp2_with fail
  refine (Join_walk a n c ps w HN.out (by omega) HC.out HZ.out).mono ?_
  rintro e w1 ⟨aJ, nJ, cJ, rfl, hoJ, hb⟩
  have hnJ : nJ ≤ 65536 := by have := hoJ.len; have := joinL_length ps; have := HN.out; omega
  have HJl := Lib.hid hoJ.len
  have HJ := Lib.hid hoJ.pieces
  have HB1 := Lib.hid hb; clear hoJ hb
  go_wp2_with fail
  refine (Join_walk b n2 c2 qs w1 HN2.out (by omega) (HC2.out.below HB1.out (Nat.le_refl _)) HZ2.out).mono ?_
  rintro e w2 ⟨aK, nK, cK, rfl, hoK, hb⟩
  have hnK : nK ≤ 65536 := by have := hoK.len; have := joinL_length qs; have := HN2.out; omega
  have HKl := Lib.hid hoK.len
  have HK := Lib.hid hoK.pieces
  have HJ2 := Lib.hid (HJ.out.below hb (Nat.le_refl _))
  have HB2 := Lib.hid (below_sq HB1.out hb); clear hoK hb
  obtain ⟨bL, hbL⟩ : ∃ bL, bL = w2.heap.size := ⟨_, rfl⟩
  have HW3 : Hid (Below w2.heap.size w2 (w2.alloc (.cells #[.slice aJ nJ cJ, .slice aK nK cK] 22)) ∧ (w2.alloc (.cells #[.slice aJ nJ cJ, .slice aK nK cK] 22)).heap[bL]? = some (.cells #[.slice aJ nJ cJ, .slice aK nK cK] 22 (0, 0)) ∧ (w2.alloc (.cells #[.slice aJ nJ cJ, .slice aK nK cK] 22)).heap.size = bL + 1) := Lib.hid (by
    rw [hbL]
    exact ⟨(Below.refl _ _).alloc (Nat.le_refl _) _, heap_alloc_new w2 _, by simp⟩)
  go_wp2
  rw [← hbL]
  generalize (w2.alloc (.cells #[.slice aJ nJ cJ, .slice aK nK cK] 22)) = w3 at *
  have HBL := Lib.hid hbL; clear hbL
  have HB3 := Lib.hid (below_sq HB2.out HW3.out.1)
  have HJ3 := Lib.hid (HJ2.out.below HW3.out.1 (Nat.le_refl _))
  have HK3 := Lib.hid (HK.out.below HW3.out.1 (Nat.le_refl _))
  go_loopw [5, 18] (EdR w3 (joinL ps) (joinL qs)) (fun _ i _ => 2 - (intOf i).toNat)
  case atStart => exact ⟨0, none, 0, 0, Nat.zero_le _, rfl, rfl, Own.nil _ _ _, Below.refl _ _⟩
  case round =>
    obtain ⟨k, a', m, c', hk, rfl, rfl, hown, hbel⟩ := hrel
    have HO := Lib.hid hown; clear hown
    have HB := Lib.hid hbel; clear hbel
    have hbl3 : bL < w3.heap.size := by rw [HW3.out.2.2]; omega
    by_cases hkn : k < 2
    · obtain ⟨L, aX, nX, cX, hcell, hX, hXl, hnX, hE⟩ : ∃ (L : List PD) (aX : Option Addr) (nX cX : Nat), wr.cell? ⟨bL, k, none⟩ = some (.slice aX nX cX) ∧ PiecesAt w3 aX L ∧ L.length = nX ∧ nX ≤ 65536 ∧ edgN (joinL ps) (joinL qs) (k + 1) = edgN (joinL ps) (joinL qs) k ++ edgesL L := by
        have hblk := (HB.out.block bL hbl3).trans HW3.out.2.1
        obtain rfl | rfl : k = 0 ∨ k = 1 := by omega
        · exact ⟨joinL ps, aJ, nJ, cJ, by rw [cell_of_row wr bL 0 _ _ (0, 0) hblk]; rfl, HJ3.out, HJl.out, hnJ, edgN_step _ _ 0 (by omega)⟩
        · exact ⟨joinL qs, aK, nK, cK, by rw [cell_of_row wr bL 1 _ _ (0, 0) hblk]; rfl, HK3.out, HKl.out, hnK, edgN_step _ _ 1 (by omega)⟩
      have HX := Lib.hid hX; clear hX
      have HXl := Lib.hid hXl; clear hXl
      have HE := Lib.hid hE; clear hE
      have hel : (edgN (joinL ps) (joinL qs) k).length ≤ 262144 := by
        have h1 := edgesL_length (joinL ps)
        have h2 := edgesL_length (joinL qs)
        have h3 := HJl.out
        have h4 := HKl.out
        unfold edgN
        split
        · simp
        · split
          · omega
          · rw [List.length_append]; omega
      generalize edgN (joinL ps) (joinL qs) k = E at *
      have hki : (k : Int) < 2 := by omega
      go_wp2
      obtain ⟨wo, rfl⟩ : ∃ wo : World, wo = wr := ⟨_, rfl⟩
      go_loopw [5, 24] (EdS w3 E L) (fun _ i _ => nX - (intOf i).toNat)
      case atStart => exact ⟨0, a', m, c', Nat.zero_le _, rfl, rfl, by rw [show E ++ edgesL (L.take 0) = E by simp [edgesL]]; exact HO.out, HB.out⟩
      case round =>
        obtain ⟨j, a', m, c', hj, rfl, rfl, hown, hbel⟩ := hrel
        have HO := Lib.hid hown; clear hown
        have HB := Lib.hid hbel; clear hbel
        have hjn : j ≤ nX := by rw [← HXl.out]; exact hj
        clear hj
        have hml : m ≤ 524288 := by
          have h1 := HO.out.lenI
          rw [List.length_append, edgesL_length, List.length_take] at h1
          omega
        by_cases hjl : j < nX
        · have hjL : j < L.length := by rw [HXl.out]; exact hjl
          obtain ⟨b0, o0, ha⟩ := HX.out.some (by omega)
          subst ha
          obtain ⟨k1, k2⟩ := (HX.out.below HB.out (Nat.le_refl _)).get j hjL
          have HTk := Lib.hid (show edgesL (L.take (j + 1)) = edgesL (L.take j) ++ [L[j].f, L[j].t] by rw [List.take_succ_eq_append_getElem hjL, edgesL_snoc])
          generalize L[j] = p at *
          have hji : (j : Int) < (nX : Int) := by omega
          obtain ⟨bP, hbP⟩ : ∃ bP, bP = wr.heap.size := ⟨_, rfl⟩
          have HW8 : Hid (Below wr.heap.size wr (wr.alloc (.cells #[.int .i64 p.f, .int .i64 p.t] 45)) ∧ (wr.alloc (.cells #[.int .i64 p.f, .int .i64 p.t] 45)).heap[bP]? = some (.cells #[.int .i64 p.f, .int .i64 p.t] 45 (0, 0))) := Lib.hid (by
            rw [hbP]
            exact ⟨(Below.refl _ _).alloc (Nat.le_refl _) _, heap_alloc_new wr _⟩)
          go_upto_region 8 with (fail)
          rw [← hbP]
          generalize (wr.alloc (.cells #[.int .i64 p.f, .int .i64 p.t] 45)) = w8 at *
          have HBP := Lib.hid hbP; clear hbP
          have r0 := cell_of_row w8 bP 0 _ _ (0, 0) HW8.out.2
          have r1 := cell_of_row w8 bP 1 _ _ (0, 0) HW8.out.2
          simp at r0 r1
          have HO8 := Lib.hid (HO.out.below HW8.out.1 (Nat.le_refl _))
          have HB8 := Lib.hid (HB.out.trans (HW8.out.1.mono HB.out.size))
          have HO9 := Lib.hid (HO8.out.below ((Below.refl w8.heap.size w8).alloc (Nat.le_refl _) (.cells #[.int .i64 p.f, .int .i64 p.t] 3)) (Nat.le_refl _))
          have HB9 := Lib.hid (HB8.out.alloc HB8.out.size (.cells #[.int .i64 p.f, .int .i64 p.t] 3))
          have HSr := Lib.hid (ints_lit w8 [p.f, p.t] #[.int .i64 p.f, .int .i64 p.t] rfl)
          clear k1 k2
          go_wp2_with (at_builtin; refine wpList_appS (m := 2) Try.elemInt rfl (.tmp 28) (.tmp 33) rfl HO9.out HB9.out.size (ys := ivs .i64 [p.f, p.t]) rfl HSr.out.vals (by simp) (ivs_one _ _) (by omega) (by unfold maxLen; omega) rfl rfl ?_)
          intro a9 c9 w9 ho9 hg9 _
          have HN9 : Hid (Own w3.heap.size 3 w9 a9 (m + 2) c9 (ivs .i64 (E ++ edgesL (L.take (j + 1))))) := Lib.hid (by rw [HTk.out, ← List.append_assoc, ivs_append _ (E ++ _)]; exact ho9)
          have HB10 := Lib.hid (HB9.out.trans (HO9.out.app hg9 HB9.out.size))
          clear ho9 hg9
          go_wp2
          go_roundw
          case rel => exact ⟨j + 1, _, _, _, hjL, by go_num, rfl, HN9.out, HB10.out⟩
          case measure => simp [intOf]; omega
        · obtain rfl : j = nX := by omega
          have hji : ¬ (j : Int) < (j : Int) := by omega
          have HAll := Lib.hid (show L.take j = L from List.take_of_length_le (by rw [HXl.out]; exact Nat.le_refl _))
          have HN9 : Hid (Own w3.heap.size 3 wr a' m c' (ivs .i64 (edgN (joinL ps) (joinL qs) (k + 1)))) := Lib.hid (by
            have := HO.out
            rw [HAll.out, ← HE.out] at this
            exact this)
          go_wp2
          go_roundw
          case rel => exact ⟨k + 1, _, _, _, by omega, by go_num, rfl, HN9.out, HB.out⟩
          case measure => simp [intOf]; omega
    · obtain rfl : k = 2 := by omega
      have HEq := Lib.hid (show edgN (joinL ps) (joinL qs) 2 = bothE ps qs from rfl)
      rw [HEq.out] at HO
      obtain ⟨mm, hmm⟩ : ∃ mm, m = mm * 2 := ⟨(joinL ps).length + (joinL qs).length, by have h1 := HO.out.lenI; rw [bothE_length] at h1; omega⟩
      have hmm2 : mm ≤ 131072 := by have h1 := HO.out.lenI; rw [bothE_length] at h1; have := HJl.out; have := HKl.out; omega
      have hm9 : m ≤ 1048576 := by omega
      have HMm := Lib.hid hmm; clear hmm
      go_wp2_with fail
      refine (sortI_walk w3.heap.size a' m c' (bothE ps qs) wr hm9 HO.out).mono ?_
      rintro e w4 ⟨rfl, ho, hb⟩
      have HO4 := Lib.hid ho
      have HB4 := Lib.hid (below_sq HB3.out (HB.out.trans hb)); clear ho hb
      obtain ⟨bx, hbx⟩ : ∃ bx, bx = w4.heap.size := ⟨_, rfl⟩
      have HW5 : Hid (Below w4.heap.size w4 (w4.alloc (.cells #[.slice none 0 0] 22)) ∧ (w4.alloc (.cells #[.slice none 0 0] 22)).heap[bx]? = some (.cells #[.slice none 0 0] 22 (0, 0)) ∧ (w4.alloc (.cells #[.slice none 0 0] 22)).heap.size = bx + 1) := Lib.hid (by
        rw [hbx]
        exact ⟨(Below.refl _ _).alloc (Nat.le_refl _) _, heap_alloc_new w4 _, by simp⟩)
      go_upto_region 13 with (fail)
      rw [← hbx]
      generalize (w4.alloc (.cells #[.slice none 0 0] 22)) = w5 at *
      have HBX := Lib.hid hbx; clear hbx
      go_wp2_with fail
      refine (Chunk_walk a' m c' w5).mono ?_
      rintro e w6 ⟨rfl, k1, k2, hs6, hb⟩
      have HX6 := Lib.hid ((hb.block bx (by rw [HW5.out.2.2]; omega)).trans HW5.out.2.1)
      have HB6 := Lib.hid (below_sq HB4.out (below_sq HW5.out.1 hb))
      have HO6 := Lib.hid ((HO4.out.below HW5.out.1 (Nat.le_refl _)).below hb (Nat.le_refl _))
      obtain ⟨g, hg⟩ : ∃ g, 0 < m → a' = some ⟨g, 0, none⟩ ∧ g < bx := by
        by_cases h0 : 0 < m
        · obtain ⟨g, e, -, h2, -⟩ := HO4.out.at h0
          exact ⟨g, fun _ => ⟨e, by rw [HBX.out]; exact h2⟩⟩
        · exact ⟨0, fun h => absurd h h0⟩
      have hcc := HO4.out.cap
      have HG := Lib.hid hg; clear hg
      obtain ⟨n1, hn1⟩ : ∃ n1, n1 = w6.heap.size := ⟨_, rfl⟩
      have hs5 := HW5.out.2.2
      have hbxn : bx < n1 := by omega
      have HStops := Lib.hid (chunk_stops a' g m c' mm w5.heap.size (w5.heap.size + 1) (fun k => k < n1 ∧ k ≠ bx) w6 HMm.out (fun h => (HG.out (by have := HMm.out; omega)).1) hcc.1 (by have := hcc.2; unfold maxLen at this; exact this) hm9 ⟨by omega, by omega⟩ ⟨by omega, by omega⟩ k1 k2)
      have HN1 := Lib.hid hn1; clear hn1
      clear k1 k2 hs6 hb hcc hs5
      have HRd := Lib.hid (show ∀ i, i < mm → w6.cell? ⟨g, i * 2, none⟩ = some (.int .i64 ((sortI (bothE ps qs)).getD (i * 2) 0)) ∧ w6.cell? ⟨g, i * 2 + 1, none⟩ = some (.int .i64 ((sortI (bothE ps qs)).getD (i * 2 + 1) 0)) from fun i hi => by
        have h1 := HO6.out.ints
        have hl := HO6.out.lenI
        have h2 := HMm.out
        rw [(HG.out (by omega)).1] at h1
        have a1 := h1.get (i * 2) (by omega)
        have a2 := h1.get (i * 2 + 1) (by omega)
        simp only [Nat.zero_add] at a1 a2
        exact ⟨by rw [a1]; simp [List.getD_eq_getElem?_getD, List.getElem?_eq_getElem (show i * 2 < (sortI (bothE ps qs)).length by omega)], by rw [a2]; simp [List.getD_eq_getElem?_getD, List.getElem?_eq_getElem (show i * 2 + 1 < (sortI (bothE ps qs)).length by omega)]⟩)
      go_wp2
      refine wp_rangeX (gf := 71) (lb := #[.pointer (some ⟨w5.heap.size, 0, none⟩), .pointer (some ⟨w5.heap.size + 1, 0, none⟩)]) rfl (enters_of Try.func71 (by kernel_rfl) rfl) HStops.out (Below.refl _ _) (fun k hk => by rw [← HN1.out]; exact hk.1) (fun _ => rfl)
        (TuI w6 n1 bx (sortI (bothE ps qs))) (fun _ _ _ _ => False) (TuI.abide hbxn (by rw [HN1.out]; exact Nat.le_refl _)) (fun _ _ _ _ _ _ h => h.elim)
        ⟨none, 0, But.refl _ _ _, HX6.out, OwnP.nil _ _, id, (fun _ h => by cases h), (fun _ h => h.elim), (fun _ h => h.elim)⟩
        (TuA g 41 11) (fun T x a' W W' h ho => h) ?assign ?body ?done ?stop
      case assign =>
        rintro l T pre x W K hi hK
        have HK := Lib.hid hK; clear hK
        simp only [encC]
        gi_wp2
        exact HK.out _ _ (Kept.refl _ _ _) hi rfl
      case stop =>
        rintro D c T pre W - - - h
        exact h.elim
      case body =>
        rintro l T pre x a'' W hTl hl - ⟨ax, cx, hst⟩ hA hlen hsp
        unfold TuA at hA
        subst hA
        have HST := Lib.hid hst; clear hst
        have hlen2 : pre.length ≤ 131072 := by omega
        have hx : x < mm := by
          obtain ⟨k, hk, e⟩ := hsp
          have h1 : x ∈ List.range (k + 1) := by rw [← e]; simp
          have := List.mem_range.1 h1
          omega
        clear hlen hsp
        have hg := (HG.out (by have := HMm.out; omega)).2
        obtain ⟨c0, c1⟩ := HRd.out x hx
        replace c0 : W.cell? ⟨g, x * 2, none⟩ = _ := HST.out.but.cell c0 (by omega) (by show ¬ g = bx; omega)
        replace c1 : W.cell? ⟨g, x * 2 + 1, none⟩ = _ := HST.out.but.cell c1 (by omega) (by show ¬ g = bx; omega)
        have HMp := Lib.hid (show (pre ++ [x]).map (fun i => (⟨(sortI (bothE ps qs)).getD (i * 2) 0, (sortI (bothE ps qs)).getD (i * 2 + 1) 0⟩ : PD)) = pre.map (fun i => ⟨(sortI (bothE ps qs)).getD (i * 2) 0, (sortI (bothE ps qs)).getD (i * 2 + 1) 0⟩) ++ [⟨(sortI (bothE ps qs)).getD (x * 2) 0, (sortI (bothE ps qs)).getD (x * 2 + 1) 0⟩] by simp)
        generalize (sortI (bothE ps qs)).getD (x * 2) 0 = e0 at *
        generalize (sortI (bothE ps qs)).getD (x * 2 + 1) 0 = e1 at *
        have q0 := cell_of_row W bx 0 _ _ (0, 0) HST.out.bx_
        simp at q0
        have hn1W : n1 ≤ W.heap.size := by rw [HN1.out]; exact HST.out.but.size
        gi_wp2
        refine wpIn_region_calm [9, 10] (fun w' : World => w'.cell? ⟨bx, 0, none⟩ = some (.slice ax pre.length cx) ∧ w'.cell? ⟨g, x * 2, none⟩ = some (.int .i64 e0) ∧ w'.cell? ⟨g, x * 2 + 1, none⟩ = some (.int .i64 e1)) (by kernel_rfl) ?_
        have HCx : Hid ((fun w' : World => w'.cell? ⟨bx, 0, none⟩ = some (.slice ax pre.length cx) ∧ w'.cell? ⟨g, x * 2, none⟩ = some (.int .i64 e0) ∧ w'.cell? ⟨g, x * 2 + 1, none⟩ = some (.int .i64 e1)) W.drew) := Lib.hid ⟨q0, c0, c1⟩
        clear q0 c0 c1
        refine' anyC_take (i := 0) (v := _) [9, 10] (by kernel_rfl) rfl (by kernel_rfl) (fun _ _ _ h => h) (by rfl) ?hv0 HCx.out ?h0
        case hv0 =>
          rintro w' ⟨q0, c0, c1⟩
          go_simp
          try with_reducible rfl
        simp only [List.getElem_toArray, List.getElem_cons_zero, List.getElem_cons_succ, Act.put, List.setIfInBounds_toArray, List.set_cons_zero, List.set_cons_succ]
        refine' anyC_take (i := 1) (v := _) [2, 3, 7, 8, 9, 10] (by kernel_rfl) rfl (by kernel_rfl) (fun _ _ _ h => h) (by rfl) ?hv1 HCx.out ?h1
        case hv1 =>
          rintro w' ⟨q0, c0, c1⟩
          go_simp
          try with_reducible rfl
        simp only [List.getElem_toArray, List.getElem_cons_zero, List.getElem_cons_succ, Act.put, List.setIfInBounds_toArray, List.set_cons_zero, List.set_cons_succ]
        refine' anyC_take (i := 2) (v := _) [3, 7, 8, 9, 10] (by kernel_rfl) rfl (by kernel_rfl) (fun _ _ _ h => h) (by rfl) ?hv2 HCx.out ?h2
        case hv2 =>
          rintro w' ⟨q0, c0, c1⟩
          go_simp
          try with_reducible rfl
        simp only [List.getElem_toArray, List.getElem_cons_zero, List.getElem_cons_succ, Act.put, List.setIfInBounds_toArray, List.set_cons_zero, List.set_cons_succ]
        refine' anyC_take (i := 3) (v := _) [7, 8, 9, 10] (by kernel_rfl) rfl (by kernel_rfl) (fun _ _ _ h => h) (by rfl) ?hv3 HCx.out ?h3
        case hv3 =>
          rintro w' ⟨q0, c0, c1⟩
          go_simp
          try with_reducible rfl
        simp only [List.getElem_toArray, List.getElem_cons_zero, List.getElem_cons_succ, Act.put, List.setIfInBounds_toArray, List.set_cons_zero, List.set_cons_succ]
        refine' anyC_take (i := 4) (v := _) [5, 6, 7, 8, 9, 10] (by kernel_rfl) rfl (by kernel_rfl) (fun _ _ _ h => h) (by rfl) ?hv4 HCx.out ?h4
        case hv4 =>
          rintro w' ⟨q0, c0, c1⟩
          go_simp
          try with_reducible rfl
        simp only [List.getElem_toArray, List.getElem_cons_zero, List.getElem_cons_succ, Act.put, List.setIfInBounds_toArray, List.set_cons_zero, List.set_cons_succ]
        refine' anyC_take (i := 5) (v := _) [6, 7, 8, 9, 10] (by kernel_rfl) rfl (by kernel_rfl) (fun _ _ _ h => h) (by rfl) ?hv5 HCx.out ?h5
        case hv5 =>
          rintro w' ⟨q0, c0, c1⟩
          go_simp
          try with_reducible rfl
        simp only [List.getElem_toArray, List.getElem_cons_zero, List.getElem_cons_succ, Act.put, List.setIfInBounds_toArray, List.set_cons_zero, List.set_cons_succ]
        refine' anyC_take (i := 6) (v := _) [7, 8, 9, 10] (by kernel_rfl) rfl (by kernel_rfl) (fun _ _ _ h => h) (by rfl) ?hv6 HCx.out ?h6
        case hv6 =>
          rintro w' ⟨q0, c0, c1⟩
          go_simp
          try with_reducible rfl
        simp only [List.getElem_toArray, List.getElem_cons_zero, List.getElem_cons_succ, Act.put, List.setIfInBounds_toArray, List.set_cons_zero, List.set_cons_succ]
        refine' anyC_take (i := 7) (v := _) [8, 9, 10] (by kernel_rfl) rfl (by kernel_rfl) (fun _ _ _ h => h) (by rfl) ?hv7 HCx.out ?h7
        case hv7 =>
          rintro w' ⟨q0, c0, c1⟩
          go_simp
          try with_reducible rfl
        simp only [List.getElem_toArray, List.getElem_cons_zero, List.getElem_cons_succ, Act.put, List.setIfInBounds_toArray, List.set_cons_zero, List.set_cons_succ]
        refine anyC_one (i := 8) (v := .slice (some ⟨W.drew.heap.size, 0, none⟩) 1 1) (w' := W.drew.alloc (.cells #[.int .i64 e0, .int .i64 e1] 45)) (by kernel_rfl) rfl (by kernel_rfl) (by rfl) (by go_simp) ⟨cell_alloc HCx.out.1, cell_alloc HCx.out.2.1, cell_alloc HCx.out.2.2⟩ ?_
        simp only [List.getElem_toArray, List.getElem_cons_zero, List.getElem_cons_succ, Act.put, List.setIfInBounds_toArray, List.set_cons_zero, List.set_cons_succ]
        refine anyC_tail 9 (by rfl) (by kernel_rfl) (by kernel_rfl) ?_
        simp only [List.drop_succ_cons, List.drop_zero]
        have HOd := Lib.hid (show OwnP n1 W.drew ax pre.length cx (pre.map (fun i => (⟨(sortI (bothE ps qs)).getD (i * 2) 0, (sortI (bothE ps qs)).getD (i * 2 + 1) 0⟩ : PD))) from World.ownsRow.drew HST.out.own)
        have hn1d : n1 ≤ W.drew.heap.size := hn1W
        have HKd := Lib.hid (show Kept T (fun k => k < n1 ∧ k ≠ bx) W W.drew from ⟨Nat.le_refl _, fun _ _ _ => rfl⟩)
        have HBd := Lib.hid (show But n1 (fun k => k = bx) w6 W.drew from HST.out.but.trans (But.of_below (below_drewN (Below.refl n1 W) 1)))
        have HXd := Lib.hid (show W.drew.heap[bx]? = some (.cells #[.slice ax pre.length cx] 22 (0, 0)) from HST.out.bx_)
        have HTld := Lib.hid (show ∀ k, T k → k < W.drew.heap.size from HST.out.tl)
        generalize W.drew = Wd at *
        gi_wp2_with (gi_at_builtin; refine wpListIn_appN Try.elemPiece rfl (.tmp 42) (.tmp 50) rfl HOd.out hn1d (by omega) (by omega) #[.int .i64 e0, .int .i64 e1] rfl (by intro u hu; simp at hu; rcases hu with rfl | rfl <;> rfl) _ rfl rfl ?_)
        intro a9 c9 w9 ho9 hg9 hn9
        have b9 : ∀ b, b < n1 → w9.heap[b]? = Wd.heap[b]? := fun b hb => hg9.block b (by omega) (fun e => by have := (World.ownsRow.lt HOd.out b e.symm).1; omega)
        have x9 := (b9 bx (by omega)).trans HXd.out
        have q1 := cell_of_row w9 bx 0 _ _ (0, 0) x9
        have f1 := frozen_of_row w9 bx 0 _ _ x9
        simp at q1
        have HOw := Lib.hid (show OwnP n1 w9 a9 (pre.length + 1) c9 ((pre ++ [x]).map (fun i => (⟨(sortI (bothE ps qs)).getD (i * 2) 0, (sortI (bothE ps qs)).getD (i * 2 + 1) 0⟩ : PD))) from by rw [HMp.out]; unfold OwnP; rw [flatP_push]; exact ho9)
        have HB9 := Lib.hid (But.grown HBd.out hg9 hn1d (fun k e => .inr (World.ownsRow.lt HOd.out k e).1))
        have HKp := Lib.hid (show Kept T (fun k => k < n1 ∧ k ≠ bx) W w9 from HKd.out.trans (Kept.of_grown hg9 (fun k e h => by
          rcases h with h | h
          · exact HST.out.ta k e h
          · have h1 := (World.ownsRow.lt HOd.out k e).1
            omega)))
        have HTa := Lib.hid (show ∀ k, (Value.slice a9 (pre.length + 1) c9).ownBlock = some k → ¬ T k from fun k hk hT => by
          rcases hn9 with h | ⟨gg, h, hgg⟩
          · rw [h] at hk; exact HST.out.ta k hk hT
          · rw [h] at hk; cases hk; have := HTld.out _ hT; omega)
        have HTl := Lib.hid (fun k (h : T k) => Nat.lt_of_lt_of_le (HTld.out k h) hg9.size)
        clear ho9 hg9 hn9 b9
        gi_wp2
        refine ⟨HKp.out.trans ⟨by simp, fun k hk h => ?_⟩, a9, c9, ?_⟩
        · have hne : k ≠ bx := by
            rcases h with h | h
            · exact fun e => HST.out.tx (e ▸ h)
            · exact h.2
          rw [heap_setCell_other w9 ⟨bx, 0, none⟩ k _ (by simp; omega)]
        · have hl : (pre ++ [x]).length = pre.length + 1 := by simp
          refine ⟨HB9.out.setCell bx 0 _ (.inl rfl), ?_, ?_, HST.out.tx, by rw [hl]; exact HTa.out, HST.out.tn, fun k h => by simp; exact HTl.out k h⟩
          · rw [hl]
            have := heap_setCell_same w9 bx 0 _ _ (.slice a9 (pre.length + 1) c9) x9
            simpa using this
          · rw [hl]
            exact World.ownsRow.kept HOw.out (grown_store w9 bx 0 _) (ownsRow_apart HOw.out (by omega))
      case done =>
        rintro D T xs w20 hD hTD rfl ⟨ax, cx, hst⟩ hDk
        have HST := Lib.hid hst; clear hst
        have HDk := Lib.hid hDk; clear hDk
        have q0 := cell_of_row w20 bx 0 _ _ (0, 0) HST.out.bx_
        simp at q0
        have HPr := Lib.hid (show (List.range mm).map (fun i => (⟨(sortI (bothE ps qs)).getD (i * 2) 0, (sortI (bothE ps qs)).getD (i * 2 + 1) 0⟩ : PD)) = pairsL (sortI (bothE ps qs)) from pairs_range mm _ (by rw [(sortI_perm _).length_eq]; have h1 := HO.out.lenI; have := HMm.out; omega))
        have HOo := Lib.hid HST.out.own
        rw [HPr.out] at HOo
        have hlen : (List.range mm).length = mm := List.length_range
        rw [hlen] at HOo
        have hbw : w.heap.size ≤ bx := by rw [HBX.out]; exact HB4.out.size
        have HB20 := Lib.hid (HB6.out.trans (HST.out.but.below w.heap.size (by rw [HN1.out]; exact HB6.out.size) (fun k e => by subst e; exact hbw)))
        have HNo : Hid (ax = none → cx = 0) := Lib.hid (fun e => by
          rcases HOo.out.form with ⟨_, _, h⟩ | ⟨g, h, _⟩
          · exact h
          · rw [e] at h; cases h)
        have HLn := Lib.hid HOo.out.len
        have hDl := (Array.getElem?_eq_some_iff.1 HDk.out).1
        clear hlen
        go_wp2_with fail
        refine (Join_walk ax mm cx (pairsL (sortI (bothE ps qs))) w20 HLn.out (by omega) HOo.out.pieces HNo.out).mono ?_
        rintro e w21 ⟨aR, mR, cR, rfl, hoR, hb⟩
        have HTu := Lib.hid (turn_only ps qs (sortI (bothE ps qs)) (sortI_perm _) (sortI_sorted _))
        rw [HTu.out] at hoR
        have HD21 := Lib.hid ((hb.block D hDl).trans HDk.out)
        have HR := Lib.hid hoR
        have HB21 := Lib.hid (below_sq HB20.out hb)
        have HS21 := Lib.hid HB20.out.size
        clear hoR hb q0
        go_wp2
        refine leaves_mark HD21.out (leaves_nil (results_tmp rfl _ _ _) ?_)
        have hof : Off (fun j => j = D) w21 (w21.putObj D (.deferred none)) := Off.putObj _ _ rfl
        refine ⟨_, _, _, rfl, ?_, ?_⟩
        · have h2 : OwnP w20.heap.size (w21.putObj D (.deferred none)) aR mR cR (turnL ps qs) := ownsRow_off HR.out hof (fun j hj e => by have := (World.ownsRow.lt HR.out j hj).1; omega)
          exact h2.mono HS21.out
        · have h1 := HB21.out
          exact h1.trans (hof.below w.heap.size h1.size (fun j e => by subst e; have := HN1.out; have := HB6.out.size; omega))
end Go.Proofs.Ytkcdcgijbaepmaa
