/-
  Walks: picks.Places; picks.Logical.
-/
import Derived.Test.YtkcdcgijbaepmaaW22
import Derived.Test.YtkcdcgijbaepmaaRG
import Derived.Maps.OwnIn
set_option linter.unusedVariables false
namespace Go.Proofs.Ytkcdcgijbaepmaa
open Go.RowKit Go.Shelf Go.Maps
attribute [local go_sem] Oper.semAt_some

theorem Places_walk (a : Option Addr) (n c : Nat) (ps : List PD) (w : World) (hn : ps.length = n) (hlt : n ≤ 1048576) (hc : PiecesAt w a ps) (hnone : a = none → c = 0) :
    Calls Try.prog 27 #[.slice a n c] w fun e w' => ∃ B a' m c', e = .returned (.func (.func 56) #[] #[.pointer (some ⟨B, 0, none⟩)]) ∧ w'.cell? ⟨B, 0, none⟩ = some (.slice a' m c') ∧
      OwnP w.heap.size w' a' m c' (joinL ps) ∧ w.heap.size ≤ B ∧ Below w.heap.size w w' := by
  go_enter Try.func27, Try.ntmps27
  go_wp2_with fail
  refine (Join_walk a n c ps w hn hlt hc hnone).mono ?_
  rintro e w1 ⟨aJ, nJ, cJ, rfl, hoJ, hb⟩
  have HO := Lib.hid hoJ; clear hoJ
  have HB := Lib.hid hb; clear hb
  clear hn hc hnone
  go_wp2
  go_ret
  have hA := (Below.refl w1.heap.size w1).alloc (Nat.le_refl _) (.cells #[.slice aJ nJ cJ] 22)
  have c0 := cell_of_row _ w1.heap.size 0 _ _ (0, 0) (heap_alloc_new w1 (.cells #[.slice aJ nJ cJ] 22))
  exact ⟨_, _, _, _, rfl, c0, HO.out.below hA (Nat.le_refl _), HB.out.size, below_sq HB.out hA⟩

def logE (os : List Int) (ps : List PD) : Int := if orderB os = false then 261 else if Any_log os.length ps = true then 260 else 0
def logRL (os : List Int) (ps : List PD) : List PD := if orderB os = false then [] else if Any_log os.length ps = true then [] else logL os ps

/-- between two rounds: the places that were met -/
structure PkSt (W0 : World) (n1 bm : Nat) (os : List Int) (T : Nat → Prop) (pre : List Int) (W : World) (D : DataW Unit) : Prop where
  but : But n1 (fun k => k = bm) W0 W
  map_ : W.ownsMap Try.prog 3 (plainElem (H := Unit) Try.prog 3) bm pre.length D
  met : Met D (pre.map (fun v => os.getD v.toNat 0))
  tx : ¬ T bm
  tn : ∀ k, T k → n1 ≤ k
  tl : ∀ k, T k → k < W.heap.size
def PkI (W0 : World) (n1 bm : Nat) (os : List Int) (T : Nat → Prop) (pre : List Int) (W : World) : Prop := ∃ D, PkSt W0 n1 bm os T pre W D
theorem ownsMap_off {T : Nat → Prop} {W W' : World} {b n : Nat} {D : DataW Unit} {k : TypeId} {R : Value → Option (DataW Unit × List MemPlace)} (h : W.ownsMap Try.prog k R b n D) (ho : Off T W W') (ht : ¬ T b) : W'.ownsMap Try.prog k R b n D := by
  obtain ⟨es, clock, hb, F, hs, hD⟩ := h
  exact ⟨es, clock, ho.cellsBlock hb ht, F, hs, hD⟩
theorem PkI.abide {W0 : World} {n1 bm : Nat} {os : List Int} (hx : bm < n1) (h1 : n1 ≤ W0.heap.size) : Abide (PkI W0 n1 bm os) := by
  rintro T T' pre W W' ⟨D, h⟩ ho hwd
  have hn : n1 ≤ W.heap.size := Nat.le_trans h1 h.but.size
  have hb : ∀ b, b < W.heap.size → ¬ T b → ¬ T' b := fun b hb hT hT' => by
    rcases hwd b hT' with h2 | h2
    · exact hT h2
    · omega
  refine ⟨D, h.but.off ho h.tn hn, ownsMap_off h.map_ ho h.tx, h.met, hb _ (by omega) h.tx, fun k hk => ?_, fun k hk => ?_⟩
  · rcases hwd k hk with h2 | h2
    · exact h.tn k h2
    · omega
  · rcases hwd k hk with h2 | h2
    · have := h.tl k h2; have := ho.size; omega
    · exact h2.2

theorem OwnP.form {B : Nat} {w : World} {a : Option Addr} {n c : Nat} {rs : List PD} (h : OwnP B w a n c rs) : (a = none ∧ n = 0 ∧ c = 0) ∨ ∃ g, a = some ⟨g, 0, none⟩ ∧ B ≤ g ∧ g < w.heap.size := by
  rcases h.2 with ⟨e, h0⟩ | ⟨g, cap, cur, e, hb, hg, _⟩
  · simp only [Value.slice.injEq] at e
    exact .inl ⟨e.1, e.2.1, e.2.2⟩
  · simp only [Value.slice.injEq] at e
    exact .inr ⟨g, e.1, hb, (Array.getElem?_eq_some_iff.1 hg).1⟩
theorem join_within {ps : List PD} {lo hi : Int} (h : ∀ p ∈ ps, lo ≤ p.f ∧ p.t ≤ hi) {q : PD} (hq : q ∈ joinL ps) : lo ≤ q.f ∧ q.t ≤ hi := by
  have hp := (joinL_ok ps).1.pos q hq
  obtain ⟨p1, h1, h2, h3⟩ := ((joinL_ok ps).2 q.f).1 ⟨q, hq, Int.le_refl _, hp⟩
  obtain ⟨p2, h4, h5, h6⟩ := ((joinL_ok ps).2 (q.t - 1)).1 ⟨q, hq, by omega, by omega⟩
  have := h p1 h1
  have := h p2 h4
  omega
theorem places_le {l : List PD} {n : Nat} (hn : NF l) (h : ∀ p ∈ l, 0 ≤ p.f ∧ p.t ≤ (n : Int)) : (placesL l).length ≤ n := by
  have key : ∀ (l : List PD) (lo : Int), NF l → (∀ p ∈ l, lo ≤ p.f ∧ p.t ≤ (n : Int)) → lo ≤ n → ((placesL l).length : Int) ≤ n - lo := by
    intro l
    induction l with
    | nil => intro lo _ _ h; simp [placesL]; exact h
    | cons p l ih =>
      intro lo hn h hlo
      have hp := hn.pos p List.mem_cons_self
      have hb := h p List.mem_cons_self
      have h2 := ih p.t hn.tail (fun q hq => ⟨by have := (List.pairwise_cons.1 hn.gap).1 q hq; omega, (h q (List.mem_cons_of_mem _ hq)).2⟩) hb.2
      rw [placesL, List.flatMap_cons, ← placesL, List.length_append, placesP_length]
      omega
  have := key l 0 hn h (by omega)
  omega
theorem ord_in {os : List Int} (h : orderB os = true) {v : Nat} (hv : v < os.length) : 0 ≤ os[v] ∧ os[v] ≤ 1048576 := by
  unfold orderB at h
  exact (of_decide_eq_true h).1 _ (List.getElem_mem hv)

def LogR (w3 : World) (n : Nat) (l : List PD) (v g i : Value) (wr : World) : Prop :=
  ∃ (k : Nat) (a' : Option Addr) (m c' : Nat), k ≤ n ∧ i = .int .i64 k ∧ v = .slice a' m c' ∧ g = .bool (logT (l.take k)).2 ∧ OwnP w3.heap.size wr a' m c' (logT (l.take k)).1 ∧ Below w3.heap.size w3 wr
theorem pick_met {os : List Int} {ps l : List PD} (x : Int) (hl : NF l ∧ ∀ x, cov l x ↔ cov ps x) (hw : ∀ p ∈ l, 0 ≤ p.f ∧ p.t ≤ (os.length : Int)) : pickI os ps x = if x ∈ (placesL l).map (fun v => os.getD v.toNat 0) then 1 else 0 := by
  by_cases hm : x ∈ (placesL l).map (fun v => os.getD v.toNat 0)
  · rw [if_pos hm]
    obtain ⟨y, hy, e⟩ := List.mem_map.1 hm
    have hc := (mem_placesL l y).1 hy
    have hc2 := hc
    obtain ⟨p, hp, h1, h2⟩ := hc2
    have h3 := hw p hp
    refine pickI_one.2 ⟨y.toNat, by omega, e, ?_⟩
    rw [show ((y.toNat : Nat) : Int) = y by omega]
    exact (hl.2 y).1 hc
  · rw [if_neg hm]
    rcases pickI_bit os ps x with h | h
    · exact h
    · exfalso
      obtain ⟨v, hv, e, hc⟩ := pickI_one.1 h
      exact hm (List.mem_map.2 ⟨(v : Int), (mem_placesL l _).2 ((hl.2 _).2 hc), by simpa using e⟩)

set_option maxRecDepth 100000 in
set_option maxHeartbeats 8000000 in
theorem Logical_walk (aO : Option Addr) (nO cO : Nat) (os : List Int) (a : Option Addr) (n c : Nat) (ps : List PD) (w : World) (hnO : os.length = nO) (hltO : nO ≤ 65536) (hcO : Ints .i64 w aO os) (hn : ps.length = n) (hlt : n ≤ 65536) (hc : PiecesAt w a ps) (hnone : a = none → c = 0) :
    Calls Try.prog 16 #[.slice aO nO cO, .slice a n c] w fun e w' => ∃ a' m c', e = .returned (.tuple #[.slice a' m c', .int .i64 (logE os ps)]) ∧ OwnP w.heap.size w' a' m c' (logRL os ps) ∧ Below w.heap.size w w' := by
  have HNO := Lib.hid hnO; clear hnO
  have HN := Lib.hid hn; clear hn
  have HCO := Lib.hid hcO; clear hcO
  have HC := Lib.hid hc; clear hc
  have HZ := Lib.hid hnone; clear hnone
  refine calls_of_wpM Try.func16 rfl ?_
  simp only [Try.ntmps16, List.size_toArray, List.length_cons, List.length_nil, Nat.reduceAdd, Nat.reduceSub, Array.replicate_succ, Array.replicate_zero, List.push_toArray, List.append_toArray, List.nil_append, List.cons_append]
  obtain ⟨bO, hbO⟩ : ∃ bO, bO = w.heap.size := ⟨_, rfl⟩
  have HW0 : Hid (Below w.heap.size w (w.alloc (.cells #[.slice aO nO cO] 31)) ∧ (w.alloc (.cells #[.slice aO nO cO] 31)).heap[bO]? = some (.cells #[.slice aO nO cO] 31 (0, 0)) ∧ (w.alloc (.cells #[.slice aO nO cO] 31)).heap.size = bO + 1) := Lib.hid (by
    rw [hbO]
    exact ⟨(Below.refl _ w).alloc (Nat.le_refl _) _, heap_alloc_new w _, by simp⟩)
  go_upto_region 1 with (fail)
  rw [← hbO]
  generalize (w.alloc (.cells #[.slice aO nO cO] 31)) = w0 at *
  have HBO := Lib.hid hbO; clear hbO
  have o0 := cell_of_row w0 bO 0 _ _ (0, 0) HW0.out.2.1
  simp at o0
  have hbOl : bO < w0.heap.size := by rw [HW0.out.2.2]; omega
  go_wp2_with fail
  refine (may_walk aO nO cO os w0 HNO.out hltO (HCO.out.below HW0.out.1 (Nat.le_refl _))).mono ?_
  rintro e w1 ⟨rfl, hb⟩
  replace o0 : w1.cell? ⟨bO, 0, none⟩ = _ := (hb.cell (p := ⟨bO, 0, none⟩) hbOl).trans o0
  have HB1 := Lib.hid (below_sq HW0.out.1 hb)
  have HK1 := Lib.hid hb; clear hb
  by_cases h1 : orderB os = false
  · have HE := Lib.hid (show logE os ps = 261 from if_pos h1)
    have HL := Lib.hid (show logRL os ps = [] from if_pos h1)
    rw [h1]
    clear h1
    go_wp2
    refine leaves_nil (results_tmp2 rfl _ _ _) ?_
    exact ⟨_, _, _, by rw [HE.out]; rfl, by rw [HL.out]; exact OwnP.nil _ _, HB1.out⟩
  · have h1t : orderB os = true := by simpa using h1
    have HOr := Lib.hid h1t
    rw [h1t]
    have H1 := Lib.hid h1; clear h1 h1t
    have HC1 := Lib.hid (HC.out.below HB1.out (Nat.le_refl _))
    go_wp2_with fail
    refine (Contains_log_walk nO aO cO bO a n c ps w1 HN.out (by omega) (by omega) HC1.out o0).mono ?_
    rintro e w2 ⟨rfl, hb⟩
    have hbO1 : bO < w1.heap.size := by have := HK1.out.size; omega
    replace o0 : w2.cell? ⟨bO, 0, none⟩ = _ := (hb.cell (p := ⟨bO, 0, none⟩) hbO1).trans o0
    have HB2 := Lib.hid (below_sq HB1.out hb); clear hb
    by_cases h2 : Any_log nO ps = true
    · have HE := Lib.hid (show logE os ps = 260 by unfold logE; rw [if_neg H1.out, HNO.out, if_pos h2])
      have HL := Lib.hid (show logRL os ps = [] by unfold logRL; rw [if_neg H1.out, HNO.out, if_pos h2])
      rw [h2]
      clear h2
      go_wp2
      refine leaves_nil (results_tmp2 rfl _ _ _) ?_
      exact ⟨_, _, _, by rw [HE.out]; rfl, by rw [HL.out]; exact OwnP.nil _ _, HB2.out⟩
    · have HE := Lib.hid (show logE os ps = 0 by unfold logE; rw [if_neg H1.out, HNO.out, if_neg h2])
      have HL := Lib.hid (show logRL os ps = logL os ps by unfold logRL; rw [if_neg H1.out, HNO.out, if_neg h2])
      have h2f : Any_log nO ps = false := by simpa using h2
      rw [h2f]
      have HA := Lib.hid h2
      clear h2 h2f
      have HC2 := Lib.hid (HC.out.below HB2.out (Nat.le_refl _))
      have hmm := @run_makeMap Try.prog
      obtain ⟨bm, hbm⟩ : ∃ bm, bm = w2.heap.size := ⟨_, rfl⟩
      have HW3 : Hid (Below w2.heap.size w2 ((w2.alloc (.map #[] 0)).alloc (.cells #[.map (some bm)] 71)) ∧ ((w2.alloc (.map #[] 0)).alloc (.cells #[.map (some bm)] 71)).heap[bm + 1]? = some (.cells #[.map (some bm)] 71 (0, 0)) ∧
          ((w2.alloc (.map #[] 0)).alloc (.cells #[.map (some bm)] 71)).ownsMap Try.prog 3 (plainElem (H := Unit) Try.prog 3) bm 0 (.map []) ∧ ((w2.alloc (.map #[] 0)).alloc (.cells #[.map (some bm)] 71)).heap.size = bm + 1 + 1) := Lib.hid (by
        rw [hbm]
        refine ⟨((Below.refl _ w2).alloc (Nat.le_refl _) _).alloc (by simp) _, ?_, (World.ownsMap_made w2 _ _ _).alloc _, by simp⟩
        have := heap_alloc_new (w2.alloc (.map #[] 0)) (.cells #[.map (some w2.heap.size)] 71)
        simpa using this)
      go_upto_region 6 with (fail)
      rw [← hbm]
      generalize ((w2.alloc (.map #[] 0)).alloc (.cells #[.map (some bm)] 71)) = w3 at *
      have hbOm : bO < bm := by rw [hbm]; exact World.block_lt_of_cell? w2 ⟨bO, 0, none⟩ o0
      replace o0 : w3.cell? ⟨bO, 0, none⟩ = _ := (HW3.out.1.cell (p := ⟨bO, 0, none⟩) (by rw [← hbm]; exact hbOm)).trans o0
      have HBM := Lib.hid hbm; clear hbm hmm
      have HB3 := Lib.hid (below_sq HB2.out HW3.out.1)
      have m0 := cell_of_row w3 (bm + 1) 0 _ _ (0, 0) HW3.out.2.1
      simp at m0
      go_wp2_with fail
      refine (Places_walk a n c ps w3 HN.out (by omega) (HC.out.below HB3.out (Nat.le_refl _)) HZ.out).mono ?_
      rintro e w4 ⟨bP, aJ, nJ, cJ, rfl, cP, hoJ, hbP, hb⟩
      have hs3 := HW3.out.2.2.2
      replace o0 : w4.cell? ⟨bO, 0, none⟩ = _ := (hb.cell (p := ⟨bO, 0, none⟩) (by show bO < _; omega)).trans o0
      replace m0 : w4.cell? ⟨bm + 1, 0, none⟩ = _ := (hb.cell (p := ⟨bm + 1, 0, none⟩) (by show bm + 1 < _; omega)).trans m0
      have HM4 := Lib.hid (show w4.ownsMap Try.prog 3 (plainElem (H := Unit) Try.prog 3) bm 0 (.map []) from ownsMap_off HW3.out.2.2.1 (Off.of_below (T := fun _ => False) hb) id)
      have HB4 := Lib.hid (below_sq HB3.out hb)
      have HS4 := Lib.hid hb.size; clear hb
      obtain ⟨n1, hn1⟩ : ∃ n1, n1 = w4.heap.size := ⟨_, rfl⟩
      have hbm1 : bm + 1 < n1 := by have := HS4.out; omega
      have hJm : ∀ k, (Value.slice aJ nJ cJ).ownBlock = some k → bm < k ∧ k < n1 := fun k hk => by
        have := World.ownsRow.lt hoJ k hk
        exact ⟨by omega, by omega⟩
      have HJb := Lib.hid (show ∀ b o, aJ = some ⟨b, o, none⟩ → b < n1 ∧ b ≠ bm from fun b o e => by
        rcases hoJ.form with ⟨e2, _⟩ | ⟨g, e2, h3, h4⟩
        · rw [e2] at e; cases e
        · rw [e2] at e
          simp only [Option.some.injEq, Addr.mk.injEq, and_true] at e
          obtain ⟨rfl, -⟩ := e
          exact ⟨by omega, by omega⟩)
      have HIn := Lib.hid (show ∀ p ∈ ps, 0 ≤ p.f ∧ p.t ≤ (nO : Int) from fun p hp => by
        have := HA.out
        unfold Any_log at this
        rw [decide_eq_true_iff] at this
        have h2 : ¬ overP nO p := fun h => this ⟨p, hp, h⟩
        unfold overP wrongP at h2
        omega)
      have HWi := Lib.hid (fun q hq => join_within HIn.out (q := q) hq)
      have HNF := Lib.hid (joinL_ok ps)
      have hnJ : nJ ≤ 65536 := by have := hoJ.len; have := joinL_length ps; have := HN.out; omega
      have HStops := Lib.hid (places_stops (joinL ps) aJ nJ cJ bP (fun k => k < n1 ∧ k ≠ bm) w4 hoJ.len (by omega) hoJ.pieces HJb.out HNF.out.1 cP (fun p hp => by have := HWi.out p hp; omega))
      have HN1 := Lib.hid hn1; clear hn1
      have hPlen : (placesL (joinL ps)).length ≤ 65536 := by
        have := places_le (l := joinL ps) (n := nO) HNF.out.1 (fun p hp => HWi.out p hp)
        omega
      have hbPl : bP < w4.heap.size := World.block_lt_of_cell? w4 ⟨bP, 0, none⟩ cP
      have HOb := Lib.hid (show ∀ b o, aO = some ⟨b, o, none⟩ → 0 < nO → b < bO from fun b o e h0 => by
        obtain ⟨b', o', e2, h3⟩ := HCO.out 0 (by rw [HNO.out]; exact h0)
        rw [e2] at e
        simp only [Option.some.injEq, Addr.mk.injEq, and_true] at e
        obtain ⟨rfl, -⟩ := e
        have := World.block_lt_of_cell? w _ h3
        rw [HBO.out]
        exact this)
      clear hoJ cP hJm hs3 hnJ
      go_wp2
      refine wp_rangeX (gf := 56) (lb := #[.pointer (some ⟨bP, 0, none⟩)]) rfl (enters_of Try.func56 (by kernel_rfl) rfl) HStops.out (Below.refl _ _) (fun k hk => by rw [← HN1.out]; exact hk.1) (fun _ => rfl)
        (PkI w4 n1 bm os) (fun _ _ _ _ => False) (PkI.abide (by omega) (by rw [HN1.out]; exact Nat.le_refl _)) (fun _ _ _ _ _ _ h => h.elim)
        ⟨.map [], But.refl _ _ _, HM4.out, Met.nil, id, (fun _ h => h.elim), (fun _ h => h.elim)⟩
        (ColA 21 7) (fun T x a' W W' h ho => h) ?assign ?body ?done ?stop
      case assign =>
        rintro l T pre x W K hi hK
        have HK := Lib.hid hK; clear hK
        simp only [encI]
        gi_wp2
        exact HK.out _ _ (Kept.refl _ _ _) hi rfl
      case stop =>
        rintro D c T pre W - - - h
        exact h.elim
      case body =>
        rintro l T pre x a' W hTl hl - ⟨D, hst⟩ hA hlen hsp
        unfold ColA at hA
        subst hA
        have HST := Lib.hid hst; clear hst
        have hlen2 : pre.length ≤ 65536 := by omega
        have hx : 0 ≤ x ∧ x < (nO : Int) := by
          obtain ⟨k, hk, e⟩ := hsp
          have h1 : x ∈ placesL (joinL ps) := List.mem_of_mem_take (i := k + 1) (by rw [← e]; simp)
          obtain ⟨p, hp, h2, h3⟩ := (mem_placesL _ _).1 h1
          have := HWi.out p hp
          omega
        clear hlen hsp
        obtain ⟨v, rfl⟩ : ∃ v : Nat, x = (v : Int) := ⟨x.toNat, by omega⟩
        have hvn : v < nO := by omega
        have hvl : v < os.length := by rw [HNO.out]; exact hvn
        obtain ⟨b, o, ha⟩ := HCO.out.some (by omega)
        have hbO' := HOb.out b o ha (by omega)
        subst ha
        have cz : W.cell? ⟨b, o + v, none⟩ = some (.int .i64 os[v]) := HST.out.but.cell ((HCO.out.below HB4.out (Nat.le_refl _)).get v hvl) (by omega) (by show ¬ b = bm; omega)
        have q0 : W.cell? ⟨bO, 0, none⟩ = _ := HST.out.but.cell o0 (by omega) (by show ¬ bO = bm; omega)
        have q1 : W.cell? ⟨bm + 1, 0, none⟩ = _ := HST.out.but.cell m0 (by omega) (by show ¬ bm + 1 = bm; omega)
        have hwz := ord_in HOr.out hvl
        have HMt := Lib.hid (show pre.map (fun v => os.getD v.toNat 0) ++ [os[v]] = (pre ++ [(v : Int)]).map (fun v => os.getD v.toNat 0) by simp [hvl])
        generalize os[v] = z at *
        have hwf : (Lit.int .i64 z).wf = true := WalkArith.wf_i64 (by omega)
        have HKey := Lib.hid (keyOf_int_mk Try.underlying3 hwf)
        clear hwf
        have hvi : (v : Int) < (nO : Int) := by omega
        gi_wp2
        refine wpIn_region_tail 5 (by kernel_rfl) (by kernel_rfl) (by kernel_rfl) ?_
        simp only [List.take_succ_cons, List.take_zero, List.drop_succ_cons, List.drop_zero]
        change wpStill _ _ (World.drew _) (fun a' => wpListIn _ _ _ _ _ _ a' (World.drew _)) _ _
        repeat still_step
        refine wpStill_nil ?_
        gi_wp2_with (gi_at_mapUpdate; refine wpListIn_mapUpdate_own _ rfl _ _ _ 71 rfl 3 3 intLaw Try.underlying71 _ bm pre.length _ rfl HST.out.map_.drew (by unfold maxLen; omega) _ _ _ rfl rfl HKey.out _ [] (plainElem_int Try.underlying3 (WalkArith.wf_i64 (by omega))) ?_; intro w9 hown9 hgrow9)
        have hg9 : W.grownBy w9 (some bm) := ⟨hgrow9.os, hgrow9.tape, hgrow9.output, hgrow9.size, hgrow9.block⟩
        have HK9 := Lib.hid (show Kept T (fun k => k < n1 ∧ k ≠ bm) W w9 from Kept.of_grown hg9 (fun k e h => by
          cases e
          rcases h with h | h
          · exact HST.out.tx h
          · exact h.2 rfl))
        have HB9 := Lib.hid (But.grown HST.out.but hg9 (by rw [HN1.out]; exact HST.out.but.size) (fun k e => by cases e; exact .inl rfl))
        have HM9 := Lib.hid (HST.out.met.put z trivial)
        rw [HMt.out] at HM9
        have HO9 := Lib.hid hown9
        have HSz := Lib.hid hg9.size
        clear hown9 hgrow9 hg9
        gi_wp2
        exact ⟨HK9.out, _, HB9.out, by rw [List.length_append]; exact HO9.out, HM9.out, HST.out.tx, HST.out.tn, fun k hk => Nat.lt_of_lt_of_le (HST.out.tl k hk) HSz.out⟩
      case done =>
        rintro D T xs w20 hD hTD rfl ⟨Dm, hst⟩ hDk
        have HST := Lib.hid hst; clear hst
        have HDk := Lib.hid hDk; clear hDk
        have q0 : w20.cell? ⟨bO, 0, none⟩ = _ := HST.out.but.cell o0 (by omega) (by show ¬ bO = bm; omega)
        have q1 : w20.cell? ⟨bm + 1, 0, none⟩ = _ := HST.out.but.cell m0 (by omega) (by show ¬ bm + 1 = bm; omega)
        have hbw : w.heap.size ≤ bO := by rw [HBO.out]; exact Nat.le_refl _
        have HB20 := Lib.hid (HB4.out.trans (HST.out.but.below w.heap.size (by rw [HN1.out]; exact HB4.out.size) (fun k e => by subst e; omega)))
        have HPk := Lib.hid (show ∀ x, pickI os ps x = if x ∈ (placesL (joinL ps)).map (fun v => os.getD v.toNat 0) then 1 else 0 from fun x => pick_met x HNF.out (fun p hp => by rw [HNO.out]; exact HWi.out p hp))
        have hn120 : n1 ≤ w20.heap.size := by rw [HN1.out]; exact HST.out.but.size
        clear o0 m0
        go_wp2_with fail
        refine (Values_walk aO nO cO w20).mono ?_
        rintro e w21 ⟨rfl, cV, hs21, hb⟩
        have hDl := (Array.getElem?_eq_some_iff.1 HDk.out).1
        have HD21 := Lib.hid ((hb.block D hDl).trans HDk.out)
        have HC21 := Lib.hid ((HCO.out.below HB20.out (Nat.le_refl _)).below hb (Nat.le_refl _))
        have HSeq := Lib.hid (values_stops os aO nO cO w20.heap.size (fun k => k < w21.heap.size) w21 HNO.out (by omega) HC21.out (fun b o e => by
          intro h0
          have h1 := HOb.out b o e h0
          have h2 := hb.size
          show b < w21.heap.size
          omega) cV)
        have q1' : w21.cell? ⟨bm + 1, 0, none⟩ = _ := (hb.cell (p := ⟨bm + 1, 0, none⟩) (by show bm + 1 < _; omega)).trans q1
        have HB21 := Lib.hid (below_sq HB20.out hb)
        have HS21 := Lib.hid hb.size
        have HM21 := Lib.hid (ownsMap_off HST.out.map_ (Off.of_below (T := fun _ => False) hb) id)
        clear hb cV q0 q1 hs21
        go_wp2_with fail
        have HSo := Lib.hid (Sorted_walk 65 #[.pointer (some ⟨w20.heap.size, 0, none⟩)] (enters_of Try.func65 (by kernel_rfl) rfl) os (fun k => k < w21.heap.size) _ w21 (by rw [HNO.out]; omega) (fun k hk => hk) (by have := HSeq.out; exact this))
        rw [HNO.out] at HSo
        refine HSo.out.mono ?_
        rintro e w22 ⟨aS, cS, rfl, hoS, hb⟩
        have hm1 : bm + 1 < w21.heap.size := by have := HS21.out; omega
        have HD22 := Lib.hid ((hb.block D (Nat.lt_of_lt_of_le hDl HS21.out)).trans HD21.out)
        have q2 : w22.cell? ⟨bm + 1, 0, none⟩ = _ := (hb.cell (p := ⟨bm + 1, 0, none⟩) hm1).trans q1'
        have HB22 := Lib.hid (below_sq HB21.out hb)
        have HS22 := Lib.hid (Nat.le_trans HS21.out hb.size)
        have HM22 := Lib.hid (ownsMap_off HM21.out (Off.of_below (T := fun _ => False) hb) id)
        have HSI := Lib.hid hoS.ints
        have HMet := Lib.hid HST.out.met
        clear hoS hb q1' HSo HSeq HST HC21 HD21 HM21
        have hSl : (sortI os).length = nO := by rw [(sortI_perm os).length_eq, HNO.out]
        have HSl := Lib.hid hSl; clear hSl
        have HLi := Lib.hid (fun k (hk : k ≤ nO) => logT_inv (logP os ps) (logP_strict ps (of_decide_eq_true HOr.out).2) k (by rw [logP_length, HNO.out]; exact hk))
        have HLl := Lib.hid (show (logP os ps).length = nO by rw [logP_length, HNO.out])
        have hD22l := (Array.getElem?_eq_some_iff.1 HD22.out).1
        go_wp2
        go_loopw [8, 9, 31] (LogR w22 nO (logP os ps)) (fun _ _ i _ => nO - (intOf i).toNat)
        case atStart => exact ⟨0, none, 0, 0, Nat.zero_le _, rfl, rfl, rfl, OwnP.nil _ _, Below.refl _ _⟩
        case round =>
          obtain ⟨k, a', m, c', hk, rfl, rfl, rfl, hown, hbel⟩ := hrel
          have HO := Lib.hid hown; clear hown
          have HB := Lib.hid hbel; clear hbel
          have HInv := Lib.hid (HLi.out k hk)
          by_cases hkn : k < nO
          · have hkS : k < (sortI os).length := by rw [HSl.out]; exact hkn
            have hkP : k < (logP os ps).length := by rw [HLl.out]; exact hkn
            obtain ⟨b, o, ha⟩ := HSI.out.some (by omega)
            subst ha
            have cz := (HSI.out.below HB.out (Nat.le_refl _)).get k hkS
            have hmem : (sortI os)[k] ∈ os := (sortI_perm os).mem_iff.1 (List.getElem_mem hkS)
            have HTk := Lib.hid (logT_take (logP os ps) k hkP)
            have HPx := Lib.hid (show (logP os ps)[k] = ⟨(sortI os)[k], pickI os ps (sortI os)[k]⟩ by simp [logP])
            rw [HPx.out] at HTk
            obtain ⟨v, hv, hve⟩ := List.mem_iff_getElem.1 hmem
            have hwz := ord_in HOr.out hv
            rw [hve] at hwz
            have HPe := Lib.hid (HPk.out (sortI os)[k])
            have HAt := Lib.hid (HMet.out.2 (sortI os)[k])
            clear hv hve hmem HPx
            generalize (sortI os)[k] = x at *
            rw [← HPe.out] at HAt
            have HBit := Lib.hid (pickI_bit os ps x)
            generalize pickI os ps x = P at *
            have hwf : (Lit.int .i64 x).wf = true := WalkArith.wf_i64 (by omega)
            have HKey := Lib.hid (keyOf_int_mk Try.underlying3 hwf)
            clear hwf
            obtain ⟨c9, hrun, hat, _⟩ := (ownsMap_off HM22.out (Off.of_below (T := fun _ => False) HB.out) id).lookup_int intLaw Try.underlying71 Try.underlying3 (intZero _) HKey.out
            obtain rfl : c9 = P := by have := HAt.out.symm.trans hat; simpa using this.symm
            clear hat
            have q3 : wr.cell? ⟨bm + 1, 0, none⟩ = _ := (HB.out.cell (p := ⟨bm + 1, 0, none⟩) (by have := HS22.out; show bm + 1 < _; omega)).trans q2
            have hki : (k : Int) < (nO : Int) := by omega
            have hlen := HO.out.len
            have hmk : m ≤ k := by have h1 := logT_length ((logP os ps).take k); rw [List.length_take] at h1; omega
            have HLen := Lib.hid hlen; clear hlen
            have HGo := Lib.hid HInv.out.go
            clear hk hkS hkP
            generalize logT ((logP os ps).take k) = st at *
            obtain ⟨L, g⟩ := st
            simp only at HLen HGo HO ⊢
            rcases HBit.out with rfl | rfl
            · have HT1 := Lib.hid (show logT ((logP os ps).take (k + 1)) = (L, false) by rw [HTk.out, logStep_no _ _ (by show (0 : Int) ≠ 1; omega)])
              clear HTk HBit HAt HPe
              go_wp2
              go_roundw
              case rel => exact ⟨k + 1, _, _, _, by omega, by go_num, rfl, by rw [HT1.out], by rw [HT1.out]; exact HO.out, HB.out⟩
              case measure => simp [intOf]; omega
            · cases g with
              | false =>
                have HT1 := Lib.hid (show logT ((logP os ps).take (k + 1)) = (L ++ [⟨x, x + 1⟩], true) by rw [HTk.out, logStep_new _ _ rfl])
                clear HTk HBit HAt HPe HGo
                go_wp2_with (at_builtin; refine wpList_appN Try.elemPiece rfl (.tmp 51) (.tmp 56) rfl HO.out HB.out.size (by omega) (by omega) #[.int .i64 x, .int .i64 (x + 1)] rfl (by intro u hu; simp at hu; rcases hu with rfl | rfl <;> rfl) _ rfl rfl ?_)
                intro a9 c9 w9 ho9 hg9 _
                have HN9 : Hid (OwnP w22.heap.size w9 a9 (m + 1) c9 (L ++ [⟨x, x + 1⟩])) := Lib.hid (by unfold OwnP; rw [flatP_push]; exact ho9)
                have HB9 := Lib.hid (HB.out.trans (HO.out.app hg9 HB.out.size))
                clear ho9 hg9
                go_wp2
                go_roundw
                case rel => exact ⟨k + 1, _, _, _, by omega, by go_num, rfl, by rw [HT1.out], by rw [HT1.out]; exact HN9.out, HB9.out⟩
                case measure => simp [intOf]; omega
              | true =>
                obtain ⟨init, q, e, -⟩ := HGo.out rfl
                subst e
                have HT1 := Lib.hid (show logT ((logP os ps).take (k + 1)) = (init ++ [⟨q.f, x + 1⟩], true) by rw [HTk.out, logStep_in _ _ _ rfl])
                obtain ⟨mm, rfl⟩ : ∃ mm, m = mm + 1 := ⟨m - 1, by have := HLen.out; simp at this; omega⟩
                have hmi : init.length = mm := by simpa using HLen.out
                obtain ⟨g, ha, hg1, hg2, hg3, hg4⟩ := HO.out.at (by omega)
                subst ha
                have hget := HO.out.pieces.get mm (by simp; omega)
                rw [show (init ++ [q])[mm]'(by simp; omega) = q by rw [List.getElem_append_right (by omega)]; simp [hmi]] at hget
                obtain ⟨g0, g1⟩ := hget
                simp only [Nat.zero_add] at g0 g1
                have hmm1 : (mm : Int) < (mm : Int) + 1 := by omega
                have fz : wr.frozen? ⟨g, mm * 2 + 1, none⟩ = false := World.ownsRow.frozenAt HO.out _
                have HOs : Hid (OwnP w22.heap.size (wr.setCell ⟨g, mm * 2 + 1, none⟩ (.int .i64 (x + 1))) (some ⟨g, 0, none⟩) (mm + 1) c' (init ++ [⟨q.f, x + 1⟩])) := by
                  refine Lib.hid ?_
                  have h1 := (World.ownsRow.stored HO.out (mm * 2 + 1) (.int .i64 (x + 1))).1
                  rw [← hmi, flatP_set init q (x + 1)] at h1
                  rw [← hmi]
                  exact h1
                have HBs : Hid (Below w22.heap.size w22 (wr.setCell ⟨g, mm * 2 + 1, none⟩ (.int .i64 (x + 1)))) := Lib.hid (HB.out.setCell hg1 _)
                have hwm : IntKind.i64.wrap (mm : Int) = (mm : Int) := IntWalk.i64_in _ (by omega)
                clear hmi HTk HBit HAt HPe HGo
                go_wp2
                go_roundw
                case rel => exact ⟨k + 1, _, _, _, by omega, by go_num, rfl, by rw [HT1.out], by rw [HT1.out]; exact HOs.out, HBs.out⟩
                case measure => simp [intOf]; omega
          · obtain rfl : k = nO := by omega
            have hki : ¬ (k : Int) < (k : Int) := by omega
            have HT1 := Lib.hid (show (logT ((logP os ps).take k)).1 = logRL os ps by rw [List.take_of_length_le (by rw [HLl.out]; exact Nat.le_refl _), HL.out]; rfl)
            go_wp2
            have e1 : wr.heap[D]? = some (.deferred (some [])) := (HB.out.block D hD22l).trans HD22.out
            refine leaves_mark e1 (leaves_nil (results_tmp2 rfl _ _ _) ?_)
            have hof : Off (fun j => j = D) wr (wr.putObj D (.deferred none)) := Off.putObj _ _ rfl
            refine ⟨_, _, _, by rw [HE.out]; rfl, ?_, ?_⟩
            · have h1 := HO.out
              rw [HT1.out] at h1
              have h2 : OwnP w22.heap.size (wr.putObj D (.deferred none)) a' m c' (logRL os ps) := ownsRow_off h1 hof (fun j hj e => by have := (World.ownsRow.lt h1 j hj).1; omega)
              exact h2.mono HB22.out.size
            · have h1 := below_sq HB22.out HB.out
              exact h1.trans (hof.below w.heap.size h1.size (fun j e => by subst e; have := HB4.out.size; have := HN1.out; omega))
end Go.Proofs.Ytkcdcgijbaepmaa
