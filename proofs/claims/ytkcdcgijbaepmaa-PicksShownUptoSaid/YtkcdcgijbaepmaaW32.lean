/-
  The walk of picks.Columns.
-/
import Derived.Test.YtkcdcgijbaepmaaW31
import Derived.Deep.RegionLaw
import Derived.Deep.RegionHeld3
set_option linter.unusedVariables false
set_option linter.unusedSimpArgs false
namespace Go.Proofs.Ytkcdcgijbaepmaa
open Go.RowKit

/-- one element of several cells appended, in a region that draws its order -/
theorem step_appN {P : Program} {t e : TypeId} {z : Value} {size bytes : Nat} (el : ElemN P t e z size bytes) {w : World} {ops : Array Oper} {o : Oper} {act : Act} {K : Act → World → Prop} {Q : Exit → Act → World → Prop} {E : Prop} (hgd : o.guard = none) (s x : Operand)
    (ho : o.op = .call { callee := .builtin .append, args := #[s, x], argTypes := #[t, t] }) {B : Nat} {a : Option Addr} {n cap : Nat} {xs : List Value} (hown : w.ownsRow B e size (.slice a n cap) n xs) (hB : B ≤ w.heap.size) (hn : (n + 1) * bytes ≤ 140737488355328) (hm : n < 140737488355328) (b : Nat) (cs : List Value) (hcs : cs.length = size)
    (hcell : ∀ j v, cs[j]? = some v → w.cell? ⟨b, j, none⟩ = some v) (hu : ∀ u ∈ cs, u.oneCell' = true)
    (hs : act.eval s = .slice a n cap) (hx : act.eval x = .slice (some ⟨b, 0, none⟩) 1 1)
    (h : ∀ a' cap' w', w'.ownsRow B e size (.slice a' (n + 1) cap') (n + 1) (xs ++ cs) → w.grownBy w' (Value.slice a n cap).ownBlock → newBlock w (.slice a n cap) (.slice a' (n + 1) cap') → K (act.put o.dst (.slice a' (n + 1) cap')) w') :
    if Region.wanted o (yielded ops act.tmps) = true then Oper.wp P o act w K Q else E := by
  rw [if_pos (by simp [Region.wanted, hgd])]
  obtain ⟨i, hi, hz, h1, hb⟩ := info_parts el.inf
  have hcell' : ∀ j v, cs[j]? = some v → w.cell? ((⟨b, 0, none⟩ : Addr).add j) = some v := by
    intro j v hv
    rw [Addr.add_lit, Nat.zero_add]
    exact hcell j v hv
  obtain ⟨v', w', hr, h2, h3, h4⟩ := run_app (P := P) w B t o.type e i z size bytes el.und hi hz h1 hb el.sz el.pos _ n xs hown ⟨b, 0, none⟩ 1 1 cs (by simp [hcs]) hcell' hu (by simp only [maxLen]; omega) hn hB
  unfold Oper.wp execOp
  simp only [ho, resolve, invoke, builtin, Sem.run_bind, Sem.run_pure, Result.andThen_ok, List.map_toArray, List.map_cons, List.map_nil, hs, hx, hr]
  have hv' : ∃ a' cap', v' = .slice a' (n + 1) cap' := by
    rcases h2.2 with ⟨rfl, h0⟩ | ⟨g, cap', cur, rfl, _⟩
    · omega
    · exact ⟨_, _, rfl⟩
  obtain ⟨a', cap', rfl⟩ := hv'
  exact h a' cap' w' h2 h3 h4


/-- the widths of the first places of an order, together -/
def sumTo (os ws : List Int) : Nat → Int
  | 0 => 0
  | k + 1 => sumTo os ws k + ws.getD (os.getD k 0).toNat 0
theorem sumTo_in {os ws : List Int} (h : ∀ x ∈ ws, 0 ≤ x ∧ x ≤ 1048576) : ∀ k, 0 ≤ sumTo os ws k ∧ sumTo os ws k ≤ (k : Int) * 1048576
  | 0 => by simp [sumTo]
  | k + 1 => by
    have h1 := sumTo_in (os := os) h k
    have h2 : 0 ≤ ws.getD (os.getD k 0).toNat 0 ∧ ws.getD (os.getD k 0).toNat 0 ≤ 1048576 := by
      rw [List.getD_eq_getElem?_getD]
      cases e : ws[(os.getD k 0).toNat]? with
      | none => simp
      | some x => exact h x (List.mem_of_getElem? e)
    unfold sumTo
    omega
def colI (os ws : List Int) (n : Nat) : List Int := (List.range n).map (sumTo os ws)
theorem colI_length (os ws : List Int) (n : Nat) : (colI os ws n).length = n := by simp [colI]
theorem colI_succ (os ws : List Int) (n : Nat) : colI os ws (n + 1) = colI os ws n ++ [sumTo os ws n] := by simp [colI, List.range_succ]
theorem colI_get (os ws : List Int) (n j : Nat) (h : j < (colI os ws n).length) : (colI os ws n)[j] = sumTo os ws j := by simp [colI]
def colP (os ws : List Int) (p : PD) : PD := ⟨sumTo os ws p.f.toNat, sumTo os ws p.t.toNat⟩
def colE (os ws : List Int) (ps : List PD) : Int := if orderB os = false then 261 else if os.any (farP ws.length) = true then 261 else if Any_wrong ps = true then 260 else if ws.any widP = true then 2 else 0
def colL (os ws : List Int) (ps : List PD) : List PD := if orderB os = false then [] else if os.any (farP ws.length) = true then [] else if Any_wrong ps = true then [] else if ws.any widP = true then [] else (visL os ps).map (colP os ws)
theorem visL_in (os : List Int) (ps : List PD) : ∀ q ∈ visL os ps, 0 ≤ q.f ∧ q.f < q.t ∧ q.t ≤ (os.length : Int) := fun q hq => by
  unfold visL at hq
  split at hq
  · cases hq
  · split at hq
    · cases hq
    · have h1 := (joinL_ok (shL os ps os.length)).1.pos q hq
      have h2 := join_within (ps := shL os ps os.length) (lo := 0) (hi := os.length) (fun p hp => by
        unfold shL at hp
        obtain ⟨v, hv, rfl⟩ := List.mem_map.1 hp
        have := List.mem_range.1 (List.mem_filter.1 hv).1
        exact ⟨by show (0 : Int) ≤ (v : Int); omega, by show (v : Int) + 1 ≤ _; omega⟩) hq
      exact ⟨h2.1, h1, h2.2⟩
theorem visL_length (os : List Int) (ps : List PD) : (visL os ps).length ≤ os.length := by
  unfold visL
  split
  · simp
  · split
    · simp
    · exact Nat.le_trans (joinL_length _) (shL_length _ _ _)
theorem wid_in {ws : List Int} (h : ¬ ws.any widP = true) : ∀ x ∈ ws, 0 ≤ x ∧ x ≤ 1048576 := fun x hx => by
  have h1 : widP x = false := by
    rw [Bool.not_eq_true, List.any_eq_false] at h
    simpa using h x hx
  have := of_decide_eq_false h1
  omega
theorem far_in {os : List Int} {m : Nat} (h : ¬ os.any (farP m) = true) {k : Nat} (hk : k < os.length) : os[k] < (m : Int) := by
  have h1 : farP m os[k] = false := by
    rw [Bool.not_eq_true, List.any_eq_false] at h
    simpa using h _ (List.getElem_mem hk)
  have := of_decide_eq_false h1
  omega
theorem flat_colP {os ws : List Int} {L : List PD} {k : Nat} (h : k < L.length) : flatP ((L.take (k + 1)).map (colP os ws)) = flatP ((L.take k).map (colP os ws)) ++ [.int .i64 (sumTo os ws L[k].f.toNat), .int .i64 (sumTo os ws L[k].t.toNat)] := by
  rw [List.take_succ_eq_append_getElem h, List.map_append, List.map_cons, List.map_nil, flatP_push]
  rfl
def SumR (w3 : World) (nO : Nat) (os ws : List Int) (v s i : Value) (wr : World) : Prop :=
  ∃ (k : Nat) (a' : Option Addr) (c' : Nat), k ≤ nO ∧ i = .int .i64 k ∧ s = .int .i64 (sumTo os ws k) ∧ v = .slice a' (k + 1) c' ∧ Own w3.heap.size 3 wr a' (k + 1) c' (ivs .i64 (colI os ws (k + 1))) ∧ Below w3.heap.size w3 wr
def ColR (w4 : World) (n : Nat) (os ws : List Int) (L : List PD) (v i : Value) (wr : World) : Prop :=
  ∃ (k : Nat) (a' : Option Addr) (c' : Nat), k ≤ n ∧ i = .int .i64 k ∧ v = .slice a' k c' ∧ OwnP w4.heap.size wr a' k c' ((L.take k).map (colP os ws)) ∧ Below w4.heap.size w4 wr

set_option maxRecDepth 100000 in
set_option maxHeartbeats 8000000 in
theorem Columns_walk (aO : Option Addr) (nO cO : Nat) (os : List Int) (aW : Option Addr) (nW cW : Nat) (ws : List Int) (a : Option Addr) (n c : Nat) (ps : List PD) (w : World) (hnO : os.length = nO) (hltO : nO ≤ 65536) (hcO : Ints .i64 w aO os)
    (hnW : ws.length = nW) (hltW : nW ≤ 1048576) (hcW : Ints .i64 w aW ws) (hn : ps.length = n) (hlt : n ≤ 65536) (hc : PiecesAt w a ps) (hnone : a = none → c = 0) :
    Calls Try.prog 17 #[.slice aO nO cO, .slice aW nW cW, .slice a n c] w fun e w' => ∃ a' m c', e = .returned (.tuple #[.slice a' m c', .int .i64 (colE os ws ps)]) ∧ OwnP w.heap.size w' a' m c' (colL os ws ps) ∧ Below w.heap.size w w' := by
  have HNO := Lib.hid hnO; clear hnO
  have HNW := Lib.hid hnW; clear hnW
  have HN := Lib.hid hn; clear hn
  have HCO := Lib.hid hcO; clear hcO
  have HCW := Lib.hid hcW; clear hcW
  have HC := Lib.hid hc; clear hc
  have HZ := Lib.hid hnone; clear hnone
  refine calls_of_wpM Try.func17 rfl ?_
  simp only [Try.ntmps17, List.size_toArray, List.length_cons, List.length_nil, Nat.reduceAdd, Nat.reduceSub, Array.replicate_succ, Array.replicate_zero, List.push_toArray, List.append_toArray, List.nil_append, List.cons_append]
  obtain ⟨bO, hbO⟩ : ∃ bO, bO = w.heap.size := ⟨_, rfl⟩
  have HW0 : Hid (Below w.heap.size w (w.alloc (.cells #[.slice aW nW cW] 31)) ∧ (w.alloc (.cells #[.slice aW nW cW] 31)).heap[bO]? = some (.cells #[.slice aW nW cW] 31 (0, 0)) ∧ (w.alloc (.cells #[.slice aW nW cW] 31)).heap.size = bO + 1) := Lib.hid (by
    rw [hbO]
    exact ⟨(Below.refl _ w).alloc (Nat.le_refl _) _, heap_alloc_new w _, by simp⟩)
  go_upto_region 1 with (fail)
  rw [← hbO]
  generalize (w.alloc (.cells #[.slice aW nW cW] 31)) = w0 at *
  have HBO := Lib.hid hbO; clear hbO
  have o0 := cell_of_row w0 bO 0 _ _ (0, 0) HW0.out.2.1
  simp at o0
  have hbOl : bO < w0.heap.size := by rw [HW0.out.2.2]; omega
  go_wp2_with fail
  refine (may_walk aO nO cO os w0 HNO.out hltO (HCO.out.below HW0.out.1 (Nat.le_refl _))).mono ?_
  rintro e w1 ⟨rfl, hb⟩
  replace o0 : w1.cell? ⟨bO, 0, none⟩ = _ := (hb.cell (p := ⟨bO, 0, none⟩) hbOl).trans o0
  have HB1 := Lib.hid (below_sq HW0.out.1 hb)
  have HK1 := Lib.hid hb; clear hb
  by_cases h1 : orderB os = false
  · have HE := Lib.hid (show colE os ws ps = 261 from if_pos h1)
    have HL := Lib.hid (show colL os ws ps = [] from if_pos h1)
    rw [h1]
    clear h1
    go_wp2
    refine leaves_nil (results_tmp2 rfl _ _ _) ?_
    exact ⟨_, _, _, by rw [HE.out]; rfl, by rw [HL.out]; exact OwnP.nil _ _, HB1.out⟩
  · have h1t : orderB os = true := by simpa using h1
    have HOr := Lib.hid h1t
    rw [h1t]
    have H1 := Lib.hid h1; clear h1 h1t
    have hbO1 : bO < w1.heap.size := by have := HK1.out.size; omega
    go_wp2_with fail
    refine (Contains_far_walk nW bO aW cW aO nO cO os w1 HNO.out (by omega) (HCO.out.below HB1.out (Nat.le_refl _)) o0).mono ?_
    rintro e w2 ⟨rfl, rfl⟩
    by_cases h2 : os.any (farP nW) = true
    · have HE := Lib.hid (show colE os ws ps = 261 by unfold colE; rw [if_neg H1.out, HNW.out, if_pos h2])
      have HL := Lib.hid (show colL os ws ps = [] by unfold colL; rw [if_neg H1.out, HNW.out, if_pos h2])
      rw [h2]
      clear h2
      go_wp2
      refine leaves_nil (results_tmp2 rfl _ _ _) ?_
      exact ⟨_, _, _, by rw [HE.out]; rfl, by rw [HL.out]; exact OwnP.nil _ _, HB1.out⟩
    · have h2f : os.any (farP nW) = false := by simpa using h2
      rw [h2f]
      have HA := Lib.hid h2
      clear h2 h2f
      have HC1 := Lib.hid (HC.out.below HB1.out (Nat.le_refl _))
      go_wp2_with fail
      refine (Visual_walk aO nO cO os a n c ps w1 HNO.out hltO (HCO.out.below HB1.out (Nat.le_refl _)) HN.out hlt HC1.out HZ.out).mono ?_
      rintro e w2 ⟨aV, nV, cV, rfl, hoV, hb⟩
      have HLV := Lib.hid hoV.len
      have HPV := Lib.hid hoV.pieces
      have hnV : nV ≤ nO := by have := hoV.len; have := visL_length os ps; have := HNO.out; omega
      clear hoV
      replace o0 : w2.cell? ⟨bO, 0, none⟩ = _ := (hb.cell (p := ⟨bO, 0, none⟩) hbO1).trans o0
      have HB2 := Lib.hid (below_sq HB1.out hb)
      have hbO2 : bO < w2.heap.size := by have := hb.size; omega
      clear hb
      by_cases h3 : Any_wrong ps = true
      · have HE := Lib.hid (show colE os ws ps = 260 by unfold colE; rw [if_neg H1.out, HNW.out, if_neg HA.out, if_pos h3])
        have HL := Lib.hid (show colL os ws ps = [] by unfold colL; rw [if_neg H1.out, HNW.out, if_neg HA.out, if_pos h3])
        rw [show visE os ps = 260 by unfold visE; rw [if_neg H1.out, if_pos h3]]
        clear h3
        go_wp2
        refine leaves_nil (results_tmp2 rfl _ _ _) ?_
        exact ⟨_, _, _, by rw [HE.out]; rfl, by rw [HL.out]; exact OwnP.nil _ _, HB2.out⟩
      · rw [show visE os ps = 0 by unfold visE; rw [if_neg H1.out, if_neg h3]]
        have H3 := Lib.hid h3
        clear h3
        go_wp2_with fail
        refine (Contains_wid_walk aW nW cW ws w2 HNW.out hltW (HCW.out.below HB2.out (Nat.le_refl _))).mono ?_
        rintro e w3 ⟨rfl, rfl⟩
        by_cases h4 : ws.any widP = true
        · have HE := Lib.hid (show colE os ws ps = 2 by unfold colE; rw [if_neg H1.out, HNW.out, if_neg HA.out, if_neg H3.out, if_pos h4])
          have HL := Lib.hid (show colL os ws ps = [] by unfold colL; rw [if_neg H1.out, HNW.out, if_neg HA.out, if_neg H3.out, if_pos h4])
          rw [h4]
          clear h4
          go_wp2
          refine leaves_nil (results_tmp2 rfl _ _ _) ?_
          exact ⟨_, _, _, by rw [HE.out]; rfl, by rw [HL.out]; exact OwnP.nil _ _, HB2.out⟩
        · have HE := Lib.hid (show colE os ws ps = 0 by unfold colE; rw [if_neg H1.out, HNW.out, if_neg HA.out, if_neg H3.out, if_neg h4])
          have HL := Lib.hid (show colL os ws ps = (visL os ps).map (colP os ws) by unfold colL; rw [if_neg H1.out, HNW.out, if_neg HA.out, if_neg H3.out, if_neg h4])
          have HWd := Lib.hid (wid_in h4)
          have h4f : ws.any widP = false := by simpa using h4
          rw [h4f]
          clear h4 h4f
          have HOl : Hid ((w2.alloc (.cells #[.int .i64 0] 3)).ownsRow w2.heap.size 3 1 (.slice (some ⟨w2.heap.size, 0, none⟩) 1 1) 1 [.int .i64 0]) := Lib.hid (World.ownsRow_lit w2 #[.int .i64 0] 1 (Nat.le_refl _) (by unfold maxLen; omega) rfl)
          have HOb := Lib.hid ((Below.refl _ w2).alloc (Nat.le_refl _) (.cells #[.int .i64 0] 3))
          go_wp2
          go_loopw [10, 11, 39] (SumR w2 nO os ws) (fun _ _ i _ => nO - (intOf i).toNat)
          case atStart => exact ⟨0, _, _, Nat.zero_le _, rfl, rfl, rfl, HOl.out, HOb.out⟩
          case round =>
            obtain ⟨k, a', c', hk, rfl, rfl, rfl, hown, hbel⟩ := hrel
            have HO := Lib.hid hown; clear hown
            have HB := Lib.hid hbel; clear hbel
            replace o0 : wr.cell? ⟨bO, 0, none⟩ = _ := (HB.out.cell (p := ⟨bO, 0, none⟩) hbO2).trans o0
            by_cases hkn : k < nO
            · have hk1 : k < os.length := by rw [HNO.out]; exact hkn
              obtain ⟨b, o, ha⟩ := HCO.out.some (by omega)
              subst ha
              have cz := ((HCO.out.below HB2.out (Nat.le_refl _)).below HB.out (Nat.le_refl _)).get k hk1
              have hz0 := (ord_in HOr.out hk1).1
              have hz1 := far_in HA.out hk1
              obtain ⟨z, hz⟩ : ∃ z : Nat, os[k] = (z : Int) := ⟨os[k].toNat, by omega⟩
              have hzw : z < ws.length := by rw [HNW.out]; omega
              obtain ⟨b2, o2, ha⟩ := HCW.out.some (by omega)
              subst ha
              have cy := ((HCW.out.below HB2.out (Nat.le_refl _)).below HB.out (Nat.le_refl _)).get z hzw
              have hy := HWd.out _ (List.getElem_mem hzw)
              have hs := sumTo_in (os := os) HWd.out k
              have HS : Hid (colI os ws (k + 1 + 1) = colI os ws (k + 1) ++ [sumTo os ws k + ws[z]] ∧ sumTo os ws (k + 1) = sumTo os ws k + ws[z]) := Lib.hid (by
                have e : sumTo os ws (k + 1) = sumTo os ws k + ws[z] := by
                  show sumTo os ws k + ws.getD (os.getD k 0).toNat 0 = _
                  rw [show os.getD k 0 = os[k] by simp [hk1], hz, Int.toNat_natCast]
                  simp [hzw]
                exact ⟨by rw [colI_succ, e], e⟩)
              rw [hz] at cz hz0 hz1
              clear hz
              generalize ws[z] = y at *
              generalize sumTo os ws k = s at *
              obtain ⟨hy0, hy1⟩ := hy
              obtain ⟨hs0, hs1⟩ := hs
              have hki : (k : Int) < (nO : Int) := by omega
              have hwr : IntKind.i64.wrap (s + y) = s + y := IntWalk.i64_in _ (by omega)
              go_wp2_with (at_builtin; refine wpList_app1x Try.elemInt rfl (.tmp 49) (.tmp 51) rfl HO.out HB.out.size (by omega) (by omega) (.int .i64 (s + y)) rfl _ rfl rfl ?_)
              intro a9 c9 w9 ho9 hg9 _
              have HB9 := Lib.hid (HB.out.trans (HO.out.app hg9 HB.out.size))
              have HO9 := Lib.hid (show Own w2.heap.size 3 w9 a9 (k + 1 + 1) c9 (ivs .i64 (colI os ws (k + 1 + 1))) by rw [HS.out.1, ivs_append]; exact ho9)
              clear ho9 hg9
              go_wp2
              go_roundw
              case rel => exact ⟨k + 1, _, _, by omega, by go_num, by rw [HS.out.2], rfl, HO9.out, HB9.out⟩
              case measure => simp [intOf]; omega
            · obtain rfl : nO = k := by omega
              have HV := Lib.hid (visL_in os ps)
              have HL9 := Lib.hid (show (visL os ps).length = nV from HLV.out)
              generalize visL os ps = L at *
              have HB3 := Lib.hid (below_sq HB2.out HB.out)
              have hki : ¬ (nO : Int) < (nO : Int) := by omega
              clear o0
              go_wp2
              rename World => w3
              go_loopw [14, 56] (ColR w3 nV os ws L) (fun _ i _ => nV - (intOf i).toNat)
              case atStart => exact ⟨0, none, 0, Nat.zero_le _, rfl, rfl, OwnP.nil _ _, Below.refl _ _⟩
              case round =>
                obtain ⟨j, a8, c8, hj, rfl, rfl, hown, hbel⟩ := hrel
                have HO8 := Lib.hid hown; clear hown
                have HB8 := Lib.hid hbel; clear hbel
                by_cases hjn : j < nV
                · have hj1 : j < L.length := by rw [HL9.out]; exact hjn
                  obtain ⟨b, o, ha⟩ := HPV.out.some (by omega)
                  subst ha
                  obtain ⟨q0, q1⟩ := (((HPV.out.below HB.out (Nat.le_refl _))).below HB8.out (Nat.le_refl _)).get j hj1
                  have hv := HV.out _ (List.getElem_mem hj1)
                  have HT := Lib.hid (flat_colP (os := os) (ws := ws) hj1)
                  generalize L[j] = q at *
                  obtain ⟨f, t⟩ := q
                  obtain ⟨f, rfl⟩ := Int.eq_ofNat_of_zero_le hv.1
                  obtain ⟨t, rfl⟩ := Int.eq_ofNat_of_zero_le (show 0 ≤ t by have := hv.2.1; have := hv.1; simp only at *; omega)
                  have hft : f < t := by have := hv.2.1; simp only at this; omega
                  have htn : t ≤ nO := by have := hv.2.2; rw [HNO.out] at this; simp only at this; omega
                  simp only [Int.toNat_natCast] at HT
                  simp only at q0 q1
                  obtain ⟨g, ha, hg1, hg2, hg3, hg4⟩ := HO.out.at (by omega)
                  subst ha
                  have x0 := (HO.out.ints.below HB8.out (Nat.le_refl _)).get f (by rw [colI_length]; omega)
                  have x1 := (HO.out.ints.below HB8.out (Nat.le_refl _)).get t (by rw [colI_length]; omega)
                  rw [colI_get] at x0 x1
                  simp only [Nat.zero_add] at x0 x1
                  generalize sumTo os ws f = y0 at *
                  generalize sumTo os ws t = y1 at *
                  have hji : (j : Int) < (nV : Int) := by omega
                  have hfi : (f : Int) < (nO : Int) + 1 := by omega
                  have hti : (t : Int) < (nO : Int) + 1 := by omega
                  have HAL := Lib.hid ((Below.refl wr.heap.size wr).alloc (Nat.le_refl _) (.cells #[.int .i64 f, .int .i64 t] 45))
                  have HBX : Hid ((wr.alloc (.cells #[.int .i64 f, .int .i64 t] 45)).heap[wr.heap.size]? = some (.cells #[.int .i64 f, .int .i64 t] 45 (0, 0))) := Lib.hid (heap_alloc_new wr _)
                  go_upto_region 20 with (fail)
                  generalize hbx : wr.heap.size = bx at *
                  rw [← hbx] at HAL
                  generalize (wr.alloc (.cells #[.int .i64 f, .int .i64 t] 45)) = w5 at *
                  have HO5 := Lib.hid (HO8.out.below HAL.out (Nat.le_refl _))
                  have HB5 := Lib.hid (HB8.out.trans (HAL.out.mono HB8.out.size))
                  have d0 : w5.cell? ⟨bx, 0, none⟩ = some (.int .i64 f) := by simp [World.cell?, HBX.out]
                  have d1 : w5.cell? ⟨bx, 1, none⟩ = some (.int .i64 t) := by simp [World.cell?, HBX.out]
                  have hgx : g < wr.heap.size := by have := HB8.out.size; omega
                  replace x0 : w5.cell? ⟨g, f, none⟩ = _ := (HAL.out.cell (p := ⟨g, f, none⟩) hgx).trans x0
                  replace x1 : w5.cell? ⟨g, t, none⟩ = _ := (HAL.out.cell (p := ⟨g, t, none⟩) hgx).trans x1
                  have HBxe := Lib.hid hbx
                  clear q0 q1 hbx
                  have HO6 : Hid (OwnP w3.heap.size w5.drew a8 j c8 ((L.take j).map (colP os ws))) := Lib.hid (World.ownsRow.drew HO5.out)
                  have HB6 : Hid (Below w3.heap.size w3 w5.drew) := Lib.hid (below_drewN HB5.out 1)
                  have hb5l : bx < w5.heap.size := (Array.getElem?_eq_some_iff.1 HBX.out).1
                  have hg5l : g < w5.heap.size := by have := HAL.out.size; omega
                  have HKA := Lib.hid (fun (ob : Obj) => (show (w5.alloc ob).drew.cell? ⟨bx, 0, none⟩ = some (.int .i64 (f : Nat)) ∧ (w5.alloc ob).drew.cell? ⟨bx, 1, none⟩ = some (.int .i64 (t : Nat)) ∧ (w5.alloc ob).drew.cell? ⟨g, f, none⟩ = some (.int .i64 y0) ∧ (w5.alloc ob).drew.cell? ⟨g, t, none⟩ = some (.int .i64 y1) from by
                    have hA := (Below.refl w5.heap.size w5).alloc (Nat.le_refl _) ob
                    exact ⟨(hA.cell (p := ⟨bx, 0, none⟩) hb5l).trans d0, (hA.cell (p := ⟨bx, 1, none⟩) hb5l).trans d1, (hA.cell (p := ⟨g, f, none⟩) hg5l).trans x0, (hA.cell (p := ⟨g, t, none⟩) hg5l).trans x1⟩))
                  have hgw3 : g < w3.heap.size := by omega
                  have HOwn := Lib.hid (show ∀ q, (Value.slice a8 j c8).ownBlock = some q → q ≠ bx ∧ q ≠ g from fun q hq => by
                    have := World.ownsRow.lt HO8.out q hq
                    have := HBxe.out
                    exact ⟨by omega, by omega⟩)
                  have HKB := Lib.hid (fun (ob : Obj) (w9 : World) (hg9 : ((w5.alloc ob).drew).grownBy w9 (Value.slice a8 j c8).ownBlock) => (show w9.cell? ⟨bx, 0, none⟩ = some (.int .i64 (f : Nat)) ∧ w9.cell? ⟨bx, 1, none⟩ = some (.int .i64 (t : Nat)) ∧ w9.cell? ⟨g, f, none⟩ = some (.int .i64 y0) ∧ w9.cell? ⟨g, t, none⟩ = some (.int .i64 y1) from by
                    have hs : (w5.alloc ob).drew.heap.size = w5.heap.size + 1 := by simp
                    have h1 := hg9.block bx (by omega) (fun e => (HOwn.out bx e.symm).1 rfl)
                    have h2 := hg9.block g (by omega) (fun e => (HOwn.out g e.symm).2 rfl)
                    have h3 := HKA.out ob
                    simp only [World.cell?] at h3 ⊢
                    rw [h1, h2]
                    exact h3))
                  have hbnd1 : (j + 1) * 16 ≤ 140737488355328 := by omega
                  have hbnd2 : j < 140737488355328 := by omega
                  go_region_held3 (fun w' : World => w'.cell? ⟨bx, 0, none⟩ = some (.int .i64 (f : Nat)) ∧ w'.cell? ⟨bx, 1, none⟩ = some (.int .i64 (t : Nat)) ∧ w'.cell? ⟨g, f, none⟩ = some (.int .i64 y0) ∧ w'.cell? ⟨g, t, none⟩ = some (.int .i64 y1)) (first | exact ⟨d0, d1, x0, x1⟩ | exact HKB.out _ _ hg9 | exact HKA.out _) (first
                    | (refine step_appN Try.elemPiece rfl (.tmp 60) (.tmp 72) rfl (World.ownsRow.drew (World.ownsRow.alloc HO5.out _)) (by have := HB5.out.size; simp at this ⊢; omega) hbnd1 hbnd2 w5.heap.size [.int .i64 y0, .int .i64 y1] rfl (fun j v hv => by rw [show (w5.alloc _).drew.cell? ⟨w5.heap.size, j, none⟩ = (w5.alloc _).cell? ⟨w5.heap.size, j, none⟩ from rfl, cell_of_row _ w5.heap.size j _ _ (0, 0) (heap_alloc_new w5 _)]; simpa using hv) (by intro u hu; simp at hu; rcases hu with rfl | rfl <;> rfl) rfl rfl ?_; intro a9 c9 w9 ho9 hg9 hb9))
                  all_goals
                    have HN9 : Hid (OwnP w3.heap.size w9 a9 (j + 1) c9 ((L.take (j + 1)).map (colP os ws))) := Lib.hid (by unfold OwnP; rw [HT.out]; have h := ho9; simp only [List.map_take] at h ⊢; exact h)
                    have HB9 := Lib.hid ((below_drewN (HB5.out.alloc HB5.out.size _) 1).trans (Below.ofGrown hg9 (by have := HB5.out.size; simp; omega) (fun k hk => (World.ownsRow.lt HO5.out k hk).1)))
                    clear ho9 hg9 hb9
                    go_wp2
                    go_roundw
                    case rel => exact ⟨j + 1, _, _, by omega, by go_num, rfl, HN9.out, HB9.out⟩
                    case measure => simp [intOf]; omega
                · obtain rfl : nV = j := by omega
                  have hji : ¬ (nV : Int) < (nV : Int) := by omega
                  have HRes : Hid (OwnP w.heap.size wr a8 nV c8 (colL os ws ps)) := Lib.hid (by
                    rw [HL.out]
                    have h := HO8.out
                    rw [List.take_of_length_le (by rw [HL9.out]; exact Nat.le_refl _)] at h
                    exact h.mono (by have := HB3.out.size; omega))
                  have HEnd := Lib.hid (below_sq HB3.out HB8.out)
                  go_wp2
                  refine leaves_nil (results_tmp2 rfl _ _ _) ?_
                  exact ⟨_, _, _, by rw [HE.out]; rfl, HRes.out, HEnd.out⟩
end Go.Proofs.Ytkcdcgijbaepmaa
