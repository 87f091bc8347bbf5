/-
  The walk of the document's Turn.
-/
import Derived.Test.YtkcdcgijbaepmaaW38
import Derived.Test.YtkcdcgijbaepmaaW5
import Derived.Deep.QuietTactic
set_option linter.unusedVariables false
set_option linter.unusedSimpArgs false
namespace Go.Proofs.Ytkcdcgijbaepmaa
open Go.RowKit

/-- one element of several cells appended, in a region that draws its order -/
theorem step_appQ {P : Program} {t e : TypeId} {z : Value} {size bytes : Nat} (el : ElemN P t e z size bytes) {w : World} {ops : Array Oper} {o : Oper} {act : Act} {K : Act → World → Prop} {Q : Exit → Act → World → Prop} {E : Prop} (hgd : o.guard = none) (s x : Operand)
    (ho : o.op = .call { callee := .builtin .append, args := #[s, x], argTypes := #[t, t] }) {B : Nat} {a : Option Addr} {n cap : Nat} {xs : List Value} (hown : w.ownsRow B e size (.slice a n cap) n xs) (hB : B ≤ w.heap.size) (hn : (n + 1) * bytes ≤ 140737488355328) (hm : n < 140737488355328) (b : Nat) (cs : List Value) (hcs : cs.length = size)
    (hcell : ∀ j v, cs[j]? = some v → w.cell? ⟨b, j, none⟩ = some v) (hu : ∀ u ∈ cs, u.oneCell' = true)
    (hs : act.eval s = .slice a n cap) (hx : act.eval x = .slice (some ⟨b, 0, none⟩) 1 1)
    (h : ∀ a' cap' w', w'.ownsRow B e size (.slice a' (n + 1) cap') (n + 1) (xs ++ cs) → w.grownBy w' (Value.slice a n cap).ownBlock → newBlock w (.slice a n cap) (.slice a' (n + 1) cap') → K (act.put o.dst (.slice a' (n + 1) cap')) w') :
    if Region.wanted o (yielded ops act.tmps) = true then Oper.wp P o act w K Q else E := by
  rw [if_pos (by simp [Region.wanted, hgd])]
  obtain ⟨i, hi, hz, h1, hb⟩ := info_parts el.inf
  have hcell' : ∀ j v, cs[j]? = some v → w.cell? ((⟨b, 0, none⟩ : Addr).add j) = some v := by
    intro j v hv
    rw [Addr.add_lit, Nat.zero_add]
    exact hcell j v hv
  obtain ⟨v', w', hr, h2, h3, h4⟩ := run_app (P := P) w B t o.type e i z size bytes el.und hi hz h1 hb el.sz el.pos _ n xs hown ⟨b, 0, none⟩ 1 1 cs (by simp [hcs]) hcell' hu (by simp only [maxLen]; omega) hn hB
  unfold Oper.wp execOp
  simp only [ho, resolve, invoke, builtin, Sem.run_bind, Sem.run_pure, Result.andThen_ok, List.map_toArray, List.map_cons, List.map_nil, hs, hx, hr]
  have hv' : ∃ a' cap', v' = .slice a' (n + 1) cap' := by
    rcases h2.2 with ⟨rfl, h0⟩ | ⟨g, cap', cur, rfl, _⟩
    · omega
    · exact ⟨_, _, rfl⟩
  obtain ⟨a', cap', rfl⟩ := hv'
  exact h a' cap' w' h2 h3 h4

def TuR (w3 : World) (N : Nat) (E : List Int) (ja jb : List PD) (v i : Value) (wr : World) : Prop :=
  ∃ (k : Nat) (a' : Option Addr) (m c' : Nat), k ≤ N - 1 ∧ i = .int .i64 k ∧ v = .slice a' m c' ∧ OwnP w3.heap.size wr a' m c' (rturnK E ja jb k) ∧ Below w3.heap.size w3 wr

set_option maxRecDepth 100000 in
set_option maxHeartbeats 1600000 in
theorem rTurn_walk (a : Option Addr) (n c : Nat) (ps : List PD) (b : Option Addr) (n2 c2 : Nat) (qs : List PD) (w : World) (hn : ps.length = n) (hlt : n ≤ 65536) (hc : PiecesAt w a ps) (hn2 : qs.length = n2) (hlt2 : n2 ≤ 65536) (hc2 : PiecesAt w b qs) :
    Calls Try.prog 26 #[.slice a n c, .slice b n2 c2] w fun e w' => ∃ a' m c', e = .returned (.slice a' m c') ∧ OwnP w.heap.size w' a' m c' (turnL ps qs) ∧ Below w.heap.size w w' := by
  have HN := Lib.hid hn; clear hn
  have HN2 := Lib.hid hn2; clear hn2
  have HC := Lib.hid hc; clear hc
  have HC2 := Lib.hid hc2; clear hc2
  go_enter Try.func26, Try.ntmps26
  go_wp2_with fail
  refine (rJoin_walk a n c ps w HN.out (by omega) HC.out).mono ?_
  rintro e w1 ⟨aJ, nJ, cJ, rfl, hoJ, hb⟩
  have hnJ : nJ ≤ 65536 := by have := hoJ.len; have := joinL_length ps; have := HN.out; omega
  have HJl := Lib.hid hoJ.len
  have HJ := Lib.hid hoJ.pieces
  have HB1 := Lib.hid hb; clear hoJ hb
  go_wp2_with fail
  refine (rJoin_walk b n2 c2 qs w1 HN2.out (by omega) (HC2.out.below HB1.out (Nat.le_refl _))).mono ?_
  rintro e w2 ⟨aK, nK, cK, rfl, hoK, hb⟩
  have hnK : nK ≤ 65536 := by have := hoK.len; have := joinL_length qs; have := HN2.out; omega
  have HKl := Lib.hid hoK.len
  have HK := Lib.hid hoK.pieces
  have HJ2 := Lib.hid (HJ.out.below hb (Nat.le_refl _))
  have HB2 := Lib.hid (below_sq HB1.out hb); clear hoK hb
  go_wp2_with fail
  refine (edges_walk aJ nJ cJ (joinL ps) aK nK cK (joinL qs) w2 HJl.out hnJ HJ2.out HKl.out hnK HK.out).mono ?_
  rintro e w3 ⟨aE, N, cE, S, rfl, hrow, hb⟩
  have HJ3 := Lib.hid (HJ2.out.below hb (Nat.le_refl _))
  have HK3 := Lib.hid (HK.out.below hb (Nat.le_refl _))
  have HB3 := Lib.hid (below_sq HB2.out hb); clear hb
  have HSl := Lib.hid hrow.len.1
  have hN : N ≤ 262144 := by
    have h := hrow.len.2
    rw [List.length_append, edgesL_length, edgesL_length] at h
    have := HJl.out
    have := HKl.out
    omega
  have HEl := Lib.hid (show (S.map PD.f).length = N by rw [List.length_map]; exact hrow.len.1)
  have HOn := Lib.hid (show joinL (rturnK (S.map PD.f) (joinL ps) (joinL qs) ((S.map PD.f).length - 1)) = turnL ps qs from rturn_only ps qs (S.map PD.f) hrow.perm (by rw [List.pairwise_map]; exact hrow.up))
  rw [HEl.out] at HOn
  have HO := Lib.hid hrow.own; clear hrow
  generalize hE : S.map PD.f = E at *
  have HEe := Lib.hid hE; clear hE
  go_wp2
  go_loopw [6, 7] (TuR w3 N E (joinL ps) (joinL qs)) (fun _ i _ => N - (intOf i).toNat)
  case atStart => exact ⟨0, none, 0, 0, Nat.zero_le _, rfl, rfl, OwnP.nil _ _, Below.refl _ _⟩
  case round =>
    obtain ⟨k, a', m, c', hk, rfl, rfl, hown, hbel⟩ := hrel
    have hmk : m ≤ k := by have := hown.len; have := rturnK_length E (joinL ps) (joinL qs) k; omega
    have HOr := Lib.hid hown; clear hown
    have HB := Lib.hid hbel; clear hbel
    have hkw : IntKind.i64.wrap ((k : Int) + 1) = (k : Int) + 1 := IntWalk.i64_in _ (by omega)
    by_cases hkn : k + 1 < N
    · have hk1 : k + 1 < S.length := by rw [HSl.out]; exact hkn
      obtain ⟨g, ha, -, -, -, -⟩ := HO.out.at (by omega)
      subst ha
      have z0 := hole_at (HO.out.below HB.out (Nat.le_refl _)) k (by omega)
      have z1 := hole_at (HO.out.below HB.out (Nat.le_refl _)) (k + 1) hk1
      have g0 : E.getD k 0 = S[k].f := by rw [← HEe.out, List.getD_eq_getElem?_getD]; simp [show k < S.length by omega]
      have g1 : E.getD (k + 1) 0 = S[k + 1].f := by rw [← HEe.out, List.getD_eq_getElem?_getD]; simp [hk1]
      have HY := Lib.hid (fun h1 h2 => rturnK_yes (e := E) (a := joinL ps) (b := joinL qs) (k := k) h1 h2)
      have HNo := Lib.hid (fun h => rturnK_no (e := E) (a := joinL ps) (b := joinL qs) (k := k) h)
      rw [g0, g1] at HY HNo
      clear g0 g1
      generalize S[k].f = x at *
      generalize S[k + 1].f = y at *
      have HHa := Lib.hid (fun d => (Has_walk aJ nJ cJ (joinL ps) x (wr.drewN d) HJl.out (by omega) ((HJ3.out.below HB.out (Nat.le_refl _)).below (below_drewN (Below.refl _ wr) d) (Nat.le_refl _))).mono (fun e w' (h : e = .returned (.bool (covB (joinL ps) x)) ∧ wr.drewN d = w') => And.intro h.1 h.2.symm))
      have HHb := Lib.hid (fun d => (Has_walk aK nK cK (joinL qs) x (wr.drewN d) HKl.out (by omega) ((HK3.out.below HB.out (Nat.le_refl _)).below (below_drewN (Below.refl _ wr) d) (Nat.le_refl _))).mono (fun e w' (h : e = .returned (.bool (covB (joinL qs) x)) ∧ wr.drewN d = w') => And.intro h.1 h.2.symm))
      have hki : (k : Int) + 1 < (N : Int) := by omega
      have hki0 : (k : Int) < (N : Int) := by omega
      have hki1 : (0 : Int) ≤ (k : Int) + 1 := by omega
      rw [show decide (cov (joinL ps) x) = covB (joinL ps) x from rfl, show decide (cov (joinL qs) x) = covB (joinL qs) x from rfl] at HY HNo
      generalize covB (joinL ps) x = u at *
      generalize covB (joinL qs) x = v at *
      by_cases hxy : x < y
      · have hd : decide (x < y) = true := decide_eq_true hxy
        rw [hd, Bool.true_and] at HNo
        by_cases huv : u = v
        · subst huv
          have HT := Lib.hid (HNo.out (by simp))
          clear HY HNo
          cases u
          all_goals
            go_wp2
            refine wp_region_quiet_lit (by kernel_rfl) (by kernel_rfl) ?_
            iterate 16 (quiet_step (fail))
            quiet_step ((go_at_call 38; exact Calls.quiet_of_same (HHa.out _)))
            iterate 5 (quiet_step (fail))
            quiet_step ((go_at_call 38; exact Calls.quiet_of_same (HHb.out _)))
            iterate 2 (quiet_step (fail))
            refine wpQuiet_nil ?_
            intro _ hw'
            obtain ⟨nq, hw''⟩ := hw'
            subst hw''
            go_wp2
            go_roundw
            case rel => exact ⟨k + 1, _, _, _, by omega, by go_num, rfl, by rw [HT.out]; exact HOr.out.below (below_drewN (Below.refl wr.heap.size wr) nq) (Nat.le_refl _), below_drewN HB.out nq⟩
            case measure => simp [intOf]; omega
        · have hv : v = !u := by cases u <;> cases v <;> simp_all
          subst hv
          have HT := Lib.hid (HY.out hxy (by simp))
          clear HY HNo huv
          cases u
          all_goals
            go_wp2
            refine wp_region_quiet_lit (by kernel_rfl) (by kernel_rfl) ?_
            iterate 16 (quiet_step (fail))
            quiet_step ((go_at_call 38; exact Calls.quiet_of_same (HHa.out _)))
            iterate 5 (quiet_step (fail))
            quiet_step ((go_at_call 38; exact Calls.quiet_of_same (HHb.out _)))
            iterate 2 (quiet_step (fail))
            refine wpQuiet_nil ?_
            intro _ hw'
            obtain ⟨nq, hw''⟩ := hw'
            subst hw''
            have HO2 := Lib.hid (HOr.out.below (below_drewN (Below.refl wr.heap.size wr) nq) (Nat.le_refl _))
            have HB2s := Lib.hid (below_drewN HB.out nq)
            replace z0 : (wr.drewN nq).cell? _ = _ := z0
            replace z1 : (wr.drewN nq).cell? _ = _ := z1
            clear HHa HHb
            generalize wr.drewN nq = w7 at *
            have hbnd1 : (m + 1) * 16 ≤ 140737488355328 := by omega
            have hbnd2 : m < 140737488355328 := by omega
            go_wp2
            go_region_law (refine step_appQ Try.elemPiece rfl (.tmp 47) (.tmp 58) rfl (World.ownsRow.drew (World.ownsRow.alloc HO2.out _)) (by have := HB2s.out.size; simp; omega) hbnd1 hbnd2 w7.heap.size [.int .i64 x, .int .i64 y] rfl (fun j v hv => by rw [show (w7.alloc _).drew.cell? ⟨w7.heap.size, j, none⟩ = (w7.alloc _).cell? ⟨w7.heap.size, j, none⟩ from rfl, cell_of_row _ w7.heap.size j _ _ (0, 0) (heap_alloc_new w7 _)]; simpa using hv) (by intro u hu; simp at hu; rcases hu with rfl | rfl <;> rfl) rfl rfl ?_; intro a9 c9 w9 ho9 hg9 hb9)
            all_goals
              have HN9 : Hid (OwnP w3.heap.size w9 a9 (m + 1) c9 (rturnK E (joinL ps) (joinL qs) (k + 1))) := Lib.hid (by rw [HT.out]; unfold OwnP; rw [flatP_push]; exact ho9)
              have HB9 := Lib.hid ((below_drewN (HB2s.out.alloc HB2s.out.size _) 1).trans (Below.ofGrown hg9 (by have := HB2s.out.size; simp; omega) (fun k hk => (World.ownsRow.lt HO2.out k hk).1)))
              clear ho9 hg9 hb9
              go_wp2
              go_roundw
              case rel => exact ⟨k + 1, _, _, _, by omega, by go_num, rfl, HN9.out, HB9.out⟩
              case measure => simp [intOf]; omega
      · have hd : decide (x < y) = false := decide_eq_false hxy
        rw [hd, Bool.false_and] at HNo
        have HT := Lib.hid (HNo.out rfl)
        clear HY HNo
        go_wp2
        go_quiet (fail)
        go_wp2
        go_roundw
        case rel => exact ⟨k + 1, _, _, _, by omega, by go_num, rfl, by rw [HT.out]; exact HOr.out.below (below_drewN (Below.refl wr.heap.size wr) nq) (Nat.le_refl _), below_drewN HB.out nq⟩
        case measure => simp [intOf]; omega
    · have hkN : k = N - 1 := by omega
      have hki : ¬ (k : Int) + 1 < (N : Int) := by omega
      rw [← hkN] at HOn
      clear hkN
      have hOl := Lib.hid HOr.out.len
      go_wp2_with fail
      refine (rJoin_walk a' m c' (rturnK E (joinL ps) (joinL qs) k) wr hOl.out (by omega) HOr.out.pieces).mono ?_
      rintro e w6 ⟨aR, nR, cR, rfl, hoR, hb⟩
      have HRes : Hid (OwnP w.heap.size w6 aR nR cR (turnL ps qs)) := Lib.hid (by rw [← HOn.out]; exact hoR.mono (by have := HB3.out.size; have := HB.out.size; omega))
      have HEnd := Lib.hid (below_sq HB3.out (below_sq HB.out hb))
      clear hoR hb
      go_wp2
      go_ret
      exact ⟨_, _, _, rfl, HRes.out, HEnd.out⟩
end Go.Proofs.Ytkcdcgijbaepmaa
