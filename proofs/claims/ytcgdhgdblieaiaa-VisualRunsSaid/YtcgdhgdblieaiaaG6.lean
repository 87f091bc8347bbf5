/-
  The walk of VisualRuns.
-/
import Derived.Test.YtcgdhgdblieaiaaG4
import Derived.Test.YtcgdhgdblieaiaaW5
set_option linter.unusedVariables false
namespace Go.Proofs.Ytcgdhgdblieaiaa
open Go.RowKit

theorem tmod_two' {z : Int} (h : 0 ≤ z) : z.tmod 2 = z % 2 := Int.tmod_eq_emod_of_nonneg h
theorem readTo_len (lv : List Int) (r : RunD) (k : Nat) (hk : k ≤ r.t - r.f) : (readTo lv r k).length ≤ k := by
  have hb : ∀ f t l, (block lv ⟨f, t, l⟩).length ≤ t - f := by
    intro f t l
    unfold block
    simp only [List.length_map]
    exact Nat.le_trans (List.length_filter_le _ _) (by simp)
  unfold readTo
  split
  · have := hb (r.t - k) r.t r.l
    rw [List.length_reverse]
    omega
  · have := hb r.f (r.f + k) r.l
    omega
theorem ord_rep_get (c : Int) (h0 : 0 ≤ c) (h1 : c ≤ 126) (n j : Nat) (h : j < (ord (List.replicate n c)).length) (hj : j < n) : (ord (List.replicate n c))[j] = if c % 2 = 1 then ((n : Int) - 1 - (j : Int)) else (j : Int) := by
  have e0 := ord_rep c h0 h1 n
  by_cases ho : c % 2 = 1
  · rw [if_pos ho] at e0 ⊢
    rw [List.getElem_of_eq e0 h]
    simp
    omega
  · rw [if_neg ho] at e0 ⊢
    rw [List.getElem_of_eq e0 h]
    simp
def preL (zs : List Int) (i : Nat) : List Int := ((runsS zs).take i).flatMap (readR zs)
theorem preL_zero (zs : List Int) : preL zs 0 = [] := by simp [preL]
theorem preL_step (zs : List Int) (i : Nat) (h : i < (runsS zs).length) : preL zs (i + 1) = preL zs i ++ readR zs (runsS zs)[i] := by
  unfold preL
  rw [List.take_succ_eq_append_getElem h, List.flatMap_append]
  simp
theorem preL_end (zs : List Int) (h : okL zs = true) : preL zs (runsS zs).length = ord zs := by
  unfold preL
  rw [List.take_length, ← ord_runs zs (okL_mem zs h)]
theorem preL_le (zs : List Int) (h : okL zs = true) (i : Nat) : (preL zs i).length ≤ zs.length := by
  have h1 : (ord zs).length = (preL zs i).length + (((runsS zs).drop i).flatMap (readR zs)).length := by
    rw [ord_runs zs (okL_mem zs h)]
    unfold preL
    rw [← List.length_append, ← List.flatMap_append, List.take_append_drop]
  have := ord_le zs
  omega
/-- a block of runs is none of numbers -/
theorem own_ne {B : Nat} {E T : TypeId} {w : World} {a : Option Addr} {n c bx : Nat} {xs : List Value} {cs : Array Value} {fr : Nat × Nat} (h : Own B E w a n c xs) (hb : w.heap[bx]? = some (.cells cs T fr)) (hne : E ≠ T) : (Value.slice a n c).ownBlock ≠ some bx := by
  intro e
  rcases h.2 with ⟨h1, _⟩ | ⟨g, cap', cur, h1, _, hg, _⟩
  · rw [h1] at e; simp [Value.ownBlock] at e
  · simp only [Value.slice.injEq] at h1
    obtain ⟨rfl, _, _⟩ := h1
    simp [Value.ownBlock] at e
    subst e
    rw [hg] at hb
    simp at hb
    exact hne hb.2.1

def OutR (w4 : World) (nr : Nat) (zs : List Int) (i v : Value) (wr : World) : Prop :=
  ∃ (k : Nat) (a' : Option Addr) (m c' : Nat), k ≤ nr ∧ i = .int .i64 k ∧ v = .slice a' m c' ∧ Own w4.heap.size 3 wr a' m c' (ivs .i64 (preL zs k)) ∧ Below w4.heap.size w4 wr
def InR (w4 : World) (bx : Nat) (r : RunD) (pre : List Int) (zs : List Int) (i v : Value) (wr : World) : Prop :=
  ∃ (k : Nat) (a' : Option Addr) (m c' : Nat), k ≤ r.t - r.f ∧ i = .int .i64 k ∧ v = .slice a' m c' ∧ Own w4.heap.size 3 wr a' m c' (ivs .i64 (pre ++ readTo zs r k)) ∧ Below w4.heap.size w4 wr ∧ wr.heap[bx]? = some (.cells #[.int .i64 (r.f : Nat), .int .i64 (r.t : Nat), .int .i8 r.l] 68 (0, 0))
def OneR (w4 : World) (n : Nat) (c : Int) (i v : Value) (wr : World) : Prop :=
  ∃ (k : Nat) (a' : Option Addr) (c' : Nat), k ≤ n ∧ k ≤ 40 ∧ i = .int .i64 k ∧ v = .slice a' k c' ∧ Own w4.heap.size 33 wr a' k c' (ivs .i8 (List.replicate k c)) ∧ Below w4.heap.size w4 wr

set_option maxRecDepth 100000 in
set_option maxHeartbeats 4000000 in
theorem runs_walk (a : Option Addr) (n cap : Nat) (zs : List Int) (w : World) (hn : zs.length = n) (hm : n ≤ 9223372036854775807) (hc : Ints .i8 w a zs) :
    Calls Try.prog 11 #[.slice a n cap] w fun e w' => e = .returned (.bool true) ∧ Below w.heap.size w w' := by
  have HN := Lib.hid hn; clear hn
  by_cases hok : (okL zs && decide (n ≤ 65536)) = true
  · have HC := Lib.hid hok
    rw [Bool.and_eq_true, decide_eq_true_eq] at hok
    obtain ⟨hk, h65⟩ := hok
    have HK := Lib.hid hk; clear hk
    go_enter Try.func11, Try.ntmps11
    go_wp2_with fail
    refine (lmay_walk a n cap zs _ HN.out hm hc).mono ?_
    rintro e w' ⟨rfl, rfl⟩
    rw [HC.out]
    go_wp2_with fail
    refine (lives_walk _).mono ?_
    rintro e w1 ⟨rfl, hb1⟩
    have HC1 := Lib.hid (hc.below hb1 (Nat.le_refl _))
    have HB1 := Lib.hid hb1; clear hb1
    go_wp2_with fail
    refine (Order_walk a n cap zs _ HN.out (by omega) HK.out HC1.out).mono ?_
    rintro e w2 ⟨a2, n2, cap2, rfl, hown2, hb2⟩
    have hl2 := Lib.hid hown2.lenI
    have hn2 : n2 ≤ n := by have := hown2.lenI; have := ord_le zs; have := HN.out; omega
    have HO2 := Lib.hid hown2; clear hown2
    have HB2 := Lib.hid hb2; clear hb2
    have HC2 := Lib.hid (HC1.out.below HB2.out (Nat.le_refl _))
    go_wp2_with fail
    refine (Runs_walk a n cap zs _ HN.out (by omega) HK.out HC2.out).mono ?_
    rintro e w3 ⟨a3, n3, cap3, rfl, hown3, hb3⟩
    have hl3 := Lib.hid hown3.len
    have HR3 := Lib.hid hown3.runs
    clear hown3
    have HB3 := Lib.hid hb3; clear hb3
    have HC3 := Lib.hid (HC2.out.below HB3.out (Nat.le_refl _))
    have HI2 := Lib.hid (HO2.out.ints.below HB3.out (Nat.le_refl _))
    have hn3 : n3 ≤ n := by
      have h1 := hl3.out
      have h2 := (runsS_perm zs).length_eq
      have h3 := runsTo_length zs zs.length
      have := HN.out
      unfold runsL at h2
      omega
    go_wp2
    go_loopw [8, 7] (OutR w3 n3 zs) (fun i _ _ => n3 - (intOf i).toNat)
    case atStart => exact ⟨0, none, 0, 0, Nat.zero_le _, rfl, rfl, by rw [preL_zero]; exact Own.nil _ _ _, Below.refl _ _⟩
    case round =>
      obtain ⟨i, a', m, c', hi, rfl, rfl, hown, hbel⟩ := hrel
      have HO := Lib.hid hown; clear hown
      have HBl := Lib.hid hbel; clear hbel
      by_cases hin : i < n3
      · have hil : i < (runsS zs).length := by rw [hl3.out]; exact hin
        obtain ⟨b3, o3, ha⟩ := HR3.out.some (by omega)
        subst ha
        obtain ⟨c30, c31, c32⟩ := (HR3.out.below HBl.out (Nat.le_refl _)).get i hil
        have HROk := Lib.hid (runsS_ok zs _ (List.getElem_mem hil))
        have HPre := Lib.hid (preL_step zs i hil)
        have hpl : (preL zs i).length ≤ n := by have := preL_le zs HK.out i; have := HN.out; omega
        generalize (runsS zs)[i] = r at *
        clear hil
        have hlt := HROk.out.lt
        have hle : r.t ≤ n := by have := HROk.out.le; have := HN.out; omega
        have hrz : 0 ≤ r.l ∧ r.l ≤ 126 := by
          have h1 := HROk.out.first
          have h2 := okL_get zs HK.out r.f (by have := HN.out; omega)
          have h3 := HROk.out.pos
          rw [List.getD_eq_getElem?_getD, List.getElem?_eq_getElem (by have := HN.out; omega), Option.getD_some] at h1
          rw [h1] at h2
          omega
        obtain ⟨hrz0, hrz1⟩ := hrz
        obtain ⟨b, o, ha⟩ := HC3.out.some (by have := HN.out; omega)
        subst ha
        have HC5 := Lib.hid (HC3.out.below HBl.out (Nat.le_refl _))
        have e1 : zs[r.f]'(by have := HN.out; omega) = r.l := by
          have h1 := HROk.out.first
          rwa [List.getD_eq_getElem?_getD, List.getElem?_eq_getElem (by have := HN.out; omega), Option.getD_some] at h1
        have e2 : zs[r.t - 1]'(by have := HN.out; omega) = r.l := by
          have h1 := HROk.out.last
          rwa [List.getD_eq_getElem?_getD, List.getElem?_eq_getElem (by have := HN.out; omega), Option.getD_some] at h1
        have hal : Below wr.heap.size wr (wr.alloc (.cells #[.int .i64 (r.f : Nat), .int .i64 (r.t : Nat), .int .i8 r.l] 68)) := (Below.refl _ _).alloc (Nat.le_refl _) _
        have hbx : (wr.alloc (.cells #[.int .i64 (r.f : Nat), .int .i64 (r.t : Nat), .int .i8 r.l] 68)).heap[wr.heap.size]? = some (.cells #[.int .i64 (r.f : Nat), .int .i64 (r.t : Nat), .int .i8 r.l] 68 (0, 0)) := heap_alloc_new wr _
        have HAL := Lib.hid hal; clear hal
        have HBX := Lib.hid hbx; clear hbx
        have HO5 := Lib.hid (HO.out.below HAL.out (Nat.le_refl _))
        have HB5 := Lib.hid (HBl.out.trans (HAL.out.mono HBl.out.size))
        have HC6 := Lib.hid (HC5.out.below HAL.out (Nat.le_refl _))
        have hbl : wr.heap.size < (wr.alloc (.cells #[.int .i64 (r.f : Nat), .int .i64 (r.t : Nat), .int .i8 r.l] 68)).heap.size := by simp
        have HBL := Lib.hid hbl; clear hbl
        go_upto_region 12 with (fail)
        generalize hbxe : wr.heap.size = bx at *
        rw [← hbxe] at HAL
        generalize (wr.alloc (.cells #[.int .i64 (r.f : Nat), .int .i64 (r.t : Nat), .int .i8 r.l] 68)) = w5 at *
        have d0 : w5.cell? ⟨bx, 0, none⟩ = some (.int .i64 (r.f : Nat)) := by simp [World.cell?, HBX.out]
        have d1 : w5.cell? ⟨bx, 1, none⟩ = some (.int .i64 (r.t : Nat)) := by simp [World.cell?, HBX.out]
        have d2 : w5.cell? ⟨bx, 2, none⟩ = some (.int .i8 r.l) := by simp [World.cell?, HBX.out]
        have hfn : r.f < n := by omega
        have htn : r.t - 1 < n := by omega
        have q1 : (((r.t : Nat) : Int) - 1) = ((r.t - 1 : Nat) : Int) := by omega
        have cf := HC6.out.get r.f (by have := HN.out; omega)
        have ct := HC6.out.get (r.t - 1) (by have := HN.out; omega)
        rw [e1] at cf
        rw [e2] at ct
        clear e1 e2
        have k1 : decide (((r.f : Nat) : Int) < 0) = false := decide_eq_false (by omega)
        have k2 : decide ((n : Int) < ((r.t : Nat) : Int)) = false := decide_eq_false (by omega)
        have k3 : decide (((r.t : Nat) : Int) ≤ ((r.f : Nat) : Int)) = false := decide_eq_false (by omega)
        have k2' : decide (n < r.t) = false := decide_eq_false (by omega)
        have k3' : decide (r.t ≤ r.f) = false := decide_eq_false (by omega)
        have k4 : (r.l != r.l) = false := by simp
        have k5 : ((r.f : Nat) : Int) < (n : Int) := by omega
        have k6 : ((r.t - 1 : Nat) : Int) < (n : Int) := by omega
        have k7 : ((r.t : Nat) : Int) ≤ (n : Int) := by omega
        have k8 : (0 : Int) ≤ ((r.t : Nat) : Int) - 1 := by omega
        go_wp2
        go_quiet (fail)
        have HB6 := Lib.hid (below_drewN HB5.out nq)
        have HO6 := Lib.hid (HO5.out.below (below_drewN (Below.refl w5.heap.size w5) nq) (Nat.le_refl _))
        have HX6 : Hid ((w5.drewN nq).heap[bx]? = some (.cells #[.int .i64 (r.f : Nat), .int .i64 (r.t : Nat), .int .i8 r.l] 68 (0, 0))) := Lib.hid HBX.out
        generalize w5.drewN nq = w6 at *
        have hm6 := Lib.hid HO6.out.lenI
        clear k1 k2 k3 k2' k3' k4 k5 k6 k7 k8 d0 d1 d2 cf ct c30 c31 c32 q1 hfn htn
        clear hbxe
        go_wp2
        go_loopw [10, 7] (InR w3 bx r (preL zs i) zs) (fun k _ _ => r.t - r.f - (intOf k).toNat)
        case atStart => exact ⟨0, a', m, c', Nat.zero_le _, rfl, rfl, by rw [readTo_zero, List.append_nil]; exact HO6.out, HB6.out, HX6.out⟩
        case round =>
          obtain ⟨k, a6, m6, c6, hk, rfl, rfl, hown6, hbel6, hbx6⟩ := hrel
          have HOi := Lib.hid hown6; clear hown6
          have HBi := Lib.hid hbel6; clear hbel6
          have HXi := Lib.hid hbx6; clear hbx6
          have d0 : wr.cell? ⟨bx, 0, none⟩ = some (.int .i64 (r.f : Nat)) := by simp [World.cell?, HXi.out]
          have d1 : wr.cell? ⟨bx, 1, none⟩ = some (.int .i64 (r.t : Nat)) := by simp [World.cell?, HXi.out]
          have d2 : wr.cell? ⟨bx, 2, none⟩ = some (.int .i8 r.l) := by simp [World.cell?, HXi.out]
          have hbxl : bx < wr.heap.size := (Array.getElem?_eq_some_iff.1 HXi.out).1
          have hm7 : m6 ≤ 131072 := by
            have h1 := HOi.out.lenI
            rw [List.length_append] at h1
            have h2 := readTo_len zs r k hk
            omega
          by_cases hkl : k < r.t - r.f
          · have hkt : r.f + k < r.t := by omega
            obtain ⟨hs1, hs2⟩ := step_in hkt
            have hsz : stepAt r k < zs.length := by have := HN.out; omega
            have hsn : stepAt r k < n := by omega
            have cs := (HC3.out.below HBi.out (Nat.le_refl _)).get (stepAt r k) hsz
            have hgd : zs.getD (stepAt r k) 0 = zs[stepAt r k] := by simp [hsz]
            have hall := HROk.out.all (stepAt r k) hs1 hs2
            have HG := Lib.hid (readTo_gone (lv := zs) (r := r) (k := k) hkt)
            have HSh := Lib.hid (readTo_shown (lv := zs) (r := r) (k := k) hkt)
            by_cases ho : r.l % 2 = 1
            · have htm : r.l.tmod 2 = 1 := by rw [tmod_two' hrz0]; omega
              have hX : (((r.t : Nat) : Int) - 1 - (k : Int)) = ((stepAt r k : Nat) : Int) := by
                unfold stepAt
                rw [if_pos ho]
                omega
              have HX := Lib.hid hX
              generalize stepAt r k = s at *
              clear ho
              by_cases hg : zs[s] = -1
              · have HE : Hid (readTo zs r (k + 1) = readTo zs r k) := Lib.hid (HG.out (by rw [hgd]; exact hg))
                rw [hg] at cs
                clear hg hgd
                go_wp2
                go_roundw
                case rel => exact ⟨k + 1, _, _, _, by omega, by go_num, rfl, by rw [HE.out]; exact HOi.out, HBi.out, HXi.out⟩
                case measure => simp [intOf]; omega
              · have HE : Hid (ivs .i64 (preL zs i ++ readTo zs r (k + 1)) = ivs .i64 (preL zs i ++ readTo zs r k) ++ [.int .i64 (s : Nat)]) := Lib.hid (by
                  rw [HSh.out (by rw [hgd]; exact hg), ← List.append_assoc, ivs_append]
                  rfl)
                have hzl : zs[s] = r.l := by
                  rcases hall with h | h
                  · rw [hgd] at h; exact absurd h hg
                  · rw [hgd] at h; exact h
                rw [hzl] at cs
                have hll : (r.l != r.l) = false := by simp
                clear hg hgd hzl hall
                go_wp2
                go_quiet (fail)
                have HOd := Lib.hid (HOi.out.below (below_drewN (Below.refl wr.heap.size wr) nq) (Nat.le_refl _))
                have HBd := Lib.hid (below_drewN HBi.out nq)
                have HXd : Hid ((wr.drewN nq).heap[bx]? = some (.cells #[.int .i64 (r.f : Nat), .int .i64 (r.t : Nat), .int .i8 r.l] 68 (0, 0))) := Lib.hid HXi.out
                generalize wr.drewN nq = w7 at *
                go_wp2_with (at_builtin; refine wpList_app1 Try.elemInt rfl (.tmp 124) (.tmp 126) rfl HOd.out HBd.out.size (by omega) (by omega) _ rfl _ rfl rfl ?_)
                intro a9 c9 w9 ho9 hg9
                have HN9 : Hid (Own w3.heap.size 3 w9 a9 (m6 + 1) c9 (ivs .i64 (preL zs i ++ readTo zs r (k + 1)))) := Lib.hid (by
                  rw [HE.out]
                  exact ho9)
                have HB9 := Lib.hid (HBd.out.trans (HOd.out.app hg9 HBd.out.size))
                have HX9 : Hid (w9.heap[bx]? = some (.cells #[.int .i64 (r.f : Nat), .int .i64 (r.t : Nat), .int .i8 r.l] 68 (0, 0))) := Lib.hid (by
                  have hne := own_ne HOd.out HXd.out (by decide)
                  rw [hg9.block bx (Array.getElem?_eq_some_iff.1 HXd.out).1 (fun e => hne (by rw [e]))]
                  exact HXd.out)
                clear ho9 hg9
                go_wp2
                go_roundw
                case rel => exact ⟨k + 1, _, _, _, by omega, by go_num, rfl, HN9.out, HB9.out, HX9.out⟩
                case measure => simp [intOf]; omega
            · have htm : r.l.tmod 2 = 0 := by rw [tmod_two' hrz0]; omega
              have hX : (((r.f : Nat) : Int) + (k : Int)) = ((stepAt r k : Nat) : Int) := by
                unfold stepAt
                rw [if_neg ho]
                omega
              have HX := Lib.hid hX
              generalize stepAt r k = s at *
              clear ho
              by_cases hg : zs[s] = -1
              · have HE : Hid (readTo zs r (k + 1) = readTo zs r k) := Lib.hid (HG.out (by rw [hgd]; exact hg))
                rw [hg] at cs
                clear hg hgd
                go_wp2
                go_roundw
                case rel => exact ⟨k + 1, _, _, _, by omega, by go_num, rfl, by rw [HE.out]; exact HOi.out, HBi.out, HXi.out⟩
                case measure => simp [intOf]; omega
              · have HE : Hid (ivs .i64 (preL zs i ++ readTo zs r (k + 1)) = ivs .i64 (preL zs i ++ readTo zs r k) ++ [.int .i64 (s : Nat)]) := Lib.hid (by
                  rw [HSh.out (by rw [hgd]; exact hg), ← List.append_assoc, ivs_append]
                  rfl)
                have hzl : zs[s] = r.l := by
                  rcases hall with h | h
                  · rw [hgd] at h; exact absurd h hg
                  · rw [hgd] at h; exact h
                rw [hzl] at cs
                have hll : (r.l != r.l) = false := by simp
                clear hg hgd hzl hall
                go_wp2
                go_quiet (fail)
                have HOd := Lib.hid (HOi.out.below (below_drewN (Below.refl wr.heap.size wr) nq) (Nat.le_refl _))
                have HBd := Lib.hid (below_drewN HBi.out nq)
                have HXd : Hid ((wr.drewN nq).heap[bx]? = some (.cells #[.int .i64 (r.f : Nat), .int .i64 (r.t : Nat), .int .i8 r.l] 68 (0, 0))) := Lib.hid HXi.out
                generalize wr.drewN nq = w7 at *
                go_wp2_with (at_builtin; refine wpList_app1 Try.elemInt rfl (.tmp 124) (.tmp 126) rfl HOd.out HBd.out.size (by omega) (by omega) _ rfl _ rfl rfl ?_)
                intro a9 c9 w9 ho9 hg9
                have HN9 : Hid (Own w3.heap.size 3 w9 a9 (m6 + 1) c9 (ivs .i64 (preL zs i ++ readTo zs r (k + 1)))) := Lib.hid (by
                  rw [HE.out]
                  exact ho9)
                have HB9 := Lib.hid (HBd.out.trans (HOd.out.app hg9 HBd.out.size))
                have HX9 : Hid (w9.heap[bx]? = some (.cells #[.int .i64 (r.f : Nat), .int .i64 (r.t : Nat), .int .i8 r.l] 68 (0, 0))) := Lib.hid (by
                  have hne := own_ne HOd.out HXd.out (by decide)
                  rw [hg9.block bx (Array.getElem?_eq_some_iff.1 HXd.out).1 (fun e => hne (by rw [e]))]
                  exact HXd.out)
                clear ho9 hg9
                go_wp2
                go_roundw
                case rel => exact ⟨k + 1, _, _, _, by omega, by go_num, rfl, HN9.out, HB9.out, HX9.out⟩
                case measure => simp [intOf]; omega
          · obtain rfl : k = r.t - r.f := by omega
            have HE : Hid (preL zs (i + 1) = preL zs i ++ readTo zs r (r.t - r.f)) := Lib.hid (by rw [readTo_end hlt, HPre.out])
            go_wp2
            go_roundw
            case rel => exact ⟨i + 1, _, _, _, by omega, by go_num, rfl, by rw [HE.out]; exact HOi.out, HBi.out⟩
            case measure => simp [intOf]; omega
      · obtain rfl : n3 = i := by omega
        have hpe : preL zs n3 = ord zs := by
          have := preL_end zs HK.out
          rwa [hl3.out] at this
        rw [hpe] at HO
        clear hpe
        have hlm := Lib.hid HO.out.lenI
        obtain rfl : n2 = m := by rw [← hl2.out, hlm.out]
        go_wp2_with fail
        refine (sameInts_walk a' a2 n2 c' n2 cap2 (ord zs) (ord zs) _ hl2.out hl2.out (by omega) HO.out.ints (HI2.out.below HBl.out (Nat.le_refl _))).mono ?_
        rintro e w4 ⟨rfl, hb4⟩
        have hdd : decide (ord zs = ord zs) = true := by simp
        rw [hdd]
        clear hdd
        have HC4 := Lib.hid ((HC3.out.below HBl.out (Nat.le_refl _)).below hb4 (Nat.le_refl _))
        have HB4 := Lib.hid (below_seq HB1.out (below_seq HB2.out (below_seq HB3.out (below_seq HBl.out hb4))))
        clear hb4
        have hcc : 0 ≤ max 0 (zs.getD 0 0) ∧ max 0 (zs.getD 0 0) ≤ 126 := by
          by_cases h0 : 0 < zs.length
          · have := okL_get zs HK.out 0 h0
            rw [List.getD_eq_getElem?_getD, List.getElem?_eq_getElem h0, Option.getD_some]
            omega
          · have : zs = [] := List.length_eq_zero_iff.1 (by omega)
            subst this
            simp
        obtain ⟨c, hce⟩ : ∃ c, c = max 0 (zs.getD 0 0) := ⟨_, rfl⟩
        rw [← hce] at hcc
        obtain ⟨hc0, hc1⟩ := hcc
        have HCE := Lib.hid hce; clear hce
        go_wp2
        go_loopw [13, 12] (OneR w4 n c) (fun i _ _ => 40 - (intOf i).toNat)
        case atStart => exact ⟨0, none, 0, Nat.zero_le _, by omega, rfl, rfl, by simpa [ivs] using Own.nil _ _ _, Below.refl _ _⟩
        case round =>
          obtain ⟨k, a6, c6, hk, hk40, rfl, rfl, hown6, hbel6⟩ := hrel
          have HOi := Lib.hid hown6; clear hown6
          have HBi := Lib.hid hbel6; clear hbel6
          by_cases hkn : k < n ∧ k < 40
          · obtain ⟨hkn, hk4⟩ := hkn
            have h0l : 0 < zs.length := by have := HN.out; omega
            obtain ⟨b, o, ha⟩ := HC4.out.some h0l
            subst ha
            have cz := (HC4.out.below HBi.out (Nat.le_refl _)).get 0 h0l
            have hce2 : c = max (0 : Int) zs[0] := by
              rw [HCE.out, List.getD_eq_getElem?_getD, List.getElem?_eq_getElem h0l, Option.getD_some]
            have hn0 : 0 < n := by omega
            have HCE2 := Lib.hid hce2; clear hce2
            generalize zs[0] = z at *
            simp only [Nat.add_zero] at cz
            go_wp2_with (at_builtin; refine wpList_app1 Try.elemLevel rfl (.tmp 142) (.tmp 147) rfl HOi.out HBi.out.size (by omega) (by omega) _ rfl _ rfl rfl ?_)
            intro a9 c9 w9 ho9 hg9
            rw [← HCE2.out] at ho9
            have HN9 : Hid (Own w4.heap.size 33 w9 a9 (k + 1) c9 (ivs .i8 (List.replicate (k + 1) c))) := Lib.hid (by
              rw [List.replicate_succ', ivs_append]
              exact ho9)
            have HB9 := Lib.hid (HBi.out.trans (HOi.out.app hg9 HBi.out.size))
            clear ho9 hg9
            go_wp2
            go_roundw
            case rel => exact ⟨k + 1, _, _, by omega, by omega, by go_num, rfl, HN9.out, HB9.out⟩
            case measure => simp [intOf]; omega
          · clear hin hi HO HBl HI2 HC2 HC1 hc
            have hok1 : okL (List.replicate k c) = true := okL_mem2 _ (fun x hx => by have := List.eq_of_mem_replicate hx; omega)
            have HK1 := Lib.hid hok1; clear hok1
            by_cases hkn2 : k < n
            · have hk4 : ¬ k < 40 := fun h => hkn ⟨hkn2, h⟩
              clear hkn
              go_wp2_with fail
              refine (Order_walk a6 k c6 (List.replicate k c) _ (by simp) (by omega) HK1.out HOi.out.ints).mono ?_
              rintro e w5 ⟨a8, n8, cap8, rfl, hown8, hb8⟩
              obtain rfl : k = n8 := by have h1 := hown8.lenI; rw [ord_rep c hc0 hc1 k] at h1; split at h1 <;> simpa using h1
              have hkk : ((k : Int) != (k : Int)) = false := by simp
              have HO8 := Lib.hid hown8; clear hown8
              have HI8 := Lib.hid (HOi.out.ints.below hb8 (Nat.le_refl _))
              have HBz := Lib.hid (below_seq HB4.out (below_seq HBi.out hb8))
              have hl8 := Lib.hid HO8.out.lenI
              clear hb8
              go_wp2
              go_loop [16] (fun i => ∃ j : Nat, j ≤ k ∧ i = .int .i64 j) (fun i => k - (intOf i).toNat)
              case atStart => exact ⟨0, Nat.zero_le _, rfl⟩
              case round =>
                obtain ⟨j, hj, rfl⟩ := hrel
                by_cases hjk : j < k
                · have hjo : j < (ord (List.replicate k c)).length := by rw [hl8.out]; exact hjk
                  obtain ⟨g8, ha, _⟩ := HO8.out.at (by omega)
                  subst ha
                  have c8 := HO8.out.ints.get j hjo
                  rw [ord_rep_get c hc0 hc1 k j hjo hjk] at c8
                  simp only [Nat.zero_add] at c8
                  obtain ⟨g6, ha, _⟩ := HOi.out.at (by omega)
                  subst ha
                  have c6' := HI8.out.get 0 (by simp; omega)
                  simp only [Nat.zero_add, List.getElem_replicate] at c6'
                  have hk0 : 0 < k := by omega
                  by_cases ho : c % 2 = 1
                  · have htm : c.tmod 2 = 1 := by rw [tmod_two' hc0]; omega
                    rw [if_pos ho] at c8
                    have hne : (((k : Int) - 1 - (j : Int)) != ((k : Int) - 1 - (j : Int))) = false := by simp
                    clear ho
                    go_wp2
                    go_round
                    case rel => exact ⟨j + 1, by omega, by go_num⟩
                    case measure => simp [intOf]; omega
                  · have htm : c.tmod 2 = 0 := by rw [tmod_two' hc0]; omega
                    rw [if_neg ho] at c8
                    have hne : ((j : Int) != (j : Int)) = false := by simp
                    clear ho
                    go_wp2
                    go_round
                    case rel => exact ⟨j + 1, by omega, by go_num⟩
                    case measure => simp [intOf]; omega
                · go_wp2
                  go_ret
                  exact ⟨rfl, HBz.out⟩
            · clear hkn
              go_wp2_with fail
              refine (Order_walk a6 k c6 (List.replicate k c) _ (by simp) (by omega) HK1.out HOi.out.ints).mono ?_
              rintro e w5 ⟨a8, n8, cap8, rfl, hown8, hb8⟩
              obtain rfl : k = n8 := by have h1 := hown8.lenI; rw [ord_rep c hc0 hc1 k] at h1; split at h1 <;> simpa using h1
              have hkk : ((k : Int) != (k : Int)) = false := by simp
              have HO8 := Lib.hid hown8; clear hown8
              have HI8 := Lib.hid (HOi.out.ints.below hb8 (Nat.le_refl _))
              have HBz := Lib.hid (below_seq HB4.out (below_seq HBi.out hb8))
              have hl8 := Lib.hid HO8.out.lenI
              clear hb8
              go_wp2
              go_loop [16] (fun i => ∃ j : Nat, j ≤ k ∧ i = .int .i64 j) (fun i => k - (intOf i).toNat)
              case atStart => exact ⟨0, Nat.zero_le _, rfl⟩
              case round =>
                obtain ⟨j, hj, rfl⟩ := hrel
                by_cases hjk : j < k
                · have hjo : j < (ord (List.replicate k c)).length := by rw [hl8.out]; exact hjk
                  obtain ⟨g8, ha, _⟩ := HO8.out.at (by omega)
                  subst ha
                  have c8 := HO8.out.ints.get j hjo
                  rw [ord_rep_get c hc0 hc1 k j hjo hjk] at c8
                  simp only [Nat.zero_add] at c8
                  obtain ⟨g6, ha, _⟩ := HOi.out.at (by omega)
                  subst ha
                  have c6' := HI8.out.get 0 (by simp; omega)
                  simp only [Nat.zero_add, List.getElem_replicate] at c6'
                  have hk0 : 0 < k := by omega
                  by_cases ho : c % 2 = 1
                  · have htm : c.tmod 2 = 1 := by rw [tmod_two' hc0]; omega
                    rw [if_pos ho] at c8
                    have hne : (((k : Int) - 1 - (j : Int)) != ((k : Int) - 1 - (j : Int))) = false := by simp
                    clear ho
                    go_wp2
                    go_round
                    case rel => exact ⟨j + 1, by omega, by go_num⟩
                    case measure => simp [intOf]; omega
                  · have htm : c.tmod 2 = 0 := by rw [tmod_two' hc0]; omega
                    rw [if_neg ho] at c8
                    have hne : ((j : Int) != (j : Int)) = false := by simp
                    clear ho
                    go_wp2
                    go_round
                    case rel => exact ⟨j + 1, by omega, by go_num⟩
                    case measure => simp [intOf]; omega
                · go_wp2
                  go_ret
                  exact ⟨rfl, HBz.out⟩
  · have hf : (okL zs && decide (n ≤ 65536)) = false := by simpa using hok
    have HC := Lib.hid hf; clear hf hok
    go_enter Try.func11, Try.ntmps11
    go_wp2_with fail
    refine (lmay_walk a n cap zs _ HN.out hm hc).mono ?_
    rintro e w' ⟨rfl, rfl⟩
    rw [HC.out]
    go_wp2_with fail
    refine (lives_walk _).mono ?_
    rintro e w1 ⟨rfl, hb1⟩
    go_wp2
    go_ret
    exact ⟨rfl, hb1⟩
end Go.Proofs.Ytcgdhgdblieaiaa
