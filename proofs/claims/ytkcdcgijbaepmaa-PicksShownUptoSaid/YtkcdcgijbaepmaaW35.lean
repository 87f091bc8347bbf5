/-
  The walk of the document's Logical.
-/
import Derived.Test.YtkcdcgijbaepmaaW23
import Derived.Test.YtkcdcgijbaepmaaW16
import Derived.Test.YtkcdcgijbaepmaaW32
import Derived.StillTailTactics
set_option linter.unusedVariables false
set_option linter.unusedSimpArgs false
namespace Go.Proofs.Ytkcdcgijbaepmaa
open Go.RowKit

theorem Try.elemBool : Elem Try.prog 76 4 (.bool false) 1 := ⟨Try.underlying76, by kernel_rfl, by kernel_rfl⟩
def fvs (S : List PD) : List Value := ivs .i64 (S.map PD.f)
def bvs (S : List PD) : List Value := S.map (fun p => Value.bool (decide (p.t = 1)))
theorem fvs_length (S : List PD) : (fvs S).length = S.length := by simp [fvs, ivs]
theorem bvs_length (S : List PD) : (bvs S).length = S.length := by simp [bvs]
theorem fvs_get (S : List PD) (i : Nat) (h : i < (fvs S).length) : (fvs S)[i] = .int .i64 (S[i]'(by rwa [fvs_length] at h)).f := by simp [fvs, ivs]
theorem bvs_get (S : List PD) (i : Nat) (h : i < (bvs S).length) : (bvs S)[i] = .bool (decide ((S[i]'(by rwa [bvs_length] at h)).t = 1)) := by simp [bvs]
theorem fvs_set (S : List PD) (i : Nat) (x : PD) : (fvs S).set i (.int .i64 x.f) = fvs (S.set i x) := by simp [fvs, ivs, List.map_set]
theorem bvs_set (S : List PD) (i : Nat) (x : PD) : (bvs S).set i (.bool (decide (x.t = 1))) = bvs (S.set i x) := by simp [bvs, List.map_set]
theorem fvs_push (S : List PD) (x : PD) : fvs (S ++ [x]) = fvs S ++ [.int .i64 x.f] := by simp [fvs, ivs]
theorem bvs_push (S : List PD) (x : PD) : bvs (S ++ [x]) = bvs S ++ [.bool (decide (x.t = 1))] := by simp [bvs]
/-- two rows that lie in different blocks -/
def Ap (v u : Value) : Prop := ∀ g, v.ownBlock = some g → u.ownBlock ≠ some g
theorem Ap.symm {v u : Value} (h : Ap v u) : Ap u v := fun g h1 h2 => h g h2 h1
theorem Ap.or {v u : Value} (h : Ap v u) : v.ownBlock = none ∨ v.ownBlock ≠ u.ownBlock := by
  cases e : v.ownBlock with
  | none => exact .inl rfl
  | some g => exact .inr (fun e2 => h g e e2.symm)
theorem Ap.grow {v u v' : Value} {w : World} (h : Ap v u) (hn : newBlock w v v') (hu : ∀ g, u.ownBlock = some g → g < w.heap.size) : Ap v' u := fun g h1 h2 => by
  rcases hn with e | ⟨g', e, hle⟩
  · exact h g (by rw [← e]; exact h1) h2
  · rw [h1] at e
    obtain rfl : g = g' := by simpa using e
    have := hu g h2
    omega
structure Two (B : Nat) (w : World) (gA gI n cA cI : Nat) (L : List PD) : Prop where
  all : Own B 3 w (some ⟨gA, 0, none⟩) n cA (fvs L)
  is : Own B 4 w (some ⟨gI, 0, none⟩) n cI (bvs L)
  ne : gA ≠ gI
theorem Two.len {B : Nat} {w : World} {gA gI n cA cI : Nat} {L : List PD} (h : Two B w gA gI n cA cI L) : L.length = n := by have := h.all.len; rwa [fvs_length] at this
theorem Two.below {B B' : Nat} {w w' : World} {gA gI n cA cI : Nat} {L : List PD} (h : Two B w gA gI n cA cI L) (hb : Below B' w w') (hB : w.heap.size ≤ B') : Two B w' gA gI n cA cI L :=
  ⟨h.all.below hb hB, h.is.below hb hB, h.ne⟩
theorem Two.store {B : Nat} {w : World} {gA gI n cA cI : Nat} {L : List PD} (h : Two B w gA gI n cA cI L) (i : Nat) (x : PD) :
    Two B ((w.setCell ⟨gA, i, none⟩ (.int .i64 x.f)).setCell ⟨gI, i, none⟩ (.bool (decide (x.t = 1)))) gA gI n cA cI (L.set i x) := by
  refine ⟨?_, ?_, h.ne⟩
  · rw [← fvs_set]
    exact (h.all.store i _).grown (grown_store _ gI i _) (.inr (fun e => h.ne (by simpa [Value.ownBlock] using e)))
  · rw [← bvs_set]
    exact (h.is.grown (grown_store w gA i _) (.inr (fun e => h.ne (by simpa [Value.ownBlock] using e.symm)))).store i _
theorem Two.low {B : Nat} {w : World} {gA gI n cA cI : Nat} {L : List PD} (h : Two B w gA gI n cA cI L) (hn : 0 < n) : B ≤ gA ∧ B ≤ gI := by
  obtain ⟨g, e, h1, _⟩ := h.all.at hn
  obtain ⟨g2, e2, h2, _⟩ := h.is.at hn
  cases e
  cases e2
  exact ⟨h1, h2⟩
/-- what the two stores at i need -/
theorem Two.at {B : Nat} {w : World} {gA gI n cA cI : Nat} {L : List PD} (h : Two B w gA gI n cA cI L) (i : Nat) (hi : i < n) (u : Value) :
    ∃ v0 v1, w.cell? ⟨gA, i, none⟩ = some v0 ∧ w.frozen? ⟨gA, i, none⟩ = false ∧ (w.setCell ⟨gA, i, none⟩ u).cell? ⟨gI, i, none⟩ = some v1 ∧ (w.setCell ⟨gA, i, none⟩ u).frozen? ⟨gI, i, none⟩ = false := by
  have hl := h.len
  have h2 := h.is.grown (grown_store w gA i u) (.inr (fun e => h.ne (by simpa [Value.ownBlock] using e.symm)))
  exact ⟨_, _, h.all.cell i (by rw [fvs_length]; omega), h.all.unfrozen i, h2.cell i (by rw [bvs_length]; omega), h2.unfrozen i⟩
theorem Two.get {B : Nat} {w : World} {gA gI n cA cI : Nat} {L : List PD} (h : Two B w gA gI n cA cI L) (i : Nat) (hi : i < L.length) :
    w.cell? ⟨gA, i, none⟩ = some (.int .i64 L[i].f) ∧ w.cell? ⟨gI, i, none⟩ = some (.bool (decide (L[i].t = 1))) := by
  have h1 := h.all.cell i (by rwa [fvs_length])
  have h2 := h.is.cell i (by rwa [bvs_length])
  rw [fvs_get] at h1
  rw [bvs_get] at h2
  exact ⟨h1, h2⟩
theorem HoleAt.start2 (S : List PD) (x y : PD) : HoleAt S (S ++ [y]) x S.length :=
  ⟨Nat.le_refl _, by simp, by simp, by rw [List.drop_eq_nil_of_le (by simp), List.drop_length], fun p hp => by rw [List.drop_length] at hp; cases hp⟩
def InsL (w : World) (nO : Nat) (os : List Int) (ps : List PD) (vA vI i : Value) (wr : World) : Prop :=
  ∃ (k : Nat) (aA : Option Addr) (cA : Nat) (aI : Option Addr) (cI : Nat) (S : List PD), k ≤ nO ∧ i = .int .i64 k ∧ vA = .slice aA k cA ∧ vI = .slice aI k cI ∧ Own w.heap.size 3 wr aA k cA (fvs S) ∧ Own w.heap.size 4 wr aI k cI (bvs S) ∧
    Ap (.slice aA k cA) (.slice aI k cI) ∧ Rising S ∧ S.Perm (rowsL os ps k) ∧ Below w.heap.size w wr
def HolR (w : World) (gA gI m cA cI : Nat) (S : List PD) (x : PD) (i : Value) (wr : World) : Prop :=
  ∃ (k : Nat) (L : List PD), i = .int .i64 k ∧ HoleAt S L x k ∧ Two w.heap.size wr gA gI (m + 1) cA cI L ∧ Below w.heap.size w wr
theorem logT_flag (l : List PD) (k : Nat) (h : k < l.length) : (logT (l.take (k + 1))).2 = decide (l[k].t = 1) := by
  rw [logT_take l k h]
  unfold logStep
  by_cases ht : l[k].t = 1
  · rw [if_pos ht, decide_eq_true ht]
  · rw [if_neg ht, decide_eq_false ht]
def LogW (w3 : World) (n : Nat) (l : List PD) (v i : Value) (wr : World) : Prop :=
  ∃ (k : Nat) (a' : Option Addr) (m c' : Nat), k ≤ n ∧ i = .int .i64 k ∧ v = .slice a' m c' ∧ OwnP w3.heap.size wr a' m c' (logT (l.take k)).1 ∧ Below w3.heap.size w3 wr
theorem covD_covB (ps : List PD) (x : Int) : covD ps x = covB ps x := rfl

set_option maxRecDepth 100000 in
set_option maxHeartbeats 8000000 in
theorem rLogical_walk (aO : Option Addr) (nO cO : Nat) (os : List Int) (a : Option Addr) (n c : Nat) (ps : List PD) (w : World) (hnO : os.length = nO) (hltO : nO ≤ 65536) (hcO : Ints .i64 w aO os) (hn : ps.length = n) (hlt : n ≤ 65536) (hc : PiecesAt w a ps) :
    Calls Try.prog 19 #[.slice aO nO cO, .slice a n c] w fun e w' => ∃ a' m c', e = .returned (.tuple #[.slice a' m c', .int .i64 (logE os ps)]) ∧ OwnP w.heap.size w' a' m c' (logRL os ps) ∧ Below w.heap.size w w' := by
  have HNO := Lib.hid hnO; clear hnO
  have HN := Lib.hid hn; clear hn
  have HCO := Lib.hid hcO; clear hcO
  have HC := Lib.hid hc; clear hc
  go_enter Try.func19, Try.ntmps19
  go_wp2_with fail
  refine (ordered_walk aO nO cO os w HNO.out hltO HCO.out).mono ?_
  rintro e w1 ⟨rfl, hb⟩
  have HB1 := Lib.hid hb; clear hb
  by_cases h1 : orderB os = false
  · have HE := Lib.hid (show logE os ps = 261 from if_pos h1)
    have HL := Lib.hid (show logRL os ps = [] from if_pos h1)
    rw [h1]
    clear h1
    go_wp2
    go_ret2
    exact ⟨_, _, _, by rw [HE.out]; rfl, by rw [HL.out]; exact OwnP.nil _ _, HB1.out⟩
  · have h1t : orderB os = true := by simpa using h1
    have HOr := Lib.hid h1t
    rw [h1t]
    have H1 := Lib.hid h1; clear h1 h1t
    go_wp2_with fail
    refine (rwrong_walk a n c ps (nO : Nat) w1 HN.out (by omega) (HC.out.below HB1.out (Nat.le_refl _))).mono ?_
    rintro e w2 ⟨rfl, hb⟩
    rw [badB_nat, show Any_text nO ps = Any_log nO ps from rfl]
    have HB2 := Lib.hid (below_sq HB1.out hb); clear hb
    by_cases h2 : Any_log nO ps = true
    · have HE := Lib.hid (show logE os ps = 260 by unfold logE; rw [if_neg H1.out, HNO.out, if_pos h2])
      have HL := Lib.hid (show logRL os ps = [] by unfold logRL; rw [if_neg H1.out, HNO.out, if_pos h2])
      rw [h2]
      clear h2
      go_wp2
      go_ret2
      exact ⟨_, _, _, by rw [HE.out]; rfl, by rw [HL.out]; exact OwnP.nil _ _, HB2.out⟩
    · have HE := Lib.hid (show logE os ps = 0 by unfold logE; rw [if_neg H1.out, HNO.out, if_neg h2])
      have HL := Lib.hid (show logRL os ps = logL os ps by unfold logRL; rw [if_neg H1.out, HNO.out, if_neg h2])
      have h2f : Any_log nO ps = false := by simpa using h2
      rw [h2f]
      clear h2 h2f
      have HCO2 := Lib.hid (HCO.out.below HB2.out (Nat.le_refl _))
      have HC2 := Lib.hid (HC.out.below HB2.out (Nat.le_refl _))
      go_wp2
      go_loopw [6, 7, 8] (InsL w2 nO os ps) (fun _ _ i _ => nO - (intOf i).toNat)
      case atStart => exact ⟨0, none, 0, none, 0, [], Nat.zero_le _, rfl, rfl, rfl, Own.nil _ _ _, Own.nil _ _ _, (fun g h => by simp [Value.ownBlock] at h), List.Pairwise.nil, List.Perm.refl _, Below.refl _ _⟩
      case round =>
        obtain ⟨k, aA, cA, aI, cI, S, hk, rfl, rfl, rfl, hA, hI, hap, hrise, hperm, hbel⟩ := hrel
        have hSk : S.length = k := by have := hA.len; rwa [fvs_length] at this
        have HA := Lib.hid hA; clear hA
        have HI := Lib.hid hI; clear hI
        have HAp := Lib.hid hap; clear hap
        have HR := Lib.hid hrise; clear hrise
        have HPm := Lib.hid hperm; clear hperm
        have HB := Lib.hid hbel; clear hbel
        by_cases hkn : k < nO
        · have hk1 : k < os.length := by rw [HNO.out]; exact hkn
          obtain ⟨b, o, ha⟩ := HCO2.out.some (by omega)
          subst ha
          have HZ := Lib.hid (HCO2.out.get k hk1)
          have HRw := Lib.hid (show rowsL os ps (k + 1) = rowsL os ps k ++ [⟨os[k], if covB ps (k : Int) = true then 1 else 0⟩] by rw [rowsL_succ, covD_covB, show os.getD k 0 = os[k] by simp [hk1]])
          generalize os[k] = z at *
          obtain ⟨x, hx⟩ : ∃ x : PD, x = ⟨z, if covB ps (k : Int) = true then 1 else 0⟩ := ⟨_, rfl⟩
          rw [← hx] at HRw
          have HXf := Lib.hid (show x.f = z by rw [hx])
          have HXt := Lib.hid (show decide (x.t = 1) = covB ps (k : Int) by rw [hx]; cases covB ps (k : Int) <;> simp)
          clear hx
          have hki : (k : Int) < (nO : Int) := by omega
          go_wp2_with (at_builtin; refine wpList_app1x Try.elemInt rfl (.tmp 27) (.tmp 28) rfl HA.out HB.out.size (by omega) (by omega) (.int .i64 0) rfl _ rfl rfl ?_)
          intro a1 c1 w3 ho1 hg1 hn1
          have HA1 : Hid (Own w2.heap.size 3 w3 a1 (k + 1) c1 (fvs (S ++ [⟨0, 0⟩]))) := Lib.hid (by rw [fvs_push]; exact ho1)
          have HI1 := Lib.hid (HI.out.grown hg1 HAp.out.symm.or)
          have HAp1 := Lib.hid (HAp.out.grow hn1 HI.out.lt)
          have HB3 := Lib.hid (HB.out.trans (HA.out.app hg1 HB.out.size))
          clear ho1 hg1 hn1
          go_wp2_with (at_builtin; refine wpList_app1x Try.elemBool rfl (.tmp 30) (.tmp 31) rfl HI1.out HB3.out.size (by omega) (by omega) (.bool false) rfl _ rfl rfl ?_)
          intro a2 c2 w4 ho1 hg1 hn1
          have HI2 : Hid (Own w2.heap.size 4 w4 a2 (k + 1) c2 (bvs (S ++ [⟨0, 0⟩]))) := Lib.hid (by rw [bvs_push]; exact ho1)
          have HA2 := Lib.hid (HA1.out.grown hg1 HAp1.out.or)
          have HAp2 := Lib.hid (HAp1.out.symm.grow hn1 HA1.out.lt).symm
          have HB4 := Lib.hid (HB3.out.trans (HI1.out.app hg1 HB3.out.size))
          clear ho1 hg1 hn1
          obtain ⟨gA, rfl, hgA1, hgA2, -, -⟩ := HA2.out.at (by omega)
          obtain ⟨gI, rfl, hgI1, hgI2, -, -⟩ := HI2.out.at (by omega)
          have HT4 : Hid (Two w2.heap.size w4 gA gI (k + 1) c1 c2 (S ++ [⟨0, 0⟩])) := Lib.hid ⟨HA2.out, HI2.out, fun e => by subst e; exact HAp2.out gA rfl rfl⟩
          clear HA2 HI2 HAp2 HA1 HI1 HAp1
          have HSt := Lib.hid (HoleAt.start2 S x ⟨0, 0⟩)
          rw [hSk] at HSt
          go_wp2
          go_loopw [9] (HolR w2 gA gI k c1 c2 S x) (fun i _ => (intOf i).toNat)
          case atStart => exact ⟨k, _, rfl, HSt.out, HT4.out, HB4.out⟩
          case round =>
            obtain ⟨j, L, rfl, hhole, htwo, hbel⟩ := hrel
            have hjm : j ≤ k := by have := hhole.le; omega
            have HH := Lib.hid hhole; clear hhole
            have HT := Lib.hid htwo; clear htwo
            have HBj := Lib.hid hbel; clear hbel
            have cz := (HBj.out.cell (p := ⟨b, o + k, none⟩) (World.block_lt_of_cell? w2 ⟨b, o + k, none⟩ HZ.out)).trans HZ.out
            by_cases hj0 : j = 0
            · subst hj0
              have HD := Lib.hid (HH.out.done HR.out (.inl rfl))
              go_wp2
              go_quiet (fail)
              have HTd := Lib.hid (HT.out.below (below_drewN (Below.refl wr.heap.size wr) nq) (Nat.le_refl _))
              have HBd := Lib.hid (below_drewN HBj.out nq)
              replace cz : (wr.drewN nq).cell? _ = _ := cz
              generalize wr.drewN nq = w7 at *
              obtain ⟨v0, v1, t0, f0, t1, f1⟩ := HTd.out.at (0) (by omega) (.int .i64 z)
              have HTf : Hid (Two w2.heap.size ((w7.setCell ⟨gA, 0, none⟩ (.int .i64 z)).setCell ⟨gI, 0, none⟩ (.bool (covB ps (k : Int)))).drew gA gI (k + 1) c1 c2 (L.set (0) x)) := Lib.hid (by
                have h := HTd.out.store (0) x
                rw [HXf.out, HXt.out] at h
                exact h.below (below_drewN (Below.refl _ _) 1) (Nat.le_refl _))
              have HBf : Hid (Below w2.heap.size w2 ((w7.setCell ⟨gA, 0, none⟩ (.int .i64 z)).setCell ⟨gI, 0, none⟩ (.bool (covB ps (k : Int)))).drew) := Lib.hid (below_drewN ((HBd.out.setCell (p := ⟨gA, 0, none⟩) hgA1 (.int .i64 z)).setCell (p := ⟨gI, 0, none⟩) hgI1 (.bool (covB ps (k : Int)))) 1)
              have HCd := Lib.hid (HC2.out.below HBd.out (Nat.le_refl _))
              have HHas := Lib.hid (Has_walk a n c ps (k : Int) w7.drew HN.out (by omega) (HCd.out.below (below_drewN (Below.refl w7.heap.size w7) 1) (Nat.le_refl _)))
              have HPk := Lib.hid (show (L.set (0) x).Perm (rowsL os ps (k + 1)) from by rw [HRw.out]; exact HD.out.2.trans (HPm.out.append_right _))
              go_wp2
              go_region_law (go_simp; go_at_call 38; refine HHas.out.mono ?_; rintro e w' ⟨rfl, rfl⟩)
              all_goals
                go_wp2
                go_roundw
                case rel => exact ⟨k + 1, _, _, _, _, L.set (0) x, by omega, by go_num, rfl, rfl, HTf.out.all, HTf.out.is, (fun g h1 h2 => HTf.out.ne (by simp [Value.ownBlock] at h1 h2; omega)), HD.out.1, HPk.out, HBf.out⟩
                case measure => simp [intOf]; omega
            · obtain ⟨jj, rfl⟩ : ∃ jj, j = jj + 1 := ⟨j - 1, by omega⟩
              obtain ⟨hkS, hkL, hLS⟩ := HH.out.at
              have HStep := Lib.hid (fun (h : x.f < S[jj].f) => HH.out.step S[jj] hkS rfl h)
              have HDn := Lib.hid (fun (h : ¬ x.f < S[jj].f) => HH.out.done HR.out (.inr ⟨hkS, by show S[jj].f ≤ x.f; omega⟩))
              have HG2 := Lib.hid (fun (w' : World) (h : Two w2.heap.size w' gA gI (k + 1) c1 c2 L) => (show w'.cell? ⟨gA, jj, none⟩ = some (.int .i64 S[jj].f) ∧ w'.cell? ⟨gI, jj, none⟩ = some (.bool (decide (S[jj].t = 1))) by
                have := h.get jj hkL
                rwa [hLS] at this))
              obtain ⟨g0, g1⟩ := HG2.out wr HT.out
              clear hLS
              rw [HXf.out] at HStep HDn
              generalize S[jj] = y at *
              have hj1 : decide (0 < jj + 1) = true := by simp
              have hji : (jj : Int) < (k : Int) + 1 := by omega
              have hjn : (jj : Int) + 1 ≤ (nO : Int) := by omega
              have hjm1 : (jj : Int) + 1 < (k : Int) + 1 := by omega
              have hjn0 : (0 : Int) ≤ (jj : Int) + 1 := by omega
              by_cases hy : z < y.f
              · have HS2 := Lib.hid (HStep.out hy)
                have hd : decide (z < y.f) = true := decide_eq_true hy
                clear HStep HDn hkS hkL
                go_wp2
                go_quiet (fail)
                have HTd := Lib.hid (HT.out.below (below_drewN (Below.refl wr.heap.size wr) nq) (Nat.le_refl _))
                have HBd := Lib.hid (below_drewN HBj.out nq)
                clear g0 g1 cz
                generalize wr.drewN nq = w7 at *
                obtain ⟨g0, g1⟩ := HG2.out w7 HTd.out
                obtain ⟨v0, v1, t0, f0, t1, f1⟩ := HTd.out.at (jj + 1) (by omega) (.int .i64 y.f)
                have HT8 : Hid (Two w2.heap.size ((w7.setCell ⟨gA, jj + 1, none⟩ (.int .i64 y.f)).setCell ⟨gI, jj + 1, none⟩ (.bool (decide (y.t = 1)))).drew gA gI (k + 1) c1 c2 (L.set (jj + 1) y)) := Lib.hid ((HTd.out.store (jj + 1) y).below (below_drewN (Below.refl _ _) 1) (Nat.le_refl _))
                have HB8 : Hid (Below w2.heap.size w2 ((w7.setCell ⟨gA, jj + 1, none⟩ (.int .i64 y.f)).setCell ⟨gI, jj + 1, none⟩ (.bool (decide (y.t = 1)))).drew) := Lib.hid (below_drewN ((HBd.out.setCell (p := ⟨gA, jj + 1, none⟩) hgA1 (.int .i64 y.f)).setCell (p := ⟨gI, jj + 1, none⟩) hgI1 (.bool (decide (y.t = 1)))) 1)
                generalize decide (y.t = 1) = yb at *
                go_wp2
                go_region
                all_goals
                  go_wp2
                  go_roundw
                  case rel => exact ⟨jj, _, rfl, HS2.out, HT8.out, HB8.out⟩
                  case measure => simp [intOf]
              · have HD := Lib.hid (HDn.out hy)
                have hd : decide (z < y.f) = false := decide_eq_false hy
                clear HStep HDn hkS hkL
                go_wp2
                go_quiet (fail)
                have HTd := Lib.hid (HT.out.below (below_drewN (Below.refl wr.heap.size wr) nq) (Nat.le_refl _))
                have HBd := Lib.hid (below_drewN HBj.out nq)
                replace cz : (wr.drewN nq).cell? _ = _ := cz
                clear g0 g1
                generalize wr.drewN nq = w7 at *
                obtain ⟨v0, v1, t0, f0, t1, f1⟩ := HTd.out.at (jj + 1) (by omega) (.int .i64 z)
                have HTf : Hid (Two w2.heap.size ((w7.setCell ⟨gA, jj + 1, none⟩ (.int .i64 z)).setCell ⟨gI, jj + 1, none⟩ (.bool (covB ps (k : Int)))).drew gA gI (k + 1) c1 c2 (L.set (jj + 1) x)) := Lib.hid (by
                  have h := HTd.out.store (jj + 1) x
                  rw [HXf.out, HXt.out] at h
                  exact h.below (below_drewN (Below.refl _ _) 1) (Nat.le_refl _))
                have HBf : Hid (Below w2.heap.size w2 ((w7.setCell ⟨gA, jj + 1, none⟩ (.int .i64 z)).setCell ⟨gI, jj + 1, none⟩ (.bool (covB ps (k : Int)))).drew) := Lib.hid (below_drewN ((HBd.out.setCell (p := ⟨gA, jj + 1, none⟩) hgA1 (.int .i64 z)).setCell (p := ⟨gI, jj + 1, none⟩) hgI1 (.bool (covB ps (k : Int)))) 1)
                have HCd := Lib.hid (HC2.out.below HBd.out (Nat.le_refl _))
                have HHas := Lib.hid (Has_walk a n c ps (k : Int) w7.drew HN.out (by omega) (HCd.out.below (below_drewN (Below.refl w7.heap.size w7) 1) (Nat.le_refl _)))
                have HPk := Lib.hid (show (L.set (jj + 1) x).Perm (rowsL os ps (k + 1)) from by rw [HRw.out]; exact HD.out.2.trans (HPm.out.append_right _))
                go_wp2
                go_region_law (go_simp; go_at_call 38; refine HHas.out.mono ?_; rintro e w' ⟨rfl, rfl⟩)
                all_goals
                  go_wp2
                  go_roundw
                  case rel => exact ⟨k + 1, _, _, _, _, L.set (jj + 1) x, by omega, by go_num, rfl, rfl, HTf.out.all, HTf.out.is, (fun g h1 h2 => HTf.out.ne (by simp [Value.ownBlock] at h1 h2; omega)), HD.out.1, HPk.out, HBf.out⟩
                  case measure => simp [intOf]; omega
        · obtain rfl : nO = k := by omega
          obtain ⟨w3, rfl⟩ : ∃ w3 : World, w3 = wr := ⟨_, rfl⟩
          have HNd := Lib.hid (of_decide_eq_true HOr.out).2
          have hS : S = logP os ps := rows_only ps HNd.out S (by have := HPm.out; rwa [← HNO.out] at this) HR.out
          have HSt := Lib.hid (show S.Pairwise (fun a b => a.f < b.f) from by rw [hS]; exact logP_strict ps HNd.out)
          have HS9 := Lib.hid (show (logT S).1 = logRL os ps by rw [HL.out, hS]; rfl)
          have HIn := Lib.hid (show ∀ i (h : i < S.length), 0 ≤ S[i].f ∧ S[i].f ≤ 1048576 from fun i h => by
            have h1 : S[i] ∈ logP os ps := by rw [← hS]; exact List.getElem_mem h
            unfold logP at h1
            obtain ⟨x, hx, e⟩ := List.mem_map.1 h1
            rw [← e]
            obtain ⟨v, hv, hve⟩ := List.mem_iff_getElem.1 ((sortI_perm os).mem_iff.1 hx)
            have := ord_in HOr.out hv
            rw [hve] at this
            exact this)
          clear hS
          have HSl := Lib.hid hSk
          have hki0 : ¬ (nO : Int) < (nO : Int) := by omega
          go_wp2
          go_loopw [10, 11] (LogW w3 nO S) (fun _ i _ => nO - (intOf i).toNat)
          case atStart => exact ⟨0, none, 0, 0, Nat.zero_le _, rfl, rfl, OwnP.nil _ _, Below.refl _ _⟩
          case round =>
            obtain ⟨k, a', m, c', hk, rfl, rfl, hown, hbel⟩ := hrel
            have HO2 := Lib.hid hown; clear hown
            have HB2s := Lib.hid hbel; clear hbel
            by_cases hkn : k < nO
            · have hkS : k < S.length := by rw [HSl.out]; exact hkn
              have hA3 := HA.out.below HB2s.out (Nat.le_refl _)
              have hI3 := HI.out.below HB2s.out (Nat.le_refl _)
              obtain ⟨gA, eA, -, -, -, -⟩ := hA3.at (by omega)
              obtain ⟨gI, eI, -, -, -, -⟩ := hI3.at (by omega)
              subst eA
              subst eI
              have x0 := hA3.cell k (by rw [fvs_length]; exact hkS)
              have y0 := hI3.cell k (by rw [bvs_length]; exact hkS)
              rw [fvs_get] at x0
              rw [bvs_get] at y0
              have HYp := Lib.hid (fun (i : Nat) (hi : i < S.length) => (show wr.cell? ⟨gI, i, none⟩ = some (.bool (decide (S[i].t = 1))) by
                have h := hI3.cell i (by rw [bvs_length]; exact hi)
                rwa [bvs_get] at h))
              have hpz := HIn.out k hkS
              have HTk := Lib.hid (logT_take S k hkS)
              have HFl := Lib.hid (fun (kk : Nat) (hk : kk < S.length) => logT_flag S kk hk)
              have HInv := Lib.hid (logT_inv S HSt.out k (Nat.le_of_lt hkS))
              have hlen := HO2.out.len
              have hmk : m ≤ k := by have h1 := logT_length (S.take k); rw [List.length_take] at h1; omega
              have HLen := Lib.hid hlen; clear hlen hA3 hI3
              have HGo := Lib.hid HInv.out.go
              clear HInv
              have HF0 := Lib.hid (show k = 0 → (logT (S.take k)).2 = false from fun e => by subst e; rfl)
              have HF1 := Lib.hid (show ∀ kk, k = kk + 1 → wr.cell? ⟨gI, kk, none⟩ = some (.bool (logT (S.take k)).2) from fun kk e => by
                subst e
                rw [HFl.out kk (by omega)]
                exact HYp.out kk (by omega))
              clear HFl HYp
              generalize S[k] = p at *
              generalize logT (S.take k) = st at *
              obtain ⟨out, g⟩ := st
              simp only at HLen HGo HO2 HF0 HF1
              have hki : (k : Int) < (nO : Int) := by omega
              have hpw : IntKind.i64.wrap (p.f + 1) = p.f + 1 := IntWalk.i64_in _ (by omega)
              have hbnd1 : (m + 1) * 16 ≤ 140737488355328 := by omega
              have hbnd2 : m < 140737488355328 := by omega
              obtain ⟨hp0, hp1⟩ := hpz
              by_cases hpt : p.t = 1
              · rw [decide_eq_true hpt] at y0
                by_cases hk0 : k = 0
                · have hg := HF0.out hk0
                  subst hg
                  have HT1 := Lib.hid (show logT (S.take (k + 1)) = (out ++ [⟨p.f, p.f + 1⟩], true) by rw [HTk.out, logStep_new _ _ hpt])
                  have hk00 : ¬ (0 : Int) < (k : Int) := by omega
                  have hd0 : decide (0 < k) = false := by simp; omega
                  clear HF0 HF1 HGo HTk hk0
                  go_wp2
                  have HSz := Lib.hid HB2s.out.size
                  go_region_law (refine step_appN Try.elemPiece rfl (.tmp 109) (.tmp 120) rfl (World.ownsRow.drew (World.ownsRow.alloc HO2.out _)) (by have := HB2s.out.size; simp; omega) hbnd1 hbnd2 wr.heap.size [.int .i64 p.f, .int .i64 (p.f + 1)] rfl (fun j v hv => by rw [show (wr.alloc _).drew.cell? ⟨wr.heap.size, j, none⟩ = (wr.alloc _).cell? ⟨wr.heap.size, j, none⟩ from rfl, cell_of_row _ wr.heap.size j _ _ (0, 0) (heap_alloc_new wr _)]; simpa using hv) (by intro u hu; simp at hu; rcases hu with rfl | rfl <;> rfl) rfl rfl ?_; intro a9 c9 w9 ho9 hg9 hb9)
                  all_goals
                    have HN9 : Hid (OwnP w3.heap.size w9 a9 (m + 1) c9 (out ++ [⟨p.f, p.f + 1⟩])) := Lib.hid (by unfold OwnP; rw [flatP_push]; exact ho9)
                    have HB9 := Lib.hid ((below_drewN (HB2s.out.alloc HB2s.out.size _) 1).trans (Below.ofGrown hg9 (by have := HB2s.out.size; simp; omega) (fun k hk => (World.ownsRow.lt HO2.out k hk).1)))
                    clear ho9 hg9 hb9
                    go_wp2
                    go_roundw
                    case rel => exact ⟨k + 1, _, _, _, by omega, by go_num, rfl, by rw [HT1.out]; exact HN9.out, HB9.out⟩
                    case measure => simp [intOf]; omega
                · obtain ⟨kk, rfl⟩ : ∃ kk, k = kk + 1 := ⟨k - 1, by omega⟩
                  have z0 := HF1.out kk rfl
                  have hk00 : (0 : Int) < (kk : Int) + 1 := by omega
                  have hk01 : (0 : Int) ≤ (kk : Int) + 1 := by omega
                  have hki2 : (kk : Int) < (nO : Int) := by omega
                  have hkw : IntKind.i64.wrap (kk : Int) = (kk : Int) := IntWalk.i64_in _ (by omega)
                  have hd1 : decide (0 < kk + 1) = true := by simp
                  clear HF0 HF1
                  cases g with
                  | false =>
                    have HT1 := Lib.hid (show logT (S.take (kk + 1 + 1)) = (out ++ [⟨p.f, p.f + 1⟩], true) by rw [HTk.out, logStep_new _ _ hpt])
                    clear HGo HTk
                    go_wp2
                    have HSz := Lib.hid HB2s.out.size
                    go_region_law (refine step_appN Try.elemPiece rfl (.tmp 109) (.tmp 120) rfl (World.ownsRow.drew (World.ownsRow.alloc HO2.out _)) (by have := HB2s.out.size; simp; omega) hbnd1 hbnd2 wr.heap.size [.int .i64 p.f, .int .i64 (p.f + 1)] rfl (fun j v hv => by rw [show (wr.alloc _).drew.cell? ⟨wr.heap.size, j, none⟩ = (wr.alloc _).cell? ⟨wr.heap.size, j, none⟩ from rfl, cell_of_row _ wr.heap.size j _ _ (0, 0) (heap_alloc_new wr _)]; simpa using hv) (by intro u hu; simp at hu; rcases hu with rfl | rfl <;> rfl) rfl rfl ?_; intro a9 c9 w9 ho9 hg9 hb9)
                    all_goals
                      have HN9 : Hid (OwnP w3.heap.size w9 a9 (m + 1) c9 (out ++ [⟨p.f, p.f + 1⟩])) := Lib.hid (by unfold OwnP; rw [flatP_push]; exact ho9)
                      have HB9 := Lib.hid ((below_drewN (HB2s.out.alloc HB2s.out.size _) 1).trans (Below.ofGrown hg9 (by have := HB2s.out.size; simp; omega) (fun k hk => (World.ownsRow.lt HO2.out k hk).1)))
                      clear ho9 hg9 hb9
                      go_wp2
                      go_roundw
                      case rel => exact ⟨kk + 1 + 1, _, _, _, by omega, by go_num, rfl, by rw [HT1.out]; exact HN9.out, HB9.out⟩
                      case measure => simp [intOf]; omega
                  | true =>
                    obtain ⟨init, q, e, -⟩ := HGo.out rfl
                    subst e
                    have HT1 := Lib.hid (show logT (S.take (kk + 1 + 1)) = (init ++ [⟨q.f, p.f + 1⟩], true) by rw [HTk.out, logStep_in _ _ _ hpt])
                    obtain ⟨mm, rfl⟩ : ∃ mm, m = mm + 1 := ⟨m - 1, by have := HLen.out; simp at this; omega⟩
                    have hmi : init.length = mm := by simpa using HLen.out
                    obtain ⟨g, ha, hg1, hg2, hg3, hg4⟩ := HO2.out.at (by omega)
                    subst ha
                    have hget := HO2.out.pieces.get mm (by simp; omega)
                    rw [show (init ++ [q])[mm]'(by simp; omega) = q by rw [List.getElem_append_right (by omega)]; simp [hmi]] at hget
                    obtain ⟨g0, g1⟩ := hget
                    simp only [Nat.zero_add] at g0 g1
                    have hmm1 : (mm : Int) < (mm : Int) + 1 := by omega
                    have fz : wr.frozen? ⟨g, mm * 2 + 1, none⟩ = false := World.ownsRow.frozenAt HO2.out _
                    have HOs : Hid (OwnP w3.heap.size (wr.setCell ⟨g, mm * 2 + 1, none⟩ (.int .i64 (p.f + 1))) (some ⟨g, 0, none⟩) (mm + 1) c' (init ++ [⟨q.f, p.f + 1⟩])) := by
                      refine Lib.hid ?_
                      have h1 := (World.ownsRow.stored HO2.out (mm * 2 + 1) (.int .i64 (p.f + 1))).1
                      rw [← hmi, flatP_set init q (p.f + 1)] at h1
                      rw [← hmi]
                      exact h1
                    have HBs : Hid (Below w3.heap.size w3 (wr.setCell ⟨g, mm * 2 + 1, none⟩ (.int .i64 (p.f + 1)))) := Lib.hid (HB2s.out.setCell hg1 _)
                    have hwm : IntKind.i64.wrap (mm : Int) = (mm : Int) := IntWalk.i64_in _ (by omega)
                    clear hmi HTk HGo
                    go_wp2
                    go_roundw
                    case rel => exact ⟨kk + 1 + 1, _, _, _, by omega, by go_num, rfl, by rw [HT1.out]; exact HOs.out, HBs.out⟩
                    case measure => simp [intOf]; omega
              · rw [decide_eq_false hpt] at y0
                have HT1 := Lib.hid (show logT (S.take (k + 1)) = (out, false) by rw [HTk.out, logStep_no _ _ hpt])
                clear HTk HF0 HF1 HGo
                go_wp2
                go_roundw
                case rel => exact ⟨k + 1, _, _, _, by omega, by go_num, rfl, by rw [HT1.out]; exact HO2.out, HB2s.out⟩
                case measure => simp [intOf]; omega
            · obtain rfl : nO = k := by omega
              have HRes : Hid (OwnP w.heap.size wr a' m c' (logRL os ps)) := Lib.hid (by
                have h := HO2.out
                rw [List.take_of_length_le (by rw [HSl.out]; exact Nat.le_refl _), HS9.out] at h
                exact h.mono (by have h1 := HB2.out.size; have h2 := HB.out.size; omega))
              have HEnd := Lib.hid (below_sq HB2.out (HB.out.trans (HB2s.out.mono HB.out.size)))
              go_wp2
              go_ret2
              exact ⟨_, _, _, by rw [HE.out]; rfl, HRes.out, HEnd.out⟩
end Go.Proofs.Ytkcdcgijbaepmaa
