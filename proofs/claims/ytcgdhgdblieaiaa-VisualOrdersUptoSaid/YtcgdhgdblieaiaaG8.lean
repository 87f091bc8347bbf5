/-
  The walk of the document's own runs.
-/
import Derived.Test.YtcgdhgdblieaiaaG4
import Derived.Test.YtcgdhgdblieaiaaG7
import Derived.Test.YtcgdhgdblieaiaaV2
import Derived.Deep.RegionLaw
set_option linter.unusedVariables false
namespace Go.Proofs.Ytcgdhgdblieaiaa
open Go.RowKit

/-- one element of several cells appended, in a region that draws its order -/
theorem step_appR {P : Program} {t e : TypeId} {z : Value} {size bytes : Nat} (el : ElemN P t e z size bytes) {w : World} {ops : Array Oper} {o : Oper} {act : Act} {K : Act → World → Prop} {Q : Exit → Act → World → Prop} {E : Prop} (hgd : o.guard = none) (s x : Operand)
    (ho : o.op = .call { callee := .builtin .append, args := #[s, x], argTypes := #[t, t] }) {B : Nat} {a : Option Addr} {n cap : Nat} {xs : List Value} (hown : w.ownsRow B e size (.slice a n cap) n xs) (hB : B ≤ w.heap.size) (hn : (n + 1) * bytes ≤ 140737488355328) (hm : n < 140737488355328) (b : Nat) (cs : List Value) (hcs : cs.length = size)
    (hcell : ∀ j v, cs[j]? = some v → w.cell? ⟨b, j, none⟩ = some v) (hu : ∀ u ∈ cs, u.oneCell' = true)
    (hs : act.eval s = .slice a n cap) (hx : act.eval x = .slice (some ⟨b, 0, none⟩) 1 1)
    (h : ∀ a' cap' w', w'.ownsRow B e size (.slice a' (n + 1) cap') (n + 1) (xs ++ cs) → w.grownBy w' (Value.slice a n cap).ownBlock → newBlock w (.slice a n cap) (.slice a' (n + 1) cap') → K (act.put o.dst (.slice a' (n + 1) cap')) w') :
    if Region.wanted o (yielded ops act.tmps) = true then Oper.wp P o act w K Q else E := by
  rw [if_pos (by simp [Region.wanted, hgd])]
  obtain ⟨i, hi, hz, h1, hb⟩ := info_parts el.inf
  have hcell' : ∀ j v, cs[j]? = some v → w.cell? ((⟨b, 0, none⟩ : Addr).add j) = some v := by
    intro j v hv
    rw [Addr.add_lit, Nat.zero_add]
    exact hcell j v hv
  obtain ⟨v', w', hr, h2, h3, h4⟩ := run_app (P := P) w B t o.type e i z size bytes el.und hi hz h1 hb el.sz el.pos _ n xs hown ⟨b, 0, none⟩ 1 1 cs (by simp [hcs]) hcell' hu (by simp only [maxLen]; omega) hn hB
  unfold Oper.wp execOp
  simp only [ho, resolve, invoke, builtin, Sem.run_bind, Sem.run_pure, Result.andThen_ok, List.map_toArray, List.map_cons, List.map_nil, hs, hx, hr]
  have hv' : ∃ a' cap', v' = .slice a' (n + 1) cap' := by
    rcases h2.2 with ⟨rfl, h0⟩ | ⟨g, cap', cur, rfl, _⟩
    · omega
    · exact ⟨_, _, rfl⟩
  obtain ⟨a', cap', rfl⟩ := hv'
  exact h a' cap' w' h2 h3 h4


theorem flatR_set3 (rs : List RunD) (i : Nat) (hi : i < rs.length) (r : RunD) : (((flatR rs).set (i * 3) (.int .i64 (r.f : Nat))).set (i * 3 + 1) (.int .i64 (r.t : Nat))).set (i * 3 + 2) (.int .i8 r.l) = flatR (rs.set i r) := by
  induction rs generalizing i with
  | nil => simp at hi
  | cons x t ih =>
    have e : ∀ (x : RunD) (t : List RunD), flatR (x :: t) = .int .i64 (x.f : Nat) :: .int .i64 (x.t : Nat) :: .int .i8 x.l :: flatR t := fun x t => by simp [flatR, cellsR]
    cases i with
    | zero => simp [e]
    | succ i =>
      have hi' : i < t.length := by simpa using hi
      rw [e, List.set_cons_succ, e, ← ih i hi', show (i + 1) * 3 = i * 3 + 1 + 1 + 1 by omega]
      simp only [List.set_cons_succ]
theorem OwnR.store {B : Nat} {w : World} {g n c : Nat} {rs : List RunD} (h : OwnR B w (some ⟨g, 0, none⟩) n c rs) (i : Nat) (hi : i < rs.length) (r : RunD) : OwnR B (w.setCells g (i * 3) (cellsR r)) (some ⟨g, 0, none⟩) n c (rs.set i r) := by
  unfold OwnR
  rw [← flatR_set3 rs i hi r]
  have h1 := (World.ownsRow.stored h (i * 3) (.int .i64 (r.f : Nat))).1
  have h2 := (World.ownsRow.stored h1 (i * 3 + 1) (.int .i64 (r.t : Nat))).1
  exact (World.ownsRow.stored h2 (i * 3 + 2) (.int .i8 r.l)).1
theorem OwnR.there {B : Nat} {w : World} {g n c : Nat} {rs : List RunD} (h : OwnR B w (some ⟨g, 0, none⟩) n c rs) (i : Nat) (hi : i < n) : w.there g (i * 3) 3 := Any.there ⟨_, h⟩ i hi
/-- three cells, as a store meets them -/
theorem there_three {w : World} {g o : Nat} (h : w.there g o 3) (x y : Value) : ∃ u0 u1 u2, w.cell? ⟨g, o, none⟩ = some u0 ∧ w.frozen? ⟨g, o, none⟩ = false ∧ (w.setCell ⟨g, o, none⟩ x).cell? ⟨g, o + 1, none⟩ = some u1 ∧ (w.setCell ⟨g, o, none⟩ x).frozen? ⟨g, o + 1, none⟩ = false ∧
    ((w.setCell ⟨g, o, none⟩ x).setCell ⟨g, o + 1, none⟩ y).cell? ⟨g, o + 2, none⟩ = some u2 ∧ ((w.setCell ⟨g, o, none⟩ x).setCell ⟨g, o + 1, none⟩ y).frozen? ⟨g, o + 2, none⟩ = false := by
  obtain ⟨h0, f0⟩ := h 0 (by omega)
  obtain ⟨h1, f1⟩ := h 1 (by omega)
  obtain ⟨h2, f2⟩ := h 2 (by omega)
  obtain ⟨u0, e0⟩ := Option.isSome_iff_exists.1 h0
  obtain ⟨u1, e1⟩ := Option.isSome_iff_exists.1 h1
  obtain ⟨u2, e2⟩ := Option.isSome_iff_exists.1 h2
  refine ⟨u0, u1, u2, e0, f0, ?_, ?_, ?_, ?_⟩
  · rw [World.cell?_setCell_other _ _ _ _ (by simp)]; exact e1
  · have := World.frozen?_setCells g [x] o w ⟨g, o + 1, none⟩
    rw [World.setCells, World.setCells] at this
    rw [this]; exact f1
  · rw [World.cell?_setCell_other _ _ _ _ (by simp), World.cell?_setCell_other _ _ _ _ (by simp)]; exact e2
  · have := World.frozen?_setCells g [x, y] o w ⟨g, o + 2, none⟩
    rw [World.setCells, World.setCells, World.setCells] at this
    rw [this]; exact f2

def RrA (w1 : World) (ns : Nat) (zs : List Int) (v i : Value) (wr : World) : Prop :=
  ∃ (k : Nat) (a' : Option Addr) (m c' : Nat), k ≤ ns ∧ i = .int .i64 k ∧ v = .slice a' m c' ∧ OwnR w1.heap.size wr a' m c' (runsSh zs k) ∧ Below w1.heap.size w1 wr
def RrB (w3 : World) (B B2 m : Nat) (a' : Option Addr) (c' : Nat) (aP : Option Addr) (n cP : Nat) (zs : List Int) (i : Value) (wr : World) : Prop :=
  ∃ (k : Nat) (L : List RunD), 1 ≤ k ∧ i = .int .i64 k ∧ L.Perm (runsL zs) ∧ SortTo zs L (min k m) ∧ OwnR B wr a' m c' L ∧ Own B2 3 wr aP n cP (ivs .i64 (placesL zs)) ∧ Below B w3 wr
def RrC (w3 : World) (B B2 m k : Nat) (a' : Option Addr) (c' : Nat) (aP : Option Addr) (n cP : Nat) (zs : List Int) (i : Value) (wr : World) : Prop :=
  ∃ (j : Nat) (L : List RunD), j ≤ k ∧ i = .int .i64 j ∧ L.Perm (runsL zs) ∧ InsTo zs L k j ∧ OwnR B wr a' m c' L ∧ Own B2 3 wr aP n cP (ivs .i64 (placesL zs)) ∧ Below B w3 wr

set_option maxRecDepth 100000 in
set_option maxHeartbeats 4000000 in
/-- 'furrowref22.Runs' -/
theorem rRuns_walk (a : Option Addr) (n cap : Nat) (zs : List Int) (w : World) (hn : zs.length = n) (hlt : n ≤ 1048576) (hok : okL zs = true) (hc : Ints .i8 w a zs) :
    Calls Try.prog 39 #[.slice a n cap] w fun e w' => ∃ a' m c', e = .returned (.slice a' m c') ∧ OwnR w.heap.size w' a' m c' (runsS zs) ∧ Below w.heap.size w w' := by
  have HN := Lib.hid hn; clear hn
  have HK := Lib.hid hok; clear hok
  go_enter Try.func39, Try.ntmps39
  go_wp2_with fail
  refine (Shown22_walk a n cap zs _ HN.out hlt HK.out hc).mono ?_
  rintro e w1 ⟨aS, ns, cS, rfl, hoS, hb1⟩
  have hlS := Lib.hid hoS.lenI
  have hnsn : ns ≤ n := by
    have h1 := hoS.lenI
    have h2 := ord_le zs
    have h3 := ord_length zs
    have := HN.out
    omega
  have HS := Lib.hid hoS.ints
  have HSo := Lib.hid hoS; clear hoS
  have HB1 := Lib.hid hb1; clear hb1
  have HC1 := Lib.hid (hc.below HB1.out (Nat.le_refl _))
  clear hc
  go_wp2
  go_loopw [4, 5] (RrA w1 ns zs) (fun _ i _ => ns - (intOf i).toNat)
  case atStart => exact ⟨0, none, 0, 0, Nat.zero_le _, rfl, rfl, OwnR.nil _ _, Below.refl _ _⟩
  case round =>
    obtain ⟨k, a', m, c', hk, rfl, rfl, hown, hbel⟩ := hrel
    have hm := hown.len
    have hml := runsSh_length zs k
    have HO := Lib.hid hown; clear hown
    have HBl := Lib.hid hbel; clear hbel
    by_cases hkn : k < ns
    · have hks : k < (shownIdx zs).length := by rw [hlS.out]; exact hkn
      obtain ⟨x, hxe, hxl⟩ := shownIdx_nonneg zs (shownIdx zs) (List.Perm.refl _) k hks
      obtain ⟨gS, ha, _⟩ := HSo.out.at (by omega)
      subst ha
      have cx := (HS.out.below HBl.out (Nat.le_refl _)).get k hks
      rw [hxe] at cx
      simp only [Nat.zero_add] at cx
      have hxn : x < n := by have := HN.out; omega
      obtain ⟨b, o, ha⟩ := HC1.out.some (by omega)
      subst ha
      have cl := (HC1.out.below HBl.out (Nat.le_refl _)).get x hxl
      have HP : Hid (runsSh zs (k + 1) = runPush (runsSh zs k) x zs[x]) := Lib.hid (by
        rw [runsSh_step zs k hks, hxe, Int.toNat_natCast]
        simp [hxl])
      have hki : (k : Int) < (ns : Int) := by omega
      have hxi : (x : Int) < (n : Int) := by omega
      by_cases hk0 : k = 0
      · subst hk0
        obtain rfl : m = 0 := by rw [runsSh_zero] at hm; simpa using hm.symm
        have HE : Hid (flatR (runsSh zs (0 + 1)) = flatR (runsSh zs 0) ++ [.int .i64 (x : Nat), .int .i64 ((x : Int) + 1), .int .i8 zs[x]]) := Lib.hid (by rw [HP.out]; rfl)
        clear HP hm hml hxe
        generalize zs[x] = q at *
        go_wp2
        go_quiet (fail)
        have HOd := Lib.hid (HO.out.below (below_drewN (Below.refl wr.heap.size wr) nq) (Nat.le_refl _))
        have HBd := Lib.hid (below_drewN HBl.out nq)
        have hwr : IntKind.i64.wrap ((x : Int) + 1) = (x : Int) + 1 := IntWalk.i64_in _ (by omega)
        have HSz : Hid (w1.heap.size ≤ (wr.drewN nq).heap.size) := Lib.hid HBd.out.size
        replace cx : (wr.drewN nq).cell? _ = _ := cx
        replace cl : (wr.drewN nq).cell? _ = _ := cl
        generalize wr.drewN nq = w7 at *
        go_wp2
        go_region_law (refine step_appR Try.elemRun rfl (.tmp 71) (.tmp 89) rfl (World.ownsRow.drew (World.ownsRow.alloc HOd.out _)) (by have := HSz.out; simp; omega) (by omega) (by omega) w7.heap.size [.int .i64 (x : Nat), .int .i64 ((x : Int) + 1), .int .i8 q] rfl (fun j v hv => by rw [show (w7.alloc _).drew.cell? ⟨w7.heap.size, j, none⟩ = (w7.alloc _).cell? ⟨w7.heap.size, j, none⟩ from rfl, cell_of_row _ w7.heap.size j _ _ (0, 0) (heap_alloc_new w7 _)]; simpa [hwr] using hv) (by intro u hu; simp at hu; rcases hu with rfl | rfl | rfl <;> rfl) rfl rfl ?_; intro a9 c9 w9 ho9 hg9 hb9)
        all_goals
          have HO9 : Hid (OwnR w1.heap.size w9 a9 (0 + 1) c9 (runsSh zs (0 + 1))) := Lib.hid (by unfold OwnR; rw [HE.out]; exact ho9)
          have HB9 := Lib.hid ((below_drewN (HBd.out.alloc HSz.out _) 1).trans (Below.ofGrown hg9 (by have := HSz.out; simp; omega) HOd.out.blk))
          clear ho9 hg9 hb9
          go_wp2
          go_roundw
          case rel => exact ⟨0 + 1, _, _, _, by omega, by go_num, rfl, HO9.out, HB9.out⟩
          case measure => simp [intOf]; omega
      · obtain ⟨kk, rfl⟩ : ∃ kk, k = kk + 1 := ⟨k - 1, by omega⟩
        have hkks : kk < (shownIdx zs).length := by omega
        obtain ⟨init, r, hir, hrl⟩ := runsSh_last zs kk hkks
        obtain ⟨y, hye, hyl⟩ := shownIdx_nonneg zs (shownIdx zs) (List.Perm.refl _) kk hkks
        rw [hye, Int.toNat_natCast, List.getD_eq_getElem?_getD, List.getElem?_eq_getElem hyl, Option.getD_some] at hrl
        have cy := (HS.out.below HBl.out (Nat.le_refl _)).get kk hkks
        rw [hye] at cy
        simp only [Nat.zero_add] at cy
        have cly := (HC1.out.below HBl.out (Nat.le_refl _)).get y hyl
        rw [← hrl] at cly
        have hyn : y < n := by have := HN.out; omega
        have hyi : (y : Int) < (n : Int) := by omega
        have hkki : (kk : Int) < (ns : Int) := by omega
        rw [hir] at HO HP hm hml
        obtain ⟨mm, rfl⟩ : ∃ mm, m = mm + 1 := ⟨init.length, by simpa using hm.symm⟩
        have hmi : init.length = mm := by simpa using hm
        obtain ⟨g, ha, hg1, hg2, hg3, hg4⟩ := HO.out.at (by omega)
        subst ha
        have hget := HO.out.runs.get mm (by simp; omega)
        rw [show (init ++ [r])[mm]'(by simp; omega) = r by rw [List.getElem_append_right (by omega)]; simp [hmi]] at hget
        obtain ⟨g0, g1, g2⟩ := hget
        simp only [Nat.zero_add] at g0 g1 g2
        have hmk : mm + 1 ≤ kk + 1 := by simpa [hmi] using hml
        have hmm1 : (mm : Int) < (mm : Int) + 1 := by omega
        have hmm2 : (mm : Int) + 1 ≤ (n : Int) := by omega
        have hkk2 : (kk : Int) + 1 ≤ (n : Int) := by omega
        have hj1 : decide (0 < mm + 1) = true := by simp
        have hj2 : decide (0 < kk + 1) = true := by simp
        clear hxe hye hrl hk0 hml
        by_cases hq : r.l = zs[x]
        · rw [← hq] at HP cl
          have HN3 : Hid (OwnR w1.heap.size (wr.setCell ⟨g, mm * 3 + 1, none⟩ (.int .i64 ((x : Int) + 1))) (some ⟨g, 0, none⟩) (mm + 1) c' (runsSh zs (kk + 1 + 1))) := by
            refine Lib.hid ?_
            rw [HP.out, runPush_same]
            have h1 := (World.ownsRow.stored HO.out (mm * 3 + 1) (.int .i64 ((x : Int) + 1))).1
            rw [← hmi, flatR_set init r (x + 1) _ (by push_cast; rfl)] at h1
            rw [← hmi]
            exact h1
          have HB3 : Hid (Below w1.heap.size w1 (wr.setCell ⟨g, mm * 3 + 1, none⟩ (.int .i64 ((x : Int) + 1)))) := Lib.hid (HBl.out.setCell hg1 _)
          have fz : wr.frozen? ⟨g, mm * 3 + 1, none⟩ = false := World.ownsRow.frozenAt HO.out _
          have hll : (r.l == r.l) = true := by simp
          clear HP hq hir hm hmi
          go_wp2
          go_quiet (fail)
          have HN4 : Hid (OwnR w1.heap.size ((wr.drewN nq).setCell ⟨g, mm * 3 + 1, none⟩ (.int .i64 ((x : Int) + 1))) (some ⟨g, 0, none⟩) (mm + 1) c' (runsSh zs (kk + 1 + 1))) := Lib.hid (HN3.out.below (below_drewN (Below.refl (wr.setCell ⟨g, mm * 3 + 1, none⟩ (.int .i64 ((x : Int) + 1))).heap.size _) nq) (Nat.le_refl _))
          have HB4 : Hid (Below w1.heap.size w1 ((wr.drewN nq).setCell ⟨g, mm * 3 + 1, none⟩ (.int .i64 ((x : Int) + 1)))) := Lib.hid (below_drewN HB3.out nq)
          clear HN3 HB3
          go_wp2
          go_roundw
          case rel => exact ⟨kk + 1 + 1, _, _, _, by omega, by go_num, rfl, HN4.out, HB4.out⟩
          case measure => simp [intOf]; omega
        · have HE : Hid (flatR (runsSh zs (kk + 1 + 1)) = flatR (init ++ [r]) ++ [.int .i64 (x : Nat), .int .i64 ((x : Int) + 1), .int .i8 zs[x]]) := Lib.hid (by
            rw [HP.out, runPush_new, flatR_push]
            · push_cast; rfl
            · intro r' hr' hrl'
              rw [List.getLast?_append] at hr'
              simp at hr'
              exact hq (by rw [hr']; exact hrl'))
          have hll : (r.l == zs[x]) = false := by simpa using hq
          clear HP hq hir hm hmi
          generalize zs[x] = q at *
          go_wp2
          go_quiet (fail)
          generalize hkg : kk + 1 = k at *
          have HOd := Lib.hid (HO.out.below (below_drewN (Below.refl wr.heap.size wr) nq) (Nat.le_refl _))
          have HBd := Lib.hid (below_drewN HBl.out nq)
          have hwr : IntKind.i64.wrap ((x : Int) + 1) = (x : Int) + 1 := IntWalk.i64_in _ (by omega)
          have HSz : Hid (w1.heap.size ≤ (wr.drewN nq).heap.size) := Lib.hid HBd.out.size
          replace cx : (wr.drewN nq).cell? _ = _ := cx
          replace cl : (wr.drewN nq).cell? _ = _ := cl
          generalize wr.drewN nq = w7 at *
          go_wp2
          go_region_law (refine step_appR Try.elemRun rfl (.tmp 71) (.tmp 89) rfl (World.ownsRow.drew (World.ownsRow.alloc HOd.out _)) (by have := HSz.out; simp; omega) (by omega) (by omega) w7.heap.size [.int .i64 (x : Nat), .int .i64 ((x : Int) + 1), .int .i8 q] rfl (fun j v hv => by rw [show (w7.alloc _).drew.cell? ⟨w7.heap.size, j, none⟩ = (w7.alloc _).cell? ⟨w7.heap.size, j, none⟩ from rfl, cell_of_row _ w7.heap.size j _ _ (0, 0) (heap_alloc_new w7 _)]; simpa [hwr] using hv) (by intro u hu; simp at hu; rcases hu with rfl | rfl | rfl <;> rfl) rfl rfl ?_; intro a9 c9 w9 ho9 hg9 hb9)
          all_goals
            have HO9 : Hid (OwnR w1.heap.size w9 a9 (mm + 1 + 1) c9 (runsSh zs (k + 1))) := Lib.hid (by unfold OwnR; rw [HE.out]; exact ho9)
            have HB9 := Lib.hid ((below_drewN (HBd.out.alloc HSz.out _) 1).trans (Below.ofGrown hg9 (by have := HSz.out; simp; omega) HOd.out.blk))
            clear ho9 hg9 hb9
            go_wp2
            go_roundw
            case rel => exact ⟨k + 1, _, _, _, by omega, by go_num, rfl, HO9.out, HB9.out⟩
            case measure => simp [intOf]; omega
    · obtain rfl : ns = k := by omega
      obtain ⟨w2, rfl⟩ : ∃ w2 : World, w2 = wr := ⟨_, rfl⟩
      have hall : runsSh zs ns = runsL zs := by rw [← hlS.out]; exact runsSh_all zs
      rw [hall] at HO
      clear hall hk hkn
      have HC2 := Lib.hid (HC1.out.below HBl.out (Nat.le_refl _))
      go_wp2_with fail
      refine (rPlaces_walk a n cap zs _ HN.out hlt HK.out HC2.out).mono ?_
      rintro e w3 ⟨aP, nP, cP, rfl, hoP, hb3⟩
      obtain rfl : n = nP := by have := hoP.lenI; rw [placesL_length] at this; have := HN.out; omega
      have HP0 := Lib.hid hoP; clear hoP
      have HB3 := Lib.hid hb3; clear hb3
      have HO3 := Lib.hid (HO.out.below HB3.out (Nat.le_refl _))
      have hmn : m ≤ n := by omega
      have HS12 := Lib.hid (show w1.heap.size ≤ w2.heap.size from HBl.out.size)
      have HBl3 := Lib.hid (HBl.out.trans (HB3.out.mono HBl.out.size))
      have HBw := Lib.hid (fun (w' : World) (h : Below w1.heap.size w3 w') => below_seq HB1.out (HBl3.out.trans h))
      have HLT : Hid (∀ g, a' = some ⟨g, 0, none⟩ → w1.heap.size ≤ g ∧ g < w2.heap.size) := Lib.hid (fun g hg => by
        have := World.ownsRow.lt HO.out g (by rw [hg]; rfl)
        exact this)
      go_wp2
      go_loopw [8] (RrB w3 w1.heap.size w2.heap.size m a' c' aP n cP zs) (fun i _ => m - (intOf i).toNat)
      case atStart => exact ⟨1, runsL zs, Nat.le_refl _, rfl, List.Perm.refl _, SortTo.start _ _ _ (Nat.min_le_left _ _), HO3.out, HP0.out, Below.refl _ _⟩
      case round =>
        obtain ⟨k, L, hk1, rfl, hperm, hsort, hown, hpl, hbel⟩ := hrel
        have hLm := hown.len
        have HOk := Lib.hid hown; clear hown
        have HPk := Lib.hid hpl; clear hpl
        have HBk := Lib.hid hbel; clear hbel
        have HPe := Lib.hid hperm; clear hperm
        have HSt := Lib.hid hsort; clear hsort
        by_cases hkm : k < m
        · obtain ⟨g, ha, hg1, hg2, hg3, hg4⟩ := HOk.out.at (by omega)
          subst ha
          obtain ⟨hgl1, hgl2⟩ := HLT.out g rfl
          go_wp2
          go_loopw [9] (RrC w3 w1.heap.size w2.heap.size m k (some ⟨g, 0, none⟩) c' aP n cP zs) (fun i _ => (intOf i).toNat)
          case atStart => exact ⟨k, L, Nat.le_refl _, rfl, HPe.out, InsTo.start (by have := HSt.out; rwa [Nat.min_eq_left (by omega)] at this), HOk.out, HPk.out, HBk.out⟩
          case round =>
            obtain ⟨j, M, hjk, rfl, hperm, hins, hown, hpl, hbel⟩ := hrel
            have hMm := hown.len
            have HOj := Lib.hid hown; clear hown
            have HPj := Lib.hid hpl; clear hpl
            have HBj := Lib.hid hbel; clear hbel
            have HPm := Lib.hid hperm; clear hperm
            have HIn := Lib.hid hins; clear hins
            by_cases hj0 : j = 0
            · subst hj0
              have HSn := Lib.hid (HIn.out.stop (Nat.zero_le _) (Or.inl rfl))
              go_wp2
              go_quiet (fail)
              have HOd := Lib.hid (HOj.out.below (below_drewN (Below.refl wr.heap.size wr) nq) (Nat.le_refl _))
              have HPd := Lib.hid (HPj.out.below (below_drewN (Below.refl wr.heap.size wr) nq) (Nat.le_refl _))
              have HBd := Lib.hid (below_drewN HBj.out nq)
              go_wp2
              go_roundw
              case rel => exact ⟨k + 1, M, by omega, by go_num, HPm.out, by rw [Nat.min_eq_left (by omega)]; exact HSn.out, HOd.out, HPd.out, HBd.out⟩
              case measure => simp [intOf]; omega
            · obtain ⟨jj, rfl⟩ : ∃ jj, j = jj + 1 := ⟨j - 1, by omega⟩
              have hj1 : jj + 1 < M.length := by omega
              have hj2 : jj < M.length := by omega
              have ok1 := runsL_ok zs _ (HPm.out.mem_iff.1 (List.getElem_mem hj1))
              have ok0 := runsL_ok zs _ (HPm.out.mem_iff.1 (List.getElem_mem hj2))
              have q1 : kL zs M (jj + 1) = keyR zs M[jj + 1] := by unfold kL; simp [hj1]
              have q0 : kL zs M jj = keyR zs M[jj] := by unfold kL; simp [hj2]
              have HSw : Hid (swapR M (jj + 1) = (M.set (jj + 1) M[jj]).set jj M[jj + 1]) := Lib.hid (by unfold swapR; simp [hj1, hj2])
              have HStop := Lib.hid (fun (h : ¬ keyR zs M[jj + 1] < keyR zs M[jj]) => HIn.out.stop hjk (Or.inr (by rw [show jj + 1 - 1 = jj from rfl, q1, q0]; exact h)))
              have HSwap := Lib.hid (fun (h : keyR zs M[jj + 1] < keyR zs M[jj]) => HIn.out.swap (Nat.succ_pos _) hjk hj1 (by rw [show jj + 1 - 1 = jj from rfl, q1, q0]; exact h))
              have HPs := Lib.hid ((swapR_perm M (jj + 1) (Nat.succ_pos _) hj1).trans HPm.out)
              obtain ⟨u0, u1, u2⟩ := HOj.out.runs.get (jj + 1) hj1
              obtain ⟨v0, v1, v2⟩ := HOj.out.runs.get jj hj2
              have HR := Lib.hid (fun (w' : World) (h : OwnR w1.heap.size w' (some ⟨g, 0, none⟩) m c' M) => (⟨h.runs.get (jj + 1) hj1, h.runs.get jj hj2⟩ : _ ∧ _))
              have HSt1 := Lib.hid (fun (w' : World) (h : OwnR w1.heap.size w' (some ⟨g, 0, none⟩) m c' M) => h.store (jj + 1) hj1 M[jj])
              have HSt2 := Lib.hid (fun (w' : World) (h : OwnR w1.heap.size w' (some ⟨g, 0, none⟩) m c' (M.set (jj + 1) M[jj])) => h.store jj (by simpa using hj2) M[jj + 1])
              clear q1 q0
              generalize M[jj + 1] = r1 at *
              generalize M[jj] = r0 at *
              simp only [Nat.zero_add] at u0 u1 u2 v0 v1 v2
              have f1 : r1.f < zs.length := by have := ok1.lt; have := ok1.le; omega
              have f0 : r0.f < zs.length := by have := ok0.lt; have := ok0.le; omega
              obtain ⟨gP, ha, _⟩ := HPj.out.at (by have := HN.out; omega)
              subst ha
              have p1 := HPj.out.ints.get r1.f (by rw [placesL_length]; exact f1)
              have p0 := HPj.out.ints.get r0.f (by rw [placesL_length]; exact f0)
              rw [show (placesL zs)[r1.f]'(by rw [placesL_length]; exact f1) = keyR zs r1 by simp [keyR, placesL_length, f1]] at p1
              rw [show (placesL zs)[r0.f]'(by rw [placesL_length]; exact f0) = keyR zs r0 by simp [keyR, placesL_length, f0]] at p0
              simp only [Nat.zero_add] at p1 p0
              have f1n : r1.f < n := by have := HN.out; omega
              have f0n : r0.f < n := by have := HN.out; omega
              have hjm : jj + 1 < m := by omega
              have hjm0 : jj < m := by omega
              have hjn : (jj : Int) + 1 ≤ (n : Int) := by omega
              have hd : decide (0 < jj + 1) = true := by simp
              clear ok1 ok0 f1 f0
              by_cases hlt2 : keyR zs r1 < keyR zs r0
              · have HSwp := Lib.hid (HSwap.out hlt2)
                have hdk : decide (keyR zs r1 < keyR zs r0) = true := decide_eq_true hlt2
                clear HSwap HStop
                go_wp2
                go_quiet (fail)
                have HOd := Lib.hid (HOj.out.below (below_drewN (Below.refl wr.heap.size wr) nq) (Nat.le_refl _))
                have HPd := Lib.hid (HPj.out.below (below_drewN (Below.refl wr.heap.size wr) nq) (Nat.le_refl _))
                have HBd := Lib.hid (below_drewN HBj.out nq)
                clear u0 u1 u2 v0 v1 v2 p0 p1 hd hdk hlt2
                have hgw : g < (wr.drewN nq).heap.size := by have := (HOd.out.at (by omega)); obtain ⟨g', e, _, h, _⟩ := this; cases e; exact h
                generalize wr.drewN nq = w7 at *
                obtain ⟨⟨u0, u1, u2⟩, ⟨v0, v1, v2⟩⟩ := HR.out w7 HOd.out
                simp only [Nat.zero_add] at u0 u1 u2 v0 v1 v2
                have hal : Below w7.heap.size w7 (w7.alloc (.cells #[.int .i64 (r1.f : Nat), .int .i64 (r1.t : Nat), .int .i8 r1.l] 68)) := (Below.refl _ _).alloc (Nat.le_refl _) _
                have HAL := Lib.hid hal; clear hal
                have HBX : Hid ((w7.alloc (.cells #[.int .i64 (r1.f : Nat), .int .i64 (r1.t : Nat), .int .i8 r1.l] 68)).heap[w7.heap.size]? = some (.cells #[.int .i64 (r1.f : Nat), .int .i64 (r1.t : Nat), .int .i8 r1.l] 68 (0, 0))) := Lib.hid (heap_alloc_new w7 _)
                go_upto_region 18 with (fail)
                generalize (w7.alloc (.cells #[.int .i64 (r1.f : Nat), .int .i64 (r1.t : Nat), .int .i8 r1.l] 68)) = w8 at *
                have HO8 := Lib.hid (HOd.out.below HAL.out (Nat.le_refl _))
                have HP8 := Lib.hid (HPd.out.below HAL.out (Nat.le_refl _))
                have HB8 := Lib.hid (HBd.out.trans (HAL.out.mono (by have := HBd.out.size; have := HB3.out.size; have := HS12.out; omega)))
                clear u0 u1 u2 v0 v1 v2
                obtain ⟨-, ⟨v0, v1, v2⟩⟩ := HR.out w8 HO8.out
                simp only [Nat.zero_add] at v0 v1 v2
                obtain ⟨x0, x1, x2, a0, b0, a1, b1, a2, b2⟩ := there_three (HO8.out.there (jj + 1) hjm) (.int .i64 (r0.f : Nat)) (.int .i64 (r0.t : Nat))
                have HO9 : Hid (OwnR w1.heap.size (((w8.setCell ⟨g, (jj + 1) * 3, none⟩ (.int .i64 (r0.f : Nat))).setCell ⟨g, (jj + 1) * 3 + 1, none⟩ (.int .i64 (r0.t : Nat))).setCell ⟨g, (jj + 1) * 3 + 2, none⟩ (.int .i8 r0.l)) (some ⟨g, 0, none⟩) m c' (M.set (jj + 1) r0)) := Lib.hid (HSt1.out w8 HO8.out)
                have HG9 : Hid (w8.grownBy (((w8.setCell ⟨g, (jj + 1) * 3, none⟩ (.int .i64 (r0.f : Nat))).setCell ⟨g, (jj + 1) * 3 + 1, none⟩ (.int .i64 (r0.t : Nat))).setCell ⟨g, (jj + 1) * 3 + 2, none⟩ (.int .i8 r0.l)) (some g)) := Lib.hid (grown_storeN g [.int .i64 (r0.f : Nat), .int .i64 (r0.t : Nat), .int .i8 r0.l] ((jj + 1) * 3) w8)
                go_upto_region 19 with (fail)
                generalize (((w8.setCell ⟨g, (jj + 1) * 3, none⟩ (.int .i64 (r0.f : Nat))).setCell ⟨g, (jj + 1) * 3 + 1, none⟩ (.int .i64 (r0.t : Nat))).setCell ⟨g, (jj + 1) * 3 + 2, none⟩ (.int .i8 r0.l)) = w9 at *
                clear v0 v1 v2 a0 b0 a1 b1 a2 b2
                have HP9 := Lib.hid (HP8.out.grown HG9.out (ownsRow_apart HP8.out hgl2))
                have HB9 := Lib.hid (HB8.out.trans (Below.ofGrown (v := .slice (some ⟨g, 0, none⟩) m c') HG9.out (by have := HB8.out.size; have := HBl3.out.size; have := HS12.out; have := HB3.out.size; omega) (fun q hq => by cases hq; exact hgl1)))
                have HBX9 : Hid (w9.heap[w7.heap.size]? = some (.cells #[.int .i64 (r1.f : Nat), .int .i64 (r1.t : Nat), .int .i8 r1.l] 68 (0, 0))) := Lib.hid (by
                  rw [HG9.out.block _ (Array.getElem?_eq_some_iff.1 HBX.out).1 (fun e => by simp at e; omega)]
                  exact HBX.out)
                have d0 : w9.cell? ⟨w7.heap.size, 0, none⟩ = some (.int .i64 (r1.f : Nat)) := by simp [World.cell?, HBX9.out]
                have d1 : w9.cell? ⟨w7.heap.size, 1, none⟩ = some (.int .i64 (r1.t : Nat)) := by simp [World.cell?, HBX9.out]
                have d2 : w9.cell? ⟨w7.heap.size, 2, none⟩ = some (.int .i8 r1.l) := by simp [World.cell?, HBX9.out]
                obtain ⟨x0, x1, x2, a0, b0, a1, b1, a2, b2⟩ := there_three (HO9.out.there jj hjm0) (.int .i64 (r1.f : Nat)) (.int .i64 (r1.t : Nat))
                have HO10 := Lib.hid (HSt2.out w9 HO9.out)
                have HG10 := Lib.hid (grown_storeN g (cellsR r1) (jj * 3) w9)
                have HP10 := Lib.hid (HP9.out.grown HG10.out (ownsRow_apart HP9.out hgl2))
                have HB10 := Lib.hid (below_setCells HB9.out g (jj * 3) (cellsR r1) hgl1)
                go_wp2
                go_roundw
                case rel => exact ⟨jj, swapR M (jj + 1), by omega, by go_num, HPs.out, HSwp.out, by rw [HSw.out]; exact HO10.out, HP10.out, HB10.out⟩
                case measure => simp [intOf]
              · have HSn := Lib.hid (HStop.out hlt2)
                have hdk : decide (keyR zs r1 < keyR zs r0) = false := decide_eq_false hlt2
                clear HSwap HStop
                go_wp2
                go_quiet (fail)
                have HOd := Lib.hid (HOj.out.below (below_drewN (Below.refl wr.heap.size wr) nq) (Nat.le_refl _))
                have HPd := Lib.hid (HPj.out.below (below_drewN (Below.refl wr.heap.size wr) nq) (Nat.le_refl _))
                have HBd := Lib.hid (below_drewN HBj.out nq)
                go_wp2
                go_roundw
                case rel => exact ⟨k + 1, M, by omega, by go_num, HPm.out, by rw [Nat.min_eq_left (by omega)]; exact HSn.out, HOd.out, HPd.out, HBd.out⟩
                case measure => simp [intOf]; omega
        · have hrs : L = runsS zs := by
            have := HSt.out
            rw [Nat.min_eq_right (by omega), ← hLm] at this
            exact SortTo.runs (okL_mem zs HK.out) HPe.out this
          have HEnd := Lib.hid (HBw.out wr HBk.out)
          have HRes : Hid (OwnR w.heap.size wr a' m c' (runsS zs)) := Lib.hid (by rw [← hrs]; exact HOk.out.mono HB1.out.size)
          clear hrs
          go_wp2
          go_ret
          exact ⟨_, _, _, rfl, HRes.out, HEnd.out⟩
end Go.Proofs.Ytcgdhgdblieaiaa
