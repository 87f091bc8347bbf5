/-
  The walk of visual.Runs.
-/
import Derived.Test.YtcgdhgdblieaiaaG3
import Derived.Test.YtcgdhgdblieaiaaG5
import Derived.Deep.Cut
import Derived.Shelf.SlSortCmp.NoneTotal
set_option linter.unusedVariables false
namespace Go.Proofs.Ytcgdhgdblieaiaa
open Go.RowKit

theorem OwnR.mono {B B' : Nat} {w : World} {a : Option Addr} {n c : Nat} {rs : List RunD} (h : OwnR B w a n c rs) (hB : B' ≤ B) : OwnR B' w a n c rs := by
  refine ⟨h.1, ?_⟩
  rcases h.2 with hn | ⟨g, cap, cur, e, hbg, rest⟩
  · exact .inl hn
  · exact .inr ⟨g, cap, cur, e, by omega, rest⟩
theorem Places_bad (a : Option Addr) (n cap : Nat) (zs : List Int) (w : World) (hn : zs.length = n) (hlt : n ≤ 1048576) (hok : okL zs = false) (hc : Ints .i8 w a zs) :
    Calls Try.prog 18 #[.slice a n cap] w fun e w' => e = .returned (.tuple #[.slice none 0 0, .int .i64 2]) ∧ w = w' := by
  have HN := Lib.hid hn; clear hn
  have hm : mayN zs = 2 := by unfold mayN; rw [hok]; rfl
  have HM := Lib.hid hm; clear hm hok
  go_enter Try.func18, Try.ntmps18
  go_wp2_with fail
  refine (vmay_walk a n cap zs _ HN.out hlt hc).mono ?_
  rintro e w' ⟨rfl, rfl⟩
  rw [HM.out]
  go_wp2
  go_ret2
  exact ⟨rfl, rfl⟩
theorem Runs_bad (a : Option Addr) (n cap : Nat) (zs : List Int) (w : World) (hn : zs.length = n) (hlt : n ≤ 1048576) (hok : okL zs = false) (hc : Ints .i8 w a zs) :
    Calls Try.prog 35 #[.slice a n cap] w fun e w' => e = .returned (.tuple #[.slice none 0 0, .int .i64 2]) ∧ Below w.heap.size w w' := by
  have HN := Lib.hid hn; clear hn
  have HK := Lib.hid hok; clear hok
  go_enter Try.func35, Try.ntmps35
  go_wp2_with fail
  refine (Places_bad a n cap zs _ HN.out hlt HK.out hc).mono ?_
  rintro e w' ⟨rfl, rfl⟩
  go_wp2
  go_ret2
  exact ⟨rfl, by go_grown⟩

def RnR (w1 : World) (n : Nat) (zs : List Int) (v i : Value) (wr : World) : Prop :=
  ∃ (k : Nat) (a' : Option Addr) (m c' : Nat), k ≤ n ∧ i = .int .i64 k ∧ v = .slice a' m c' ∧ OwnR w1.heap.size wr a' m c' (runsTo zs k) ∧ Below w1.heap.size w1 wr

set_option maxRecDepth 20000 in
set_option maxHeartbeats 4000000 in
theorem Runs_walk (a : Option Addr) (n cap : Nat) (zs : List Int) (w : World) (hn : zs.length = n) (hlt : n ≤ 1048576) (hok : okL zs = true) (hc : Ints .i8 w a zs) :
    Calls Try.prog 35 #[.slice a n cap] w fun e w' => ∃ a' m c', e = .returned (.tuple #[.slice a' m c', .int .i64 0]) ∧ OwnR w.heap.size w' a' m c' (runsS zs) ∧ Below w.heap.size w w' := by
  have HN := Lib.hid hn; clear hn
  have HK := Lib.hid hok; clear hok
  go_enter Try.func35, Try.ntmps35
  go_wp2_with fail
  refine (Places_walk a n cap zs _ HN.out hlt HK.out hc).mono ?_
  rintro e w1 ⟨aA, nA, cA, rfl, ho, hb⟩
  obtain rfl : n = nA := by have := ho.lenI; rw [placesL_length] at this; have := HN.out; omega
  have HA1 := Lib.hid ho.ints
  have HB1 := Lib.hid hb
  clear ho hb
  have hal : Below w1.heap.size w1 (w1.alloc (.cells #[.slice aA n cA] 26)) := (Below.refl _ _).alloc (Nat.le_refl _) _
  have HAL := Lib.hid hal; clear hal
  have hbx : (w1.alloc (.cells #[.slice aA n cA] 26)).heap[w1.heap.size]? = some (.cells #[.slice aA n cA] 26 (0, 0)) := heap_alloc_new w1 _
  have HBX := Lib.hid hbx; clear hbx
  have hsz2 : w1.heap.size < (w1.alloc (.cells #[.slice aA n cA] 26)).heap.size := by simp
  go_upto_region 4 with (fail)
  generalize (w1.alloc (.cells #[.slice aA n cA] 26)) = w2 at *
  have HC2 := Lib.hid ((hc.below HB1.out (Nat.le_refl _)).below HAL.out (Nat.le_refl _))
  have HA2 := Lib.hid (HA1.out.below HAL.out (Nat.le_refl _))
  have HB2 := Lib.hid (below_seq HB1.out HAL.out)
  clear hc HA1 HAL
  go_wp2
  go_loopw [6, 20] (RnR w2 n zs) (fun _ i _ => n - (intOf i).toNat)
  case atStart => exact ⟨0, none, 0, 0, Nat.zero_le _, rfl, rfl, OwnR.nil _ _, Below.refl _ _⟩
  case round =>
    obtain ⟨k, a', m, c', hk, rfl, rfl, hown, hbel⟩ := hrel
    have hm := hown.len
    have hml := runsTo_length zs k
    have HO := Lib.hid hown; clear hown
    have HBl := Lib.hid hbel; clear hbel
    by_cases hkn : k < n
    · have hkl : k < zs.length := by rw [HN.out]; exact hkn
      obtain ⟨b, o, ha⟩ := HC2.out.some (by omega)
      subst ha
      have c0 := (HC2.out.below HBl.out (Nat.le_refl _)).get k hkl
      have hg : zs.getD k 0 = zs[k] := by simp [hkl]
      by_cases hs : zs[k] = -1
      · have HR : Hid (runsTo zs (k + 1) = runsTo zs k) := Lib.hid (by rw [runsTo, if_pos (by rw [hg]; exact hs)])
        rw [hs] at c0
        clear hs hg hm hml
        go_wp2
        go_roundw
        case rel => exact ⟨k + 1, a', m, c', by omega, by go_num, rfl, by rw [HR.out]; exact HO.out, HBl.out⟩
        case measure => simp [intOf]; omega
      · have hsb : (zs[k] == -1) = false := by simpa using hs
        have HP : Hid (runsTo zs (k + 1) = runPush (runsTo zs k) k zs[k]) := Lib.hid (by rw [runsTo, if_neg (by rw [hg]; exact hs), hg])
        clear hg
        by_cases hlast : ∃ init r, runsTo zs k = init ++ [r] ∧ r.l = zs[k]
        · obtain ⟨init, r, hir, hrl⟩ := hlast
          rw [hir] at HO HP
          rw [hir] at hm hml
          obtain ⟨mm, rfl⟩ : ∃ mm, m = mm + 1 := ⟨init.length, by simpa using hm.symm⟩
          have hmi : init.length = mm := by simpa using hm
          obtain ⟨g, ha, hg1, hg2, hg3, hg4⟩ := HO.out.at (by omega)
          subst ha
          have hget := HO.out.runs.get mm (by simp; omega)
          rw [show (init ++ [r])[mm]'(by simp; omega) = r by rw [List.getElem_append_right (by omega)]; simp [hmi]] at hget
          obtain ⟨g0, g1, g2⟩ := hget
          rw [hrl] at g2
          simp only [Nat.zero_add] at g0 g1 g2
          have fz : wr.frozen? ⟨g, mm * 3 + 1, none⟩ = false := World.ownsRow.frozenAt HO.out _
          have HN3 : Hid (OwnR w2.heap.size (wr.setCell ⟨g, mm * 3 + 1, none⟩ (.int .i64 ((k : Int) + 1))) (some ⟨g, 0, none⟩) (mm + 1) c' (runsTo zs (k + 1))) := by
            refine Lib.hid ?_
            rw [HP.out, ← hrl, runPush_same]
            have h1 := (World.ownsRow.stored HO.out (mm * 3 + 1) (.int .i64 ((k : Int) + 1))).1
            rw [← hmi, flatR_set init r (k + 1) _ (by push_cast; rfl)] at h1
            rw [← hmi]
            exact h1
          have HB3 : Hid (Below w2.heap.size w2 (wr.setCell ⟨g, mm * 3 + 1, none⟩ (.int .i64 ((k : Int) + 1)))) := Lib.hid (HBl.out.setCell hg1 _)
          have hmk : (mm : Int) + 1 ≤ 1048576 := by
            have : (init ++ [r]).length ≤ k := hml
            simp at this
            omega
          have hmm1 : (mm : Int) < (mm : Int) + 1 := by omega
          clear HP hir hm hml hmi hrl
          generalize zs[k] = z at *
          go_wp2
          go_roundw
          case rel => exact ⟨k + 1, _, _, _, by omega, by go_num, rfl, HN3.out, HB3.out⟩
          case measure => simp [intOf]; omega
        · have HP2 : Hid (runsTo zs (k + 1) = runsTo zs k ++ [⟨k, k + 1, zs[k]⟩]) := by
            refine Lib.hid ?_
            rw [HP.out, runPush_new]
            intro r hr hrl
            obtain ⟨ys, h⟩ := List.getLast?_eq_some_iff.1 hr
            exact hlast ⟨ys, r, h, hrl⟩
          have hmk : m ≤ 1048576 := by omega
          by_cases hm0 : m = 0
          · subst hm0
            clear hlast HP hm hml
            generalize zs[k] = z at *
            go_wp2_with (at_builtin; refine wpList_appN Try.elemRun rfl (.tmp 48) (.tmp 54) rfl HO.out HBl.out.size (by omega) (by omega) #[.int .i64 (k : Nat), .int .i64 ((k : Int) + 1), .int .i8 z] rfl (by intro u hu; simp at hu; rcases hu with rfl | rfl | rfl <;> rfl) _ rfl rfl ?_)
            intro a9 c9 w9 ho9 hg9 _
            have HN9 : Hid (OwnR w2.heap.size w9 a9 (0 + 1) c9 (runsTo zs (k + 1))) := by
              refine Lib.hid ?_
              rw [HP2.out]
              unfold OwnR
              rw [flatR_push]
              exact ho9
            have HB9 := Lib.hid (HBl.out.trans (HO.out.app hg9 HBl.out.size))
            clear ho9 hg9
            go_wp2
            go_roundw
            case rel => exact ⟨k + 1, _, _, _, by omega, by go_num, rfl, HN9.out, HB9.out⟩
            case measure => simp [intOf]; omega
          · obtain ⟨mm, rfl⟩ : ∃ mm, m = mm + 1 := ⟨m - 1, by omega⟩
            obtain ⟨r, hr⟩ : ∃ r, (runsTo zs k).getLast? = some r := by
              cases h : runsTo zs k with
              | nil => rw [h] at hm; simp at hm
              | cons x t => exact ⟨_, List.getLast?_eq_some_getLast (by simp)⟩
            obtain ⟨init, hir⟩ := List.getLast?_eq_some_iff.1 hr
            have hne : r.l ≠ zs[k] := fun h => hlast ⟨init, r, hir, h⟩
            have hneb : (r.l == zs[k]) = false := by simpa using hne
            have hmi : init.length = mm := by rw [hir] at hm; simpa using hm
            obtain ⟨g, ha, hg1, hg2, hg3, hg4⟩ := HO.out.at (by omega)
            subst ha
            have hget := HO.out.runs.get mm (by omega)
            rw [show (runsTo zs k)[mm]'(by omega) = r by
              have e := List.getElem_of_eq hir (i := mm) (by omega)
              rw [e, List.getElem_append_right (by omega)]; simp [hmi]] at hget
            obtain ⟨g0, g1, g2⟩ := hget
            simp only [Nat.zero_add] at g0 g1 g2
            have hmm1 : (mm : Int) < (mm : Int) + 1 := by omega
            have hmk2 : (mm : Int) + 1 ≤ 1048576 := by omega
            clear hlast HP hm hml hr hir hne hmi
            generalize zs[k] = z at *
            go_wp2_with (at_builtin; refine wpList_appN Try.elemRun rfl (.tmp 48) (.tmp 54) rfl HO.out HBl.out.size (by omega) (by omega) #[.int .i64 (k : Nat), .int .i64 ((k : Int) + 1), .int .i8 z] rfl (by intro u hu; simp at hu; rcases hu with rfl | rfl | rfl <;> rfl) _ rfl rfl ?_)
            intro a9 c9 w9 ho9 hg9 _
            have HN9 : Hid (OwnR w2.heap.size w9 a9 (mm + 1 + 1) c9 (runsTo zs (k + 1))) := by
              refine Lib.hid ?_
              rw [HP2.out]
              unfold OwnR
              rw [flatR_push]
              exact ho9
            have HB9 := Lib.hid (HBl.out.trans (HO.out.app hg9 HBl.out.size))
            clear ho9 hg9
            go_wp2
            go_roundw
            case rel => exact ⟨k + 1, _, _, _, by omega, by go_num, rfl, HN9.out, HB9.out⟩
            case measure => simp [intOf]; omega
    · obtain rfl : k = n := by omega
      have hrr : runsTo zs k = runsL zs := by unfold runsL; rw [HN.out]
      rw [hrr] at HO
      clear hrr
      by_cases hm0 : m = 0
      · subst hm0
        have HS : Hid (Calls Try.prog 51 #[.slice a' 0 c', .func (.func 52) #[] #[.pointer (some ⟨w1.heap.size, 0, none⟩)]] wr fun e w' => e = .returned (.tuple #[]) ∧ w' = wr) := Lib.hid (AnyF.slices_SortFunc_none (P := Try.prog) (ρ := sortLaid_ren) sortLaid a' c' _ wr)
        have HOm : Hid (OwnR w.heap.size wr a' 0 c' (runsS zs)) := by
          have h0 : runsL zs = [] := List.length_eq_zero_iff.1 HO.out.len
          have h1 : runsS zs = [] := by
            have := runsS_perm zs
            rw [h0] at this
            exact List.perm_nil.1 this
          have := HO.out
          rw [h0] at this
          rw [h1]
          exact Lib.hid (this.mono HB2.out.size)
        have HBm := Lib.hid (below_seq HB2.out HBl.out)
        clear hm hml
        go_wp2_with fail
        refine HS.out.mono ?_
        rintro e w' ⟨rfl, rfl⟩
        go_wp2
        go_ret2
        exact ⟨_, _, _, rfl, HOm.out, HBm.out⟩
      · obtain ⟨g, ha, hgB, hgl, hmc, hcm⟩ := HO.out.at (by omega)
        subst ha
        have HS := Lib.hid (sortRuns_walk zs (okL_mem zs HK.out) w1.heap.size k cA w2.heap.size g m c' aA wr HN.out hlt
          (by rw [HBl.out.cell (p := ⟨w1.heap.size, 0, none⟩) hsz2]; simp [World.cell?, HBX.out]) hsz2 (HA2.out.below HBl.out (Nat.le_refl _))
          (fun b o e => by
            subst e
            have c := HA2.out.get 0 (by rw [placesL_length]; have := HN.out; omega)
            exact World.block_lt_of_cell? w2 _ c) HO.out (by omega))
        have HOm := Lib.hid (fun (w' : World) (h : OwnR w2.heap.size w' (some ⟨g, 0, none⟩) m c' (runsS zs)) => h.mono HB2.out.size)
        have HBm := Lib.hid (fun (w' : World) (h : Below w2.heap.size wr w') => below_seq HB2.out (HBl.out.trans h))
        clear hm hml
        go_wp2_with fail
        refine HS.out.mono ?_
        rintro e w' ⟨rfl, ho', hb'⟩
        have HO' := Lib.hid (HOm.out w' ho')
        have HB' := Lib.hid (HBm.out w' hb')
        clear ho' hb'
        go_wp2
        go_ret2
        exact ⟨_, _, _, rfl, HO'.out, HB'.out⟩
end Go.Proofs.Ytcgdhgdblieaiaa
