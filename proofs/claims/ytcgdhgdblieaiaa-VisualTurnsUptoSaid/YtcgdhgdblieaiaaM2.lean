/-
  Walks: 'visual.Mirror', 'visual.Line'.
-/
import Derived.Test.YtcgdhgdblieaiaaM1
set_option linter.unusedVariables false
namespace Go.Proofs.Ytcgdhgdblieaiaa
open Go.RowKit

def mirX (cs : List CharD) (z x : Int) : Int := if 0 ≤ z ∧ z % 2 = 1 then (if (mirV cs (askedR x)).2 = true then (mirV cs (askedR x)).1 else x) else x
def mirL (cs : List CharD) (xs zs : List Int) : List Int := (List.range xs.length).map (fun i => mirX cs (zs.getD i 0) (xs.getD i 0))
def mirC (xs zs : List Int) : Int := if okL zs = true then (if xs.length = zs.length then 0 else 220) else 2
def mirR (cs : List CharD) (xs zs : List Int) : List Int := if okL zs = true ∧ xs.length = zs.length then mirL cs xs zs else []
theorem mirL_length (cs : List CharD) (xs zs : List Int) : (mirL cs xs zs).length = xs.length := by simp [mirL]
theorem mirL_get (cs : List CharD) (xs zs : List Int) (k : Nat) (h : k < xs.length) (h2 : k < zs.length) : (mirL cs xs zs)[k]'(by rw [mirL_length]; exact h) = mirX cs zs[k] xs[k] := by simp [mirL, h, h2]
theorem mir_step (cs : List CharD) (xs zs : List Int) (k : Nat) (h : k < xs.length) (h2 : k < zs.length) :
    (mirL cs xs zs).take (k + 1) ++ xs.drop (k + 1) = ((mirL cs xs zs).take k ++ xs.drop k).set k (mirX cs zs[k] xs[k]) := by
  have hl : k < (mirL cs xs zs).length := by rw [mirL_length]; exact h
  have ht : ((mirL cs xs zs).take k).length = k := by rw [List.length_take]; omega
  rw [List.set_append_right _ _ (by omega), ht, Nat.sub_self, List.drop_eq_getElem_cons h, List.set_cons_zero, List.take_succ_eq_append_getElem hl, mirL_get cs xs zs k h h2, List.append_assoc]
  rfl
theorem mir_same (cs : List CharD) (xs zs : List Int) (k : Nat) (h : k < xs.length) (h2 : k < zs.length) (hs : mirX cs zs[k] xs[k] = xs[k]) :
    (mirL cs xs zs).take (k + 1) ++ xs.drop (k + 1) = (mirL cs xs zs).take k ++ xs.drop k := by
  have hl : k < (mirL cs xs zs).length := by rw [mirL_length]; exact h
  rw [List.take_succ_eq_append_getElem hl, mirL_get cs xs zs k h h2, hs, List.append_assoc, List.drop_eq_getElem_cons h]
  rfl
theorem tmod_two {z : Int} (h : 0 ≤ z) : z.tmod 2 = z % 2 := Int.tmod_eq_emod_of_nonneg h

theorem nilMirror (v : Value) (w : World) : Sem.run Try.prog (nilAhead 212 54 v "Mirror") w = .ok (some false) w := by kernel_rfl
def MirR (w : World) (a' : Option Addr) (n c' : Nat) (cs : List CharD) (xs zs : List Int) (v : Value) (wr : World) : Prop :=
  ∃ k : Nat, k ≤ n ∧ v = .int .i64 k ∧ Own w.heap.size 21 wr a' n c' (ivs .i32 ((mirL cs xs zs).take k ++ xs.drop k)) ∧ Below w.heap.size w wr

set_option maxRecDepth 20000 in
set_option maxHeartbeats 4000000 in
theorem Mirror_walk (rest : Int) (a : Option Addr) (n cap : Nat) (cs : List CharD) (a1 : Option Addr) (n1 c1 : Nat) (xs : List Int) (a2 : Option Addr) (n2 c2 : Nat) (zs : List Int) (w : World)
    (hn : cs.length = n) (hm : n ≤ 1048576) (hc : Chars w a cs) (hn1 : xs.length = n1) (hm1 : n1 ≤ 1048576) (hc1 : Ints .i32 w a1 xs) (hn2 : zs.length = n2) (hm2 : n2 ≤ 1048576) (hc2 : Ints .i8 w a2 zs) :
    Calls Try.prog 30 #[.iface 54 (.agg #[.int .u8 rest, .slice a n cap]), .slice a1 n1 c1, .slice a2 n2 c2] w fun e w' =>
      ∃ a' n' c', e = .returned (.tuple #[.slice a' n' c', .int .i64 (mirC xs zs)]) ∧ Own w.heap.size 21 w' a' n' c' (ivs .i32 (mirR cs xs zs)) ∧ Below w.heap.size w w' := by
  have HN := Lib.hid hn; clear hn
  have HC := Lib.hid hc; clear hc
  have HN1 := Lib.hid hn1; clear hn1
  have HC1 := Lib.hid hc1; clear hc1
  have HN2 := Lib.hid hn2; clear hn2
  have HC2 := Lib.hid hc2; clear hc2
  go_enter Try.func30, Try.ntmps30
  go_wp2_with fail
  refine (vmay_walk a2 n2 c2 zs _ HN2.out hm2 HC2.out).mono ?_
  rintro e w' ⟨rfl, rfl⟩
  by_cases hok : okL zs = true
  · have HK := Lib.hid hok
    rw [show mayN zs = 0 from if_pos hok]
    clear hok
    by_cases hl : n1 = n2
    · subst hl
      have hnn : ((n1 : Int) != (n1 : Int)) = false := by simp
      have HC0 := Lib.hid (show mirC xs zs = 0 by unfold mirC; rw [if_pos HK.out, if_pos (by rw [HN1.out, HN2.out])])
      have HR0 := Lib.hid (show mirR cs xs zs = mirL cs xs zs from if_pos ⟨HK.out, by rw [HN1.out, HN2.out]⟩)
      go_wp2_with fail
      refine (CloneR_walk a1 n1 c1 xs _ HN1.out hm1 HC1.out).mono ?_
      rintro e w1 ⟨a', c', rfl, ho, hb⟩
      have HO1 := Lib.hid ho; clear ho
      have HB1 := Lib.hid hb; clear hb
      clear hnn
      go_wp2
      go_loopw [30] (MirR w a' n1 c' cs xs zs) (fun v _ => n1 - (intOf v).toNat)
      case atStart => exact ⟨0, Nat.zero_le _, rfl, by simpa using HO1.out, HB1.out⟩
      case round =>
        obtain ⟨k, hk, rfl, hown, hbel⟩ := hrel
        have HO := Lib.hid hown; clear hown
        have HB := Lib.hid hbel; clear hbel
        by_cases hlt : k < n1
        · have hk1 : k < xs.length := by rw [HN1.out]; exact hlt
          have hk2 : k < zs.length := by rw [HN2.out]; exact hlt
          obtain ⟨b1, o1, ha1⟩ := HC1.out.some (by omega)
          subst ha1
          obtain ⟨b2, o2, ha2⟩ := HC2.out.some (by omega)
          subst ha2
          have r1 := (HC1.out.below HB.out (Nat.le_refl _)).get k hk1
          have r2 := (HC2.out.below HB.out (Nat.le_refl _)).get k hk2
          have HSt := Lib.hid (mir_step cs xs zs k hk1 hk2)
          have HSa := Lib.hid (mir_same cs xs zs k hk1 hk2)
          obtain ⟨g, ha, hg1, hg2, hg3, hg4⟩ := HO.out.at (by omega)
          subst ha
          have fz := HO.out.unfrozen k
          have HSto := Lib.hid (fun v => HO.out.store k v)
          have HZ := Lib.hid (okL_get zs HK.out k hk2)
          generalize xs[k] = x at *
          generalize zs[k] = z at *
          clear hk1 hk2
          by_cases hz : z < 0
          · have HE := Lib.hid (HSa.out (if_neg (by omega)))
            go_wp2
            go_roundw
            case rel => exact ⟨k + 1, hlt, by go_num, by rw [HE.out]; exact HO.out, HB.out⟩
            case measure => simp [intOf]; omega
          · have htm := tmod_two (z := z) (by omega)
            by_cases hz2 : z % 2 = 0
            · have HE := Lib.hid (HSa.out (if_neg (by omega)))
              rw [hz2] at htm
              clear hz2
              go_wp2
              go_roundw
              case rel => exact ⟨k + 1, hlt, by go_num, by rw [HE.out]; exact HO.out, HB.out⟩
              case measure => simp [intOf]; omega
            · have hz3 : z % 2 = 1 := by omega
              rw [hz3] at htm
              have HX := Lib.hid (show mirX cs z x = if (mirV cs (askedR x)).2 = true then (mirV cs (askedR x)).1 else x from if_pos ⟨by omega, hz3⟩)
              clear hz2 hz3
              have HMi := Lib.hid (PMirror_walk rest a n cap cs (askedR x) wr HN.out (by omega) (HC.out.below HB.out (Nat.le_refl _)))
              obtain ⟨mm, ok, hmv⟩ : ∃ mm ok, mirV cs (askedR x) = (mm, ok) := ⟨_, _, rfl⟩
              have HMv := Lib.hid hmv; clear hmv
              rw [HMv.out] at HMi HX
              simp only at HMi HX
              by_cases hx1 : x < 0
              · have HA := Lib.hid (show askedR x = 65533 from if_pos (.inl hx1))
                rw [HA.out] at HMi
                have hnil := nilMirror
                go_wp2_with fail
                refine HMi.out.mono ?_
                rintro e w5 ⟨rfl, hb5⟩
                have HB5 := Lib.hid (HB.out.trans (hb5.mono HB.out.size))
                have HO5 := Lib.hid (HO.out.below hb5 (Nat.le_refl _))
                clear hb5 r1 r2 fz
                have fz := HO5.out.unfrozen k
                obtain ⟨v0, cz⟩ : ∃ v0, w5.cell? ⟨g, k, none⟩ = some v0 := ⟨_, HO5.out.cell k (by rw [ivs_length, HO5.out.lenI]; exact hlt)⟩
                cases ok with
                | true =>
                  rw [if_pos rfl] at HX
                  go_wp2
                  go_roundw
                  case rel =>
                    refine ⟨k + 1, hlt, by go_num, ?_, HB5.out.setCell hg1 _⟩
                    rw [HSt.out, HX.out, ← ivs_set]
                    exact HO5.out.store k _
                  case measure => simp [intOf]; omega
                | false =>
                  rw [if_neg (fun h => by cases h)] at HX
                  have HE := Lib.hid (HSa.out HX.out)
                  go_wp2
                  go_roundw
                  case rel => exact ⟨k + 1, hlt, by go_num, by rw [HE.out]; exact HO5.out, HB5.out⟩
                  case measure => simp [intOf]; omega
              · by_cases hx2 : 1114111 < x
                · have HA := Lib.hid (show askedR x = 65533 from if_pos (.inr hx2))
                  rw [HA.out] at HMi
                  have hnil := nilMirror
                  go_wp2_with fail
                  refine HMi.out.mono ?_
                  rintro e w5 ⟨rfl, hb5⟩
                  have HB5 := Lib.hid (HB.out.trans (hb5.mono HB.out.size))
                  have HO5 := Lib.hid (HO.out.below hb5 (Nat.le_refl _))
                  clear hb5 r1 r2 fz
                  have fz := HO5.out.unfrozen k
                  obtain ⟨v0, cz⟩ : ∃ v0, w5.cell? ⟨g, k, none⟩ = some v0 := ⟨_, HO5.out.cell k (by rw [ivs_length, HO5.out.lenI]; exact hlt)⟩
                  cases ok with
                  | true =>
                    rw [if_pos rfl] at HX
                    go_wp2
                    go_roundw
                    case rel =>
                      refine ⟨k + 1, hlt, by go_num, ?_, HB5.out.setCell hg1 _⟩
                      rw [HSt.out, HX.out, ← ivs_set]
                      exact HO5.out.store k _
                    case measure => simp [intOf]; omega
                  | false =>
                    rw [if_neg (fun h => by cases h)] at HX
                    have HE := Lib.hid (HSa.out HX.out)
                    go_wp2
                    go_roundw
                    case rel => exact ⟨k + 1, hlt, by go_num, by rw [HE.out]; exact HO5.out, HB5.out⟩
                    case measure => simp [intOf]; omega
                · have HA := Lib.hid (show askedR x = x from if_neg (by omega))
                  rw [HA.out] at HMi
                  have hnil := nilMirror
                  go_wp2_with fail
                  refine HMi.out.mono ?_
                  rintro e w5 ⟨rfl, hb5⟩
                  have HB5 := Lib.hid (HB.out.trans (hb5.mono HB.out.size))
                  have HO5 := Lib.hid (HO.out.below hb5 (Nat.le_refl _))
                  clear hb5 r1 r2 fz
                  have fz := HO5.out.unfrozen k
                  obtain ⟨v0, cz⟩ : ∃ v0, w5.cell? ⟨g, k, none⟩ = some v0 := ⟨_, HO5.out.cell k (by rw [ivs_length, HO5.out.lenI]; exact hlt)⟩
                  cases ok with
                  | true =>
                    rw [if_pos rfl] at HX
                    go_wp2
                    go_roundw
                    case rel =>
                      refine ⟨k + 1, hlt, by go_num, ?_, HB5.out.setCell hg1 _⟩
                      rw [HSt.out, HX.out, ← ivs_set]
                      exact HO5.out.store k _
                    case measure => simp [intOf]; omega
                  | false =>
                    rw [if_neg (fun h => by cases h)] at HX
                    have HE := Lib.hid (HSa.out HX.out)
                    go_wp2
                    go_roundw
                    case rel => exact ⟨k + 1, hlt, by go_num, by rw [HE.out]; exact HO5.out, HB5.out⟩
                    case measure => simp [intOf]; omega
        · obtain rfl : k = n1 := by omega
          have HT := Lib.hid (show (mirL cs xs zs).take k ++ xs.drop k = mirL cs xs zs by
            have := HN1.out
            rw [List.take_of_length_le (by rw [mirL_length]; omega), List.drop_of_length_le (by omega), List.append_nil])
          go_wp2
          go_ret2
          exact ⟨_, _, _, by rw [HC0.out]; rfl, by rw [HR0.out, ← HT.out]; exact HO.out, HB.out⟩
    · have hnn : ((n1 : Int) != (n2 : Int)) = true := by simpa using fun h => hl (by omega)
      have HC0 := Lib.hid (show mirC xs zs = 220 by unfold mirC; rw [if_pos HK.out, if_neg (by rw [HN1.out, HN2.out]; exact hl)])
      have HR0 := Lib.hid (show mirR cs xs zs = [] from if_neg (fun h => hl (by rw [← HN1.out, ← HN2.out]; exact h.2)))
      go_wp2
      go_ret2
      exact ⟨_, _, _, by rw [HC0.out]; rfl, by rw [HR0.out]; exact Own.nil _ _ _, Below.refl _ _⟩
  · have HC0 := Lib.hid (show mirC xs zs = 2 from if_neg hok)
    have HR0 := Lib.hid (show mirR cs xs zs = [] from if_neg (fun h => hok h.1))
    rw [show mayN zs = 2 from if_neg hok]
    go_wp2
    go_ret2
    exact ⟨_, _, _, by rw [HC0.out]; rfl, by rw [HR0.out]; exact Own.nil _ _ _, Below.refl _ _⟩
end Go.Proofs.Ytcgdhgdblieaiaa
