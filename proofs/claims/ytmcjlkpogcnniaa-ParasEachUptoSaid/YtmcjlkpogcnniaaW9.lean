/-
  The walk of the classes of runes, by props made by hand.
-/
import Derived.Test.YtmcjlkpogcnniaaW8
import Derived.Deep.RegionHeld3
set_option linter.unusedVariables false
namespace Go.Proofs.Ytmcjlkpogcnniaa
open Go.RowKit

def clsOf (rest : Int) (cs : List CharD) (r : Int) : Int := knownC (classN rest cs (askedR r))
theorem nilClass (v : Value) (w : World) : Sem.run Try.prog (nilAhead 212 25 v "Class") w = .ok (some false) w := by kernel_rfl
theorem one_vals0 (w : World) (u : Value) (E : TypeId) : Vals (w.alloc (.cells #[u] E)) (some ⟨w.heap.size, 0, none⟩) [u] := by
  intro i hi
  obtain rfl : i = 0 := by simpa using hi
  exact ⟨w.heap.size, 0, rfl, by rw [cell_of_row (w.alloc (.cells #[u] E)) w.heap.size _ _ _ (0, 0) (heap_alloc_new w _)]; rfl⟩
def ClsR (w : World) (rest : Int) (cs : List CharD) (rs : List Int) (u v : Value) (wr : World) : Prop :=
  ∃ (k : Nat) (a : Option Addr) (m cp : Nat), k ≤ rs.length ∧ u = .slice a m cp ∧ v = .int .i64 k ∧ Own w.heap.size 22 wr a m cp (ivs .u8 ((rs.take k).map (clsOf rest cs))) ∧ Below w.heap.size w wr

set_option maxRecDepth 100000 in
set_option maxHeartbeats 2000000 in
theorem Classes_walk (rest : Int) (a : Option Addr) (n cap : Nat) (cs : List CharD) (a1 : Option Addr) (n1 cap1 : Nat) (rs : List Int) (w : World) (hn : cs.length = n) (hm : n ≤ 9223372036854775807) (hc : Chars w a cs)
    (hn1 : rs.length = n1) (hm1 : n1 ≤ 4194304) (hc1 : Ints .i32 w a1 rs) :
    Calls Try.prog 17 #[.iface 25 (.agg #[.int .u8 rest, .slice a n cap]), .slice a1 n1 cap1] w fun e w' => ∃ a' m' c', e = .returned (.tuple #[.slice a' m' c', .int .i64 0]) ∧ Own w.heap.size 22 w' a' m' c' (ivs .u8 (rs.map (clsOf rest cs))) ∧ Below w.heap.size w w' := by
  have HN := Lib.hid hn; clear hn
  have HC := Lib.hid hc; clear hc
  have HN1 := Lib.hid hn1; clear hn1
  have HC1 := Lib.hid hc1; clear hc1
  go_enter Try.func17, Try.ntmps17
  go_wp2
  go_loopw [6, 13] (ClsR w rest cs rs) (fun _ i _ => n1 - (intOf i).toNat)
  case atStart => exact ⟨0, none, 0, 0, Nat.zero_le _, rfl, rfl, Own.nil _ _ _, Below.refl _ _⟩
  case round =>
    obtain ⟨k, aO, m, cp, hk, rfl, rfl, hown, hbel⟩ := hrel
    have hkn : k ≤ n1 := by rw [← HN1.out]; exact hk
    clear hk
    have HO := Lib.hid hown; clear hown
    have HB := Lib.hid hbel; clear hbel
    by_cases hlt : k < n1
    · have hkl : k < rs.length := by rw [HN1.out]; exact hlt
      obtain ⟨b, o, ha⟩ := HC1.out.some (by omega)
      subst ha
      have c1 := (HC1.out.below HB.out (Nat.le_refl _)).get k hkl
      have hlm := HO.out.lenI
      rw [List.length_map, List.length_take] at hlm
      have hmk : m = k := by omega
      subst hmk
      clear hlm
      go_wp2
      have HBd := Lib.hid (below_drewN HB.out 1)
      have HOw := Lib.hid (fun (w5 : World) (hb : Below wr.drew.heap.size wr.drew w5) => Own.below (w := wr.drew) (World.ownsRow.drew HO.out) hb (Nat.le_refl _))
      have HBw := Lib.hid (fun (w5 : World) (hb : Below wr.drew.heap.size wr.drew w5) => HBd.out.trans (hb.mono HBd.out.size))
      have hnil := nilClass
      have hbnd1 : (m + 1) * 1 ≤ 140737488355328 := by omega
      have hbnd2 : m + 1 ≤ maxLen := by unfold maxLen; omega
      go_region_held3 (fun _ => True) (exact True.intro) (first
        | (go_at_call 43; refine (asked_walk _ _).mono ?_; rintro e w' ⟨rfl, rfl⟩)
        | (go_at_call 39; refine (PClass_walk rest a n cap cs _ _ HN.out hm (HC.out.below HBd.out (Nat.le_refl _))).mono ?_; rintro e w5 ⟨rfl, hb5⟩)
        | (go_at_call 42; refine (known_walk _ _).mono ?_; rintro e w' ⟨rfl, rfl⟩)
        | (refine step_appS (m := 1) Try.elemClass rfl (.tmp 17) (.tmp 26) rfl (World.ownsRow.alloc (HOw.out _ hb5) _) (by have := (HBw.out _ hb5).size; simp; omega) (ys := [.int .u8 (clsOf rest cs rs[m])]) rfl (one_vals0 _ _ _) (by simp) (by intro u hu; simp at hu; subst hu; rfl) hbnd1 hbnd2 rfl rfl ?_; intro a9 c9 w9 ho9 hg9 hb9))
      all_goals
        have HO9 := Lib.hid ho9
        have HB9 := Lib.hid ((HBw.out _ hb5).trans (((Below.refl _ _).alloc (Nat.le_refl _) _ |>.mono (HBw.out _ hb5).size).trans (Own.app (World.ownsRow.alloc (HOw.out _ hb5) _) hg9 (by have := (HBw.out _ hb5).size; simp; omega))))
        clear ho9 hg9 hb9 hb5
        go_wp2
        go_roundw
        case rel =>
          refine ⟨m + 1, _, _, _, by have := HN1.out; omega, rfl, by go_num, ?_, HB9.out⟩
          have e : (rs.take (m + 1)).map (clsOf rest cs) = (rs.take m).map (clsOf rest cs) ++ [clsOf rest cs rs[m]] := by
            rw [List.take_succ_eq_append_getElem hkl, List.map_append]; rfl
          rw [e, ivs_append]
          exact HO9.out
        case measure => simp [intOf]; omega
    · obtain rfl : k = n1 := by omega
      have HT : Hid (rs.take k = rs) := Lib.hid (List.take_of_length_le (by have := HN1.out; omega))
      go_wp2
      go_ret2
      exact ⟨_, _, _, rfl, by have := HO.out; rw [HT.out] at this; exact this, HB.out⟩
end Go.Proofs.Ytmcjlkpogcnniaa
