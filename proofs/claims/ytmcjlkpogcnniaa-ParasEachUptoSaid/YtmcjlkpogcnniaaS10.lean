/-
  The walk of the document's own classes of runes.
-/
import Derived.Test.YtmcjlkpogcnniaaS9
set_option linter.unusedVariables false
namespace Go.Proofs.Ytmcjlkpogcnniaa
open Go.RowKit

def RclR (w : World) (rest : Int) (a : Option Addr) (n cap : Nat) (cs : List CharD) (rs : List Int) (u v : Value) (wr : World) : Prop :=
  ∃ (k : Nat) (aO : Option Addr) (m cp : Nat), k ≤ rs.length ∧ u = .slice aO m cp ∧ v = .int .i64 k ∧ Own (w.heap.size + 1) 22 wr aO m cp (ivs .u8 ((rs.take k).map (clsOf rest cs))) ∧ PB w rest a n cap wr

set_option maxRecDepth 100000 in
set_option maxHeartbeats 4000000 in
theorem rClasses_walk (rest : Int) (a : Option Addr) (n cap : Nat) (cs : List CharD) (a1 : Option Addr) (n1 cap1 : Nat) (rs : List Int) (w : World) (hn : cs.length = n) (hm : n ≤ 9223372036854775807) (hc : Chars w a cs)
    (hn1 : rs.length = n1) (hm1 : n1 ≤ 4194304) (hc1 : Ints .i32 w a1 rs) :
    Calls Try.prog 18 #[.agg #[.int .u8 rest, .slice a n cap], .slice a1 n1 cap1] w fun e w' => ∃ a' m' c', e = .returned (.slice a' m' c') ∧ Own w.heap.size 22 w' a' m' c' (ivs .u8 (rs.map (clsOf rest cs))) ∧ Below w.heap.size w w' := by
  have HN := Lib.hid hn; clear hn
  have HC := Lib.hid hc; clear hc
  have HN1 := Lib.hid hn1; clear hn1
  have HC1 := Lib.hid hc1; clear hc1
  have HST := Lib.hid (PB.start w rest a n cap)
  have HSz := Lib.hid (show w.heap.size + 1 ≤ (w.alloc (.cells #[.int .u8 rest, .slice a n cap] 25)).heap.size by simp)
  go_enter Try.func18, Try.ntmps18
  go_wp2
  go_loopw [5, 6] (RclR w rest a n cap cs rs) (fun _ i _ => n1 - (intOf i).toNat)
  case atStart => exact ⟨0, none, 0, 0, Nat.zero_le _, rfl, rfl, Own.nil _ _ _, HST.out⟩
  case round =>
    obtain ⟨k, aO, m, cp, hk, rfl, rfl, hown, hpb⟩ := hrel
    have hkn : k ≤ n1 := by rw [← HN1.out]; exact hk
    clear hk
    have HO := Lib.hid hown; clear hown
    have HP := Lib.hid hpb; clear hpb
    have HB := Lib.hid HP.out.below
    have hblt : w.heap.size < wr.heap.size := (Array.getElem?_eq_some_iff.1 HP.out.blk).1
    by_cases hlt : k < n1
    · have hkl : k < rs.length := by rw [HN1.out]; exact hlt
      have hki : (k : Int) < (n1 : Int) := by omega
      obtain ⟨b, o, ha⟩ := HC1.out.some (by omega)
      subst ha
      have c1 := (HC1.out.below HB.out (Nat.le_refl _)).get k hkl
      have hlm := HO.out.lenI
      rw [List.length_map, List.length_take] at hlm
      have hmk : m = k := by omega
      subst hmk
      clear hlm
      have HX := Lib.hid (show (rs.take (m + 1)).map (clsOf rest cs) = (rs.take m).map (clsOf rest cs) ++ [clsOf rest cs rs[m]] by
            rw [List.take_succ_eq_append_getElem hkl, List.map_append]; rfl)
      have HRx := Lib.hid (HC1.out.get m hkl)
      generalize rs[m] = x at *
      have p0 := HP.out.c0
      have p1 := HP.out.c1
      go_wp2
      have HBd := Lib.hid (below_drewN HB.out 1)
      have HOw := Lib.hid (fun (w5 : World) (hb : Below wr.drew.heap.size wr.drew w5) => Own.below (w := wr.drew) (World.ownsRow.drew HO.out) hb (Nat.le_refl _))
      have HBv : Hid (∀ (w5 : World) (hb : Below wr.drew.heap.size wr.drew w5), Below (w.heap.size + 1) wr w5) := Lib.hid (fun w5 hb => (below_drewN (Below.refl _ wr) 1).trans (hb.mono hblt))
      have hb1lt : b < w.heap.size := by have := World.block_lt_of_cell? w _ HRx.out; simpa using this
      have HSw : Hid (∀ (w5 : World) (hb : Below (w.heap.size + 1) wr w5), w5.cell? ⟨w.heap.size, 0, none⟩ = some (.int .u8 rest) ∧ w5.cell? ⟨w.heap.size, 1, none⟩ = some (.slice a n cap) ∧ w5.cell? ⟨b, o + m, none⟩ = some (.int .i32 x)) := Lib.hid (fun w5 hb =>
        ⟨(HP.out.next1 hb).c0, (HP.out.next1 hb).c1, by rw [hb.cell (p := ⟨b, o + m, none⟩) (Nat.lt_succ_of_lt hb1lt)]; exact c1⟩)
      have HS5 : Hid (∀ (w5 : World) (hb : Below wr.drew.heap.size wr.drew w5), w.heap.size + 1 ≤ w5.heap.size) := Lib.hid (fun w5 hb => Nat.le_trans hblt hb.size)
      have HA5 : Hid (∀ (w5 : World) (ob : Obj) (hb : Below wr.drew.heap.size wr.drew w5), Below (w.heap.size + 1) wr (w5.alloc ob)) := Lib.hid (fun w5 ob hb => (HBv.out w5 hb).alloc (HS5.out w5 hb) ob)
      have HL5 : Hid (∀ (w5 : World) (ob : Obj) (hb : Below wr.drew.heap.size wr.drew w5), w.heap.size + 1 ≤ (w5.alloc ob).heap.size) := Lib.hid (fun w5 ob hb => Nat.le_trans (HS5.out w5 hb) (by simp))
      have hbnd1 : (m + 1) * 1 ≤ 140737488355328 := by omega
      have hbnd2 : m + 1 ≤ maxLen := by unfold maxLen; omega
      go_region_held3 (fun w' : World => w'.cell? ⟨w.heap.size, 0, none⟩ = some (.int .u8 rest) ∧ w'.cell? ⟨w.heap.size, 1, none⟩ = some (.slice a n cap) ∧ w'.cell? ⟨b, o + m, none⟩ = some (.int .i32 x)) (first | exact ⟨p0, p1, c1⟩ | exact HSw.out _ (HBv.out _ hb5) | exact HSw.out _ (HA5.out _ _ hb5) | exact HSw.out _ ((HA5.out _ _ hb5).trans (Own.app (World.ownsRow.alloc (HOw.out _ hb5) _) hg9 (HL5.out _ _ hb5)))) (first
        | (go_at_call 44; refine (rRune_walk _ _).mono ?_; rintro e w' ⟨rfl, rfl⟩)
        | (go_at_call 39; refine (PClass_walk rest a n cap cs _ _ HN.out hm (HC.out.below HBd.out (Nat.le_refl _))).mono ?_; rintro e w5 ⟨rfl, hb5⟩)
        | (go_at_call 38; refine (rClass_walk _ _).mono ?_; rintro e w' ⟨rfl, rfl⟩)
        | (refine step_appS (m := 1) Try.elemClass rfl (.tmp 13) (.tmp 22) rfl (World.ownsRow.alloc (HOw.out _ hb5) _) (HL5.out _ _ hb5) (ys := [.int .u8 (clsOf rest cs x)]) rfl (one_vals0 _ _ _) (by simp) (by intro u hu; simp at hu; subst hu; rfl) hbnd1 hbnd2 rfl rfl ?_; intro a9 c9 w9 ho9 hg9 hb9))
      all_goals
        have HO9 := Lib.hid ho9
        have HB9 := Lib.hid ((HA5.out _ _ hb5).trans (Own.app (World.ownsRow.alloc (HOw.out _ hb5) _) hg9 (HL5.out _ _ hb5)))
        clear ho9 hg9 hb9 hb5
        go_wp2
        go_roundw
        case rel =>
          refine ⟨m + 1, _, _, _, by have := HN1.out; omega, rfl, by go_num, ?_, HP.out.next1 HB9.out⟩
          rw [HX.out, ivs_append]
          exact HO9.out
        case measure => simp [intOf]; omega
    · obtain rfl : k = n1 := by omega
      have HT : Hid (rs.take k = rs) := Lib.hid (List.take_of_length_le (by have := HN1.out; omega))
      go_wp2
      go_ret
      exact ⟨_, _, _, rfl, by have := HO.out; rw [HT.out] at this; exact this.mono (by omega), HB.out⟩
end Go.Proofs.Ytmcjlkpogcnniaa
