/-
  Contracts of two iterators: over a list of numbers; over the places of joined pieces.
-/
import Derived.Test.YtkcdcgijbaepmaaW20
import Derived.Test.YtkcdcgijbaepmaaJ5
import Derived.Test.YtkcdcgijbaepmaaRF1
import Derived.RangeFuncBound
import Derived.Shelf.RegionOpen
import Derived.OwnWalkIn
import Derived.TacticsInMore
import Derived.LoopNIn
import Derived.LoopIn
import Derived.Deep.Cut
set_option linter.unusedVariables false
namespace Go.Proofs.Ytkcdcgijbaepmaa
open Go.RowKit Go.Shelf
attribute [local go_sem] Oper.semAt_some

def encI (x : Int) : Array Value := #[.int .i64 x]
theorem Ints.kept {k : IntKind} {T R : Nat → Prop} {W W' : World} {a : Option Addr} {zs : List Int} (h : Ints k W a zs) (hk : Kept T R W W') (ht : ∀ b o, a = Option.some ⟨b, o, none⟩ → T b ∨ R b) : Ints k W' a zs := by
  intro i hi
  obtain ⟨b, o, rfl, h1⟩ := h i hi
  exact ⟨b, o, rfl, hk.cell h1 (ht b o rfl)⟩
def ValR (J : (Nat → Prop) → List Int → World → Prop) (zs : List Int) (a : Option Addr) (v : Value) (wr : World) : Prop :=
  ∃ k : Nat, k ≤ zs.length ∧ v = .int .i64 k ∧ J (fun _ => False) (zs.take k) wr ∧ Ints .i64 wr a zs

set_option maxRecDepth 100000 in
set_option maxHeartbeats 4000000 in
theorem values_stops (zs : List Int) (a : Option Addr) (n c B1 : Nat) (R : Nat → Prop) (w : World) (hn : zs.length = n) (hm : n ≤ 1048576) (hc : Ints .i64 w a zs) (hR : ∀ b o, a = some ⟨b, o, none⟩ → 0 < n → R b)
    (h1 : w.cell? ⟨B1, 0, none⟩ = some (.slice a n c)) :
    SeqX Try.prog 65 #[.pointer (some ⟨B1, 0, none⟩)] encI R (fun xs => xs = zs) (fun pre => ∃ k, k < zs.length ∧ pre = zs.take (k + 1)) zs.length w := by
  intro l J Jx W hW hJ hJx hY h0
  refine callsIn_wide.2 ?_
  have HN := Lib.hid hn; clear hn
  have HC := Lib.hid (hc.below hW (Nat.le_refl _)); clear hc
  have HJ := Lib.hid hJ; clear hJ
  have HJx := Lib.hid hJx; clear hJx
  have HY := Lib.hid hY; clear hY
  have H0 := Lib.hid h0; clear h0
  have HR := Lib.hid hR; clear hR
  have q1 : W.cell? ⟨B1, 0, none⟩ = some (.slice a n c) := by rw [hW.cell (p := ⟨B1, 0, none⟩) (World.block_lt_of_cell? w _ h1)]; exact h1
  clear h1 hW
  have HSt : Hid (J (fun _ => False) (zs.take 0) W) := Lib.hid (by simpa using H0.out)
  clear H0
  go_enter Try.func65, Try.ntmps65
  go_wp2
  go_loopw [7] (ValR J zs a) (fun v _ => n - (intOf v).toNat)
  case atStart => exact ⟨0, Nat.zero_le _, rfl, HSt.out, HC.out⟩
  case round =>
    obtain ⟨k, hk, rfl, hj, hi⟩ := hrel
    have HJk := Lib.hid hj; clear hj
    have HI := Lib.hid hi; clear hi
    have hkm : k ≤ n := by rw [← HN.out]; exact hk
    clear hk
    by_cases hlt : k < n
    · have hkl : k < zs.length := by rw [HN.out]; exact hlt
      have HTk := Lib.hid (show zs.take (k + 1) = zs.take k ++ [zs[k]] from List.take_succ_eq_append_getElem hkl)
      obtain ⟨b, o, ha⟩ := HI.out.some (by omega)
      subst ha
      have k1 := HI.out.get k hkl
      generalize zs[k] = x at *
      have hki : (k : Int) < (n : Int) := by omega
      obtain ⟨fn, tmps, assign, body, hy, hR⟩ := HY.out (fun _ => False) (zs.take k) x wr HJk.out (by rw [List.length_take]; omega) ⟨k, hkl, HTk.out.symm⟩
      dsimp only [encI] at hy
      have HRr := Lib.hid hR; clear hR
      go_upto_region 3 with (fail)
      refine (wpIn_wide (n := 2)).1 ?_
      gi_wp2
      refine HRr.out.mono ?_
      rintro e W3 (⟨rfl, hJ3, hk3⟩ | ⟨rfl, hx3⟩)
      · rw [← HTk.out] at hJ3
        have HN3 : Hid (J (fun _ => False) (zs.take (k + 1)) W3 ∧ Ints .i64 W3 (some ⟨b, o, none⟩) zs) := Lib.hid ⟨hJ3, HI.out.kept hk3 (fun b' o' e => .inr (HR.out b' o' e (by omega)))⟩
        clear hJ3 hk3 hy
        gi_wp2
        go_wp2
        go_roundw
        case rel => exact ⟨k + 1, hkl, by go_num, HN3.out.1, HN3.out.2⟩
        case measure => simp [intOf]; omega
      · rw [← HTk.out] at hx3
        have HX3 := Lib.hid hx3
        clear hx3 hy
        gi_wp2
        go_wp2
        refine bodyPost_ret (results_none rfl _ _ _) rfl ?_
        exact ⟨⟨_, rfl⟩, .inr ⟨_, _, ⟨k, hkl, rfl⟩, HX3.out⟩⟩
    · obtain rfl : k = n := by omega
      have HTk := Lib.hid (show zs.take k = zs from List.take_of_length_le (by rw [HN.out]; exact Nat.le_refl _))
      have hki : ¬ (k : Int) < (k : Int) := by omega
      go_wp2
      go_end0
      have hJz := HJk.out
      rw [HTk.out] at hJz
      exact ⟨⟨_, rfl⟩, .inl ⟨_, hJz⟩⟩

structure PlaSt (J : (Nat → Prop) → List Int → World → Prop) (l : List PD) (a : Option Addr) (j k : Nat) (T : Nat → Prop) (wr : World) : Prop where
  j : J T (toldL l j k) wr
  pieces : PiecesAt wr a l
  ta : ∀ b o, a = some ⟨b, o, none⟩ → ¬ T b
def PlaR (J : (Nat → Prop) → List Int → World → Prop) (l : List PD) (a : Option Addr) (v : Value) (wr : World) : Prop :=
  ∃ (j : Nat) (T : Nat → Prop), j ≤ l.length ∧ v = .int .i64 j ∧ PlaSt J l a j 0 T wr
def PlaS (J : (Nat → Prop) → List Int → World → Prop) (l : List PD) (a : Option Addr) (j : Nat) (p : PD) (g : Nat) (v : Value) (wr : World) : Prop :=
  ∃ (k : Nat) (T : Nat → Prop), p.f + k ≤ p.t ∧ v = .int .i64 (p.f + k) ∧ PlaSt J l a j k T wr ∧ wr.heap[g]? = some (.cells #[.int .i64 p.f, .int .i64 p.t] 45 (0, 0)) ∧ T g
theorem PiecesAt.kept {T R : Nat → Prop} {W W' : World} {a : Option Addr} {ps : List PD} (h : PiecesAt W a ps) (hk : Kept T R W W') (ht : ∀ b o, a = Option.some ⟨b, o, none⟩ → T b ∨ R b) : PiecesAt W' a ps := by
  intro i hi
  obtain ⟨b, o, rfl, h1, h2⟩ := h i hi
  exact ⟨b, o, rfl, hk.cell h1 (ht b o rfl), hk.cell h2 (ht b o rfl)⟩

set_option maxRecDepth 100000 in
set_option maxHeartbeats 4000000 in
theorem places_stops (l : List PD) (a : Option Addr) (n c B1 : Nat) (R : Nat → Prop) (w : World) (hn : l.length = n) (hm : n ≤ 1048576) (hc : PiecesAt w a l) (hR : ∀ b o, a = some ⟨b, o, none⟩ → R b) (hnf : NF l)
    (h1 : w.cell? ⟨B1, 0, none⟩ = some (.slice a n c)) (hwf : ∀ p ∈ l, -9223372036854775808 ≤ p.f ∧ p.t ≤ 9223372036854775807) :
    SeqX Try.prog 56 #[.pointer (some ⟨B1, 0, none⟩)] encI R (fun xs => xs = placesL l) (fun pre => ∃ k, k < (placesL l).length ∧ pre = (placesL l).take (k + 1)) (placesL l).length w := by
  intro lp J Jx W hW hJ hJx hY h0
  refine callsIn_wide.2 ?_
  have HN := Lib.hid hn; clear hn
  have HC := Lib.hid (hc.below hW (Nat.le_refl _)); clear hc
  have HJ := Lib.hid hJ; clear hJ
  have HJx := Lib.hid hJx; clear hJx
  have HY := Lib.hid hY; clear hY
  have H0 := Lib.hid h0; clear h0
  have HR := Lib.hid hR; clear hR
  have HW := Lib.hid hwf; clear hwf
  have q1 : W.cell? ⟨B1, 0, none⟩ = some (.slice a n c) := by rw [hW.cell (p := ⟨B1, 0, none⟩) (World.block_lt_of_cell? w _ h1)]; exact h1
  clear h1 hW
  have HSt : Hid (PlaSt J l a 0 0 (fun _ => False) W) := Lib.hid ⟨by rw [toldL_zero]; exact H0.out, HC.out, fun _ _ _ h => h⟩
  clear H0
  go_enter Try.func56, Try.ntmps56
  go_wp2
  go_loopw [8] (PlaR J l a) (fun v _ => n - (intOf v).toNat)
  case atStart => exact ⟨0, _, Nat.zero_le _, rfl, HSt.out⟩
  case round =>
    obtain ⟨j, T, hj, rfl, hst⟩ := hrel
    have HST := Lib.hid hst; clear hst
    have hjn : j ≤ n := by rw [← HN.out]; exact hj
    clear hj
    by_cases hlt : j < n
    · have hjl : j < l.length := by rw [HN.out]; exact hlt
      obtain ⟨b, o, ha⟩ := HST.out.pieces.some (by omega)
      subst ha
      obtain ⟨k1, k2⟩ := HST.out.pieces.get j hjl
      have HNx := Lib.hid (fun k => toldL_next l j k hjl)
      have HOv := Lib.hid (fun k => toldL_over l j k hjl)
      have HPre := Lib.hid (fun k => toldL_prefix l j k hjl)
      have HLt := Lib.hid (fun k => placesL_length_take l j k hjl)
      have hpos := hnf.pos _ (List.getElem_mem hjl)
      obtain ⟨hw1, hw2⟩ := HW.out _ (List.getElem_mem hjl)
      generalize l[j] = p at *
      have hki : (j : Int) < (n : Int) := by omega
      have HBl := Lib.hid (show (wr.alloc (.cells #[.int .i64 p.f, .int .i64 p.t] 45)).heap[wr.heap.size]? = some (.cells #[.int .i64 p.f, .int .i64 p.t] 45 (0, 0)) from heap_alloc_new wr _)
      have HSz := Lib.hid (show (wr.alloc (.cells #[.int .i64 p.f, .int .i64 p.t] 45)).heap.size = wr.heap.size + 1 by simp)
      have HWA : Hid (Below wr.heap.size wr (wr.alloc (.cells #[.int .i64 p.f, .int .i64 p.t] 45))) := Lib.hid ((Below.refl _ _).alloc (Nat.le_refl _) _)
      obtain ⟨T6, hT6⟩ : ∃ T6 : Nat → Prop, T6 = fun k => T k ∨ k = wr.heap.size := ⟨_, rfl⟩
      have HT6 := Lib.hid (show ∀ k, T6 k → T k ∨ k = wr.heap.size from fun k h => by rw [hT6] at h; exact h)
      have HTg := Lib.hid (show T6 wr.heap.size by rw [hT6]; exact .inr rfl)
      have HJ6 := Lib.hid (HJ.out T T6 _ wr _ HST.out.j (Off.of_below HWA.out) (fun k h => by rw [hT6] at h; rcases h with h | h; exact .inl h; exact .inr ⟨by omega, by rw [HSz.out]; omega⟩))
      clear hT6
      have HP6 := Lib.hid (HST.out.pieces.below HWA.out (Nat.le_refl _))
      have hbl : b < wr.heap.size := World.block_lt_of_cell? wr ⟨b, o + j * 2, none⟩ k1
      have HTa := Lib.hid (show ¬ T6 b from fun h => by rcases HT6.out b h with h | h; exact HST.out.ta b o rfl h; omega)
      obtain ⟨g, hg⟩ : ∃ g, g = wr.heap.size := ⟨_, rfl⟩
      go_upto_region 3 with (fail)
      rw [← hg] at HBl HTg ⊢
      generalize (wr.alloc (.cells #[.int .i64 p.f, .int .i64 p.t] 45)) = w6 at *
      have HS6 : Hid (PlaSt J l (some ⟨b, o, none⟩) j 0 T6 w6) := Lib.hid ⟨HJ6.out, HP6.out, fun b' o' e => by simp only [Option.some.injEq, Addr.mk.injEq, and_true] at e; obtain ⟨rfl, rfl⟩ := e; exact HTa.out⟩
      have r0 := cell_of_row w6 g 0 _ _ (0, 0) HBl.out
      have r1 := cell_of_row w6 g 1 _ _ (0, 0) HBl.out
      simp at r0 r1
      clear hg k1 k2 HJ6 HP6 HTa HWA HSz HST hbl
      go_wp2
      obtain ⟨wo, rfl⟩ : ∃ wo : World, wo = wr := ⟨_, rfl⟩
      clear r0 r1
      go_loopw [5] (PlaS J l (some ⟨b, o, none⟩) j p g) (fun v _ => (p.t - intOf v).toNat)
      case atStart => exact ⟨0, T6, by omega, by simp, HS6.out, HBl.out, HTg.out⟩
      case round =>
        obtain ⟨k, Tk, hk, rfl, hst, hbk, htk⟩ := hrel
        have HSTk := Lib.hid hst; clear hst
        have HBk := Lib.hid hbk; clear hbk
        have r0 := cell_of_row wr g 0 _ _ (0, 0) HBk.out
        have r1 := cell_of_row wr g 1 _ _ (0, 0) HBk.out
        simp at r0 r1
        by_cases hlk : p.f + k < p.t
        · have HTk := Lib.hid (HNx.out k hlk)
          have hlen := HLt.out k hlk
          have HPr := Lib.hid (HPre.out (k + 1) (by omega))
          have HPl := Lib.hid (show (toldL l j (k + 1)).length = (toldL l j k).length + 1 by rw [HTk.out]; simp)
          obtain ⟨fn, tmps, assign, body, hy, hR⟩ := HY.out Tk (toldL l j k) (p.f + k) wr HSTk.out.j hlen ⟨_, hlen, by rw [← HTk.out, ← HPl.out]; exact HPr.out⟩
          have HL := Lib.hid hlen; clear hlen
          dsimp only [encI] at hy
          have HRr := Lib.hid hR; clear hR
          go_upto_region 6 with (fail)
          refine (wpIn_wide (n := 2)).1 ?_
          gi_wp2
          refine HRr.out.mono ?_
          rintro e W3 (⟨rfl, hJ3, hk3⟩ | ⟨rfl, hx3⟩)
          · rw [← HTk.out] at hJ3
            have HN3 : Hid (PlaSt J l (some ⟨b, o, none⟩) j (k + 1) Tk W3) := Lib.hid ⟨hJ3, HSTk.out.pieces.kept hk3 (fun b' o' e => .inr (HR.out b' o' e)), HSTk.out.ta⟩
            have HB3 := Lib.hid (hk3.below HBk.out (.inl htk))
            clear hJ3 hk3 hy r0 r1
            gi_wp2
            go_wp2
            go_roundw
            case rel => exact ⟨k + 1, Tk, by omega, by go_num, HN3.out, HB3.out, htk⟩
            case measure => simp [intOf]; omega
          · rw [← HTk.out] at hx3
            have HX3 := Lib.hid hx3
            clear hx3 hy r0 r1
            gi_wp2
            go_wp2
            refine bodyPost_ret (results_none rfl _ _ _) rfl ?_
            exact ⟨⟨_, rfl⟩, .inr ⟨_, _, ⟨(toldL l j k).length, HL.out, by rw [← HPl.out]; exact HPr.out⟩, HX3.out⟩⟩
        · have HTk := Lib.hid (HOv.out k (by omega))
          have HN3 : Hid (PlaSt J l (some ⟨b, o, none⟩) (j + 1) 0 Tk wr) := Lib.hid ⟨by rw [← HTk.out]; exact HSTk.out.j, HSTk.out.pieces, HSTk.out.ta⟩
          go_wp2
          go_roundw
          case rel => exact ⟨j + 1, Tk, by rw [HN.out]; omega, by go_num, HN3.out⟩
          case measure => simp [intOf]; omega
    · obtain rfl : j = n := by omega
      have HTk := Lib.hid (show toldL l j 0 = placesL l from toldL_all l j (by rw [HN.out]; exact Nat.le_refl _))
      have hki : ¬ (j : Int) < (j : Int) := by omega
      go_wp2
      go_end0
      have hJz := HST.out.j
      rw [HTk.out] at hJz
      exact ⟨⟨_, rfl⟩, .inl ⟨_, hJz⟩⟩
end Go.Proofs.Ytkcdcgijbaepmaa
