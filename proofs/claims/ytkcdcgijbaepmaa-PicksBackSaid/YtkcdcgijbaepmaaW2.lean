/-
  Walks: the library's search for the first empty piece, the removal of the empty ones.
-/
import Derived.Test.YtkcdcgijbaepmaaW1
set_option linter.unusedVariables false
namespace Go.Proofs.Ytkcdcgijbaepmaa
open Go.RowKit

def deadP (p : PD) : Prop := p.t ≤ p.f
instance (p : PD) : Decidable (deadP p) := by unfold deadP; infer_instance
theorem live_take (ps : List PD) (k : Nat) (h : k < ps.length) : liveL (ps.take (k + 1)) = liveL (ps.take k) ++ (if ps[k].t ≤ ps[k].f then [] else [ps[k]]) := by
  unfold liveL
  rw [List.take_succ_eq_append_getElem h, List.filter_append]
  congr 1
  by_cases hd : ps[k].t ≤ ps[k].f
  · rw [if_pos hd, List.filter_cons_of_neg (by simp; omega)]; rfl
  · rw [if_neg hd, List.filter_cons_of_pos (by simp; omega)]; rfl
theorem live_take_all (ps : List PD) (k : Nat) (hk : k ≤ ps.length) (h : ∀ j, (hj : j < k) → (hl : j < ps.length) → ¬ ps[j].t ≤ ps[j].f) : liveL (ps.take k) = ps.take k := by
  unfold liveL
  rw [List.filter_eq_self]
  intro p hp
  obtain ⟨j, hj, rfl⟩ := List.mem_iff_getElem.1 hp
  have hj' : j < k := by simp at hj; omega
  have := h j hj' (by omega)
  simp only [List.getElem_take]
  exact decide_eq_true (by omega)
theorem live_le (ps : List PD) : (liveL ps).length ≤ ps.length := List.length_filter_le _ _

def NoneTo (ps : List PD) (k : Nat) : Prop := ∀ j, (hj : j < k) → (hl : j < ps.length) → ¬ ps[j].t ≤ ps[j].f
def FirstAt (ps : List PD) (e : Ending) : Prop := (∃ i, ∃ h : i < ps.length, e = .returned (.int .i64 (i : Nat)) ∧ ps[i].t ≤ ps[i].f ∧ NoneTo ps i) ∨ (e = .returned (.int .i64 (-1)) ∧ NoneTo ps ps.length)
def IdxR (w : World) (n : Nat) (ps : List PD) (i : Value) (wr : World) : Prop := ∃ k : Nat, k ≤ n ∧ i = .int .i64 k ∧ NoneTo ps k ∧ Below w.heap.size w wr
theorem IndexGone_walk (a : Option Addr) (n c : Nat) (ps : List PD) (w : World) (hn : ps.length = n) (hlt : n ≤ 1048576) (hc : PiecesAt w a ps) :
    Calls Try.prog 59 #[.slice a n c, .func (.func 50) #[] #[]] w fun e w' =>
      FirstAt ps e ∧ Below w.heap.size w w' := by
  have HN := Lib.hid hn; clear hn
  have HC := Lib.hid hc; clear hc
  go_enter Try.func59, Try.ntmps59
  go_wp2
  go_loopw [8] (IdxR w n ps) (fun i _ => n - (intOf i).toNat)
  case atStart => exact ⟨0, Nat.zero_le _, rfl, fun j hj => absurd hj (Nat.not_lt_zero _), Below.refl _ _⟩
  case round =>
    obtain ⟨k, hk, rfl, hall, hbel⟩ := hrel
    have HA := Lib.hid hall; clear hall
    have HB := Lib.hid hbel; clear hbel
    by_cases hkn : k < n
    · have hkl : k < ps.length := by rw [HN.out]; exact hkn
      obtain ⟨b, o, ha⟩ := HC.out.some (by omega)
      subst ha
      obtain ⟨c0, c1⟩ := (HC.out.below HB.out (Nat.le_refl _)).get k hkl
      obtain ⟨p, hp⟩ : ∃ p, p = ps[k] := ⟨_, rfl⟩
      rw [← hp] at c0 c1
      have HP := Lib.hid hp; clear hp
      have hki : (k : Int) < (n : Int) := by omega
      go_wp2_with fail
      refine (gone_walk p wr).mono ?_
      rintro e w2 ⟨rfl, hb2⟩
      have HB2 := Lib.hid (HB.out.trans (hb2.mono HB.out.size)); clear hb2
      by_cases hd : p.t ≤ p.f
      · have HD := Lib.hid hd
        rw [decide_eq_true hd]
        clear hd
        go_wp2
        go_ret
        exact ⟨.inl ⟨k, hkl, rfl, by rw [← HP.out]; exact HD.out, fun j hj hl => HA.out j hj hl⟩, HB2.out⟩
      · have HD := Lib.hid hd
        rw [decide_eq_false hd]
        clear hd
        go_wp2
        go_roundw
        case rel =>
          refine ⟨k + 1, by omega, by go_num, fun j hj hl => ?_, HB2.out⟩
          by_cases e : j = k
          · subst e; rw [← HP.out]; have := HD.out; omega
          · exact HA.out j (by omega) hl
        case measure => simp [intOf]; omega
    · have HAll : Hid (NoneTo ps ps.length) := Lib.hid (fun j hj hl => HA.out j (by have := HN.out; omega) hl)
      go_wp2
      go_ret
      exact ⟨.inr ⟨rfl, HAll.out⟩, HB.out⟩

theorem own_cut {B : Nat} {E : TypeId} {w : World} {g n c : Nat} {xs : List Value} (h : w.ownsRow B E 2 (.slice (some ⟨g, 0, none⟩) n c) n xs) (k : Nat) (hk : k ≤ n) : w.ownsRow B E 2 (.slice (some ⟨g, 0, none⟩) k c) k (xs.take (k * 2)) := by
  have hl := h.1
  refine ⟨by rw [List.length_take]; omega, ?_⟩
  rcases h.2 with ⟨e, _⟩ | ⟨g', cap, cur, e, hbg, hgg, hnc, hcm, hcs, htake⟩
  · simp at e
  · simp only [Value.slice.injEq, Option.some.injEq, Addr.mk.injEq, and_true, true_and] at e
    obtain ⟨rfl, rfl⟩ := e
    refine .inr ⟨g, c, cur, rfl, hbg, hgg, by omega, hcm, hcs, ?_⟩
    have e2 : cur.toList.take (k * 2) = (cur.toList.take (n * 2)).take (k * 2) := by rw [List.take_take, Nat.min_eq_left (by omega)]
    rw [e2, htake]
theorem stored_beyond {B : Nat} {E : TypeId} {g n c : Nat} (m : Nat) : ∀ (vs : List Value) (o : Nat) (w : World) (xs : List Value), w.ownsRow B E 2 (.slice (some ⟨g, 0, none⟩) n c) n xs → m ≤ o → ∃ xs', (w.setCells g o vs).ownsRow B E 2 (.slice (some ⟨g, 0, none⟩) n c) n xs' ∧ xs'.take m = xs.take m
  | [], o, w, xs, h, ho => ⟨xs, h, rfl⟩
  | v :: r, o, w, xs, h, ho => by
    obtain ⟨xs', h1, h2⟩ := stored_beyond m r (o + 1) (w.setCell ⟨g, o, none⟩ v) (xs.set o v) (World.ownsRow.stored h o v).1 (by omega)
    refine ⟨xs', h1, h2.trans ?_⟩
    apply List.ext_getElem?
    intro i
    by_cases hi : i < m
    · rw [List.getElem?_take_of_lt hi, List.getElem?_take_of_lt hi, List.getElem?_set, if_neg (by omega)]
    · rw [List.getElem?_take_eq_none (by omega), List.getElem?_take_eq_none (by omega)]
theorem OwnP.cleared {B : Nat} {w : World} {g n c : Nat} {L : List PD} (h : OwnP B w (some ⟨g, 0, none⟩) n c L) (k : Nat) (hk : k ≤ n) (vs : List Value) : OwnP B (w.setCells g (k * 2) vs) (some ⟨g, 0, none⟩) k c (L.take k) := by
  have hl := h.len
  obtain ⟨xs', h1, h2⟩ := stored_beyond (k * 2) vs (k * 2) w (flatP L) h (Nat.le_refl _)
  have h3 := own_cut h1 k hk
  rw [h2] at h3
  have e3 : flatP L = flatP (L.take k) ++ flatP (L.drop k) := by rw [← flatP_append, List.take_append_drop]
  rw [e3, List.take_left' (by rw [flatP_length, List.length_take]; omega)] at h3
  exact h3
theorem zero_one (n : Nat) : ∀ v ∈ (Builtin.zeroCells (Value.agg #[.int .i64 0, .int .i64 0]).cells n).toList, v.oneCell' = true := by
  intro v hv
  simp only [Builtin.zeroCells, Array.toList_map, List.mem_map] at hv
  obtain ⟨i, _, rfl⟩ := hv
  have : i % (Value.agg #[.int .i64 0, .int .i64 0]).cells.size = 0 ∨ i % (Value.agg #[.int .i64 0, .int .i64 0]).cells.size = 1 := by
    have := Nat.mod_lt i (show 0 < (Value.agg #[.int .i64 0, .int .i64 0]).cells.size by decide)
    change i % 2 = 0 ∨ i % 2 = 1
    omega
  rcases this with h | h <;> rw [h] <;> rfl
end Go.Proofs.Ytkcdcgijbaepmaa
