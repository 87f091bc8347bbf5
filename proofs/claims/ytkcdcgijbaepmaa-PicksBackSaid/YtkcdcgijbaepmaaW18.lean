/-
  Walks: the document's list of the characters of a text.
-/
import Derived.Test.YtkcdcgijbaepmaaW17
set_option linter.unusedVariables false
namespace Go.Proofs.Ytkcdcgijbaepmaa
open Go.RowKit

theorem Try.elemSpot : ElemN Try.prog 66 69 (.agg #[.int .i64 0, .int .i64 0, .int .i32 0, .int .i64 0]) 4 32 := ⟨Try.underlying66, by kernel_rfl, by kernel_rfl, by decide⟩
/-- cells of k spots: where they begin, how wide they are -/
def SpotV (s : ByteArray) (k : Nat) (xs : List Value) : Prop := ∀ j, j < k → xs[j * 4]? = some (.int .i64 (atN s j : Nat)) ∧ xs[j * 4 + 1]? = some (.int .i64 ((Utf8.decode s (atN s j)).2 : Nat))
def OwnSp (B : Nat) (w : World) (a : Option Addr) (n c : Nat) (s : ByteArray) : Prop := ∃ xs, w.ownsRow B 69 4 (.slice a n c) n xs ∧ SpotV s n xs
def SpotsAt (w : World) (a : Option Addr) (s : ByteArray) (n : Nat) : Prop := ∀ j, j < n → ∃ b o, a = some ⟨b, o, none⟩ ∧ w.cell? ⟨b, o + j * 4, none⟩ = some (.int .i64 (atN s j : Nat)) ∧ w.cell? ⟨b, o + j * 4 + 1, none⟩ = some (.int .i64 ((Utf8.decode s (atN s j)).2 : Nat))
theorem SpotsAt.get {w : World} {b o : Nat} {s : ByteArray} {n : Nat} (h : SpotsAt w (some ⟨b, o, none⟩) s n) (j : Nat) (hj : j < n) :
    w.cell? ⟨b, o + j * 4, none⟩ = some (.int .i64 (atN s j : Nat)) ∧ w.cell? ⟨b, o + j * 4 + 1, none⟩ = some (.int .i64 ((Utf8.decode s (atN s j)).2 : Nat)) := by
  obtain ⟨b', o', e, hc⟩ := h j hj
  simp only [Option.some.injEq, Addr.mk.injEq, and_true] at e
  obtain ⟨rfl, rfl⟩ := e
  exact hc
theorem SpotsAt.below {w w' : World} {B : Nat} {a : Option Addr} {s : ByteArray} {n : Nat} (h : SpotsAt w a s n) (hb : Below B w w') (hB : w.heap.size ≤ B) : SpotsAt w' a s n := by
  intro j hj
  obtain ⟨b, o, e, h1, h2⟩ := h j hj
  have hl : b < B := by have := World.block_lt_of_cell? w _ h1; simp at this; omega
  exact ⟨b, o, e, by rw [hb.cell (p := ⟨b, o + j * 4, none⟩) hl]; exact h1, by rw [hb.cell (p := ⟨b, o + j * 4 + 1, none⟩) hl]; exact h2⟩
theorem OwnSp.at {B : Nat} {w : World} {a : Option Addr} {n c : Nat} {s : ByteArray} (h : OwnSp B w a n c s) : SpotsAt w a s n := by
  obtain ⟨xs, ho, hv⟩ := h
  intro j hj
  have hl := ho.1
  rcases ho.2 with ⟨e, h0⟩ | ⟨g, cap', cur, e, hb, hg, hnc, hcm, hcs, ht⟩
  · omega
  · simp only [Value.slice.injEq] at e
    obtain ⟨rfl, _, rfl⟩ := e
    obtain ⟨h1, h2⟩ := hv j hj
    refine ⟨g, 0, rfl, ?_, ?_⟩
    · rw [cell_of_row w g _ _ _ (0, 0) hg, Nat.zero_add, ← Array.getElem?_toList, ← h1, ← ht, List.getElem?_take_of_lt (by omega)]
    · rw [cell_of_row w g _ _ _ (0, 0) hg, Nat.zero_add, ← Array.getElem?_toList, ← h2, ← ht, List.getElem?_take_of_lt (by omega)]
theorem OwnSp.below {B B' : Nat} {w w' : World} {a : Option Addr} {n c : Nat} {s : ByteArray} (h : OwnSp B w a n c s) (hb : Below B' w w') (hB : w.heap.size ≤ B') : OwnSp B w' a n c s := by
  obtain ⟨xs, ho, hv⟩ := h
  refine ⟨xs, ⟨ho.1, ?_⟩, hv⟩
  rcases ho.2 with hn | ⟨g, cap, cur, e, hbg, hgg, rest⟩
  · exact .inl hn
  · exact .inr ⟨g, cap, cur, e, hbg, by rw [hb.block g (by have := (Array.getElem?_eq_some_iff.1 hgg).1; omega)]; exact hgg, rest⟩
theorem SpotV.push {s : ByteArray} {k : Nat} {xs : List Value} (h : SpotV s k xs) (hl : xs.length = k * 4) (r c : Int) : SpotV s (k + 1) (xs ++ [.int .i64 (atN s k : Nat), .int .i64 ((Utf8.decode s (atN s k)).2 : Nat), .int .i32 r, .int .i64 c]) := by
  intro j hj
  by_cases e : j = k
  · subst e
    rw [List.getElem?_append_right (by omega), List.getElem?_append_right (by omega), hl, Nat.sub_self, show j * 4 + 1 - j * 4 = 1 by omega]
    exact ⟨rfl, rfl⟩
  · rw [List.getElem?_append_left (by omega), List.getElem?_append_left (by omega)]
    exact h j (by omega)
def SpR (s : ByteArray) (w : World) (v at_ : Value) (wr : World) : Prop := ∃ (k : Nat) (a : Option Addr) (c : Nat), k ≤ (begL s).length ∧ at_ = .int .i64 (atN s k : Nat) ∧ v = .slice a k c ∧ OwnSp w.heap.size wr a k c s ∧ Below w.heap.size w wr

set_option maxRecDepth 100000 in
set_option maxHeartbeats 2000000 in
theorem Spots_walk (s : ByteArray) (w : World) (hs : s.size ≤ 1048576) :
    Calls Try.prog 36 #[.string s] w fun e w' => ∃ a c, e = .returned (.slice a (begL s).length c) ∧ SpotsAt w' a s (begL s).length ∧ Below w.heap.size w w' := by
  have hle := begL_le s
  go_enter Try.func36, Try.ntmps36
  go_wp2
  go_loopw [3, 4] (SpR s w) (fun _ at_ _ => s.size - (intOf at_).toNat)
  case atStart => exact ⟨0, none, 0, Nat.zero_le _, by rw [atN_zero]; rfl, rfl, ⟨[], World.ownsRow_nil _ _ _ _, fun j hj => absurd hj (Nat.not_lt_zero _)⟩, Below.refl _ _⟩
  case round =>
    obtain ⟨k, a, c, hk, rfl, rfl, hown, hbel⟩ := hrel
    have HO := Lib.hid hown; clear hown
    have HB := Lib.hid hbel; clear hbel
    by_cases hkl : k < (begL s).length
    · have hat := atN_lt s k hkl
      have HAn := Lib.hid (atN_succ s k hkl)
      have hpos := decode_pos s (atN s k) hat
      have hin := decode_in s (atN s k) hat
      have HSp := Lib.hid (fun (x : Nat) (h : x = atN s k) => At_walk s x)
      obtain ⟨wd, hwd⟩ : ∃ wd, wd = (Utf8.decode s (atN s k)).2 := ⟨_, rfl⟩
      have HWd := Lib.hid hwd
      rw [← hwd] at hpos hin
      clear hwd
      have hati : (atN s k : Int) < (s.size : Int) := by omega
      go_wp2_with fail
      refine (At_walk s (atN s k) wr hat hs).mono ?_
      rintro e w1 ⟨⟨r, cd, rfl⟩, hb⟩
      rw [← HWd.out]
      have HB1 := Lib.hid (HB.out.trans (hb.mono HB.out.size))
      have HO1 := Lib.hid (HO.out.below hb (Nat.le_refl _))
      clear hb
      obtain ⟨g5, hg5⟩ : ∃ g5, g5 = w1.heap.size := ⟨_, rfl⟩
      have hblk := heap_alloc_new w1 (.cells #[.int .i64 (atN s k : Nat), .int .i64 (wd : Nat), .int .i32 r, .int .i64 cd] 69)
      have hb5 : Below w1.heap.size w1 (w1.alloc (.cells #[.int .i64 (atN s k : Nat), .int .i64 (wd : Nat), .int .i32 r, .int .i64 cd] 69)) := (Below.refl _ _).alloc (Nat.le_refl _) _
      go_upto_region 5 with (fail)
      rw [← hg5] at hblk ⊢
      generalize (w1.alloc (.cells #[.int .i64 (atN s k : Nat), .int .i64 (wd : Nat), .int .i32 r, .int .i64 cd] 69)) = w5 at *
      have r0 := cell_of_row w5 g5 0 _ _ (0, 0) hblk
      have r1 := cell_of_row w5 g5 1 _ _ (0, 0) hblk
      have r2 := cell_of_row w5 g5 2 _ _ (0, 0) hblk
      have r3 := cell_of_row w5 g5 3 _ _ (0, 0) hblk
      simp at r0 r1 r2 r3
      have hg5l : g5 < w5.heap.size := (Array.getElem?_eq_some_iff.1 hblk).1
      have HB5 := Lib.hid (HB1.out.trans (hb5.mono HB1.out.size))
      have HO5 := Lib.hid (HO1.out.below hb5 (Nat.le_refl _))
      clear hblk hb5
      have HG5 := Lib.hid hg5; clear hg5
      obtain ⟨xs, hox, hvx⟩ := HO5.out
      have HX := Lib.hid hox
      have HV := Lib.hid hvx
      clear hox hvx
      go_wp2_with (at_builtin; refine wpList_appN Try.elemSpot rfl (.tmp 13) (.tmp 15) rfl HX.out HB5.out.size (by omega) (by omega) #[.int .i64 (atN s k : Nat), .int .i64 (wd : Nat), .int .i32 r, .int .i64 cd] rfl (by intro u hu; simp at hu; rcases hu with rfl | rfl | rfl | rfl <;> rfl) _ rfl rfl ?_)
      intro a9 c9 w9 ho9 hg9 _
      have q1 : w9.cell? ⟨g5, 1, none⟩ = some (.int .i64 (wd : Nat)) := by
        rw [World.cell?_of_block (w := w5) (a := ⟨g5, 1, none⟩) (hg9.block g5 hg5l (fun e => by
          have h1 := World.ownsRow.lt HO1.out.choose_spec.1 g5 e.symm
          have := HG5.out
          omega))]
        exact r1
      have HN9 : Hid (OwnSp w.heap.size w9 a9 (k + 1) c9 s) := Lib.hid ⟨_, ho9, by rw [HWd.out]; exact HV.out.push (by have := HX.out.1; omega) r cd⟩
      have HB9 := Lib.hid (HB5.out.trans (Below.ofGrown hg9 HB5.out.size (fun k hk => (World.ownsRow.lt HX.out k hk).1)))
      have HE := Lib.hid (show (atN s (k + 1) : Int) = (atN s k : Int) + (wd : Int) by rw [HAn.out, ← HWd.out]; omega)
      have HE2 := Lib.hid (show atN s (k + 1) = atN s k + wd by rw [HAn.out, ← HWd.out])
      clear ho9 hg9 r0 r1 r2 r3
      go_wp2
      go_roundw
      case rel => exact ⟨k + 1, _, _, by omega, by rw [HE.out], rfl, HN9.out, HB9.out⟩
      case measure => simp [intOf]; omega
    · obtain rfl : k = (begL s).length := by omega
      have HL := Lib.hid (atN_last s)
      have hati : ¬ (atN s (begL s).length : Int) < (s.size : Int) := by rw [HL.out]; omega
      generalize atN s (begL s).length = z at *
      go_wp2
      go_ret
      exact ⟨_, ⟨_, rfl⟩, HO.out.at, HB.out⟩
end Go.Proofs.Ytkcdcgijbaepmaa
