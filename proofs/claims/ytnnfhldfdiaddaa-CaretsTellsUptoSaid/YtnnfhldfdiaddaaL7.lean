/-
  The walk of the chapter's line.
-/
import Derived.Test.YtnnfhldfdiaddaaL6
set_option linter.unusedVariables false
namespace Go.Proofs.Ytnnfhldfdiaddaa
open Go.RowKit

theorem ints_lit {k : IntKind} {w : World} {cs : Array Value} (zs : List Int) {E : TypeId} {n : Nat} (h : cs.toList = ivs k zs) (hn : n = w.heap.size) : Ints k (w.alloc (.cells cs E)) (some ⟨n, 0, none⟩) zs := by
  subst hn
  intro i hi
  refine ⟨w.heap.size, 0, rfl, ?_⟩
  rw [Nat.zero_add, cell_of_row (w.alloc (.cells cs E)) w.heap.size i cs E (0, 0) (heap_alloc_new w _), ← Array.getElem?_toList, h]
  simp [ivs, hi]
def known : List Int := [0, 0, 1, 1, 0]
def knownW : List Int := [10, 10, 10, 10, 10]
theorem known_ord : ord known = [0, 1, 3, 2, 4] := by decide
theorem known_places : placesL known = [0, 1, 3, 2, 4] := by decide
theorem known_err : newErr 0 known knownW = 0 := newErr_ok ⟨.inl rfl, by decide, by decide, rfl, by decide, by decide⟩

theorem known_caret (s t : Int) (h : CaretP 0 known 2 s t) : s = 2 ∧ t = 4 := by
  obtain ⟨p, l, q, l2, hb, ha, hh⟩ := h
  have hb2 : p = 2 ∧ l = 0 := by
    rcases hb with ⟨h, _⟩ | ⟨i, hi, _, _, hg, hp, hl⟩
    · have := h 0 (by omega); simp [known] at this
    · have : i = 0 ∨ i = 1 := by omega
      rcases this with rfl | rfl
      · have := hg 1 (by omega) (by omega); simp [known] at this
      · rw [known_places] at hp
        simp [known] at hp hl
        exact ⟨hp, hl⟩
  have ha2 : q = 4 ∧ l2 = 1 := by
    rcases ha with ⟨h, _⟩ | ⟨i, hi, hi2, _, hg, hp, hl⟩
    · have := h 2 (by omega) (by decide); simp [known] at this
    · have h5 : i < 5 := hi2
      have : i = 2 ∨ i = 3 ∨ i = 4 := by omega
      rcases this with rfl | rfl | rfl
      · rw [known_places] at hp
        simp [known] at hp hl
        exact ⟨hp, hl⟩
      · have := hg 2 (by omega) (by omega); simp [known] at this
      · have := hg 2 (by omega) (by omega); simp [known] at this
  omega

theorem known_cols : colAt knownW (ord known) 2 = 20 ∧ colAt knownW (ord known) 4 = 40 ∧ colAt knownW (ord known) 5 = 50 := by decide
theorem known_hit (r : Value) (h : HitRes knownW (ord known) 26 r) : r = .tuple #[.int .i64 3, .int .u8 1] := by
  obtain ⟨v, hv, h1, h2, h3⟩ := h
  have h5 : v < 5 := hv
  have : v = 0 ∨ v = 1 ∨ v = 2 ∨ v = 3 ∨ v = 4 := by omega
  have c0 : colAt knownW (ord known) 0 = 0 := by decide
  have c1 : colAt knownW (ord known) 1 = 10 := by decide
  have c2 : colAt knownW (ord known) 2 = 20 := by decide
  have c3 : colAt knownW (ord known) 3 = 30 := by decide
  have c4 : colAt knownW (ord known) 4 = 40 := by decide
  have c5 : colAt knownW (ord known) 5 = 50 := by decide
  rcases this with rfl | rfl | rfl | rfl | rfl
  · simp only [Nat.zero_add] at h2; omega
  · simp only [Nat.reduceAdd] at h2; omega
  · simp only [Nat.reduceAdd] at h3
    rcases h3 with ⟨h, _⟩ | ⟨_, h⟩
    · omega
    · exact h
  · omega
  · omega

set_option maxHeartbeats 1000000 in
theorem lives_walk (w : World) :
    Calls Try.prog 12 #[] w fun e w' => e = .returned (.bool true) ∧ Below w.heap.size w w' := by
  have HE := Lib.hid known_err
  have HCa := Lib.hid known_caret
  have HCo := Lib.hid known_cols
  have HHi := Lib.hid known_hit
  go_enter Try.func12, Try.ntmps12
  go_wp2_with fail
  refine (New_walk 0 _ _ 5 5 5 5 known knownW _ (by omega) rfl rfl (by omega) (by omega) ((ints_lit known rfl rfl).below ((Below.refl _ _).alloc (Nat.le_refl _) _) (Nat.le_refl _)) (ints_lit knownW rfl (by simp))).mono ?_
  rintro e w1 (⟨hL, g, rfl, hline, hg, hb⟩ | ⟨hbad, _⟩)
  · have HL := Lib.hid hline; clear hline
    have hb1 : Below w.heap.size w w1 := (((Below.refl w.heap.size w).alloc (Nat.le_refl _) _).alloc (by simp) _).trans (hb.mono (by simp; omega))
    have HB1 := Lib.hid hb1; clear hb1 hb hg
    go_wp2_with fail
    refine (Caret_walk g 0 known knownW _ 2 HL.out (by decide)).mono ?_
    rintro e w2 ⟨s, t, rfl, hcp, hb⟩
    obtain ⟨hs, ht⟩ := HCa.out s t hcp
    subst hs
    subst ht
    have hcv : caretV knownW (ord known) 2 4 = .agg #[.int .i64 2, .int .i64 4, .int .i64 20, .int .i64 40, .bool true] := by
      unfold caretV
      rw [show ((2 : Int)).toNat = 2 from rfl, show ((4 : Int)).toNat = 4 from rfl, HCo.out.1, HCo.out.2.1]
      rfl
    rw [hcv]
    clear hcv hcp
    have HB2 := Lib.hid hb; clear hb
    go_wp2_with fail
    refine (Place_left g 0 known knownW _ 4 ((HL.out.below HB2.out (Nat.le_refl _)).below ((Below.refl _ _).alloc (Nat.le_refl _) _) (Nat.le_refl _)) (by decide)).mono ?_
    rintro e w' ⟨rfl, rfl⟩
    rw [show placeAt 0 known 4 true = 2 from by decide]
    go_wp2_with fail
    refine (Hit_in g 0 known knownW _ 26 ((HL.out.below HB2.out (Nat.le_refl _)).below ((Below.refl _ _).alloc (Nat.le_refl _) _) (Nat.le_refl _)) (by omega) (by decide) (by decide)).mono ?_
    rintro e w3 ⟨r, rfl, hr, hb⟩
    rw [HHi.out r hr]
    have hblk : w3.heap[w2.heap.size]? = some (.cells #[.int .i64 2, .int .i64 4, .int .i64 20, .int .i64 40, .bool true] 39 (0, 0)) := by
      rw [hb.block w2.heap.size (by simp)]
      exact heap_alloc_new w2 _
    have hB3 : Below w1.heap.size w1 w3 := HB2.out.trans (((Below.refl w2.heap.size w2).alloc (Nat.le_refl _) _).trans (hb.mono (by simp)) |>.mono HB2.out.size)
    have HB3 := Lib.hid hB3; clear hB3 hb
    have r0 := cell_of_row w3 w2.heap.size 0 _ _ (0, 0) hblk
    have r1 := cell_of_row w3 w2.heap.size 1 _ _ (0, 0) hblk
    have r2 := cell_of_row w3 w2.heap.size 2 _ _ (0, 0) hblk
    have r3 := cell_of_row w3 w2.heap.size 3 _ _ (0, 0) hblk
    have r4 := cell_of_row w3 w2.heap.size 4 _ _ (0, 0) hblk
    simp at r0 r1 r2 r3 r4
    clear hblk
    go_wp2_with fail
    refine (Width_walk g 0 known knownW _ (HL.out.below HB3.out (Nat.le_refl _))).mono ?_
    rintro e w' ⟨rfl, d, rfl⟩
    rw [show colAt knownW (ord known) (ord known).length = 50 from HCo.out.2.2]
    go_wp2
    go_ret
    exact ⟨rfl, below_drewN (below_seq HB1.out HB3.out) _⟩
  · exact absurd HE.out hbad
end Go.Proofs.Ytnnfhldfdiaddaa
