/-
  A question, held against the document's answer.
-/
import Derived.Test.YtnnfhldfdiaddaaX12
import Derived.Test.YtnnfhldfdiaddaaX11
set_option linter.unusedVariables false
namespace Go.Proofs.Ytnnfhldfdiaddaa
open Go.RowKit

structure AskC (w : World) (g gr b : Nat) (base : Int) (lv ws : List Int) (d a ed : Int) (W : World) : Prop where
  hl : IsLine W g base lv ws
  hr : IsRef W gr base lv ws
  bx : W.heap[b]? = some (.cells #[.int .i64 d, .int .i64 a, .int .u8 ed] 58 (0, 0))
  bel : Below w.heap.size w W
theorem AskC.next {w : World} {g gr b : Nat} {base : Int} {lv ws : List Int} {d a ed : Int} {W W' : World} (h : AskC w g gr b base lv ws d a ed W) (hb : Below W.heap.size W W') : AskC w g gr b base lv ws d a ed W' :=
  ⟨h.hl.below hb (Nat.le_refl _), h.hr.below hb (Nat.le_refl _), (hb.block b (Array.getElem?_eq_some_iff.1 h.bx).1).trans h.bx, below_seq h.bel hb⟩
theorem AskC.r0 {w : World} {g gr b : Nat} {base : Int} {lv ws : List Int} {d a ed : Int} {W : World} (h : AskC w g gr b base lv ws d a ed W) : W.cell? ⟨b, 0, none⟩ = some (.int .i64 d) := by
  rw [cell_of_row W b 0 _ _ (0, 0) h.bx]; rfl
theorem AskC.r1 {w : World} {g gr b : Nat} {base : Int} {lv ws : List Int} {d a ed : Int} {W : World} (h : AskC w g gr b base lv ws d a ed W) : W.cell? ⟨b, 1, none⟩ = some (.int .i64 a) := by
  rw [cell_of_row W b 1 _ _ (0, 0) h.bx]; rfl
theorem AskC.r2 {w : World} {g gr b : Nat} {base : Int} {lv ws : List Int} {d a ed : Int} {W : World} (h : AskC w g gr b base lv ws d a ed W) : W.cell? ⟨b, 2, none⟩ = some (.int .u8 ed) := by
  rw [cell_of_row W b 2 _ _ (0, 0) h.bx]; rfl
theorem AskC.new {w : World} {g gr : Nat} {base : Int} {lv ws : List Int} (d a ed : Int) (hl : IsLine w g base lv ws) (hr : IsRef w gr base lv ws) :
    AskC w g gr w.heap.size base lv ws d a ed (w.alloc (.cells #[.int .i64 d, .int .i64 a, .int .u8 ed] 58)) :=
  have hb : Below w.heap.size w (w.alloc (.cells #[.int .i64 d, .int .i64 a, .int .u8 ed] 58)) := (Below.refl _ _).alloc (Nat.le_refl _) _
  ⟨hl.below hb (Nat.le_refl _), hr.below hb (Nat.le_refl _), heap_alloc_new w _, hb⟩
def AskPost (w : World) (e : Ending) (w' : World) : Prop := e = .returned (.bool true) ∧ Below w.heap.size w w'

set_option maxRecDepth 100000 in
set_option maxHeartbeats 4000000 in
theorem asked_0 (g gr : Nat) (base : Int) (lv ws : List Int) (a ed : Int) (w : World) (hl : IsLine w g base lv ws) (hr : IsRef w gr base lv ws) : Calls Try.prog 26 #[.pointer (some ⟨g, 0, none⟩), .pointer (some ⟨gr, 0, none⟩), .agg #[.int .i64 0, .int .i64 a, .int .u8 ed]] w (AskPost w) := by
  have HC0 := Lib.hid (AskC.new 0 a ed hl hr)
  clear hl hr
  have q1 := eql_caret
  have q2 := eqg_caret
  by_cases ha : a < 0 ∨ (lv.length : Int) < a
  · have HA := Lib.hid ha; clear ha
    go_enter Try.func26, Try.ntmps26
    go_wp2_with fail
    refine (Caret_no g base lv ws a _ HC0.out.hl HA.out).mono ?_
    rintro e w1 ⟨rfl, hb⟩
    have HC1 := Lib.hid (HC0.out.next hb); clear hb
    have r1 := HC1.out.r1
    have hl1 := (Array.getElem?_eq_some_iff.1 HC1.out.bx).1
    unfold noCaret
    go_wp2_with fail
    refine (rCaret_no gr base lv ws a _ (HC1.out.next ((Below.refl _ w1).alloc (Nat.le_refl _) _)).hr HA.out).mono ?_
    rintro e w2 ⟨rfl, hb⟩
    have HC2 := Lib.hid ((HC1.out.next ((Below.refl _ w1).alloc (Nat.le_refl _) _)).next hb)
    have hcb : w2.heap[w1.heap.size]? = some (.cells #[.int .i64 0, .int .i64 0, .int .i64 0, .int .i64 0, .bool false] 39 (0, 0)) := (hb.block _ (by simp)).trans (heap_alloc_new w1 _)
    have hcl := (Array.getElem?_eq_some_iff.1 hcb).1
    have c0 := cell_of_row w2 w1.heap.size 0 _ _ (0, 0) hcb
    have c1 := cell_of_row w2 w1.heap.size 1 _ _ (0, 0) hcb
    have c2 := cell_of_row w2 w1.heap.size 2 _ _ (0, 0) hcb
    have c3 := cell_of_row w2 w1.heap.size 3 _ _ (0, 0) hcb
    have c4 := cell_of_row w2 w1.heap.size 4 _ _ (0, 0) hcb
    simp at c0 c1 c2 c3 c4
    clear hb hcb r1
    have e1 := q1 0 0 0 0 false
    unfold noCaret
    go_wp2
    go_ret
    exact ⟨rfl, HC2.out.bel.alloc HC2.out.bel.size _⟩
  · obtain ⟨k, rfl⟩ := Int.eq_ofNat_of_zero_le (show 0 ≤ a by omega)
    have HA := Lib.hid (show k ≤ lv.length by omega)
    clear ha
    go_enter Try.func26, Try.ntmps26
    go_wp2_with fail
    refine (Caret_walk g base lv ws _ k HC0.out.hl HA.out).mono ?_
    rintro e w1 ⟨s, t, rfl, hc, hb⟩
    have HC1 := Lib.hid (HC0.out.next hb); clear hb
    have HCP := Lib.hid hc; clear hc
    have r1 := HC1.out.r1
    have hl1 := (Array.getElem?_eq_some_iff.1 HC1.out.bx).1
    unfold caretV
    go_wp2_with fail
    refine (rCaret_walk gr base lv ws k _ (HC1.out.next ((Below.refl _ w1).alloc (Nat.le_refl _) _)).hr HA.out).mono ?_
    rintro e w2 ⟨s2, t2, rfl, hc2, hb⟩
    obtain ⟨rfl, rfl⟩ := HCP.out.uniq hc2
    unfold caretV
    generalize colAt ws (ord lv) s.toNat = x at *
    generalize colAt ws (ord lv) t.toNat = y at *
    have HC2 := Lib.hid ((HC1.out.next ((Below.refl _ w1).alloc (Nat.le_refl _) _)).next hb)
    have hcb : w2.heap[w1.heap.size]? = some (.cells #[.int .i64 s, .int .i64 t, .int .i64 x, .int .i64 y, .bool (s != t)] 39 (0, 0)) := (hb.block _ (by simp)).trans (heap_alloc_new w1 _)
    generalize (s != t) = sp at *
    have hcl := (Array.getElem?_eq_some_iff.1 hcb).1
    have c0 := cell_of_row w2 w1.heap.size 0 _ _ (0, 0) hcb
    have c1 := cell_of_row w2 w1.heap.size 1 _ _ (0, 0) hcb
    have c2 := cell_of_row w2 w1.heap.size 2 _ _ (0, 0) hcb
    have c3 := cell_of_row w2 w1.heap.size 3 _ _ (0, 0) hcb
    have c4 := cell_of_row w2 w1.heap.size 4 _ _ (0, 0) hcb
    simp at c0 c1 c2 c3 c4
    clear hb hcb r1 hc2
    have e1 := q1 s t x y sp
    go_wp2
    go_ret
    exact ⟨rfl, HC2.out.bel.alloc HC2.out.bel.size _⟩
set_option maxRecDepth 100000 in
set_option maxHeartbeats 4000000 in
theorem asked_1 (g gr : Nat) (base : Int) (lv ws : List Int) (a ed : Int) (w : World) (hl : IsLine w g base lv ws) (hr : IsRef w gr base lv ws) : Calls Try.prog 26 #[.pointer (some ⟨g, 0, none⟩), .pointer (some ⟨gr, 0, none⟩), .agg #[.int .i64 1, .int .i64 a, .int .u8 ed]] w (AskPost w) := by
  have HC0 := Lib.hid (AskC.new 1 a ed hl hr)
  clear hl hr
  go_enter Try.func26, Try.ntmps26
  go_wp2_with fail
  refine (Place_all g base lv ws _ a ed HC0.out.hl).mono ?_
  rintro e w1 ⟨rfl, rfl⟩
  go_wp2_with fail
  refine (rPlace_walk gr base lv ws _ a ed HC0.out.hr).mono ?_
  rintro e w1 ⟨rfl, rfl⟩
  generalize (placeN base lv a ed).1 = p
  generalize (placeN base lv a ed).2 = q
  go_wp2
  go_ret
  exact ⟨rfl, HC0.out.bel⟩
set_option maxRecDepth 100000 in
set_option maxHeartbeats 4000000 in
theorem asked_3 (g gr : Nat) (base : Int) (lv ws : List Int) (a ed : Int) (w : World) (hl : IsLine w g base lv ws) (hr : IsRef w gr base lv ws) : Calls Try.prog 26 #[.pointer (some ⟨g, 0, none⟩), .pointer (some ⟨gr, 0, none⟩), .agg #[.int .i64 3, .int .i64 a, .int .u8 ed]] w (AskPost w) := by
  have HC0 := Lib.hid (AskC.new 3 a ed hl hr)
  have HRg := Lib.hid hl.ok.range
  clear hl hr
  go_enter Try.func26, Try.ntmps26
  go_wp2_with fail
  refine (Hit_is g base lv ws _ a HC0.out.hl).mono ?_
  rintro e w1 ⟨v, x, rfl, hv, hb⟩
  have HC1 := Lib.hid (HC0.out.next hb); clear hb
  have HV := Lib.hid hv; clear hv
  have r1 := HC1.out.r1
  go_wp2_with fail
  refine (rHit_walk gr base lv ws _ a HC1.out.hr).mono ?_
  rintro e w2 ⟨v2, x2, rfl, hv2, hb⟩
  obtain ⟨rfl, rfl⟩ := HV.out.uniq HRg.out hv2
  have HC2 := Lib.hid (HC1.out.next hb); clear hb hv2
  go_wp2
  go_ret
  exact ⟨rfl, HC2.out.bel⟩
set_option maxRecDepth 100000 in
set_option maxHeartbeats 4000000 in
theorem asked_6 (g gr : Nat) (base : Int) (lv ws : List Int) (a ed : Int) (w : World) (hl : IsLine w g base lv ws) (hr : IsRef w gr base lv ws) (hae : -9223372036854775808 ≤ a ∧ a ≤ 9223372036854775807) : Calls Try.prog 26 #[.pointer (some ⟨g, 0, none⟩), .pointer (some ⟨gr, 0, none⟩), .agg #[.int .i64 6, .int .i64 a, .int .u8 ed]] w (AskPost w) := by
  have HC0 := Lib.hid (AskC.new 6 a ed hl hr)
  have HAE := Lib.hid hae
  clear hl hr hae
  go_enter Try.func26, Try.ntmps26
  go_wp2_with fail
  refine (across25_walk g gr base lv ws a _ HC0.out.hl HC0.out.hr HAE.out).mono ?_
  rintro e w1 ⟨rfl, hb⟩
  have HC1 := Lib.hid (HC0.out.next hb); clear hb
  go_wp2
  go_ret
  exact ⟨rfl, HC1.out.bel⟩
theorem Right_is (g : Nat) (base : Int) (lv ws : List Int) (w : World) (a : Int) (h : IsLine w g base lv ws) : ∃ v b, (∀ W, IsLine W g base lv ws → Calls Try.prog 22 #[.pointer (some ⟨g, 0, none⟩), .int .i64 a] W fun e w' => e = .returned (.tuple #[.int .i64 v, .bool b]) ∧ W = w') ∧
    ((b = true ∧ 0 ≤ a ∧ a < (ord lv).length ∧ v = a + 1) ∨ (b = false ∧ (a < 0 ∨ (ord lv).length ≤ a) ∧ v = 0)) := by
  by_cases ha : a < 0 ∨ ((ord lv).length : Int) ≤ a
  · exact ⟨0, false, fun W hW => Right_no g base lv ws W a hW ha, .inr ⟨rfl, ha, rfl⟩⟩
  · obtain ⟨k, rfl⟩ := Int.eq_ofNat_of_zero_le (show 0 ≤ a by omega)
    exact ⟨_, true, fun W hW => Right_walk g base lv ws W k hW (by omega), .inl ⟨rfl, by omega, by omega, rfl⟩⟩
theorem Left_is (g : Nat) (base : Int) (lv ws : List Int) (w : World) (a : Int) (h : IsLine w g base lv ws) : ∃ v b, (∀ W, IsLine W g base lv ws → Calls Try.prog 23 #[.pointer (some ⟨g, 0, none⟩), .int .i64 a] W fun e w' => e = .returned (.tuple #[.int .i64 v, .bool b]) ∧ W = w') ∧
    ((b = true ∧ 1 ≤ a ∧ a ≤ (ord lv).length ∧ v = a - 1) ∨ (b = false ∧ (a < 1 ∨ (ord lv).length < a) ∧ v = 0)) := by
  by_cases ha : a < 1 ∨ ((ord lv).length : Int) < a
  · exact ⟨0, false, fun W hW => Left_no g base lv ws W a hW ha, .inr ⟨rfl, ha, rfl⟩⟩
  · obtain ⟨k, rfl⟩ := Int.eq_ofNat_of_zero_le (show 0 ≤ a by omega)
    exact ⟨_, true, fun W hW => Left_walk g base lv ws W k hW (by omega) (by omega), .inl ⟨rfl, by omega, by omega, rfl⟩⟩
/-- what 'Next' and 'Back' answer -/
def NextIs (lv : List Int) (a v : Int) (b : Bool) : Prop := (∃ k r : Nat, a = k ∧ k < lv.length ∧ IsNext lv k r ∧ v = r ∧ b = true) ∨ ((a < 0 ∨ (lv.length : Int) ≤ a) ∧ v = 0 ∧ b = false)
def BackIs (lv : List Int) (a v : Int) (b : Bool) : Prop := (∃ k r : Nat, a = k ∧ 1 ≤ k ∧ k ≤ lv.length ∧ IsBack lv k r ∧ v = r ∧ b = true) ∨ ((a < 1 ∨ (lv.length : Int) < a) ∧ v = 0 ∧ b = false)
theorem NextIs.uniq {lv : List Int} {a v v' : Int} {b b' : Bool} (h : NextIs lv a v b) (k : NextIs lv a v' b') : v = v' ∧ b = b' := by
  rcases h with ⟨i, r, rfl, h1, h2, rfl, rfl⟩ | ⟨h1, rfl, rfl⟩
  · rcases k with ⟨i', r', e, k1, k2, rfl, rfl⟩ | ⟨k1, rfl, rfl⟩
    · obtain rfl : i = i' := by omega
      rw [h2.uniq k2]; exact ⟨rfl, rfl⟩
    · omega
  · rcases k with ⟨i', r', e, k1, k2, rfl, rfl⟩ | ⟨k1, rfl, rfl⟩
    · omega
    · exact ⟨rfl, rfl⟩
theorem BackIs.uniq {lv : List Int} {a v v' : Int} {b b' : Bool} (h : BackIs lv a v b) (k : BackIs lv a v' b') : v = v' ∧ b = b' := by
  rcases h with ⟨i, r, rfl, h0, h1, h2, rfl, rfl⟩ | ⟨h1, rfl, rfl⟩
  · rcases k with ⟨i', r', e, k0, k1, k2, rfl, rfl⟩ | ⟨k1, rfl, rfl⟩
    · obtain rfl : i = i' := by omega
      rw [h2.uniq k2]; exact ⟨rfl, rfl⟩
    · omega
  · rcases k with ⟨i', r', e, k0, k1, k2, rfl, rfl⟩ | ⟨k1, rfl, rfl⟩
    · omega
    · exact ⟨rfl, rfl⟩
def MovePost (P : Int → Bool → Prop) (w : World) (e : Ending) (w' : World) : Prop := ∃ v b, e = .returned (.tuple #[.int .i64 v, .bool b]) ∧ P v b ∧ Below w.heap.size w w'
theorem Next_is (g : Nat) (base : Int) (lv ws : List Int) (w : World) (a : Int) (h : IsLine w g base lv ws) : Calls Try.prog 27 #[.pointer (some ⟨g, 0, none⟩), .int .i64 a] w (MovePost (NextIs lv a) w) := by
  by_cases ha : a < 0 ∨ (lv.length : Int) ≤ a
  · exact (Next_no g base lv ws a w h ha).mono (fun e w' h => ⟨0, false, h.1, .inr ⟨ha, rfl, rfl⟩, h.2 ▸ Below.refl _ _⟩)
  · obtain ⟨k, rfl⟩ := Int.eq_ofNat_of_zero_le (show 0 ≤ a by omega)
    exact (Next_walk g base lv ws k w h (by omega)).mono (fun e w' ⟨r, h1, h2, h3⟩ => ⟨r, true, h1, .inl ⟨k, r, rfl, by omega, h2, rfl, rfl⟩, h3⟩)
theorem Back_is (g : Nat) (base : Int) (lv ws : List Int) (w : World) (a : Int) (h : IsLine w g base lv ws) : Calls Try.prog 28 #[.pointer (some ⟨g, 0, none⟩), .int .i64 a] w (MovePost (BackIs lv a) w) := by
  by_cases ha : a < 1 ∨ (lv.length : Int) < a
  · exact (Back_no g base lv ws a w h ha).mono (fun e w' h => ⟨0, false, h.1, .inr ⟨ha, rfl, rfl⟩, h.2 ▸ Below.refl _ _⟩)
  · obtain ⟨k, rfl⟩ := Int.eq_ofNat_of_zero_le (show 0 ≤ a by omega)
    exact (Back_walk g base lv ws k w h (by omega) (by omega)).mono (fun e w' ⟨r, h1, h2, h3⟩ => ⟨r, true, h1, .inl ⟨k, r, rfl, by omega, by omega, h2, rfl, rfl⟩, h3⟩)
theorem rNext_is (g : Nat) (base : Int) (lv ws : List Int) (w : World) (a : Int) (h : IsRef w g base lv ws) : Calls Try.prog 45 #[.pointer (some ⟨g, 0, none⟩), .int .i64 a] w (MovePost (NextIs lv a) w) := by
  by_cases ha : a < 0 ∨ (lv.length : Int) ≤ a
  · exact (rNext_no g base lv ws a w h ha).mono (fun e w' h => ⟨0, false, h.1, .inr ⟨ha, rfl, rfl⟩, h.2 ▸ Below.refl _ _⟩)
  · obtain ⟨k, rfl⟩ := Int.eq_ofNat_of_zero_le (show 0 ≤ a by omega)
    exact (rNext_walk g base lv ws k w h (by omega)).mono (fun e w' ⟨r, h1, h2, h3⟩ => ⟨r, true, h1, .inl ⟨k, r, rfl, by omega, h2, rfl, rfl⟩, h3⟩)
theorem rBack_is (g : Nat) (base : Int) (lv ws : List Int) (w : World) (a : Int) (h : IsRef w g base lv ws) : Calls Try.prog 46 #[.pointer (some ⟨g, 0, none⟩), .int .i64 a] w (MovePost (BackIs lv a) w) := by
  by_cases ha : a < 1 ∨ (lv.length : Int) < a
  · exact (rBack_no g base lv ws a w h ha).mono (fun e w' h => ⟨0, false, h.1, .inr ⟨ha, rfl, rfl⟩, h.2 ▸ Below.refl _ _⟩)
  · obtain ⟨k, rfl⟩ := Int.eq_ofNat_of_zero_le (show 0 ≤ a by omega)
    exact (rBack_walk g base lv ws k w h (by omega) (by omega)).mono (fun e w' ⟨r, h1, h2, h3⟩ => ⟨r, true, h1, .inl ⟨k, r, rfl, by omega, by omega, h2, rfl, rfl⟩, h3⟩)

set_option maxRecDepth 100000 in
set_option maxHeartbeats 4000000 in
theorem asked_5 (g gr : Nat) (base : Int) (lv ws : List Int) (a ed : Int) (w : World) (hl : IsLine w g base lv ws) (hr : IsRef w gr base lv ws) : Calls Try.prog 26 #[.pointer (some ⟨g, 0, none⟩), .pointer (some ⟨gr, 0, none⟩), .agg #[.int .i64 5, .int .i64 a, .int .u8 ed]] w (AskPost w) := by
  have HC0 := Lib.hid (AskC.new 5 a ed hl hr)
  clear hl hr
  go_enter Try.func26, Try.ntmps26
  go_wp2_with fail
  refine (Next_is g base lv ws _ a HC0.out.hl).mono ?_
  rintro e w1 ⟨v, b, rfl, hv, hb⟩
  have HC1 := Lib.hid (HC0.out.next hb); clear hb
  have HV := Lib.hid hv; clear hv
  have r1 := HC1.out.r1
  go_wp2_with fail
  refine (rNext_is gr base lv ws _ a HC1.out.hr).mono ?_
  rintro e w2 ⟨v2, b2, rfl, hv2, hb⟩
  obtain ⟨rfl, rfl⟩ := HV.out.uniq hv2
  have HC2 := Lib.hid (HC1.out.next hb); clear hb hv2 r1
  have r1 := HC2.out.r1
  go_wp2_with fail
  refine (Back_is g base lv ws _ a HC2.out.hl).mono ?_
  rintro e w3 ⟨y, c, rfl, hv, hb⟩
  have HC3 := Lib.hid (HC2.out.next hb); clear hb r1
  have HY := Lib.hid hv; clear hv
  have r1 := HC3.out.r1
  go_wp2_with fail
  refine (rBack_is gr base lv ws _ a HC3.out.hr).mono ?_
  rintro e w4 ⟨y2, c2, rfl, hv2, hb⟩
  obtain ⟨rfl, rfl⟩ := HY.out.uniq hv2
  have HC4 := Lib.hid (HC3.out.next hb); clear hb hv2 r1
  go_wp2
  go_ret
  exact ⟨rfl, HC4.out.bel⟩
end Go.Proofs.Ytnnfhldfdiaddaa
