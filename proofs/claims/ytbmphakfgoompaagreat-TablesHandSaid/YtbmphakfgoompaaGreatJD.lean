/- several texts in one: UF7 UF8 -/
import Derived.Test.YtbmphakfgoompaaGreatJF2
import Derived.Test.YtbmphakfgoompaaGreatJE7
import Derived.Test.YtbmphakfgoompaaGreatG3
set_option linter.unusedVariables false
set_option linter.unusedSimpArgs false
/-
 The document's Over and Pack.
-/
namespace Go.Proofs.YtbmphakfgoompaaGreat
open Go.RowKit
attribute [local go_sem] Oper.semAt_some

/-- tables of the document -/
def DTab (w : World) (p : Nat) (F : Nat → Nat → Int) : Prop := ∃ cs : Array Value, w.heap[p]? = some (.cells cs 111 (0, 0)) ∧ FourAt w (.agg cs) F
theorem DTab.below {w w' : World} {p : Nat} {F : Nat → Nat → Int} (h : DTab w p F) (hb : Below w.heap.size w w') : DTab w' p F := by
 obtain ⟨cs, h1, h2⟩ := h
 exact ⟨cs, (hb.block p (Array.getElem?_eq_some_iff.1 h1).1).trans h1, h2.below hb⟩
/-- where tables of the document lie -/
def FourV (B : Nat) (f : Value) : Prop := ∃ x0 x1 x2 x3 x4 x5 x6 x7, f = .agg #[x0, x1, x2, x3, x4, x5, x6, x7] ∧ FarV B (.agg #[x0, x1]) ∧ FarV B (.agg #[x2, x3]) ∧ FarV B (.agg #[x4, x5]) ∧ FarV B (.agg #[x6, x7])
theorem FourV.mono {B B' : Nat} {f : Value} (h : FourV B f) (hb : B' ≤ B) : FourV B' f := by
 obtain ⟨x0, x1, x2, x3, x4, x5, x6, x7, e, h0, h1, h2, h3⟩ := h
 exact ⟨x0, x1, x2, x3, x4, x5, x6, x7, e, h0.mono hb, h1.mono hb, h2.mono hb, h3.mono hb⟩
theorem FourAt.move {w w' : World} {f : Value} {F : Nat → Nat → Int} {B : Nat} (h : FourAt w f F) (hf : FourV B f) (hk : ∀ g, B ≤ g → g < w.heap.size → w'.heap[g]? = w.heap[g]?) : FourAt w' f F := by
 obtain ⟨x0, x1, x2, x3, x4, x5, x6, x7, rfl, h0, h1, h2, h3⟩ := h
 obtain ⟨y0, y1, y2, y3, y4, y5, y6, y7, e, g0, g1, g2, g3⟩ := hf
 simp at e
 obtain ⟨rfl, rfl, rfl, rfl, rfl, rfl, rfl, rfl⟩ := e
 exact ⟨x0, x1, x2, x3, x4, x5, x6, x7, rfl, h0.move g0 hk, h1.move g1 hk, h2.move g2 hk, h3.move g3 hk⟩
def DFar (B : Nat) (w : World) (p : Nat) : Prop := B ≤ p ∧ ∃ cs : Array Value, w.heap[p]? = some (.cells cs 111 (0, 0)) ∧ FourV B (.agg cs)
theorem DFar.below {B : Nat} {w w' : World} {p : Nat} (h : DFar B w p) (hb : Below w.heap.size w w') : DFar B w' p := by
 obtain ⟨h0, cs, h1, h2⟩ := h
 exact ⟨h0, cs, (hb.block p (Array.getElem?_eq_some_iff.1 h1).1).trans h1, h2⟩
theorem DFar.mono {B B' : Nat} {w : World} {p : Nat} (h : DFar B w p) (hb : B' ≤ B) : DFar B' w p := by
 obtain ⟨h0, cs, h1, h2⟩ := h
 exact ⟨Nat.le_trans hb h0, cs, h1, h2.mono hb⟩
theorem DTab.move {w w' : World} {p : Nat} {F : Nat → Nat → Int} {B : Nat} (h : DTab w p F) (hf : DFar B w p) (hk : ∀ g, B ≤ g → g < w.heap.size → w'.heap[g]? = w.heap[g]?) : DTab w' p F ∧ DFar B w' p := by
 obtain ⟨cs, h1, h2⟩ := h
 obtain ⟨h0, ds, g1, g2⟩ := hf
 rw [h1] at g1
 simp only [Option.some.injEq, Obj.cells.injEq, and_true] at g1
 subst g1
 have e := (hk p h0 (Array.getElem?_eq_some_iff.1 h1).1).trans h1
 exact ⟨⟨cs, e, h2.move g2 hk⟩, h0, cs, e, g2⟩
theorem fit_of {F : Nat → Nat → Int} (h : ∀ r, r < 1114112 → anyB F 4 r = false) : FitD F := by
 have h2 : ∀ r, r ≤ 1114111 → badV 0 (F 0 r) = false ∧ badV 1 (F 1 r) = false ∧ badV 2 (F 2 r) = false ∧ badV 3 (F 3 r) = false := fun r hr => by
  have := h r (by omega)
  simp only [anyB, Bool.or_eq_false_iff, Bool.false_or] at this
  exact ⟨this.1.1.1, this.1.1.2, this.1.2, this.2⟩
 refine ⟨fun r hr => ?_, fun r hr => ?_, fun r hr => ?_, fun r hr => ?_⟩
 ·have := of_decide_eq_false (h2 r hr).1; simp only [lowV, highV] at this; simp at this; omega
 ·have := of_decide_eq_false (h2 r hr).2.1; simp only [lowV, highV] at this; simp at this; omega
 ·have := of_decide_eq_false (h2 r hr).2.2.1; simp only [lowV, highV] at this; simp at this; omega
 ·have := of_decide_eq_false (h2 r hr).2.2.2; simp only [lowV, highV] at this; simp at this; omega
def DOverQ (w : World) (f : Value) (F : Nat → Nat → Int) (k1 k2 : Nat) (e : Ending) (w' : World) : Prop :=
 Below w.heap.size w w' ∧ ((k1 < 1114112 ∧ e = .returned (.tuple #[.pointer none, .int .i32 (k1 : Nat), .int .i64 140])) ∨ (¬ k1 < 1114112 ∧ k2 < 1114112 ∧ e = .returned (.tuple #[.pointer none, .int .i32 (k2 : Nat), .int .i64 141])) ∨
  (¬ k1 < 1114112 ∧ ¬ k2 < 1114112 ∧ ∃ p, e = .returned (.tuple #[.pointer (some ⟨p, 0, none⟩), .int .i32 0, .int .i64 0]) ∧ DTab w' p F ∧ w.heap.size ≤ p ∧ ∃ cs : Array Value, f = .agg cs ∧ w'.heap[p]? = some (.cells cs 111 (0, 0))))
set_option maxRecDepth 100000 in
set_option maxHeartbeats 8000000 in
theorem dOver_walk (w : World) (f : Value) (F : Nat → Nat → Int) (hf : FourAt w f F) (k1 k2 : Nat) (h1 : Least (anyB F 4) 1114112 k1) (h2 : Least (wrongF (F 0) (F 1) (F 2) (F 3)) 1114112 k2) (hnz : ¬ k1 < 1114112 → (nzR 1114112 (F 1)).length < 64) :
  Calls Tryz.prog 12 #[f] w fun e w' => DOverQ w f F k1 k2 e w' := by
 have HBad := Lib.hid (fun (W : World) (hb : Below w.heap.size w W) => dBad_walk W f F (hf.below hb) k1 h1)
 have HAm := Lib.hid (fun (W : World) (hb : Below w.heap.size w W) (h : ¬ k1 < 1114112) => dAmiss_walk W f F (hf.below hb) (fit_of (fun r hr => h1.no r (by have := h1.le; omega))) k2 h2 (hnz h))
 clear h1 h2 hnz
 obtain ⟨x0, x1, x2, x3, x4, x5, x6, x7, rfl, g0, g1, g2, g3⟩ := hf
 obtain ⟨⟨xa0, xn0, xc0, rfl⟩, ⟨xa1, xn1, xc1, rfl⟩⟩ := g0.slices
 obtain ⟨⟨xa2, xn2, xc2, rfl⟩, ⟨xa3, xn3, xc3, rfl⟩⟩ := g1.slices
 obtain ⟨⟨xa4, xn4, xc4, rfl⟩, ⟨xa5, xn5, xc5, rfl⟩⟩ := g2.slices
 obtain ⟨⟨xa6, xn6, xc6, rfl⟩, ⟨xa7, xn7, xc7, rfl⟩⟩ := g3.slices
 have HF := Lib.hid (show FourAt w (.agg #[.slice xa0 xn0 xc0, .slice xa1 xn1 xc1, .slice xa2 xn2 xc2, .slice xa3 xn3 xc3, .slice xa4 xn4 xc4, .slice xa5 xn5 xc5, .slice xa6 xn6 xc6, .slice xa7 xn7 xc7]) F from ⟨_, _, _, _, _, _, _, _, rfl, g0, g1, g2, g3⟩)
 have HG := Lib.hid (And.intro g0 (And.intro g1 (And.intro g2 g3)))
 clear g0 g1 g2 g3
 have HA := Lib.hid (heap_alloc_new w (.cells #[.slice xa0 xn0 xc0, .slice xa1 xn1 xc1, .slice xa2 xn2 xc2, .slice xa3 xn3 xc3, .slice xa4 xn4 xc4, .slice xa5 xn5 xc5, .slice xa6 xn6 xc6, .slice xa7 xn7 xc7] 37))
 have HB := Lib.hid ((Below.refl _ w).alloc (Nat.le_refl _) (.cells #[.slice xa0 xn0 xc0, .slice xa1 xn1 xc1, .slice xa2 xn2 xc2, .slice xa3 xn3 xc3, .slice xa4 xn4 xc4, .slice xa5 xn5 xc5, .slice xa6 xn6 xc6, .slice xa7 xn7 xc7] 37))
 go_enter Tryz.func12, Tryz.ntmps12
 go_upto_region 1 with (fail)
 obtain ⟨b0, hb0⟩ : ∃ b0, b0 = w.heap.size := ⟨_, rfl⟩
 rw [← hb0] at HA ⊢
 clear hb0
 generalize w.alloc (.cells #[.slice xa0 xn0 xc0, .slice xa1 xn1 xc1, .slice xa2 xn2 xc2, .slice xa3 xn3 xc3, .slice xa4 xn4 xc4, .slice xa5 xn5 xc5, .slice xa6 xn6 xc6, .slice xa7 xn7 xc7] 37) = w1 at *
 have q0 := cell_of_row w1 b0 0 _ _ (0, 0) HA.out
 have q1 := cell_of_row w1 b0 1 _ _ (0, 0) HA.out
 have q2 := cell_of_row w1 b0 2 _ _ (0, 0) HA.out
 have q3 := cell_of_row w1 b0 3 _ _ (0, 0) HA.out
 have q4 := cell_of_row w1 b0 4 _ _ (0, 0) HA.out
 have q5 := cell_of_row w1 b0 5 _ _ (0, 0) HA.out
 have q6 := cell_of_row w1 b0 6 _ _ (0, 0) HA.out
 have q7 := cell_of_row w1 b0 7 _ _ (0, 0) HA.out
 simp at q0 q1 q2 q3 q4 q5 q6 q7
 clear HG
 go_wp2_with fail
 refine (HBad.out w1 HB.out).mono ?_
 rintro e w2 ⟨rfl, hb⟩
 have HB2 := Lib.hid (HB.out.trans (hb.mono HB.out.size))
 have HA2 := Lib.hid ((hb.block b0 (Array.getElem?_eq_some_iff.1 HA.out).1).trans HA.out)
 clear hb HBad HB HA q0 q1 q2 q3 q4 q5 q6 q7
 have q0 := cell_of_row w2 b0 0 _ _ (0, 0) HA2.out
 have q1 := cell_of_row w2 b0 1 _ _ (0, 0) HA2.out
 have q2 := cell_of_row w2 b0 2 _ _ (0, 0) HA2.out
 have q3 := cell_of_row w2 b0 3 _ _ (0, 0) HA2.out
 have q4 := cell_of_row w2 b0 4 _ _ (0, 0) HA2.out
 have q5 := cell_of_row w2 b0 5 _ _ (0, 0) HA2.out
 have q6 := cell_of_row w2 b0 6 _ _ (0, 0) HA2.out
 have q7 := cell_of_row w2 b0 7 _ _ (0, 0) HA2.out
 simp at q0 q1 q2 q3 q4 q5 q6 q7
 by_cases hk1 : k1 < 1114112
 ·have HK := Lib.hid hk1
  rw [leE_some hk1]
  clear hk1
  go_wp2
  refine bodyPost_ret (v := .tuple #[.pointer none, .int .i32 (k1 : Nat), .int .i64 140]) (by simp [results, Tryz.results12, go_sem]) rfl ?_
  exact ⟨HB2.out, .inl ⟨HK.out, rfl⟩⟩
 ·have HK := Lib.hid hk1
  rw [leE_none hk1]
  clear hk1
  go_wp2_with fail
  refine (HAm.out w2 HB2.out HK.out).mono ?_
  rintro e w3 ⟨rfl, hb⟩
  have HB3 := Lib.hid (HB2.out.trans (hb.mono HB2.out.size))
  have HA3 := Lib.hid ((hb.block b0 (Array.getElem?_eq_some_iff.1 HA2.out).1).trans HA2.out)
  clear hb HAm HB2 HA2 q0 q1 q2 q3 q4 q5 q6 q7
  have q0 := cell_of_row w3 b0 0 _ _ (0, 0) HA3.out
  have q1 := cell_of_row w3 b0 1 _ _ (0, 0) HA3.out
  have q2 := cell_of_row w3 b0 2 _ _ (0, 0) HA3.out
  have q3 := cell_of_row w3 b0 3 _ _ (0, 0) HA3.out
  have q4 := cell_of_row w3 b0 4 _ _ (0, 0) HA3.out
  have q5 := cell_of_row w3 b0 5 _ _ (0, 0) HA3.out
  have q6 := cell_of_row w3 b0 6 _ _ (0, 0) HA3.out
  have q7 := cell_of_row w3 b0 7 _ _ (0, 0) HA3.out
  simp at q0 q1 q2 q3 q4 q5 q6 q7
  by_cases hk2 : k2 < 1114112
  ·have HK2 := Lib.hid hk2
   rw [leE_some hk2]
   clear hk2
   go_wp2
   refine bodyPost_ret (v := .tuple #[.pointer none, .int .i32 (k2 : Nat), .int .i64 141]) (by simp [results, Tryz.results12, go_sem]) rfl ?_
   exact ⟨HB3.out, .inr (.inl ⟨HK.out, HK2.out, rfl⟩)⟩
  ·have HK2 := Lib.hid hk2
   rw [leE_none hk2]
   clear hk2
   have HT := Lib.hid (heap_alloc_new w3 (.cells #[.slice xa0 xn0 xc0, .slice xa1 xn1 xc1, .slice xa2 xn2 xc2, .slice xa3 xn3 xc3, .slice xa4 xn4 xc4, .slice xa5 xn5 xc5, .slice xa6 xn6 xc6, .slice xa7 xn7 xc7] 111))
   have hba := (Below.refl _ w3).alloc (Nat.le_refl _) (.cells #[.slice xa0 xn0 xc0, .slice xa1 xn1 xc1, .slice xa2 xn2 xc2, .slice xa3 xn3 xc3, .slice xa4 xn4 xc4, .slice xa5 xn5 xc5, .slice xa6 xn6 xc6, .slice xa7 xn7 xc7] 111)
   have HB4 := Lib.hid (HB3.out.trans (hba.mono HB3.out.size))
   have HF4 := Lib.hid (HF.out.below HB4.out)
   clear hba
   go_wp2
   refine bodyPost_ret (v := .tuple #[.pointer (some ⟨w3.heap.size, 0, none⟩), .int .i32 0, .int .i64 0]) (by simp [results, Tryz.results12, go_sem]) rfl ?_
   exact ⟨HB4.out, .inr (.inr ⟨HK.out, HK2.out, _, rfl, ⟨_, HT.out, HF4.out⟩, HB3.out.size, _, rfl, HT.out⟩)⟩
/-- what the document says of lists: bad, amiss, or tables -/
def DPackQ (w : World) (D : MadeD) (e : Ending) (w' : World) : Prop :=
 Below w.heap.size w w' ∧ ∃ k1 k2, Least (badK D) 1114112 k1 ∧ Least (wrongF (fvs D 0) (fvs D 1) (fvs D 2) (fvs D 3)) 1114112 k2 ∧ ((k1 < 1114112 ∧ e = .returned (.tuple #[.pointer none, .int .i32 (k1 : Nat), .int .i64 140])) ∨ (¬ k1 < 1114112 ∧ k2 < 1114112 ∧ e = .returned (.tuple #[.pointer none, .int .i32 (k2 : Nat), .int .i64 141])) ∨
  (¬ k1 < 1114112 ∧ ¬ k2 < 1114112 ∧ ∃ p, e = .returned (.tuple #[.pointer (some ⟨p, 0, none⟩), .int .i32 0, .int .i64 0]) ∧ DTab w' p (fvs D) ∧ DFar w.heap.size w' p))
theorem badTo_least {p : Nat → Bool} {v : Int} (h : BadTo p 1114112 v) : ∃ k, Least p 1114112 k ∧ v = leE k := by
 rcases h with ⟨rfl, h2⟩ | ⟨r, rfl, h1, h2, h3⟩
 ·exact ⟨1114112, .none h2, (leE_none (by omega)).symm⟩
 ·exact ⟨r, .hit (by omega) h2 h3, (leE_some (by omega)).symm⟩
theorem side_nn {D : MadeD} (h : MadeWf D) (r : Nat) : 0 ≤ D.side r := by
 unfold MadeD.side brG
 rcases lastF_cases (fun s : SpanD => s.f == ((r : Nat) : Int)) (fun s => (s.t, s.v)) D.l2 (0, 0) with e | ⟨s, hs, -, e⟩
 ·rw [e]; exact Int.le_refl _
 ·rw [e]; exact (h.w2 s hs).2.2.1
theorem pack_least {D : MadeD} (hw : MadeWf D) {k : Nat} (h : Least (badK D) 1114112 k) : Least (packBad D.cls D.oth D.side D.twin D.mir D.has) 1114112 k := h.congr (fun r hr => badK_pack D (side_nn hw) r)
theorem fvs_eq {D : MadeD} (hw : MadeWf D) (h : ∀ r, r < 1114112 → badK D r = false) (r : Nat) (hr : r < 1114112) : fvs D 0 r = D.cls r ∧ fvs D 1 r = bkF D.oth D.side r ∧ fvs D 2 r = twP D.twin r ∧ fvs D 3 r = miF D.mir D.has r := fvs_good (side_nn hw r) (h r hr)
theorem fvs_any {D : MadeD} (hw : MadeWf D) (h : ∀ r, r < 1114112 → badK D r = false) : ∀ r, r < 1114112 → anyB (fvs D) 4 r = false := by
 intro r hr
 have hL := pack_least hw (.none h)
 obtain ⟨e0, e1, e2, e3⟩ := fvs_eq hw h r hr
 obtain ⟨-, -, -, hb, ht, hm⟩ := pack_eq hL r (by omega)
 have hc := hL.no r hr
 simp only [packBad, Bool.or_eq_false_iff, pkC, knownB, Bool.not_eq_false', decide_eq_true_eq] at hc
 have h0 : badV 0 (D.cls r) = false := decide_eq_false (by simp only [lowV, highV]; simp; omega)
 have h1 : badV 1 (bkF D.oth D.side r) = false := decide_eq_false (by simp only [lowV, highV]; simp; omega)
 have h2 : badV 2 (twP D.twin r) = false := decide_eq_false (by simp only [lowV, highV]; simp; omega)
 have h3 : badV 3 (miF D.mir D.has r) = false := decide_eq_false (by simp only [lowV, highV]; simp; omega)
 show ((((false || badV 0 (fvs D 0 r)) || badV 1 (fvs D 1 r)) || badV 2 (fvs D 2 r)) || badV 3 (fvs D 3 r)) = false
 rw [e0, e1, e2, e3, h0, h1, h2, h3]
 rfl
theorem few_brackets {D : MadeD} (hw : MadeWf D) (hl : D.l2.length ≤ 20) (h : ∀ r, r < 1114112 → badK D r = false) : (nzR 1114112 (fvs D 1)).length < 64 := by
 have := few_runs (N := 1114112) (b := fvs D 1) (K := D.l2.map (fun s => s.f.toNat)) (fun r hr hne => by
  have e := (fvs_eq hw h r hr).2.1
  rw [e] at hne
  unfold bkF MadeD.side MadeD.oth brG at hne
  rcases lastF_cases (fun s : SpanD => s.f == ((r : Nat) : Int)) (fun s => (s.t, s.v)) D.l2 (0, 0) with e2 | ⟨s, hs, hp, e2⟩
  ·rw [e2] at hne; exact absurd rfl hne
  ·refine List.mem_map.2 ⟨s, hs, ?_⟩
   have := beq_iff_eq.1 hp
   rw [this]; rfl)
 rw [List.length_map] at this
 omega
set_option maxRecDepth 100000 in
set_option maxHeartbeats 8000000 in
theorem dPack_walk (w : World) (pm : Nat) (D : MadeD) (h : MadeAt w pm D) (hwf : MadeWf D) (hE8 : (edgeL D).length ≤ 1048576) (hl : D.l2.length ≤ 20) :
  Calls Tryz.prog 19 #[.pointer (some ⟨pm, 0, none⟩)] w fun e w' => DPackQ w D e w' := by
 have HFo := Lib.hid (madeFour9_walk w pm D h hwf hE8)
 have HW := Lib.hid hwf
 have HLl := Lib.hid hl
 clear h hwf hE8 hl
 go_enter Tryz.func19, Tryz.ntmps19
 go_wp2_with fail
 refine HFo.out.mono ?_
 rintro e w1 ⟨⟨hb, fv, bv, rfl, hbad, x0, x1, x2, x3, x4, x5, x6, x7, rfl, g0, g1, g2, g3⟩, y0, y1, y2, y3, y4, y5, y6, y7, u9, hy, f0, f1, f2, f3⟩
 simp at hy
 obtain ⟨⟨rfl, rfl, rfl, rfl, rfl, rfl, rfl, rfl⟩, -⟩ := hy
 have HFar := Lib.hid (show FourV w.heap.size (.agg #[x0, x1, x2, x3, x4, x5, x6, x7]) from ⟨_, _, _, _, _, _, _, _, rfl, f0, f1, f2, f3⟩)
 clear f0 f1 f2 f3
 obtain ⟨⟨xa0, xn0, xc0, rfl⟩, ⟨xa1, xn1, xc1, rfl⟩⟩ := g0.slices
 obtain ⟨⟨xa2, xn2, xc2, rfl⟩, ⟨xa3, xn3, xc3, rfl⟩⟩ := g1.slices
 obtain ⟨⟨xa4, xn4, xc4, rfl⟩, ⟨xa5, xn5, xc5, rfl⟩⟩ := g2.slices
 obtain ⟨⟨xa6, xn6, xc6, rfl⟩, ⟨xa7, xn7, xc7, rfl⟩⟩ := g3.slices
 have HF := Lib.hid (show FourAt w1 (.agg #[.slice xa0 xn0 xc0, .slice xa1 xn1 xc1, .slice xa2 xn2 xc2, .slice xa3 xn3 xc3, .slice xa4 xn4 xc4, .slice xa5 xn5 xc5, .slice xa6 xn6 xc6, .slice xa7 xn7 xc7]) (fvs D) from ⟨_, _, _, _, _, _, _, _, rfl, g0, g1, g2, g3⟩)
 have HB := Lib.hid hb
 obtain ⟨k1, hk1, rfl⟩ := badTo_least hbad
 obtain ⟨k2, hk2⟩ := Least.exists (wrongF (fvs D 0) (fvs D 1) (fvs D 2) (fvs D 3)) 1114112
 have HK1 := Lib.hid hk1; have HK2 := Lib.hid hk2
 clear hbad hb g0 g1 g2 g3 hk1 hk2 HFo
 have hA := heap_alloc_new w1 (.cells #[.slice xa0 xn0 xc0, .slice xa1 xn1 xc1, .slice xa2 xn2 xc2, .slice xa3 xn3 xc3, .slice xa4 xn4 xc4, .slice xa5 xn5 xc5, .slice xa6 xn6 xc6, .slice xa7 xn7 xc7] 37)
 have hBA := (Below.refl _ w1).alloc (Nat.le_refl _) (.cells #[.slice xa0 xn0 xc0, .slice xa1 xn1 xc1, .slice xa2 xn2 xc2, .slice xa3 xn3 xc3, .slice xa4 xn4 xc4, .slice xa5 xn5 xc5, .slice xa6 xn6 xc6, .slice xa7 xn7 xc7] 37)
 have HA := Lib.hid (And.intro hA hBA)
 clear hA hBA
 go_upto_region 2 with (fail)
 obtain ⟨b0, hb0⟩ : ∃ b0, b0 = w1.heap.size := ⟨_, rfl⟩
 rw [← hb0] at HA ⊢
 generalize w1.alloc (.cells #[.slice xa0 xn0 xc0, .slice xa1 xn1 xc1, .slice xa2 xn2 xc2, .slice xa3 xn3 xc3, .slice xa4 xn4 xc4, .slice xa5 xn5 xc5, .slice xa6 xn6 xc6, .slice xa7 xn7 xc7] 37) = w2 at *
 have HB2 := Lib.hid (HB.out.trans (HA.out.2.mono (by rw [hb0]; exact HB.out.size)))
 have HF2 := Lib.hid (HF.out.below (by rw [← hb0]; exact HA.out.2))
 have HA2 := Lib.hid HA.out.1
 clear hb0 HA HF HB
 have q0 := cell_of_row w2 b0 0 _ _ (0, 0) HA2.out
 have q1 := cell_of_row w2 b0 1 _ _ (0, 0) HA2.out
 have q2 := cell_of_row w2 b0 2 _ _ (0, 0) HA2.out
 have q3 := cell_of_row w2 b0 3 _ _ (0, 0) HA2.out
 have q4 := cell_of_row w2 b0 4 _ _ (0, 0) HA2.out
 have q5 := cell_of_row w2 b0 5 _ _ (0, 0) HA2.out
 have q6 := cell_of_row w2 b0 6 _ _ (0, 0) HA2.out
 have q7 := cell_of_row w2 b0 7 _ _ (0, 0) HA2.out
 simp at q0 q1 q2 q3 q4 q5 q6 q7
 by_cases hk : k1 < 1114112
 ·have HK := Lib.hid hk
  rw [leE_some hk]
  clear hk
  go_wp2
  refine bodyPost_ret (v := .tuple #[.pointer none, .int .i32 (k1 : Nat), .int .i64 140]) (by simp [results, Tryz.results19, go_sem]) rfl ?_
  exact ⟨HB2.out, k1, k2, HK1.out, HK2.out, .inl ⟨HK.out, rfl⟩⟩
 ·have HK := Lib.hid hk
  rw [leE_none hk]
  have HNo : Hid (∀ r, r < 1114112 → badK D r = false) := Lib.hid (fun r hr => HK1.out.no r (by have := HK1.out.le; omega))
  clear hk
  have HOv := Lib.hid (dOver_walk w2 _ (fvs D) HF2.out 1114112 k2 (.none (fvs_any HW.out HNo.out)) HK2.out (fun _ => few_brackets HW.out HLl.out HNo.out))
  go_wp2_with fail
  refine HOv.out.mono ?_
  rintro e w3 ⟨hb, ⟨h1, -⟩ | ⟨-, h2, rfl⟩ | ⟨-, h2, p, rfl, hp, hp1, cs9, hp2, hp3⟩⟩
  ·exact absurd h1 (Nat.lt_irrefl _)
  ·have HB3 := Lib.hid (HB2.out.trans (hb.mono HB2.out.size))
   have HK3 := Lib.hid h2
   clear hb h2 HOv
   go_wp2
   refine bodyPost_ret (v := .tuple #[.pointer none, .int .i32 (k2 : Nat), .int .i64 141]) (by simp [results, Tryz.results19, go_sem]) rfl ?_
   exact ⟨HB3.out, k1, k2, HK1.out, HK2.out, .inr (.inl ⟨HK.out, HK3.out, rfl⟩)⟩
  ·have HB3 := Lib.hid (HB2.out.trans (hb.mono HB2.out.size))
   have HK3 := Lib.hid h2
   cases hp2
   have HT := Lib.hid (show DTab w3 p (fvs D) ∧ DFar w.heap.size w3 p from ⟨hp, Nat.le_trans HB2.out.size hp1, _, hp3, HFar.out⟩)
   clear hb h2 hp hp1 hp3 HOv HFar
   go_wp2
   refine bodyPost_ret (v := .tuple #[.pointer (some ⟨p, 0, none⟩), .int .i32 0, .int .i64 0]) (by simp [results, Tryz.results19, go_sem]) rfl ?_
   exact ⟨HB3.out, k1, k2, HK1.out, HK2.out, .inr (.inr ⟨HK.out, HK3.out, p, rfl, HT.out⟩)⟩
end Go.Proofs.YtbmphakfgoompaaGreat

/-
 The document's tables, looked up; looks.
-/
namespace Go.Proofs.YtbmphakfgoompaaGreat
open Go.RowKit
attribute [local go_sem] Oper.semAt_some

set_option maxRecDepth 100000 in
set_option maxHeartbeats 8000000 in
theorem tClass_walk (w : World) (p : Nat) (F : Nat → Nat → Int) (hd : DTab w p F) (hfit : FitD F) (r : Int) (hr : wf32 r) :
  Calls Tryz.prog 96 #[.pointer (some ⟨p, 0, none⟩), .int .i32 r] w fun e w' => e = .returned (.int .u8 (F 0 (runeR r))) ∧ Below w.heap.size w w' := by
 have hv := hfit.c (runeR r) (runeR_le r)
 obtain ⟨cs, hp, x0, x1, x2, x3, x4, x5, x6, x7, e0, g0, g1, g2, g3⟩ := hd
 obtain rfl : cs = #[x0, x1, x2, x3, x4, x5, x6, x7] := by simpa using e0
 obtain ⟨⟨xa0, xn0, xc0, rfl⟩, ⟨xa1, xn1, xc1, rfl⟩⟩ := g0.slices
 obtain ⟨⟨xa2, xn2, xc2, rfl⟩, ⟨xa3, xn3, xc3, rfl⟩⟩ := g1.slices
 obtain ⟨⟨xa4, xn4, xc4, rfl⟩, ⟨xa5, xn5, xc5, rfl⟩⟩ := g2.slices
 obtain ⟨⟨xa6, xn6, xc6, rfl⟩, ⟨xa7, xn7, xc7, rfl⟩⟩ := g3.slices
 have HF := Lib.hid (show FourAt w (.agg #[.slice xa0 xn0 xc0, .slice xa1 xn1 xc1, .slice xa2 xn2 xc2, .slice xa3 xn3 xc3, .slice xa4 xn4 xc4, .slice xa5 xn5 xc5, .slice xa6 xn6 xc6, .slice xa7 xn7 xc7]) F from ⟨_, _, _, _, _, _, _, _, rfl, g0, g1, g2, g3⟩)
 have HG := Lib.hid (And.intro g0 (And.intro g1 (And.intro g2 g3)))
 clear g0 g1 g2 g3 e0
 have q0 := cell_of_row w p 0 _ _ (0, 0) hp
 have q1 := cell_of_row w p 1 _ _ (0, 0) hp
 have q2 := cell_of_row w p 2 _ _ (0, 0) hp
 have q3 := cell_of_row w p 3 _ _ (0, 0) hp
 have q4 := cell_of_row w p 4 _ _ (0, 0) hp
 have q5 := cell_of_row w p 5 _ _ (0, 0) hp
 have q6 := cell_of_row w p 6 _ _ (0, 0) hp
 have q7 := cell_of_row w p 7 _ _ (0, 0) hp
 simp at q0 q1 q2 q3 q4 q5 q6 q7
 clear hp
 have HAt := Lib.hid (HG.out.1.at_walk r hr)
 obtain ⟨v, hve⟩ : ∃ v, v = F 0 (runeR r) := ⟨_, rfl⟩
 rw [← hve] at hv HAt
 have HVe := Lib.hid hve
 have hw8 : IntKind.u8.wrap v = v := IntWalk.u8_in _ (by omega)
 clear hfit hve
 go_enter Tryz.func96, Tryz.ntmps96
 go_wp2_with fail
 refine HAt.out.mono ?_
 rintro e w2 ⟨rfl, hb⟩
 have HB := Lib.hid hb
 clear hb q0 q1 q2 q3 q4 q5 q6 q7
 go_wp2
 go_ret
 exact ⟨by rw [← HVe.out]; rfl, HB.out⟩
set_option maxRecDepth 100000 in
set_option maxHeartbeats 8000000 in
theorem tTwin_walk (w : World) (p : Nat) (F : Nat → Nat → Int) (hd : DTab w p F) (hfit : FitD F) (r : Int) (hr : wf32 r) :
  Calls Tryz.prog 97 #[.pointer (some ⟨p, 0, none⟩), .int .i32 r] w fun e w' => e = .returned (.int .i32 (twF (F 2) (runeR r))) ∧ Below w.heap.size w w' := by
 obtain ⟨cs, hp, x0, x1, x2, x3, x4, x5, x6, x7, e0, g0, g1, g2, g3⟩ := hd
 obtain rfl : cs = #[x0, x1, x2, x3, x4, x5, x6, x7] := by simpa using e0
 obtain ⟨⟨xa0, xn0, xc0, rfl⟩, ⟨xa1, xn1, xc1, rfl⟩⟩ := g0.slices
 obtain ⟨⟨xa2, xn2, xc2, rfl⟩, ⟨xa3, xn3, xc3, rfl⟩⟩ := g1.slices
 obtain ⟨⟨xa4, xn4, xc4, rfl⟩, ⟨xa5, xn5, xc5, rfl⟩⟩ := g2.slices
 obtain ⟨⟨xa6, xn6, xc6, rfl⟩, ⟨xa7, xn7, xc7, rfl⟩⟩ := g3.slices
 have HF := Lib.hid (show FourAt w (.agg #[.slice xa0 xn0 xc0, .slice xa1 xn1 xc1, .slice xa2 xn2 xc2, .slice xa3 xn3 xc3, .slice xa4 xn4 xc4, .slice xa5 xn5 xc5, .slice xa6 xn6 xc6, .slice xa7 xn7 xc7]) F from ⟨_, _, _, _, _, _, _, _, rfl, g0, g1, g2, g3⟩)
 have HG := Lib.hid (And.intro g0 (And.intro g1 (And.intro g2 g3)))
 clear g0 g1 g2 g3 e0
 have q0 := cell_of_row w p 0 _ _ (0, 0) hp
 have q1 := cell_of_row w p 1 _ _ (0, 0) hp
 have q2 := cell_of_row w p 2 _ _ (0, 0) hp
 have q3 := cell_of_row w p 3 _ _ (0, 0) hp
 have q4 := cell_of_row w p 4 _ _ (0, 0) hp
 have q5 := cell_of_row w p 5 _ _ (0, 0) hp
 have q6 := cell_of_row w p 6 _ _ (0, 0) hp
 have q7 := cell_of_row w p 7 _ _ (0, 0) hp
 simp at q0 q1 q2 q3 q4 q5 q6 q7
 clear hp
 have HAt := Lib.hid (dTwin_walk w _ F HF.out hfit r hr)
 clear hfit
 go_enter Tryz.func97, Tryz.ntmps97
 go_wp2_with fail
 refine HAt.out.mono ?_
 rintro e w2 ⟨rfl, hb⟩
 have HB := Lib.hid hb
 clear hb q0 q1 q2 q3 q4 q5 q6 q7
 go_wp2
 go_ret
 exact ⟨rfl, HB.out⟩
set_option maxRecDepth 100000 in
set_option maxHeartbeats 8000000 in
theorem tMirror_walk (w : World) (p : Nat) (F : Nat → Nat → Int) (hd : DTab w p F) (hfit : FitD F) (r : Int) (hr : wf32 r) (mv : Int) (is : Bool) (hmv : mv = if 0 < F 3 (runeR r) then F 3 (runeR r) - 1 else 0) (his : is = decide (0 < F 3 (runeR r))) :
  Calls Tryz.prog 95 #[.pointer (some ⟨p, 0, none⟩), .int .i32 r] w fun e w' => e = .returned (.tuple #[.int .i32 mv, .bool is]) ∧ Below w.heap.size w w' := by
 have hv := hfit.m (runeR r) (runeR_le r)
 obtain ⟨cs, hp, x0, x1, x2, x3, x4, x5, x6, x7, e0, g0, g1, g2, g3⟩ := hd
 obtain rfl : cs = #[x0, x1, x2, x3, x4, x5, x6, x7] := by simpa using e0
 obtain ⟨⟨xa0, xn0, xc0, rfl⟩, ⟨xa1, xn1, xc1, rfl⟩⟩ := g0.slices
 obtain ⟨⟨xa2, xn2, xc2, rfl⟩, ⟨xa3, xn3, xc3, rfl⟩⟩ := g1.slices
 obtain ⟨⟨xa4, xn4, xc4, rfl⟩, ⟨xa5, xn5, xc5, rfl⟩⟩ := g2.slices
 obtain ⟨⟨xa6, xn6, xc6, rfl⟩, ⟨xa7, xn7, xc7, rfl⟩⟩ := g3.slices
 have HF := Lib.hid (show FourAt w (.agg #[.slice xa0 xn0 xc0, .slice xa1 xn1 xc1, .slice xa2 xn2 xc2, .slice xa3 xn3 xc3, .slice xa4 xn4 xc4, .slice xa5 xn5 xc5, .slice xa6 xn6 xc6, .slice xa7 xn7 xc7]) F from ⟨_, _, _, _, _, _, _, _, rfl, g0, g1, g2, g3⟩)
 have HG := Lib.hid (And.intro g0 (And.intro g1 (And.intro g2 g3)))
 clear g0 g1 g2 g3 e0
 have q0 := cell_of_row w p 0 _ _ (0, 0) hp
 have q1 := cell_of_row w p 1 _ _ (0, 0) hp
 have q2 := cell_of_row w p 2 _ _ (0, 0) hp
 have q3 := cell_of_row w p 3 _ _ (0, 0) hp
 have q4 := cell_of_row w p 4 _ _ (0, 0) hp
 have q5 := cell_of_row w p 5 _ _ (0, 0) hp
 have q6 := cell_of_row w p 6 _ _ (0, 0) hp
 have q7 := cell_of_row w p 7 _ _ (0, 0) hp
 simp at q0 q1 q2 q3 q4 q5 q6 q7
 clear hp
 have HAt := Lib.hid (HG.out.2.2.2.at_walk r hr)
 obtain ⟨v, hve⟩ : ∃ v, v = F 3 (runeR r) := ⟨_, rfl⟩
 rw [← hve] at hv HAt hmv his
 have HMv := Lib.hid hmv
 have HIs := Lib.hid his
 clear hmv his
 clear hfit hve
 go_enter Tryz.func95, Tryz.ntmps95
 go_wp2_with fail
 refine HAt.out.mono ?_
 rintro e w2 ⟨rfl, hb⟩
 have HB := Lib.hid hb
 clear hb q0 q1 q2 q3 q4 q5 q6 q7
 by_cases h0 : v = 0
 ·have HD := Lib.hid h0
  have HM0 : Hid (mv = 0) := Lib.hid (by rw [HMv.out, h0]; rfl)
  have HI0 : Hid (is = false) := Lib.hid (by rw [HIs.out, h0]; rfl)
  subst h0
  go_wp2
  refine bodyPost_ret (v := .tuple #[.int .i32 0, .bool false]) (by simp [results, Tryz.results95, go_sem]) rfl ?_
  exact ⟨by rw [HM0.out, HI0.out], HB.out⟩
 ·have hd : (v == 0) = false := beq_false_of_ne h0
  have hw : IntKind.i32.wrap (v - 1) = v - 1 := IntWalk.i32_in _ (by omega)
  have HP := Lib.hid (show 0 < v by omega)
  go_wp2
  refine bodyPost_ret (v := .tuple #[.int .i32 (v - 1), .bool true]) (by simp [results, Tryz.results95, go_sem]) rfl ?_
  exact ⟨by rw [HMv.out, HIs.out, if_pos HP.out, decide_eq_true HP.out], HB.out⟩
set_option maxRecDepth 100000 in
set_option maxHeartbeats 8000000 in
theorem tBracket_walk (w : World) (p : Nat) (F : Nat → Nat → Int) (hd : DTab w p F) (hfit : FitD F) (r : Int) (hr : wf32 r) :
  Calls Tryz.prog 94 #[.pointer (some ⟨p, 0, none⟩), .int .i32 r] w fun e w' => e = .returned (.tuple #[.int .i32 (brO (F 1 (runeR r))), .int .u8 (brS (F 1 (runeR r)))]) ∧ Below w.heap.size w w' := by
 obtain ⟨cs, hp, x0, x1, x2, x3, x4, x5, x6, x7, e0, g0, g1, g2, g3⟩ := hd
 obtain rfl : cs = #[x0, x1, x2, x3, x4, x5, x6, x7] := by simpa using e0
 obtain ⟨⟨xa0, xn0, xc0, rfl⟩, ⟨xa1, xn1, xc1, rfl⟩⟩ := g0.slices
 obtain ⟨⟨xa2, xn2, xc2, rfl⟩, ⟨xa3, xn3, xc3, rfl⟩⟩ := g1.slices
 obtain ⟨⟨xa4, xn4, xc4, rfl⟩, ⟨xa5, xn5, xc5, rfl⟩⟩ := g2.slices
 obtain ⟨⟨xa6, xn6, xc6, rfl⟩, ⟨xa7, xn7, xc7, rfl⟩⟩ := g3.slices
 have HF := Lib.hid (show FourAt w (.agg #[.slice xa0 xn0 xc0, .slice xa1 xn1 xc1, .slice xa2 xn2 xc2, .slice xa3 xn3 xc3, .slice xa4 xn4 xc4, .slice xa5 xn5 xc5, .slice xa6 xn6 xc6, .slice xa7 xn7 xc7]) F from ⟨_, _, _, _, _, _, _, _, rfl, g0, g1, g2, g3⟩)
 have HG := Lib.hid (And.intro g0 (And.intro g1 (And.intro g2 g3)))
 clear g0 g1 g2 g3 e0
 have q0 := cell_of_row w p 0 _ _ (0, 0) hp
 have q1 := cell_of_row w p 1 _ _ (0, 0) hp
 have q2 := cell_of_row w p 2 _ _ (0, 0) hp
 have q3 := cell_of_row w p 3 _ _ (0, 0) hp
 have q4 := cell_of_row w p 4 _ _ (0, 0) hp
 have q5 := cell_of_row w p 5 _ _ (0, 0) hp
 have q6 := cell_of_row w p 6 _ _ (0, 0) hp
 have q7 := cell_of_row w p 7 _ _ (0, 0) hp
 simp at q0 q1 q2 q3 q4 q5 q6 q7
 clear hp
 have hrl := runeR_le r
 have HP := Lib.hid (fun q : Regrown => Go.Calls.regrown_of ((plain_walk r (Go.Sort.grow (redrawn w q.d) q.os)).mono fun e w' h => (show e = .returned (.int .i32 (runeR r : Nat)) ∧ Below _ _ w' from ⟨h.1, by rw [h.2]; exact Below.refl _ _⟩)))
 have HR := Lib.hid (fun q : Regrown => Go.Calls.regrown_of (by
  have h := dBracket_walk (Go.Sort.grow (redrawn w q.d) q.os) _ F (HF.out.below (below_regrown w q.d q.os)) hfit ((runeR r : Nat) : Int) (by unfold wf32; omega)
  rw [runeR_nat hrl] at h
  exact h))
 have z0 := fun d os => cell_regrown q0 d os
 have z1 := fun d os => cell_regrown q1 d os
 have z2 := fun d os => cell_regrown q2 d os
 have z3 := fun d os => cell_regrown q3 d os
 have z4 := fun d os => cell_regrown q4 d os
 have z5 := fun d os => cell_regrown q5 d os
 have z6 := fun d os => cell_regrown q6 d os
 have z7 := fun d os => cell_regrown q7 d os
 clear hfit q0 q1 q2 q3 q4 q5 q6 q7
 go_enter Tryz.func94, Tryz.ntmps94
 go_upto_region 1 with (fail)
 refine wp_region_quiet_below (by kernel_rfl) (by kernel_rfl) ?_
 iterate 5 (go_big_quiet_step (fail))
 go_big_quiet_step (exact HP.out _)
 go_big_quiet_step (exact HR.out _)
 iterate 4 (go_big_quiet_step (fail))
 refine wpQuiet_nil ?_
 intro _ hw'
 obtain ⟨⟨dq, osq⟩, hw''⟩ := hw'
 subst hw''
 have HB := Lib.hid (below_regrown w dq osq)
 generalize Go.Sort.grow (redrawn w dq) osq = w9 at *
 clear z0 z1 z2 z3 z4 z5 z6 z7 HP HR
 go_wp2
 refine bodyPost_ret (v := .tuple #[.int .i32 (brO (F 1 (runeR r))), .int .u8 (brS (F 1 (runeR r)))]) (by simp [results, Tryz.results94, go_sem]) rfl ?_
 exact ⟨rfl, HB.out⟩
def LkR (w : World) (n : Nat) (iv : Value) (wr : World) : Prop := ∃ k : Nat, k ≤ n ∧ iv = .int .i64 (k : Nat) ∧ Below w.heap.size w wr
set_option maxRecDepth 100000 in
set_option maxHeartbeats 8000000 in
theorem looksNil_walk (w : World) (v : Value) : Calls Tryz.prog 44 #[.pointer none, .pointer none, v] w fun e w' => e = .returned (.bool true) ∧ Below w.heap.size w w' := by
 have HB := Lib.hid (Below.refl w.heap.size w)
 go_enter Tryz.func44, Tryz.ntmps44
 go_wp2
 go_ret
 exact ⟨rfl, HB.out⟩
set_option maxRecDepth 100000 in
set_option maxHeartbeats 8000000 in
theorem looks_walk (w : World) (p q B : Nat) (F : Nat → Nat → Int) (hT : HTab w p (F 0) (F 1) (F 2) (F 3) B) (hd : DTab w q F) (hfit : FitD F) (a : Option Addr) (n c : Nat) (zs : List Int) (hl : zs.length = n) (hn : n ≤ maxLen) (hz : Ints .i32 w a zs) (hzb : ∀ z ∈ zs, wf32 z) :
  Calls Tryz.prog 44 #[.pointer (some ⟨p, 0, none⟩), .pointer (some ⟨q, 0, none⟩), .slice a n c] w fun e w' => e = .returned (.bool true) ∧ Below w.heap.size w w' := by
 have HF : Hid (Fit (F 1) (F 2) (F 3)) := Lib.hid ⟨hfit.b, hfit.t, hfit.m⟩
 have HFD := Lib.hid hfit
 have HT := Lib.hid hT
 have HD := Lib.hid hd
 have HL := Lib.hid hl
 have HZ := Lib.hid hz
 have HZb := Lib.hid hzb
 have HB0 := Lib.hid (Below.refl w.heap.size w)
 clear hT hd hfit hl hz hzb
 go_enter Tryz.func44, Tryz.ntmps44
 go_wp2
 go_loopw [7] (LkR w n) (fun i _ => n - (intOf i).toNat)
 case atStart => exact ⟨0, Nat.zero_le _, rfl, HB0.out⟩
 case round =>
  obtain ⟨k, hk, rfl, hbel⟩ := hrel
  have HB_wr := Lib.hid hbel
  by_cases hkn : k < n
  ·have hki : (k : Int) < (n : Int) := by omega
   by_cases hk2 : (k : Int) < 200
   ·have hkl : k < zs.length := by rw [HL.out]; exact hkn
    obtain ⟨g, o, eg⟩ := HZ.out.some (by omega)
    subst eg
    have hcx := (HZ.out.below hbel (Nat.le_refl _)).get k hkl
    have hzr := HZb.out _ (List.getElem_mem hkl)
    generalize zs[k] = r at *
    have HtB := Lib.hid (fun (W : World) (hb : Below w.heap.size w W) => (show Calls Tryz.prog 20 #[.pointer (some ⟨p, 0, none⟩), .int .i32 r] W fun e w' => e = .returned (.tuple #[.int .i32 (brO (F 1 (runeR r))), .int .u8 (brS (F 1 (runeR r)))]) ∧ Below W.heap.size W w' from by
     obtain ⟨gc, gb, gt, gm, SC, SB, ST, SM, x1, -⟩ := HT.out.below hb
     refine (bracket_says x1 HF.out r hzr.1 hzr.2).mono ?_
     rintro e w' ⟨rfl, x, rfl⟩
     exact ⟨rfl, below_drewN (Below.refl _ _) x⟩))
    have HtM := Lib.hid (fun (W : World) (hb : Below w.heap.size w W) => (show Calls Tryz.prog 21 #[.pointer (some ⟨p, 0, none⟩), .int .i32 r] W fun e w' => e = .returned (.tuple #[.int .i32 (if 0 < F 3 (runeR r) then F 3 (runeR r) - 1 else 0), .bool (decide (0 < F 3 (runeR r)))]) ∧ Below W.heap.size W w' from by
     obtain ⟨gc, gb, gt, gm, SC, SB, ST, SM, x1, -⟩ := HT.out.below hb
     refine (mirror_says x1 HF.out r hzr.1 hzr.2).mono ?_
     rintro e w' ⟨rfl, x, rfl⟩
     exact ⟨by by_cases h : 0 < F 3 (runeR r) <;> simp [h], below_drewN (Below.refl _ _) x⟩))
    have HtC := Lib.hid (fun (W : World) (hb : Below w.heap.size w W) => (show Calls Tryz.prog 22 #[.pointer (some ⟨p, 0, none⟩), .int .i32 r] W fun e w' => e = .returned (.int .u8 (F 0 (runeR r))) ∧ Below W.heap.size W w' from by
     obtain ⟨gc, gb, gt, gm, SC, SB, ST, SM, x1, -⟩ := HT.out.below hb
     refine (class_says x1 r hzr.1 hzr.2).mono ?_
     rintro e w' ⟨rfl, x, rfl⟩
     exact ⟨rfl, below_drewN (Below.refl _ _) x⟩))
    have HtT := Lib.hid (fun (W : World) (hb : Below w.heap.size w W) => (show Calls Tryz.prog 23 #[.pointer (some ⟨p, 0, none⟩), .int .i32 r] W fun e w' => e = .returned (.int .i32 (twF (F 2) (runeR r))) ∧ Below W.heap.size W w' from by
     obtain ⟨gc, gb, gt, gm, SC, SB, ST, SM, x1, -⟩ := HT.out.below hb
     refine (twin_says x1 HF.out r hzr.1 hzr.2).mono ?_
     rintro e w' ⟨rfl, x, rfl⟩
     exact ⟨rfl, below_drewN (Below.refl _ _) x⟩))
    have HdB := Lib.hid (fun (W : World) (hb : Below w.heap.size w W) => tBracket_walk W q F (HD.out.below hb) HFD.out r hzr)
    have HdM := Lib.hid (fun (W : World) (hb : Below w.heap.size w W) => tMirror_walk W q F (HD.out.below hb) HFD.out r hzr _ _ rfl rfl)
    have HdC := Lib.hid (fun (W : World) (hb : Below w.heap.size w W) => tClass_walk W q F (HD.out.below hb) HFD.out r hzr)
    have HdT := Lib.hid (fun (W : World) (hb : Below w.heap.size w W) => tTwin_walk W q F (HD.out.below hb) HFD.out r hzr)
    generalize (if 0 < F 3 (runeR r) then F 3 (runeR r) - 1 else 0) = m at *
    generalize decide (0 < F 3 (runeR r)) = is at *
    generalize brO (F 1 (runeR r)) = o1 at *
    generalize brS (F 1 (runeR r)) = s1 at *
    generalize F 0 (runeR r) = c1 at *
    generalize twF (F 2) (runeR r) = t1 at *
    have y1 : (o1 != o1) = false := by simp
    have y2 : (s1 != s1) = false := by simp
    have y3 : (c1 != c1) = false := by simp
    have y4 : (t1 != t1) = false := by simp
    have y5 : (m != m) = false := by simp
    have y6 : (is != is) = false := by simp
    clear hbel
    go_wp2_with fail
    refine (HtB.out wr HB_wr.out).mono ?_
    rintro e v1 ⟨rfl, hb⟩
    have HB_v1 := Lib.hid (HB_wr.out.trans (hb.mono HB_wr.out.size))
    clear hb
    go_wp2_with fail
    refine (HdB.out v1 HB_v1.out).mono ?_
    rintro e v2 ⟨rfl, hb⟩
    have HB_v2 := Lib.hid (HB_v1.out.trans (hb.mono HB_v1.out.size))
    clear hb
    go_wp2_with fail
    refine (HtM.out v2 HB_v2.out).mono ?_
    rintro e v3 ⟨rfl, hb⟩
    have HB_v3 := Lib.hid (HB_v2.out.trans (hb.mono HB_v2.out.size))
    clear hb
    go_wp2_with fail
    refine (HdM.out v3 HB_v3.out).mono ?_
    rintro e v4 ⟨rfl, hb⟩
    have HB_v4 := Lib.hid (HB_v3.out.trans (hb.mono HB_v3.out.size))
    clear hb
    go_wp2_with fail
    refine (HtC.out v4 HB_v4.out).mono ?_
    rintro e v5 ⟨rfl, hb⟩
    have HB_v5 := Lib.hid (HB_v4.out.trans (hb.mono HB_v4.out.size))
    clear hb
    go_wp2_with fail
    refine (HdC.out v5 HB_v5.out).mono ?_
    rintro e v6 ⟨rfl, hb⟩
    have HB_v6 := Lib.hid (HB_v5.out.trans (hb.mono HB_v5.out.size))
    clear hb
    go_wp2_with fail
    refine (HtT.out v6 HB_v6.out).mono ?_
    rintro e v7 ⟨rfl, hb⟩
    have HB_v7 := Lib.hid (HB_v6.out.trans (hb.mono HB_v6.out.size))
    clear hb
    go_wp2_with fail
    refine (HdT.out v7 HB_v7.out).mono ?_
    rintro e v8 ⟨rfl, hb⟩
    have HB_v8 := Lib.hid (HB_v7.out.trans (hb.mono HB_v7.out.size))
    clear hb
    go_wp2
    go_roundw
    case rel => exact ⟨k + 1, by omega, by go_num, HB_v8.out⟩
    case measure => simp [intOf]; omega
   ·clear hbel
    go_wp2
    go_ret
    exact ⟨rfl, HB_wr.out⟩
  ·have hki : ¬ (k : Int) < (n : Int) := by omega
   clear hbel
   go_wp2
   go_ret
   exact ⟨rfl, HB_wr.out⟩
end Go.Proofs.YtbmphakfgoompaaGreat
