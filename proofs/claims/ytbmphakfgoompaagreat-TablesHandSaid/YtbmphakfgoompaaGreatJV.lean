/- several texts in one: UFP UFW -/
import Derived.Deep.RegionHeld3
import Derived.Deep.RegionLaw
import Derived.Test.YtbmphakfgoompaaGreatGR
import Derived.Test.YtbmphakfgoompaaGreatGP
import Derived.Test.YtbmphakfgoompaaGreatJY
import Derived.Test.YtbmphakfgoompaaGreatJFD
import Derived.Test.YtbmphakfgoompaaGreatJD
set_option linter.unusedVariables false
set_option linter.unusedSimpArgs false
/-
 The document's packed tables of four functions.
-/
namespace Go.Proofs.YtbmphakfgoompaaGreat
open Go.RowKit
attribute [local go_sem] Oper.semAt_some

theorem exec_call2 {P : Program} {o : Oper} {a : Act} {w : World} (f : FuncId) (x y : Operand) (ts : Array TypeId) (ho : o.op = .call { callee := .value (.func f), args := #[x, y], argTypes := ts }) (u v : Value) (hu : a.eval x = u) (hv : a.eval y = v) (eg : ∀ args W, (callFunc f args).run P W = .ok (.enter f args) W) :
  (execOp a.eval o).run P w = .ok (.enter f #[u, v]) w := by
 subst hu hv
 unfold execOp
 simp only [ho]
 simp [resolve, invoke, go_sem, eg, Act.eval]
/-- packed tables of one's own -/
def Ow4 (B : Nat) (w : World) (s : Array Value) (F : Nat → Nat → Int) (M : Nat) : Prop := ∃ s0 s1 s2 s3 s4 s5 s6 s7 s8 s9 s10 s11, s = #[s0, s1, s2, s3, s4, s5, s6, s7, s8, s9, s10, s11] ∧
 Ow8 B w s0 s1 s2 (trieS (mkF (F 0) M)) ∧ OwJ B w s3 s4 s5 (trieS (mkF (F 1) M)) ∧ OwJ B w s6 s7 s8 (trieS (mkF (F 2) M)) ∧ OwJ B w s9 s10 s11 (trieS (mkF (F 3) M))
theorem Ow4.below {B : Nat} {w w' : World} {s : Array Value} {F : Nat → Nat → Int} {M : Nat} (h : Ow4 B w s F M) (hb : Below w.heap.size w w') : Ow4 B w' s F M := by
 obtain ⟨s0, s1, s2, s3, s4, s5, s6, s7, s8, s9, s10, s11, e, h0, h1, h2, h3⟩ := h
 exact ⟨s0, s1, s2, s3, s4, s5, s6, s7, s8, s9, s10, s11, e, h0.below hb, h1.below hb, h2.below hb, h3.below hb⟩
theorem Ow4.mono {B B' : Nat} {w : World} {s : Array Value} {F : Nat → Nat → Int} {M : Nat} (h : Ow4 B w s F M) (hb : B' ≤ B) : Ow4 B' w s F M := by
 obtain ⟨s0, s1, s2, s3, s4, s5, s6, s7, s8, s9, s10, s11, e, h0, h1, h2, h3⟩ := h
 exact ⟨s0, s1, s2, s3, s4, s5, s6, s7, s8, s9, s10, s11, e, h0.mono hb, h1.mono hb, h2.mono hb, h3.mono hb⟩

set_option maxRecDepth 100000 in
set_option maxHeartbeats 4000000 in
theorem packed_walk (w : World) (f : Value) (F : Nat → Nat → Int) (hf : FourAt w f F) (M : Nat) (hM : M = 17408) (h0 : ∀ r, r < 1114112 → 0 ≤ F 0 r ∧ F 0 r ≤ 255) (hJ : ∀ k, 0 < k → k < 4 → ∀ r, r < 1114112 → -2147483648 ≤ F k r ∧ F k r ≤ 2147483647) :
  Calls Tryz.prog 10 #[f] w fun e w' => ∃ s, e = .returned (.agg s) ∧ Ow4 w.heap.size w' s F M ∧ Below w.heap.size w w' := by
 obtain ⟨x0, x1, x2, x3, x4, x5, x6, x7, rfl, g0, g1, g2, g3⟩ := hf
 obtain ⟨⟨xa0, xn0, xc0, rfl⟩, ⟨xa1, xn1, xc1, rfl⟩⟩ := g0.slices
 obtain ⟨⟨xa2, xn2, xc2, rfl⟩, ⟨xa3, xn3, xc3, rfl⟩⟩ := g1.slices
 obtain ⟨⟨xa4, xn4, xc4, rfl⟩, ⟨xa5, xn5, xc5, rfl⟩⟩ := g2.slices
 obtain ⟨⟨xa6, xn6, xc6, rfl⟩, ⟨xa7, xn7, xc7, rfl⟩⟩ := g3.slices
 have HP0 := Lib.hid (fun (W : World) (hb : Below w.heap.size w W) => partsC_walk W (.agg #[.slice xa0 xn0 xc0, .slice xa1 xn1 xc1]) (F 0) M hM (g0.below hb) h0)
 have HP1 := Lib.hid (fun (W : World) (hb : Below w.heap.size w W) => partsJ_walk W (.agg #[.slice xa2 xn2 xc2, .slice xa3 xn3 xc3]) (F 1) M hM (g1.below hb) (hJ 1 (by omega) (by omega)))
 have HP2 := Lib.hid (fun (W : World) (hb : Below w.heap.size w W) => partsJ_walk W (.agg #[.slice xa4 xn4 xc4, .slice xa5 xn5 xc5]) (F 2) M hM (g2.below hb) (hJ 2 (by omega) (by omega)))
 have HP3 := Lib.hid (fun (W : World) (hb : Below w.heap.size w W) => partsJ_walk W (.agg #[.slice xa6 xn6 xc6, .slice xa7 xn7 xc7]) (F 3) M hM (g3.below hb) (hJ 3 (by omega) (by omega)))
 clear g0 g1 g2 g3 h0 hJ hM
 have HA := Lib.hid (heap_alloc_new w (.cells #[.slice xa0 xn0 xc0, .slice xa1 xn1 xc1, .slice xa2 xn2 xc2, .slice xa3 xn3 xc3, .slice xa4 xn4 xc4, .slice xa5 xn5 xc5, .slice xa6 xn6 xc6, .slice xa7 xn7 xc7] 37))
 have HB := Lib.hid ((Below.refl _ w).alloc (Nat.le_refl _) (.cells #[.slice xa0 xn0 xc0, .slice xa1 xn1 xc1, .slice xa2 xn2 xc2, .slice xa3 xn3 xc3, .slice xa4 xn4 xc4, .slice xa5 xn5 xc5, .slice xa6 xn6 xc6, .slice xa7 xn7 xc7] 37))
 have HZ := Lib.hid (World.size_alloc w (.cells #[.slice xa0 xn0 xc0, .slice xa1 xn1 xc1, .slice xa2 xn2 xc2, .slice xa3 xn3 xc3, .slice xa4 xn4 xc4, .slice xa5 xn5 xc5, .slice xa6 xn6 xc6, .slice xa7 xn7 xc7] 37))
 go_enter Tryz.func10, Tryz.ntmps10
 go_upto_region 1 with (fail)
 obtain ⟨b0, hb0⟩ : ∃ b0, b0 = w.heap.size := ⟨_, rfl⟩
 rw [← hb0] at HA HZ ⊢
 generalize w.alloc (.cells #[.slice xa0 xn0 xc0, .slice xa1 xn1 xc1, .slice xa2 xn2 xc2, .slice xa3 xn3 xc3, .slice xa4 xn4 xc4, .slice xa5 xn5 xc5, .slice xa6 xn6 xc6, .slice xa7 xn7 xc7] 37) = w1 at *
 have HA2 := Lib.hid (heap_alloc_new w1 (.cells #[.slice none 0 0, .slice none 0 0, .slice none 0 0, .slice none 0 0, .slice none 0 0, .slice none 0 0, .slice none 0 0, .slice none 0 0, .slice none 0 0, .slice none 0 0, .slice none 0 0, .slice none 0 0] 50))
 have HB2 := Lib.hid ((Below.refl _ w1).alloc (Nat.le_refl _) (.cells #[.slice none 0 0, .slice none 0 0, .slice none 0 0, .slice none 0 0, .slice none 0 0, .slice none 0 0, .slice none 0 0, .slice none 0 0, .slice none 0 0, .slice none 0 0, .slice none 0 0, .slice none 0 0] 50))
 have HZ2 := Lib.hid (World.size_alloc w1 (.cells #[.slice none 0 0, .slice none 0 0, .slice none 0 0, .slice none 0 0, .slice none 0 0, .slice none 0 0, .slice none 0 0, .slice none 0 0, .slice none 0 0, .slice none 0 0, .slice none 0 0, .slice none 0 0] 50))
 rw [HZ.out] at HA2 HZ2
 have HB3 : Hid (Below w.heap.size w (w1.alloc (.cells #[.slice none 0 0, .slice none 0 0, .slice none 0 0, .slice none 0 0, .slice none 0 0, .slice none 0 0, .slice none 0 0, .slice none 0 0, .slice none 0 0, .slice none 0 0, .slice none 0 0, .slice none 0 0] 50))) := Lib.hid (HB.out.trans (HB2.out.mono HB.out.size))
 have HA3 := Lib.hid ((HB2.out.block b0 (by rw [HZ.out]; omega)).trans HA.out)
 generalize w1.alloc (.cells #[.slice none 0 0, .slice none 0 0, .slice none 0 0, .slice none 0 0, .slice none 0 0, .slice none 0 0, .slice none 0 0, .slice none 0 0, .slice none 0 0, .slice none 0 0, .slice none 0 0, .slice none 0 0] 50) = w2 at *
 obtain ⟨b4, hb4⟩ : ∃ b4, b4 = b0 + 1 := ⟨_, rfl⟩
 rw [← hb4] at HA2 HZ2 ⊢
 have hd : Below w2.heap.size w2 w2.drew := (Below.refl _ w2).drew
 have HC0 := Lib.hid ((hd.block b0 (by have := HZ2.out; omega)).trans HA3.out)
 have HR0 := Lib.hid ((hd.block b4 (by have := HZ2.out; omega)).trans HA2.out)
 have HB0 : Hid (Below w.heap.size w w2.drew) := Lib.hid (HB3.out.trans (hd.mono (by have := HZ2.out; omega)))
 have HS0 : Hid (b4 + 1 ≤ w2.drew.heap.size) := Lib.hid (by have := HZ2.out; have := hd.size; omega)
 have Hb0 := Lib.hid hb0; have Hb4 := Lib.hid hb4
 refine (wpIn_wide (n := 2)).1 ?_
 refine wpIn_region_calm [13] (fun w' => w'.heap[b0]? = some (.cells #[.slice xa0 xn0 xc0, .slice xa1 xn1 xc1, .slice xa2 xn2 xc2, .slice xa3 xn3 xc3, .slice xa4 xn4 xc4, .slice xa5 xn5 xc5, .slice xa6 xn6 xc6, .slice xa7 xn7 xc7] 37 (0, 0))) (by kernel_rfl) ?_
 generalize w2.drew = y0 at *
 clear hd HA HB HB2 HA2 HZ2 HZ HB3 HA3 hb0 hb4
 refine' anyD_take (i := 0) (v := .pointer (some ⟨b0, 0, none⟩)) [13] (by kernel_rfl) rfl (by rfl) (by kernel_rfl) (fun _ _ _ h => h) (by rfl) ?h0 HC0.out ?k0
 case h0 =>
  intro w' c0
  have q0 := cell_of_row w' b0 0 _ _ (0, 0) c0
  have q1 := cell_of_row w' b0 1 _ _ (0, 0) c0
  simp only [List.getElem?_toArray, List.getElem?_cons_zero, List.getElem?_cons_succ] at q0 q1
  go_simp
  try with_reducible rfl
 simp only [List.getElem_toArray, List.getElem_cons_zero, List.getElem_cons_succ, Act.put, List.setIfInBounds_toArray, List.set_cons_zero, List.set_cons_succ]
 refine' anyD_take (i := 1) (v := (.agg #[.slice xa0 xn0 xc0, .slice xa1 xn1 xc1])) [13] (by kernel_rfl) rfl (by rfl) (by kernel_rfl) (fun _ _ _ h => h) (by rfl) ?h1 HC0.out ?k1
 case h1 =>
  intro w' c0
  have q0 := cell_of_row w' b0 0 _ _ (0, 0) c0
  have q1 := cell_of_row w' b0 1 _ _ (0, 0) c0
  simp only [List.getElem?_toArray, List.getElem?_cons_zero, List.getElem?_cons_succ] at q0 q1
  go_simp
  try with_reducible rfl
 simp only [List.getElem_toArray, List.getElem_cons_zero, List.getElem_cons_succ, Act.put, List.setIfInBounds_toArray, List.set_cons_zero, List.set_cons_succ]
 refine' anyD_take (i := 3) (v := .pointer (some ⟨b0, 2, none⟩)) [13] (by kernel_rfl) rfl (by rfl) (by kernel_rfl) (fun _ _ _ h => h) (by rfl) ?h3 HC0.out ?k3
 case h3 =>
  intro w' c0
  have q0 := cell_of_row w' b0 2 _ _ (0, 0) c0
  have q1 := cell_of_row w' b0 3 _ _ (0, 0) c0
  simp only [List.getElem?_toArray, List.getElem?_cons_zero, List.getElem?_cons_succ] at q0 q1
  go_simp
  try with_reducible rfl
 simp only [List.getElem_toArray, List.getElem_cons_zero, List.getElem_cons_succ, Act.put, List.setIfInBounds_toArray, List.set_cons_zero, List.set_cons_succ]
 refine' anyD_take (i := 4) (v := (.agg #[.slice xa2 xn2 xc2, .slice xa3 xn3 xc3])) [13] (by kernel_rfl) rfl (by rfl) (by kernel_rfl) (fun _ _ _ h => h) (by rfl) ?h4 HC0.out ?k4
 case h4 =>
  intro w' c0
  have q0 := cell_of_row w' b0 2 _ _ (0, 0) c0
  have q1 := cell_of_row w' b0 3 _ _ (0, 0) c0
  simp only [List.getElem?_toArray, List.getElem?_cons_zero, List.getElem?_cons_succ] at q0 q1
  go_simp
  try with_reducible rfl
 simp only [List.getElem_toArray, List.getElem_cons_zero, List.getElem_cons_succ, Act.put, List.setIfInBounds_toArray, List.set_cons_zero, List.set_cons_succ]
 refine' anyD_take (i := 6) (v := .pointer (some ⟨b0, 4, none⟩)) [13] (by kernel_rfl) rfl (by rfl) (by kernel_rfl) (fun _ _ _ h => h) (by rfl) ?h6 HC0.out ?k6
 case h6 =>
  intro w' c0
  have q0 := cell_of_row w' b0 4 _ _ (0, 0) c0
  have q1 := cell_of_row w' b0 5 _ _ (0, 0) c0
  simp only [List.getElem?_toArray, List.getElem?_cons_zero, List.getElem?_cons_succ] at q0 q1
  go_simp
  try with_reducible rfl
 simp only [List.getElem_toArray, List.getElem_cons_zero, List.getElem_cons_succ, Act.put, List.setIfInBounds_toArray, List.set_cons_zero, List.set_cons_succ]
 refine' anyD_take (i := 7) (v := (.agg #[.slice xa4 xn4 xc4, .slice xa5 xn5 xc5])) [13] (by kernel_rfl) rfl (by rfl) (by kernel_rfl) (fun _ _ _ h => h) (by rfl) ?h7 HC0.out ?k7
 case h7 =>
  intro w' c0
  have q0 := cell_of_row w' b0 4 _ _ (0, 0) c0
  have q1 := cell_of_row w' b0 5 _ _ (0, 0) c0
  simp only [List.getElem?_toArray, List.getElem?_cons_zero, List.getElem?_cons_succ] at q0 q1
  go_simp
  try with_reducible rfl
 simp only [List.getElem_toArray, List.getElem_cons_zero, List.getElem_cons_succ, Act.put, List.setIfInBounds_toArray, List.set_cons_zero, List.set_cons_succ]
 refine' anyD_take (i := 9) (v := .pointer (some ⟨b0, 6, none⟩)) [13] (by kernel_rfl) rfl (by rfl) (by kernel_rfl) (fun _ _ _ h => h) (by rfl) ?h9 HC0.out ?k9
 case h9 =>
  intro w' c0
  have q0 := cell_of_row w' b0 6 _ _ (0, 0) c0
  have q1 := cell_of_row w' b0 7 _ _ (0, 0) c0
  simp only [List.getElem?_toArray, List.getElem?_cons_zero, List.getElem?_cons_succ] at q0 q1
  go_simp
  try with_reducible rfl
 simp only [List.getElem_toArray, List.getElem_cons_zero, List.getElem_cons_succ, Act.put, List.setIfInBounds_toArray, List.set_cons_zero, List.set_cons_succ]
 refine' anyD_take (i := 10) (v := (.agg #[.slice xa6 xn6 xc6, .slice xa7 xn7 xc7])) [13] (by kernel_rfl) rfl (by rfl) (by kernel_rfl) (fun _ _ _ h => h) (by rfl) ?h10 HC0.out ?k10
 case h10 =>
  intro w' c0
  have q0 := cell_of_row w' b0 6 _ _ (0, 0) c0
  have q1 := cell_of_row w' b0 7 _ _ (0, 0) c0
  simp only [List.getElem?_toArray, List.getElem?_cons_zero, List.getElem?_cons_succ] at q0 q1
  go_simp
  try with_reducible rfl
 simp only [List.getElem_toArray, List.getElem_cons_zero, List.getElem_cons_succ, Act.put, List.setIfInBounds_toArray, List.set_cons_zero, List.set_cons_succ]
 refine anyC_r1 (i := 2) (by kernel_rfl) ?_
 refine stepCall (i := 2) rfl (by rfl) (by rfl) (fun _ _ => trivial) (exec_call2 27 (.tmp 4) (.func 28) _ rfl (.agg #[.slice xa0 xn0 xc0, .slice xa1 xn1 xc1]) (.func (.func 28) #[] #[]) rfl rfl (enters_of Tryz.func27 (by kernel_rfl) rfl)) (fun h => by cases h) ?_
 refine callsIn_wide.2 ?_
 refine (HP0.out y0 HB0.out).mono ?_
 rintro e y1 ⟨s0, s1, s2, rfl, o1, hb⟩
 have HO0_0 : Hid (Ow8 (b4 + 1) y1 s0 s1 s2 (trieS (mkF (F 0) M))) := Lib.hid (o1.mono HS0.out)
 have HR1 := Lib.hid ((hb.block b4 (by have := HS0.out; omega)).trans HR0.out)
 have HB1 := Lib.hid (HB0.out.trans (hb.mono (by have := HS0.out; have := Hb0.out; have := Hb4.out; omega)))
 have HC1 := Lib.hid ((hb.block b0 (by have := HS0.out; have := Hb4.out; omega)).trans HC0.out)
 have HS1 : Hid (b4 + 1 ≤ y1.heap.size) := Lib.hid (by have := HS0.out; have := hb.size; omega)
 clear o1 hb HR0 HB0 HC0 HS0
 refine ⟨_, rfl, fun _ => HC1.out, ?_⟩
 simp only [List.getElem_toArray, List.getElem_cons_zero, List.getElem_cons_succ, Act.put, List.setIfInBounds_toArray, List.set_cons_zero, List.set_cons_succ]
 refine anyC_r1 (i := 5) (by kernel_rfl) ?_
 refine stepCall (i := 5) rfl (by rfl) (by rfl) (fun _ _ => trivial) (exec_call2 29 (.tmp 7) (.func 30) _ rfl (.agg #[.slice xa2 xn2 xc2, .slice xa3 xn3 xc3]) (.func (.func 30) #[] #[]) rfl rfl (enters_of Tryz.func29 (by kernel_rfl) rfl)) (fun h => by cases h) ?_
 refine callsIn_wide.2 ?_
 refine (HP1.out y1 HB1.out).mono ?_
 rintro e y2 ⟨s3, s4, s5, rfl, o1, hb⟩
 have HO1_1 : Hid (OwJ (b4 + 1) y2 s3 s4 s5 (trieS (mkF (F 1) M))) := Lib.hid (o1.mono HS1.out)
 have HR2 := Lib.hid ((hb.block b4 (by have := HS1.out; omega)).trans HR1.out)
 have HB2 := Lib.hid (HB1.out.trans (hb.mono (by have := HS1.out; have := Hb0.out; have := Hb4.out; omega)))
 have HC2 := Lib.hid ((hb.block b0 (by have := HS1.out; have := Hb4.out; omega)).trans HC1.out)
 have HS2 : Hid (b4 + 1 ≤ y2.heap.size) := Lib.hid (by have := HS1.out; have := hb.size; omega)
 have HO0_1 := Lib.hid (HO0_0.out.below hb)
 clear HO0_0
 clear o1 hb HR1 HB1 HC1 HS1
 refine ⟨_, rfl, fun _ => HC2.out, ?_⟩
 simp only [List.getElem_toArray, List.getElem_cons_zero, List.getElem_cons_succ, Act.put, List.setIfInBounds_toArray, List.set_cons_zero, List.set_cons_succ]
 refine anyC_r1 (i := 8) (by kernel_rfl) ?_
 refine stepCall (i := 8) rfl (by rfl) (by rfl) (fun _ _ => trivial) (exec_call2 29 (.tmp 10) (.func 30) _ rfl (.agg #[.slice xa4 xn4 xc4, .slice xa5 xn5 xc5]) (.func (.func 30) #[] #[]) rfl rfl (enters_of Tryz.func29 (by kernel_rfl) rfl)) (fun h => by cases h) ?_
 refine callsIn_wide.2 ?_
 refine (HP2.out y2 HB2.out).mono ?_
 rintro e y3 ⟨s6, s7, s8, rfl, o1, hb⟩
 have HO2_2 : Hid (OwJ (b4 + 1) y3 s6 s7 s8 (trieS (mkF (F 2) M))) := Lib.hid (o1.mono HS2.out)
 have HR3 := Lib.hid ((hb.block b4 (by have := HS2.out; omega)).trans HR2.out)
 have HB3 := Lib.hid (HB2.out.trans (hb.mono (by have := HS2.out; have := Hb0.out; have := Hb4.out; omega)))
 have HC3 := Lib.hid ((hb.block b0 (by have := HS2.out; have := Hb4.out; omega)).trans HC2.out)
 have HS3 : Hid (b4 + 1 ≤ y3.heap.size) := Lib.hid (by have := HS2.out; have := hb.size; omega)
 have HO0_2 := Lib.hid (HO0_1.out.below hb)
 clear HO0_1
 have HO1_2 := Lib.hid (HO1_1.out.below hb)
 clear HO1_1
 clear o1 hb HR2 HB2 HC2 HS2
 refine ⟨_, rfl, fun _ => HC3.out, ?_⟩
 simp only [List.getElem_toArray, List.getElem_cons_zero, List.getElem_cons_succ, Act.put, List.setIfInBounds_toArray, List.set_cons_zero, List.set_cons_succ]
 refine anyC_r1 (i := 11) (by kernel_rfl) ?_
 refine stepCall (i := 11) rfl (by rfl) (by rfl) (fun _ _ => trivial) (exec_call2 29 (.tmp 13) (.func 30) _ rfl (.agg #[.slice xa6 xn6 xc6, .slice xa7 xn7 xc7]) (.func (.func 30) #[] #[]) rfl rfl (enters_of Tryz.func29 (by kernel_rfl) rfl)) (fun h => by cases h) ?_
 refine callsIn_wide.2 ?_
 refine (HP3.out y3 HB3.out).mono ?_
 rintro e y4 ⟨s9, s10, s11, rfl, o1, hb⟩
 have HO3_3 : Hid (OwJ (b4 + 1) y4 s9 s10 s11 (trieS (mkF (F 3) M))) := Lib.hid (o1.mono HS3.out)
 have HR4 := Lib.hid ((hb.block b4 (by have := HS3.out; omega)).trans HR3.out)
 have HB4 := Lib.hid (HB3.out.trans (hb.mono (by have := HS3.out; have := Hb0.out; have := Hb4.out; omega)))
 have HC4 := Lib.hid ((hb.block b0 (by have := HS3.out; have := Hb4.out; omega)).trans HC3.out)
 have HS4 : Hid (b4 + 1 ≤ y4.heap.size) := Lib.hid (by have := HS3.out; have := hb.size; omega)
 have HO0_3 := Lib.hid (HO0_2.out.below hb)
 clear HO0_2
 have HO1_3 := Lib.hid (HO1_2.out.below hb)
 clear HO1_2
 have HO2_3 := Lib.hid (HO2_2.out.below hb)
 clear HO2_2
 clear o1 hb HR3 HB3 HC3 HS3
 refine ⟨_, rfl, fun _ => HC4.out, ?_⟩
 simp only [List.getElem_toArray, List.getElem_cons_zero, List.getElem_cons_succ, Act.put, List.setIfInBounds_toArray, List.set_cons_zero, List.set_cons_succ]
 obtain ⟨a01, c01, a02, c02, a03, c03, rfl, rfl, rfl, u01, u02, u03⟩ := HO0_3.out
 obtain ⟨a11, c11, a12, c12, a13, c13, rfl, rfl, rfl, u11, u12, u13⟩ := HO1_3.out
 obtain ⟨a21, c21, a22, c22, a23, c23, rfl, rfl, rfl, u21, u22, u23⟩ := HO2_3.out
 obtain ⟨a31, c31, a32, c32, a33, c33, rfl, rfl, rfl, u31, u32, u33⟩ := HO3_3.out
 have HU01 := Lib.hid u01
 have HU02 := Lib.hid u02
 have HU03 := Lib.hid u03
 have HU11 := Lib.hid u11
 have HU12 := Lib.hid u12
 have HU13 := Lib.hid u13
 have HU21 := Lib.hid u21
 have HU22 := Lib.hid u22
 have HU23 := Lib.hid u23
 have HU31 := Lib.hid u31
 have HU32 := Lib.hid u32
 have HU33 := Lib.hid u33
 clear u01 u02 u03 u11 u12 u13 u21 u22 u23 u31 u32 u33 HO0_3 HO1_3 HO2_3 HO3_3
 refine anyC_r1 (i := 12) (by kernel_rfl) ?_
 refine stepV (i := 12) (v := .agg #[.slice a01 272 c01, .slice a02 (64 * (trieS (mkF (F 0) M)).mid.length) c02, .slice a03 (64 * (trieS (mkF (F 0) M)).low.length) c03, .slice a11 272 c11, .slice a12 (64 * (trieS (mkF (F 1) M)).mid.length) c12, .slice a13 (64 * (trieS (mkF (F 1) M)).low.length) c13, .slice a21 272 c21, .slice a22 (64 * (trieS (mkF (F 2) M)).mid.length) c22, .slice a23 (64 * (trieS (mkF (F 2) M)).low.length) c23, .slice a31 272 c31, .slice a32 (64 * (trieS (mkF (F 3) M)).mid.length) c32, .slice a33 (64 * (trieS (mkF (F 3) M)).low.length) c33]) (w' := y4) rfl (by rfl) (fun _ _ => trivial) (by rfl) (exec_build4 50 (.tmp 5) (.tmp 8) (.tmp 11) (.tmp 14) rfl _ _ _ _ _ rfl rfl rfl rfl (by kernel_rfl)) (fun _ => HC4.out) ?_
 simp only [List.getElem_toArray, List.getElem_cons_zero, List.getElem_cons_succ, Act.put, List.setIfInBounds_toArray, List.set_cons_zero, List.set_cons_succ]
 refine anyC_r1 (i := 13) (by kernel_rfl) ?_
 refine stepS (i := 13) (w' := y4.setRow b4 #[.slice a01 272 c01, .slice a02 (64 * (trieS (mkF (F 0) M)).mid.length) c02, .slice a03 (64 * (trieS (mkF (F 0) M)).low.length) c03, .slice a11 272 c11, .slice a12 (64 * (trieS (mkF (F 1) M)).mid.length) c12, .slice a13 (64 * (trieS (mkF (F 1) M)).low.length) c13, .slice a21 272 c21, .slice a22 (64 * (trieS (mkF (F 2) M)).mid.length) c22, .slice a23 (64 * (trieS (mkF (F 2) M)).low.length) c23, .slice a31 272 c31, .slice a32 (64 * (trieS (mkF (F 3) M)).mid.length) c32, .slice a33 (64 * (trieS (mkF (F 3) M)).low.length) c33]) rfl (by rfl) (fun _ _ => trivial) (by rfl) (exec_storeRow 50 (.tmp 2) (.tmp 15) rfl b4 _ rfl rfl 50 _ HR4.out (by kernel_rfl) rfl (by simp [Value.oneCell'])) (fun h => absurd (by simp) h) ?_
 refine ⟨by kernel_rfl, ?_⟩
 have y2 := setRow_heap y4 b4 _ #[.slice a01 272 c01, .slice a02 (64 * (trieS (mkF (F 0) M)).mid.length) c02, .slice a03 (64 * (trieS (mkF (F 0) M)).low.length) c03, .slice a11 272 c11, .slice a12 (64 * (trieS (mkF (F 1) M)).mid.length) c12, .slice a13 (64 * (trieS (mkF (F 1) M)).low.length) c13, .slice a21 272 c21, .slice a22 (64 * (trieS (mkF (F 2) M)).mid.length) c22, .slice a23 (64 * (trieS (mkF (F 2) M)).low.length) c23, .slice a31 272 c31, .slice a32 (64 * (trieS (mkF (F 3) M)).mid.length) c32, .slice a33 (64 * (trieS (mkF (F 3) M)).low.length) c33] _ _ HR4.out
 have hw4 : w.heap.size ≤ b4 := by have := Hb0.out; have := Hb4.out; omega
 have hO : ∀ (E : TypeId) (a : Option Addr) (n c : Nat) (xs : List Value), Own (b4 + 1) E y4 a n c xs → Own w.heap.size E (y4.setRow b4 #[.slice a01 272 c01, .slice a02 (64 * (trieS (mkF (F 0) M)).mid.length) c02, .slice a03 (64 * (trieS (mkF (F 0) M)).low.length) c03, .slice a11 272 c11, .slice a12 (64 * (trieS (mkF (F 1) M)).mid.length) c12, .slice a13 (64 * (trieS (mkF (F 1) M)).low.length) c13, .slice a21 272 c21, .slice a22 (64 * (trieS (mkF (F 2) M)).mid.length) c22, .slice a23 (64 * (trieS (mkF (F 2) M)).low.length) c23, .slice a31 272 c31, .slice a32 (64 * (trieS (mkF (F 3) M)).mid.length) c32, .slice a33 (64 * (trieS (mkF (F 3) M)).low.length) c33]) a n c xs := fun E a n c xs h =>
  own_keep h (by omega) (fun k hk => setRow_other y4 b4 k _ (by have := h.blk k hk; omega))
 have hb2 : Below w.heap.size w (y4.setRow b4 #[.slice a01 272 c01, .slice a02 (64 * (trieS (mkF (F 0) M)).mid.length) c02, .slice a03 (64 * (trieS (mkF (F 0) M)).low.length) c03, .slice a11 272 c11, .slice a12 (64 * (trieS (mkF (F 1) M)).mid.length) c12, .slice a13 (64 * (trieS (mkF (F 1) M)).low.length) c13, .slice a21 272 c21, .slice a22 (64 * (trieS (mkF (F 2) M)).mid.length) c22, .slice a23 (64 * (trieS (mkF (F 2) M)).low.length) c23, .slice a31 272 c31, .slice a32 (64 * (trieS (mkF (F 3) M)).mid.length) c32, .slice a33 (64 * (trieS (mkF (F 3) M)).low.length) c33]) := HB4.out.trans ⟨rfl, rfl, rfl, by rw [setRow_size]; exact Nat.le_refl _, fun k hk => setRow_other y4 b4 k _ (by omega)⟩
 have HR := Lib.hid (show Ow4 w.heap.size (y4.setRow b4 #[.slice a01 272 c01, .slice a02 (64 * (trieS (mkF (F 0) M)).mid.length) c02, .slice a03 (64 * (trieS (mkF (F 0) M)).low.length) c03, .slice a11 272 c11, .slice a12 (64 * (trieS (mkF (F 1) M)).mid.length) c12, .slice a13 (64 * (trieS (mkF (F 1) M)).low.length) c13, .slice a21 272 c21, .slice a22 (64 * (trieS (mkF (F 2) M)).mid.length) c22, .slice a23 (64 * (trieS (mkF (F 2) M)).low.length) c23, .slice a31 272 c31, .slice a32 (64 * (trieS (mkF (F 3) M)).mid.length) c32, .slice a33 (64 * (trieS (mkF (F 3) M)).low.length) c33]) #[.slice a01 272 c01, .slice a02 (64 * (trieS (mkF (F 0) M)).mid.length) c02, .slice a03 (64 * (trieS (mkF (F 0) M)).low.length) c03, .slice a11 272 c11, .slice a12 (64 * (trieS (mkF (F 1) M)).mid.length) c12, .slice a13 (64 * (trieS (mkF (F 1) M)).low.length) c13, .slice a21 272 c21, .slice a22 (64 * (trieS (mkF (F 2) M)).mid.length) c22, .slice a23 (64 * (trieS (mkF (F 2) M)).low.length) c23, .slice a31 272 c31, .slice a32 (64 * (trieS (mkF (F 3) M)).mid.length) c32, .slice a33 (64 * (trieS (mkF (F 3) M)).low.length) c33] F M ∧ Below w.heap.size w (y4.setRow b4 #[.slice a01 272 c01, .slice a02 (64 * (trieS (mkF (F 0) M)).mid.length) c02, .slice a03 (64 * (trieS (mkF (F 0) M)).low.length) c03, .slice a11 272 c11, .slice a12 (64 * (trieS (mkF (F 1) M)).mid.length) c12, .slice a13 (64 * (trieS (mkF (F 1) M)).low.length) c13, .slice a21 272 c21, .slice a22 (64 * (trieS (mkF (F 2) M)).mid.length) c22, .slice a23 (64 * (trieS (mkF (F 2) M)).low.length) c23, .slice a31 272 c31, .slice a32 (64 * (trieS (mkF (F 3) M)).mid.length) c32, .slice a33 (64 * (trieS (mkF (F 3) M)).low.length) c33]) from
  ⟨⟨_, _, _, _, _, _, _, _, _, _, _, _, rfl, ⟨_, _, _, _, _, _, rfl, rfl, rfl, hO _ _ _ _ _ HU01.out, hO _ _ _ _ _ HU02.out, hO _ _ _ _ _ HU03.out⟩, ⟨_, _, _, _, _, _, rfl, rfl, rfl, hO _ _ _ _ _ HU11.out, hO _ _ _ _ _ HU12.out, hO _ _ _ _ _ HU13.out⟩, ⟨_, _, _, _, _, _, rfl, rfl, rfl, hO _ _ _ _ _ HU21.out, hO _ _ _ _ _ HU22.out, hO _ _ _ _ _ HU23.out⟩, ⟨_, _, _, _, _, _, rfl, rfl, rfl, hO _ _ _ _ _ HU31.out, hO _ _ _ _ _ HU32.out, hO _ _ _ _ _ HU33.out⟩⟩, hb2⟩)
 clear hO hb2 HC4 HS4 HB4 HR4 hw4
 generalize y4.setRow b4 #[.slice a01 272 c01, .slice a02 (64 * (trieS (mkF (F 0) M)).mid.length) c02, .slice a03 (64 * (trieS (mkF (F 0) M)).low.length) c03, .slice a11 272 c11, .slice a12 (64 * (trieS (mkF (F 1) M)).mid.length) c12, .slice a13 (64 * (trieS (mkF (F 1) M)).low.length) c13, .slice a21 272 c21, .slice a22 (64 * (trieS (mkF (F 2) M)).mid.length) c22, .slice a23 (64 * (trieS (mkF (F 2) M)).low.length) c23, .slice a31 272 c31, .slice a32 (64 * (trieS (mkF (F 3) M)).mid.length) c32, .slice a33 (64 * (trieS (mkF (F 3) M)).low.length) c33] = w9 at *
 go_wp2
 refine bodyPost_ret (results_cell_row Tryz.results10 _ _ b4 _ _ _ _ rfl y2 Tryz.underlying50 rfl (by kernel_rfl)) rfl ?_
 exact ⟨_, rfl, HR.out⟩
end Go.Proofs.YtbmphakfgoompaaGreat

/-
 whole: what tables say and their packed parts are the document's.
-/
namespace Go.Proofs.YtbmphakfgoompaaGreat
open Go.RowKit
attribute [local go_sem] Oper.semAt_some

theorem exec_call3 {P : Program} {o : Oper} {a : Act} {w : World} (f : FuncId) (x y z : Operand) (ts : Array TypeId) (ho : o.op = .call { callee := .value (.func f), args := #[x, y, z], argTypes := ts }) (u v t : Value) (hu : a.eval x = u) (hv : a.eval y = v) (ht : a.eval z = t) (eg : ∀ args W, (callFunc f args).run P W = .ok (.enter f args) W) :
  (execOp a.eval o).run P w = .ok (.enter f #[u, v, t]) w := by
 subst hu hv ht
 unfold execOp
 simp only [ho]
 simp [resolve, invoke, go_sem, eg, Act.eval]
theorem ow4_same {w : World} {s s' : Array Value} {F : Nat → Nat → Int} {M B B' : Nat} (hM : M = 17408) (h : Ow4 B w s F M) (h' : Ow4 B' w s' F M) :
  Calls Tryz.prog 13 #[.agg s, .agg s'] w fun e w' => e = .returned (.bool true) ∧ Below w.heap.size w w' := by
 obtain ⟨s0, s1, s2, s3, s4, s5, s6, s7, s8, s9, s10, s11, rfl, h1, h2, h3, h4⟩ := h
 obtain ⟨t0, t1, t2, t3, t4, t5, t6, t7, t8, t9, t10, t11, rfl, h1', h2', h3', h4'⟩ := h'
 have k := fun j : Nat => (made8 (F j) M hM).trie
 exact same_walk w s0 s1 s2 s3 s4 s5 s6 s7 s8 s9 s10 s11 t0 t1 t2 t3 t4 t5 t6 t7 t8 t9 t10 t11 ⟨(mkF (F 0) M).top, (mkF (F 0) M).mids.flatten, (mkF (F 0) M).lows.flatten⟩ ⟨(mkF (F 1) M).top, (mkF (F 1) M).mids.flatten, (mkF (F 1) M).lows.flatten⟩ ⟨(mkF (F 2) M).top, (mkF (F 2) M).mids.flatten, (mkF (F 2) M).lows.flatten⟩ ⟨(mkF (F 3) M).top, (mkF (F 3) M).mids.flatten, (mkF (F 3) M).lows.flatten⟩ (h1.p8 (k 0)) (h2.pJ (k 1)) (h3.pJ (k 2)) (h4.pJ (k 3)) (h1'.p8 (k 0)) (h2'.pJ (k 1)) (h3'.pJ (k 2)) (h4'.pJ (k 3))
theorem htab_ow {w : World} {p B : Nat} {F : Nat → Nat → Int} {M : Nat} (hM : M = 17408) (h : HTab w p (F 0) (F 1) (F 2) (F 3) B) :
  Calls Tryz.prog 45 #[.pointer (some ⟨p, 0, none⟩)] w fun e w' => ∃ s, e = .returned (.agg s) ∧ Ow4 w.heap.size w' s F M ∧ Below w.heap.size w w' := by
 obtain ⟨gc, gb, gt, gm, SC, SB, ST, SM, h1, h2, h3, h4, h5, -⟩ := h
 refine (packedT_walk w p gc gb gt gm _ _ _ _ h1.mem).mono ?_
 rintro e w' ⟨s0, s1, s2, s3, s4, s5, s6, s7, s8, s9, s10, s11, rfl, o1, o2, o3, o4, hb⟩
 obtain rfl := h2.unique (made8 (F 0) M hM) (fun r _ => rfl)
 obtain rfl := h3.unique (VJ.made8 (F 1) M hM) (fun r _ => rfl)
 obtain rfl := h4.unique (VJ.made8 (F 2) M hM) (fun r _ => rfl)
 obtain rfl := h5.unique (VJ.made8 (F 3) M hM) (fun r _ => rfl)
 rw [mkF_J] at o2 o3 o4
 exact ⟨_, rfl, ⟨s0, s1, s2, s3, s4, s5, s6, s7, s8, s9, s10, s11, rfl, o1, o2, o3, o4⟩, hb⟩
theorem FitD.u8 {F : Nat → Nat → Int} (h : FitD F) : ∀ r, r < 1114112 → 0 ≤ F 0 r ∧ F 0 r ≤ 255 := fun r hr => by have := h.c r (by omega); omega
theorem FitD.i32 {F : Nat → Nat → Int} (h : FitD F) : ∀ k, 0 < k → k < 4 → ∀ r, r < 1114112 → -2147483648 ≤ F k r ∧ F k r ≤ 2147483647 := fun k h1 h2 r hr => by
 have h3 := h.b r (by omega); have h4 := h.t r (by omega); have h5 := h.m r (by omega)
 obtain rfl | rfl | rfl : k = 1 ∨ k = 2 ∨ k = 3 := by omega
 all_goals omega
theorem Ow4.sl {B : Nat} {w : World} {s : Array Value} {F : Nat → Nat → Int} {M : Nat} (h : Ow4 B w s F M) : ∃ a0 n0 c0 a1 n1 c1 a2 n2 c2 a3 n3 c3 a4 n4 c4 a5 n5 c5 a6 n6 c6 a7 n7 c7 a8 n8 c8 a9 n9 c9 a10 n10 c10 a11 n11 c11, s = #[.slice a0 n0 c0, .slice a1 n1 c1, .slice a2 n2 c2, .slice a3 n3 c3, .slice a4 n4 c4, .slice a5 n5 c5, .slice a6 n6 c6, .slice a7 n7 c7, .slice a8 n8 c8, .slice a9 n9 c9, .slice a10 n10 c10, .slice a11 n11 c11] := by
 obtain ⟨s0, s1, s2, s3, s4, s5, s6, s7, s8, s9, s10, s11, rfl, ⟨_, _, _, _, _, _, rfl, rfl, rfl, -⟩, ⟨_, _, _, _, _, _, rfl, rfl, rfl, -⟩, ⟨_, _, _, _, _, _, rfl, rfl, rfl, -⟩, ⟨_, _, _, _, _, _, rfl, rfl, rfl, -⟩⟩ := h
 exact ⟨_, _, _, _, _, _, _, _, _, _, _, _, _, _, _, _, _, _, _, _, _, _, _, _, _, _, _, _, _, _, _, _, _, _, _, _, rfl⟩
/-- a block that may be written -/
def Wr (B hi : Nat) (W : World) (g : Nat) : Prop := B ≤ g ∧ g < hi ∧ ∃ cur ty, W.heap[g]? = some (.cells cur ty (0, 0)) ∧ 0 < cur.size
theorem Wr.keep {B hi : Nat} {W W' : World} {g : Nat} (h : Wr B hi W g) (e : W'.heap[g]? = W.heap[g]?) : Wr B hi W' g := by
 obtain ⟨h1, h2, cur, ty, h3, h4⟩ := h
 exact ⟨h1, h2, cur, ty, by rw [e]; exact h3, h4⟩
theorem Wr.set {B hi : Nat} {W : World} {g h : Nat} (v : Value) (hg : Wr B hi W g) : Wr B hi (W.setCell ⟨h, 0, none⟩ v) g := by
 by_cases e : g = h
 ·subst e
  obtain ⟨h1, h2, cur, ty, h3, h4⟩ := hg
  exact ⟨h1, h2, _, ty, heap_setCell_same W g 0 _ _ v h3, by simpa using h4⟩
 ·exact hg.keep (heap_setCell_other W _ _ _ e)
theorem Own.wr {B : Nat} {E : TypeId} {w : World} {a : Option Addr} {n c : Nat} {xs : List Value} (h : Own B E w a n c xs) (hn : 0 < n) : ∃ g, a = some ⟨g, 0, none⟩ ∧ Wr B w.heap.size w g := by
 rcases h.2 with ⟨_, h0⟩ | ⟨g, cap, cur, e, hb, hg, hnc, hcm, hsz, -⟩
 ·omega
 ·simp only [Value.slice.injEq] at e
  exact ⟨g, e.1, hb, (Array.getElem?_eq_some_iff.1 hg).1, cur, _, hg, by omega⟩
theorem ok_pos {T : TrieD Int} (h : TrieOk T) : 0 < T.mid.length ∧ 0 < T.low.length := by
 have h1 : 0 < T.mid.length := by
  have := h.topN (T.top[0]'(by rw [h.top]; omega)) (List.getElem_mem _)
  omega
 refine ⟨h1, ?_⟩
 have h2 := h.mid (T.mid[0]) (List.getElem_mem h1)
 have := h.midN (T.mid[0]) (List.getElem_mem h1) ((T.mid[0])[0]'(by rw [h2]; omega)) (List.getElem_mem _)
 omega
theorem Ow4.wr {B : Nat} {w : World} {s : Array Value} {F : Nat → Nat → Int} {M : Nat} (h : Ow4 B w s F M) (hM : M = 17408) : ∃ a0 n0 c0 a1 n1 c1 g2 n2 c2 a3 n3 c3 g4 n4 c4 a5 n5 c5 g6 n6 c6 a7 n7 c7 a8 n8 c8 a9 n9 c9 a10 n10 c10 g11 n11 c11, s = #[.slice a0 n0 c0, .slice a1 n1 c1, .slice (some ⟨g2, 0, none⟩) n2 c2, .slice a3 n3 c3, .slice (some ⟨g4, 0, none⟩) n4 c4, .slice a5 n5 c5, .slice (some ⟨g6, 0, none⟩) n6 c6, .slice a7 n7 c7, .slice a8 n8 c8, .slice a9 n9 c9, .slice a10 n10 c10, .slice (some ⟨g11, 0, none⟩) n11 c11] ∧ (0 < n2 ∧ Wr B w.heap.size w g2) ∧ (0 < n4 ∧ Wr B w.heap.size w g4) ∧ (0 < n6 ∧ Wr B w.heap.size w g6) ∧ (0 < n11 ∧ Wr B w.heap.size w g11) := by
 obtain ⟨s0, s1, s2, s3, s4, s5, s6, s7, s8, s9, s10, s11, rfl, ⟨_, _, _, _, _, _, rfl, rfl, rfl, h0, h1, h2⟩, ⟨_, _, _, _, _, _, rfl, rfl, rfl, h3, h4, h5⟩, ⟨_, _, _, _, _, _, rfl, rfl, rfl, h6, h7, h8⟩, ⟨_, _, _, _, _, _, rfl, rfl, rfl, h9, h10, h11⟩⟩ := h
 have k0 := ok_pos (made8 (F 0) M hM).trie; have k1 := ok_pos (made8 (F 1) M hM).trie; have k3 := ok_pos (made8 (F 3) M hM).trie
 obtain ⟨g2, rfl, v2⟩ := h2.wr (by omega)
 obtain ⟨g4, rfl, v4⟩ := h4.wr (by omega)
 obtain ⟨g6, rfl, v6⟩ := h6.wr (by omega)
 obtain ⟨g11, rfl, v11⟩ := h11.wr (by omega)
 exact ⟨_, _, _, _, _, _, _, _, _, _, _, _, _, _, _, _, _, _, _, _, _, _, _, _, _, _, _, _, _, _, _, _, _, _, _, _, rfl, ⟨by omega, v2⟩, ⟨by omega, v4⟩, ⟨by omega, v6⟩, ⟨by omega, v11⟩⟩

set_option maxRecDepth 100000 in
set_option maxHeartbeats 8000000 in
theorem wholeD_walk (w0 : World) (p q B M : Nat) (hM : M = 17408) (F : Nat → Nat → Int) (hT : HTab w0 p (F 0) (F 1) (F 2) (F 3) B) (hd : DTab w0 q F) (hfit : FitD F) (a : Option Addr) (n c : Nat) (zs : List Int) (hl : zs.length = n) (hn : n ≤ maxLen) (hz : Ints .i32 w0 a zs) (hzb : ∀ z ∈ zs, wf32 z) :
  Calls Tryz.prog 14 #[.pointer (some ⟨p, 0, none⟩), .pointer (some ⟨q, 0, none⟩), .slice a n c] w0 fun e w' => e = .returned (.bool true) ∧ Below w0.heap.size w0 w' := by
 have HLk := Lib.hid (fun (W : World) (hb : Below w0.heap.size w0 W) => looks_walk W p q B F (hT.below hb) (hd.below hb) hfit a n c zs hl hn (hz.below hb (Nat.le_refl _)) hzb)
 have HTb := Lib.hid hT
 have HPT := Lib.hid (fun (W : World) (hb : Below w0.heap.size w0 W) => htab_ow hM (hT.below hb))
 have HSm := Lib.hid (fun (W : World) (s s' : Array Value) (B B' : Nat) (h : Ow4 B W s F M) (h' : Ow4 B' W s' F M) => ow4_same hM h h')
 obtain ⟨cs, hrow, x0, x1, x2, x3, x4, x5, x6, x7, hcs, g0, g1, g2, g3⟩ := hd
 obtain ⟨⟨xa0, xn0, xc0, rfl⟩, ⟨xa1, xn1, xc1, rfl⟩⟩ := g0.slices
 obtain ⟨⟨xa2, xn2, xc2, rfl⟩, ⟨xa3, xn3, xc3, rfl⟩⟩ := g1.slices
 obtain ⟨⟨xa4, xn4, xc4, rfl⟩, ⟨xa5, xn5, xc5, rfl⟩⟩ := g2.slices
 obtain ⟨⟨xa6, xn6, xc6, rfl⟩, ⟨xa7, xn7, xc7, rfl⟩⟩ := g3.slices
 cases hcs
 have HPk := Lib.hid (fun (W : World) (hb : Below w0.heap.size w0 W) => packed_walk W (.agg #[.slice xa0 xn0 xc0, .slice xa1 xn1 xc1, .slice xa2 xn2 xc2, .slice xa3 xn3 xc3, .slice xa4 xn4 xc4, .slice xa5 xn5 xc5, .slice xa6 xn6 xc6, .slice xa7 xn7 xc7]) F ⟨_, _, _, _, _, _, _, _, rfl, g0.below hb, g1.below hb, g2.below hb, g3.below hb⟩ M hM hfit.u8 hfit.i32)
 have HRow := Lib.hid hrow
 have HM := Lib.hid hM
 clear hT hfit hl hn hz hzb hrow g0 g1 g2 g3 hM
 go_enter Tryz.func14, Tryz.ntmps14
 go_wp2_with fail
 refine (HLk.out w0 (Below.refl _ _)).mono ?_
 rintro e w1 ⟨rfl, hb⟩
 have HB1 := Lib.hid hb
 have HR1 := Lib.hid ((hb.block q (Array.getElem?_eq_some_iff.1 HRow.out).1).trans HRow.out)
 clear hb
 have q0 := cell_of_row w1 q 0 _ _ (0, 0) HR1.out
 have q1 := cell_of_row w1 q 1 _ _ (0, 0) HR1.out
 have q2 := cell_of_row w1 q 2 _ _ (0, 0) HR1.out
 have q3 := cell_of_row w1 q 3 _ _ (0, 0) HR1.out
 have q4 := cell_of_row w1 q 4 _ _ (0, 0) HR1.out
 have q5 := cell_of_row w1 q 5 _ _ (0, 0) HR1.out
 have q6 := cell_of_row w1 q 6 _ _ (0, 0) HR1.out
 have q7 := cell_of_row w1 q 7 _ _ (0, 0) HR1.out
 simp at q0 q1 q2 q3 q4 q5 q6 q7
 go_wp2_with fail
 refine (HPk.out w1 HB1.out).mono ?_
 rintro e w2 ⟨s, rfl, ho, hb⟩
 have HOw := Lib.hid ho
 have HB2 := Lib.hid (HB1.out.trans (hb.mono HB1.out.size))
 obtain ⟨ka0, kn0, kc0, ka1, kn1, kc1, ka2, kn2, kc2, ka3, kn3, kc3, ka4, kn4, kc4, ka5, kn5, kc5, ka6, kn6, kc6, ka7, kn7, kc7, ka8, kn8, kc8, ka9, kn9, kc9, ka10, kn10, kc10, ka11, kn11, kc11, rfl⟩ := ho.sl
 clear ho hb HB1 HR1 q0 q1 q2 q3 q4 q5 q6 q7
 have hA := heap_alloc_new w2 (.cells #[.slice none 0 0, .slice none 0 0, .slice none 0 0, .slice none 0 0, .slice none 0 0, .slice none 0 0, .slice none 0 0, .slice none 0 0, .slice none 0 0, .slice none 0 0, .slice none 0 0, .slice none 0 0] 50)
 have r0 := cell_of_row (w2.alloc (.cells #[.slice none 0 0, .slice none 0 0, .slice none 0 0, .slice none 0 0, .slice none 0 0, .slice none 0 0, .slice none 0 0, .slice none 0 0, .slice none 0 0, .slice none 0 0, .slice none 0 0, .slice none 0 0] 50)) w2.heap.size 0 _ _ (0, 0) hA
 have f0 := frozen_of_row (w2.alloc (.cells #[.slice none 0 0, .slice none 0 0, .slice none 0 0, .slice none 0 0, .slice none 0 0, .slice none 0 0, .slice none 0 0, .slice none 0 0, .slice none 0 0, .slice none 0 0, .slice none 0 0, .slice none 0 0] 50)) w2.heap.size 0 _ _ hA
 have r1 := cell_of_row (w2.alloc (.cells #[.slice none 0 0, .slice none 0 0, .slice none 0 0, .slice none 0 0, .slice none 0 0, .slice none 0 0, .slice none 0 0, .slice none 0 0, .slice none 0 0, .slice none 0 0, .slice none 0 0, .slice none 0 0] 50)) w2.heap.size 1 _ _ (0, 0) hA
 have f1 := frozen_of_row (w2.alloc (.cells #[.slice none 0 0, .slice none 0 0, .slice none 0 0, .slice none 0 0, .slice none 0 0, .slice none 0 0, .slice none 0 0, .slice none 0 0, .slice none 0 0, .slice none 0 0, .slice none 0 0, .slice none 0 0] 50)) w2.heap.size 1 _ _ hA
 have r2 := cell_of_row (w2.alloc (.cells #[.slice none 0 0, .slice none 0 0, .slice none 0 0, .slice none 0 0, .slice none 0 0, .slice none 0 0, .slice none 0 0, .slice none 0 0, .slice none 0 0, .slice none 0 0, .slice none 0 0, .slice none 0 0] 50)) w2.heap.size 2 _ _ (0, 0) hA
 have f2 := frozen_of_row (w2.alloc (.cells #[.slice none 0 0, .slice none 0 0, .slice none 0 0, .slice none 0 0, .slice none 0 0, .slice none 0 0, .slice none 0 0, .slice none 0 0, .slice none 0 0, .slice none 0 0, .slice none 0 0, .slice none 0 0] 50)) w2.heap.size 2 _ _ hA
 have r3 := cell_of_row (w2.alloc (.cells #[.slice none 0 0, .slice none 0 0, .slice none 0 0, .slice none 0 0, .slice none 0 0, .slice none 0 0, .slice none 0 0, .slice none 0 0, .slice none 0 0, .slice none 0 0, .slice none 0 0, .slice none 0 0] 50)) w2.heap.size 3 _ _ (0, 0) hA
 have f3 := frozen_of_row (w2.alloc (.cells #[.slice none 0 0, .slice none 0 0, .slice none 0 0, .slice none 0 0, .slice none 0 0, .slice none 0 0, .slice none 0 0, .slice none 0 0, .slice none 0 0, .slice none 0 0, .slice none 0 0, .slice none 0 0] 50)) w2.heap.size 3 _ _ hA
 have r4 := cell_of_row (w2.alloc (.cells #[.slice none 0 0, .slice none 0 0, .slice none 0 0, .slice none 0 0, .slice none 0 0, .slice none 0 0, .slice none 0 0, .slice none 0 0, .slice none 0 0, .slice none 0 0, .slice none 0 0, .slice none 0 0] 50)) w2.heap.size 4 _ _ (0, 0) hA
 have f4 := frozen_of_row (w2.alloc (.cells #[.slice none 0 0, .slice none 0 0, .slice none 0 0, .slice none 0 0, .slice none 0 0, .slice none 0 0, .slice none 0 0, .slice none 0 0, .slice none 0 0, .slice none 0 0, .slice none 0 0, .slice none 0 0] 50)) w2.heap.size 4 _ _ hA
 have r5 := cell_of_row (w2.alloc (.cells #[.slice none 0 0, .slice none 0 0, .slice none 0 0, .slice none 0 0, .slice none 0 0, .slice none 0 0, .slice none 0 0, .slice none 0 0, .slice none 0 0, .slice none 0 0, .slice none 0 0, .slice none 0 0] 50)) w2.heap.size 5 _ _ (0, 0) hA
 have f5 := frozen_of_row (w2.alloc (.cells #[.slice none 0 0, .slice none 0 0, .slice none 0 0, .slice none 0 0, .slice none 0 0, .slice none 0 0, .slice none 0 0, .slice none 0 0, .slice none 0 0, .slice none 0 0, .slice none 0 0, .slice none 0 0] 50)) w2.heap.size 5 _ _ hA
 have r6 := cell_of_row (w2.alloc (.cells #[.slice none 0 0, .slice none 0 0, .slice none 0 0, .slice none 0 0, .slice none 0 0, .slice none 0 0, .slice none 0 0, .slice none 0 0, .slice none 0 0, .slice none 0 0, .slice none 0 0, .slice none 0 0] 50)) w2.heap.size 6 _ _ (0, 0) hA
 have f6 := frozen_of_row (w2.alloc (.cells #[.slice none 0 0, .slice none 0 0, .slice none 0 0, .slice none 0 0, .slice none 0 0, .slice none 0 0, .slice none 0 0, .slice none 0 0, .slice none 0 0, .slice none 0 0, .slice none 0 0, .slice none 0 0] 50)) w2.heap.size 6 _ _ hA
 have r7 := cell_of_row (w2.alloc (.cells #[.slice none 0 0, .slice none 0 0, .slice none 0 0, .slice none 0 0, .slice none 0 0, .slice none 0 0, .slice none 0 0, .slice none 0 0, .slice none 0 0, .slice none 0 0, .slice none 0 0, .slice none 0 0] 50)) w2.heap.size 7 _ _ (0, 0) hA
 have f7 := frozen_of_row (w2.alloc (.cells #[.slice none 0 0, .slice none 0 0, .slice none 0 0, .slice none 0 0, .slice none 0 0, .slice none 0 0, .slice none 0 0, .slice none 0 0, .slice none 0 0, .slice none 0 0, .slice none 0 0, .slice none 0 0] 50)) w2.heap.size 7 _ _ hA
 have r8 := cell_of_row (w2.alloc (.cells #[.slice none 0 0, .slice none 0 0, .slice none 0 0, .slice none 0 0, .slice none 0 0, .slice none 0 0, .slice none 0 0, .slice none 0 0, .slice none 0 0, .slice none 0 0, .slice none 0 0, .slice none 0 0] 50)) w2.heap.size 8 _ _ (0, 0) hA
 have f8 := frozen_of_row (w2.alloc (.cells #[.slice none 0 0, .slice none 0 0, .slice none 0 0, .slice none 0 0, .slice none 0 0, .slice none 0 0, .slice none 0 0, .slice none 0 0, .slice none 0 0, .slice none 0 0, .slice none 0 0, .slice none 0 0] 50)) w2.heap.size 8 _ _ hA
 have r9 := cell_of_row (w2.alloc (.cells #[.slice none 0 0, .slice none 0 0, .slice none 0 0, .slice none 0 0, .slice none 0 0, .slice none 0 0, .slice none 0 0, .slice none 0 0, .slice none 0 0, .slice none 0 0, .slice none 0 0, .slice none 0 0] 50)) w2.heap.size 9 _ _ (0, 0) hA
 have f9 := frozen_of_row (w2.alloc (.cells #[.slice none 0 0, .slice none 0 0, .slice none 0 0, .slice none 0 0, .slice none 0 0, .slice none 0 0, .slice none 0 0, .slice none 0 0, .slice none 0 0, .slice none 0 0, .slice none 0 0, .slice none 0 0] 50)) w2.heap.size 9 _ _ hA
 have r10 := cell_of_row (w2.alloc (.cells #[.slice none 0 0, .slice none 0 0, .slice none 0 0, .slice none 0 0, .slice none 0 0, .slice none 0 0, .slice none 0 0, .slice none 0 0, .slice none 0 0, .slice none 0 0, .slice none 0 0, .slice none 0 0] 50)) w2.heap.size 10 _ _ (0, 0) hA
 have f10 := frozen_of_row (w2.alloc (.cells #[.slice none 0 0, .slice none 0 0, .slice none 0 0, .slice none 0 0, .slice none 0 0, .slice none 0 0, .slice none 0 0, .slice none 0 0, .slice none 0 0, .slice none 0 0, .slice none 0 0, .slice none 0 0] 50)) w2.heap.size 10 _ _ hA
 have r11 := cell_of_row (w2.alloc (.cells #[.slice none 0 0, .slice none 0 0, .slice none 0 0, .slice none 0 0, .slice none 0 0, .slice none 0 0, .slice none 0 0, .slice none 0 0, .slice none 0 0, .slice none 0 0, .slice none 0 0, .slice none 0 0] 50)) w2.heap.size 11 _ _ (0, 0) hA
 have f11 := frozen_of_row (w2.alloc (.cells #[.slice none 0 0, .slice none 0 0, .slice none 0 0, .slice none 0 0, .slice none 0 0, .slice none 0 0, .slice none 0 0, .slice none 0 0, .slice none 0 0, .slice none 0 0, .slice none 0 0, .slice none 0 0] 50)) w2.heap.size 11 _ _ hA
 simp only [List.getElem?_toArray, List.getElem?_cons_zero, List.getElem?_cons_succ] at r0 r1 r2 r3 r4 r5 r6 r7 r8 r9 r10 r11
 clear hA
 go_wp2_with fail
 clear r0 f0 r1 f1 r2 f2 r3 f3 r4 f4 r5 f5 r6 f6 r7 f7 r8 f8 r9 f9 r10 f10 r11 f11
 have hA := heap_alloc_new w2 (.cells #[.slice ka0 kn0 kc0, .slice ka1 kn1 kc1, .slice ka2 kn2 kc2, .slice ka3 kn3 kc3, .slice ka4 kn4 kc4, .slice ka5 kn5 kc5, .slice ka6 kn6 kc6, .slice ka7 kn7 kc7, .slice ka8 kn8 kc8, .slice ka9 kn9 kc9, .slice ka10 kn10 kc10, .slice ka11 kn11 kc11] 50)
 have hBl := (Below.refl _ w2).alloc (Nat.le_refl _) (.cells #[.slice ka0 kn0 kc0, .slice ka1 kn1 kc1, .slice ka2 kn2 kc2, .slice ka3 kn3 kc3, .slice ka4 kn4 kc4, .slice ka5 kn5 kc5, .slice ka6 kn6 kc6, .slice ka7 kn7 kc7, .slice ka8 kn8 kc8, .slice ka9 kn9 kc9, .slice ka10 kn10 kc10, .slice ka11 kn11 kc11] 50)
 have hZ := World.size_alloc w2 (.cells #[.slice ka0 kn0 kc0, .slice ka1 kn1 kc1, .slice ka2 kn2 kc2, .slice ka3 kn3 kc3, .slice ka4 kn4 kc4, .slice ka5 kn5 kc5, .slice ka6 kn6 kc6, .slice ka7 kn7 kc7, .slice ka8 kn8 kc8, .slice ka9 kn9 kc9, .slice ka10 kn10 kc10, .slice ka11 kn11 kc11] 50)
 obtain ⟨b5, hb5⟩ : ∃ b5, b5 = w2.heap.size := ⟨_, rfl⟩
 rw [← hb5] at hA hZ ⊢
 generalize w2.alloc (.cells #[.slice ka0 kn0 kc0, .slice ka1 kn1 kc1, .slice ka2 kn2 kc2, .slice ka3 kn3 kc3, .slice ka4 kn4 kc4, .slice ka5 kn5 kc5, .slice ka6 kn6 kc6, .slice ka7 kn7 kc7, .slice ka8 kn8 kc8, .slice ka9 kn9 kc9, .slice ka10 kn10 kc10, .slice ka11 kn11 kc11] 50) = w3 at *
 have HAb5 := Lib.hid hA; have HBab5 := Lib.hid hBl; have HZb5 := Lib.hid hZ; have HEb5 := Lib.hid hb5
 clear hA hBl hZ hb5
 have HB3 : Hid (Below w0.heap.size w0 w3) := Lib.hid (HB2.out.trans (HBab5.out.mono HB2.out.size))
 have HO3 := Lib.hid (HOw.out.below HBab5.out)
 clear HOw HB2
 refine (HPT.out w3 HB3.out).mono ?_
 rintro e w4 ⟨s, rfl, ho, hb⟩
 have HO4 := Lib.hid ho
 have HB34 := Lib.hid hb
 obtain ⟨la0, ln0, lc0, la1, ln1, lc1, g2, ln2, lc2, la3, ln3, lc3, g4, ln4, lc4, la5, ln5, lc5, g6, ln6, lc6, la7, ln7, lc7, la8, ln8, lc8, la9, ln9, lc9, la10, ln10, lc10, g11, ln11, lc11, rfl, ⟨p2, v2⟩, ⟨p4, v4⟩, ⟨p6, v6⟩, ⟨p11, v11⟩⟩ := ho.wr HM.out
 have HWr := Lib.hid (And.intro v2 (And.intro v4 (And.intro v6 v11)))
 clear v2 v4 v6 v11
 clear ho hb
 have hA := heap_alloc_new w4 (.cells #[.slice none 0 0, .slice none 0 0, .slice none 0 0, .slice none 0 0, .slice none 0 0, .slice none 0 0, .slice none 0 0, .slice none 0 0, .slice none 0 0, .slice none 0 0, .slice none 0 0, .slice none 0 0] 50)
 have r0 := cell_of_row (w4.alloc (.cells #[.slice none 0 0, .slice none 0 0, .slice none 0 0, .slice none 0 0, .slice none 0 0, .slice none 0 0, .slice none 0 0, .slice none 0 0, .slice none 0 0, .slice none 0 0, .slice none 0 0, .slice none 0 0] 50)) w4.heap.size 0 _ _ (0, 0) hA
 have f0 := frozen_of_row (w4.alloc (.cells #[.slice none 0 0, .slice none 0 0, .slice none 0 0, .slice none 0 0, .slice none 0 0, .slice none 0 0, .slice none 0 0, .slice none 0 0, .slice none 0 0, .slice none 0 0, .slice none 0 0, .slice none 0 0] 50)) w4.heap.size 0 _ _ hA
 have r1 := cell_of_row (w4.alloc (.cells #[.slice none 0 0, .slice none 0 0, .slice none 0 0, .slice none 0 0, .slice none 0 0, .slice none 0 0, .slice none 0 0, .slice none 0 0, .slice none 0 0, .slice none 0 0, .slice none 0 0, .slice none 0 0] 50)) w4.heap.size 1 _ _ (0, 0) hA
 have f1 := frozen_of_row (w4.alloc (.cells #[.slice none 0 0, .slice none 0 0, .slice none 0 0, .slice none 0 0, .slice none 0 0, .slice none 0 0, .slice none 0 0, .slice none 0 0, .slice none 0 0, .slice none 0 0, .slice none 0 0, .slice none 0 0] 50)) w4.heap.size 1 _ _ hA
 have r2 := cell_of_row (w4.alloc (.cells #[.slice none 0 0, .slice none 0 0, .slice none 0 0, .slice none 0 0, .slice none 0 0, .slice none 0 0, .slice none 0 0, .slice none 0 0, .slice none 0 0, .slice none 0 0, .slice none 0 0, .slice none 0 0] 50)) w4.heap.size 2 _ _ (0, 0) hA
 have f2 := frozen_of_row (w4.alloc (.cells #[.slice none 0 0, .slice none 0 0, .slice none 0 0, .slice none 0 0, .slice none 0 0, .slice none 0 0, .slice none 0 0, .slice none 0 0, .slice none 0 0, .slice none 0 0, .slice none 0 0, .slice none 0 0] 50)) w4.heap.size 2 _ _ hA
 have r3 := cell_of_row (w4.alloc (.cells #[.slice none 0 0, .slice none 0 0, .slice none 0 0, .slice none 0 0, .slice none 0 0, .slice none 0 0, .slice none 0 0, .slice none 0 0, .slice none 0 0, .slice none 0 0, .slice none 0 0, .slice none 0 0] 50)) w4.heap.size 3 _ _ (0, 0) hA
 have f3 := frozen_of_row (w4.alloc (.cells #[.slice none 0 0, .slice none 0 0, .slice none 0 0, .slice none 0 0, .slice none 0 0, .slice none 0 0, .slice none 0 0, .slice none 0 0, .slice none 0 0, .slice none 0 0, .slice none 0 0, .slice none 0 0] 50)) w4.heap.size 3 _ _ hA
 have r4 := cell_of_row (w4.alloc (.cells #[.slice none 0 0, .slice none 0 0, .slice none 0 0, .slice none 0 0, .slice none 0 0, .slice none 0 0, .slice none 0 0, .slice none 0 0, .slice none 0 0, .slice none 0 0, .slice none 0 0, .slice none 0 0] 50)) w4.heap.size 4 _ _ (0, 0) hA
 have f4 := frozen_of_row (w4.alloc (.cells #[.slice none 0 0, .slice none 0 0, .slice none 0 0, .slice none 0 0, .slice none 0 0, .slice none 0 0, .slice none 0 0, .slice none 0 0, .slice none 0 0, .slice none 0 0, .slice none 0 0, .slice none 0 0] 50)) w4.heap.size 4 _ _ hA
 have r5 := cell_of_row (w4.alloc (.cells #[.slice none 0 0, .slice none 0 0, .slice none 0 0, .slice none 0 0, .slice none 0 0, .slice none 0 0, .slice none 0 0, .slice none 0 0, .slice none 0 0, .slice none 0 0, .slice none 0 0, .slice none 0 0] 50)) w4.heap.size 5 _ _ (0, 0) hA
 have f5 := frozen_of_row (w4.alloc (.cells #[.slice none 0 0, .slice none 0 0, .slice none 0 0, .slice none 0 0, .slice none 0 0, .slice none 0 0, .slice none 0 0, .slice none 0 0, .slice none 0 0, .slice none 0 0, .slice none 0 0, .slice none 0 0] 50)) w4.heap.size 5 _ _ hA
 have r6 := cell_of_row (w4.alloc (.cells #[.slice none 0 0, .slice none 0 0, .slice none 0 0, .slice none 0 0, .slice none 0 0, .slice none 0 0, .slice none 0 0, .slice none 0 0, .slice none 0 0, .slice none 0 0, .slice none 0 0, .slice none 0 0] 50)) w4.heap.size 6 _ _ (0, 0) hA
 have f6 := frozen_of_row (w4.alloc (.cells #[.slice none 0 0, .slice none 0 0, .slice none 0 0, .slice none 0 0, .slice none 0 0, .slice none 0 0, .slice none 0 0, .slice none 0 0, .slice none 0 0, .slice none 0 0, .slice none 0 0, .slice none 0 0] 50)) w4.heap.size 6 _ _ hA
 have r7 := cell_of_row (w4.alloc (.cells #[.slice none 0 0, .slice none 0 0, .slice none 0 0, .slice none 0 0, .slice none 0 0, .slice none 0 0, .slice none 0 0, .slice none 0 0, .slice none 0 0, .slice none 0 0, .slice none 0 0, .slice none 0 0] 50)) w4.heap.size 7 _ _ (0, 0) hA
 have f7 := frozen_of_row (w4.alloc (.cells #[.slice none 0 0, .slice none 0 0, .slice none 0 0, .slice none 0 0, .slice none 0 0, .slice none 0 0, .slice none 0 0, .slice none 0 0, .slice none 0 0, .slice none 0 0, .slice none 0 0, .slice none 0 0] 50)) w4.heap.size 7 _ _ hA
 have r8 := cell_of_row (w4.alloc (.cells #[.slice none 0 0, .slice none 0 0, .slice none 0 0, .slice none 0 0, .slice none 0 0, .slice none 0 0, .slice none 0 0, .slice none 0 0, .slice none 0 0, .slice none 0 0, .slice none 0 0, .slice none 0 0] 50)) w4.heap.size 8 _ _ (0, 0) hA
 have f8 := frozen_of_row (w4.alloc (.cells #[.slice none 0 0, .slice none 0 0, .slice none 0 0, .slice none 0 0, .slice none 0 0, .slice none 0 0, .slice none 0 0, .slice none 0 0, .slice none 0 0, .slice none 0 0, .slice none 0 0, .slice none 0 0] 50)) w4.heap.size 8 _ _ hA
 have r9 := cell_of_row (w4.alloc (.cells #[.slice none 0 0, .slice none 0 0, .slice none 0 0, .slice none 0 0, .slice none 0 0, .slice none 0 0, .slice none 0 0, .slice none 0 0, .slice none 0 0, .slice none 0 0, .slice none 0 0, .slice none 0 0] 50)) w4.heap.size 9 _ _ (0, 0) hA
 have f9 := frozen_of_row (w4.alloc (.cells #[.slice none 0 0, .slice none 0 0, .slice none 0 0, .slice none 0 0, .slice none 0 0, .slice none 0 0, .slice none 0 0, .slice none 0 0, .slice none 0 0, .slice none 0 0, .slice none 0 0, .slice none 0 0] 50)) w4.heap.size 9 _ _ hA
 have r10 := cell_of_row (w4.alloc (.cells #[.slice none 0 0, .slice none 0 0, .slice none 0 0, .slice none 0 0, .slice none 0 0, .slice none 0 0, .slice none 0 0, .slice none 0 0, .slice none 0 0, .slice none 0 0, .slice none 0 0, .slice none 0 0] 50)) w4.heap.size 10 _ _ (0, 0) hA
 have f10 := frozen_of_row (w4.alloc (.cells #[.slice none 0 0, .slice none 0 0, .slice none 0 0, .slice none 0 0, .slice none 0 0, .slice none 0 0, .slice none 0 0, .slice none 0 0, .slice none 0 0, .slice none 0 0, .slice none 0 0, .slice none 0 0] 50)) w4.heap.size 10 _ _ hA
 have r11 := cell_of_row (w4.alloc (.cells #[.slice none 0 0, .slice none 0 0, .slice none 0 0, .slice none 0 0, .slice none 0 0, .slice none 0 0, .slice none 0 0, .slice none 0 0, .slice none 0 0, .slice none 0 0, .slice none 0 0, .slice none 0 0] 50)) w4.heap.size 11 _ _ (0, 0) hA
 have f11 := frozen_of_row (w4.alloc (.cells #[.slice none 0 0, .slice none 0 0, .slice none 0 0, .slice none 0 0, .slice none 0 0, .slice none 0 0, .slice none 0 0, .slice none 0 0, .slice none 0 0, .slice none 0 0, .slice none 0 0, .slice none 0 0] 50)) w4.heap.size 11 _ _ hA
 simp only [List.getElem?_toArray, List.getElem?_cons_zero, List.getElem?_cons_succ] at r0 r1 r2 r3 r4 r5 r6 r7 r8 r9 r10 r11
 clear hA
 go_upto_region 5 with (fail)
 clear r0 f0 r1 f1 r2 f2 r3 f3 r4 f4 r5 f5 r6 f6 r7 f7 r8 f8 r9 f9 r10 f10 r11 f11
 have hA := heap_alloc_new w4 (.cells #[.slice la0 ln0 lc0, .slice la1 ln1 lc1, .slice (some ⟨g2, 0, none⟩) ln2 lc2, .slice la3 ln3 lc3, .slice (some ⟨g4, 0, none⟩) ln4 lc4, .slice la5 ln5 lc5, .slice (some ⟨g6, 0, none⟩) ln6 lc6, .slice la7 ln7 lc7, .slice la8 ln8 lc8, .slice la9 ln9 lc9, .slice la10 ln10 lc10, .slice (some ⟨g11, 0, none⟩) ln11 lc11] 50)
 have hBl := (Below.refl _ w4).alloc (Nat.le_refl _) (.cells #[.slice la0 ln0 lc0, .slice la1 ln1 lc1, .slice (some ⟨g2, 0, none⟩) ln2 lc2, .slice la3 ln3 lc3, .slice (some ⟨g4, 0, none⟩) ln4 lc4, .slice la5 ln5 lc5, .slice (some ⟨g6, 0, none⟩) ln6 lc6, .slice la7 ln7 lc7, .slice la8 ln8 lc8, .slice la9 ln9 lc9, .slice la10 ln10 lc10, .slice (some ⟨g11, 0, none⟩) ln11 lc11] 50)
 have hZ := World.size_alloc w4 (.cells #[.slice la0 ln0 lc0, .slice la1 ln1 lc1, .slice (some ⟨g2, 0, none⟩) ln2 lc2, .slice la3 ln3 lc3, .slice (some ⟨g4, 0, none⟩) ln4 lc4, .slice la5 ln5 lc5, .slice (some ⟨g6, 0, none⟩) ln6 lc6, .slice la7 ln7 lc7, .slice la8 ln8 lc8, .slice la9 ln9 lc9, .slice la10 ln10 lc10, .slice (some ⟨g11, 0, none⟩) ln11 lc11] 50)
 obtain ⟨b6, hb5⟩ : ∃ b6, b6 = w4.heap.size := ⟨_, rfl⟩
 rw [← hb5] at hA hZ ⊢
 generalize w4.alloc (.cells #[.slice la0 ln0 lc0, .slice la1 ln1 lc1, .slice (some ⟨g2, 0, none⟩) ln2 lc2, .slice la3 ln3 lc3, .slice (some ⟨g4, 0, none⟩) ln4 lc4, .slice la5 ln5 lc5, .slice (some ⟨g6, 0, none⟩) ln6 lc6, .slice la7 ln7 lc7, .slice la8 ln8 lc8, .slice la9 ln9 lc9, .slice la10 ln10 lc10, .slice (some ⟨g11, 0, none⟩) ln11 lc11] 50) = w5 at *
 have HAb6 := Lib.hid hA; have HBab6 := Lib.hid hBl; have HZb6 := Lib.hid hZ; have HEb6 := Lib.hid hb5
 clear hA hBl hZ hb5
 have HB35 : Hid (Below w3.heap.size w3 w5) := Lib.hid (HB34.out.trans (HBab6.out.mono HB34.out.size))
 have HO5 := Lib.hid (HO4.out.below HBab6.out)
 have HO35 := Lib.hid (HO3.out.below HB35.out)
 have HAk5 := Lib.hid ((HB35.out.block b5 (Array.getElem?_eq_some_iff.1 HAb5.out).1).trans HAb5.out)
 have r0 := cell_of_row w5 b5 0 _ _ (0, 0) HAk5.out
 have r1 := cell_of_row w5 b5 1 _ _ (0, 0) HAk5.out
 have r2 := cell_of_row w5 b5 2 _ _ (0, 0) HAk5.out
 have r3 := cell_of_row w5 b5 3 _ _ (0, 0) HAk5.out
 have r4 := cell_of_row w5 b5 4 _ _ (0, 0) HAk5.out
 have r5 := cell_of_row w5 b5 5 _ _ (0, 0) HAk5.out
 have r6 := cell_of_row w5 b5 6 _ _ (0, 0) HAk5.out
 have r7 := cell_of_row w5 b5 7 _ _ (0, 0) HAk5.out
 have r8 := cell_of_row w5 b5 8 _ _ (0, 0) HAk5.out
 have r9 := cell_of_row w5 b5 9 _ _ (0, 0) HAk5.out
 have r10 := cell_of_row w5 b5 10 _ _ (0, 0) HAk5.out
 have r11 := cell_of_row w5 b5 11 _ _ (0, 0) HAk5.out
 have f0 := cell_of_row w5 b6 0 _ _ (0, 0) HAb6.out
 have f1 := cell_of_row w5 b6 1 _ _ (0, 0) HAb6.out
 have f2 := cell_of_row w5 b6 2 _ _ (0, 0) HAb6.out
 have f3 := cell_of_row w5 b6 3 _ _ (0, 0) HAb6.out
 have f4 := cell_of_row w5 b6 4 _ _ (0, 0) HAb6.out
 have f5 := cell_of_row w5 b6 5 _ _ (0, 0) HAb6.out
 have f6 := cell_of_row w5 b6 6 _ _ (0, 0) HAb6.out
 have f7 := cell_of_row w5 b6 7 _ _ (0, 0) HAb6.out
 have f8 := cell_of_row w5 b6 8 _ _ (0, 0) HAb6.out
 have f9 := cell_of_row w5 b6 9 _ _ (0, 0) HAb6.out
 have f10 := cell_of_row w5 b6 10 _ _ (0, 0) HAb6.out
 have f11 := cell_of_row w5 b6 11 _ _ (0, 0) HAb6.out
 simp only [List.getElem?_toArray, List.getElem?_cons_zero, List.getElem?_cons_succ] at r0 f0 r1 f1 r2 f2 r3 f3 r4 f4 r5 f5 r6 f6 r7 f7 r8 f8 r9 f9 r10 f10 r11 f11
 go_wp2_with fail
 refine (HSm.out w5 _ _ _ _ HO5.out HO35.out).mono ?_
 rintro e w6 ⟨rfl, hb⟩
 have HB36 : Hid (Below w3.heap.size w3 w6) := Lib.hid (HB35.out.trans (hb.mono HB35.out.size))
 have HAk6 := Lib.hid ((hb.block b5 (Array.getElem?_eq_some_iff.1 HAk5.out).1).trans HAk5.out)
 have HAl6 := Lib.hid ((hb.block b6 (Array.getElem?_eq_some_iff.1 HAb6.out).1).trans HAb6.out)
 have hbW : ∀ g, g < w5.heap.size → w6.heap[g]? = w5.heap[g]? := fun g hg => hb.block g hg
 obtain ⟨v2, v4, v6, v11⟩ := HWr.out
 rw [← HEb6.out] at v2 v4 v6 v11
 have hv : ∀ g, Wr w3.heap.size b6 w4 g → Wr w3.heap.size b6 w6 g := fun g hg => hg.keep (by
  have h1 := hg.2.1
  rw [HEb6.out] at h1
  rw [hbW g (by have := HZb6.out; have := HEb6.out; omega)]
  exact HBab6.out.block g h1)
 have HV2 := Lib.hid (hv g2 v2); have HV4 := Lib.hid (hv g4 v4); have HV6 := Lib.hid (hv g6 v6); have HV11 := Lib.hid (hv g11 v11)
 clear v2 v4 v6 v11 hv hbW hb r0 f0 r1 f1 r2 f2 r3 f3 r4 f4 r5 f5 r6 f6 r7 f7 r8 f8 r9 f9 r10 f10 r11 f11 HAk5 HB35 HO5 HO35 HBab6 HO4 HWr
 go_upto_region 7 with (fail)
 refine (wpIn_wide (n := 2)).1 ?_
 refine wpIn_region_calm [] (fun w' : World => w'.heap[b6]? = some (.cells #[.slice la0 ln0 lc0, .slice la1 ln1 lc1, .slice (some ⟨g2, 0, none⟩) ln2 lc2, .slice la3 ln3 lc3, .slice (some ⟨g4, 0, none⟩) ln4 lc4, .slice la5 ln5 lc5, .slice (some ⟨g6, 0, none⟩) ln6 lc6, .slice la7 ln7 lc7, .slice la8 ln8 lc8, .slice la9 ln9 lc9, .slice la10 ln10 lc10, .slice (some ⟨g11, 0, none⟩) ln11 lc11] 50 (0, 0))) (by kernel_rfl) ?_
 have hd : Below w6.heap.size w6 w6.drew := (Below.refl _ w6).drew
 have HC7 := Lib.hid ((hd.block b6 (Array.getElem?_eq_some_iff.1 HAl6.out).1).trans HAl6.out)
 have hJ0 : Below w3.heap.size w3 w6.drew ∧ w6.drew.heap[b6]? = some (.cells #[.slice la0 ln0 lc0, .slice la1 ln1 lc1, .slice (some ⟨g2, 0, none⟩) ln2 lc2, .slice la3 ln3 lc3, .slice (some ⟨g4, 0, none⟩) ln4 lc4, .slice la5 ln5 lc5, .slice (some ⟨g6, 0, none⟩) ln6 lc6, .slice la7 ln7 lc7, .slice la8 ln8 lc8, .slice la9 ln9 lc9, .slice la10 ln10 lc10, .slice (some ⟨g11, 0, none⟩) ln11 lc11] 50 (0, 0)) ∧ Wr w3.heap.size b6 w6.drew g2 ∧ Wr w3.heap.size b6 w6.drew g4 ∧ Wr w3.heap.size b6 w6.drew g6 ∧ Wr w3.heap.size b6 w6.drew g11 :=
  ⟨HB36.out.trans (hd.mono HB36.out.size), HC7.out, HV2.out.keep rfl, HV4.out.keep rfl, HV6.out.keep rfl, HV11.out.keep rfl⟩
 have HJ0 := Lib.hid hJ0
 clear hJ0 hd HB36 HAl6 HV2 HV4 HV6 HV11
 generalize w6.drew = w7 at *
 refine' anyD_take (i := 0) (v := .pointer (some ⟨b6, 0, none⟩)) [] (by kernel_rfl) rfl (by rfl) (by kernel_rfl) (fun _ _ _ h => h) (by rfl) ?h0 HC7.out ?k0
 case h0 =>
  intro w' c0
  go_simp
  try with_reducible rfl
 simp only [List.getElem_toArray, List.getElem_cons_zero, List.getElem_cons_succ, Act.put, List.setIfInBounds_toArray, List.set_cons_zero, List.set_cons_succ]
 refine' anyD_take (i := 1) (v := .pointer (some ⟨b6, 2, none⟩)) [] (by kernel_rfl) rfl (by rfl) (by kernel_rfl) (fun _ _ _ h => h) (by rfl) ?h1 HC7.out ?k1
 case h1 =>
  intro w' c0
  go_simp
  try with_reducible rfl
 simp only [List.getElem_toArray, List.getElem_cons_zero, List.getElem_cons_succ, Act.put, List.setIfInBounds_toArray, List.set_cons_zero, List.set_cons_succ]
 refine' anyD_take (i := 2) (v := .slice (some ⟨g2, 0, none⟩) ln2 lc2) [] (by kernel_rfl) rfl (by rfl) (by kernel_rfl) (fun _ _ _ h => h) (by rfl) ?h2 HC7.out ?k2
 case h2 =>
  intro w' c0
  have q0 := cell_of_row w' b6 2 _ _ (0, 0) c0
  simp only [List.getElem?_toArray, List.getElem?_cons_zero, List.getElem?_cons_succ] at q0
  go_simp
  try with_reducible rfl
 simp only [List.getElem_toArray, List.getElem_cons_zero, List.getElem_cons_succ, Act.put, List.setIfInBounds_toArray, List.set_cons_zero, List.set_cons_succ]
 refine' anyD_take (i := 3) (v := .pointer (some ⟨b6, 3, none⟩)) [] (by kernel_rfl) rfl (by rfl) (by kernel_rfl) (fun _ _ _ h => h) (by rfl) ?h3 HC7.out ?k3
 case h3 =>
  intro w' c0
  go_simp
  try with_reducible rfl
 simp only [List.getElem_toArray, List.getElem_cons_zero, List.getElem_cons_succ, Act.put, List.setIfInBounds_toArray, List.set_cons_zero, List.set_cons_succ]
 refine' anyD_take (i := 4) (v := .pointer (some ⟨b6, 4, none⟩)) [] (by kernel_rfl) rfl (by rfl) (by kernel_rfl) (fun _ _ _ h => h) (by rfl) ?h4 HC7.out ?k4
 case h4 =>
  intro w' c0
  go_simp
  try with_reducible rfl
 simp only [List.getElem_toArray, List.getElem_cons_zero, List.getElem_cons_succ, Act.put, List.setIfInBounds_toArray, List.set_cons_zero, List.set_cons_succ]
 refine' anyD_take (i := 5) (v := .slice (some ⟨g4, 0, none⟩) ln4 lc4) [] (by kernel_rfl) rfl (by rfl) (by kernel_rfl) (fun _ _ _ h => h) (by rfl) ?h5 HC7.out ?k5
 case h5 =>
  intro w' c0
  have q0 := cell_of_row w' b6 4 _ _ (0, 0) c0
  simp only [List.getElem?_toArray, List.getElem?_cons_zero, List.getElem?_cons_succ] at q0
  go_simp
  try with_reducible rfl
 simp only [List.getElem_toArray, List.getElem_cons_zero, List.getElem_cons_succ, Act.put, List.setIfInBounds_toArray, List.set_cons_zero, List.set_cons_succ]
 refine' anyD_take (i := 6) (v := .pointer (some ⟨b6, 6, none⟩)) [] (by kernel_rfl) rfl (by rfl) (by kernel_rfl) (fun _ _ _ h => h) (by rfl) ?h6 HC7.out ?k6
 case h6 =>
  intro w' c0
  go_simp
  try with_reducible rfl
 simp only [List.getElem_toArray, List.getElem_cons_zero, List.getElem_cons_succ, Act.put, List.setIfInBounds_toArray, List.set_cons_zero, List.set_cons_succ]
 refine' anyD_take (i := 7) (v := .pointer (some ⟨b6, 6, none⟩)) [] (by kernel_rfl) rfl (by rfl) (by kernel_rfl) (fun _ _ _ h => h) (by rfl) ?h7 HC7.out ?k7
 case h7 =>
  intro w' c0
  go_simp
  try with_reducible rfl
 simp only [List.getElem_toArray, List.getElem_cons_zero, List.getElem_cons_succ, Act.put, List.setIfInBounds_toArray, List.set_cons_zero, List.set_cons_succ]
 refine' anyD_take (i := 8) (v := .slice (some ⟨g6, 0, none⟩) ln6 lc6) [] (by kernel_rfl) rfl (by rfl) (by kernel_rfl) (fun _ _ _ h => h) (by rfl) ?h8 HC7.out ?k8
 case h8 =>
  intro w' c0
  have q0 := cell_of_row w' b6 6 _ _ (0, 0) c0
  simp only [List.getElem?_toArray, List.getElem?_cons_zero, List.getElem?_cons_succ] at q0
  go_simp
  try with_reducible rfl
 simp only [List.getElem_toArray, List.getElem_cons_zero, List.getElem_cons_succ, Act.put, List.setIfInBounds_toArray, List.set_cons_zero, List.set_cons_succ]
 refine' anyD_take (i := 9) (v := .pointer (some ⟨b6, 9, none⟩)) [] (by kernel_rfl) rfl (by rfl) (by kernel_rfl) (fun _ _ _ h => h) (by rfl) ?h9 HC7.out ?k9
 case h9 =>
  intro w' c0
  go_simp
  try with_reducible rfl
 simp only [List.getElem_toArray, List.getElem_cons_zero, List.getElem_cons_succ, Act.put, List.setIfInBounds_toArray, List.set_cons_zero, List.set_cons_succ]
 refine' anyD_take (i := 10) (v := .pointer (some ⟨b6, 11, none⟩)) [] (by kernel_rfl) rfl (by rfl) (by kernel_rfl) (fun _ _ _ h => h) (by rfl) ?h10 HC7.out ?k10
 case h10 =>
  intro w' c0
  go_simp
  try with_reducible rfl
 simp only [List.getElem_toArray, List.getElem_cons_zero, List.getElem_cons_succ, Act.put, List.setIfInBounds_toArray, List.set_cons_zero, List.set_cons_succ]
 refine' anyD_take (i := 11) (v := .slice (some ⟨g11, 0, none⟩) ln11 lc11) [] (by kernel_rfl) rfl (by rfl) (by kernel_rfl) (fun _ _ _ h => h) (by rfl) ?h11 HC7.out ?k11
 case h11 =>
  intro w' c0
  have q0 := cell_of_row w' b6 11 _ _ (0, 0) c0
  simp only [List.getElem?_toArray, List.getElem?_cons_zero, List.getElem?_cons_succ] at q0
  go_simp
  try with_reducible rfl
 simp only [List.getElem_toArray, List.getElem_cons_zero, List.getElem_cons_succ, Act.put, List.setIfInBounds_toArray, List.set_cons_zero, List.set_cons_succ]
 obtain ⟨j1, j2, j3, j4, j5, j6⟩ := HJ0.out
 have jn := j3
 obtain ⟨-, -, cur, ty, hcur, hpos⟩ := jn
 have q0 := cell_of_row w7 g2 0 _ _ (0, 0) hcur
 have f0 := frozen_of_row w7 g2 0 _ _ hcur
 rw [Array.getElem?_eq_getElem hpos] at q0
 have HJ1 := Lib.hid (show Below w3.heap.size w3 (w7.setCell ⟨g2, 0, none⟩ (.int .u8 99)) ∧ (w7.setCell ⟨g2, 0, none⟩ (.int .u8 99)).heap[b6]? = some (.cells #[.slice la0 ln0 lc0, .slice la1 ln1 lc1, .slice (some ⟨g2, 0, none⟩) ln2 lc2, .slice la3 ln3 lc3, .slice (some ⟨g4, 0, none⟩) ln4 lc4, .slice la5 ln5 lc5, .slice (some ⟨g6, 0, none⟩) ln6 lc6, .slice la7 ln7 lc7, .slice la8 ln8 lc8, .slice la9 ln9 lc9, .slice la10 ln10 lc10, .slice (some ⟨g11, 0, none⟩) ln11 lc11] 50 (0, 0)) ∧ Wr w3.heap.size b6 (w7.setCell ⟨g2, 0, none⟩ (.int .u8 99)) g2 ∧ Wr w3.heap.size b6 (w7.setCell ⟨g2, 0, none⟩ (.int .u8 99)) g4 ∧ Wr w3.heap.size b6 (w7.setCell ⟨g2, 0, none⟩ (.int .u8 99)) g6 ∧ Wr w3.heap.size b6 (w7.setCell ⟨g2, 0, none⟩ (.int .u8 99)) g11 from
  ⟨j1.setCell (p := ⟨g2, 0, none⟩) j3.1 _, by rw [heap_setCell_other w7 _ _ _ (show b6 ≠ g2 by have := j3.2.1; omega)]; exact j2, j3.set _, j4.set _, j5.set _, j6.set _⟩)
 refine anyC_r1 (i := 12) (by kernel_rfl) ?_
 refine stepV (i := 12) (v := .pointer (some ⟨g2, 0, none⟩)) (w' := w7) rfl (by rfl) (fun _ _ => trivial) (by rfl) (by go_simp; try with_reducible rfl) (fun _ => j2) ?_
 simp only [List.getElem_toArray, List.getElem_cons_zero, List.getElem_cons_succ, Act.put, List.setIfInBounds_toArray, List.set_cons_zero, List.set_cons_succ]
 refine anyC_r1 (i := 13) (by kernel_rfl) ?_
 refine stepS (i := 13) (w' := w7.setCell ⟨g2, 0, none⟩ (.int .u8 99)) rfl (by rfl) (fun _ _ => trivial) (by rfl) (by go_simp; try with_reducible rfl) (fun _ => HJ1.out.2.1) ?_
 simp only [List.getElem_toArray, List.getElem_cons_zero, List.getElem_cons_succ, Act.put, List.setIfInBounds_toArray, List.set_cons_zero, List.set_cons_succ]
 clear j1 j2 j3 j4 j5 j6 q0 f0 hcur hpos HJ0
 generalize w7.setCell ⟨g2, 0, none⟩ (.int .u8 99) = va at *
 obtain ⟨j1, j2, j3, j4, j5, j6⟩ := HJ1.out
 have jn := j4
 obtain ⟨-, -, cur, ty, hcur, hpos⟩ := jn
 have q0 := cell_of_row va g4 0 _ _ (0, 0) hcur
 have f0 := frozen_of_row va g4 0 _ _ hcur
 rw [Array.getElem?_eq_getElem hpos] at q0
 have HJ2 := Lib.hid (show Below w3.heap.size w3 (va.setCell ⟨g4, 0, none⟩ (.int .u16 9)) ∧ (va.setCell ⟨g4, 0, none⟩ (.int .u16 9)).heap[b6]? = some (.cells #[.slice la0 ln0 lc0, .slice la1 ln1 lc1, .slice (some ⟨g2, 0, none⟩) ln2 lc2, .slice la3 ln3 lc3, .slice (some ⟨g4, 0, none⟩) ln4 lc4, .slice la5 ln5 lc5, .slice (some ⟨g6, 0, none⟩) ln6 lc6, .slice la7 ln7 lc7, .slice la8 ln8 lc8, .slice la9 ln9 lc9, .slice la10 ln10 lc10, .slice (some ⟨g11, 0, none⟩) ln11 lc11] 50 (0, 0)) ∧ Wr w3.heap.size b6 (va.setCell ⟨g4, 0, none⟩ (.int .u16 9)) g2 ∧ Wr w3.heap.size b6 (va.setCell ⟨g4, 0, none⟩ (.int .u16 9)) g4 ∧ Wr w3.heap.size b6 (va.setCell ⟨g4, 0, none⟩ (.int .u16 9)) g6 ∧ Wr w3.heap.size b6 (va.setCell ⟨g4, 0, none⟩ (.int .u16 9)) g11 from
  ⟨j1.setCell (p := ⟨g4, 0, none⟩) j4.1 _, by rw [heap_setCell_other va _ _ _ (show b6 ≠ g4 by have := j4.2.1; omega)]; exact j2, j3.set _, j4.set _, j5.set _, j6.set _⟩)
 refine anyC_r1 (i := 14) (by kernel_rfl) ?_
 refine stepV (i := 14) (v := .pointer (some ⟨g4, 0, none⟩)) (w' := va) rfl (by rfl) (fun _ _ => trivial) (by rfl) (by go_simp; try with_reducible rfl) (fun _ => j2) ?_
 simp only [List.getElem_toArray, List.getElem_cons_zero, List.getElem_cons_succ, Act.put, List.setIfInBounds_toArray, List.set_cons_zero, List.set_cons_succ]
 refine anyC_r1 (i := 15) (by kernel_rfl) ?_
 refine stepS (i := 15) (w' := va.setCell ⟨g4, 0, none⟩ (.int .u16 9)) rfl (by rfl) (fun _ _ => trivial) (by rfl) (by go_simp; try with_reducible rfl) (fun _ => HJ2.out.2.1) ?_
 simp only [List.getElem_toArray, List.getElem_cons_zero, List.getElem_cons_succ, Act.put, List.setIfInBounds_toArray, List.set_cons_zero, List.set_cons_succ]
 clear j1 j2 j3 j4 j5 j6 q0 f0 hcur hpos HJ1
 generalize va.setCell ⟨g4, 0, none⟩ (.int .u16 9) = vb at *
 obtain ⟨j1, j2, j3, j4, j5, j6⟩ := HJ2.out
 have jn := j5
 obtain ⟨-, -, cur, ty, hcur, hpos⟩ := jn
 have q0 := cell_of_row vb g6 0 _ _ (0, 0) hcur
 have f0 := frozen_of_row vb g6 0 _ _ hcur
 rw [Array.getElem?_eq_getElem hpos] at q0
 have HJ3 := Lib.hid (show Below w3.heap.size w3 (vb.setCell ⟨g6, 0, none⟩ (.int .u16 9)) ∧ (vb.setCell ⟨g6, 0, none⟩ (.int .u16 9)).heap[b6]? = some (.cells #[.slice la0 ln0 lc0, .slice la1 ln1 lc1, .slice (some ⟨g2, 0, none⟩) ln2 lc2, .slice la3 ln3 lc3, .slice (some ⟨g4, 0, none⟩) ln4 lc4, .slice la5 ln5 lc5, .slice (some ⟨g6, 0, none⟩) ln6 lc6, .slice la7 ln7 lc7, .slice la8 ln8 lc8, .slice la9 ln9 lc9, .slice la10 ln10 lc10, .slice (some ⟨g11, 0, none⟩) ln11 lc11] 50 (0, 0)) ∧ Wr w3.heap.size b6 (vb.setCell ⟨g6, 0, none⟩ (.int .u16 9)) g2 ∧ Wr w3.heap.size b6 (vb.setCell ⟨g6, 0, none⟩ (.int .u16 9)) g4 ∧ Wr w3.heap.size b6 (vb.setCell ⟨g6, 0, none⟩ (.int .u16 9)) g6 ∧ Wr w3.heap.size b6 (vb.setCell ⟨g6, 0, none⟩ (.int .u16 9)) g11 from
  ⟨j1.setCell (p := ⟨g6, 0, none⟩) j5.1 _, by rw [heap_setCell_other vb _ _ _ (show b6 ≠ g6 by have := j5.2.1; omega)]; exact j2, j3.set _, j4.set _, j5.set _, j6.set _⟩)
 refine anyC_r1 (i := 16) (by kernel_rfl) ?_
 refine stepV (i := 16) (v := .pointer (some ⟨g6, 0, none⟩)) (w' := vb) rfl (by rfl) (fun _ _ => trivial) (by rfl) (by go_simp; try with_reducible rfl) (fun _ => j2) ?_
 simp only [List.getElem_toArray, List.getElem_cons_zero, List.getElem_cons_succ, Act.put, List.setIfInBounds_toArray, List.set_cons_zero, List.set_cons_succ]
 refine anyC_r1 (i := 17) (by kernel_rfl) ?_
 refine stepS (i := 17) (w' := vb.setCell ⟨g6, 0, none⟩ (.int .u16 9)) rfl (by rfl) (fun _ _ => trivial) (by rfl) (by go_simp; try with_reducible rfl) (fun _ => HJ3.out.2.1) ?_
 simp only [List.getElem_toArray, List.getElem_cons_zero, List.getElem_cons_succ, Act.put, List.setIfInBounds_toArray, List.set_cons_zero, List.set_cons_succ]
 clear j1 j2 j3 j4 j5 j6 q0 f0 hcur hpos HJ2
 generalize vb.setCell ⟨g6, 0, none⟩ (.int .u16 9) = vc at *
 obtain ⟨j1, j2, j3, j4, j5, j6⟩ := HJ3.out
 have jn := j6
 obtain ⟨-, -, cur, ty, hcur, hpos⟩ := jn
 have q0 := cell_of_row vc g11 0 _ _ (0, 0) hcur
 have f0 := frozen_of_row vc g11 0 _ _ hcur
 rw [Array.getElem?_eq_getElem hpos] at q0
 have HJ4 := Lib.hid (show Below w3.heap.size w3 (vc.setCell ⟨g11, 0, none⟩ (.int .i32 9)) ∧ (vc.setCell ⟨g11, 0, none⟩ (.int .i32 9)).heap[b6]? = some (.cells #[.slice la0 ln0 lc0, .slice la1 ln1 lc1, .slice (some ⟨g2, 0, none⟩) ln2 lc2, .slice la3 ln3 lc3, .slice (some ⟨g4, 0, none⟩) ln4 lc4, .slice la5 ln5 lc5, .slice (some ⟨g6, 0, none⟩) ln6 lc6, .slice la7 ln7 lc7, .slice la8 ln8 lc8, .slice la9 ln9 lc9, .slice la10 ln10 lc10, .slice (some ⟨g11, 0, none⟩) ln11 lc11] 50 (0, 0)) ∧ Wr w3.heap.size b6 (vc.setCell ⟨g11, 0, none⟩ (.int .i32 9)) g2 ∧ Wr w3.heap.size b6 (vc.setCell ⟨g11, 0, none⟩ (.int .i32 9)) g4 ∧ Wr w3.heap.size b6 (vc.setCell ⟨g11, 0, none⟩ (.int .i32 9)) g6 ∧ Wr w3.heap.size b6 (vc.setCell ⟨g11, 0, none⟩ (.int .i32 9)) g11 from
  ⟨j1.setCell (p := ⟨g11, 0, none⟩) j6.1 _, by rw [heap_setCell_other vc _ _ _ (show b6 ≠ g11 by have := j6.2.1; omega)]; exact j2, j3.set _, j4.set _, j5.set _, j6.set _⟩)
 refine anyC_r1 (i := 18) (by kernel_rfl) ?_
 refine stepV (i := 18) (v := .pointer (some ⟨g11, 0, none⟩)) (w' := vc) rfl (by rfl) (fun _ _ => trivial) (by rfl) (by go_simp; try with_reducible rfl) (fun _ => j2) ?_
 simp only [List.getElem_toArray, List.getElem_cons_zero, List.getElem_cons_succ, Act.put, List.setIfInBounds_toArray, List.set_cons_zero, List.set_cons_succ]
 refine anyC_r1 (i := 19) (by kernel_rfl) ?_
 refine stepS (i := 19) (w' := vc.setCell ⟨g11, 0, none⟩ (.int .i32 9)) rfl (by rfl) (fun _ _ => trivial) (by rfl) (by go_simp; try with_reducible rfl) (fun _ => HJ4.out.2.1) ?_
 simp only [List.getElem_toArray, List.getElem_cons_zero, List.getElem_cons_succ, Act.put, List.setIfInBounds_toArray, List.set_cons_zero, List.set_cons_succ]
 clear j1 j2 j3 j4 j5 j6 q0 f0 hcur hpos HJ3
 generalize vc.setCell ⟨g11, 0, none⟩ (.int .i32 9) = w8 at *
 refine ⟨by kernel_rfl, ?_⟩
 have HB38 := Lib.hid HJ4.out.1
 clear HJ4 HC7
 go_upto_region 8 with (fail)
 refine (wpIn_wide (n := 2)).1 ?_
 refine wpIn_region_calm [] (fun w' : World => w'.heap[b5]? = some (.cells #[.slice ka0 kn0 kc0, .slice ka1 kn1 kc1, .slice ka2 kn2 kc2, .slice ka3 kn3 kc3, .slice ka4 kn4 kc4, .slice ka5 kn5 kc5, .slice ka6 kn6 kc6, .slice ka7 kn7 kc7, .slice ka8 kn8 kc8, .slice ka9 kn9 kc9, .slice ka10 kn10 kc10, .slice ka11 kn11 kc11] 50 (0, 0))) (by kernel_rfl) ?_
 have hd : Below w3.heap.size w3 w8.drew := HB38.out.trans ((Below.refl _ w8).drew.mono HB38.out.size)
 have HC_w8 := Lib.hid ((hd.block b5 (Array.getElem?_eq_some_iff.1 HAb5.out).1).trans HAb5.out)
 have HBy0 := Lib.hid (HB3.out.trans (hd.mono HB3.out.size))
 have HOy0 := Lib.hid (HO3.out.below hd)
 clear hd HB38 HO3 HAb5
 generalize w8.drew = y0 at *
 have HC_y0 := HC_w8
 clear HC_w8
 refine' anyD_take (i := 0) (v := .pointer (some ⟨p, 0, none⟩)) [] (by kernel_rfl) rfl (by rfl) (by kernel_rfl) (fun _ _ _ h => h) (by rfl) ?hb0 HC_y0.out ?kb0
 case hb0 =>
  intro w' c0
  go_simp
  try with_reducible rfl
 simp only [List.getElem_toArray, List.getElem_cons_zero, List.getElem_cons_succ, Act.put, List.setIfInBounds_toArray, List.set_cons_zero, List.set_cons_succ]
 refine' anyD_take (i := 2) (v := (.agg #[.slice ka0 kn0 kc0, .slice ka1 kn1 kc1, .slice ka2 kn2 kc2, .slice ka3 kn3 kc3, .slice ka4 kn4 kc4, .slice ka5 kn5 kc5, .slice ka6 kn6 kc6, .slice ka7 kn7 kc7, .slice ka8 kn8 kc8, .slice ka9 kn9 kc9, .slice ka10 kn10 kc10, .slice ka11 kn11 kc11])) [] (by kernel_rfl) rfl (by rfl) (by kernel_rfl) (fun _ _ _ h => h) (by rfl) ?hb2 HC_y0.out ?kb2
 case hb2 =>
  intro w' c0
  have z0 := cell_of_row w' b5 0 _ _ (0, 0) c0
  have z1 := cell_of_row w' b5 1 _ _ (0, 0) c0
  have z2 := cell_of_row w' b5 2 _ _ (0, 0) c0
  have z3 := cell_of_row w' b5 3 _ _ (0, 0) c0
  have z4 := cell_of_row w' b5 4 _ _ (0, 0) c0
  have z5 := cell_of_row w' b5 5 _ _ (0, 0) c0
  have z6 := cell_of_row w' b5 6 _ _ (0, 0) c0
  have z7 := cell_of_row w' b5 7 _ _ (0, 0) c0
  have z8 := cell_of_row w' b5 8 _ _ (0, 0) c0
  have z9 := cell_of_row w' b5 9 _ _ (0, 0) c0
  have z10 := cell_of_row w' b5 10 _ _ (0, 0) c0
  have z11 := cell_of_row w' b5 11 _ _ (0, 0) c0
  simp only [List.getElem?_toArray, List.getElem?_cons_zero, List.getElem?_cons_succ] at z0 z1 z2 z3 z4 z5 z6 z7 z8 z9 z10 z11
  go_simp
  try with_reducible rfl
 simp only [List.getElem_toArray, List.getElem_cons_zero, List.getElem_cons_succ, Act.put, List.setIfInBounds_toArray, List.set_cons_zero, List.set_cons_succ]
 refine anyC_r1 (i := 1) (by kernel_rfl) ?_
 refine stepCall (i := 1) rfl (by rfl) (by rfl) (fun _ _ => trivial) (exec_call1 45 (.tmp 51) _ rfl (.pointer (some ⟨p, 0, none⟩)) rfl (enters_of Tryz.func45 (by kernel_rfl) rfl)) (fun h => by cases h) ?_
 refine callsIn_wide.2 ?_
 refine (HPT.out y0 HBy0.out).mono ?_
 rintro e y1 ⟨s, rfl, ho, hb⟩
 have HOn := Lib.hid ho
 have HOy1 := Lib.hid (HOy0.out.below hb)
 have HBy1 := Lib.hid (HBy0.out.trans (hb.mono HBy0.out.size))
 have HC_y1 := Lib.hid ((hb.block b5 (Array.getElem?_eq_some_iff.1 HC_y0.out).1).trans HC_y0.out)
 clear ho hb HOy0 HBy0 HC_y0
 refine ⟨_, rfl, fun _ => HC_y1.out, ?_⟩
 simp only [List.getElem_toArray, List.getElem_cons_zero, List.getElem_cons_succ, Act.put, List.setIfInBounds_toArray, List.set_cons_zero, List.set_cons_succ]
 refine anyC_r1 (i := 3) (by kernel_rfl) ?_
 refine stepCall (i := 3) rfl (by rfl) (by rfl) (fun _ _ => trivial) (exec_call2 13 (.tmp 52) (.tmp 53) _ rfl (.agg s) (.agg #[.slice ka0 kn0 kc0, .slice ka1 kn1 kc1, .slice ka2 kn2 kc2, .slice ka3 kn3 kc3, .slice ka4 kn4 kc4, .slice ka5 kn5 kc5, .slice ka6 kn6 kc6, .slice ka7 kn7 kc7, .slice ka8 kn8 kc8, .slice ka9 kn9 kc9, .slice ka10 kn10 kc10, .slice ka11 kn11 kc11]) rfl rfl (enters_of Tryz.func13 (by kernel_rfl) rfl)) (fun h => by cases h) ?_
 refine callsIn_wide.2 ?_
 refine (HSm.out y1 _ _ _ _ HOn.out HOy1.out).mono ?_
 rintro e y2 ⟨rfl, hb⟩
 have HBy2 := Lib.hid (HBy1.out.trans (hb.mono HBy1.out.size))
 have HC_y2 := Lib.hid ((hb.block b5 (Array.getElem?_eq_some_iff.1 HC_y1.out).1).trans HC_y1.out)
 clear hb HOn HOy1 HBy1 HC_y1
 refine ⟨_, rfl, fun _ => HC_y2.out, ?_⟩
 simp only [List.getElem_toArray, List.getElem_cons_zero, List.getElem_cons_succ, Act.put, List.setIfInBounds_toArray, List.set_cons_zero, List.set_cons_succ]
 refine anyC_r1 (i := 4) (by kernel_rfl) ?_
 refine stepV (i := 4) (v := .bool true) (w' := y2) rfl (by rfl) (fun _ _ => trivial) (by rfl) (by go_simp; try with_reducible rfl) (fun _ => HC_y2.out) ?_
 simp only [List.getElem_toArray, List.getElem_cons_zero, List.getElem_cons_succ, Act.put, List.setIfInBounds_toArray, List.set_cons_zero, List.set_cons_succ]
 refine' anyD_take (i := 5) (v := .pointer (some ⟨p, 0, none⟩)) [] (by kernel_rfl) rfl (by rfl) (by kernel_rfl) (fun _ _ _ h => h) (by rfl) ?hb5 HC_y2.out ?kb5
 case hb5 =>
  intro w' c0
  go_simp
  try with_reducible rfl
 simp only [List.getElem_toArray, List.getElem_cons_zero, List.getElem_cons_succ, Act.put, List.setIfInBounds_toArray, List.set_cons_zero, List.set_cons_succ]
 refine' anyD_take (i := 6) (v := .pointer (some ⟨q, 0, none⟩)) [] (by kernel_rfl) rfl (by rfl) (by kernel_rfl) (fun _ _ _ h => h) (by rfl) ?hb6 HC_y2.out ?kb6
 case hb6 =>
  intro w' c0
  go_simp
  try with_reducible rfl
 simp only [List.getElem_toArray, List.getElem_cons_zero, List.getElem_cons_succ, Act.put, List.setIfInBounds_toArray, List.set_cons_zero, List.set_cons_succ]
 refine' anyD_take (i := 7) (v := .slice a n c) [] (by kernel_rfl) rfl (by rfl) (by kernel_rfl) (fun _ _ _ h => h) (by rfl) ?hb7 HC_y2.out ?kb7
 case hb7 =>
  intro w' c0
  go_simp
  try with_reducible rfl
 simp only [List.getElem_toArray, List.getElem_cons_zero, List.getElem_cons_succ, Act.put, List.setIfInBounds_toArray, List.set_cons_zero, List.set_cons_succ]
 refine anyC_r1 (i := 8) (by kernel_rfl) ?_
 refine stepCall (i := 8) rfl (by rfl) (by rfl) (fun _ _ => trivial) (exec_call3 44 (.tmp 56) (.tmp 57) (.tmp 58) _ rfl (.pointer (some ⟨p, 0, none⟩)) (.pointer (some ⟨q, 0, none⟩)) (.slice a n c) rfl rfl rfl (enters_of Tryz.func44 (by kernel_rfl) rfl)) (fun h => by cases h) ?_
 refine callsIn_wide.2 ?_
 refine (HLk.out y2 HBy2.out).mono ?_
 rintro e y3 ⟨rfl, hb⟩
 have HBy3 := Lib.hid (HBy2.out.trans (hb.mono HBy2.out.size))
 have HC_y3 := Lib.hid ((hb.block b5 (Array.getElem?_eq_some_iff.1 HC_y2.out).1).trans HC_y2.out)
 clear hb HBy2 HC_y2
 refine ⟨_, rfl, fun _ => HC_y3.out, ?_⟩
 simp only [List.getElem_toArray, List.getElem_cons_zero, List.getElem_cons_succ, Act.put, List.setIfInBounds_toArray, List.set_cons_zero, List.set_cons_succ]
 refine anyC_r1 (i := 9) (by kernel_rfl) ?_
 refine stepV (i := 9) (v := .bool true) (w' := y3) rfl (by rfl) (fun _ _ => trivial) (by rfl) (by go_simp; try with_reducible rfl) (fun _ => HC_y3.out) ?_
 simp only [List.getElem_toArray, List.getElem_cons_zero, List.getElem_cons_succ, Act.put, List.setIfInBounds_toArray, List.set_cons_zero, List.set_cons_succ]
 refine anyC_r1 (i := 10) (by kernel_rfl) ?_
 refine stepV (i := 10) (v := .bool true) (w' := y3) rfl (by rfl) (fun _ _ => trivial) (by rfl) (by go_simp; try with_reducible rfl) (fun _ => HC_y3.out) ?_
 simp only [List.getElem_toArray, List.getElem_cons_zero, List.getElem_cons_succ, Act.put, List.setIfInBounds_toArray, List.set_cons_zero, List.set_cons_succ]
 refine ⟨by kernel_rfl, ?_⟩
 go_wp2
 go_ret
 exact ⟨rfl, HBy3.out⟩
end Go.Proofs.YtbmphakfgoompaaGreat
