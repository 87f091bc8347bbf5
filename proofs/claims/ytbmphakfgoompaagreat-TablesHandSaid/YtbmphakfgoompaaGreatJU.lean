/- several texts in one: UYF F5 UFY UHS UFH -/
import Derived.Test.YtbmphakfgoompaaGreatG3
import Derived.Test.YtbmphakfgoompaaGreatHF1
import Derived.Test.YtbmphakfgoompaaGreatJQ
import Derived.Test.YtbmphakfgoompaaGreatJV
import Derived.Test.YtbmphakfgoompaaGreatJHD
import Derived.Test.YtbmphakfgoompaaGreatJC
import Derived.Deep.RegionHeld3
import Derived.Deep.RegionLaw
import Derived.Test.YtbmphakfgoompaaGreatG4
set_option linter.unusedVariables false
set_option linter.unusedSimpArgs false
/-
 The law's 'fit'.
-/
namespace Go.Proofs.YtbmphakfgoompaaGreat
open Go.RowKit
attribute [local go_sem] Oper.semAt_some

theorem fit_walk (w : World) (fb : Bool) (rest : Int) (a1 : Option Addr) (n1 c1 : Nat) (a2 : Option Addr) (n2 c2 : Nat) (a3 : Option Addr) (n3 c3 : Nat) (a4 : Option Addr) (n4 c4 : Nat) (hfb : fb = decide (n1 ≤ 20 ∧ n2 ≤ 20 ∧ n3 ≤ 20 ∧ n4 ≤ 20)) :
  Calls Tryz.prog 6 #[.agg #[.int .u8 rest, .slice a1 n1 c1, .slice a2 n2 c2, .slice a3 n3 c3, .slice a4 n4 c4]] w fun e w' => e = .returned (.bool fb) ∧ Below w.heap.size w w' := by
 have HF := Lib.hid hfb; clear hfb
 have hA := heap_alloc_new w (.cells #[.int .u8 rest, .slice a1 n1 c1, .slice a2 n2 c2, .slice a3 n3 c3, .slice a4 n4 c4] 27)
 have HB := Lib.hid ((Below.refl _ w).alloc (Nat.le_refl _) (.cells #[.int .u8 rest, .slice a1 n1 c1, .slice a2 n2 c2, .slice a3 n3 c3, .slice a4 n4 c4] 27))
 have HA := Lib.hid hA; clear hA
 go_enter Tryz.func6, Tryz.ntmps6
 go_upto_region 1 with (fail)
 obtain ⟨bx, hbx⟩ : ∃ bx, bx = w.heap.size := ⟨_, rfl⟩
 rw [← hbx] at HA ⊢
 generalize w.alloc (.cells #[.int .u8 rest, .slice a1 n1 c1, .slice a2 n2 c2, .slice a3 n3 c3, .slice a4 n4 c4] 27) = w1 at *
 have q1 := cell_of_row w1 bx 1 _ _ (0, 0) HA.out
 have q2 := cell_of_row w1 bx 2 _ _ (0, 0) HA.out
 have q3 := cell_of_row w1 bx 3 _ _ (0, 0) HA.out
 have q4 := cell_of_row w1 bx 4 _ _ (0, 0) HA.out
 simp at q1 q2 q3 q4
 clear hbx
 by_cases h1 : (n1 : Int) ≤ 20
 ·by_cases h2 : (n2 : Int) ≤ 20
  ·by_cases h3 : (n3 : Int) ≤ 20
   ·by_cases h4 : (n4 : Int) ≤ 20
    ·have HX := Lib.hid (show fb = true from HF.out.trans (decide_eq_true (by omega)))
     go_wp2
     go_ret
     exact ⟨ret_eq (congrArg Value.bool HX.out.symm), HB.out⟩
    ·have HX := Lib.hid (show fb = false from HF.out.trans (decide_eq_false (by omega)))
     go_wp2
     go_ret
     exact ⟨ret_eq (congrArg Value.bool HX.out.symm), HB.out⟩
   ·have HX := Lib.hid (show fb = false from HF.out.trans (decide_eq_false (by omega)))
    go_wp2
    go_ret
    exact ⟨ret_eq (congrArg Value.bool HX.out.symm), HB.out⟩
  ·have HX := Lib.hid (show fb = false from HF.out.trans (decide_eq_false (by omega)))
   go_wp2
   go_ret
   exact ⟨ret_eq (congrArg Value.bool HX.out.symm), HB.out⟩
 ·have HX := Lib.hid (show fb = false from HF.out.trans (decide_eq_false (by omega)))
  go_wp2
  go_ret
  exact ⟨ret_eq (congrArg Value.bool HX.out.symm), HB.out⟩
end Go.Proofs.YtbmphakfgoompaaGreat

/-
 The opener of what lists make: a struct of a class and four lists.
-/
set_option maxRecDepth 100000
namespace Go.Proofs.YtbmphakfgoompaaGreat
open Go.ChangeShapes Go.WideShapes Go.ChangeAt Go.RowKit Go.Joins Go.Deep

theorem b32 {x : Int} (h : (Lit.int .i32 x).wf = true) : wf32 x := by
 simpa [wf32, Lit.wf, IntKind.min, IntKind.max, IntKind.signed, IntKind.bits] using h
theorem b8 {x : Int} (h : (Lit.int .u8 x).wf = true) : 0 ≤ x ∧ x ≤ 255 := by
 simpa [Lit.wf, IntKind.min, IntKind.max, IntKind.signed, IntKind.bits] using h
theorem elem_fields {H : Type} {enc : TypeId × Value → H} {P : Program} {w : World} {b0 : Nat} {sp : Nat → Bool} {held : Bool} {e : TypeId} {fs : Array Field} {n : Nat} {a : Addr} {o : Nat} {cs : List Value} {x : DataW H × List MemPlace}
  (he : P.underlying e = some (.struct fs)) (hone : oneCellFields P fs = true) (hC : P.cellsOf e = fs.size) (hc : w.cells? b0 (a.add o) (P.cellsOf e) = some cs) (h : DataW.trod enc P w b0 sp held n e cs = some x) :
  ∀ (j : Nat) (f : Field), fs[j]? = some f → ∃ (v : Value) (y : DataW H × List MemPlace) (n' : Nat), w.cell? (a.add (o + j)) = some v ∧ DataW.trod enc P w b0 sp held n' f.type [v] = some y := by
 obtain ⟨_, hl, hat⟩ := World.cells?_some hc
 obtain ⟨xs, n', _, _, _, hxl, hf⟩ := DataW.trod_struct he h
 intro j f hj
 have hjl : j < fs.size := (Array.getElem?_eq_some_iff.1 hj).1
 have hjc : j < cs.length := by omega
 obtain ⟨ho, hk⟩ := Deep.hone_of hone j f hj
 have h1 := hf j f hj
 rw [ho, hk, show (cs.drop j).take 1 = [cs[j]] by rw [List.drop_eq_getElem_cons hjc]; rfl, List.getElem?_eq_getElem (show j < xs.length by omega)] at h1
 refine ⟨cs[j], _, n', ?_, h1⟩
 have h2 := hat j (by omega)
 rw [List.getElem?_eq_getElem hjc, Go.Deep.add_add] at h2
 exact h2
theorem exists_rows {α : Type} {Q : Nat → α → Prop} (n : Nat) (h : ∀ i, i < n → ∃ c, Q i c) : ∃ cs : List α, cs.length = n ∧ ∀ i (hi : i < cs.length), Q i cs[i] := by
 induction n with
 | zero => exact ⟨[], rfl, fun i hi => absurd hi (by simp)⟩
 | succ n ih =>
  obtain ⟨cs, hl, hq⟩ := ih (fun i hi => h i (by omega))
  obtain ⟨c, hc⟩ := h n (by omega)
  refine ⟨cs ++ [c], by simp [hl], fun i hi => ?_⟩
  by_cases hin : i < cs.length
  ·rw [List.getElem_append_left hin]; exact hq i hin
  ·have : i = n := by simp at hi; omega
   subst this
   subst hl
   rw [List.getElem_concat_length rfl]
   exact hc
def spanW (s : SpanD) : Prop := wf32 s.f ∧ wf32 s.t ∧ 0 ≤ s.v ∧ s.v ≤ 255
def twW2 (s : TwD) : Prop := wf32 s.a ∧ wf32 s.s
theorem rows3_fld {H : Type} {enc : TypeId × Value → H} {W : World} {t e c8 : TypeId} {f0 f1 f2 : Field} {v : Value} {n : Nat} {y : DataW H × List MemPlace}
  (ht : Tryz.prog.underlying t = some (.slice e)) (he : Tryz.prog.underlying e = some (.struct #[f0, f1, f2])) (h1 : oneCellFields Tryz.prog #[f0, f1, f2] = true) (hC : Tryz.prog.cellsOf e = 3)
  (e0 : Tryz.prog.underlying f0.type = some (.int .i32)) (e1 : Tryz.prog.underlying f1.type = some (.int .i32)) (e2 : Tryz.prog.underlying f2.type = some (.int .u8))
  (h : DataW.trod enc Tryz.prog W 0 (fun _ => true) true n t [v] = some y) : ∃ a len cap rs, v = .slice a len cap ∧ rs.length = len ∧ len ≤ cap ∧ cap ≤ maxLen ∧ SpansAt W a rs ∧ (∀ s ∈ rs, spanW s) ∧ (a = none → cap = 0) := by
 rcases Deep.open_slice ht h with ⟨hcs, hx⟩ | ⟨a, len, cap, m, n', D, Pl, hcs, _, hlc, hcm, hm, hx, hel⟩
 ·simp [Value.cells] at hcs
  exact ⟨none, 0, 0, [], hcs, rfl, Nat.le_refl _, Nat.zero_le _, fun i hi => absurd hi (by simp), (fun p hp => by cases hp), fun _ => rfl⟩
 ·simp [Value.cells] at hcs
  subst hcs
  have hm' : m = cap := by simpa using hm
  have hsp : 0 < len → a.spot = none := by
   intro hi
   obtain ⟨cs', hc, ht'⟩ := hel 0 (by omega)
   rw [hC] at hc
   obtain ⟨v0, y0, n0, k0, t0⟩ := elem_fields he h1 hC (by rw [hC]; exact hc) ht' 0 _ rfl
   simpa [Addr.add] using World.cell?_spot k0
  have hch : ∀ i, i < len → ∃ c : SpanD, spanW c ∧ ∃ b o, some a = some ⟨b, o, none⟩ ∧ W.cell? ⟨b, o + i * 3, none⟩ = some (.int .i32 c.f) ∧ W.cell? ⟨b, o + i * 3 + 1, none⟩ = some (.int .i32 c.t) ∧ W.cell? ⟨b, o + i * 3 + 2, none⟩ = some (.int .u8 c.v) := by
   intro i hi
   have hsp := hsp (by omega)
   obtain ⟨cs', hc, ht'⟩ := hel i (by omega)
   rw [hC] at hc
   have hf := elem_fields he h1 hC (by rw [hC]; exact hc) ht'
   obtain ⟨v0, y0, n0, k0, t0⟩ := hf 0 _ rfl
   obtain ⟨v1, y1, n1, k1, t1⟩ := hf 1 _ rfl
   obtain ⟨v2, y2, n2, k2, t2⟩ := hf 2 _ rfl
   obtain ⟨x0, d0, _, w0⟩ := DataW.trod_int e0 t0
   obtain ⟨x1, d1, _, w1⟩ := DataW.trod_int e1 t1
   obtain ⟨x2, d2, _, w2⟩ := DataW.trod_int e2 t2
   simp at d0 d1 d2
   subst d0 d1 d2
   obtain ⟨b, o, sp⟩ := a
   simp only at hsp
   subst hsp
   simp only [Addr.add_lit, Nat.add_zero, ← Nat.add_assoc] at k0 k1 k2
   exact ⟨⟨x0, x1, x2⟩, ⟨b32 w0, b32 w1, b8 w2⟩, b, o, rfl, k0, k1, k2⟩
  obtain ⟨chs, hl, hq⟩ := exists_rows len hch
  refine ⟨some a, len, cap, chs, rfl, hl, hlc, hcm, fun i hi => (hq i hi).2, fun p hp => ?_, fun e => by cases e⟩
  obtain ⟨i, hi, rfl⟩ := List.mem_iff_getElem.1 hp
  exact (hq i hi).1
theorem rows2_fld {H : Type} {enc : TypeId × Value → H} {W : World} {t e : TypeId} {f0 f1 : Field} {v : Value} {n : Nat} {y : DataW H × List MemPlace}
  (ht : Tryz.prog.underlying t = some (.slice e)) (he : Tryz.prog.underlying e = some (.struct #[f0, f1])) (h1 : oneCellFields Tryz.prog #[f0, f1] = true) (hC : Tryz.prog.cellsOf e = 2)
  (e0 : Tryz.prog.underlying f0.type = some (.int .i32)) (e1 : Tryz.prog.underlying f1.type = some (.int .i32))
  (h : DataW.trod enc Tryz.prog W 0 (fun _ => true) true n t [v] = some y) : ∃ a len cap rs, v = .slice a len cap ∧ rs.length = len ∧ len ≤ cap ∧ cap ≤ maxLen ∧ TwAt W a rs ∧ (∀ s ∈ rs, twW2 s) ∧ (a = none → cap = 0) := by
 rcases Deep.open_slice ht h with ⟨hcs, hx⟩ | ⟨a, len, cap, m, n', D, Pl, hcs, _, hlc, hcm, hm, hx, hel⟩
 ·simp [Value.cells] at hcs
  exact ⟨none, 0, 0, [], hcs, rfl, Nat.le_refl _, Nat.zero_le _, fun i hi => absurd hi (by simp), (fun p hp => by cases hp), fun _ => rfl⟩
 ·simp [Value.cells] at hcs
  subst hcs
  have hm' : m = cap := by simpa using hm
  have hsp : 0 < len → a.spot = none := by
   intro hi
   obtain ⟨cs', hc, ht'⟩ := hel 0 (by omega)
   rw [hC] at hc
   obtain ⟨v0, y0, n0, k0, t0⟩ := elem_fields he h1 hC (by rw [hC]; exact hc) ht' 0 _ rfl
   simpa [Addr.add] using World.cell?_spot k0
  have hch : ∀ i, i < len → ∃ c : TwD, twW2 c ∧ ∃ b o, some a = some ⟨b, o, none⟩ ∧ W.cell? ⟨b, o + i * 2, none⟩ = some (.int .i32 c.a) ∧ W.cell? ⟨b, o + i * 2 + 1, none⟩ = some (.int .i32 c.s) := by
   intro i hi
   have hsp := hsp (by omega)
   obtain ⟨cs', hc, ht'⟩ := hel i (by omega)
   rw [hC] at hc
   have hf := elem_fields he h1 hC (by rw [hC]; exact hc) ht'
   obtain ⟨v0, y0, n0, k0, t0⟩ := hf 0 _ rfl
   obtain ⟨v1, y1, n1, k1, t1⟩ := hf 1 _ rfl
   obtain ⟨x0, d0, _, w0⟩ := DataW.trod_int e0 t0
   obtain ⟨x1, d1, _, w1⟩ := DataW.trod_int e1 t1
   simp at d0 d1
   subst d0 d1
   obtain ⟨b, o, sp⟩ := a
   simp only at hsp
   subst hsp
   simp only [Addr.add_lit, Nat.add_zero, ← Nat.add_assoc] at k0 k1
   exact ⟨⟨x0, x1⟩, ⟨b32 w0, b32 w1⟩, b, o, rfl, k0, k1⟩
  obtain ⟨chs, hl, hq⟩ := exists_rows len hch
  refine ⟨some a, len, cap, chs, rfl, hl, hlc, hcm, fun i hi => (hq i hi).2, fun p hp => ?_, fun e => by cases e⟩
  obtain ⟨i, hi, rfl⟩ := List.mem_iff_getElem.1 hp
  exact (hq i hi).1
theorem open_agg5 {H : Type} {enc : TypeId × Value → H} {P : Program} {w : World} {base : Nat} {spare : Nat → Bool} {held : Bool} {r : Reach} {b0 : Nat} {t : TypeId} {f0 f1 f2 f3 f4 : Field} {v : Value} {d : DataW H} {p : List MemPlace} (hs : P.underlying t = some (.struct #[f0, f1, f2, f3, f4])) (hone : oneCellFields P #[f0, f1, f2, f3, f4] = true) (hC : P.cellsOf t = 5)
  (hv : Value.okWide P w r b0 t v) (h : DataW.Trod enc P w base spare held t v d p) :
  ∃ (v0 v1 v2 v3 v4 : Value) (y0 y1 y2 y3 y4 : DataW H × List MemPlace) (n : Nat), v = .agg #[v0, v1, v2, v3, v4] ∧
   DataW.trod enc P w base spare held n f0.type [v0] = some y0 ∧ DataW.trod enc P w base spare held n f1.type [v1] = some y1 ∧ DataW.trod enc P w base spare held n f2.type [v2] = some y2 ∧ DataW.trod enc P w base spare held n f3.type [v3] = some y3 ∧ DataW.trod enc P w base spare held n f4.type [v4] = some y4 := by
 obtain ⟨cs, rfl, hsz⟩ := okWide_struct hs hv
 obtain ⟨c0, c1, c2, c3, c4, rfl⟩ : ∃ c0 c1 c2 c3 c4, cs = #[c0, c1, c2, c3, c4] := by
  obtain ⟨l⟩ := cs
  match l, hsz.trans hC with
  | [c0, c1, c2, c3, c4], _ => exact ⟨c0, c1, c2, c3, c4, rfl⟩
 obtain ⟨fuel, hf⟩ := h
 obtain ⟨xs, n, _, hx, hl, hlen, hf⟩ := DataW.trod_struct hs hf
 match xs, hlen with
 | [y0, y1, y2, y3, y4], _ =>
  obtain ⟨o0, k0⟩ := hone_of hone 0 f0 rfl
  obtain ⟨o1, k1⟩ := hone_of hone 1 f1 rfl
  obtain ⟨o2, k2⟩ := hone_of hone 2 f2 rfl
  obtain ⟨o3, k3⟩ := hone_of hone 3 f3 rfl
  obtain ⟨o4, k4⟩ := hone_of hone 4 f4 rfl
  exact ⟨c0, c1, c2, c3, c4, y0, y1, y2, y3, y4, n, rfl, by simpa [Value.cells, o0, k0] using hf 0 f0 rfl, by simpa [Value.cells, o1, k1] using hf 1 f1 rfl, by simpa [Value.cells, o2, k2] using hf 2 f2 rfl, by simpa [Value.cells, o3, k3] using hf 3 f3 rfl, by simpa [Value.cells, o4, k4] using hf 4 f4 rfl⟩
/-- what is told of lists that came in: no bound on their lengths but memory's -/
structure MadeRw (w : World) (D : MadeD) (a1 : Option Addr) (n1 c1 : Nat) (a2 : Option Addr) (n2 c2 : Nat) (a3 : Option Addr) (n3 c3 : Nat) (a4 : Option Addr) (n4 c4 : Nat) : Prop where
 h1 : D.l1.length = n1
 h2 : D.l2.length = n2
 h3 : D.l3.length = n3
 h4 : D.l4.length = n4
 k1 : n1 ≤ c1 ∧ c1 ≤ maxLen
 k2 : n2 ≤ c2 ∧ c2 ≤ maxLen
 k3 : n3 ≤ c3 ∧ c3 ≤ maxLen
 k4 : n4 ≤ c4 ∧ c4 ≤ maxLen
 s1 : SpansAt w a1 D.l1
 s2 : SpansAt w a2 D.l2
 s3 : TwAt w a3 D.l3
 s4 : TwAt w a4 D.l4
 r : 0 ≤ D.rest ∧ D.rest ≤ 255
 w1 : ∀ s ∈ D.l1, spanW s
 w2 : ∀ s ∈ D.l2, spanW s
 w3 : ∀ s ∈ D.l3, twW2 s
 w4 : ∀ s ∈ D.l4, twW2 s
 z1 : a1 = none → c1 = 0
 z2 : a2 = none → c2 = 0
 z3 : a3 = none → c3 = 0
 z4 : a4 = none → c4 = 0
theorem MadeRw.sl {w : World} {D : MadeD} {a1 : Option Addr} {n1 c1 : Nat} {a2 : Option Addr} {n2 c2 : Nat} {a3 : Option Addr} {n3 c3 : Nat} {a4 : Option Addr} {n4 c4 : Nat} (h : MadeRw w D a1 n1 c1 a2 n2 c2 a3 n3 c3 a4 n4 c4) (b1 : n1 ≤ 20) (b2 : n2 ≤ 20) (b3 : n3 ≤ 20) (b4 : n4 ≤ 20) :
  MadeSl w D a1 n1 c1 a2 n2 c2 a3 n3 c3 a4 n4 c4 := ⟨h.h1, h.h2, h.h3, h.h4, by omega, by omega, by omega, by omega, h.s1, h.s2, h.s3, h.s4⟩
theorem Tryz.cellsMade : Tryz.prog.cellsOf 27 = 5 := by kernel_rfl
theorem made_open {H : Type} {enc : TypeId × Value → H} {W : World} {b0 : Nat} {v : Value} {d : DataW H} {p : List MemPlace}
  (hv : Value.okWide Tryz.prog W .any b0 27 v) (h : DataW.Trod enc Tryz.prog W 0 (fun _ => true) true 27 v d p) :
  ∃ (D : MadeD) (a1 : Option Addr) (n1 c1 : Nat) (a2 : Option Addr) (n2 c2 : Nat) (a3 : Option Addr) (n3 c3 : Nat) (a4 : Option Addr) (n4 c4 : Nat), v = .agg #[.int .u8 D.rest, .slice a1 n1 c1, .slice a2 n2 c2, .slice a3 n3 c3, .slice a4 n4 c4] ∧ MadeRw W D a1 n1 c1 a2 n2 c2 a3 n3 c3 a4 n4 c4 := by
 obtain ⟨v0, v1, v2, v3, v4, y0, y1, y2, y3, y4, m, rfl, h0, h1, h2, h3, h4⟩ := open_agg5 Tryz.underlying27 (by kernel_rfl) Tryz.cellsMade hv h
 obtain ⟨x, e0, _, wx⟩ := DataW.trod_int Tryz.underlying22 h0
 simp at e0
 subst e0
 obtain ⟨a1, n1, c1, l1, rfl, p1, q1, m1, s1, w1, z1⟩ := rows3_fld (c8 := 0) Tryz.underlying23 Tryz.underlying63 (by kernel_rfl) (by kernel_rfl) Tryz.underlying21 Tryz.underlying21 Tryz.underlying22 h1
 obtain ⟨a2, n2, c2, l2, rfl, p2, q2, m2, s2, w2, z2⟩ := rows3_fld (c8 := 0) Tryz.underlying24 Tryz.underlying66 (by kernel_rfl) (by kernel_rfl) Tryz.underlying21 Tryz.underlying21 Tryz.underlying64 h2
 obtain ⟨a3, n3, c3, l3, rfl, p3, q3, m3, s3, w3, z3⟩ := rows2_fld Tryz.underlying25 Tryz.underlying68 (by kernel_rfl) (by kernel_rfl) Tryz.underlying21 Tryz.underlying21 h3
 obtain ⟨a4, n4, c4, l4, rfl, p4, q4, m4, s4, w4, z4⟩ := rows2_fld Tryz.underlying25 Tryz.underlying68 (by kernel_rfl) (by kernel_rfl) Tryz.underlying21 Tryz.underlying21 h4
 exact ⟨⟨x, l1, l2, l3, l4⟩, a1, n1, c1, a2, n2, c2, a3, n3, c3, a4, n4, c4, rfl, ⟨p1, p2, p3, p4, ⟨q1, m1⟩, ⟨q2, m2⟩, ⟨q3, m3⟩, ⟨q4, m4⟩, s1, s2, s3, s4, b8 wx, w1, w2, w3, w4, z1, z2, z3, z4⟩⟩
end Go.Proofs.YtbmphakfgoompaaGreat

/-
 What the laws of lists share.
-/
namespace Go.Proofs.YtbmphakfgoompaaGreat
open Go.RowKit
attribute [local go_sem] Oper.semAt_some

theorem MadeRw.wf {w : World} {D : MadeD} {a1 : Option Addr} {n1 c1 : Nat} {a2 : Option Addr} {n2 c2 : Nat} {a3 : Option Addr} {n3 c3 : Nat} {a4 : Option Addr} {n4 c4 : Nat} (h : MadeRw w D a1 n1 c1 a2 n2 c2 a3 n3 c3 a4 n4 c4) : MadeWf D :=
 ⟨h.r, h.w1, h.w2, h.w3, h.w4⟩
theorem edgeL_len {D : MadeD} (h1 : D.l1.length ≤ 20) (h2 : D.l2.length ≤ 20) (h3 : D.l3.length ≤ 20) (h4 : D.l4.length ≤ 20) : (edgeL D).length ≤ 1048576 := by
 unfold edgeL
 simp only [List.length_append, edgeS_len, edgeB_len, edgeT_len, List.length_cons, List.length_nil]
 omega
theorem wrongF_congr {c b t m c' b' t' m' : Nat → Int} (e : ∀ r, r ≤ 1114111 → c r = c' r ∧ b r = b' r ∧ t r = t' r ∧ m r = m' r) (r : Nat) (hr : r ≤ 1114111) : wrongF c b t m r = wrongF c' b' t' m' r := by
 have ec : ∀ x, c (runeR x) = c' (runeR x) := fun x => (e _ (runeR_le x)).1
 have eb : ∀ x, b (runeR x) = b' (runeR x) := fun x => (e _ (runeR_le x)).2.1
 have et : ∀ x, t (runeR x) = t' (runeR x) := fun x => (e _ (runeR_le x)).2.2.1
 obtain ⟨e1, e2, e3, e4⟩ := e r hr
 simp only [wrongF, oddF, strangeF, selfF, twF, ec, eb, et, e1, e2, e3, e4]
set_option maxRecDepth 100000 in
set_option maxHeartbeats 4000000 in
theorem wholeNil_walk (w : World) (v : Value) : Calls Tryz.prog 14 #[.pointer none, .pointer none, v] w fun e w' => e = .returned (.bool true) ∧ Below w.heap.size w w' := by
 go_enter Tryz.func14, Tryz.ntmps14
 go_wp2_with fail
 refine (looksNil_walk w v).mono ?_
 rintro e w1 ⟨rfl, hb⟩
 have HB := Lib.hid hb; clear hb
 go_wp2
 go_ret
 exact ⟨rfl, HB.out⟩
end Go.Proofs.YtbmphakfgoompaaGreat

/-
 What both Hands say: the same; tables kept while older rows are overwritten.
-/
namespace Go.Proofs.YtbmphakfgoompaaGreat
open Go.RowKit

theorem trie_move {val : Int → Value} {ty : TypeId} {n : Nat} {W W' : World} {g B : Nat} {T : TrieD Int} (h : TrieAt val ty n W g T) (hf : TrieFar ty W g T B) (hk : ∀ x, B ≤ x → x < W.heap.size → W'.heap[x]? = W.heap[x]?) : TrieAt val ty n W' g T ∧ TrieFar ty W' g T B := by
 obtain ⟨am, cm, al, cl, h1, h2, h3⟩ := h
 obtain ⟨h0, am', cm', al', cl', k1, k2, k3⟩ := hf
 have e := h1.symm.trans k1
 simp only [Option.some.injEq, Obj.cells.injEq, List.toArray_inj, and_true, true_and, trieC] at e
 have e2 := List.append_cancel_left (congrArg Array.toList e)
 simp only [List.cons.injEq, Value.slice.injEq, true_and, and_true] at e2
 obtain ⟨⟨rfl, rfl⟩, rfl, rfl⟩ := e2
 have hblk : W'.heap[g]? = some (.cells (trieC T am cm al cl).toArray ty (0, 0)) := (hk g h0 (Array.getElem?_eq_some_iff.1 h1).1).trans h1
 have hr : ∀ (x o : Nat) (cs : List Value), B ≤ x → W.rangeAt x o cs → W'.rangeAt x o cs := fun x o cs hx hc j v hv => by
  have h9 := hc j v hv
  rw [World.cell?_of_block (w := W) (a := ⟨x, o + j, none⟩) (hk x hx (World.block_lt_of_cell? W _ h9))]
  exact h9
 refine ⟨⟨am, cm, al, cl, hblk, fun i hi => ?_, fun i hi => ?_⟩, h0, am, cm, al, cl, hblk, k2, k3⟩
 ·obtain ⟨x, o, e, hc⟩ := h2 i hi
  exact ⟨x, o, e, hr x _ _ (k2 _ e) hc⟩
 ·obtain ⟨x, o, e, hc⟩ := h3 i hi
  exact ⟨x, o, e, hr x _ _ (k3 _ e) hc⟩
theorem HTab.move {w w' : World} {p B : Nat} {c b t m : Nat → Int} (h : HTab w p c b t m B) (hk : ∀ x, B ≤ x → x < w.heap.size → w'.heap[x]? = w.heap[x]?) : HTab w' p c b t m B := by
 obtain ⟨gc, gb, gt, gm, SC, SB, ST, SM, h1, h2, h3, h4, h5, h6, h7, h8, h9, h10⟩ := h
 have k7 := trie_move h1.mem.atC h7 hk
 have k8 := trie_move h1.mem.atB h8 hk
 have k9 := trie_move h1.mem.atT h9 hk
 have k10 := trie_move h1.mem.atM h10 hk
 exact ⟨gc, gb, gt, gm, SC, SB, ST, SM, ⟨⟨(hk p h6 (Array.getElem?_eq_some_iff.1 h1.mem.row).1).trans h1.mem.row, h1.mem.okC, h1.mem.okB, h1.mem.okT, h1.mem.okM, h1.mem.posC, h1.mem.posB, h1.mem.posT, h1.mem.posM, k7.1, k8.1, k9.1, k10.1⟩, h1.c, h1.b, h1.t, h1.m⟩, h2, h3, h4, h5, h6, k7.2, k8.2, k9.2, k10.2⟩
/-- what two answers leave to be looked at: nothing, or the same tables -/
def WhOk (w : World) (B : Nat) (D : MadeD) (x y : Value) : Prop :=
 (x = .pointer none ∧ y = .pointer none) ∨ ∃ p q, x = .pointer (some ⟨p, 0, none⟩) ∧ y = .pointer (some ⟨q, 0, none⟩) ∧ HTab w p (fvs D 0) (fvs D 1) (fvs D 2) (fvs D 3) B ∧ DTab w q (fvs D) ∧ DFar B w q ∧ FitD (fvs D)
theorem WhOk.walk {w : World} {B : Nat} {D : MadeD} {x y : Value} (h : WhOk w B D x y) {W : World} (hk : ∀ g, B ≤ g → g < w.heap.size → W.heap[g]? = w.heap[g]?) (M : Nat) (hM : M = 17408) (a : Option Addr) (n c : Nat) (zs : List Int) (hl : zs.length = n) (hn : n ≤ maxLen) (hz : Ints .i32 W a zs) (hzb : ∀ z ∈ zs, wf32 z) :
  Calls Tryz.prog 14 #[x, y, .slice a n c] W fun e w' => e = .returned (.bool true) ∧ Below W.heap.size W w' := by
 rcases h with ⟨rfl, rfl⟩ | ⟨p, q, rfl, rfl, h1, h2, h3, h4⟩
 ·exact wholeNil_walk W _
 ·exact wholeD_walk W p q B M hM (fvs D) (h1.move hk) (h2.move h3 hk).1 h4 a n c zs hl hn hz hzb
theorem HandQ.shape {w : World} {rest : Int} {l1 l2 : List SpanD} {l3 l4 : List TwD} {e : Ending} {w' : World} (h : HandQ w rest l1 l2 l3 l4 e w') : ∃ x r u, e = .returned (.tuple #[x, .int .i32 r, .int .i64 u]) := by
 obtain ⟨-, ⟨r, -, rfl⟩ | ⟨-, p, k, -, rfl, -⟩⟩ := h
 ·exact ⟨_, _, _, rfl⟩
 ·unfold wholeE
  split <;> exact ⟨_, _, _, rfl⟩
theorem tup_inj {x x' : Value} {r r' u u' : Int} (h : Ending.returned (.tuple #[x, .int .i32 r, .int .i64 u]) = .returned (.tuple #[x', .int .i32 r', .int .i64 u'])) : x = x' ∧ r = r' ∧ u = u' := by
 simpa using h
/-- both say the same -/
theorem hand_says {w w1 w2 : World} {D : MadeD} (hwf : MadeWf D) {x : Value} {r u : Int} {e : Ending} (h1 : HandQ w D.rest D.l1 D.l2 D.l3 D.l4 (.returned (.tuple #[x, .int .i32 r, .int .i64 u])) w1) (h2 : DHandQ w1 D e w2) :
  Below w1.heap.size w1 w2 ∧ ∃ y, e = .returned (.tuple #[y, .int .i32 r, .int .i64 u]) ∧ WhOk w2 w.heap.size D x y := by
 obtain ⟨hb1, h1⟩ := h1
 obtain ⟨hb2, h2⟩ := h2
 refine ⟨hb2, ?_⟩
 rcases h1 with ⟨r1, k1, e1⟩ | ⟨k1, p, k, hk, e1, hT⟩
 ·obtain ⟨rfl, rfl, rfl⟩ := tup_inj e1
  rcases h2 with ⟨r2, k2, rfl⟩ | ⟨k2, -⟩
  ·rw [k1] at k2
   cases k2
   exact ⟨_, rfl, .inl ⟨rfl, rfl⟩⟩
  ·rw [k1] at k2; cases k2
 ·rcases h2 with ⟨r2, k2, rfl⟩ | ⟨-, W, hW, hb3, j1, j2, hj1, hj2, h2⟩
  ·rw [k1] at k2; cases k2
  ·have hD := (hand_ok k1).1
   obtain rfl := (pack_least hwf hj1).unique hD.pack
   have hno : ∀ r, r < 1114112 → badK D r = false := fun r hr => hj1.no r hr
   have hE : ∀ r, r ≤ 1114111 → clsF D.rest D.l1 (r : Nat) = fvs D 0 r ∧ brkF D.l2 (r : Nat) = fvs D 1 r ∧ twnF D.l3 (r : Nat) = fvs D 2 r ∧ twnF D.l4 (r : Nat) = fvs D 3 r := fun r hr => by
    obtain ⟨e0, e1, e2, e3⟩ := fvs_eq hwf hno r (by omega)
    exact ⟨e0.symm, (hD.br r).symm.trans e1.symm, (hD.tw r).symm.trans e2.symm, (hD.mi r).symm.trans e3.symm⟩
   obtain rfl := hk.unique (hj2.congr (fun r hr => (wrongF_congr hE r (by omega)).symm))
   rcases h2 with ⟨h3, -⟩ | ⟨-, h3, rfl⟩ | ⟨-, h3, q, rfl, hd, hf⟩
   ·exact absurd h3 (Nat.lt_irrefl _)
   ·rw [show wholeE p k = .tuple #[.pointer none, .int .i32 (k : Nat), .int .i64 141] from if_pos h3] at e1
    obtain ⟨rfl, rfl, rfl⟩ := tup_inj e1
    exact ⟨_, rfl, .inl ⟨rfl, rfl⟩⟩
   ·rw [show wholeE p k = .tuple #[.pointer (some ⟨p, 0, none⟩), .int .i32 0, .int .i64 0] from if_neg h3] at e1
    obtain ⟨rfl, rfl, rfl⟩ := tup_inj e1
    exact ⟨_, rfl, .inr ⟨p, q, rfl, rfl, (hT.congr hE).below hb2, hd, hf.mono (Nat.le_trans hb1.size hW.size), fit_of (fvs_any hwf hno)⟩⟩
end Go.Proofs.YtbmphakfgoompaaGreat

/-
 The walk of TablesHand.
-/
namespace Go.Proofs.YtbmphakfgoompaaGreat
open Go.RowKit
attribute [local go_sem] Oper.semAt_some

theorem exec_call5 {P : Program} {o : Oper} {a : Act} {w : World} (f : FuncId) (x0 x1 x2 x3 x4 : Operand) (ts : Array TypeId) (ho : o.op = .call { callee := .value (.func f), args := #[x0, x1, x2, x3, x4], argTypes := ts }) (v0 v1 v2 v3 v4 : Value) (h0 : a.eval x0 = v0) (h1 : a.eval x1 = v1) (h2 : a.eval x2 = v2) (h3 : a.eval x3 = v3) (h4 : a.eval x4 = v4) (eg : ∀ args W, (callFunc f args).run P W = .ok (.enter f args) W) :
  (execOp a.eval o).run P w = .ok (.enter f #[v0, v1, v2, v3, v4]) w := by
 subst h0 h1 h2 h3 h4
 unfold execOp
 simp only [ho]
 simp [resolve, invoke, go_sem, eg, Act.eval]
section
variable {F : Fence} {n : Nat} {P : Program} {md : Region.Mode} {ops : Array Oper} {Q : Exit → Act → World → Prop} {C : World → Prop}
theorem anyC_r3 {M : List Nat} {i i' i'' f : Nat} {l : Array Bool} {a : Act} {w : World} (hr : Region.ready md ops l = [i, i', i'']) (h : wpOpIn F n P ops Q i (fun a' w' => (i ∉ M → C w') ∧ anyC F n P md ops Q M C f (l.setIfInBounds i true) a' w') a w)
  (h' : wpOpIn F n P ops Q i' (fun a' w' => (i' ∉ M → C w') ∧ anyC F n P md ops Q M C f (l.setIfInBounds i' true) a' w') a w) (h'' : wpOpIn F n P ops Q i'' (fun a' w' => (i'' ∉ M → C w') ∧ anyC F n P md ops Q M C f (l.setIfInBounds i'' true) a' w') a w) : anyC F n P md ops Q M C (f + 1) l a w := by
 refine ⟨fun h0 => (by rw [hr] at h0; cases h0), fun j hj => ?_⟩
 rw [hr] at hj
 rcases List.mem_cons.1 hj with rfl | hj
 ·exact h
 ·rcases List.mem_cons.1 hj with rfl | hj
  ·exact h'
  ·obtain rfl : j = i'' := by simpa using hj
   exact h''
end
set_option maxRecDepth 100000 in
set_option maxHeartbeats 16000000 in
theorem tablesHand_walk (D : MadeD) (a1 : Option Addr) (n1 c1 : Nat) (a2 : Option Addr) (n2 c2 : Nat) (a3 : Option Addr) (n3 c3 : Nat) (a4 : Option Addr) (n4 c4 : Nat) (a : Option Addr) (n c : Nat) (zs : List Int) (w : World) (hm : MadeRw w D a1 n1 c1 a2 n2 c2 a3 n3 c3 a4 n4 c4)
  (hz : Ints .i32 w a zs) (hn : zs.length = n) (hnb : n ≤ maxLen) (hzb : ∀ z ∈ zs, wf32 z) :
  Calls Tryz.prog 4 #[.agg #[.int .u8 D.rest, .slice a1 n1 c1, .slice a2 n2 c2, .slice a3 n3 c3, .slice a4 n4 c4], .slice a n c] w fun e w' => e = .returned (.bool true) ∧ Below w.heap.size w w' := by
 have HWf := Lib.hid hm.wf
 have HM0 := Lib.hid hm
 have HZ1 := Lib.hid hm.z1; have HZ2 := Lib.hid hm.z2; have HZ3 := Lib.hid hm.z3; have HZ4 := Lib.hid hm.z4
 have HZi := Lib.hid (fun (W : World) (hb : Below w.heap.size w W) => hz.below hb (Nat.le_refl _))
 have HZn := Lib.hid hn
 have HZw := Lib.hid hzb
 clear hm hz hn hzb
 obtain ⟨rest, hrest⟩ : ∃ x, x = D.rest := ⟨_, rfl⟩
 rw [← hrest]
 have HRest := Lib.hid hrest; clear hrest
 have hA := heap_alloc_new w (.cells #[.int .u8 rest, .slice a1 n1 c1, .slice a2 n2 c2, .slice a3 n3 c3, .slice a4 n4 c4] 27)
 have HB := Lib.hid ((Below.refl _ w).alloc (Nat.le_refl _) (.cells #[.int .u8 rest, .slice a1 n1 c1, .slice a2 n2 c2, .slice a3 n3 c3, .slice a4 n4 c4] 27))
 have HA := Lib.hid hA; clear hA
 go_enter Tryz.func4, Tryz.ntmps4
 go_upto_region 1 with (fail)
 obtain ⟨bM, hbM⟩ : ∃ bM, bM = w.heap.size := ⟨_, rfl⟩
 rw [← hbM] at HA ⊢
 have HbM0 : Hid (bM < (w.alloc (.cells #[.int .u8 rest, .slice a1 n1 c1, .slice a2 n2 c2, .slice a3 n3 c3, .slice a4 n4 c4] 27)).heap.size) := Lib.hid (by rw [hbM]; simp)
 generalize w.alloc (.cells #[.int .u8 rest, .slice a1 n1 c1, .slice a2 n2 c2, .slice a3 n3 c3, .slice a4 n4 c4] 27) = w1 at *
 clear hbM
 have q0 := cell_of_row w1 bM 0 _ _ (0, 0) HA.out
 have q1 := cell_of_row w1 bM 1 _ _ (0, 0) HA.out
 have q2 := cell_of_row w1 bM 2 _ _ (0, 0) HA.out
 have q3 := cell_of_row w1 bM 3 _ _ (0, 0) HA.out
 have q4 := cell_of_row w1 bM 4 _ _ (0, 0) HA.out
 simp at q0 q1 q2 q3 q4
 obtain ⟨fb, hfb⟩ : ∃ fb, fb = decide (n1 ≤ 20 ∧ n2 ≤ 20 ∧ n3 ≤ 20 ∧ n4 ≤ 20) := ⟨_, rfl⟩
 have HFb := Lib.hid (fit_walk w1 fb rest a1 n1 c1 a2 n2 c2 a3 n3 c3 a4 n4 c4 hfb)
 go_wp2_with fail
 refine HFb.out.mono ?_
 rintro e w2 ⟨rfl, hb⟩
 have HB2 := Lib.hid (HB.out.trans (hb.mono HB.out.size))
 have HA2 := Lib.hid ((hb.block bM (Array.getElem?_eq_some_iff.1 HA.out).1).trans HA.out)
 have HbM : Hid (bM < w2.heap.size) := Lib.hid (Nat.lt_of_lt_of_le HbM0.out hb.size)
 have HB2z : Hid (w.heap.size ≤ w2.heap.size) := Lib.hid HB2.out.size
 clear hb q0 q1 q2 q3 q4 HA HB HFb HbM0
 cases fb
 ·clear hfb
  go_wp2_with fail
  refine (awake_walk w2).mono ?_
  rintro e w3 ⟨rfl, hb⟩
  have HB3 := Lib.hid (HB2.out.trans (hb.mono HB2.out.size))
  clear hb
  go_wp2
  go_ret
  exact ⟨rfl, HB3.out⟩
 ·have hdec := of_decide_eq_true hfb.symm
  have HM : Hid (MadeSl w D a1 n1 c1 a2 n2 c2 a3 n3 c3 a4 n4 c4) := Lib.hid (HM0.out.sl (by omega) (by omega) (by omega) (by omega))
  have HN1 := Lib.hid HM.out.h1; have HN2 := Lib.hid HM.out.h2; have HN3 := Lib.hid HM.out.h3; have HN4 := Lib.hid HM.out.h4
  have hL : D.l1.length ≤ 20 ∧ D.l2.length ≤ 20 ∧ D.l3.length ≤ 20 ∧ D.l4.length ≤ 20 := by
   have h1 := HM.out.h1; have h2 := HM.out.h2; have h3 := HM.out.h3; have h4 := HM.out.h4
   omega
  have HE8 : Hid ((edgeL D).length ≤ 1048576) := Lib.hid (edgeL_len hL.1 hL.2.1 hL.2.2.1 hL.2.2.2)
  have HL2 := Lib.hid hL.2.1
  obtain ⟨hn1, hn2, hn3, hn4⟩ := hdec
  clear hfb HM0 hL
  have q0 := cell_of_row w2 bM 0 _ _ (0, 0) HA2.out
  have q1 := cell_of_row w2 bM 1 _ _ (0, 0) HA2.out
  have q2 := cell_of_row w2 bM 2 _ _ (0, 0) HA2.out
  have q3 := cell_of_row w2 bM 3 _ _ (0, 0) HA2.out
  have q4 := cell_of_row w2 bM 4 _ _ (0, 0) HA2.out
  simp at q0 q1 q2 q3 q4
  go_wp2_with (at_builtin; refine wpList_appSN Tryz.elemEnt rfl (.const (.slice none 0 0)) (.tmp 22) rfl (World.ownsRow_nil w2 w2.heap.size _ 3) (Nat.le_refl _) (by rw [fl3_length, HN1.out]) (fl3_src (HM.out.s1.keep HB2.out)) HZ1.out (fl3_one _) (by omega) (by unfold maxLen; omega) rfl rfl ?_)
  intro b1 d1 v2 ho hg _
  have HO : Hid (v2.ownsRow w2.heap.size 63 3 (.slice b1 n1 d1) n1 (fl3 D.l1)) := Lib.hid (by simpa using ho)
  have HL : Hid (Below w2.heap.size w2 v2) := Lib.hid (below_grown hg (fun k e => by cases e) (Nat.le_refl _))
  have hsz : w2.heap.size ≤ v2.heap.size := HL.out.size
  clear ho hg
  go_wp2_with (at_builtin; refine wpList_appN Tryz.elemEnt rfl (.tmp 23) (.tmp 25) rfl HO.out hsz (by omega) (by omega) #[.int .i32 (-9), .int .i32 0, .int .u8 0] rfl (by intro u hu; simp at hu; rcases hu with rfl | rfl | rfl <;> rfl) _ rfl rfl ?_)
  intro e1 f1 w3 ho hg _
  obtain ⟨N1, hN1⟩ : ∃ N, N = n1 + 1 := ⟨_, rfl⟩
  rw [← hN1] at ho ⊢
  have HR : Hid (w3.ownsRow w2.heap.size 63 3 (.slice e1 N1 f1) N1 (fl3 D.l1 ++ [.int .i32 (-9), .int .i32 0, .int .u8 0])) := Lib.hid ho
  have HL1 : Hid (Below w2.heap.size w2 w3) := Lib.hid (HL.out.trans (below_grown hg (fun x e => (World.ownsRow.lt HO.out x e).1) hsz))
  obtain ⟨g1, eg, hg1, hg2⟩ := Any.at ⟨_, HR.out⟩ (by omega)
  subst eg
  have HG1 : Hid (w2.heap.size ≤ g1 ∧ g1 < w3.heap.size) := Lib.hid ⟨hg1, hg2⟩
  have HR1_3 := HR
  have HB3 := Lib.hid (HB2.out.trans (HL1.out.mono HB2.out.size))
  have HA3 := Lib.hid ((HL1.out.block bM (Array.getElem?_eq_some_iff.1 HA2.out).1).trans HA2.out)
  have HSz1 : Hid (w2.heap.size ≤ w3.heap.size) := Lib.hid HL1.out.size
  have hl1 : (n1 : Int) < (N1 : Int) := by omega
  have hf1 : N1 ≤ f1 := row_cap HR1_3.out
  have hd1 : n1 ≤ f1 := by omega
  clear ho hg hg1 hg2 HO HL HR hsz q0 q1 q2 q3 q4 HA2 HB2 HL1
  have q0 := cell_of_row w3 bM 0 _ _ (0, 0) HA3.out
  have q1 := cell_of_row w3 bM 1 _ _ (0, 0) HA3.out
  have q2 := cell_of_row w3 bM 2 _ _ (0, 0) HA3.out
  have q3 := cell_of_row w3 bM 3 _ _ (0, 0) HA3.out
  have q4 := cell_of_row w3 bM 4 _ _ (0, 0) HA3.out
  simp at q0 q1 q2 q3 q4
  go_wp2_with (at_builtin; refine wpList_appSN Tryz.elemBrk rfl (.const (.slice none 0 0)) (.tmp 28) rfl (World.ownsRow_nil w3 w3.heap.size _ 3) (Nat.le_refl _) (by rw [fl3_length, HN2.out]) (fl3_src (HM.out.s2.keep HB3.out)) HZ2.out (fl3_one _) (by omega) (by unfold maxLen; omega) rfl rfl ?_)
  intro b2 d2 v3 ho hg _
  have HO : Hid (v3.ownsRow w3.heap.size 66 3 (.slice b2 n2 d2) n2 (fl3 D.l2)) := Lib.hid (by simpa using ho)
  have HL : Hid (Below w3.heap.size w3 v3) := Lib.hid (below_grown hg (fun k e => by cases e) (Nat.le_refl _))
  have hsz : w3.heap.size ≤ v3.heap.size := HL.out.size
  clear ho hg
  go_wp2_with (at_builtin; refine wpList_appN Tryz.elemBrk rfl (.tmp 29) (.tmp 31) rfl HO.out hsz (by omega) (by omega) #[.int .i32 (-9), .int .i32 0, .int .u8 0] rfl (by intro u hu; simp at hu; rcases hu with rfl | rfl | rfl <;> rfl) _ rfl rfl ?_)
  intro e2 f2 w4 ho hg _
  obtain ⟨N2, hN2⟩ : ∃ N, N = n2 + 1 := ⟨_, rfl⟩
  rw [← hN2] at ho ⊢
  have HR : Hid (w4.ownsRow w3.heap.size 66 3 (.slice e2 N2 f2) N2 (fl3 D.l2 ++ [.int .i32 (-9), .int .i32 0, .int .u8 0])) := Lib.hid ho
  have HL2 : Hid (Below w3.heap.size w3 w4) := Lib.hid (HL.out.trans (below_grown hg (fun x e => (World.ownsRow.lt HO.out x e).1) hsz))
  obtain ⟨g2, eg, hg1, hg2⟩ := Any.at ⟨_, HR.out⟩ (by omega)
  subst eg
  have HG2 : Hid (w3.heap.size ≤ g2 ∧ g2 < w4.heap.size) := Lib.hid ⟨hg1, hg2⟩
  have HR2_4 := HR
  have HB4 := Lib.hid (HB3.out.trans (HL2.out.mono HB3.out.size))
  have HA4 := Lib.hid ((HL2.out.block bM (Array.getElem?_eq_some_iff.1 HA3.out).1).trans HA3.out)
  have HSz2 : Hid (w3.heap.size ≤ w4.heap.size) := Lib.hid HL2.out.size
  have HR1_4 := Lib.hid (row_keep HR1_3.out HL2.out (Nat.le_refl _))
  clear HR1_3
  have hl2 : (n2 : Int) < (N2 : Int) := by omega
  have hf2 : N2 ≤ f2 := row_cap HR2_4.out
  have hd2 : n2 ≤ f2 := by omega
  clear ho hg hg1 hg2 HO HL HR hsz q0 q1 q2 q3 q4 HA3 HB3 HL2
  have q0 := cell_of_row w4 bM 0 _ _ (0, 0) HA4.out
  have q1 := cell_of_row w4 bM 1 _ _ (0, 0) HA4.out
  have q2 := cell_of_row w4 bM 2 _ _ (0, 0) HA4.out
  have q3 := cell_of_row w4 bM 3 _ _ (0, 0) HA4.out
  have q4 := cell_of_row w4 bM 4 _ _ (0, 0) HA4.out
  simp at q0 q1 q2 q3 q4
  go_wp2_with (at_builtin; refine wpList_appSN Tryz.elemTwn rfl (.const (.slice none 0 0)) (.tmp 34) rfl (World.ownsRow_nil w4 w4.heap.size _ 2) (Nat.le_refl _) (by rw [fl2_length, HN3.out]) (fl2_src (HM.out.s3.keep HB4.out)) HZ3.out (fl2_one _) (by omega) (by unfold maxLen; omega) rfl rfl ?_)
  intro b3 d3 v4 ho hg _
  have HO : Hid (v4.ownsRow w4.heap.size 68 2 (.slice b3 n3 d3) n3 (fl2 D.l3)) := Lib.hid (by simpa using ho)
  have HL : Hid (Below w4.heap.size w4 v4) := Lib.hid (below_grown hg (fun k e => by cases e) (Nat.le_refl _))
  have hsz : w4.heap.size ≤ v4.heap.size := HL.out.size
  clear ho hg
  go_wp2_with (at_builtin; refine wpList_appN Tryz.elemTwn rfl (.tmp 35) (.tmp 37) rfl HO.out hsz (by omega) (by omega) #[.int .i32 (-9), .int .i32 0] rfl (by intro u hu; simp at hu; rcases hu with rfl | rfl <;> rfl) _ rfl rfl ?_)
  intro e3 f3 w5 ho hg _
  obtain ⟨N3, hN3⟩ : ∃ N, N = n3 + 1 := ⟨_, rfl⟩
  rw [← hN3] at ho ⊢
  have HR : Hid (w5.ownsRow w4.heap.size 68 2 (.slice e3 N3 f3) N3 (fl2 D.l3 ++ [.int .i32 (-9), .int .i32 0])) := Lib.hid ho
  have HL3 : Hid (Below w4.heap.size w4 w5) := Lib.hid (HL.out.trans (below_grown hg (fun x e => (World.ownsRow.lt HO.out x e).1) hsz))
  obtain ⟨g3, eg, hg1, hg2⟩ := Any.at ⟨_, HR.out⟩ (by omega)
  subst eg
  have HG3 : Hid (w4.heap.size ≤ g3 ∧ g3 < w5.heap.size) := Lib.hid ⟨hg1, hg2⟩
  have HR3_5 := HR
  have HB5 := Lib.hid (HB4.out.trans (HL3.out.mono HB4.out.size))
  have HA5 := Lib.hid ((HL3.out.block bM (Array.getElem?_eq_some_iff.1 HA4.out).1).trans HA4.out)
  have HSz3 : Hid (w4.heap.size ≤ w5.heap.size) := Lib.hid HL3.out.size
  have HR1_5 := Lib.hid (row_keep HR1_4.out HL3.out (Nat.le_refl _))
  clear HR1_4
  have HR2_5 := Lib.hid (row_keep HR2_4.out HL3.out (Nat.le_refl _))
  clear HR2_4
  have hl3 : (n3 : Int) < (N3 : Int) := by omega
  have hf3 : N3 ≤ f3 := row_cap HR3_5.out
  have hd3 : n3 ≤ f3 := by omega
  clear ho hg hg1 hg2 HO HL HR hsz q0 q1 q2 q3 q4 HA4 HB4 HL3
  have q0 := cell_of_row w5 bM 0 _ _ (0, 0) HA5.out
  have q1 := cell_of_row w5 bM 1 _ _ (0, 0) HA5.out
  have q2 := cell_of_row w5 bM 2 _ _ (0, 0) HA5.out
  have q3 := cell_of_row w5 bM 3 _ _ (0, 0) HA5.out
  have q4 := cell_of_row w5 bM 4 _ _ (0, 0) HA5.out
  simp at q0 q1 q2 q3 q4
  go_wp2_with (at_builtin; refine wpList_appSN Tryz.elemTwn rfl (.const (.slice none 0 0)) (.tmp 40) rfl (World.ownsRow_nil w5 w5.heap.size _ 2) (Nat.le_refl _) (by rw [fl2_length, HN4.out]) (fl2_src (HM.out.s4.keep HB5.out)) HZ4.out (fl2_one _) (by omega) (by unfold maxLen; omega) rfl rfl ?_)
  intro b4 d4 v5 ho hg _
  have HO : Hid (v5.ownsRow w5.heap.size 68 2 (.slice b4 n4 d4) n4 (fl2 D.l4)) := Lib.hid (by simpa using ho)
  have HL : Hid (Below w5.heap.size w5 v5) := Lib.hid (below_grown hg (fun k e => by cases e) (Nat.le_refl _))
  have hsz : w5.heap.size ≤ v5.heap.size := HL.out.size
  clear ho hg
  go_wp2_with (at_builtin; refine wpList_appN Tryz.elemTwn rfl (.tmp 41) (.tmp 43) rfl HO.out hsz (by omega) (by omega) #[.int .i32 (-9), .int .i32 0] rfl (by intro u hu; simp at hu; rcases hu with rfl | rfl <;> rfl) _ rfl rfl ?_)
  intro e4 f4 w6 ho hg _
  obtain ⟨N4, hN4⟩ : ∃ N, N = n4 + 1 := ⟨_, rfl⟩
  rw [← hN4] at ho ⊢
  have HR : Hid (w6.ownsRow w5.heap.size 68 2 (.slice e4 N4 f4) N4 (fl2 D.l4 ++ [.int .i32 (-9), .int .i32 0])) := Lib.hid ho
  have HL4 : Hid (Below w5.heap.size w5 w6) := Lib.hid (HL.out.trans (below_grown hg (fun x e => (World.ownsRow.lt HO.out x e).1) hsz))
  obtain ⟨g4, eg, hg1, hg2⟩ := Any.at ⟨_, HR.out⟩ (by omega)
  subst eg
  have HG4 : Hid (w5.heap.size ≤ g4 ∧ g4 < w6.heap.size) := Lib.hid ⟨hg1, hg2⟩
  have HR4_6 := HR
  have HB6 := Lib.hid (HB5.out.trans (HL4.out.mono HB5.out.size))
  have HA6 := Lib.hid ((HL4.out.block bM (Array.getElem?_eq_some_iff.1 HA5.out).1).trans HA5.out)
  have HSz4 : Hid (w5.heap.size ≤ w6.heap.size) := Lib.hid HL4.out.size
  have HR1_6 := Lib.hid (row_keep HR1_5.out HL4.out (Nat.le_refl _))
  clear HR1_5
  have HR2_6 := Lib.hid (row_keep HR2_5.out HL4.out (Nat.le_refl _))
  clear HR2_5
  have HR3_6 := Lib.hid (row_keep HR3_5.out HL4.out (Nat.le_refl _))
  clear HR3_5
  have hl4 : (n4 : Int) < (N4 : Int) := by omega
  have hf4 : N4 ≤ f4 := row_cap HR4_6.out
  have hd4 : n4 ≤ f4 := by omega
  clear ho hg hg1 hg2 HO HL HR hsz q0 q1 q2 q3 q4 HA5 HB5 HL4
  go_upto_region 7 with (fail)
  go_cut [9, 10, 11] from 45 to 71 (fun v9 v10 v11 y1 => ∃ x r u, v9 = x ∧ v10 = .int .i32 r ∧ v11 = .int .i64 u ∧ HandQ w6.drew rest D.l1 D.l2 D.l3 D.l4 (.returned (.tuple #[x, .int .i32 r, .int .i64 u])) y1)
  case first =>
   refine (wpIn_wide (n := 2)).1 ?_
   refine wpIn_region_calm [] (fun w' : World => w'.heap[bM]? = some (.cells #[.int .u8 rest, .slice a1 n1 c1, .slice a2 n2 c2, .slice a3 n3 c3, .slice a4 n4 c4] 27 (0, 0))) (by kernel_rfl) ?_
   have HC7 := HA6
   refine' anyD_take (i := 0) (v := .pointer (some ⟨bM, 0, none⟩)) [] (by kernel_rfl) rfl (by rfl) (by kernel_rfl) (fun _ _ _ h => h) (by rfl) ?h0 HC7.out ?k0
   case h0 =>
    intro w' c0
    go_simp
    try with_reducible rfl
   simp only [List.getElem_toArray, List.getElem_cons_zero, List.getElem_cons_succ, Act.put, List.setIfInBounds_toArray, List.set_cons_zero, List.set_cons_succ]
   refine' anyD_take (i := 1) (v := .int .u8 rest) [] (by kernel_rfl) rfl (by rfl) (by kernel_rfl) (fun _ _ _ h => h) (by rfl) ?h1 HC7.out ?k1
   case h1 =>
    intro w' c0
    have q0 := cell_of_row w' bM 0 _ _ (0, 0) c0
    simp only [List.getElem?_toArray, List.getElem?_cons_zero, List.getElem?_cons_succ] at q0
    go_simp
    try with_reducible rfl
   simp only [List.getElem_toArray, List.getElem_cons_zero, List.getElem_cons_succ, Act.put, List.setIfInBounds_toArray, List.set_cons_zero, List.set_cons_succ]
   refine' anyD_take (i := 2) (v := .slice (some ⟨g1, 0, none⟩) N1 f1) [] (by kernel_rfl) rfl (by rfl) (by kernel_rfl) (fun _ _ _ h => h) (by rfl) ?h2 HC7.out ?k2
   case h2 =>
    intro w' c0
    go_simp
    try with_reducible rfl
   simp only [List.getElem_toArray, List.getElem_cons_zero, List.getElem_cons_succ, Act.put, List.setIfInBounds_toArray, List.set_cons_zero, List.set_cons_succ]
   refine' anyD_take (i := 3) (v := .pointer (some ⟨bM, 1, none⟩)) [] (by kernel_rfl) rfl (by rfl) (by kernel_rfl) (fun _ _ _ h => h) (by rfl) ?h3 HC7.out ?k3
   case h3 =>
    intro w' c0
    go_simp
    try with_reducible rfl
   simp only [List.getElem_toArray, List.getElem_cons_zero, List.getElem_cons_succ, Act.put, List.setIfInBounds_toArray, List.set_cons_zero, List.set_cons_succ]
   refine' anyD_take (i := 4) (v := .slice a1 n1 c1) [] (by kernel_rfl) rfl (by rfl) (by kernel_rfl) (fun _ _ _ h => h) (by rfl) ?h4 HC7.out ?k4
   case h4 =>
    intro w' c0
    have q0 := cell_of_row w' bM 1 _ _ (0, 0) c0
    simp only [List.getElem?_toArray, List.getElem?_cons_zero, List.getElem?_cons_succ] at q0
    go_simp
    try with_reducible rfl
   simp only [List.getElem_toArray, List.getElem_cons_zero, List.getElem_cons_succ, Act.put, List.setIfInBounds_toArray, List.set_cons_zero, List.set_cons_succ]
   refine' anyD_take (i := 5) (v := .int .i64 (n1 : Nat)) [] (by kernel_rfl) rfl (by rfl) (by kernel_rfl) (fun _ _ _ h => h) (by rfl) ?h5 HC7.out ?k5
   case h5 =>
    intro w' c0
    go_simp
    try with_reducible rfl
   simp only [List.getElem_toArray, List.getElem_cons_zero, List.getElem_cons_succ, Act.put, List.setIfInBounds_toArray, List.set_cons_zero, List.set_cons_succ]
   refine' anyD_take (i := 6) (v := .slice (some ⟨g1, 0, none⟩) n1 f1) [] (by kernel_rfl) rfl (by rfl) (by kernel_rfl) (fun _ _ _ h => h) (by rfl) ?h6 HC7.out ?k6
   case h6 =>
    intro w' c0
    go_simp
    try with_reducible rfl
   simp only [List.getElem_toArray, List.getElem_cons_zero, List.getElem_cons_succ, Act.put, List.setIfInBounds_toArray, List.set_cons_zero, List.set_cons_succ]
   refine' anyD_take (i := 7) (v := .slice (some ⟨g2, 0, none⟩) N2 f2) [] (by kernel_rfl) rfl (by rfl) (by kernel_rfl) (fun _ _ _ h => h) (by rfl) ?h7 HC7.out ?k7
   case h7 =>
    intro w' c0
    go_simp
    try with_reducible rfl
   simp only [List.getElem_toArray, List.getElem_cons_zero, List.getElem_cons_succ, Act.put, List.setIfInBounds_toArray, List.set_cons_zero, List.set_cons_succ]
   refine' anyD_take (i := 8) (v := .pointer (some ⟨bM, 2, none⟩)) [] (by kernel_rfl) rfl (by rfl) (by kernel_rfl) (fun _ _ _ h => h) (by rfl) ?h8 HC7.out ?k8
   case h8 =>
    intro w' c0
    go_simp
    try with_reducible rfl
   simp only [List.getElem_toArray, List.getElem_cons_zero, List.getElem_cons_succ, Act.put, List.setIfInBounds_toArray, List.set_cons_zero, List.set_cons_succ]
   refine' anyD_take (i := 9) (v := .slice a2 n2 c2) [] (by kernel_rfl) rfl (by rfl) (by kernel_rfl) (fun _ _ _ h => h) (by rfl) ?h9 HC7.out ?k9
   case h9 =>
    intro w' c0
    have q0 := cell_of_row w' bM 2 _ _ (0, 0) c0
    simp only [List.getElem?_toArray, List.getElem?_cons_zero, List.getElem?_cons_succ] at q0
    go_simp
    try with_reducible rfl
   simp only [List.getElem_toArray, List.getElem_cons_zero, List.getElem_cons_succ, Act.put, List.setIfInBounds_toArray, List.set_cons_zero, List.set_cons_succ]
   refine' anyD_take (i := 10) (v := .int .i64 (n2 : Nat)) [] (by kernel_rfl) rfl (by rfl) (by kernel_rfl) (fun _ _ _ h => h) (by rfl) ?h10 HC7.out ?k10
   case h10 =>
    intro w' c0
    go_simp
    try with_reducible rfl
   simp only [List.getElem_toArray, List.getElem_cons_zero, List.getElem_cons_succ, Act.put, List.setIfInBounds_toArray, List.set_cons_zero, List.set_cons_succ]
   refine' anyD_take (i := 11) (v := .slice (some ⟨g2, 0, none⟩) n2 f2) [] (by kernel_rfl) rfl (by rfl) (by kernel_rfl) (fun _ _ _ h => h) (by rfl) ?h11 HC7.out ?k11
   case h11 =>
    intro w' c0
    go_simp
    try with_reducible rfl
   simp only [List.getElem_toArray, List.getElem_cons_zero, List.getElem_cons_succ, Act.put, List.setIfInBounds_toArray, List.set_cons_zero, List.set_cons_succ]
   refine' anyD_take (i := 12) (v := .slice (some ⟨g3, 0, none⟩) N3 f3) [] (by kernel_rfl) rfl (by rfl) (by kernel_rfl) (fun _ _ _ h => h) (by rfl) ?h12 HC7.out ?k12
   case h12 =>
    intro w' c0
    go_simp
    try with_reducible rfl
   simp only [List.getElem_toArray, List.getElem_cons_zero, List.getElem_cons_succ, Act.put, List.setIfInBounds_toArray, List.set_cons_zero, List.set_cons_succ]
   refine' anyD_take (i := 13) (v := .pointer (some ⟨bM, 3, none⟩)) [] (by kernel_rfl) rfl (by rfl) (by kernel_rfl) (fun _ _ _ h => h) (by rfl) ?h13 HC7.out ?k13
   case h13 =>
    intro w' c0
    go_simp
    try with_reducible rfl
   simp only [List.getElem_toArray, List.getElem_cons_zero, List.getElem_cons_succ, Act.put, List.setIfInBounds_toArray, List.set_cons_zero, List.set_cons_succ]
   refine' anyD_take (i := 14) (v := .slice a3 n3 c3) [] (by kernel_rfl) rfl (by rfl) (by kernel_rfl) (fun _ _ _ h => h) (by rfl) ?h14 HC7.out ?k14
   case h14 =>
    intro w' c0
    have q0 := cell_of_row w' bM 3 _ _ (0, 0) c0
    simp only [List.getElem?_toArray, List.getElem?_cons_zero, List.getElem?_cons_succ] at q0
    go_simp
    try with_reducible rfl
   simp only [List.getElem_toArray, List.getElem_cons_zero, List.getElem_cons_succ, Act.put, List.setIfInBounds_toArray, List.set_cons_zero, List.set_cons_succ]
   refine' anyD_take (i := 15) (v := .int .i64 (n3 : Nat)) [] (by kernel_rfl) rfl (by rfl) (by kernel_rfl) (fun _ _ _ h => h) (by rfl) ?h15 HC7.out ?k15
   case h15 =>
    intro w' c0
    go_simp
    try with_reducible rfl
   simp only [List.getElem_toArray, List.getElem_cons_zero, List.getElem_cons_succ, Act.put, List.setIfInBounds_toArray, List.set_cons_zero, List.set_cons_succ]
   refine' anyD_take (i := 16) (v := .slice (some ⟨g3, 0, none⟩) n3 f3) [] (by kernel_rfl) rfl (by rfl) (by kernel_rfl) (fun _ _ _ h => h) (by rfl) ?h16 HC7.out ?k16
   case h16 =>
    intro w' c0
    go_simp
    try with_reducible rfl
   simp only [List.getElem_toArray, List.getElem_cons_zero, List.getElem_cons_succ, Act.put, List.setIfInBounds_toArray, List.set_cons_zero, List.set_cons_succ]
   refine' anyD_take (i := 17) (v := .slice (some ⟨g4, 0, none⟩) N4 f4) [] (by kernel_rfl) rfl (by rfl) (by kernel_rfl) (fun _ _ _ h => h) (by rfl) ?h17 HC7.out ?k17
   case h17 =>
    intro w' c0
    go_simp
    try with_reducible rfl
   simp only [List.getElem_toArray, List.getElem_cons_zero, List.getElem_cons_succ, Act.put, List.setIfInBounds_toArray, List.set_cons_zero, List.set_cons_succ]
   refine' anyD_take (i := 18) (v := .pointer (some ⟨bM, 4, none⟩)) [] (by kernel_rfl) rfl (by rfl) (by kernel_rfl) (fun _ _ _ h => h) (by rfl) ?h18 HC7.out ?k18
   case h18 =>
    intro w' c0
    go_simp
    try with_reducible rfl
   simp only [List.getElem_toArray, List.getElem_cons_zero, List.getElem_cons_succ, Act.put, List.setIfInBounds_toArray, List.set_cons_zero, List.set_cons_succ]
   refine' anyD_take (i := 19) (v := .slice a4 n4 c4) [] (by kernel_rfl) rfl (by rfl) (by kernel_rfl) (fun _ _ _ h => h) (by rfl) ?h19 HC7.out ?k19
   case h19 =>
    intro w' c0
    have q0 := cell_of_row w' bM 4 _ _ (0, 0) c0
    simp only [List.getElem?_toArray, List.getElem?_cons_zero, List.getElem?_cons_succ] at q0
    go_simp
    try with_reducible rfl
   simp only [List.getElem_toArray, List.getElem_cons_zero, List.getElem_cons_succ, Act.put, List.setIfInBounds_toArray, List.set_cons_zero, List.set_cons_succ]
   refine' anyD_take (i := 20) (v := .int .i64 (n4 : Nat)) [] (by kernel_rfl) rfl (by rfl) (by kernel_rfl) (fun _ _ _ h => h) (by rfl) ?h20 HC7.out ?k20
   case h20 =>
    intro w' c0
    go_simp
    try with_reducible rfl
   simp only [List.getElem_toArray, List.getElem_cons_zero, List.getElem_cons_succ, Act.put, List.setIfInBounds_toArray, List.set_cons_zero, List.set_cons_succ]
   refine' anyD_take (i := 21) (v := .slice (some ⟨g4, 0, none⟩) n4 f4) [] (by kernel_rfl) rfl (by rfl) (by kernel_rfl) (fun _ _ _ h => h) (by rfl) ?h21 HC7.out ?k21
   case h21 =>
    intro w' c0
    go_simp
    try with_reducible rfl
   simp only [List.getElem_toArray, List.getElem_cons_zero, List.getElem_cons_succ, Act.put, List.setIfInBounds_toArray, List.set_cons_zero, List.set_cons_succ]
   have hd : Below w6.heap.size w6 w6.drew := (Below.refl _ w6).drew
   have HA7 := Lib.hid ((hd.block bM (Array.getElem?_eq_some_iff.1 HA6.out).1).trans HA6.out)
   refine anyC_r1 (i := 22) (by kernel_rfl) ?_
   refine stepCall (i := 22) rfl (by rfl) (by rfl) (fun _ _ => trivial) (exec_call5 15 (.tmp 47) (.tmp 52) (.tmp 57) (.tmp 62) (.tmp 67) _ rfl (.int .u8 rest) (.slice (some ⟨g1, 0, none⟩) n1 f1) (.slice (some ⟨g2, 0, none⟩) n2 f2) (.slice (some ⟨g3, 0, none⟩) n3 f3) (.slice (some ⟨g4, 0, none⟩) n4 f4) rfl rfl rfl rfl rfl (enters_of Tryz.func15 (by kernel_rfl) rfl)) (fun h => by cases h) ?_
   refine callsIn_wide.2 ?_
   refine (hand_walk rest (some ⟨g1, 0, none⟩) n1 f1 D.l1 (some ⟨g2, 0, none⟩) n2 f2 D.l2 (some ⟨g3, 0, none⟩) n3 f3 D.l3 (some ⟨g4, 0, none⟩) n4 f4 D.l4 w6.drew HN1.out (by omega) ((row3_at HR1_6.out).keep hd) HN2.out (by omega) ((row3_at HR2_6.out).keep hd) HN3.out (by omega) ((row2_at HR3_6.out).keep hd) HN4.out (by omega) ((row2_at HR4_6.out).keep hd)).mono ?_
   intro e y1 hq
   obtain ⟨x, r, u, rfl⟩ := hq.shape
   have HQ := Lib.hid hq
   have HAy := Lib.hid ((hq.1.block bM (Array.getElem?_eq_some_iff.1 HA7.out).1).trans HA7.out)
   clear hq hd HA7 HC7
   refine ⟨_, rfl, fun _ => HAy.out, ?_⟩
   simp only [List.getElem_toArray, List.getElem_cons_zero, List.getElem_cons_succ, Act.put, List.setIfInBounds_toArray, List.set_cons_zero, List.set_cons_succ]
   refine' anyD_take (i := 23) (v := .tuple #[x, .int .i32 r, .int .i64 u]) [] (by kernel_rfl) rfl (by rfl) (by kernel_rfl) (fun _ _ _ h => h) (by rfl) ?h23 HAy.out ?k23
   case h23 =>
    intro w' c0
    go_simp
    try with_reducible rfl
   simp only [List.getElem_toArray, List.getElem_cons_zero, List.getElem_cons_succ, Act.put, List.setIfInBounds_toArray, List.set_cons_zero, List.set_cons_succ]
   refine anyC_r3 (i := 24) (i' := 25) (i'' := 26) (by kernel_rfl) ?_ ?_ ?_
   ·refine stepV (i := 24) (v := x) (w' := y1) rfl (by rfl) (fun _ _ => trivial) (by rfl) (by go_simp; try with_reducible rfl) (fun _ => HAy.out) ?_
    simp only [List.getElem_toArray, List.getElem_cons_zero, List.getElem_cons_succ, Act.put, List.setIfInBounds_toArray, List.set_cons_zero, List.set_cons_succ]
    refine' anyD_take (i := 27) (v := x) [] (by kernel_rfl) rfl (by rfl) (by kernel_rfl) (fun _ _ _ h => h) (by rfl) ?h27p24 HAy.out ?k27p24
    case h27p24 =>
     intro w' c0
     go_simp
     try with_reducible rfl
    simp only [List.getElem_toArray, List.getElem_cons_zero, List.getElem_cons_succ, Act.put, List.setIfInBounds_toArray, List.set_cons_zero, List.set_cons_succ]
    refine anyC_r2 (i := 25) (i' := 26) (by kernel_rfl) ?_ ?_
    ·refine stepV (i := 25) (v := .int .i32 r) (w' := y1) rfl (by rfl) (fun _ _ => trivial) (by rfl) (by go_simp; try with_reducible rfl) (fun _ => HAy.out) ?_
     simp only [List.getElem_toArray, List.getElem_cons_zero, List.getElem_cons_succ, Act.put, List.setIfInBounds_toArray, List.set_cons_zero, List.set_cons_succ]
     refine' anyD_take (i := 28) (v := .int .i32 r) [] (by kernel_rfl) rfl (by rfl) (by kernel_rfl) (fun _ _ _ h => h) (by rfl) ?h28p2425 HAy.out ?k28p2425
     case h28p2425 =>
      intro w' c0
      go_simp
      try with_reducible rfl
     simp only [List.getElem_toArray, List.getElem_cons_zero, List.getElem_cons_succ, Act.put, List.setIfInBounds_toArray, List.set_cons_zero, List.set_cons_succ]
     refine anyC_r1 (i := 26) (by kernel_rfl) ?_
     refine stepV (i := 26) (v := .int .i64 u) (w' := y1) rfl (by rfl) (fun _ _ => trivial) (by rfl) (by go_simp; try with_reducible rfl) (fun _ => HAy.out) ?_
     simp only [List.getElem_toArray, List.getElem_cons_zero, List.getElem_cons_succ, Act.put, List.setIfInBounds_toArray, List.set_cons_zero, List.set_cons_succ]
     refine' anyD_take (i := 29) (v := .int .i64 u) [] (by kernel_rfl) rfl (by rfl) (by kernel_rfl) (fun _ _ _ h => h) (by rfl) ?h29p242526 HAy.out ?k29p242526
     case h29p242526 =>
      intro w' c0
      go_simp
      try with_reducible rfl
     simp only [List.getElem_toArray, List.getElem_cons_zero, List.getElem_cons_succ, Act.put, List.setIfInBounds_toArray, List.set_cons_zero, List.set_cons_succ]
     refine ⟨by kernel_rfl, ?_⟩
     go_wp2
     go_meet
     case rel => exact ⟨x, r, u, rfl, rfl, rfl, HQ.out⟩
    ·refine stepV (i := 26) (v := .int .i64 u) (w' := y1) rfl (by rfl) (fun _ _ => trivial) (by rfl) (by go_simp; try with_reducible rfl) (fun _ => HAy.out) ?_
     simp only [List.getElem_toArray, List.getElem_cons_zero, List.getElem_cons_succ, Act.put, List.setIfInBounds_toArray, List.set_cons_zero, List.set_cons_succ]
     refine anyC_r1 (i := 25) (by kernel_rfl) ?_
     refine stepV (i := 25) (v := .int .i32 r) (w' := y1) rfl (by rfl) (fun _ _ => trivial) (by rfl) (by go_simp; try with_reducible rfl) (fun _ => HAy.out) ?_
     simp only [List.getElem_toArray, List.getElem_cons_zero, List.getElem_cons_succ, Act.put, List.setIfInBounds_toArray, List.set_cons_zero, List.set_cons_succ]
     refine' anyD_take (i := 28) (v := .int .i32 r) [] (by kernel_rfl) rfl (by rfl) (by kernel_rfl) (fun _ _ _ h => h) (by rfl) ?h28p242625 HAy.out ?k28p242625
     case h28p242625 =>
      intro w' c0
      go_simp
      try with_reducible rfl
     simp only [List.getElem_toArray, List.getElem_cons_zero, List.getElem_cons_succ, Act.put, List.setIfInBounds_toArray, List.set_cons_zero, List.set_cons_succ]
     refine' anyD_take (i := 29) (v := .int .i64 u) [] (by kernel_rfl) rfl (by rfl) (by kernel_rfl) (fun _ _ _ h => h) (by rfl) ?h29p242625 HAy.out ?k29p242625
     case h29p242625 =>
      intro w' c0
      go_simp
      try with_reducible rfl
     simp only [List.getElem_toArray, List.getElem_cons_zero, List.getElem_cons_succ, Act.put, List.setIfInBounds_toArray, List.set_cons_zero, List.set_cons_succ]
     refine ⟨by kernel_rfl, ?_⟩
     go_wp2
     go_meet
     case rel => exact ⟨x, r, u, rfl, rfl, rfl, HQ.out⟩
   ·refine stepV (i := 25) (v := .int .i32 r) (w' := y1) rfl (by rfl) (fun _ _ => trivial) (by rfl) (by go_simp; try with_reducible rfl) (fun _ => HAy.out) ?_
    simp only [List.getElem_toArray, List.getElem_cons_zero, List.getElem_cons_succ, Act.put, List.setIfInBounds_toArray, List.set_cons_zero, List.set_cons_succ]
    refine anyC_r2 (i := 24) (i' := 26) (by kernel_rfl) ?_ ?_
    ·refine stepV (i := 24) (v := x) (w' := y1) rfl (by rfl) (fun _ _ => trivial) (by rfl) (by go_simp; try with_reducible rfl) (fun _ => HAy.out) ?_
     simp only [List.getElem_toArray, List.getElem_cons_zero, List.getElem_cons_succ, Act.put, List.setIfInBounds_toArray, List.set_cons_zero, List.set_cons_succ]
     refine' anyD_take (i := 27) (v := x) [] (by kernel_rfl) rfl (by rfl) (by kernel_rfl) (fun _ _ _ h => h) (by rfl) ?h27p2524 HAy.out ?k27p2524
     case h27p2524 =>
      intro w' c0
      go_simp
      try with_reducible rfl
     simp only [List.getElem_toArray, List.getElem_cons_zero, List.getElem_cons_succ, Act.put, List.setIfInBounds_toArray, List.set_cons_zero, List.set_cons_succ]
     refine' anyD_take (i := 28) (v := .int .i32 r) [] (by kernel_rfl) rfl (by rfl) (by kernel_rfl) (fun _ _ _ h => h) (by rfl) ?h28p2524 HAy.out ?k28p2524
     case h28p2524 =>
      intro w' c0
      go_simp
      try with_reducible rfl
     simp only [List.getElem_toArray, List.getElem_cons_zero, List.getElem_cons_succ, Act.put, List.setIfInBounds_toArray, List.set_cons_zero, List.set_cons_succ]
     refine anyC_r1 (i := 26) (by kernel_rfl) ?_
     refine stepV (i := 26) (v := .int .i64 u) (w' := y1) rfl (by rfl) (fun _ _ => trivial) (by rfl) (by go_simp; try with_reducible rfl) (fun _ => HAy.out) ?_
     simp only [List.getElem_toArray, List.getElem_cons_zero, List.getElem_cons_succ, Act.put, List.setIfInBounds_toArray, List.set_cons_zero, List.set_cons_succ]
     refine' anyD_take (i := 29) (v := .int .i64 u) [] (by kernel_rfl) rfl (by rfl) (by kernel_rfl) (fun _ _ _ h => h) (by rfl) ?h29p252426 HAy.out ?k29p252426
     case h29p252426 =>
      intro w' c0
      go_simp
      try with_reducible rfl
     simp only [List.getElem_toArray, List.getElem_cons_zero, List.getElem_cons_succ, Act.put, List.setIfInBounds_toArray, List.set_cons_zero, List.set_cons_succ]
     refine ⟨by kernel_rfl, ?_⟩
     go_wp2
     go_meet
     case rel => exact ⟨x, r, u, rfl, rfl, rfl, HQ.out⟩
    ·refine stepV (i := 26) (v := .int .i64 u) (w' := y1) rfl (by rfl) (fun _ _ => trivial) (by rfl) (by go_simp; try with_reducible rfl) (fun _ => HAy.out) ?_
     simp only [List.getElem_toArray, List.getElem_cons_zero, List.getElem_cons_succ, Act.put, List.setIfInBounds_toArray, List.set_cons_zero, List.set_cons_succ]
     refine anyC_r1 (i := 24) (by kernel_rfl) ?_
     refine stepV (i := 24) (v := x) (w' := y1) rfl (by rfl) (fun _ _ => trivial) (by rfl) (by go_simp; try with_reducible rfl) (fun _ => HAy.out) ?_
     simp only [List.getElem_toArray, List.getElem_cons_zero, List.getElem_cons_succ, Act.put, List.setIfInBounds_toArray, List.set_cons_zero, List.set_cons_succ]
     refine' anyD_take (i := 27) (v := x) [] (by kernel_rfl) rfl (by rfl) (by kernel_rfl) (fun _ _ _ h => h) (by rfl) ?h27p252624 HAy.out ?k27p252624
     case h27p252624 =>
      intro w' c0
      go_simp
      try with_reducible rfl
     simp only [List.getElem_toArray, List.getElem_cons_zero, List.getElem_cons_succ, Act.put, List.setIfInBounds_toArray, List.set_cons_zero, List.set_cons_succ]
     refine' anyD_take (i := 28) (v := .int .i32 r) [] (by kernel_rfl) rfl (by rfl) (by kernel_rfl) (fun _ _ _ h => h) (by rfl) ?h28p252624 HAy.out ?k28p252624
     case h28p252624 =>
      intro w' c0
      go_simp
      try with_reducible rfl
     simp only [List.getElem_toArray, List.getElem_cons_zero, List.getElem_cons_succ, Act.put, List.setIfInBounds_toArray, List.set_cons_zero, List.set_cons_succ]
     refine' anyD_take (i := 29) (v := .int .i64 u) [] (by kernel_rfl) rfl (by rfl) (by kernel_rfl) (fun _ _ _ h => h) (by rfl) ?h29p252624 HAy.out ?k29p252624
     case h29p252624 =>
      intro w' c0
      go_simp
      try with_reducible rfl
     simp only [List.getElem_toArray, List.getElem_cons_zero, List.getElem_cons_succ, Act.put, List.setIfInBounds_toArray, List.set_cons_zero, List.set_cons_succ]
     refine ⟨by kernel_rfl, ?_⟩
     go_wp2
     go_meet
     case rel => exact ⟨x, r, u, rfl, rfl, rfl, HQ.out⟩
   ·refine stepV (i := 26) (v := .int .i64 u) (w' := y1) rfl (by rfl) (fun _ _ => trivial) (by rfl) (by go_simp; try with_reducible rfl) (fun _ => HAy.out) ?_
    simp only [List.getElem_toArray, List.getElem_cons_zero, List.getElem_cons_succ, Act.put, List.setIfInBounds_toArray, List.set_cons_zero, List.set_cons_succ]
    refine anyC_r2 (i := 24) (i' := 25) (by kernel_rfl) ?_ ?_
    ·refine stepV (i := 24) (v := x) (w' := y1) rfl (by rfl) (fun _ _ => trivial) (by rfl) (by go_simp; try with_reducible rfl) (fun _ => HAy.out) ?_
     simp only [List.getElem_toArray, List.getElem_cons_zero, List.getElem_cons_succ, Act.put, List.setIfInBounds_toArray, List.set_cons_zero, List.set_cons_succ]
     refine' anyD_take (i := 27) (v := x) [] (by kernel_rfl) rfl (by rfl) (by kernel_rfl) (fun _ _ _ h => h) (by rfl) ?h27p2624 HAy.out ?k27p2624
     case h27p2624 =>
      intro w' c0
      go_simp
      try with_reducible rfl
     simp only [List.getElem_toArray, List.getElem_cons_zero, List.getElem_cons_succ, Act.put, List.setIfInBounds_toArray, List.set_cons_zero, List.set_cons_succ]
     refine anyC_r1 (i := 25) (by kernel_rfl) ?_
     refine stepV (i := 25) (v := .int .i32 r) (w' := y1) rfl (by rfl) (fun _ _ => trivial) (by rfl) (by go_simp; try with_reducible rfl) (fun _ => HAy.out) ?_
     simp only [List.getElem_toArray, List.getElem_cons_zero, List.getElem_cons_succ, Act.put, List.setIfInBounds_toArray, List.set_cons_zero, List.set_cons_succ]
     refine' anyD_take (i := 28) (v := .int .i32 r) [] (by kernel_rfl) rfl (by rfl) (by kernel_rfl) (fun _ _ _ h => h) (by rfl) ?h28p262425 HAy.out ?k28p262425
     case h28p262425 =>
      intro w' c0
      go_simp
      try with_reducible rfl
     simp only [List.getElem_toArray, List.getElem_cons_zero, List.getElem_cons_succ, Act.put, List.setIfInBounds_toArray, List.set_cons_zero, List.set_cons_succ]
     refine' anyD_take (i := 29) (v := .int .i64 u) [] (by kernel_rfl) rfl (by rfl) (by kernel_rfl) (fun _ _ _ h => h) (by rfl) ?h29p262425 HAy.out ?k29p262425
     case h29p262425 =>
      intro w' c0
      go_simp
      try with_reducible rfl
     simp only [List.getElem_toArray, List.getElem_cons_zero, List.getElem_cons_succ, Act.put, List.setIfInBounds_toArray, List.set_cons_zero, List.set_cons_succ]
     refine ⟨by kernel_rfl, ?_⟩
     go_wp2
     go_meet
     case rel => exact ⟨x, r, u, rfl, rfl, rfl, HQ.out⟩
    ·refine stepV (i := 25) (v := .int .i32 r) (w' := y1) rfl (by rfl) (fun _ _ => trivial) (by rfl) (by go_simp; try with_reducible rfl) (fun _ => HAy.out) ?_
     simp only [List.getElem_toArray, List.getElem_cons_zero, List.getElem_cons_succ, Act.put, List.setIfInBounds_toArray, List.set_cons_zero, List.set_cons_succ]
     refine anyC_r1 (i := 24) (by kernel_rfl) ?_
     refine stepV (i := 24) (v := x) (w' := y1) rfl (by rfl) (fun _ _ => trivial) (by rfl) (by go_simp; try with_reducible rfl) (fun _ => HAy.out) ?_
     simp only [List.getElem_toArray, List.getElem_cons_zero, List.getElem_cons_succ, Act.put, List.setIfInBounds_toArray, List.set_cons_zero, List.set_cons_succ]
     refine' anyD_take (i := 27) (v := x) [] (by kernel_rfl) rfl (by rfl) (by kernel_rfl) (fun _ _ _ h => h) (by rfl) ?h27p262524 HAy.out ?k27p262524
     case h27p262524 =>
      intro w' c0
      go_simp
      try with_reducible rfl
     simp only [List.getElem_toArray, List.getElem_cons_zero, List.getElem_cons_succ, Act.put, List.setIfInBounds_toArray, List.set_cons_zero, List.set_cons_succ]
     refine' anyD_take (i := 28) (v := .int .i32 r) [] (by kernel_rfl) rfl (by rfl) (by kernel_rfl) (fun _ _ _ h => h) (by rfl) ?h28p262524 HAy.out ?k28p262524
     case h28p262524 =>
      intro w' c0
      go_simp
      try with_reducible rfl
     simp only [List.getElem_toArray, List.getElem_cons_zero, List.getElem_cons_succ, Act.put, List.setIfInBounds_toArray, List.set_cons_zero, List.set_cons_succ]
     refine' anyD_take (i := 29) (v := .int .i64 u) [] (by kernel_rfl) rfl (by rfl) (by kernel_rfl) (fun _ _ _ h => h) (by rfl) ?h29p262524 HAy.out ?k29p262524
     case h29p262524 =>
      intro w' c0
      go_simp
      try with_reducible rfl
     simp only [List.getElem_toArray, List.getElem_cons_zero, List.getElem_cons_succ, Act.put, List.setIfInBounds_toArray, List.set_cons_zero, List.set_cons_succ]
     refine ⟨by kernel_rfl, ?_⟩
     go_wp2
     go_meet
     case rel => exact ⟨x, r, u, rfl, rfl, rfl, HQ.out⟩
  case rest =>
  obtain ⟨x, r, u, rfl, rfl, rfl, hq⟩ := hcut
  have hd : Below w6.heap.size w6 w6.drew := (Below.refl _ w6).drew
  have HA7 := Lib.hid ((hd.block bM (Array.getElem?_eq_some_iff.1 HA6.out).1).trans HA6.out)
  have HB7 := Lib.hid (HB6.out.trans (hd.mono HB6.out.size))
  have HR1_7 := Lib.hid (row_keep HR1_6.out hd (Nat.le_refl _))
  have HR2_7 := Lib.hid (row_keep HR2_6.out hd (Nat.le_refl _))
  have HR3_7 := Lib.hid (row_keep HR3_6.out hd (Nat.le_refl _))
  have HR4_7 := Lib.hid (row_keep HR4_6.out hd (Nat.le_refl _))
  have hz7 : w6.drew.heap.size = w6.heap.size := rfl
  have HG4' : Hid (w5.heap.size ≤ g4 ∧ g4 < w6.drew.heap.size) := Lib.hid (by rw [hz7]; exact HG4.out)
  have HSz4' : Hid (w5.heap.size ≤ w6.drew.heap.size) := Lib.hid (by rw [hz7]; exact HSz4.out)
  clear HA6 HB6 HR1_6 HR2_6 HR3_6 HR4_6 HG4 HSz4 hd hz7
  generalize w6.drew = w7 at *
  have HQ := Lib.hid hq
  have HAy := Lib.hid ((hq.1.block bM (Array.getElem?_eq_some_iff.1 HA7.out).1).trans HA7.out)
  have HBy := Lib.hid (HB7.out.trans (hq.1.mono HB7.out.size))
  have HR1_8 := Lib.hid (row_keep HR1_7.out hq.1 (Nat.le_refl _))
  have HR2_8 := Lib.hid (row_keep HR2_7.out hq.1 (Nat.le_refl _))
  have HR3_8 := Lib.hid (row_keep HR3_7.out hq.1 (Nat.le_refl _))
  have HR4_8 := Lib.hid (row_keep HR4_7.out hq.1 (Nat.le_refl _))
  clear hq HA7 HB7 HR1_7 HR2_7 HR3_7 HR4_7
  obtain ⟨y1, rfl⟩ : ∃ y1, y1 = wc := ⟨_, rfl⟩
  have q0 := cell_of_row y1 bM 0 _ _ (0, 0) HAy.out
  have q1 := cell_of_row y1 bM 1 _ _ (0, 0) HAy.out
  have q2 := cell_of_row y1 bM 2 _ _ (0, 0) HAy.out
  have q3 := cell_of_row y1 bM 3 _ _ (0, 0) HAy.out
  have q4 := cell_of_row y1 bM 4 _ _ (0, 0) HAy.out
  simp at q0 q1 q2 q3 q4
  have HD : Hid (Calls Tryz.prog 16 #[.pointer (some ⟨bM, 0, none⟩)] y1 fun e w' => DHandQ y1 D e w') := Lib.hid (dHand_walk y1 bM D ⟨a1, n1, c1, a2, n2, c2, a3, n3, c3, a4, n4, c4, by rw [← HRest.out]; exact HAy.out, HM.out.below HBy.out⟩ HWf.out HE8.out HL2.out)
  go_wp2_with fail
  refine HD.out.mono ?_
  intro e w8 hdq
  rw [HRest.out] at HQ
  obtain ⟨hb, y, rfl, hwh⟩ := hand_says HWf.out HQ.out hdq
  have HWh := Lib.hid hwh
  have HB8 := Lib.hid (HBy.out.trans (hb.mono HBy.out.size))
  have HA8 := Lib.hid ((hb.block bM (Array.getElem?_eq_some_iff.1 HAy.out).1).trans HAy.out)
  have HR1_9 := Lib.hid (row_keep HR1_8.out hb (Nat.le_refl _))
  have HR2_9 := Lib.hid (row_keep HR2_8.out hb (Nat.le_refl _))
  have HR3_9 := Lib.hid (row_keep HR3_8.out hb (Nat.le_refl _))
  have HR4_9 := Lib.hid (row_keep HR4_8.out hb (Nat.le_refl _))
  have hz8 := hb.size
  have hz7 : w7.heap.size ≤ y1.heap.size := HQ.out.1.size
  have HZ8 : Hid (w7.heap.size ≤ w8.heap.size) := Lib.hid (by omega)
  clear hdq hwh hb HD HQ HBy HAy HR1_8 HR2_8 HR3_8 HR4_8 hz8 hz7
  clear q0 q1 q2 q3 q4
  have q0 := cell_of_row w8 bM 0 _ _ (0, 0) HA8.out
  have q1 := cell_of_row w8 bM 1 _ _ (0, 0) HA8.out
  have q2 := cell_of_row w8 bM 2 _ _ (0, 0) HA8.out
  have q3 := cell_of_row w8 bM 3 _ _ (0, 0) HA8.out
  have q4 := cell_of_row w8 bM 4 _ _ (0, 0) HA8.out
  simp at q0 q1 q2 q3 q4
  have z1 := row3_last HR1_9.out HN1.out
  have z2 := row3_last HR2_9.out HN2.out
  have z3 := row2_last HR3_9.out HN3.out
  have z4 := row2_last HR4_9.out HN4.out
  have hrr : (r == r) = true := by simp
  have huu : (u == u) = true := by simp
  go_wp2
  clear z1 z2 z3 z4 hrr huu q0 q1 q2 q3 q4 HR3_9 HR4_9
  have q1 := neq_ent
  have q2 := eqg_ent
  go_loopw [15] (CpR w8 w2.heap.size 63 g1 N1 f1 n1 (fl3 D.l1 ++ [.int .i32 (-9), .int .i32 0, .int .u8 0])) (fun i _ => n1 - (intOf i).toNat)
  case atStart => exact ⟨0, _, Nat.zero_le _, rfl, HR1_9.out, rfl, World.grownBy.refl _ _⟩
  case round =>
   obtain ⟨k, xs, hk, rfl, hown, hdr, hgr⟩ := hrel
   have HO := Lib.hid hown; clear hown
   have HD := Lib.hid hdr; clear hdr
   have HG := Lib.hid hgr; clear hgr
   have HBr : Hid (Below w.heap.size w wr) := Lib.hid (HB8.out.trans (below_grown HG.out (fun k e => by cases e; have := HG1.out.1; have := HB2z.out; omega) HB8.out.size))
   have HAr := Lib.hid ((HG.out.block bM (Array.getElem?_eq_some_iff.1 HA8.out).1 (fun e => by cases e; have := HG1.out.1; have := HbM.out; omega)).trans HA8.out)
   have m1 := cell_of_row wr bM 1 _ _ (0, 0) HAr.out
   simp at m1
   by_cases hlt : k < n1
   ·have hkl : k < D.l1.length := by rw [HN1.out]; exact hlt
    have hln := row3_len HR1_9.out
    obtain ⟨b, o, ha⟩ := (HM.out.s1).some (by omega)
    subst ha
    obtain ⟨c1, c2, c3⟩ := ((HM.out.s1).keep HBr.out).get k hkl
    obtain ⟨e0, e1, e2⟩ := fl3_get D.l1 k hkl
    have hfl := fl3_length D.l1
    have v0 := World.ownsRow.cellAt HO.out (k * 3) (by omega)
    have v1 := World.ownsRow.cellAt HO.out (k * 3 + 1) (by omega)
    have v2 := World.ownsRow.cellAt HO.out (k * 3 + 2) (by omega)
    rw [drop_get HD.out (k * 3) (Nat.le_refl _), List.getElem?_append_left (by omega), e0] at v0
    rw [drop_get HD.out (k * 3 + 1) (by omega), List.getElem?_append_left (by omega), e1] at v1
    rw [drop_get HD.out (k * 3 + 2) (by omega), List.getElem?_append_left (by omega), e2] at v2
    clear e0 e1 e2 hln hfl
    obtain ⟨s, hs⟩ : ∃ s, s = D.l1[k] := ⟨_, rfl⟩
    rw [← hs] at c1 c2 c3 v0 v1 v2
    clear hs
    have hki : (k : Int) < (n1 : Int) := by omega
    have hkN : (k : Int) < (N1 : Int) := by omega
    have hkN2 : k < N1 := by omega
    go_wp2
    go_quiet (fail)
    have HOd : Hid ((wr.drewN nq).ownsRow w2.heap.size 63 3 (.slice (some ⟨g1, 0, none⟩) N1 f1) N1 xs) := Lib.hid HO.out
    have HGd := Lib.hid (grown_trans HG.out (grown_drewA wr nq _))
    clear c1 c2 c3 v0 v1 v2 m1
    generalize wr.drewN nq = w20 at *
    obtain ⟨p0, p1, p2, b0, b1, b2, b3, b4, b5⟩ := there_three (Any.there ⟨_, HOd.out⟩ k hkN2) (.int .i32 0) (.int .i32 9)
    have HOs := Lib.hid (stored3 HOd.out k (.int .i32 0) (.int .i32 9) (.int .u8 2))
    have HGs := Lib.hid (grown_trans HGd.out (grown3 w20 g1 k (.int .i32 0) (.int .i32 9) (.int .u8 2)))
    have HDs : Hid (((((xs.set (k * 3) (.int .i32 0)).set (k * 3 + 1) (.int .i32 9)).set (k * 3 + 2) (.int .u8 2))).drop ((k + 1) * 3) = (fl3 D.l1 ++ ([.int .i32 (-9), .int .i32 0, .int .u8 0] : List Value)).drop ((k + 1) * 3)) := Lib.hid (by rw [drop_set3]; exact drop_after HD.out (by omega))
    go_wp2
    go_roundw
    case rel => exact ⟨k + 1, _, hlt, by go_num, HOs.out, HDs.out, HGs.out⟩
    case measure => simp [intOf]; omega
   ·obtain rfl : n1 = k := by omega
    have hki : ¬ (n1 : Int) < (n1 : Int) := by omega
    obtain ⟨wx, hwx⟩ : ∃ wx, wx = wr := ⟨_, rfl⟩
    rw [← hwx] at HG HBr HAr HO m1 ⊢
    clear hwx
    have HGx := HG
    have HBx := HBr
    have HAx := HAr
    have HRx := Lib.hid (World.ownsRow.kept HR2_9.out HG.out (ownsRow_apart HR2_9.out (by have := HG1.out; omega)))
    clear HG HBr HAr HO HD HR2_9
    go_wp2
    clear m1 hlt hk hki
    have q1 := neq_brk
    have q2 := eqg_brk
    go_loopw [16] (CpR wx w3.heap.size 66 g2 N2 f2 n2 (fl3 D.l2 ++ [.int .i32 (-9), .int .i32 0, .int .u8 0])) (fun i _ => n2 - (intOf i).toNat)
    case atStart => exact ⟨0, _, Nat.zero_le _, rfl, HRx.out, rfl, World.grownBy.refl _ _⟩
    case round =>
     obtain ⟨k, xs, hk, rfl, hown, hdr, hgr⟩ := hrel
     have HO := Lib.hid hown; clear hown
     have HD := Lib.hid hdr; clear hdr
     have HG := Lib.hid hgr; clear hgr
     have HBr : Hid (Below w.heap.size w wr) := Lib.hid (HBx.out.trans (below_grown HG.out (fun k e => by cases e; have := HG2.out.1; have := HB2z.out; have := HSz1.out; omega) HBx.out.size))
     have HAr := Lib.hid ((HG.out.block bM (Array.getElem?_eq_some_iff.1 HAx.out).1 (fun e => by cases e; have := HG2.out.1; have := HbM.out; have := HSz1.out; omega)).trans HAx.out)
     have m2 := cell_of_row wr bM 2 _ _ (0, 0) HAr.out
     simp at m2
     by_cases hlt : k < n2
     ·have hkl : k < D.l2.length := by rw [HN2.out]; exact hlt
      have hln := row3_len HRx.out
      obtain ⟨b, o, ha⟩ := (HM.out.s2).some (by omega)
      subst ha
      obtain ⟨c1, c2, c3⟩ := ((HM.out.s2).keep HBr.out).get k hkl
      obtain ⟨e0, e1, e2⟩ := fl3_get D.l2 k hkl
      have hfl := fl3_length D.l2
      have v0 := World.ownsRow.cellAt HO.out (k * 3) (by omega)
      have v1 := World.ownsRow.cellAt HO.out (k * 3 + 1) (by omega)
      have v2 := World.ownsRow.cellAt HO.out (k * 3 + 2) (by omega)
      rw [drop_get HD.out (k * 3) (Nat.le_refl _), List.getElem?_append_left (by omega), e0] at v0
      rw [drop_get HD.out (k * 3 + 1) (by omega), List.getElem?_append_left (by omega), e1] at v1
      rw [drop_get HD.out (k * 3 + 2) (by omega), List.getElem?_append_left (by omega), e2] at v2
      clear e0 e1 e2 hln hfl
      obtain ⟨s, hs⟩ : ∃ s, s = D.l2[k] := ⟨_, rfl⟩
      rw [← hs] at c1 c2 c3 v0 v1 v2
      clear hs
      have hki : (k : Int) < (n2 : Int) := by omega
      have hkN : (k : Int) < (N2 : Int) := by omega
      have hkN2 : k < N2 := by omega
      go_wp2
      go_quiet (fail)
      have HOd : Hid ((wr.drewN nq).ownsRow w3.heap.size 66 3 (.slice (some ⟨g2, 0, none⟩) N2 f2) N2 xs) := Lib.hid HO.out
      have HGd := Lib.hid (grown_trans HG.out (grown_drewA wr nq _))
      clear c1 c2 c3 v0 v1 v2 m2
      generalize wr.drewN nq = w20 at *
      obtain ⟨p0, p1, p2, b0, b1, b2, b3, b4, b5⟩ := there_three (Any.there ⟨_, HOd.out⟩ k hkN2) (.int .i32 0) (.int .i32 0)
      have HOs := Lib.hid (stored3 HOd.out k (.int .i32 0) (.int .i32 0) (.int .u8 0))
      have HGs := Lib.hid (grown_trans HGd.out (grown3 w20 g2 k (.int .i32 0) (.int .i32 0) (.int .u8 0)))
      have HDs : Hid (((((xs.set (k * 3) (.int .i32 0)).set (k * 3 + 1) (.int .i32 0)).set (k * 3 + 2) (.int .u8 0))).drop ((k + 1) * 3) = (fl3 D.l2 ++ ([.int .i32 (-9), .int .i32 0, .int .u8 0] : List Value)).drop ((k + 1) * 3)) := Lib.hid (by rw [drop_set3]; exact drop_after HD.out (by omega))
      go_wp2
      go_roundw
      case rel => exact ⟨k + 1, _, hlt, by go_num, HOs.out, HDs.out, HGs.out⟩
      case measure => simp [intOf]; omega
     ·obtain rfl : n2 = k := by omega
      have hki : ¬ (n2 : Int) < (n2 : Int) := by omega
      have HKz : Hid (∀ g, w7.heap.size ≤ g → g < w8.heap.size → wr.heap[g]? = w8.heap[g]?) := Lib.hid (fun g h1 h2 => (HG.out.block g (by have := HGx.out.size; omega) (fun e => by cases e; have := HG2.out; have := HSz3.out; have := HSz4'.out; omega)).trans (HGx.out.block g h2 (fun e => by cases e; have := HG1.out; have := HSz2.out; have := HSz3.out; have := HSz4'.out; omega)))
      have HWl := Lib.hid (HWh.out.walk HKz.out 17408 rfl a n c zs HZn.out hnb (HZi.out wr HBr.out) HZw.out)
      clear HKz HO HD HG HGx HWh
      go_wp2_with fail
      refine HWl.out.mono ?_
      rintro e w30 ⟨rfl, hb⟩
      have HB30 := Lib.hid (HBr.out.trans (hb.mono HBr.out.size))
      clear hb HWl
      go_wp2_with fail
      refine (awake_walk w30).mono ?_
      rintro e w31 ⟨rfl, hb⟩
      have HB31 := Lib.hid (HB30.out.trans (hb.mono HB30.out.size))
      clear hb
      go_wp2
      go_ret
      exact ⟨rfl, HB31.out⟩
end Go.Proofs.YtbmphakfgoompaaGreat
