/- several texts in one: F5 UFX -/
import Derived.Test.YtbmphakfgoompaaGreatHF1
import Derived.Test.YtbmphakfgoompaaGreatGQ
import Derived.Test.YtbmphakfgoompaaGreatGV
import Derived.Test.YtbmphakfgoompaaGreatGC
set_option linter.unusedVariables false
set_option linter.unusedSimpArgs false
/-
 The opener of what lists make: a struct of a class and four lists.
-/
set_option maxRecDepth 100000
namespace Go.Proofs.YtbmphakfgoompaaGreat
open Go.ChangeShapes Go.WideShapes Go.ChangeAt Go.RowKit Go.Joins Go.Deep

theorem b32 {x : Int} (h : (Lit.int .i32 x).wf = true) : wf32 x := by
 simpa [wf32, Lit.wf, IntKind.min, IntKind.max, IntKind.signed, IntKind.bits] using h
theorem b8 {x : Int} (h : (Lit.int .u8 x).wf = true) : 0 ≤ x ∧ x ≤ 255 := by
 simpa [Lit.wf, IntKind.min, IntKind.max, IntKind.signed, IntKind.bits] using h
theorem elem_fields {H : Type} {enc : TypeId × Value → H} {P : Program} {w : World} {b0 : Nat} {sp : Nat → Bool} {held : Bool} {e : TypeId} {fs : Array Field} {n : Nat} {a : Addr} {o : Nat} {cs : List Value} {x : DataW H × List MemPlace}
  (he : P.underlying e = some (.struct fs)) (hone : oneCellFields P fs = true) (hC : P.cellsOf e = fs.size) (hc : w.cells? b0 (a.add o) (P.cellsOf e) = some cs) (h : DataW.trod enc P w b0 sp held n e cs = some x) :
  ∀ (j : Nat) (f : Field), fs[j]? = some f → ∃ (v : Value) (y : DataW H × List MemPlace) (n' : Nat), w.cell? (a.add (o + j)) = some v ∧ DataW.trod enc P w b0 sp held n' f.type [v] = some y := by
 obtain ⟨_, hl, hat⟩ := World.cells?_some hc
 obtain ⟨xs, n', _, _, _, hxl, hf⟩ := DataW.trod_struct he h
 intro j f hj
 have hjl : j < fs.size := (Array.getElem?_eq_some_iff.1 hj).1
 have hjc : j < cs.length := by omega
 obtain ⟨ho, hk⟩ := Deep.hone_of hone j f hj
 have h1 := hf j f hj
 rw [ho, hk, show (cs.drop j).take 1 = [cs[j]] by rw [List.drop_eq_getElem_cons hjc]; rfl, List.getElem?_eq_getElem (show j < xs.length by omega)] at h1
 refine ⟨cs[j], _, n', ?_, h1⟩
 have h2 := hat j (by omega)
 rw [List.getElem?_eq_getElem hjc, Go.Deep.add_add] at h2
 exact h2
theorem exists_rows {α : Type} {Q : Nat → α → Prop} (n : Nat) (h : ∀ i, i < n → ∃ c, Q i c) : ∃ cs : List α, cs.length = n ∧ ∀ i (hi : i < cs.length), Q i cs[i] := by
 induction n with
 | zero => exact ⟨[], rfl, fun i hi => absurd hi (by simp)⟩
 | succ n ih =>
  obtain ⟨cs, hl, hq⟩ := ih (fun i hi => h i (by omega))
  obtain ⟨c, hc⟩ := h n (by omega)
  refine ⟨cs ++ [c], by simp [hl], fun i hi => ?_⟩
  by_cases hin : i < cs.length
  ·rw [List.getElem_append_left hin]; exact hq i hin
  ·have : i = n := by simp at hi; omega
   subst this
   subst hl
   rw [List.getElem_concat_length rfl]
   exact hc
def spanW (s : SpanD) : Prop := wf32 s.f ∧ wf32 s.t ∧ 0 ≤ s.v ∧ s.v ≤ 255
def twW2 (s : TwD) : Prop := wf32 s.a ∧ wf32 s.s
theorem rows3_fld {H : Type} {enc : TypeId × Value → H} {W : World} {t e c8 : TypeId} {f0 f1 f2 : Field} {v : Value} {n : Nat} {y : DataW H × List MemPlace}
  (ht : Tryz.prog.underlying t = some (.slice e)) (he : Tryz.prog.underlying e = some (.struct #[f0, f1, f2])) (h1 : oneCellFields Tryz.prog #[f0, f1, f2] = true) (hC : Tryz.prog.cellsOf e = 3)
  (e0 : Tryz.prog.underlying f0.type = some (.int .i32)) (e1 : Tryz.prog.underlying f1.type = some (.int .i32)) (e2 : Tryz.prog.underlying f2.type = some (.int .u8))
  (h : DataW.trod enc Tryz.prog W 0 (fun _ => true) true n t [v] = some y) : ∃ a len cap rs, v = .slice a len cap ∧ rs.length = len ∧ len ≤ cap ∧ cap ≤ maxLen ∧ SpansAt W a rs ∧ ∀ s ∈ rs, spanW s := by
 rcases Deep.open_slice ht h with ⟨hcs, hx⟩ | ⟨a, len, cap, m, n', D, Pl, hcs, _, hlc, hcm, hm, hx, hel⟩
 ·simp [Value.cells] at hcs
  exact ⟨none, 0, 0, [], hcs, rfl, Nat.le_refl _, Nat.zero_le _, fun i hi => absurd hi (by simp), fun p hp => by cases hp⟩
 ·simp [Value.cells] at hcs
  subst hcs
  have hm' : m = cap := by simpa using hm
  have hsp : 0 < len → a.spot = none := by
   intro hi
   obtain ⟨cs', hc, ht'⟩ := hel 0 (by omega)
   rw [hC] at hc
   obtain ⟨v0, y0, n0, k0, t0⟩ := elem_fields he h1 hC (by rw [hC]; exact hc) ht' 0 _ rfl
   simpa [Addr.add] using World.cell?_spot k0
  have hch : ∀ i, i < len → ∃ c : SpanD, spanW c ∧ ∃ b o, some a = some ⟨b, o, none⟩ ∧ W.cell? ⟨b, o + i * 3, none⟩ = some (.int .i32 c.f) ∧ W.cell? ⟨b, o + i * 3 + 1, none⟩ = some (.int .i32 c.t) ∧ W.cell? ⟨b, o + i * 3 + 2, none⟩ = some (.int .u8 c.v) := by
   intro i hi
   have hsp := hsp (by omega)
   obtain ⟨cs', hc, ht'⟩ := hel i (by omega)
   rw [hC] at hc
   have hf := elem_fields he h1 hC (by rw [hC]; exact hc) ht'
   obtain ⟨v0, y0, n0, k0, t0⟩ := hf 0 _ rfl
   obtain ⟨v1, y1, n1, k1, t1⟩ := hf 1 _ rfl
   obtain ⟨v2, y2, n2, k2, t2⟩ := hf 2 _ rfl
   obtain ⟨x0, d0, _, w0⟩ := DataW.trod_int e0 t0
   obtain ⟨x1, d1, _, w1⟩ := DataW.trod_int e1 t1
   obtain ⟨x2, d2, _, w2⟩ := DataW.trod_int e2 t2
   simp at d0 d1 d2
   subst d0 d1 d2
   obtain ⟨b, o, sp⟩ := a
   simp only at hsp
   subst hsp
   simp only [Addr.add_lit, Nat.add_zero, ← Nat.add_assoc] at k0 k1 k2
   exact ⟨⟨x0, x1, x2⟩, ⟨b32 w0, b32 w1, b8 w2⟩, b, o, rfl, k0, k1, k2⟩
  obtain ⟨chs, hl, hq⟩ := exists_rows len hch
  refine ⟨some a, len, cap, chs, rfl, hl, hlc, hcm, fun i hi => (hq i hi).2, fun p hp => ?_⟩
  obtain ⟨i, hi, rfl⟩ := List.mem_iff_getElem.1 hp
  exact (hq i hi).1
theorem rows2_fld {H : Type} {enc : TypeId × Value → H} {W : World} {t e : TypeId} {f0 f1 : Field} {v : Value} {n : Nat} {y : DataW H × List MemPlace}
  (ht : Tryz.prog.underlying t = some (.slice e)) (he : Tryz.prog.underlying e = some (.struct #[f0, f1])) (h1 : oneCellFields Tryz.prog #[f0, f1] = true) (hC : Tryz.prog.cellsOf e = 2)
  (e0 : Tryz.prog.underlying f0.type = some (.int .i32)) (e1 : Tryz.prog.underlying f1.type = some (.int .i32))
  (h : DataW.trod enc Tryz.prog W 0 (fun _ => true) true n t [v] = some y) : ∃ a len cap rs, v = .slice a len cap ∧ rs.length = len ∧ len ≤ cap ∧ cap ≤ maxLen ∧ TwAt W a rs ∧ ∀ s ∈ rs, twW2 s := by
 rcases Deep.open_slice ht h with ⟨hcs, hx⟩ | ⟨a, len, cap, m, n', D, Pl, hcs, _, hlc, hcm, hm, hx, hel⟩
 ·simp [Value.cells] at hcs
  exact ⟨none, 0, 0, [], hcs, rfl, Nat.le_refl _, Nat.zero_le _, fun i hi => absurd hi (by simp), fun p hp => by cases hp⟩
 ·simp [Value.cells] at hcs
  subst hcs
  have hm' : m = cap := by simpa using hm
  have hsp : 0 < len → a.spot = none := by
   intro hi
   obtain ⟨cs', hc, ht'⟩ := hel 0 (by omega)
   rw [hC] at hc
   obtain ⟨v0, y0, n0, k0, t0⟩ := elem_fields he h1 hC (by rw [hC]; exact hc) ht' 0 _ rfl
   simpa [Addr.add] using World.cell?_spot k0
  have hch : ∀ i, i < len → ∃ c : TwD, twW2 c ∧ ∃ b o, some a = some ⟨b, o, none⟩ ∧ W.cell? ⟨b, o + i * 2, none⟩ = some (.int .i32 c.a) ∧ W.cell? ⟨b, o + i * 2 + 1, none⟩ = some (.int .i32 c.s) := by
   intro i hi
   have hsp := hsp (by omega)
   obtain ⟨cs', hc, ht'⟩ := hel i (by omega)
   rw [hC] at hc
   have hf := elem_fields he h1 hC (by rw [hC]; exact hc) ht'
   obtain ⟨v0, y0, n0, k0, t0⟩ := hf 0 _ rfl
   obtain ⟨v1, y1, n1, k1, t1⟩ := hf 1 _ rfl
   obtain ⟨x0, d0, _, w0⟩ := DataW.trod_int e0 t0
   obtain ⟨x1, d1, _, w1⟩ := DataW.trod_int e1 t1
   simp at d0 d1
   subst d0 d1
   obtain ⟨b, o, sp⟩ := a
   simp only at hsp
   subst hsp
   simp only [Addr.add_lit, Nat.add_zero, ← Nat.add_assoc] at k0 k1
   exact ⟨⟨x0, x1⟩, ⟨b32 w0, b32 w1⟩, b, o, rfl, k0, k1⟩
  obtain ⟨chs, hl, hq⟩ := exists_rows len hch
  refine ⟨some a, len, cap, chs, rfl, hl, hlc, hcm, fun i hi => (hq i hi).2, fun p hp => ?_⟩
  obtain ⟨i, hi, rfl⟩ := List.mem_iff_getElem.1 hp
  exact (hq i hi).1
theorem open_agg5 {H : Type} {enc : TypeId × Value → H} {P : Program} {w : World} {base : Nat} {spare : Nat → Bool} {held : Bool} {r : Reach} {b0 : Nat} {t : TypeId} {f0 f1 f2 f3 f4 : Field} {v : Value} {d : DataW H} {p : List MemPlace} (hs : P.underlying t = some (.struct #[f0, f1, f2, f3, f4])) (hone : oneCellFields P #[f0, f1, f2, f3, f4] = true) (hC : P.cellsOf t = 5)
  (hv : Value.okWide P w r b0 t v) (h : DataW.Trod enc P w base spare held t v d p) :
  ∃ (v0 v1 v2 v3 v4 : Value) (y0 y1 y2 y3 y4 : DataW H × List MemPlace) (n : Nat), v = .agg #[v0, v1, v2, v3, v4] ∧
   DataW.trod enc P w base spare held n f0.type [v0] = some y0 ∧ DataW.trod enc P w base spare held n f1.type [v1] = some y1 ∧ DataW.trod enc P w base spare held n f2.type [v2] = some y2 ∧ DataW.trod enc P w base spare held n f3.type [v3] = some y3 ∧ DataW.trod enc P w base spare held n f4.type [v4] = some y4 := by
 obtain ⟨cs, rfl, hsz⟩ := okWide_struct hs hv
 obtain ⟨c0, c1, c2, c3, c4, rfl⟩ : ∃ c0 c1 c2 c3 c4, cs = #[c0, c1, c2, c3, c4] := by
  obtain ⟨l⟩ := cs
  match l, hsz.trans hC with
  | [c0, c1, c2, c3, c4], _ => exact ⟨c0, c1, c2, c3, c4, rfl⟩
 obtain ⟨fuel, hf⟩ := h
 obtain ⟨xs, n, _, hx, hl, hlen, hf⟩ := DataW.trod_struct hs hf
 match xs, hlen with
 | [y0, y1, y2, y3, y4], _ =>
  obtain ⟨o0, k0⟩ := hone_of hone 0 f0 rfl
  obtain ⟨o1, k1⟩ := hone_of hone 1 f1 rfl
  obtain ⟨o2, k2⟩ := hone_of hone 2 f2 rfl
  obtain ⟨o3, k3⟩ := hone_of hone 3 f3 rfl
  obtain ⟨o4, k4⟩ := hone_of hone 4 f4 rfl
  exact ⟨c0, c1, c2, c3, c4, y0, y1, y2, y3, y4, n, rfl, by simpa [Value.cells, o0, k0] using hf 0 f0 rfl, by simpa [Value.cells, o1, k1] using hf 1 f1 rfl, by simpa [Value.cells, o2, k2] using hf 2 f2 rfl, by simpa [Value.cells, o3, k3] using hf 3 f3 rfl, by simpa [Value.cells, o4, k4] using hf 4 f4 rfl⟩
/-- what is told of lists that came in: no bound on their lengths but memory's -/
structure MadeRw (w : World) (D : MadeD) (a1 : Option Addr) (n1 c1 : Nat) (a2 : Option Addr) (n2 c2 : Nat) (a3 : Option Addr) (n3 c3 : Nat) (a4 : Option Addr) (n4 c4 : Nat) : Prop where
 h1 : D.l1.length = n1
 h2 : D.l2.length = n2
 h3 : D.l3.length = n3
 h4 : D.l4.length = n4
 k1 : n1 ≤ c1 ∧ c1 ≤ maxLen
 k2 : n2 ≤ c2 ∧ c2 ≤ maxLen
 k3 : n3 ≤ c3 ∧ c3 ≤ maxLen
 k4 : n4 ≤ c4 ∧ c4 ≤ maxLen
 s1 : SpansAt w a1 D.l1
 s2 : SpansAt w a2 D.l2
 s3 : TwAt w a3 D.l3
 s4 : TwAt w a4 D.l4
 r : 0 ≤ D.rest ∧ D.rest ≤ 255
 w1 : ∀ s ∈ D.l1, spanW s
 w2 : ∀ s ∈ D.l2, spanW s
 w3 : ∀ s ∈ D.l3, twW2 s
 w4 : ∀ s ∈ D.l4, twW2 s
theorem MadeRw.sl {w : World} {D : MadeD} {a1 : Option Addr} {n1 c1 : Nat} {a2 : Option Addr} {n2 c2 : Nat} {a3 : Option Addr} {n3 c3 : Nat} {a4 : Option Addr} {n4 c4 : Nat} (h : MadeRw w D a1 n1 c1 a2 n2 c2 a3 n3 c3 a4 n4 c4) (b1 : n1 ≤ 20) (b2 : n2 ≤ 20) (b3 : n3 ≤ 20) (b4 : n4 ≤ 20) :
  MadeSl w D a1 n1 c1 a2 n2 c2 a3 n3 c3 a4 n4 c4 := ⟨h.h1, h.h2, h.h3, h.h4, by omega, by omega, by omega, by omega, h.s1, h.s2, h.s3, h.s4⟩
theorem Tryz.cellsMade : Tryz.prog.cellsOf 27 = 5 := by kernel_rfl
theorem made_open {H : Type} {enc : TypeId × Value → H} {W : World} {b0 : Nat} {v : Value} {d : DataW H} {p : List MemPlace}
  (hv : Value.okWide Tryz.prog W .any b0 27 v) (h : DataW.Trod enc Tryz.prog W 0 (fun _ => true) true 27 v d p) :
  ∃ (D : MadeD) (a1 : Option Addr) (n1 c1 : Nat) (a2 : Option Addr) (n2 c2 : Nat) (a3 : Option Addr) (n3 c3 : Nat) (a4 : Option Addr) (n4 c4 : Nat), v = .agg #[.int .u8 D.rest, .slice a1 n1 c1, .slice a2 n2 c2, .slice a3 n3 c3, .slice a4 n4 c4] ∧ MadeRw W D a1 n1 c1 a2 n2 c2 a3 n3 c3 a4 n4 c4 := by
 obtain ⟨v0, v1, v2, v3, v4, y0, y1, y2, y3, y4, m, rfl, h0, h1, h2, h3, h4⟩ := open_agg5 Tryz.underlying27 (by kernel_rfl) Tryz.cellsMade hv h
 obtain ⟨x, e0, _, wx⟩ := DataW.trod_int Tryz.underlying22 h0
 simp at e0
 subst e0
 obtain ⟨a1, n1, c1, l1, rfl, p1, q1, m1, s1, w1⟩ := rows3_fld (c8 := 0) Tryz.underlying23 Tryz.underlying63 (by kernel_rfl) (by kernel_rfl) Tryz.underlying21 Tryz.underlying21 Tryz.underlying22 h1
 obtain ⟨a2, n2, c2, l2, rfl, p2, q2, m2, s2, w2⟩ := rows3_fld (c8 := 0) Tryz.underlying24 Tryz.underlying66 (by kernel_rfl) (by kernel_rfl) Tryz.underlying21 Tryz.underlying21 Tryz.underlying64 h2
 obtain ⟨a3, n3, c3, l3, rfl, p3, q3, m3, s3, w3⟩ := rows2_fld Tryz.underlying25 Tryz.underlying68 (by kernel_rfl) (by kernel_rfl) Tryz.underlying21 Tryz.underlying21 h3
 obtain ⟨a4, n4, c4, l4, rfl, p4, q4, m4, s4, w4⟩ := rows2_fld Tryz.underlying25 Tryz.underlying68 (by kernel_rfl) (by kernel_rfl) Tryz.underlying21 Tryz.underlying21 h4
 exact ⟨⟨x, l1, l2, l3, l4⟩, a1, n1, c1, a2, n2, c2, a3, n3, c3, a4, n4, c4, rfl, ⟨p1, p2, p3, p4, ⟨q1, m1⟩, ⟨q2, m2⟩, ⟨q3, m3⟩, ⟨q4, m4⟩, s1, s2, s3, s4, b8 wx, w1, w2, w3, w4⟩⟩
end Go.Proofs.YtbmphakfgoompaaGreat

/-
 The walk of TablesPack.
-/
namespace Go.Proofs.YtbmphakfgoompaaGreat
open Go.RowKit
attribute [local go_sem] Oper.semAt_some

theorem MadeRw.wf {w : World} {D : MadeD} {a1 : Option Addr} {n1 c1 : Nat} {a2 : Option Addr} {n2 c2 : Nat} {a3 : Option Addr} {n3 c3 : Nat} {a4 : Option Addr} {n4 c4 : Nat} (h : MadeRw w D a1 n1 c1 a2 n2 c2 a3 n3 c3 a4 n4 c4) : MadeWf D :=
 ⟨h.r, h.w1, h.w2, h.w3, h.w4⟩
theorem edgeL_len {D : MadeD} (h1 : D.l1.length ≤ 20) (h2 : D.l2.length ≤ 20) (h3 : D.l3.length ≤ 20) (h4 : D.l4.length ≤ 20) : (edgeL D).length ≤ 1048576 := by
 unfold edgeL
 simp only [List.length_append, edgeS_len, edgeB_len, edgeT_len, List.length_cons, List.length_nil]
 omega
theorem wrongF_congr {c b t m c' b' t' m' : Nat → Int} (e : ∀ r, r ≤ 1114111 → c r = c' r ∧ b r = b' r ∧ t r = t' r ∧ m r = m' r) (r : Nat) (hr : r ≤ 1114111) : wrongF c b t m r = wrongF c' b' t' m' r := by
 have ec : ∀ x, c (runeR x) = c' (runeR x) := fun x => (e _ (runeR_le x)).1
 have eb : ∀ x, b (runeR x) = b' (runeR x) := fun x => (e _ (runeR_le x)).2.1
 have et : ∀ x, t (runeR x) = t' (runeR x) := fun x => (e _ (runeR_le x)).2.2.1
 obtain ⟨e1, e2, e3, e4⟩ := e r hr
 simp only [wrongF, oddF, strangeF, selfF, twF, ec, eb, et, e1, e2, e3, e4]
theorem packQ_says {w : World} {D : MadeD} {e : Ending} {w' : World} (hwf : MadeWf D) (h : PackQ w D.cls D.oth D.side D.twin D.mir D.has e w') : ∃ k1 k2, Least (badK D) 1114112 k1 ∧ Least (wrongF (fvs D 0) (fvs D 1) (fvs D 2) (fvs D 3)) 1114112 k2 ∧ Below w.heap.size w w' ∧ ((k1 < 1114112 ∧ e = .returned (.tuple #[.pointer none, .int .i32 (k1 : Nat), .int .i64 140])) ∨ (¬ k1 < 1114112 ∧ k2 < 1114112 ∧ e = .returned (.tuple #[.pointer none, .int .i32 (k2 : Nat), .int .i64 141])) ∨
  (¬ k1 < 1114112 ∧ ¬ k2 < 1114112 ∧ ∃ p, e = .returned (.tuple #[.pointer (some ⟨p, 0, none⟩), .int .i32 0, .int .i64 0]) ∧ HTab w' p (fvs D 0) (fvs D 1) (fvs D 2) (fvs D 3) w.heap.size)) := by
 obtain ⟨hb, k, hk, hc⟩ := h
 obtain ⟨k1, hk1⟩ := Least.exists (badK D) 1114112
 obtain ⟨k2, hk2⟩ := Least.exists (wrongF (fvs D 0) (fvs D 1) (fvs D 2) (fvs D 3)) 1114112
 obtain rfl := hk.unique (pack_least hwf hk1)
 refine ⟨k, k2, hk1, hk2, hb, ?_⟩
 rcases hc with ⟨h1, rfl⟩ | ⟨rfl, p, q, hq, rfl, hT⟩
 ·exact .inl ⟨h1, rfl⟩
 ·have hno : ∀ r, r < 1114112 → badK D r = false := fun r hr => hk1.no r hr
  have hE : ∀ r, r ≤ 1114111 → D.cls r = fvs D 0 r ∧ bkF D.oth D.side r = fvs D 1 r ∧ twP D.twin r = fvs D 2 r ∧ miF D.mir D.has r = fvs D 3 r := fun r hr => by
   obtain ⟨e0, e1, e2, e3⟩ := fvs_eq hwf hno r (by omega)
   exact ⟨e0.symm, e1.symm, e2.symm, e3.symm⟩
  obtain rfl := hq.unique (hk2.congr (fun r hr => (wrongF_congr hE r (by omega)).symm))
  by_cases h2 : q < 1114112
  ·exact .inr (.inl ⟨by omega, h2, by rw [show wholeE p q = .tuple #[.pointer none, .int .i32 (q : Nat), .int .i64 141] from if_pos h2]⟩)
  ·exact .inr (.inr ⟨by omega, h2, p, by rw [show wholeE p q = .tuple #[.pointer (some ⟨p, 0, none⟩), .int .i32 0, .int .i64 0] from if_neg h2], hT.congr hE⟩)
set_option maxRecDepth 100000 in
set_option maxHeartbeats 4000000 in
theorem wholeNil_walk (w : World) (v : Value) : Calls Tryz.prog 14 #[.pointer none, .pointer none, v] w fun e w' => e = .returned (.bool true) ∧ Below w.heap.size w w' := by
 go_enter Tryz.func14, Tryz.ntmps14
 go_wp2_with fail
 refine (looksNil_walk w v).mono ?_
 rintro e w1 ⟨rfl, hb⟩
 have HB := Lib.hid hb; clear hb
 go_wp2
 go_ret
 exact ⟨rfl, HB.out⟩
set_option maxRecDepth 100000 in
set_option maxHeartbeats 8000000 in
theorem tablesPack_walk (D : MadeD) (a1 : Option Addr) (n1 c1 : Nat) (a2 : Option Addr) (n2 c2 : Nat) (a3 : Option Addr) (n3 c3 : Nat) (a4 : Option Addr) (n4 c4 : Nat) (a : Option Addr) (n c : Nat) (zs : List Int) (w : World) (hm : MadeRw w D a1 n1 c1 a2 n2 c2 a3 n3 c3 a4 n4 c4)
  (hz : Ints .i32 w a zs) (hn : zs.length = n) (hnb : n ≤ maxLen) (hzb : ∀ z ∈ zs, wf32 z) :
  Calls Tryz.prog 5 #[.agg #[.int .u8 D.rest, .slice a1 n1 c1, .slice a2 n2 c2, .slice a3 n3 c3, .slice a4 n4 c4], .slice a n c] w fun e w' => e = .returned (.bool true) ∧ Below w.heap.size w w' := by
 have hb1 : ∀ s ∈ D.l1, wf32 s.f ∧ wf32 s.t := fun s hs => ⟨(hm.w1 s hs).1, (hm.w1 s hs).2.1⟩
 have HWf := Lib.hid hm.wf
 have HM0 := Lib.hid hm
 have HW1 := Lib.hid hb1
 have HWh := Lib.hid (fun (W : World) (hb : Below w.heap.size w W) (p q B M : Nat) (hM : M = 17408) (hT : HTab W p (fvs D 0) (fvs D 1) (fvs D 2) (fvs D 3) B) (hd : DTab W q (fvs D)) (hfit : FitD (fvs D)) => wholeD_walk W p q B M hM (fvs D) hT hd hfit a n c zs hn hnb (hz.below hb (Nat.le_refl _)) hzb)
 clear hm hb1 hz hn hzb hnb
 obtain ⟨rest, hrest⟩ : ∃ x, x = D.rest := ⟨_, rfl⟩
 rw [← hrest]
 have HRest := Lib.hid hrest; clear hrest
 have hA := heap_alloc_new w (.cells #[.int .u8 rest, .slice a1 n1 c1, .slice a2 n2 c2, .slice a3 n3 c3, .slice a4 n4 c4] 27)
 have HB := Lib.hid ((Below.refl _ w).alloc (Nat.le_refl _) (.cells #[.int .u8 rest, .slice a1 n1 c1, .slice a2 n2 c2, .slice a3 n3 c3, .slice a4 n4 c4] 27))
 have HA := Lib.hid hA; clear hA
 go_enter Tryz.func5, Tryz.ntmps5
 go_upto_region 1 with (fail)
 obtain ⟨bM, hbM⟩ : ∃ bM, bM = w.heap.size := ⟨_, rfl⟩
 rw [← hbM] at HA ⊢
 generalize w.alloc (.cells #[.int .u8 rest, .slice a1 n1 c1, .slice a2 n2 c2, .slice a3 n3 c3, .slice a4 n4 c4] 27) = w1 at *
 clear hbM
 have q0 := cell_of_row w1 bM 0 _ _ (0, 0) HA.out
 have q1 := cell_of_row w1 bM 1 _ _ (0, 0) HA.out
 have q2 := cell_of_row w1 bM 2 _ _ (0, 0) HA.out
 have q3 := cell_of_row w1 bM 3 _ _ (0, 0) HA.out
 have q4 := cell_of_row w1 bM 4 _ _ (0, 0) HA.out
 simp at q0 q1 q2 q3 q4
 obtain ⟨fb, hfb⟩ : ∃ fb, fb = decide (n1 ≤ 20 ∧ n2 ≤ 20 ∧ n3 ≤ 20 ∧ n4 ≤ 20) := ⟨_, rfl⟩
 have HFb := Lib.hid (fit_walk w1 fb rest a1 n1 c1 a2 n2 c2 a3 n3 c3 a4 n4 c4 hfb)
 go_wp2_with fail
 refine HFb.out.mono ?_
 rintro e w2 ⟨rfl, hb⟩
 have HB2 := Lib.hid (HB.out.trans (hb.mono HB.out.size))
 have HA2 := Lib.hid ((hb.block bM (Array.getElem?_eq_some_iff.1 HA.out).1).trans HA.out)
 clear hb q0 q1 q2 q3 q4 HA HB HFb
 cases fb
 ·clear hfb
  go_wp2_with fail
  refine (awake_walk w2).mono ?_
  rintro e w3 ⟨rfl, hb⟩
  have HB3 := Lib.hid (HB2.out.trans (hb.mono HB2.out.size))
  clear hb
  go_wp2
  go_ret
  exact ⟨rfl, HB3.out⟩
 ·have hdec := of_decide_eq_true hfb.symm
  have HM : Hid (MadeSl w D a1 n1 c1 a2 n2 c2 a3 n3 c3 a4 n4 c4) := Lib.hid (HM0.out.sl (by omega) (by omega) (by omega) (by omega))
  have hL : D.l1.length ≤ 20 ∧ D.l2.length ≤ 20 ∧ D.l3.length ≤ 20 ∧ D.l4.length ≤ 20 := by
   have h1 := HM.out.h1; have h2 := HM.out.h2; have h3 := HM.out.h3; have h4 := HM.out.h4
   omega
  have HE8 : Hid ((edgeL D).length ≤ 1048576) := Lib.hid (edgeL_len hL.1 hL.2.1 hL.2.2.1 hL.2.2.2)
  have HL2 := Lib.hid hL.2.1
  clear hfb HM0 hdec hL
  have q0 := cell_of_row w2 bM 0 _ _ (0, 0) HA2.out
  have q1 := cell_of_row w2 bM 1 _ _ (0, 0) HA2.out
  have q2 := cell_of_row w2 bM 2 _ _ (0, 0) HA2.out
  have q3 := cell_of_row w2 bM 3 _ _ (0, 0) HA2.out
  have q4 := cell_of_row w2 bM 4 _ _ (0, 0) HA2.out
  simp at q0 q1 q2 q3 q4
  have HQw := Lib.hid (quickly_walk D a1 n1 c1 a2 n2 c2 a3 n3 c3 a4 n4 c4 w2 (HM.out.below HB2.out) HW1.out)
  rw [← HRest.out] at HQw
  go_wp2_with fail
  refine HQw.out.mono ?_
  rintro e w3 ⟨q, rfl, ⟨pm, gC, gR, N, hq⟩, hb⟩
  have HP := Lib.hid (packQ_walk w3 q _ _ _ _ _ _ (quick_props hq))
  have HB3 := Lib.hid (HB2.out.trans (hb.mono HB2.out.size))
  have HA3 := Lib.hid ((hb.block bM (Array.getElem?_eq_some_iff.1 HA2.out).1).trans HA2.out)
  clear hb q0 q1 q2 q3 q4 HA2 HB2 HQw hq
  go_wp2_with fail
  refine HP.out.mono ?_
  intro e w4 hpk
  obtain ⟨k1, k2, hk1, hk2, hb, hpk⟩ := packQ_says HWf.out hpk
  have HB4 := Lib.hid (HB3.out.trans (hb.mono HB3.out.size))
  have HA4 := Lib.hid ((hb.block bM (Array.getElem?_eq_some_iff.1 HA3.out).1).trans HA3.out)
  have HD : Hid (Calls Tryz.prog 19 #[.pointer (some ⟨bM, 0, none⟩)] w4 fun e w' => DPackQ w4 D e w') := Lib.hid (dPack_walk w4 bM D ⟨a1, n1, c1, a2, n2, c2, a3, n3, c3, a4, n4, c4, by rw [← HRest.out]; exact HA4.out, HM.out.below HB4.out⟩ HWf.out HE8.out HL2.out)
  have HK1 := Lib.hid hk1; have HK2 := Lib.hid hk2
  clear hb HA3 HB3 HP hk1 hk2
  rcases hpk with ⟨h1, rfl⟩ | ⟨h1, h2, rfl⟩ | ⟨h1, h2, p, rfl, hT⟩
  ·have HC := Lib.hid h1; clear h1
   go_wp2_with fail
   refine HD.out.mono ?_
   intro e w5 hdq
   obtain ⟨hb, j1, j2, hj1, hj2, hdq⟩ := hdq
   obtain rfl := HK1.out.unique hj1
   obtain rfl := HK2.out.unique hj2
   have HB5 := Lib.hid (HB4.out.trans (hb.mono HB4.out.size))
   clear hb hj1 hj2 HD HB4 HA4
   have he : e = .returned (.tuple #[.pointer none, .int .i32 (k1 : Nat), .int .i64 140]) := by
    rcases hdq with ⟨h1, rfl⟩ | ⟨h1, h2, rfl⟩ | ⟨h1, h2, p, rfl, hd⟩
    all_goals first | rfl | (exfalso; have := HC.out; omega)
   clear hdq HK1 HK2
   subst he
   have hkk : (((k1 : Nat) : Int) == ((k1 : Nat) : Int)) = true := by simp
   go_wp2_with fail
   refine (wholeNil_walk w5 (.slice a n c)).mono ?_
   rintro e w6 ⟨rfl, hb⟩
   have HB6 := Lib.hid (HB5.out.trans (hb.mono HB5.out.size))
   clear hb
   go_wp2_with fail
   refine (awake_walk w6).mono ?_
   rintro e w7 ⟨rfl, hb⟩
   have HB7 := Lib.hid (HB6.out.trans (hb.mono HB6.out.size))
   clear hb
   go_wp2
   go_ret
   exact ⟨rfl, HB7.out⟩
  ·have HC := Lib.hid (And.intro h1 h2); clear h1 h2
   go_wp2_with fail
   refine HD.out.mono ?_
   intro e w5 hdq
   obtain ⟨hb, j1, j2, hj1, hj2, hdq⟩ := hdq
   obtain rfl := HK1.out.unique hj1
   obtain rfl := HK2.out.unique hj2
   have HB5 := Lib.hid (HB4.out.trans (hb.mono HB4.out.size))
   clear hb hj1 hj2 HD HB4 HA4
   have he : e = .returned (.tuple #[.pointer none, .int .i32 (k2 : Nat), .int .i64 141]) := by
    rcases hdq with ⟨h1, rfl⟩ | ⟨h1, h2, rfl⟩ | ⟨h1, h2, p, rfl, hd⟩
    all_goals first | rfl | (exfalso; have := HC.out; omega)
   clear hdq HK1 HK2
   subst he
   have hkk : (((k2 : Nat) : Int) == ((k2 : Nat) : Int)) = true := by simp
   go_wp2_with fail
   refine (wholeNil_walk w5 (.slice a n c)).mono ?_
   rintro e w6 ⟨rfl, hb⟩
   have HB6 := Lib.hid (HB5.out.trans (hb.mono HB5.out.size))
   clear hb
   go_wp2_with fail
   refine (awake_walk w6).mono ?_
   rintro e w7 ⟨rfl, hb⟩
   have HB7 := Lib.hid (HB6.out.trans (hb.mono HB6.out.size))
   clear hb
   go_wp2
   go_ret
   exact ⟨rfl, HB7.out⟩
  ·have HC := Lib.hid (And.intro h1 h2)
   have HT := Lib.hid hT
   clear h1 h2 hT
   go_wp2_with fail
   refine HD.out.mono ?_
   intro e w5 hdq
   obtain ⟨hb, j1, j2, hj1, hj2, hdq⟩ := hdq
   obtain rfl := HK1.out.unique hj1
   obtain rfl := HK2.out.unique hj2
   have HB5 := Lib.hid (HB4.out.trans (hb.mono HB4.out.size))
   have HT5 := Lib.hid (HT.out.below hb)
   have HFit : Hid (FitD (fvs D)) := Lib.hid (fit_of (fvs_any HWf.out (fun r hr => HK1.out.no r (by have := HC.out; have := HK1.out.le; omega))))
   clear hb hj1 hj2 HD HB4 HA4 HT
   have hdt : ∃ q, e = .returned (.tuple #[.pointer (some ⟨q, 0, none⟩), .int .i32 0, .int .i64 0]) ∧ DTab w5 q (fvs D) := by
    rcases hdq with ⟨h1, rfl⟩ | ⟨h1, h2, rfl⟩ | ⟨h1, h2, p, rfl, hd⟩
    ·exfalso; have := HC.out; omega
    ·exfalso; have := HC.out; omega
    ·exact ⟨_, rfl, hd⟩
   obtain ⟨qd, rfl, hdt⟩ := hdt
   have HWl := Lib.hid (HWh.out w5 HB5.out p qd _ _ rfl HT5.out hdt HFit.out)
   clear hdt HT5 HWh HFit HC hdq HK1 HK2
   go_wp2_with fail
   refine HWl.out.mono ?_
   rintro e w6 ⟨rfl, hb⟩
   have HB6 := Lib.hid (HB5.out.trans (hb.mono HB5.out.size))
   clear hb HWl
   go_wp2_with fail
   refine (awake_walk w6).mono ?_
   rintro e w7 ⟨rfl, hb⟩
   have HB7 := Lib.hid (HB6.out.trans (hb.mono HB6.out.size))
   clear hb
   go_wp2
   go_ret
   exact ⟨rfl, HB7.out⟩
end Go.Proofs.YtbmphakfgoompaaGreat
