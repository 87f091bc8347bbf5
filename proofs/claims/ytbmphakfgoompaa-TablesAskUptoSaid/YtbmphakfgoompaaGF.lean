/- several texts in one: UY1 F5 -/
import Derived.Test.YtbmphakfgoompaaGC
import Derived.Test.YtbmphakfgoompaaGB
import Derived.Test.YtbmphakfgoompaaG3
import Derived.Test.YtbmphakfgoompaaF1
set_option linter.unusedVariables false
set_option linter.unusedSimpArgs false
/-
  Plain law: what tables that are not amiss say may be. The walk of 'fit'.
-/
namespace Go.Proofs.Ytbmphakfgoompaa
open Go.RowKit

structure Fine (c b t m : Nat → Int) : Prop where
  fit : Fit b t m
  no : ∀ r, r ≤ 1114111 → wrongF c b t m r = false
theorem Fine.odd {c b t m : Nat → Int} (h : Fine c b t m) {r : Nat} (hr : r ≤ 1114111) (hb : b r ≠ 0) : oddF c b r = false := by
  have := h.no r hr
  simp only [wrongF, Bool.or_eq_false_iff, Bool.and_eq_false_iff, bne_eq_false_iff_eq] at this
  exact this.1.1.resolve_left hb
theorem Fine.strange {c b t m : Nat → Int} (h : Fine c b t m) {r : Nat} (hr : r ≤ 1114111) (hb : t r ≠ 0) : strangeF b t r = false := by
  have := h.no r hr
  simp only [wrongF, Bool.or_eq_false_iff, Bool.and_eq_false_iff, bne_eq_false_iff_eq] at this
  exact this.1.2.resolve_left hb
theorem Fine.self {c b t m : Nat → Int} (h : Fine c b t m) {r : Nat} (hr : r ≤ 1114111) (hb : m r ≠ 0) : m r ≠ (r : Nat) + 1 := by
  have := h.no r hr
  simp only [wrongF, Bool.or_eq_false_iff, Bool.and_eq_false_iff, bne_eq_false_iff_eq] at this
  have h2 := this.2.resolve_left hb
  unfold selfF at h2
  exact beq_eq_false_iff_ne.1 h2
theorem brS_zero {v : Int} : brS v = 0 ↔ v = 0 := by
  unfold brS
  constructor
  · intro h
    split at h
    · cases h
    · split at h
      · cases h
      · omega
  · rintro rfl
    rfl
theorem brO_zero : brO 0 = 0 := rfl
/-- a bracket that is not amiss -/
theorem Fine.br {c b t m : Nat → Int} (h : Fine c b t m) {r : Nat} (hr : r ≤ 1114111) (hb : b r ≠ 0) :
    ∃ o : Nat, o ≤ 1114111 ∧ brO (b r) = (o : Nat) ∧ b o ≠ 0 ∧ brS (b o) ≠ brS (b r) ∧ brO (b o) = (r : Nat) ∧ c r = 14 := by
  have h1 := brO_le (h.fit.b r hr)
  obtain ⟨o, ho⟩ : ∃ o : Nat, brO (b r) = (o : Nat) := ⟨(brO (b r)).toNat, by omega⟩
  have h2 := h.odd hr hb
  unfold oddF at h2
  rw [ho, runeR_nat (by omega)] at h2
  simp only [Bool.or_eq_false_iff, beq_eq_false_iff_ne, bne_eq_false_iff_eq] at h2
  exact ⟨o, by omega, ho, fun e => h2.1.1.1 (brS_zero.2 e), h2.1.1.2, h2.1.2, h2.2⟩
/-- a twin that is not amiss -/
theorem Fine.tw {c b t m : Nat → Int} (h : Fine c b t m) {r : Nat} (hr : r ≤ 1114111) (ht : t r ≠ 0) :
    ∃ x : Nat, x ≤ 1114111 ∧ twF t r = (x : Nat) ∧ x ≠ r ∧ b r ≠ 0 ∧ brS (b x) = brS (b r) ∧ t x = 0 ∧ brO (b x) = twF t (runeR (brO (b r))) := by
  have h1 := twF_le (h.fit.t r hr).2 hr
  obtain ⟨x, hx⟩ : ∃ x : Nat, twF t r = (x : Nat) := ⟨(twF t r).toNat, by omega⟩
  have h2 := h.strange hr ht
  unfold strangeF at h2
  rw [hx, runeR_nat (by omega)] at h2
  simp only [Bool.or_eq_false_iff, beq_eq_false_iff_ne, bne_eq_false_iff_eq] at h2
  exact ⟨x, by omega, hx, fun e => h2.1.1.1.2 (by rw [e]), fun e => h2.1.1.1.1 (brS_zero.2 e), h2.1.1.2, h2.1.2, h2.2⟩
theorem twF_zero {t : Nat → Int} {r : Nat} (h : t r = 0) : twF t r = (r : Nat) := by unfold twF; rw [if_neg (by omega)]
/-- the partner of a bracket without a twin has none -/
theorem Fine.lone {c b t m : Nat → Int} (h : Fine c b t m) {r o : Nat} (hr : r ≤ 1114111) (hb : b r ≠ 0) (ho : o ≤ 1114111) (hbo : brO (b r) = (o : Nat)) (ht : t r = 0) : t o = 0 := by
  obtain ⟨o', h1, h2, h3, h4, h5, h6⟩ := h.br hr hb
  obtain rfl : o' = o := by have := h2.symm.trans hbo; omega
  refine Classical.byContradiction fun hto => ?_
  obtain ⟨x, k1, k2, k3, k4, k5, k6, k7⟩ := h.tw ho hto
  rw [h5, runeR_nat hr, twF_zero ht] at k7
  have hbx : b x ≠ 0 := fun e => by rw [brS_zero.2 e] at k5; exact k4 (brS_zero.1 k5.symm)
  obtain ⟨y, j1, j2, j3, j4, j5, j6⟩ := h.br k1 hbx
  obtain rfl : y = r := by have := j2.symm.trans k7; omega
  rw [hbo] at j5
  exact k3 (by omega)
/-- what a statement asks of a number: all is well -/
structure MayR (c b t m : Nat → Int) (R : Nat) : Prop where
  none : b R = 0 → brO (b R) = 0 ∧ twF t R = (R : Nat)
  some : b R ≠ 0 → ∃ o x : Nat, o ≤ 1114111 ∧ x ≤ 1114111 ∧ brO (b R) = (o : Nat) ∧ twF t R = (x : Nat) ∧ brO (b o) = (R : Nat) ∧ brS (b o) ≠ 0 ∧ brS (b o) ≠ brS (b R) ∧ c R = 14 ∧ twF t x = (x : Nat) ∧ brS (b x) = brS (b R) ∧ brO (b x) = twF t o
  mir : 0 < m R → m R - 1 ≠ (R : Nat)
theorem Fine.may {c b t m : Nat → Int} (h : Fine c b t m) {R : Nat} (hr : R ≤ 1114111) : MayR c b t m R := by
  refine ⟨fun hb => ⟨by rw [hb]; rfl, ?_⟩, fun hb => ?_, fun hm => by have := h.self hr (by omega); omega⟩
  · by_cases ht : t R = 0
    · exact twF_zero ht
    · obtain ⟨x, -, -, -, k4, -⟩ := h.tw hr ht
      exact absurd hb k4
  · obtain ⟨o, h1, h2, h3, h4, h5, h6⟩ := h.br hr hb
    by_cases ht : t R = 0
    · have hto := h.lone hr hb h1 h2 ht
      exact ⟨o, R, h1, hr, h2, twF_zero ht, h5, fun e => h3 (brS_zero.1 e), h4, h6, twF_zero ht, rfl, by rw [h2, twF_zero hto]⟩
    · obtain ⟨x, k1, k2, k3, k4, k5, k6, k7⟩ := h.tw hr ht
      rw [h2, runeR_nat h1] at k7
      exact ⟨o, x, h1, k1, h2, k2, h5, fun e => h3 (brS_zero.1 e), h4, h6, twF_zero k6, k5, k7⟩

theorem fit_walk (w : World) (fb : Bool) (rest : Int) (a1 : Option Addr) (n1 c1 : Nat) (a2 : Option Addr) (n2 c2 : Nat) (a3 : Option Addr) (n3 c3 : Nat) (a4 : Option Addr) (n4 c4 : Nat) (hfb : fb = decide (n1 ≤ 20 ∧ n2 ≤ 20 ∧ n3 ≤ 20 ∧ n4 ≤ 20)) :
    Calls Try.prog 11 #[.agg #[.int .u8 rest, .slice a1 n1 c1, .slice a2 n2 c2, .slice a3 n3 c3, .slice a4 n4 c4]] w fun e w' => e = .returned (.bool fb) ∧ Below w.heap.size w w' := by
  have HF := Lib.hid hfb; clear hfb
  have hA := heap_alloc_new w (.cells #[.int .u8 rest, .slice a1 n1 c1, .slice a2 n2 c2, .slice a3 n3 c3, .slice a4 n4 c4] 38)
  have HB := Lib.hid ((Below.refl _ w).alloc (Nat.le_refl _) (.cells #[.int .u8 rest, .slice a1 n1 c1, .slice a2 n2 c2, .slice a3 n3 c3, .slice a4 n4 c4] 38))
  have HA := Lib.hid hA; clear hA
  go_enter Try.func11, Try.ntmps11
  go_upto_region 1 with (fail)
  obtain ⟨bx, hbx⟩ : ∃ bx, bx = w.heap.size := ⟨_, rfl⟩
  rw [← hbx] at HA ⊢
  generalize w.alloc (.cells #[.int .u8 rest, .slice a1 n1 c1, .slice a2 n2 c2, .slice a3 n3 c3, .slice a4 n4 c4] 38) = w1 at *
  have q1 := cell_of_row w1 bx 1 _ _ (0, 0) HA.out
  have q2 := cell_of_row w1 bx 2 _ _ (0, 0) HA.out
  have q3 := cell_of_row w1 bx 3 _ _ (0, 0) HA.out
  have q4 := cell_of_row w1 bx 4 _ _ (0, 0) HA.out
  simp at q1 q2 q3 q4
  clear hbx
  by_cases h1 : (n1 : Int) ≤ 20
  · by_cases h2 : (n2 : Int) ≤ 20
    · by_cases h3 : (n3 : Int) ≤ 20
      · by_cases h4 : (n4 : Int) ≤ 20
        · have HX := Lib.hid (show fb = true from HF.out.trans (decide_eq_true (by omega)))
          go_wp2
          go_ret
          exact ⟨ret_eq (congrArg Value.bool HX.out.symm), HB.out⟩
        · have HX := Lib.hid (show fb = false from HF.out.trans (decide_eq_false (by omega)))
          go_wp2
          go_ret
          exact ⟨ret_eq (congrArg Value.bool HX.out.symm), HB.out⟩
      · have HX := Lib.hid (show fb = false from HF.out.trans (decide_eq_false (by omega)))
        go_wp2
        go_ret
        exact ⟨ret_eq (congrArg Value.bool HX.out.symm), HB.out⟩
    · have HX := Lib.hid (show fb = false from HF.out.trans (decide_eq_false (by omega)))
      go_wp2
      go_ret
      exact ⟨ret_eq (congrArg Value.bool HX.out.symm), HB.out⟩
  · have HX := Lib.hid (show fb = false from HF.out.trans (decide_eq_false (by omega)))
    go_wp2
    go_ret
    exact ⟨ret_eq (congrArg Value.bool HX.out.symm), HB.out⟩
theorem quick_props {w : World} {q pm gC gR N : Nat} {D : MadeD} (h : QuickAt w q pm gC gR N D) : PropsQ w q D.cls D.oth D.side D.twin D.mir D.has where
  cls := fun W hW r hr => by have := qClass_walk W q pm gC gR N D (h.below hW) (r : Nat); rwa [runeR_nat (by omega)] at this
  br := fun W hW r hr => by have := qBracket_walk W q pm gC gR N D (h.below hW) (r : Nat); rwa [runeR_nat (by omega)] at this
  tw := fun W hW r hr => by have := qTwin_walk W q pm gC gR N D (h.below hW) (r : Nat); rwa [runeR_nat (by omega)] at this
  mi := fun W hW r hr => by have := qMirror_walk W q pm gC gR N D (h.below hW) (r : Nat); rwa [runeR_nat (by omega)] at this
end Go.Proofs.Ytbmphakfgoompaa

/-
  The opener of what lists make: a struct of a class and four lists.
-/
set_option maxRecDepth 100000
namespace Go.Proofs.Ytbmphakfgoompaa
open Go.ChangeShapes Go.WideShapes Go.ChangeAt Go.RowKit Go.Joins Go.Deep

theorem b32 {x : Int} (h : (Lit.int .i32 x).wf = true) : wf32 x := by
  simpa [wf32, Lit.wf, IntKind.min, IntKind.max, IntKind.signed, IntKind.bits] using h
theorem b8 {x : Int} (h : (Lit.int .u8 x).wf = true) : 0 ≤ x ∧ x ≤ 255 := by
  simpa [Lit.wf, IntKind.min, IntKind.max, IntKind.signed, IntKind.bits] using h
theorem elem_fields {H : Type} {enc : TypeId × Value → H} {P : Program} {w : World} {b0 : Nat} {sp : Nat → Bool} {held : Bool} {e : TypeId} {fs : Array Field} {n : Nat} {a : Addr} {o : Nat} {cs : List Value} {x : DataW H × List MemPlace}
    (he : P.underlying e = some (.struct fs)) (hone : oneCellFields P fs = true) (hC : P.cellsOf e = fs.size) (hc : w.cells? b0 (a.add o) (P.cellsOf e) = some cs) (h : DataW.trod enc P w b0 sp held n e cs = some x) :
    ∀ (j : Nat) (f : Field), fs[j]? = some f → ∃ (v : Value) (y : DataW H × List MemPlace) (n' : Nat), w.cell? (a.add (o + j)) = some v ∧ DataW.trod enc P w b0 sp held n' f.type [v] = some y := by
  obtain ⟨_, hl, hat⟩ := World.cells?_some hc
  obtain ⟨xs, n', _, _, _, hxl, hf⟩ := DataW.trod_struct he h
  intro j f hj
  have hjl : j < fs.size := (Array.getElem?_eq_some_iff.1 hj).1
  have hjc : j < cs.length := by omega
  obtain ⟨ho, hk⟩ := Deep.hone_of hone j f hj
  have h1 := hf j f hj
  rw [ho, hk, show (cs.drop j).take 1 = [cs[j]] by rw [List.drop_eq_getElem_cons hjc]; rfl, List.getElem?_eq_getElem (show j < xs.length by omega)] at h1
  refine ⟨cs[j], _, n', ?_, h1⟩
  have h2 := hat j (by omega)
  rw [List.getElem?_eq_getElem hjc, Go.Deep.add_add] at h2
  exact h2
theorem exists_rows {α : Type} {Q : Nat → α → Prop} (n : Nat) (h : ∀ i, i < n → ∃ c, Q i c) : ∃ cs : List α, cs.length = n ∧ ∀ i (hi : i < cs.length), Q i cs[i] := by
  induction n with
  | zero => exact ⟨[], rfl, fun i hi => absurd hi (by simp)⟩
  | succ n ih =>
    obtain ⟨cs, hl, hq⟩ := ih (fun i hi => h i (by omega))
    obtain ⟨c, hc⟩ := h n (by omega)
    refine ⟨cs ++ [c], by simp [hl], fun i hi => ?_⟩
    by_cases hin : i < cs.length
    · rw [List.getElem_append_left hin]; exact hq i hin
    · have : i = n := by simp at hi; omega
      subst this
      subst hl
      rw [List.getElem_concat_length rfl]
      exact hc
def spanW (s : SpanD) : Prop := wf32 s.f ∧ wf32 s.t ∧ 0 ≤ s.v ∧ s.v ≤ 255
def twW2 (s : TwD) : Prop := wf32 s.a ∧ wf32 s.s
theorem rows3_fld {H : Type} {enc : TypeId × Value → H} {W : World} {t e c8 : TypeId} {f0 f1 f2 : Field} {v : Value} {n : Nat} {y : DataW H × List MemPlace}
    (ht : Try.prog.underlying t = some (.slice e)) (he : Try.prog.underlying e = some (.struct #[f0, f1, f2])) (h1 : oneCellFields Try.prog #[f0, f1, f2] = true) (hC : Try.prog.cellsOf e = 3)
    (e0 : Try.prog.underlying f0.type = some (.int .i32)) (e1 : Try.prog.underlying f1.type = some (.int .i32)) (e2 : Try.prog.underlying f2.type = some (.int .u8))
    (h : DataW.trod enc Try.prog W 0 (fun _ => true) true n t [v] = some y) : ∃ a len cap rs, v = .slice a len cap ∧ rs.length = len ∧ len ≤ cap ∧ cap ≤ maxLen ∧ SpansAt W a rs ∧ ∀ s ∈ rs, spanW s := by
  rcases Deep.open_slice ht h with ⟨hcs, hx⟩ | ⟨a, len, cap, m, n', D, Pl, hcs, _, hlc, hcm, hm, hx, hel⟩
  · simp [Value.cells] at hcs
    exact ⟨none, 0, 0, [], hcs, rfl, Nat.le_refl _, Nat.zero_le _, fun i hi => absurd hi (by simp), fun p hp => by cases hp⟩
  · simp [Value.cells] at hcs
    subst hcs
    have hm' : m = cap := by simpa using hm
    have hsp : 0 < len → a.spot = none := by
      intro hi
      obtain ⟨cs', hc, ht'⟩ := hel 0 (by omega)
      rw [hC] at hc
      obtain ⟨v0, y0, n0, k0, t0⟩ := elem_fields he h1 hC (by rw [hC]; exact hc) ht' 0 _ rfl
      simpa [Addr.add] using World.cell?_spot k0
    have hch : ∀ i, i < len → ∃ c : SpanD, spanW c ∧ ∃ b o, some a = some ⟨b, o, none⟩ ∧ W.cell? ⟨b, o + i * 3, none⟩ = some (.int .i32 c.f) ∧ W.cell? ⟨b, o + i * 3 + 1, none⟩ = some (.int .i32 c.t) ∧ W.cell? ⟨b, o + i * 3 + 2, none⟩ = some (.int .u8 c.v) := by
      intro i hi
      have hsp := hsp (by omega)
      obtain ⟨cs', hc, ht'⟩ := hel i (by omega)
      rw [hC] at hc
      have hf := elem_fields he h1 hC (by rw [hC]; exact hc) ht'
      obtain ⟨v0, y0, n0, k0, t0⟩ := hf 0 _ rfl
      obtain ⟨v1, y1, n1, k1, t1⟩ := hf 1 _ rfl
      obtain ⟨v2, y2, n2, k2, t2⟩ := hf 2 _ rfl
      obtain ⟨x0, d0, _, w0⟩ := DataW.trod_int e0 t0
      obtain ⟨x1, d1, _, w1⟩ := DataW.trod_int e1 t1
      obtain ⟨x2, d2, _, w2⟩ := DataW.trod_int e2 t2
      simp at d0 d1 d2
      subst d0 d1 d2
      obtain ⟨b, o, sp⟩ := a
      simp only at hsp
      subst hsp
      simp only [Addr.add_lit, Nat.add_zero, ← Nat.add_assoc] at k0 k1 k2
      exact ⟨⟨x0, x1, x2⟩, ⟨b32 w0, b32 w1, b8 w2⟩, b, o, rfl, k0, k1, k2⟩
    obtain ⟨chs, hl, hq⟩ := exists_rows len hch
    refine ⟨some a, len, cap, chs, rfl, hl, hlc, hcm, fun i hi => (hq i hi).2, fun p hp => ?_⟩
    obtain ⟨i, hi, rfl⟩ := List.mem_iff_getElem.1 hp
    exact (hq i hi).1
theorem rows2_fld {H : Type} {enc : TypeId × Value → H} {W : World} {t e : TypeId} {f0 f1 : Field} {v : Value} {n : Nat} {y : DataW H × List MemPlace}
    (ht : Try.prog.underlying t = some (.slice e)) (he : Try.prog.underlying e = some (.struct #[f0, f1])) (h1 : oneCellFields Try.prog #[f0, f1] = true) (hC : Try.prog.cellsOf e = 2)
    (e0 : Try.prog.underlying f0.type = some (.int .i32)) (e1 : Try.prog.underlying f1.type = some (.int .i32))
    (h : DataW.trod enc Try.prog W 0 (fun _ => true) true n t [v] = some y) : ∃ a len cap rs, v = .slice a len cap ∧ rs.length = len ∧ len ≤ cap ∧ cap ≤ maxLen ∧ TwAt W a rs ∧ ∀ s ∈ rs, twW2 s := by
  rcases Deep.open_slice ht h with ⟨hcs, hx⟩ | ⟨a, len, cap, m, n', D, Pl, hcs, _, hlc, hcm, hm, hx, hel⟩
  · simp [Value.cells] at hcs
    exact ⟨none, 0, 0, [], hcs, rfl, Nat.le_refl _, Nat.zero_le _, fun i hi => absurd hi (by simp), fun p hp => by cases hp⟩
  · simp [Value.cells] at hcs
    subst hcs
    have hm' : m = cap := by simpa using hm
    have hsp : 0 < len → a.spot = none := by
      intro hi
      obtain ⟨cs', hc, ht'⟩ := hel 0 (by omega)
      rw [hC] at hc
      obtain ⟨v0, y0, n0, k0, t0⟩ := elem_fields he h1 hC (by rw [hC]; exact hc) ht' 0 _ rfl
      simpa [Addr.add] using World.cell?_spot k0
    have hch : ∀ i, i < len → ∃ c : TwD, twW2 c ∧ ∃ b o, some a = some ⟨b, o, none⟩ ∧ W.cell? ⟨b, o + i * 2, none⟩ = some (.int .i32 c.a) ∧ W.cell? ⟨b, o + i * 2 + 1, none⟩ = some (.int .i32 c.s) := by
      intro i hi
      have hsp := hsp (by omega)
      obtain ⟨cs', hc, ht'⟩ := hel i (by omega)
      rw [hC] at hc
      have hf := elem_fields he h1 hC (by rw [hC]; exact hc) ht'
      obtain ⟨v0, y0, n0, k0, t0⟩ := hf 0 _ rfl
      obtain ⟨v1, y1, n1, k1, t1⟩ := hf 1 _ rfl
      obtain ⟨x0, d0, _, w0⟩ := DataW.trod_int e0 t0
      obtain ⟨x1, d1, _, w1⟩ := DataW.trod_int e1 t1
      simp at d0 d1
      subst d0 d1
      obtain ⟨b, o, sp⟩ := a
      simp only at hsp
      subst hsp
      simp only [Addr.add_lit, Nat.add_zero, ← Nat.add_assoc] at k0 k1
      exact ⟨⟨x0, x1⟩, ⟨b32 w0, b32 w1⟩, b, o, rfl, k0, k1⟩
    obtain ⟨chs, hl, hq⟩ := exists_rows len hch
    refine ⟨some a, len, cap, chs, rfl, hl, hlc, hcm, fun i hi => (hq i hi).2, fun p hp => ?_⟩
    obtain ⟨i, hi, rfl⟩ := List.mem_iff_getElem.1 hp
    exact (hq i hi).1
theorem open_agg5 {H : Type} {enc : TypeId × Value → H} {P : Program} {w : World} {base : Nat} {spare : Nat → Bool} {held : Bool} {r : Reach} {b0 : Nat} {t : TypeId} {f0 f1 f2 f3 f4 : Field} {v : Value} {d : DataW H} {p : List MemPlace} (hs : P.underlying t = some (.struct #[f0, f1, f2, f3, f4])) (hone : oneCellFields P #[f0, f1, f2, f3, f4] = true) (hC : P.cellsOf t = 5)
    (hv : Value.okWide P w r b0 t v) (h : DataW.Trod enc P w base spare held t v d p) :
    ∃ (v0 v1 v2 v3 v4 : Value) (y0 y1 y2 y3 y4 : DataW H × List MemPlace) (n : Nat), v = .agg #[v0, v1, v2, v3, v4] ∧
      DataW.trod enc P w base spare held n f0.type [v0] = some y0 ∧ DataW.trod enc P w base spare held n f1.type [v1] = some y1 ∧ DataW.trod enc P w base spare held n f2.type [v2] = some y2 ∧ DataW.trod enc P w base spare held n f3.type [v3] = some y3 ∧ DataW.trod enc P w base spare held n f4.type [v4] = some y4 := by
  obtain ⟨cs, rfl, hsz⟩ := okWide_struct hs hv
  obtain ⟨c0, c1, c2, c3, c4, rfl⟩ : ∃ c0 c1 c2 c3 c4, cs = #[c0, c1, c2, c3, c4] := by
    obtain ⟨l⟩ := cs
    match l, hsz.trans hC with
    | [c0, c1, c2, c3, c4], _ => exact ⟨c0, c1, c2, c3, c4, rfl⟩
  obtain ⟨fuel, hf⟩ := h
  obtain ⟨xs, n, _, hx, hl, hlen, hf⟩ := DataW.trod_struct hs hf
  match xs, hlen with
  | [y0, y1, y2, y3, y4], _ =>
    obtain ⟨o0, k0⟩ := hone_of hone 0 f0 rfl
    obtain ⟨o1, k1⟩ := hone_of hone 1 f1 rfl
    obtain ⟨o2, k2⟩ := hone_of hone 2 f2 rfl
    obtain ⟨o3, k3⟩ := hone_of hone 3 f3 rfl
    obtain ⟨o4, k4⟩ := hone_of hone 4 f4 rfl
    exact ⟨c0, c1, c2, c3, c4, y0, y1, y2, y3, y4, n, rfl, by simpa [Value.cells, o0, k0] using hf 0 f0 rfl, by simpa [Value.cells, o1, k1] using hf 1 f1 rfl, by simpa [Value.cells, o2, k2] using hf 2 f2 rfl, by simpa [Value.cells, o3, k3] using hf 3 f3 rfl, by simpa [Value.cells, o4, k4] using hf 4 f4 rfl⟩
/-- what is told of lists that came in: no bound on their lengths but memory's -/
structure MadeRw (w : World) (D : MadeD) (a1 : Option Addr) (n1 c1 : Nat) (a2 : Option Addr) (n2 c2 : Nat) (a3 : Option Addr) (n3 c3 : Nat) (a4 : Option Addr) (n4 c4 : Nat) : Prop where
  h1 : D.l1.length = n1
  h2 : D.l2.length = n2
  h3 : D.l3.length = n3
  h4 : D.l4.length = n4
  k1 : n1 ≤ c1 ∧ c1 ≤ maxLen
  k2 : n2 ≤ c2 ∧ c2 ≤ maxLen
  k3 : n3 ≤ c3 ∧ c3 ≤ maxLen
  k4 : n4 ≤ c4 ∧ c4 ≤ maxLen
  s1 : SpansAt w a1 D.l1
  s2 : SpansAt w a2 D.l2
  s3 : TwAt w a3 D.l3
  s4 : TwAt w a4 D.l4
  r : 0 ≤ D.rest ∧ D.rest ≤ 255
  w1 : ∀ s ∈ D.l1, spanW s
  w2 : ∀ s ∈ D.l2, spanW s
  w3 : ∀ s ∈ D.l3, twW2 s
  w4 : ∀ s ∈ D.l4, twW2 s
theorem MadeRw.sl {w : World} {D : MadeD} {a1 : Option Addr} {n1 c1 : Nat} {a2 : Option Addr} {n2 c2 : Nat} {a3 : Option Addr} {n3 c3 : Nat} {a4 : Option Addr} {n4 c4 : Nat} (h : MadeRw w D a1 n1 c1 a2 n2 c2 a3 n3 c3 a4 n4 c4) (b1 : n1 ≤ 20) (b2 : n2 ≤ 20) (b3 : n3 ≤ 20) (b4 : n4 ≤ 20) :
    MadeSl w D a1 n1 c1 a2 n2 c2 a3 n3 c3 a4 n4 c4 := ⟨h.h1, h.h2, h.h3, h.h4, by omega, by omega, by omega, by omega, h.s1, h.s2, h.s3, h.s4⟩
theorem Try.cellsMade : Try.prog.cellsOf 38 = 5 := by kernel_rfl
theorem made_open {H : Type} {enc : TypeId × Value → H} {W : World} {b0 : Nat} {v : Value} {d : DataW H} {p : List MemPlace}
    (hv : Value.okWide Try.prog W .any b0 38 v) (h : DataW.Trod enc Try.prog W 0 (fun _ => true) true 38 v d p) :
    ∃ (D : MadeD) (a1 : Option Addr) (n1 c1 : Nat) (a2 : Option Addr) (n2 c2 : Nat) (a3 : Option Addr) (n3 c3 : Nat) (a4 : Option Addr) (n4 c4 : Nat), v = .agg #[.int .u8 D.rest, .slice a1 n1 c1, .slice a2 n2 c2, .slice a3 n3 c3, .slice a4 n4 c4] ∧ MadeRw W D a1 n1 c1 a2 n2 c2 a3 n3 c3 a4 n4 c4 := by
  obtain ⟨v0, v1, v2, v3, v4, y0, y1, y2, y3, y4, m, rfl, h0, h1, h2, h3, h4⟩ := open_agg5 Try.underlying38 (by kernel_rfl) Try.cellsMade hv h
  obtain ⟨x, e0, _, wx⟩ := DataW.trod_int Try.underlying26 h0
  simp at e0
  subst e0
  obtain ⟨a1, n1, c1, l1, rfl, p1, q1, m1, s1, w1⟩ := rows3_fld (c8 := 0) Try.underlying29 Try.underlying28 (by kernel_rfl) (by kernel_rfl) Try.underlying21 Try.underlying21 Try.underlying26 h1
  obtain ⟨a2, n2, c2, l2, rfl, p2, q2, m2, s2, w2⟩ := rows3_fld (c8 := 0) Try.underlying33 Try.underlying32 (by kernel_rfl) (by kernel_rfl) Try.underlying21 Try.underlying21 Try.underlying30 h2
  obtain ⟨a3, n3, c3, l3, rfl, p3, q3, m3, s3, w3⟩ := rows2_fld Try.underlying36 Try.underlying80 (by kernel_rfl) (by kernel_rfl) Try.underlying21 Try.underlying21 h3
  obtain ⟨a4, n4, c4, l4, rfl, p4, q4, m4, s4, w4⟩ := rows2_fld Try.underlying36 Try.underlying80 (by kernel_rfl) (by kernel_rfl) Try.underlying21 Try.underlying21 h4
  exact ⟨⟨x, l1, l2, l3, l4⟩, a1, n1, c1, a2, n2, c2, a3, n3, c3, a4, n4, c4, rfl, ⟨p1, p2, p3, p4, ⟨q1, m1⟩, ⟨q2, m2⟩, ⟨q3, m3⟩, ⟨q4, m4⟩, s1, s2, s3, s4, b8 wx, w1, w2, w3, w4⟩⟩
end Go.Proofs.Ytbmphakfgoompaa
