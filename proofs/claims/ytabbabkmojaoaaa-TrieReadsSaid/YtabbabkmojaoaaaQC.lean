/- several texts in one: F2 F4 -/
import Derived.Test.YtabbabkmojaoaaaF1
import Derived.Test.YtabbabkmojaoaaaQB
set_option linter.unusedVariables false
set_option linter.unusedSimpArgs false
/-
  The openers of a span and of a list of spans.
-/
set_option maxRecDepth 100000
namespace Go.Proofs.Ytabbabkmojaoaaa
open Go.ChangeShapes Go.WideShapes Go.ChangeAt Go.RowKit Go.Joins Go.Deep

theorem b32 {x : Int} (h : (Lit.int .i32 x).wf = true) : -2147483648 ≤ x ∧ x ≤ 2147483647 := by
  simpa [Lit.wf, IntKind.min, IntKind.max, IntKind.signed, IntKind.bits] using h
theorem b8 {x : Int} (h : (Lit.int .u8 x).wf = true) : 0 ≤ x ∧ x ≤ 255 := by
  simpa [Lit.wf, IntKind.min, IntKind.max, IntKind.signed, IntKind.bits] using h
/-- one element of a row of structs of one-cell fields: its fields -/
theorem elem_fields {H : Type} {enc : TypeId × Value → H} {P : Program} {w : World} {b0 : Nat} {sp : Nat → Bool} {held : Bool} {e : TypeId} {fs : Array Field} {n : Nat} {a : Addr} {o : Nat} {cs : List Value} {x : DataW H × List MemPlace}
    (he : P.underlying e = some (.struct fs)) (hone : oneCellFields P fs = true) (hC : P.cellsOf e = fs.size) (hc : w.cells? b0 (a.add o) (P.cellsOf e) = some cs) (h : DataW.trod enc P w b0 sp held n e cs = some x) :
    ∀ (j : Nat) (f : Field), fs[j]? = some f → ∃ (v : Value) (y : DataW H × List MemPlace) (n' : Nat), w.cell? (a.add (o + j)) = some v ∧ DataW.trod enc P w b0 sp held n' f.type [v] = some y := by
  obtain ⟨_, hl, hat⟩ := World.cells?_some hc
  obtain ⟨xs, n', _, _, _, hxl, hf⟩ := DataW.trod_struct he h
  intro j f hj
  have hjl : j < fs.size := (Array.getElem?_eq_some_iff.1 hj).1
  have hjc : j < cs.length := by omega
  obtain ⟨ho, hk⟩ := Deep.hone_of hone j f hj
  have h1 := hf j f hj
  rw [ho, hk, show (cs.drop j).take 1 = [cs[j]] by rw [List.drop_eq_getElem_cons hjc]; rfl, List.getElem?_eq_getElem (show j < xs.length by omega)] at h1
  refine ⟨cs[j], _, n', ?_, h1⟩
  have h2 := hat j (by omega)
  rw [List.getElem?_eq_getElem hjc, Go.Deep.add_add] at h2
  exact h2

theorem exists_spans {Q : Nat → SpanD → Prop} (n : Nat) (h : ∀ i, i < n → ∃ c, Q i c) : ∃ cs : List SpanD, cs.length = n ∧ ∀ i (hi : i < cs.length), Q i cs[i] := by
  induction n with
  | zero => exact ⟨[], rfl, fun i hi => absurd hi (by simp)⟩
  | succ n ih =>
    obtain ⟨cs, hl, hq⟩ := ih (fun i hi => h i (by omega))
    obtain ⟨c, hc⟩ := h n (by omega)
    refine ⟨cs ++ [c], by simp [hl], fun i hi => ?_⟩
    by_cases hin : i < cs.length
    · rw [List.getElem_append_left hin]; exact hq i hin
    · have : i = n := by simp at hi; omega
      subst this
      subst hl
      rw [List.getElem_concat_length rfl]
      exact hc
def spanW (s : SpanD) : Prop := -2147483648 ≤ s.f ∧ s.f ≤ 2147483647 ∧ -2147483648 ≤ s.t ∧ s.t ≤ 2147483647 ∧ 0 ≤ s.v ∧ s.v ≤ 255
theorem Try.cellsSpan : Try.prog.cellsOf 24 = 3 := by kernel_rfl
theorem span_open {H : Type} {enc : TypeId × Value → H} {W : World} {b0 : Nat} {v : Value} {d : DataW H} {p : List MemPlace}
    (hv : Value.okWide Try.prog W .any b0 24 v) (h : DataW.Trod enc Try.prog W 0 (fun _ => true) true 24 v d p) :
    ∃ s : SpanD, v = .agg #[.int .i32 s.f, .int .i32 s.t, .int .u8 s.v] ∧ spanW s := by
  obtain ⟨v0, v1, v2, y0, y1, y2, m, rfl, _, _, h0, h1, h2⟩ := open_agg3 Try.underlying24 (by kernel_rfl) Try.cellsSpan hv h
  obtain ⟨x, e0, _, wx⟩ := DataW.trod_int Try.underlying21 h0
  obtain ⟨y, e1, _, wy⟩ := DataW.trod_int Try.underlying21 h1
  obtain ⟨z, e2, _, wz⟩ := DataW.trod_int Try.underlying5 h2
  simp at e0 e1 e2
  subst e0 e1 e2
  exact ⟨⟨x, y, z⟩, rfl, (b32 wx).1, (b32 wx).2, (b32 wy).1, (b32 wy).2, (b8 wz).1, (b8 wz).2⟩
theorem spans_open {H : Type} {enc : TypeId × Value → H} {W : World} {b0 : Nat} {v : Value} {d : DataW H} {p : List MemPlace}
    (hv : Value.okWide Try.prog W .any b0 22 v) (h : DataW.Trod enc Try.prog W 0 (fun _ => true) true 22 v d p) :
    ∃ a len cap rs, v = .slice a len cap ∧ (rs.length = len ∧ SpansAt W a rs ∧ (a = none → cap = 0)) ∧ (∀ s ∈ rs, spanW s) ∧ len + 1 ≤ Rows.uptoBulk d := by
  obtain ⟨a0, len0, cap0, rfl⟩ := okWide_slice Try.underlying22 hv
  obtain ⟨fuel, hf⟩ := h
  rcases Deep.open_slice Try.underlying22 hf with ⟨hcs, hx⟩ | ⟨a, len, cap, m, n', D, Pl, hcs, _, hlc, hcm, hm, hx, hel⟩
  · simp [Value.cells] at hcs
    obtain ⟨rfl, rfl, rfl⟩ := hcs
    exact ⟨none, 0, 0, [], rfl, ⟨rfl, fun i hi => absurd hi (by simp), fun _ => rfl⟩, (fun p hp => by cases hp), bulk_one d⟩
  · simp [Value.cells] at hcs
    obtain ⟨rfl, rfl, rfl⟩ := hcs
    have hm' : m = cap0 := by simpa using hm
    have hsp : 0 < len0 → a.spot = none := by
      intro hi
      obtain ⟨cs', hc, ht⟩ := hel 0 (by omega)
      rw [Try.cellsSpan] at hc
      obtain ⟨v0, y0, n0, k0, t0⟩ := elem_fields Try.underlying24 (by kernel_rfl) Try.cellsSpan (by rw [Try.cellsSpan]; exact hc) ht 0 _ rfl
      simpa [Addr.add] using World.cell?_spot k0
    have hch : ∀ i, i < len0 → ∃ c : SpanD, spanW c ∧ ∃ b o, some a = some ⟨b, o, none⟩ ∧ W.cell? ⟨b, o + i * 3, none⟩ = some (.int .i32 c.f) ∧ W.cell? ⟨b, o + i * 3 + 1, none⟩ = some (.int .i32 c.t) ∧ W.cell? ⟨b, o + i * 3 + 2, none⟩ = some (.int .u8 c.v) := by
      intro i hi
      have hsp := hsp (by omega)
      obtain ⟨cs', hc, ht⟩ := hel i (by omega)
      rw [Try.cellsSpan] at hc
      have hf := elem_fields Try.underlying24 (by kernel_rfl) Try.cellsSpan (by rw [Try.cellsSpan]; exact hc) ht
      obtain ⟨v0, y0, n0, k0, t0⟩ := hf 0 _ rfl
      obtain ⟨v1, y1, n1, k1, t1⟩ := hf 1 _ rfl
      obtain ⟨v2, y2, n2, k2, t2⟩ := hf 2 _ rfl
      obtain ⟨x0, e0, _, w0⟩ := DataW.trod_int Try.underlying21 t0
      obtain ⟨x1, e1, _, w1⟩ := DataW.trod_int Try.underlying21 t1
      obtain ⟨x2, e2, _, w2⟩ := DataW.trod_int Try.underlying5 t2
      simp at e0 e1 e2
      subst e0 e1 e2
      obtain ⟨b, o, sp⟩ := a
      simp only at hsp
      subst hsp
      simp only [Addr.add_lit, Nat.add_zero, ← Nat.add_assoc] at k0 k1 k2
      exact ⟨⟨x0, x1, x2⟩, ⟨(b32 w0).1, (b32 w0).2, (b32 w1).1, (b32 w1).2, (b8 w2).1, (b8 w2).2⟩, b, o, rfl, k0, k1, k2⟩
    obtain ⟨chs, hl, hq⟩ := exists_spans len0 hch
    refine ⟨some a, len0, cap0, chs, rfl, ⟨hl, fun i hi => (hq i hi).2, fun e => by cases e⟩, fun p hp => ?_, ?_⟩
    · obtain ⟨i, hi, rfl⟩ := List.mem_iff_getElem.1 hp
      exact (hq i hi).1
    obtain rfl := congrArg Prod.fst hx
    have := bulk_slice ((List.range len0).map D) ((List.range (m - len0)).map fun j => D (len0 + j))
    simpa using this
end Go.Proofs.Ytabbabkmojaoaaa

/-
  The openers of parts of numbers and of a list of patches.
-/
set_option maxRecDepth 100000
namespace Go.Proofs.Ytabbabkmojaoaaa
open Go.ChangeShapes Go.WideShapes Go.ChangeAt Go.RowKit Go.Joins Go.Deep

theorem row_fld {H : Type} {enc : TypeId × Value → H} {W : World} {t e : TypeId} {k : IntKind} {v : Value} {n : Nat} {y : DataW H × List MemPlace}
    (ht : Try.prog.underlying t = some (.slice e)) (he : Try.prog.underlying e = some (.int k)) (hc : Try.prog.cellsOf e = 1)
    (h : DataW.trod enc Try.prog W 0 (fun _ => true) true n t [v] = some y) : ∃ a len cap zs, v = .slice a len cap ∧ IsRow k W a len cap zs := by
  rcases open_ints ht he hc h with ⟨hcs, hx⟩ | ⟨x, l, c, zs, hcs, _, hl, hm, hz, hx, hcell, hwz⟩
  · simp at hcs
    exact ⟨none, 0, 0, [], hcs, .inl ⟨rfl, rfl, rfl, rfl⟩⟩
  · simp at hcs
    have hz' : zs.length = c := by simpa using hz
    exact ⟨some x, l, c, zs, hcs, .inr ⟨_, rfl, hl, hm, hz', hcell, hwz⟩⟩
theorem Try.cellsParts : Try.prog.cellsOf 79 = 3 := by kernel_rfl
theorem parts_open {H : Type} {enc : TypeId × Value → H} {W : World} {b0 : Nat} {v : Value} {d : DataW H} {p : List MemPlace}
    (hv : Value.okWide Try.prog W .any b0 79 v) (h : DataW.Trod enc Try.prog W 0 (fun _ => true) true 79 v d p) :
    ∃ aT nT cT zT aM nM cM zM aL nL cL zL, v = .agg #[.slice aT nT cT, .slice aM nM cM, .slice aL nL cL] ∧ IsRow .u16 W aT nT cT zT ∧ IsRow .u16 W aM nM cM zM ∧ IsRow .u8 W aL nL cL zL := by
  obtain ⟨v0, v1, v2, y0, y1, y2, m, rfl, _, _, h0, h1, h2⟩ := open_agg3 Try.underlying79 (by kernel_rfl) Try.cellsParts hv h
  obtain ⟨aT, nT, cT, zT, rfl, r0⟩ := row_fld Try.underlying76 Try.underlying91 (by kernel_rfl) h0
  obtain ⟨aM, nM, cM, zM, rfl, r1⟩ := row_fld Try.underlying76 Try.underlying91 (by kernel_rfl) h1
  obtain ⟨aL, nL, cL, zL, rfl, r2⟩ := row_fld Try.underlying77 Try.underlying5 (by kernel_rfl) h2
  exact ⟨_, _, _, _, _, _, _, _, _, _, _, _, rfl, r0, r1, r2⟩
structure PatchD where
  st : Int
  pl : Int
  vv : Nat
  deriving Inhabited
def PatchesAt (w : World) (a : Option Addr) (l : List PatchD) : Prop := ∀ i (h : i < l.length), ∃ b o, a = some ⟨b, o, none⟩ ∧ w.cell? ⟨b, o + i * 3, none⟩ = some (.int .i64 l[i].st) ∧ w.cell? ⟨b, o + i * 3 + 1, none⟩ = some (.int .i64 l[i].pl) ∧ w.cell? ⟨b, o + i * 3 + 2, none⟩ = some (.int .u16 (l[i].vv : Nat))
def patchW (s : PatchD) : Prop := -9223372036854775808 ≤ s.pl ∧ s.pl ≤ 9223372036854775807 ∧ s.vv ≤ 65535
theorem exists_patches {Q : Nat → PatchD → Prop} (n : Nat) (h : ∀ i, i < n → ∃ c, Q i c) : ∃ cs : List PatchD, cs.length = n ∧ ∀ i (hi : i < cs.length), Q i cs[i] := by
  induction n with
  | zero => exact ⟨[], rfl, fun i hi => absurd hi (by simp)⟩
  | succ n ih =>
    obtain ⟨cs, hl, hq⟩ := ih (fun i hi => h i (by omega))
    obtain ⟨c, hc⟩ := h n (by omega)
    refine ⟨cs ++ [c], by simp [hl], fun i hi => ?_⟩
    by_cases hin : i < cs.length
    · rw [List.getElem_append_left hin]; exact hq i hin
    · have : i = n := by simp at hi; omega
      subst this
      subst hl
      rw [List.getElem_concat_length rfl]
      exact hc
theorem Try.cellsPatch : Try.prog.cellsOf 95 = 3 := by kernel_rfl
theorem b16 {x : Int} (h : (Lit.int .u16 x).wf = true) : 0 ≤ x ∧ x ≤ 65535 := by
  simpa [Lit.wf, IntKind.min, IntKind.max, IntKind.signed, IntKind.bits] using h
theorem patches_open {H : Type} {enc : TypeId × Value → H} {W : World} {b0 : Nat} {v : Value} {d : DataW H} {p : List MemPlace}
    (hv : Value.okWide Try.prog W .any b0 93 v) (h : DataW.Trod enc Try.prog W 0 (fun _ => true) true 93 v d p) :
    ∃ a len cap rs, v = .slice a len cap ∧ (rs.length = len ∧ PatchesAt W a rs) ∧ (∀ s ∈ rs, patchW s) ∧ len ≤ 9223372036854775807 := by
  obtain ⟨a0, len0, cap0, rfl⟩ := okWide_slice Try.underlying93 hv
  obtain ⟨fuel, hf⟩ := h
  rcases Deep.open_slice Try.underlying93 hf with ⟨hcs, hx⟩ | ⟨a, len, cap, m, n', D, Pl, hcs, _, hlc, hcm, hm, hx, hel⟩
  · simp [Value.cells] at hcs
    obtain ⟨rfl, rfl, rfl⟩ := hcs
    exact ⟨none, 0, 0, [], rfl, ⟨rfl, fun i hi => absurd hi (by simp)⟩, (fun p hp => by cases hp), by omega⟩
  · simp [Value.cells] at hcs
    obtain ⟨rfl, rfl, rfl⟩ := hcs
    have hm' : m = cap0 := by simpa using hm
    have hsp : 0 < len0 → a.spot = none := by
      intro hi
      obtain ⟨cs', hc, ht⟩ := hel 0 (by omega)
      rw [Try.cellsPatch] at hc
      obtain ⟨v0, y0, n0, k0, t0⟩ := elem_fields Try.underlying95 (by kernel_rfl) Try.cellsPatch (by rw [Try.cellsPatch]; exact hc) ht 0 _ rfl
      simpa [Addr.add] using World.cell?_spot k0
    have hch : ∀ i, i < len0 → ∃ c : PatchD, patchW c ∧ ∃ b o, some a = some ⟨b, o, none⟩ ∧ W.cell? ⟨b, o + i * 3, none⟩ = some (.int .i64 c.st) ∧ W.cell? ⟨b, o + i * 3 + 1, none⟩ = some (.int .i64 c.pl) ∧ W.cell? ⟨b, o + i * 3 + 2, none⟩ = some (.int .u16 (c.vv : Nat)) := by
      intro i hi
      have hsp := hsp (by omega)
      obtain ⟨cs', hc, ht⟩ := hel i (by omega)
      rw [Try.cellsPatch] at hc
      have hf := elem_fields Try.underlying95 (by kernel_rfl) Try.cellsPatch (by rw [Try.cellsPatch]; exact hc) ht
      obtain ⟨v0, y0, n0, k0, t0⟩ := hf 0 _ rfl
      obtain ⟨v1, y1, n1, k1, t1⟩ := hf 1 _ rfl
      obtain ⟨v2, y2, n2, k2, t2⟩ := hf 2 _ rfl
      obtain ⟨x0, e0, _, w0⟩ := DataW.trod_int Try.underlying3 t0
      obtain ⟨x1, e1, _, w1⟩ := DataW.trod_int Try.underlying3 t1
      obtain ⟨x2, e2, _, w2⟩ := DataW.trod_int Try.underlying91 t2
      simp at e0 e1 e2
      subst e0 e1 e2
      obtain ⟨b, o, sp⟩ := a
      simp only at hsp
      subst hsp
      simp only [Addr.add_lit, Nat.add_zero, ← Nat.add_assoc] at k0 k1 k2
      have hx2 := b16 w2
      have hn : ((x2.toNat : Nat) : Int) = x2 := by omega
      exact ⟨⟨x0, x1, x2.toNat⟩, ⟨(b64 w1).1, (b64 w1).2, by show x2.toNat ≤ 65535; omega⟩, b, o, rfl, k0, k1, by rw [hn]; exact k2⟩
    obtain ⟨chs, hl, hq⟩ := exists_patches len0 hch
    refine ⟨some a, len0, cap0, chs, rfl, ⟨hl, fun i hi => (hq i hi).2⟩, fun p hp => ?_, ?_⟩
    · obtain ⟨i, hi, rfl⟩ := List.mem_iff_getElem.1 hp
      exact (hq i hi).1
    · unfold maxLen at hcm; omega
end Go.Proofs.Ytabbabkmojaoaaa
