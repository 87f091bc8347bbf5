/-
  What a statement is told of its arguments.
-/
import Derived.Test.YtkcdcgijbaepmaaW16
import Derived.Test.YtkcdcgijbaepmaaRows
import Derived.ProofKit
import Derived.OpenShut
import Derived.ShutString
import Derived.ChangeOld
import Derived.JoinedCond
import Derived.Lib.SmallJoins
import Derived.Deep.Slices
import Derived.Deep.Fields
set_option linter.unusedVariables false
set_option maxRecDepth 100000
namespace Go.Proofs.Ytkcdcgijbaepmaa
open Go.ChangeShapes Go.WideShapes Go.ChangeAt Go.RowKit Go.Joins Go.Deep

theorem bulk_one {H : Type} (d : DataW H) : 1 ≤ Rows.uptoBulk d := by
  cases d with
  | lit l => cases l <;> simp [Rows.uptoBulk]
  | _ => simp [Rows.uptoBulk]
theorem bulk_len {H : Type} (l : List (DataW H)) : l.length ≤ Rows.uptoBulkAll l := by
  induction l with
  | nil => simp [Rows.uptoBulkAll]
  | cons x r ih => have := bulk_one x; simp only [Rows.uptoBulkAll, List.length_cons]; omega
theorem bulk_slice {H : Type} (elems spare : List (DataW H)) : elems.length + 1 ≤ Rows.uptoBulk (.slice elems spare) := by
  have h1 := bulk_len elems
  simp only [Rows.uptoBulk]
  omega

theorem row_open {H : Type} {enc : TypeId × Value → H} {W : World} {b0 : Nat} {t e : TypeId} {k : IntKind} {v : Value} {d : DataW H} {p : List MemPlace}
    (ht : Try.prog.underlying t = some (.slice e)) (he : Try.prog.underlying e = some (.int k)) (hc : Try.prog.cellsOf e = 1)
    (hv : Value.okWide Try.prog W .any b0 t v) (h : DataW.Trod enc Try.prog W 0 (fun _ => true) true t v d p) :
    ∃ a len cap zs, v = .slice a len cap ∧ IsRow k W a len cap zs ∧ len + 1 ≤ Rows.uptoBulk d := by
  obtain ⟨a, len, cap, rfl⟩ := okWide_slice ht hv
  obtain ⟨fuel, hf⟩ := h
  rcases open_ints ht he hc hf with ⟨hcs, hx⟩ | ⟨x, l, c, zs, hcs, _, hl, hm, hz, hx, hcell, hwz⟩
  · simp [Value.cells] at hcs
    obtain ⟨rfl, rfl, rfl⟩ := hcs
    exact ⟨none, 0, 0, [], rfl, .inl ⟨rfl, rfl, rfl, rfl⟩, bulk_one d⟩
  · simp [Value.cells] at hcs
    obtain ⟨rfl, rfl, rfl⟩ := hcs
    have hz' : zs.length = cap := by simpa using hz
    refine ⟨some x, len, cap, zs, rfl, .inr ⟨_, rfl, hl, hm, hz', hcell, hwz⟩, ?_⟩
    obtain rfl : d = .slice (lits k (zs.take len)) (lits k (zs.drop len)) := congrArg Prod.fst hx
    have := bulk_slice (lits (H := H) k (zs.take len)) (lits k (zs.drop len))
    have hl2 : (lits (H := H) k (zs.take len)).length = len := by simp [lits]; omega
    omega
theorem Try.cellsPiece : Try.prog.cellsOf 45 = 2 := by kernel_rfl
theorem piece_open {H : Type} {enc : TypeId × Value → H} {W : World} {b0 : Nat} {v : Value} {d : DataW H} {p : List MemPlace}
    (hv : Value.okWide Try.prog W .any b0 45 v) (h : DataW.Trod enc Try.prog W 0 (fun _ => true) true 45 v d p) :
    ∃ x y, v = .agg #[.int .i64 x, .int .i64 y] ∧ (Lit.int .i64 x).wf = true ∧ (Lit.int .i64 y).wf = true := by
  obtain ⟨v0, v1, y0, y1, m, rfl, _, _, h0, h1⟩ := open_agg2 Try.underlying45 (by kernel_rfl) Try.cellsPiece hv h
  obtain ⟨x, e0, _, wx⟩ := DataW.trod_int Try.underlying3 h0
  obtain ⟨y, e1, _, wy⟩ := DataW.trod_int Try.underlying3 h1
  simp at e0 e1
  subst e0
  subst e1
  exact ⟨x, y, rfl, wx, wy⟩
theorem b64 {x : Int} (h : (Lit.int .i64 x).wf = true) : -9223372036854775808 ≤ x ∧ x ≤ 9223372036854775807 := by
  simpa [Lit.wf, IntKind.min, IntKind.max, IntKind.signed, IntKind.bits] using h
/-- one element of a row of structs of one-cell fields: its fields -/
theorem elem_fields {H : Type} {enc : TypeId × Value → H} {P : Program} {w : World} {b0 : Nat} {sp : Nat → Bool} {held : Bool} {e : TypeId} {fs : Array Field} {n : Nat} {a : Addr} {o : Nat} {cs : List Value} {x : DataW H × List MemPlace}
    (he : P.underlying e = some (.struct fs)) (hone : oneCellFields P fs = true) (hC : P.cellsOf e = fs.size) (hc : w.cells? b0 (a.add o) (P.cellsOf e) = some cs) (h : DataW.trod enc P w b0 sp held n e cs = some x) :
    ∀ (j : Nat) (f : Field), fs[j]? = some f → ∃ (v : Value) (y : DataW H × List MemPlace) (n' : Nat), w.cell? (a.add (o + j)) = some v ∧ DataW.trod enc P w b0 sp held n' f.type [v] = some y := by
  obtain ⟨_, hl, hat⟩ := World.cells?_some hc
  obtain ⟨xs, n', _, _, _, hxl, hf⟩ := DataW.trod_struct he h
  intro j f hj
  have hjl : j < fs.size := (Array.getElem?_eq_some_iff.1 hj).1
  have hjc : j < cs.length := by omega
  obtain ⟨ho, hk⟩ := Deep.hone_of hone j f hj
  have h1 := hf j f hj
  rw [ho, hk, show (cs.drop j).take 1 = [cs[j]] by rw [List.drop_eq_getElem_cons hjc]; rfl, List.getElem?_eq_getElem (show j < xs.length by omega)] at h1
  refine ⟨cs[j], _, n', ?_, h1⟩
  have h2 := hat j (by omega)
  rw [List.getElem?_eq_getElem hjc, Go.Deep.add_add] at h2
  exact h2

theorem exists_pieces {Q : Nat → PD → Prop} (n : Nat) (h : ∀ i, i < n → ∃ c, Q i c) : ∃ cs : List PD, cs.length = n ∧ ∀ i (hi : i < cs.length), Q i cs[i] := by
  induction n with
  | zero => exact ⟨[], rfl, fun i hi => absurd hi (by simp)⟩
  | succ n ih =>
    obtain ⟨cs, hl, hq⟩ := ih (fun i hi => h i (by omega))
    obtain ⟨c, hc⟩ := h n (by omega)
    refine ⟨cs ++ [c], by simp [hl], fun i hi => ?_⟩
    by_cases hin : i < cs.length
    · rw [List.getElem_append_left hin]; exact hq i hin
    · have : i = n := by simp at hi; omega
      subst this
      subst hl
      rw [List.getElem_concat_length rfl]
      exact hc
theorem pieces_open {H : Type} {enc : TypeId × Value → H} {W : World} {b0 : Nat} {v : Value} {d : DataW H} {p : List MemPlace}
    (hv : Value.okWide Try.prog W .any b0 22 v) (h : DataW.Trod enc Try.prog W 0 (fun _ => true) true 22 v d p) :
    ∃ a len cap rs, v = .slice a len cap ∧ (rs.length = len ∧ PiecesAt W a rs ∧ (a = none → cap = 0)) ∧ len + 1 ≤ Rows.uptoBulk d := by
  obtain ⟨a0, len0, cap0, rfl⟩ := okWide_slice Try.underlying22 hv
  obtain ⟨fuel, hf⟩ := h
  rcases Deep.open_slice Try.underlying22 hf with ⟨hcs, hx⟩ | ⟨a, len, cap, m, n', D, Pl, hcs, _, hlc, hcm, hm, hx, hel⟩
  · simp [Value.cells] at hcs
    obtain ⟨rfl, rfl, rfl⟩ := hcs
    exact ⟨none, 0, 0, [], rfl, ⟨rfl, fun i hi => absurd hi (by simp), fun _ => rfl⟩, bulk_one d⟩
  · simp [Value.cells] at hcs
    obtain ⟨rfl, rfl, rfl⟩ := hcs
    have hm' : m = cap0 := by simpa using hm
    have hsp : 0 < len0 → a.spot = none := by
      intro hi
      obtain ⟨cs', hc, ht⟩ := hel 0 (by omega)
      rw [Try.cellsPiece] at hc
      obtain ⟨v0, y0, n0, k0, t0⟩ := elem_fields Try.underlying45 (by kernel_rfl) Try.cellsPiece (by rw [Try.cellsPiece]; exact hc) ht 0 _ rfl
      simpa [Addr.add] using World.cell?_spot k0
    have hch : ∀ i, i < len0 → ∃ c : PD, ∃ b o, some a = some ⟨b, o, none⟩ ∧ W.cell? ⟨b, o + i * 2, none⟩ = some (.int .i64 c.f) ∧ W.cell? ⟨b, o + i * 2 + 1, none⟩ = some (.int .i64 c.t) := by
      intro i hi
      have hsp := hsp (by omega)
      obtain ⟨cs', hc, ht⟩ := hel i (by omega)
      rw [Try.cellsPiece] at hc
      have hf := elem_fields Try.underlying45 (by kernel_rfl) Try.cellsPiece (by rw [Try.cellsPiece]; exact hc) ht
      obtain ⟨v0, y0, n0, k0, t0⟩ := hf 0 _ rfl
      obtain ⟨v1, y1, n1, k1, t1⟩ := hf 1 _ rfl
      obtain ⟨x0, e0, _, _⟩ := DataW.trod_int Try.underlying3 t0
      obtain ⟨x1, e1, _, _⟩ := DataW.trod_int Try.underlying3 t1
      simp at e0 e1
      subst e0 e1
      obtain ⟨b, o, sp⟩ := a
      simp only at hsp
      subst hsp
      simp only [Addr.add_lit, Nat.add_zero, ← Nat.add_assoc] at k0 k1
      exact ⟨⟨x0, x1⟩, b, o, rfl, k0, k1⟩
    obtain ⟨chs, hl, hq⟩ := exists_pieces len0 hch
    refine ⟨some a, len0, cap0, chs, rfl, ⟨hl, hq, fun e => by cases e⟩, ?_⟩
    obtain rfl := congrArg Prod.fst hx
    have := bulk_slice ((List.range len0).map D) ((List.range (m - len0)).map fun j => D (len0 + j))
    simpa using this
theorem bulk_string {H : Type} (s : ByteArray) : Rows.uptoBulk (H := H) (.lit (.string s.data.toList)) = s.size + 1 ∨ s.size ≤ Rows.uptoBulk (H := H) (.lit (.string s.data.toList)) := by
  right
  simp only [Rows.uptoBulk]
  simp
end Go.Proofs.Ytkcdcgijbaepmaa
