/-
  The opener of a list of pieces, with the numbers' bounds.
-/
import Derived.Test.YtkcdcgijbaepmaaF1
set_option linter.unusedVariables false
set_option maxRecDepth 100000
namespace Go.Proofs.Ytkcdcgijbaepmaa
open Go.ChangeShapes Go.WideShapes Go.ChangeAt Go.RowKit Go.Joins Go.Deep

theorem pieces_open2 {H : Type} {enc : TypeId × Value → H} {W : World} {b0 : Nat} {v : Value} {d : DataW H} {p : List MemPlace}
    (hv : Value.okWide Try.prog W .any b0 22 v) (h : DataW.Trod enc Try.prog W 0 (fun _ => true) true 22 v d p) :
    ∃ a len cap rs, v = .slice a len cap ∧ (rs.length = len ∧ PiecesAt W a rs ∧ (a = none → cap = 0)) ∧ (∀ p ∈ rs, -9223372036854775808 ≤ p.f ∧ p.t ≤ 9223372036854775807) ∧ len + 1 ≤ Rows.uptoBulk d := by
  obtain ⟨a0, len0, cap0, rfl⟩ := okWide_slice Try.underlying22 hv
  obtain ⟨fuel, hf⟩ := h
  rcases Deep.open_slice Try.underlying22 hf with ⟨hcs, hx⟩ | ⟨a, len, cap, m, n', D, Pl, hcs, _, hlc, hcm, hm, hx, hel⟩
  · simp [Value.cells] at hcs
    obtain ⟨rfl, rfl, rfl⟩ := hcs
    exact ⟨none, 0, 0, [], rfl, ⟨rfl, fun i hi => absurd hi (by simp), fun _ => rfl⟩, (fun p hp => by cases hp), bulk_one d⟩
  · simp [Value.cells] at hcs
    obtain ⟨rfl, rfl, rfl⟩ := hcs
    have hm' : m = cap0 := by simpa using hm
    have hsp : 0 < len0 → a.spot = none := by
      intro hi
      obtain ⟨cs', hc, ht⟩ := hel 0 (by omega)
      rw [Try.cellsPiece] at hc
      obtain ⟨v0, y0, n0, k0, t0⟩ := elem_fields Try.underlying45 (by kernel_rfl) Try.cellsPiece (by rw [Try.cellsPiece]; exact hc) ht 0 _ rfl
      simpa [Addr.add] using World.cell?_spot k0
    have hch : ∀ i, i < len0 → ∃ c : PD, ∃ b o, some a = some ⟨b, o, none⟩ ∧ W.cell? ⟨b, o + i * 2, none⟩ = some (.int .i64 c.f) ∧ W.cell? ⟨b, o + i * 2 + 1, none⟩ = some (.int .i64 c.t) ∧ -9223372036854775808 ≤ c.f ∧ c.t ≤ 9223372036854775807 := by
      intro i hi
      have hsp := hsp (by omega)
      obtain ⟨cs', hc, ht⟩ := hel i (by omega)
      rw [Try.cellsPiece] at hc
      have hf := elem_fields Try.underlying45 (by kernel_rfl) Try.cellsPiece (by rw [Try.cellsPiece]; exact hc) ht
      obtain ⟨v0, y0, n0, k0, t0⟩ := hf 0 _ rfl
      obtain ⟨v1, y1, n1, k1, t1⟩ := hf 1 _ rfl
      obtain ⟨x0, e0, _, w0⟩ := DataW.trod_int Try.underlying3 t0
      obtain ⟨x1, e1, _, w1⟩ := DataW.trod_int Try.underlying3 t1
      simp at e0 e1
      subst e0 e1
      obtain ⟨b, o, sp⟩ := a
      simp only at hsp
      subst hsp
      simp only [Addr.add_lit, Nat.add_zero, ← Nat.add_assoc] at k0 k1
      exact ⟨⟨x0, x1⟩, b, o, rfl, k0, k1, (b64 w0).1, (b64 w1).2⟩
    obtain ⟨chs, hl, hq⟩ := exists_pieces len0 hch
    refine ⟨some a, len0, cap0, chs, rfl, ⟨hl, fun i hi => by obtain ⟨b, o, h1, h2, h3, -⟩ := hq i hi; exact ⟨b, o, h1, h2, h3⟩, fun e => by cases e⟩, fun p hp => ?_, ?_⟩
    · obtain ⟨i, hi, rfl⟩ := List.mem_iff_getElem.1 hp
      obtain ⟨b, o, h1, h2, h3, h4⟩ := hq i hi
      exact h4
    obtain rfl := congrArg Prod.fst hx
    have := bulk_slice ((List.range len0).map D) ((List.range (m - len0)).map fun j => D (len0 + j))
    simpa using this

end Go.Proofs.Ytkcdcgijbaepmaa
