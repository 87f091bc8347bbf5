/-
  What a statement is told of its argument, a struct of a base, levels, widths and questions: the questions too, and the bulk.
-/
import Derived.Test.YtnnfhldfdiaddaaF1
import Derived.Test.YtnnfhldfdiaddaaX15
import Derived.JoinedCond
import Derived.Deep.Slices
import Derived.Deep.Fields
set_option linter.unusedVariables false
set_option maxRecDepth 100000
namespace Go.Proofs.Ytnnfhldfdiaddaa
open Go.ChangeShapes Go.WideShapes Go.ChangeAt Go.RowKit Go.Joins Go.Deep

theorem bulk_one {H : Type} (d : DataW H) : 1 ≤ Rows.uptoBulk d := by
  cases d with
  | lit l => cases l <;> simp [Rows.uptoBulk]
  | _ => simp [Rows.uptoBulk]
theorem bulk_len {H : Type} (l : List (DataW H)) : l.length ≤ Rows.uptoBulkAll l := by
  induction l with
  | nil => simp [Rows.uptoBulkAll]
  | cons x r ih => have := bulk_one x; simp only [Rows.uptoBulkAll, List.length_cons]; omega
theorem bulk_slice {H : Type} (elems spare : List (DataW H)) : elems.length + 1 ≤ Rows.uptoBulk (.slice elems spare) := by
  have h1 := bulk_len elems
  simp only [Rows.uptoBulk]
  omega
theorem ints_bulk {H : Type} {enc : TypeId × Value → H} {W : World} {t e : TypeId} {k : IntKind} {fuel : Nat} {v : Value} {y : DataW H × List MemPlace}
    (ht : Try.prog.underlying t = some (.slice e)) (he : Try.prog.underlying e = some (.int k)) (hc : Try.prog.cellsOf e = 1)
    (hf : DataW.trod enc Try.prog W 0 (fun _ => true) true fuel t [v] = some y) :
    ∃ a len cap zs, v = .slice a len cap ∧ IsRow k W a len cap zs ∧ len + 1 ≤ Rows.uptoBulk y.1 := by
  rcases open_ints ht he hc hf with ⟨hcs, _⟩ | ⟨x, l, c, zs, hcs, _, hl, hm, hz, hx, hcell, hwz⟩
  · simp at hcs
    exact ⟨none, 0, 0, [], hcs, .inl ⟨rfl, rfl, rfl, rfl⟩, bulk_one _⟩
  · simp at hcs
    have hz' : zs.length = c := by simpa using hz
    refine ⟨some x, l, c, zs, hcs, .inr ⟨_, rfl, hl, hm, hz', hcell, hwz⟩, ?_⟩
    rw [show y.1 = .slice (lits k (zs.take l)) (lits k (zs.drop l)) from congrArg Prod.fst hx]
    have := bulk_slice (lits (H := H) k (zs.take l)) (lits k (zs.drop l))
    have hl2 : (lits (H := H) k (zs.take l)).length = l := by simp [lits]; omega
    omega
theorem row_none {k : IntKind} {w : World} {a : Option Addr} {len cap : Nat} {zs : List Int} (h : IsRow k w a len cap zs) : a = none → cap = 0 := by
  intro hn
  rcases h with ⟨_, _, h3, _⟩ | ⟨x, h3, _⟩
  · exact h3
  · rw [h3] at hn; cases hn
theorem elem_fields {H : Type} {enc : TypeId × Value → H} {P : Program} {w : World} {b0 : Nat} {sp : Nat → Bool} {held : Bool} {e : TypeId} {fs : Array Field} {n : Nat} {a : Addr} {o : Nat} {cs : List Value} {x : DataW H × List MemPlace}
    (he : P.underlying e = some (.struct fs)) (hone : oneCellFields P fs = true) (hC : P.cellsOf e = fs.size) (hc : w.cells? b0 (a.add o) (P.cellsOf e) = some cs) (h : DataW.trod enc P w b0 sp held n e cs = some x) :
    ∀ (j : Nat) (f : Field), fs[j]? = some f → ∃ (v : Value) (y : DataW H × List MemPlace) (n' : Nat), w.cell? (a.add (o + j)) = some v ∧ DataW.trod enc P w b0 sp held n' f.type [v] = some y := by
  obtain ⟨_, hl, hat⟩ := World.cells?_some hc
  obtain ⟨xs, n', _, _, _, hxl, hf⟩ := DataW.trod_struct he h
  intro j f hj
  have hjl : j < fs.size := (Array.getElem?_eq_some_iff.1 hj).1
  have hjc : j < cs.length := by omega
  obtain ⟨ho, hk⟩ := Deep.hone_of hone j f hj
  have h1 := hf j f hj
  rw [ho, hk, show (cs.drop j).take 1 = [cs[j]] by rw [List.drop_eq_getElem_cons hjc]; rfl, List.getElem?_eq_getElem (show j < xs.length by omega)] at h1
  refine ⟨cs[j], _, n', ?_, h1⟩
  have h2 := hat j (by omega)
  rw [List.getElem?_eq_getElem hjc, Go.Deep.add_add] at h2
  exact h2
theorem Try.cellsAsk : Try.prog.cellsOf 58 = 3 := by kernel_rfl
theorem exists_asks {Q : Nat → AskD → Prop} (n : Nat) (h : ∀ i, i < n → ∃ c, Q i c) : ∃ cs : List AskD, cs.length = n ∧ ∀ i (hi : i < cs.length), Q i cs[i] := by
  induction n with
  | zero => exact ⟨[], rfl, fun i hi => absurd hi (by simp)⟩
  | succ n ih =>
    obtain ⟨cs, hl, hq⟩ := ih (fun i hi => h i (by omega))
    obtain ⟨c, hc⟩ := h n (by omega)
    refine ⟨cs ++ [c], by simp [hl], fun i hi => ?_⟩
    by_cases hin : i < cs.length
    · rw [List.getElem_append_left hin]; exact hq i hin
    · have : i = n := by simp at hi; omega
      subst this
      subst hl
      rw [List.getElem_concat_length rfl]
      exact hc
def InI64 (x : Int) : Prop := -9223372036854775808 ≤ x ∧ x ≤ 9223372036854775807
theorem asks_open {H : Type} {enc : TypeId × Value → H} {w : World} {b0 n : Nat} {cs : List Value} {x : DataW H × List MemPlace}
    (h : DataW.trod enc Try.prog w b0 (fun _ => true) true n 26 cs = some x) :
    ∃ a len cap qs, cs = [.slice a len cap] ∧ qs.length = len ∧ Asks w a qs ∧ ∀ q ∈ qs, InI64 q.a := by
  rcases Deep.open_slice Try.underlying26 h with ⟨rfl, hx⟩ | ⟨a, len, cap, m, n', D, Pl, rfl, _, hlc, hcm, hm, hx, hel⟩
  · exact ⟨none, 0, 0, [], rfl, rfl, fun i hi => absurd hi (by simp), fun q hq => by cases hq⟩
  · have hm' : m = cap := by simpa using hm
    have hsp : 0 < len → a.spot = none := by
      intro hi
      obtain ⟨cs', hc, ht⟩ := hel 0 (by omega)
      rw [Try.cellsAsk] at hc
      obtain ⟨v0, y0, n0, k0, t0⟩ := elem_fields Try.underlying58 (by kernel_rfl) Try.cellsAsk (by rw [Try.cellsAsk]; exact hc) ht 0 _ rfl
      simpa [Addr.add] using World.cell?_spot k0
    have hch : ∀ i, i < len → ∃ c : AskD, (∃ b o, some a = some ⟨b, o, none⟩ ∧ AskAt w b (o + i * 3) c) ∧ InI64 c.a := by
      intro i hi
      have hsp := hsp (by omega)
      obtain ⟨cs', hc, ht⟩ := hel i (by omega)
      rw [Try.cellsAsk] at hc
      have hf := elem_fields Try.underlying58 (by kernel_rfl) Try.cellsAsk (by rw [Try.cellsAsk]; exact hc) ht
      obtain ⟨v0, y0, n0, k0, t0⟩ := hf 0 _ rfl
      obtain ⟨v1, y1, n1, k1, t1⟩ := hf 1 _ rfl
      obtain ⟨v2, y2, n2, k2, t2⟩ := hf 2 _ rfl
      obtain ⟨x0, e0, _, _⟩ := DataW.trod_int Try.underlying3 t0
      obtain ⟨x1, e1, _, w1⟩ := DataW.trod_int Try.underlying3 t1
      obtain ⟨x2, e2, _, _⟩ := DataW.trod_int Try.underlying33 t2
      simp at e0 e1 e2
      subst e0 e1 e2
      obtain ⟨b, o, sp⟩ := a
      simp only at hsp
      subst hsp
      simp only [Addr.add_lit, Nat.add_zero, ← Nat.add_assoc] at k0 k1 k2
      refine ⟨⟨x0, x1, x2⟩, ⟨b, o, rfl, ⟨k0, k1, k2⟩⟩, ?_⟩
      simpa [InI64, Lit.wf, IntKind.min, IntKind.max, IntKind.signed, IntKind.bits] using w1
    obtain ⟨qs, hl, hq⟩ := exists_asks len hch
    refine ⟨some a, len, cap, qs, rfl, hl, fun i hi => (hq i hi).1, fun q hq2 => ?_⟩
    obtain ⟨i, hi, rfl⟩ := List.getElem_of_mem hq2
    exact (hq i hi).2
theorem in_open2 {H : Type} {enc : TypeId × Value → H} {W : World} {b0 : Nat} {v : Value} {d : DataW H} {p : List MemPlace}
    (hv : Value.okWide Try.prog W .any b0 28 v) (h : DataW.Trod enc Try.prog W 0 (fun _ => true) true 28 v d p) :
    ∃ base a n cap a1 n1 cap1 a2 n2 cap2 lv ws qs, v = .agg #[.int .i8 base, .slice a n cap, .slice a1 n1 cap1, .slice a2 n2 cap2] ∧ InOk W base a n cap a1 n1 cap1 lv ws ∧
      (a = none → cap = 0) ∧ (a1 = none → cap1 = 0) ∧ Asks W a2 qs ∧ qs.length = n2 ∧ (∀ q ∈ qs, InI64 q.a) ∧ n1 + 1 ≤ Rows.uptoBulk d := by
  obtain ⟨v0, v1, v2, v3, y0, y1, y2, y3, m, rfl, hd, _, h0, h1, h2, h3⟩ := open_agg4 Try.underlying28 (by kernel_rfl) Try.cellsIn hv h
  obtain ⟨x, e0, _, wx⟩ := DataW.trod_int Try.underlying23 h0
  simp at e0
  obtain ⟨a, n, cap, z, rfl, hr⟩ := ints_of Try.underlying24 Try.underlying23 (by kernel_rfl) h1
  obtain ⟨a1, n1, cap1, z1, rfl, hr1, hbk⟩ := ints_bulk Try.underlying25 Try.underlying3 (by kernel_rfl) h2
  obtain ⟨a2, n2, cap2, qs, e3, hl3, hq3, hb3⟩ := asks_open h3
  simp at e3
  subst e0
  subst e3
  obtain ⟨i1, l1, m1, _⟩ := isRow_ints hr
  obtain ⟨i2, l2, m2, _⟩ := isRow_ints hr1
  refine ⟨x, a, n, cap, a1, n1, cap1, a2, n2, cap2, _, _, qs, rfl, ⟨bounds_i8 wx, l1, l2, m1, m2, i1, i2⟩, row_none hr, row_none hr1, hq3, hl3, hb3, ?_⟩
  rw [hd]
  simp only [Rows.uptoBulk, Rows.uptoBulkAll]
  omega
end Go.Proofs.Ytnnfhldfdiaddaa
