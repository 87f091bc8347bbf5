/-
  What a statement is told of props made by hand, and of texts.
-/
import Derived.Test.YtcgdhgdblieaiaaF1
import Derived.Test.YtcgdhgdblieaiaaPR2
import Derived.Deep.Slices
import Derived.Deep.Fields
set_option linter.unusedVariables false
set_option maxRecDepth 100000
namespace Go.Proofs.Ytcgdhgdblieaiaa
open Go.ChangeShapes Go.WideShapes Go.ChangeAt Go.RowKit Go.Joins Go.Deep

/-- one element of a row of structs of one-cell fields: its fields -/
theorem elem_fields {H : Type} {enc : TypeId × Value → H} {P : Program} {w : World} {b0 : Nat} {sp : Nat → Bool} {held : Bool} {e : TypeId} {fs : Array Field} {n : Nat} {a : Addr} {o : Nat} {cs : List Value} {x : DataW H × List MemPlace}
    (he : P.underlying e = some (.struct fs)) (hone : oneCellFields P fs = true) (hC : P.cellsOf e = fs.size) (hc : w.cells? b0 (a.add o) (P.cellsOf e) = some cs) (h : DataW.trod enc P w b0 sp held n e cs = some x) :
    ∀ (j : Nat) (f : Field), fs[j]? = some f → ∃ (v : Value) (y : DataW H × List MemPlace) (n' : Nat), w.cell? (a.add (o + j)) = some v ∧ DataW.trod enc P w b0 sp held n' f.type [v] = some y := by
  obtain ⟨_, hl, hat⟩ := World.cells?_some hc
  obtain ⟨xs, n', _, _, _, hxl, hf⟩ := DataW.trod_struct he h
  intro j f hj
  have hjl : j < fs.size := (Array.getElem?_eq_some_iff.1 hj).1
  have hjc : j < cs.length := by omega
  obtain ⟨ho, hk⟩ := Deep.hone_of hone j f hj
  have h1 := hf j f hj
  rw [ho, hk, show (cs.drop j).take 1 = [cs[j]] by rw [List.drop_eq_getElem_cons hjc]; rfl, List.getElem?_eq_getElem (show j < xs.length by omega)] at h1
  refine ⟨cs[j], _, n', ?_, h1⟩
  have h2 := hat j (by omega)
  rw [List.getElem?_eq_getElem hjc, Go.Deep.add_add] at h2
  exact h2

theorem Try.cellsChar : Try.prog.cellsOf 75 = 7 := by kernel_rfl
theorem Try.cellsProps : Try.prog.cellsOf 54 = 2 := by kernel_rfl
theorem exists_chars {Q : Nat → CharD → Prop} (n : Nat) (h : ∀ i, i < n → ∃ c, Q i c) : ∃ cs : List CharD, cs.length = n ∧ ∀ i (hi : i < cs.length), Q i cs[i] := by
  induction n with
  | zero => exact ⟨[], rfl, fun i hi => absurd hi (by simp)⟩
  | succ n ih =>
    obtain ⟨cs, hl, hq⟩ := ih (fun i hi => h i (by omega))
    obtain ⟨c, hc⟩ := h n (by omega)
    refine ⟨cs ++ [c], by simp [hl], fun i hi => ?_⟩
    by_cases hin : i < cs.length
    · rw [List.getElem_append_left hin]; exact hq i hin
    · have : i = n := by simp at hi; omega
      subst this
      subst hl
      rw [List.getElem_concat_length rfl]
      exact hc

theorem chars_open {H : Type} {enc : TypeId × Value → H} {w : World} {b0 n : Nat} {cs : List Value} {x : DataW H × List MemPlace}
    (h : DataW.trod enc Try.prog w b0 (fun _ => true) true n 52 cs = some x) :
    ∃ a len cap chs, cs = [.slice a len cap] ∧ chs.length = len ∧ Chars w a chs ∧ len + 1 ≤ Rows.uptoBulk x.1 := by
  rcases Deep.open_slice Try.underlying52 h with ⟨rfl, hx⟩ | ⟨a, len, cap, m, n', D, Pl, rfl, _, hlc, hcm, hm, hx, hel⟩
  · exact ⟨none, 0, 0, [], rfl, rfl, fun i hi => absurd hi (by simp), by rw [hx]; exact bulk_one _⟩
  · have hm' : m = cap := by simpa using hm
    have hsp : 0 < len → a.spot = none := by
      intro hi
      obtain ⟨cs', hc, ht⟩ := hel 0 (by omega)
      rw [Try.cellsChar] at hc
      obtain ⟨v0, y0, n0, k0, t0⟩ := elem_fields Try.underlying75 (by kernel_rfl) Try.cellsChar (by rw [Try.cellsChar]; exact hc) ht 0 _ rfl
      simpa [Addr.add] using World.cell?_spot k0
    have hch : ∀ i, i < len → ∃ c : CharD, ∃ b o, some a = some ⟨b, o, none⟩ ∧ CharAt w b (o + i * 7) c := by
      intro i hi
      have hsp := hsp (by omega)
      obtain ⟨cs', hc, ht⟩ := hel i (by omega)
      rw [Try.cellsChar] at hc
      have hf := elem_fields Try.underlying75 (by kernel_rfl) Try.cellsChar (by rw [Try.cellsChar]; exact hc) ht
      obtain ⟨v0, y0, n0, k0, t0⟩ := hf 0 _ rfl
      obtain ⟨v1, y1, n1, k1, t1⟩ := hf 1 _ rfl
      obtain ⟨v2, y2, n2, k2, t2⟩ := hf 2 _ rfl
      obtain ⟨v3, y3, n3, k3, t3⟩ := hf 3 _ rfl
      obtain ⟨v4, y4, n4, k4, t4⟩ := hf 4 _ rfl
      obtain ⟨v5, y5, n5, k5, t5⟩ := hf 5 _ rfl
      obtain ⟨v6, y6, n6, k6, t6⟩ := hf 6 _ rfl
      obtain ⟨x0, e0, _, _⟩ := DataW.trod_int Try.underlying21 t0
      obtain ⟨x1, e1, _, _⟩ := DataW.trod_int Try.underlying51 t1
      obtain ⟨x2, e2, _, _⟩ := DataW.trod_int Try.underlying21 t2
      obtain ⟨x3, e3, _, _⟩ := DataW.trod_int Try.underlying73 t3
      obtain ⟨x4, e4, _, _⟩ := DataW.trod_int Try.underlying21 t4
      obtain ⟨x5, e5, _, _⟩ := DataW.trod_int Try.underlying21 t5
      obtain ⟨x6, e6, _⟩ := DataW.trod_bool Try.underlying4 t6
      simp at e0 e1 e2 e3 e4 e5 e6
      subst e0 e1 e2 e3 e4 e5 e6
      obtain ⟨b, o, sp⟩ := a
      simp only at hsp
      subst hsp
      simp only [Addr.add_lit, Nat.add_zero, ← Nat.add_assoc] at k0 k1 k2 k3 k4 k5 k6
      exact ⟨⟨x0, x1, x2, x3, x4, x5, x6⟩, b, o, rfl, ⟨k0, k1, k2, k3, k4, k5, k6⟩⟩
    obtain ⟨chs, hl, hq⟩ := exists_chars len hch
    refine ⟨some a, len, cap, chs, rfl, hl, hq, ?_⟩
    rw [hx]
    have := bulk_slice ((List.range len).map D) ((List.range (m - len)).map fun j => D (len + j))
    simpa using this

theorem props_open {H : Type} {enc : TypeId × Value → H} {W : World} {b0 : Nat} {v : Value} {d : DataW H} {p : List MemPlace}
    (hv : Value.okWide Try.prog W .any b0 54 v) (h : DataW.Trod enc Try.prog W 0 (fun _ => true) true 54 v d p) :
    ∃ r a len cap chs, v = .agg #[.int .u8 r, .slice a len cap] ∧ (chs.length = len ∧ Chars W a chs) ∧ len + 1 ≤ Rows.uptoBulk d := by
  obtain ⟨v0, v1, y0, y1, m, rfl, hd, _, h0, h1⟩ := open_agg2 Try.underlying54 (by kernel_rfl) Try.cellsProps hv h
  obtain ⟨r, e0, _, _⟩ := DataW.trod_int Try.underlying51 h0
  obtain ⟨a, len, cap, chs, e1, hl, hc, hb⟩ := chars_open h1
  simp at e0 e1
  subst e0
  subst e1
  refine ⟨r, a, len, cap, chs, rfl, ⟨hl, hc⟩, ?_⟩
  rw [hd]
  simp only [Rows.uptoBulk, Rows.uptoBulkAll]
  omega
theorem bulk_string {H : Type} (s : ByteArray) : Rows.uptoBulk (H := H) (.lit (.string s.data.toList)) = s.size + 1 ∨ s.size ≤ Rows.uptoBulk (H := H) (.lit (.string s.data.toList)) := by
  right
  simp only [Rows.uptoBulk]
  simp
end Go.Proofs.Ytcgdhgdblieaiaa
