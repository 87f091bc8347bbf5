/-
  A question, held against the document's answer: carets.
-/
import Derived.Test.YtnnfhldfdiaddaaX7
import Derived.Test.YtnnfhldfdiaddaaX8
import Derived.Laws.StructEq
set_option linter.unusedVariables false
namespace Go.Proofs.Ytnnfhldfdiaddaa
open Go.RowKit

theorem BehP.uniq {base : Int} {lv : List Int} {a : Nat} {p l p' l' : Int} (h : BehP base lv a p l) (k : BehP base lv a p' l') : p = p' ∧ l = l' := by
  rcases h with ⟨h1, rfl, rfl⟩ | ⟨i, h1, h2, h3, h4, rfl, rfl⟩
  · rcases k with ⟨k1, rfl, rfl⟩ | ⟨j, k1, k2, k3, k4, rfl, rfl⟩
    · exact ⟨rfl, rfl⟩
    · exact absurd (h1 j k1) k3
  · rcases k with ⟨k1, rfl, rfl⟩ | ⟨j, k1, k2, k3, k4, rfl, rfl⟩
    · exact absurd (k1 i h1) h3
    · have e : i = j := by
        rcases Nat.lt_trichotomy i j with hlt | e | hlt
        · exact absurd (h4 j hlt k1) k3
        · exact e
        · exact absurd (k4 i hlt h1) h3
      subst e
      exact ⟨rfl, rfl⟩
theorem AheP.uniq {base : Int} {lv : List Int} {a : Nat} {p l p' l' : Int} (h : AheP base lv a p l) (k : AheP base lv a p' l') : p = p' ∧ l = l' := by
  rcases h with ⟨h1, rfl, rfl⟩ | ⟨i, h1, h2, h3, h4, rfl, rfl⟩
  · rcases k with ⟨k1, rfl, rfl⟩ | ⟨j, k1, k2, k3, k4, rfl, rfl⟩
    · exact ⟨rfl, rfl⟩
    · exact absurd (h1 j k1 k2) k3
  · rcases k with ⟨k1, rfl, rfl⟩ | ⟨j, k1, k2, k3, k4, rfl, rfl⟩
    · exact absurd (k1 i h1 h2) h3
    · have e : i = j := by
        rcases Nat.lt_trichotomy i j with hlt | e | hlt
        · exact absurd (k4 i h1 hlt) h3
        · exact e
        · exact absurd (h4 j k1 hlt) k3
      subst e
      exact ⟨rfl, rfl⟩
theorem CaretP.uniq {base : Int} {lv : List Int} {a : Nat} {s t s' t' : Int} (h : CaretP base lv a s t) (k : CaretP base lv a s' t') : s = s' ∧ t = t' := by
  obtain ⟨p, l, q, l2, hb, ha, hh⟩ := h
  obtain ⟨p', l', q', l2', kb, ka, kk⟩ := k
  obtain ⟨rfl, rfl⟩ := hb.uniq kb
  obtain ⟨rfl, rfl⟩ := ha.uniq ka
  omega

theorem eqg_caret (xs ys : Array Value) (x y : Operand) (w : World) : (eqGuard .eql 39 x y (.agg xs) (.agg ys)).run Try.prog w = .ok () w := run_eqGuard_agg w .eql 39 x y xs ys (by kernel_rfl)
theorem eqF_same {P : Program} (w : World) (d : Nat) (xs : Array Value) : ∀ fs : List Field, (∀ f ∈ fs, ∃ v, (part f.type xs f.offset).run P w = .ok v w ∧ (Op.equalIn d f.type v v).run P w = .ok true w) → (Op.eqFields d xs xs fs).run P w = .ok true w
  | [], _ => by simp [Op.eqFields, Sem.run_pure]
  | f :: fs, h => by
    have ih := eqF_same w d xs fs (fun g hg => h g (by simp [hg]))
    obtain ⟨v, h1, h2⟩ := h f (by simp)
    unfold Op.eqFields
    split
    · simp [Sem.run_bind, h1, h2, ih, Result.andThen]
    · exact ih
theorem part_plain {P : Program} (w : World) (t : TypeId) (xs : Array Value) (i : Nat) (v : Value) (k : IntKind) (hu : P.underlying t = some (.int k)) (hx : xs[i]? = some v) : (part t xs i).run P w = .ok v w := by
  simp [part, isAgg, run_underlying hu, hx]
theorem part_bool {P : Program} (w : World) (t : TypeId) (xs : Array Value) (i : Nat) (v : Value) (hu : P.underlying t = some .bool) (hx : xs[i]? = some v) : (part t xs i).run P w = .ok v w := by
  simp [part, isAgg, run_underlying hu, hx]
theorem caret_fields : (Try.prog.fieldsOf 39).toList.map (fun f => (f.type, f.offset)) = [(3, 0), (3, 1), (3, 2), (3, 3), (4, 4)] := by kernel_rfl
theorem eql_caret (s t x y : Int) (b : Bool) (w : World) : (binOp .eql 39 (.agg #[.int .i64 s, .int .i64 t, .int .i64 x, .int .i64 y, .bool b]) (.agg #[.int .i64 s, .int .i64 t, .int .i64 x, .int .i64 y, .bool b])).run Try.prog w = .ok (.bool true) w := by
  rw [run_eql_struct, run_equalIn_agg w 9999 39 _ _ (by kernel_rfl) (by kernel_rfl)]
  rw [eqF_same w 9999 _ _ ?_]
  · rfl
  · intro f hf
    have hm : (f.type, f.offset) ∈ (Try.prog.fieldsOf 39).toList.map (fun f => (f.type, f.offset)) := List.mem_map.2 ⟨f, hf, rfl⟩
    rw [caret_fields] at hm
    simp only [List.mem_cons, Prod.mk.injEq, List.not_mem_nil, or_false] at hm
    rcases hm with ⟨e1, e2⟩ | ⟨e1, e2⟩ | ⟨e1, e2⟩ | ⟨e1, e2⟩ | ⟨e1, e2⟩
    · rw [e1, e2]; exact ⟨.int .i64 s, part_plain w _ _ _ _ .i64 Try.underlying3 rfl, (run_equalIn_int w 9998 _ .i64 .i64 s s Try.underlying3).trans (by simp)⟩
    · rw [e1, e2]; exact ⟨.int .i64 t, part_plain w _ _ _ _ .i64 Try.underlying3 rfl, (run_equalIn_int w 9998 _ .i64 .i64 t t Try.underlying3).trans (by simp)⟩
    · rw [e1, e2]; exact ⟨.int .i64 x, part_plain w _ _ _ _ .i64 Try.underlying3 rfl, (run_equalIn_int w 9998 _ .i64 .i64 x x Try.underlying3).trans (by simp)⟩
    · rw [e1, e2]; exact ⟨.int .i64 y, part_plain w _ _ _ _ .i64 Try.underlying3 rfl, (run_equalIn_int w 9998 _ .i64 .i64 y y Try.underlying3).trans (by simp)⟩
    · rw [e1, e2]; exact ⟨.bool b, part_bool w _ _ _ _ Try.underlying4 rfl, (run_equalIn_bool' w 9998 _ b b Try.underlying4).trans (by simp)⟩
end Go.Proofs.Ytnnfhldfdiaddaa
