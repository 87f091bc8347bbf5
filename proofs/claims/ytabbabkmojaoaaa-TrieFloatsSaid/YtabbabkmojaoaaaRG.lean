/-
  A region that draws its order in the round of a range over a function: loads, and one store behind them all.
-/
import Derived.StillTailTactics
import Derived.OrdersIn
import Derived.TacticsIn
import Derived.Test.YtabbabkmojaoaaaRF1
set_option linter.unusedVariables false
namespace Go.Proofs.Ytabbabkmojaoaaa
open Go.RowKit

/-- an operation that computes or loads, and calls nothing -/
def plainOp (o : Oper) : Bool :=
  match o.op with
  | .move _ => true
  | .assign _ => true
  | .pick .. => true
  | .load .. => true
  | .nilCheck .. => true
  | .fieldAddr .. => true
  | .indexAddr .. => true
  | .binOp .. => true
  | .unOp .. => true
  | _ => false

theorem plainOp_about {P : Program} {o : Oper} (h : plainOp o = true) (w : World) (ρ : Operand → Value) : o.about P w ρ = none := by
  unfold Oper.about
  unfold plainOp at h
  cases ho : o.op <;> simp only [ho] at h ⊢
  all_goals cases h
theorem plainOp_defer {o : Oper} (h : plainOp o = true) : ∀ c, o.op ≠ .defer c := by
  intro c e
  unfold plainOp at h
  rw [e] at h
  cases h
def NoEnter (s : Sem Next) : Prop := ∀ (P : Program) (w w' : World) (f : FuncId) (args : Array Value), s.run P w ≠ .ok (.enter f args) w'
theorem noEnter_pure (v : Value) : NoEnter (pure (Next.value v)) := by
  intro P w w' f args e
  rw [Sem.run_pure] at e
  cases e
theorem noEnter_bind {α : Type} (s : Sem α) (k : α → Sem Next) (h : ∀ x, NoEnter (k x)) : NoEnter (s >>= k) := by
  intro P w w' f args e
  rw [Sem.run_bind] at e
  cases hs : s.run P w with
  | ok x w1 => rw [hs] at e; exact h x P w1 w' f args e
  | halt x w1 => rw [hs] at e; simp [Result.andThen] at e
theorem noEnter_halt (x : Halt) : NoEnter (.halt x) := by
  intro P w w' f args e
  simp [Sem.run] at e
theorem noEnter_panic (x : RuntimeError) : NoEnter (runtimePanic x) := by
  unfold runtimePanic
  repeat' first
    | exact noEnter_halt _
    | (refine noEnter_bind _ _ (fun x => ?_))
    | split
theorem plainOp_enter {P : Program} {o : Oper} (h : plainOp o = true) (ρ : Operand → Value) (w w' : World) (f : FuncId) (args : Array Value) : (execOp ρ o).run P w ≠ .ok (.enter f args) w' := by
  suffices H : NoEnter (execOp ρ o) from H P w w' f args
  unfold plainOp at h
  unfold execOp
  cases ho : o.op <;> simp only [ho] at h ⊢
  all_goals first
    | contradiction
    | (repeat' first
        | exact noEnter_pure _
        | exact noEnter_panic _
        | exact noEnter_halt _
        | (refine noEnter_bind _ _ (fun x => ?_))
        | split)

section
variable {F : Fence} {n : Nat} {P : Program} {ops : Array Oper} {md : Region.Mode} {w : World}

theorem wpIn_of_still {o : Oper} {a : Act} {K : Act → Prop} {K' : Act → World → Prop} {Q' : Exit → Act → World → Prop} (hp : plainOp o = true) (h : ∀ a, K a → K' a w) (hh : o.still P a w K) : o.wpIn F n P a w K' Q' := by
  unfold Oper.still at hh
  unfold Oper.wpIn
  refine ⟨fun f hf => (by rw [plainOp_about hp] at hf; cases hf), ?_⟩
  rw [Oper.semAt_eq _ _ _ (plainOp_defer hp)]
  cases hr : (execOp a.eval o).run P w with
  | ok x w' =>
    rw [hr] at hh
    cases x <;> simp only [Oper.stillUpon] at hh <;> try simp only [Oper.uponIn]
    case value u => obtain ⟨e, h2⟩ := hh; rw [e]; exact h _ h2
    case skip => obtain ⟨e, h2⟩ := hh; rw [e]; exact h _ h2
    case enter f args => exact absurd hr (plainOp_enter hp _ _ _ _ _)
  | halt x w' => rw [hr] at hh; simp only [Oper.stillUpon] at hh
theorem wpOpIn_of_stOp {i : Nat} {a : Act} {K : Act → Prop} {K' : Act → World → Prop} {Q' : Exit → Act → World → Prop} (hp : ∀ o, ops[i]? = some o → plainOp o = true) (h : ∀ a, K a → K' a w) (hh : stOp P ops w i K a) : wpOpIn F n P ops Q' i K' a w := by
  unfold stOp at hh
  unfold wpOpIn
  split
  · rename_i ho; simp only [ho] at hh; exact h _ hh
  · rename_i o ho
    simp only [ho] at hh
    split
    · rename_i hw; simp only [hw, if_true] at hh; exact wpIn_of_still (hp o ho) h hh
    · rename_i hw; simp only [hw] at hh; exact ⟨fun f hf => (by rw [plainOp_about (hp o ho)] at hf; cases hf), h _ hh⟩
theorem wpAnyIn_of_head {m g : Nat} {L : Array Bool → Act → Prop} {Q' : Exit → Act → World → Prop} (hp : ∀ i o, i < m → ops[i]? = some o → plainOp o = true) (hL : ∀ listed a, L listed a → wpAnyIn F n P md ops Q' g listed a w) :
    ∀ (f : Nat) (listed : Array Bool) (a : Act), wpAnyL P md ops w m L f listed a → wpAnyIn F n P md ops Q' (f + g) listed a w
  | 0, listed, a, h => by rw [Nat.zero_add]; exact hL _ _ h
  | f + 1, listed, a, h => by
    rw [show f + 1 + g = (f + g) + 1 by omega]
    exact ⟨fun h0 => absurd h0 h.1, fun i hi => wpOpIn_of_stOp (fun o ho => hp i o (h.2 i hi).1 ho) (fun a' h' => wpAnyIn_of_head hp hL f _ a' h') (h.2 i hi).2⟩
theorem wpAnyIn_of_seq {Q' : Exit → Act → World → Prop} : ∀ (l : List Oper) (k : Nat) (listed : Array Bool) (a : Act) (w : World), (∀ j, l[j]? = ops[k + j]?) →
    Region.seqB md ops l.length k listed = true → wpListIn F n P ops Q' l a w → wpAnyIn F n P md ops Q' l.length listed a w
  | [], _, _, _, _, _, hB, h => ⟨by simpa [Region.seqB] using hB, h⟩
  | o :: l, k, listed, a, w, hl, hB, h => by
    have h0 : ops[k]? = some o := by simpa using (hl 0).symm
    simp only [List.length_cons, Region.seqB, Bool.and_eq_true, decide_eq_true_eq] at hB
    refine ⟨fun h1 => (by rw [hB.1] at h1; cases h1), fun i hi => ?_⟩
    rw [hB.1] at hi
    have hik : i = k := by simpa using hi
    subst hik
    have hw : wpOpIn F n P ops Q' i (wpListIn F n P ops Q' l) a w := by unfold wpOpIn; simp only [h0]; exact h
    exact wpOpIn_mono (fun a' w' h' => wpAnyIn_of_seq l (i + 1) _ a' w' (fun j => by have := hl (j + 1); simpa [Nat.add_assoc, Nat.add_comm 1 j] using this) hB.2 h') hw

theorem wpIn_region_tail {id : Nat} {Q : Exit → Act → World → Prop} {a : Act} {w : World} {l : List Oper} (m : Nat) (hm : P.follows .mixedOrders = true) (hB : Region.lexTailB .any l.toArray m = true) (hpl : (l.take m).all plainOp = true)
    (h : wpStill P l.toArray { w with drawn := w.drawn + 1 } (fun a' => wpListIn F n P l.toArray Q (l.drop m) a' { w with drawn := w.drawn + 1 }) (l.take m) a) : (Code.region id l.toArray true).wpIn F n P Q a w := by
  simp only [Region.lexTailB, Bool.and_eq_true, decide_eq_true_eq] at hB
  obtain ⟨⟨⟨⟨hsel, hn⟩, hs⟩, hc⟩, hlex⟩ := hB
  have hn' : m < l.length := by simpa using hn
  have htl : (l.take m).length = m := by simp; omega
  have hdl : (l.drop m).length = l.toArray.size - m := by simp
  have inv0 : HeadInv .any l.toArray m (Array.replicate l.toArray.size false) :=
    ⟨by simp, fun j oj _ hl => (by rw [getD_replicate_false] at hl; cases hl), fun t _ ht => getD_in (by simpa using ht) (getD_replicate_false _ _)⟩
  have hp : ∀ i o, i < m → l.toArray[i]? = some o → plainOp o = true := by
    intro i o hi ho
    rw [List.all_eq_true] at hpl
    refine hpl o ?_
    rw [List.getElem?_toArray] at ho
    have : (l.take m)[i]? = some o := by rw [List.getElem?_take]; simp [hi, ho]
    exact List.mem_of_getElem? this
  have H := wpAnyL_lex (md := .any) (g := l.toArray.size - m) hsel hs hc hn (l.take m) 0 _ a (fun j hj => by
    have hj' : j < m := by rw [htl] at hj; exact hj
    simp [hj']) (by simpa using htl) inv0 (by rw [htl]; exact hlex) h
  refine wpIn_region_any hm ?_
  have := wpAnyIn_of_head (F := F) (n := n) (Q' := Q) (g := l.toArray.size - m) hp (fun listed a' hL => by
    have := wpAnyIn_of_seq (F := F) (n := n) (md := .any) (Q' := Q) (l.drop m) m listed a' { w with drawn := w.drawn + 1 } (fun j => by simp [List.getElem?_drop]) (by rw [hdl]; exact hL.1) hL.2
    rwa [hdl] at this) _ _ _ H
  rw [htl, show m + (l.toArray.size - m) = l.toArray.size by omega] at this
  exact this
end
end Go.Proofs.Ytabbabkmojaoaaa
