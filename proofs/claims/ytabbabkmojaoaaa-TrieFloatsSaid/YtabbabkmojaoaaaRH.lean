/-
  A region that draws its order in the round of a range over a function: loads that may come late, builtins, one store behind all.
-/
import Derived.Test.YtabbabkmojaoaaaRG
set_option linter.unusedVariables false
namespace Go.Proofs.Ytabbabkmojaoaaa
open Go.RowKit

/-- an operation that computes, loads, makes a value or a block, stores, or calls a builtin of slices -/
def calmOp (o : Oper) : Bool :=
  plainOp o || match o.op with
  | .build .. => true
  | .buildSlice .. => true
  | .store .. => true
  | .slice .. => true
  | .sliceToArrayPointer .. => true
  | .call { callee := .builtin .append, .. } => true
  | .call { callee := .builtin .len, .. } => true
  | _ => false

def Tame (s : Sem Next) : Prop := ∀ (P : Program) (w w' : World) (x : Next), s.run P w = .ok x w' → (∃ v, x = .value v) ∨ x = .skip
theorem tame_value (v : Value) : Tame (pure (Next.value v)) := by
  intro P w w' x e
  rw [Sem.run_pure] at e
  cases e
  exact .inl ⟨_, rfl⟩
theorem tame_skip : Tame (pure Next.skip) := by
  intro P w w' x e
  rw [Sem.run_pure] at e
  cases e
  exact .inr rfl
theorem tame_bind {α : Type} (s : Sem α) (k : α → Sem Next) (h : ∀ x, Tame (k x)) : Tame (s >>= k) := by
  intro P w w' x e
  rw [Sem.run_bind] at e
  cases hs : s.run P w with
  | ok y w1 => rw [hs] at e; exact h y P w1 w' x e
  | halt y w1 => rw [hs] at e; simp [Result.andThen] at e
theorem tame_halt (x : Halt) : Tame (.halt x) := by
  intro P w w' f e
  simp [Sem.run] at e
theorem tame_panic (x : RuntimeError) : Tame (runtimePanic x) := by
  unfold runtimePanic
  repeat' first
    | exact tame_halt _
    | (refine tame_bind _ _ (fun x => ?_))
    | split
theorem tame_map {α : Type} (s : Sem α) (f : α → Value) : Tame ((fun x => Next.value (f x)) <$> s) := by
  intro P w w' x e
  rw [Sem.run_map] at e
  cases hs : s.run P w with
  | ok y w1 => rw [hs] at e; simp at e; exact .inl ⟨_, e.1.symm⟩
  | halt y w1 => rw [hs] at e; simp at e
theorem calm_call {o : Oper} (h : calmOp o = true) {c : Call} (ho : o.op = .call c) : ∃ args ts, c = { callee := .builtin .append, args := args, argTypes := ts } ∨ c = { callee := .builtin .len, args := args, argTypes := ts } := by
  unfold calmOp plainOp at h
  rw [ho] at h
  obtain ⟨callee, args, ts⟩ := c
  cases callee with
  | builtin b => cases b <;> simp at h <;> exact ⟨_, _, by first | exact .inl rfl | exact .inr rfl⟩
  | _ => simp at h
theorem calmOp_tame {o : Oper} (h : calmOp o = true) (ρ : Operand → Value) : Tame (execOp ρ o) := by
  by_cases hc : ∃ c, o.op = .call c
  · obtain ⟨c, ho⟩ := hc
    obtain ⟨args, ts, rfl | rfl⟩ := calm_call h ho
    all_goals
      unfold execOp
      simp only [ho, resolve, pure_bind, invoke, builtin]
      exact tame_bind _ _ (fun x => tame_value _)
  · unfold calmOp plainOp at h
    unfold execOp
    cases ho : o.op <;> simp only [ho] at h ⊢
    case call c => exact absurd ⟨c, ho⟩ hc
    all_goals first
      | contradiction
      | (repeat' first
          | exact tame_value _
          | exact tame_skip
          | exact tame_panic _
          | exact tame_halt _
          | exact tame_map _ _
          | (refine tame_bind _ _ (fun x => ?_))
          | split)
theorem calmOp_about {P : Program} {o : Oper} (h : calmOp o = true) (w : World) (ρ : Operand → Value) : o.about P w ρ = none := by
  unfold Oper.about
  cases ho : o.op <;> simp only
  case call c =>
    obtain ⟨args, ts, rfl | rfl⟩ := calm_call h ho
    all_goals simp [resolve, Target.leads, Sem.run_pure]
theorem calmOp_defer {o : Oper} (h : calmOp o = true) : ∀ c, o.op ≠ .defer c := by
  intro c e
  unfold calmOp plainOp at h
  rw [e] at h
  simp at h
theorem calmOp_select {o : Oper} (h : calmOp o = true) : ∀ cs b, o.op ≠ .select cs b := by
  intro cs b e
  unfold calmOp plainOp at h
  rw [e] at h
  simp at h

section
variable {F : Fence} {n : Nat} {P : Program} {ops : Array Oper} {Q : Exit → Act → World → Prop} {md : Region.Mode} {C : World → Prop}

/-- in every world that C is true of, the operation gives v and does nothing else -/
def GivesC (P : Program) (ops : Array Oper) (C : World → Prop) (o : Oper) (v : Value) (a : Act) : Prop :=
  Region.wanted o (yielded ops a.tmps) = true ∧ ∀ w, C w → (execOp a.eval o).run P w = .ok (.value v) w

theorem GivesC.step {i : Nat} {o : Oper} {v : Value} {a : Act} (hc : calmOp o = true) (hi : ops[i]? = some o) (hy : GivesC P ops C o v a) {K : Act → World → Prop} {w : World} (hw : C w) (h : K (a.put o.dst v) w) : wpOpIn F n P ops Q i K a w := by
  unfold wpOpIn
  simp only [hi, hy.1, if_true, Oper.wpIn]
  refine ⟨fun f hf => (by rw [calmOp_about hc] at hf; cases hf), ?_⟩
  rw [Oper.semAt_eq _ _ _ (calmOp_defer hc), hy.2 w hw]
  exact h
theorem calm_put {j : Nat} {oi oj : Oper} {v : Value} (hcj : calmOp oj = true) (hci : calmOp oi = true) (hj : ops[j]? = some oj) (hap : oi.apart ops oj = true)
    (hQ : ∀ c a w, Q (.panic c) (a.put oi.dst v) w → Q (.panic c) a w) {K : Act → World → Prop} {a : Act} {w : World}
    (hy : GivesC P ops C oi v a) (h : wpOpIn F n P ops Q j K (a.put oi.dst v) w) :
    wpOpIn F n P ops Q j (fun a' w' => GivesC P ops C oi v a' ∧ K (a'.put oi.dst v) w') a w := by
  obtain ⟨h1, h2, h3⟩ := Oper.apart_spec hap
  have keep : ∀ u, GivesC P ops C oi v (a.put oj.dst u) := fun u => by
    unfold GivesC at hy ⊢
    rw [execOp_put oi (calmOp_select hci) a oj.dst u h3, wanted_put oi a oj.dst u h3]
    exact hy
  unfold wpOpIn at h ⊢
  simp only [hj] at h ⊢
  rw [wanted_put oj a oi.dst v h1] at h
  split
  · rename_i hw
    simp only [hw, if_true] at h
    unfold Oper.wpIn at h ⊢
    refine ⟨fun f hf => (by rw [calmOp_about hcj] at hf; cases hf), ?_⟩
    have h := h.2
    rw [Oper.semAt_eq _ _ _ (calmOp_defer hcj), execOp_put oj (calmOp_select hcj) a oi.dst v h1] at h
    rw [Oper.semAt_eq _ _ _ (calmOp_defer hcj)]
    have ht := calmOp_tame hcj a.eval P w
    cases hr : (execOp a.eval oj).run P w with
    | ok x w' =>
      rw [hr] at h
      rcases ht w' x hr with ⟨u, rfl⟩ | rfl
      · simp only [Oper.uponIn] at h ⊢
        exact ⟨keep u, by rw [← Act.put_comm a v u h2]; exact h⟩
      · simp only [Oper.uponIn] at h ⊢
        exact ⟨keep _, by rw [← Act.put_comm a v undef h2]; exact h⟩
    | halt x w' =>
      rw [hr] at h
      cases x <;> simp only [Oper.uponIn] at h ⊢
      case panic u => exact hQ _ _ _ h
  · rename_i hw
    simp only [hw] at h
    exact ⟨fun f hf => (by rw [calmOp_about hcj] at hf; cases hf), keep _, by rw [← Act.put_comm a v undef h2]; exact h.2⟩

/-- whatever comes up; C stays true till an operation of M -/
def anyC (F : Fence) (n : Nat) (P : Program) (md : Region.Mode) (ops : Array Oper) (Q : Exit → Act → World → Prop) (M : List Nat) (C : World → Prop) : Nat → Array Bool → Act → World → Prop
  | 0, l, a, w => Region.ready md ops l = [] ∧ Q .normal a w
  | f + 1, l, a, w => (Region.ready md ops l = [] → Q .normal a w) ∧ ∀ i ∈ Region.ready md ops l, wpOpIn F n P ops Q i (fun a' w' => (i ∉ M → C w') ∧ anyC F n P md ops Q M C f (l.setIfInBounds i true) a' w') a w
theorem anyC_any {M : List Nat} : ∀ (f : Nat) (l : Array Bool) (a : Act) (w : World), anyC F n P md ops Q M C f l a w → wpAnyIn F n P md ops Q f l a w
  | 0, _, _, _, h => h
  | f + 1, _, _, _, h => ⟨h.1, fun i hi => wpOpIn_mono (fun a' w' h' => anyC_any f _ a' w' h'.2) (h.2 i hi)⟩
/-- all of U wait for i, through one another -/
def UpOf (md : Region.Mode) (ops : Array Oper) (i : Nat) (U : List Nat) : Prop := ∀ j ∈ U, ∃ o, ops[j]? = some o ∧ ∃ e ∈ o.after, Region.binds md e = true ∧ (e.on = i ∨ e.on ∈ U)
theorem getD_flip {l : Array Bool} {i : Nat} (h1 : l.getD i false = true) (h0 : l.getD i true = false) : False := by
  simp only [Array.getD_eq_getD_getElem?] at h0 h1
  cases hl : l[i]? with
  | none => rw [hl] at h1; cases h1
  | some b => rw [hl] at h0 h1; simp at h0 h1; rw [h0] at h1; cases h1
theorem anyC_first {M U : List Nat} {i : Nat} {oi : Oper} {v : Value} (hcalm : ∀ (j : Nat) (o : Oper), ops[j]? = some o → calmOp o = true) (hi : ops[i]? = some oi) (hMU : ∀ j ∈ M, j ∈ U) (hU : UpOf md ops i U)
    (hQ : ∀ c a w, Q (.panic c) (a.put oi.dst v) w → Q (.panic c) a w) :
    ∀ (f : Nat) (l : Array Bool) (a : Act) (w : World),
      (∀ j oj, ops[j]? = some oj → j ≠ i → l.getD j true = false → (∀ e ∈ oj.after, Region.binds md e = true → e.on ≠ i) → oi.apart ops oj = true) →
      (∀ j ∈ U, l.getD j true = false) → i ∈ Region.ready md ops l → GivesC P ops C oi v a → C w →
      anyC F n P md ops Q M C f (l.setIfInBounds i true) (a.put oi.dst v) w → anyC F n P md ops Q M C (f + 1) l a w := by
  intro f
  induction f with
  | zero =>
    intro l a w _ hun hr hy hC H
    refine ⟨fun h => (by rw [h] at hr; cases hr), fun j hj => ?_⟩
    by_cases hji : j = i
    · subst hji; exact hy.step (hcalm _ _ hi) hi hC ⟨fun _ => hC, H⟩
    · have := ready_mono hj hji
      rw [H.1] at this
      cases this
  | succ f ih =>
    intro l a w hfree hun hr hy hC H
    refine ⟨fun h => (by rw [h] at hr; cases hr), fun j hj => ?_⟩
    by_cases hji : j = i
    · subst hji; exact hy.step (hcalm _ _ hi) hi hC ⟨fun _ => hC, H⟩
    · have h1 := H.2 j (ready_mono hj hji)
      obtain ⟨hjun, oj, hoj, hall⟩ := mem_ready.1 hj
      have h0 := (mem_ready.1 hr).1
      have hnot : ∀ e ∈ oj.after, Region.binds md e = true → e.on ≠ i := fun e he hb heq => by
        have h1 := hall e he hb
        rw [heq] at h1
        exact getD_flip h1 h0
      have hjU : j ∉ U := fun hjU => by
        obtain ⟨om, hom, e, he, hb, heq⟩ := hU j hjU
        rw [hoj] at hom
        cases hom
        rcases heq with heq | heq
        · exact hnot e he hb heq
        · exact getD_flip (hall e he hb) (hun _ heq)
      have h2 := calm_put (hcalm _ _ hoj) (hcalm _ _ hi) hoj (hfree j oj hoj hji hjun hnot) hQ hy h1
      have hfree' : ∀ k ok, ops[k]? = some ok → k ≠ i → (l.setIfInBounds j true).getD k true = false →
          (∀ e ∈ ok.after, Region.binds md e = true → e.on ≠ i) → oi.apart ops ok = true := fun k ok hk hki hun hno => by
        refine hfree k ok hk hki ?_ hno
        by_cases hjk : j = k
        · subst hjk; exact hjun
        · rw [getD_set_ne true hjk] at hun; exact hun
      have hun' : ∀ k ∈ U, (l.setIfInBounds j true).getD k true = false := fun k hk => by
        have hjk : j ≠ k := fun e => hjU (by rw [e]; exact hk)
        rw [getD_set_ne true hjk]
        exact hun k hk
      refine wpOpIn_mono (fun a' w' h3 => ⟨h3.2.1, ih (l.setIfInBounds j true) a' w' hfree' hun' (ready_mono hr (Ne.symm hji)) h3.1 (h3.2.1 (fun h => hjU (hMU _ h))) ?_⟩) h2
      rw [Array.setIfInBounds_comm _ _ hji]
      exact h3.2.2
/-- the tests of a step -/
def takeB (md : Region.Mode) (ops : Array Oper) (M U : List Nat) (i : Nat) (l : Array Bool) : Bool :=
  Region.free md ops l i && (Region.ready md ops l).contains i && M.all (fun j => U.contains j) && U.all (fun j => !(l.getD j true) && (match ops[j]? with | some om => om.after.any (fun e => Region.binds md e && (e.on == i || U.contains e.on)) | none => false))
theorem anyC_take (U : List Nat) {M : List Nat} {i : Nat} {oi : Oper} {v : Value} {f : Nat} {l : Array Bool} {a : Act} {w : World} (hcalm : ops.all calmOp = true) (hi : ops[i]? = some oi) (hB : takeB md ops M U i l = true)
    (hQ : ∀ c a w, Q (.panic c) (a.put oi.dst v) w → Q (.panic c) a w) (hw : Region.wanted oi (yielded ops a.tmps) = true) (hv : ∀ w, C w → (execOp a.eval oi).run P w = .ok (.value v) w) (hC : C w)
    (h : anyC F n P md ops Q M C f (l.setIfInBounds i true) (a.put oi.dst v) w) : anyC F n P md ops Q M C (f + 1) l a w := by
  simp only [takeB, Bool.and_eq_true] at hB
  obtain ⟨⟨⟨h1, h2⟩, h3⟩, h4⟩ := hB
  simp only [List.all_eq_true, Bool.and_eq_true] at h3 h4
  refine anyC_first (U := U) (fun j o hj => ?_) hi (fun j hj => by simpa using h3 j hj) ?_ hQ f l a w (Region.free_spec hi h1) (fun j hj => by simpa using (h4 j hj).1) (by simpa using h2) ⟨hw, hv⟩ hC h
  · rw [Array.all_eq_true_iff_forall_mem] at hcalm
    exact hcalm o (Array.mem_of_getElem? hj)
  · intro j hj
    have h5 := (h4 j hj).2
    cases hm : ops[j]? with
    | none => rw [hm] at h5; cases h5
    | some om =>
      rw [hm] at h5
      simp only [Array.any_eq_true] at h5
      obtain ⟨k, hk, h6⟩ := h5
      simp only [Bool.and_eq_true, Bool.or_eq_true, beq_iff_eq] at h6
      exact ⟨om, rfl, om.after[k], Array.getElem_mem hk, h6.1, by simpa using h6.2⟩
/-- the one operation that may come up: it makes a block -/
theorem anyC_one {M : List Nat} {i : Nat} {o : Oper} {v : Value} {f : Nat} {l : Array Bool} {a : Act} {w w' : World} (hr : Region.ready md ops l = [i]) (hi : ops[i]? = some o) (hc : calmOp o = true)
    (hw : Region.wanted o (yielded ops a.tmps) = true) (hv : (execOp a.eval o).run P w = .ok (.value v) w') (hC : C w') (h : anyC F n P md ops Q M C f (l.setIfInBounds i true) (a.put o.dst v) w') : anyC F n P md ops Q M C (f + 1) l a w := by
  refine ⟨fun h0 => (by rw [hr] at h0; cases h0), fun j hj => ?_⟩
  rw [hr] at hj
  obtain rfl : j = i := by simpa using hj
  unfold wpOpIn
  simp only [hi, hw, if_true, Oper.wpIn]
  refine ⟨fun f hf => (by rw [calmOp_about hc] at hf; cases hf), ?_⟩
  rw [Oper.semAt_eq _ _ _ (calmOp_defer hc), hv]
  exact ⟨fun _ => hC, h⟩
/-- the rest, one behind the other -/
theorem anyC_seq {M : List Nat} : ∀ (l : List Oper) (k : Nat) (listed : Array Bool) (a : Act) (w : World), (∀ j, l[j]? = ops[k + j]?) → Region.seqB md ops l.length k listed = true → (∀ j, j < l.length → k + j ∈ M) →
    wpListIn F n P ops Q l a w → anyC F n P md ops Q M C l.length listed a w
  | [], _, _, _, _, _, hB, _, h => ⟨by simpa [Region.seqB] using hB, h⟩
  | o :: l, k, listed, a, w, hl, hB, hM, h => by
    have h0 : ops[k]? = some o := by simpa using (hl 0).symm
    simp only [List.length_cons, Region.seqB, Bool.and_eq_true, decide_eq_true_eq] at hB
    refine ⟨fun h1 => (by rw [hB.1] at h1; cases h1), fun i hi => ?_⟩
    rw [hB.1] at hi
    have hik : i = k := by simpa using hi
    subst hik
    have hw : wpOpIn F n P ops Q i (wpListIn F n P ops Q l) a w := by unfold wpOpIn; simp only [h0]; exact h
    exact wpOpIn_mono (fun a' w' h' => ⟨fun hn => absurd (by have := hM 0 (by simp); simpa using this) hn, anyC_seq l (i + 1) _ a' w' (fun j => by have := hl (j + 1); simpa [Nat.add_assoc, Nat.add_comm 1 j] using this) hB.2 (fun j hj => by have := hM (j + 1) (by simpa using hj); rwa [show i + 1 + j = i + (j + 1) by omega]) h'⟩) hw
theorem anyC_tail {M : List Nat} (k : Nat) {f : Nat} {l : List Oper} {listed : Array Bool} {a : Act} {w : World} (hk : f + k = l.length) (hB : Region.seqB md l.toArray f k listed = true) (hM : (List.range f).all (fun j => M.contains (k + j)) = true)
    (h : wpListIn F n P l.toArray Q (l.drop k) a w) : anyC F n P md l.toArray Q M C f listed a w := by
  have hl : (l.drop k).length = f := by rw [List.length_drop]; omega
  have := anyC_seq (C := C) (M := M) (l.drop k) k listed a w (fun j => by simp [List.getElem?_drop]) (by rw [hl]; exact hB) (fun j hj => by
    rw [List.all_eq_true] at hM
    simpa using hM j (List.mem_range.2 (by omega))) h
  rwa [hl] at this
theorem wpIn_region_calm {id : Nat} {a : Act} {w : World} {l : List Oper} (M : List Nat) (C : World → Prop) (hm : P.follows .mixedOrders = true)
    (h : anyC F n P .any l.toArray Q M C l.toArray.size (Array.replicate l.toArray.size false) a w.drew) : (Code.region id l.toArray true).wpIn F n P Q a w :=
  wpIn_region_any hm (anyC_any _ _ _ _ h)
end
end Go.Proofs.Ytabbabkmojaoaaa
