/-
  A region that draws its order and holds calls: the operations that read are taken ahead of all; then the calls.
-/
import Derived.Test.YtbmphakfgoompaaRQ
import Derived.Test.YtbmphakfgoompaaRH
import Derived.Great.BuildSlice
set_option linter.unusedVariables false
set_option linter.unusedSimpArgs false
namespace Go.Proofs.Ytbmphakfgoompaa
open Go.RowKit

theorem foldo_get (off : Nat) (cs : List Value) : ∀ (k : Nat) (z : Array Value) (i : Nat), ((cs.zipIdx k).foldl (fun cs x => cs.setIfInBounds (off + x.snd) x.fst) z)[i]? = if off + k ≤ i ∧ i < off + k + cs.length ∧ i < z.size then cs[i - off - k]? else z[i]? := by
  induction cs with
  | nil => intro k z i; simp; intro h1 h2; omega
  | cons c cs ih =>
    intro k z i
    rw [List.zipIdx_cons, List.foldl_cons, ih]
    simp only [Array.size_setIfInBounds, List.length_cons, Array.getElem?_setIfInBounds]
    by_cases h1 : off + k = i
    · subst h1
      rw [if_neg (by omega), if_pos rfl]
      by_cases h2 : off + k < z.size
      · rw [if_pos h2, if_pos (by omega)]; simp [show off + k - off - k = 0 by omega]
      · rw [if_neg h2, if_neg (by omega)]; simp; omega
    · rw [if_neg h1]
      by_cases h2 : off + (k + 1) ≤ i ∧ i < off + (k + 1) + cs.length ∧ i < z.size
      · rw [if_pos h2, if_pos (by omega)]
        rw [show i - off - k = (i - off - (k + 1)) + 1 by omega]
        simp
      · rw [if_neg h2, if_neg (by omega)]
theorem foldo_size (off : Nat) (cs : List Value) : ∀ (k : Nat) (z : Array Value), ((cs.zipIdx k).foldl (fun cs x => cs.setIfInBounds (off + x.snd) x.fst) z).size = z.size := by
  induction cs with
  | nil => intro k z; rfl
  | cons c cs ih => intro k z; rw [List.zipIdx_cons, List.foldl_cons, ih]; simp
theorem fill3 (pl : Nat → Option (Nat × Nat)) (z xs : Array Value) (s1 s2 : Value) (hz : z.size = 274) (hxs : xs.size = 272) (h1 : s1.cells = #[s1]) (h2 : s2.cells = #[s2]) (p0 : pl 0 = some (0, 272)) (p1 : pl 1 = some (272, 1)) (p2 : pl 2 = some (273, 1)) :
    Instr.fill pl z [(0, .agg xs), (1, s1), (2, s2)] = some (xs.toList ++ [s1, s2]).toArray := by
  have hc : (Value.agg xs).cells = xs := rfl
  obtain ⟨y, hy⟩ : ∃ y, y = (xs.toList.zipIdx).foldl (fun cs x => cs.setIfInBounds (0 + x.snd) x.fst) z := ⟨_, rfl⟩
  have hys : y.size = 274 := by rw [hy, foldo_size]; exact hz
  have e1 : (xs.zipIdx.foldl (fun cs (x : Value × Nat) => cs.setIfInBounds (0 + x.2) x.1) z) = y := by
    rw [hy, ← Array.foldl_toList, Array.toList_zipIdx]
  rw [Instr.fill, p0]
  simp only [hc, hxs, hz]
  rw [if_neg (by simp)]
  rw [Instr.fill, p1]
  have e2 : (Array.foldl (fun cs x => match x with | (c, j) => cs.setIfInBounds (0 + j) c) z xs.zipIdx) = y := e1
  simp only [h1]
  rw [e2]
  rw [if_neg (by simp [hys])]
  rw [Instr.fill, p2]
  simp only [h2]
  rw [if_neg (by simp [hys])]
  rw [Instr.fill]
  simp only [Array.zipIdx, List.size_toArray]
  congr 1
  apply Array.ext_getElem?
  intro i
  simp [Array.getElem?_setIfInBounds, hys]
  have hg : y[i]? = if i < 272 then xs[i]? else z[i]? := by
    rw [hy, foldo_get]
    by_cases hi : i < 272
    · rw [if_pos (by simp; omega), if_pos hi]; simp
    · rw [if_neg (by simp; omega), if_neg hi]
  rw [List.getElem?_append]
  by_cases hi : i < 272
  · rw [if_neg (by omega), if_neg (by omega), hg, if_pos hi, if_pos (by simp; omega)]
    simp
  · rw [if_neg (show ¬ i < xs.toList.length by simp; omega)]
    by_cases h3 : 273 = i
    · subst h3; simp [hxs]
    · by_cases h4 : 272 = i
      · subst h4; simp [hxs]
      · rw [if_neg h3, if_neg h4, hg, if_neg hi, Array.getElem?_eq_none (by omega), List.getElem?_eq_none (by simp; omega)]

def okOp (o : Oper) : Bool := match o.op with
  | .defer _ => false
  | .select .. => false
  | _ => true
theorem okOp_defer {o : Oper} (h : okOp o = true) : ∀ c, o.op ≠ .defer c := by
  intro c e
  unfold okOp at h
  rw [e] at h
  cases h
theorem okOp_select {o : Oper} (h : okOp o = true) : ∀ cs b, o.op ≠ .select cs b := by
  intro cs b e
  unfold okOp at h
  rw [e] at h
  cases h
section
variable {F : Fence} {n : Nat} {P : Program} {ops : Array Oper} {Q : Exit → Act → World → Prop} {md : Region.Mode} {C : World → Prop}
theorem any_put {j : Nat} {oi oj : Oper} {v : Value} (hcj : okOp oj = true) (hci : calmOp oi = true) (hj : ops[j]? = some oj) (hap : oi.apart ops oj = true)
    (hQ : ∀ c a w, Q (.panic c) (a.put oi.dst v) w → Q (.panic c) a w) {K : Act → World → Prop} {a : Act} {w : World}
    (hy : GivesC P ops C oi v a) (h : wpOpIn F n P ops Q j K (a.put oi.dst v) w) :
    wpOpIn F n P ops Q j (fun a' w' => GivesC P ops C oi v a' ∧ K (a'.put oi.dst v) w') a w := by
  obtain ⟨h1, h2, h3⟩ := Oper.apart_spec hap
  have keep : ∀ (a : Act), GivesC P ops C oi v a → ∀ u, GivesC P ops C oi v (a.put oj.dst u) := fun a hy u => by
    unfold GivesC at hy ⊢
    rw [execOp_put oi (calmOp_select hci) a oj.dst u h3, wanted_put oi a oj.dst u h3]
    exact hy
  unfold wpOpIn at *
  simp only [hj] at *
  rw [wanted_put oj a oi.dst v h1, about_put oj w a oi.dst v h1] at h
  split
  · rename_i hw
    simp only [hw, if_true] at h
    unfold Oper.wpIn at *
    rw [about_put oj w a oi.dst v h1] at h
    refine ⟨h.1, ?_⟩
    have h := h.2
    rw [Oper.semAt_eq _ _ _ (okOp_defer hcj), execOp_put oj (okOp_select hcj) a oi.dst v h1] at h
    rw [Oper.semAt_eq _ _ _ (okOp_defer hcj)]
    generalize hr : (execOp a.eval oj).run P w = r at *
    cases r with
    | ok x w' =>
      cases x <;> simp only [Oper.uponIn] at h ⊢
      case value u => exact ⟨keep a hy u, by rw [← Act.put_comm a v u h2]; exact h⟩
      case skip => exact ⟨keep a hy _, by rw [← Act.put_comm a v undef h2]; exact h⟩
      case defer d =>
        refine ⟨keep _ (show GivesC P ops C oi v { a with defers := d :: a.defers } from hy) _, ?_⟩
        rw [← Act.put_comm _ v undef h2, ← Act.put_defers]
        exact h
      case enter f args =>
        refine ⟨h.1, CallsIn.mono h.2 fun e w'' he => ?_⟩
        cases e with
        | returned u => exact ⟨keep a hy u, by rw [← Act.put_comm a v u h2]; exact he⟩
        | panicked c => exact hQ _ _ _ he
        | outgrown => exact he
      case row row args => exact ⟨h.1, RowsIn.mono h.2 fun u w'' he => ⟨keep a hy u, by rw [← Act.put_comm a v u h2]; exact he⟩⟩
      case round l f tmps assign body =>
        refine ⟨h.1, RoundIn.mono h.2 fun e w'' he => ?_⟩
        cases e with
        | returned u => exact ⟨keep a hy u, by rw [← Act.put_comm a v u h2]; exact he⟩
        | panicked c => exact hQ _ _ _ he
        | outgrown => exact he
    | halt x w' =>
      cases x <;> simp only [Oper.uponIn] at h ⊢
      case panic u => exact hQ _ _ _ h
  · rename_i hw
    simp only [hw] at h
    exact ⟨h.1, keep a hy _, by rw [← Act.put_comm a v undef h2]; exact h.2⟩
theorem anyD_first {M U : List Nat} {i : Nat} {oi : Oper} {v : Value} (hok : ∀ (j : Nat) (o : Oper), ops[j]? = some o → okOp o = true) (hci : calmOp oi = true) (hi : ops[i]? = some oi) (hMU : ∀ j ∈ M, j ∈ U) (hU : UpOf md ops i U)
    (hQ : ∀ c a w, Q (.panic c) (a.put oi.dst v) w → Q (.panic c) a w) :
    ∀ (f : Nat) (l : Array Bool) (a : Act) (w : World),
      (∀ j oj, ops[j]? = some oj → j ≠ i → l.getD j true = false → (∀ e ∈ oj.after, Region.binds md e = true → e.on ≠ i) → oi.apart ops oj = true) →
      (∀ j ∈ U, l.getD j true = false) → i ∈ Region.ready md ops l → GivesC P ops C oi v a → C w →
      anyC F n P md ops Q M C f (l.setIfInBounds i true) (a.put oi.dst v) w → anyC F n P md ops Q M C (f + 1) l a w := by
  intro f
  induction f with
  | zero =>
    intro l a w _ hun hr hy hC H
    refine ⟨fun h => (by rw [h] at hr; cases hr), fun j hj => ?_⟩
    by_cases hji : j = i
    · subst hji; exact hy.step hci hi hC ⟨fun _ => hC, H⟩
    · have := ready_mono hj hji
      rw [H.1] at this
      cases this
  | succ f ih =>
    intro l a w hfree hun hr hy hC H
    refine ⟨fun h => (by rw [h] at hr; cases hr), fun j hj => ?_⟩
    by_cases hji : j = i
    · subst hji; exact hy.step hci hi hC ⟨fun _ => hC, H⟩
    · have h1 := H.2 j (ready_mono hj hji)
      obtain ⟨hjun, oj, hoj, hall⟩ := mem_ready.1 hj
      have h0 := (mem_ready.1 hr).1
      have hnot : ∀ e ∈ oj.after, Region.binds md e = true → e.on ≠ i := fun e he hb heq => by
        have h1 := hall e he hb
        rw [heq] at h1
        exact getD_flip h1 h0
      have hjU : j ∉ U := fun hjU => by
        obtain ⟨om, hom, e, he, hb, heq⟩ := hU j hjU
        rw [hoj] at hom
        cases hom
        rcases heq with heq | heq
        · exact hnot e he hb heq
        · exact getD_flip (hall e he hb) (hun _ heq)
      have h2 := any_put (hok _ _ hoj) hci hoj (hfree j oj hoj hji hjun hnot) hQ hy h1
      have hfree' : ∀ k ok, ops[k]? = some ok → k ≠ i → (l.setIfInBounds j true).getD k true = false →
          (∀ e ∈ ok.after, Region.binds md e = true → e.on ≠ i) → oi.apart ops ok = true := fun k ok hk hki hun hno => by
        refine hfree k ok hk hki ?_ hno
        by_cases hjk : j = k
        · subst hjk; exact hjun
        · rw [getD_set_ne true hjk] at hun; exact hun
      have hun' : ∀ k ∈ U, (l.setIfInBounds j true).getD k true = false := fun k hk => by
        have hjk : j ≠ k := fun e => hjU (by rw [e]; exact hk)
        rw [getD_set_ne true hjk]
        exact hun k hk
      refine wpOpIn_mono (fun a' w' h3 => ⟨h3.2.1, ih (l.setIfInBounds j true) a' w' hfree' hun' (ready_mono hr (Ne.symm hji)) h3.1 (h3.2.1 (fun h => hjU (hMU _ h))) ?_⟩) h2
      rw [Array.setIfInBounds_comm _ _ hji]
      exact h3.2.2
theorem anyD_take (U : List Nat) {M : List Nat} {i : Nat} {oi : Oper} {v : Value} {f : Nat} {l : Array Bool} {a : Act} {w : World} (hok : ops.all okOp = true) (hi : ops[i]? = some oi) (hci : calmOp oi = true) (hB : takeB md ops M U i l = true)
    (hQ : ∀ c a w, Q (.panic c) (a.put oi.dst v) w → Q (.panic c) a w) (hw : Region.wanted oi (yielded ops a.tmps) = true) (hv : ∀ w, C w → (execOp a.eval oi).run P w = .ok (.value v) w) (hC : C w)
    (h : anyC F n P md ops Q M C f (l.setIfInBounds i true) (a.put oi.dst v) w) : anyC F n P md ops Q M C (f + 1) l a w := by
  simp only [takeB, Bool.and_eq_true] at hB
  obtain ⟨⟨⟨h1, h2⟩, h3⟩, h4⟩ := hB
  simp only [List.all_eq_true, Bool.and_eq_true] at h3 h4
  refine anyD_first (U := U) (fun j o hj => ?_) hci hi (fun j hj => by simpa using h3 j hj) ?_ hQ f l a w (Region.free_spec hi h1) (fun j hj => by simpa using (h4 j hj).1) (by simpa using h2) ⟨hw, hv⟩ hC h
  · rw [Array.all_eq_true_iff_forall_mem] at hok
    exact hok o (Array.mem_of_getElem? hj)
  · intro j hj
    have h5 := (h4 j hj).2
    cases hm : ops[j]? with
    | none => rw [hm] at h5; cases h5
    | some om =>
      rw [hm] at h5
      simp only [Array.any_eq_true] at h5
      obtain ⟨k, hk, h6⟩ := h5
      simp only [Bool.and_eq_true, Bool.or_eq_true, beq_iff_eq] at h6
      exact ⟨om, rfl, om.after[k], Array.getElem_mem hk, h6.1, by simpa using h6.2⟩
theorem exec_call1 {o : Oper} {a : Act} {w : World} (f : FuncId) (x : Operand) (ts : Array TypeId) (ho : o.op = .call { callee := .value (.func f), args := #[x], argTypes := ts }) (v : Value) (hx : a.eval x = v) (eg : ∀ args W, (callFunc f args).run P W = .ok (.enter f args) W) :
    (execOp a.eval o).run P w = .ok (.enter f #[v]) w := by
  subst hx
  unfold execOp
  simp only [ho]
  simp [resolve, invoke, go_sem, eg, Act.eval]
theorem exec_build3 {o : Oper} {a : Act} {w : World} (t : TypeId) (x0 x1 x2 : Operand) (ho : o.op = .build t #[(0, x0), (1, x1), (2, x2)]) (v0 v1 v2 v : Value) (h0 : a.eval x0 = v0) (h1 : a.eval x1 = v1) (h2 : a.eval x2 = v2) (hr : (Instr.build t #[(0, v0), (1, v1), (2, v2)]).run P w = .ok v w) :
    (execOp a.eval o).run P w = .ok (.value v) w := by
  subst h0 h1 h2
  unfold execOp
  simp only [ho, List.map_toArray, List.map_cons, List.map_nil, Sem.run_bind, hr, Result.andThen_ok, Sem.run_pure]
theorem exec_store1 {o : Oper} {a : Act} {w : World} (ty : TypeId) (x y : Operand) (ho : o.op = .store ty x y) (g : Nat) (v : Value) (hx : a.eval x = .pointer (some ⟨g, 0, none⟩)) (hy : a.eval y = v) (h1 : v.oneCell' = true) (t : TypeId) (old : Value) (hg : w.heap[g]? = some (.cells #[old] t (0, 0))) (hi : (P.info? ty).map (·.size) = some 1) :
    (execOp a.eval o).run P w = .ok .skip (w.setRow g #[v]) := by
  subst hy
  unfold execOp
  simp only [ho, hx, Instr.storeAt, Instr.sureAddr, Sem.run_bind, Sem.run_pure, Result.andThen_ok, run_storeVar_one w g t ty old _ hg hi h1]
/-- a step that gives a value -/
theorem stepV {M : List Nat} {i : Nat} {o : Oper} {v : Value} {f : Nat} {l : Array Bool} {a : Act} {w w' : World} (hi : ops[i]? = some o) (hc : okOp o = true) (hab : ∀ f, o.about P w a.eval = some f → F.fn f)
    (hw : Region.wanted o (yielded ops a.tmps) = true) (hv : (execOp a.eval o).run P w = .ok (.value v) w') (hC : i ∉ M → C w') (h : anyC F n P md ops Q M C f (l.setIfInBounds i true) (a.put o.dst v) w') :
    wpOpIn F n P ops Q i (fun a' w' => (i ∉ M → C w') ∧ anyC F n P md ops Q M C f (l.setIfInBounds i true) a' w') a w := by
  unfold wpOpIn
  simp only [hi, hw, if_true, Oper.wpIn]
  refine ⟨hab, ?_⟩
  rw [Oper.semAt_eq _ _ _ (okOp_defer hc), hv]
  exact ⟨hC, h⟩
/-- a step that does and gives none -/
theorem stepS {M : List Nat} {i : Nat} {o : Oper} {f : Nat} {l : Array Bool} {a : Act} {w w' : World} (hi : ops[i]? = some o) (hc : okOp o = true) (hab : ∀ f, o.about P w a.eval = some f → F.fn f)
    (hw : Region.wanted o (yielded ops a.tmps) = true) (hv : (execOp a.eval o).run P w = .ok .skip w') (hC : i ∉ M → C w') (h : anyC F n P md ops Q M C f (l.setIfInBounds i true) (a.put o.dst undef) w') :
    wpOpIn F n P ops Q i (fun a' w' => (i ∉ M → C w') ∧ anyC F n P md ops Q M C f (l.setIfInBounds i true) a' w') a w := by
  unfold wpOpIn
  simp only [hi, hw, if_true, Oper.wpIn]
  refine ⟨hab, ?_⟩
  rw [Oper.semAt_eq _ _ _ (okOp_defer hc), hv]
  exact ⟨hC, h⟩
/-- a step that calls -/
theorem stepCall {M : List Nat} {i : Nat} {o : Oper} {f : Nat} {l : Array Bool} {a : Act} {w : World} (hi : ops[i]? = some o) (hc : okOp o = true)
    (hw : Region.wanted o (yielded ops a.tmps) = true) (hab : ∀ f, o.about P w a.eval = some f → F.fn f) {g : FuncId} {args : Array Value} (hv : (execOp a.eval o).run P w = .ok (.enter g args) w) (hd : F.depth.isSome = true → 1 ≤ n)
    (h : CallsIn F (n - 1) P g args w fun e w' => ∃ v, e = .returned v ∧ (i ∉ M → C w') ∧ anyC F n P md ops Q M C f (l.setIfInBounds i true) (a.put o.dst v) w') :
    wpOpIn F n P ops Q i (fun a' w' => (i ∉ M → C w') ∧ anyC F n P md ops Q M C f (l.setIfInBounds i true) a' w') a w := by
  unfold wpOpIn
  simp only [hi, hw, if_true, Oper.wpIn]
  refine ⟨hab, ?_⟩
  rw [Oper.semAt_eq _ _ _ (okOp_defer hc), hv]
  refine ⟨hd, CallsIn.mono h fun e w'' ⟨v, he, h2⟩ => ?_⟩
  subst he
  exact h2
theorem anyC_r1 {M : List Nat} {i f : Nat} {l : Array Bool} {a : Act} {w : World} (hr : Region.ready md ops l = [i]) (h : wpOpIn F n P ops Q i (fun a' w' => (i ∉ M → C w') ∧ anyC F n P md ops Q M C f (l.setIfInBounds i true) a' w') a w) : anyC F n P md ops Q M C (f + 1) l a w := by
  refine ⟨fun h0 => (by rw [hr] at h0; cases h0), fun j hj => ?_⟩
  rw [hr] at hj
  obtain rfl : j = i := by simpa using hj
  exact h
theorem anyC_r2 {M : List Nat} {i i' f : Nat} {l : Array Bool} {a : Act} {w : World} (hr : Region.ready md ops l = [i, i']) (h : wpOpIn F n P ops Q i (fun a' w' => (i ∉ M → C w') ∧ anyC F n P md ops Q M C f (l.setIfInBounds i true) a' w') a w)
    (h' : wpOpIn F n P ops Q i' (fun a' w' => (i' ∉ M → C w') ∧ anyC F n P md ops Q M C f (l.setIfInBounds i' true) a' w') a w) : anyC F n P md ops Q M C (f + 1) l a w := by
  refine ⟨fun h0 => (by rw [hr] at h0; cases h0), fun j hj => ?_⟩
  rw [hr] at hj
  rcases List.mem_cons.1 hj with rfl | hj
  · exact h
  · obtain rfl : j = i' := by simpa using hj
    exact h'
/-- the one operation that may come up is a call -/
theorem anyC_call {M : List Nat} {i : Nat} {o : Oper} {f : Nat} {l : Array Bool} {a : Act} {w : World} (hr : Region.ready md ops l = [i]) (hi : ops[i]? = some o) (hc : okOp o = true)
    (hw : Region.wanted o (yielded ops a.tmps) = true) (hab : ∀ f, o.about P w a.eval = some f → F.fn f) {g : FuncId} {args : Array Value} (hv : (execOp a.eval o).run P w = .ok (.enter g args) w) (hd : F.depth.isSome = true → 1 ≤ n)
    (h : CallsIn F (n - 1) P g args w fun e w' => ∃ v, e = .returned v ∧ (i ∉ M → C w') ∧ anyC F n P md ops Q M C f (l.setIfInBounds i true) (a.put o.dst v) w') : anyC F n P md ops Q M C (f + 1) l a w := by
  refine ⟨fun h0 => (by rw [hr] at h0; cases h0), fun j hj => ?_⟩
  rw [hr] at hj
  obtain rfl : j = i := by simpa using hj
  unfold wpOpIn
  simp only [hi, hw, if_true, Oper.wpIn]
  refine ⟨hab, ?_⟩
  rw [Oper.semAt_eq _ _ _ (okOp_defer hc), hv]
  refine ⟨hd, CallsIn.mono h fun e w'' ⟨v, he, h2⟩ => ?_⟩
  subst he
  exact h2
end
end Go.Proofs.Ytbmphakfgoompaa
