/-
  Of every lists and every runes, up to a size.
-/
import Derived.Test.YtbmphakfgoompaaF1
import Derived.Test.YtbmphakfgoompaaGM
namespace Go.Proofs.Ytbmphakfgoompaa.tablesAskUpto
open Go.ChangeShapes Go.WideShapes Go.ChangeAt Go.RowKit
open Go.ChangeMaps (open_string shut_string)
set_option linter.unusedVariables false
set_option maxRecDepth 100000

theorem own : ownKnob Try.prog.godebug = none := by kernel_rfl
theorem laidOut : laidOutB Try.prog = true := by kernel_rfl

theorem contract (H : Type) (enc : TypeId × Value → H) (W : World) (base : Nat) (args : Array Value) (ds gs : List (DataW H)) (before : List MemPlace)
    (hval0 : ∀ (j : Nat) t v, Try.f4.params[j]? = some t → args[j]? = some v → Value.okWide Try.prog W .any base t v)
    (hW : DataW.Whole enc Try.prog Try.f4.params.toList Rows.tablesAskSpec.vars false W args.toList ds gs before) (hk : Rows.uptoSmall H (ds ++ gs) = true) :
    Calls Try.prog 4 args W fun e W' => ∃ v, e = .returned v ∧ Rows.tablesAskSpec.post enc Try.prog Try.f4 false true false false W args v W' := by
  have hval := hval0
  have hW' := hW
  obtain ⟨p, q, hA0, hV, rfl, hfz, hnd⟩ := hW
  have hA : DataW.TrodAll enc Try.prog W 0 (fun _ => true) true Try.f4.params.toList args.toList ds p := hA0
  rw [Try.params4] at hA hval
  obtain ⟨v0, vs0, d0, ds0, p0, q0, hargs, rfl, rfl, h0, r0⟩ := trodAll_cons hA
  obtain ⟨v1, vs1, d1, ds1, p1, q1, rfl, rfl, rfl, h1, r1⟩ := trodAll_cons r0
  obtain ⟨v2, vs2, d2, ds2, p2, q2, rfl, rfl, rfl, h2, r2⟩ := trodAll_cons r1
  obtain ⟨rfl, rfl, rfl⟩ := trodAll_nil r2
  obtain rfl : args = #[v0, v1, v2] := by cases args; simp_all
  obtain ⟨rfl, rfl⟩ := trodVars_none hV
  have k0 := h0
  have lt0 : ∀ x ∈ p0, x.block < W.heap.size := by obtain ⟨m, hm⟩ := k0; exact DataW.trod_lt m _ _ _ hm
  have k1 := h1
  have lt1 : ∀ x ∈ p1, x.block < W.heap.size := by obtain ⟨m, hm⟩ := k1; exact DataW.trod_lt m _ _ _ hm
  have k2 := h2
  have lt2 : ∀ x ∈ p2, x.block < W.heap.size := by obtain ⟨m, hm⟩ := k2; exact DataW.trod_lt m _ _ _ hm
  obtain ⟨D0, pa0, pn0, pc0, qa0, qn0, qc0, ra0, rn0, rc0, sa0, sn0, sc0, rfl, w0⟩ := made_open (hval 0 38 v0 rfl rfl) h0
  obtain ⟨D1, pa1, pn1, pc1, qa1, qn1, qc1, ra1, rn1, rc1, sa1, sn1, sc1, rfl, w1⟩ := made_open (hval 1 38 v1 rfl rfl) h1
  obtain ⟨a2, n2, c2, z2, rfl, w2, hb2⟩ := row_open Try.underlying39 Try.underlying21 (by kernel_rfl) (hval 2 39 v2 rfl rfl) h2
  have hbulk := of_decide_eq_true hk
  simp only [List.append_nil, Rows.uptoBulkAll] at hbulk
  clear hA0 hval0
  refine (show Calls Try.prog 4 #[.agg #[.int .u8 D0.rest, .slice pa0 pn0 pc0, .slice qa0 qn0 qc0, .slice ra0 rn0 rc0, .slice sa0 sn0 sc0], .agg #[.int .u8 D1.rest, .slice pa1 pn1 pc1, .slice qa1 qn1 qc1, .slice ra1 rn1 rc1, .slice sa1 sn1 sc1], .slice a2 n2 c2] W (fun e w' => e = .returned (.bool true) ∧ Below W.heap.size W w') from ?_).mono fun e W' ⟨he, bel⟩ => ?_
  rotate_left
  · subst he
    exact ⟨_, rfl, _, _, _, [], _, [], hW', trodAll_mk1 (shut_bool Try.underlying4 _), (trodAll_cons_mk (Below.trod laidOut (by kernel_rfl) (of_decide_eq_true (by kernel_rfl)) k0 bel lt0) (trodAll_cons_mk (Below.trod laidOut (by kernel_rfl) (of_decide_eq_true (by kernel_rfl)) k1 bel lt1) (trodAll_cons_mk (Below.trod laidOut (by kernel_rfl) (of_decide_eq_true (by kernel_rfl)) k2 bel lt2) trodAll_mk0))), rfl, bel.frame _, fun h => by cases h⟩
  have q := isRow_ints w2
  refine tablesAsk_walk D0 pa0 pn0 pc0 qa0 qn0 qc0 ra0 rn0 rc0 sa0 sn0 sc0 D1 pa1 pn1 pc1 qa1 qn1 qc1 ra1 rn1 rc1 sa1 sn1 sc1 a2 n2 c2 (z2.take n2) W w0 w1 q.1 q.2.1 (fun z hz => ?_) (by omega) (fun h => ?_)
  · have h := q.2.2.2 z hz
    simpa [wf32, Lit.wf, IntKind.min, IntKind.max, IntKind.signed, IntKind.bits] using h
  · rcases w2 with ⟨_, _, hc, _⟩ | ⟨x, hx, _⟩
    · exact hc
    · rw [h] at hx; cases hx

set_option maxRecDepth 100000 in
theorem lifted (os : Os) (started : os.Started) (H : Type) (enc : TypeId × Value → H) (F : Stop.Interp) :
    ReturnsInHanded {} Try.checked os 4 .any ((Rows.OpenSpec.upto Rows.tablesAskSpec).pre6 enc Try.prog Try.f4 Rows.tablesAskUptoRow.domain false) (((Rows.OpenSpec.upto Rows.tablesAskSpec).at F).post enc Try.prog Try.f4 false true false false) := by
  refine returnsInHanded_of_cond (C := Try.checked) (s := Rows.OpenSpec.upto Rows.tablesAskSpec) (k := Rows.uptoSmall) rfl own started (by kernel_rfl) Try.func4
    (OpenSpec.witness (enc := enc) (C := Try.checked) (s := Rows.OpenSpec.upto Rows.tablesAskSpec) (k := Rows.uptoSmall) rfl false ⟨#[], #[.agg #[.int .u8 0, .slice none 0 0, .slice none 0 0, .slice none 0 0, .slice none 0 0], .agg #[.int .u8 0, .slice none 0 0, .slice none 0 0, .slice none 0 0, .slice none 0 0], .slice none 0 0], []⟩ 8 (by kernel_rfl) (by kernel_rfl) (by kernel_rfl)
      (x := ([.agg [.lit (.int .u8 0), .nil, .nil, .nil, .nil], .agg [.lit (.int .u8 0), .nil, .nil, .nil, .nil], .nil], [], [])) (by kernel_rfl) rfl (by kernel_rfl)) ?_
  intro W base args ds gs before hval hW _ hk _
  exact contract H enc W base args ds gs before hval hW hk

theorem over : Rows.tablesAskUptoRow.holds Try.pinned (Rows.OpenSpec.upto Rows.tablesAskSpec) :=
  OpenClaim.holds_of_cond 4 Try.f4 rfl rfl rfl rfl rfl rfl rfl ⟨rfl, rfl, rfl, rfl, rfl⟩ rfl rfl rfl rfl rfl (by kernel_rfl) Try.func4 (by kernel_rfl)
    (of_decide_eq_true (by kernel_rfl)) (by unfold Func.isWrapper; first | (rw [if_pos (by decide +kernel)]; kernel_rfl) | (rw [if_neg (by decide +kernel)]; exact ⟨rfl, rfl⟩))
    (fun os started H enc _ F => lifted os started H enc F)

end Go.Proofs.Ytbmphakfgoompaa.tablesAskUpto
namespace Go.Proofs.Ytbmphakfgoompaa
theorem TablesAskUpto_holds : Rows.TablesAskUptoSaid := tablesAskUpto.over
#print axioms TablesAskUpto_holds
end Go.Proofs.Ytbmphakfgoompaa
