/- several texts in one: UY1 UT1 UT2 F5 UT3 UT4 -/
import Derived.Test.YtbmphakfgoompaaGC
import Derived.Test.YtbmphakfgoompaaGB
import Derived.Test.YtbmphakfgoompaaG5
import Derived.Test.YtbmphakfgoompaaGE
import Derived.Test.YtbmphakfgoompaaGD
import Derived.Test.YtbmphakfgoompaaF1
set_option linter.unusedVariables false
set_option linter.unusedSimpArgs false
/-
  Plain law: what tables that are not amiss say may be. The walk of 'fit'.
-/
namespace Go.Proofs.Ytbmphakfgoompaa
open Go.RowKit

structure Fine (c b t m : Nat → Int) : Prop where
  fit : Fit b t m
  no : ∀ r, r ≤ 1114111 → wrongF c b t m r = false
theorem Fine.odd {c b t m : Nat → Int} (h : Fine c b t m) {r : Nat} (hr : r ≤ 1114111) (hb : b r ≠ 0) : oddF c b r = false := by
  have := h.no r hr
  simp only [wrongF, Bool.or_eq_false_iff, Bool.and_eq_false_iff, bne_eq_false_iff_eq] at this
  exact this.1.1.resolve_left hb
theorem Fine.strange {c b t m : Nat → Int} (h : Fine c b t m) {r : Nat} (hr : r ≤ 1114111) (hb : t r ≠ 0) : strangeF b t r = false := by
  have := h.no r hr
  simp only [wrongF, Bool.or_eq_false_iff, Bool.and_eq_false_iff, bne_eq_false_iff_eq] at this
  exact this.1.2.resolve_left hb
theorem Fine.self {c b t m : Nat → Int} (h : Fine c b t m) {r : Nat} (hr : r ≤ 1114111) (hb : m r ≠ 0) : m r ≠ (r : Nat) + 1 := by
  have := h.no r hr
  simp only [wrongF, Bool.or_eq_false_iff, Bool.and_eq_false_iff, bne_eq_false_iff_eq] at this
  have h2 := this.2.resolve_left hb
  unfold selfF at h2
  exact beq_eq_false_iff_ne.1 h2
theorem brS_zero {v : Int} : brS v = 0 ↔ v = 0 := by
  unfold brS
  constructor
  · intro h
    split at h
    · cases h
    · split at h
      · cases h
      · omega
  · rintro rfl
    rfl
theorem brO_zero : brO 0 = 0 := rfl
/-- a bracket that is not amiss -/
theorem Fine.br {c b t m : Nat → Int} (h : Fine c b t m) {r : Nat} (hr : r ≤ 1114111) (hb : b r ≠ 0) :
    ∃ o : Nat, o ≤ 1114111 ∧ brO (b r) = (o : Nat) ∧ b o ≠ 0 ∧ brS (b o) ≠ brS (b r) ∧ brO (b o) = (r : Nat) ∧ c r = 14 := by
  have h1 := brO_le (h.fit.b r hr)
  obtain ⟨o, ho⟩ : ∃ o : Nat, brO (b r) = (o : Nat) := ⟨(brO (b r)).toNat, by omega⟩
  have h2 := h.odd hr hb
  unfold oddF at h2
  rw [ho, runeR_nat (by omega)] at h2
  simp only [Bool.or_eq_false_iff, beq_eq_false_iff_ne, bne_eq_false_iff_eq] at h2
  exact ⟨o, by omega, ho, fun e => h2.1.1.1 (brS_zero.2 e), h2.1.1.2, h2.1.2, h2.2⟩
/-- a twin that is not amiss -/
theorem Fine.tw {c b t m : Nat → Int} (h : Fine c b t m) {r : Nat} (hr : r ≤ 1114111) (ht : t r ≠ 0) :
    ∃ x : Nat, x ≤ 1114111 ∧ twF t r = (x : Nat) ∧ x ≠ r ∧ b r ≠ 0 ∧ brS (b x) = brS (b r) ∧ t x = 0 ∧ brO (b x) = twF t (runeR (brO (b r))) := by
  have h1 := twF_le (h.fit.t r hr).2 hr
  obtain ⟨x, hx⟩ : ∃ x : Nat, twF t r = (x : Nat) := ⟨(twF t r).toNat, by omega⟩
  have h2 := h.strange hr ht
  unfold strangeF at h2
  rw [hx, runeR_nat (by omega)] at h2
  simp only [Bool.or_eq_false_iff, beq_eq_false_iff_ne, bne_eq_false_iff_eq] at h2
  exact ⟨x, by omega, hx, fun e => h2.1.1.1.2 (by rw [e]), fun e => h2.1.1.1.1 (brS_zero.2 e), h2.1.1.2, h2.1.2, h2.2⟩
theorem twF_zero {t : Nat → Int} {r : Nat} (h : t r = 0) : twF t r = (r : Nat) := by unfold twF; rw [if_neg (by omega)]
/-- the partner of a bracket without a twin has none -/
theorem Fine.lone {c b t m : Nat → Int} (h : Fine c b t m) {r o : Nat} (hr : r ≤ 1114111) (hb : b r ≠ 0) (ho : o ≤ 1114111) (hbo : brO (b r) = (o : Nat)) (ht : t r = 0) : t o = 0 := by
  obtain ⟨o', h1, h2, h3, h4, h5, h6⟩ := h.br hr hb
  obtain rfl : o' = o := by have := h2.symm.trans hbo; omega
  refine Classical.byContradiction fun hto => ?_
  obtain ⟨x, k1, k2, k3, k4, k5, k6, k7⟩ := h.tw ho hto
  rw [h5, runeR_nat hr, twF_zero ht] at k7
  have hbx : b x ≠ 0 := fun e => by rw [brS_zero.2 e] at k5; exact k4 (brS_zero.1 k5.symm)
  obtain ⟨y, j1, j2, j3, j4, j5, j6⟩ := h.br k1 hbx
  obtain rfl : y = r := by have := j2.symm.trans k7; omega
  rw [hbo] at j5
  exact k3 (by omega)
/-- what a statement asks of a number: all is well -/
structure MayR (c b t m : Nat → Int) (R : Nat) : Prop where
  none : b R = 0 → brO (b R) = 0 ∧ twF t R = (R : Nat)
  some : b R ≠ 0 → ∃ o x : Nat, o ≤ 1114111 ∧ x ≤ 1114111 ∧ brO (b R) = (o : Nat) ∧ twF t R = (x : Nat) ∧ brO (b o) = (R : Nat) ∧ brS (b o) ≠ 0 ∧ brS (b o) ≠ brS (b R) ∧ c R = 14 ∧ twF t x = (x : Nat) ∧ brS (b x) = brS (b R) ∧ brO (b x) = twF t o
  mir : 0 < m R → m R - 1 ≠ (R : Nat)
theorem Fine.may {c b t m : Nat → Int} (h : Fine c b t m) {R : Nat} (hr : R ≤ 1114111) : MayR c b t m R := by
  refine ⟨fun hb => ⟨by rw [hb]; rfl, ?_⟩, fun hb => ?_, fun hm => by have := h.self hr (by omega); omega⟩
  · by_cases ht : t R = 0
    · exact twF_zero ht
    · obtain ⟨x, -, -, -, k4, -⟩ := h.tw hr ht
      exact absurd hb k4
  · obtain ⟨o, h1, h2, h3, h4, h5, h6⟩ := h.br hr hb
    by_cases ht : t R = 0
    · have hto := h.lone hr hb h1 h2 ht
      exact ⟨o, R, h1, hr, h2, twF_zero ht, h5, fun e => h3 (brS_zero.1 e), h4, h6, twF_zero ht, rfl, by rw [h2, twF_zero hto]⟩
    · obtain ⟨x, k1, k2, k3, k4, k5, k6, k7⟩ := h.tw hr ht
      rw [h2, runeR_nat h1] at k7
      exact ⟨o, x, h1, k1, h2, k2, h5, fun e => h3 (brS_zero.1 e), h4, h6, twF_zero k6, k5, k7⟩

theorem fit_walk (w : World) (fb : Bool) (rest : Int) (a1 : Option Addr) (n1 c1 : Nat) (a2 : Option Addr) (n2 c2 : Nat) (a3 : Option Addr) (n3 c3 : Nat) (a4 : Option Addr) (n4 c4 : Nat) (hfb : fb = decide (n1 ≤ 20 ∧ n2 ≤ 20 ∧ n3 ≤ 20 ∧ n4 ≤ 20)) :
    Calls Try.prog 11 #[.agg #[.int .u8 rest, .slice a1 n1 c1, .slice a2 n2 c2, .slice a3 n3 c3, .slice a4 n4 c4]] w fun e w' => e = .returned (.bool fb) ∧ Below w.heap.size w w' := by
  have HF := Lib.hid hfb; clear hfb
  have hA := heap_alloc_new w (.cells #[.int .u8 rest, .slice a1 n1 c1, .slice a2 n2 c2, .slice a3 n3 c3, .slice a4 n4 c4] 38)
  have HB := Lib.hid ((Below.refl _ w).alloc (Nat.le_refl _) (.cells #[.int .u8 rest, .slice a1 n1 c1, .slice a2 n2 c2, .slice a3 n3 c3, .slice a4 n4 c4] 38))
  have HA := Lib.hid hA; clear hA
  go_enter Try.func11, Try.ntmps11
  go_upto_region 1 with (fail)
  obtain ⟨bx, hbx⟩ : ∃ bx, bx = w.heap.size := ⟨_, rfl⟩
  rw [← hbx] at HA ⊢
  generalize w.alloc (.cells #[.int .u8 rest, .slice a1 n1 c1, .slice a2 n2 c2, .slice a3 n3 c3, .slice a4 n4 c4] 38) = w1 at *
  have q1 := cell_of_row w1 bx 1 _ _ (0, 0) HA.out
  have q2 := cell_of_row w1 bx 2 _ _ (0, 0) HA.out
  have q3 := cell_of_row w1 bx 3 _ _ (0, 0) HA.out
  have q4 := cell_of_row w1 bx 4 _ _ (0, 0) HA.out
  simp at q1 q2 q3 q4
  clear hbx
  by_cases h1 : (n1 : Int) ≤ 20
  · by_cases h2 : (n2 : Int) ≤ 20
    · by_cases h3 : (n3 : Int) ≤ 20
      · by_cases h4 : (n4 : Int) ≤ 20
        · have HX := Lib.hid (show fb = true from HF.out.trans (decide_eq_true (by omega)))
          go_wp2
          go_ret
          exact ⟨ret_eq (congrArg Value.bool HX.out.symm), HB.out⟩
        · have HX := Lib.hid (show fb = false from HF.out.trans (decide_eq_false (by omega)))
          go_wp2
          go_ret
          exact ⟨ret_eq (congrArg Value.bool HX.out.symm), HB.out⟩
      · have HX := Lib.hid (show fb = false from HF.out.trans (decide_eq_false (by omega)))
        go_wp2
        go_ret
        exact ⟨ret_eq (congrArg Value.bool HX.out.symm), HB.out⟩
    · have HX := Lib.hid (show fb = false from HF.out.trans (decide_eq_false (by omega)))
      go_wp2
      go_ret
      exact ⟨ret_eq (congrArg Value.bool HX.out.symm), HB.out⟩
  · have HX := Lib.hid (show fb = false from HF.out.trans (decide_eq_false (by omega)))
    go_wp2
    go_ret
    exact ⟨ret_eq (congrArg Value.bool HX.out.symm), HB.out⟩
theorem quick_props {w : World} {q pm gC gR N : Nat} {D : MadeD} (h : QuickAt w q pm gC gR N D) : PropsQ w q D.cls D.oth D.side D.twin D.mir D.has where
  cls := fun W hW r hr => by have := qClass_walk W q pm gC gR N D (h.below hW) (r : Nat); rwa [runeR_nat (by omega)] at this
  br := fun W hW r hr => by have := qBracket_walk W q pm gC gR N D (h.below hW) (r : Nat); rwa [runeR_nat (by omega)] at this
  tw := fun W hW r hr => by have := qTwin_walk W q pm gC gR N D (h.below hW) (r : Nat); rwa [runeR_nat (by omega)] at this
  mi := fun W hW r hr => by have := qMirror_walk W q pm gC gR N D (h.below hW) (r : Nat); rwa [runeR_nat (by omega)] at this
end Go.Proofs.Ytbmphakfgoompaa

/-
  Plain laws: tables that may be, packed again; lists that may be, looked up.
-/
namespace Go.Proofs.Ytbmphakfgoompaa
open Go.RowKit

def miO (v : Int) : Int := if 0 < v then v - 1 else 0
theorem tab_propsT {w : World} {p gc gb gt gm : Nat} {C : TrieD Int} {B T M : TrieD VJ.El} {c b t m : Nat → Int} (h : Tab w p gc gb gt gm C B T M c b t m) (hf : Fit b t m) :
    PropsT w p c (fun r => brO (b r)) (fun r => brS (b r)) (fun r => twF t r) (fun r => miO (m r)) (fun r => decide (0 < m r)) where
  cls := fun W hW r hr => (class_says (h.below hW) (r : Nat) (by omega) (by omega)).mono fun e w' ⟨h1, n, h2⟩ => ⟨by rw [h1, runeR_nat (by omega)], by rw [h2]; exact below_drewN (Below.refl _ _) n⟩
  br := fun W hW r hr => (bracket_says (h.below hW) hf (r : Nat) (by omega) (by omega)).mono fun e w' ⟨h1, n, h2⟩ => ⟨by rw [h1, runeR_nat (by omega)], by rw [h2]; exact below_drewN (Below.refl _ _) n⟩
  tw := fun W hW r hr => (twin_says (h.below hW) hf (r : Nat) (by omega) (by omega)).mono fun e w' ⟨h1, n, h2⟩ => ⟨by rw [h1, runeR_nat (by omega)], by rw [h2]; exact below_drewN (Below.refl _ _) n⟩
  mi := fun W hW r hr => (mirror_says (h.below hW) hf (r : Nat) (by omega) (by omega)).mono fun e w' ⟨h1, n, h2⟩ => ⟨by
    rw [h1, runeR_nat (by omega), miO]
    by_cases e : 0 < m r
    · rw [if_pos e, if_pos e, decide_eq_true e]
    · rw [if_neg e, if_neg e, decide_eq_false e], by rw [h2]; exact below_drewN (Below.refl _ _) n⟩
theorem bk_back (b : Nat → Int) (r : Nat) : bkF (fun r => brO (b r)) (fun r => brS (b r)) r = b r := by
  unfold bkF brO brS laidF
  simp only
  by_cases h1 : 0 < b r
  · rw [if_pos h1, if_pos h1, if_neg (by omega), if_pos rfl]; omega
  · rw [if_neg h1, if_neg h1]
    by_cases h2 : b r < 0
    · rw [if_pos h2, if_pos h2, if_neg (by omega), if_neg (by omega)]; omega
    · rw [if_neg h2, if_pos rfl]; omega
theorem Fine.tw_back {c b t m : Nat → Int} (h : Fine c b t m) {r : Nat} (hr : r ≤ 1114111) : twP (fun r => twF t r) r = t r := by
  unfold twP
  simp only
  by_cases h1 : t r = 0
  · rw [twF_zero h1, if_pos rfl, h1]
  · obtain ⟨x, hx, he, hne, -⟩ := h.tw hr h1
    have h2 := h.fit.t r hr
    rw [if_neg (by omega)]
    unfold twF
    rw [if_pos (by omega)]
    omega
theorem mi_back {b t m : Nat → Int} (h : Fit b t m) {r : Nat} (hr : r ≤ 1114111) : miF (fun r => miO (m r)) (fun r => decide (0 < m r)) r = m r := by
  unfold miF miO
  simp only [decide_eq_true_eq]
  have := h.m r hr
  by_cases e : 0 < m r
  · rw [if_pos e, if_pos e]; omega
  · rw [if_neg e]; omega
theorem pack_ok {c b t m : Nat → Int} (hf : Fit b t m) (hc : ∀ r, r ≤ 1114111 → knownB (c r) = true) : Least (packBad c (fun r => brO (b r)) (fun r => brS (b r)) (fun r => twF t r) (fun r => miO (m r)) (fun r => decide (0 < m r))) 1114112 1114112 :=
  .none fun r hr => by
    have h1 := brO_le (hf.b r (by omega))
    have h2 := twF_le (hf.t r (by omega)).2 (by omega)
    have h3 := hf.m r (by omega)
    have h4 : brS (b r) = 0 ∨ brS (b r) = 1 ∨ brS (b r) = 2 := by unfold brS; split; exact .inr (.inl rfl); split; exact .inr (.inr rfl); exact .inl rfl
    simp only [packBad, pkC, pkB, pkT, pkM, Bool.or_eq_false_iff, Bool.not_eq_false', Bool.or_eq_true, Bool.and_eq_true, beq_iff_eq, pointB, sidedB, decide_eq_true_eq, Bool.not_eq_true', decide_eq_false_iff_not]
    refine ⟨⟨⟨hc r (by omega), ?_⟩, ?_⟩, ?_⟩
    · rcases h4 with h4 | h4
      · exact .inl h4
      · exact .inr ⟨h4, h1⟩
    · exact .inr h2
    · by_cases e : 0 < m r
      · right; unfold miO; rw [if_pos e]; omega
      · exact .inl e
theorem wrongF_congr {c b t m c' b' t' m' : Nat → Int} (e : ∀ r, r ≤ 1114111 → c r = c' r ∧ b r = b' r ∧ t r = t' r ∧ m r = m' r) (r : Nat) (hr : r ≤ 1114111) : wrongF c b t m r = wrongF c' b' t' m' r := by
  have ec : ∀ x, c (runeR x) = c' (runeR x) := fun x => (e _ (runeR_le x)).1
  have eb : ∀ x, b (runeR x) = b' (runeR x) := fun x => (e _ (runeR_le x)).2.1
  have et : ∀ x, t (runeR x) = t' (runeR x) := fun x => (e _ (runeR_le x)).2.2.1
  obtain ⟨e1, e2, e3, e4⟩ := e r hr
  simp only [wrongF, oddF, strangeF, selfF, twF, ec, eb, et, e1, e2, e3, e4]
/-- tables that may be, packed: the same again -/
theorem packT_gives {w : World} {p gc gb gt gm : Nat} {C : TrieD Int} {B T M : TrieD VJ.El} {c b t m : Nat → Int} (h : Tab w p gc gb gt gm C B T M c b t m) (hF : Fine c b t m) (hc : ∀ r, r ≤ 1114111 → knownB (c r) = true) :
    Calls Try.prog 18 #[.iface 22 (.pointer (some ⟨p, 0, none⟩))] w fun e w' => ∃ p', e = .returned (.tuple #[.pointer (some ⟨p', 0, none⟩), .int .i32 0, .int .i64 0]) ∧ HTab w' p' c b t m w.heap.size ∧ Below w.heap.size w w' := by
  refine (packT_walk w p _ _ _ _ _ _ (tab_propsT h hF.fit)).mono ?_
  rintro e w' ⟨hb, k, hk, ⟨h1, rfl⟩ | ⟨rfl, p', q, h2, rfl, h3⟩⟩
  · have := hk.unique (pack_ok hF.fit hc); omega
  · have hE : ∀ r, r ≤ 1114111 → c r = c r ∧ bkF (fun r => brO (b r)) (fun r => brS (b r)) r = b r ∧ twP (fun r => twF t r) r = t r ∧ miF (fun r => miO (m r)) (fun r => decide (0 < m r)) r = m r :=
      fun r hr => ⟨rfl, bk_back b r, hF.tw_back hr, mi_back hF.fit hr⟩
    obtain rfl := h2.unique (.none fun r hr => (wrongF_congr hE r (by omega)).trans (hF.no r (by omega)))
    exact ⟨p', rfl, h3.congr hE, hb⟩
theorem lastF_map {α β γ : Type} (p : α → Bool) (v : α → β) (g : β → γ) : ∀ (l : List α) (z : β), g (lastF p v z l) = lastF p (fun s => g (v s)) (g z) l
  | [], _ => rfl
  | s :: l, z => by
    unfold lastF
    rw [List.foldl_cons, List.foldl_cons]
    by_cases e : p s = true
    · rw [if_pos e, if_pos e]; exact lastF_map p v g l _
    · rw [if_neg e, if_neg e]; exact lastF_map p v g l _
theorem lastF_congr {α β : Type} {p : α → Bool} {v v' : α → β} : ∀ {l : List α} (z : β), (∀ s ∈ l, p s = true → v s = v' s) → lastF p v z l = lastF p v' z l
  | [], _, _ => rfl
  | s :: l, z, h => by
    unfold lastF
    rw [List.foldl_cons, List.foldl_cons]
    by_cases e : p s = true
    · rw [if_pos e, if_pos e, h s (by simp) e]; exact lastF_congr _ (fun s hs => h s (by simp [hs]))
    · rw [if_neg e, if_neg e]; exact lastF_congr _ (fun s hs => h s (by simp [hs]))
theorem lastF_cases {α β : Type} (p : α → Bool) (v : α → β) : ∀ (l : List α) (z : β), lastF p v z l = z ∨ ∃ s ∈ l, p s = true ∧ lastF p v z l = v s
  | [], _ => .inl rfl
  | s :: l, z => by
    unfold lastF
    rw [List.foldl_cons]
    by_cases e : p s = true
    · rw [if_pos e]
      rcases lastF_cases p v l (v s) with h | ⟨x, h1, h2, h3⟩
      · exact .inr ⟨s, by simp, e, h⟩
      · exact .inr ⟨x, by simp [h1], h2, h3⟩
    · rw [if_neg e]
      rcases lastF_cases p v l z with h | ⟨x, h1, h2, h3⟩
      · exact .inl h
      · exact .inr ⟨x, by simp [h1], h2, h3⟩
theorem valF_last {α : Type} (key val : α → Int) (l : List α) (x : Int) : valF key val l x = lastF (fun s => key s == x) val 0 l := by
  unfold valF lastF
  congr 1
  funext acc s
  simp
structure HandOk (D : MadeD) : Prop where
  k : knownB D.rest = true
  h1 : ∀ s ∈ D.l1, entBad s = false
  h2 : ∀ s ∈ D.l2, brBad s = false
  h3 : ∀ s ∈ D.l3, twBad s = false
  h4 : ∀ s ∈ D.l4, twBad s = false
theorem hand_ok {D : MadeD} (h : handBad D.rest D.l1 D.l2 D.l3 D.l4 = none) : HandOk D ∧ Fit (fun r => brkF D.l2 (r : Nat)) (fun r => twnF D.l3 (r : Nat)) (fun r => twnF D.l4 (r : Nat)) := by
  unfold handBad at h
  split at h
  · rename_i hk
    split at h
    · cases h
    · rename_i e1
      split at h
      · cases h
      · rename_i e2
        split at h
        · cases h
        · rename_i e3
          have e4 : D.l4.find? twBad = none := by
            cases e : D.l4.find? twBad with
            | none => rfl
            | some x => rw [e] at h; cases h
          exact ⟨⟨hk, mem_no e1, mem_no e2, mem_no e3, mem_no e4⟩, hand_fit e2 e3 e4⟩
  · cases h
theorem HandOk.br {D : MadeD} (h : HandOk D) (r : Nat) : bkF D.oth D.side r = brkF D.l2 (r : Nat) := by
  have e : bkF D.oth D.side r = lastF (fun s : SpanD => s.f == ((r : Nat) : Int)) (fun s => if s.v = 0 then 0 else laidF s.t s.v) 0 D.l2 :=
    lastF_map (fun s : SpanD => s.f == ((r : Nat) : Int)) (fun s => (s.t, s.v)) (fun q : Int × Int => if q.2 = 0 then 0 else laidF q.1 q.2) D.l2 (0, 0)
  rw [e, brkF, valF_last]
  refine lastF_congr _ fun s hs hp => ?_
  obtain ⟨-, -, -, h4⟩ := br_ok (h.h2 s hs)
  exact if_neg (by omega)
theorem HandOk.tw {D : MadeD} (h : HandOk D) (r : Nat) : twP D.twin r = twnF D.l3 (r : Nat) := by
  have e : twP D.twin r = lastF (fun s : TwD => s.a == ((r : Nat) : Int)) (fun s => if (if true = true then s.s else ((r : Nat) : Int)) = (r : Nat) then 0 else (if true = true then s.s else ((r : Nat) : Int)) + 1) (if (if false = true then 0 else ((r : Nat) : Int)) = (r : Nat) then 0 else (if false = true then 0 else ((r : Nat) : Int)) + 1) D.l3 :=
    lastF_map (fun s : TwD => s.a == ((r : Nat) : Int)) (fun s => (s.s, true)) (fun q : Int × Bool => if (if q.2 = true then q.1 else ((r : Nat) : Int)) = (r : Nat) then 0 else (if q.2 = true then q.1 else ((r : Nat) : Int)) + 1) D.l3 (0, false)
  have e0 : (if (if false = true then (0 : Int) else ((r : Nat) : Int)) = (r : Nat) then (0 : Int) else (if false = true then 0 else ((r : Nat) : Int)) + 1) = 0 := by simp
  rw [e, e0, twnF, valF_last]
  refine lastF_congr _ fun s hs hp => ?_
  obtain ⟨-, -, h4⟩ := tw_ok (h.h3 s hs)
  have hp' : s.a = (r : Nat) := by simpa using hp
  simp only [if_true]
  exact if_neg (by omega)
theorem HandOk.mi {D : MadeD} (h : HandOk D) (r : Nat) : miF D.mir D.has r = twnF D.l4 (r : Nat) := by
  have e : miF D.mir D.has r = lastF (fun s : TwD => s.a == ((r : Nat) : Int)) (fun s => if true = true then s.s + 1 else 0) (if false = true then 0 + 1 else 0) D.l4 :=
    lastF_map (fun s : TwD => s.a == ((r : Nat) : Int)) (fun s => (s.s, true)) (fun q : Int × Bool => if q.2 = true then q.1 + 1 else 0) D.l4 (0, false)
  rw [e, twnF, valF_last, if_neg (by simp)]
  refine lastF_congr _ fun s hs hp => ?_
  exact if_pos rfl
theorem HandOk.cls {D : MadeD} (h : HandOk D) (r : Nat) : knownB (D.cls r) = true := by
  unfold MadeD.cls
  rw [clsF_last]
  rcases lastF_cases (fun s => decide (s.f ≤ ((r : Nat) : Int) ∧ ((r : Nat) : Int) ≤ s.t)) (fun s => s.v) D.l1 D.rest with e | ⟨s, h1, -, e⟩
  · rw [e]; exact h.k
  · rw [e]
    obtain ⟨-, -, -, h4⟩ := ent_ok (h.h1 s h1)
    exact decide_eq_true h4
theorem HandOk.pack {D : MadeD} (h : HandOk D) : Least (packBad D.cls D.oth D.side D.twin D.mir D.has) 1114112 1114112 := .none fun r hr => by
  simp only [packBad, pkC, pkB, pkT, pkM, Bool.or_eq_false_iff, Bool.not_eq_false', Bool.or_eq_true, Bool.and_eq_true, beq_iff_eq, pointB, sidedB, decide_eq_true_eq, Bool.not_eq_true']
  refine ⟨⟨⟨h.cls r, ?_⟩, ?_⟩, ?_⟩
  · unfold MadeD.oth MadeD.side brG
    rcases lastF_cases (fun s => s.f == ((r : Nat) : Int)) (fun s => (s.t, s.v)) D.l2 (0, 0) with e | ⟨s, h1, -, e⟩
    · rw [e]; exact .inl rfl
    · rw [e]
      obtain ⟨-, h2, -, h4⟩ := br_ok (h.h2 s h1)
      exact .inr ⟨h4, h2⟩
  · unfold MadeD.twin twG
    rcases lastF_cases (fun s => s.a == ((r : Nat) : Int)) (fun s => (s.s, true)) D.l3 (0, false) with e | ⟨s, h1, -, e⟩
    · rw [e]; exact .inl rfl
    · rw [e]
      obtain ⟨-, h2, -⟩ := tw_ok (h.h3 s h1)
      exact .inr h2
  · unfold MadeD.mir MadeD.has twG
    rcases lastF_cases (fun s => s.a == ((r : Nat) : Int)) (fun s => (s.s, true)) D.l4 (0, false) with e | ⟨s, h1, -, e⟩
    · rw [e]; exact .inl rfl
    · rw [e]
      obtain ⟨-, h2, -⟩ := tw_ok (h.h4 s h1)
      exact .inr h2
/-- the functions of lists that may be -/
theorem quick_gives {w : World} {q pm gC gR N : Nat} {D : MadeD} (h : QuickAt w q pm gC gR N D) (hD : HandOk D)
    (hF : Fine (fun r => clsF D.rest D.l1 (r : Nat)) (fun r => brkF D.l2 (r : Nat)) (fun r => twnF D.l3 (r : Nat)) (fun r => twnF D.l4 (r : Nat))) :
    Calls Try.prog 18 #[.iface 53 (.pointer (some ⟨q, 0, none⟩))] w fun e w' => ∃ p', e = .returned (.tuple #[.pointer (some ⟨p', 0, none⟩), .int .i32 0, .int .i64 0]) ∧
      HTab w' p' (fun r => clsF D.rest D.l1 (r : Nat)) (fun r => brkF D.l2 (r : Nat)) (fun r => twnF D.l3 (r : Nat)) (fun r => twnF D.l4 (r : Nat)) w.heap.size ∧ Below w.heap.size w w' := by
  refine (packQ_walk w q _ _ _ _ _ _ (quick_props h)).mono ?_
  rintro e w' ⟨hb, k, hk, ⟨h1, rfl⟩ | ⟨rfl, p', y, h2, rfl, h3⟩⟩
  · have := hk.unique hD.pack; omega
  · have hE : ∀ r, r ≤ 1114111 → D.cls r = clsF D.rest D.l1 (r : Nat) ∧ bkF D.oth D.side r = brkF D.l2 (r : Nat) ∧ twP D.twin r = twnF D.l3 (r : Nat) ∧ miF D.mir D.has r = twnF D.l4 (r : Nat) :=
      fun r hr => ⟨rfl, hD.br r, hD.tw r, hD.mi r⟩
    obtain rfl := h2.unique (.none fun r hr => (wrongF_congr (c' := fun r => clsF D.rest D.l1 (r : Nat)) (b' := fun r => brkF D.l2 (r : Nat)) (t' := fun r => twnF D.l3 (r : Nat)) (m' := fun r => twnF D.l4 (r : Nat)) hE r (by omega)).trans (hF.no r (by omega)))
    exact ⟨p', rfl, h3.congr hE, hb⟩
end Go.Proofs.Ytbmphakfgoompaa

/-
  Packed tables, taken again.
-/
namespace Go.Proofs.Ytbmphakfgoompaa
open Go.RowKit

def ptS (S : MkS Int) : Pt := ⟨S.top, S.mids.flatten, S.lows.flatten⟩
theorem made_at8 {f : Nat → Int} {S : MkS Int} (h : Made8 f S) : (ptS S).ok8 ∧ ∀ r, r ≤ 1114111 → (ptS S).at8 r = f r := by
  obtain ⟨h1, h2⟩ := h.fromOk
  refine ⟨h1, fun r hr => ?_⟩
  obtain ⟨h3, h4⟩ := fromOk_made 17408 rfl h1
  have h5 := h3.look r hr
  rw [← h4, h2, h.look r hr] at h5
  exact h5.symm
theorem made_atJ {f : Nat → Int} {S : MkS Int} (h : VJ.Made8 f S) : (ptS S).okJ ∧ ∀ r, r ≤ 1114111 → (ptS S).atJ r = f r := by
  obtain ⟨h1, h2⟩ := h.fromOk
  refine ⟨h1, fun r hr => ?_⟩
  obtain ⟨h3, h4⟩ := VJ.fromOk_made 17408 rfl h1
  have h5 := h3.look r hr
  rw [← h4, h2, h.look r hr] at h5
  exact h5.symm
theorem badF_congr {c b t m c' b' t' m' : Nat → Int} {r : Nat} (e : c r = c' r ∧ b r = b' r ∧ t r = t' r ∧ m r = m' r) : badF c b t m r = badF c' b' t' m' r := by
  obtain ⟨e1, e2, e3, e4⟩ := e
  simp only [badF, e1, e2, e3, e4]
theorem fit_bad {c b t m : Nat → Int} (hf : Fit b t m) (hc : ∀ r, r ≤ 1114111 → knownB (c r) = true) {r : Nat} (hr : r ≤ 1114111) : badF c b t m r = false := by
  have h1 := hf.b r hr
  have h2 := hf.t r hr
  have h3 := hf.m r hr
  simp only [badF, Bool.or_eq_false_iff, Bool.not_eq_false', fartherB, farB, decide_eq_false_iff_not]
  exact ⟨⟨⟨hc r hr, by omega⟩, by omega⟩, by omega⟩
/-- packed tables that may be, taken again: the same tables -/
theorem over_again {w : World} {c b t m : Nat → Int} {SC SB ST SM : MkS Int} {s0 s1 s2 s3 s4 s5 s6 s7 s8 s9 s10 s11 : Value} (mc : Made8 c SC) (mb : VJ.Made8 b SB) (mt : VJ.Made8 t ST) (mm : VJ.Made8 m SM) (hF : Fine c b t m) (hc : ∀ r, r ≤ 1114111 → knownB (c r) = true)
    (hC : P8 w s0 s1 s2 SC.top SC.mids.flatten SC.lows.flatten) (hB : PJ w s3 s4 s5 SB.top SB.mids.flatten SB.lows.flatten) (hT : PJ w s6 s7 s8 ST.top ST.mids.flatten ST.lows.flatten) (hM : PJ w s9 s10 s11 SM.top SM.mids.flatten SM.lows.flatten) :
    Calls Try.prog 22 #[.agg #[s0, s1, s2, s3, s4, s5, s6, s7, s8, s9, s10, s11]] w fun e w' => ∃ p', e = .returned (.tuple #[.pointer (some ⟨p', 0, none⟩), .int .i32 0, .int .i64 0]) ∧ HTab w' p' c b t m w.heap.size ∧ Below w.heap.size w w' := by
  refine (over_walk w (fun i => [s0, s1, s2, s3, s4, s5, s6, s7, s8, s9, s10, s11].get i) (ptS SC) (ptS SB) (ptS ST) (ptS SM) hC hB hT hM).mono ?_
  obtain ⟨a1, a2⟩ := made_at8 mc
  obtain ⟨b1, b2⟩ := made_atJ mb
  obtain ⟨c1, c2⟩ := made_atJ mt
  obtain ⟨d1, d2⟩ := made_atJ mm
  have hE : ∀ r, r ≤ 1114111 → (ptS SC).at8 r = c r ∧ (ptS SB).atJ r = b r ∧ (ptS ST).atJ r = t r ∧ (ptS SM).atJ r = m r := fun r hr => ⟨a2 r hr, b2 r hr, c2 r hr, d2 r hr⟩
  rintro e w' ⟨hb, ⟨-, hn⟩ | ⟨-, k, hk, h⟩⟩
  · exact absurd ⟨a1, b1, c1, d1⟩ hn
  · obtain rfl := hk.unique (.none fun r hr => (badF_congr (hE r (by omega))).trans (fit_bad hF.fit hc (by omega)))
    rcases h with ⟨h, -⟩ | ⟨-, p, q, hq, rfl, hT⟩
    · omega
    · obtain rfl := hq.unique (.none fun r hr => (wrongF_congr hE r (by omega)).trans (hF.no r (by omega)))
      exact ⟨p, rfl, hT.congr hE, hb⟩
end Go.Proofs.Ytbmphakfgoompaa

/-
  The opener of what lists make: a struct of a class and four lists.
-/
set_option maxRecDepth 100000
namespace Go.Proofs.Ytbmphakfgoompaa
open Go.ChangeShapes Go.WideShapes Go.ChangeAt Go.RowKit Go.Joins Go.Deep

theorem b32 {x : Int} (h : (Lit.int .i32 x).wf = true) : wf32 x := by
  simpa [wf32, Lit.wf, IntKind.min, IntKind.max, IntKind.signed, IntKind.bits] using h
theorem b8 {x : Int} (h : (Lit.int .u8 x).wf = true) : 0 ≤ x ∧ x ≤ 255 := by
  simpa [Lit.wf, IntKind.min, IntKind.max, IntKind.signed, IntKind.bits] using h
theorem elem_fields {H : Type} {enc : TypeId × Value → H} {P : Program} {w : World} {b0 : Nat} {sp : Nat → Bool} {held : Bool} {e : TypeId} {fs : Array Field} {n : Nat} {a : Addr} {o : Nat} {cs : List Value} {x : DataW H × List MemPlace}
    (he : P.underlying e = some (.struct fs)) (hone : oneCellFields P fs = true) (hC : P.cellsOf e = fs.size) (hc : w.cells? b0 (a.add o) (P.cellsOf e) = some cs) (h : DataW.trod enc P w b0 sp held n e cs = some x) :
    ∀ (j : Nat) (f : Field), fs[j]? = some f → ∃ (v : Value) (y : DataW H × List MemPlace) (n' : Nat), w.cell? (a.add (o + j)) = some v ∧ DataW.trod enc P w b0 sp held n' f.type [v] = some y := by
  obtain ⟨_, hl, hat⟩ := World.cells?_some hc
  obtain ⟨xs, n', _, _, _, hxl, hf⟩ := DataW.trod_struct he h
  intro j f hj
  have hjl : j < fs.size := (Array.getElem?_eq_some_iff.1 hj).1
  have hjc : j < cs.length := by omega
  obtain ⟨ho, hk⟩ := Deep.hone_of hone j f hj
  have h1 := hf j f hj
  rw [ho, hk, show (cs.drop j).take 1 = [cs[j]] by rw [List.drop_eq_getElem_cons hjc]; rfl, List.getElem?_eq_getElem (show j < xs.length by omega)] at h1
  refine ⟨cs[j], _, n', ?_, h1⟩
  have h2 := hat j (by omega)
  rw [List.getElem?_eq_getElem hjc, Go.Deep.add_add] at h2
  exact h2
theorem exists_rows {α : Type} {Q : Nat → α → Prop} (n : Nat) (h : ∀ i, i < n → ∃ c, Q i c) : ∃ cs : List α, cs.length = n ∧ ∀ i (hi : i < cs.length), Q i cs[i] := by
  induction n with
  | zero => exact ⟨[], rfl, fun i hi => absurd hi (by simp)⟩
  | succ n ih =>
    obtain ⟨cs, hl, hq⟩ := ih (fun i hi => h i (by omega))
    obtain ⟨c, hc⟩ := h n (by omega)
    refine ⟨cs ++ [c], by simp [hl], fun i hi => ?_⟩
    by_cases hin : i < cs.length
    · rw [List.getElem_append_left hin]; exact hq i hin
    · have : i = n := by simp at hi; omega
      subst this
      subst hl
      rw [List.getElem_concat_length rfl]
      exact hc
def spanW (s : SpanD) : Prop := wf32 s.f ∧ wf32 s.t ∧ 0 ≤ s.v ∧ s.v ≤ 255
def twW2 (s : TwD) : Prop := wf32 s.a ∧ wf32 s.s
theorem rows3_fld {H : Type} {enc : TypeId × Value → H} {W : World} {t e c8 : TypeId} {f0 f1 f2 : Field} {v : Value} {n : Nat} {y : DataW H × List MemPlace}
    (ht : Try.prog.underlying t = some (.slice e)) (he : Try.prog.underlying e = some (.struct #[f0, f1, f2])) (h1 : oneCellFields Try.prog #[f0, f1, f2] = true) (hC : Try.prog.cellsOf e = 3)
    (e0 : Try.prog.underlying f0.type = some (.int .i32)) (e1 : Try.prog.underlying f1.type = some (.int .i32)) (e2 : Try.prog.underlying f2.type = some (.int .u8))
    (h : DataW.trod enc Try.prog W 0 (fun _ => true) true n t [v] = some y) : ∃ a len cap rs, v = .slice a len cap ∧ rs.length = len ∧ len ≤ cap ∧ cap ≤ maxLen ∧ SpansAt W a rs ∧ ∀ s ∈ rs, spanW s := by
  rcases Deep.open_slice ht h with ⟨hcs, hx⟩ | ⟨a, len, cap, m, n', D, Pl, hcs, _, hlc, hcm, hm, hx, hel⟩
  · simp [Value.cells] at hcs
    exact ⟨none, 0, 0, [], hcs, rfl, Nat.le_refl _, Nat.zero_le _, fun i hi => absurd hi (by simp), fun p hp => by cases hp⟩
  · simp [Value.cells] at hcs
    subst hcs
    have hm' : m = cap := by simpa using hm
    have hsp : 0 < len → a.spot = none := by
      intro hi
      obtain ⟨cs', hc, ht'⟩ := hel 0 (by omega)
      rw [hC] at hc
      obtain ⟨v0, y0, n0, k0, t0⟩ := elem_fields he h1 hC (by rw [hC]; exact hc) ht' 0 _ rfl
      simpa [Addr.add] using World.cell?_spot k0
    have hch : ∀ i, i < len → ∃ c : SpanD, spanW c ∧ ∃ b o, some a = some ⟨b, o, none⟩ ∧ W.cell? ⟨b, o + i * 3, none⟩ = some (.int .i32 c.f) ∧ W.cell? ⟨b, o + i * 3 + 1, none⟩ = some (.int .i32 c.t) ∧ W.cell? ⟨b, o + i * 3 + 2, none⟩ = some (.int .u8 c.v) := by
      intro i hi
      have hsp := hsp (by omega)
      obtain ⟨cs', hc, ht'⟩ := hel i (by omega)
      rw [hC] at hc
      have hf := elem_fields he h1 hC (by rw [hC]; exact hc) ht'
      obtain ⟨v0, y0, n0, k0, t0⟩ := hf 0 _ rfl
      obtain ⟨v1, y1, n1, k1, t1⟩ := hf 1 _ rfl
      obtain ⟨v2, y2, n2, k2, t2⟩ := hf 2 _ rfl
      obtain ⟨x0, d0, _, w0⟩ := DataW.trod_int e0 t0
      obtain ⟨x1, d1, _, w1⟩ := DataW.trod_int e1 t1
      obtain ⟨x2, d2, _, w2⟩ := DataW.trod_int e2 t2
      simp at d0 d1 d2
      subst d0 d1 d2
      obtain ⟨b, o, sp⟩ := a
      simp only at hsp
      subst hsp
      simp only [Addr.add_lit, Nat.add_zero, ← Nat.add_assoc] at k0 k1 k2
      exact ⟨⟨x0, x1, x2⟩, ⟨b32 w0, b32 w1, b8 w2⟩, b, o, rfl, k0, k1, k2⟩
    obtain ⟨chs, hl, hq⟩ := exists_rows len hch
    refine ⟨some a, len, cap, chs, rfl, hl, hlc, hcm, fun i hi => (hq i hi).2, fun p hp => ?_⟩
    obtain ⟨i, hi, rfl⟩ := List.mem_iff_getElem.1 hp
    exact (hq i hi).1
theorem rows2_fld {H : Type} {enc : TypeId × Value → H} {W : World} {t e : TypeId} {f0 f1 : Field} {v : Value} {n : Nat} {y : DataW H × List MemPlace}
    (ht : Try.prog.underlying t = some (.slice e)) (he : Try.prog.underlying e = some (.struct #[f0, f1])) (h1 : oneCellFields Try.prog #[f0, f1] = true) (hC : Try.prog.cellsOf e = 2)
    (e0 : Try.prog.underlying f0.type = some (.int .i32)) (e1 : Try.prog.underlying f1.type = some (.int .i32))
    (h : DataW.trod enc Try.prog W 0 (fun _ => true) true n t [v] = some y) : ∃ a len cap rs, v = .slice a len cap ∧ rs.length = len ∧ len ≤ cap ∧ cap ≤ maxLen ∧ TwAt W a rs ∧ ∀ s ∈ rs, twW2 s := by
  rcases Deep.open_slice ht h with ⟨hcs, hx⟩ | ⟨a, len, cap, m, n', D, Pl, hcs, _, hlc, hcm, hm, hx, hel⟩
  · simp [Value.cells] at hcs
    exact ⟨none, 0, 0, [], hcs, rfl, Nat.le_refl _, Nat.zero_le _, fun i hi => absurd hi (by simp), fun p hp => by cases hp⟩
  · simp [Value.cells] at hcs
    subst hcs
    have hm' : m = cap := by simpa using hm
    have hsp : 0 < len → a.spot = none := by
      intro hi
      obtain ⟨cs', hc, ht'⟩ := hel 0 (by omega)
      rw [hC] at hc
      obtain ⟨v0, y0, n0, k0, t0⟩ := elem_fields he h1 hC (by rw [hC]; exact hc) ht' 0 _ rfl
      simpa [Addr.add] using World.cell?_spot k0
    have hch : ∀ i, i < len → ∃ c : TwD, twW2 c ∧ ∃ b o, some a = some ⟨b, o, none⟩ ∧ W.cell? ⟨b, o + i * 2, none⟩ = some (.int .i32 c.a) ∧ W.cell? ⟨b, o + i * 2 + 1, none⟩ = some (.int .i32 c.s) := by
      intro i hi
      have hsp := hsp (by omega)
      obtain ⟨cs', hc, ht'⟩ := hel i (by omega)
      rw [hC] at hc
      have hf := elem_fields he h1 hC (by rw [hC]; exact hc) ht'
      obtain ⟨v0, y0, n0, k0, t0⟩ := hf 0 _ rfl
      obtain ⟨v1, y1, n1, k1, t1⟩ := hf 1 _ rfl
      obtain ⟨x0, d0, _, w0⟩ := DataW.trod_int e0 t0
      obtain ⟨x1, d1, _, w1⟩ := DataW.trod_int e1 t1
      simp at d0 d1
      subst d0 d1
      obtain ⟨b, o, sp⟩ := a
      simp only at hsp
      subst hsp
      simp only [Addr.add_lit, Nat.add_zero, ← Nat.add_assoc] at k0 k1
      exact ⟨⟨x0, x1⟩, ⟨b32 w0, b32 w1⟩, b, o, rfl, k0, k1⟩
    obtain ⟨chs, hl, hq⟩ := exists_rows len hch
    refine ⟨some a, len, cap, chs, rfl, hl, hlc, hcm, fun i hi => (hq i hi).2, fun p hp => ?_⟩
    obtain ⟨i, hi, rfl⟩ := List.mem_iff_getElem.1 hp
    exact (hq i hi).1
theorem open_agg5 {H : Type} {enc : TypeId × Value → H} {P : Program} {w : World} {base : Nat} {spare : Nat → Bool} {held : Bool} {r : Reach} {b0 : Nat} {t : TypeId} {f0 f1 f2 f3 f4 : Field} {v : Value} {d : DataW H} {p : List MemPlace} (hs : P.underlying t = some (.struct #[f0, f1, f2, f3, f4])) (hone : oneCellFields P #[f0, f1, f2, f3, f4] = true) (hC : P.cellsOf t = 5)
    (hv : Value.okWide P w r b0 t v) (h : DataW.Trod enc P w base spare held t v d p) :
    ∃ (v0 v1 v2 v3 v4 : Value) (y0 y1 y2 y3 y4 : DataW H × List MemPlace) (n : Nat), v = .agg #[v0, v1, v2, v3, v4] ∧
      DataW.trod enc P w base spare held n f0.type [v0] = some y0 ∧ DataW.trod enc P w base spare held n f1.type [v1] = some y1 ∧ DataW.trod enc P w base spare held n f2.type [v2] = some y2 ∧ DataW.trod enc P w base spare held n f3.type [v3] = some y3 ∧ DataW.trod enc P w base spare held n f4.type [v4] = some y4 := by
  obtain ⟨cs, rfl, hsz⟩ := okWide_struct hs hv
  obtain ⟨c0, c1, c2, c3, c4, rfl⟩ : ∃ c0 c1 c2 c3 c4, cs = #[c0, c1, c2, c3, c4] := by
    obtain ⟨l⟩ := cs
    match l, hsz.trans hC with
    | [c0, c1, c2, c3, c4], _ => exact ⟨c0, c1, c2, c3, c4, rfl⟩
  obtain ⟨fuel, hf⟩ := h
  obtain ⟨xs, n, _, hx, hl, hlen, hf⟩ := DataW.trod_struct hs hf
  match xs, hlen with
  | [y0, y1, y2, y3, y4], _ =>
    obtain ⟨o0, k0⟩ := hone_of hone 0 f0 rfl
    obtain ⟨o1, k1⟩ := hone_of hone 1 f1 rfl
    obtain ⟨o2, k2⟩ := hone_of hone 2 f2 rfl
    obtain ⟨o3, k3⟩ := hone_of hone 3 f3 rfl
    obtain ⟨o4, k4⟩ := hone_of hone 4 f4 rfl
    exact ⟨c0, c1, c2, c3, c4, y0, y1, y2, y3, y4, n, rfl, by simpa [Value.cells, o0, k0] using hf 0 f0 rfl, by simpa [Value.cells, o1, k1] using hf 1 f1 rfl, by simpa [Value.cells, o2, k2] using hf 2 f2 rfl, by simpa [Value.cells, o3, k3] using hf 3 f3 rfl, by simpa [Value.cells, o4, k4] using hf 4 f4 rfl⟩
/-- what is told of lists that came in: no bound on their lengths but memory's -/
structure MadeRw (w : World) (D : MadeD) (a1 : Option Addr) (n1 c1 : Nat) (a2 : Option Addr) (n2 c2 : Nat) (a3 : Option Addr) (n3 c3 : Nat) (a4 : Option Addr) (n4 c4 : Nat) : Prop where
  h1 : D.l1.length = n1
  h2 : D.l2.length = n2
  h3 : D.l3.length = n3
  h4 : D.l4.length = n4
  k1 : n1 ≤ c1 ∧ c1 ≤ maxLen
  k2 : n2 ≤ c2 ∧ c2 ≤ maxLen
  k3 : n3 ≤ c3 ∧ c3 ≤ maxLen
  k4 : n4 ≤ c4 ∧ c4 ≤ maxLen
  s1 : SpansAt w a1 D.l1
  s2 : SpansAt w a2 D.l2
  s3 : TwAt w a3 D.l3
  s4 : TwAt w a4 D.l4
  r : 0 ≤ D.rest ∧ D.rest ≤ 255
  w1 : ∀ s ∈ D.l1, spanW s
  w2 : ∀ s ∈ D.l2, spanW s
  w3 : ∀ s ∈ D.l3, twW2 s
  w4 : ∀ s ∈ D.l4, twW2 s
theorem MadeRw.sl {w : World} {D : MadeD} {a1 : Option Addr} {n1 c1 : Nat} {a2 : Option Addr} {n2 c2 : Nat} {a3 : Option Addr} {n3 c3 : Nat} {a4 : Option Addr} {n4 c4 : Nat} (h : MadeRw w D a1 n1 c1 a2 n2 c2 a3 n3 c3 a4 n4 c4) (b1 : n1 ≤ 20) (b2 : n2 ≤ 20) (b3 : n3 ≤ 20) (b4 : n4 ≤ 20) :
    MadeSl w D a1 n1 c1 a2 n2 c2 a3 n3 c3 a4 n4 c4 := ⟨h.h1, h.h2, h.h3, h.h4, by omega, by omega, by omega, by omega, h.s1, h.s2, h.s3, h.s4⟩
theorem Try.cellsMade : Try.prog.cellsOf 38 = 5 := by kernel_rfl
theorem made_open {H : Type} {enc : TypeId × Value → H} {W : World} {b0 : Nat} {v : Value} {d : DataW H} {p : List MemPlace}
    (hv : Value.okWide Try.prog W .any b0 38 v) (h : DataW.Trod enc Try.prog W 0 (fun _ => true) true 38 v d p) :
    ∃ (D : MadeD) (a1 : Option Addr) (n1 c1 : Nat) (a2 : Option Addr) (n2 c2 : Nat) (a3 : Option Addr) (n3 c3 : Nat) (a4 : Option Addr) (n4 c4 : Nat), v = .agg #[.int .u8 D.rest, .slice a1 n1 c1, .slice a2 n2 c2, .slice a3 n3 c3, .slice a4 n4 c4] ∧ MadeRw W D a1 n1 c1 a2 n2 c2 a3 n3 c3 a4 n4 c4 := by
  obtain ⟨v0, v1, v2, v3, v4, y0, y1, y2, y3, y4, m, rfl, h0, h1, h2, h3, h4⟩ := open_agg5 Try.underlying38 (by kernel_rfl) Try.cellsMade hv h
  obtain ⟨x, e0, _, wx⟩ := DataW.trod_int Try.underlying26 h0
  simp at e0
  subst e0
  obtain ⟨a1, n1, c1, l1, rfl, p1, q1, m1, s1, w1⟩ := rows3_fld (c8 := 0) Try.underlying29 Try.underlying28 (by kernel_rfl) (by kernel_rfl) Try.underlying21 Try.underlying21 Try.underlying26 h1
  obtain ⟨a2, n2, c2, l2, rfl, p2, q2, m2, s2, w2⟩ := rows3_fld (c8 := 0) Try.underlying33 Try.underlying32 (by kernel_rfl) (by kernel_rfl) Try.underlying21 Try.underlying21 Try.underlying30 h2
  obtain ⟨a3, n3, c3, l3, rfl, p3, q3, m3, s3, w3⟩ := rows2_fld Try.underlying36 Try.underlying80 (by kernel_rfl) (by kernel_rfl) Try.underlying21 Try.underlying21 h3
  obtain ⟨a4, n4, c4, l4, rfl, p4, q4, m4, s4, w4⟩ := rows2_fld Try.underlying36 Try.underlying80 (by kernel_rfl) (by kernel_rfl) Try.underlying21 Try.underlying21 h4
  exact ⟨⟨x, l1, l2, l3, l4⟩, a1, n1, c1, a2, n2, c2, a3, n3, c3, a4, n4, c4, rfl, ⟨p1, p2, p3, p4, ⟨q1, m1⟩, ⟨q2, m2⟩, ⟨q3, m3⟩, ⟨q4, m4⟩, s1, s2, s3, s4, b8 wx, w1, w2, w3, w4⟩⟩
end Go.Proofs.Ytbmphakfgoompaa

/-
  The walk of TablesOne.
-/
namespace Go.Proofs.Ytbmphakfgoompaa
open Go.RowKit

/-- packed values in memory that say c, b, t, m -/
def PkAt (w : World) (s : Array Value) (c b t m : Nat → Int) : Prop := ∃ SC SB ST SM s0 s1 s2 s3 s4 s5 s6 s7 s8 s9 s10 s11, s = #[s0, s1, s2, s3, s4, s5, s6, s7, s8, s9, s10, s11] ∧ Made8 c SC ∧ VJ.Made8 b SB ∧ VJ.Made8 t ST ∧ VJ.Made8 m SM ∧
  P8 w s0 s1 s2 SC.top SC.mids.flatten SC.lows.flatten ∧ PJ w s3 s4 s5 SB.top SB.mids.flatten SB.lows.flatten ∧ PJ w s6 s7 s8 ST.top ST.mids.flatten ST.lows.flatten ∧ PJ w s9 s10 s11 SM.top SM.mids.flatten SM.lows.flatten
theorem PkAt.below {w w' : World} {s : Array Value} {c b t m : Nat → Int} (h : PkAt w s c b t m) (hb : Below w.heap.size w w') : PkAt w' s c b t m := by
  obtain ⟨SC, SB, ST, SM, s0, s1, s2, s3, s4, s5, s6, s7, s8, s9, s10, s11, e, m1, m2, m3, m4, h1, h2, h3, h4⟩ := h
  exact ⟨SC, SB, ST, SM, s0, s1, s2, s3, s4, s5, s6, s7, s8, s9, s10, s11, e, m1, m2, m3, m4, h1.below hb, h2.below hb, h3.below hb, h4.below hb⟩
theorem htab_packed {w : World} {p B : Nat} {c b t m : Nat → Int} (h : HTab w p c b t m B) :
    Calls Try.prog 23 #[.pointer (some ⟨p, 0, none⟩)] w fun e w' => ∃ s, e = .returned (.agg s) ∧ PkAt w' s c b t m ∧ Below w.heap.size w w' := by
  obtain ⟨gc, gb, gt, gm, SC, SB, ST, SM, h1, h2, h3, h4, h5, -⟩ := h
  refine (packedT_walk w p gc gb gt gm _ _ _ _ h1.mem).mono ?_
  rintro e w' ⟨s0, s1, s2, s3, s4, s5, s6, s7, s8, s9, s10, s11, rfl, o1, o2, o3, o4, hb⟩
  exact ⟨_, rfl, ⟨SC, SB, ST, SM, s0, s1, s2, s3, s4, s5, s6, s7, s8, s9, s10, s11, rfl, h2, h3, h4, h5, o1.p8 h1.mem.okC, o2.pJ h1.mem.okB, o3.pJ h1.mem.okT, o4.pJ h1.mem.okM⟩, hb⟩
theorem pk_same {w : World} {s s' : Array Value} {c b t m : Nat → Int} (h : PkAt w s c b t m) (h' : PkAt w s' c b t m) :
    Calls Try.prog 24 #[.agg s, .agg s'] w fun e w' => e = .returned (.bool true) ∧ Below w.heap.size w w' := by
  obtain ⟨SC, SB, ST, SM, s0, s1, s2, s3, s4, s5, s6, s7, s8, s9, s10, s11, rfl, m1, m2, m3, m4, h1, h2, h3, h4⟩ := h
  obtain ⟨SC', SB', ST', SM', t0, t1, t2, t3, t4, t5, t6, t7, t8, t9, t10, t11, rfl, m1', m2', m3', m4', h1', h2', h3', h4'⟩ := h'
  obtain rfl := m1.unique m1' (fun r _ => rfl)
  obtain rfl := m2.unique m2' (fun r _ => rfl)
  obtain rfl := m3.unique m3' (fun r _ => rfl)
  obtain rfl := m4.unique m4' (fun r _ => rfl)
  exact same_walk w s0 s1 s2 s3 s4 s5 s6 s7 s8 s9 s10 s11 t0 t1 t2 t3 t4 t5 t6 t7 t8 t9 t10 t11 (ptS SC) (ptS SB) (ptS ST) (ptS SM) h1 h2 h3 h4 h1' h2' h3' h4'
theorem pk_over {w : World} {s : Array Value} {c b t m : Nat → Int} (h : PkAt w s c b t m) (hF : Fine c b t m) (hc : ∀ r, r ≤ 1114111 → knownB (c r) = true) :
    Calls Try.prog 22 #[.agg s] w fun e w' => ∃ p', e = .returned (.tuple #[.pointer (some ⟨p', 0, none⟩), .int .i32 0, .int .i64 0]) ∧ HTab w' p' c b t m w.heap.size ∧ Below w.heap.size w w' := by
  obtain ⟨SC, SB, ST, SM, s0, s1, s2, s3, s4, s5, s6, s7, s8, s9, s10, s11, rfl, m1, m2, m3, m4, h1, h2, h3, h4⟩ := h
  exact over_again m1 m2 m3 m4 hF hc h1 h2 h3 h4
/-- what tables say, and what lists say of which they were made -/
theorem alike_no {D : MadeD} (hD : HandOk D) {c b t m : Nat → Int} (hF : Fine c b t m) (e1 : c = fun r => clsF D.rest D.l1 (r : Nat)) (e2 : b = fun r => brkF D.l2 (r : Nat)) (e3 : t = fun r => twnF D.l3 (r : Nat)) (e4 : m = fun r => twnF D.l4 (r : Nat)) (r : Nat) (hr : r ≤ 1114111) :
    unlike (c r) (twF t r) (brO (b r)) (brS (b r)) (miO (m r)) (decide (0 < m r)) (D.cls r) (D.twin r) (D.oth r) (D.side r) (D.mir r) (D.has r) = false := by
  have hk := hD.pack.no r (by omega)
  simp only [packBad, pkC, pkB, pkT, pkM, Bool.or_eq_false_iff, Bool.not_eq_false', Bool.or_eq_true, Bool.and_eq_true, beq_iff_eq, pointB, sidedB, decide_eq_true_eq, Bool.not_eq_true'] at hk
  obtain ⟨⟨⟨-, k2⟩, k3⟩, k4⟩ := hk
  have hc : c r = D.cls r := by rw [e1]; rfl
  have hb : b r = bkF D.oth D.side r := by rw [e2]; exact (hD.br r).symm
  have ht : t r = twP D.twin r := by rw [e3]; exact (hD.tw r).symm
  have hm : m r = miF D.mir D.has r := by rw [e4]; exact (hD.mi r).symm
  have t1 : twF t r = D.twin r := by
    unfold twF
    rw [ht]
    unfold twP
    by_cases e : D.twin r = (r : Nat)
    · rw [if_pos e, if_neg (by omega), e]
    · rw [if_neg e, if_pos (by omega)]; omega
  have b1 : brS (b r) = D.side r ∧ (D.side r ≠ 0 → brO (b r) = D.oth r) := by
    rw [hb]
    unfold bkF brS brO laidF
    by_cases e : D.side r = 0
    · rw [if_pos e, if_neg (by omega), if_neg (by omega)]; exact ⟨e.symm, fun h => absurd e h⟩
    · rw [if_neg e]
      have k5 := k2.resolve_left e
      rcases k5.1 with e1 | e1
      · simp only [if_pos e1]
        rw [if_pos (by omega), if_pos (by omega)]; exact ⟨e1.symm, fun _ => by omega⟩
      · have ne : ¬ D.side r = 1 := by omega
        simp only [if_neg ne]
        rw [if_neg (by omega), if_pos (by omega), if_neg (by omega), if_pos (by omega)]; exact ⟨e1.symm, fun _ => by omega⟩
  have m1 : decide (0 < m r) = D.has r ∧ (D.has r = true → miO (m r) = D.mir r) := by
    rw [hm]
    unfold miF miO
    cases e : D.has r
    · simp
    · have k5 := k4.resolve_left (by rw [e]; simp)
      simp only [if_true]
      exact ⟨decide_eq_true (by omega), fun _ => by rw [if_pos (by omega)]; omega⟩
  unfold unlike
  rw [hc, t1, b1.1, m1.1]
  simp only [bne_self_eq_false, Bool.false_or, Bool.or_eq_false_iff, Bool.and_eq_false_iff, bne_eq_false_iff_eq]
  refine ⟨?_, ?_⟩
  · by_cases e : D.side r = 0
    · exact .inl e
    · exact .inr (b1.2 e)
  · cases e : D.has r
    · exact .inl rfl
    · exact .inr (m1.2 e)
end Go.Proofs.Ytbmphakfgoompaa

/-
  The walk of TablesOne.
-/
namespace Go.Proofs.Ytbmphakfgoompaa
open Go.RowKit

def OnR (w : World) (iv : Value) (wr : World) : Prop := ∃ k : Nat, k ≤ 3 ∧ iv = .int .i64 (k : Nat) ∧ Below w.heap.size w wr
set_option maxRecDepth 100000 in
set_option maxHeartbeats 4000000 in
theorem tablesOne_walk (D : MadeD) (a1 : Option Addr) (n1 c1 : Nat) (a2 : Option Addr) (n2 c2 : Nat) (a3 : Option Addr) (n3 c3 : Nat) (a4 : Option Addr) (n4 c4 : Nat) (w : World) (hm : MadeRw w D a1 n1 c1 a2 n2 c2 a3 n3 c3 a4 n4 c4) :
    Calls Try.prog 6 #[.agg #[.int .u8 D.rest, .slice a1 n1 c1, .slice a2 n2 c2, .slice a3 n3 c3, .slice a4 n4 c4]] w fun e w' => e = .returned (.bool true) ∧ Below w.heap.size w w' := by
  have hb1 : ∀ s ∈ D.l1, wf32 s.f ∧ wf32 s.t := fun s hs => ⟨(hm.w1 s hs).1, (hm.w1 s hs).2.1⟩
  have HM0 := Lib.hid hm
  have HW1 := Lib.hid hb1
  clear hm hb1
  obtain ⟨rest, hrest⟩ : ∃ x, x = D.rest := ⟨_, rfl⟩
  rw [← hrest]
  have HRest := Lib.hid hrest; clear hrest
  have hA := heap_alloc_new w (.cells #[.int .u8 rest, .slice a1 n1 c1, .slice a2 n2 c2, .slice a3 n3 c3, .slice a4 n4 c4] 38)
  have HB := Lib.hid ((Below.refl _ w).alloc (Nat.le_refl _) (.cells #[.int .u8 rest, .slice a1 n1 c1, .slice a2 n2 c2, .slice a3 n3 c3, .slice a4 n4 c4] 38))
  have HA := Lib.hid hA; clear hA
  go_enter Try.func6, Try.ntmps6
  go_upto_region 1 with (fail)
  obtain ⟨bM, hbM⟩ : ∃ bM, bM = w.heap.size := ⟨_, rfl⟩
  rw [← hbM] at HA ⊢
  generalize w.alloc (.cells #[.int .u8 rest, .slice a1 n1 c1, .slice a2 n2 c2, .slice a3 n3 c3, .slice a4 n4 c4] 38) = w1 at *
  clear hbM
  have q0 := cell_of_row w1 bM 0 _ _ (0, 0) HA.out
  have q1 := cell_of_row w1 bM 1 _ _ (0, 0) HA.out
  have q2 := cell_of_row w1 bM 2 _ _ (0, 0) HA.out
  have q3 := cell_of_row w1 bM 3 _ _ (0, 0) HA.out
  have q4 := cell_of_row w1 bM 4 _ _ (0, 0) HA.out
  simp at q0 q1 q2 q3 q4
  obtain ⟨fb, hfb⟩ : ∃ fb, fb = decide (n1 ≤ 20 ∧ n2 ≤ 20 ∧ n3 ≤ 20 ∧ n4 ≤ 20) := ⟨_, rfl⟩
  have HFb := Lib.hid (fit_walk w1 fb rest a1 n1 c1 a2 n2 c2 a3 n3 c3 a4 n4 c4 hfb)
  go_wp2_with fail
  refine HFb.out.mono ?_
  rintro e w2 ⟨rfl, hb⟩
  have HB2 := Lib.hid (HB.out.trans (hb.mono HB.out.size))
  have HA2 := Lib.hid ((hb.block bM (Array.getElem?_eq_some_iff.1 HA.out).1).trans HA.out)
  clear hb q0 q1 q2 q3 q4 HA HB HFb
  cases fb
  · clear hfb
    go_wp2_with fail
    refine (awake_walk w2).mono ?_
    rintro e w3 ⟨rfl, hb⟩
    have HB3 := Lib.hid (HB2.out.trans (hb.mono HB2.out.size))
    clear hb
    go_wp2
    go_ret
    exact ⟨rfl, HB3.out⟩
  · have HM : Hid (MadeSl w D a1 n1 c1 a2 n2 c2 a3 n3 c3 a4 n4 c4) := Lib.hid (by have := of_decide_eq_true hfb.symm; exact HM0.out.sl (by omega) (by omega) (by omega) (by omega))
    clear hfb HM0
    have HMw := Lib.hid (HM.out.below HB2.out)
    have q0 := cell_of_row w2 bM 0 _ _ (0, 0) HA2.out
    have q1 := cell_of_row w2 bM 1 _ _ (0, 0) HA2.out
    have q2 := cell_of_row w2 bM 2 _ _ (0, 0) HA2.out
    have q3 := cell_of_row w2 bM 3 _ _ (0, 0) HA2.out
    have q4 := cell_of_row w2 bM 4 _ _ (0, 0) HA2.out
    simp at q0 q1 q2 q3 q4
    have HHn := Lib.hid (hand_walk rest a1 n1 c1 D.l1 a2 n2 c2 D.l2 a3 n3 c3 D.l3 a4 n4 c4 D.l4 w2 HMw.out.h1 HMw.out.b1 HMw.out.s1 HMw.out.h2 HMw.out.b2 HMw.out.s2 HMw.out.h3 HMw.out.b3 HMw.out.s3 HMw.out.h4 HMw.out.b4 HMw.out.s4)
    clear HMw
    go_wp2_with fail
    refine HHn.out.mono ?_
    rintro e w3 ⟨hb, hq⟩
    have HB3 := Lib.hid (HB2.out.trans (hb.mono HB2.out.size))
    have HA3 := Lib.hid ((hb.block bM (Array.getElem?_eq_some_iff.1 HA2.out).1).trans HA2.out)
    clear hb q0 q1 q2 q3 q4 HA2 HHn
    rcases hq with ⟨r, h1, rfl⟩ | ⟨h1, p, k, hk, rfl, hT⟩
    · clear h1
      go_wp2_with fail
      refine (awake_walk w3).mono ?_
      rintro e w4 ⟨rfl, hb⟩
      have HB4 := Lib.hid (HB3.out.trans (hb.mono HB3.out.size))
      clear hb
      go_wp2
      go_ret
      exact ⟨rfl, HB4.out⟩
    · by_cases hk2 : k < 1114112
      · rw [show wholeE p k = .tuple #[.pointer none, .int .i32 (k : Nat), .int .i64 141] from if_pos hk2]
        clear h1 hk hT hk2
        go_wp2_with fail
        refine (awake_walk w3).mono ?_
        rintro e w4 ⟨rfl, hb⟩
        have HB4 := Lib.hid (HB3.out.trans (hb.mono HB3.out.size))
        clear hb
        go_wp2
        go_ret
        exact ⟨rfl, HB4.out⟩
      · obtain rfl : k = 1114112 := by have := hk.le; omega
        rw [show wholeE p 1114112 = .tuple #[.pointer (some ⟨p, 0, none⟩), .int .i32 0, .int .i64 0] from if_neg hk2]
        rw [HRest.out] at h1 hk hT
        obtain ⟨hD, hFit⟩ := hand_ok h1
        have hHas : ∃ c b t m : Nat → Int, (c = fun r => clsF D.rest D.l1 (r : Nat)) ∧ (b = fun r => brkF D.l2 (r : Nat)) ∧ (t = fun r => twnF D.l3 (r : Nat)) ∧ (m = fun r => twnF D.l4 (r : Nat)) ∧ HTab w3 p c b t m w2.heap.size ∧ Fine c b t m :=
          ⟨_, _, _, _, rfl, rfl, rfl, rfl, hT, ⟨hFit, fun r hr => hk.no r (by omega)⟩⟩
        have HD := Lib.hid hD
        clear h1 hk hT hD hFit hk2
        obtain ⟨c, b, t, m, e1, e2, e3, e4, hT, hF⟩ := hHas
        have HE := Lib.hid (And.intro e1 (And.intro e2 (And.intro e3 e4)))
        have HF := Lib.hid hF
        have HT := Lib.hid hT
        have HC : Hid (∀ r, r ≤ 1114111 → knownB (c r) = true) := Lib.hid (fun r hr => by rw [e1]; exact HD.out.cls r)
        clear e1 e2 e3 e4 hF hT
        go_wp2_with fail
        refine (htab_packed HT.out).mono ?_
        rintro e w4 ⟨s, rfl, hpk, hb⟩
        have HB4 := Lib.hid (HB3.out.trans (hb.mono HB3.out.size))
        have HA4 := Lib.hid ((hb.block bM (Array.getElem?_eq_some_iff.1 HA3.out).1).trans HA3.out)
        have HT4 := Lib.hid (HT.out.below hb)
        have HPk := Lib.hid (pk_over hpk HF.out HC.out)
        clear hb hpk HT HA3
        go_wp2_with fail
        refine HPk.out.mono ?_
        rintro e w5 ⟨p1, rfl, hT1, hb⟩
        have HB5 := Lib.hid (HB4.out.trans (hb.mono HB4.out.size))
        have HA5 := Lib.hid ((hb.block bM (Array.getElem?_eq_some_iff.1 HA4.out).1).trans HA4.out)
        have HT5 := Lib.hid (HT4.out.below hb)
        have HT15 := Lib.hid hT1
        clear hb hT1 HA4 HT4 HPk
        have HPt : Hid (Calls Try.prog 18 #[.iface 22 (.pointer (some ⟨p, 0, none⟩))] w5 fun e w' => ∃ p', e = .returned (.tuple #[.pointer (some ⟨p', 0, none⟩), .int .i32 0, .int .i64 0]) ∧ HTab w' p' c b t m w5.heap.size ∧ Below w5.heap.size w5 w') := Lib.hid (by
          obtain ⟨gc, gb, gt, gm, SC, SB, ST, SM, x1, -⟩ := HT5.out
          exact packT_gives x1 HF.out HC.out)
        go_wp2_with fail
        refine HPt.out.mono ?_
        rintro e w6 ⟨p2, rfl, hT2, hb⟩
        have HB6 := Lib.hid (HB5.out.trans (hb.mono HB5.out.size))
        have HA6 := Lib.hid ((hb.block bM (Array.getElem?_eq_some_iff.1 HA5.out).1).trans HA5.out)
        have HT6 := Lib.hid (HT5.out.below hb)
        have HT16 := Lib.hid (HT15.out.below hb)
        have HT26 := Lib.hid hT2
        clear hb hT2 HA5 HT5 HT15 HPt
        have q0 := cell_of_row w6 bM 0 _ _ (0, 0) HA6.out
        have q1 := cell_of_row w6 bM 1 _ _ (0, 0) HA6.out
        have q2 := cell_of_row w6 bM 2 _ _ (0, 0) HA6.out
        have q3 := cell_of_row w6 bM 3 _ _ (0, 0) HA6.out
        have q4 := cell_of_row w6 bM 4 _ _ (0, 0) HA6.out
        simp at q0 q1 q2 q3 q4
        have HQw := Lib.hid (quickly_walk D a1 n1 c1 a2 n2 c2 a3 n3 c3 a4 n4 c4 w6 (HM.out.below HB6.out) HW1.out)
        rw [← HRest.out] at HQw
        go_wp2_with fail
        refine HQw.out.mono ?_
        rintro e w7 ⟨q, rfl, ⟨pm, gC, gR, N, hq⟩, hb⟩
        have HB7 := Lib.hid (HB6.out.trans (hb.mono HB6.out.size))
        have HA7 := Lib.hid ((hb.block bM (Array.getElem?_eq_some_iff.1 HA6.out).1).trans HA6.out)
        have HT7 := Lib.hid (HT6.out.below hb)
        have HT17 := Lib.hid (HT16.out.below hb)
        have HT27 := Lib.hid (HT26.out.below hb)
        have HPq : Hid (Calls Try.prog 18 #[.iface 53 (.pointer (some ⟨q, 0, none⟩))] w7 fun e w' => ∃ p', e = .returned (.tuple #[.pointer (some ⟨p', 0, none⟩), .int .i32 0, .int .i64 0]) ∧ HTab w' p' c b t m w7.heap.size ∧ Below w7.heap.size w7 w') := Lib.hid (by
          obtain ⟨e1, e2, e3, e4⟩ := HE.out
          have hF := HF.out
          rw [e1, e2, e3, e4] at hF ⊢
          exact quick_gives hq HD.out hF)
        clear hb hq HA6 HT6 HT16 HT26 HQw q0 q1 q2 q3 q4
        go_wp2_with fail
        refine HPq.out.mono ?_
        rintro e w8 ⟨p3, rfl, hT3, hb⟩
        have HB8 := Lib.hid (HB7.out.trans (hb.mono HB7.out.size))
        have HA8 := Lib.hid ((hb.block bM (Array.getElem?_eq_some_iff.1 HA7.out).1).trans HA7.out)
        have HT8 := Lib.hid (HT7.out.below hb)
        have HT18 := Lib.hid (HT17.out.below hb)
        have HT28 := Lib.hid (HT27.out.below hb)
        have HT38 := Lib.hid hT3
        clear hb hT3 HA7 HT7 HT17 HT27 HPq
        have hR := heap_alloc_new w8 (.cells #[.pointer (some ⟨p1, 0, none⟩), .pointer (some ⟨p2, 0, none⟩), .pointer (some ⟨p3, 0, none⟩)] 22)
        have hRb := (Below.refl _ w8).alloc (Nat.le_refl _) (.cells #[.pointer (some ⟨p1, 0, none⟩), .pointer (some ⟨p2, 0, none⟩), .pointer (some ⟨p3, 0, none⟩)] 22)
        have HR := Lib.hid (And.intro hR hRb)
        clear hR hRb
        go_upto_region 14 with (fail)
        obtain ⟨hR, hRb⟩ := HR.out
        clear HR
        obtain ⟨bS, hbS⟩ : ∃ bS, bS = w8.heap.size := ⟨_, rfl⟩
        rw [← hbS] at hR ⊢
        generalize w8.alloc (.cells #[.pointer (some ⟨p1, 0, none⟩), .pointer (some ⟨p2, 0, none⟩), .pointer (some ⟨p3, 0, none⟩)] 22) = w9 at *
        have HB9 := Lib.hid (HB8.out.trans (hRb.mono HB8.out.size))
        have HA9 := Lib.hid ((hRb.block bM (Array.getElem?_eq_some_iff.1 HA8.out).1).trans HA8.out)
        have HT9 := Lib.hid (HT8.out.below hRb)
        have HEl : Hid (∀ k, k < 3 → ∃ pk B, w9.cell? ⟨bS, k, none⟩ = some (.pointer (some ⟨pk, 0, none⟩)) ∧ HTab w9 pk c b t m B) := Lib.hid (fun k hk => by
          have hc := fun j => cell_of_row w9 bS j _ _ (0, 0) hR
          have h3 : k = 0 ∨ k = 1 ∨ k = 2 := by omega
          rcases h3 with rfl | rfl | rfl
          · exact ⟨p1, _, hc 0, HT18.out.below hRb⟩
          · exact ⟨p2, _, hc 1, HT28.out.below hRb⟩
          · exact ⟨p3, _, hc 2, HT38.out.below hRb⟩)
        have HB0 := Lib.hid (Below.refl w9.heap.size w9)
        clear hbS hR hRb HA8 HT8 HT18 HT28 HT38 HB8
        go_loopw [107] (OnR w9) (fun i _ => 3 - (intOf i).toNat)
        case atStart => exact ⟨0, by omega, rfl, HB0.out⟩
        case round =>
          obtain ⟨k, hk, rfl, hbel⟩ := hrel
          have HBl := Lib.hid hbel; clear hbel
          by_cases hkn : k < 3
          · have hki : (k : Int) < 3 := by omega
            obtain ⟨pk, B, hc, hTk⟩ := HEl.out k hkn
            have qx := (HBl.out.cell (p := ⟨bS, k, none⟩) (World.block_lt_of_cell? w9 _ hc)).trans hc
            have HTk := Lib.hid (hTk.below HBl.out)
            clear hc hTk
            go_wp2_with fail
            refine (htab_packed (HT9.out.below HBl.out)).mono ?_
            rintro e w10 ⟨s1, rfl, hs1, hb⟩
            have HS1 := Lib.hid hs1
            have HTk2 := Lib.hid (HTk.out.below hb)
            have HB10 := Lib.hid (HBl.out.trans (hb.mono HBl.out.size))
            clear hs1 hb HTk qx
            go_wp2_with fail
            refine (htab_packed HTk2.out).mono ?_
            rintro e w11 ⟨s2, rfl, hs2, hb⟩
            have HSm := Lib.hid (pk_same (HS1.out.below hb) hs2)
            have HB11 := Lib.hid (HB10.out.trans (hb.mono HB10.out.size))
            clear hs2 hb HTk2 HS1
            go_wp2_with fail
            refine HSm.out.mono ?_
            rintro e w12 ⟨rfl, hb⟩
            have HB12 := Lib.hid (HB11.out.trans (hb.mono HB11.out.size))
            clear hb HSm
            go_wp2
            go_roundw
            case rel => exact ⟨k + 1, by omega, by go_num, HB12.out⟩
            case measure => simp [intOf]; omega
          · obtain rfl : k = 3 := by omega
            have HB13 := Lib.hid (HB9.out.trans (HBl.out.mono HB9.out.size))
            have HA13 := Lib.hid ((HBl.out.block bM (Array.getElem?_eq_some_iff.1 HA9.out).1).trans HA9.out)
            have HT13 := Lib.hid (HT9.out.below HBl.out)
            clear HT9 HA9 HB9 HEl HB0
            have q0 := cell_of_row wr bM 0 _ _ (0, 0) HA13.out
            have q1 := cell_of_row wr bM 1 _ _ (0, 0) HA13.out
            have q2 := cell_of_row wr bM 2 _ _ (0, 0) HA13.out
            have q3 := cell_of_row wr bM 3 _ _ (0, 0) HA13.out
            have q4 := cell_of_row wr bM 4 _ _ (0, 0) HA13.out
            simp at q0 q1 q2 q3 q4
            have HQw := Lib.hid (quickly_walk D a1 n1 c1 a2 n2 c2 a3 n3 c3 a4 n4 c4 wr (HM.out.below HB13.out) HW1.out)
            rw [← HRest.out] at HQw
            go_wp2_with fail
            refine HQw.out.mono ?_
            rintro e w14 ⟨q, rfl, ⟨pm, gC, gR, N, hq⟩, hb⟩
            have HB14 := Lib.hid (HB13.out.trans (hb.mono HB13.out.size))
            have HAl : Hid (Calls Try.prog 15 #[.iface 22 (.pointer (some ⟨p, 0, none⟩)), .iface 53 (.pointer (some ⟨q, 0, none⟩))] w14 fun e w' => e = .returned (.tuple #[.int .i32 0, .bool false]) ∧ Below w14.heap.size w14 w') := Lib.hid (by
              obtain ⟨gc, gb, gt, gm, SC, SB, ST, SM, x1, -⟩ := HT13.out.below hb
              refine (alikeTQ_walk w14 p q _ _ _ _ _ _ _ _ _ _ _ _ (tab_propsT x1 HF.out.fit) (quick_props hq)).mono ?_
              rintro e w' ⟨k, hk, rfl, hb⟩
              obtain ⟨e1, e2, e3, e4⟩ := HE.out
              obtain rfl := hk.unique (.none fun r hr => alike_no HD.out HF.out e1 e2 e3 e4 r (by omega))
              exact ⟨rfl, hb⟩)
            clear hb hq HQw HT13 HA13 q0 q1 q2 q3 q4
            go_wp2_with fail
            refine HAl.out.mono ?_
            rintro e w15 ⟨rfl, hb⟩
            have HB15 := Lib.hid (HB14.out.trans (hb.mono HB14.out.size))
            clear hb HAl
            go_wp2_with fail
            refine (awake_walk w15).mono ?_
            rintro e w16 ⟨rfl, hb⟩
            have HB16 := Lib.hid (HB15.out.trans (hb.mono HB15.out.size))
            clear hb
            go_wp2
            go_ret
            exact ⟨rfl, HB16.out⟩
end Go.Proofs.Ytbmphakfgoompaa
