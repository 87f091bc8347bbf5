/- several texts in one: UE8 UEA UE9 -/
import Derived.Test.YtbmphakfgoompaaGB
import Derived.Test.YtbmphakfgoompaaBase2
import Derived.Test.YtbmphakfgoompaaGK
import Derived.Test.YtbmphakfgoompaaGI
import Derived.Test.YtbmphakfgoompaaGC
import Derived.Test.YtbmphakfgoompaaGF
import Derived.Test.YtbmphakfgoompaaG3
import Derived.Deep.CutRange
import Derived.Deep.CutBlock
import Derived.Deep.RegionHeld3
set_option linter.unusedVariables false
set_option linter.unusedSimpArgs false
/-
  The walk of Classes over what lists make.
-/
namespace Go.Proofs.Ytbmphakfgoompaa
open Go.RowKit

def clsL (D : MadeD) (zs : List Int) : List Int := zs.map (fun z => D.cls (runeR z))
theorem clsL_snoc (D : MadeD) {zs : List Int} {k : Nat} (h : k < zs.length) : clsL D (zs.take (k + 1)) = clsL D (zs.take k) ++ [D.cls (runeR zs[k])] := by
  unfold clsL
  rw [List.take_succ_eq_append_getElem h, List.map_append]
  rfl
def ClR (w : World) (D : MadeD) (zs : List Int) (iv ov : Value) (wr : World) : Prop :=
  ∃ (k : Nat) (a : Option Addr) (c : Nat), k ≤ zs.length ∧ iv = .int .i64 (k : Nat) ∧ ov = .slice a k c ∧ Own w.heap.size 26 wr a k c (ivs .u8 (clsL D (zs.take k))) ∧ Below w.heap.size w wr

set_option maxRecDepth 100000 in
set_option maxHeartbeats 4000000 in
theorem classes_walk (w : World) (pm : Nat) (D : MadeD) (h : MadeAt w pm D) (a : Option Addr) (n c : Nat) (zs : List Int) (hl : zs.length = n) (hn : n ≤ 1048576) (hz : Ints .i32 w a zs) :
    Calls Try.prog 12 #[.iface 43 (.pointer (some ⟨pm, 0, none⟩)), .slice a n c] w fun e w' => Below w.heap.size w w' ∧ ∃ a' c', e = .returned (.slice a' n c') ∧ Own w.heap.size 26 w' a' n c' (ivs .u8 (clsL D zs)) := by
  have HM := Lib.hid (fun (W : World) (hb : Below w.heap.size w W) (r : Int) => mClass_walk W pm D (h.below hb) r)
  have HL := Lib.hid hl
  have HZ := Lib.hid hz
  have HB0 := Lib.hid (Below.refl w.heap.size w)
  clear h hl hz
  go_enter Try.func12, Try.ntmps12
  go_wp2
  go_loopw [12, 5] (ClR w D zs) (fun i _ _ => n - (intOf i).toNat)
  case atStart => exact ⟨0, none, 0, Nat.zero_le _, rfl, rfl, Own.nil _ _ _, HB0.out⟩
  case round =>
    obtain ⟨k, b, d, hk, rfl, rfl, ho, hbel⟩ := hrel
    have HO := Lib.hid ho; have HBe := Lib.hid hbel
    rw [HL.out] at hk
    clear ho hbel
    by_cases hkn : k < n
    · have hki : (k : Int) < (n : Int) := by omega
      have hkl : k < zs.length := by rw [HL.out]; exact hkn
      obtain ⟨g, o, ha⟩ := HZ.out.some (by omega)
      subst ha
      have c1 := (HZ.out.below HBe.out (Nat.le_refl _)).get k hkl
      have HSn := Lib.hid (clsL_snoc D hkl)
      obtain ⟨z, hz⟩ : ∃ z, z = zs[k] := ⟨_, rfl⟩
      rw [← hz] at c1 HSn
      clear hz
      by_cases h1 : 0 ≤ z ∧ z ≤ 1114111
      · have HP := Lib.hid (show decide (0 ≤ z ∧ z ≤ 1114111) = true from decide_eq_true h1)
        clear h1
        go_wp2_with fail
        refine (point_walk z wr).mono ?_
        rintro e w2 ⟨rfl, h2⟩
        subst h2
        rw [HP.out]
        go_wp2_with fail
        refine (HM.out w2 HBe.out z).mono ?_
        rintro e w3 ⟨rfl, hb⟩
        have HB3 := Lib.hid (HBe.out.trans (hb.mono HBe.out.size))
        have HO3 := Lib.hid (HO.out.below hb (Nat.le_refl _))
        clear hb
        go_wp2_with (at_builtin; refine wpList_app1 Try.elemCls rfl (.tmp 19) (.tmp 23) rfl HO3.out HB3.out.size (by omega) (by omega) _ rfl _ rfl rfl ?_)
        intro a9 c9 w9 ho9 hg9
        have HN9 := Lib.hid (show Own w.heap.size 26 w9 a9 (k + 1) c9 (ivs .u8 (clsL D (zs.take (k + 1)))) from by rw [HSn.out, ivs_append]; exact ho9)
        have HB9 := Lib.hid (HB3.out.trans (below_grown hg9 (fun x e => (World.ownsRow.lt HO3.out x e).1) HB3.out.size))
        clear ho9 hg9
        go_wp2
        go_roundw
        case rel => exact ⟨k + 1, a9, c9, by rw [HL.out]; omega, by go_num, rfl, HN9.out, HB9.out⟩
        case measure => simp [intOf]; omega
      · have HP := Lib.hid (show decide (0 ≤ z ∧ z ≤ 1114111) = false from decide_eq_false h1)
        have HRz : Hid (runeR 65533 = runeR z) := Lib.hid (by
          unfold runeR
          rw [if_pos (show z < 0 ∨ 1114111 < z by omega), if_neg (by omega)]
          rfl)
        clear h1
        go_wp2_with fail
        refine (point_walk z wr).mono ?_
        rintro e w2 ⟨rfl, h2⟩
        subst h2
        rw [HP.out]
        go_wp2_with fail
        refine (HM.out w2 HBe.out 65533).mono ?_
        rintro e w3 ⟨rfl, hb⟩
        have HB3 := Lib.hid (HBe.out.trans (hb.mono HBe.out.size))
        have HO3 := Lib.hid (HO.out.below hb (Nat.le_refl _))
        clear hb
        go_wp2_with (at_builtin; refine wpList_app1 Try.elemCls rfl (.tmp 19) (.tmp 23) rfl HO3.out HB3.out.size (by omega) (by omega) _ rfl _ rfl rfl ?_)
        intro a9 c9 w9 ho9 hg9
        have HN9 := Lib.hid (show Own w.heap.size 26 w9 a9 (k + 1) c9 (ivs .u8 (clsL D (zs.take (k + 1)))) from by rw [HSn.out, ivs_append, ← HRz.out]; exact ho9)
        have HB9 := Lib.hid (HB3.out.trans (below_grown hg9 (fun x e => (World.ownsRow.lt HO3.out x e).1) HB3.out.size))
        clear ho9 hg9
        go_wp2
        go_roundw
        case rel => exact ⟨k + 1, a9, c9, by rw [HL.out]; omega, by go_num, rfl, HN9.out, HB9.out⟩
        case measure => simp [intOf]; omega
    · obtain rfl : k = n := by omega
      have hki : ¬ (k : Int) < (k : Int) := by omega
      have HF : Hid (Own w.heap.size 26 wr b k d (ivs .u8 (clsL D zs))) := Lib.hid (by have := HO.out; rw [← HL.out, List.take_length, HL.out] at this; exact this)
      go_wp2
      go_ret
      exact ⟨HBe.out, b, d, rfl, HF.out⟩
end Go.Proofs.Ytbmphakfgoompaa

/-
  Where two props are unlike is where their functions differ: plain laws.
-/
namespace Go.Proofs.Ytbmphakfgoompaa
open Go.RowKit

theorem bne_iff {a b c d : Int} (h : a = b ↔ c = d) : (a != b) = (c != d) := by
  by_cases e : a = b
  · rw [e, h.1 e]; simp
  · have : ¬ c = d := fun e2 => e (h.2 e2)
    rw [bne_iff_ne.2 e, bne_iff_ne.2 this]
theorem fvC_inj {c1 c2 : Int} (h1 : fvC c1 ≠ nv) (h2 : fvC c2 ≠ nv) : c1 = c2 ↔ fvC c1 = fvC c2 := by
  unfold fvC at h1 h2 ⊢
  by_cases e1 : c1 < 1 ∨ 23 < c1
  · rw [if_pos e1] at h1; exact absurd rfl h1
  · by_cases e2 : c2 < 1 ∨ 23 < c2
    · rw [if_pos e2] at h2; exact absurd rfl h2
    · rw [if_neg e1, if_neg e2]
theorem fvT_inj {t1 t2 : Int} {r : Nat} (h1 : fvT t1 r ≠ nv) (h2 : fvT t2 r ≠ nv) : t1 = t2 ↔ fvT t1 r = fvT t2 r := by
  unfold fvT pointB at *
  by_cases e1 : t1 = (r : Nat)
  · by_cases e2 : t2 = (r : Nat)
    · simp [e1, e2]
    · by_cases p2 : 0 ≤ t2 ∧ t2 ≤ 1114111
      · rw [if_pos e1, if_neg e2, if_neg (by simp [p2])]
        omega
      · rw [if_neg e2, if_pos (by simp; omega)] at h2
        exact absurd rfl h2
  · by_cases p1 : 0 ≤ t1 ∧ t1 ≤ 1114111
    · by_cases e2 : t2 = (r : Nat)
      · rw [if_neg e1, if_pos e2, if_neg (by simp [p1])]
        omega
      · by_cases p2 : 0 ≤ t2 ∧ t2 ≤ 1114111
        · rw [if_neg e1, if_neg e2, if_neg (by simp [p1]), if_neg (by simp [p2])]
          omega
        · rw [if_neg e2, if_pos (by simp; omega)] at h2
          exact absurd rfl h2
    · rw [if_neg e1, if_pos (by simp; omega)] at h1
      exact absurd rfl h1
theorem fvM_like {m1 m2 : Int} {h1 h2 : Bool} (g1 : fvM m1 h1 ≠ nv) (g2 : fvM m2 h2 ≠ nv) : ((h1 != h2) || (h1 && (m1 != m2))) = (fvM m1 h1 != fvM m2 h2) := by
  unfold fvM pointB at *
  cases h1 <;> cases h2
  · simp
  · by_cases p2 : 0 ≤ m2 ∧ m2 ≤ 1114111
    · rw [if_pos rfl, if_neg (by simp [p2])] at g2 ⊢
      simp; omega
    · rw [if_pos rfl, if_pos (by simp; omega)] at g2
      exact absurd rfl g2
  · by_cases p1 : 0 ≤ m1 ∧ m1 ≤ 1114111
    · rw [if_pos rfl, if_neg (by simp [p1])] at g1 ⊢
      simp; omega
    · rw [if_pos rfl, if_pos (by simp; omega)] at g1
      exact absurd rfl g1
  · by_cases p1 : 0 ≤ m1 ∧ m1 ≤ 1114111
    · by_cases p2 : 0 ≤ m2 ∧ m2 ≤ 1114111
      · rw [if_pos rfl, if_pos rfl, if_neg (by simp [p1]), if_neg (by simp [p2])]
        rw [show (true != true) = false from rfl, Bool.false_or, Bool.true_and]
        exact bne_iff (by omega)
      · rw [if_pos rfl, if_pos (by simp; omega)] at g2
        exact absurd rfl g2
    · rw [if_pos rfl, if_pos (by simp; omega)] at g1
      exact absurd rfl g1
theorem fvB_good {o s : Int} (hs : 0 ≤ s) (h : fvB o s ≠ nv) : s = 0 ∧ fvB o s = 0 ∨ s = 1 ∧ (0 ≤ o ∧ o ≤ 1114111) ∧ fvB o s = o + 1 ∨ s = 2 ∧ (0 ≤ o ∧ o ≤ 1114111) ∧ fvB o s = -o - 1 := by
  unfold fvB pointB at *
  by_cases p : 0 ≤ o ∧ o ≤ 1114111
  · rw [decide_eq_true p] at *
    by_cases e : 2 < s
    · rw [if_pos (.inl e)] at h; exact absurd rfl h
    · rw [if_neg (by simp; omega)] at h ⊢
      have hc : s = 0 ∨ s = 1 ∨ s = 2 := by omega
      rcases hc with rfl | rfl | rfl
      · exact .inl ⟨rfl, rfl⟩
      · exact .inr (.inl ⟨rfl, p, rfl⟩)
      · exact .inr (.inr ⟨rfl, p, rfl⟩)
  · rw [decide_eq_false p] at *
    by_cases e : s = 0
    · subst e; exact .inl ⟨rfl, rfl⟩
    · rw [if_pos (.inr ⟨e, rfl⟩)] at h; exact absurd rfl h
theorem fvB_like {o1 s1 o2 s2 : Int} (hs1 : 0 ≤ s1) (hs2 : 0 ≤ s2) (g1 : fvB o1 s1 ≠ nv) (g2 : fvB o2 s2 ≠ nv) : ((s1 != s2) || (s1 != 0 && (o1 != o2))) = (fvB o1 s1 != fvB o2 s2) := by
  rcases fvB_good hs1 g1 with ⟨rfl, e1⟩ | ⟨rfl, p1, e1⟩ | ⟨rfl, p1, e1⟩ <;> rcases fvB_good hs2 g2 with ⟨rfl, e2⟩ | ⟨rfl, p2, e2⟩ | ⟨rfl, p2, e2⟩ <;> rw [e1, e2]
  · rfl
  · have : (0 : Int) ≠ o2 + 1 := by omega
    simp [this]
  · have : (0 : Int) ≠ -o2 - 1 := by omega
    simp [this]
  · have : o1 + 1 ≠ (0 : Int) := by omega
    simp [this]
  · rw [show ((1 : Int) != 1) = false from rfl, show ((1 : Int) != 0) = true from rfl, Bool.false_or, Bool.true_and]
    exact bne_iff (by omega)
  · have : o1 + 1 ≠ -o2 - 1 := by omega
    simp [this]
  · have : -o1 - 1 ≠ (0 : Int) := by omega
    simp [this]
  · have : -o1 - 1 ≠ o2 + 1 := by omega
    simp [this]
  · rw [show ((2 : Int) != 2) = false from rfl, show ((2 : Int) != 0) = true from rfl, Bool.false_or, Bool.true_and]
    exact bne_iff (by omega)
theorem badK_ne {D : MadeD} {r : Nat} (h : badK D r = false) : fvs D 0 r ≠ nv ∧ fvs D 1 r ≠ nv ∧ fvs D 2 r ≠ nv ∧ fvs D 3 r ≠ nv := by
  simp only [badK, Bool.or_eq_false_iff, beq_eq_false_iff_ne] at h
  exact ⟨h.1.1, h.1.2, h.2.1, h.2.2⟩
theorem unlike_any {D1 D2 : MadeD} {r : Nat} (h1 : badK D1 r = false) (h2 : badK D2 r = false) (s1 : 0 ≤ D1.side r) (s2 : 0 ≤ D2.side r) :
    unlike (D1.cls r) (D1.twin r) (D1.oth r) (D1.side r) (D1.mir r) (D1.has r) (D2.cls r) (D2.twin r) (D2.oth r) (D2.side r) (D2.mir r) (D2.has r) = anyD (fvs D1) (fvs D2) 4 r := by
  obtain ⟨a0, a1, a2, a3⟩ := badK_ne h1
  obtain ⟨b0, b1, b2, b3⟩ := badK_ne h2
  have e0 : (D1.cls r != D2.cls r) = (fvs D1 0 r != fvs D2 0 r) := bne_iff (fvC_inj a0 b0)
  have e1 := fvB_like s1 s2 a1 b1
  have e2 : (D1.twin r != D2.twin r) = (fvs D1 2 r != fvs D2 2 r) := bne_iff (fvT_inj a2 b2)
  have e3 := fvM_like a3 b3
  unfold unlike
  rw [e0, e2, e1, e3]
  show _ = ((((false || fvs D1 0 r != fvs D2 0 r) || fvs D1 1 r != fvs D2 1 r) || fvs D1 2 r != fvs D2 2 r) || fvs D1 3 r != fvs D2 3 r)
  rw [show fvB (D1.oth r) (D1.side r) = fvs D1 1 r from rfl, show fvB (D2.oth r) (D2.side r) = fvs D2 1 r from rfl, show fvM (D1.mir r) (D1.has r) = fvs D1 3 r from rfl, show fvM (D2.mir r) (D2.has r) = fvs D2 3 r from rfl]
  cases (fvs D1 0 r != fvs D2 0 r) <;> cases (fvs D1 1 r != fvs D2 1 r) <;> cases (fvs D1 2 r != fvs D2 2 r) <;> cases (fvs D1 3 r != fvs D2 3 r) <;> rfl
theorem MadeRw.wf {w : World} {D : MadeD} {a1 : Option Addr} {n1 c1 : Nat} {a2 : Option Addr} {n2 c2 : Nat} {a3 : Option Addr} {n3 c3 : Nat} {a4 : Option Addr} {n4 c4 : Nat} (h : MadeRw w D a1 n1 c1 a2 n2 c2 a3 n3 c3 a4 n4 c4) : MadeWf D :=
  ⟨h.r, h.w1, h.w2, h.w3, h.w4⟩
theorem edgeL_len {D : MadeD} (h1 : D.l1.length ≤ 20) (h2 : D.l2.length ≤ 20) (h3 : D.l3.length ≤ 20) (h4 : D.l4.length ≤ 20) : (edgeL D).length ≤ 1048576 := by
  unfold edgeL
  simp only [List.length_append, edgeS_len, edgeB_len, edgeT_len, List.length_cons, List.length_nil]
  omega
end Go.Proofs.Ytbmphakfgoompaa

/-
  The walk of TablesAsk.
-/
namespace Go.Proofs.Ytbmphakfgoompaa
open Go.RowKit

theorem two_valsA (w : World) (u v : Value) (E : TypeId) : Vals (w.alloc (.cells #[u, v] E)) (some ⟨w.heap.size, 0, none⟩) [u, v] := by
  intro i hi
  have hc : i = 0 ∨ i = 1 := by simp at hi; omega
  rcases hc with rfl | rfl
  · exact ⟨w.heap.size, 0, rfl, cell_of_row (w.alloc (.cells #[u, v] E)) w.heap.size 0 #[u, v] E (0, 0) (heap_alloc_new w _)⟩
  · exact ⟨w.heap.size, 0, rfl, cell_of_row (w.alloc (.cells #[u, v] E)) w.heap.size 1 #[u, v] E (0, 0) (heap_alloc_new w _)⟩
theorem exec_call2 {P : Program} {o : Oper} {a : Act} {w : World} (f : FuncId) (x y : Operand) (ts : Array TypeId) (ho : o.op = .call { callee := .value (.func f), args := #[x, y], argTypes := ts }) (u v : Value) (hu : a.eval x = u) (hv : a.eval y = v) (eg : ∀ args W, (callFunc f args).run P W = .ok (.enter f args) W) :
    (execOp a.eval o).run P w = .ok (.enter f #[u, v]) w := by
  subst hu hv
  unfold execOp
  simp only [ho]
  simp [resolve, invoke, go_sem, eg, Act.eval]
/-- the classes, the first ones spoilt -/
def spoilt (D : MadeD) (zs : List Int) (i : Nat) : List Int := List.replicate i 99 ++ (clsL D zs).drop i
theorem clsL_len (D : MadeD) (zs : List Int) : (clsL D zs).length = zs.length := by simp [clsL]
theorem spoilt_len (D : MadeD) (zs : List Int) {i : Nat} (h : i ≤ zs.length) : (spoilt D zs i).length = zs.length := by simp [spoilt, clsL_len]; omega
theorem spoilt_get (D : MadeD) (zs : List Int) {i : Nat} (h : i < zs.length) : (spoilt D zs i)[i]? = some (D.cls (runeR zs[i])) := by
  unfold spoilt
  rw [List.getElem?_append_right (by simp), List.length_replicate, Nat.sub_self, List.getElem?_drop, Nat.add_zero]
  simp [clsL, h]
theorem spoilt_set (D : MadeD) (zs : List Int) {i : Nat} (h : i < zs.length) : (spoilt D zs i).set i 99 = spoilt D zs (i + 1) := by
  have hl : i < (clsL D zs).length := by rw [clsL_len]; exact h
  unfold spoilt
  rw [List.set_append_right _ _ (by simp), List.length_replicate, Nat.sub_self, List.drop_eq_getElem_cons hl, List.set_cons_zero, List.replicate_succ', List.append_assoc]
  rfl
structure AskX (w5 : World) (B2 : Nat) (D : MadeD) (zs : List Int) (ax : Option Addr) (n cx : Nat) (ay : Option Addr) (cy : Nat) (i : Nat) (wr : World) : Prop where
  x : Own w5.heap.size 26 wr ax n cx (ivs .u8 (spoilt D zs i))
  y : Own B2 26 wr ay n cy (ivs .u8 (clsL D zs))
  bel : Below w5.heap.size w5 wr
  xlt : ∀ g, (Value.slice ax n cx).ownBlock = some g → g < B2
theorem AskX.next {w5 : World} {B2 : Nat} {D : MadeD} {zs : List Int} {ax : Option Addr} {n cx : Nat} {ay : Option Addr} {cy i : Nat} {wr w' : World} (h : AskX w5 B2 D zs ax n cx ay cy i wr) (hb : Below wr.heap.size wr w') : AskX w5 B2 D zs ax n cx ay cy i w' :=
  ⟨h.x.below hb (Nat.le_refl _), h.y.below hb (Nat.le_refl _), h.bel.trans (hb.mono h.bel.size), h.xlt⟩
theorem AskX.store {w5 : World} {B2 : Nat} {D : MadeD} {zs : List Int} {gx n cx : Nat} {ay : Option Addr} {cy i : Nat} {wr : World} (h : AskX w5 B2 D zs (some ⟨gx, 0, none⟩) n cx ay cy i wr) (hi : i < zs.length) : AskX w5 B2 D zs (some ⟨gx, 0, none⟩) n cx ay cy (i + 1) (wr.setCell ⟨gx, i, none⟩ (.int .u8 99)) := by
  have hlt := h.xlt gx rfl
  have hlo := (World.ownsRow.lt h.x gx rfl).1
  refine ⟨?_, h.y.grown (grown_store wr gx i _) (h.y.blockAt hlt), h.bel.setCell (p := ⟨gx, i, none⟩) hlo _, h.xlt⟩
  have := h.x.store i (.int .u8 99)
  rw [ivs_set, spoilt_set D zs hi] at this
  exact this
def AskM (w5 : World) (B2 : Nat) (D : MadeD) (zs : List Int) (n : Nat) (ay : Option Addr) (cy : Nat) (iv xv : Value) (wr : World) : Prop :=
  ∃ (k : Nat) (a : Option Addr) (c : Nat) (L : List Int), k ≤ 40 ∧ iv = .int .i64 (k : Nat) ∧ xv = .slice a (n + k) c ∧ Own w5.heap.size 26 wr a (n + k) c (ivs .u8 L) ∧ ApE (.slice ay n cy) (.slice a (n + k) c) ∧ Own B2 26 wr ay n cy (ivs .u8 (clsL D zs)) ∧ Below w5.heap.size w5 wr
def AskS (w10 : World) (n : Nat) (iv : Value) (wr : World) : Prop := ∃ k : Nat, k ≤ n ∧ iv = .int .i64 (k : Nat) ∧ Below w10.heap.size w10 wr
def AskL (w5 : World) (B2 : Nat) (D : MadeD) (zs : List Int) (ax : Option Addr) (n cx : Nat) (ay : Option Addr) (cy : Nat) (iv : Value) (wr : World) : Prop :=
  ∃ i : Nat, i ≤ n ∧ iv = .int .i64 (i : Nat) ∧ AskX w5 B2 D zs ax n cx ay cy i wr

set_option maxRecDepth 100000 in
set_option maxHeartbeats 16000000 in
theorem tablesAsk_walk (D1 : MadeD) (a1 : Option Addr) (n1 c1 : Nat) (a2 : Option Addr) (n2 c2 : Nat) (a3 : Option Addr) (n3 c3 : Nat) (a4 : Option Addr) (n4 c4 : Nat) (D2 : MadeD) (e1 : Option Addr) (m1 f1 : Nat) (e2 : Option Addr) (m2 f2 : Nat) (e3 : Option Addr) (m3 f3 : Nat) (e4 : Option Addr) (m4 f4 : Nat)
    (a : Option Addr) (n c : Nat) (zs : List Int) (w : World) (hm : MadeRw w D1 a1 n1 c1 a2 n2 c2 a3 n3 c3 a4 n4 c4) (hm2 : MadeRw w D2 e1 m1 f1 e2 m2 f2 e3 m3 f3 e4 m4 f4)
    (hz : Ints .i32 w a zs) (hn : zs.length = n) (hzb : ∀ z ∈ zs, wf32 z) (hnb : n ≤ 1048576) (hnone : a = none → c = 0) :
    Calls Try.prog 4 #[.agg #[.int .u8 D1.rest, .slice a1 n1 c1, .slice a2 n2 c2, .slice a3 n3 c3, .slice a4 n4 c4], .agg #[.int .u8 D2.rest, .slice e1 m1 f1, .slice e2 m2 f2, .slice e3 m3 f3, .slice e4 m4 f4], .slice a n c] w fun e w' => e = .returned (.bool true) ∧ Below w.heap.size w w' := by
  have HM1 := Lib.hid hm
  have HM2 := Lib.hid hm2
  have HZ := Lib.hid hz
  have HNn := Lib.hid hn
  have HNone := Lib.hid hnone
  clear hm hm2 hz hn hzb hnone
  obtain ⟨r1, hr1⟩ : ∃ x, x = D1.rest := ⟨_, rfl⟩
  obtain ⟨r2, hr2⟩ : ∃ x, x = D2.rest := ⟨_, rfl⟩
  rw [← hr1, ← hr2]
  have HR1 := Lib.hid hr1; have HR2 := Lib.hid hr2
  clear hr1 hr2
  have HA1 := Lib.hid (heap_alloc_new w (.cells #[.int .u8 r1, .slice a1 n1 c1, .slice a2 n2 c2, .slice a3 n3 c3, .slice a4 n4 c4] 38))
  have HB1 := Lib.hid ((Below.refl _ w).alloc (Nat.le_refl _) (.cells #[.int .u8 r1, .slice a1 n1 c1, .slice a2 n2 c2, .slice a3 n3 c3, .slice a4 n4 c4] 38))
  have HZ1 := Lib.hid (World.size_alloc w (.cells #[.int .u8 r1, .slice a1 n1 c1, .slice a2 n2 c2, .slice a3 n3 c3, .slice a4 n4 c4] 38))
  go_enter Try.func4, Try.ntmps4
  go_upto_region 1 with (fail)
  generalize w.alloc (.cells #[.int .u8 r1, .slice a1 n1 c1, .slice a2 n2 c2, .slice a3 n3 c3, .slice a4 n4 c4] 38) = w1 at *
  have HA2 := Lib.hid (heap_alloc_new w1 (.cells #[.int .u8 r2, .slice e1 m1 f1, .slice e2 m2 f2, .slice e3 m3 f3, .slice e4 m4 f4] 38))
  have HB2 := Lib.hid ((Below.refl _ w1).alloc (Nat.le_refl _) (.cells #[.int .u8 r2, .slice e1 m1 f1, .slice e2 m2 f2, .slice e3 m3 f3, .slice e4 m4 f4] 38))
  obtain ⟨p1, hp1⟩ : ∃ p1, p1 = w.heap.size := ⟨_, rfl⟩
  rw [← hp1] at HA1 HZ1 ⊢
  rw [HZ1.out] at HA2
  have HB3 : Hid (Below w.heap.size w (w1.alloc (.cells #[.int .u8 r2, .slice e1 m1 f1, .slice e2 m2 f2, .slice e3 m3 f3, .slice e4 m4 f4] 38))) := Lib.hid (HB1.out.trans (HB2.out.mono HB1.out.size))
  have HA3 := Lib.hid ((HB2.out.block p1 (by rw [HZ1.out]; omega)).trans HA1.out)
  generalize w1.alloc (.cells #[.int .u8 r2, .slice e1 m1 f1, .slice e2 m2 f2, .slice e3 m3 f3, .slice e4 m4 f4] 38) = w2 at *
  obtain ⟨p2, hp2⟩ : ∃ p2, p2 = p1 + 1 := ⟨_, rfl⟩
  rw [← hp2] at HA2 ⊢
  clear hp1 hp2 HB1 HB2 HA1 HZ1
  have HAA := Lib.hid (And.intro HA3.out HA2.out)
  clear HA3 HA2
  have q0 := cell_of_row w2 p1 0 _ _ (0, 0) HAA.out.1
  have q1 := cell_of_row w2 p1 1 _ _ (0, 0) HAA.out.1
  have q2 := cell_of_row w2 p1 2 _ _ (0, 0) HAA.out.1
  have q3 := cell_of_row w2 p1 3 _ _ (0, 0) HAA.out.1
  have q4 := cell_of_row w2 p1 4 _ _ (0, 0) HAA.out.1
  simp at q0 q1 q2 q3 q4
  have HKA := Lib.hid (fun (W W' : World) (hb : Below W.heap.size W W') (h : W.heap[p1]? = some (.cells #[.int .u8 r1, .slice a1 n1 c1, .slice a2 n2 c2, .slice a3 n3 c3, .slice a4 n4 c4] 38 (0, 0)) ∧ W.heap[p2]? = some (.cells #[.int .u8 r2, .slice e1 m1 f1, .slice e2 m2 f2, .slice e3 m3 f3, .slice e4 m4 f4] 38 (0, 0))) =>
    And.intro ((hb.block p1 (Array.getElem?_eq_some_iff.1 h.1).1).trans h.1) ((hb.block p2 (Array.getElem?_eq_some_iff.1 h.2).1).trans h.2))
  obtain ⟨fa, hfa⟩ : ∃ fb, fb = decide (n1 ≤ 20 ∧ n2 ≤ 20 ∧ n3 ≤ 20 ∧ n4 ≤ 20) := ⟨_, rfl⟩
  obtain ⟨fb, hfb⟩ : ∃ fb, fb = decide (m1 ≤ 20 ∧ m2 ≤ 20 ∧ m3 ≤ 20 ∧ m4 ≤ 20) := ⟨_, rfl⟩
  have HFa := Lib.hid (fit_walk w2 fa r1 a1 n1 c1 a2 n2 c2 a3 n3 c3 a4 n4 c4 hfa)
  have HFb := Lib.hid (fun W => fit_walk W fb r2 e1 m1 f1 e2 m2 f2 e3 m3 f3 e4 m4 f4 hfb)
  have HFae := Lib.hid hfa; have HFbe := Lib.hid hfb
  clear hfa hfb
  go_wp2_with fail
  refine HFa.out.mono ?_
  rintro e w3 ⟨rfl, hb⟩
  have HB4 := Lib.hid (HB3.out.trans (hb.mono HB3.out.size))
  have HAB := Lib.hid (HKA.out _ _ hb HAA.out)
  clear hb q0 q1 q2 q3 q4 HAA HB3 HFa
  cases fa
  · go_wp2_with fail
    refine (awake_walk w3).mono ?_
    rintro e w9 ⟨rfl, hb⟩
    have HB9 := Lib.hid (HB4.out.trans (hb.mono HB4.out.size))
    clear hb
    go_wp2
    go_ret
    exact ⟨rfl, HB9.out⟩
  have q0 := cell_of_row w3 p2 0 _ _ (0, 0) HAB.out.2
  have q1 := cell_of_row w3 p2 1 _ _ (0, 0) HAB.out.2
  have q2 := cell_of_row w3 p2 2 _ _ (0, 0) HAB.out.2
  have q3 := cell_of_row w3 p2 3 _ _ (0, 0) HAB.out.2
  have q4 := cell_of_row w3 p2 4 _ _ (0, 0) HAB.out.2
  simp at q0 q1 q2 q3 q4
  go_wp2_with fail
  refine (HFb.out w3).mono ?_
  rintro e w4 ⟨rfl, hb⟩
  have HB5 := Lib.hid (HB4.out.trans (hb.mono HB4.out.size))
  have HAC := Lib.hid (HKA.out _ _ hb HAB.out)
  clear hb q0 q1 q2 q3 q4 HAB HB4 HFb
  cases fb
  · go_wp2_with fail
    refine (awake_walk w4).mono ?_
    rintro e w9 ⟨rfl, hb⟩
    have HB9 := Lib.hid (HB5.out.trans (hb.mono HB5.out.size))
    clear hb
    go_wp2
    go_ret
    exact ⟨rfl, HB9.out⟩
  have h1 := of_decide_eq_true HFae.out.symm
  have h2 := of_decide_eq_true HFbe.out.symm
  have HS1 := Lib.hid (HM1.out.sl (by omega) (by omega) (by omega) (by omega))
  have HS2 := Lib.hid (HM2.out.sl (by omega) (by omega) (by omega) (by omega))
  have HW1 := Lib.hid HM1.out.wf
  have HW2 := Lib.hid HM2.out.wf
  have HE1 := Lib.hid (edgeL_len (D := D1) (by have := HM1.out.h1; omega) (by have := HM1.out.h2; omega) (by have := HM1.out.h3; omega) (by have := HM1.out.h4; omega))
  have HE2 := Lib.hid (edgeL_len (D := D2) (by have := HM2.out.h1; omega) (by have := HM2.out.h2; omega) (by have := HM2.out.h3; omega) (by have := HM2.out.h4; omega))
  clear h1 h2 HFae HFbe HM1 HM2
  have HMA1 := Lib.hid (fun (W : World) (hb : Below w.heap.size w W) (h : W.heap[p1]? = some (.cells #[.int .u8 r1, .slice a1 n1 c1, .slice a2 n2 c2, .slice a3 n3 c3, .slice a4 n4 c4] 38 (0, 0))) => (show MadeAt W p1 D1 from ⟨a1, n1, c1, a2, n2, c2, a3, n3, c3, a4, n4, c4, by rw [← HR1.out]; exact h, HS1.out.below hb⟩))
  have HMA2 := Lib.hid (fun (W : World) (hb : Below w.heap.size w W) (h : W.heap[p2]? = some (.cells #[.int .u8 r2, .slice e1 m1 f1, .slice e2 m2 f2, .slice e3 m3 f3, .slice e4 m4 f4] 38 (0, 0))) => (show MadeAt W p2 D2 from ⟨e1, m1, f1, e2, m2, f2, e3, m3, f3, e4, m4, f4, by rw [← HR2.out]; exact h, HS2.out.below hb⟩))
  go_wp2_with (at_builtin; refine wpList_appS Try.elemRun rfl (.const (.slice none 0 0)) (.tmp 30) rfl (Own.nil w4.heap.size _ w4) (Nat.le_refl _) (by rw [ivs_length]; exact HNn.out) (HZ.out.below HB5.out (Nat.le_refl _)).vals HNone.out (ivs_one _ _) (by omega) (by unfold maxLen; omega) rfl rfl ?_)
  intro a5 c5 w5 ho5 hg5 _
  have hb5 : Below w4.heap.size w4 w5 := below_grown hg5 (fun k e => by cases e) (Nat.le_refl _)
  have HO5 : Hid (Own w4.heap.size 21 w5 a5 n c5 (ivs .i32 zs)) := Lib.hid (by simpa using ho5)
  have HL5 := Lib.hid hb5
  clear ho5 hg5 hb5
  have hsz5 : w4.heap.size ≤ w5.heap.size := HL5.out.size
  go_wp2_with (at_builtin; refine wpList_appS Try.elemRun rfl (.tmp 31) (.tmp 32) rfl (World.ownsRow.alloc HO5.out _) (by simp; omega) (ys := [.int .i32 (-7), .int .i32 (-8)]) rfl (two_valsA w5 _ _ _) (by simp) (by intro u hu; simp at hu; rcases hu with rfl | rfl <;> rfl) (by simp; omega) (by unfold maxLen; simp; omega) rfl rfl ?_)
  intro aF cF w6 ho6 hg6 _
  have HB6 : Hid (Below w4.heap.size w4 w6) := Lib.hid (HL5.out.trans (((((Below.refl _ w5).alloc (Nat.le_refl _) _).mono hsz5)).trans (below_grown hg6 (fun x e => (World.ownsRow.lt HO5.out x e).1) (by simp; omega))))
  have HF6 : Hid (Own w4.heap.size 21 w6 aF (n + 2) cF (ivs .i32 (zs ++ [-7, -8]))) := Lib.hid (by rw [ivs_append]; exact ho6)
  clear ho6 hg6 HL5 hsz5 HO5
  obtain ⟨gF, egF, -⟩ := HF6.out.at (by omega)
  subst egF
  have HB7 := Lib.hid (HB5.out.trans (HB6.out.mono HB5.out.size))
  have HAD := Lib.hid (HKA.out _ _ HB6.out HAC.out)
  clear HAC HB5 HB6
  have hcF := HF6.out.cap
  have HIf : Hid (Ints .i32 w6 (some ⟨gF, 0, none⟩) zs) := Lib.hid (by
    have h := HF6.out.take n (by omega)
    rw [ivs_take, List.take_append_of_le_length (by rw [HNn.out]; exact Nat.le_refl _), ← HNn.out, List.take_length] at h
    exact h.ints)
  have HC1 := Lib.hid (classes_walk w6 p1 D1 (HMA1.out _ HB7.out HAD.out.1) (some ⟨gF, 0, none⟩) n cF zs HNn.out hnb HIf.out)
  obtain ⟨N2, hN2⟩ : ∃ N2, N2 = n + 2 := ⟨_, rfl⟩
  have hnN : (n : Int) ≤ (N2 : Int) := by omega
  have hnN2 : n ≤ cF := by omega
  have hN2c : N2 ≤ cF := by omega
  go_wp2_with fail
  refine HC1.out.mono ?_
  rintro e w7 ⟨hb, ax, cx, rfl, hx⟩
  have HB8 := Lib.hid (HB7.out.trans (hb.mono HB7.out.size))
  have HX7 := Lib.hid hx
  have HL7 := Lib.hid hb
  have HAE := Lib.hid (HKA.out _ _ hb HAD.out)
  clear hb hx HC1 hnN hnN2 hN2c hN2 N2
  have HC2 := Lib.hid (classes_walk w7 p1 D1 (HMA1.out _ HB8.out HAE.out.1) a n c zs HNn.out hnb (HZ.out.below HB8.out (Nat.le_refl _)))
  go_wp2_with fail
  refine HC2.out.mono ?_
  rintro e w8 ⟨hb, ay, cy, rfl, hy⟩
  have HB9 := Lib.hid (HB8.out.trans (hb.mono HB8.out.size))
  have HX : Hid (AskX w6 w7.heap.size D1 zs ax n cx ay cy 0 w8) := Lib.hid ⟨by rw [show spoilt D1 zs 0 = clsL D1 zs by simp [spoilt]]; exact HX7.out.below hb (Nat.le_refl _), hy, HL7.out.trans (hb.mono HL7.out.size), fun g e => (World.ownsRow.lt HX7.out g e).2⟩
  clear hb hy HC2 HX7 HL7 HAE HB8 HB9
  have HFl := Lib.hid (fun (W : World) (hb : Below w6.heap.size w6 W) (j : Nat) (hj : j < n + 2) => (show W.cell? ⟨gF, j, none⟩ = some (.int .i32 ((zs ++ [-7, -8]).getD j 0)) from by
    have hl : j < (ivs .i32 (zs ++ [-7, -8])).length := by rw [ivs_length, List.length_append, HNn.out]; exact hj
    rw [(HF6.out.below hb (Nat.le_refl _)).cell j hl]
    have h3 : j < (zs ++ [-7, -8]).length := by rw [ivs_length] at hl; exact hl
    simp only [ivs, List.getElem_map, List.getD_eq_getElem?_getD, List.getElem?_eq_getElem h3, Option.getD_some]))
  have hfn := HFl.out w8 HX.out.bel n (by omega)
  have hfm := HFl.out w8 HX.out.bel (n + 1) (by omega)
  have e7 : (zs ++ [-7, -8] : List Int).getD n (0 : Int) = (-7 : Int) := by rw [← HNn.out]; simp
  have e8 : (zs ++ [-7, -8] : List Int).getD (n + 1) (0 : Int) = (-8 : Int) := by rw [← HNn.out]; simp
  rw [e7] at hfn
  rw [e8] at hfm
  clear e7 e8
  have hnn : ((n : Int) != (n : Int)) = false := by simp
  have h78 : ((-7 : Int) != -7) = false ∧ ((-8 : Int) != -8) = false := ⟨rfl, rfl⟩
  clear hcF
  go_wp2
  go_loopw [10] (AskL w6 w7.heap.size D1 zs ax n cx ay cy) (fun i _ => n - (intOf i).toNat)
  case atStart => exact ⟨0, Nat.zero_le _, rfl, HX.out⟩
  case round =>
    clear HX hfn hfm h78
    obtain ⟨i, hi, rfl, hX⟩ := hrel
    have HX := Lib.hid hX
    clear hX
    by_cases hin : i < n
    · have hii : (i : Int) < (n : Int) := by omega
      have hil : i < zs.length := by rw [HNn.out]; exact hin
      obtain ⟨gx, egx, -⟩ := HX.out.x.at (by omega)
      subst egx
      obtain ⟨bz, oz, ez⟩ := HZ.out.some (by omega)
      subst ez
      have hbw := HB7.out.trans (HX.out.bel.mono HB7.out.size)
      have hcz := (HZ.out.below hbw (Nat.le_refl _)).get i hil
      have hcf := HFl.out wr HX.out.bel i (by omega)
      have e9 : (zs ++ [-7, -8] : List Int).getD i (0 : Int) = zs[i] := by rw [List.getD_eq_getElem?_getD, List.getElem?_append_left hil, List.getElem?_eq_getElem hil]; rfl
      rw [e9] at hcf
      clear e9
      have hl2 : i < (ivs .u8 (spoilt D1 zs i)).length := by rw [ivs_length, spoilt_len D1 zs (by omega)]; exact hil
      have hcx : wr.cell? ⟨gx, i, none⟩ = some (.int .u8 (D1.cls (runeR zs[i]))) := by
        rw [HX.out.x.cell i hl2]
        have h3 : i < (spoilt D1 zs i).length := by rw [ivs_length] at hl2; exact hl2
        have := spoilt_get D1 zs hil
        rw [List.getElem?_eq_getElem h3] at this
        simp only [ivs, List.getElem_map, Option.some.inj this]
      have HMA := Lib.hid (HMA1.out _ hbw (HKA.out _ _ HX.out.bel HAD.out).1)
      have HP := Lib.hid (fun q : Regrown => Go.Calls.regrown_of (mClass_walk (Go.Sort.grow (redrawn wr q.d) q.os) p1 D1 (HMA.out.below (below_regrown wr q.d q.os)) zs[i]))
      obtain ⟨z, hz⟩ : ∃ z, z = zs[i] := ⟨_, rfl⟩
      rw [← hz] at hcz hcf hcx HP
      generalize D1.cls (runeR z) = cv at *
      have gx0 := fun d os => cell_regrown hcx d os
      have gz0 := fun d os => cell_regrown hcz d os
      have gf0 := fun d os => cell_regrown hcf d os
      have hcv : (cv != cv) = false := by simp
      have hzz : (z != z) = false := by simp
      clear hcx hcz hcf hbw HMA hz hl2
      go_upto_region 10 with (fail)
      refine wp_region_quiet_below (by kernel_rfl) (by kernel_rfl) ?_
      iterate 8 (go_big_quiet_step (fail))
      go_big_quiet_step (exact HP.out _)
      iterate 12 (go_big_quiet_step (fail))
      refine wpQuiet_nil ?_
      intro _ hw'
      obtain ⟨⟨dq, osq⟩, hw''⟩ := hw'
      subst hw''
      have HX9 := Lib.hid (HX.out.next (below_regrown wr dq osq))
      generalize Go.Sort.grow (redrawn wr dq) osq = w9 at *
      clear gx0 gz0 gf0 HP HX
      have hl3 : i < (ivs .u8 (spoilt D1 zs i)).length := by rw [ivs_length, spoilt_len D1 zs (by omega)]; exact hil
      obtain ⟨old, hck⟩ : ∃ old, w9.cell? ⟨gx, i, none⟩ = some old := ⟨_, HX9.out.x.cell i hl3⟩
      have hfz := HX9.out.x.unfrozen i
      have HX10 := Lib.hid (HX9.out.store hil)
      clear HX9 hl3
      go_wp2
      go_roundw
      case rel => exact ⟨i + 1, by omega, by go_num, HX10.out⟩
      case measure => simp [intOf]; omega
    · obtain rfl : i = n := by omega
      have hii : ¬ (i : Int) < (i : Int) := by omega
      have HM0 : Hid (Own w6.heap.size 26 wr ax (i + 0) cx (ivs .u8 (spoilt D1 zs i)) ∧ ApE (.slice ay i cy) (.slice ax (i + 0) cx)) := Lib.hid ⟨HX.out.x, fun g h1 h2 => by have := HX.out.xlt g h2; have := (World.ownsRow.lt HX.out.y g h1).1; omega⟩
      have HY := Lib.hid HX.out.y
      have HBx := Lib.hid HX.out.bel
      clear HX
      go_wp2
      go_loopw [11, 8] (AskM w6 w7.heap.size D1 zs i ay cy) (fun k _ _ => 40 - (intOf k).toNat)
      case atStart => exact ⟨0, ax, cx, _, by omega, rfl, rfl, HM0.out.1, HM0.out.2, HY.out, HBx.out⟩
      case round =>
        clear HM0 HY HBx
        obtain ⟨k, xa, xc, L, hk, rfl, rfl, hx, hap, hy, hbel⟩ := hrel
        have HX := Lib.hid hx; have HAp := Lib.hid hap; have HY := Lib.hid hy; have HBe := Lib.hid hbel
        clear hx hap hy hbel
        by_cases hk40 : k < 40
        · have hki : (k : Int) < 40 := by omega
          go_wp2_with (at_builtin; refine wpList_app1x Try.elemCls rfl (.tmp 106) (.tmp 107) rfl HX.out HBe.out.size (by omega) (by omega) _ rfl _ rfl rfl ?_)
          intro a9 c9 w9 ho9 hg9 hn9
          have HN9 := Lib.hid (show Own w6.heap.size 26 w9 a9 (i + (k + 1)) c9 (ivs .u8 (L ++ [98])) from by rw [ivs_append]; exact ho9)
          have HB9 := Lib.hid (HBe.out.trans (below_grown hg9 (fun x e => (World.ownsRow.lt HX.out x e).1) HBe.out.size))
          have HY9 : Hid (Own w7.heap.size 26 w9 ay i cy (ivs .u8 (clsL D1 zs))) := Lib.hid (HY.out.grown hg9 (by
            cases e : (Value.slice ay i cy).ownBlock with
            | none => exact .inl rfl
            | some g => exact .inr (fun e2 => HAp.out g e e2.symm)))
          have HA9 : Hid (ApE (.slice ay i cy) (.slice a9 (i + (k + 1)) c9)) := Lib.hid (fun g h1 h2 => by
            rcases hn9 with h3 | ⟨g2, h3, h4⟩
            · exact HAp.out g h1 (h3.symm.trans h2)
            · have h5 := h3.symm.trans h2
              cases h5
              have := (World.ownsRow.lt HY.out g h1).2
              omega)
          clear ho9 hg9 hn9
          rw [show i + k + 1 = i + (k + 1) by omega]
          go_wp2
          go_roundw
          case rel => exact ⟨k + 1, a9, c9, _, by omega, by go_num, rfl, HN9.out, HA9.out, HY9.out, HB9.out⟩
          case measure => simp [intOf]; omega
        · obtain rfl : k = 40 := by omega
          have hki : ¬ (40 : Int) < 40 := by omega
          have HB0 := Lib.hid (Below.refl wr.heap.size wr)
          obtain ⟨w10, rfl⟩ : ∃ w10, w10 = wr := ⟨_, rfl⟩
          clear HAp HX
          go_wp2
          go_loopw [12] (AskS w10 i) (fun j _ => i - (intOf j).toNat)
          case atStart => exact ⟨0, Nat.zero_le _, rfl, HB0.out⟩
          case round =>
            clear HB0
            obtain ⟨j, hj, rfl, hbel⟩ := hrel
            have HBj := Lib.hid hbel
            clear hbel
            by_cases hji : j < i
            · have hjj : (j : Int) < (i : Int) := by omega
              have hjl : j < zs.length := by rw [HNn.out]; exact hji
              have hly : j < (clsL D1 zs).length := by rw [clsL_len]; exact hjl
              obtain ⟨gy, egy, -⟩ := HY.out.at (by omega)
              subst egy
              obtain ⟨bz, oz, ez⟩ := HZ.out.some (by omega)
              subst ez
              have hbe := HBe.out.trans (HBj.out.mono HBe.out.size)
              have hbw := HB7.out.trans (hbe.mono HB7.out.size)
              have hcz := (HZ.out.below hbw (Nat.le_refl _)).get j hjl
              have hcy := (HY.out.below HBj.out (Nat.le_refl _)).cell j (by rw [ivs_length]; exact hly)
              rw [show (ivs .u8 (clsL D1 zs))[j]'(by rw [ivs_length]; exact hly) = .int .u8 (D1.cls (runeR zs[j])) by simp [ivs, clsL]] at hcy
              have HMA := Lib.hid (HMA1.out _ hbw (HKA.out _ _ hbe HAD.out).1)
              have HP := Lib.hid (fun q : Regrown => Go.Calls.regrown_of (mClass_walk (Go.Sort.grow (redrawn wr q.d) q.os) p1 D1 (HMA.out.below (below_regrown wr q.d q.os)) zs[j]))
              obtain ⟨z, hz⟩ : ∃ z, z = zs[j] := ⟨_, rfl⟩
              rw [← hz] at hcz hcy HP
              generalize D1.cls (runeR z) = cv at *
              have gy0 := fun d os => cell_regrown hcy d os
              have gz0 := fun d os => cell_regrown hcz d os
              have hcv : (cv != cv) = false := by simp
              clear hcy hcz hbw hbe HMA hz
              go_upto_region 20 with (fail)
              refine wp_region_quiet_below (by kernel_rfl) (by kernel_rfl) ?_
              iterate 8 (go_big_quiet_step (fail))
              go_big_quiet_step (exact HP.out _)
              iterate 1 (go_big_quiet_step (fail))
              refine wpQuiet_nil ?_
              intro _ hw'
              obtain ⟨⟨dq, osq⟩, hw''⟩ := hw'
              subst hw''
              have HB9 := Lib.hid (HBj.out.trans ((below_regrown wr dq osq).mono HBj.out.size))
              generalize Go.Sort.grow (redrawn wr dq) osq = w9 at *
              clear gy0 gz0 HP
              go_wp2
              go_roundw
              case rel => exact ⟨j + 1, by omega, by go_num, HB9.out⟩
              case measure => simp [intOf]; omega
            · obtain rfl : j = i := by omega
              have hjj : ¬ (j : Int) < (j : Int) := by omega
              have HBw := Lib.hid (HB7.out.trans ((HBe.out.trans (HBj.out.mono HBe.out.size)).mono HB7.out.size))
              have HAF := Lib.hid (HKA.out _ _ (HBe.out.trans (HBj.out.mono HBe.out.size)) HAD.out)
              clear HBj HBe HY HAD HFl HF6 HIf HB7
              have HF1 := Lib.hid (madeFour_walk wr p1 D1 (HMA1.out _ HBw.out HAF.out.1) HW1.out HE1.out)
              go_wp2_with fail
              refine HF1.out.mono ?_
              rintro e wA ⟨hb, fv, bv1, rfl, hbad, x0, x1, x2, x3, x4, x5, x6, x7, rfl, x01, x23, x45, x67⟩
              obtain ⟨⟨xa0, xn0, xc0, rfl⟩, ⟨xa1, xn1, xc1, rfl⟩⟩ := x01.slices
              obtain ⟨⟨xa2, xn2, xc2, rfl⟩, ⟨xa3, xn3, xc3, rfl⟩⟩ := x23.slices
              obtain ⟨⟨xa4, xn4, xc4, rfl⟩, ⟨xa5, xn5, xc5, rfl⟩⟩ := x45.slices
              obtain ⟨⟨xa6, xn6, xc6, rfl⟩, ⟨xa7, xn7, xc7, rfl⟩⟩ := x67.slices
              have HBA := Lib.hid (HBw.out.trans (hb.mono HBw.out.size))
              have HAG := Lib.hid (HKA.out _ _ hb HAF.out)
              have HX1 := Lib.hid (show FourAt wA (.agg #[.slice xa0 xn0 xc0, .slice xa1 xn1 xc1, .slice xa2 xn2 xc2, .slice xa3 xn3 xc3, .slice xa4 xn4 xc4, .slice xa5 xn5 xc5, .slice xa6 xn6 xc6, .slice xa7 xn7 xc7]) (fvs D1) from ⟨_, _, _, _, _, _, _, _, rfl, x01, x23, x45, x67⟩)
              have HBad1 := Lib.hid hbad
              clear hb hbad x01 x23 x45 x67 HF1 HBw HAF
              have hZA := heap_alloc_new wA (.cells #[.slice xa0 xn0 xc0, .slice xa1 xn1 xc1, .slice xa2 xn2 xc2, .slice xa3 xn3 xc3, .slice xa4 xn4 xc4, .slice xa5 xn5 xc5, .slice xa6 xn6 xc6, .slice xa7 xn7 xc7] 48)
              have hBA := (Below.refl _ wA).alloc (Nat.le_refl _) (.cells #[.slice xa0 xn0 xc0, .slice xa1 xn1 xc1, .slice xa2 xn2 xc2, .slice xa3 xn3 xc3, .slice xa4 xn4 xc4, .slice xa5 xn5 xc5, .slice xa6 xn6 xc6, .slice xa7 xn7 xc7] 48)
              have HZA := Lib.hid (And.intro hZA hBA)
              clear hZA hBA
              go_upto_region 23 with (fail)
              obtain ⟨bf, hbf⟩ : ∃ bf, bf = wA.heap.size := ⟨_, rfl⟩
              rw [← hbf] at HZA ⊢
              generalize wA.alloc (.cells #[.slice xa0 xn0 xc0, .slice xa1 xn1 xc1, .slice xa2 xn2 xc2, .slice xa3 xn3 xc3, .slice xa4 xn4 xc4, .slice xa5 xn5 xc5, .slice xa6 xn6 xc6, .slice xa7 xn7 xc7] 48) = wB at *
              have HBB := Lib.hid (HBA.out.trans (HZA.out.2.mono (by rw [hbf]; exact HBA.out.size)))
              have HAH := Lib.hid (HKA.out wA wB (by rw [← hbf]; exact HZA.out.2) HAG.out)
              have HX2 := Lib.hid (HX1.out.below (by rw [← hbf]; exact HZA.out.2))
              have HBf := Lib.hid HZA.out.1
              clear hbf HZA HBA HAG HX1
              have HF2 := Lib.hid (madeFour_walk wB p2 D2 (HMA2.out _ HBB.out HAH.out.2) HW2.out HE2.out)
              go_wp2_with fail
              refine HF2.out.mono ?_
              rintro e wC ⟨hb, fv, bv2, rfl, hbad, y0, y1, y2, y3, y4, y5, y6, y7, rfl, y01, y23, y45, y67⟩
              obtain ⟨⟨ya0, yn0, yc0, rfl⟩, ⟨ya1, yn1, yc1, rfl⟩⟩ := y01.slices
              obtain ⟨⟨ya2, yn2, yc2, rfl⟩, ⟨ya3, yn3, yc3, rfl⟩⟩ := y23.slices
              obtain ⟨⟨ya4, yn4, yc4, rfl⟩, ⟨ya5, yn5, yc5, rfl⟩⟩ := y45.slices
              obtain ⟨⟨ya6, yn6, yc6, rfl⟩, ⟨ya7, yn7, yc7, rfl⟩⟩ := y67.slices
              have HBC := Lib.hid (HBB.out.trans (hb.mono HBB.out.size))
              have HAI := Lib.hid (HKA.out _ _ hb HAH.out)
              have HX3 := Lib.hid (HX2.out.below hb)
              have HBf2 := Lib.hid ((hb.block bf (Array.getElem?_eq_some_iff.1 HBf.out).1).trans HBf.out)
              have HY1 := Lib.hid (show FourAt wC (.agg #[.slice ya0 yn0 yc0, .slice ya1 yn1 yc1, .slice ya2 yn2 yc2, .slice ya3 yn3 yc3, .slice ya4 yn4 yc4, .slice ya5 yn5 yc5, .slice ya6 yn6 yc6, .slice ya7 yn7 yc7]) (fvs D2) from ⟨_, _, _, _, _, _, _, _, rfl, y01, y23, y45, y67⟩)
              have HBad2 := Lib.hid hbad
              clear hb hbad y01 y23 y45 y67 HF2 HBB HAH HX2 HBf
              have hZA := heap_alloc_new wC (.cells #[.slice ya0 yn0 yc0, .slice ya1 yn1 yc1, .slice ya2 yn2 yc2, .slice ya3 yn3 yc3, .slice ya4 yn4 yc4, .slice ya5 yn5 yc5, .slice ya6 yn6 yc6, .slice ya7 yn7 yc7] 48)
              have hBA := (Below.refl _ wC).alloc (Nat.le_refl _) (.cells #[.slice ya0 yn0 yc0, .slice ya1 yn1 yc1, .slice ya2 yn2 yc2, .slice ya3 yn3 yc3, .slice ya4 yn4 yc4, .slice ya5 yn5 yc5, .slice ya6 yn6 yc6, .slice ya7 yn7 yc7] 48)
              have HZA := Lib.hid (And.intro hZA hBA)
              clear hZA hBA
              go_upto_region 24 with (fail)
              obtain ⟨bg, hbg⟩ : ∃ bg, bg = wC.heap.size := ⟨_, rfl⟩
              rw [← hbg] at HZA ⊢
              generalize wC.alloc (.cells #[.slice ya0 yn0 yc0, .slice ya1 yn1 yc1, .slice ya2 yn2 yc2, .slice ya3 yn3 yc3, .slice ya4 yn4 yc4, .slice ya5 yn5 yc5, .slice ya6 yn6 yc6, .slice ya7 yn7 yc7] 48) = wD at *
              have HBD := Lib.hid (HBC.out.trans (HZA.out.2.mono (by rw [hbg]; exact HBC.out.size)))
              have HAJ := Lib.hid (HKA.out wC wD (by rw [← hbg]; exact HZA.out.2) HAI.out)
              have HX4 := Lib.hid (HX3.out.below (by rw [← hbg]; exact HZA.out.2))
              have HY4 := Lib.hid (HY1.out.below (by rw [← hbg]; exact HZA.out.2))
              have HBf4 := Lib.hid (((show Below wC.heap.size wC wD by rw [← hbg]; exact HZA.out.2).block bf (Array.getElem?_eq_some_iff.1 HBf2.out).1).trans HBf2.out)
              have HBg4 := Lib.hid HZA.out.1
              clear hbg HZA HBC HAI HX3 HY1 HBf2
              have heq40 : ((((j + 40 : Nat) : Int)) == (j : Int) + 40) = true := by simp
              by_cases hb1 : 0 ≤ bv1
              · clear HBad1 HBad2
                go_wp2_with fail
                refine (awake_walk wD).mono ?_
                rintro e w9 ⟨rfl, hb⟩
                have HB9 := Lib.hid (HBD.out.trans (hb.mono HBD.out.size))
                clear hb
                go_wp2
                go_ret
                exact ⟨rfl, HB9.out⟩
              by_cases hb2 : 0 ≤ bv2
              · clear HBad1 HBad2
                go_wp2_with fail
                refine (awake_walk wD).mono ?_
                rintro e w9 ⟨rfl, hb⟩
                have HB9 := Lib.hid (HBD.out.trans (hb.mono HBD.out.size))
                clear hb
                go_wp2
                go_ret
                exact ⟨rfl, HB9.out⟩
              have HN1 : Hid (∀ r, r < 1114112 → badK D1 r = false) := Lib.hid (by
                rcases HBad1.out with ⟨-, h⟩ | ⟨r, h, -⟩
                · exact h
                · omega)
              have HN2 : Hid (∀ r, r < 1114112 → badK D2 r = false) := Lib.hid (by
                rcases HBad2.out with ⟨-, h⟩ | ⟨r, h, -⟩
                · exact h
                · omega)
              clear HBad1 HBad2 heq40
              obtain ⟨m, hm⟩ := Least.exists (anyD (fvs D1) (fvs D2) 4) 1114112
              have HLm := Lib.hid hm
              clear hm
              obtain ⟨av, iv, hE⟩ : ∃ av iv, (if m < 1114112 then (.tuple #[.int .i32 (m : Nat), .bool true] : Value) else .tuple #[.int .i32 0, .bool false]) = .tuple #[.int .i32 av, .bool iv] := by
                by_cases h : m < 1114112
                · exact ⟨_, _, by rw [if_pos h]⟩
                · exact ⟨_, _, by rw [if_neg h]⟩
              have HE := Lib.hid hE
              clear hE
              have HDr : Hid (Below wD.heap.size wD wD.drew) := Lib.hid (Below.refl _ wD).drew
              have HQ1 := Lib.hid (quickly_walk D1 a1 n1 c1 a2 n2 c2 a3 n3 c3 a4 n4 c4 wD.drew (HS1.out.below (HBD.out.trans (HDr.out.mono HBD.out.size))) (fun s hs => ⟨(HW1.out.w1 s hs).1, (HW1.out.w1 s hs).2.1⟩))
              rw [← HR1.out] at HQ1
              have HQ2 := Lib.hid (fun (W : World) (hb : Below wD.drew.heap.size wD.drew W) => quickly_walk D2 e1 m1 f1 e2 m2 f2 e3 m3 f3 e4 m4 f4 W (HS2.out.below (HBD.out.trans ((HDr.out.trans (hb.mono HDr.out.size)).mono HBD.out.size))) (fun s hs => ⟨(HW2.out.w1 s hs).1, (HW2.out.w1 s hs).2.1⟩))
              rw [← HR2.out] at HQ2
              have HAl := Lib.hid (fun (W W2 : World) (q q2 : Nat) (h1 : ∃ pm gC gR N, QuickAt W q pm gC gR N D1) (h2 : ∃ pm gC gR N, QuickAt W2 q2 pm gC gR N D2) (hb : Below W.heap.size W W2) =>
                (show Calls Try.prog 15 #[.iface 53 (.pointer (some ⟨q, 0, none⟩)), .iface 53 (.pointer (some ⟨q2, 0, none⟩))] W2 fun e w' => e = .returned (.tuple #[.int .i32 av, .bool iv]) ∧ Below W2.heap.size W2 w' from by
                  obtain ⟨pm, gC, gR, N, h1⟩ := h1
                  obtain ⟨pm2, gC2, gR2, N2, h2⟩ := h2
                  refine (alikeQQ_walk W2 q q2 _ _ _ _ _ _ _ _ _ _ _ _ (quick_props (h1.below hb)) (quick_props h2)).mono ?_
                  rintro e w' ⟨k, hk, rfl, hb2⟩
                  have hkm : k = m := (hk.congr (fun r hr => unlike_any (HN1.out r hr) (HN2.out r hr) (HW1.out.val r (by omega)).s.1 (HW2.out.val r (by omega)).s.1)).unique HLm.out
                  subst hkm
                  exact ⟨by rw [← HE.out]; rfl, hb2⟩))
              have HSS := Lib.hid (fun (W : World) (h : W.heap[p1]? = some (.cells #[.int .u8 r1, .slice a1 n1 c1, .slice a2 n2 c2, .slice a3 n3 c3, .slice a4 n4 c4] 38 (0, 0)) ∧ W.heap[p2]? = some (.cells #[.int .u8 r2, .slice e1 m1 f1, .slice e2 m2 f2, .slice e3 m3 f3, .slice e4 m4 f4] 38 (0, 0))) => (show (fun w' : World => w'.cell? ⟨p1, 0, none⟩ = some (.int .u8 r1) ∧ w'.cell? ⟨p1, 1, none⟩ = some (.slice a1 n1 c1) ∧ w'.cell? ⟨p1, 2, none⟩ = some (.slice a2 n2 c2) ∧ w'.cell? ⟨p1, 3, none⟩ = some (.slice a3 n3 c3) ∧ w'.cell? ⟨p1, 4, none⟩ = some (.slice a4 n4 c4) ∧ w'.cell? ⟨p2, 0, none⟩ = some (.int .u8 r2) ∧ w'.cell? ⟨p2, 1, none⟩ = some (.slice e1 m1 f1) ∧ w'.cell? ⟨p2, 2, none⟩ = some (.slice e2 m2 f2) ∧ w'.cell? ⟨p2, 3, none⟩ = some (.slice e3 m3 f3) ∧ w'.cell? ⟨p2, 4, none⟩ = some (.slice e4 m4 f4)) W from ⟨cell_of_row W p1 0 _ _ (0, 0) h.1, cell_of_row W p1 1 _ _ (0, 0) h.1, cell_of_row W p1 2 _ _ (0, 0) h.1, cell_of_row W p1 3 _ _ (0, 0) h.1, cell_of_row W p1 4 _ _ (0, 0) h.1, cell_of_row W p2 0 _ _ (0, 0) h.2, cell_of_row W p2 1 _ _ (0, 0) h.2, cell_of_row W p2 2 _ _ (0, 0) h.2, cell_of_row W p2 3 _ _ (0, 0) h.2, cell_of_row W p2 4 _ _ (0, 0) h.2⟩))
              have HS0 := Lib.hid (HSS.out wD HAJ.out)
              have HHd := Lib.hid (fun (W : World) (hb : Below wD.drew.heap.size wD.drew W) => HSS.out W (HKA.out wD W (HDr.out.trans (hb.mono HDr.out.size)) HAJ.out))
              go_upto_region 26 with (fail)
              go_cut [17, 18] from 148 to 157 (fun v1 v2 wx => v1 = .int .i32 av ∧ v2 = .bool iv ∧ Below wD.heap.size wD wx)
              case first =>
                refine (wpIn_wide (n := 2)).1 ?_
                refine wpIn_region_calm [] (fun w' : World => w'.cell? ⟨p1, 0, none⟩ = some (.int .u8 r1) ∧ w'.cell? ⟨p1, 1, none⟩ = some (.slice a1 n1 c1) ∧ w'.cell? ⟨p1, 2, none⟩ = some (.slice a2 n2 c2) ∧ w'.cell? ⟨p1, 3, none⟩ = some (.slice a3 n3 c3) ∧ w'.cell? ⟨p1, 4, none⟩ = some (.slice a4 n4 c4) ∧ w'.cell? ⟨p2, 0, none⟩ = some (.int .u8 r2) ∧ w'.cell? ⟨p2, 1, none⟩ = some (.slice e1 m1 f1) ∧ w'.cell? ⟨p2, 2, none⟩ = some (.slice e2 m2 f2) ∧ w'.cell? ⟨p2, 3, none⟩ = some (.slice e3 m3 f3) ∧ w'.cell? ⟨p2, 4, none⟩ = some (.slice e4 m4 f4)) (by kernel_rfl) ?_
                have HCx := Lib.hid (HSS.out wD.drew HAJ.out)
                refine' anyD_take (i := 0) (v := .agg #[.int .u8 r1, .slice a1 n1 c1, .slice a2 n2 c2, .slice a3 n3 c3, .slice a4 n4 c4]) [] (by kernel_rfl) rfl (by rfl) (by kernel_rfl) (fun _ _ _ h => h) (by rfl) ?h0 HCx.out ?k0
                case h0 =>
                  intro w' c0
                  obtain ⟨d0, d1, d2, d3, d4, d5, d6, d7, d8, d9⟩ := c0
                  go_simp
                  try with_reducible rfl
                simp only [List.getElem_toArray, List.getElem_cons_zero, List.getElem_cons_succ, Act.put, List.setIfInBounds_toArray, List.set_cons_zero, List.set_cons_succ]
                refine' anyD_take (i := 3) (v := .agg #[.int .u8 r2, .slice e1 m1 f1, .slice e2 m2 f2, .slice e3 m3 f3, .slice e4 m4 f4]) [] (by kernel_rfl) rfl (by rfl) (by kernel_rfl) (fun _ _ _ h => h) (by rfl) ?h3 HCx.out ?k3
                case h3 =>
                  intro w' c0
                  obtain ⟨d0, d1, d2, d3, d4, d5, d6, d7, d8, d9⟩ := c0
                  go_simp
                  try with_reducible rfl
                simp only [List.getElem_toArray, List.getElem_cons_zero, List.getElem_cons_succ, Act.put, List.setIfInBounds_toArray, List.set_cons_zero, List.set_cons_succ]
                refine anyC_r1 (i := 1) (by kernel_rfl) ?_
                refine stepCall (i := 1) rfl (by rfl) (by rfl) (fun _ _ => trivial) (exec_call1 16 (.tmp 149) _ rfl (.agg #[.int .u8 r1, .slice a1 n1 c1, .slice a2 n2 c2, .slice a3 n3 c3, .slice a4 n4 c4]) rfl (enters_of Try.func16 (by kernel_rfl) rfl)) (fun h => by cases h) ?_
                refine callsIn_wide.2 ?_
                refine HQ1.out.mono ?_
                rintro e w6 ⟨q, rfl, hq, hb6⟩
                have HC_w6 := Lib.hid (HHd.out w6 hb6)
                refine ⟨_, rfl, fun _ => HC_w6.out, ?_⟩
                simp only [List.getElem_toArray, List.getElem_cons_zero, List.getElem_cons_succ, Act.put, List.setIfInBounds_toArray, List.set_cons_zero, List.set_cons_succ]
                refine anyC_r2 (i := 2) (i' := 4) (by kernel_rfl) ?c2 ?c4
                case c2 =>
                  refine stepV (i := 2) (v := .iface 53 (.pointer (some ⟨q, 0, none⟩))) (w' := w6) rfl (by rfl) (fun _ _ => trivial) (by rfl) (by go_simp; try with_reducible rfl) (fun _ => HC_w6.out) ?_
                  simp only [List.getElem_toArray, List.getElem_cons_zero, List.getElem_cons_succ, Act.put, List.setIfInBounds_toArray, List.set_cons_zero, List.set_cons_succ]
                  refine anyC_r1 (i := 4) (by kernel_rfl) ?_
                  refine stepCall (i := 4) rfl (by rfl) (by rfl) (fun _ _ => trivial) (exec_call1 16 (.tmp 152) _ rfl (.agg #[.int .u8 r2, .slice e1 m1 f1, .slice e2 m2 f2, .slice e3 m3 f3, .slice e4 m4 f4]) rfl (enters_of Try.func16 (by kernel_rfl) rfl)) (fun h => by cases h) ?_
                  refine callsIn_wide.2 ?_
                  refine (HQ2.out w6 hb6).mono ?_
                  rintro e w7 ⟨q2, rfl, hq2, hb7⟩
                  have HC_w7 := Lib.hid (HHd.out w7 (hb6.trans (hb7.mono hb6.size)))
                  refine ⟨_, rfl, fun _ => HC_w7.out, ?_⟩
                  simp only [List.getElem_toArray, List.getElem_cons_zero, List.getElem_cons_succ, Act.put, List.setIfInBounds_toArray, List.set_cons_zero, List.set_cons_succ]
                  refine anyC_r1 (i := 5) (by kernel_rfl) ?_
                  refine stepV (i := 5) (v := .iface 53 (.pointer (some ⟨q2, 0, none⟩))) (w' := w7) rfl (by rfl) (fun _ _ => trivial) (by rfl) (by go_simp; try with_reducible rfl) (fun _ => HC_w7.out) ?_
                  simp only [List.getElem_toArray, List.getElem_cons_zero, List.getElem_cons_succ, Act.put, List.setIfInBounds_toArray, List.set_cons_zero, List.set_cons_succ]
                  refine anyC_r1 (i := 6) (by kernel_rfl) ?_
                  refine stepCall (i := 6) rfl (by rfl) (by rfl) (fun _ _ => trivial) (exec_call2 15 (.tmp 151) (.tmp 154) _ rfl (.iface 53 (.pointer (some ⟨q, 0, none⟩))) (.iface 53 (.pointer (some ⟨q2, 0, none⟩))) rfl rfl (enters_of Try.func15 (by kernel_rfl) rfl)) (fun h => by cases h) ?_
                  refine callsIn_wide.2 ?_
                  refine (HAl.out w6 w7 q q2 hq hq2 hb7).mono ?_
                  rintro e w8 ⟨rfl, hb8⟩
                  have hb68 := hb6.trans ((hb7.trans (hb8.mono hb7.size)).mono hb6.size)
                  have HC_w8 := Lib.hid (HHd.out w8 hb68)
                  have HB8 := Lib.hid (HDr.out.trans (hb68.mono HDr.out.size))
                  refine ⟨_, rfl, fun _ => HC_w8.out, ?_⟩
                  simp only [List.getElem_toArray, List.getElem_cons_zero, List.getElem_cons_succ, Act.put, List.setIfInBounds_toArray, List.set_cons_zero, List.set_cons_succ]
                  refine anyC_r1 (i := 7) (by kernel_rfl) ?_
                  refine stepV (i := 7) (v := .tuple #[.int .i32 av, .bool iv]) (w' := w8) rfl (by rfl) (fun _ _ => trivial) (by rfl) (by go_simp; try with_reducible rfl) (fun _ => HC_w8.out) ?_
                  simp only [List.getElem_toArray, List.getElem_cons_zero, List.getElem_cons_succ, Act.put, List.setIfInBounds_toArray, List.set_cons_zero, List.set_cons_succ]
                  refine anyC_r2 (i := 8) (i' := 9) (by kernel_rfl) ?e8 ?e9
                  case e8 =>
                    refine stepV (i := 8) (v := .int .i32 av) (w' := w8) rfl (by rfl) (fun _ _ => trivial) (by rfl) (by go_simp; try with_reducible rfl) (fun _ => HC_w8.out) ?_
                    simp only [List.getElem_toArray, List.getElem_cons_zero, List.getElem_cons_succ, Act.put, List.setIfInBounds_toArray, List.set_cons_zero, List.set_cons_succ]
                    refine anyC_r2 (i := 9) (i' := 10) (by kernel_rfl) ?g9 ?g10
                    case g9 =>
                      refine stepV (i := 9) (v := .bool iv) (w' := w8) rfl (by rfl) (fun _ _ => trivial) (by rfl) (by go_simp; try with_reducible rfl) (fun _ => HC_w8.out) ?_
                      simp only [List.getElem_toArray, List.getElem_cons_zero, List.getElem_cons_succ, Act.put, List.setIfInBounds_toArray, List.set_cons_zero, List.set_cons_succ]
                      refine anyC_r1 (i := 10) (by kernel_rfl) ?_
                      refine stepV (i := 10) (v := .int .i32 av) (w' := w8) rfl (by rfl) (fun _ _ => trivial) (by rfl) (by go_simp; try with_reducible rfl) (fun _ => HC_w8.out) ?_
                      simp only [List.getElem_toArray, List.getElem_cons_zero, List.getElem_cons_succ, Act.put, List.setIfInBounds_toArray, List.set_cons_zero, List.set_cons_succ]
                      refine anyC_r1 (i := 11) (by kernel_rfl) ?_
                      refine stepV (i := 11) (v := .bool iv) (w' := w8) rfl (by rfl) (fun _ _ => trivial) (by rfl) (by go_simp; try with_reducible rfl) (fun _ => HC_w8.out) ?_
                      simp only [List.getElem_toArray, List.getElem_cons_zero, List.getElem_cons_succ, Act.put, List.setIfInBounds_toArray, List.set_cons_zero, List.set_cons_succ]
                      refine ⟨by kernel_rfl, ?_⟩
                      go_wp2_with fail
                      go_meet
                      case rel => exact ⟨rfl, rfl, HB8.out⟩
                    case g10 =>
                      refine stepV (i := 10) (v := .int .i32 av) (w' := w8) rfl (by rfl) (fun _ _ => trivial) (by rfl) (by go_simp; try with_reducible rfl) (fun _ => HC_w8.out) ?_
                      simp only [List.getElem_toArray, List.getElem_cons_zero, List.getElem_cons_succ, Act.put, List.setIfInBounds_toArray, List.set_cons_zero, List.set_cons_succ]
                      refine anyC_r1 (i := 9) (by kernel_rfl) ?_
                      refine stepV (i := 9) (v := .bool iv) (w' := w8) rfl (by rfl) (fun _ _ => trivial) (by rfl) (by go_simp; try with_reducible rfl) (fun _ => HC_w8.out) ?_
                      simp only [List.getElem_toArray, List.getElem_cons_zero, List.getElem_cons_succ, Act.put, List.setIfInBounds_toArray, List.set_cons_zero, List.set_cons_succ]
                      refine anyC_r1 (i := 11) (by kernel_rfl) ?_
                      refine stepV (i := 11) (v := .bool iv) (w' := w8) rfl (by rfl) (fun _ _ => trivial) (by rfl) (by go_simp; try with_reducible rfl) (fun _ => HC_w8.out) ?_
                      simp only [List.getElem_toArray, List.getElem_cons_zero, List.getElem_cons_succ, Act.put, List.setIfInBounds_toArray, List.set_cons_zero, List.set_cons_succ]
                      refine ⟨by kernel_rfl, ?_⟩
                      go_wp2_with fail
                      go_meet
                      case rel => exact ⟨rfl, rfl, HB8.out⟩
                  case e9 =>
                    refine stepV (i := 9) (v := .bool iv) (w' := w8) rfl (by rfl) (fun _ _ => trivial) (by rfl) (by go_simp; try with_reducible rfl) (fun _ => HC_w8.out) ?_
                    simp only [List.getElem_toArray, List.getElem_cons_zero, List.getElem_cons_succ, Act.put, List.setIfInBounds_toArray, List.set_cons_zero, List.set_cons_succ]
                    refine anyC_r1 (i := 8) (by kernel_rfl) ?_
                    refine stepV (i := 8) (v := .int .i32 av) (w' := w8) rfl (by rfl) (fun _ _ => trivial) (by rfl) (by go_simp; try with_reducible rfl) (fun _ => HC_w8.out) ?_
                    simp only [List.getElem_toArray, List.getElem_cons_zero, List.getElem_cons_succ, Act.put, List.setIfInBounds_toArray, List.set_cons_zero, List.set_cons_succ]
                    refine anyC_r1 (i := 10) (by kernel_rfl) ?_
                    refine stepV (i := 10) (v := .int .i32 av) (w' := w8) rfl (by rfl) (fun _ _ => trivial) (by rfl) (by go_simp; try with_reducible rfl) (fun _ => HC_w8.out) ?_
                    simp only [List.getElem_toArray, List.getElem_cons_zero, List.getElem_cons_succ, Act.put, List.setIfInBounds_toArray, List.set_cons_zero, List.set_cons_succ]
                    refine anyC_r1 (i := 11) (by kernel_rfl) ?_
                    refine stepV (i := 11) (v := .bool iv) (w' := w8) rfl (by rfl) (fun _ _ => trivial) (by rfl) (by go_simp; try with_reducible rfl) (fun _ => HC_w8.out) ?_
                    simp only [List.getElem_toArray, List.getElem_cons_zero, List.getElem_cons_succ, Act.put, List.setIfInBounds_toArray, List.set_cons_zero, List.set_cons_succ]
                    refine ⟨by kernel_rfl, ?_⟩
                    go_wp2_with fail
                    go_meet
                    case rel => exact ⟨rfl, rfl, HB8.out⟩
                case c4 =>
                  refine stepCall (i := 4) rfl (by rfl) (by rfl) (fun _ _ => trivial) (exec_call1 16 (.tmp 152) _ rfl (.agg #[.int .u8 r2, .slice e1 m1 f1, .slice e2 m2 f2, .slice e3 m3 f3, .slice e4 m4 f4]) rfl (enters_of Try.func16 (by kernel_rfl) rfl)) (fun h => by cases h) ?_
                  refine callsIn_wide.2 ?_
                  refine (HQ2.out w6 hb6).mono ?_
                  rintro e w7 ⟨q2, rfl, hq2, hb7⟩
                  have HC_w7 := Lib.hid (HHd.out w7 (hb6.trans (hb7.mono hb6.size)))
                  refine ⟨_, rfl, fun _ => HC_w7.out, ?_⟩
                  simp only [List.getElem_toArray, List.getElem_cons_zero, List.getElem_cons_succ, Act.put, List.setIfInBounds_toArray, List.set_cons_zero, List.set_cons_succ]
                  refine anyC_r2 (i := 2) (i' := 5) (by kernel_rfl) ?d2 ?d5
                  case d2 =>
                    refine stepV (i := 2) (v := .iface 53 (.pointer (some ⟨q, 0, none⟩))) (w' := w7) rfl (by rfl) (fun _ _ => trivial) (by rfl) (by go_simp; try with_reducible rfl) (fun _ => HC_w7.out) ?_
                    simp only [List.getElem_toArray, List.getElem_cons_zero, List.getElem_cons_succ, Act.put, List.setIfInBounds_toArray, List.set_cons_zero, List.set_cons_succ]
                    refine anyC_r1 (i := 5) (by kernel_rfl) ?_
                    refine stepV (i := 5) (v := .iface 53 (.pointer (some ⟨q2, 0, none⟩))) (w' := w7) rfl (by rfl) (fun _ _ => trivial) (by rfl) (by go_simp; try with_reducible rfl) (fun _ => HC_w7.out) ?_
                    simp only [List.getElem_toArray, List.getElem_cons_zero, List.getElem_cons_succ, Act.put, List.setIfInBounds_toArray, List.set_cons_zero, List.set_cons_succ]
                    refine anyC_r1 (i := 6) (by kernel_rfl) ?_
                    refine stepCall (i := 6) rfl (by rfl) (by rfl) (fun _ _ => trivial) (exec_call2 15 (.tmp 151) (.tmp 154) _ rfl (.iface 53 (.pointer (some ⟨q, 0, none⟩))) (.iface 53 (.pointer (some ⟨q2, 0, none⟩))) rfl rfl (enters_of Try.func15 (by kernel_rfl) rfl)) (fun h => by cases h) ?_
                    refine callsIn_wide.2 ?_
                    refine (HAl.out w6 w7 q q2 hq hq2 hb7).mono ?_
                    rintro e w8 ⟨rfl, hb8⟩
                    have hb68 := hb6.trans ((hb7.trans (hb8.mono hb7.size)).mono hb6.size)
                    have HC_w8 := Lib.hid (HHd.out w8 hb68)
                    have HB8 := Lib.hid (HDr.out.trans (hb68.mono HDr.out.size))
                    refine ⟨_, rfl, fun _ => HC_w8.out, ?_⟩
                    simp only [List.getElem_toArray, List.getElem_cons_zero, List.getElem_cons_succ, Act.put, List.setIfInBounds_toArray, List.set_cons_zero, List.set_cons_succ]
                    refine anyC_r1 (i := 7) (by kernel_rfl) ?_
                    refine stepV (i := 7) (v := .tuple #[.int .i32 av, .bool iv]) (w' := w8) rfl (by rfl) (fun _ _ => trivial) (by rfl) (by go_simp; try with_reducible rfl) (fun _ => HC_w8.out) ?_
                    simp only [List.getElem_toArray, List.getElem_cons_zero, List.getElem_cons_succ, Act.put, List.setIfInBounds_toArray, List.set_cons_zero, List.set_cons_succ]
                    refine anyC_r2 (i := 8) (i' := 9) (by kernel_rfl) ?e8 ?e9
                    case e8 =>
                      refine stepV (i := 8) (v := .int .i32 av) (w' := w8) rfl (by rfl) (fun _ _ => trivial) (by rfl) (by go_simp; try with_reducible rfl) (fun _ => HC_w8.out) ?_
                      simp only [List.getElem_toArray, List.getElem_cons_zero, List.getElem_cons_succ, Act.put, List.setIfInBounds_toArray, List.set_cons_zero, List.set_cons_succ]
                      refine anyC_r2 (i := 9) (i' := 10) (by kernel_rfl) ?g9 ?g10
                      case g9 =>
                        refine stepV (i := 9) (v := .bool iv) (w' := w8) rfl (by rfl) (fun _ _ => trivial) (by rfl) (by go_simp; try with_reducible rfl) (fun _ => HC_w8.out) ?_
                        simp only [List.getElem_toArray, List.getElem_cons_zero, List.getElem_cons_succ, Act.put, List.setIfInBounds_toArray, List.set_cons_zero, List.set_cons_succ]
                        refine anyC_r1 (i := 10) (by kernel_rfl) ?_
                        refine stepV (i := 10) (v := .int .i32 av) (w' := w8) rfl (by rfl) (fun _ _ => trivial) (by rfl) (by go_simp; try with_reducible rfl) (fun _ => HC_w8.out) ?_
                        simp only [List.getElem_toArray, List.getElem_cons_zero, List.getElem_cons_succ, Act.put, List.setIfInBounds_toArray, List.set_cons_zero, List.set_cons_succ]
                        refine anyC_r1 (i := 11) (by kernel_rfl) ?_
                        refine stepV (i := 11) (v := .bool iv) (w' := w8) rfl (by rfl) (fun _ _ => trivial) (by rfl) (by go_simp; try with_reducible rfl) (fun _ => HC_w8.out) ?_
                        simp only [List.getElem_toArray, List.getElem_cons_zero, List.getElem_cons_succ, Act.put, List.setIfInBounds_toArray, List.set_cons_zero, List.set_cons_succ]
                        refine ⟨by kernel_rfl, ?_⟩
                        go_wp2_with fail
                        go_meet
                        case rel => exact ⟨rfl, rfl, HB8.out⟩
                      case g10 =>
                        refine stepV (i := 10) (v := .int .i32 av) (w' := w8) rfl (by rfl) (fun _ _ => trivial) (by rfl) (by go_simp; try with_reducible rfl) (fun _ => HC_w8.out) ?_
                        simp only [List.getElem_toArray, List.getElem_cons_zero, List.getElem_cons_succ, Act.put, List.setIfInBounds_toArray, List.set_cons_zero, List.set_cons_succ]
                        refine anyC_r1 (i := 9) (by kernel_rfl) ?_
                        refine stepV (i := 9) (v := .bool iv) (w' := w8) rfl (by rfl) (fun _ _ => trivial) (by rfl) (by go_simp; try with_reducible rfl) (fun _ => HC_w8.out) ?_
                        simp only [List.getElem_toArray, List.getElem_cons_zero, List.getElem_cons_succ, Act.put, List.setIfInBounds_toArray, List.set_cons_zero, List.set_cons_succ]
                        refine anyC_r1 (i := 11) (by kernel_rfl) ?_
                        refine stepV (i := 11) (v := .bool iv) (w' := w8) rfl (by rfl) (fun _ _ => trivial) (by rfl) (by go_simp; try with_reducible rfl) (fun _ => HC_w8.out) ?_
                        simp only [List.getElem_toArray, List.getElem_cons_zero, List.getElem_cons_succ, Act.put, List.setIfInBounds_toArray, List.set_cons_zero, List.set_cons_succ]
                        refine ⟨by kernel_rfl, ?_⟩
                        go_wp2_with fail
                        go_meet
                        case rel => exact ⟨rfl, rfl, HB8.out⟩
                    case e9 =>
                      refine stepV (i := 9) (v := .bool iv) (w' := w8) rfl (by rfl) (fun _ _ => trivial) (by rfl) (by go_simp; try with_reducible rfl) (fun _ => HC_w8.out) ?_
                      simp only [List.getElem_toArray, List.getElem_cons_zero, List.getElem_cons_succ, Act.put, List.setIfInBounds_toArray, List.set_cons_zero, List.set_cons_succ]
                      refine anyC_r1 (i := 8) (by kernel_rfl) ?_
                      refine stepV (i := 8) (v := .int .i32 av) (w' := w8) rfl (by rfl) (fun _ _ => trivial) (by rfl) (by go_simp; try with_reducible rfl) (fun _ => HC_w8.out) ?_
                      simp only [List.getElem_toArray, List.getElem_cons_zero, List.getElem_cons_succ, Act.put, List.setIfInBounds_toArray, List.set_cons_zero, List.set_cons_succ]
                      refine anyC_r1 (i := 10) (by kernel_rfl) ?_
                      refine stepV (i := 10) (v := .int .i32 av) (w' := w8) rfl (by rfl) (fun _ _ => trivial) (by rfl) (by go_simp; try with_reducible rfl) (fun _ => HC_w8.out) ?_
                      simp only [List.getElem_toArray, List.getElem_cons_zero, List.getElem_cons_succ, Act.put, List.setIfInBounds_toArray, List.set_cons_zero, List.set_cons_succ]
                      refine anyC_r1 (i := 11) (by kernel_rfl) ?_
                      refine stepV (i := 11) (v := .bool iv) (w' := w8) rfl (by rfl) (fun _ _ => trivial) (by rfl) (by go_simp; try with_reducible rfl) (fun _ => HC_w8.out) ?_
                      simp only [List.getElem_toArray, List.getElem_cons_zero, List.getElem_cons_succ, Act.put, List.setIfInBounds_toArray, List.set_cons_zero, List.set_cons_succ]
                      refine ⟨by kernel_rfl, ?_⟩
                      go_wp2_with fail
                      go_meet
                      case rel => exact ⟨rfl, rfl, HB8.out⟩
                  case d5 =>
                    refine stepV (i := 5) (v := .iface 53 (.pointer (some ⟨q2, 0, none⟩))) (w' := w7) rfl (by rfl) (fun _ _ => trivial) (by rfl) (by go_simp; try with_reducible rfl) (fun _ => HC_w7.out) ?_
                    simp only [List.getElem_toArray, List.getElem_cons_zero, List.getElem_cons_succ, Act.put, List.setIfInBounds_toArray, List.set_cons_zero, List.set_cons_succ]
                    refine anyC_r1 (i := 2) (by kernel_rfl) ?_
                    refine stepV (i := 2) (v := .iface 53 (.pointer (some ⟨q, 0, none⟩))) (w' := w7) rfl (by rfl) (fun _ _ => trivial) (by rfl) (by go_simp; try with_reducible rfl) (fun _ => HC_w7.out) ?_
                    simp only [List.getElem_toArray, List.getElem_cons_zero, List.getElem_cons_succ, Act.put, List.setIfInBounds_toArray, List.set_cons_zero, List.set_cons_succ]
                    refine anyC_r1 (i := 6) (by kernel_rfl) ?_
                    refine stepCall (i := 6) rfl (by rfl) (by rfl) (fun _ _ => trivial) (exec_call2 15 (.tmp 151) (.tmp 154) _ rfl (.iface 53 (.pointer (some ⟨q, 0, none⟩))) (.iface 53 (.pointer (some ⟨q2, 0, none⟩))) rfl rfl (enters_of Try.func15 (by kernel_rfl) rfl)) (fun h => by cases h) ?_
                    refine callsIn_wide.2 ?_
                    refine (HAl.out w6 w7 q q2 hq hq2 hb7).mono ?_
                    rintro e w8 ⟨rfl, hb8⟩
                    have hb68 := hb6.trans ((hb7.trans (hb8.mono hb7.size)).mono hb6.size)
                    have HC_w8 := Lib.hid (HHd.out w8 hb68)
                    have HB8 := Lib.hid (HDr.out.trans (hb68.mono HDr.out.size))
                    refine ⟨_, rfl, fun _ => HC_w8.out, ?_⟩
                    simp only [List.getElem_toArray, List.getElem_cons_zero, List.getElem_cons_succ, Act.put, List.setIfInBounds_toArray, List.set_cons_zero, List.set_cons_succ]
                    refine anyC_r1 (i := 7) (by kernel_rfl) ?_
                    refine stepV (i := 7) (v := .tuple #[.int .i32 av, .bool iv]) (w' := w8) rfl (by rfl) (fun _ _ => trivial) (by rfl) (by go_simp; try with_reducible rfl) (fun _ => HC_w8.out) ?_
                    simp only [List.getElem_toArray, List.getElem_cons_zero, List.getElem_cons_succ, Act.put, List.setIfInBounds_toArray, List.set_cons_zero, List.set_cons_succ]
                    refine anyC_r2 (i := 8) (i' := 9) (by kernel_rfl) ?e8 ?e9
                    case e8 =>
                      refine stepV (i := 8) (v := .int .i32 av) (w' := w8) rfl (by rfl) (fun _ _ => trivial) (by rfl) (by go_simp; try with_reducible rfl) (fun _ => HC_w8.out) ?_
                      simp only [List.getElem_toArray, List.getElem_cons_zero, List.getElem_cons_succ, Act.put, List.setIfInBounds_toArray, List.set_cons_zero, List.set_cons_succ]
                      refine anyC_r2 (i := 9) (i' := 10) (by kernel_rfl) ?g9 ?g10
                      case g9 =>
                        refine stepV (i := 9) (v := .bool iv) (w' := w8) rfl (by rfl) (fun _ _ => trivial) (by rfl) (by go_simp; try with_reducible rfl) (fun _ => HC_w8.out) ?_
                        simp only [List.getElem_toArray, List.getElem_cons_zero, List.getElem_cons_succ, Act.put, List.setIfInBounds_toArray, List.set_cons_zero, List.set_cons_succ]
                        refine anyC_r1 (i := 10) (by kernel_rfl) ?_
                        refine stepV (i := 10) (v := .int .i32 av) (w' := w8) rfl (by rfl) (fun _ _ => trivial) (by rfl) (by go_simp; try with_reducible rfl) (fun _ => HC_w8.out) ?_
                        simp only [List.getElem_toArray, List.getElem_cons_zero, List.getElem_cons_succ, Act.put, List.setIfInBounds_toArray, List.set_cons_zero, List.set_cons_succ]
                        refine anyC_r1 (i := 11) (by kernel_rfl) ?_
                        refine stepV (i := 11) (v := .bool iv) (w' := w8) rfl (by rfl) (fun _ _ => trivial) (by rfl) (by go_simp; try with_reducible rfl) (fun _ => HC_w8.out) ?_
                        simp only [List.getElem_toArray, List.getElem_cons_zero, List.getElem_cons_succ, Act.put, List.setIfInBounds_toArray, List.set_cons_zero, List.set_cons_succ]
                        refine ⟨by kernel_rfl, ?_⟩
                        go_wp2_with fail
                        go_meet
                        case rel => exact ⟨rfl, rfl, HB8.out⟩
                      case g10 =>
                        refine stepV (i := 10) (v := .int .i32 av) (w' := w8) rfl (by rfl) (fun _ _ => trivial) (by rfl) (by go_simp; try with_reducible rfl) (fun _ => HC_w8.out) ?_
                        simp only [List.getElem_toArray, List.getElem_cons_zero, List.getElem_cons_succ, Act.put, List.setIfInBounds_toArray, List.set_cons_zero, List.set_cons_succ]
                        refine anyC_r1 (i := 9) (by kernel_rfl) ?_
                        refine stepV (i := 9) (v := .bool iv) (w' := w8) rfl (by rfl) (fun _ _ => trivial) (by rfl) (by go_simp; try with_reducible rfl) (fun _ => HC_w8.out) ?_
                        simp only [List.getElem_toArray, List.getElem_cons_zero, List.getElem_cons_succ, Act.put, List.setIfInBounds_toArray, List.set_cons_zero, List.set_cons_succ]
                        refine anyC_r1 (i := 11) (by kernel_rfl) ?_
                        refine stepV (i := 11) (v := .bool iv) (w' := w8) rfl (by rfl) (fun _ _ => trivial) (by rfl) (by go_simp; try with_reducible rfl) (fun _ => HC_w8.out) ?_
                        simp only [List.getElem_toArray, List.getElem_cons_zero, List.getElem_cons_succ, Act.put, List.setIfInBounds_toArray, List.set_cons_zero, List.set_cons_succ]
                        refine ⟨by kernel_rfl, ?_⟩
                        go_wp2_with fail
                        go_meet
                        case rel => exact ⟨rfl, rfl, HB8.out⟩
                    case e9 =>
                      refine stepV (i := 9) (v := .bool iv) (w' := w8) rfl (by rfl) (fun _ _ => trivial) (by rfl) (by go_simp; try with_reducible rfl) (fun _ => HC_w8.out) ?_
                      simp only [List.getElem_toArray, List.getElem_cons_zero, List.getElem_cons_succ, Act.put, List.setIfInBounds_toArray, List.set_cons_zero, List.set_cons_succ]
                      refine anyC_r1 (i := 8) (by kernel_rfl) ?_
                      refine stepV (i := 8) (v := .int .i32 av) (w' := w8) rfl (by rfl) (fun _ _ => trivial) (by rfl) (by go_simp; try with_reducible rfl) (fun _ => HC_w8.out) ?_
                      simp only [List.getElem_toArray, List.getElem_cons_zero, List.getElem_cons_succ, Act.put, List.setIfInBounds_toArray, List.set_cons_zero, List.set_cons_succ]
                      refine anyC_r1 (i := 10) (by kernel_rfl) ?_
                      refine stepV (i := 10) (v := .int .i32 av) (w' := w8) rfl (by rfl) (fun _ _ => trivial) (by rfl) (by go_simp; try with_reducible rfl) (fun _ => HC_w8.out) ?_
                      simp only [List.getElem_toArray, List.getElem_cons_zero, List.getElem_cons_succ, Act.put, List.setIfInBounds_toArray, List.set_cons_zero, List.set_cons_succ]
                      refine anyC_r1 (i := 11) (by kernel_rfl) ?_
                      refine stepV (i := 11) (v := .bool iv) (w' := w8) rfl (by rfl) (fun _ _ => trivial) (by rfl) (by go_simp; try with_reducible rfl) (fun _ => HC_w8.out) ?_
                      simp only [List.getElem_toArray, List.getElem_cons_zero, List.getElem_cons_succ, Act.put, List.setIfInBounds_toArray, List.set_cons_zero, List.set_cons_succ]
                      refine ⟨by kernel_rfl, ?_⟩
                      go_wp2_with fail
                      go_meet
                      case rel => exact ⟨rfl, rfl, HB8.out⟩
              case rest =>
              obtain ⟨rfl, rfl, hbE⟩ := hcut
              have HBE := Lib.hid (HBD.out.trans (hbE.mono HBD.out.size))
              have HX5 := Lib.hid (HX4.out.below hbE)
              have HY5 := Lib.hid (HY4.out.below hbE)
              have hf5 := (hbE.block bf (Array.getElem?_eq_some_iff.1 HBf4.out).1).trans HBf4.out
              have hg5 := (hbE.block bg (Array.getElem?_eq_some_iff.1 HBg4.out).1).trans HBg4.out
              clear hbE HBD HX4 HY4 HBf4 HBg4 HQ1 HQ2 HAl HHd HSS HS0 HAJ HDr
              have k0 := cell_of_row wc bf 0 _ _ (0, 0) hf5
              have l0 := cell_of_row wc bg 0 _ _ (0, 0) hg5
              have k1 := cell_of_row wc bf 1 _ _ (0, 0) hf5
              have l1 := cell_of_row wc bg 1 _ _ (0, 0) hg5
              have k2 := cell_of_row wc bf 2 _ _ (0, 0) hf5
              have l2 := cell_of_row wc bg 2 _ _ (0, 0) hg5
              have k3 := cell_of_row wc bf 3 _ _ (0, 0) hf5
              have l3 := cell_of_row wc bg 3 _ _ (0, 0) hg5
              have k4 := cell_of_row wc bf 4 _ _ (0, 0) hf5
              have l4 := cell_of_row wc bg 4 _ _ (0, 0) hg5
              have k5 := cell_of_row wc bf 5 _ _ (0, 0) hf5
              have l5 := cell_of_row wc bg 5 _ _ (0, 0) hg5
              have k6 := cell_of_row wc bf 6 _ _ (0, 0) hf5
              have l6 := cell_of_row wc bg 6 _ _ (0, 0) hg5
              have k7 := cell_of_row wc bf 7 _ _ (0, 0) hf5
              have l7 := cell_of_row wc bg 7 _ _ (0, 0) hg5
              simp at k0 l0 k1 l1 k2 l2 k3 l3 k4 l4 k5 l5 k6 l6 k7 l7
              have HDo := Lib.hid (refAlike_walk wc _ _ (fvs D1) (fvs D2) HX5.out HY5.out)
              clear hf5 hg5 HX5 HY5
              have hav : (av == av) = true := by simp
              have hiv : (iv == iv) = true := by simp
              go_wp2_with fail
              refine HDo.out.mono ?_
              rintro e w9 ⟨hb, m9, hm9, rfl⟩
              have hmm := hm9.unique HLm.out
              subst hmm
              rw [HE.out]
              have HB9 := Lib.hid (HBE.out.trans (hb.mono HBE.out.size))
              clear hb hm9 HDo
              go_wp2_with fail
              refine (awake_walk w9).mono ?_
              rintro e w10 ⟨rfl, hb⟩
              have HB10 := Lib.hid (HB9.out.trans (hb.mono HB9.out.size))
              clear hb
              go_wp2
              go_ret
              exact ⟨rfl, HB10.out⟩
end Go.Proofs.Ytbmphakfgoompaa
