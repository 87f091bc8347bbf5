/-
  The contract of the iterator over texts in the order in which they are shown.
-/
import Derived.Test.YtcgdhgdblieaiaaT2
import Derived.Test.YtcgdhgdblieaiaaRF1
import Derived.RangeFuncBound
import Derived.Shelf.RegionOpen
import Derived.OwnWalkIn
import Derived.TacticsInMore
import Derived.LoopNIn
import Derived.LoopIn
import Derived.Deep.Cut
set_option linter.unusedVariables false
namespace Go.Proofs.Ytcgdhgdblieaiaa
open Go.RowKit Go.Shelf
attribute [local go_sem] Oper.semAt_some

theorem EachS_walk (a1 : Option Addr) (n1 c1 : Nat) (a : Option Addr) (n cap : Nat) (w : World) :
    Calls Try.prog 43 #[.slice a1 n1 c1, .slice a n cap] w fun e w' => e = .returned (.func (.func 55) #[] #[.pointer (some ⟨w.heap.size + 1, 0, none⟩), .pointer (some ⟨w.heap.size, 0, none⟩)]) ∧
      w'.cell? ⟨w.heap.size, 0, none⟩ = some (.slice a1 n1 c1) ∧ w'.cell? ⟨w.heap.size + 1, 0, none⟩ = some (.slice a n cap) ∧ w'.heap.size = w.heap.size + 2 ∧ Below w.heap.size w w' := by
  go_enter Try.func43, Try.ntmps43
  go_wp2
  go_ret
  have hA : ((w.alloc (.cells #[.slice a1 n1 c1] 39)).alloc (.cells #[.slice a n cap] 22)).heap[w.heap.size]? = some (.cells #[.slice a1 n1 c1] 39 (0, 0)) := by
    rw [Below.heap_alloc _ _ w.heap.size (by simp)]
    exact heap_alloc_new w _
  have hB : ((w.alloc (.cells #[.slice a1 n1 c1] 39)).alloc (.cells #[.slice a n cap] 22)).heap[w.heap.size + 1]? = some (.cells #[.slice a n cap] 22 (0, 0)) := by
    have := heap_alloc_new (w.alloc (.cells #[.slice a1 n1 c1] 39)) (.cells #[.slice a n cap] 22)
    simpa using this
  have c0 := cell_of_row _ w.heap.size 0 _ _ (0, 0) hA
  have c1 := cell_of_row _ (w.heap.size + 1) 0 _ _ (0, 0) hB
  exact ⟨rfl, c0, c1, by simp, ((Below.refl _ w).alloc (Nat.le_refl _) _).alloc (by simp) _⟩

def encT (ss : List ByteArray) (i : Int) : Array Value := #[.int .i64 i, .string (ss.getD i.toNat noS)]
theorem Strs.kept {T R : Nat → Prop} {W W' : World} {a : Option Addr} {ss : List ByteArray} (h : Strs W a ss) (hk : Kept T R W W') (ht : ∀ b o, a = Option.some ⟨b, o, none⟩ → T b ∨ R b) : Strs W' a ss := by
  intro i hi
  obtain ⟨b, o, rfl, h1⟩ := h i hi
  exact ⟨b, o, rfl, hk.cell h1 (ht b o rfl)⟩
theorem Ints.kept {T R : Nat → Prop} {W W' : World} {k : IntKind} {a : Option Addr} {zs : List Int} (h : Ints k W a zs) (hk : Kept T R W W') (ht : ∀ b o, a = Option.some ⟨b, o, none⟩ → T b ∨ R b) : Ints k W' a zs := by
  intro i hi
  obtain ⟨b, o, rfl, h1⟩ := h i hi
  exact ⟨b, o, rfl, hk.cell h1 (ht b o rfl)⟩
structure EsSt (J : (Nat → Prop) → List Int → World → Prop) (P : List Int) (ss : List ByteArray) (ap ai : Option Addr) (k : Nat) (T : Nat → Prop) (wr : World) : Prop where
  j : J T (P.take k) wr
  ints : Ints .i64 wr ap P
  strs : Strs wr ai ss
  tp : ∀ b o, ap = some ⟨b, o, none⟩ → T b
  ti : ∀ b o, ai = some ⟨b, o, none⟩ → T b
def EsR (J : (Nat → Prop) → List Int → World → Prop) (P : List Int) (ss : List ByteArray) (ap ai : Option Addr) (v : Value) (wr : World) : Prop :=
  ∃ (k : Nat) (T : Nat → Prop), k ≤ P.length ∧ v = .int .i64 k ∧ EsSt J P ss ap ai k T wr

set_option maxRecDepth 100000 in
set_option maxHeartbeats 4000000 in
theorem each_strs (a1 : Option Addr) (n1 c1 : Nat) (ss : List ByteArray) (a : Option Addr) (n cap : Nat) (zs : List Int) (B1 B2 : Nat) (R : Nat → Prop) (w : World) (hx : ss.length = n1) (hm1 : n1 ≤ 1048576) (hc1 : Strs w a1 ss) (hn : zs.length = n) (hlt : n ≤ 1048576) (hc : Ints .i8 w a zs)
    (h1 : w.cell? ⟨B1, 0, none⟩ = some (.slice a n cap)) (h2 : w.cell? ⟨B2, 0, none⟩ = some (.slice a1 n1 c1)) :
    SeqX Try.prog 55 #[.pointer (some ⟨B1, 0, none⟩), .pointer (some ⟨B2, 0, none⟩)] (encT ss) R (fun xs => xs = turnO ss zs) (fun pre => ∃ k, k < (turnO ss zs).length ∧ pre = (turnO ss zs).take (k + 1)) (turnO ss zs).length w := by
  intro l J Jx W hW hJ hJx hY h0
  refine callsIn_wide.2 ?_
  have HN := Lib.hid hn; clear hn
  have HX := Lib.hid hx; clear hx
  have HC := Lib.hid (hc.below hW (Nat.le_refl _)); clear hc
  have HC1 := Lib.hid (hc1.below hW (Nat.le_refl _)); clear hc1
  have HJ := Lib.hid hJ; clear hJ
  have HJx := Lib.hid hJx; clear hJx
  have HY := Lib.hid hY; clear hY
  have H0 := Lib.hid h0; clear h0
  have q1 : W.cell? ⟨B1, 0, none⟩ = some (.slice a n cap) := by rw [hW.cell (p := ⟨B1, 0, none⟩) (World.block_lt_of_cell? w _ h1)]; exact h1
  have q2 : W.cell? ⟨B2, 0, none⟩ = some (.slice a1 n1 c1) := by rw [hW.cell (p := ⟨B2, 0, none⟩) (World.block_lt_of_cell? w _ h2)]; exact h2
  clear h1 h2 hW
  go_enter Try.func55, Try.ntmps55
  go_wp2_with fail
  refine (vmay_walk a n cap zs _ HN.out hlt HC.out).mono ?_
  rintro e w' ⟨rfl, rfl⟩
  by_cases hok : okL zs = true
  · have HK := Lib.hid hok
    rw [show mayN zs = 0 from if_pos hok]
    clear hok
    by_cases hl : n1 = n
    · subst hl
      have hnn : ((n1 : Int) != (n1 : Int)) = false := by simp
      have HR0 := Lib.hid (show turnO ss zs = ord zs from if_pos ⟨HK.out, by rw [HX.out, HN.out]⟩)
      rw [HR0.out] at HY
      go_wp2_with fail
      refine (CloneS_walk a1 n1 c1 ss W HX.out hm1 HC1.out).mono ?_
      rintro e w1 ⟨ai, ci, rfl, ho, hb⟩
      have q1' : w1.cell? ⟨B1, 0, none⟩ = some (.slice a n1 cap) := by rw [hb.cell (p := ⟨B1, 0, none⟩) (World.block_lt_of_cell? W _ q1)]; exact q1
      have HO1 := Lib.hid ho; clear ho
      have HB1 := Lib.hid hb; clear hb q1 q2
      go_wp2_with fail
      refine (order_walk a n1 cap zs w1 HN.out hlt HK.out (HC.out.below HB1.out (Nat.le_refl _))).mono ?_
      rintro e w2 ⟨ap, m, cp, rfl, ho, hb⟩
      have hm3 := ho.lenI
      have HB2 := Lib.hid (below_seq HB1.out hb)
      have HO12 := Lib.hid (HO1.out.below hb (Nat.le_refl _))
      have hlm : m ≤ n1 := by have := ord_le zs; have := HN.out; omega
      obtain ⟨T0, hT0⟩ : ∃ T0 : Nat → Prop, T0 = fun k => W.heap.size ≤ k ∧ k < w2.heap.size := ⟨_, rfl⟩
      have HSt : Hid (EsSt J (ord zs) ss ap ai 0 T0 w2) := Lib.hid ⟨HJ.out _ _ _ _ _ H0.out (Off.of_below HB2.out) (fun k hk => by rw [hT0] at hk; exact .inr hk), ho.ints, HO12.out.strs,
        fun b o e => by rw [hT0]; have := World.ownsRow.lt ho b (by rw [e]; rfl); have h1 := HB1.out.size; exact ⟨by omega, this.2⟩,
        fun b o e => by rw [hT0]; exact World.ownsRow.lt HO12.out b (by rw [e]; rfl)⟩
      have HXo := Lib.hid (fun (k : Nat) (hk : k < (ord zs).length) => ord_nonneg zs k hk)
      have HM3 := Lib.hid hm3
      clear hb ho hT0 q1' HO1 HO12 hm3 hnn
      generalize ord zs = P at *
      go_wp2
      go_loopw [22] (EsR J P ss ap ai) (fun v _ => m - (intOf v).toNat)
      case atStart => exact ⟨0, _, Nat.zero_le _, rfl, HSt.out⟩
      case round =>
        obtain ⟨k, T, hk, rfl, hst⟩ := hrel
        have HST := Lib.hid hst; clear hst
        have hkm : k ≤ m := by rw [← HM3.out]; exact hk
        clear hk
        by_cases hlt : k < m
        · have hkl : k < P.length := by rw [HM3.out]; exact hlt
          obtain ⟨x, hxe, hxl⟩ := HXo.out k hkl
          have HTk := Lib.hid (show P.take (k + 1) = P.take k ++ [(x : Int)] by rw [List.take_succ_eq_append_getElem hkl, hxe])
          have hki : (k : Int) < (m : Int) := by omega
          have hx1 : x < ss.length := by have := HX.out; have := HN.out; omega
          have hxn : x < n1 := by have := HX.out; omega
          have hxi : (x : Int) < (n1 : Int) := by omega
          obtain ⟨b, o, ha⟩ := HST.out.ints.some (by omega)
          subst ha
          have r1 := HST.out.ints.get k hkl
          rw [hxe] at r1
          obtain ⟨b2, o2, ha⟩ := HST.out.strs.some (by omega)
          subst ha
          have r2 := HST.out.strs.get x hx1
          have HE := Lib.hid (show encT ss (x : Int) = #[.int .i64 (x : Nat), .string ss[x]] by unfold encT; simp [hx1])
          clear hxe hkl
          generalize ss[x] = sx at *
          clear hx1
          obtain ⟨fn, tmps, assign, body, hy, hR⟩ := HY.out T (P.take k) (x : Int) wr HST.out.j (by rw [List.length_take, HM3.out]; omega)
          rw [HE.out] at hy
          have HR := Lib.hid hR; clear hR
          go_upto_region 5 with (fail)
          refine (wpIn_wide (n := 2)).1 ?_
          gi_wp2
          refine HR.out.mono ?_
          rintro e W3 (⟨rfl, hJ3, hk3⟩ | ⟨rfl, hx3⟩)
          · rw [← HTk.out] at hJ3
            have HN3 : Hid (EsSt J P ss (some ⟨b, o, none⟩) (some ⟨b2, o2, none⟩) (k + 1) T W3) := Lib.hid ⟨hJ3, HST.out.ints.kept hk3 (fun b' o' e => .inl (HST.out.tp b' o' e)), HST.out.strs.kept hk3 (fun b' o' e => .inl (HST.out.ti b' o' e)), HST.out.tp, HST.out.ti⟩
            clear hJ3 hk3 hy r1 r2
            gi_wp2
            go_wp2
            go_roundw
            case rel => exact ⟨k + 1, T, by rw [HM3.out]; exact hlt, by go_num, HN3.out⟩
            case measure => simp [intOf]; omega
          · rw [← HTk.out] at hx3
            have HX3 := Lib.hid hx3
            clear hx3 hy r1 r2
            gi_wp2
            go_wp2
            refine bodyPost_ret (results_none rfl _ _ _) rfl ?_
            exact ⟨⟨_, rfl⟩, .inr ⟨T, _, ⟨k, by rw [HR0.out, HM3.out]; exact hlt, by rw [HR0.out]⟩, HX3.out⟩⟩
        · obtain rfl : k = m := by omega
          have HTk := Lib.hid (show P.take k = P from List.take_of_length_le (by rw [HM3.out]; exact Nat.le_refl _))
          go_wp2
          go_end0
          exact ⟨⟨_, rfl⟩, .inl ⟨T, P, HR0.out.symm, by have := HST.out.j; rw [HTk.out] at this; exact this⟩⟩
    · have hnn : ((n1 : Int) != (n : Int)) = true := by simpa using fun h => hl (by omega)
      have HR0 := Lib.hid (show turnO ss zs = [] from if_neg (fun h => hl (by rw [← HX.out, ← HN.out]; exact h.2)))
      go_wp2
      refine bodyPost_ret (results_none rfl _ _ _) rfl ?_
      exact ⟨⟨_, rfl⟩, .inl ⟨_, [], HR0.out.symm, H0.out⟩⟩
  · have HR0 := Lib.hid (show turnO ss zs = [] from if_neg (fun h => hok h.1))
    rw [show mayN zs = 2 from if_neg hok]
    go_wp2
    refine bodyPost_ret (results_none rfl _ _ _) rfl ?_
    exact ⟨⟨_, rfl⟩, .inl ⟨_, [], HR0.out.symm, H0.out⟩⟩
end Go.Proofs.Ytcgdhgdblieaiaa
