/-
  Walks: lists of texts turned, turned back, copied.
-/
import Derived.Test.YtcgdhgdblieaiaaM1
import Derived.Test.YtcgdhgdblieaiaaW8
set_option linter.unusedVariables false
namespace Go.Proofs.Ytcgdhgdblieaiaa
open Go.RowKit

def svs (ss : List ByteArray) : List Value := ss.map Value.string
def noS : ByteArray := { data := #[] }
theorem svs_length (ss : List ByteArray) : (svs ss).length = ss.length := by simp [svs]
theorem svs_append (a b : List ByteArray) : svs (a ++ b) = svs a ++ svs b := by simp [svs]
theorem svs_set (a : List ByteArray) (i : Nat) (s : ByteArray) : (svs a).set i (.string s) = svs (a.set i s) := by simp [svs, List.map_set]
theorem svs_one (ss : List ByteArray) : ∀ u ∈ svs ss, u.oneCell' = true := by
  intro u hu
  obtain ⟨_, _, rfl⟩ := List.mem_map.1 hu
  rfl
/-- in w the slice that begins at a reads as the texts ss -/
def Strs (w : World) (a : Option Addr) (ss : List ByteArray) : Prop := Vals w a (svs ss)
theorem Strs.some {w : World} {a : Option Addr} {ss : List ByteArray} (h : Strs w a ss) (hn : 0 < ss.length) : ∃ b o, a = Option.some ⟨b, o, none⟩ := by
  obtain ⟨b, o, e, _⟩ := h 0 (by rw [svs_length]; exact hn)
  exact ⟨b, o, e⟩
theorem Strs.get {w : World} {b o : Nat} {ss : List ByteArray} (h : Strs w (Option.some ⟨b, o, none⟩) ss) (i : Nat) (hi : i < ss.length) : w.cell? ⟨b, o + i, none⟩ = Option.some (.string ss[i]) := by
  obtain ⟨b', o', e, hc⟩ := h i (by rw [svs_length]; exact hi)
  simp only [Option.some.injEq, Addr.mk.injEq, and_true] at e
  obtain ⟨rfl, rfl⟩ := e
  rw [hc]
  simp [svs]
theorem Strs.below {w w' : World} {B : Nat} {a : Option Addr} {ss : List ByteArray} (h : Strs w a ss) (hb : Below B w w') (hB : w.heap.size ≤ B) : Strs w' a ss := by
  intro i hi
  obtain ⟨b, o, e, hc⟩ := h i hi
  have hl := World.block_lt_of_cell? w _ hc
  exact ⟨b, o, e, by rw [hb.cell (p := ⟨b, o + i, none⟩) (Nat.lt_of_lt_of_le hl hB)]; exact hc⟩
theorem Own.lenS {B : Nat} {E : TypeId} {w : World} {a : Option Addr} {n cap : Nat} {ss : List ByteArray} (h : Own B E w a n cap (svs ss)) : ss.length = n := by
  have := h.len
  rwa [svs_length] at this
theorem Own.strs {B : Nat} {E : TypeId} {w : World} {a : Option Addr} {n cap : Nat} {ss : List ByteArray} (h : Own B E w a n cap (svs ss)) : Strs w a ss := by
  intro i hi
  have hl := h.lenS
  rw [svs_length] at hi
  obtain ⟨g, rfl, _⟩ := h.at (by omega)
  exact ⟨g, 0, rfl, by rw [Nat.zero_add]; exact h.cell i (by rw [svs_length]; exact hi)⟩
theorem Try.elemStr : Elem Try.prog 39 9 (.string { data := #[] }) 16 := ⟨Try.underlying39, by kernel_rfl, by kernel_rfl⟩

def pickS (ss : List ByteArray) (o : List Int) : List ByteArray := o.map (fun i => ss.getD i.toNat noS)
theorem pickS_length (ss : List ByteArray) (o : List Int) : (pickS ss o).length = o.length := by simp [pickS]
theorem pickS_snoc (ss : List ByteArray) (o : List Int) (k : Nat) (h : k < o.length) : pickS ss (o.take (k + 1)) = pickS ss (o.take k) ++ [ss.getD o[k].toNat noS] := by
  rw [pickS, pickS, List.take_succ_eq_append_getElem h, List.map_append]; rfl
def lenC (n : Nat) (zs : List Int) (m : Nat) : Int := if okL zs = true then (if n = m then 0 else 220) else 2
def turnS (ss : List ByteArray) (zs : List Int) : List ByteArray := if okL zs = true ∧ ss.length = zs.length then pickS ss (ord zs) else []
def TurnSR (w : World) (ss : List ByteArray) (os : List Int) (v i : Value) (wr : World) : Prop :=
  ∃ k : Nat, k ≤ os.length ∧ i = .int .i64 k ∧ ∃ a' n' cap', v = .slice a' n' cap' ∧ Own w.heap.size 9 wr a' n' cap' (svs (pickS ss (os.take k))) ∧ Below w.heap.size w wr

set_option maxHeartbeats 1000000 in
/-- 'visual.Turn[string]' -/
theorem TurnS_walk (a1 : Option Addr) (n1 c1 : Nat) (ss : List ByteArray) (a : Option Addr) (n cap : Nat) (zs : List Int) (w : World) (hx : ss.length = n1) (hm1 : n1 ≤ 1048576) (hc1 : Strs w a1 ss) (hn : zs.length = n) (hlt : n ≤ 1048576) (hc : Ints .i8 w a zs) :
    Calls Try.prog 23 #[.slice a1 n1 c1, .slice a n cap] w fun e w' => ∃ a' n' cap', e = .returned (.tuple #[.slice a' n' cap', .int .i64 (lenC n1 zs n)]) ∧ Own w.heap.size 9 w' a' n' cap' (svs (turnS ss zs)) ∧ Below w.heap.size w w' := by
  have HN := Lib.hid hn; clear hn
  have HX := Lib.hid hx; clear hx
  go_enter Try.func23, Try.ntmps23
  go_wp2_with fail
  refine (vmay_walk a n cap zs _ HN.out hlt hc).mono ?_
  rintro e w' ⟨rfl, rfl⟩
  by_cases hok : okL zs = true
  · have HK := Lib.hid hok
    rw [show mayN zs = 0 from if_pos hok]
    clear hok
    by_cases hl : n1 = n
    · subst hl
      have hnn : ((n1 : Int) != (n1 : Int)) = false := by simp
      have HC0 := Lib.hid (show lenC n1 zs n1 = 0 by unfold lenC; rw [if_pos HK.out, if_pos rfl])
      have HR0 := Lib.hid (show turnS ss zs = pickS ss (ord zs) from if_pos ⟨HK.out, by rw [HX.out, HN.out]⟩)
      go_wp2_with fail
      refine (order_walk a n1 cap zs _ HN.out hlt HK.out hc).mono ?_
      rintro e w1 ⟨a2, n2, cap2, rfl, hown, hb⟩
      have hl2 : n2 ≤ n1 := by have := hown.lenI; have := ord_le zs; have := HN.out; omega
      have HO := Lib.hid hown; clear hown
      have HB := Lib.hid hb; clear hb
      go_wp2
      go_loopw [7, 23] (TurnSR w1 ss (ord zs)) (fun _ i _ => n2 - (intOf i).toNat)
      case atStart => exact ⟨0, Nat.zero_le _, rfl, none, 0, 0, rfl, Own.nil _ _ _, Below.refl _ _⟩
      case round =>
        obtain ⟨k, hk, rfl, a', n', cap', rfl, hown, hbel⟩ := hrel
        have hl := hown.lenS
        rw [pickS_length] at hl
        have hl' := HO.out.lenI
        have hn' : n' ≤ n2 := by have := List.length_take_le' k (ord zs); omega
        clear hl
        have HO1 := Lib.hid hown; clear hown
        have HB1 := Lib.hid hbel; clear hbel
        by_cases hlt : k < n2
        · have hko : k < (ord zs).length := by omega
          obtain ⟨x, hxe, hxl⟩ := ord_nonneg zs k hko
          obtain ⟨g, ha, _⟩ := HO.out.at (by omega)
          subst ha
          have e1 := (HO.out.ints.below HB1.out (Nat.le_refl _)).get k hko
          rw [hxe] at e1
          simp only [Nat.zero_add] at e1
          have hx1 : x < ss.length := by have := HX.out; have := HN.out; omega
          obtain ⟨b, o, ha⟩ := hc1.some (by omega)
          subst ha
          have e2 := ((hc1.below HB.out (Nat.le_refl _)).below HB1.out (Nat.le_refl _)).get x hx1
          have hxn : x < n1 := by have := HN.out; omega
          have HS := Lib.hid (pickS_snoc ss (ord zs) k hko)
          have HE := Lib.hid hxe; clear hxe
          have HL := Lib.hid hl'; clear hl'
          go_wp2_with (at_builtin; refine wpList_app1 Try.elemStr rfl (.tmp 27) (.tmp 32) rfl HO1.out HB1.out.size (by omega) (by omega) _ rfl _ rfl rfl ?_)
          intro a3 cap3 w3 hown3 hg
          have HO3 := Lib.hid hown3; clear hown3
          have HG := Lib.hid (HO1.out.app hg HB1.out.size); clear hg
          go_wp2
          go_roundw
          case rel =>
            refine ⟨k + 1, by have := HL.out; omega, by go_num, _, _, _, rfl, ?_, HB1.out.trans HG.out⟩
            rw [HS.out, HE.out, svs_append]
            have e : svs [ss.getD ((x : Int)).toNat noS] = [.string ss[x]] := by simp [svs, hx1]
            rw [e]
            exact HO3.out
          case measure => simp [intOf]; omega
        · have hk2 : (ord zs).take k = ord zs := List.take_of_length_le (by omega)
          clear hl'
          have HK2 := Lib.hid hk2; clear hk2
          go_wp2
          go_ret2
          refine ⟨_, _, _, by rw [HC0.out]; rfl, ?_, HB.out.trans (HB1.out.mono HB.out.size)⟩
          have := HO1.out
          rw [HK2.out] at this
          rw [HR0.out]
          exact this.mono HB.out.size
    · have hnn : ((n1 : Int) != (n : Int)) = true := by simpa using fun h => hl (by omega)
      have HC0 := Lib.hid (show lenC n1 zs n = 220 by unfold lenC; rw [if_pos HK.out, if_neg hl])
      have HR0 := Lib.hid (show turnS ss zs = [] from if_neg (fun h => hl (by rw [← HX.out, ← HN.out]; exact h.2)))
      go_wp2
      go_ret2
      exact ⟨_, _, _, by rw [HC0.out]; rfl, by rw [HR0.out]; exact Own.nil _ _ _, Below.refl _ _⟩
  · have HC0 := Lib.hid (show lenC n1 zs n = 2 from if_neg hok)
    have HR0 := Lib.hid (show turnS ss zs = [] from if_neg (fun h => hok h.1))
    rw [show mayN zs = 2 from if_neg hok]
    go_wp2
    go_ret2
    exact ⟨_, _, _, by rw [HC0.out]; rfl, by rw [HR0.out]; exact Own.nil _ _ _, Below.refl _ _⟩

def backSF (ss : List ByteArray) (zs : List Int) : List ByteArray := fillL (ord zs) (fun k => ss.getD k noS) (List.replicate zs.length noS) (ord zs).length
def backS (ss : List ByteArray) (zs : List Int) : List ByteArray := if okL zs = true ∧ ss.length = (ord zs).length then backSF ss zs else []
def BackSR (w : World) (g n : Nat) (o : List Int) (ss : List ByteArray) (base : List ByteArray) (m : Nat) (i : Value) (wr : World) : Prop :=
  ∃ k : Nat, k ≤ m ∧ i = .int .i64 k ∧ Own w.heap.size 9 wr (some ⟨g, 0, none⟩) n n (svs (fillL o (fun k => ss.getD k noS) base k)) ∧ Below w.heap.size w wr

set_option maxHeartbeats 1000000 in
/-- 'visual.Back[string]' -/
theorem BackS_walk (a1 : Option Addr) (n1 c1 : Nat) (ss : List ByteArray) (a : Option Addr) (n cap : Nat) (zs : List Int) (w : World) (hx : ss.length = n1) (hm1 : n1 ≤ 1048576) (hc1 : Strs w a1 ss) (hn : zs.length = n) (hlt : n ≤ 1048576) (hc : Ints .i8 w a zs) :
    Calls Try.prog 27 #[.slice a1 n1 c1, .slice a n cap] w fun e w' => ∃ a' n' cap', e = .returned (.tuple #[.slice a' n' cap', .int .i64 (lenC n1 zs (ord zs).length)]) ∧ Own w.heap.size 9 w' a' n' cap' (svs (backS ss zs)) ∧ Below w.heap.size w w' := by
  have HN := Lib.hid hn; clear hn
  have HX := Lib.hid hx; clear hx
  go_enter Try.func27, Try.ntmps27
  go_wp2_with fail
  refine (vmay_walk a n cap zs _ HN.out hlt hc).mono ?_
  rintro e w' ⟨rfl, rfl⟩
  by_cases hok : okL zs = true
  · have HK := Lib.hid hok
    rw [show mayN zs = 0 from if_pos hok]
    clear hok
    go_wp2_with fail
    refine (order_walk a n cap zs _ HN.out hlt HK.out hc).mono ?_
    rintro e w1 ⟨a2, m, cap2, rfl, hown, hb⟩
    have hml := hown.lenI
    have HO := Lib.hid hown; clear hown
    have HB := Lib.hid hb; clear hb
    have HM := Lib.hid hml
    have hl2 : m ≤ n := by have := ord_le zs; have := HN.out; omega
    clear hml
    by_cases hl : n1 = m
    · subst hl
      have hnn : ((n1 : Int) != (n1 : Int)) = false := by simp
      have HC0 := Lib.hid (show lenC n1 zs (ord zs).length = 0 by unfold lenC; rw [if_pos HK.out, if_pos HM.out.symm])
      have HR0 := Lib.hid (show backS ss zs = backSF ss zs from if_pos ⟨HK.out, by rw [HX.out, HM.out]⟩)
      go_wp2_with (at_make; refine wpList_mk Try.elemStr rfl rfl (.tmp 24) (.tmp 24) rfl n (by omega) (by unfold maxLen; omega) rfl rfl ?_)
      intro w3 hown3 hb3 _
      have HO3 := Lib.hid hown3; clear hown3
      have HB3 := Lib.hid hb3; clear hb3
      go_wp2
      go_loopw [28] (BackSR w1 w1.heap.size n (ord zs) ss (List.replicate n noS) n1) (fun i _ => n1 - (intOf i).toNat)
      case atStart => exact ⟨0, Nat.zero_le _, rfl, by simpa [fillL, svs, noS] using HO3.out, HB3.out⟩
      case round =>
        obtain ⟨k, hk, rfl, hown, hbel⟩ := hrel
        have HO7 := Lib.hid hown; clear hown
        have HB7 := Lib.hid hbel; clear hbel
        by_cases hkm : k < n1
        · have hko : k < (ord zs).length := by rw [HM.out]; exact hkm
          obtain ⟨x, hxe, hxl⟩ := ord_nonneg zs k hko
          obtain ⟨g2, ha, hg2, hg3, _⟩ := HO.out.at (by omega)
          subst ha
          have e1 := (HO.out.ints.below HB7.out (Nat.le_refl _)).get k hko
          rw [hxe] at e1
          simp only [Nat.zero_add] at e1
          have hxk : k < ss.length := by rw [HX.out]; exact hkm
          obtain ⟨b, o, ha⟩ := hc1.some (by omega)
          subst ha
          have e2 := ((hc1.below HB.out (Nat.le_refl _)).below HB7.out (Nat.le_refl _)).get k hxk
          have hxn : x < n := by have := HN.out; omega
          have fr := HO7.out.unfrozen x
          have cl : ∃ u, wr.cell? ⟨w1.heap.size, x, none⟩ = some u := ⟨_, HO7.out.cell x (by rw [HO7.out.len]; exact hxn)⟩
          obtain ⟨u, cl⟩ := cl
          have HE := Lib.hid hxe; clear hxe
          go_wp2
          go_roundw
          case rel =>
            refine ⟨k + 1, by omega, by go_num, ?_, HB7.out.trans ((Below.refl _ _).setCell (p := ⟨w1.heap.size, x, none⟩) (Nat.le_refl _) _)⟩
            have e : (fillL (ord zs) (fun k => ss.getD k noS) (List.replicate n noS) (k + 1)) = (fillL (ord zs) (fun k => ss.getD k noS) (List.replicate n noS) k).set x ss[k] := by
              rw [fillL, ord_getD zs k hko, HE.out]; simp [hxk]
            rw [e, ← svs_set]
            exact HO7.out.store x _
          case measure => simp [intOf]; omega
        · obtain rfl : n1 = k := by omega
          go_wp2
          go_ret2
          refine ⟨_, _, _, by rw [HC0.out]; rfl, ?_, HB.out.trans (HB7.out.mono HB.out.size)⟩
          have := HO7.out.mono HB.out.size
          rw [HR0.out]
          unfold backSF
          rw [HM.out, HN.out]
          exact this
    · have hnn : ((n1 : Int) != (m : Int)) = true := by simpa using fun h => hl (by omega)
      have HC0 := Lib.hid (show lenC n1 zs (ord zs).length = 220 by unfold lenC; rw [if_pos HK.out, if_neg (fun h => hl (by rw [h, HM.out]))])
      have HR0 := Lib.hid (show backS ss zs = [] from if_neg (fun h => hl (by rw [← HX.out, ← HM.out]; exact h.2)))
      go_wp2
      go_ret2
      exact ⟨_, _, _, by rw [HC0.out]; rfl, by rw [HR0.out]; exact Own.nil _ _ _, HB.out⟩
  · have HC0 := Lib.hid (show lenC n1 zs (ord zs).length = 2 from if_neg hok)
    have HR0 := Lib.hid (show backS ss zs = [] from if_neg (fun h => hok h.1))
    rw [show mayN zs = 2 from if_neg hok]
    go_wp2
    go_ret2
    exact ⟨_, _, _, by rw [HC0.out]; rfl, by rw [HR0.out]; exact Own.nil _ _ _, Below.refl _ _⟩

/-- 'slices.Clone' of texts -/
theorem CloneS_walk (a : Option Addr) (n cap : Nat) (ss : List ByteArray) (w : World) (hn : ss.length = n) (hlt : n ≤ 1048576) (hc : Strs w a ss) :
    Calls Try.prog 56 #[.slice a n cap] w fun e w' => ∃ a' cap', e = .returned (.slice a' n cap') ∧ Own w.heap.size 9 w' a' n cap' (svs ss) ∧ Below w.heap.size w w' := by
  cases a with
  | none =>
    have hz : ss = [] := by
      cases ss with
      | nil => rfl
      | cons y t => obtain ⟨b, o, hbad⟩ := hc.some (by simp); simp at hbad
    subst hz
    obtain rfl : n = 0 := by simpa using hn.symm
    have hnil : ∀ w : World, (binOp .eql 39 (.slice none 0 cap) (.slice none 0 0)).run Try.prog w = .ok (.bool true) w := fun w => Lib.run_eql_slice_nil w _ _ _ _ _ _ _ Try.underlying39
    clear hn
    go_enter Try.func56, Try.ntmps56
    go_wp2
    go_ret
    exact ⟨_, _, rfl, Own.nil _ _ _, Below.refl _ _⟩
  | some ad =>
    have hnil : ∀ w : World, (binOp .eql 39 (.slice (some ad) n cap) (.slice none 0 0)).run Try.prog w = .ok (.bool false) w := fun w => Lib.run_eql_slice_nil w _ _ _ _ _ _ _ Try.underlying39
    have HN := Lib.hid hn; clear hn
    have HO : Hid (Own w.heap.size 9 (w.alloc (.cells #[] 9)) (some ⟨w.heap.size, 0, none⟩) 0 0 []) := Lib.hid (Own.lit w #[] (Nat.le_refl _) (Nat.zero_le _))
    have HV := Lib.hid (hc.below ((Below.refl _ w).alloc (Nat.le_refl _) (.cells #[] 9)) (Nat.le_refl _))
    go_enter Try.func56, Try.ntmps56
    go_wp2_with (at_builtin; refine wpList_appS Try.elemStr rfl (.tmp 5) (.tmp 6) rfl HO.out (by simp) (by rw [svs_length]; exact HN.out) HV.out (by simp) (svs_one _) (by omega) (by unfold maxLen; omega) rfl rfl ?_)
    intro a2 cap2 w2 hown2 hg hb
    have hB : Below w.heap.size w w2 := ((Below.refl _ w).alloc (Nat.le_refl _) (.cells #[] 9)).trans (HO.out.app hg (by simp))
    have HB := Lib.hid hB; clear hB hg hb
    have HO2 : Hid (Own w.heap.size 9 w2 a2 n cap2 (svs ss)) := by
      refine Lib.hid ?_
      simpa using hown2
    clear hown2
    go_wp2
    go_ret
    exact ⟨_, _, rfl, HO2.out, HB.out⟩
end Go.Proofs.Ytcgdhgdblieaiaa
