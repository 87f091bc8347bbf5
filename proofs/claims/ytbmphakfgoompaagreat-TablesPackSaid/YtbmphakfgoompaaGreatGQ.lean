/- several texts in one: UQ1 UQ2 UQ3 UT0 UQ4 -/
import Derived.Deep.RegionLaw
import Derived.Test.YtbmphakfgoompaaGreatG3
import Derived.StillTailTactics
import Derived.RegionTactic
import Derived.BigRegion
import Derived.Deep.RegionHeld3
set_option linter.unusedVariables false
set_option linter.unusedSimpArgs false
/-
 What lists make: the walks of the document's props.
-/
namespace Go.Proofs.YtbmphakfgoompaaGreat
open Go.RowKit

/-- what the last one of a list that holds says -/
def lastF {α β : Type} (p : α → Bool) (v : α → β) (z : β) (l : List α) : β := l.foldl (fun acc s => if p s = true then v s else acc) z
theorem lastF_keep {α β : Type} {p : α → Bool} {v : α → β} {z : β} : ∀ {l : List α}, (∀ s ∈ l, p s = false) → lastF p v z l = z
 | [], _ => rfl
 | s :: l, h => by
  unfold lastF
  rw [List.foldl_cons, if_neg (by rw [h s (by simp)]; simp)]
  exact lastF_keep (l := l) (fun s hs => h s (by simp [hs]))
theorem lastF_none {α β : Type} {p : α → Bool} {v : α → β} {z : β} {l : List α} (h : ∀ j, (hj : j < l.length) → p l[j] = false) : lastF p v z l = z :=
 lastF_keep (fun s hs => by obtain ⟨j, hj, rfl⟩ := List.mem_iff_getElem.1 hs; exact h j hj)
theorem lastF_at {α β : Type} {p : α → Bool} {v : α → β} {z : β} {l : List α} {i : Nat} (hi : i < l.length) (hp : p l[i] = true) (h : ∀ j, i < j → (hj : j < l.length) → p l[j] = false) : lastF p v z l = v l[i] := by
 have e : l = l.take i ++ l[i] :: l.drop (i + 1) := by
  rw [← List.drop_eq_getElem_cons hi, List.take_append_drop]
 have h2 : ∀ (a : β), lastF p v a (l.drop (i + 1)) = a := fun a => lastF_keep (fun s hs => by
  obtain ⟨j, hj, rfl⟩ := List.mem_iff_getElem.1 hs
  rw [List.getElem_drop]
  exact h _ (by omega) (by rw [List.length_drop] at hj; omega))
 have h3 : lastF p v z l = lastF p v z (l.take i ++ l[i] :: l.drop (i + 1)) := by rw [← e]
 rw [h3]
 unfold lastF
 rw [List.foldl_append, List.foldl_cons, if_pos hp]
 exact h2 _
theorem lastF_snoc {α β : Type} (p : α → Bool) (v : α → β) (z : β) (l : List α) (s : α) : lastF p v z (l ++ [s]) = if p s = true then v s else lastF p v z l := by
 unfold lastF
 rw [List.foldl_append]
 rfl
theorem clsF_last (rest : Int) (l : List SpanD) (x : Int) : clsF rest l x = lastF (fun s => decide (s.f ≤ x ∧ x ≤ s.t)) (fun s => s.v) rest l := by
 unfold clsF lastF
 congr 1
 funext acc s
 simp

/-- what lists make: an entry of lists -/
structure MadeD where
 rest : Int
 l1 : List SpanD
 l2 : List SpanD
 l3 : List TwD
 l4 : List TwD
def brG (l : List SpanD) (x : Int) : Int × Int := lastF (fun s => s.f == x) (fun s => (s.t, s.v)) (0, 0) l
def twG (l : List TwD) (x : Int) : Int × Bool := lastF (fun s => s.a == x) (fun s => (s.s, true)) (0, false) l
def MadeD.cls (D : MadeD) (r : Nat) : Int := clsF D.rest D.l1 (r : Nat)
def MadeD.oth (D : MadeD) (r : Nat) : Int := (brG D.l2 (r : Nat)).1
def MadeD.side (D : MadeD) (r : Nat) : Int := (brG D.l2 (r : Nat)).2
def MadeD.twin (D : MadeD) (r : Nat) : Int := if (twG D.l3 (r : Nat)).2 = true then (twG D.l3 (r : Nat)).1 else (r : Nat)
def MadeD.mir (D : MadeD) (r : Nat) : Int := (twG D.l4 (r : Nat)).1
def MadeD.has (D : MadeD) (r : Nat) : Bool := (twG D.l4 (r : Nat)).2
/-- lists in memory, and the row that holds them -/
structure MadeSl (w : World) (D : MadeD) (a1 : Option Addr) (n1 c1 : Nat) (a2 : Option Addr) (n2 c2 : Nat) (a3 : Option Addr) (n3 c3 : Nat) (a4 : Option Addr) (n4 c4 : Nat) : Prop where
 h1 : D.l1.length = n1
 h2 : D.l2.length = n2
 h3 : D.l3.length = n3
 h4 : D.l4.length = n4
 b1 : n1 ≤ 1048576
 b2 : n2 ≤ 1048576
 b3 : n3 ≤ 1048576
 b4 : n4 ≤ 1048576
 s1 : SpansAt w a1 D.l1
 s2 : SpansAt w a2 D.l2
 s3 : TwAt w a3 D.l3
 s4 : TwAt w a4 D.l4
def MadeAt (w : World) (pm : Nat) (D : MadeD) : Prop :=
 ∃ a1 n1 c1 a2 n2 c2 a3 n3 c3 a4 n4 c4, w.heap[pm]? = some (.cells #[.int .u8 D.rest, .slice a1 n1 c1, .slice a2 n2 c2, .slice a3 n3 c3, .slice a4 n4 c4] 27 (0, 0)) ∧ MadeSl w D a1 n1 c1 a2 n2 c2 a3 n3 c3 a4 n4 c4
theorem MadeSl.below {w w' : World} {D : MadeD} {a1 : Option Addr} {n1 c1 : Nat} {a2 : Option Addr} {n2 c2 : Nat} {a3 : Option Addr} {n3 c3 : Nat} {a4 : Option Addr} {n4 c4 : Nat} (h : MadeSl w D a1 n1 c1 a2 n2 c2 a3 n3 c3 a4 n4 c4) (hb : Below w.heap.size w w') :
  MadeSl w' D a1 n1 c1 a2 n2 c2 a3 n3 c3 a4 n4 c4 := ⟨h.h1, h.h2, h.h3, h.h4, h.b1, h.b2, h.b3, h.b4, h.s1.keep hb, h.s2.keep hb, h.s3.keep hb, h.s4.keep hb⟩
theorem MadeAt.below {w w' : World} {pm : Nat} {D : MadeD} (h : MadeAt w pm D) (hb : Below w.heap.size w w') : MadeAt w' pm D := by
 obtain ⟨a1, n1, c1, a2, n2, c2, a3, n3, c3, a4, n4, c4, h1, h2⟩ := h
 exact ⟨a1, n1, c1, a2, n2, c2, a3, n3, c3, a4, n4, c4, (hb.block pm (Array.getElem?_eq_some_iff.1 h1).1).trans h1, h2.below hb⟩

theorem plain_walk (r : Int) (w : World) : Calls Tryz.prog 108 #[.int .i32 r] w fun e w' => e = .returned (.int .i32 (runeR r : Nat)) ∧ w' = w := by
 by_cases h1 : r < 0
 ·have e : runeR r = 65533 := if_pos (.inl h1)
  rw [e]
  go_enter Tryz.func108, Tryz.ntmps108
  go_wp2
  go_ret
  exact ⟨rfl, rfl⟩
 ·by_cases h2 : 1114111 < r
  ·have e : runeR r = 65533 := if_pos (.inr h2)
   rw [e]
   go_enter Tryz.func108, Tryz.ntmps108
   go_wp2
   go_ret
   exact ⟨rfl, rfl⟩
  ·have e : ((runeR r : Nat) : Int) = r := runeR_in ⟨by omega, by omega⟩
   rw [e]
   go_enter Tryz.func108, Tryz.ntmps108
   go_wp2
   go_ret
   exact ⟨rfl, rfl⟩
/-- going down a list: what lies from k on has not held -/
def DnR (w : World) (n : Nat) (no : Nat → Prop) (iv : Value) (wr : World) : Prop :=
 ∃ k : Nat, k ≤ n ∧ iv = .int .i64 ((k : Int) - 1) ∧ (∀ j, k ≤ j → j < n → no j) ∧ Below w.heap.size w wr

set_option maxRecDepth 100000 in
set_option maxHeartbeats 1600000 in
theorem row14_walk (a : Option Addr) (n c : Nat) (l : List TwD) (r : Int) (w : World) (hl : l.length = n) (hn : n ≤ 1048576) (hs : TwAt w a l) :
  Calls Tryz.prog 109 #[.slice a n c, .int .i32 r] w fun e w' => e = .returned (.tuple #[.int .i32 (twG l r).1, .bool (twG l r).2]) ∧ Below w.heap.size w w' := by
 have HL := Lib.hid hl; clear hl
 have HS := Lib.hid hs; clear hs
 have HB := Lib.hid (Below.refl w.heap.size w)
 go_enter Tryz.func109, Tryz.ntmps109
 go_wp2
 go_loopw [6] (DnR w n (fun j => ((l.getD j default).a == r) = false)) (fun i _ => ((intOf i) + 1).toNat)
 case atStart => exact ⟨n, Nat.le_refl _, by go_num, fun j h1 h2 => by omega, HB.out⟩
 case round =>
  obtain ⟨k, hk, rfl, hno, hb⟩ := hrel
  have HNo := Lib.hid hno; clear hno
  have HBe := Lib.hid hb; clear hb
  by_cases hk0 : k = 0
  ·subst hk0
   have HF : Hid (twG l r = (0, false)) := Lib.hid (lastF_none (fun j hj => by
    have : ((l.getD j default).a == r) = false := HNo.out j (Nat.zero_le _) (by have := HL.out; omega)
    rwa [show l.getD j default = l[j] by simp [hj]] at this))
   have hki : ¬ (0 : Int) ≤ ((0 : Nat) : Int) - 1 := by omega
   go_wp2
   refine bodyPost_ret (v := .tuple #[.int .i32 0, .bool false]) (by simp [results, Tryz.results109, go_sem]) rfl ?_
   exact ⟨by rw [HF.out], HBe.out⟩
  ·obtain ⟨m, rfl⟩ : ∃ m, k = m + 1 := ⟨k - 1, by omega⟩
   have hki : (((m + 1 : Nat) : Int) - 1) = (m : Int) := by omega
   rw [hki]
   have hm0 : (0 : Int) ≤ (m : Int) := by omega
   have hmn : (m : Int) < (n : Int) := by omega
   have hml : m < l.length := by rw [HL.out]; omega
   obtain ⟨b, o, ha⟩ := HS.out.some (by omega)
   subst ha
   obtain ⟨c1, c2⟩ := (HS.out.keep HBe.out).get m hml
   have HG := Lib.hid (show l.getD m default = l[m] by simp [hml])
   have HAt := Lib.hid (fun (h : (l[m].a == r) = true) => (show twG l r = (l[m].s, true) from lastF_at hml h (fun j h1 h2 => by
    have : ((l.getD j default).a == r) = false := HNo.out j (by omega) (by have := HL.out; omega)
    rwa [show l.getD j default = l[j] by simp [h2]] at this)))
   obtain ⟨s, hs⟩ : ∃ s, s = l[m] := ⟨_, rfl⟩
   rw [← hs] at c1 c2 HG HAt
   clear hs hki hk0
   by_cases hq : s.a = r
   ·have HE := Lib.hid (HAt.out (beq_iff_eq.2 hq))
    have hd : (s.a == r) = true := beq_iff_eq.2 hq
    clear hq
    go_wp2
    refine bodyPost_ret (v := .tuple #[.int .i32 s.s, .bool true]) (by simp [results, Tryz.results109, go_sem]) rfl ?_
    exact ⟨by rw [HE.out], HBe.out⟩
   ·have hd : (s.a == r) = false := beq_false_of_ne hq
    have HD := Lib.hid hd
    clear hq
    go_wp2
    go_roundw
    case rel => exact ⟨m, by omega, by go_num, fun j h1 h2 => by
     by_cases e : j = m
     ·show ((l.getD j default).a == r) = false
      rw [e, HG.out]; exact HD.out
     ·exact HNo.out j (by omega) h2, HBe.out⟩
    case measure => simp [intOf] <;> omega

set_option maxRecDepth 100000 in
set_option maxHeartbeats 1600000 in
theorem mTwin_walk (w : World) (pm : Nat) (D : MadeD) (h : MadeAt w pm D) (r : Int) :
  Calls Tryz.prog 68 #[.pointer (some ⟨pm, 0, none⟩), .int .i32 r] w fun e w' => e = .returned (.int .i32 (D.twin (runeR r))) ∧ Below w.heap.size w w' := by
 obtain ⟨a1, n1, c1, a2, n2, c2, a3, n3, c3, a4, n4, c4, hr, hm⟩ := h
 have q0 := cell_of_row w pm 3 _ _ (0, 0) hr
 simp at q0
 have HP := Lib.hid (plain_walk r w)
 have HR := Lib.hid (row14_walk a3 n3 c3 D.l3 (runeR r : Nat) w hm.h3 hm.b3 hm.s3)
 have HT := Lib.hid (show D.twin (runeR r) = if (twG D.l3 (runeR r : Nat)).2 = true then (twG D.l3 (runeR r : Nat)).1 else (runeR r : Nat) from rfl)
 clear hr hm
 generalize twG D.l3 (runeR r : Nat) = x at *
 generalize runeR r = q at *
 obtain ⟨x, b⟩ := x
 go_enter Tryz.func68, Tryz.ntmps68
 go_wp2_with fail
 refine HP.out.mono ?_
 rintro e w1 ⟨rfl, h1⟩
 subst h1
 go_wp2_with fail
 refine HR.out.mono ?_
 rintro e w2 ⟨rfl, hb⟩
 have HB := Lib.hid hb; clear hb
 cases b
 ·go_wp2
  go_ret
  exact ⟨by rw [HT.out]; rfl, HB.out⟩
 ·go_wp2
  go_ret
  exact ⟨by rw [HT.out]; rfl, HB.out⟩

set_option maxRecDepth 100000 in
set_option maxHeartbeats 1600000 in
theorem mMirror_walk (w : World) (pm : Nat) (D : MadeD) (h : MadeAt w pm D) (r : Int) :
  Calls Tryz.prog 69 #[.pointer (some ⟨pm, 0, none⟩), .int .i32 r] w fun e w' => e = .returned (.tuple #[.int .i32 (D.mir (runeR r)), .bool (D.has (runeR r))]) ∧ Below w.heap.size w w' := by
 obtain ⟨a1, n1, c1, a2, n2, c2, a3, n3, c3, a4, n4, c4, hr, hm⟩ := h
 have q0 := cell_of_row w pm 4 _ _ (0, 0) hr
 simp at q0
 have HP := Lib.hid (fun q : Regrown => Go.Calls.regrown_of ((plain_walk r (Go.Sort.grow (redrawn w q.d) q.os)).mono fun e w' h => (show e = .returned (.int .i32 (runeR r : Nat)) ∧ Below _ _ w' from ⟨h.1, by rw [h.2]; exact Below.refl _ _⟩)))
 have HR := Lib.hid (fun q : Regrown => Go.Calls.regrown_of (row14_walk a4 n4 c4 D.l4 (runeR r : Nat) (Go.Sort.grow (redrawn w q.d) q.os) hm.h4 hm.b4 (hm.s4.keep (below_regrown w q.d q.os))))
 have HT := Lib.hid (show D.mir (runeR r) = (twG D.l4 (runeR r : Nat)).1 ∧ D.has (runeR r) = (twG D.l4 (runeR r : Nat)).2 from ⟨rfl, rfl⟩)
 have g0 := fun d os => cell_regrown q0 d os
 clear hr hm q0
 generalize twG D.l4 (runeR r : Nat) = x at *
 generalize runeR r = q at *
 obtain ⟨x, b⟩ := x
 go_enter Tryz.func69, Tryz.ntmps69
 go_upto_region 1 with (fail)
 refine wp_region_quiet_below (by kernel_rfl) (by kernel_rfl) ?_
 iterate 5 (go_big_quiet_step (fail))
 go_big_quiet_step (exact HP.out _)
 go_big_quiet_step (exact HR.out _)
 iterate 4 (go_big_quiet_step (fail))
 refine wpQuiet_nil ?_
 intro _ hw'
 obtain ⟨⟨dq, osq⟩, hw''⟩ := hw'
 subst hw''
 have hb := below_regrown w dq osq
 have HB := Lib.hid hb
 generalize Go.Sort.grow (redrawn w dq) osq = w9 at *
 clear hb g0
 go_wp2
 refine bodyPost_ret (v := .tuple #[.int .i32 x, .bool b]) (by simp [results, Tryz.results69, go_sem]) rfl ?_
 exact ⟨by rw [HT.out.1, HT.out.2], HB.out⟩

set_option maxRecDepth 100000 in
set_option maxHeartbeats 1600000 in
theorem mBracket_walk (w : World) (pm : Nat) (D : MadeD) (h : MadeAt w pm D) (r : Int) :
  Calls Tryz.prog 67 #[.pointer (some ⟨pm, 0, none⟩), .int .i32 r] w fun e w' => e = .returned (.tuple #[.int .i32 (D.oth (runeR r)), .int .u8 (D.side (runeR r))]) ∧ Below w.heap.size w w' := by
 have HMd := Lib.hid h
 obtain ⟨a1, n1, c1, a, n, c, a3, n3, c3, a4, n4, c4, hr, hm⟩ := h
 have q0 := cell_of_row w pm 2 _ _ (0, 0) hr
 simp at q0
 have HP := Lib.hid (plain_walk r w)
 have HT := Lib.hid (show D.oth (runeR r) = (brG D.l2 (runeR r : Nat)).1 ∧ D.side (runeR r) = (brG D.l2 (runeR r : Nat)).2 from ⟨rfl, rfl⟩)
 have HL := Lib.hid hm.h2
 have HS := Lib.hid hm.s2
 have hn := hm.b2
 have HR := Lib.hid hr
 clear hr hm
 obtain ⟨l, hl⟩ : ∃ l, l = D.l2 := ⟨_, rfl⟩
 rw [← hl] at HT HL HS
 clear hl
 generalize runeR r = q at *
 have HB := Lib.hid (Below.refl w.heap.size w)
 go_enter Tryz.func67, Tryz.ntmps67
 go_wp2_with fail
 refine HP.out.mono ?_
 rintro e w1 ⟨rfl, h1⟩
 subst h1
 clear HP
 obtain ⟨w, rfl⟩ : ∃ w, w = w1 := ⟨_, rfl⟩
 go_wp2
 go_loopw [6] (DnR w n (fun j => ((l.getD j default).f == (q : Nat)) = false)) (fun i _ => ((intOf i) + 1).toNat)
 case atStart => exact ⟨n, Nat.le_refl _, by go_num, fun j h1 h2 => by omega, HB.out⟩
 case round =>
  obtain ⟨k, hk, rfl, hno, hb⟩ := hrel
  have HNo := Lib.hid hno; clear hno
  have q1 := (hb.cell (p := ⟨pm, 2, none⟩) (World.block_lt_of_cell? w _ q0)).trans q0
  have HBe := Lib.hid hb; clear hb
  by_cases hk0 : k = 0
  ·subst hk0
   have HF : Hid (brG l (q : Nat) = (0, 0)) := Lib.hid (lastF_none (fun j hj => by
    have : ((l.getD j default).f == (q : Nat)) = false := HNo.out j (Nat.zero_le _) (by have := HL.out; omega)
    rwa [show l.getD j default = l[j] by simp [hj]] at this))
   have hki : ¬ (0 : Int) ≤ ((0 : Nat) : Int) - 1 := by omega
   go_wp2
   refine bodyPost_ret (v := .tuple #[.int .i32 0, .int .u8 0]) (by simp [results, Tryz.results67, go_sem]) rfl ?_
   exact ⟨by rw [HT.out.1, HT.out.2, HF.out], HBe.out⟩
  ·obtain ⟨m, rfl⟩ : ∃ m, k = m + 1 := ⟨k - 1, by omega⟩
   have hki : (((m + 1 : Nat) : Int) - 1) = (m : Int) := by omega
   rw [hki]
   have hm0 : (0 : Int) ≤ (m : Int) := by omega
   have hmn : (m : Int) < (n : Int) := by omega
   have hml : m < l.length := by rw [HL.out]; omega
   obtain ⟨b, o, ha⟩ := HS.out.some (by omega)
   subst ha
   obtain ⟨c1, c2, c3⟩ := (HS.out.keep HBe.out).get m hml
   have HG := Lib.hid (show l.getD m default = l[m] by simp [hml])
   have HAt := Lib.hid (fun (h : (l[m].f == (q : Nat)) = true) => (show brG l (q : Nat) = (l[m].t, l[m].v) from lastF_at hml h (fun j h1 h2 => by
    have : ((l.getD j default).f == (q : Nat)) = false := HNo.out j (by omega) (by have := HL.out; omega)
    rwa [show l.getD j default = l[j] by simp [h2]] at this)))
   obtain ⟨s, hs⟩ : ∃ s, s = l[m] := ⟨_, rfl⟩
   rw [← hs] at c1 c2 c3 HG HAt
   clear hs hki hk0
   by_cases hq : s.f = (q : Nat)
   ·have HE := Lib.hid (HAt.out (beq_iff_eq.2 hq))
    have hd : (s.f == (q : Int)) = true := beq_iff_eq.2 hq
    clear hq
    go_wp2
    go_quiet (fail)
    go_wp2
    refine bodyPost_ret (v := .tuple #[.int .i32 s.t, .int .u8 s.v]) (by simp [results, Tryz.results67, go_sem]) rfl ?_
    exact ⟨by rw [HT.out.1, HT.out.2, HE.out], below_drewN HBe.out _⟩
   ·have hd : (s.f == (q : Int)) = false := beq_false_of_ne hq
    have HD := Lib.hid hd
    clear hq
    go_wp2
    go_roundw
    case rel => exact ⟨m, by omega, by go_num, fun j h1 h2 => by
     by_cases e : j = m
     ·show ((l.getD j default).f == (q : Nat)) = false
      rw [e, HG.out]; exact HD.out
     ·exact HNo.out j (by omega) h2, HBe.out⟩
    case measure => simp [intOf] <;> omega

set_option maxRecDepth 100000 in
set_option maxHeartbeats 1600000 in
theorem mClass_walk (w : World) (pm : Nat) (D : MadeD) (h : MadeAt w pm D) (r : Int) :
  Calls Tryz.prog 66 #[.pointer (some ⟨pm, 0, none⟩), .int .i32 r] w fun e w' => e = .returned (.int .u8 (D.cls (runeR r))) ∧ Below w.heap.size w w' := by
 obtain ⟨a, n, c, a2, n2, c2, a3, n3, c3, a4, n4, c4, hr, hm⟩ := h
 have q0 := cell_of_row w pm 1 _ _ (0, 0) hr
 have q5 := cell_of_row w pm 0 _ _ (0, 0) hr
 simp at q0 q5
 have HP := Lib.hid (plain_walk r w)
 have HT := Lib.hid (show D.cls (runeR r) = lastF (fun s : SpanD => decide (s.f ≤ ((runeR r : Nat) : Int) ∧ ((runeR r : Nat) : Int) ≤ s.t)) (fun s => s.v) D.rest D.l1 from clsF_last _ _ _)
 have HL := Lib.hid hm.h1
 have HS := Lib.hid hm.s1
 have hn := hm.b1
 clear hr hm
 obtain ⟨l, hl⟩ : ∃ l, l = D.l1 := ⟨_, rfl⟩
 rw [← hl] at HT HL HS
 clear hl
 generalize D.rest = rest at *
 generalize runeR r = q at *
 have HB := Lib.hid (Below.refl w.heap.size w)
 go_enter Tryz.func66, Tryz.ntmps66
 go_wp2_with fail
 refine HP.out.mono ?_
 rintro e w1 ⟨rfl, h1⟩
 subst h1
 clear HP
 obtain ⟨w, rfl⟩ : ∃ w, w = w1 := ⟨_, rfl⟩
 go_wp2
 go_loopw [5] (DnR w n (fun j => decide ((l.getD j default).f ≤ ((q : Nat) : Int) ∧ ((q : Nat) : Int) ≤ (l.getD j default).t) = false)) (fun i _ => ((intOf i) + 1).toNat)
 case atStart => exact ⟨n, Nat.le_refl _, by go_num, fun j h1 h2 => by omega, HB.out⟩
 case round =>
  obtain ⟨k, hk, rfl, hno, hb⟩ := hrel
  have HNo := Lib.hid hno; clear hno
  have q1 := (hb.cell (p := ⟨pm, 1, none⟩) (World.block_lt_of_cell? w _ q0)).trans q0
  have q6 := (hb.cell (p := ⟨pm, 0, none⟩) (World.block_lt_of_cell? w _ q5)).trans q5
  have HBe := Lib.hid hb; clear hb
  by_cases hk0 : k = 0
  ·subst hk0
   have HF : Hid (lastF (fun s : SpanD => decide (s.f ≤ ((q : Nat) : Int) ∧ ((q : Nat) : Int) ≤ s.t)) (fun s => s.v) rest l = rest) := Lib.hid (lastF_none (fun j hj => by
    have : decide ((l.getD j default).f ≤ ((q : Nat) : Int) ∧ ((q : Nat) : Int) ≤ (l.getD j default).t) = false := HNo.out j (Nat.zero_le _) (by have := HL.out; omega)
    rwa [show l.getD j default = l[j] by simp [hj]] at this))
   have hki : ¬ (0 : Int) ≤ ((0 : Nat) : Int) - 1 := by omega
   go_wp2
   go_ret
   exact ⟨ret_eq (congrArg (Value.int .u8) ((HT.out.trans HF.out).symm)), HBe.out⟩
  ·obtain ⟨m, rfl⟩ : ∃ m, k = m + 1 := ⟨k - 1, by omega⟩
   have hki : (((m + 1 : Nat) : Int) - 1) = (m : Int) := by omega
   rw [hki]
   have hm0 : (0 : Int) ≤ (m : Int) := by omega
   have hmn : (m : Int) < (n : Int) := by omega
   have hml : m < l.length := by rw [HL.out]; omega
   obtain ⟨b, o, ha⟩ := HS.out.some (by omega)
   subst ha
   obtain ⟨c1, c2, c3⟩ := (HS.out.keep HBe.out).get m hml
   have HG := Lib.hid (show l.getD m default = l[m] by simp [hml])
   have HAt := Lib.hid (fun (h : decide (l[m].f ≤ ((q : Nat) : Int) ∧ ((q : Nat) : Int) ≤ l[m].t) = true) => (show lastF (fun s : SpanD => decide (s.f ≤ ((q : Nat) : Int) ∧ ((q : Nat) : Int) ≤ s.t)) (fun s => s.v) rest l = l[m].v from lastF_at hml h (fun j h1 h2 => by
    have : decide ((l.getD j default).f ≤ ((q : Nat) : Int) ∧ ((q : Nat) : Int) ≤ (l.getD j default).t) = false := HNo.out j (by omega) (by have := HL.out; omega)
    rwa [show l.getD j default = l[j] by simp [h2]] at this)))
   obtain ⟨s, hs⟩ : ∃ s, s = l[m] := ⟨_, rfl⟩
   rw [← hs] at c1 c2 c3 HG HAt
   clear hs hki hk0
   have a1 := heap_alloc_new wr (.cells #[.int .i32 s.f, .int .i32 s.t, .int .u8 s.v] 63)
   have b1 := (Below.refl _ wr).alloc (Nat.le_refl _) (.cells #[.int .i32 s.f, .int .i32 s.t, .int .u8 s.v] 63)
   have HW1 := Lib.hid (And.intro a1 b1)
   clear a1 b1
   go_upto_region 6 with (fail)
   obtain ⟨a1, b1⟩ := HW1.out
   clear HW1
   obtain ⟨bx, hbx⟩ : ∃ bx, bx = wr.heap.size := ⟨_, rfl⟩
   rw [← hbx] at a1 ⊢
   generalize wr.alloc (.cells #[.int .i32 s.f, .int .i32 s.t, .int .u8 s.v] 63) = w1 at *
   have HBe1 := Lib.hid (HBe.out.trans (b1.mono HBe.out.size))
   have d0 := cell_of_row w1 bx 0 _ _ (0, 0) a1
   have d1 := cell_of_row w1 bx 1 _ _ (0, 0) a1
   have d2 := cell_of_row w1 bx 2 _ _ (0, 0) a1
   simp at d0 d1 d2
   clear a1 b1 hbx c1 c2 c3 q1 q6
   by_cases hq1 : s.f ≤ ((q : Nat) : Int)
   ·by_cases hq2 : ((q : Nat) : Int) ≤ s.t
    ·have HE := Lib.hid (HAt.out (decide_eq_true ⟨hq1, hq2⟩))
     go_wp2
     go_ret
     exact ⟨ret_eq (congrArg (Value.int .u8) ((HT.out.trans HE.out).symm)), HBe1.out⟩
    ·have HD := Lib.hid hq2
     go_wp2
     go_roundw
     case rel => exact ⟨m, by omega, by go_num, fun j h1 h2 => by
      by_cases e : j = m
      ·show decide ((l.getD j default).f ≤ ((q : Nat) : Int) ∧ ((q : Nat) : Int) ≤ (l.getD j default).t) = false
       rw [e, HG.out]; exact decide_eq_false (fun h => HD.out h.2)
      ·exact HNo.out j (by omega) h2, HBe1.out⟩
     case measure => simp [intOf] <;> omega
   ·have HD := Lib.hid hq1
    go_wp2
    go_roundw
    case rel => exact ⟨m, by omega, by go_num, fun j h1 h2 => by
     by_cases e : j = m
     ·show decide ((l.getD j default).f ≤ ((q : Nat) : Int) ∧ ((q : Nat) : Int) ≤ (l.getD j default).t) = false
      rw [e, HG.out]; exact decide_eq_false (fun h => HD.out h.1)
     ·exact HNo.out j (by omega) h2, HBe1.out⟩
    case measure => simp [intOf] <;> omega
end Go.Proofs.YtbmphakfgoompaaGreat

/-
 What lists make, looked up at once: the walks of its methods.
-/
namespace Go.Proofs.YtbmphakfgoompaaGreat
open Go.RowKit

/-- no list has a row of a number -/
structure NoRow (D : MadeD) (r : Nat) : Prop where
 o : D.oth r = 0
 s : D.side r = 0
 t : D.twin r = (r : Nat)
 m : D.mir r = 0
 h : D.has r = false
structure QuickAt (w : World) (q pm gC gR N : Nat) (D : MadeD) : Prop where
 hN : N = 1114112
 row : w.heap[q]? = some (.cells #[.pointer (some ⟨pm, 0, none⟩), .slice (some ⟨gC, 0, none⟩) N N, .slice (some ⟨gR, 0, none⟩) N N] 129 (0, 0))
 made : MadeAt w pm D
 cls : ∀ r, r < N → w.cell? ⟨gC, r, none⟩ = some (.int .u8 (D.cls r))
 has : ∀ r, r < N → ∃ b, w.cell? ⟨gR, r, none⟩ = some (.bool b) ∧ (b = false → NoRow D r)
theorem QuickAt.below {w w' : World} {q pm gC gR N : Nat} {D : MadeD} (h : QuickAt w q pm gC gR N D) (hb : Below w.heap.size w w') : QuickAt w' q pm gC gR N D where
 hN := h.hN
 row := (hb.block q (Array.getElem?_eq_some_iff.1 h.row).1).trans h.row
 made := h.made.below hb
 cls := fun r hr => (hb.cell (p := ⟨gC, r, none⟩) (World.block_lt_of_cell? w _ (h.cls r hr))).trans (h.cls r hr)
 has := fun r hr => by
  obtain ⟨b, h1, h2⟩ := h.has r hr
  exact ⟨b, (hb.cell (p := ⟨gR, r, none⟩) (World.block_lt_of_cell? w _ h1)).trans h1, h2⟩

set_option maxRecDepth 100000 in
set_option maxHeartbeats 1600000 in
theorem qClass_walk (w : World) (q pm gC gR N : Nat) (D : MadeD) (h : QuickAt w q pm gC gR N D) (r : Int) :
  Calls Tryz.prog 145 #[.pointer (some ⟨q, 0, none⟩), .int .i32 r] w fun e w' => e = .returned (.int .u8 (D.cls (runeR r))) ∧ Below w.heap.size w w' := by
 have q0 := cell_of_row w q 1 _ _ (0, 0) h.row
 simp at q0
 have hr := runeR_le r
 have hN := h.hN
 have c0 := h.cls (runeR r) (by omega)
 have HP := Lib.hid (fun n => plain_walk r (w.drewN n))
 clear h
 generalize D.cls (runeR r) = y at *
 generalize runeR r = x at *
 have hx0 : (0 : Int) ≤ (x : Int) := by omega
 have hx1 : (x : Int) < (N : Int) := by omega
 clear hN hr
 go_enter Tryz.func145, Tryz.ntmps145
 go_upto_region 1 with (fail)
 refine wp_region_quiet_lit (by kernel_rfl) (by kernel_rfl) ?_
 iterate 5 (quiet_step (fail))
 quiet_step (exact Calls.quiet_of_same (HP.out _))
 iterate 3 (quiet_step (fail))
 refine wpQuiet_nil ?_
 rintro _ ⟨nq, rfl⟩
 go_wp2
 go_ret
 exact ⟨rfl, below_drewN (Below.refl _ w) _⟩

set_option maxRecDepth 100000 in
set_option maxHeartbeats 1600000 in
theorem qBracket_walk (w : World) (q pm gC gR N : Nat) (D : MadeD) (h : QuickAt w q pm gC gR N D) (r : Int) :
  Calls Tryz.prog 144 #[.pointer (some ⟨q, 0, none⟩), .int .i32 r] w fun e w' => e = .returned (.tuple #[.int .i32 (D.oth (runeR r)), .int .u8 (D.side (runeR r))]) ∧ Below w.heap.size w w' := by
 have q0 := cell_of_row w q 2 _ _ (0, 0) h.row
 have q1 := cell_of_row w q 0 _ _ (0, 0) h.row
 simp at q0 q1
 have hr := runeR_le r
 have hN := h.hN
 obtain ⟨b, c0, hno⟩ := h.has (runeR r) (by omega)
 have HP := Lib.hid (plain_walk r w)
 have HM := Lib.hid (mBracket_walk w pm D h.made (runeR r : Nat))
 rw [runeR_twice] at HM
 have HNo := Lib.hid hno
 clear h hno
 generalize runeR r = x at *
 have hx0 : (0 : Int) ≤ (x : Int) := by omega
 have hx1 : (x : Int) < (N : Int) := by omega
 clear hN hr
 go_enter Tryz.func144, Tryz.ntmps144
 go_wp2_with fail
 refine HP.out.mono ?_
 rintro e w1 ⟨rfl, h1⟩
 subst h1
 cases b
 ·go_wp2
  refine bodyPost_ret (v := .tuple #[.int .i32 0, .int .u8 0]) (by simp [results, Tryz.results144, go_sem]) rfl ?_
  have := HNo.out (by simp)
  exact ⟨by rw [this.o, this.s], Below.refl _ _⟩
 ·go_wp2_with fail
  refine HM.out.mono ?_
  rintro e w2 ⟨rfl, hb⟩
  have HB := Lib.hid hb; clear hb
  go_wp2
  refine bodyPost_ret (v := .tuple #[.int .i32 (D.oth x), .int .u8 (D.side x)]) (by simp [results, Tryz.results144, go_sem]) rfl ?_
  exact ⟨rfl, HB.out⟩

set_option maxRecDepth 100000 in
set_option maxHeartbeats 1600000 in
theorem qTwin_walk (w : World) (q pm gC gR N : Nat) (D : MadeD) (h : QuickAt w q pm gC gR N D) (r : Int) :
  Calls Tryz.prog 147 #[.pointer (some ⟨q, 0, none⟩), .int .i32 r] w fun e w' => e = .returned (.int .i32 (D.twin (runeR r))) ∧ Below w.heap.size w w' := by
 have q0 := cell_of_row w q 2 _ _ (0, 0) h.row
 have q1 := cell_of_row w q 0 _ _ (0, 0) h.row
 simp at q0 q1
 have hr := runeR_le r
 have hN := h.hN
 obtain ⟨b, c0, hno⟩ := h.has (runeR r) (by omega)
 have HP := Lib.hid (plain_walk r w)
 have HM := Lib.hid (mTwin_walk w pm D h.made (runeR r : Nat))
 rw [runeR_twice] at HM
 have HNo := Lib.hid hno
 clear h hno
 generalize runeR r = x at *
 have hx0 : (0 : Int) ≤ (x : Int) := by omega
 have hx1 : (x : Int) < (N : Int) := by omega
 clear hN hr
 go_enter Tryz.func147, Tryz.ntmps147
 go_wp2_with fail
 refine HP.out.mono ?_
 rintro e w1 ⟨rfl, h1⟩
 subst h1
 cases b
 ·go_wp2
  go_ret
  have := HNo.out (by simp)
  exact ⟨ret_eq (congrArg (Value.int .i32) this.t.symm), Below.refl _ _⟩
 ·go_wp2_with fail
  refine HM.out.mono ?_
  rintro e w2 ⟨rfl, hb⟩
  have HB := Lib.hid hb; clear hb
  go_wp2
  go_ret
  exact ⟨rfl, HB.out⟩

set_option maxRecDepth 100000 in
set_option maxHeartbeats 1600000 in
theorem qMirror_walk (w : World) (q pm gC gR N : Nat) (D : MadeD) (h : QuickAt w q pm gC gR N D) (r : Int) :
  Calls Tryz.prog 146 #[.pointer (some ⟨q, 0, none⟩), .int .i32 r] w fun e w' => e = .returned (.tuple #[.int .i32 (D.mir (runeR r)), .bool (D.has (runeR r))]) ∧ Below w.heap.size w w' := by
 have q0 := cell_of_row w q 2 _ _ (0, 0) h.row
 have q1 := cell_of_row w q 0 _ _ (0, 0) h.row
 simp at q0 q1
 have hr := runeR_le r
 have hN := h.hN
 obtain ⟨b, c0, hno⟩ := h.has (runeR r) (by omega)
 have HP := Lib.hid (plain_walk r w)
 have HM := Lib.hid (mMirror_walk w pm D h.made (runeR r : Nat))
 rw [runeR_twice] at HM
 have HNo := Lib.hid hno
 clear h hno
 generalize runeR r = x at *
 have hx0 : (0 : Int) ≤ (x : Int) := by omega
 have hx1 : (x : Int) < (N : Int) := by omega
 clear hN hr
 go_enter Tryz.func146, Tryz.ntmps146
 go_wp2_with fail
 refine HP.out.mono ?_
 rintro e w1 ⟨rfl, h1⟩
 subst h1
 cases b
 ·go_wp2
  refine bodyPost_ret (v := .tuple #[.int .i32 0, .bool false]) (by simp [results, Tryz.results146, go_sem]) rfl ?_
  have := HNo.out (by simp)
  exact ⟨by rw [this.m, this.h], Below.refl _ _⟩
 ·go_wp2_with fail
  refine HM.out.mono ?_
  rintro e w2 ⟨rfl, hb⟩
  have HB := Lib.hid hb; clear hb
  go_wp2
  refine bodyPost_ret (v := .tuple #[.int .i32 (D.mir x), .bool (D.has x)]) (by simp [results, Tryz.results146, go_sem]) rfl ?_
  exact ⟨rfl, HB.out⟩
end Go.Proofs.YtbmphakfgoompaaGreat

/-
 What lists make, looked up at once: how it is made.
-/
namespace Go.Proofs.YtbmphakfgoompaaGreat
open Go.RowKit

theorem Tryz.elemCls : Elem Tryz.prog 44 22 (.int .u8 0) 1 := ⟨Tryz.underlying44, by kernel_rfl, rfl⟩
theorem Tryz.elemBool : Elem Tryz.prog 127 4 (.bool false) 1 := ⟨Tryz.underlying127, by kernel_rfl, rfl⟩
def rowB (N : Nat) (g : Int → Bool) : List Value := (List.range N).map (fun i => Value.bool (g ((i : Nat) : Int)))
theorem rowB_length (N : Nat) (g : Int → Bool) : (rowB N g).length = N := by simp [rowB]
theorem rowB_get (N : Nat) (g : Int → Bool) (r : Nat) (hr : r < N) : (rowB N g)[r]? = some (.bool (g (r : Nat))) := by
 simp [rowB, List.getElem?_range hr]
theorem rowB_set (N : Nat) (g : Int → Bool) (r : Nat) (v : Bool) (hr : r < N) : (rowB N g).set r (.bool v) = rowB N (fun x => if x = (r : Nat) then v else g x) := by
 apply List.ext_getElem?
 intro i
 by_cases hi : i < N
 ·rw [rowB_get _ _ _ hi]
  by_cases e : r = i
  ·subst e
   rw [List.getElem?_set_self (by rw [rowB_length]; exact hr), if_pos rfl]
  ·rw [List.getElem?_set_ne e, rowB_get _ _ _ hi, if_neg (by omega)]
 ·rw [List.getElem?_eq_none (by rw [List.length_set, rowB_length]; omega), List.getElem?_eq_none (by rw [rowB_length]; omega)]
theorem rowB_congr {N : Nat} {g h : Int → Bool} (e : ∀ r : Nat, r < N → g (r : Nat) = h (r : Nat)) : rowB N g = rowB N h := by
 unfold rowB
 exact List.map_congr_left fun r hr => by rw [e r (List.mem_range.1 hr)]
theorem rowB_const (N : Nat) (v : Bool) : List.replicate N (Value.bool v) = rowB N (fun _ => v) := by
 unfold rowB
 rw [List.map_const', List.length_range]

/-- on its way: the lists' row, the two rows that are filled -/
structure QkSt (w0 : World) (bM q gC gR N : Nat) (mc : Array Value) (gc : Int → Int) (gr : Int → Bool) (wr : World) : Prop where
 bel : Below w0.heap.size w0 wr
 oC : Own w0.heap.size 22 wr (some ⟨gC, 0, none⟩) N N (ivs .u8 (rowF N gc))
 oR : Own w0.heap.size 4 wr (some ⟨gR, 0, none⟩) N N (rowB N gr)
 rq : wr.heap[q]? = some (.cells #[.pointer (some ⟨bM, 0, none⟩), .slice (some ⟨gC, 0, none⟩) N N, .slice (some ⟨gR, 0, none⟩) N N] 129 (0, 0))
 rm : wr.heap[bM]? = some (.cells mc 27 (0, 0))
 ne1 : gC ≠ gR
 ne2 : q ≠ gC ∧ q ≠ gR
 ne3 : bM ≠ gC ∧ bM ≠ gR
 cB : w0.heap.size ≤ gC ∧ w0.heap.size ≤ gR
theorem QkSt.next {w0 : World} {bM q gC gR N : Nat} {mc : Array Value} {gc : Int → Int} {gr : Int → Bool} {wr w' : World} (h : QkSt w0 bM q gC gR N mc gc gr wr) (hb : Below wr.heap.size wr w') : QkSt w0 bM q gC gR N mc gc gr w' where
 bel := h.bel.trans (hb.mono h.bel.size)
 oC := h.oC.below hb (Nat.le_refl _)
 oR := h.oR.below hb (Nat.le_refl _)
 rq := (hb.block q (Array.getElem?_eq_some_iff.1 h.rq).1).trans h.rq
 rm := (hb.block bM (Array.getElem?_eq_some_iff.1 h.rm).1).trans h.rm
 ne1 := h.ne1
 ne2 := h.ne2
 ne3 := h.ne3
 cB := h.cB
theorem QkSt.setC {w0 : World} {bM q gC gR N : Nat} {mc : Array Value} {gc : Int → Int} {gr : Int → Bool} {wr : World} (h : QkSt w0 bM q gC gR N mc gc gr wr) (k : Nat) (hk : k < N) (v : Int) (gc' : Int → Int) (e : ∀ r : Nat, r < N → (if ((r : Nat) : Int) = (k : Nat) then v else gc (r : Nat)) = gc' (r : Nat)) :
  QkSt w0 bM q gC gR N mc gc' gr (wr.setCell ⟨gC, k, none⟩ (.int .u8 v)) where
 bel := h.bel.setCell (p := ⟨gC, k, none⟩) (show w0.heap.size ≤ gC from h.cB.1) _
 oC := by
  have := h.oC.store k (.int .u8 v)
  rw [ivs_set, rowF_set N _ k v hk, rowF_congr e] at this
  exact this
 oR := World.ownsRow.kept h.oR (grown_store wr gC k _) (.inr (fun e => h.ne1 (by simpa [Value.ownBlock] using e.symm)))
 rq := by rw [heap_setCell_other _ ⟨gC, k, none⟩ q _ h.ne2.1]; exact h.rq
 rm := by rw [heap_setCell_other _ ⟨gC, k, none⟩ bM _ h.ne3.1]; exact h.rm
 ne1 := h.ne1
 ne2 := h.ne2
 ne3 := h.ne3
 cB := h.cB
theorem QkSt.setR {w0 : World} {bM q gC gR N : Nat} {mc : Array Value} {gc : Int → Int} {gr : Int → Bool} {wr : World} (h : QkSt w0 bM q gC gR N mc gc gr wr) (k : Nat) (hk : k < N) (v : Bool) (gr' : Int → Bool) (e : ∀ r : Nat, r < N → (if ((r : Nat) : Int) = (k : Nat) then v else gr (r : Nat)) = gr' (r : Nat)) :
  QkSt w0 bM q gC gR N mc gc gr' (wr.setCell ⟨gR, k, none⟩ (.bool v)) where
 bel := h.bel.setCell (p := ⟨gR, k, none⟩) (show w0.heap.size ≤ gR from h.cB.2) _
 oR := by
  have := h.oR.store k (.bool v)
  rw [rowB_set N _ k v hk, rowB_congr e] at this
  exact this
 oC := World.ownsRow.kept h.oC (grown_store wr gR k _) (.inr (fun e => h.ne1 (by simpa [Value.ownBlock] using e)))
 rq := by rw [heap_setCell_other _ ⟨gR, k, none⟩ q _ h.ne2.2]; exact h.rq
 rm := by rw [heap_setCell_other _ ⟨gR, k, none⟩ bM _ h.ne3.2]; exact h.rm
 ne1 := h.ne1
 ne2 := h.ne2
 ne3 := h.ne3
 cB := h.cB
theorem QkSt.congrR {w0 : World} {bM q gC gR N : Nat} {mc : Array Value} {gc : Int → Int} {gr gr' : Int → Bool} {wr : World} (h : QkSt w0 bM q gC gR N mc gc gr wr) (e : ∀ r : Nat, r < N → gr (r : Nat) = gr' (r : Nat)) : QkSt w0 bM q gC gR N mc gc gr' wr :=
 ⟨h.bel, h.oC, by rw [← rowB_congr e]; exact h.oR, h.rq, h.rm, h.ne1, h.ne2, h.ne3, h.cB⟩
theorem QkSt.congrC {w0 : World} {bM q gC gR N : Nat} {mc : Array Value} {gc gc' : Int → Int} {gr : Int → Bool} {wr : World} (h : QkSt w0 bM q gC gR N mc gc gr wr) (e : ∀ r : Nat, r < N → gc (r : Nat) = gc' (r : Nat)) : QkSt w0 bM q gC gR N mc gc' gr wr :=
 ⟨h.bel, by rw [← rowF_congr e]; exact h.oC, h.oR, h.rq, h.rm, h.ne1, h.ne2, h.ne3, h.cB⟩

set_option maxRecDepth 100000 in
set_option maxHeartbeats 1600000 in
theorem mark_walk {w0 : World} {bM q gC gR N : Nat} {mc : Array Value} {gc : Int → Int} {gr : Int → Bool} {wr : World} (h : QkSt w0 bM q gC gR N mc gc gr wr) (hN : N = 1114112) (r : Int) :
  Calls Tryz.prog 62 #[.pointer (some ⟨q, 0, none⟩), .int .i32 r] wr fun e w' => e = .returned (.tuple #[]) ∧ QkSt w0 bM q gC gR N mc gc (fun x => gr x || x == r) w' := by
 have q0 := cell_of_row wr q 2 _ _ (0, 0) h.rq
 simp at q0
 by_cases h1 : 0 ≤ r
 ·by_cases h2 : r ≤ 1114111
  ·obtain ⟨k, rfl⟩ : ∃ k : Nat, r = (k : Int) := ⟨r.toNat, by omega⟩
   have hk : k < N := by omega
   have hki : (k : Int) < (N : Int) := by omega
   have x1 := h.oR.cell k (by rw [rowB_length]; exact hk)
   have f1 := h.oR.unfrozen k
   have HS := Lib.hid (h.setR k hk true (fun x => gr x || x == (k : Int)) (fun j _ => by
    by_cases e : ((j : Nat) : Int) = (k : Nat)
    ·rw [if_pos e, e]; simp
    ·rw [if_neg e]; simp [e]))
   clear h hN
   go_enter Tryz.func62, Tryz.ntmps62
   go_wp2
   go_end0
   exact ⟨rfl, HS.out⟩
  ·have HS := Lib.hid (h.congrR (gr' := fun x => gr x || x == r) (fun j hj => by
    have : ((j : Nat) : Int) ≠ r := by omega
    simp [this]))
   clear h hN
   go_enter Tryz.func62, Tryz.ntmps62
   go_wp2
   go_end0
   exact ⟨rfl, HS.out⟩
 ·have HS := Lib.hid (h.congrR (gr' := fun x => gr x || x == r) (fun j hj => by
   have : ((j : Nat) : Int) ≠ r := by omega
   simp [this]))
  clear h hN
  go_enter Tryz.func62, Tryz.ntmps62
  go_wp2
  go_end0
  exact ⟨rfl, HS.out⟩
end Go.Proofs.YtbmphakfgoompaaGreat

/-
 The last one of a list that holds: by cases.
-/
namespace Go.Proofs.YtbmphakfgoompaaGreat
open Go.RowKit

theorem lastF_cases {α β : Type} (p : α → Bool) (v : α → β) : ∀ (l : List α) (z : β), lastF p v z l = z ∨ ∃ s ∈ l, p s = true ∧ lastF p v z l = v s
 | [], _ => .inl rfl
 | s :: l, z => by
  unfold lastF
  rw [List.foldl_cons]
  by_cases e : p s = true
  ·rw [if_pos e]
   rcases lastF_cases p v l (v s) with h | ⟨x, h1, h2, h3⟩
   ·exact .inr ⟨s, by simp, e, h⟩
   ·exact .inr ⟨x, by simp [h1], h2, h3⟩
  ·rw [if_neg e]
   rcases lastF_cases p v l z with h | ⟨x, h1, h2, h3⟩
   ·exact .inl h
   ·exact .inr ⟨x, by simp [h1], h2, h3⟩
end Go.Proofs.YtbmphakfgoompaaGreat

/-
 What lists make, looked up at once: the walk of 'quickly'.
-/
namespace Go.Proofs.YtbmphakfgoompaaGreat
open Go.RowKit

theorem qk_init {w w1 W : World} {bM N q gC gR : Nat} {mc : Array Value} {CC CR : Array Value} (hN : N = 1114112) (h1 : w.heap.size = bM) (hb : Below w.heap.size w w1) (hs : w1.heap.size = bM + 1) (hm : w1.heap[bM]? = some (.cells mc 27 (0, 0)))
  (hC : CC.size = N ∧ CC.toList = List.replicate N (.int .u8 0)) (hR : CR.size = N ∧ CR.toList = List.replicate N (.bool false))
  (h : (gC = bM + 1 ∧ gR = bM + 1 + 1 ∧ q = bM + 1 + 1 + 1 ∧ W.heap[gC]? = some (.cells CC 22 (0, 0)) ∧ W.heap[gR]? = some (.cells CR 4 (0, 0))) ∨
   (gR = bM + 1 ∧ gC = bM + 1 + 1 ∧ q = bM + 1 + 1 + 1 ∧ W.heap[gC]? = some (.cells CC 22 (0, 0)) ∧ W.heap[gR]? = some (.cells CR 4 (0, 0))))
  (hw : Below w1.heap.size w1 W) (hq : W.heap[q]? = some (.cells #[.pointer (some ⟨bM, 0, none⟩), .slice (some ⟨gC, 0, none⟩) N N, .slice (some ⟨gR, 0, none⟩) N N] 129 (0, 0))) :
  QkSt w bM q gC gR N mc (fun _ => 0) (fun _ => false) W := by
 have e : ∀ (E : TypeId) (g : Nat) (cs : Array Value) (z : Value), w.heap.size ≤ g → W.heap[g]? = some (.cells cs E (0, 0)) → cs.size = N → cs.toList = List.replicate N z → z.oneCell' = true → Own w.heap.size E W (some ⟨g, 0, none⟩) N N (List.replicate N z) := by
  intro E g cs z h1 h2 h3 h4 h5
  refine ⟨by simp, .inr ⟨g, N, cs, rfl, h1, h2, Nat.le_refl _, by unfold maxLen; omega, by rw [h3, Nat.mul_one], ?_⟩⟩
  rw [h4, Nat.mul_one, List.take_of_length_le (by simp)]
 refine ⟨hb.trans (hw.mono hb.size), ?_, ?_, hq, (hw.block bM (by omega)).trans hm, ?_, ?_, ?_, ?_⟩
 ·rw [← rowF_const, ← ivs_replicate]
  rcases h with ⟨x1, x2, x3, x4, x5⟩ | ⟨x1, x2, x3, x4, x5⟩
  ·exact e _ _ _ _ (by omega) x4 hC.1 hC.2 rfl
  ·exact e _ _ _ _ (by omega) x4 hC.1 hC.2 rfl
 ·rw [← rowB_const]
  rcases h with ⟨x1, x2, x3, x4, x5⟩ | ⟨x1, x2, x3, x4, x5⟩
  ·exact e _ _ _ _ (by omega) x5 hR.1 hR.2 rfl
  ·exact e _ _ _ _ (by omega) x5 hR.1 hR.2 rfl
 all_goals omega
def QkL (w0 : World) (bM q gC gR N : Nat) (mc : Array Value) (gc : Nat → Int → Int) (gr : Nat → Int → Bool) (n : Nat) (iv : Value) (wr : World) : Prop :=
 ∃ k : Nat, k ≤ n ∧ iv = .int .i64 (k : Nat) ∧ QkSt w0 bM q gC gR N mc (gc k) (gr k) wr
def QkM (w0 w1 : World) (bM q gC gR N : Nat) (mc : Array Value) (gc : Nat → Int → Int) (gr : Int → Bool) (f : Nat) (t : Int) (iv : Value) (wr : World) : Prop :=
 ∃ k : Nat, f ≤ k ∧ (k = f ∨ (k : Int) ≤ t + 1) ∧ iv = .int .i32 (k : Nat) ∧ QkSt w0 bM q gC gR N mc (gc k) gr wr ∧ w1.grownBy wr (some gC)
theorem alloc3 (w1 : World) (o1 o2 o3 : Obj) : Below w1.heap.size w1 (((w1.alloc o1).alloc o2).alloc o3).drew ∧ (((w1.alloc o1).alloc o2).alloc o3).drew.heap[w1.heap.size]? = some o1 ∧ (((w1.alloc o1).alloc o2).alloc o3).drew.heap[w1.heap.size + 1]? = some o2 ∧
  (((w1.alloc o1).alloc o2).alloc o3).drew.heap[w1.heap.size + 1 + 1]? = some o3 := by
 refine ⟨below_drewN ((((Below.refl _ w1).alloc (Nat.le_refl _) o1).alloc (by simp) o2).alloc (by simp; omega) o3) 1, ?_, ?_, ?_⟩
 ·show (((w1.alloc o1).alloc o2).alloc o3).heap[w1.heap.size]? = _
  rw [Below.heap_alloc _ _ _ (by simp; omega), Below.heap_alloc _ _ _ (by simp)]
  exact World.alloc_heap_new w1 o1
 ·show (((w1.alloc o1).alloc o2).alloc o3).heap[w1.heap.size + 1]? = _
  rw [Below.heap_alloc _ _ _ (by simp)]
  have := World.alloc_heap_new (w1.alloc o1) o2
  simpa using this
 ·show (((w1.alloc o1).alloc o2).alloc o3).heap[w1.heap.size + 1 + 1]? = _
  have := World.alloc_heap_new ((w1.alloc o1).alloc o2) o3
  simpa using this
theorem noRow {D : MadeD} {r : Nat} (h2 : ∀ s ∈ D.l2, ¬ (s.f == ((r : Nat) : Int)) = true) (h3 : ∀ s ∈ D.l3, ¬ (s.a == ((r : Nat) : Int)) = true) (h4 : ∀ s ∈ D.l4, ¬ (s.a == ((r : Nat) : Int)) = true) : NoRow D r := by
 have e2 : brG D.l2 (r : Nat) = (0, 0) := lastF_keep (fun s hs => by simpa using h2 s hs)
 have e3 : twG D.l3 (r : Nat) = (0, false) := lastF_keep (fun s hs => by simpa using h3 s hs)
 have e4 : twG D.l4 (r : Nat) = (0, false) := lastF_keep (fun s hs => by simpa using h4 s hs)
 exact ⟨by unfold MadeD.oth; rw [e2], by unfold MadeD.side; rw [e2], by unfold MadeD.twin; rw [e3]; rfl, by unfold MadeD.mir; rw [e4], by unfold MadeD.has; rw [e4]⟩
set_option maxRecDepth 100000 in
set_option maxHeartbeats 4000000 in
theorem quickly_walk (D : MadeD) (a1 : Option Addr) (n1 c1 : Nat) (a2 : Option Addr) (n2 c2 : Nat) (a3 : Option Addr) (n3 c3 : Nat) (a4 : Option Addr) (n4 c4 : Nat) (w : World) (hm : MadeSl w D a1 n1 c1 a2 n2 c2 a3 n3 c3 a4 n4 c4) (hb1 : ∀ s ∈ D.l1, wf32 s.f ∧ wf32 s.t) :
  Calls Tryz.prog 18 #[.agg #[.int .u8 D.rest, .slice a1 n1 c1, .slice a2 n2 c2, .slice a3 n3 c3, .slice a4 n4 c4]] w fun e w' =>
   ∃ q, e = .returned (.pointer (some ⟨q, 0, none⟩)) ∧ (∃ pm gC gR N, QuickAt w' q pm gC gR N D) ∧ Below w.heap.size w w' := by
 have HM := Lib.hid hm
 have HWf := Lib.hid hb1
 obtain ⟨rest, hrest⟩ : ∃ x, x = D.rest := ⟨_, rfl⟩
 rw [← hrest]
 have HRest := Lib.hid hrest; clear hrest
 have hA := heap_alloc_new w (.cells #[.int .u8 rest, .slice a1 n1 c1, .slice a2 n2 c2, .slice a3 n3 c3, .slice a4 n4 c4] 27)
 have hB := (Below.refl _ w).alloc (Nat.le_refl _) (.cells #[.int .u8 rest, .slice a1 n1 c1, .slice a2 n2 c2, .slice a3 n3 c3, .slice a4 n4 c4] 27)
 have hS := World.size_alloc w (.cells #[.int .u8 rest, .slice a1 n1 c1, .slice a2 n2 c2, .slice a3 n3 c3, .slice a4 n4 c4] 27)
 have HW1 := Lib.hid (And.intro hA (And.intro hB hS))
 have l1 := hm.b1
 have l2 := hm.b2
 have l3 := hm.b3
 have l4 := hm.b4
 clear hA hB hS hm hb1
 obtain ⟨N, hN⟩ : ∃ N : Nat, N = 1114112 := ⟨_, rfl⟩
 obtain ⟨CC, hCC, hCC2⟩ : ∃ CC : Array Value, (CC.size = N ∧ CC.toList = List.replicate N (.int .u8 0)) ∧ ∀ W : World, (Instr.makeSlice 44 (.int .i64 1114112) (.int .i64 1114112)).run Tryz.prog W = .ok (.slice (some ⟨W.heap.size, 0, none⟩) N N) (W.alloc (.cells CC 22)) := by
  obtain ⟨i, hi, hz, h1, hb'⟩ := info_parts Tryz.elemCls.inf
  refine ⟨madeCells (Value.int .u8 0).cells (N * i.size), ?_, fun W => ?_⟩
  ·rw [h1, Nat.mul_one]
   exact ⟨by rw [size_madeCells], toList_madeCells_one _ _⟩
  ·have := run_make (P := Tryz.prog) W 44 22 i (.int .u8 0) Tryz.elemCls.und hi hz .i64 .i64 (N : Int) (N : Int) (by omega) (Int.le_refl _) (by rw [hb', hN]; decide) (by rw [hN]; decide)
   simp only [Int.toNat_natCast] at this
   rw [← this, hN]
   rfl
 obtain ⟨CR, hCR, hCR2⟩ : ∃ CC : Array Value, (CC.size = N ∧ CC.toList = List.replicate N (.bool false)) ∧ ∀ W : World, (Instr.makeSlice 127 (.int .i64 1114112) (.int .i64 1114112)).run Tryz.prog W = .ok (.slice (some ⟨W.heap.size, 0, none⟩) N N) (W.alloc (.cells CC 4)) := by
  obtain ⟨i, hi, hz, h1, hb'⟩ := info_parts Tryz.elemBool.inf
  refine ⟨madeCells (Value.bool false).cells (N * i.size), ?_, fun W => ?_⟩
  ·rw [h1, Nat.mul_one]
   exact ⟨by rw [size_madeCells], toList_madeCells_one _ _⟩
  ·have := run_make (P := Tryz.prog) W 127 4 i (.bool false) Tryz.elemBool.und hi hz .i64 .i64 (N : Int) (N : Int) (by omega) (Int.le_refl _) (by rw [hb', hN]; decide) (by rw [hN]; decide)
   simp only [Int.toNat_natCast] at this
   rw [← this, hN]
   rfl
 have HNN := Lib.hid hN
 have HCC := Lib.hid hCC
 have HCR := Lib.hid hCR
 clear hN hCC hCR
 go_enter Tryz.func18, Tryz.ntmps18
 go_upto_region 1 with (fail)
 obtain ⟨bM, hbM⟩ : ∃ bM, bM = w.heap.size := ⟨_, rfl⟩
 obtain ⟨hA, hB, hS⟩ := HW1.out
 clear HW1
 rw [← hbM] at hA hS ⊢
 generalize w.alloc (.cells #[.int .u8 rest, .slice a1 n1 c1, .slice a2 n2 c2, .slice a3 n3 c3, .slice a4 n4 c4] 27) = w1 at *
 have HA := Lib.hid hA
 have HB := Lib.hid hB
 have HbM := Lib.hid hbM
 clear hA hB hbM
 go_cut [3] from 11 (fun v wx => ∃ q gC gR, v = .pointer (some ⟨q, 0, none⟩) ∧ QkSt w bM q gC gR N #[.int .u8 rest, .slice a1 n1 c1, .slice a2 n2 c2, .slice a3 n3 c3, .slice a4 n4 c4] (fun _ => 0) (fun _ => false) wx)
 case first =>
  go_region
  ·obtain ⟨x1, x2, x3, x4⟩ := alloc3 w1 (.cells CC 22) (.cells CR 4) (.cells #[.pointer (some ⟨bM, 0, none⟩), .slice (some ⟨bM + 1, 0, none⟩) N N, .slice (some ⟨bM + 1 + 1, 0, none⟩) N N] 129)
   rw [hS] at x2 x3 x4
   have HX := Lib.hid (And.intro x1 (And.intro x2 (And.intro x3 x4)))
   clear x1 x2 x3 x4
   generalize (((w1.alloc (.cells CC 22)).alloc (.cells CR 4)).alloc (.cells #[.pointer (some ⟨bM, 0, none⟩), .slice (some ⟨bM + 1, 0, none⟩) N N, .slice (some ⟨bM + 1 + 1, 0, none⟩) N N] 129)).drew = W at *
   go_wp2
   go_meet
   case rel => exact ⟨_, bM + 1, bM + 1 + 1, rfl, qk_init HNN.out HbM.out.symm HB.out hS HA.out HCC.out HCR.out (.inl ⟨rfl, rfl, rfl, HX.out.2.1, HX.out.2.2.1⟩) HX.out.1 HX.out.2.2.2⟩
  ·obtain ⟨x1, x2, x3, x4⟩ := alloc3 w1 (.cells CR 4) (.cells CC 22) (.cells #[.pointer (some ⟨bM, 0, none⟩), .slice (some ⟨bM + 1 + 1, 0, none⟩) N N, .slice (some ⟨bM + 1, 0, none⟩) N N] 129)
   rw [hS] at x2 x3 x4
   have HX := Lib.hid (And.intro x1 (And.intro x2 (And.intro x3 x4)))
   clear x1 x2 x3 x4
   generalize (((w1.alloc (.cells CR 4)).alloc (.cells CC 22)).alloc (.cells #[.pointer (some ⟨bM, 0, none⟩), .slice (some ⟨bM + 1 + 1, 0, none⟩) N N, .slice (some ⟨bM + 1, 0, none⟩) N N] 129)).drew = W at *
   go_wp2
   go_meet
   case rel => exact ⟨_, bM + 1 + 1, bM + 1, rfl, qk_init HNN.out HbM.out.symm HB.out hS HA.out HCC.out HCR.out (.inr ⟨rfl, rfl, rfl, HX.out.2.2.1, HX.out.2.1⟩) HX.out.1 HX.out.2.2.2⟩
 case rest =>
 obtain ⟨q, gC, gR, rfl, hst⟩ := hcut
 obtain ⟨mc, hmc⟩ : ∃ mc : Array Value, mc = #[.int .u8 rest, .slice a1 n1 c1, .slice a2 n2 c2, .slice a3 n3 c3, .slice a4 n4 c4] := ⟨_, rfl⟩
 rw [← hmc] at hst
 have HMd : Hid (∀ W : World, W.heap[bM]? = some (.cells mc 27 (0, 0)) → Below w.heap.size w W → MadeAt W bM D) := Lib.hid (fun W h1 h2 =>
  ⟨a1, n1, c1, a2, n2, c2, a3, n3, c3, a4, n4, c4, by rw [← HRest.out, ← hmc]; exact h1, HM.out.below h2⟩)
 have HMc := Lib.hid hmc
 clear hmc
 have HSt0 := Lib.hid hst
 clear hst HCC HCR HA HB hS hCC2 hCR2
 have HNI : Hid ((N : Int) = 1114112) := Lib.hid (by have := HNN.out; omega)
 generalize wc = w2 at *
 go_wp2
 go_loopw [4] (QkL w bM q gC gR N mc (fun k x => if x < (k : Nat) then rest else 0) (fun _ _ => false) N) (fun i _ => N - (intOf i).toNat)
 case atStart => exact ⟨0, Nat.zero_le _, rfl, HSt0.out.congrC (fun r _ => (if_neg (by omega)).symm)⟩
 case round =>
  obtain ⟨k, hk, rfl, hst⟩ := hrel
  have HSt := Lib.hid hst; clear hst
  by_cases hkn : k < N
  ·have hki : (k : Int) < 1114112 := by have := HNI.out; omega
   have hki2 : (k : Int) < (N : Int) := by omega
   have y0 := cell_of_row wr bM 0 _ _ (0, 0) HSt.out.rm
   have y1 := cell_of_row wr q 1 _ _ (0, 0) HSt.out.rq
   rw [HMc.out] at y0
   simp at y0 y1
   have y2 := HSt.out.oC.cell k (by rw [ivs_length, rowF_length]; exact hkn)
   have y3 := HSt.out.oC.unfrozen k
   have HS2 := Lib.hid ((HSt.out.next (below_drewN (Below.refl _ wr) 1)).setC k hkn rest (fun x => if x < ((k + 1 : Nat) : Int) then rest else 0) (fun r _ => by
    by_cases e : ((r : Nat) : Int) = (k : Nat)
    ·rw [if_pos e, if_pos (by omega)]
    ·rw [if_neg e]
     by_cases e2 : ((r : Nat) : Int) < (k : Nat)
     ·show (if ((r : Nat) : Int) < (k : Nat) then rest else 0) = _
      rw [if_pos e2, if_pos (by omega)]
     ·show (if ((r : Nat) : Int) < (k : Nat) then rest else 0) = _
      rw [if_neg e2, if_neg (by omega)]))
   go_wp2
   refine wp_region_still_tail 8 (by kernel_rfl) (by kernel_rfl) ?_
   simp only [List.take_succ_cons, List.take_zero, List.drop_succ_cons, List.drop_zero]
   change wpStill _ _ (World.drew _) (fun a' => wpList _ _ _ _ a' (World.drew _)) _ _
   repeat still_step
   refine wpStill_nil ?_
   go_wp2
   go_roundw
   case rel => exact ⟨k + 1, by omega, by go_num, HS2.out⟩
   case measure => simp [intOf]; omega
  ·obtain rfl : N = k := by omega
   have hki : ¬ (N : Int) < 1114112 := by have := HNI.out; omega
   have HSt1 := Lib.hid (HSt.out.congrC (gc' := clsF rest (D.l1.take 0)) (fun r hr => if_pos (by omega)))
   clear HSt
   obtain ⟨w3, rfl⟩ : ∃ w3, w3 = wr := ⟨_, rfl⟩
   go_wp2
   go_loopw [5] (QkL w bM q gC gR N mc (fun j => clsF rest (D.l1.take j)) (fun _ _ => false) n1) (fun i _ => n1 - (intOf i).toNat)
   case atStart => exact ⟨0, Nat.zero_le _, rfl, HSt1.out⟩
   case round =>
    obtain ⟨m, hm, rfl, hst⟩ := hrel
    have HSt := Lib.hid hst; clear hst
    have y0 := cell_of_row wr bM 1 _ _ (0, 0) HSt.out.rm
    rw [HMc.out] at y0
    simp at y0
    by_cases hmn : m < n1
    ·have hmi : (m : Int) < (n1 : Int) := by omega
     have hml : m < D.l1.length := by rw [HM.out.h1]; exact hmn
     obtain ⟨b, o, ha⟩ := HM.out.s1.some (by omega)
     subst ha
     obtain ⟨k1, k2, k3⟩ := (HM.out.s1.keep HSt.out.bel).get m hml
     obtain ⟨⟨e1, e2⟩, ⟨e3, e4⟩⟩ := HWf.out _ (List.getElem_mem hml)
     have HT : Hid (clsF rest (D.l1.take (m + 1)) = fun x => if D.l1[m].f ≤ x ∧ x ≤ D.l1[m].t then D.l1[m].v else clsF rest (D.l1.take m) x) := Lib.hid (by
      funext x
      rw [List.take_succ_eq_append_getElem hml, clsF_snoc])
     obtain ⟨s, hs⟩ : ∃ s, s = D.l1[m] := ⟨_, rfl⟩
     rw [← hs] at k1 k2 k3 e1 e2 e3 e4 HT
     clear hs
     obtain ⟨f, t, v⟩ := s
     simp only at k1 k2 k3 e1 e2 e3 e4 HT
     obtain ⟨fn, hfn⟩ : ∃ fn : Nat, (fn : Int) = max f 0 := ⟨(max f 0).toNat, by omega⟩
     have hmax : ∀ (w : World) (ts : Array TypeId) (t : TypeId), (Builtin.max_ ts t #[.int .i32 f, .int .i32 0]).run Tryz.prog w = .ok (.int .i32 (fn : Nat)) w := fun w ts t => by
      rw [run_max_int2]
      congr 2
      split <;> omega
     obtain ⟨tq, htq⟩ : ∃ tq : Int, tq = min t 1114111 := ⟨_, rfl⟩
     have hmin : ∀ (w : World) (ts : Array TypeId) (ty : TypeId), (Builtin.min_ ts ty #[.int .i32 t, .int .i32 1114111]).run Tryz.prog w = .ok (.int .i32 tq) w := fun w ts ty => by
      rw [run_min_int2, htq]
      congr 2
      split <;> omega
     have hqN : tq < (N : Int) := by have := HNI.out; omega
     have hq2 : tq ≤ 1114111 := by omega
     have HFT : Hid ((fn : Int) = max f 0 ∧ tq = min t 1114111) := Lib.hid ⟨hfn, htq⟩
     have a1' := heap_alloc_new wr (.cells #[.int .i32 f, .int .i32 t, .int .u8 v] 63)
     have HS12 := Lib.hid (HSt.out.next ((Below.refl _ wr).alloc (Nat.le_refl _) (.cells #[.int .i32 f, .int .i32 t, .int .u8 v] 63)))
     have HA12 := Lib.hid a1'
     clear a1' e1 e2 e3 e4
     go_upto_region 10 with (fail)
     obtain ⟨bx, hbx⟩ : ∃ bx, bx = wr.heap.size := ⟨_, rfl⟩
     have hbC : gC < bx := by rw [hbx]; obtain ⟨g, e, -, h, -⟩ := HSt.out.oC.at (by omega); cases e; exact h
     rw [← hbx] at HA12 ⊢
     generalize wr.alloc (.cells #[.int .i32 f, .int .i32 t, .int .u8 v] 63) = w12 at *
     clear hbx k1 k2 k3 y0
     have d0 := cell_of_row w12 bx 0 _ _ (0, 0) HA12.out
     simp at d0
     clear hfn htq
     go_wp2
     go_loopw [7] (QkM w w12 bM q gC gR N mc (fun j x => if (fn : Int) ≤ x ∧ x < (j : Nat) then v else clsF rest (D.l1.take m) x) (fun _ => false) fn tq) (fun i _ => (tq + 1 - (intOf i)).toNat)
     case atStart => exact ⟨fn, Nat.le_refl _, .inl rfl, rfl, HS12.out.congrC (fun r _ => (if_neg (by omega)).symm), World.grownBy.refl _ _⟩
     case round =>
      obtain ⟨r, hr1, hr2, rfl, hst, hgr⟩ := hrel
      have HSr := Lib.hid hst; clear hst
      have HGr := Lib.hid hgr; clear hgr
      have d1 := cell_of_row w12 bx 1 _ _ (0, 0) HA12.out
      have d2 := cell_of_row w12 bx 2 _ _ (0, 0) HA12.out
      simp at d1 d2
      have x1 := HGr.out.cell d1 (by simp; omega)
      have x2 := HGr.out.cell d2 (by simp; omega)
      have y1 := cell_of_row wr q 1 _ _ (0, 0) HSr.out.rq
      simp at y1
      clear d1 d2 d0
      by_cases hrt : (r : Int) ≤ tq
      ·have hrk : r < N := by omega
       have hrki : (r : Int) < (N : Int) := by omega
       have y2 := HSr.out.oC.cell r (by rw [ivs_length, rowF_length]; exact hrk)
       have y3 := HSr.out.oC.unfrozen r
       have HS2 := Lib.hid ((HSr.out.next (below_drewN (Below.refl _ wr) 1)).setC r hrk v (fun x => if (fn : Int) ≤ x ∧ x < ((r + 1 : Nat) : Int) then v else clsF rest (D.l1.take m) x) (fun j _ => by
        by_cases e : ((j : Nat) : Int) = (r : Nat)
        ·rw [if_pos e, if_pos (by omega)]
        ·rw [if_neg e]
         show (if (fn : Int) ≤ ((j : Nat) : Int) ∧ ((j : Nat) : Int) < (r : Nat) then v else clsF rest (D.l1.take m) (j : Nat)) = _
         by_cases e2 : (fn : Int) ≤ ((j : Nat) : Int) ∧ ((j : Nat) : Int) < (r : Nat)
         ·rw [if_pos e2, if_pos (by omega)]
         ·rw [if_neg e2, if_neg (by omega)]))
       have HG2 := Lib.hid (grown_trans (grown_drew HGr.out) (grown_store wr.drew gC r (.int .u8 v)))
       go_wp2
       refine wp_region_still_tail 8 (by kernel_rfl) (by kernel_rfl) ?_
       simp only [List.take_succ_cons, List.take_zero, List.drop_succ_cons, List.drop_zero]
       change wpStill _ _ (World.drew _) (fun a' => wpList _ _ _ _ a' (World.drew _)) _ _
       repeat still_step
       refine wpStill_nil ?_
       go_wp2
       go_roundw
       case rel => exact ⟨r + 1, by omega, .inr (by omega), by go_num, HS2.out, HG2.out⟩
       case measure => simp [intOf]; omega
      ·have HS13 : Hid (QkSt w bM q gC gR N mc (clsF rest (D.l1.take (m + 1))) (fun _ => false) wr) := Lib.hid (by
        refine HSr.out.congrC (fun j hj => ?_)
        rw [HT.out]
        have h1 := HFT.out
        have h2 := HNI.out
        show (if (fn : Int) ≤ ((j : Nat) : Int) ∧ ((j : Nat) : Int) < (r : Nat) then v else clsF rest (D.l1.take m) (j : Nat)) = (if f ≤ ((j : Nat) : Int) ∧ ((j : Nat) : Int) ≤ t then v else clsF rest (D.l1.take m) (j : Nat))
        by_cases e : (fn : Int) ≤ ((j : Nat) : Int) ∧ ((j : Nat) : Int) < (r : Nat)
        ·rw [if_pos e, if_pos (by omega)]
        ·rw [if_neg e, if_neg (by omega)])
       go_wp2
       go_roundw
       case rel => exact ⟨m + 1, by omega, by go_num, HS13.out⟩
       case measure => simp [intOf]; omega
    ·obtain rfl : n1 = m := by omega
     have hmi : ¬ (n1 : Int) < (n1 : Int) := by omega
     have htk : D.l1.take n1 = D.l1 := List.take_of_length_le (Nat.le_of_eq HM.out.h1)
     have HSt2 : Hid (QkSt w bM q gC gR N mc (clsF rest D.l1) (fun x => (D.l2.take 0).any (fun s => s.f == x)) wr) := Lib.hid (by
      rw [← htk]; exact HSt.out)
     clear htk HSt
     obtain ⟨w5, rfl⟩ : ∃ w5, w5 = wr := ⟨_, rfl⟩
     go_wp2
     go_loopw [8] (QkL w bM q gC gR N mc (fun _ => clsF rest D.l1) (fun j x => (D.l2.take j).any (fun s => s.f == x)) n2) (fun i _ => n2 - (intOf i).toNat)
     case atStart => exact ⟨0, Nat.zero_le _, rfl, HSt2.out⟩
     case round =>
      obtain ⟨m, hm, rfl, hst⟩ := hrel
      have HSt := Lib.hid hst; clear hst
      have y0 := cell_of_row wr bM 2 _ _ (0, 0) HSt.out.rm
      rw [HMc.out] at y0
      simp at y0
      by_cases hmn : m < n2
      ·have hmi : (m : Int) < (n2 : Int) := by omega
       have hml : m < D.l2.length := by rw [HM.out.h2]; exact hmn
       obtain ⟨b, o, ha⟩ := HM.out.s2.some (by omega)
       subst ha
       obtain ⟨k1, k2, k3⟩ := (HM.out.s2.keep HSt.out.bel).get m hml
       have HT : Hid (D.l2.take (m + 1) = D.l2.take m ++ [D.l2[m]]) := Lib.hid (List.take_succ_eq_append_getElem hml)
       obtain ⟨s, hs⟩ : ∃ s, s = D.l2[m] := ⟨_, rfl⟩
       rw [← hs] at k1 k2 k3 HT
       clear hs
       have HMk := Lib.hid (mark_walk HSt.out HNN.out s.f)
       go_wp2_with fail
       refine HMk.out.mono ?_
       rintro e w9 ⟨rfl, hst⟩
       have HS9 : Hid (QkSt w bM q gC gR N mc (clsF rest D.l1) (fun x => (D.l2.take (m + 1)).any (fun s => s.f == x)) w9) := Lib.hid (hst.congrR (fun x _ => by
        rw [HT.out]
        simp [List.any_append, Bool.or_assoc, Bool.beq_comm, @eq_comm Int]))
       clear hst
       go_wp2
       go_roundw
       case rel => exact ⟨m + 1, by omega, by go_num, HS9.out⟩
       case measure => simp [intOf]; omega
      ·obtain rfl : n2 = m := by omega
       have hmi : ¬ (n2 : Int) < (n2 : Int) := by omega
       have htk : D.l2.take n2 = D.l2 := List.take_of_length_le (Nat.le_of_eq HM.out.h2)
       have HSt3 : Hid (QkSt w bM q gC gR N mc (clsF rest D.l1) (fun x => (D.l2).any (fun s => s.f == x) || (D.l3.take 0).any (fun s => s.a == x)) wr) := Lib.hid (by
        refine HSt.out.congrR (fun x _ => ?_)
        simp [htk])
       clear htk HSt
       obtain ⟨w5, rfl⟩ : ∃ w5, w5 = wr := ⟨_, rfl⟩
       go_wp2
       go_loopw [9] (QkL w bM q gC gR N mc (fun _ => clsF rest D.l1) (fun j x => (D.l2).any (fun s => s.f == x) || (D.l3.take j).any (fun s => s.a == x)) n3) (fun i _ => n3 - (intOf i).toNat)
       case atStart => exact ⟨0, Nat.zero_le _, rfl, HSt3.out⟩
       case round =>
        obtain ⟨m, hm, rfl, hst⟩ := hrel
        have HSt := Lib.hid hst; clear hst
        have y0 := cell_of_row wr bM 3 _ _ (0, 0) HSt.out.rm
        rw [HMc.out] at y0
        simp at y0
        by_cases hmn : m < n3
        ·have hmi : (m : Int) < (n3 : Int) := by omega
         have hml : m < D.l3.length := by rw [HM.out.h3]; exact hmn
         obtain ⟨b, o, ha⟩ := HM.out.s3.some (by omega)
         subst ha
         obtain ⟨k1, k2⟩ := (HM.out.s3.keep HSt.out.bel).get m hml
         have HT : Hid (D.l3.take (m + 1) = D.l3.take m ++ [D.l3[m]]) := Lib.hid (List.take_succ_eq_append_getElem hml)
         obtain ⟨s, hs⟩ : ∃ s, s = D.l3[m] := ⟨_, rfl⟩
         rw [← hs] at k1 k2 HT
         clear hs
         have HMk := Lib.hid (mark_walk HSt.out HNN.out s.a)
         go_wp2_with fail
         refine HMk.out.mono ?_
         rintro e w9 ⟨rfl, hst⟩
         have HS9 : Hid (QkSt w bM q gC gR N mc (clsF rest D.l1) (fun x => (D.l2).any (fun s => s.f == x) || (D.l3.take (m + 1)).any (fun s => s.a == x)) w9) := Lib.hid (hst.congrR (fun x _ => by
          rw [HT.out]
          simp [List.any_append, Bool.or_assoc, Bool.beq_comm, @eq_comm Int]))
         clear hst
         go_wp2
         go_roundw
         case rel => exact ⟨m + 1, by omega, by go_num, HS9.out⟩
         case measure => simp [intOf]; omega
        ·obtain rfl : n3 = m := by omega
         have hmi : ¬ (n3 : Int) < (n3 : Int) := by omega
         have htk : D.l3.take n3 = D.l3 := List.take_of_length_le (Nat.le_of_eq HM.out.h3)
         have HSt4 : Hid (QkSt w bM q gC gR N mc (clsF rest D.l1) (fun x => (D.l2).any (fun s => s.f == x) || (D.l3).any (fun s => s.a == x) || (D.l4.take 0).any (fun s => s.a == x)) wr) := Lib.hid (by
          refine HSt.out.congrR (fun x _ => ?_)
          simp [htk])
         clear htk HSt
         obtain ⟨w5, rfl⟩ : ∃ w5, w5 = wr := ⟨_, rfl⟩
         go_wp2
         go_loopw [10] (QkL w bM q gC gR N mc (fun _ => clsF rest D.l1) (fun j x => (D.l2).any (fun s => s.f == x) || (D.l3).any (fun s => s.a == x) || (D.l4.take j).any (fun s => s.a == x)) n4) (fun i _ => n4 - (intOf i).toNat)
         case atStart => exact ⟨0, Nat.zero_le _, rfl, HSt4.out⟩
         case round =>
          obtain ⟨m, hm, rfl, hst⟩ := hrel
          have HSt := Lib.hid hst; clear hst
          have y0 := cell_of_row wr bM 4 _ _ (0, 0) HSt.out.rm
          rw [HMc.out] at y0
          simp at y0
          by_cases hmn : m < n4
          ·have hmi : (m : Int) < (n4 : Int) := by omega
           have hml : m < D.l4.length := by rw [HM.out.h4]; exact hmn
           obtain ⟨b, o, ha⟩ := HM.out.s4.some (by omega)
           subst ha
           obtain ⟨k1, k2⟩ := (HM.out.s4.keep HSt.out.bel).get m hml
           have HT : Hid (D.l4.take (m + 1) = D.l4.take m ++ [D.l4[m]]) := Lib.hid (List.take_succ_eq_append_getElem hml)
           obtain ⟨s, hs⟩ : ∃ s, s = D.l4[m] := ⟨_, rfl⟩
           rw [← hs] at k1 k2 HT
           clear hs
           have HMk := Lib.hid (mark_walk HSt.out HNN.out s.a)
           go_wp2_with fail
           refine HMk.out.mono ?_
           rintro e w9 ⟨rfl, hst⟩
           have HS9 : Hid (QkSt w bM q gC gR N mc (clsF rest D.l1) (fun x => (D.l2).any (fun s => s.f == x) || (D.l3).any (fun s => s.a == x) || (D.l4.take (m + 1)).any (fun s => s.a == x)) w9) := Lib.hid (hst.congrR (fun x _ => by
            rw [HT.out]
            simp [List.any_append, Bool.or_assoc, Bool.beq_comm, @eq_comm Int]))
           clear hst
           go_wp2
           go_roundw
           case rel => exact ⟨m + 1, by omega, by go_num, HS9.out⟩
           case measure => simp [intOf]; omega
          ·obtain rfl : n4 = m := by omega
           have hmi : ¬ (n4 : Int) < (n4 : Int) := by omega
           have htk : D.l4.take n4 = D.l4 := List.take_of_length_le (Nat.le_of_eq HM.out.h4)
           have HSt9 : Hid (QkSt w bM q gC gR N mc (clsF rest D.l1) (fun x => (D.l2).any (fun s => s.f == x) || (D.l3).any (fun s => s.a == x) || (D.l4).any (fun s => s.a == x)) wr) := Lib.hid (by
            refine HSt.out.congrR (fun x _ => ?_)
            simp [htk])
           clear htk HSt
           go_wp2
           go_ret
           refine ⟨q, rfl, ⟨bM, gC, gR, N, HNN.out, HSt9.out.rq, HMd.out _ HSt9.out.rm HSt9.out.bel, fun r hr => ?_, fun r hr => ⟨((D.l2).any (fun s => s.f == ((r : Nat) : Int)) || (D.l3).any (fun s => s.a == ((r : Nat) : Int)) || (D.l4).any (fun s => s.a == ((r : Nat) : Int))), ?_, fun h => ?_⟩⟩, HSt9.out.bel⟩
           ·have := HSt9.out.oC.cell r (by rw [ivs_length, rowF_length]; exact hr)
            rw [this]
            congr 1
            simp only [ivs, List.getElem_map]
            have h2 := rowF_get N (clsF rest D.l1) r hr
            rw [List.getElem?_eq_getElem (by rw [rowF_length]; exact hr)] at h2
            rw [Option.some.inj h2, HRest.out]
            rfl
           ·have := HSt9.out.oR.cell r (by rw [rowB_length]; exact hr)
            rw [this]
            have h2 := rowB_get N (fun x => (D.l2).any (fun s => s.f == x) || (D.l3).any (fun s => s.a == x) || (D.l4).any (fun s => s.a == x)) r hr
            rw [List.getElem?_eq_getElem (by rw [rowB_length]; exact hr)] at h2
            exact h2
           ·simp only [Bool.or_eq_false_iff, List.any_eq_false] at h
            exact noRow h.1.1 h.1.2 h.2


end Go.Proofs.YtbmphakfgoompaaGreat
