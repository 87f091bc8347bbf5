/- several texts in one: UQ1 UT0 UQ2 UQ3 -/
import Derived.Deep.RegionLaw
import Derived.Test.YtbmphakfgoompaaGreatG3
import Derived.StillTailTactics
import Derived.RegionTactic
import Derived.BigRegion
import Derived.Deep.RegionHeld3
set_option linter.unusedVariables false
set_option linter.unusedSimpArgs false
/-
 What lists make: the walks of the document's props.
-/
namespace Go.Proofs.YtbmphakfgoompaaGreat
open Go.RowKit

/-- what the last one of a list that holds says -/
def lastF {α β : Type} (p : α → Bool) (v : α → β) (z : β) (l : List α) : β := l.foldl (fun acc s => if p s = true then v s else acc) z
theorem lastF_keep {α β : Type} {p : α → Bool} {v : α → β} {z : β} : ∀ {l : List α}, (∀ s ∈ l, p s = false) → lastF p v z l = z
 | [], _ => rfl
 | s :: l, h => by
  unfold lastF
  rw [List.foldl_cons, if_neg (by rw [h s (by simp)]; simp)]
  exact lastF_keep (l := l) (fun s hs => h s (by simp [hs]))
theorem lastF_none {α β : Type} {p : α → Bool} {v : α → β} {z : β} {l : List α} (h : ∀ j, (hj : j < l.length) → p l[j] = false) : lastF p v z l = z :=
 lastF_keep (fun s hs => by obtain ⟨j, hj, rfl⟩ := List.mem_iff_getElem.1 hs; exact h j hj)
theorem lastF_at {α β : Type} {p : α → Bool} {v : α → β} {z : β} {l : List α} {i : Nat} (hi : i < l.length) (hp : p l[i] = true) (h : ∀ j, i < j → (hj : j < l.length) → p l[j] = false) : lastF p v z l = v l[i] := by
 have e : l = l.take i ++ l[i] :: l.drop (i + 1) := by
  rw [← List.drop_eq_getElem_cons hi, List.take_append_drop]
 have h2 : ∀ (a : β), lastF p v a (l.drop (i + 1)) = a := fun a => lastF_keep (fun s hs => by
  obtain ⟨j, hj, rfl⟩ := List.mem_iff_getElem.1 hs
  rw [List.getElem_drop]
  exact h _ (by omega) (by rw [List.length_drop] at hj; omega))
 have h3 : lastF p v z l = lastF p v z (l.take i ++ l[i] :: l.drop (i + 1)) := by rw [← e]
 rw [h3]
 unfold lastF
 rw [List.foldl_append, List.foldl_cons, if_pos hp]
 exact h2 _
theorem clsF_last (rest : Int) (l : List SpanD) (x : Int) : clsF rest l x = lastF (fun s => decide (s.f ≤ x ∧ x ≤ s.t)) (fun s => s.v) rest l := by
 unfold clsF lastF
 congr 1
 funext acc s
 simp

/-- what lists make: an entry of lists -/
structure MadeD where
 rest : Int
 l1 : List SpanD
 l2 : List SpanD
 l3 : List TwD
 l4 : List TwD
def brG (l : List SpanD) (x : Int) : Int × Int := lastF (fun s => s.f == x) (fun s => (s.t, s.v)) (0, 0) l
def twG (l : List TwD) (x : Int) : Int × Bool := lastF (fun s => s.a == x) (fun s => (s.s, true)) (0, false) l
def MadeD.cls (D : MadeD) (r : Nat) : Int := clsF D.rest D.l1 (r : Nat)
def MadeD.oth (D : MadeD) (r : Nat) : Int := (brG D.l2 (r : Nat)).1
def MadeD.side (D : MadeD) (r : Nat) : Int := (brG D.l2 (r : Nat)).2
def MadeD.twin (D : MadeD) (r : Nat) : Int := if (twG D.l3 (r : Nat)).2 = true then (twG D.l3 (r : Nat)).1 else (r : Nat)
def MadeD.mir (D : MadeD) (r : Nat) : Int := (twG D.l4 (r : Nat)).1
def MadeD.has (D : MadeD) (r : Nat) : Bool := (twG D.l4 (r : Nat)).2
/-- lists in memory, and the row that holds them -/
structure MadeSl (w : World) (D : MadeD) (a1 : Option Addr) (n1 c1 : Nat) (a2 : Option Addr) (n2 c2 : Nat) (a3 : Option Addr) (n3 c3 : Nat) (a4 : Option Addr) (n4 c4 : Nat) : Prop where
 h1 : D.l1.length = n1
 h2 : D.l2.length = n2
 h3 : D.l3.length = n3
 h4 : D.l4.length = n4
 b1 : n1 ≤ 1048576
 b2 : n2 ≤ 1048576
 b3 : n3 ≤ 1048576
 b4 : n4 ≤ 1048576
 s1 : SpansAt w a1 D.l1
 s2 : SpansAt w a2 D.l2
 s3 : TwAt w a3 D.l3
 s4 : TwAt w a4 D.l4
def MadeAt (w : World) (pm : Nat) (D : MadeD) : Prop :=
 ∃ a1 n1 c1 a2 n2 c2 a3 n3 c3 a4 n4 c4, w.heap[pm]? = some (.cells #[.int .u8 D.rest, .slice a1 n1 c1, .slice a2 n2 c2, .slice a3 n3 c3, .slice a4 n4 c4] 27 (0, 0)) ∧ MadeSl w D a1 n1 c1 a2 n2 c2 a3 n3 c3 a4 n4 c4
theorem MadeSl.below {w w' : World} {D : MadeD} {a1 : Option Addr} {n1 c1 : Nat} {a2 : Option Addr} {n2 c2 : Nat} {a3 : Option Addr} {n3 c3 : Nat} {a4 : Option Addr} {n4 c4 : Nat} (h : MadeSl w D a1 n1 c1 a2 n2 c2 a3 n3 c3 a4 n4 c4) (hb : Below w.heap.size w w') :
  MadeSl w' D a1 n1 c1 a2 n2 c2 a3 n3 c3 a4 n4 c4 := ⟨h.h1, h.h2, h.h3, h.h4, h.b1, h.b2, h.b3, h.b4, h.s1.keep hb, h.s2.keep hb, h.s3.keep hb, h.s4.keep hb⟩
theorem MadeAt.below {w w' : World} {pm : Nat} {D : MadeD} (h : MadeAt w pm D) (hb : Below w.heap.size w w') : MadeAt w' pm D := by
 obtain ⟨a1, n1, c1, a2, n2, c2, a3, n3, c3, a4, n4, c4, h1, h2⟩ := h
 exact ⟨a1, n1, c1, a2, n2, c2, a3, n3, c3, a4, n4, c4, (hb.block pm (Array.getElem?_eq_some_iff.1 h1).1).trans h1, h2.below hb⟩

theorem plain_walk (r : Int) (w : World) : Calls Tryz.prog 108 #[.int .i32 r] w fun e w' => e = .returned (.int .i32 (runeR r : Nat)) ∧ w' = w := by
 by_cases h1 : r < 0
 ·have e : runeR r = 65533 := if_pos (.inl h1)
  rw [e]
  go_enter Tryz.func108, Tryz.ntmps108
  go_wp2
  go_ret
  exact ⟨rfl, rfl⟩
 ·by_cases h2 : 1114111 < r
  ·have e : runeR r = 65533 := if_pos (.inr h2)
   rw [e]
   go_enter Tryz.func108, Tryz.ntmps108
   go_wp2
   go_ret
   exact ⟨rfl, rfl⟩
  ·have e : ((runeR r : Nat) : Int) = r := runeR_in ⟨by omega, by omega⟩
   rw [e]
   go_enter Tryz.func108, Tryz.ntmps108
   go_wp2
   go_ret
   exact ⟨rfl, rfl⟩
/-- going down a list: what lies from k on has not held -/
def DnR (w : World) (n : Nat) (no : Nat → Prop) (iv : Value) (wr : World) : Prop :=
 ∃ k : Nat, k ≤ n ∧ iv = .int .i64 ((k : Int) - 1) ∧ (∀ j, k ≤ j → j < n → no j) ∧ Below w.heap.size w wr

set_option maxRecDepth 100000 in
set_option maxHeartbeats 1600000 in
theorem row14_walk (a : Option Addr) (n c : Nat) (l : List TwD) (r : Int) (w : World) (hl : l.length = n) (hn : n ≤ 1048576) (hs : TwAt w a l) :
  Calls Tryz.prog 109 #[.slice a n c, .int .i32 r] w fun e w' => e = .returned (.tuple #[.int .i32 (twG l r).1, .bool (twG l r).2]) ∧ Below w.heap.size w w' := by
 have HL := Lib.hid hl; clear hl
 have HS := Lib.hid hs; clear hs
 have HB := Lib.hid (Below.refl w.heap.size w)
 go_enter Tryz.func109, Tryz.ntmps109
 go_wp2
 go_loopw [6] (DnR w n (fun j => ((l.getD j default).a == r) = false)) (fun i _ => ((intOf i) + 1).toNat)
 case atStart => exact ⟨n, Nat.le_refl _, by go_num, fun j h1 h2 => by omega, HB.out⟩
 case round =>
  obtain ⟨k, hk, rfl, hno, hb⟩ := hrel
  have HNo := Lib.hid hno; clear hno
  have HBe := Lib.hid hb; clear hb
  by_cases hk0 : k = 0
  ·subst hk0
   have HF : Hid (twG l r = (0, false)) := Lib.hid (lastF_none (fun j hj => by
    have : ((l.getD j default).a == r) = false := HNo.out j (Nat.zero_le _) (by have := HL.out; omega)
    rwa [show l.getD j default = l[j] by simp [hj]] at this))
   have hki : ¬ (0 : Int) ≤ ((0 : Nat) : Int) - 1 := by omega
   go_wp2
   refine bodyPost_ret (v := .tuple #[.int .i32 0, .bool false]) (by simp [results, Tryz.results109, go_sem]) rfl ?_
   exact ⟨by rw [HF.out], HBe.out⟩
  ·obtain ⟨m, rfl⟩ : ∃ m, k = m + 1 := ⟨k - 1, by omega⟩
   have hki : (((m + 1 : Nat) : Int) - 1) = (m : Int) := by omega
   rw [hki]
   have hm0 : (0 : Int) ≤ (m : Int) := by omega
   have hmn : (m : Int) < (n : Int) := by omega
   have hml : m < l.length := by rw [HL.out]; omega
   obtain ⟨b, o, ha⟩ := HS.out.some (by omega)
   subst ha
   obtain ⟨c1, c2⟩ := (HS.out.keep HBe.out).get m hml
   have HG := Lib.hid (show l.getD m default = l[m] by simp [hml])
   have HAt := Lib.hid (fun (h : (l[m].a == r) = true) => (show twG l r = (l[m].s, true) from lastF_at hml h (fun j h1 h2 => by
    have : ((l.getD j default).a == r) = false := HNo.out j (by omega) (by have := HL.out; omega)
    rwa [show l.getD j default = l[j] by simp [h2]] at this)))
   obtain ⟨s, hs⟩ : ∃ s, s = l[m] := ⟨_, rfl⟩
   rw [← hs] at c1 c2 HG HAt
   clear hs hki hk0
   by_cases hq : s.a = r
   ·have HE := Lib.hid (HAt.out (beq_iff_eq.2 hq))
    have hd : (s.a == r) = true := beq_iff_eq.2 hq
    clear hq
    go_wp2
    refine bodyPost_ret (v := .tuple #[.int .i32 s.s, .bool true]) (by simp [results, Tryz.results109, go_sem]) rfl ?_
    exact ⟨by rw [HE.out], HBe.out⟩
   ·have hd : (s.a == r) = false := beq_false_of_ne hq
    have HD := Lib.hid hd
    clear hq
    go_wp2
    go_roundw
    case rel => exact ⟨m, by omega, by go_num, fun j h1 h2 => by
     by_cases e : j = m
     ·show ((l.getD j default).a == r) = false
      rw [e, HG.out]; exact HD.out
     ·exact HNo.out j (by omega) h2, HBe.out⟩
    case measure => simp [intOf] <;> omega

set_option maxRecDepth 100000 in
set_option maxHeartbeats 1600000 in
theorem mTwin_walk (w : World) (pm : Nat) (D : MadeD) (h : MadeAt w pm D) (r : Int) :
  Calls Tryz.prog 68 #[.pointer (some ⟨pm, 0, none⟩), .int .i32 r] w fun e w' => e = .returned (.int .i32 (D.twin (runeR r))) ∧ Below w.heap.size w w' := by
 obtain ⟨a1, n1, c1, a2, n2, c2, a3, n3, c3, a4, n4, c4, hr, hm⟩ := h
 have q0 := cell_of_row w pm 3 _ _ (0, 0) hr
 simp at q0
 have HP := Lib.hid (plain_walk r w)
 have HR := Lib.hid (row14_walk a3 n3 c3 D.l3 (runeR r : Nat) w hm.h3 hm.b3 hm.s3)
 have HT := Lib.hid (show D.twin (runeR r) = if (twG D.l3 (runeR r : Nat)).2 = true then (twG D.l3 (runeR r : Nat)).1 else (runeR r : Nat) from rfl)
 clear hr hm
 generalize twG D.l3 (runeR r : Nat) = x at *
 generalize runeR r = q at *
 obtain ⟨x, b⟩ := x
 go_enter Tryz.func68, Tryz.ntmps68
 go_wp2_with fail
 refine HP.out.mono ?_
 rintro e w1 ⟨rfl, h1⟩
 subst h1
 go_wp2_with fail
 refine HR.out.mono ?_
 rintro e w2 ⟨rfl, hb⟩
 have HB := Lib.hid hb; clear hb
 cases b
 ·go_wp2
  go_ret
  exact ⟨by rw [HT.out]; rfl, HB.out⟩
 ·go_wp2
  go_ret
  exact ⟨by rw [HT.out]; rfl, HB.out⟩

set_option maxRecDepth 100000 in
set_option maxHeartbeats 1600000 in
theorem mMirror_walk (w : World) (pm : Nat) (D : MadeD) (h : MadeAt w pm D) (r : Int) :
  Calls Tryz.prog 69 #[.pointer (some ⟨pm, 0, none⟩), .int .i32 r] w fun e w' => e = .returned (.tuple #[.int .i32 (D.mir (runeR r)), .bool (D.has (runeR r))]) ∧ Below w.heap.size w w' := by
 obtain ⟨a1, n1, c1, a2, n2, c2, a3, n3, c3, a4, n4, c4, hr, hm⟩ := h
 have q0 := cell_of_row w pm 4 _ _ (0, 0) hr
 simp at q0
 have HP := Lib.hid (fun q : Regrown => Go.Calls.regrown_of ((plain_walk r (Go.Sort.grow (redrawn w q.d) q.os)).mono fun e w' h => (show e = .returned (.int .i32 (runeR r : Nat)) ∧ Below _ _ w' from ⟨h.1, by rw [h.2]; exact Below.refl _ _⟩)))
 have HR := Lib.hid (fun q : Regrown => Go.Calls.regrown_of (row14_walk a4 n4 c4 D.l4 (runeR r : Nat) (Go.Sort.grow (redrawn w q.d) q.os) hm.h4 hm.b4 (hm.s4.keep (below_regrown w q.d q.os))))
 have HT := Lib.hid (show D.mir (runeR r) = (twG D.l4 (runeR r : Nat)).1 ∧ D.has (runeR r) = (twG D.l4 (runeR r : Nat)).2 from ⟨rfl, rfl⟩)
 have g0 := fun d os => cell_regrown q0 d os
 clear hr hm q0
 generalize twG D.l4 (runeR r : Nat) = x at *
 generalize runeR r = q at *
 obtain ⟨x, b⟩ := x
 go_enter Tryz.func69, Tryz.ntmps69
 go_upto_region 1 with (fail)
 refine wp_region_quiet_below (by kernel_rfl) (by kernel_rfl) ?_
 iterate 5 (go_big_quiet_step (fail))
 go_big_quiet_step (exact HP.out _)
 go_big_quiet_step (exact HR.out _)
 iterate 4 (go_big_quiet_step (fail))
 refine wpQuiet_nil ?_
 intro _ hw'
 obtain ⟨⟨dq, osq⟩, hw''⟩ := hw'
 subst hw''
 have hb := below_regrown w dq osq
 have HB := Lib.hid hb
 generalize Go.Sort.grow (redrawn w dq) osq = w9 at *
 clear hb g0
 go_wp2
 refine bodyPost_ret (v := .tuple #[.int .i32 x, .bool b]) (by simp [results, Tryz.results69, go_sem]) rfl ?_
 exact ⟨by rw [HT.out.1, HT.out.2], HB.out⟩

set_option maxRecDepth 100000 in
set_option maxHeartbeats 1600000 in
theorem mBracket_walk (w : World) (pm : Nat) (D : MadeD) (h : MadeAt w pm D) (r : Int) :
  Calls Tryz.prog 67 #[.pointer (some ⟨pm, 0, none⟩), .int .i32 r] w fun e w' => e = .returned (.tuple #[.int .i32 (D.oth (runeR r)), .int .u8 (D.side (runeR r))]) ∧ Below w.heap.size w w' := by
 have HMd := Lib.hid h
 obtain ⟨a1, n1, c1, a, n, c, a3, n3, c3, a4, n4, c4, hr, hm⟩ := h
 have q0 := cell_of_row w pm 2 _ _ (0, 0) hr
 simp at q0
 have HP := Lib.hid (plain_walk r w)
 have HT := Lib.hid (show D.oth (runeR r) = (brG D.l2 (runeR r : Nat)).1 ∧ D.side (runeR r) = (brG D.l2 (runeR r : Nat)).2 from ⟨rfl, rfl⟩)
 have HL := Lib.hid hm.h2
 have HS := Lib.hid hm.s2
 have hn := hm.b2
 have HR := Lib.hid hr
 clear hr hm
 obtain ⟨l, hl⟩ : ∃ l, l = D.l2 := ⟨_, rfl⟩
 rw [← hl] at HT HL HS
 clear hl
 generalize runeR r = q at *
 have HB := Lib.hid (Below.refl w.heap.size w)
 go_enter Tryz.func67, Tryz.ntmps67
 go_wp2_with fail
 refine HP.out.mono ?_
 rintro e w1 ⟨rfl, h1⟩
 subst h1
 clear HP
 obtain ⟨w, rfl⟩ : ∃ w, w = w1 := ⟨_, rfl⟩
 go_wp2
 go_loopw [6] (DnR w n (fun j => ((l.getD j default).f == (q : Nat)) = false)) (fun i _ => ((intOf i) + 1).toNat)
 case atStart => exact ⟨n, Nat.le_refl _, by go_num, fun j h1 h2 => by omega, HB.out⟩
 case round =>
  obtain ⟨k, hk, rfl, hno, hb⟩ := hrel
  have HNo := Lib.hid hno; clear hno
  have q1 := (hb.cell (p := ⟨pm, 2, none⟩) (World.block_lt_of_cell? w _ q0)).trans q0
  have HBe := Lib.hid hb; clear hb
  by_cases hk0 : k = 0
  ·subst hk0
   have HF : Hid (brG l (q : Nat) = (0, 0)) := Lib.hid (lastF_none (fun j hj => by
    have : ((l.getD j default).f == (q : Nat)) = false := HNo.out j (Nat.zero_le _) (by have := HL.out; omega)
    rwa [show l.getD j default = l[j] by simp [hj]] at this))
   have hki : ¬ (0 : Int) ≤ ((0 : Nat) : Int) - 1 := by omega
   go_wp2
   refine bodyPost_ret (v := .tuple #[.int .i32 0, .int .u8 0]) (by simp [results, Tryz.results67, go_sem]) rfl ?_
   exact ⟨by rw [HT.out.1, HT.out.2, HF.out], HBe.out⟩
  ·obtain ⟨m, rfl⟩ : ∃ m, k = m + 1 := ⟨k - 1, by omega⟩
   have hki : (((m + 1 : Nat) : Int) - 1) = (m : Int) := by omega
   rw [hki]
   have hm0 : (0 : Int) ≤ (m : Int) := by omega
   have hmn : (m : Int) < (n : Int) := by omega
   have hml : m < l.length := by rw [HL.out]; omega
   obtain ⟨b, o, ha⟩ := HS.out.some (by omega)
   subst ha
   obtain ⟨c1, c2, c3⟩ := (HS.out.keep HBe.out).get m hml
   have HG := Lib.hid (show l.getD m default = l[m] by simp [hml])
   have HAt := Lib.hid (fun (h : (l[m].f == (q : Nat)) = true) => (show brG l (q : Nat) = (l[m].t, l[m].v) from lastF_at hml h (fun j h1 h2 => by
    have : ((l.getD j default).f == (q : Nat)) = false := HNo.out j (by omega) (by have := HL.out; omega)
    rwa [show l.getD j default = l[j] by simp [h2]] at this)))
   obtain ⟨s, hs⟩ : ∃ s, s = l[m] := ⟨_, rfl⟩
   rw [← hs] at c1 c2 c3 HG HAt
   clear hs hki hk0
   by_cases hq : s.f = (q : Nat)
   ·have HE := Lib.hid (HAt.out (beq_iff_eq.2 hq))
    have hd : (s.f == (q : Int)) = true := beq_iff_eq.2 hq
    clear hq
    go_wp2
    go_quiet (fail)
    go_wp2
    refine bodyPost_ret (v := .tuple #[.int .i32 s.t, .int .u8 s.v]) (by simp [results, Tryz.results67, go_sem]) rfl ?_
    exact ⟨by rw [HT.out.1, HT.out.2, HE.out], below_drewN HBe.out _⟩
   ·have hd : (s.f == (q : Int)) = false := beq_false_of_ne hq
    have HD := Lib.hid hd
    clear hq
    go_wp2
    go_roundw
    case rel => exact ⟨m, by omega, by go_num, fun j h1 h2 => by
     by_cases e : j = m
     ·show ((l.getD j default).f == (q : Nat)) = false
      rw [e, HG.out]; exact HD.out
     ·exact HNo.out j (by omega) h2, HBe.out⟩
    case measure => simp [intOf] <;> omega

set_option maxRecDepth 100000 in
set_option maxHeartbeats 1600000 in
theorem mClass_walk (w : World) (pm : Nat) (D : MadeD) (h : MadeAt w pm D) (r : Int) :
  Calls Tryz.prog 66 #[.pointer (some ⟨pm, 0, none⟩), .int .i32 r] w fun e w' => e = .returned (.int .u8 (D.cls (runeR r))) ∧ Below w.heap.size w w' := by
 obtain ⟨a, n, c, a2, n2, c2, a3, n3, c3, a4, n4, c4, hr, hm⟩ := h
 have q0 := cell_of_row w pm 1 _ _ (0, 0) hr
 have q5 := cell_of_row w pm 0 _ _ (0, 0) hr
 simp at q0 q5
 have HP := Lib.hid (plain_walk r w)
 have HT := Lib.hid (show D.cls (runeR r) = lastF (fun s : SpanD => decide (s.f ≤ ((runeR r : Nat) : Int) ∧ ((runeR r : Nat) : Int) ≤ s.t)) (fun s => s.v) D.rest D.l1 from clsF_last _ _ _)
 have HL := Lib.hid hm.h1
 have HS := Lib.hid hm.s1
 have hn := hm.b1
 clear hr hm
 obtain ⟨l, hl⟩ : ∃ l, l = D.l1 := ⟨_, rfl⟩
 rw [← hl] at HT HL HS
 clear hl
 generalize D.rest = rest at *
 generalize runeR r = q at *
 have HB := Lib.hid (Below.refl w.heap.size w)
 go_enter Tryz.func66, Tryz.ntmps66
 go_wp2_with fail
 refine HP.out.mono ?_
 rintro e w1 ⟨rfl, h1⟩
 subst h1
 clear HP
 obtain ⟨w, rfl⟩ : ∃ w, w = w1 := ⟨_, rfl⟩
 go_wp2
 go_loopw [5] (DnR w n (fun j => decide ((l.getD j default).f ≤ ((q : Nat) : Int) ∧ ((q : Nat) : Int) ≤ (l.getD j default).t) = false)) (fun i _ => ((intOf i) + 1).toNat)
 case atStart => exact ⟨n, Nat.le_refl _, by go_num, fun j h1 h2 => by omega, HB.out⟩
 case round =>
  obtain ⟨k, hk, rfl, hno, hb⟩ := hrel
  have HNo := Lib.hid hno; clear hno
  have q1 := (hb.cell (p := ⟨pm, 1, none⟩) (World.block_lt_of_cell? w _ q0)).trans q0
  have q6 := (hb.cell (p := ⟨pm, 0, none⟩) (World.block_lt_of_cell? w _ q5)).trans q5
  have HBe := Lib.hid hb; clear hb
  by_cases hk0 : k = 0
  ·subst hk0
   have HF : Hid (lastF (fun s : SpanD => decide (s.f ≤ ((q : Nat) : Int) ∧ ((q : Nat) : Int) ≤ s.t)) (fun s => s.v) rest l = rest) := Lib.hid (lastF_none (fun j hj => by
    have : decide ((l.getD j default).f ≤ ((q : Nat) : Int) ∧ ((q : Nat) : Int) ≤ (l.getD j default).t) = false := HNo.out j (Nat.zero_le _) (by have := HL.out; omega)
    rwa [show l.getD j default = l[j] by simp [hj]] at this))
   have hki : ¬ (0 : Int) ≤ ((0 : Nat) : Int) - 1 := by omega
   go_wp2
   go_ret
   exact ⟨ret_eq (congrArg (Value.int .u8) ((HT.out.trans HF.out).symm)), HBe.out⟩
  ·obtain ⟨m, rfl⟩ : ∃ m, k = m + 1 := ⟨k - 1, by omega⟩
   have hki : (((m + 1 : Nat) : Int) - 1) = (m : Int) := by omega
   rw [hki]
   have hm0 : (0 : Int) ≤ (m : Int) := by omega
   have hmn : (m : Int) < (n : Int) := by omega
   have hml : m < l.length := by rw [HL.out]; omega
   obtain ⟨b, o, ha⟩ := HS.out.some (by omega)
   subst ha
   obtain ⟨c1, c2, c3⟩ := (HS.out.keep HBe.out).get m hml
   have HG := Lib.hid (show l.getD m default = l[m] by simp [hml])
   have HAt := Lib.hid (fun (h : decide (l[m].f ≤ ((q : Nat) : Int) ∧ ((q : Nat) : Int) ≤ l[m].t) = true) => (show lastF (fun s : SpanD => decide (s.f ≤ ((q : Nat) : Int) ∧ ((q : Nat) : Int) ≤ s.t)) (fun s => s.v) rest l = l[m].v from lastF_at hml h (fun j h1 h2 => by
    have : decide ((l.getD j default).f ≤ ((q : Nat) : Int) ∧ ((q : Nat) : Int) ≤ (l.getD j default).t) = false := HNo.out j (by omega) (by have := HL.out; omega)
    rwa [show l.getD j default = l[j] by simp [h2]] at this)))
   obtain ⟨s, hs⟩ : ∃ s, s = l[m] := ⟨_, rfl⟩
   rw [← hs] at c1 c2 c3 HG HAt
   clear hs hki hk0
   have a1 := heap_alloc_new wr (.cells #[.int .i32 s.f, .int .i32 s.t, .int .u8 s.v] 63)
   have b1 := (Below.refl _ wr).alloc (Nat.le_refl _) (.cells #[.int .i32 s.f, .int .i32 s.t, .int .u8 s.v] 63)
   have HW1 := Lib.hid (And.intro a1 b1)
   clear a1 b1
   go_upto_region 6 with (fail)
   obtain ⟨a1, b1⟩ := HW1.out
   clear HW1
   obtain ⟨bx, hbx⟩ : ∃ bx, bx = wr.heap.size := ⟨_, rfl⟩
   rw [← hbx] at a1 ⊢
   generalize wr.alloc (.cells #[.int .i32 s.f, .int .i32 s.t, .int .u8 s.v] 63) = w1 at *
   have HBe1 := Lib.hid (HBe.out.trans (b1.mono HBe.out.size))
   have d0 := cell_of_row w1 bx 0 _ _ (0, 0) a1
   have d1 := cell_of_row w1 bx 1 _ _ (0, 0) a1
   have d2 := cell_of_row w1 bx 2 _ _ (0, 0) a1
   simp at d0 d1 d2
   clear a1 b1 hbx c1 c2 c3 q1 q6
   by_cases hq1 : s.f ≤ ((q : Nat) : Int)
   ·by_cases hq2 : ((q : Nat) : Int) ≤ s.t
    ·have HE := Lib.hid (HAt.out (decide_eq_true ⟨hq1, hq2⟩))
     go_wp2
     go_ret
     exact ⟨ret_eq (congrArg (Value.int .u8) ((HT.out.trans HE.out).symm)), HBe1.out⟩
    ·have HD := Lib.hid hq2
     go_wp2
     go_roundw
     case rel => exact ⟨m, by omega, by go_num, fun j h1 h2 => by
      by_cases e : j = m
      ·show decide ((l.getD j default).f ≤ ((q : Nat) : Int) ∧ ((q : Nat) : Int) ≤ (l.getD j default).t) = false
       rw [e, HG.out]; exact decide_eq_false (fun h => HD.out h.2)
      ·exact HNo.out j (by omega) h2, HBe1.out⟩
     case measure => simp [intOf] <;> omega
   ·have HD := Lib.hid hq1
    go_wp2
    go_roundw
    case rel => exact ⟨m, by omega, by go_num, fun j h1 h2 => by
     by_cases e : j = m
     ·show decide ((l.getD j default).f ≤ ((q : Nat) : Int) ∧ ((q : Nat) : Int) ≤ (l.getD j default).t) = false
      rw [e, HG.out]; exact decide_eq_false (fun h => HD.out h.1)
     ·exact HNo.out j (by omega) h2, HBe1.out⟩
    case measure => simp [intOf] <;> omega
end Go.Proofs.YtbmphakfgoompaaGreat

/-
 The last one of a list that holds: by cases.
-/
namespace Go.Proofs.YtbmphakfgoompaaGreat
open Go.RowKit

theorem lastF_cases {α β : Type} (p : α → Bool) (v : α → β) : ∀ (l : List α) (z : β), lastF p v z l = z ∨ ∃ s ∈ l, p s = true ∧ lastF p v z l = v s
 | [], _ => .inl rfl
 | s :: l, z => by
  unfold lastF
  rw [List.foldl_cons]
  by_cases e : p s = true
  ·rw [if_pos e]
   rcases lastF_cases p v l (v s) with h | ⟨x, h1, h2, h3⟩
   ·exact .inr ⟨s, by simp, e, h⟩
   ·exact .inr ⟨x, by simp [h1], h2, h3⟩
  ·rw [if_neg e]
   rcases lastF_cases p v l z with h | ⟨x, h1, h2, h3⟩
   ·exact .inl h
   ·exact .inr ⟨x, by simp [h1], h2, h3⟩
end Go.Proofs.YtbmphakfgoompaaGreat

/-
 What lists make, looked up at once: the walks of its methods.
-/
namespace Go.Proofs.YtbmphakfgoompaaGreat
open Go.RowKit

/-- no list has a row of a number -/
structure NoRow (D : MadeD) (r : Nat) : Prop where
 o : D.oth r = 0
 s : D.side r = 0
 t : D.twin r = (r : Nat)
 m : D.mir r = 0
 h : D.has r = false
structure QuickAt (w : World) (q pm gC gR N : Nat) (D : MadeD) : Prop where
 hN : N = 1114112
 row : w.heap[q]? = some (.cells #[.pointer (some ⟨pm, 0, none⟩), .slice (some ⟨gC, 0, none⟩) N N, .slice (some ⟨gR, 0, none⟩) N N] 129 (0, 0))
 made : MadeAt w pm D
 cls : ∀ r, r < N → w.cell? ⟨gC, r, none⟩ = some (.int .u8 (D.cls r))
 has : ∀ r, r < N → ∃ b, w.cell? ⟨gR, r, none⟩ = some (.bool b) ∧ (b = false → NoRow D r)
theorem QuickAt.below {w w' : World} {q pm gC gR N : Nat} {D : MadeD} (h : QuickAt w q pm gC gR N D) (hb : Below w.heap.size w w') : QuickAt w' q pm gC gR N D where
 hN := h.hN
 row := (hb.block q (Array.getElem?_eq_some_iff.1 h.row).1).trans h.row
 made := h.made.below hb
 cls := fun r hr => (hb.cell (p := ⟨gC, r, none⟩) (World.block_lt_of_cell? w _ (h.cls r hr))).trans (h.cls r hr)
 has := fun r hr => by
  obtain ⟨b, h1, h2⟩ := h.has r hr
  exact ⟨b, (hb.cell (p := ⟨gR, r, none⟩) (World.block_lt_of_cell? w _ h1)).trans h1, h2⟩

end Go.Proofs.YtbmphakfgoompaaGreat

/-
 What lists make, looked up at once: how it is made.
-/
namespace Go.Proofs.YtbmphakfgoompaaGreat
open Go.RowKit

theorem Tryz.elemCls : Elem Tryz.prog 44 22 (.int .u8 0) 1 := ⟨Tryz.underlying44, by kernel_rfl, rfl⟩
def rowB (N : Nat) (g : Int → Bool) : List Value := (List.range N).map (fun i => Value.bool (g ((i : Nat) : Int)))
/-- on its way: the lists' row, the two rows that are filled -/
structure QkSt (w0 : World) (bM q gC gR N : Nat) (mc : Array Value) (gc : Int → Int) (gr : Int → Bool) (wr : World) : Prop where
 bel : Below w0.heap.size w0 wr
 oC : Own w0.heap.size 22 wr (some ⟨gC, 0, none⟩) N N (ivs .u8 (rowF N gc))
 oR : Own w0.heap.size 4 wr (some ⟨gR, 0, none⟩) N N (rowB N gr)
 rq : wr.heap[q]? = some (.cells #[.pointer (some ⟨bM, 0, none⟩), .slice (some ⟨gC, 0, none⟩) N N, .slice (some ⟨gR, 0, none⟩) N N] 129 (0, 0))
 rm : wr.heap[bM]? = some (.cells mc 27 (0, 0))
 ne1 : gC ≠ gR
 ne2 : q ≠ gC ∧ q ≠ gR
 ne3 : bM ≠ gC ∧ bM ≠ gR
 cB : w0.heap.size ≤ gC ∧ w0.heap.size ≤ gR
theorem QkSt.next {w0 : World} {bM q gC gR N : Nat} {mc : Array Value} {gc : Int → Int} {gr : Int → Bool} {wr w' : World} (h : QkSt w0 bM q gC gR N mc gc gr wr) (hb : Below wr.heap.size wr w') : QkSt w0 bM q gC gR N mc gc gr w' where
 bel := h.bel.trans (hb.mono h.bel.size)
 oC := h.oC.below hb (Nat.le_refl _)
 oR := h.oR.below hb (Nat.le_refl _)
 rq := (hb.block q (Array.getElem?_eq_some_iff.1 h.rq).1).trans h.rq
 rm := (hb.block bM (Array.getElem?_eq_some_iff.1 h.rm).1).trans h.rm
 ne1 := h.ne1
 ne2 := h.ne2
 ne3 := h.ne3
 cB := h.cB
end Go.Proofs.YtbmphakfgoompaaGreat
