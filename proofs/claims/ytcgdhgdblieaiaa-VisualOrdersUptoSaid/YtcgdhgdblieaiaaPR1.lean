/-
  Props made by hand, in memory; the walks that look a character up.
-/
import Derived.Test.YtcgdhgdblieaiaaW1
import Derived.Test.YtcgdhgdblieaiaaBase5
import Derived.RegionTactic
import Derived.BigRegion
import Derived.Deep.QuietTactic
import Derived.BigQuiet
import Derived.Deep.RegionHeld3
set_option linter.unusedVariables false
namespace Go.Proofs.Ytcgdhgdblieaiaa
open Go.RowKit

structure CharD where
  rune : Int
  cls : Int
  other : Int
  side : Int
  twin : Int
  mirror : Int
  turns : Bool
def CharD.zero : CharD := ⟨0, 0, 0, 0, 0, 0, false⟩
def CharD.val (c : CharD) : Value := .agg #[.int .i32 c.rune, .int .u8 c.cls, .int .i32 c.other, .int .u8 c.side, .int .i32 c.twin, .int .i32 c.mirror, .bool c.turns]

/-- one of them, seven cells at an address -/
structure CharAt (w : World) (b o : Nat) (c : CharD) : Prop where
  k0 : w.cell? ⟨b, o, none⟩ = some (.int .i32 c.rune)
  k1 : w.cell? ⟨b, o + 1, none⟩ = some (.int .u8 c.cls)
  k2 : w.cell? ⟨b, o + 2, none⟩ = some (.int .i32 c.other)
  k3 : w.cell? ⟨b, o + 3, none⟩ = some (.int .u8 c.side)
  k4 : w.cell? ⟨b, o + 4, none⟩ = some (.int .i32 c.twin)
  k5 : w.cell? ⟨b, o + 5, none⟩ = some (.int .i32 c.mirror)
  k6 : w.cell? ⟨b, o + 6, none⟩ = some (.bool c.turns)
theorem CharAt.below {w w' : World} {B b o : Nat} {c : CharD} (h : CharAt w b o c) (hb : Below B w w') (hB : w.heap.size ≤ B) : CharAt w' b o c := by
  have hl : b < B := by have := World.block_lt_of_cell? w _ h.k0; simp at this; omega
  have g : ∀ k, w'.cell? ⟨b, k, none⟩ = w.cell? ⟨b, k, none⟩ := fun k => hb.cell (p := ⟨b, k, none⟩) hl
  exact ⟨by rw [g]; exact h.k0, by rw [g]; exact h.k1, by rw [g]; exact h.k2, by rw [g]; exact h.k3, by rw [g]; exact h.k4, by rw [g]; exact h.k5, by rw [g]; exact h.k6⟩
def Chars (w : World) (a : Option Addr) (cs : List CharD) : Prop :=
  ∀ i (h : i < cs.length), ∃ b o, a = some ⟨b, o, none⟩ ∧ CharAt w b (o + i * 7) cs[i]
theorem Chars.below {w w' : World} {B : Nat} {a : Option Addr} {cs : List CharD} (h : Chars w a cs) (hb : Below B w w') (hB : w.heap.size ≤ B) : Chars w' a cs := by
  intro i hi
  obtain ⟨b, o, h1, h2⟩ := h i hi
  exact ⟨b, o, h1, h2.below hb hB⟩

def findC (cs : List CharD) (r : Int) : Option CharD := cs.find? (fun c => c.rune == r)
def atV (cs : List CharD) (r : Int) : Value := match findC cs r with
  | some c => .tuple #[c.val, .bool true]
  | none => .tuple #[CharD.zero.val, .bool false]
theorem find_take {cs : List CharD} {r : Int} {k : Nat} (hk : k < cs.length) (h : ∀ j, (hj : j < k) → (cs[j]'(by omega)).rune ≠ r) (hr : cs[k].rune = r) : findC cs r = some cs[k] := by
  unfold findC
  rw [List.find?_eq_some_iff_getElem]
  refine ⟨by simpa using hr, k, hk, rfl, fun j hj => ?_⟩
  simpa using h j hj
theorem find_none {cs : List CharD} {r : Int} (h : ∀ j, (hj : j < cs.length) → cs[j].rune ≠ r) : findC cs r = none := by
  unfold findC
  rw [List.find?_eq_none]
  intro c hc
  obtain ⟨j, hj, rfl⟩ := List.getElem_of_mem hc
  simpa using h j hj

def AtR (cs : List CharD) (r : Int) (v : Value) : Prop := ∃ k : Nat, k ≤ cs.length ∧ v = .int .i64 k ∧ ∀ j, (hj : j < k) → (h2 : j < cs.length) → cs[j].rune ≠ r

set_option maxHeartbeats 2000000 in
theorem at_walk (rest : Int) (a : Option Addr) (n cap : Nat) (cs : List CharD) (r : Int) (w : World) (hn : cs.length = n) (hm : n ≤ 9223372036854775807) (hc : Chars w a cs) :
    Calls Try.prog 57 #[.agg #[.int .u8 rest, .slice a n cap], .int .i32 r] w fun e w' => e = .returned (atV cs r) ∧ Below w.heap.size w w' := by
  have HN := Lib.hid hn; clear hn
  have HC := Lib.hid hc; clear hc
  go_enter Try.func57, Try.ntmps57
  go_wp2
  have hA : ((w.alloc (.cells #[.int .u8 rest, .slice a n cap] 54)).alloc (.cells #[.int .i32 0, .int .u8 0, .int .i32 0, .int .u8 0, .int .i32 0, .int .i32 0, .bool false] 75)).heap[w.heap.size]? = some (.cells #[.int .u8 rest, .slice a n cap] 54 (0, 0)) := by
    rw [Below.heap_alloc _ _ w.heap.size (by simp)]
    exact heap_alloc_new w _
  have hZ : ((w.alloc (.cells #[.int .u8 rest, .slice a n cap] 54)).alloc (.cells #[.int .i32 0, .int .u8 0, .int .i32 0, .int .u8 0, .int .i32 0, .int .i32 0, .bool false] 75)).heap[w.heap.size + 1]? = some (.cells #[.int .i32 0, .int .u8 0, .int .i32 0, .int .u8 0, .int .i32 0, .int .i32 0, .bool false] 75 (0, 0)) := by
    have := heap_alloc_new (w.alloc (.cells #[.int .u8 rest, .slice a n cap] 54)) (.cells #[.int .i32 0, .int .u8 0, .int .i32 0, .int .u8 0, .int .i32 0, .int .i32 0, .bool false] 75)
    simpa using this
  have hB : Below w.heap.size w ((w.alloc (.cells #[.int .u8 rest, .slice a n cap] 54)).alloc (.cells #[.int .i32 0, .int .u8 0, .int .i32 0, .int .u8 0, .int .i32 0, .int .i32 0, .bool false] 75)) := ((Below.refl _ w).alloc (Nat.le_refl _) _).alloc (by simp) _
  generalize ((w.alloc (.cells #[.int .u8 rest, .slice a n cap] 54)).alloc (.cells #[.int .i32 0, .int .u8 0, .int .i32 0, .int .u8 0, .int .i32 0, .int .i32 0, .bool false] 75)) = W at *
  have HB := Lib.hid hB; clear hB
  have HCW := Lib.hid (HC.out.below HB.out (Nat.le_refl _))
  have p1 := cell_of_row W w.heap.size 1 _ _ (0, 0) hA
  have r0 := cell_of_row W (w.heap.size + 1) 0 _ _ (0, 0) hZ
  have r1 := cell_of_row W (w.heap.size + 1) 1 _ _ (0, 0) hZ
  have r2 := cell_of_row W (w.heap.size + 1) 2 _ _ (0, 0) hZ
  have r3 := cell_of_row W (w.heap.size + 1) 3 _ _ (0, 0) hZ
  have r4 := cell_of_row W (w.heap.size + 1) 4 _ _ (0, 0) hZ
  have r5 := cell_of_row W (w.heap.size + 1) 5 _ _ (0, 0) hZ
  have r6 := cell_of_row W (w.heap.size + 1) 6 _ _ (0, 0) hZ
  have f0 := frozen_of_row W (w.heap.size + 1) 0 _ _ hZ
  have f1 := frozen_of_row W (w.heap.size + 1) 1 _ _ hZ
  have f2 := frozen_of_row W (w.heap.size + 1) 2 _ _ hZ
  have f3 := frozen_of_row W (w.heap.size + 1) 3 _ _ hZ
  have f4 := frozen_of_row W (w.heap.size + 1) 4 _ _ hZ
  have f5 := frozen_of_row W (w.heap.size + 1) 5 _ _ hZ
  have f6 := frozen_of_row W (w.heap.size + 1) 6 _ _ hZ
  simp at p1 r0 r1 r2 r3 r4 r5 r6
  clear hA hZ
  go_loop [6] (AtR cs r) (fun v => n - (intOf v).toNat)
  case atStart => exact ⟨0, Nat.zero_le _, rfl, fun j hj => by omega⟩
  case round =>
    obtain ⟨k, hk, rfl, hne⟩ := hrel
    have HNE := Lib.hid hne; clear hne
    have hkn : k ≤ n := by rw [← HN.out]; exact hk
    clear hk
    by_cases hlt : k < n
    · have hkl : k < cs.length := by rw [HN.out]; exact hlt
      have hki : (k : Int) < (n : Int) := by omega
      obtain ⟨b, o, ha, hch⟩ := HCW.out k hkl
      subst ha
      obtain ⟨c0, c1, c2, c3, c4, c5, c6⟩ := hch
      have HV := Lib.hid (show cs[k].rune = r → atV cs r = .tuple #[cs[k].val, .bool true] from fun h => by
        unfold atV; rw [find_take hkl (fun j hj => HNE.out j hj (by omega)) h])
      generalize hx : cs[k] = ch at *
      obtain ⟨x0, x1, x2, x3, x4, x5, x6⟩ := ch
      have HX := Lib.hid (show cs[k].rune = x0 by rw [hx]); clear hx
      simp only at c0 c1 c2 c3 c4 c5 c6 HV
      by_cases he : x0 = r
      · have HR := Lib.hid (HV.out he)
        subst he
        go_wp2
        refine bodyPost_ret (v := .tuple #[.agg #[.int .i32 x0, .int .u8 x1, .int .i32 x2, .int .u8 x3, .int .i32 x4, .int .i32 x5, .bool x6], .bool true]) (by simp [results, Try.results57, go_sem, r0, r1, r2, r3, r4, r5, r6]) rfl ?_
        exact ⟨by rw [HR.out]; rfl, ((((((HB.out.setCell (by simp) _).setCell (by simp) _).setCell (by simp) _).setCell (by simp) _).setCell (by simp) _).setCell (by simp) _).setCell (by simp) _⟩
      · have hb : (x0 == r) = false := by simpa using he
        have HNE2 := Lib.hid (show ∀ j, (hj : j < k + 1) → (h2 : j < cs.length) → cs[j].rune ≠ r from fun j hj h2 => by
          by_cases e : j = k
          · subst e; exact HX.out.symm ▸ he
          · exact HNE.out j (by omega) h2)
        go_wp2
        go_round
        case rel => exact ⟨k + 1, by have := HN.out; omega, by go_num, HNE2.out⟩
        case measure => simp [intOf]; omega
    · obtain rfl : k = n := by omega
      have HR := Lib.hid (show atV cs r = .tuple #[CharD.zero.val, .bool false] by
        unfold atV; rw [find_none (fun j hj => HNE.out j (by have := HN.out; omega) hj)])
      go_wp2
      refine bodyPost_ret (v := .tuple #[.agg #[.int .i32 0, .int .u8 0, .int .i32 0, .int .u8 0, .int .i32 0, .int .i32 0, .bool false], .bool false]) (by simp [results, Try.results57, go_sem, r0, r1, r2, r3, r4, r5, r6]) rfl ?_
      exact ⟨by rw [HR.out]; rfl, ((((((HB.out.setCell (by simp) _).setCell (by simp) _).setCell (by simp) _).setCell (by simp) _).setCell (by simp) _).setCell (by simp) _).setCell (by simp) _⟩
end Go.Proofs.Ytcgdhgdblieaiaa
