/-
  The walk of a character's class by props made by hand.
-/
import Derived.Test.YtmcjlkpogcnniaaW7
set_option linter.unusedVariables false
namespace Go.Proofs.Ytmcjlkpogcnniaa
open Go.RowKit

def classN (rest : Int) (cs : List CharD) (r : Int) : Int := match findC cs r with
  | some c => c.cls
  | none => rest
theorem box_facts {w : World} {cs : Array Value} {E : TypeId} : (w.alloc (.cells cs E)).heap[w.heap.size]? = some (.cells cs E (0, 0)) := heap_alloc_new w _

set_option maxHeartbeats 2000000 in
theorem PClass_walk (rest : Int) (a : Option Addr) (n cap : Nat) (cs : List CharD) (r : Int) (w : World) (hn : cs.length = n) (hm : n ≤ 9223372036854775807) (hc : Chars w a cs) :
    Calls Try.prog 39 #[.agg #[.int .u8 rest, .slice a n cap], .int .i32 r] w fun e w' => e = .returned (.int .u8 (classN rest cs r)) ∧ Below w.heap.size w w' := by
  have HN := Lib.hid hn; clear hn
  have HC := Lib.hid hc; clear hc
  have HA : Hid (Below w.heap.size w (w.alloc (.cells #[.int .u8 rest, .slice a n cap] 25))) := Lib.hid ((Below.refl _ w).alloc (Nat.le_refl _) _)
  have HAt := Lib.hid (at_walk rest a n cap cs r (w.alloc (.cells #[.int .u8 rest, .slice a n cap] 25)) HN.out hm (HC.out.below HA.out (Nat.le_refl _)))
  have HBx : Hid (∀ w' : World, Below (w.alloc (.cells #[.int .u8 rest, .slice a n cap] 25)).heap.size (w.alloc (.cells #[.int .u8 rest, .slice a n cap] 25)) w' → w'.heap[w.heap.size]? = some (.cells #[.int .u8 rest, .slice a n cap] 25 (0, 0)) ∧ Below w.heap.size w w') := by
    refine Lib.hid (fun w' hb => ⟨?_, HA.out.trans (hb.mono (by simp))⟩)
    rw [hb.block w.heap.size (by simp)]
    exact heap_alloc_new w _
  go_enter Try.func39, Try.ntmps39
  go_wp2_with fail
  refine HAt.out.mono ?_
  rintro e w1 ⟨rfl, hb1⟩
  obtain ⟨hblk, hb⟩ := HBx.out w1 hb1
  have HB1 := Lib.hid hb; clear hb hb1
  have p0 := cell_of_row w1 w.heap.size 0 _ _ (0, 0) hblk
  simp at p0
  have hlt : w.heap.size < w1.heap.size := (Array.getElem?_eq_some_iff.1 hblk).1
  clear hblk
  cases hf : findC cs r with
  | none =>
    have HR := Lib.hid (show classN rest cs r = rest by unfold classN; rw [hf])
    rw [show atV cs r = .tuple #[.agg #[.int .i32 0, .int .u8 0, .int .i32 0, .int .u8 0, .int .i32 0, .int .i32 0, .bool false], .bool false] by unfold atV; rw [hf]; rfl]
    clear hf
    go_wp2
    go_ret
    exact ⟨by rw [HR.out]; rfl, HB1.out.alloc HB1.out.size _⟩
  | some c =>
    obtain ⟨x0, x1, x2, x3, x4, x5, x6⟩ := c
    have HR := Lib.hid (show classN rest cs r = x1 by unfold classN; rw [hf])
    rw [show atV cs r = .tuple #[.agg #[.int .i32 x0, .int .u8 x1, .int .i32 x2, .int .u8 x3, .int .i32 x4, .int .i32 x5, .bool x6], .bool true] by unfold atV; rw [hf]; rfl]
    clear hf
    go_wp2
    go_ret
    exact ⟨by rw [HR.out]; rfl, HB1.out.alloc HB1.out.size _⟩
end Go.Proofs.Ytmcjlkpogcnniaa
