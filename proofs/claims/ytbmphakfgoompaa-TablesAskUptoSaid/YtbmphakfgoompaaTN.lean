/-
  No trie, no function: walks; the walk of TrieNil.
-/
import Derived.Test.YtbmphakfgoompaaTX
import Derived.Test.YtbmphakfgoompaaRF1
import Derived.RangeFuncBound
import Derived.OwnWalkIn
import Derived.TacticsInMore
import Derived.LoopNIn
import Derived.LoopIn
import Derived.Deep.Cut
set_option linter.unusedVariables false
set_option linter.unusedSimpArgs false
namespace Go.Proofs.Ytbmphakfgoompaa
open Go.RowKit
attribute [local go_sem] Oper.semAt_some

def encS (s : SpanD) : Array Value := #[.agg #[.int .i32 s.f, .int .i32 s.t, .int .u8 s.v]]
def encR (r : Int) : Array Value := #[.int .i32 r]
theorem Spans8_fun (q : Option Addr) (w : World) : Calls Try.prog 93 #[.pointer q] w fun e w' => e = .returned (.func (.func 101) #[] #[.pointer (some ⟨w.heap.size, 0, none⟩)]) ∧
    w'.cell? ⟨w.heap.size, 0, none⟩ = some (.pointer q) ∧ w'.heap.size = w.heap.size + 1 ∧ Below w.heap.size w w' := by
  go_enter Try.func93, Try.ntmps93
  go_wp2
  go_ret
  have c0 := cell_of_row _ w.heap.size 0 _ _ (0, 0) (heap_alloc_new w (.cells #[.pointer q] 82))
  exact ⟨rfl, c0, by simp, (Below.refl _ w).alloc (Nat.le_refl _) _⟩
theorem run_equalIn_nil_nil {P : Program} (w : World) (d : Nat) (t : TypeId) (ps rs : Array TypeId) (v : Bool) (h : P.underlying t = some (.func ps rs v)) :
    (Op.equalIn (d + 1) t .nilFunc .nilFunc).run P w = .ok true w := by
  simp [Op.equalIn, run_underlying h]
theorem run_eql_nil_nil {P : Program} (w : World) (t : TypeId) (ps rs : Array TypeId) (v : Bool) (h : P.underlying t = some (.func ps rs v)) :
    (binOp .eql t .nilFunc .nilFunc).run P w = .ok (.bool true) w := by
  simp only [binOp]
  simp [Op.equal, Op.maxDepth, run_equalIn_nil_nil w 9999 t ps rs v h]
theorem Parts8_nil (w : World) : Calls Try.prog 58 #[.pointer none] w fun e w' => e = .returned (.agg #[.slice none 0 0, .slice none 0 0, .slice none 0 0]) ∧ Below w.heap.size w w' := by
  go_enter Try.func58, Try.ntmps58
  go_wp2_with fail
  refine (there8_nil _).mono ?_
  rintro e w1 ⟨rfl, rfl⟩
  go_wp2
  have z0 : (w.alloc (.cells #[.slice none 0 0, .slice none 0 0, .slice none 0 0] 66)).cell? ⟨w.heap.size, 0, none⟩ = some (.slice none 0 0) := cell_of_row _ w.heap.size 0 _ _ (0, 0) (heap_alloc_new w (.cells #[.slice none 0 0, .slice none 0 0, .slice none 0 0] 66))
  have z1 : (w.alloc (.cells #[.slice none 0 0, .slice none 0 0, .slice none 0 0] 66)).cell? ⟨w.heap.size, 1, none⟩ = some (.slice none 0 0) := cell_of_row _ w.heap.size 1 _ _ (0, 0) (heap_alloc_new w (.cells #[.slice none 0 0, .slice none 0 0, .slice none 0 0] 66))
  have z2 : (w.alloc (.cells #[.slice none 0 0, .slice none 0 0, .slice none 0 0] 66)).cell? ⟨w.heap.size, 2, none⟩ = some (.slice none 0 0) := cell_of_row _ w.heap.size 2 _ _ (0, 0) (heap_alloc_new w (.cells #[.slice none 0 0, .slice none 0 0, .slice none 0 0] 66))
  have hA := (Below.refl _ w).alloc (Nat.le_refl _) (.cells #[.slice none 0 0, .slice none 0 0, .slice none 0 0] 66)
  generalize (w.alloc (.cells #[.slice none 0 0, .slice none 0 0, .slice none 0 0] 66)) = w1 at *
  have hA1 := (Below.refl _ w1).alloc (Nat.le_refl _) (.cells #[.slice none 0 0, .slice none 0 0, .slice none 0 0] 66)
  have y0 := (hA1.cell (p := ⟨w.heap.size, 0, none⟩) (World.block_lt_of_cell? w1 _ z0)).trans z0
  have y1 := (hA1.cell (p := ⟨w.heap.size, 1, none⟩) (World.block_lt_of_cell? w1 _ z1)).trans z1
  have y2 := (hA1.cell (p := ⟨w.heap.size, 2, none⟩) (World.block_lt_of_cell? w1 _ z2)).trans z2
  refine bodyPost_ret (v := .agg #[.slice none 0 0, .slice none 0 0, .slice none 0 0]) (by simp [results, Try.results58, go_sem, y0, y1, y2]) rfl ?_
  exact ⟨rfl, hA.trans (hA1.mono hA.size)⟩
theorem At8_nil (w : World) (r : Int) : Calls Try.prog 37 #[.pointer none, .int .i32 r] w fun e w' => e = .returned (.int .u8 0) ∧ Below w.heap.size w w' := by
  go_enter Try.func37, Try.ntmps37
  go_wp2_with fail
  refine (there8_nil _).mono ?_
  rintro e w1 ⟨rfl, rfl⟩
  go_wp2
  go_ret
  exact ⟨rfl, Below.refl _ _⟩
set_option maxRecDepth 100000 in
set_option maxRecDepth 100000 in
set_option maxRecDepth 100000 in
theorem SpansNil_stops (b : Nat) (R : Nat → Prop) (w : World) (h1 : w.cell? ⟨b, 0, none⟩ = some (.pointer none)) :
    SeqX Try.prog 101 #[.pointer (some ⟨b, 0, none⟩)] encS R (fun xs => xs = []) (fun _ => False) 0 w := by
  intro l J Jx W hW hJ hJx hY h0
  refine callsIn_wide.2 ?_
  have HJ := Lib.hid (hJ _ (fun _ => False) _ W (W.alloc (.cells #[.func (.yield l) #[] #[]] 186)) h0 (Off.alloc _ _ _) (Wider.refl _ _ _)); clear hJ hJx hY h0
  have q1 : W.cell? ⟨b, 0, none⟩ = some (.pointer none) := by rw [hW.cell (p := ⟨b, 0, none⟩) (World.block_lt_of_cell? w _ h1)]; exact h1
  have q2 : (W.alloc (.cells #[.func (.yield l) #[] #[]] 186)).cell? ⟨b, 0, none⟩ = some (.pointer none) := (((Below.refl _ W).alloc (Nat.le_refl _) _).cell (p := ⟨b, 0, none⟩) (World.block_lt_of_cell? W _ q1)).trans q1
  clear h1 hW q1
  go_enter Try.func101, Try.ntmps101
  go_wp2_with fail
  refine (there8_nil _).mono ?_
  rintro e w1 ⟨rfl, rfl⟩
  go_wp2
  refine bodyPost_ret (results_none rfl _ _ _) rfl ?_
  exact ⟨⟨_, rfl⟩, .inl ⟨_, [], rfl, HJ.out⟩⟩
theorem leaves_marks {P : Program} {fn : Func} {tmps : Array Value} {Rr : Ending → World → Prop} {B : Nat} : ∀ (Ds : List Nat) (w : World), Ds.Nodup → (∀ D ∈ Ds, B ≤ D ∧ w.heap[D]? = some (.deferred (some []))) →
    (∀ w', Below B w w' → LeavesInM Fence.wide 3 P fn tmps Rr [] .returning w') → LeavesInM Fence.wide 3 P fn tmps Rr (Ds.map (fun D => { target := .collected D, args := #[] })) .returning w
  | [], w, _, _, h => h w (Below.refl _ _)
  | D :: Ds, w, hn, hD, h => by
    rw [List.nodup_cons] at hn
    refine leaves_mark (hD D (by simp)).2 (leaves_marks (B := B) Ds _ hn.2 (fun E hE => ?_) (fun w' hb => h w' ?_))
    · refine ⟨(hD E (by simp [hE])).1, ?_⟩
      rw [World.putObj_heap_other (show E ≠ D from fun e => hn.1 (e ▸ hE))]
      exact (hD E (by simp [hE])).2
    · have h1 := (hD D (by simp)).1
      have hp : Below B w (w.putObj D (.deferred none)) := ⟨rfl, rfl, rfl, by simp, fun k hk => World.putObj_heap_other (show k ≠ D by omega)⟩
      exact hp.trans hb

/-- all that lay below n lies as it lay -/
def BelI {α : Type} (w0 : World) (n : Nat) : (Nat → Prop) → List α → World → Prop := fun T _ W => Below n w0 W ∧ n ≤ W.heap.size ∧ ∀ k, T k → n ≤ k
theorem BelI.abide {α : Type} (w0 : World) (n : Nat) : Abide (BelI (α := α) w0 n) := fun T T' s W W' ⟨h1, h2, h3⟩ ho hw =>
  ⟨h1.trans (ho.below n h2 h3), Nat.le_trans h2 ho.size, fun k hk => by rcases hw k hk with h | h; exact h3 k h; omega⟩

end Go.Proofs.Ytbmphakfgoompaa
