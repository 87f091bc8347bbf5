/-
  The trie that 'Fill' has made: its memory, its numbers, what it gives.
-/
import Derived.Test.YtabbabkmojaoaaaTE
import Derived.Test.YtabbabkmojaoaaaTP
import Derived.Test.YtabbabkmojaoaaaTW1
set_option linter.unusedVariables false
set_option linter.unusedSimpArgs false
namespace Go.Proofs.Ytabbabkmojaoaaa
open Go.RowKit

theorem inv8 (f : Nat → Int) : ∀ k, k ≤ 17408 → InvT (blkF f) k (mkF f k) := by
  intro k
  induction k with
  | zero => intro _; exact InvT.zero _ _ rfl rfl rfl
  | succ k ih =>
    intro hk
    obtain ⟨h1, h2, -⟩ := mkF_ok f k
    exact (ih (by omega)).next h1 h2 (blkF_length f k) (by omega)
/-- S is what 'Fill' has made of f -/
structure Made8 (f : Nat → Int) (S : MkS Int) : Prop where
  made : MadeT (blkF f) S
  ml : S.mids.length ≤ 272
  ll : S.lows.length ≤ 17408
  eq : ∃ K, K = 17408 ∧ S = mkF f K
theorem made8 (f : Nat → Int) : ∀ K, K = 17408 → Made8 f (mkF f K) := fun K hK => by
  obtain ⟨hw, -, hl, hm⟩ := mkF_ok f K
  refine ⟨⟨?_, hw⟩, by omega, by omega, K, hK, rfl⟩
  have := inv8 f K (by omega)
  subst hK
  exact this
def trieS (S : MkS Int) : TrieD Int := ⟨S.top, S.mids, S.lows⟩
section
variable {α : Type} {val : α → Value}
theorem flat_get {m : Nat} : ∀ (L : List (List α)) (i j : Nat) (hi : i < L.length), (∀ l ∈ L, (blkC val l).length = m) → j < m → (L.flatMap (blkC val))[i * m + j]? = (blkC val L[i])[j]?
  | [], i, j, hi, _, _ => absurd hi (by simp)
  | l :: L, 0, j, _, h, hj => by
    rw [List.flatMap_cons, Nat.zero_mul, Nat.zero_add, List.getElem?_append_left (by rw [h l (by simp)]; exact hj)]
    rfl
  | l :: L, i + 1, j, hi, h, hj => by
    have hl := h l (by simp)
    rw [List.flatMap_cons, List.getElem?_append_right (by rw [hl, Nat.add_mul]; omega), hl, show (i + 1) * m + j - m = i * m + j by rw [Nat.add_mul]; omega]
    rw [flat_get L i j (by simpa using hi) (fun l hl => h l (by simp [hl])) hj]
    rfl
theorem blocks_of_row {B m : Nat} {E : TypeId} {w : World} {a : Option Addr} {c : Nat} {L : List (List α)} (h : w.ownsRow B E m (.slice a L.length c) L.length (L.flatMap (blkC val))) (hm : ∀ l ∈ L, (blkC val l).length = m) : BlocksAt val m w a L := by
  intro i hi
  rcases h.2 with ⟨-, h0⟩ | ⟨g, cap, cur, e, hb, hg, hnc, hcm, hcs, hcells⟩
  · omega
  · simp only [Value.slice.injEq] at e
    obtain ⟨rfl, -, rfl⟩ := e
    refine ⟨g, 0, rfl, fun j v hv => ?_⟩
    have hj : j < m := by have := (List.getElem?_eq_some_iff.1 hv).1; rw [hm _ (List.getElem_mem hi)] at this; exact this
    have hf := flat_get L i j hi hm hj
    rw [Nat.zero_add, World.ownsRow.cellAt h (i * m + j) (by have h1 := (List.getElem?_eq_some_iff.1 (hf.trans hv)).1; have h2 := h.1; omega), hf]
    exact hv
end
theorem trieS_at {f : Nat → Int} {S : MkS Int} (hM : Made8 f S) {w : World} {g : Nat} {am : Option Addr} {cm : Nat} {al : Option Addr} {cl : Nat}
    (h : MkAt val8 1 135 114 120 119 w g S S.lows S.mids am cm al cl) : TrieAt val8 114 64 w g (trieS S) := by
  refine ⟨am, cm, al, cl, h.tr, ?_, ?_⟩
  · exact blocks_of_row h.rm (fun l hl => by rw [blkC_length (sz := 1) (fun _ => rfl), hM.made.ok.mid l hl])
  · exact blocks_of_row h.rl (fun l hl => by rw [blkC_length (sz := 1) (fun _ => rfl), hM.made.ok.low l hl])
theorem Made8.trie {f : Nat → Int} {S : MkS Int} (hM : Made8 f S) : TrieOk (trieS S) := by
  refine ⟨hM.made.ok.top, hM.made.ok.mid, hM.made.ok.low, fun k hk => ?_, fun m hm k hk => ?_, hM.ml, hM.ll⟩
  · obtain ⟨c, hc, rfl⟩ := List.mem_iff_getElem.1 hk
    have hc2 : c < 272 := by have := hM.made.ok.top; unfold trieS at hc; simp only at hc; omega
    obtain ⟨i, m, h1, h2, -⟩ := hM.made.inv.tp c (by omega)
    rw [show S.top[c]? = some ((trieS S).top[c]) from List.getElem?_eq_getElem hc] at h1
    have e := Option.some.inj h1
    rw [e]
    exact (List.getElem?_eq_some_iff.1 h2).1
  · obtain ⟨c, -, hr⟩ := hM.made.inv.md m hm
    exact hr.lt (hM.made.ok.mid m hm) k hk
theorem Made8.pos {f : Nat → Int} {S : MkS Int} (hM : Made8 f S) : 0 < S.lows.length ∧ 0 < S.mids.length := by
  have h1 := hM.made.inv.hl 0 (by omega)
  obtain ⟨i, m, -, h2, -⟩ := hM.made.inv.tp 0 (by omega)
  exact ⟨List.length_pos_of_mem h1, List.length_pos_of_mem (List.mem_of_getElem? h2)⟩
theorem Made8.look {f : Nat → Int} {S : MkS Int} (hM : Made8 f S) (r : Nat) (hr : r ≤ 1114111) : lookT 0 (trieS S) r = f r := by
  obtain ⟨i, m, h1, h2, h3⟩ := hM.made.inv.tp (r / 4096) (by omega)
  obtain ⟨j, h4, h5⟩ := h3 (r / 64 % 64) (by omega)
  unfold lookT trieS
  simp only
  have e1 : S.top.getD (r / 4096) 0 = i := by rw [List.getD_eq_getElem?_getD, h1]; rfl
  have e2 : S.mids.getD i [] = m := by rw [List.getD_eq_getElem?_getD, h2]; rfl
  have e3 : m.getD (r / 64 % 64) 0 = j := by rw [List.getD_eq_getElem?_getD, h4]; rfl
  have e4 : S.lows.getD j [] = blkF f (64 * (r / 4096) + r / 64 % 64) := by rw [List.getD_eq_getElem?_getD, h5]; rfl
  rw [e1, e2, e3, e4]
  unfold blkF
  rw [List.getD_eq_getElem?_getD, List.getElem?_map, List.getElem?_range (by omega)]
  simp only [Option.map_some, Option.getD_some]
  congr 1
  omega
/-- what 'Build' answers, in short -/
def BldQ (w : World) (rest : Int) (l : List SpanD) (e : Ending) (w' : World) : Prop :=
  Below w.heap.size w w' ∧
    ((∃ i, i < l.length ∧ badS (l.getD i default) ∧ (∀ j, j < i → ¬ badS (l.getD j default)) ∧ e = .returned (.tuple #[.pointer none, .int .i64 (i : Nat), .int .i64 110])) ∨
     ((∀ j, j < l.length → ¬ badS (l.getD j default)) ∧ ∃ k, k < l.length ∧ meetS l k ∧ (∀ j, j < k → ¬ meetS l j) ∧ e = .returned (.tuple #[.pointer none, .int .i64 (k : Nat), .int .i64 111])) ∨
     ((∀ j, j < l.length → ¬ badS (l.getD j default)) ∧ (∀ j, j < l.length → ¬ meetS l j) ∧ ∃ g S, e = .returned (.tuple #[.pointer (some ⟨g, 0, none⟩), .int .i64 0, .int .i64 0]) ∧ w.heap.size ≤ g ∧
       Made8 (fS rest l) S ∧ TrieAt val8 114 64 w' g (trieS S)))
theorem bldQ_of {w : World} {rest : Int} {l : List SpanD} {e : Ending} {w' : World} (h : BldPost w rest l e w') : BldQ w rest l e w' := by
  obtain ⟨h1, h2⟩ := h
  refine ⟨h1, ?_⟩
  rcases h2 with h2 | h2 | ⟨h3, h4, g, h5, h6, am, cm, al, cl, h7⟩
  · exact .inl h2
  · exact .inr (.inl h2)
  · have hM := made8 (fS rest l) 17408 rfl
    generalize mkF (fS rest l) 17408 = S at *
    exact .inr (.inr ⟨h3, h4, g, S, h5, h6, hM, trieS_at hM h7⟩)
end Go.Proofs.Ytabbabkmojaoaaa
