/-
  The trie that was made: its memory, its numbers, what it gives (float64).
-/
import Derived.Test.YtabbabkmojaoaaaTFF
import Derived.Test.YtabbabkmojaoaaaTQ
import Derived.Test.YtabbabkmojaoaaaQF
set_option linter.unusedVariables false
set_option linter.unusedSimpArgs false
namespace Go.Proofs.Ytabbabkmojaoaaa.VF
open Go.RowKit
attribute [local go_sem] run_store_float

theorem inv8 (f : Nat → El) (hi : InjB eq8 (blkF f)) : ∀ k, k ≤ 17408 → InvF (blkF f) k (mkF f k) := by
  intro k
  induction k with
  | zero => intro _; exact InvF.zero _ _ rfl rfl
  | succ k ih =>
    intro hk
    obtain ⟨h1, h2, -⟩ := mkF_ok f k
    exact (ih (by omega)).next hi h1 h2 (by omega)
/-- S is what 'Fill' has made of f -/
structure Made8 (f : Nat → El) (S : MkS El) : Prop where
  made : MadeF (blkF f) S
  ml : S.mids.length ≤ 272
  ll : S.lows.length ≤ 17408
  eq : ∃ K, K = 17408 ∧ S = mkF f K
theorem made8 (f : Nat → El) (hi : InjB eq8 (blkF f)) : ∀ K, K = 17408 → Made8 f (mkF f K) := fun K hK => by
  obtain ⟨hw, -, hl, hm⟩ := mkF_ok f K
  refine ⟨⟨?_, hw⟩, by omega, by omega, K, hK, rfl⟩
  have := inv8 f hi K (by omega)
  subst hK
  exact this
def trieS (S : MkS El) : TrieD El := ⟨S.top, S.mids, S.lows⟩
theorem trieS_at {f : Nat → El} {S : MkS El} (hM : Made8 f S) {w : World} {g : Nat} {am : Option Addr} {cm : Nat} {al : Option Addr} {cl : Nat}
    (h : MkAt val8 1 218 148 120 145 w g S S.lows S.mids am cm al cl) : TrieAt val8 148 64 w g (trieS S) := by
  refine ⟨am, cm, al, cl, h.tr, ?_, ?_⟩
  · exact blocks_of_row h.rm (fun l hl => by rw [blkC_length (sz := 1) (fun _ => rfl), hM.made.ok.mid l hl])
  · exact blocks_of_row h.rl (fun l hl => by rw [blkC_length (sz := 1) (fun _ => rfl), hM.made.ok.low l hl])
theorem Made8.trie {f : Nat → El} {S : MkS El} (hM : Made8 f S) : TrieOk (trieS S) := by
  refine ⟨hM.made.ok.top, hM.made.ok.mid, hM.made.ok.low, fun k hk => ?_, fun m hm k hk => ?_, hM.ml, hM.ll⟩
  · obtain ⟨c, hc, rfl⟩ := List.mem_iff_getElem.1 hk
    have hc2 : c < 272 := by have := hM.made.ok.top; unfold trieS at hc; simp only at hc; omega
    obtain ⟨i, m, h1, h2, -⟩ := hM.made.inv.tp c (by omega)
    rw [show S.top[c]? = some ((trieS S).top[c]) from List.getElem?_eq_getElem hc] at h1
    have e := Option.some.inj h1
    rw [e]
    exact (List.getElem?_eq_some_iff.1 h2).1
  · obtain ⟨c, -, hr⟩ := hM.made.inv.md m hm
    exact hr.lt (hM.made.ok.mid m hm) k hk
theorem Made8.pos {f : Nat → El} {S : MkS El} (hM : Made8 f S) : 0 < S.lows.length ∧ 0 < S.mids.length := by
  have h1 := hM.made.inv.hl 0 (by omega)
  obtain ⟨i, m, -, h2, -⟩ := hM.made.inv.tp 0 (by omega)
  exact ⟨List.length_pos_of_mem h1, List.length_pos_of_mem (List.mem_of_getElem? h2)⟩
theorem Made8.look {f : Nat → El} {S : MkS El} (hM : Made8 f S) (r : Nat) (hr : r ≤ 1114111) : lookT (0 : El) (trieS S) r = f r := by
  obtain ⟨i, m, h1, h2, h3⟩ := hM.made.inv.tp (r / 4096) (by omega)
  obtain ⟨j, h4, h5⟩ := h3 (r / 64 % 64) (by omega)
  unfold lookT trieS
  simp only
  have e1 : S.top.getD (r / 4096) 0 = i := by rw [List.getD_eq_getElem?_getD, h1]; rfl
  have e2 : S.mids.getD i [] = m := by rw [List.getD_eq_getElem?_getD, h2]; rfl
  have e3 : m.getD (r / 64 % 64) 0 = j := by rw [List.getD_eq_getElem?_getD, h4]; rfl
  have e4 : S.lows.getD j [] = blkF f (64 * (r / 4096) + r / 64 % 64) := by rw [List.getD_eq_getElem?_getD, h5]; rfl
  rw [e1, e2, e3, e4]
  unfold blkF
  rw [List.getD_eq_getElem?_getD, List.getElem?_map, List.getElem?_range (by omega)]
  simp only [Option.map_some, Option.getD_some]
  congr 1
  omega
end Go.Proofs.Ytabbabkmojaoaaa.VF
