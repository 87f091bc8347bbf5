/-
  Walks: is a trie there; its blocks; what it gives of a number.
-/
import Derived.Test.YtabbabkmojaoaaaProg
import Derived.Test.YtabbabkmojaoaaaTB
import Derived.Deep.QuietTactic
import Derived.BigQuiet
import Derived.Lib.Hide
set_option linter.unusedVariables false
namespace Go.Proofs.Ytabbabkmojaoaaa
open Go.RowKit
variable {α : Type}

theorem there8_nil (w : World) : Calls Try.prog 60 #[.pointer none] w fun e w' => e = .returned (.bool false) ∧ w = w' := by
  go_enter Try.func60, Try.ntmps60
  go_wp2
  go_ret
  exact ⟨rfl, rfl⟩
theorem there8_walk (w : World) (g : Nat) (T : TrieD Int) (hk : TrieOk T) (h0 : 0 < T.low.length) (h : TrieAt val8 114 64 w g T) :
    Calls Try.prog 60 #[.pointer (some ⟨g, 0, none⟩)] w fun e w' => e = .returned (.bool true) ∧ w = w' := by
  obtain ⟨am, cm, al, cl, h1, h2, h3⟩ := h
  have c2 := TrieAt.cell_low (val := val8) hk h1
  have h0i : (0 : Int) < (T.low.length : Int) := by omega
  have d0 : decide ((0 : Int) < (T.low.length : Int)) = true := decide_eq_true h0i
  have H1 := Lib.hid h1; clear h1
  have H2 := Lib.hid h2; clear h2
  have H3 := Lib.hid h3; clear h3
  clear hk
  generalize T.low.length = n at *
  go_enter Try.func60, Try.ntmps60
  go_wp2
  go_ret
  exact ⟨rfl, rfl⟩
theorem Blocks8_nil (w : World) : Calls Try.prog 15 #[.pointer none] w fun e w' => e = .returned (.tuple #[.int .i64 0, .int .i64 0]) ∧ w = w' := by
  go_enter Try.func15, Try.ntmps15
  go_wp2_with fail
  refine (there8_nil _).mono ?_
  rintro e w1 ⟨rfl, rfl⟩
  go_wp2
  go_ret2
  exact ⟨rfl, rfl⟩
theorem Blocks8_walk (w : World) (g : Nat) (T : TrieD Int) (hk : TrieOk T) (h0 : 0 < T.low.length) (h : TrieAt val8 114 64 w g T) :
    Calls Try.prog 15 #[.pointer (some ⟨g, 0, none⟩)] w fun e w' => e = .returned (.tuple #[.int .i64 (T.mid.length : Nat), .int .i64 (T.low.length : Nat)]) ∧ ∃ n, w' = w.drewN n := by
  have HT := Lib.hid (there8_walk w g T hk h0 h)
  obtain ⟨am, cm, al, cl, h1, h2, h3⟩ := h
  have c2 := TrieAt.cell_low (val := val8) hk h1
  have c1 := TrieAt.cell_mid (val := val8) hk h1
  have H1 := Lib.hid h1; clear h1
  have H2 := Lib.hid h2; clear h2
  have H3 := Lib.hid h3; clear h3
  clear hk
  generalize T.low.length = n at *
  generalize T.mid.length = m at *
  go_enter Try.func15, Try.ntmps15
  go_wp2_with fail
  refine HT.out.mono ?_
  rintro e w1 ⟨rfl, rfl⟩
  clear HT
  go_wp2
  go_quiet (fail)
  go_wp2
  go_ret2
  exact ⟨rfl, _, rfl⟩

theorem getD_at {β : Type} {l : List β} {i : Nat} {d : β} (h : i < l.length) : l.getD i d = l[i] := by simp [List.getD_eq_getElem?_getD, h]
/-- the cells that a look into a trie reads -/
structure LookC (val : α → Value) (w : World) (g : Nat) (T : TrieD α) (r : Nat) (am : Option Addr) (cm : Nat) (al : Option Addr) (cl i j : Nat) (v : α) : Prop where
  mid : w.cell? ⟨g, 272, none⟩ = some (.slice am T.mid.length cm)
  low : w.cell? ⟨g, 273, none⟩ = some (.slice al T.low.length cl)
  top : w.cell? ⟨g, r / 64 / 64, none⟩ = some (.int .u16 (i : Nat))
  il : i < T.mid.length
  jl : j < T.low.length
  m : ∃ b o, am = some ⟨b, o, none⟩ ∧ w.cell? ⟨b, o + i * 64 + r / 64 % 64, none⟩ = some (.int .u16 (j : Nat))
  l : ∃ b o, al = some ⟨b, o, none⟩ ∧ w.cell? ⟨b, o + j * 64 + r % 64, none⟩ = some (val v)
theorem lookC {val : α → Value} (hv : ∀ a, (val a).cells.toList = [val a]) {ty : TypeId} {w : World} {g : Nat} {T : TrieD α} (hk : TrieOk T) (h : TrieAt val ty 64 w g T) (d : α) (r : Nat) (hr : r ≤ 1114111) :
    ∃ am cm al cl i j, LookC val w g T r am cm al cl i j (lookT d T r) := by
  obtain ⟨am, cm, al, cl, h1, h2, h3⟩ := h
  have ht := TrieAt.cell_top (val := val) hk h1 (r / 64 / 64) (by omega)
  have htl : r / 64 / 64 < T.top.length := by rw [hk.top]; omega
  obtain ⟨i, hi⟩ : ∃ i, i = T.top.getD (r / 64 / 64) 0 := ⟨_, rfl⟩
  have hil : i < T.mid.length := by
    rw [hi, getD_at (d := 0) htl]
    exact hk.topN _ (List.getElem_mem htl)
  have hml : (T.mid[i]).length = 64 := hk.mid _ (List.getElem_mem hil)
  obtain ⟨j, hj⟩ : ∃ j, j = (T.mid[i]).getD (r / 64 % 64) 0 := ⟨_, rfl⟩
  have hmj : r / 64 % 64 < (T.mid[i]).length := by rw [hml]; omega
  have hjl : j < T.low.length := by
    rw [hj, getD_at (d := 0) hmj]
    exact hk.midN _ (List.getElem_mem hil) _ (List.getElem_mem hmj)
  have hll : (T.low[j]).length = 64 := hk.low _ (List.getElem_mem hjl)
  have hlj : r % 64 < (T.low[j]).length := by rw [hll]; omega
  have hlook : lookT d T r = (T.low[j])[r % 64] := by
    unfold lookT
    rw [show r / 4096 = r / 64 / 64 by omega, ← hi, getD_at (d := []) hil, ← hj, getD_at (d := []) hjl, getD_at (d := d) hlj]
  obtain ⟨bm, om, ham⟩ := h2.some (by omega)
  obtain ⟨bl, ol, hal⟩ := h3.some (by omega)
  subst ham hal
  refine ⟨_, cm, _, cl, i, j, TrieAt.cell_mid (val := val) hk h1, TrieAt.cell_low (val := val) hk h1, by rw [ht, ← hi]; rfl, hil, hjl, ⟨bm, om, rfl, ?_⟩, ⟨bl, ol, rfl, ?_⟩⟩
  · have := h2.cell num16_cells i hil (r / 64 % 64) hmj
    rw [this, hj, getD_at (d := 0) hmj]
    rfl
  · rw [h3.cell hv j hjl (r % 64) hlj, hlook]

set_option maxRecDepth 100000 in
theorem At8_walk (w : World) (g : Nat) (T : TrieD Int) (hk : TrieOk T) (h0 : 0 < T.low.length) (h : TrieAt val8 114 64 w g T) (r : Int) (hr1 : -2147483648 ≤ r) (hr2 : r ≤ 2147483647) :
    Calls Try.prog 18 #[.pointer (some ⟨g, 0, none⟩), .int .i32 r] w fun e w' => e = .returned (val8 (lookT 0 T (runeR r))) ∧ ∃ n, w' = w.drewN n := by
  have HT := Lib.hid (there8_walk w g T hk h0 h)
  obtain ⟨q, hq⟩ : ∃ q : Nat, q = runeR r := ⟨_, rfl⟩
  have hql : q ≤ 1114111 := by rw [hq]; exact runeR_le r
  obtain ⟨am, cm, al, cl, i, j, c1, c2, c3, hi, hj, ⟨bm, om, rfl, c4⟩, ⟨bl, ol, rfl, c5⟩⟩ := lookC val8_cells hk h 0 q hql
  have hml := hk.midL
  have hll := hk.lowL
  rw [← hq]
  generalize lookT 0 T q = v at *
  clear h hk h0
  generalize T.mid.length = nm at *
  generalize T.low.length = nl at *
  have g1 : (0 : Int) ≤ (i : Int) := by omega
  have g2 : (i : Int) < (nm : Int) := by omega
  have g3 : (0 : Int) ≤ (j : Int) := by omega
  have g4 : (j : Int) < (nl : Int) := by omega
  have k1 : (0 : Int) ≤ (q : Int) / 64 := by omega
  have k2 : (0 : Int) ≤ (q : Int) / 64 / 64 := by omega
  have k3 : (q : Int) / 64 / 64 < 272 := by omega
  have k4 : (0 : Int) ≤ (q : Int) / 64 % 64 := by omega
  have k5 : (q : Int) / 64 % 64 < 64 := by omega
  have k6 : (0 : Int) ≤ (q : Int) % 64 := by omega
  have k7 : (q : Int) % 64 < 64 := by omega
  by_cases h1 : 0 ≤ r ∧ r ≤ 1114111
  · obtain ⟨h1, h2⟩ := h1
    obtain rfl : r = (q : Int) := by rw [hq]; unfold runeR; rw [if_neg (by omega)]; omega
    clear hq
    have n1 : ¬ (q : Int) < 0 := by omega
    have n2 : ¬ (1114111 : Int) < (q : Int) := by omega
    go_enter Try.func18, Try.ntmps18
    go_wp2_with fail
    refine HT.out.mono ?_
    rintro e w1 ⟨rfl, rfl⟩
    clear HT
    go_wp2
    go_quiet (fail)
    go_wp2
    go_ret
    exact ⟨rfl, _, rfl⟩
  · have hq' : q = 65533 := by rw [hq]; unfold runeR; rw [if_pos (by omega)]
    clear hq
    have HQ := Lib.hid hq'
    obtain ⟨q0, hq0⟩ : ∃ q0 : Int, q0 = 65533 := ⟨_, rfl⟩
    have hqq : (q : Int) = q0 := by rw [hq0, hq']; rfl
    by_cases h2 : r < 0
    · have n1 : decide (r < 0) = true := decide_eq_true h2
      subst hq'
      clear hq0 hqq
      go_enter Try.func18, Try.ntmps18
      go_wp2_with fail
      refine HT.out.mono ?_
      rintro e w1 ⟨rfl, rfl⟩
      clear HT
      go_wp2
      go_quiet (fail)
      go_wp2
      go_ret
      exact ⟨rfl, _, rfl⟩
    · have n1 : ¬ r < 0 := h2
      have n2 : (1114111 : Int) < r := by omega
      have d1 : decide (r < 0) = false := decide_eq_false h2
      have d2 : decide ((1114111 : Int) < r) = true := decide_eq_true n2
      subst hq'
      clear hq0 hqq
      go_enter Try.func18, Try.ntmps18
      go_wp2_with fail
      refine HT.out.mono ?_
      rintro e w1 ⟨rfl, rfl⟩
      clear HT
      go_wp2
      go_quiet (fail)
      go_wp2
      go_ret
      exact ⟨rfl, _, rfl⟩
end Go.Proofs.Ytabbabkmojaoaaa
