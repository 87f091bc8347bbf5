/-
  What lies under a column, whatever column: the walks joined; and the plain law.
-/
import Derived.Test.YtnnfhldfdiaddaaA1
set_option linter.unusedVariables false
namespace Go.Proofs.Ytnnfhldfdiaddaa
open Go.RowKit

theorem colAt_le {ws : List Int} (h : ∀ x ∈ ws, 0 ≤ x ∧ x ≤ 1048576) (o : List Int) (i j : Nat) (hij : i ≤ j) : colAt ws o i ≤ colAt ws o j := by
  induction j with
  | zero => obtain rfl : i = 0 := by omega
            exact Int.le_refl _
  | succ j ih =>
    by_cases e : i = j + 1
    · rw [e]; exact Int.le_refl _
    · have := ih (by omega)
      by_cases hj : j < o.length
      · rw [colAt_succ ws o j hj]
        have := ws_getD h o[j].toNat
        omega
      · have e2 : colAt ws o (j + 1) = colAt ws o j := by unfold colAt; rw [List.take_of_length_le (by omega), List.take_of_length_le (by omega)]
        omega

/-- what the answer of 'Hit' has to do with a character that has the column -/
def HitFacts (ws o : List Int) (c : Int) (v ed : Nat) : Prop :=
  ∀ k, k < o.length → colAt ws o k ≤ c → c < colAt ws o (k + 1) →
    (c - colAt ws o k < colAt ws o (k + 1) - c ∧ ed = 2 ∧ v = k) ∨ (¬ c - colAt ws o k < colAt ws o (k + 1) - c ∧ ed = 1 ∧ v = k + 1)
def HitAny (ws o : List Int) (c : Int) (w : World) (e : Ending) (w' : World) : Prop :=
  ∃ v ed : Nat, e = .returned (.tuple #[.int .i64 v, .int .u8 ed]) ∧ v ≤ o.length ∧ (ed = 1 ∨ ed = 2) ∧ HitFacts ws o c v ed ∧ Below w.heap.size w w'

theorem Hit_any (g : Nat) (base : Int) (lv ws : List Int) (w : World) (c : Int) (h : IsLine w g base lv ws) :
    Calls Try.prog 20 #[.pointer (some ⟨g, 0, none⟩), .int .i64 c] w (HitAny ws (ord lv) c w) := by
  have hr := h.ok.range
  by_cases h1 : c < 0 ∨ (ord lv).length = 0
  · refine (Hit_before g base lv ws w c h h1).mono ?_
    rintro e w' ⟨rfl, rfl⟩
    refine ⟨0, 2, rfl, Nat.zero_le _, .inr rfl, ?_, Below.refl _ _⟩
    intro k hk hk1 _
    have := colAt_mono hr (ord lv) k
    omega
  · by_cases h2 : colAt ws (ord lv) (ord lv).length ≤ c
    · refine (Hit_behind g base lv ws w c h (by omega) (by omega) h2).mono ?_
      rintro e w' ⟨rfl, hb⟩
      refine ⟨(ord lv).length, 1, rfl, Nat.le_refl _, .inl rfl, ?_, hb⟩
      intro k hk hk1 hk2
      have := colAt_le hr (ord lv) (k + 1) (ord lv).length (by omega)
      omega
    · refine (Hit_in g base lv ws w c h (by omega) (by omega) (by omega)).mono ?_
      rintro e w' ⟨r, rfl, ⟨v, hv, hv1, hv2, hh⟩, hb⟩
      have key : ∀ k, k < (ord lv).length → colAt ws (ord lv) k ≤ c → c < colAt ws (ord lv) (k + 1) → k = v := by
        intro k hk hk1 hk2
        rcases Nat.lt_trichotomy k v with hlt | rfl | hgt
        · have := colAt_le hr (ord lv) (k + 1) v (by omega); omega
        · rfl
        · have := colAt_le hr (ord lv) (v + 1) k (by omega); omega
      rcases hh with ⟨hn, rfl⟩ | ⟨hn, rfl⟩
      · refine ⟨v, 2, rfl, by omega, .inr rfl, ?_, hb⟩
        intro k hk hk1 hk2
        obtain rfl := key k hk hk1 hk2
        exact .inl ⟨by omega, rfl, rfl⟩
      · refine ⟨v + 1, 1, rfl, by omega, .inl rfl, ?_, hb⟩
        intro k hk hk1 hk2
        obtain rfl := key k hk hk1 hk2
        exact .inr ⟨by omega, rfl, rfl⟩

theorem placeAt_near {base : Int} {lv : List Int} {k : Nat} (hk : k < (ord lv).length) : placeAt base lv k false = (ord lv)[k] ∨ placeAt base lv k false = (ord lv)[k] + 1 := by
  unfold placeAt
  rw [if_neg (by simp), if_neg (by omega), ord_getD lv k hk]
  omega
theorem placeAt_far {base : Int} {lv : List Int} {k : Nat} (hk : k < (ord lv).length) : placeAt base lv (k + 1) true = (ord lv)[k] ∨ placeAt base lv (k + 1) true = (ord lv)[k] + 1 := by
  unfold placeAt
  rw [if_pos rfl, if_neg (by omega), show k + 1 - 1 = k by omega, ord_getD lv k hk]
  omega

/-- 'Place' at either edge -/
theorem Place_any (g : Nat) (base : Int) (lv ws : List Int) (w : World) (v ed : Nat) (h : IsLine w g base lv ws) (hv : v ≤ (ord lv).length) (he : ed = 1 ∨ ed = 2) :
    Calls Try.prog 14 #[.pointer (some ⟨g, 0, none⟩), .int .i64 v, .int .u8 ed] w fun e w' => e = .returned (.tuple #[.int .i64 (placeAt base lv v (decide (ed = 1))), .int .i64 0]) ∧ w = w' := by
  rcases he with rfl | rfl
  · exact Place_left g base lv ws w v h hv
  · exact Place_right g base lv ws w v h hv

/-- what the statement asks of a character that has the column -/
theorem hit_law {base : Int} {lv ws : List Int} {c : Int} {v ed : Nat} (h : HitFacts ws (ord lv) c v ed) {k : Nat} (hk : k < (ord lv).length) (h1 : colAt ws (ord lv) k ≤ c) (h2 : c < colAt ws (ord lv) (k + 1)) :
    (c - colAt ws (ord lv) k < colAt ws (ord lv) (k + 1) - c ∧ ed = 2 ∧ v = k ∧ (placeAt base lv v (decide (ed = 1)) = (ord lv)[k] ∨ placeAt base lv v (decide (ed = 1)) = (ord lv)[k] + 1)) ∨
    (¬ c - colAt ws (ord lv) k < colAt ws (ord lv) (k + 1) - c ∧ ed = 1 ∧ v = k + 1 ∧ (placeAt base lv v (decide (ed = 1)) = (ord lv)[k] ∨ placeAt base lv v (decide (ed = 1)) = (ord lv)[k] + 1)) := by
  rcases h k hk h1 h2 with ⟨a, rfl, rfl⟩ | ⟨a, rfl, rfl⟩
  · exact .inl ⟨a, rfl, rfl, placeAt_near hk⟩
  · exact .inr ⟨a, rfl, rfl, placeAt_far hk⟩
end Go.Proofs.Ytnnfhldfdiaddaa
