/-
  Plain laws: characters that are Gone are taken out.
-/
import Derived.Test.YtnnfhldfdiaddaaH1
set_option linter.unusedVariables false
namespace Go.Proofs.Ytnnfhldfdiaddaa
open Go.RowKit

def keptW (lv ws : List Int) : List Int := (shownIdx lv).map (fun j => ws.getD j.toNat 0)
theorem keptW_length (lv ws : List Int) : (keptW lv ws).length = (shownIdx lv).length := by simp [keptW]
theorem gone_len {lv : List Int} (hok : ∀ x ∈ lv, -1 ≤ x ∧ x ≤ 126) : (ord (shownL lv)).length = (ord lv).length := by
  rw [gone lv hok, List.length_map]
theorem gone_col {lv : List Int} (hok : ∀ x ∈ lv, -1 ≤ x ∧ x ≤ 126) (ws : List Int) (v : Nat) : colAt (keptW lv ws) (ord (shownL lv)) v = colAt ws (ord lv) v := by
  unfold colAt
  rw [gone lv hok, ← List.map_take, List.map_map]
  congr 1
  apply List.map_congr_left
  intro j hj
  have hj2 := List.mem_of_mem_take hj
  have := (mem_ord _ _).1 hj2
  have hl : j.toNat < (shownIdx lv).length := by
    rw [← ord_length, ← shownIdx_count lv (fun x hx => (hok x hx).1)]
    omega
  simp [keptW, hl]
theorem mem_shownL {lv : List Int} {x : Int} (h : x ∈ shownL lv) : x ∈ lv ∧ 0 ≤ x := by
  simpa [shownL] using h
/-- the column of a hit says its place -/
theorem hit_one {ws : List Int} (hr : ∀ x ∈ ws, 0 ≤ x ∧ x ≤ 1048576) (o : List Int) {c : Int} {k v : Nat} (h1 : colAt ws o k ≤ c) (h2 : c < colAt ws o (k + 1)) (h3 : colAt ws o v ≤ c) (h4 : c < colAt ws o (v + 1)) : k = v := by
  rcases Nat.lt_trichotomy k v with hlt | rfl | hgt
  · have := colAt_le hr o (k + 1) v (by omega); omega
  · rfl
  · have := colAt_le hr o (v + 1) k (by omega); omega
theorem okL_shown {lv : List Int} (h : okL lv = true) : okL (shownL lv) = true := by
  refine List.all_eq_true.2 fun x hx => ?_
  exact List.all_eq_true.1 h x (mem_shownL hx).1
theorem keptW_push (lv ws : List Int) (x : Int) (hx : x ≠ -1) : keptW (lv ++ [x]) ws = keptW lv ws ++ [ws.getD lv.length 0] := by
  unfold keptW
  rw [shownIdx_push lv x hx, List.map_append]
  simp
theorem keptW_push_gone (lv ws : List Int) : keptW (lv ++ [-1]) ws = keptW lv ws := by
  unfold keptW
  rw [shownIdx_push_gone]
theorem gone_line {base : Int} {lv ws : List Int} (h : LineOk base lv ws) (hok : ∀ x ∈ lv, -1 ≤ x ∧ x ≤ 126) (hok2 : okL (shownL lv) = true) : LineOk base (shownL lv) (keptW lv ws) where
  h01 := h.h01
  ok := hok2
  above := fun x hx hne => h.above x (mem_shownL hx).1 hne
  widths := by rw [keptW_length, ← ord_length, ← shownIdx_count lv (fun x hx => (hok x hx).1)]
  range := fun x hx => by
    obtain ⟨j, _, rfl⟩ := List.mem_map.1 hx
    exact ws_getD h.range _
  len := by
    have := ord_le lv
    rw [← shownIdx_count lv (fun x hx => (hok x hx).1)] at this
    have := h.len
    omega
/-- the answer of 'Hit', whatever the column -/
def HitS (ws o : List Int) (c : Int) (v ed : Nat) : Prop :=
  ((c < 0 ∨ o.length = 0) ∧ v = 0 ∧ ed = 2) ∨
  (0 ≤ c ∧ 0 < o.length ∧ colAt ws o o.length ≤ c ∧ v = o.length ∧ ed = 1) ∨
  (0 ≤ c ∧ 0 < o.length ∧ c < colAt ws o o.length ∧ ∃ k, k < o.length ∧ colAt ws o k ≤ c ∧ c < colAt ws o (k + 1) ∧
    ((2 * (c - colAt ws o k) < colAt ws o (k + 1) - colAt ws o k ∧ v = k ∧ ed = 2) ∨ (¬ 2 * (c - colAt ws o k) < colAt ws o (k + 1) - colAt ws o k ∧ v = k + 1 ∧ ed = 1)))
def HitSPost (ws o : List Int) (c : Int) (w : World) (e : Ending) (w' : World) : Prop :=
  ∃ v ed : Nat, e = .returned (.tuple #[.int .i64 v, .int .u8 ed]) ∧ HitS ws o c v ed ∧ v ≤ o.length ∧ Below w.heap.size w w'
theorem Hit_spec (g : Nat) (base : Int) (lv ws : List Int) (w : World) (c : Int) (h : IsLine w g base lv ws) :
    Calls Try.prog 20 #[.pointer (some ⟨g, 0, none⟩), .int .i64 c] w (HitSPost ws (ord lv) c w) := by
  by_cases h1 : c < 0 ∨ (ord lv).length = 0
  · refine (Hit_before g base lv ws w c h h1).mono ?_
    rintro e w' ⟨rfl, rfl⟩
    exact ⟨0, 2, rfl, .inl ⟨h1, rfl, rfl⟩, Nat.zero_le _, Below.refl _ _⟩
  · by_cases h2 : colAt ws (ord lv) (ord lv).length ≤ c
    · refine (Hit_behind g base lv ws w c h (by omega) (by omega) h2).mono ?_
      rintro e w' ⟨rfl, hb⟩
      exact ⟨(ord lv).length, 1, rfl, .inr (.inl ⟨by omega, by omega, h2, rfl, rfl⟩), Nat.le_refl _, hb⟩
    · refine (Hit_in g base lv ws w c h (by omega) (by omega) (by omega)).mono ?_
      rintro e w' ⟨r, rfl, ⟨v, hv, hv1, hv2, hh⟩, hb⟩
      rcases hh with ⟨hn, rfl⟩ | ⟨hn, rfl⟩
      · exact ⟨v, 2, rfl, .inr (.inr ⟨by omega, by omega, by omega, v, hv, hv1, hv2, .inl ⟨hn, rfl, rfl⟩⟩), by omega, hb⟩
      · exact ⟨v + 1, 1, rfl, .inr (.inr ⟨by omega, by omega, by omega, v, hv, hv1, hv2, .inr ⟨hn, rfl, rfl⟩⟩), by omega, hb⟩
theorem HitS.one {ws o ws2 o2 : List Int} {c : Int} {v ed v2 ed2 : Nat} (hr : ∀ x ∈ ws, 0 ≤ x ∧ x ≤ 1048576) (h : HitS ws o c v ed) (h2 : HitS ws2 o2 c v2 ed2) (hl : o2.length = o.length) (hc : ∀ k, colAt ws2 o2 k = colAt ws o k) : v = v2 ∧ ed = ed2 := by
  unfold HitS at h2
  simp only [hl, hc] at h2
  rcases h with ⟨a, rfl, rfl⟩ | ⟨a, b, d, rfl, rfl⟩ | ⟨a, b, d, k, hk, k1, k2, hh⟩
  · rcases h2 with ⟨a2, rfl, rfl⟩ | ⟨a2, b2, d2, rfl, rfl⟩ | ⟨a2, b2, d2, _⟩
    · exact ⟨rfl, rfl⟩
    · omega
    · omega
  · rcases h2 with ⟨a2, rfl, rfl⟩ | ⟨a2, b2, d2, rfl, rfl⟩ | ⟨a2, b2, d2, _⟩
    · omega
    · exact ⟨rfl, rfl⟩
    · omega
  · rcases h2 with ⟨a2, rfl, rfl⟩ | ⟨a2, b2, d2, rfl, rfl⟩ | ⟨a2, b2, d2, k', hk', k1', k2', hh'⟩
    · omega
    · omega
    · obtain rfl := hit_one hr o k1 k2 k1' k2'
      rcases hh with ⟨x, rfl, rfl⟩ | ⟨x, rfl, rfl⟩ <;> rcases hh' with ⟨y, rfl, rfl⟩ | ⟨y, rfl, rfl⟩
      · exact ⟨rfl, rfl⟩
      · exact absurd x y
      · exact absurd y x
      · exact ⟨rfl, rfl⟩
end Go.Proofs.Ytnnfhldfdiaddaa
