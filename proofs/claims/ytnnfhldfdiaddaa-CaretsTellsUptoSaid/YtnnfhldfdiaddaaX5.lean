/-
  The document's line: columns, what lies under one.
-/
import Derived.Test.YtnnfhldfdiaddaaX4
import Derived.Test.YtnnfhldfdiaddaaH1
set_option linter.unusedVariables false
namespace Go.Proofs.Ytnnfhldfdiaddaa
open Go.RowKit

/-- what a walk asks of the document's line -/
structure RefMem (w : World) (g : Nat) (base : Int) (n m : Nat) (aL : Option Addr) (cL : Nat) (aW : Option Addr) (cW : Nat) (aO : Option Addr) (cO : Nat) (aA : Option Addr) (cA : Nat) : Prop where
  k0 : w.cell? ⟨g, 0, none⟩ = some (.int .i8 base)
  k1 : w.cell? ⟨g, 1, none⟩ = some (.slice aL n cL)
  k2 : w.cell? ⟨g, 2, none⟩ = some (.slice aW n cW)
  k3 : w.cell? ⟨g, 3, none⟩ = some (.slice aO m cO)
  k4 : w.cell? ⟨g, 4, none⟩ = some (.slice aA n cA)
theorem IsRef.open {w : World} {g : Nat} {base : Int} {lv ws : List Int} (h : IsRef w g base lv ws) :
    ∃ n m aL cL aW cW aO cO aA cA, Hid (lv.length = n) ∧ Hid (ws.length = n) ∧ Hid ((ord lv).length = m) ∧ RefMem w g base n m aL cL aW cW aO cO aA cA ∧ m ≤ n ∧ n ≤ 1048576 ∧ Hid (Ints .i8 w aL lv) ∧ Hid (Ints .i64 w aW ws) ∧ Hid (Ints .i64 w aO (ord lv)) ∧ Hid (Ints .i64 w aA (placesL lv)) := by
  obtain ⟨aL, cL, aW, cW, aO, cO, aA, cA, hg, h1, h2, h3, h4⟩ := h.mem
  refine ⟨lv.length, (ord lv).length, aL, cL, aW, cW, aO, cO, aA, cA, Lib.hid rfl, Lib.hid h.ok.widths, Lib.hid rfl, ⟨?_, ?_, ?_, ?_, ?_⟩, ord_le lv, h.ok.len, h1, h2, h3, h4⟩
  case refine_3 => rw [cell_of_row w g _ _ _ (0, 0) hg, h.ok.widths]; rfl
  all_goals (rw [cell_of_row w g _ _ _ (0, 0) hg]; rfl)

def ColR (ws o : List Int) (v : Nat) (w : World) (s i : Value) (wr : World) : Prop :=
  ∃ k d : Nat, k ≤ v ∧ i = .int .i64 k ∧ s = .int .i64 (colAt ws o k) ∧ wr = w.drewN d
theorem rColumn_walk (g : Nat) (base : Int) (lv ws : List Int) (v : Nat) (w : World) (h : IsRef w g base lv ws) (hv : v ≤ (ord lv).length) :
    Calls Try.prog 43 #[.pointer (some ⟨g, 0, none⟩), .int .i64 v] w fun e w' => e = .returned (.int .i64 (colAt ws (ord lv) v)) ∧ ∃ d, w' = w.drewN d := by
  have HR := Lib.hid h.ok.range
  obtain ⟨n, m, aL, cL, aW, cW, aO, cO, aA, cA, hn, hn2, hm, hM, hmn, hn3, iL, iW, iO, iA⟩ := h.open
  have k2 := hM.k2
  have k3 := hM.k3
  have hvm : v ≤ m := by rw [← hm.out]; exact hv
  clear h hv
  go_enter Try.func43, Try.ntmps43
  go_wp2
  go_loopw [5, 6] (ColR ws (ord lv) v w) (fun _ i _ => v - (intOf i).toNat)
  case atStart => exact ⟨0, 0, Nat.zero_le _, rfl, by rw [colAt_zero], rfl⟩
  case round =>
    obtain ⟨k, d, hk, rfl, rfl, rfl⟩ := hrel
    by_cases hlt : k < v
    · have hkm : k < (ord lv).length := by rw [hm.out]; omega
      obtain ⟨x, hx, hxl⟩ := shownIdx_nonneg lv (ord lv) (ord_perm lv) k hkm
      have hxw : x < ws.length := by rw [hn2.out, ← hn.out]; exact hxl
      obtain ⟨bO, oO, ha⟩ := iO.out.some (by omega)
      subst ha
      obtain ⟨bW, oW, ha⟩ := iW.out.some (by omega)
      subst ha
      have cO1 := iO.out.get k hkm
      rw [hx] at cO1
      have cW1 := iW.out.get x hxw
      have hs := colAt_succ ws (ord lv) k hkm
      rw [hx, Int.toNat_natCast, show ws.getD x 0 = ws[x] by simp [hxw]] at hs
      have HS := Lib.hid hs; clear hs
      have hr1 := HR.out _ (List.getElem_mem hxw)
      have hr2 := colAt_mono HR.out (ord lv) k
      have hki : (k : Int) < (m : Int) := by omega
      have hxi : (x : Int) < (n : Int) := by have := hn2.out; omega
      generalize ws[x] = y at *
      clear hx hkm hxl hxw
      generalize colAt ws (ord lv) k = c at *
      have hsum : IntKind.i64.wrap (c + y) = c + y := IntWalk.i64_in _ (by omega)
      go_wp2
      go_quiet (fail)
      go_wp2
      go_roundw
      case rel => exact ⟨k + 1, _, by omega, by go_num, by rw [HS.out], rfl⟩
      case measure => simp [intOf]; omega
    · obtain rfl : k = v := by omega
      go_wp2
      go_ret
      exact ⟨rfl, _, rfl⟩

/-- what lies under a column -/
def HitIs (ws o : List Int) (c : Int) (v ed : Nat) : Prop :=
  ((c < 0 ∨ o.length = 0) ∧ v = 0 ∧ ed = 2) ∨
  (0 ≤ c ∧ 0 < o.length ∧ colAt ws o o.length ≤ c ∧ v = o.length ∧ ed = 1) ∨
  (0 ≤ c ∧ 0 < o.length ∧ ∃ k, k < o.length ∧ colAt ws o k ≤ c ∧ c < colAt ws o (k + 1) ∧ ((2 * (c - colAt ws o k) < colAt ws o (k + 1) - colAt ws o k ∧ v = k ∧ ed = 2) ∨ (¬ 2 * (c - colAt ws o k) < colAt ws o (k + 1) - colAt ws o k ∧ v = k + 1 ∧ ed = 1)))
theorem HitIs.uniq {ws o : List Int} {c : Int} {v ed v' ed' : Nat} (hr : ∀ x ∈ ws, 0 ≤ x ∧ x ≤ 1048576) (h : HitIs ws o c v ed) (k : HitIs ws o c v' ed') : v = v' ∧ ed = ed' := by
  have hle := colAt_le hr o
  rcases h with ⟨h1, rfl, rfl⟩ | ⟨h1, h2, h3, rfl, rfl⟩ | ⟨h1, h2, a, ha, ha1, ha2, hh⟩
  · rcases k with ⟨k1, rfl, rfl⟩ | ⟨k1, k2, k3, rfl, rfl⟩ | ⟨k1, k2, b, hb, hb1, hb2, kk⟩
    · exact ⟨rfl, rfl⟩
    · omega
    · omega
  · rcases k with ⟨k1, rfl, rfl⟩ | ⟨k1, k2, k3, rfl, rfl⟩ | ⟨k1, k2, b, hb, hb1, hb2, kk⟩
    · omega
    · exact ⟨rfl, rfl⟩
    · have := hle (b + 1) o.length (by omega)
      omega
  · rcases k with ⟨k1, rfl, rfl⟩ | ⟨k1, k2, k3, rfl, rfl⟩ | ⟨k1, k2, b, hb, hb1, hb2, kk⟩
    · omega
    · have := hle (a + 1) o.length (by omega)
      omega
    · have e : a = b := by
        rcases Nat.lt_trichotomy a b with hlt | e | hlt
        · have := hle (a + 1) b (by omega); omega
        · exact e
        · have := hle (b + 1) a (by omega); omega
      subst e
      omega
def HitPost2 (ws o : List Int) (c : Int) (w : World) (e : Ending) (w' : World) : Prop := ∃ v ed : Nat, e = .returned (.tuple #[.int .i64 v, .int .u8 ed]) ∧ HitIs ws o c v ed ∧ Below w.heap.size w w'
theorem Hit_is (g : Nat) (base : Int) (lv ws : List Int) (w : World) (c : Int) (h : IsLine w g base lv ws) :
    Calls Try.prog 20 #[.pointer (some ⟨g, 0, none⟩), .int .i64 c] w (HitPost2 ws (ord lv) c w) := by
  by_cases h1 : c < 0 ∨ (ord lv).length = 0
  · refine (Hit_before g base lv ws w c h h1).mono ?_
    rintro e w' ⟨rfl, rfl⟩
    exact ⟨0, 2, rfl, .inl ⟨h1, rfl, rfl⟩, Below.refl _ _⟩
  · by_cases h2 : colAt ws (ord lv) (ord lv).length ≤ c
    · refine (Hit_behind g base lv ws w c h (by omega) (by omega) h2).mono ?_
      rintro e w' ⟨rfl, hb⟩
      exact ⟨_, 1, rfl, .inr (.inl ⟨by omega, by omega, h2, rfl, rfl⟩), hb⟩
    · refine (Hit_in g base lv ws w c h (by omega) (by omega) (by omega)).mono ?_
      rintro e w' ⟨r, rfl, ⟨v, hv, hv1, hv2, hh⟩, hb⟩
      rcases hh with ⟨hn, rfl⟩ | ⟨hn, rfl⟩
      · exact ⟨v, 2, rfl, .inr (.inr ⟨by omega, by omega, v, hv, hv1, hv2, .inl ⟨hn, rfl, rfl⟩⟩), hb⟩
      · exact ⟨v + 1, 1, rfl, .inr (.inr ⟨by omega, by omega, v, hv, hv1, hv2, .inr ⟨hn, rfl, rfl⟩⟩), hb⟩

def HitR (ws o : List Int) (c : Int) (m : Nat) (w : World) (l v x : Value) (wr : World) : Prop :=
  ∃ k d : Nat, k ≤ m ∧ v = .int .i64 k ∧ l = .int .i64 (colAt ws o k) ∧ colAt ws o k ≤ c ∧ wr = w.drewN d
theorem rHit_no (g : Nat) (base : Int) (lv ws : List Int) (w : World) (c : Int) (h : IsRef w g base lv ws) (hc : c < 0 ∨ (ord lv).length = 0) :
    Calls Try.prog 44 #[.pointer (some ⟨g, 0, none⟩), .int .i64 c] w (HitPost2 ws (ord lv) c w) := by
  have HP : Hid (HitIs ws (ord lv) c 0 2) := Lib.hid (.inl ⟨hc, rfl, rfl⟩)
  obtain ⟨n, m, aL, cL, aW, cW, aO, cO, aA, cA, hn, hn2, hm, hM, hmn, hn3, iL, iW, iO, iA⟩ := h.open
  have k3 := hM.k3
  rw [hm.out] at hc
  clear h
  by_cases h1 : c < 0
  · clear hc
    go_enter Try.func44, Try.ntmps44
    go_wp2
    go_ret2
    exact ⟨0, 2, rfl, HP.out, Below.refl _ _⟩
  · have hm0 : ((m : Int) == 0) = true := by simp; omega
    clear hc
    go_enter Try.func44, Try.ntmps44
    go_wp2
    go_ret2
    exact ⟨0, 2, rfl, HP.out, Below.refl _ _⟩
theorem rHit_in (g : Nat) (base : Int) (lv ws : List Int) (w : World) (c : Int) (h : IsRef w g base lv ws) (hc : 0 ≤ c) (hm1 : 0 < (ord lv).length) :
    Calls Try.prog 44 #[.pointer (some ⟨g, 0, none⟩), .int .i64 c] w (HitPost2 ws (ord lv) c w) := by
  have HR := Lib.hid h.ok.range
  have HM1 := Lib.hid hm1
  obtain ⟨n, m, aL, cL, aW, cW, aO, cO, aA, cA, hn, hn2, hm, hM, hmn, hn3, iL, iW, iO, iA⟩ := h.open
  have k2 := hM.k2
  have k3 := hM.k3
  have hm0 : ((m : Int) == 0) = false := by have := hm.out; simp; omega
  clear h hm1
  go_enter Try.func44, Try.ntmps44
  go_wp2
  go_loopw [7, 8, 9] (HitR ws (ord lv) c m w) (fun _ v _ _ => m - (intOf v).toNat)
  case atStart => exact ⟨0, 0, Nat.zero_le _, rfl, by rw [colAt_zero], by rw [colAt_zero]; exact hc, rfl⟩
  case round =>
    obtain ⟨k, d, hk, rfl, rfl, hle, rfl⟩ := hrel
    by_cases hlt : k < m
    · have hkm : k < (ord lv).length := by rw [hm.out]; omega
      obtain ⟨x, hx, hxl⟩ := shownIdx_nonneg lv (ord lv) (ord_perm lv) k hkm
      have hxw : x < ws.length := by rw [hn2.out, ← hn.out]; exact hxl
      obtain ⟨bO, oO, ha⟩ := iO.out.some (by omega)
      subst ha
      obtain ⟨bW, oW, ha⟩ := iW.out.some (by omega)
      subst ha
      have cO1 := iO.out.get k hkm
      rw [hx] at cO1
      have cW1 := iW.out.get x hxw
      have hs := colAt_succ ws (ord lv) k hkm
      rw [hx, Int.toNat_natCast, show ws.getD x 0 = ws[x] by simp [hxw]] at hs
      have hr1 := HR.out _ (List.getElem_mem hxw)
      have hr2 := colAt_mono HR.out (ord lv) k
      have hki : (k : Int) < (m : Int) := by omega
      have hxi : (x : Int) < (n : Int) := by have := hn2.out; omega
      have HV := Lib.hid (show ∀ v ed : Nat, c < colAt ws (ord lv) (k + 1) → ((2 * (c - colAt ws (ord lv) k) < colAt ws (ord lv) (k + 1) - colAt ws (ord lv) k ∧ v = k ∧ ed = 2) ∨ (¬ 2 * (c - colAt ws (ord lv) k) < colAt ws (ord lv) (k + 1) - colAt ws (ord lv) k ∧ v = k + 1 ∧ ed = 1)) → HitIs ws (ord lv) c v ed from fun v ed h1 h2 => .inr (.inr ⟨hc, HM1.out, k, hkm, hle, h1, h2⟩))
      rw [hs] at HV
      have HS := Lib.hid hs; clear hs
      generalize ws[x] = y at *
      clear hx hkm hxl hxw
      generalize colAt ws (ord lv) k = l at *
      have hsum : l + y - l = y := by omega
      rw [hsum] at HV
      clear hsum
      go_wp2
      go_quiet (fail)
      by_cases hin : c < l + y
      · by_cases hnear : 2 * (c - l) < y
        · go_wp2
          go_ret2
          exact ⟨k, 2, rfl, HV.out k 2 hin (.inl ⟨hnear, rfl, rfl⟩), below_drewN (Below.refl _ _) _⟩
        · go_wp2
          go_ret2
          exact ⟨k + 1, 1, by simp, HV.out (k + 1) 1 hin (.inr ⟨hnear, rfl, rfl⟩), below_drewN (Below.refl _ _) _⟩
      · go_wp2
        go_roundw
        case rel => exact ⟨k + 1, _, by omega, by go_num, by rw [HS.out], by rw [HS.out]; omega, rfl⟩
        case measure => simp [intOf]; omega
    · obtain rfl : k = m := by omega
      have HP : Hid (HitIs ws (ord lv) c k 1) := Lib.hid (.inr (.inl ⟨hc, HM1.out, by rw [hm.out]; exact hle, hm.out.symm, rfl⟩))
      go_wp2
      go_ret2
      exact ⟨k, 1, rfl, HP.out, below_drewN (Below.refl _ _) _⟩
theorem rHit_walk (g : Nat) (base : Int) (lv ws : List Int) (w : World) (c : Int) (h : IsRef w g base lv ws) :
    Calls Try.prog 44 #[.pointer (some ⟨g, 0, none⟩), .int .i64 c] w (HitPost2 ws (ord lv) c w) := by
  by_cases h1 : c < 0 ∨ (ord lv).length = 0
  · exact rHit_no g base lv ws w c h h1
  · exact rHit_in g base lv ws w c h (by omega) (by omega)
end Go.Proofs.Ytnnfhldfdiaddaa
