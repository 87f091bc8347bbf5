/-
  The walk of the document's edges.
-/
import Derived.Test.YtkcdcgijbaepmaaW22
import Derived.Test.YtkcdcgijbaepmaaW9
import Derived.Test.YtkcdcgijbaepmaaJ3
import Derived.Deep.RegionLaw
set_option linter.unusedVariables false
set_option linter.unusedSimpArgs false
namespace Go.Proofs.Ytkcdcgijbaepmaa
open Go.RowKit

def fE (S : List PD) : List Value := ivs .i64 (S.map PD.f)
theorem fE_length (S : List PD) : (fE S).length = S.length := by simp [fE, ivs]
theorem fE_get (S : List PD) (i : Nat) (h : i < (fE S).length) : (fE S)[i] = .int .i64 (S[i]'(by rwa [fE_length] at h)).f := by simp [fE, ivs]
theorem fE_set (S : List PD) (i : Nat) (x : PD) : (fE S).set i (.int .i64 x.f) = fE (S.set i x) := by simp [fE, ivs, List.map_set]
theorem fE_push (S : List PD) (x : PD) : fE (S ++ [x]) = fE S ++ [.int .i64 x.f] := by simp [fE, ivs]
theorem hole_at {B g n c : Nat} {w : World} {L : List PD} (h : Own B 3 w (some ⟨g, 0, none⟩) n c (fE L)) (i : Nat) (hi : i < L.length) : w.cell? ⟨g, i, none⟩ = some (.int .i64 L[i].f) := by
  have := h.cell i (by rwa [fE_length])
  rwa [fE_get] at this
/-- the ends of the first pieces, as the document tells them -/
theorem edgesL_take (xs : List PD) (k : Nat) (h : k < xs.length) : edgesL (xs.take (k + 1)) = edgesL (xs.take k) ++ [xs[k].f, xs[k].t] := by
  rw [List.take_succ_eq_append_getElem h]
  unfold edgesL
  rw [List.flatMap_append]
  simp
/-- the list so far: rising, its numbers those of Z -/
structure RowE (B : Nat) (w : World) (a : Option Addr) (m c : Nat) (S : List PD) (Z : List Int) : Prop where
  own : Own B 3 w a m c (fE S)
  up : Rising S
  perm : (S.map PD.f).Perm Z
theorem RowE.below {B B' : Nat} {w w' : World} {a : Option Addr} {m c : Nat} {S : List PD} {Z : List Int} (h : RowE B w a m c S Z) (hb : Below B' w w') (hB : w.heap.size ≤ B') : RowE B w' a m c S Z := ⟨h.own.below hb hB, h.up, h.perm⟩
theorem RowE.len {B : Nat} {w : World} {a : Option Addr} {m c : Nat} {S : List PD} {Z : List Int} (h : RowE B w a m c S Z) : S.length = m ∧ Z.length = m := by
  have h1 := h.own.len
  rw [fE_length] at h1
  have h2 := h.perm.length_eq
  rw [List.length_map] at h2
  exact ⟨h1, by omega⟩
def zE (ps qs : List PD) (k : Nat) : List Int := edgesL (if 0 < k then ps else []) ++ edgesL (if 1 < k then qs else [])
def Ed1 (w : World) (ps qs : List PD) (v i : Value) (wr : World) : Prop :=
  ∃ (k : Nat) (a' : Option Addr) (m c' : Nat) (S : List PD), k ≤ 2 ∧ i = .int .i64 k ∧ v = .slice a' m c' ∧ RowE w.heap.size wr a' m c' S (zE ps qs k) ∧ Below w.heap.size w wr
def Ed2 (B : Nat) (w : World) (n : Nat) (Z : List Int) (xs : List PD) (v i : Value) (wr : World) : Prop :=
  ∃ (k : Nat) (a' : Option Addr) (m c' : Nat) (S : List PD), k ≤ n ∧ i = .int .i64 k ∧ v = .slice a' m c' ∧ RowE B wr a' m c' S (Z ++ edgesL (xs.take k)) ∧ Below B w wr
def Ed3 (B bl : Nat) (w : World) (x0 x1 : Int) (Z : List Int) (v i : Value) (wr : World) : Prop :=
  ∃ (k : Nat) (a' : Option Addr) (m c' : Nat) (S : List PD), k ≤ 2 ∧ i = .int .i64 k ∧ v = .slice a' m c' ∧ RowE B wr a' m c' S (Z ++ [x0, x1].take k) ∧ Below B w wr ∧ wr.heap[bl]? = some (.cells #[.int .i64 x0, .int .i64 x1] 3 (0, 0)) ∧ (∀ g, (Value.slice a' m c').ownBlock = some g → g ≠ bl)
def Ed4 (B bl : Nat) (w : World) (x0 x1 : Int) (g m c' : Nat) (S : List PD) (x : PD) (i : Value) (wr : World) : Prop :=
  ∃ (k : Nat) (L : List PD), i = .int .i64 k ∧ HoleAt S L x k ∧ Own B 3 wr (some ⟨g, 0, none⟩) (m + 1) c' (fE L) ∧ Below B w wr ∧ wr.heap[bl]? = some (.cells #[.int .i64 x0, .int .i64 x1] 3 (0, 0))

set_option maxRecDepth 100000 in
set_option maxHeartbeats 8000000 in
theorem edges_walk (a : Option Addr) (n c : Nat) (ps : List PD) (b : Option Addr) (n2 c2 : Nat) (qs : List PD) (w : World) (hn : ps.length = n) (hlt : n ≤ 65536) (hc : PiecesAt w a ps) (hn2 : qs.length = n2) (hlt2 : n2 ≤ 65536) (hc2 : PiecesAt w b qs) :
    Calls Try.prog 55 #[.slice a n c, .slice b n2 c2] w fun e w' => ∃ a' m c' S, e = .returned (.slice a' m c') ∧ RowE w.heap.size w' a' m c' S (edgesL ps ++ edgesL qs) ∧ Below w.heap.size w w' := by
  have HN := Lib.hid hn; clear hn
  have HN2 := Lib.hid hn2; clear hn2
  have HC := Lib.hid hc; clear hc
  have HC2 := Lib.hid hc2; clear hc2
  obtain ⟨b0, hb0⟩ : ∃ b0, b0 = w.heap.size := ⟨_, rfl⟩
  have HW0 : Hid (Below w.heap.size w (w.alloc (.cells #[.slice a n c, .slice b n2 c2] 22)) ∧ (w.alloc (.cells #[.slice a n c, .slice b n2 c2] 22)).heap[b0]? = some (.cells #[.slice a n c, .slice b n2 c2] 22 (0, 0)) ∧ (w.alloc (.cells #[.slice a n c, .slice b n2 c2] 22)).heap.size = b0 + 1) := Lib.hid (by
    rw [hb0]
    exact ⟨(Below.refl _ w).alloc (Nat.le_refl _) _, heap_alloc_new w _, by simp⟩)
  go_enter Try.func55, Try.ntmps55
  go_wp2
  rw [← hb0]
  generalize (w.alloc (.cells #[.slice a n c, .slice b n2 c2] 22)) = w0 at *
  have HBe := Lib.hid hb0; clear hb0
  have hb0l : b0 < w0.heap.size := by rw [HW0.out.2.2]; omega
  have HCa := Lib.hid (HC.out.below HW0.out.1 (Nat.le_refl _))
  have HCb := Lib.hid (HC2.out.below HW0.out.1 (Nat.le_refl _))
  have e0 := cell_of_row w0 b0 0 _ _ (0, 0) HW0.out.2.1
  have e1 := cell_of_row w0 b0 1 _ _ (0, 0) HW0.out.2.1
  simp at e0 e1
  have HE0 := Lib.hid e0
  have HE1 := Lib.hid e1
  clear e0 e1
  go_loopw [5, 16] (Ed1 w0 ps qs) (fun _ i _ => 2 - (intOf i).toNat)
  case atStart => exact ⟨0, none, 0, 0, [], by omega, rfl, rfl, ⟨Own.nil _ _ _, List.Pairwise.nil, List.Perm.refl _⟩, Below.refl _ _⟩
  case round =>
    obtain ⟨k, a', m, c', S, hk, rfl, rfl, hrow, hbel⟩ := hrel
    obtain ⟨w1, rfl⟩ : ∃ w1 : World, w1 = wr := ⟨_, rfl⟩
    have HR := Lib.hid hrow; clear hrow
    have HB := Lib.hid hbel; clear hbel
    by_cases hk2 : k < 2
    · have key : ∃ ax nx cx xs, w1.cell? ⟨b0, k, none⟩ = some (.slice ax nx cx) ∧ PiecesAt w0 ax xs ∧ xs.length = nx ∧ nx ≤ 65536 ∧ (zE ps qs k ++ edgesL xs).Perm (zE ps qs (k + 1)) ∧ (zE ps qs k).length ≤ 131072 := by
        have hd : k = 0 ∨ k = 1 := by omega
        rcases hd with rfl | rfl
        · exact ⟨a, n, c, ps, (HB.out.cell (p := ⟨b0, 0, none⟩) hb0l).trans HE0.out, HCa.out, HN.out, hlt, by simp [zE, edgesL], by simp [zE, edgesL]⟩
        · refine ⟨b, n2, c2, qs, (HB.out.cell (p := ⟨b0, 1, none⟩) hb0l).trans HE1.out, HCb.out, HN2.out, hlt2, by simp [zE, edgesL], ?_⟩
          have := edgesL_length ps
          have := HN.out
          simp only [zE, List.length_append]
          simp [edgesL_length]
          omega
      obtain ⟨ax, nx, cx, xs, hcell, hpx, hxl, hnx, hperm, hzl⟩ := key
      have HPx := Lib.hid hpx; clear hpx
      have HXl := Lib.hid hxl; clear hxl
      have HPm := Lib.hid hperm; clear hperm
      generalize zE ps qs k = Z at *
      have hki : (k : Int) < 2 := by omega
      have hm0 : m ≤ 131072 := by have := HR.out.len; omega
      go_wp2
      go_loopw [5, 8] (Ed2 w0.heap.size w0 nx Z xs) (fun _ i _ => nx - (intOf i).toNat)
      case atStart => exact ⟨0, a', m, c', S, Nat.zero_le _, rfl, rfl, by simpa [edgesL] using HR.out, HB.out⟩
      case round =>
        obtain ⟨j, a2, m2, c2', S2, hj, rfl, rfl, hrow, hbel⟩ := hrel
        obtain ⟨w2, rfl⟩ : ∃ w2 : World, w2 = wr := ⟨_, rfl⟩
        have HR2 := Lib.hid hrow; clear hrow
        have HB2 := Lib.hid hbel; clear hbel
        have hm2 : m2 ≤ 262144 := by
          have h1 := HR2.out.len.2
          rw [List.length_append, edgesL_length, List.length_take] at h1
          omega
        by_cases hjn : j < nx
        · have hjx : j < xs.length := by rw [HXl.out]; exact hjn
          obtain ⟨bq, oq, ha⟩ := HPx.out.some (by omega)
          subst ha
          obtain ⟨p0, p1⟩ := (HPx.out.below HB2.out (Nat.le_refl _)).get j hjx
          have HTk := Lib.hid (edgesL_take xs j hjx)
          generalize xs[j] = p at *
          obtain ⟨x0, x1⟩ := p
          simp only at p0 p1
          have hji : (j : Int) < (nx : Int) := by omega
          obtain ⟨bl, hbl⟩ : ∃ bl, bl = w2.heap.size := ⟨_, rfl⟩
          have HAL : Hid (Below w2.heap.size w2 (w2.alloc (.cells #[.int .i64 x0, .int .i64 x1] 3)).drew ∧ (w2.alloc (.cells #[.int .i64 x0, .int .i64 x1] 3)).drew.heap[bl]? = some (.cells #[.int .i64 x0, .int .i64 x1] 3 (0, 0))) := Lib.hid (by
            rw [hbl]
            exact ⟨below_drewN ((Below.refl _ _).alloc (Nat.le_refl _) _) 1, heap_alloc_new w2 _⟩)
          go_wp2
          go_region
          all_goals
            rw [← hbl]
            generalize (w2.alloc (.cells #[.int .i64 x0, .int .i64 x1] 3)).drew = w3 at *
            have HBl := Lib.hid hbl
            have HR3 := Lib.hid (HR2.out.below HAL.out.1 (Nat.le_refl _))
            have HB3 := Lib.hid (HB2.out.trans (HAL.out.1.mono HB2.out.size))
            have HX3 := Lib.hid HAL.out.2
            have HNb := Lib.hid (show ∀ g, (Value.slice a2 m2 c2').ownBlock = some g → g ≠ bl from fun g hg => by
              have := World.ownsRow.lt HR2.out.own g hg
              omega)
            obtain ⟨Y, hY⟩ : ∃ Y, Z ++ edgesL (xs.take j) = Y := ⟨_, rfl⟩
            rw [hY] at HR2 HR3
            have HYe := Lib.hid hY; clear hY
            clear HAL hbl p0 p1
            go_wp2
            go_loopw [5, 38] (Ed3 w0.heap.size bl w0 x0 x1 Y) (fun _ i _ => 2 - (intOf i).toNat)
            case atStart => exact ⟨0, a2, m2, c2', S2, by omega, rfl, rfl, by simpa using HR3.out, HB3.out, HX3.out, HNb.out⟩
            case round =>
              obtain ⟨q, a4, m4, c4, S4, hq, rfl, rfl, hrow, hbel, hbox, hnb⟩ := hrel
              obtain ⟨w4, rfl⟩ : ∃ w4 : World, w4 = wr := ⟨_, rfl⟩
              have HR4 := Lib.hid hrow; clear hrow
              have HB4 := Lib.hid hbel; clear hbel
              have HX4 := Lib.hid hbox; clear hbox
              have HN4 := Lib.hid hnb; clear hnb
              have hS4 := HR4.out.len.1
              have hm4 : m4 ≤ 262146 := by
                have h1 := HR4.out.len.2
                have h2 := HR2.out.len.2
                have h3 : ([x0, x1].take q).length ≤ 2 := by rw [List.length_take]; simp; omega
                rw [List.length_append] at h1
                omega
              by_cases hq2 : q < 2
              · have key : ∃ y : Int, w4.cell? ⟨bl, q, none⟩ = some (.int .i64 y) ∧ [x0, x1].take (q + 1) = [x0, x1].take q ++ [y] := by
                  have hd : q = 0 ∨ q = 1 := by omega
                  have e0 := cell_of_row w4 bl 0 _ _ (0, 0) HX4.out
                  have e1 := cell_of_row w4 bl 1 _ _ (0, 0) HX4.out
                  simp at e0 e1
                  rcases hd with rfl | rfl
                  · exact ⟨x0, e0, rfl⟩
                  · exact ⟨x1, e1, rfl⟩
                obtain ⟨y, hy, htk⟩ := key
                have HTq := Lib.hid htk; clear htk
                obtain ⟨x, hx⟩ : ∃ x : PD, x = ⟨y, 0⟩ := ⟨_, rfl⟩
                have HXf := Lib.hid (show x.f = y by rw [hx])
                clear hx
                have hqi : (q : Int) < 2 := by omega
                have hbll : bl < w4.heap.size := (Array.getElem?_eq_some_iff.1 HX4.out).1
                go_wp2_with (at_builtin; refine wpList_app1x Try.elemInt rfl (.tmp 44) (.tmp 46) rfl HR4.out.own HB4.out.size (by omega) (by omega) (.int .i64 y) rfl _ rfl rfl ?_)
                intro a9 c9 w9 ho9 hg9 hnb
                have hne9 : ∀ g, (Value.slice a9 (m4 + 1) c9).ownBlock = some g → g ≠ bl := by
                  intro g e
                  rcases hnb with h | ⟨g', h, hle⟩
                  · exact HN4.out g (by rw [← h]; exact e)
                  · rw [e] at h
                    have : g = g' := by simpa using h
                    omega
                have HO9 : Hid (Own w0.heap.size 3 w9 a9 (m4 + 1) c9 (fE (S4 ++ [x]))) := Lib.hid (by rw [fE_push, HXf.out]; exact ho9)
                have HB9 := Lib.hid (HB4.out.trans (HR4.out.own.app hg9 HB4.out.size))
                have HX9 : Hid (w9.heap[bl]? = some (.cells #[.int .i64 x0, .int .i64 x1] 3 (0, 0))) := Lib.hid (by
                  rw [hg9.block bl hbll (fun e => HN4.out bl e.symm rfl)]
                  exact HX4.out)
                obtain ⟨g, ha, hg1, hg2, -, -⟩ := HO9.out.at (by omega)
                subst ha
                have hgb : g ≠ bl := hne9 g rfl
                clear ho9 hg9 hnb hne9 hy
                have HSt := Lib.hid (HoleAt.start S4 x)
                rw [hS4] at HSt
                go_wp2
                go_loopw [11] (Ed4 w0.heap.size bl w0 x0 x1 g m4 c9 S4 x) (fun i _ => (intOf i).toNat)
                case atStart => exact ⟨m4, _, rfl, HSt.out, HO9.out, HB9.out, HX9.out⟩
                case round =>
                  obtain ⟨h, L, rfl, hhole, hown, hbel, hbox⟩ := hrel
                  have hhm : h ≤ m4 := by have := hhole.le; omega
                  have hLm : L.length = m4 + 1 := by have := hhole.len; omega
                  have HH := Lib.hid hhole; clear hhole
                  have HOj := Lib.hid hown; clear hown
                  have HBj := Lib.hid hbel; clear hbel
                  have HXj := Lib.hid hbox; clear hbox
                  have fz := HOj.out.unfrozen h
                  have tz := hole_at HOj.out h (by omega)
                  have HFin : Hid (Own w0.heap.size 3 (wr.setCell ⟨g, h, none⟩ (.int .i64 y)) (some ⟨g, 0, none⟩) (m4 + 1) c9 (fE (L.set h x))) := Lib.hid (by
                    have := HOj.out.store h (.int .i64 x.f)
                    rw [fE_set, HXf.out] at this
                    exact this)
                  have HBf : Hid (Below w0.heap.size w0 (wr.setCell ⟨g, h, none⟩ (.int .i64 y))) := Lib.hid (HBj.out.setCell (p := ⟨g, h, none⟩) hg1 (.int .i64 y))
                  have HXF : Hid ((wr.setCell ⟨g, h, none⟩ (.int .i64 y)).heap[bl]? = some (.cells #[.int .i64 x0, .int .i64 x1] 3 (0, 0))) := Lib.hid ((heap_setCell_other wr ⟨g, h, none⟩ bl (.int .i64 y) (fun e => hgb e.symm)).trans HXj.out)
                  have HPf := Lib.hid (fun (hp : (L.set h x).Perm (S4 ++ [x])) => (show ((L.set h x).map PD.f).Perm (Y ++ [x0, x1].take (q + 1)) from by
                    have h1 := hp.map PD.f
                    rw [List.map_append, List.map_cons, List.map_nil, HXf.out] at h1
                    rw [HTq.out, ← List.append_assoc]
                    exact h1.trans (HR4.out.perm.append_right _)))
                  by_cases hh0 : h = 0
                  · subst hh0
                    have HD := Lib.hid (HH.out.done HR4.out.up (.inl rfl))
                    have HPq := Lib.hid (HPf.out HD.out.2)
                    go_wp2
                    go_roundw
                    case rel => exact ⟨q + 1, _, _, _, L.set 0 x, by omega, by go_num, rfl, ⟨HFin.out, HD.out.1, HPq.out⟩, HBf.out, HXF.out, (fun g' e => by cases e; exact hgb)⟩
                    case measure => simp [intOf]; omega
                  · obtain ⟨hh, rfl⟩ : ∃ hh, h = hh + 1 := ⟨h - 1, by omega⟩
                    obtain ⟨hkS, hkL, hLS⟩ := HH.out.at
                    have HStep := Lib.hid (fun (h : x.f < S4[hh].f) => HH.out.step S4[hh] hkS rfl h)
                    have HDn := Lib.hid (fun (h : ¬ x.f < S4[hh].f) => HH.out.done HR4.out.up (.inr ⟨hkS, by show S4[hh].f ≤ x.f; omega⟩))
                    have g0 := hole_at HOj.out hh hkL
                    rw [hLS] at g0
                    rw [HXf.out] at HStep HDn
                    clear hLS
                    generalize S4[hh] = z at *
                    have hd1 : decide (0 < hh + 1) = true := by simp
                    have hji1 : (hh : Int) < (m4 : Int) + 1 := by omega
                    have hji2 : (hh : Int) + 1 < (m4 : Int) + 1 := by omega
                    have hji3 : (0 : Int) ≤ (hh : Int) + 1 := by omega
                    have hjw : IntKind.i64.wrap (hh : Int) = (hh : Int) := IntWalk.i64_in _ (by omega)
                    by_cases hyz : y < z.f
                    · have HS2 := Lib.hid (HStep.out hyz)
                      have hd : decide (y < z.f) = true := decide_eq_true hyz
                      have HO8 : Hid (Own w0.heap.size 3 (wr.setCell ⟨g, hh + 1, none⟩ (.int .i64 z.f)) (some ⟨g, 0, none⟩) (m4 + 1) c9 (fE (L.set (hh + 1) z))) := Lib.hid (by
                        have := HOj.out.store (hh + 1) (.int .i64 z.f)
                        rw [fE_set] at this
                        exact this)
                      have HB8 : Hid (Below w0.heap.size w0 (wr.setCell ⟨g, hh + 1, none⟩ (.int .i64 z.f))) := Lib.hid (HBj.out.setCell (p := ⟨g, hh + 1, none⟩) hg1 (.int .i64 z.f))
                      have HX8 : Hid ((wr.setCell ⟨g, hh + 1, none⟩ (.int .i64 z.f)).heap[bl]? = some (.cells #[.int .i64 x0, .int .i64 x1] 3 (0, 0))) := Lib.hid ((heap_setCell_other wr ⟨g, hh + 1, none⟩ bl (.int .i64 z.f) (fun e => hgb e.symm)).trans HXj.out)
                      clear HStep HDn hkS hkL
                      go_wp2
                      go_roundw
                      case rel => exact ⟨hh, _, rfl, HS2.out, HO8.out, HB8.out, HX8.out⟩
                      case measure => simp [intOf]
                    · have HD := Lib.hid (HDn.out hyz)
                      have HPq := Lib.hid (HPf.out HD.out.2)
                      have hd : decide (y < z.f) = false := decide_eq_false hyz
                      clear HStep HDn hkS hkL
                      go_wp2
                      go_roundw
                      case rel => exact ⟨q + 1, _, _, _, L.set (hh + 1) x, by omega, by go_num, rfl, ⟨HFin.out, HD.out.1, HPq.out⟩, HBf.out, HXF.out, (fun g' e => by cases e; exact hgb)⟩
                      case measure => simp [intOf]; omega
              · obtain rfl : q = 2 := by omega
                have HR9 : Hid (RowE w0.heap.size w4 a4 m4 c4 S4 (Z ++ edgesL (xs.take (j + 1)))) := Lib.hid ⟨HR4.out.own, HR4.out.up, by
                  have h := HR4.out.perm
                  rw [HTk.out, ← List.append_assoc, HYe.out]
                  exact h⟩
                go_wp2
                go_roundw
                case rel => exact ⟨j + 1, _, _, _, S4, by omega, by go_num, rfl, HR9.out, HB4.out⟩
                case measure => simp [intOf]; omega
        · obtain rfl : j = nx := by omega
          have hji : ¬ (j : Int) < (j : Int) := by omega
          have HR9 : Hid (RowE w0.heap.size w2 a2 m2 c2' S2 (zE ps qs (k + 1))) := Lib.hid ⟨HR2.out.own, HR2.out.up, by
            have h := HR2.out.perm
            rw [List.take_of_length_le (by rw [HXl.out]; exact Nat.le_refl _)] at h
            exact h.trans HPm.out⟩
          go_wp2
          go_roundw
          case rel => exact ⟨k + 1, _, _, _, S2, by omega, by go_num, rfl, HR9.out, HB2.out⟩
          case measure => simp [intOf]; omega
    · obtain rfl : k = 2 := by omega
      go_wp2
      go_ret
      exact ⟨_, _, _, S, rfl, ⟨HR.out.own.mono HW0.out.1.size, HR.out.up, HR.out.perm⟩, below_sq HW0.out.1 HB.out⟩
end Go.Proofs.Ytkcdcgijbaepmaa
