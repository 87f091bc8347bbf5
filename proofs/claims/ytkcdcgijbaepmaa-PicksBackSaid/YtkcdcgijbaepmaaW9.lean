/-
  The walk of the document's Join.
-/
import Derived.Test.YtkcdcgijbaepmaaW8
import Derived.Test.YtkcdcgijbaepmaaJ2
set_option linter.unusedVariables false
namespace Go.Proofs.Ytkcdcgijbaepmaa
open Go.RowKit

def InsR (w : World) (n : Nat) (ps : List PD) (v i : Value) (wr : World) : Prop :=
  ∃ (k : Nat) (a' : Option Addr) (m c' : Nat) (S : List PD), k ≤ n ∧ i = .int .i64 k ∧ v = .slice a' m c' ∧ OwnP w.heap.size wr a' m c' S ∧ Rising S ∧ S.Perm (liveL (ps.take k)) ∧ Below w.heap.size w wr
def HoleR (w w5 : World) (g m c' : Nat) (S : List PD) (x : PD) (bx : Nat) (i : Value) (wr : World) : Prop :=
  ∃ (k : Nat) (L : List PD), i = .int .i64 k ∧ HoleAt S L x k ∧ OwnP w.heap.size wr (some ⟨g, 0, none⟩) (m + 1) c' L ∧ Below w.heap.size w wr ∧ wr.heap[bx]? = some (.cells #[.int .i64 x.f, .int .i64 x.t] 45 (0, 0))
theorem rows_ne {B m c' bx : Nat} {g : Nat} {w : World} (hb : bx < B) (hg : B ≤ g) : (some g : Option Nat) ≠ some bx := fun e => by simp at e; omega

set_option maxRecDepth 100000 in
set_option maxHeartbeats 4000000 in
theorem rJoin_walk (a : Option Addr) (n c : Nat) (ps : List PD) (w : World) (hn : ps.length = n) (hlt : n ≤ 1048576) (hc : PiecesAt w a ps) :
    Calls Try.prog 25 #[.slice a n c] w fun e w' => ∃ a' m c', e = .returned (.slice a' m c') ∧ OwnP w.heap.size w' a' m c' (joinL ps) ∧ Below w.heap.size w w' := by
  have HN := Lib.hid hn; clear hn
  have HC := Lib.hid hc; clear hc
  go_enter Try.func25, Try.ntmps25
  go_wp2
  go_loopw [3, 4] (InsR w n ps) (fun _ i _ => n - (intOf i).toNat)
  case atStart => exact ⟨0, none, 0, 0, [], Nat.zero_le _, rfl, rfl, OwnP.nil _ _, List.Pairwise.nil, List.Perm.refl _, Below.refl _ _⟩
  case round =>
    obtain ⟨k, a', m, c', S, hk, rfl, rfl, hown, hrise, hperm, hbel⟩ := hrel
    have hSm := hown.len
    have hmk : m ≤ k := by
      have h1 := hperm.length_eq
      have h2 := live_le (ps.take k)
      rw [List.length_take] at h2
      omega
    have HO := Lib.hid hown; clear hown
    have HR := Lib.hid hrise; clear hrise
    have HPm := Lib.hid hperm; clear hperm
    have HB := Lib.hid hbel; clear hbel
    by_cases hkn : k < n
    · have hk1 : k < ps.length := by rw [HN.out]; exact hkn
      obtain ⟨b, o, ha⟩ := HC.out.some (by omega)
      subst ha
      obtain ⟨u0, u1⟩ := (HC.out.below HB.out (Nat.le_refl _)).get k hk1
      have HL := Lib.hid (live_take ps k hk1)
      generalize ps[k] = x at *
      have hki : (k : Int) < (n : Int) := by omega
      have HAL := Lib.hid ((Below.refl wr.heap.size wr).alloc (Nat.le_refl _) (.cells #[.int .i64 x.f, .int .i64 x.t] 45))
      have HBX : Hid ((wr.alloc (.cells #[.int .i64 x.f, .int .i64 x.t] 45)).heap[wr.heap.size]? = some (.cells #[.int .i64 x.f, .int .i64 x.t] 45 (0, 0))) := Lib.hid (heap_alloc_new wr _)
      go_upto_region 6 with (fail)
      generalize hbx : wr.heap.size = bx at *
      rw [← hbx] at HAL
      generalize (wr.alloc (.cells #[.int .i64 x.f, .int .i64 x.t] 45)) = w5 at *
      have HO5 := Lib.hid (HO.out.below HAL.out (Nat.le_refl _))
      have HB5 := Lib.hid (HB.out.trans (HAL.out.mono HB.out.size))
      have d0 : w5.cell? ⟨bx, 0, none⟩ = some (.int .i64 x.f) := by simp [World.cell?, HBX.out]
      have d1 : w5.cell? ⟨bx, 1, none⟩ = some (.int .i64 x.t) := by simp [World.cell?, HBX.out]
      by_cases hdead : x.t ≤ x.f
      · have HP2 : Hid (S.Perm (liveL (ps.take (k + 1)))) := Lib.hid (by rw [HL.out, if_pos hdead, List.append_nil]; exact HPm.out)
        clear hbx
        go_wp2
        go_roundw
        case rel => exact ⟨k + 1, _, _, _, S, by omega, by go_num, rfl, HO5.out, HR.out, HP2.out, HB5.out⟩
        case measure => simp [intOf]; omega
      · have HP2 : Hid ((S ++ [x]).Perm (liveL (ps.take (k + 1)))) := Lib.hid (by rw [HL.out, if_neg hdead]; exact HPm.out.append_right [x])
        have hbxl : bx < w5.heap.size := (Array.getElem?_eq_some_iff.1 HBX.out).1
        go_wp2_with (at_builtin; refine wpList_appN Try.elemPiece rfl (.tmp 27) (.tmp 29) rfl HO5.out HB5.out.size (by omega) (by omega) #[.int .i64 x.f, .int .i64 x.t] rfl (by intro u hu; simp at hu; rcases hu with rfl | rfl <;> rfl) _ rfl rfl ?_)
        intro a9 c9 w9 ho9 hg9 hnb
        have hne9 : ∀ g, a9 = some ⟨g, 0, none⟩ → g ≠ bx := by
          intro g e
          rcases hnb with h | ⟨g', h, hle⟩
          · have h2 : (Value.slice a' m c').ownBlock = some g := by rw [← h, e]; rfl
            have := (World.ownsRow.lt HO.out g h2).2
            omega
          · rw [e] at h
            have : g = g' := by simpa [Value.ownBlock] using h
            omega
        have HN9 : Hid (OwnP w.heap.size w9 a9 (m + 1) c9 (S ++ [x])) := Lib.hid (by unfold OwnP; rw [flatP_push]; exact ho9)
        have HB9 := Lib.hid (HB5.out.trans (HO5.out.app hg9 HB5.out.size))
        have HX9 : Hid (w9.heap[bx]? = some (.cells #[.int .i64 x.f, .int .i64 x.t] 45 (0, 0))) := Lib.hid (by
          rw [hg9.block bx hbxl (fun e => by
            have := (World.ownsRow.lt HO.out bx e.symm).2
            omega)]
          exact HBX.out)
        obtain ⟨g, ha, hg1, hg2, hg3, hg4⟩ := HN9.out.at (by omega)
        have hgb := hne9 g ha
        subst ha
        clear ho9 hg9 hnb hne9 d0 d1 hbx hbxl
        have HSt := Lib.hid (HoleAt.start S x)
        rw [hSm] at HSt
        go_wp2
        go_loopw [6] (HoleR w w9 g m c9 S x bx) (fun i _ => (intOf i).toNat)
        case atStart => exact ⟨m, S ++ [x], rfl, HSt.out, HN9.out, HB9.out, HX9.out⟩
        case round =>
          obtain ⟨j, L, rfl, hhole, hown, hbel, hbox⟩ := hrel
          have hjm : j ≤ m := by have := hhole.le; omega
          have hLm := hown.len
          have HH := Lib.hid hhole; clear hhole
          have HOj := Lib.hid hown; clear hown
          have HBj := Lib.hid hbel; clear hbel
          have HXj := Lib.hid hbox; clear hbox
          have d0 : wr.cell? ⟨bx, 0, none⟩ = some (.int .i64 x.f) := by simp [World.cell?, HXj.out]
          have d1 : wr.cell? ⟨bx, 1, none⟩ = some (.int .i64 x.t) := by simp [World.cell?, HXj.out]
          have HFin := Lib.hid (fun (w' : World) (h : OwnP w.heap.size w' (some ⟨g, 0, none⟩) (m + 1) c9 L) => h.store j (by omega) x)
          have HTh := Lib.hid (fun (w' : World) (h : OwnP w.heap.size w' (some ⟨g, 0, none⟩) (m + 1) c9 L) => h.there j (by omega))
          by_cases hj0 : j = 0
          · subst hj0
            have HD := Lib.hid (HH.out.done HR.out (.inl rfl))
            go_wp2
            go_quiet (fail)
            have HOd := Lib.hid (HOj.out.below (below_drewN (Below.refl wr.heap.size wr) nq) (Nat.le_refl _))
            have HBd := Lib.hid (below_drewN HBj.out nq)
            replace d0 : (wr.drewN nq).cell? _ = _ := d0
            replace d1 : (wr.drewN nq).cell? _ = _ := d1
            generalize wr.drewN nq = w7 at *
            obtain ⟨v0, v1, a0, b0, a1, b1⟩ := there_two (HTh.out w7 HOd.out) (.int .i64 x.f)
            have HOf := Lib.hid (HFin.out w7 HOd.out)
            have HBf := Lib.hid (below_setCells HBd.out g (0 * 2) (cellsP x) hg1)
            go_wp2
            go_roundw
            case rel => exact ⟨k + 1, _, _, _, _, by omega, by go_num, rfl, HOf.out, HD.out.1, HD.out.2.trans HP2.out, HBf.out⟩
            case measure => simp [intOf]; omega
          · obtain ⟨jj, rfl⟩ : ∃ jj, j = jj + 1 := ⟨j - 1, by omega⟩
            obtain ⟨hkS, hkL, hLS⟩ := HH.out.at
            have HStep := Lib.hid (fun (h : x.f < S[jj].f) => HH.out.step S[jj] hkS rfl h)
            have HDn := Lib.hid (fun (h : ¬ x.f < S[jj].f) => HH.out.done HR.out (.inr ⟨hkS, by show S[jj].f ≤ x.f; omega⟩))
            have HSto := Lib.hid (fun (w' : World) (h : OwnP w.heap.size w' (some ⟨g, 0, none⟩) (m + 1) c9 L) => h.store (jj + 1) (by omega) S[jj])
            obtain ⟨g0, g1⟩ := HOj.out.pieces.get jj hkL
            rw [hLS] at g0 g1
            have HG2 := Lib.hid (fun (w' : World) (h : OwnP w.heap.size w' (some ⟨g, 0, none⟩) (m + 1) c9 L) => (show w'.cell? ⟨g, 0 + jj * 2, none⟩ = some (.int .i64 S[jj].f) ∧ w'.cell? ⟨g, 0 + jj * 2 + 1, none⟩ = some (.int .i64 S[jj].t) by
              have := h.pieces.get jj hkL
              rwa [hLS] at this))
            clear hLS
            generalize S[jj] = y at *
            simp only [Nat.zero_add] at g0 g1
            have hj1 : decide (0 < jj + 1) = true := by simp
            have hji : (jj : Int) < (m : Int) + 1 := by omega
            have hjn : (jj : Int) + 1 ≤ (n : Int) := by omega
            have hjm1 : (jj : Int) + 1 < (m : Int) + 1 := by omega
            by_cases hy : x.f < y.f
            · have HS2 := Lib.hid (HStep.out hy)
              have hd : decide (x.f < y.f) = true := decide_eq_true hy
              clear HStep HDn hkS hkL
              go_wp2
              go_quiet (fail)
              have HOd := Lib.hid (HOj.out.below (below_drewN (Below.refl wr.heap.size wr) nq) (Nat.le_refl _))
              have HBd := Lib.hid (below_drewN HBj.out nq)
              have HXd : Hid ((wr.drewN nq).heap[bx]? = some (.cells #[.int .i64 x.f, .int .i64 x.t] 45 (0, 0))) := Lib.hid HXj.out
              clear g0 g1 d0 d1
              generalize wr.drewN nq = w7 at *
              obtain ⟨g0, g1⟩ := HG2.out w7 HOd.out
              simp only [Nat.zero_add] at g0 g1
              obtain ⟨v0, v1, a0, b0, a1, b1⟩ := there_two (HTh.out w7 HOd.out) (.int .i64 y.f)
              have HO8 := Lib.hid (HSto.out w7 HOd.out)
              have HB8 := Lib.hid (below_setCells HBd.out g ((jj + 1) * 2) (cellsP y) hg1)
              have HX8 : Hid ((w7.setCells g ((jj + 1) * 2) (cellsP y)).heap[bx]? = some (.cells #[.int .i64 x.f, .int .i64 x.t] 45 (0, 0))) := Lib.hid (by
                rw [(grown_storeN g (cellsP y) ((jj + 1) * 2) w7).block bx (Array.getElem?_eq_some_iff.1 HXd.out).1 (fun e => hgb (by cases e; rfl))]
                exact HXd.out)
              go_wp2
              go_roundw
              case rel => exact ⟨jj, _, rfl, HS2.out, HO8.out, HB8.out, HX8.out⟩
              case measure => simp [intOf]
            · have HD := Lib.hid (HDn.out hy)
              have hd : decide (x.f < y.f) = false := decide_eq_false hy
              clear HStep HDn hkS hkL
              go_wp2
              go_quiet (fail)
              have HOd := Lib.hid (HOj.out.below (below_drewN (Below.refl wr.heap.size wr) nq) (Nat.le_refl _))
              have HBd := Lib.hid (below_drewN HBj.out nq)
              replace d0 : (wr.drewN nq).cell? _ = _ := d0
              replace d1 : (wr.drewN nq).cell? _ = _ := d1
              clear g0 g1
              generalize wr.drewN nq = w7 at *
              obtain ⟨v0, v1, a0, b0, a1, b1⟩ := there_two (HTh.out w7 HOd.out) (.int .i64 x.f)
              have HOf := Lib.hid (HFin.out w7 HOd.out)
              have HBf := Lib.hid (below_setCells HBd.out g ((jj + 1) * 2) (cellsP x) hg1)
              go_wp2
              go_roundw
              case rel => exact ⟨k + 1, _, _, _, _, by omega, by go_num, rfl, HOf.out, HD.out.1, HD.out.2.trans HP2.out, HBf.out⟩
              case measure => simp [intOf]; omega
    · obtain rfl : n = k := by omega
      obtain ⟨w3, rfl⟩ : ∃ w3 : World, w3 = wr := ⟨_, rfl⟩
      have HJ : Hid (mergeL S = joinL ps) := Lib.hid (join_only ps S (by have := HPm.out; rwa [List.take_of_length_le (by rw [HN.out]; exact Nat.le_refl _)] at this) HR.out)
      have HQ := Lib.hid HO.out.pieces
      have HSl := Lib.hid hSm
      go_wp2
      go_loopw [7, 8] (RjR w3 m S) (fun _ i _ => m - (intOf i).toNat)
      case atStart => exact ⟨0, none, 0, 0, Nat.zero_le _, rfl, rfl, OwnP.nil _ _, Below.refl _ _⟩
      case round =>
        obtain ⟨j, a2, m2, c2, hj, rfl, rfl, hown, hbel⟩ := hrel
        have hm2 := hown.len
        have hml := mergeL_length (S.take j)
        rw [List.length_take] at hml
        have HO2 := Lib.hid hown; clear hown
        have HB2 := Lib.hid hbel; clear hbel
        by_cases hjk : j < m
        · have hjq : j < S.length := by rw [HSl.out]; exact hjk
          obtain ⟨b, o, ha⟩ := HQ.out.some (by omega)
          subst ha
          obtain ⟨d0, d1⟩ := (HQ.out.below HB2.out (Nat.le_refl _)).get j hjq
          have HP := Lib.hid (mergeL_take S j hjq)
          generalize S[j] = p at *
          generalize mergeL (S.take j) = L at *
          clear hjq
          have hji : (j : Int) < (m : Int) := by omega
          have hmk2 : m2 ≤ 1048576 := by omega
          by_cases hm0 : m2 = 0
          · subst hm0
            have hL : L = [] := List.length_eq_zero_iff.1 hm2
            subst hL
            have HE : Hid (flatP (mergeL (S.take (j + 1))) = flatP [] ++ [.int .i64 p.f, .int .i64 p.t]) := Lib.hid (by rw [HP.out]; rfl)
            clear HP
            go_wp2
            go_quiet (fail)
            have HO6 := Lib.hid (HO2.out.below (below_drewN (Below.refl wr.heap.size wr) nq) (Nat.le_refl _))
            have HB6 := Lib.hid (below_drewN HB2.out nq)
            replace d0 : (wr.drewN nq).cell? _ = _ := d0
            replace d1 : (wr.drewN nq).cell? _ = _ := d1
            generalize wr.drewN nq = w6 at *
            go_wp2_with (at_builtin; refine wpList_appN Try.elemPiece rfl (.tmp 99) (.tmp 104) rfl HO6.out HB6.out.size (by omega) (by omega) #[.int .i64 p.f, .int .i64 p.t] rfl (by intro u hu; simp at hu; rcases hu with rfl | rfl <;> rfl) _ rfl rfl ?_)
            intro a9 c9 w9 ho9 hg9 _
            have HN9 : Hid (OwnP w3.heap.size w9 a9 (0 + 1) c9 (mergeL (S.take (j + 1)))) := Lib.hid (by unfold OwnP; rw [HE.out]; exact ho9)
            have HB9 := Lib.hid (HB6.out.trans (HO6.out.app hg9 HB6.out.size))
            clear ho9 hg9
            go_wp2
            go_roundw
            case rel => exact ⟨j + 1, _, _, _, by omega, by go_num, rfl, HN9.out, HB9.out⟩
            case measure => simp [intOf]; omega
          · obtain ⟨init, q, rfl⟩ : ∃ init q, L = init ++ [q] := by
              rcases List.eq_nil_or_concat L with h | ⟨init, q, h⟩
              · rw [h] at hm2; simp at hm2; omega
              · exact ⟨init, q, by rw [h, List.concat_eq_append]⟩
            obtain ⟨mm, rfl⟩ : ∃ mm, m2 = mm + 1 := ⟨m2 - 1, by omega⟩
            have hmi : init.length = mm := by simpa using hm2
            obtain ⟨g, ha, hg1, hg2, hg3, hg4⟩ := HO2.out.at (by omega)
            subst ha
            have hget := HO2.out.pieces.get mm (by simp; omega)
            rw [show (init ++ [q])[mm]'(by simp; omega) = q by rw [List.getElem_append_right (by omega)]; simp [hmi]] at hget
            obtain ⟨g0, g1⟩ := hget
            simp only [Nat.zero_add] at g0 g1
            have hmm1 : (mm : Int) < (mm : Int) + 1 := by omega
            have hmm2 : (mm : Int) + 1 ≤ (m : Int) := by
              have : (init ++ [q]).length ≤ min j S.length := hml
              simp at this
              omega
            have hd : decide (0 < mm + 1) = true := by simp
            have hm9 : mm + 1 ≤ 1048576 := hmk2
            clear hm2 hml hm0
            by_cases hin : p.f ≤ q.t
            · have HE : Hid (mergeL (S.take (j + 1)) = init ++ [⟨q.f, max q.t p.t⟩]) := Lib.hid (by rw [HP.out, mergeStep_in init q p hin])
              have hdk : decide (p.f ≤ q.t) = true := decide_eq_true hin
              clear HP
              go_wp2
              go_quiet (fail)
              have HO6 := Lib.hid (HO2.out.below (below_drewN (Below.refl wr.heap.size wr) nq) (Nat.le_refl _))
              have HB6 := Lib.hid (below_drewN HB2.out nq)
              replace d0 : (wr.drewN nq).cell? _ = _ := d0
              replace d1 : (wr.drewN nq).cell? _ = _ := d1
              replace g0 : (wr.drewN nq).cell? _ = _ := g0
              replace g1 : (wr.drewN nq).cell? _ = _ := g1
              generalize wr.drewN nq = w6 at *
              have fz : w6.frozen? ⟨g, mm * 2 + 1, none⟩ = false := World.ownsRow.frozenAt HO6.out _
              have HOs : Hid (OwnP w3.heap.size (w6.drew.setCell ⟨g, mm * 2 + 1, none⟩ (.int .i64 (max q.t p.t))) (some ⟨g, 0, none⟩) (mm + 1) c2 (mergeL (S.take (j + 1)))) := by
                refine Lib.hid ?_
                have h1 := (World.ownsRow.stored (World.ownsRow.drew HO6.out) (mm * 2 + 1) (.int .i64 (max q.t p.t))).1
                rw [← hmi, flatP_set init q (max q.t p.t)] at h1
                rw [HE.out, ← hmi]
                exact h1
              have HBs : Hid (Below w3.heap.size w3 (w6.drew.setCell ⟨g, mm * 2 + 1, none⟩ (.int .i64 (max q.t p.t)))) := Lib.hid ((below_drewN HB6.out 1).setCell hg1 _)
              clear hmi
              have hwm : IntKind.i64.wrap (mm : Int) = (mm : Int) := IntWalk.i64_in _ (by omega)
              go_wp2
              refine wp_region_still_tail 17 (by kernel_rfl) (by kernel_rfl) ?_
              simp only [List.take_succ_cons, List.take_zero, List.drop_succ_cons, List.drop_zero]
              change wpStill _ _ (World.drew _) (fun a' => wpList _ _ _ _ a' (World.drew _)) _ _
              repeat still_step
              refine wpStill_nil ?_
              go_wp2
              go_roundw
              case rel => exact ⟨j + 1, _, _, _, by omega, by go_num, rfl, HOs.out, HBs.out⟩
              case measure => simp [intOf]; omega
            · have HE : Hid (flatP (mergeL (S.take (j + 1))) = flatP (init ++ [q]) ++ [.int .i64 p.f, .int .i64 p.t]) := Lib.hid (by rw [HP.out, mergeStep_new init q p hin, flatP_push])
              have hdk : decide (p.f ≤ q.t) = false := decide_eq_false hin
              clear HP
              go_wp2
              go_quiet (fail)
              have HO6 := Lib.hid (HO2.out.below (below_drewN (Below.refl wr.heap.size wr) nq) (Nat.le_refl _))
              have HB6 := Lib.hid (below_drewN HB2.out nq)
              replace d0 : (wr.drewN nq).cell? _ = _ := d0
              replace d1 : (wr.drewN nq).cell? _ = _ := d1
              generalize wr.drewN nq = w6 at *
              go_wp2_with (at_builtin; refine wpList_appN Try.elemPiece rfl (.tmp 99) (.tmp 104) rfl HO6.out HB6.out.size (by omega) (by omega) #[.int .i64 p.f, .int .i64 p.t] rfl (by intro u hu; simp at hu; rcases hu with rfl | rfl <;> rfl) _ rfl rfl ?_)
              intro a9 c9 w9 ho9 hg9 _
              have HN9 : Hid (OwnP w3.heap.size w9 a9 (mm + 1 + 1) c9 (mergeL (S.take (j + 1)))) := Lib.hid (by unfold OwnP; rw [HE.out]; exact ho9)
              have HB9 := Lib.hid (HB6.out.trans (HO6.out.app hg9 HB6.out.size))
              clear ho9 hg9
              go_wp2
              go_roundw
              case rel => exact ⟨j + 1, _, _, _, by omega, by go_num, rfl, HN9.out, HB9.out⟩
              case measure => simp [intOf]; omega
        · obtain rfl : m = j := by omega
          have HRes : Hid (OwnP w.heap.size wr a2 m2 c2 (joinL ps)) := Lib.hid (by
            have := HO2.out
            rw [List.take_of_length_le (by rw [HSl.out]; exact Nat.le_refl _), HJ.out] at this
            exact this.mono HB.out.size)
          have HEnd := Lib.hid (below_sq HB.out HB2.out)
          go_wp2
          go_ret
          exact ⟨_, _, _, rfl, HRes.out, HEnd.out⟩
end Go.Proofs.Ytkcdcgijbaepmaa
