/-
  The walk of CaretsLeads.
-/
import Derived.Test.YtnnfhldfdiaddaaH1
import Derived.Test.YtnnfhldfdiaddaaQ1
set_option linter.unusedVariables false
namespace Go.Proofs.Ytnnfhldfdiaddaa
open Go.RowKit

def LeadsA (m : Nat) (w2 : World) (v : Value) (wr : World) : Prop := ∃ i : Nat, i ≤ m + 1 ∧ v = .int .i64 i ∧ Below w2.heap.size w2 wr
def LeadsB (w3 : World) (v : Value) (wr : World) : Prop := ∃ k : Nat, k ≤ 2 ∧ v = .int .i64 k ∧ Below w3.heap.size w3 wr ∧ wr.heap[w3.heap.size]? = some (.cells #[.int .u8 1, .int .u8 2] 33 (0, 0))
theorem caretP_range {base : Int} {lv : List Int} {a : Nat} {s t : Int} (hb : base = 0 ∨ base = 1) (h : CaretP base lv a s t) : (0 ≤ s ∧ s ≤ (ord lv).length) ∧ 0 ≤ t ∧ t ≤ (ord lv).length := by
  obtain ⟨p, l, q, l2, h1, h2, ⟨_, rfl, rfl⟩ | ⟨_, rfl, rfl⟩⟩ := h
  · exact ⟨h2.range hb, h1.range hb⟩
  · exact ⟨h1.range hb, h2.range hb⟩
def LeadsC (n : Nat) (w3 : World) (v : Value) (wr : World) : Prop := ∃ p : Nat, p ≤ n + 1 ∧ v = .int .i64 p ∧ Below w3.heap.size w3 wr
def LeadsD (base : Int) (lv : List Int) (p : Nat) (s t : Int) (w5 : World) (u v : Value) (wr : World) : Prop := ∃ (k : Nat) (b : Bool), k ≤ 4 ∧ u = .bool b ∧ v = .int .i64 k ∧ (∀ j, j < k → GoneB lv (placeAt base lv (tryP s t j).toNat (tryE j)).toNat p → b = true) ∧ Below w5.heap.size w5 wr ∧ wr.heap[w5.heap.size + 1]? = some (.cells #[.int .i64 s, .int .i64 s, .int .i64 t, .int .i64 t] 3 (0, 0)) ∧ wr.heap[w5.heap.size + 1 + 1]? = some (.cells #[.int .u8 1, .int .u8 2, .int .u8 1, .int .u8 2] 33 (0, 0))
def LeadsE (lv : List Int) (lo hi : Nat) (w6 : World) (u v : Value) (wr : World) : Prop := ∃ (i : Nat) (b : Bool), lo ≤ i ∧ i ≤ hi ∧ u = .bool b ∧ v = .int .i64 i ∧ ((∀ j, lo ≤ j → j < i → lv.getD j 0 = -1) → b = true) ∧ Below w6.heap.size w6 wr

set_option maxRecDepth 100000 in
set_option maxHeartbeats 4000000 in
theorem leads_walk (w : World) (base : Int) (a : Option Addr) (n cap : Nat) (a1 : Option Addr) (n1 cap1 : Nat) (a2 : Option Addr) (n2 cap2 : Nat) (lv ws : List Int) (h : InOk w base a n cap a1 n1 cap1 lv ws) :
    Calls Try.prog 3 #[.agg #[.int .i8 base, .slice a n cap, .slice a1 n1 cap1, .slice a2 n2 cap2]] w fun e w' => e = .returned (.bool true) ∧ Below w.heap.size w w' := by
  have hw0 : Below w.heap.size w (w.alloc (.cells #[.int .i8 base, .slice a n cap, .slice a1 n1 cap1, .slice a2 n2 cap2] 28)) := (Below.refl _ w).alloc (Nat.le_refl _) _
  have HW0 := Lib.hid hw0; clear hw0
  have HH := Lib.hid (h.below HW0.out (Nat.le_refl _)); clear h
  have HB0 := Lib.hid (InBox.new w base a n cap a1 n1 cap1 a2 n2 cap2)
  go_enter Try.func3, Try.ntmps3
  go_wp2_with fail
  refine (of_walk _ base a n cap a1 n1 cap1 a2 n2 cap2 lv ws HH.out).mono ?_
  rintro e w1 (⟨rfl, hb⟩ | ⟨g, hL, hn3, rfl, hline, hg, hb⟩)
  · have HB1 := Lib.hid (below_seq HW0.out hb); clear hb
    go_wp2_with fail
    refine (lives_walk _).mono ?_
    rintro e w2 ⟨rfl, hb2⟩
    go_wp2
    go_ret
    exact ⟨rfl, below_seq HB1.out hb2⟩
  · have HLO := Lib.hid hL; clear hL
    have HBX := Lib.hid (HB0.out.below hb (Nat.le_refl _))
    have HI1 := Lib.hid (HH.out.below hb (Nat.le_refl _))
    have HB1 := Lib.hid (below_seq HW0.out hb); clear hb hg
    have HL1 := Lib.hid hline; clear hline
    go_wp2_with fail
    refine (lives_walk _).mono ?_
    rintro e w2 ⟨rfl, hb2⟩
    have HBX2 := Lib.hid (HBX.out.below hb2 (Nat.le_refl _))
    have HI2 := Lib.hid (HI1.out.below hb2 (Nat.le_refl _))
    have HL2 := Lib.hid (HL1.out.below hb2 (Nat.le_refl _))
    have HB2 := Lib.hid (below_seq HB1.out hb2); clear hb2
    clear HB0 HBX HI1 HL1 HB1
    have hnn3 : n ≤ 3000 := by rw [← HI2.out.hl]; exact hn3
    clear hn3
    have HSh := Lib.hid (fun (w' : World) (hb : Below w2.heap.size w2 w') => Shown_walk g base lv ws w' (HL2.out.below hb (Nat.le_refl _)))
    obtain ⟨m, hm⟩ : ∃ m, (ord lv).length = m := ⟨_, rfl⟩
    rw [hm] at HSh
    have hmn : m ≤ n := by have := ord_le lv; have := HI2.out.hl; omega
    have HM := Lib.hid hm; clear hm
    have H01 := Lib.hid HLO.out.h01
    have HBk := Lib.hid (fun v hv left s t => leads_back (base := base) (lv := lv) H01.out v hv left (s := s) (t := t))
    have HTh := Lib.hid (fun a hat s t => leads_there (base := base) (lv := lv) H01.out a hat (s := s) (t := t))
    have HBd := Lib.hid (fun v hv left => placeAt_bd (base := base) (lv := lv) H01.out v hv left)
    go_wp2
    go_loopw [4] (LeadsA m w2) (fun v _ => m + 1 - (intOf v).toNat)
    case atStart => exact ⟨0, Nat.zero_le _, rfl, Below.refl _ _⟩
    case round =>
      obtain ⟨v, hv, rfl, hbel⟩ := hrel
      have HB3 := Lib.hid hbel; clear hbel
      obtain ⟨w3, rfl⟩ : ∃ w3 : World, w3 = wr := ⟨_, rfl⟩
      go_wp2_with fail
      refine (HSh.out _ HB3.out).mono ?_
      rintro e w' ⟨rfl, rfl⟩
      by_cases hvm : v ≤ m
      · go_wp2
        go_loopw [6] (LeadsB w3) (fun k _ => 2 - (intOf k).toNat)
        case atStart => exact ⟨0, by omega, rfl, by go_grown, heap_alloc_new w3 _⟩
        case round =>
          obtain ⟨k, hk, rfl, hbel, hblk⟩ := hrel
          have HB4 := Lib.hid (HB3.out.trans (hbel.mono HB3.out.size))
          have HB34 := Lib.hid hbel; clear hbel
          by_cases hk2 : k < 2
          · obtain ⟨ed, hed, hcell⟩ : ∃ ed : Nat, (ed = 1 ∨ ed = 2) ∧ wr.cell? ⟨w3.heap.size, k, none⟩ = some (.int .u8 (ed : Nat)) := by
              have hc : k = 0 ∨ k = 1 := by omega
              rcases hc with rfl | rfl
              · exact ⟨1, .inl rfl, by rw [cell_of_row wr w3.heap.size 0 _ _ (0, 0) hblk]; rfl⟩
              · exact ⟨2, .inr rfl, by rw [cell_of_row wr w3.heap.size 1 _ _ (0, 0) hblk]; rfl⟩
            have hblt : w3.heap.size < wr.heap.size := (Array.getElem?_eq_some_iff.1 hblk).1
            have HBL := Lib.hid hblk; clear hblk
            have hvo : v ≤ (ord lv).length := by rw [HM.out]; exact hvm
            obtain ⟨pn, hpn, hpl⟩ : ∃ pn : Nat, placeAt base lv v (decide (ed = 1)) = (pn : Int) ∧ pn ≤ lv.length := by
              have := HBd.out v hvo (decide (ed = 1))
              exact ⟨(placeAt base lv v (decide (ed = 1))).toNat, by omega, by omega⟩
            have HP := Lib.hid (Place_any g base lv ws wr v ed (HL2.out.below HB4.out (Nat.le_refl _)) hvo hed)
            rw [hpn] at HP
            have hback := HBk.out v hvo (decide (ed = 1))
            rw [hpn, Int.toNat_natCast] at hback
            have HBa := Lib.hid hback; clear hback
            have HPL := Lib.hid hpl; clear hpl hvo hed hpn
            go_wp2_with fail
            refine HP.out.mono ?_
            rintro e w' ⟨rfl, rfl⟩
            go_wp2_with fail
            refine (Caret_walk g base lv ws _ pn (HL2.out.below HB4.out (Nat.le_refl _)) HPL.out).mono ?_
            rintro e w5 ⟨s, t, rfl, hcp, hb5⟩
            have hst := HBa.out s t hcp
            unfold caretV
            generalize colAt ws (ord lv) _ = x1
            generalize colAt ws (ord lv) _ = x2
            generalize (s != t) = b1
            have hbl5 : w5.heap[w3.heap.size]? = some (.cells #[.int .u8 1, .int .u8 2] 33 (0, 0)) := by rw [hb5.block _ hblt]; exact HBL.out
            have HBL5 := Lib.hid (show ∀ o : Obj, (w5.alloc o).heap[w3.heap.size]? = some (.cells #[.int .u8 1, .int .u8 2] 33 (0, 0)) from fun o => (Below.heap_alloc w5 o _ (Array.getElem?_eq_some_iff.1 hbl5).1).trans hbl5)
            have HB35 := Lib.hid (HB34.out.trans (hb5.mono HB34.out.size))
            clear hb5 hbl5 hcp
            have hst2 : ((s != (v : Int)) = false) ∨ ((s != (v : Int)) = true ∧ (t != (v : Int)) = false) := by
              by_cases e : s = v
              · exact .inl (by simp [e])
              · rcases hst with h | h
                · exact absurd h e
                · exact .inr ⟨by simp [e], by simp [h]⟩
            clear hst
            rcases hst2 with h1 | ⟨h1, h2⟩
            all_goals
              go_wp2
              go_roundw
              case rel => exact ⟨k + 1, by omega, by go_num, HB35.out.alloc HB35.out.size _, HBL5.out _⟩
              case measure => simp [intOf]; omega
          · go_wp2
            go_roundw
            case rel => exact ⟨v + 1, by omega, by go_num, HB4.out⟩
            case measure => simp [intOf]; omega
      · go_wp2
        go_loopw [11] (LeadsC n w3) (fun v _ => n + 1 - (intOf v).toNat)
        case atStart => exact ⟨0, Nat.zero_le _, rfl, Below.refl _ _⟩
        case round =>
          obtain ⟨p, hp, rfl, hbel⟩ := hrel
          have HB4 := Lib.hid (HB3.out.trans (hbel.mono HB3.out.size))
          have HB34 := Lib.hid hbel; clear hbel
          have HX := Lib.hid (HBX2.out.below HB4.out (Nat.le_refl _))
          have c1 := HX.out.r1
          have hgx := HX.out.lt
          by_cases hpn : p ≤ n
          · have hpl : p ≤ lv.length := by rw [HI2.out.hl]; exact hpn
            have HTp := Lib.hid (fun s t => HTh.out p hpl s t)
            go_wp2_with fail
            refine (Caret_walk g base lv ws _ p (HL2.out.below HB4.out (Nat.le_refl _)) hpl).mono ?_
            rintro e w5 ⟨s, t, rfl, hcp, hb5⟩
            have hex := HTp.out s t hcp
            have HEx := Lib.hid hex; clear hex
            have HRng := Lib.hid (caretP_range H01.out hcp); clear hcp
            unfold caretV
            generalize colAt ws (ord lv) _ = x1
            generalize colAt ws (ord lv) _ = x2
            generalize hb1 : (s != t) = b1
            have hbb : (b1 != b1) = false := by simp
            have HB5 := Lib.hid (below_seq HB4.out hb5)
            have HB35 := Lib.hid (below_seq HB34.out hb5); clear hb5
            have HbA : Hid (∀ o1 o2 o3, (((w5.alloc o1).alloc o2).alloc o3).heap[w5.heap.size + 1]? = some o2) := Lib.hid (fun o1 o2 o3 => by
              have h := heap_alloc_new (w5.alloc o1) o2
              rw [show (w5.alloc o1).heap.size = w5.heap.size + 1 by simp] at h
              exact (Below.heap_alloc _ o3 _ (Array.getElem?_eq_some_iff.1 h).1).trans h)
            have HbB : Hid (∀ o1 o2 o3, (((w5.alloc o1).alloc o2).alloc o3).heap[w5.heap.size + 1 + 1]? = some o3) := Lib.hid (fun o1 o2 o3 => by
              have h := heap_alloc_new ((w5.alloc o1).alloc o2) o3
              rw [show ((w5.alloc o1).alloc o2).heap.size = w5.heap.size + 1 + 1 by simp] at h
              exact h)
            go_wp2
            go_loopw [14, 17] (LeadsD base lv p s t w5) (fun _ k _ => 4 - (intOf k).toNat)
            case atStart => exact ⟨0, false, by omega, rfl, rfl, by intro j hj; omega, ((Below.refl _ w5).alloc (Nat.le_refl _) _ |>.alloc (by simp) _ |>.alloc (by simp; omega) _), HbA.out _ _ _, HbB.out _ _ _⟩
            case round =>
              obtain ⟨k, b, hk, rfl, rfl, hok, hbel, hblk1, hblk2⟩ := hrel
              have HOk := Lib.hid hok; clear hok
              have HB6 := Lib.hid (below_seq HB5.out hbel)
              have HB36 := Lib.hid (below_seq HB35.out hbel)
              have HB56 := Lib.hid hbel; clear hbel
              by_cases hk4 : k < 4
              · have cs : wr.cell? ⟨w5.heap.size + 1, k, none⟩ = some (.int .i64 (tryP s t k)) := by
                  have hc : k = 0 ∨ k = 1 ∨ k = 2 ∨ k = 3 := by omega
                  rcases hc with rfl | rfl | rfl | rfl
                  · rw [cell_of_row wr _ 0 _ _ (0, 0) hblk1]; rfl
                  · rw [cell_of_row wr _ 1 _ _ (0, 0) hblk1]; rfl
                  · rw [cell_of_row wr _ 2 _ _ (0, 0) hblk1]; rfl
                  · rw [cell_of_row wr _ 3 _ _ (0, 0) hblk1]; rfl
                obtain ⟨ed, hed, hed2, ce⟩ : ∃ ed : Nat, (ed = 1 ∨ ed = 2) ∧ decide (ed = 1) = tryE k ∧ wr.cell? ⟨w5.heap.size + 1 + 1, k, none⟩ = some (.int .u8 (ed : Nat)) := by
                  have hc : k = 0 ∨ k = 1 ∨ k = 2 ∨ k = 3 := by omega
                  rcases hc with rfl | rfl | rfl | rfl
                  · exact ⟨1, .inl rfl, rfl, by rw [cell_of_row wr _ 0 _ _ (0, 0) hblk2]; rfl⟩
                  · exact ⟨2, .inr rfl, rfl, by rw [cell_of_row wr _ 1 _ _ (0, 0) hblk2]; rfl⟩
                  · exact ⟨1, .inl rfl, rfl, by rw [cell_of_row wr _ 2 _ _ (0, 0) hblk2]; rfl⟩
                  · exact ⟨2, .inr rfl, rfl, by rw [cell_of_row wr _ 3 _ _ (0, 0) hblk2]; rfl⟩
                have HK1 := Lib.hid hblk1; clear hblk1
                have HK2 := Lib.hid hblk2; clear hblk2
                obtain ⟨vp, hvp, hvp2⟩ : ∃ vp : Nat, tryP s t k = (vp : Int) ∧ vp ≤ (ord lv).length := by
                  have hr := HRng.out
                  unfold tryP
                  split
                  · exact ⟨s.toNat, by omega, by omega⟩
                  · exact ⟨t.toNat, by omega, by omega⟩
                rw [hvp] at cs
                obtain ⟨pn, hpe, hpl2⟩ : ∃ pn : Nat, placeAt base lv vp (decide (ed = 1)) = (pn : Int) ∧ pn ≤ lv.length := by
                  have := HBd.out vp hvp2 (decide (ed = 1))
                  exact ⟨(placeAt base lv vp (decide (ed = 1))).toNat, by omega, by omega⟩
                have HF : Hid ((placeAt base lv (tryP s t k).toNat (tryE k)).toNat = pn) := Lib.hid (by rw [hvp, ← hed2, Int.toNat_natCast, hpe, Int.toNat_natCast])
                have HPl : Hid (∀ d, Calls Try.prog 14 #[.pointer (some ⟨g, 0, none⟩), .int .i64 vp, .int .u8 ed] (wr.drewN d) fun e w' => e = .returned (.tuple #[.int .i64 (pn : Nat), .int .i64 0]) ∧ w' = wr.drewN d) := Lib.hid (fun d => by
                  have := Place_any g base lv ws (wr.drewN d) vp ed (HL2.out.below (below_drewN HB6.out d) (Nat.le_refl _)) hvp2 hed
                  rw [hpe] at this
                  exact this.mono (fun e w' h => ⟨h.1, h.2.symm⟩))
                clear hed2 hvp hpe
                have hkb : (k : Int) < 4 := by omega
                have hk1 : w5.heap.size + 1 < wr.heap.size := (Array.getElem?_eq_some_iff.1 HK1.out).1
                have hk2 : w5.heap.size + 1 + 1 < wr.heap.size := (Array.getElem?_eq_some_iff.1 HK2.out).1
                go_wp2
                go_quiet ((first | (go_at_call 14; exact Calls.quiet_of_same (HPl.out _))))
                obtain ⟨w6, hw6⟩ : ∃ w6, w6 = wr.drewN nq := ⟨_, rfl⟩
                rw [← hw6]
                have hb6 : Below wr.heap.size wr w6 := by rw [hw6]; exact below_drewN (Below.refl _ _) _
                have HK16 : Hid (w6.heap[w5.heap.size + 1]? = some (.cells #[.int .i64 s, .int .i64 s, .int .i64 t, .int .i64 t] 3 (0, 0))) := Lib.hid (by rw [hb6.block _ hk1]; exact HK1.out)
                have HK26 : Hid (w6.heap[w5.heap.size + 1 + 1]? = some (.cells #[.int .u8 1, .int .u8 2, .int .u8 1, .int .u8 2] 33 (0, 0))) := Lib.hid (by rw [hb6.block _ hk2]; exact HK2.out)
                have HB66 := Lib.hid (below_seq HB6.out hb6)
                have HB566 := Lib.hid (below_seq HB56.out hb6)
                have hs61 : w5.heap.size + 1 < w6.heap.size := by have := hb6.size; omega
                have hs62 : w5.heap.size + 1 + 1 < w6.heap.size := by have := hb6.size; omega
                clear hb6 hw6 HK1 HK2 HB56 HB6 HB36 hk1 hk2 cs ce
                have HX6 := Lib.hid (HBX2.out.below HB66.out (Nat.le_refl _))
                have c6 := HX6.out.r1
                have hpn2 : pn ≤ n := by rw [← HI2.out.hl]; exact hpl2
                have hpnb : (pn : Int) ≤ (n : Int) := by omega
                by_cases hpp : pn ≤ p
                · have hppb : (pn : Int) ≤ (p : Int) := by omega
                  go_wp2
                  go_loopw [20, 21] (LeadsE lv pn p w6) (fun _ k _ => p - (intOf k).toNat)
                  case atStart => exact ⟨pn, true, by omega, by omega, rfl, rfl, by intro _; rfl, Below.refl _ _⟩
                  case round =>
                    obtain ⟨i, b2, hi0, hi1, rfl, rfl, hgn, hbel⟩ := hrel
                    have HGn := Lib.hid hgn; clear hgn
                    have HB7 := Lib.hid (below_seq HB66.out hbel)
                    have HB57 := Lib.hid (below_seq HB566.out hbel)
                    have HK17 := Lib.hid ((hbel.block _ hs61).trans HK16.out)
                    have HK27 := Lib.hid ((hbel.block _ hs62).trans HK26.out)
                    have HB67 := Lib.hid hbel; clear hbel
                    have HX7 := Lib.hid (HBX2.out.below HB7.out (Nat.le_refl _))
                    have c7 := HX7.out.r1
                    by_cases hih : i < p
                    · have hil : i < lv.length := by rw [HI2.out.hl]; omega
                      obtain ⟨bL, oL, ha⟩ := HI2.out.il.some (by omega)
                      subst ha
                      have cL := (HI2.out.il.below HB7.out (Nat.le_refl _)).get i hil
                      have hin : (i : Int) < (n : Int) := by omega
                      have hihb : (i : Int) < (p : Int) := by omega
                      cases b2 with
                      | false =>
                        go_wp2
                        go_roundw
                        case rel => exact ⟨i + 1, false, by omega, by omega, rfl, by go_num, fun h => HGn.out (fun j h1 h2 => h j h1 (by omega)), HB67.out⟩
                        case measure => simp [intOf]; omega
                      | true =>
                        by_cases he : lv[i] = -1
                        · rw [he] at cL
                          go_wp2
                          go_roundw
                          case rel => exact ⟨i + 1, true, by omega, by omega, rfl, by go_num, fun _ => rfl, HB67.out⟩
                          case measure => simp [intOf]; omega
                        · have HNe : Hid ((∀ j, pn ≤ j → j < i + 1 → lv.getD j 0 = -1) → false = true) := Lib.hid (fun h => by
                            have := h i (by omega) (by omega)
                            rw [List.getD_eq_getElem?_getD, List.getElem?_eq_getElem hil, Option.getD_some] at this
                            exact absurd this he)
                          generalize lv[i] = y at *
                          go_wp2
                          go_roundw
                          case rel => exact ⟨i + 1, false, by omega, by omega, by simp [he], by go_num, HNe.out, HB67.out⟩
                          case measure => simp [intOf]; omega
                    · have HNew : Hid (∀ j, j < k + 1 → GoneB lv (placeAt base lv (tryP s t j).toNat (tryE j)).toNat p → (b || b2) = true) := Lib.hid (fun j hj hg => by
                        by_cases hjk : j < k
                        · rw [HOk.out j hjk hg]; rfl
                        · obtain rfl : j = k := by omega
                          rw [HF.out] at hg
                          rw [HGn.out (fun j h1 h2 => hg j (by omega) (by omega))]
                          simp)
                      cases b <;> cases b2
                      all_goals
                        go_wp2
                        go_roundw
                        case rel => exact ⟨k + 1, _, by omega, rfl, by go_num, HNew.out, HB57.out, HK17.out, HK27.out⟩
                        case measure => simp [intOf]; omega
                · have hppb : (p : Int) < (pn : Int) := by omega
                  go_wp2
                  go_loopw [20, 21] (LeadsE lv p pn w6) (fun _ k _ => pn - (intOf k).toNat)
                  case atStart => exact ⟨p, true, by omega, by omega, rfl, rfl, by intro _; rfl, Below.refl _ _⟩
                  case round =>
                    obtain ⟨i, b2, hi0, hi1, rfl, rfl, hgn, hbel⟩ := hrel
                    have HGn := Lib.hid hgn; clear hgn
                    have HB7 := Lib.hid (below_seq HB66.out hbel)
                    have HB57 := Lib.hid (below_seq HB566.out hbel)
                    have HK17 := Lib.hid ((hbel.block _ hs61).trans HK16.out)
                    have HK27 := Lib.hid ((hbel.block _ hs62).trans HK26.out)
                    have HB67 := Lib.hid hbel; clear hbel
                    have HX7 := Lib.hid (HBX2.out.below HB7.out (Nat.le_refl _))
                    have c7 := HX7.out.r1
                    by_cases hih : i < pn
                    · have hil : i < lv.length := by rw [HI2.out.hl]; omega
                      obtain ⟨bL, oL, ha⟩ := HI2.out.il.some (by omega)
                      subst ha
                      have cL := (HI2.out.il.below HB7.out (Nat.le_refl _)).get i hil
                      have hin : (i : Int) < (n : Int) := by omega
                      have hihb : (i : Int) < (pn : Int) := by omega
                      cases b2 with
                      | false =>
                        go_wp2
                        go_roundw
                        case rel => exact ⟨i + 1, false, by omega, by omega, rfl, by go_num, fun h => HGn.out (fun j h1 h2 => h j h1 (by omega)), HB67.out⟩
                        case measure => simp [intOf]; omega
                      | true =>
                        by_cases he : lv[i] = -1
                        · rw [he] at cL
                          go_wp2
                          go_roundw
                          case rel => exact ⟨i + 1, true, by omega, by omega, rfl, by go_num, fun _ => rfl, HB67.out⟩
                          case measure => simp [intOf]; omega
                        · have HNe : Hid ((∀ j, p ≤ j → j < i + 1 → lv.getD j 0 = -1) → false = true) := Lib.hid (fun h => by
                            have := h i (by omega) (by omega)
                            rw [List.getD_eq_getElem?_getD, List.getElem?_eq_getElem hil, Option.getD_some] at this
                            exact absurd this he)
                          generalize lv[i] = y at *
                          go_wp2
                          go_roundw
                          case rel => exact ⟨i + 1, false, by omega, by omega, by simp [he], by go_num, HNe.out, HB67.out⟩
                          case measure => simp [intOf]; omega
                    · have HNew : Hid (∀ j, j < k + 1 → GoneB lv (placeAt base lv (tryP s t j).toNat (tryE j)).toNat p → (b || b2) = true) := Lib.hid (fun j hj hg => by
                        by_cases hjk : j < k
                        · rw [HOk.out j hjk hg]; rfl
                        · obtain rfl : j = k := by omega
                          rw [HF.out] at hg
                          rw [HGn.out (fun j h1 h2 => hg j (by omega) (by omega))]
                          simp)
                      cases b <;> cases b2
                      all_goals
                        go_wp2
                        go_roundw
                        case rel => exact ⟨k + 1, _, by omega, rfl, by go_num, HNew.out, HB57.out, HK17.out, HK27.out⟩
                        case measure => simp [intOf]; omega
              · have hbt : b = true := by
                  obtain ⟨j, hj, hg⟩ := HEx.out
                  exact HOk.out j (by omega) hg
                subst hbt
                go_wp2
                go_roundw
                case rel => exact ⟨p + 1, by omega, by go_num, HB36.out⟩
                case measure => simp [intOf]; omega
          · go_wp2
            go_ret
            exact ⟨rfl, below_seq HB2.out HB4.out⟩
end Go.Proofs.Ytnnfhldfdiaddaa
