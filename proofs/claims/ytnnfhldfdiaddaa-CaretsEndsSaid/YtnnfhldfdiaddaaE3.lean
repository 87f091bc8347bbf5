/-
  The walk of CaretsEnds.
-/
import Derived.Test.YtnnfhldfdiaddaaA1
import Derived.Test.YtnnfhldfdiaddaaE2
set_option linter.unusedVariables false
namespace Go.Proofs.Ytnnfhldfdiaddaa
open Go.RowKit

/-- the line of the base's level alone -/
def evenL (base : Int) (lv : List Int) : List Int := lv.map (fun x => if x = -1 then -1 else base)
theorem evenL_length (base : Int) (lv : List Int) : (evenL base lv).length = lv.length := by simp [evenL]
theorem evenL_one (base : Int) (lv : List Int) : ∀ x ∈ evenL base lv, x = -1 ∨ x = base := by
  intro x hx
  unfold evenL at hx
  rw [List.mem_map] at hx
  obtain ⟨y, _, rfl⟩ := hx
  split
  · exact .inl rfl
  · exact .inr rfl
theorem ev_ok {base : Int} {lv ws : List Int} (h : LineOk base lv ws) : LineOk base (evenL base lv) ws := by
  refine ⟨h.h01, okL_mem2 _ (fun x hx => ?_), fun x hx hne => ?_, by rw [evenL_length]; exact h.widths, h.range, by rw [evenL_length]; exact h.len⟩
  · rcases evenL_one base lv x hx with rfl | rfl
    · omega
    · rcases h.h01 with h | h <;> omega
  · rcases evenL_one base lv x hx with h1 | h1
    · exact absurd h1 hne
    · omega

/-- the first k of them are as they shall be, the others 0 -/
def evTo (base : Int) (lv : List Int) (k : Nat) : List Int := evenL base (lv.take k) ++ List.replicate (lv.length - k) 0
theorem evTo_zero (base : Int) (lv : List Int) : evTo base lv 0 = List.replicate lv.length 0 := by simp [evTo, evenL]
theorem evTo_end (base : Int) (lv : List Int) : evTo base lv lv.length = evenL base lv := by simp [evTo]
theorem evTo_step (base : Int) (lv : List Int) (k : Nat) (hk : k < lv.length) : (evTo base lv k).set k (if lv[k] = -1 then -1 else base) = evTo base lv (k + 1) := by
  unfold evTo
  have hl : (evenL base (lv.take k)).length = k := by rw [evenL_length, List.length_take]; omega
  rw [List.set_append_right _ _ (by omega), hl, Nat.sub_self, show lv.length - k = (lv.length - (k + 1)) + 1 by omega, List.replicate_succ, List.set_cons_zero]
  have : evenL base (lv.take (k + 1)) = evenL base (lv.take k) ++ [if lv[k] = -1 then -1 else base] := by
    unfold evenL
    rw [List.take_succ_eq_append_getElem hk, List.map_append]
    rfl
  rw [this, List.append_assoc]
  rfl

def EndsR (g6 : Nat) (w5 : World) (base : Int) (lv : List Int) (n : Nat) (v : Value) (wr : World) : Prop :=
  ∃ k : Nat, k ≤ n ∧ v = .int .i64 k ∧ Own g6 23 wr (some ⟨g6, 0, none⟩) n n (ivs .i8 (evTo base lv k)) ∧ Below w5.heap.size w5 wr

def EndsC (w8 : World) (n : Nat) (v : Value) (wr : World) : Prop := ∃ i : Nat, i ≤ n + 1 ∧ v = .int .i64 i ∧ Below w8.heap.size w8 wr

set_option maxRecDepth 100000 in
set_option maxHeartbeats 4000000 in
theorem ends_walk (w : World) (base : Int) (a : Option Addr) (n cap : Nat) (a1 : Option Addr) (n1 cap1 : Nat) (a2 : Option Addr) (n2 cap2 : Nat) (lv ws : List Int) (h : InOk w base a n cap a1 n1 cap1 lv ws) :
    Calls Try.prog 4 #[.agg #[.int .i8 base, .slice a n cap, .slice a1 n1 cap1, .slice a2 n2 cap2]] w fun e w' => e = .returned (.bool true) ∧ Below w.heap.size w w' := by
  have hw0 : Below w.heap.size w (w.alloc (.cells #[.int .i8 base, .slice a n cap, .slice a1 n1 cap1, .slice a2 n2 cap2] 28)) := (Below.refl _ w).alloc (Nat.le_refl _) _
  have HW0 := Lib.hid hw0; clear hw0
  have HH := Lib.hid (h.below HW0.out (Nat.le_refl _)); clear h
  have HB0 := Lib.hid (InBox.new w base a n cap a1 n1 cap1 a2 n2 cap2)
  go_enter Try.func4, Try.ntmps4
  go_wp2_with fail
  refine (of_walk _ base a n cap a1 n1 cap1 a2 n2 cap2 lv ws HH.out).mono ?_
  rintro e w1 (⟨rfl, hb⟩ | ⟨g, hL, hn3, rfl, hline, hg, hb⟩)
  · have HB1 := Lib.hid (below_seq HW0.out hb); clear hb
    go_wp2_with fail
    refine (lives_walk _).mono ?_
    rintro e w2 ⟨rfl, hb2⟩
    go_wp2
    go_ret
    exact ⟨rfl, below_seq HB1.out hb2⟩
  · have HLO := Lib.hid hL; clear hL
    have HBX := Lib.hid (HB0.out.below hb (Nat.le_refl _))
    have HI1 := Lib.hid (HH.out.below hb (Nat.le_refl _))
    have HB1 := Lib.hid (below_seq HW0.out hb); clear hb hg
    have HL1 := Lib.hid hline; clear hline
    go_wp2_with fail
    refine (lives_walk _).mono ?_
    rintro e w2 ⟨rfl, hb2⟩
    have HBX2 := Lib.hid (HBX.out.below hb2 (Nat.le_refl _))
    have HI2 := Lib.hid (HI1.out.below hb2 (Nat.le_refl _))
    have HL2 := Lib.hid (HL1.out.below hb2 (Nat.le_refl _))
    have HB2 := Lib.hid (below_seq HB1.out hb2); clear hb2
    clear HB0 HBX HI1 HL1 HB1
    have r0 := HBX2.out.r0
    have r1 := HBX2.out.r1
    have hnn3 : n ≤ 3000 := by rw [← HI2.out.hl]; exact hn3
    have hbx := HBX2.out.lt
    clear hn3
    have HSh := Lib.hid (Shown_walk g base lv ws w2 HL2.out)
    obtain ⟨m, hm⟩ : ∃ m, (ord lv).length = m := ⟨_, rfl⟩
    rw [hm] at HSh
    have HM := Lib.hid hm
    have hmn : m ≤ n := by have := ord_le lv; have := HI2.out.hl; omega
    clear hm
    have H01 := Lib.hid HLO.out.h01
    have HOK := Lib.hid (okL_mem lv HLO.out.ok)
    have HAB := Lib.hid HLO.out.above
    have HEV := Lib.hid (ev_ok (lv := lv) HLO.out)
    rcases HLO.out.h01 with rfl | rfl
    · skip
      have HF := Lib.hid (fun s t => caret_first (base := 0) (s := s) (t := t) H01.out HAB.out)
      have HT := Lib.hid (fun s t => caret_last (base := 0) (s := s) (t := t) H01.out HOK.out HAB.out)
      rw [HM.out] at HF HT
      go_wp2_with fail
      refine HSh.out.mono ?_
      rintro e w' ⟨rfl, rfl⟩
      go_wp2_with fail
      refine (Caret_walk g 0 lv ws _ 0 HL2.out (Nat.zero_le _)).mono ?_
      rintro e w3 ⟨s, t, rfl, hcp, hb3⟩
      have hs : s = 0 := by have := HF.out s t hcp; simpa using this
      subst hs
      unfold caretV
      generalize colAt ws (ord lv) _ = x1
      generalize colAt ws (ord lv) _ = x2
      generalize (0 != t) = b1
      have HB3 := Lib.hid hb3
      have HL3 := Lib.hid (HL2.out.below hb3 (Nat.le_refl _))
      clear hb3 hcp
      go_wp2_with fail
      refine (Len_walk g 0 lv ws _ (HL3.out.below ((Below.refl _ _).alloc (Nat.le_refl _) _) (Nat.le_refl _))).mono ?_
      rintro e w' ⟨rfl, rfl⟩
      go_wp2_with fail
      refine (Caret_walk g 0 lv ws _ lv.length (HL3.out.below ((Below.refl _ _).alloc (Nat.le_refl _) _) (Nat.le_refl _)) (Nat.le_refl _)).mono ?_
      rintro e w5 ⟨s2, t2, rfl, hcp, hb5⟩
      have hs : s2 = (m : Int) := by have := HT.out s2 t2 hcp; simpa using this
      subst hs
      unfold caretV
      generalize colAt ws (ord lv) _ = x3
      generalize colAt ws (ord lv) _ = x4
      generalize ((m : Int) != t2) = b2
      have hblk : w5.heap[w3.heap.size]? = some (.cells #[.int .i64 0, .int .i64 t, .int .i64 x1, .int .i64 x2, .bool b1] 39 (0, 0)) := by
        rw [hb5.block w3.heap.size (by simp)]
        exact heap_alloc_new w3 _
      have hb35 : Below w3.heap.size w3 w5 := ((Below.refl _ w3).alloc (Nat.le_refl _) _).trans (hb5.mono (by simp))
      have q0 := cell_of_row w5 w3.heap.size 0 _ _ (0, 0) hblk
      simp at q0
      have hq : w3.heap.size < w5.heap.size := (Array.getElem?_eq_some_iff.1 hblk).1
      have HB5 := Lib.hid (below_seq HB2.out (below_seq HB3.out hb35))
      have HB25 := Lib.hid (below_seq HB3.out hb35)
      have HBX5 := Lib.hid (HBX2.out.below HB25.out (Nat.le_refl _))
      have HI5 := Lib.hid (HI2.out.below HB25.out (Nat.le_refl _))
      have hbx5 := HBX5.out.lt
      clear hblk hb35 hb5 hcp
      have p0 := HBX5.out.r0
      have p1 := HBX5.out.r1
      have p2 := HBX5.out.r2
      have hmm : ((m : Int) != (m : Int)) = false := by simp
      go_wp2_with (at_make; refine wpList_mk Try.elemLevel rfl rfl (.tmp 64) (.tmp 64) rfl n (by omega) (by unfold maxLen; omega) rfl rfl ?_)
      intro w6 hown6 hb6 _
      have hb56 : Below w5.heap.size w5 w6 := ((Below.refl w5.heap.size w5).alloc (Nat.le_refl _) _).trans (hb6.mono (by omega))
      have HO6 := Lib.hid hown6; clear hown6 hb6
      have HB6 := Lib.hid hb56; clear hb56
      clear p0 p1 p2 q0 hq hbx5
      have hbx6 := (HBX5.out.below HB6.out (Nat.le_refl _)).lt
      have hw56 := HB6.out.size
      have hne1 : w.heap.size ≠ w5.heap.size + 1 := by have := HBX5.out.lt; omega
      go_wp2
      go_loopw [11] (EndsR (w5.heap.size + 1) w5 0 lv n) (fun v _ => n - (intOf v).toNat)
      case atStart => exact ⟨0, Nat.zero_le _, rfl, by rw [evTo_zero, HI2.out.hl, ← ivs_replicate]; exact HO6.out, HB6.out⟩
      case round =>
        obtain ⟨k, hk, rfl, hown, hbel⟩ := hrel
        have HO7 := Lib.hid hown; clear hown
        have HBX7 := Lib.hid (HBX5.out.below hbel (Nat.le_refl _))
        have HI7 := Lib.hid (HI5.out.below hbel (Nat.le_refl _))
        have hsz7 := hbel.size
        have HB7 := Lib.hid hbel; clear hbel
        have p0 := HBX7.out.r0
        have p1 := HBX7.out.r1
        have p2 := HBX7.out.r2
        by_cases hkn : k < n
        · have hkl : k < lv.length := by rw [HI2.out.hl]; exact hkn
          obtain ⟨bL, oL, ha⟩ := HI5.out.il.some (by omega)
          subst ha
          have cL := HI7.out.il.get k hkl
          have hbL : bL ≠ w5.heap.size + 1 := by
            have := HI5.out.il.lt (by omega)
            omega
          have fr := HO7.out.unfrozen k
          have cl : ∃ u, wr.cell? ⟨w5.heap.size + 1, k, none⟩ = some u := ⟨_, HO7.out.cell k (by rw [HO7.out.len]; exact hkn)⟩
          obtain ⟨u, cl⟩ := cl
          have HS := Lib.hid (evTo_step 0 lv k hkl)
          have HO8 := Lib.hid (HO7.out.store k (.int .i8 0))
          rw [ivs_set] at HO8
          have HB8 := Lib.hid (HB7.out.trans ((Below.refl w5.heap.size wr).setCell (p := ⟨w5.heap.size + 1, k, none⟩) (Nat.le_succ _) (.int .i8 0)))
          by_cases hg : lv[k] = -1
          · rw [if_pos hg] at HS
            rw [hg] at cL
            clear hg
            have HO9 := Lib.hid (HO8.out.store k (.int .i8 (-1)))
            rw [ivs_set, List.set_set] at HO9
            go_wp2
            go_roundw
            case rel => exact ⟨k + 1, by omega, by go_num, by rw [← HS.out]; exact HO9.out, HB8.out.setCell (p := ⟨w5.heap.size + 1, k, none⟩) (Nat.le_succ _) _⟩
            case measure => simp [intOf]; omega
          · rw [if_neg hg] at HS
            have hgb : (lv[k] == -1) = false := by simp [hg]
            clear hg
            generalize lv[k] = z at *
            go_wp2
            go_roundw
            case rel => exact ⟨k + 1, by omega, by go_num, by rw [← HS.out]; exact HO8.out, HB8.out⟩
            case measure => simp [intOf]; omega
        · have hkn2 : k = lv.length := by have := HI2.out.hl; omega
          have hev : evTo 0 lv k = evenL 0 lv := by rw [hkn2]; exact evTo_end 0 lv
          rw [hev] at HO7
          have hevl : (evenL 0 lv).length = n := by rw [evenL_length]; exact HI2.out.hl
          have HEL := Lib.hid hevl
          clear hkn2 hev hevl
          have HOne := Lib.hid (fun a hat s t (hc : CaretP 0 (evenL 0 lv) a s t) => caret_one (base := 0) (by omega) (evenL_one 0 lv) a hat hc)
          have HErr := Lib.hid (newErr_ok HEV.out)
          have HOI := Lib.hid HO7.out.ints
          go_wp2_with fail
          refine (New_walk 0 _ a1 n n n1 cap1 (evenL 0 lv) ws _ (by omega) HEL.out HI7.out.hl1 (by omega) HI7.out.hn1 HOI.out HI7.out.iw).mono ?_
          rintro e w8 (⟨hL8, g8, rfl, hline8, hg8, hb8⟩ | ⟨hbad, _⟩)
          · have HL8 := Lib.hid hline8; clear hline8
            have HB8 := Lib.hid (below_seq HB5.out (below_seq HB7.out hb8)); clear hb8 hg8 hL8
            clear p0 p1 p2
            go_wp2
            go_loopw [13] (EndsC w8 n) (fun v _ => n + 1 - (intOf v).toNat)
            case atStart => exact ⟨0, Nat.zero_le _, rfl, Below.refl _ _⟩
            case round =>
              obtain ⟨i, hi, rfl, hbel⟩ := hrel
              have HB9 := Lib.hid hbel; clear hbel
              by_cases hin : i ≤ n
              · go_wp2_with fail
                refine (Caret_walk g8 0 (evenL 0 lv) ws _ i (HL8.out.below HB9.out (Nat.le_refl _)) (by rw [HEL.out]; exact hin)).mono ?_
                rintro e w9 ⟨s3, t3, rfl, hcp, hb9⟩
                obtain rfl := HOne.out i (by rw [HEL.out]; exact hin) s3 t3 hcp
                unfold caretV
                rw [show (s3 != s3) = false by simp]
                generalize colAt ws (ord (evenL 0 lv)) _ = x5
                have HB10 := Lib.hid (HB9.out.trans (hb9.mono HB9.out.size))
                clear hb9 hcp
                have hss : (s3 != s3) = false := by simp
                have hxx : (x5 != x5) = false := by simp
                go_wp2
                go_roundw
                case rel => exact ⟨i + 1, by omega, by go_num, HB10.out.alloc HB10.out.size _⟩
                case measure => simp [intOf]; omega
              · go_wp2
                go_ret
                exact ⟨rfl, below_seq HB8.out HB9.out⟩
          · exact absurd HErr.out hbad
    · skip
      have HF := Lib.hid (fun s t => caret_first (base := 1) (s := s) (t := t) H01.out HAB.out)
      have HT := Lib.hid (fun s t => caret_last (base := 1) (s := s) (t := t) H01.out HOK.out HAB.out)
      rw [HM.out] at HF HT
      go_wp2_with fail
      refine HSh.out.mono ?_
      rintro e w' ⟨rfl, rfl⟩
      go_wp2_with fail
      refine (Caret_walk g 1 lv ws _ 0 HL2.out (Nat.zero_le _)).mono ?_
      rintro e w3 ⟨s, t, rfl, hcp, hb3⟩
      have hs : s = (m : Int) := by have := HF.out s t hcp; simpa using this
      subst hs
      unfold caretV
      generalize colAt ws (ord lv) _ = x1
      generalize colAt ws (ord lv) _ = x2
      generalize ((m : Int) != t) = b1
      have HB3 := Lib.hid hb3
      have HL3 := Lib.hid (HL2.out.below hb3 (Nat.le_refl _))
      clear hb3 hcp
      go_wp2_with fail
      refine (Len_walk g 1 lv ws _ (HL3.out.below ((Below.refl _ _).alloc (Nat.le_refl _) _) (Nat.le_refl _))).mono ?_
      rintro e w' ⟨rfl, rfl⟩
      go_wp2_with fail
      refine (Caret_walk g 1 lv ws _ lv.length (HL3.out.below ((Below.refl _ _).alloc (Nat.le_refl _) _) (Nat.le_refl _)) (Nat.le_refl _)).mono ?_
      rintro e w5 ⟨s2, t2, rfl, hcp, hb5⟩
      have hs : s2 = 0 := by have := HT.out s2 t2 hcp; simpa using this
      subst hs
      unfold caretV
      generalize colAt ws (ord lv) _ = x3
      generalize colAt ws (ord lv) _ = x4
      generalize (0 != t2) = b2
      have hblk : w5.heap[w3.heap.size]? = some (.cells #[.int .i64 (m : Int), .int .i64 t, .int .i64 x1, .int .i64 x2, .bool b1] 39 (0, 0)) := by
        rw [hb5.block w3.heap.size (by simp)]
        exact heap_alloc_new w3 _
      have hb35 : Below w3.heap.size w3 w5 := ((Below.refl _ w3).alloc (Nat.le_refl _) _).trans (hb5.mono (by simp))
      have q0 := cell_of_row w5 w3.heap.size 0 _ _ (0, 0) hblk
      simp at q0
      have hq : w3.heap.size < w5.heap.size := (Array.getElem?_eq_some_iff.1 hblk).1
      have HB5 := Lib.hid (below_seq HB2.out (below_seq HB3.out hb35))
      have HB25 := Lib.hid (below_seq HB3.out hb35)
      have HBX5 := Lib.hid (HBX2.out.below HB25.out (Nat.le_refl _))
      have HI5 := Lib.hid (HI2.out.below HB25.out (Nat.le_refl _))
      have hbx5 := HBX5.out.lt
      clear hblk hb35 hb5 hcp
      have p0 := HBX5.out.r0
      have p1 := HBX5.out.r1
      have p2 := HBX5.out.r2
      have hmm : ((m : Int) != (m : Int)) = false := by simp
      go_wp2_with (at_make; refine wpList_mk Try.elemLevel rfl rfl (.tmp 64) (.tmp 64) rfl n (by omega) (by unfold maxLen; omega) rfl rfl ?_)
      intro w6 hown6 hb6 _
      have hb56 : Below w5.heap.size w5 w6 := ((Below.refl w5.heap.size w5).alloc (Nat.le_refl _) _).trans (hb6.mono (by omega))
      have HO6 := Lib.hid hown6; clear hown6 hb6
      have HB6 := Lib.hid hb56; clear hb56
      clear p0 p1 p2 q0 hq hbx5
      have hbx6 := (HBX5.out.below HB6.out (Nat.le_refl _)).lt
      have hw56 := HB6.out.size
      have hne1 : w.heap.size ≠ w5.heap.size + 1 := by have := HBX5.out.lt; omega
      go_wp2
      go_loopw [11] (EndsR (w5.heap.size + 1) w5 1 lv n) (fun v _ => n - (intOf v).toNat)
      case atStart => exact ⟨0, Nat.zero_le _, rfl, by rw [evTo_zero, HI2.out.hl, ← ivs_replicate]; exact HO6.out, HB6.out⟩
      case round =>
        obtain ⟨k, hk, rfl, hown, hbel⟩ := hrel
        have HO7 := Lib.hid hown; clear hown
        have HBX7 := Lib.hid (HBX5.out.below hbel (Nat.le_refl _))
        have HI7 := Lib.hid (HI5.out.below hbel (Nat.le_refl _))
        have hsz7 := hbel.size
        have HB7 := Lib.hid hbel; clear hbel
        have p0 := HBX7.out.r0
        have p1 := HBX7.out.r1
        have p2 := HBX7.out.r2
        by_cases hkn : k < n
        · have hkl : k < lv.length := by rw [HI2.out.hl]; exact hkn
          obtain ⟨bL, oL, ha⟩ := HI5.out.il.some (by omega)
          subst ha
          have cL := HI7.out.il.get k hkl
          have hbL : bL ≠ w5.heap.size + 1 := by
            have := HI5.out.il.lt (by omega)
            omega
          have fr := HO7.out.unfrozen k
          have cl : ∃ u, wr.cell? ⟨w5.heap.size + 1, k, none⟩ = some u := ⟨_, HO7.out.cell k (by rw [HO7.out.len]; exact hkn)⟩
          obtain ⟨u, cl⟩ := cl
          have HS := Lib.hid (evTo_step 1 lv k hkl)
          have HO8 := Lib.hid (HO7.out.store k (.int .i8 1))
          rw [ivs_set] at HO8
          have HB8 := Lib.hid (HB7.out.trans ((Below.refl w5.heap.size wr).setCell (p := ⟨w5.heap.size + 1, k, none⟩) (Nat.le_succ _) (.int .i8 1)))
          by_cases hg : lv[k] = -1
          · rw [if_pos hg] at HS
            rw [hg] at cL
            clear hg
            have HO9 := Lib.hid (HO8.out.store k (.int .i8 (-1)))
            rw [ivs_set, List.set_set] at HO9
            go_wp2
            go_roundw
            case rel => exact ⟨k + 1, by omega, by go_num, by rw [← HS.out]; exact HO9.out, HB8.out.setCell (p := ⟨w5.heap.size + 1, k, none⟩) (Nat.le_succ _) _⟩
            case measure => simp [intOf]; omega
          · rw [if_neg hg] at HS
            have hgb : (lv[k] == -1) = false := by simp [hg]
            clear hg
            generalize lv[k] = z at *
            go_wp2
            go_roundw
            case rel => exact ⟨k + 1, by omega, by go_num, by rw [← HS.out]; exact HO8.out, HB8.out⟩
            case measure => simp [intOf]; omega
        · have hkn2 : k = lv.length := by have := HI2.out.hl; omega
          have hev : evTo 1 lv k = evenL 1 lv := by rw [hkn2]; exact evTo_end 1 lv
          rw [hev] at HO7
          have hevl : (evenL 1 lv).length = n := by rw [evenL_length]; exact HI2.out.hl
          have HEL := Lib.hid hevl
          clear hkn2 hev hevl
          have HOne := Lib.hid (fun a hat s t (hc : CaretP 1 (evenL 1 lv) a s t) => caret_one (base := 1) (by omega) (evenL_one 1 lv) a hat hc)
          have HErr := Lib.hid (newErr_ok HEV.out)
          have HOI := Lib.hid HO7.out.ints
          go_wp2_with fail
          refine (New_walk 1 _ a1 n n n1 cap1 (evenL 1 lv) ws _ (by omega) HEL.out HI7.out.hl1 (by omega) HI7.out.hn1 HOI.out HI7.out.iw).mono ?_
          rintro e w8 (⟨hL8, g8, rfl, hline8, hg8, hb8⟩ | ⟨hbad, _⟩)
          · have HL8 := Lib.hid hline8; clear hline8
            have HB8 := Lib.hid (below_seq HB5.out (below_seq HB7.out hb8)); clear hb8 hg8 hL8
            clear p0 p1 p2
            go_wp2
            go_loopw [13] (EndsC w8 n) (fun v _ => n + 1 - (intOf v).toNat)
            case atStart => exact ⟨0, Nat.zero_le _, rfl, Below.refl _ _⟩
            case round =>
              obtain ⟨i, hi, rfl, hbel⟩ := hrel
              have HB9 := Lib.hid hbel; clear hbel
              by_cases hin : i ≤ n
              · go_wp2_with fail
                refine (Caret_walk g8 1 (evenL 1 lv) ws _ i (HL8.out.below HB9.out (Nat.le_refl _)) (by rw [HEL.out]; exact hin)).mono ?_
                rintro e w9 ⟨s3, t3, rfl, hcp, hb9⟩
                obtain rfl := HOne.out i (by rw [HEL.out]; exact hin) s3 t3 hcp
                unfold caretV
                rw [show (s3 != s3) = false by simp]
                generalize colAt ws (ord (evenL 1 lv)) _ = x5
                have HB10 := Lib.hid (HB9.out.trans (hb9.mono HB9.out.size))
                clear hb9 hcp
                have hss : (s3 != s3) = false := by simp
                have hxx : (x5 != x5) = false := by simp
                go_wp2
                go_roundw
                case rel => exact ⟨i + 1, by omega, by go_num, HB10.out.alloc HB10.out.size _⟩
                case measure => simp [intOf]; omega
              · go_wp2
                go_ret
                exact ⟨rfl, below_seq HB8.out HB9.out⟩
          · exact absurd HErr.out hbad
end Go.Proofs.Ytnnfhldfdiaddaa
