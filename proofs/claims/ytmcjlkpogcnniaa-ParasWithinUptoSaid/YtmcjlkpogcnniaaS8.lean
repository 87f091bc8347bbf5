/-
  The walk of ParasWithin.
-/
import Derived.Test.YtmcjlkpogcnniaaS2
import Derived.Test.YtmcjlkpogcnniaaP4
set_option linter.unusedVariables false
namespace Go.Proofs.Ytmcjlkpogcnniaa
open Go.RowKit

theorem wthn_no : ∀ (l : List Int) (d : Nat), wthn d l = true → True := fun _ _ _ => trivial
def WthR (n : Nat) (cl : List Int) (w : World) (d i : Value) (wr : World) : Prop := ∃ k x : Nat, k ≤ n ∧ x ≤ k ∧ d = .int .i64 x ∧ i = .int .i64 k ∧ wthn 0 cl = wthn x (cl.drop k) ∧ wr = w

set_option maxRecDepth 100000 in
set_option maxHeartbeats 2000000 in
theorem within_walk (a : Option Addr) (n cap : Nat) (cl : List Int) (w : World) (hn : cl.length = n) (hlt : n ≤ 4194304) (hc : Ints .u8 w a cl) :
    Calls Try.prog 35 #[.slice a n cap] w fun e w' => e = .returned (.bool (wthn 0 cl)) ∧ w = w' := by
  have HN := Lib.hid hn; clear hn
  have HC := Lib.hid hc; clear hc
  go_enter Try.func35, Try.ntmps35
  go_wp2
  go_loopw [3, 4] (WthR n cl w) (fun _ i _ => n - (intOf i).toNat)
  case atStart => exact ⟨0, 0, Nat.zero_le _, Nat.le_refl _, rfl, rfl, rfl, rfl⟩
  case round =>
    obtain ⟨k, x, hk, hx, rfl, rfl, hwt, rfl⟩ := hrel
    have HW := Lib.hid hwt; clear hwt
    by_cases hlt2 : k < n
    · have hkl : k < cl.length := by rw [HN.out]; exact hlt2
      obtain ⟨b, o, ha⟩ := HC.out.some (by omega)
      subst ha
      have c1 := HC.out.get k hkl
      have HD := Lib.hid (show cl.drop k = cl[k] :: cl.drop (k + 1) from List.drop_eq_getElem_cons hkl)
      generalize cl[k] = c at *
      by_cases h11 : c = 11
      · subst h11
        have HR := Lib.hid (show wthn 0 cl = false by rw [HW.out, HD.out, wthn, if_pos rfl])
        go_wp2
        go_ret
        exact ⟨by rw [HR.out]; rfl, rfl⟩
      · have b11 : (c == 11) = false := by simpa using h11
        go_wp2_with fail
        refine (Begins_walk c _).mono ?_
        rintro e w' ⟨rfl, rfl⟩
        by_cases hb : begC c
        · have HS := Lib.hid (show wthn 0 cl = wthn (x + 1) (cl.drop (k + 1)) by rw [HW.out, HD.out, wthn, if_neg h11, if_pos hb])
          rw [show (decide (begC c)) = true by simp [hb]]
          clear hb h11
          go_wp2
          go_roundw
          case rel => exact ⟨k + 1, x + 1, by omega, by omega, by go_num, by go_num, HS.out, rfl⟩
          case measure => simp [intOf]; omega
        · rw [show (decide (begC c)) = false by simp [hb]]
          by_cases h23 : c = 23
          · subst h23
            cases x with
            | zero =>
              have HR := Lib.hid (show wthn 0 cl = false by rw [HW.out, HD.out, wthn, if_neg h11, if_neg hb, if_pos rfl, if_pos rfl])
              clear hb h11
              go_wp2
              go_ret
              exact ⟨by rw [HR.out]; rfl, rfl⟩
            | succ x =>
              have HS := Lib.hid (show wthn 0 cl = wthn x (cl.drop (k + 1)) by rw [HW.out, HD.out, wthn, if_neg h11, if_neg hb, if_pos rfl, if_neg (by omega)]; rfl)
              clear hb h11
              have hx0 : ¬ ((x : Int) < 0) := by omega
              go_wp2
              go_roundw
              case rel => exact ⟨k + 1, x, by omega, by omega, by go_num, by go_num, HS.out, rfl⟩
              case measure => simp [intOf]; omega
          · have HS := Lib.hid (show wthn 0 cl = wthn x (cl.drop (k + 1)) by rw [HW.out, HD.out, wthn, if_neg h11, if_neg hb, if_neg h23])
            have b23 : (c == 23) = false := by simpa using h23
            clear hb h11 h23
            go_wp2
            go_roundw
            case rel => exact ⟨k + 1, x, by omega, by omega, by go_num, by go_num, HS.out, rfl⟩
            case measure => simp [intOf]; omega
    · obtain rfl : k = n := by omega
      have HR := Lib.hid (show wthn 0 cl = decide (x = 0) by rw [HW.out, List.drop_of_length_le (by rw [HN.out]; exact Nat.le_refl _), wthn])
      by_cases h0 : x = 0
      · subst h0
        go_wp2
        go_ret
        exact ⟨by rw [HR.out]; rfl, rfl⟩
      · have hx0 : ((x : Int) == 0) = false := by simp; omega
        have HR2 := Lib.hid (show decide (x = 0) = false by simp [h0])
        clear h0
        go_wp2
        go_ret
        exact ⟨by rw [HR.out, HR2.out]; rfl, rfl⟩

theorem auto_within (kind : Int) (hb : begC kind) (ah be one two : List Int) (h1 : wthn 0 one = true) (h2 : wthn 0 two = true) (b : Int) :
    levelV (ah ++ kind :: (one ++ 23 :: be)) b = levelV (ah ++ kind :: (two ++ 23 :: be)) b := by
  have h := fs_within kind hb one two be h1 h2 ah
  have e : ∀ cl, autoL cl = match fs cl with | some c => if c = 1 then 0 else 1 | none => 0 := by
    intro cl
    have := first_fs cl 0
    rw [List.drop_zero] at this
    unfold autoL
    rw [← this]
    cases firstAt cl (matchL cl) cl.length 0 <;> rfl
  unfold levelV
  rw [e, e, h]

/-- what is put together there -/
def glue (ah be one : List Int) (kind : Int) : List Int := ah ++ kind :: (one ++ 23 :: be)
theorem glue_eq (ah be one : List Int) (kind : Int) : ivs .u8 (glue ah be one kind) = ivs .u8 ah ++ .int .u8 kind :: (ivs .u8 one ++ .int .u8 23 :: ivs .u8 be) := by
  simp [glue, ivs]
theorem one_vals (w : World) (u : Value) (E : TypeId) : Vals (w.alloc (.cells #[u] E)) (some ⟨w.heap.size, 0, none⟩) [u] := by
  intro i hi
  obtain rfl : i = 0 := by simpa using hi
  exact ⟨w.heap.size, 0, rfl, by rw [cell_of_row (w.alloc (.cells #[u] E)) w.heap.size _ _ _ (0, 0) (heap_alloc_new w _)]; rfl⟩

set_option maxRecDepth 100000 in
set_option maxHeartbeats 4000000 in
theorem ParasWithin_walk (a1 : Option Addr) (n1 cap1 : Nat) (ah : List Int) (a2 : Option Addr) (n2 cap2 : Nat) (be : List Int) (a3 : Option Addr) (n3 cap3 : Nat) (one : List Int) (a4 : Option Addr) (n4 cap4 : Nat) (two : List Int) (kind b : Int) (w : World)
    (h1 : ArgL .u8 w a1 n1 cap1 ah) (h2 : ArgL .u8 w a2 n2 cap2 be) (h3 : ArgL .u8 w a3 n3 cap3 one) (h4 : ArgL .u8 w a4 n4 cap4 two) (hs : n1 + n2 + n3 + n4 ≤ 1048576) :
    Calls Try.prog 10 #[.slice a1 n1 cap1, .slice a2 n2 cap2, .slice a3 n3 cap3, .slice a4 n4 cap4, .int .u8 kind, .int .i8 b] w fun e w' => e = .returned (.bool true) ∧ Below w.heap.size w w' := by
  have H1 := Lib.hid h1; clear h1
  have H2 := Lib.hid h2; clear h2
  have H3 := Lib.hid h3; clear h3
  have H4 := Lib.hid h4; clear h4
  have hl3 := H3.out.le
  have hl4 := H4.out.le
  go_enter Try.func10, Try.ntmps10
  go_wp2_with fail
  refine (awake_walk w).mono ?_
  rintro e w1 ⟨rfl, hb⟩
  have HB1 := Lib.hid hb; clear hb
  go_wp2_with fail
  refine (Begins_walk kind _).mono ?_
  rintro e w' ⟨rfl, rfl⟩
  by_cases hk : begC kind
  · rw [show (decide (begC kind)) = true by simp [hk]]
    go_wp2_with fail
    refine (within_walk a3 n3 cap3 one w1 H3.out.len (by omega) (H3.out.below HB1.out (Nat.le_refl _)).ints).mono ?_
    rintro e w' ⟨rfl, rfl⟩
    cases hw1 : wthn 0 one with
    | false =>
      go_wp2
      go_ret
      exact ⟨rfl, HB1.out⟩
    | true =>
      go_wp2_with fail
      refine (within_walk a4 n4 cap4 two w1 H4.out.len (by omega) (H4.out.below HB1.out (Nat.le_refl _)).ints).mono ?_
      rintro e w' ⟨rfl, rfl⟩
      cases hw2 : wthn 0 two with
      | false =>
        go_wp2
        go_ret
        exact ⟨rfl, HB1.out⟩
      | true =>
        have HLv := Lib.hid (auto_within kind hk ah be one two hw1 hw2 b)
        clear hw1 hw2 hk
        have HBw1 := HB1

        have HxB0 := Lib.hid (show w.heap.size ≤ w1.heap.size from HBw1.out.size)
        go_wp2_with (at_builtin; refine wpList_appS Try.elemClass rfl (.tmp 34) (.tmp 35) rfl (Own.nil w1.heap.size _ w1) (Nat.le_refl _) (ys := ivs .u8 ah) (by rw [ivs_length, H1.out.len]) (H1.out.below HBw1.out (Nat.le_refl _)).ints.vals H1.out.none_ (ivs_one _ _) (by omega) (by unfold maxLen; omega) rfl rfl ?_)
        intro xa1 xc1 xw1 ho hg hb
        try rw [Nat.zero_add] at ho
        try rw [List.nil_append] at ho
        try rw [Nat.zero_add]
        have HxO1 := Lib.hid ho; clear ho
        have HxB1 := Lib.hid ((Own.nil w1.heap.size 22 w1).app hg (Nat.le_refl _)); clear hg hb
        go_wp2_with (at_builtin; refine wpList_app1x Try.elemClass rfl (.tmp 36) (.tmp 38) rfl HxO1.out HxB1.out.size (by omega) (by omega) (.int .u8 kind) rfl _ rfl rfl ?_)
        intro xa2 xc2 xw2 ho hg _
        have HxO2 := Lib.hid ho; clear ho
        have HxB2 := Lib.hid (HxB1.out.trans (HxO1.out.app hg HxB1.out.size)); clear hg
        go_wp2_with (at_builtin; refine wpList_appS Try.elemClass rfl (.tmp 39) (.tmp 40) rfl HxO2.out HxB2.out.size (ys := ivs .u8 one) (by rw [ivs_length, H3.out.len]) ((H3.out.below HBw1.out (Nat.le_refl _)).below HxB2.out (Nat.le_refl _)).ints.vals H3.out.none_ (ivs_one _ _) (by omega) (by unfold maxLen; omega) rfl rfl ?_)
        intro xa3 xc3 xw3 ho hg _
        have HxO3 := Lib.hid ho; clear ho
        have HxB3 := Lib.hid (HxB2.out.trans (HxO2.out.app hg HxB2.out.size)); clear hg
        go_wp2_with (at_builtin; refine wpList_app1x Try.elemClass rfl (.tmp 41) (.tmp 42) rfl HxO3.out HxB3.out.size (by omega) (by omega) (.int .u8 23) rfl _ rfl rfl ?_)
        intro xa4 xc4 xw4 ho hg _
        have HxO4 := Lib.hid ho; clear ho
        have HxB4 := Lib.hid (HxB3.out.trans (HxO3.out.app hg HxB3.out.size)); clear hg
        go_wp2_with (at_builtin; refine wpList_appS Try.elemClass rfl (.tmp 43) (.tmp 44) rfl HxO4.out HxB4.out.size (ys := ivs .u8 be) (by rw [ivs_length, H2.out.len]) ((H2.out.below HBw1.out (Nat.le_refl _)).below HxB4.out (Nat.le_refl _)).ints.vals H2.out.none_ (ivs_one _ _) (by omega) (by unfold maxLen; omega) rfl rfl ?_)
        intro xa5 xc5 xw5 ho hg _
        have HxO5 := Lib.hid ho; clear ho
        have HxB5 := Lib.hid (HxB4.out.trans (HxO4.out.app hg HxB4.out.size)); clear hg
        have hglue := HxO5.out
        rw [← glue_eq ah be one kind] at hglue
        have HxX := Lib.hid hglue; clear hglue
        clear HxO1 HxO2 HxO3 HxO4 HxO5 HxB1 HxB2 HxB3 HxB4
        have HBxw5 := Lib.hid (below_seq HBw1.out HxB5.out)

        have HyB0 := Lib.hid (show w.heap.size ≤ xw5.heap.size from HBxw5.out.size)
        go_wp2_with (at_builtin; refine wpList_appS Try.elemClass rfl (.tmp 46) (.tmp 47) rfl (Own.nil xw5.heap.size _ xw5) (Nat.le_refl _) (ys := ivs .u8 ah) (by rw [ivs_length, H1.out.len]) (H1.out.below HBxw5.out (Nat.le_refl _)).ints.vals H1.out.none_ (ivs_one _ _) (by omega) (by unfold maxLen; omega) rfl rfl ?_)
        intro ya1 yc1 yw1 ho hg hb
        try rw [Nat.zero_add] at ho
        try rw [List.nil_append] at ho
        try rw [Nat.zero_add]
        have HyO1 := Lib.hid ho; clear ho
        have HyB1 := Lib.hid ((Own.nil xw5.heap.size 22 xw5).app hg (Nat.le_refl _)); clear hg hb
        go_wp2_with (at_builtin; refine wpList_app1x Try.elemClass rfl (.tmp 48) (.tmp 50) rfl HyO1.out HyB1.out.size (by omega) (by omega) (.int .u8 kind) rfl _ rfl rfl ?_)
        intro ya2 yc2 yw2 ho hg _
        have HyO2 := Lib.hid ho; clear ho
        have HyB2 := Lib.hid (HyB1.out.trans (HyO1.out.app hg HyB1.out.size)); clear hg
        go_wp2_with (at_builtin; refine wpList_appS Try.elemClass rfl (.tmp 51) (.tmp 52) rfl HyO2.out HyB2.out.size (ys := ivs .u8 two) (by rw [ivs_length, H4.out.len]) ((H4.out.below HBxw5.out (Nat.le_refl _)).below HyB2.out (Nat.le_refl _)).ints.vals H4.out.none_ (ivs_one _ _) (by omega) (by unfold maxLen; omega) rfl rfl ?_)
        intro ya3 yc3 yw3 ho hg _
        have HyO3 := Lib.hid ho; clear ho
        have HyB3 := Lib.hid (HyB2.out.trans (HyO2.out.app hg HyB2.out.size)); clear hg
        go_wp2_with (at_builtin; refine wpList_app1x Try.elemClass rfl (.tmp 53) (.tmp 54) rfl HyO3.out HyB3.out.size (by omega) (by omega) (.int .u8 23) rfl _ rfl rfl ?_)
        intro ya4 yc4 yw4 ho hg _
        have HyO4 := Lib.hid ho; clear ho
        have HyB4 := Lib.hid (HyB3.out.trans (HyO3.out.app hg HyB3.out.size)); clear hg
        go_wp2_with (at_builtin; refine wpList_appS Try.elemClass rfl (.tmp 55) (.tmp 56) rfl HyO4.out HyB4.out.size (ys := ivs .u8 be) (by rw [ivs_length, H2.out.len]) ((H2.out.below HBxw5.out (Nat.le_refl _)).below HyB4.out (Nat.le_refl _)).ints.vals H2.out.none_ (ivs_one _ _) (by omega) (by unfold maxLen; omega) rfl rfl ?_)
        intro ya5 yc5 yw5 ho hg _
        have HyO5 := Lib.hid ho; clear ho
        have HyB5 := Lib.hid (HyB4.out.trans (HyO4.out.app hg HyB4.out.size)); clear hg
        have hglue := HyO5.out
        rw [← glue_eq ah be two kind] at hglue
        have HyX := Lib.hid hglue; clear hglue
        clear HyO1 HyO2 HyO3 HyO4 HyO5 HyB1 HyB2 HyB3 HyB4
        have HByw5 := Lib.hid (below_seq HBxw5.out HyB5.out)
        have HXX := Lib.hid (HxX.out.below HyB5.out (Nat.le_refl _))
        obtain ⟨lx, le, hlv⟩ := levelV_form (glue ah be one kind) b
        have hlv2 : levelV (glue ah be two kind) b = .tuple #[.int .i8 lx, .int .i64 le] := by rw [← hlv]; exact HLv.out.symm
        have HV1 := Lib.hid hlv; clear hlv
        have HV2 := Lib.hid hlv2; clear hlv2
        clear HxX
        go_wp2_with fail
        refine (Level_walk _ _ _ (glue ah be one kind) b yw5 HXX.out.lenI (by omega) HXX.out.ints).mono ?_
        rintro e w2 ⟨rfl, hb⟩
        rw [HV1.out]
        have HYY := Lib.hid (HyX.out.below hb (Nat.le_refl _))
        have HB2 := Lib.hid (below_seq HByw5.out hb); clear hb
        go_wp2_with fail
        refine (Level_walk _ _ _ (glue ah be two kind) b w2 HYY.out.lenI (by omega) HYY.out.ints).mono ?_
        rintro e w3 ⟨rfl, hb⟩
        rw [HV2.out]
        have HB3 := Lib.hid (below_seq HB2.out hb); clear hb
        have bx : (lx == lx) = true := by simp
        have be2 : (le == le) = true := by simp
        go_wp2
        go_ret
        exact ⟨rfl, HB3.out⟩
  · rw [show (decide (begC kind)) = false by simp [hk]]
    clear hk
    go_wp2
    go_ret
    exact ⟨rfl, HB1.out⟩
end Go.Proofs.Ytmcjlkpogcnniaa
