/-
  Walks: 'visual.Line'; no props; the document's own mirror images and line.
-/
import Derived.Test.YtcgdhgdblieaiaaM2
set_option linter.unusedVariables false
namespace Go.Proofs.Ytcgdhgdblieaiaa
open Go.RowKit

theorem mirC_cases (xs zs : List Int) : (mirC xs zs = 0 ∧ okL zs = true ∧ xs.length = zs.length) ∨ ((mirC xs zs = 220 ∨ mirC xs zs = 2) ∧ ¬ (okL zs = true ∧ xs.length = zs.length)) := by
  unfold mirC
  by_cases h : okL zs = true
  · by_cases h2 : xs.length = zs.length
    · exact .inl ⟨by rw [if_pos h, if_pos h2], h, h2⟩
    · exact .inr ⟨.inl (by rw [if_pos h, if_neg h2]), fun h3 => h2 h3.2⟩
  · exact .inr ⟨.inr (by rw [if_neg h]), fun h3 => h h3.1⟩
def lineR (cs : List CharD) (xs zs : List Int) : List Int := if okL zs = true ∧ xs.length = zs.length then pickL (mirL cs xs zs) (ord zs) else []

set_option maxHeartbeats 2000000 in
theorem Line_walk (rest : Int) (a : Option Addr) (n cap : Nat) (cs : List CharD) (a1 : Option Addr) (n1 c1 : Nat) (xs : List Int) (a2 : Option Addr) (n2 c2 : Nat) (zs : List Int) (w : World)
    (hn : cs.length = n) (hm : n ≤ 1048576) (hc : Chars w a cs) (hn1 : xs.length = n1) (hm1 : n1 ≤ 1048576) (hc1 : Ints .i32 w a1 xs) (hn2 : zs.length = n2) (hm2 : n2 ≤ 1048576) (hc2 : Ints .i8 w a2 zs) :
    Calls Try.prog 31 #[.iface 54 (.agg #[.int .u8 rest, .slice a n cap]), .slice a1 n1 c1, .slice a2 n2 c2] w fun e w' =>
      ∃ a' n' c', e = .returned (.tuple #[.slice a' n' c', .int .i64 (mirC xs zs)]) ∧ Own w.heap.size 21 w' a' n' c' (ivs .i32 (lineR cs xs zs)) ∧ Below w.heap.size w w' := by
  have HN := Lib.hid hn; clear hn
  have HC := Lib.hid hc; clear hc
  have HN1 := Lib.hid hn1; clear hn1
  have HC1 := Lib.hid hc1; clear hc1
  have HN2 := Lib.hid hn2; clear hn2
  have HC2 := Lib.hid hc2; clear hc2
  go_enter Try.func31, Try.ntmps31
  go_wp2_with fail
  refine (Mirror_walk rest a n cap cs a1 n1 c1 xs a2 n2 c2 zs w HN.out hm HC.out HN1.out hm1 HC1.out HN2.out hm2 HC2.out).mono ?_
  rintro e w1 ⟨aM, nM, cM, rfl, ho, hb⟩
  have HO := Lib.hid ho; clear ho
  have HB := Lib.hid hb; clear hb
  rcases mirC_cases xs zs with ⟨h0, h1, h2⟩ | ⟨h0, h1⟩
  · have HR := Lib.hid (show lineR cs xs zs = pickL (mirL cs xs zs) (ord zs) from if_pos ⟨h1, h2⟩)
    rw [show mirR cs xs zs = mirL cs xs zs from if_pos ⟨h1, h2⟩] at HO
    have hlM := HO.out.lenI
    rw [mirL_length, h2, HN2.out] at hlM
    subst hlM
    have HK := Lib.hid h1
    have HL := Lib.hid (show (mirL cs xs zs).length = n2 by rw [mirL_length, h2]; exact HN2.out)
    have HC0 := Lib.hid h0
    rw [h0]
    clear h0 h1 h2
    go_wp2_with fail
    refine (TurnRune_walk aM a2 cM n2 c2 (mirL cs xs zs) zs w1 HN2.out HL.out hm2 HK.out HO.out.ints (HC2.out.below HB.out (Nat.le_refl _))).mono ?_
    rintro e w2 ⟨aT, nT, cT, rfl, ho, hb⟩
    have HO2 := Lib.hid (ho.mono HB.out.size); clear ho
    have HB2 := Lib.hid (below_seq HB.out hb); clear hb
    go_wp2
    go_ret2
    exact ⟨_, _, _, by rw [HC0.out]; rfl, by rw [HR.out]; exact HO2.out, HB2.out⟩
  · have HR := Lib.hid (show lineR cs xs zs = [] from if_neg h1)
    clear h1
    rcases h0 with h0 | h0
    all_goals
      have HC0 := Lib.hid h0
      rw [h0]
      clear h0
      go_wp2
      go_ret2
      exact ⟨_, _, _, by rw [HC0.out]; rfl, by rw [HR.out]; exact Own.nil _ _ _, HB.out⟩

theorem Mirror_nil (a1 : Option Addr) (n1 c1 : Nat) (a2 : Option Addr) (n2 c2 : Nat) (w : World) :
    Calls Try.prog 30 #[.nilIface, .slice a1 n1 c1, .slice a2 n2 c2] w fun e w' => e = .returned (.tuple #[.slice none 0 0, .int .i64 1]) ∧ w = w' := by
  go_enter Try.func30, Try.ntmps30
  go_wp2
  go_ret2
  exact ⟨rfl, rfl⟩
theorem Line_nil (a1 : Option Addr) (n1 c1 : Nat) (a2 : Option Addr) (n2 c2 : Nat) (w : World) :
    Calls Try.prog 31 #[.nilIface, .slice a1 n1 c1, .slice a2 n2 c2] w fun e w' => e = .returned (.tuple #[.slice none 0 0, .int .i64 1]) ∧ w = w' := by
  go_enter Try.func31, Try.ntmps31
  go_wp2_with fail
  refine (Mirror_nil a1 n1 c1 a2 n2 c2 w).mono ?_
  rintro e w' ⟨rfl, rfl⟩
  go_wp2
  go_ret2
  exact ⟨rfl, rfl⟩

def RmR (w : World) (rest : Int) (a : Option Addr) (n cap : Nat) (cs : List CharD) (xs zs : List Int) (u v : Value) (wr : World) : Prop :=
  ∃ (k : Nat) (aO : Option Addr) (m cp : Nat), k ≤ xs.length ∧ u = .slice aO m cp ∧ v = .int .i64 k ∧ Own (w.heap.size + 1) 21 wr aO m cp (ivs .i32 ((mirL cs xs zs).take k)) ∧ PB w rest a n cap wr
theorem mirL_snoc (cs : List CharD) (xs zs : List Int) (k : Nat) (h : k < xs.length) (h2 : k < zs.length) : (mirL cs xs zs).take (k + 1) = (mirL cs xs zs).take k ++ [mirX cs zs[k] xs[k]] := by
  have hl : k < (mirL cs xs zs).length := by rw [mirL_length]; exact h
  rw [List.take_succ_eq_append_getElem hl, mirL_get cs xs zs k h h2]

set_option maxRecDepth 100000 in
set_option maxHeartbeats 4000000 in
theorem rMirror_walk (rest : Int) (a : Option Addr) (n cap : Nat) (cs : List CharD) (a1 : Option Addr) (n1 c1 : Nat) (xs : List Int) (a2 : Option Addr) (n2 c2 : Nat) (zs : List Int) (w : World)
    (hn : cs.length = n) (hm : n ≤ 1048576) (hc : Chars w a cs) (hn1 : xs.length = n1) (hm1 : n1 ≤ 1048576) (hc1 : Ints .i32 w a1 xs) (hn2 : zs.length = n2) (hm2 : n2 ≤ 1048576) (hc2 : Ints .i8 w a2 zs) :
    Calls Try.prog 32 #[.agg #[.int .u8 rest, .slice a n cap], .slice a1 n1 c1, .slice a2 n2 c2] w fun e w' =>
      ∃ a' n' c', e = .returned (.tuple #[.slice a' n' c', .int .i64 (mirC xs zs)]) ∧ Own w.heap.size 21 w' a' n' c' (ivs .i32 (mirR cs xs zs)) ∧ Below w.heap.size w w' := by
  have HN := Lib.hid hn; clear hn
  have HC := Lib.hid hc; clear hc
  have HN1 := Lib.hid hn1; clear hn1
  have HC1 := Lib.hid hc1; clear hc1
  have HN2 := Lib.hid hn2; clear hn2
  have HC2 := Lib.hid hc2; clear hc2
  have HST := Lib.hid (PB.start w rest a n cap)
  have HSz := Lib.hid (show w.heap.size + 1 ≤ (w.alloc (.cells #[.int .u8 rest, .slice a n cap] 54)).heap.size by simp)
  have HB0 := Lib.hid HST.out.below
  go_enter Try.func32, Try.ntmps32
  go_wp2_with fail
  refine (Check_walk a2 n2 c2 zs _ HN2.out hm2 (HC2.out.below HB0.out (Nat.le_refl _))).mono ?_
  rintro e w' ⟨rfl, rfl⟩
  by_cases hok : okL zs = true
  · have HK := Lib.hid hok
    rw [show mayN zs = 0 from if_pos hok]
    clear hok
    by_cases hl : n1 = n2
    · subst hl
      have hnn : ((n1 : Int) != (n1 : Int)) = false := by simp
      have HC0 := Lib.hid (show mirC xs zs = 0 by unfold mirC; rw [if_pos HK.out, if_pos (by rw [HN1.out, HN2.out])])
      have HR0 := Lib.hid (show mirR cs xs zs = mirL cs xs zs from if_pos ⟨HK.out, by rw [HN1.out, HN2.out]⟩)
      go_wp2
      go_loopw [9, 10] (RmR w rest a n cap cs xs zs) (fun _ i _ => n1 - (intOf i).toNat)
      case atStart => exact ⟨0, none, 0, 0, Nat.zero_le _, rfl, rfl, Own.nil _ _ _, HST.out⟩
      case round =>
        obtain ⟨k, aO, m, cp, hk, rfl, rfl, hown, hpb⟩ := hrel
        have hkn : k ≤ n1 := by rw [← HN1.out]; exact hk
        clear hk hnn
        have HO := Lib.hid hown; clear hown
        have HP := Lib.hid hpb; clear hpb
        have HB := Lib.hid HP.out.below
        have hblt : w.heap.size < wr.heap.size := (Array.getElem?_eq_some_iff.1 HP.out.blk).1
        by_cases hlt : k < n1
        · have hk1 : k < xs.length := by rw [HN1.out]; exact hlt
          have hk2 : k < zs.length := by rw [HN2.out]; exact hlt
          have hki : (k : Int) < (n1 : Int) := by omega
          obtain ⟨b1, o1, ha1⟩ := HC1.out.some (by omega)
          subst ha1
          obtain ⟨b2, o2, ha2⟩ := HC2.out.some (by omega)
          subst ha2
          have r1 := (HC1.out.below HB.out (Nat.le_refl _)).get k hk1
          have r2 := (HC2.out.below HB.out (Nat.le_refl _)).get k hk2
          have hlm := HO.out.lenI
          rw [List.length_take, mirL_length] at hlm
          have hmk : m = k := by omega
          subst hmk
          have HSn := Lib.hid (mirL_snoc cs xs zs m hk1 hk2)
          have HZ := Lib.hid (okL_get zs HK.out m hk2)
          generalize xs[m] = x at *
          generalize zs[m] = z at *
          clear hk1 hk2 hlm
          by_cases hz : z < 0
          · have HE := Lib.hid (show mirX cs z x = x from if_neg (by omega))
            have hz' : ¬ 0 ≤ z := by omega
            go_wp2_with (at_builtin; refine wpList_app1 Try.elemRune rfl (.tmp 56) (.tmp 58) rfl HO.out (hblt) (by omega) (by omega) _ rfl _ rfl rfl ?_)
            intro a9 c9 w9 ho9 hg9
            have HO9 := Lib.hid ho9
            have HP9 := Lib.hid (HP.out.next1 (HO.out.app hg9 (hblt)))
            clear ho9 hg9
            go_wp2
            go_roundw
            case rel =>
              refine ⟨m + 1, _, _, _, by have := HN1.out; omega, rfl, by go_num, ?_, HP9.out⟩
              rw [HSn.out, ivs_append, HE.out]
              exact HO9.out
            case measure => simp [intOf]; omega
          · have htm := tmod_two (z := z) (by omega)
            have hz' : 0 ≤ z := by omega
            by_cases hz2 : z % 2 = 0
            · have HE := Lib.hid (show mirX cs z x = x from if_neg (by omega))
              rw [hz2] at htm
              clear hz2
              go_wp2_with (at_builtin; refine wpList_app1 Try.elemRune rfl (.tmp 56) (.tmp 58) rfl HO.out (hblt) (by omega) (by omega) _ rfl _ rfl rfl ?_)
              intro a9 c9 w9 ho9 hg9
              have HO9 := Lib.hid ho9
              have HP9 := Lib.hid (HP.out.next1 (HO.out.app hg9 (hblt)))
              clear ho9 hg9
              go_wp2
              go_roundw
              case rel =>
                refine ⟨m + 1, _, _, _, by have := HN1.out; omega, rfl, by go_num, ?_, HP9.out⟩
                rw [HSn.out, ivs_append, HE.out]
                exact HO9.out
              case measure => simp [intOf]; omega
            · have hz3 : z % 2 = 1 := by omega
              rw [hz3] at htm
              have HX := Lib.hid (show mirX cs z x = if (mirV cs (askedR x)).2 = true then (mirV cs (askedR x)).1 else x from if_pos ⟨by omega, hz3⟩)
              clear hz2 hz3
              have p0 := HP.out.c0
              have p1 := HP.out.c1
              go_wp2
              have HBd := Lib.hid (below_drewN HB.out 1)
              have HMi := Lib.hid (PMirror_walk rest a n cap cs (askedR x) wr.drew HN.out (by omega) (HC.out.below HBd.out (Nat.le_refl _)))
              obtain ⟨mm, ok, hmv⟩ : ∃ mm ok, mirV cs (askedR x) = (mm, ok) := ⟨_, _, rfl⟩
              have HMv := Lib.hid hmv; clear hmv
              rw [HMv.out] at HMi HX
              simp only at HMi HX
              have HOw := Lib.hid (fun (w5 : World) (hb : Below wr.drew.heap.size wr.drew w5) => Own.below (w := wr.drew) (World.ownsRow.drew HO.out) hb (Nat.le_refl _))
              have HBv : Hid (∀ (w5 : World) (hb : Below wr.drew.heap.size wr.drew w5), Below (w.heap.size + 1) wr w5) := Lib.hid (fun w5 hb => (below_drewN (Below.refl _ wr) 1).trans (hb.mono hblt))
              have HSw : Hid (∀ (w5 : World) (hb : Below (w.heap.size + 1) wr w5), w5.cell? ⟨w.heap.size, 0, none⟩ = some (.int .u8 rest) ∧ w5.cell? ⟨w.heap.size, 1, none⟩ = some (.slice a n cap)) := Lib.hid (fun w5 hb => ⟨(HP.out.next1 hb).c0, (HP.out.next1 hb).c1⟩)
              go_region_held3 (fun w' : World => w'.cell? ⟨w.heap.size, 0, none⟩ = some (.int .u8 rest) ∧ w'.cell? ⟨w.heap.size, 1, none⟩ = some (.slice a n cap)) (first | exact ⟨p0, p1⟩ | exact HSw.out _ (HBv.out _ hb5)) (first
                | (go_at_call 50; refine (rRune_walk _ _).mono ?_; rintro e w' ⟨rfl, rfl⟩)
                | (go_at_call 49; refine HMi.out.mono ?_; rintro e w5 ⟨rfl, hb5⟩))
              all_goals
                have HO5 := Lib.hid (HOw.out _ hb5)
                have HP5 := Lib.hid (HP.out.next1 (HBv.out _ hb5))
                have hs5 : w.heap.size + 1 ≤ w5.heap.size := Nat.le_trans hblt hb5.size
                clear hb5 p0 p1 r1 r2
                cases ok with
                | true =>
                  rw [if_pos rfl] at HX
                  go_wp2_with (at_builtin; refine wpList_app1 Try.elemRune rfl (.tmp 56) (.tmp 58) rfl HO5.out (hs5) (by omega) (by omega) _ rfl _ rfl rfl ?_)
                  intro a9 c9 w9 ho9 hg9
                  have HO9 := Lib.hid ho9
                  have HP9 := Lib.hid (HP5.out.next1 (HO5.out.app hg9 (hs5)))
                  clear ho9 hg9
                  go_wp2
                  go_roundw
                  case rel =>
                    refine ⟨m + 1, _, _, _, by have := HN1.out; omega, rfl, by go_num, ?_, HP9.out⟩
                    rw [HSn.out, ivs_append, HX.out]
                    exact HO9.out
                  case measure => simp [intOf]; omega
                | false =>
                  rw [if_neg (fun h => by cases h)] at HX
                  go_wp2_with (at_builtin; refine wpList_app1 Try.elemRune rfl (.tmp 56) (.tmp 58) rfl HO5.out (hs5) (by omega) (by omega) _ rfl _ rfl rfl ?_)
                  intro a9 c9 w9 ho9 hg9
                  have HO9 := Lib.hid ho9
                  have HP9 := Lib.hid (HP5.out.next1 (HO5.out.app hg9 (hs5)))
                  clear ho9 hg9
                  go_wp2
                  go_roundw
                  case rel =>
                    refine ⟨m + 1, _, _, _, by have := HN1.out; omega, rfl, by go_num, ?_, HP9.out⟩
                    rw [HSn.out, ivs_append, HX.out]
                    exact HO9.out
                  case measure => simp [intOf]; omega
        · obtain rfl : k = n1 := by omega
          have HT : Hid ((mirL cs xs zs).take k = mirL cs xs zs) := Lib.hid (List.take_of_length_le (by rw [mirL_length]; have := HN1.out; omega))
          go_wp2
          go_ret2
          exact ⟨_, _, _, by rw [HC0.out]; rfl, by rw [HR0.out]; have := HO.out; rw [HT.out] at this; exact this.mono (by omega), HB.out⟩
    · have hnn : ((n1 : Int) != (n2 : Int)) = true := by simpa using fun h => hl (by omega)
      have HC0 := Lib.hid (show mirC xs zs = 220 by unfold mirC; rw [if_pos HK.out, if_neg (by rw [HN1.out, HN2.out]; exact hl)])
      have HR0 := Lib.hid (show mirR cs xs zs = [] from if_neg (fun h => hl (by rw [← HN1.out, ← HN2.out]; exact h.2)))
      go_wp2
      go_ret2
      exact ⟨_, _, _, by rw [HC0.out]; rfl, by rw [HR0.out]; exact Own.nil _ _ _, HB0.out⟩
  · have HC0 := Lib.hid (show mirC xs zs = 2 from if_neg hok)
    have HR0 := Lib.hid (show mirR cs xs zs = [] from if_neg (fun h => hok h.1))
    rw [show mayN zs = 2 from if_neg hok]
    go_wp2
    go_ret2
    exact ⟨_, _, _, by rw [HC0.out]; rfl, by rw [HR0.out]; exact Own.nil _ _ _, HB0.out⟩

set_option maxHeartbeats 2000000 in
theorem rLine_walk (rest : Int) (a : Option Addr) (n cap : Nat) (cs : List CharD) (a1 : Option Addr) (n1 c1 : Nat) (xs : List Int) (a2 : Option Addr) (n2 c2 : Nat) (zs : List Int) (w : World)
    (hn : cs.length = n) (hm : n ≤ 1048576) (hc : Chars w a cs) (hn1 : xs.length = n1) (hm1 : n1 ≤ 1048576) (hc1 : Ints .i32 w a1 xs) (hn2 : zs.length = n2) (hm2 : n2 ≤ 1048576) (hc2 : Ints .i8 w a2 zs) :
    Calls Try.prog 33 #[.agg #[.int .u8 rest, .slice a n cap], .slice a1 n1 c1, .slice a2 n2 c2] w fun e w' =>
      ∃ a' n' c', e = .returned (.tuple #[.slice a' n' c', .int .i64 (mirC xs zs)]) ∧ Own w.heap.size 21 w' a' n' c' (ivs .i32 (lineR cs xs zs)) ∧ Below w.heap.size w w' := by
  have HN := Lib.hid hn; clear hn
  have HC := Lib.hid hc; clear hc
  have HN1 := Lib.hid hn1; clear hn1
  have HC1 := Lib.hid hc1; clear hc1
  have HN2 := Lib.hid hn2; clear hn2
  have HC2 := Lib.hid hc2; clear hc2
  have HST := Lib.hid (PB.start w rest a n cap)
  have HB0 := Lib.hid HST.out.below
  have p0 := HST.out.c0
  have p1 := HST.out.c1
  go_enter Try.func33, Try.ntmps33
  go_wp2_with fail
  refine (rMirror_walk rest a n cap cs a1 n1 c1 xs a2 n2 c2 zs _ HN.out hm (HC.out.below HB0.out (Nat.le_refl _)) HN1.out hm1 (HC1.out.below HB0.out (Nat.le_refl _)) HN2.out hm2 (HC2.out.below HB0.out (Nat.le_refl _))).mono ?_
  rintro e w1 ⟨aM, nM, cM, rfl, ho, hb⟩
  have HB := Lib.hid (below_seq HB0.out hb); clear hb
  have HO := Lib.hid (ho.mono HB0.out.size); clear ho p0 p1
  rcases mirC_cases xs zs with ⟨h0, h1, h2⟩ | ⟨h0, h1⟩
  · have HR := Lib.hid (show lineR cs xs zs = pickL (mirL cs xs zs) (ord zs) from if_pos ⟨h1, h2⟩)
    rw [show mirR cs xs zs = mirL cs xs zs from if_pos ⟨h1, h2⟩] at HO
    have hlM := HO.out.lenI
    rw [mirL_length, h2, HN2.out] at hlM
    subst hlM
    have HK := Lib.hid h1
    have HL := Lib.hid (show (mirL cs xs zs).length = n2 by rw [mirL_length, h2]; exact HN2.out)
    have HC0 := Lib.hid h0
    rw [h0]
    clear h0 h1 h2
    generalize mirL cs xs zs = ms at *
    go_wp2_with fail
    refine (rOrder_walk a2 n2 c2 zs w1 HN2.out hm2 HK.out (HC2.out.below HB.out (Nat.le_refl _))).mono ?_
    rintro e w2 ⟨aO, nO, cO, rfl, hown, hb⟩
    have hl2 : nO ≤ n2 := by have := hown.lenI; have := ord_le zs; have := HN2.out; omega
    have HO2 := Lib.hid hown; clear hown
    have HB2 := Lib.hid hb
    have HI1 := Lib.hid (HO.out.ints.below hb (Nat.le_refl _)); clear hb
    go_wp2
    go_loopw [11, 12] (TurnR w2 .i32 21 ms (ord zs)) (fun _ i _ => nO - (intOf i).toNat)
    case atStart => exact ⟨0, Nat.zero_le _, rfl, none, 0, 0, rfl, Own.nil _ _ _, Below.refl _ _⟩
    case round =>
      obtain ⟨k, hk, rfl, a', n', cap', rfl, hown, hbel⟩ := hrel
      have hl := hown.lenI
      rw [pickL_length] at hl
      have hl' := HO2.out.lenI
      have hn' : n' ≤ nO := by have := List.length_take_le' k (ord zs); omega
      clear hl
      have HO1 := Lib.hid hown; clear hown
      have HB1 := Lib.hid hbel; clear hbel
      by_cases hlt : k < nO
      · have hko : k < (ord zs).length := by omega
        obtain ⟨x, hxe, hxl⟩ := ord_nonneg zs k hko
        obtain ⟨g, ha, _⟩ := HO2.out.at (by omega)
        subst ha
        have e1 := (HO2.out.ints.below HB1.out (Nat.le_refl _)).get k hko
        rw [hxe] at e1
        simp only [Nat.zero_add] at e1
        have hx1 : x < ms.length := by have := HL.out; have := HN2.out; omega
        obtain ⟨b, o, ha⟩ := HI1.out.some (by omega)
        subst ha
        have e2 := (HI1.out.below HB1.out (Nat.le_refl _)).get x hx1
        have hxn : x < n2 := by have := HN2.out; omega
        have HS := Lib.hid (pickL_snoc ms (ord zs) k hko)
        have HE := Lib.hid hxe; clear hxe
        have HL' := Lib.hid hl'; clear hl'
        go_wp2_with (at_builtin; refine wpList_app1 Try.elemRune rfl (.tmp 31) (.tmp 39) rfl HO1.out HB1.out.size (by omega) (by omega) _ rfl _ rfl rfl ?_)
        intro a3 cap3 w3 hown3 hg
        have HO3 := Lib.hid hown3; clear hown3
        have HG := Lib.hid (HO1.out.app hg HB1.out.size); clear hg
        go_wp2
        go_roundw
        case rel =>
          refine ⟨k + 1, by have := HL'.out; omega, by go_num, _, _, _, rfl, ?_, HB1.out.trans HG.out⟩
          rw [HS.out, HE.out, ivs_append]
          have e : ivs .i32 [ms.getD ((x : Int)).toNat 0] = [.int .i32 ms[x]] := by simp [ivs, hx1]
          rw [e]
          exact HO3.out
        case measure => simp [intOf]; omega
      · have hk2 : (ord zs).take k = ord zs := List.take_of_length_le (by omega)
        clear hl'
        have HK2 := Lib.hid hk2; clear hk2
        go_wp2
        go_ret2
        refine ⟨_, _, _, by rw [HC0.out]; rfl, ?_, below_seq (below_seq HB.out HB2.out) HB1.out⟩
        rw [HR.out]
        have := HO1.out
        rw [HK2.out] at this
        exact this.mono (by have := HB.out.size; have := HB2.out.size; omega)
  · have HR := Lib.hid (show lineR cs xs zs = [] from if_neg h1)
    clear h1
    rcases h0 with h0 | h0
    all_goals
      have HC0 := Lib.hid h0
      rw [h0]
      clear h0
      go_wp2
      go_ret2
      exact ⟨_, _, _, by rw [HC0.out]; rfl, by rw [HR.out]; exact Own.nil _ _ _, HB.out⟩
end Go.Proofs.Ytcgdhgdblieaiaa
