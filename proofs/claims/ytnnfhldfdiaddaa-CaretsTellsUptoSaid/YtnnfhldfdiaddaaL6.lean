/-
  Walks: a list copied; a line made.
-/
import Derived.Test.YtnnfhldfdiaddaaL5
import Derived.Test.YtnnfhldfdiaddaaBase2
import Derived.Deep.RegionLaw
set_option linter.unusedVariables false
namespace Go.Proofs.Ytnnfhldfdiaddaa
open Go.RowKit

theorem one_vals (w : World) (u : Value) (E : TypeId) : Vals (w.alloc (.cells #[u] E)).drew (some ⟨w.heap.size, 0, none⟩) [u] := by
  intro i hi
  have hi0 : i = 0 := by simp at hi; exact hi
  subst hi0
  refine ⟨w.heap.size, 0, rfl, ?_⟩
  have := cell_of_row (w.alloc (.cells #[u] E)) w.heap.size 0 #[u] E (0, 0) (heap_alloc_new w _)
  exact this
/-- 'slices.Clone' of levels -/
theorem Clone_walk (a : Option Addr) (n cap : Nat) (zs : List Int) (w : World) (hn : zs.length = n) (hlt : n ≤ 1048576) (hc : Ints .i8 w a zs) :
    Calls Try.prog 35 #[.slice a n cap] w fun e w' => ∃ a' cap', e = .returned (.slice a' n cap') ∧ Own w.heap.size 23 w' a' n cap' (ivs .i8 zs) ∧ Below w.heap.size w w' := by
  cases a with
  | none =>
    have hz : zs = [] := by
      cases zs with
      | nil => rfl
      | cons y t => obtain ⟨b, o, hbad, _⟩ := hc 0 (by simp); simp at hbad
    subst hz
    obtain rfl : n = 0 := by simpa using hn.symm
    have hnil : ∀ w : World, (binOp .eql 24 (.slice none 0 cap) (.slice none 0 0)).run Try.prog w = .ok (.bool true) w := fun w => Lib.run_eql_slice_nil w _ _ _ _ _ _ _ Try.underlying24
    clear hn
    go_enter Try.func35, Try.ntmps35
    go_wp2
    go_ret
    exact ⟨_, _, rfl, Own.nil _ _ _, Below.refl _ _⟩
  | some ad =>
    have hnil : ∀ w : World, (binOp .eql 24 (.slice (some ad) n cap) (.slice none 0 0)).run Try.prog w = .ok (.bool false) w := fun w => Lib.run_eql_slice_nil w _ _ _ _ _ _ _ Try.underlying24
    have HN := Lib.hid hn; clear hn
    have HO : Hid (Own w.heap.size 23 (w.alloc (.cells #[] 23)) (some ⟨w.heap.size, 0, none⟩) 0 0 []) := Lib.hid (Own.lit w #[] (Nat.le_refl _) (Nat.zero_le _))
    have HV := Lib.hid (hc.below ((Below.refl _ w).alloc (Nat.le_refl _) (.cells #[] 23)) (Nat.le_refl _)).vals
    go_enter Try.func35, Try.ntmps35
    go_wp2_with (at_builtin; refine wpList_appS Try.elemLevel rfl (.tmp 5) (.tmp 6) rfl HO.out (by simp) (by rw [ivs_length]; exact HN.out) HV.out (by simp) (ivs_one _ _) (by omega) (by unfold maxLen; omega) rfl rfl ?_)
    intro a2 cap2 w2 hown2 hg hb
    have hB : Below w.heap.size w w2 := ((Below.refl _ w).alloc (Nat.le_refl _) (.cells #[] 23)).trans (HO.out.app hg (by simp))
    have HB := Lib.hid hB; clear hB hg hb
    have HO2 : Hid (Own w.heap.size 23 w2 a2 n cap2 (ivs .i8 zs)) := by
      refine Lib.hid ?_
      simpa using hown2
    clear hown2
    go_wp2
    go_ret
    exact ⟨_, _, rfl, HO2.out, HB.out⟩

/-- 'visual.Order' of levels that may not be -/
theorem Order_bad (a : Option Addr) (n cap : Nat) (zs : List Int) (w : World) (hn : zs.length = n) (hlt : n ≤ 1048576) (hok : okL zs = false) (hc : Ints .i8 w a zs) :
    Calls Try.prog 18 #[.slice a n cap] w fun e w' => e = .returned (.tuple #[.slice none 0 0, .int .i64 2]) ∧ w = w' := by
  have HN := Lib.hid hn; clear hn
  have hm : mayN zs = 2 := by unfold mayN; rw [hok]; rfl
  have HM := Lib.hid hm; clear hm hok
  go_enter Try.func18, Try.ntmps18
  go_wp2_with fail
  refine (vmay_walk a n cap zs _ HN.out hlt hc).mono ?_
  rintro e w' ⟨rfl, rfl⟩
  rw [HM.out]
  go_wp2
  go_ret2
  exact ⟨rfl, rfl⟩

/-- why a line may not be made; 0: it may -/
def newErr (base : Int) (lv ws : List Int) : Int :=
  if base ≠ 0 ∧ base ≠ 1 then 160 else if okL lv = false then 2 else if ¬ ∀ x ∈ lv, x ≠ -1 → base ≤ x then 2 else if ws.length ≠ lv.length then 220 else if ¬ ∀ x ∈ ws, 0 ≤ x ∧ x ≤ 1048576 then 251 else 0

theorem newErr_ok {base : Int} {lv ws : List Int} (h : LineOk base lv ws) : newErr base lv ws = 0 := by
  unfold newErr
  rw [if_neg (by rcases h.h01 with h | h <;> omega), if_neg (by simp [h.ok]), if_neg (by simpa using h.above), if_neg (by simpa using h.widths), if_neg (by simpa using h.range)]

def NewA (base : Int) (lv : List Int) (n : Nat) (v : Value) : Prop := ∃ k : Nat, k ≤ n ∧ v = .int .i64 k ∧ ∀ x ∈ lv.take k, x ≠ -1 → base ≤ x
def NewB (ws : List Int) (m : Nat) (v : Value) : Prop := ∃ k : Nat, k ≤ m ∧ v = .int .i64 k ∧ ∀ x ∈ ws.take k, 0 ≤ x ∧ x ≤ 1048576
def NewC (w4 : World) (base : Int) (n m : Nat) (aL : Option Addr) (cL : Nat) (aO : Option Addr) (cO : Nat) (aA : Option Addr) (cA : Nat) (ws o : List Int) (v : Value) (wr : World) : Prop :=
  ∃ (k : Nat) (aC : Option Addr) (cC : Nat), k ≤ m ∧ v = .int .i64 k ∧
    wr.heap[w4.heap.size + 1]? = some (.cells #[.int .i8 base, .slice aL n cL, .slice aO m cO, .slice aA n cA, .slice aC (k + 1) cC] 64 (0, 0)) ∧
    Own w4.heap.size 3 wr aC (k + 1) cC (ivs .i64 ((List.range (k + 1)).map (fun j => colAt ws o j))) ∧ (Value.slice aC (k + 1) cC).ownBlock ≠ some (w4.heap.size + 1) ∧ Below w4.heap.size w4 wr
theorem NewC_step {w4 wr w9 : World} {base : Int} {n m : Nat} {aL : Option Addr} {cL : Nat} {aO : Option Addr} {cO : Nat} {aA : Option Addr} {cA : Nat} {ws o : List Int} {k gC cC : Nat} {ob : Obj} {a9 : Option Addr} {c9 : Nat} {y : Int}
    (HB : Below w4.heap.size w4 wr) (hgl : w4.heap.size + 1 < wr.heap.size) (HO : Own w4.heap.size 3 wr (some ⟨gC, 0, none⟩) (k + 1) cC (ivs .i64 ((List.range (k + 1)).map (fun j => colAt ws o j)))) (hgne : gC ≠ w4.heap.size + 1)
    (ho9 : Own w4.heap.size 3 w9 a9 (k + 1 + 1) c9 (ivs .i64 ((List.range (k + 1)).map (fun j => colAt ws o j)) ++ [.int .i64 y])) (hg9 : (wr.alloc ob).drew.grownBy w9 (Value.slice (some ⟨gC, 0, none⟩) (k + 1) cC).ownBlock)
    (hb9 : newBlock (wr.alloc ob).drew (.slice (some ⟨gC, 0, none⟩) (k + 1) cC) (.slice a9 (k + 1 + 1) c9))
    (hbl9 : w9.heap[w4.heap.size + 1]? = some (.cells #[.int .i8 base, .slice aL n cL, .slice aO m cO, .slice aA n cA, .slice (some ⟨gC, 0, none⟩) (k + 1) cC] 64 (0, 0)))
    (HLs : (List.range (k + 1 + 1)).map (fun j => colAt ws o j) = (List.range (k + 1)).map (fun j => colAt ws o j) ++ [y]) (hk : k + 1 ≤ m) :
    NewC w4 base n m aL cL aO cO aA cA ws o (.int .i64 ((k + 1 : Nat) : Int)) (w9.setCell ⟨w4.heap.size + 1, 4, none⟩ (.slice a9 (k + 1 + 1) c9)) := by
  have hne : (Value.slice a9 (k + 1 + 1) c9).ownBlock ≠ some (w4.heap.size + 1) := by
    rcases hb9 with h | ⟨g9, h, h2⟩
    · rw [h]; simp [Value.ownBlock]; exact hgne
    · rw [h]; intro e; simp at e h2; omega
  refine ⟨k + 1, a9, c9, hk, rfl, ?_, ?_, hne, ?_⟩
  · have := heap_setCell_same w9 (w4.heap.size + 1) 4 _ _ (.slice a9 (k + 1 + 1) c9) hbl9
    rw [this]
    simp
  · rw [HLs, ivs_append]
    exact ho9.grown (grown_store w9 (w4.heap.size + 1) 4 _) (.inr hne)
  · have h1 : Below w4.heap.size w4 (wr.alloc ob).drew := (HB.alloc HB.size ob).drew
    have h2 : Below w4.heap.size (wr.alloc ob).drew w9 := Below.ofGrown hg9 h1.size HO.blk
    exact (h1.trans h2).setCell (by simp) _
def NewPost (base : Int) (lv ws : List Int) (w : World) (e : Ending) (w' : World) : Prop :=
  (LineOk base lv ws ∧ ∃ g, e = .returned (.tuple #[.pointer (some ⟨g, 0, none⟩), .int .i64 0]) ∧ IsLine w' g base lv ws ∧ w.heap.size ≤ g ∧ Below w.heap.size w w') ∨
  (newErr base lv ws ≠ 0 ∧ e = .returned (.tuple #[.pointer none, .int .i64 (newErr base lv ws)]) ∧ Below w.heap.size w w')

theorem take_all {P : Int → Prop} {l : List Int} {k : Nat} (hk : k < l.length) (h : ∀ x ∈ l.take k, P x) (hx : P l[k]) : ∀ x ∈ l.take (k + 1), P x := by
  rw [List.take_succ_eq_append_getElem hk]
  intro x hm
  rcases List.mem_append.1 hm with hm | hm
  · exact h x hm
  · simp at hm; subst hm; exact hx

set_option maxHeartbeats 1000000 in
theorem New_at_0 (a a1 : Option Addr) (n cap n1 cap1 : Nat) (lv ws : List Int) (w : World) (HN : Hid (lv.length = n)) (HN1 : Hid (ws.length = n1)) (hlt : n ≤ 1048576) (hlt1 : n1 ≤ 9223372036854775807) (HK : Hid (okL lv = true)) (hc : Ints .i8 w a lv) (hc1 : Ints .i64 w a1 ws) :
    Calls Try.prog 17 #[.int .i8 0, .slice a n cap, .slice a1 n1 cap1] w (NewPost 0 lv ws w) := by
  go_enter Try.func17, Try.ntmps17
  go_wp2_with fail
  refine (Order_walk a n cap lv _ HN.out hlt HK.out hc).mono ?_
  rintro e w1 ⟨aO, m, cO, rfl, hown1, hb1⟩
  have hm := Lib.hid hown1.lenI
  have hmn : m ≤ n := by have := hown1.lenI; have := ord_le lv; have := HN.out; omega
  have HO1 := Lib.hid hown1; clear hown1
  have HB1 := Lib.hid hb1; clear hb1
  have HC1 := Lib.hid (hc.below HB1.out (Nat.le_refl _))
  have HC1w := Lib.hid (hc1.below HB1.out (Nat.le_refl _))
  go_wp2
  go_loop [34] (NewA 0 lv n) (fun v => n - (intOf v).toNat)
  case atStart => exact ⟨0, Nat.zero_le _, rfl, by simp⟩
  case round =>
    obtain ⟨k, hk, rfl, hall⟩ := hrel
    have HA := Lib.hid hall; clear hall
    by_cases hkn : k < n
    · have hkl : k < lv.length := by rw [HN.out]; exact hkn
      obtain ⟨b, o, ha⟩ := HC1.out.some (by omega)
      subst ha
      have c0 := HC1.out.get k hkl
      have hz := okL_get lv HK.out k hkl
      by_cases hgone : lv[k] = -1
      · have HT := Lib.hid (take_all hkl HA.out (fun h => absurd hgone h))
        rw [hgone] at c0
        clear hgone
        go_wp2
        go_round
        case rel => exact ⟨k + 1, by omega, by go_num, HT.out⟩
        case measure => simp [intOf]; omega
      · have hne : (lv[k] != -1) = true := by simp [hgone]
        by_cases hlo : lv[k] < 0
        · have HE : Hid (newErr 0 lv ws = 2) := by
            refine Lib.hid ?_
            unfold newErr
            rw [if_neg (by omega), if_neg (by rw [HK.out]; simp), if_pos (fun h => by have := h _ (List.getElem_mem hkl) hgone; omega)]
          clear hgone
          generalize lv[k] = x at *
          go_wp2
          go_ret2
          exact .inr ⟨by rw [HE.out]; omega, by rw [HE.out]; rfl, HB1.out⟩
        · have HT := Lib.hid (take_all hkl HA.out (fun _ => by omega))
          clear hgone
          generalize lv[k] = x at *
          go_wp2
          go_round
          case rel => exact ⟨k + 1, by omega, by go_num, HT.out⟩
          case measure => simp [intOf]; omega
    · rw [List.take_of_length_le (by have := HN.out; omega)] at HA
      by_cases hlen : n1 = n
      · subst hlen
        have hne : ((n1 : Int) != (n1 : Int)) = false := by simp
        go_wp2
        go_loop [53] (NewB ws n1) (fun v => n1 - (intOf v).toNat)
        case atStart => exact ⟨0, Nat.zero_le _, rfl, by simp⟩
        case round =>
          obtain ⟨k, hk, rfl, hall⟩ := hrel
          have HA2 := Lib.hid hall; clear hall
          by_cases hkn : k < n1
          · have hkl : k < ws.length := by rw [HN1.out]; exact hkn
            obtain ⟨b, o, ha⟩ := HC1w.out.some (by omega)
            subst ha
            have c0 := HC1w.out.get k hkl
            by_cases hr : 0 ≤ ws[k] ∧ ws[k] ≤ 1048576
            · have HT := Lib.hid (take_all hkl HA2.out hr)
              obtain ⟨hr0, hr1⟩ := hr
              generalize ws[k] = x at *
              go_wp2
              go_round
              case rel => exact ⟨k + 1, by omega, by go_num, HT.out⟩
              case measure => simp [intOf]; omega
            · have HE : Hid (newErr 0 lv ws = 251) := by
                refine Lib.hid ?_
                unfold newErr
                rw [if_neg (by omega), if_neg (by rw [HK.out]; simp), if_neg (fun h => h HA.out), if_neg (by rw [HN.out, HN1.out]; simp), if_pos (fun h => hr (h _ (List.getElem_mem hkl)))]
              have hr2 : ws[k] < 0 ∨ (¬ ws[k] < 0 ∧ 1048576 < ws[k]) := by omega
              clear hr
              generalize ws[k] = x at *
              rcases hr2 with hr2 | ⟨hr2, hr3⟩
              all_goals
                go_wp2
                go_ret2
                exact .inr ⟨by rw [HE.out]; omega, by rw [HE.out]; rfl, HB1.out⟩
          · rw [List.take_of_length_le (by have := HN1.out; omega)] at HA2
            have hL : LineOk 0 lv ws := ⟨by omega, HK.out, HA.out, by rw [HN.out, HN1.out], HA2.out, by rw [HN.out]; exact hlt⟩
            have HL := Lib.hid hL; clear hL
            go_wp2_with fail
            refine (Places_walk a n1 cap lv _ HN.out hlt HK.out HC1.out).mono ?_
            rintro e w2 ⟨aA, n3, cA, rfl, hown2, hb2⟩
            obtain rfl : n1 = n3 := by have := hown2.lenI; rw [placesL_length] at this; have := HN.out; omega
            have HO2 := Lib.hid hown2; clear hown2
            have HB2 := Lib.hid hb2; clear hb2
            have HC2 := Lib.hid (HC1.out.below HB2.out (Nat.le_refl _))
            go_wp2_with fail
            refine (Clone_walk a n1 cap lv _ HN.out hlt HC2.out).mono ?_
            rintro e w4 ⟨aL, cL, rfl, hown4, hb4⟩
            have HO4 := Lib.hid hown4; clear hown4
            have HB4 := Lib.hid hb4; clear hb4
            have HB14 := Lib.hid (below_seq HB1.out (below_seq HB2.out HB4.out))
            have HIO := Lib.hid ((HO1.out.ints.below HB2.out (Nat.le_refl _)).below HB4.out (Nat.le_refl _))
            have HIA := Lib.hid (HO2.out.ints.below HB4.out (Nat.le_refl _))
            have HIL := Lib.hid HO4.out.ints
            have HIW := Lib.hid ((HC1w.out.below HB2.out (Nat.le_refl _)).below HB4.out (Nat.le_refl _))
            go_wp2
            go_loopw [82] (NewC w4 0 n1 m aL cL aO cO aA cA ws (ord lv)) (fun v _ => m - (intOf v).toNat)
            case atStart =>
              refine ⟨0, some ⟨w4.heap.size, 0, none⟩, 1, Nat.zero_le _, rfl, ?_, ?_, ?_, ?_⟩
              · have := heap_alloc_new (w4.alloc (.cells #[.int .i64 0] 3)) (.cells #[.int .i8 0, .slice aL n1 cL, .slice aO m cO, .slice aA n1 cA, .slice (some ⟨w4.heap.size, 0, none⟩) 1 1] 64)
                simpa using this
              · have h1 : Own w4.heap.size 3 (w4.alloc (.cells #[.int .i64 0] 3)) (some ⟨w4.heap.size, 0, none⟩) 1 1 [.int .i64 0] := Own.lit w4 #[.int .i64 0] (Nat.le_refl _) (by simp [maxLen])
                have h2 := World.ownsRow.alloc h1 (.cells #[.int .i8 0, .slice aL n1 cL, .slice aO m cO, .slice aA n1 cA, .slice (some ⟨w4.heap.size, 0, none⟩) 1 1] 64)
                simpa [Own, ivs, colAt_zero] using h2
              · simp [Value.ownBlock]
              · go_grown
            case round =>
              obtain ⟨k, aC, cC, hk, rfl, hblk, hown, hne2, hbel⟩ := hrel
              have HB := Lib.hid hbel
              have hlen := hown.len
              obtain ⟨gC, ha, hgC1, hgC2, hcC, _⟩ := hown.at (by omega)
              subst ha
              have hgl : w4.heap.size + 1 < wr.heap.size := (Array.getElem?_eq_some_iff.1 hblk).1
              have hgne : gC ≠ w4.heap.size + 1 := by simpa [Value.ownBlock] using hne2
              by_cases hkm : k < m
              · have hko : k < (ord lv).length := by rw [hm.out]; exact hkm
                obtain ⟨x, hxe, hxl⟩ := ord_nonneg lv k hko
                obtain ⟨bO, oO, ha⟩ := HIO.out.some (by omega)
                subst ha
                have cO1 := (HIO.out.below hbel (Nat.le_refl _)).get k hko
                rw [hxe] at cO1
                have hxw : x < ws.length := by rw [HN1.out, ← HN.out]; exact hxl
                obtain ⟨bW, oW, ha⟩ := HIW.out.some (by omega)
                subst ha
                have cW := (HIW.out.below hbel (Nat.le_refl _)).get x hxw
                have cC1 := hown.cell k (by rw [ivs_length]; simp)
                rw [show (ivs .i64 ((List.range (k + 1)).map (fun j => colAt ws (ord lv) j)))[k]'(by rw [ivs_length]; simp) = .int .i64 (colAt ws (ord lv) k) from by simp [ivs]] at cC1
                have k4 := cell_of_row wr (w4.heap.size + 1) 4 _ _ (0, 0) hblk
                simp at k4
                have f4 := frozen_of_row wr (w4.heap.size + 1) 4 _ _ hblk
                have hsu := colAt_succ ws (ord lv) k hko
                rw [hxe] at hsu
                have hb1 := colAt_mono HL.out.range (ord lv) k
                have hb2 := ws_getD HL.out.range x
                have hx2 : ws.getD ((x : Int)).toNat 0 = ws[x] := by simp [hxw]
                rw [hx2] at hsu
                rw [show ws.getD x 0 = ws[x] by simp [hxw]] at hb2
                have hxn : x < n1 := by rw [← HN.out]; exact hxl
                obtain ⟨hb10, hb11⟩ := hb1
                obtain ⟨hb20, hb21⟩ := hb2
                have HLs := Lib.hid (show (List.range (k + 1 + 1)).map (fun j => colAt ws (ord lv) j) = (List.range (k + 1)).map (fun j => colAt ws (ord lv) j) ++ [colAt ws (ord lv) k + ws[x]] from by rw [List.range_succ, List.map_append, ← hsu]; simp)
                generalize colAt ws (ord lv) k = y at *
                generalize ws[x] = z at *
                have hkb : (k : Int) ≤ 1048576 := by omega
                have hwr : IntKind.i64.wrap (y + z) = y + z := IntWalk.i64_in _ (by omega)
                have hbnd1 : (k + 1 + 1) * 8 ≤ 140737488355328 := by omega
                have hbnd2 : k + 1 + 1 ≤ maxLen := by unfold maxLen; omega
                have hkk1 : (k : Int) < (k : Int) + 1 := by omega
                have hxb : (x : Int) < (n1 : Int) := by omega
                have hyz0 : 0 ≤ y + z := by omega
                have hyz1 : y + z ≤ 2199023255552 := by have : (k : Int) * 1048576 ≤ 1048576 * 1048576 := by omega
                                                        omega
                have HO := Lib.hid hown
                have HBK := Lib.hid hblk
                have HNE := Lib.hid hne2
                clear hown hblk hne2 hbel hxe hx2 hsu hko hxl hxw hlen
                go_wp2
                have hblk5 : ∀ o : Obj, (wr.alloc o).drew.heap[w4.heap.size + 1]? = some (.cells #[.int .i8 0, .slice aL n1 cL, .slice (some ⟨bO, oO, none⟩) m cO, .slice aA n1 cA, .slice (some ⟨gC, 0, none⟩) (k + 1) cC] 64 (0, 0)) := fun o => by
                  have := Below.heap_alloc wr o (w4.heap.size + 1) hgl
                  exact this.trans HBK.out
                have HB5 := Lib.hid hblk5; clear hblk5
                go_region_law (refine step_appS Try.elemInt rfl (.tmp 91) (.tmp 104) rfl (World.ownsRow.drew (World.ownsRow.alloc HO.out _)) (by have := HB.out.size; simp; omega) (ys := [.int .i64 (y + z)]) rfl (one_vals wr _ _) (by simp) (by intro u hu; simp at hu; subst hu; rfl) hbnd1 hbnd2 rfl rfl ?_; intro a9 c9 w9 ho9 hg9 hb9; have hbl9 := (hg9.block (w4.heap.size + 1) (by simp; omega) (fun e => HNE.out e.symm)).trans (HB5.out _); have k9 := cell_of_row w9 (w4.heap.size + 1) 4 _ _ (0, 0) hbl9; simp at k9; have f9 := frozen_of_row w9 (w4.heap.size + 1) 4 _ _ hbl9)
                all_goals
                  have HN9 := Lib.hid (NewC_step HB.out hgl HO.out hgne ho9 hg9 hb9 hbl9 HLs.out (Nat.succ_le_of_lt hkm))
                  clear ho9 hg9 hb9 hbl9
                  go_wp2
                  go_roundw
                  case rel => exact HN9.out
                  case measure => simp [intOf]; omega
              · obtain rfl : m = k := by omega
                go_wp2
                go_ret2
                refine .inl ⟨HL.out, w4.heap.size + 1, rfl, ⟨HL.out, aL, cL, aO, cO, aA, cA, some ⟨gC, 0, none⟩, cC, ?_, HIL.out.below HB.out (Nat.le_refl _), HIO.out.below HB.out (Nat.le_refl _), HIA.out.below HB.out (Nat.le_refl _), ?_⟩, ?_, ?_⟩
                · rw [HN.out, hm.out]; exact hblk
                · have := hown.ints
                  unfold colsL
                  rw [hm.out]; exact this
                · have := HB14.out.size; omega
                · exact HB14.out.trans (HB.out.mono HB14.out.size)
      · have HE : Hid (newErr 0 lv ws = 220) := by
          refine Lib.hid ?_
          unfold newErr
          rw [if_neg (by omega), if_neg (by rw [HK.out]; simp), if_neg (fun h => h HA.out), if_pos (by rw [HN.out, HN1.out]; exact hlen)]
        have hne : ((n1 : Int) != (n : Int)) = true := by simp; omega
        clear hlen
        go_wp2
        go_ret2
        exact .inr ⟨by rw [HE.out]; omega, by rw [HE.out]; rfl, HB1.out⟩

set_option maxHeartbeats 1000000 in
theorem New_at_1 (a a1 : Option Addr) (n cap n1 cap1 : Nat) (lv ws : List Int) (w : World) (HN : Hid (lv.length = n)) (HN1 : Hid (ws.length = n1)) (hlt : n ≤ 1048576) (hlt1 : n1 ≤ 9223372036854775807) (HK : Hid (okL lv = true)) (hc : Ints .i8 w a lv) (hc1 : Ints .i64 w a1 ws) :
    Calls Try.prog 17 #[.int .i8 1, .slice a n cap, .slice a1 n1 cap1] w (NewPost 1 lv ws w) := by
  go_enter Try.func17, Try.ntmps17
  go_wp2_with fail
  refine (Order_walk a n cap lv _ HN.out hlt HK.out hc).mono ?_
  rintro e w1 ⟨aO, m, cO, rfl, hown1, hb1⟩
  have hm := Lib.hid hown1.lenI
  have hmn : m ≤ n := by have := hown1.lenI; have := ord_le lv; have := HN.out; omega
  have HO1 := Lib.hid hown1; clear hown1
  have HB1 := Lib.hid hb1; clear hb1
  have HC1 := Lib.hid (hc.below HB1.out (Nat.le_refl _))
  have HC1w := Lib.hid (hc1.below HB1.out (Nat.le_refl _))
  go_wp2
  go_loop [34] (NewA 1 lv n) (fun v => n - (intOf v).toNat)
  case atStart => exact ⟨0, Nat.zero_le _, rfl, by simp⟩
  case round =>
    obtain ⟨k, hk, rfl, hall⟩ := hrel
    have HA := Lib.hid hall; clear hall
    by_cases hkn : k < n
    · have hkl : k < lv.length := by rw [HN.out]; exact hkn
      obtain ⟨b, o, ha⟩ := HC1.out.some (by omega)
      subst ha
      have c0 := HC1.out.get k hkl
      have hz := okL_get lv HK.out k hkl
      by_cases hgone : lv[k] = -1
      · have HT := Lib.hid (take_all hkl HA.out (fun h => absurd hgone h))
        rw [hgone] at c0
        clear hgone
        go_wp2
        go_round
        case rel => exact ⟨k + 1, by omega, by go_num, HT.out⟩
        case measure => simp [intOf]; omega
      · have hne : (lv[k] != -1) = true := by simp [hgone]
        by_cases hlo : lv[k] < 1
        · have HE : Hid (newErr 1 lv ws = 2) := by
            refine Lib.hid ?_
            unfold newErr
            rw [if_neg (by omega), if_neg (by rw [HK.out]; simp), if_pos (fun h => by have := h _ (List.getElem_mem hkl) hgone; omega)]
          clear hgone
          generalize lv[k] = x at *
          go_wp2
          go_ret2
          exact .inr ⟨by rw [HE.out]; omega, by rw [HE.out]; rfl, HB1.out⟩
        · have HT := Lib.hid (take_all hkl HA.out (fun _ => by omega))
          clear hgone
          generalize lv[k] = x at *
          go_wp2
          go_round
          case rel => exact ⟨k + 1, by omega, by go_num, HT.out⟩
          case measure => simp [intOf]; omega
    · rw [List.take_of_length_le (by have := HN.out; omega)] at HA
      by_cases hlen : n1 = n
      · subst hlen
        have hne : ((n1 : Int) != (n1 : Int)) = false := by simp
        go_wp2
        go_loop [53] (NewB ws n1) (fun v => n1 - (intOf v).toNat)
        case atStart => exact ⟨0, Nat.zero_le _, rfl, by simp⟩
        case round =>
          obtain ⟨k, hk, rfl, hall⟩ := hrel
          have HA2 := Lib.hid hall; clear hall
          by_cases hkn : k < n1
          · have hkl : k < ws.length := by rw [HN1.out]; exact hkn
            obtain ⟨b, o, ha⟩ := HC1w.out.some (by omega)
            subst ha
            have c0 := HC1w.out.get k hkl
            by_cases hr : 0 ≤ ws[k] ∧ ws[k] ≤ 1048576
            · have HT := Lib.hid (take_all hkl HA2.out hr)
              obtain ⟨hr0, hr1⟩ := hr
              generalize ws[k] = x at *
              go_wp2
              go_round
              case rel => exact ⟨k + 1, by omega, by go_num, HT.out⟩
              case measure => simp [intOf]; omega
            · have HE : Hid (newErr 1 lv ws = 251) := by
                refine Lib.hid ?_
                unfold newErr
                rw [if_neg (by omega), if_neg (by rw [HK.out]; simp), if_neg (fun h => h HA.out), if_neg (by rw [HN.out, HN1.out]; simp), if_pos (fun h => hr (h _ (List.getElem_mem hkl)))]
              have hr2 : ws[k] < 0 ∨ (¬ ws[k] < 0 ∧ 1048576 < ws[k]) := by omega
              clear hr
              generalize ws[k] = x at *
              rcases hr2 with hr2 | ⟨hr2, hr3⟩
              all_goals
                go_wp2
                go_ret2
                exact .inr ⟨by rw [HE.out]; omega, by rw [HE.out]; rfl, HB1.out⟩
          · rw [List.take_of_length_le (by have := HN1.out; omega)] at HA2
            have hL : LineOk 1 lv ws := ⟨by omega, HK.out, HA.out, by rw [HN.out, HN1.out], HA2.out, by rw [HN.out]; exact hlt⟩
            have HL := Lib.hid hL; clear hL
            go_wp2_with fail
            refine (Places_walk a n1 cap lv _ HN.out hlt HK.out HC1.out).mono ?_
            rintro e w2 ⟨aA, n3, cA, rfl, hown2, hb2⟩
            obtain rfl : n1 = n3 := by have := hown2.lenI; rw [placesL_length] at this; have := HN.out; omega
            have HO2 := Lib.hid hown2; clear hown2
            have HB2 := Lib.hid hb2; clear hb2
            have HC2 := Lib.hid (HC1.out.below HB2.out (Nat.le_refl _))
            go_wp2_with fail
            refine (Clone_walk a n1 cap lv _ HN.out hlt HC2.out).mono ?_
            rintro e w4 ⟨aL, cL, rfl, hown4, hb4⟩
            have HO4 := Lib.hid hown4; clear hown4
            have HB4 := Lib.hid hb4; clear hb4
            have HB14 := Lib.hid (below_seq HB1.out (below_seq HB2.out HB4.out))
            have HIO := Lib.hid ((HO1.out.ints.below HB2.out (Nat.le_refl _)).below HB4.out (Nat.le_refl _))
            have HIA := Lib.hid (HO2.out.ints.below HB4.out (Nat.le_refl _))
            have HIL := Lib.hid HO4.out.ints
            have HIW := Lib.hid ((HC1w.out.below HB2.out (Nat.le_refl _)).below HB4.out (Nat.le_refl _))
            go_wp2
            go_loopw [82] (NewC w4 1 n1 m aL cL aO cO aA cA ws (ord lv)) (fun v _ => m - (intOf v).toNat)
            case atStart =>
              refine ⟨0, some ⟨w4.heap.size, 0, none⟩, 1, Nat.zero_le _, rfl, ?_, ?_, ?_, ?_⟩
              · have := heap_alloc_new (w4.alloc (.cells #[.int .i64 0] 3)) (.cells #[.int .i8 1, .slice aL n1 cL, .slice aO m cO, .slice aA n1 cA, .slice (some ⟨w4.heap.size, 0, none⟩) 1 1] 64)
                simpa using this
              · have h1 : Own w4.heap.size 3 (w4.alloc (.cells #[.int .i64 0] 3)) (some ⟨w4.heap.size, 0, none⟩) 1 1 [.int .i64 0] := Own.lit w4 #[.int .i64 0] (Nat.le_refl _) (by simp [maxLen])
                have h2 := World.ownsRow.alloc h1 (.cells #[.int .i8 1, .slice aL n1 cL, .slice aO m cO, .slice aA n1 cA, .slice (some ⟨w4.heap.size, 0, none⟩) 1 1] 64)
                simpa [Own, ivs, colAt_zero] using h2
              · simp [Value.ownBlock]
              · go_grown
            case round =>
              obtain ⟨k, aC, cC, hk, rfl, hblk, hown, hne2, hbel⟩ := hrel
              have HB := Lib.hid hbel
              have hlen := hown.len
              obtain ⟨gC, ha, hgC1, hgC2, hcC, _⟩ := hown.at (by omega)
              subst ha
              have hgl : w4.heap.size + 1 < wr.heap.size := (Array.getElem?_eq_some_iff.1 hblk).1
              have hgne : gC ≠ w4.heap.size + 1 := by simpa [Value.ownBlock] using hne2
              by_cases hkm : k < m
              · have hko : k < (ord lv).length := by rw [hm.out]; exact hkm
                obtain ⟨x, hxe, hxl⟩ := ord_nonneg lv k hko
                obtain ⟨bO, oO, ha⟩ := HIO.out.some (by omega)
                subst ha
                have cO1 := (HIO.out.below hbel (Nat.le_refl _)).get k hko
                rw [hxe] at cO1
                have hxw : x < ws.length := by rw [HN1.out, ← HN.out]; exact hxl
                obtain ⟨bW, oW, ha⟩ := HIW.out.some (by omega)
                subst ha
                have cW := (HIW.out.below hbel (Nat.le_refl _)).get x hxw
                have cC1 := hown.cell k (by rw [ivs_length]; simp)
                rw [show (ivs .i64 ((List.range (k + 1)).map (fun j => colAt ws (ord lv) j)))[k]'(by rw [ivs_length]; simp) = .int .i64 (colAt ws (ord lv) k) from by simp [ivs]] at cC1
                have k4 := cell_of_row wr (w4.heap.size + 1) 4 _ _ (0, 0) hblk
                simp at k4
                have f4 := frozen_of_row wr (w4.heap.size + 1) 4 _ _ hblk
                have hsu := colAt_succ ws (ord lv) k hko
                rw [hxe] at hsu
                have hb1 := colAt_mono HL.out.range (ord lv) k
                have hb2 := ws_getD HL.out.range x
                have hx2 : ws.getD ((x : Int)).toNat 0 = ws[x] := by simp [hxw]
                rw [hx2] at hsu
                rw [show ws.getD x 0 = ws[x] by simp [hxw]] at hb2
                have hxn : x < n1 := by rw [← HN.out]; exact hxl
                obtain ⟨hb10, hb11⟩ := hb1
                obtain ⟨hb20, hb21⟩ := hb2
                have HLs := Lib.hid (show (List.range (k + 1 + 1)).map (fun j => colAt ws (ord lv) j) = (List.range (k + 1)).map (fun j => colAt ws (ord lv) j) ++ [colAt ws (ord lv) k + ws[x]] from by rw [List.range_succ, List.map_append, ← hsu]; simp)
                generalize colAt ws (ord lv) k = y at *
                generalize ws[x] = z at *
                have hkb : (k : Int) ≤ 1048576 := by omega
                have hwr : IntKind.i64.wrap (y + z) = y + z := IntWalk.i64_in _ (by omega)
                have hbnd1 : (k + 1 + 1) * 8 ≤ 140737488355328 := by omega
                have hbnd2 : k + 1 + 1 ≤ maxLen := by unfold maxLen; omega
                have hkk1 : (k : Int) < (k : Int) + 1 := by omega
                have hxb : (x : Int) < (n1 : Int) := by omega
                have hyz0 : 0 ≤ y + z := by omega
                have hyz1 : y + z ≤ 2199023255552 := by have : (k : Int) * 1048576 ≤ 1048576 * 1048576 := by omega
                                                        omega
                have HO := Lib.hid hown
                have HBK := Lib.hid hblk
                have HNE := Lib.hid hne2
                clear hown hblk hne2 hbel hxe hx2 hsu hko hxl hxw hlen
                go_wp2
                have hblk5 : ∀ o : Obj, (wr.alloc o).drew.heap[w4.heap.size + 1]? = some (.cells #[.int .i8 1, .slice aL n1 cL, .slice (some ⟨bO, oO, none⟩) m cO, .slice aA n1 cA, .slice (some ⟨gC, 0, none⟩) (k + 1) cC] 64 (0, 0)) := fun o => by
                  have := Below.heap_alloc wr o (w4.heap.size + 1) hgl
                  exact this.trans HBK.out
                have HB5 := Lib.hid hblk5; clear hblk5
                go_region_law (refine step_appS Try.elemInt rfl (.tmp 91) (.tmp 104) rfl (World.ownsRow.drew (World.ownsRow.alloc HO.out _)) (by have := HB.out.size; simp; omega) (ys := [.int .i64 (y + z)]) rfl (one_vals wr _ _) (by simp) (by intro u hu; simp at hu; subst hu; rfl) hbnd1 hbnd2 rfl rfl ?_; intro a9 c9 w9 ho9 hg9 hb9; have hbl9 := (hg9.block (w4.heap.size + 1) (by simp; omega) (fun e => HNE.out e.symm)).trans (HB5.out _); have k9 := cell_of_row w9 (w4.heap.size + 1) 4 _ _ (0, 0) hbl9; simp at k9; have f9 := frozen_of_row w9 (w4.heap.size + 1) 4 _ _ hbl9)
                all_goals
                  have HN9 := Lib.hid (NewC_step HB.out hgl HO.out hgne ho9 hg9 hb9 hbl9 HLs.out (Nat.succ_le_of_lt hkm))
                  clear ho9 hg9 hb9 hbl9
                  go_wp2
                  go_roundw
                  case rel => exact HN9.out
                  case measure => simp [intOf]; omega
              · obtain rfl : m = k := by omega
                go_wp2
                go_ret2
                refine .inl ⟨HL.out, w4.heap.size + 1, rfl, ⟨HL.out, aL, cL, aO, cO, aA, cA, some ⟨gC, 0, none⟩, cC, ?_, HIL.out.below HB.out (Nat.le_refl _), HIO.out.below HB.out (Nat.le_refl _), HIA.out.below HB.out (Nat.le_refl _), ?_⟩, ?_, ?_⟩
                · rw [HN.out, hm.out]; exact hblk
                · have := hown.ints
                  unfold colsL
                  rw [hm.out]; exact this
                · have := HB14.out.size; omega
                · exact HB14.out.trans (HB.out.mono HB14.out.size)
      · have HE : Hid (newErr 1 lv ws = 220) := by
          refine Lib.hid ?_
          unfold newErr
          rw [if_neg (by omega), if_neg (by rw [HK.out]; simp), if_neg (fun h => h HA.out), if_pos (by rw [HN.out, HN1.out]; exact hlen)]
        have hne : ((n1 : Int) != (n : Int)) = true := by simp; omega
        clear hlen
        go_wp2
        go_ret2
        exact .inr ⟨by rw [HE.out]; omega, by rw [HE.out]; rfl, HB1.out⟩

set_option maxHeartbeats 1000000 in
theorem New_walk (base : Int) (a a1 : Option Addr) (n cap n1 cap1 : Nat) (lv ws : List Int) (w : World) (hb : -128 ≤ base ∧ base ≤ 127) (hn : lv.length = n) (hn1 : ws.length = n1) (hlt : n ≤ 1048576) (hlt1 : n1 ≤ 9223372036854775807) (hc : Ints .i8 w a lv) (hc1 : Ints .i64 w a1 ws) :
    Calls Try.prog 17 #[.int .i8 base, .slice a n cap, .slice a1 n1 cap1] w (NewPost base lv ws w) := by
  have HN := Lib.hid hn; clear hn
  have HN1 := Lib.hid hn1; clear hn1
  by_cases h01 : base = 0 ∨ base = 1
  · by_cases hok : okL lv = true
    · have HK := Lib.hid hok; clear hok
      rcases h01 with rfl | rfl
      · exact New_at_0 a a1 n cap n1 cap1 lv ws w HN HN1 hlt hlt1 HK hc hc1
      · exact New_at_1 a a1 n cap n1 cap1 lv ws w HN HN1 hlt hlt1 HK hc hc1
    · have hokf : okL lv = false := by simpa using hok
      have HK := Lib.hid hokf
      have hE : newErr base lv ws = 2 := by unfold newErr; rw [if_neg (by omega), if_pos hokf]
      have HE := Lib.hid hE; clear hE hok hokf
      rcases h01 with rfl | rfl
      all_goals
        go_enter Try.func17, Try.ntmps17
        go_wp2_with fail
        refine (Order_bad a n cap lv _ HN.out hlt HK.out hc).mono ?_
        rintro e w' ⟨rfl, rfl⟩
        go_wp2
        go_ret2
        exact .inr ⟨by rw [HE.out]; omega, by rw [HE.out]; rfl, Below.refl _ _⟩
  · have hE : newErr base lv ws = 160 := by unfold newErr; rw [if_pos (by omega)]
    have h0 : (base != 0) = true := by simp; omega
    have h1 : (base != 1) = true := by simp; omega
    have HE := Lib.hid hE; clear hE h01
    go_enter Try.func17, Try.ntmps17
    go_wp2
    go_ret2
    exact .inr ⟨by rw [HE.out]; omega, by rw [HE.out]; rfl, Below.refl _ _⟩
end Go.Proofs.Ytnnfhldfdiaddaa
