/-
  The walk of CaretsTells.
-/
import Derived.Test.YtnnfhldfdiaddaaX14
import Derived.Test.YtnnfhldfdiaddaaX9
import Derived.Test.YtnnfhldfdiaddaaL6X
import Derived.Test.YtnnfhldfdiaddaaA1
import Derived.Deep.RegionHeld3
import Derived.Deep.Cut
set_option linter.unusedVariables false
namespace Go.Proofs.Ytnnfhldfdiaddaa
open Go.RowKit

structure AskD where
  d : Int
  a : Int
  e : Int
def AskAt (w : World) (b o : Nat) (q : AskD) : Prop :=
  w.cell? ⟨b, o, none⟩ = some (.int .i64 q.d) ∧ w.cell? ⟨b, o + 1, none⟩ = some (.int .i64 q.a) ∧ w.cell? ⟨b, o + 2, none⟩ = some (.int .u8 q.e)
def Asks (w : World) (a : Option Addr) (qs : List AskD) : Prop := ∀ i (h : i < qs.length), ∃ b o, a = some ⟨b, o, none⟩ ∧ AskAt w b (o + i * 3) qs[i]
theorem Asks.some {w : World} {a : Option Addr} {qs : List AskD} (h : Asks w a qs) (hn : 0 < qs.length) : ∃ b o, a = .some ⟨b, o, none⟩ := by
  obtain ⟨b, o, e, _⟩ := h 0 hn
  exact ⟨b, o, e⟩
theorem Asks.get {w : World} {b o : Nat} {qs : List AskD} (h : Asks w (.some ⟨b, o, none⟩) qs) (i : Nat) (hi : i < qs.length) : AskAt w b (o + i * 3) qs[i] := by
  obtain ⟨b', o', e, hc⟩ := h i hi
  simp only [Option.some.injEq, Addr.mk.injEq, and_true] at e
  obtain ⟨rfl, rfl⟩ := e
  exact hc
theorem Asks.below {w w' : World} {B : Nat} {a : Option Addr} {qs : List AskD} (h : Asks w a qs) (hb : Below B w w') (hB : w.heap.size ≤ B) : Asks w' a qs := by
  intro i hi
  obtain ⟨b, o, rfl, h1, h2, h3⟩ := h i hi
  have hl : b < B := Nat.lt_of_lt_of_le (World.block_lt_of_cell? w _ h1) hB
  exact ⟨b, o, rfl, by rw [hb.cell (p := ⟨b, o + i * 3, none⟩) hl]; exact h1, by rw [hb.cell (p := ⟨b, o + i * 3 + 1, none⟩) hl]; exact h2, by rw [hb.cell (p := ⟨b, o + i * 3 + 2, none⟩) hl]; exact h3⟩
theorem Ints.prefix_ {k : IntKind} {w : World} {a : Option Addr} {xs ys : List Int} (h : Ints k w a (xs ++ ys)) : Ints k w a xs := by
  intro i hi
  obtain ⟨b, o, e, hc⟩ := h i (by simp; omega)
  rw [List.getElem_append_left hi] at hc
  exact ⟨b, o, e, hc⟩

/-- the first k of a list written over -/
def over (x : Int) (zs : List Int) (k : Nat) (y : Int) : List Int := List.replicate k x ++ (zs.drop k ++ [y])
theorem over_zero (x : Int) (zs : List Int) (y : Int) : over x zs 0 y = zs ++ [y] := by simp [over]
theorem over_at (x : Int) (zs : List Int) (k : Nat) (y : Int) (hk : k < zs.length) : (over x zs k y)[k]? = some zs[k] := by
  unfold over
  rw [List.getElem?_append_right (by simp), List.getElem?_append_left (by simp; omega)]
  simp [hk]
theorem over_at2 (x : Int) (zs : List Int) (k : Nat) (y : Int) (hk : k < zs.length) {h : k < (over x zs k y).length} : (over x zs k y)[k] = zs[k] := by
  have := over_at x zs k y hk
  rw [List.getElem?_eq_getElem h] at this
  exact Option.some.inj this
theorem ivs_get {k : IntKind} {zs : List Int} {i : Nat} {h : i < (ivs k zs).length} : (ivs k zs)[i] = .int k (zs[i]'(by simpa [ivs] using h)) := by simp [ivs]
theorem Own.grownBut {B n : Nat} {X : Nat → Prop} {E : TypeId} {w w' : World} {a : Option Addr} {m cap : Nat} {xs : List Value} (h : Own B E w a m cap xs) (hb : But n X w w') (hn : w.heap.size ≤ n) (hX : ∀ k, (Value.slice a m cap).ownBlock = some k → ¬ X k) : Own B E w' a m cap xs := by
  refine ⟨h.1, ?_⟩
  rcases h.2 with hn0 | ⟨g, cap', cur, e, hbg, hgg, rest⟩
  · exact .inl hn0
  · refine .inr ⟨g, cap', cur, e, hbg, hb.keep hgg (Nat.lt_of_lt_of_le (Array.getElem?_eq_some_iff.1 hgg).1 hn) (hX g ?_), rest⟩
    simp only [Value.slice.injEq] at e
    obtain ⟨rfl, _, _⟩ := e
    rfl
theorem over_step (x : Int) (zs : List Int) (k : Nat) (y : Int) (hk : k < zs.length) : (over x zs k y).set k x = over x zs (k + 1) y := by
  unfold over
  rw [List.set_append_right _ _ (by simp), List.length_replicate, Nat.sub_self, List.drop_eq_getElem_cons hk, List.cons_append, List.set_cons_zero, List.replicate_succ', List.append_assoc]
  rfl
theorem over_length (x : Int) (zs : List Int) (k : Nat) (y : Int) (hk : k ≤ zs.length) : (over x zs k y).length = zs.length + 1 := by
  simp [over]; omega

structure OvSt (B g n c : Nat) (E : TypeId) (K : IntKind) (x : Int) (zs : List Int) (y : Int) (w8 : World) (k : Nat) (wr : World) : Prop where
  own : Own B E wr (some ⟨g, 0, none⟩) (n + 1) c (ivs K (over x zs k y))
  but : But w8.heap.size (fun b => b = g) w8 wr
def OvR (B g n c : Nat) (E : TypeId) (K : IntKind) (x : Int) (zs : List Int) (y : Int) (w8 : World) (i : Value) (wr : World) : Prop :=
  ∃ k : Nat, k ≤ n ∧ i = .int .i64 k ∧ OvSt B g n c E K x zs y w8 k wr
theorem OvSt.step {B g n c : Nat} {E : TypeId} {K : IntKind} {x : Int} {zs : List Int} {y : Int} {w8 wr : World} {k : Nat} (h : OvSt B g n c E K x zs y w8 k wr) (hk : k < zs.length) (d : Nat) : OvSt B g n c E K x zs y w8 (k + 1) ((wr.setCell ⟨g, k, none⟩ (.int K x)).drewN d) := by
  have h1 := h.own.store k (.int K x)
  rw [ivs_set, over_step x zs k y hk] at h1
  have h2 : But w8.heap.size (fun b => b = g) w8 (wr.setCell ⟨g, k, none⟩ (.int K x)) := h.but.setCell g k _ (.inl rfl)
  exact ⟨h1.below (below_drewN (Below.refl _ _) d) (Nat.le_refl _), ⟨h2.os, h2.tape, h2.output, h2.size, h2.block⟩⟩
def NewR (B : Nat) (base : Int) (lv ws : List Int) (u v : Value) (w' : World) : Prop :=
  (LineOk base lv ws ∧ ∃ g, u = .pointer (some ⟨g, 0, none⟩) ∧ v = .int .i64 0 ∧ IsLineX B w' g base lv ws) ∨
  (newErr base lv ws ≠ 0 ∧ u = .pointer none ∧ v = .int .i64 (newErr base lv ws))
theorem NewX_is (base : Int) (a a1 : Option Addr) (n cap n1 cap1 : Nat) (lv ws : List Int) (w : World) (hb : -128 ≤ base ∧ base ≤ 127) (hn : lv.length = n) (hn1 : ws.length = n1) (hlt : n ≤ 1048576) (hlt1 : n1 ≤ 9223372036854775807) (hc : Ints .i8 w a lv) (hc1 : Ints .i64 w a1 ws) :
    Calls Try.prog 17 #[.int .i8 base, .slice a n cap, .slice a1 n1 cap1] w fun e w' => ∃ u v, e = .returned (.tuple #[u, v]) ∧ NewR w.heap.size base lv ws u v w' ∧ Below w.heap.size w w' := by
  refine (NewX_walk base a a1 n cap n1 cap1 lv ws w hb hn hn1 hlt hlt1 hc hc1).mono ?_
  rintro e w' (⟨hL, g, rfl, hl, hg, hb⟩ | ⟨hL, rfl, hb⟩)
  · exact ⟨_, _, rfl, .inl ⟨hL, g, rfl, rfl, hl⟩, hb⟩
  · exact ⟨_, _, rfl, .inr ⟨hL, rfl, rfl⟩, hb⟩
def NewC7 (base : Int) (lv ws : List Int) (w5 : World) (u v : Value) (w' : World) : Prop := NewR w5.heap.size base lv ws u v w' ∧ Below w5.heap.size w5 w'
def AskR (n2 : Nat) (w9 : World) (i : Value) (wr : World) : Prop := ∃ k : Nat, k ≤ n2 ∧ i = .int .i64 k ∧ Below w9.heap.size w9 wr
def EachR (n : Nat) (w9 : World) (i : Value) (wr : World) : Prop := ∃ k : Nat, k ≤ n + 3 ∧ i = .int .i64 ((k : Int) - 1) ∧ Below w9.heap.size w9 wr

set_option maxRecDepth 100000 in
set_option maxHeartbeats 8000000 in
theorem tells_walk (w : World) (base : Int) (a : Option Addr) (n cap : Nat) (a1 : Option Addr) (n1 cap1 : Nat) (a2 : Option Addr) (n2 cap2 : Nat) (lv ws : List Int) (qs : List AskD) (h : InOk w base a n cap a1 n1 cap1 lv ws)
    (hw1 : n1 ≤ 1048576) (hna : a = none → cap = 0) (hna1 : a1 = none → cap1 = 0) (hq : Asks w a2 qs) (hql : qs.length = n2) (hqb : ∀ q ∈ qs, -9223372036854775808 ≤ q.a ∧ q.a ≤ 9223372036854775807) :
    Calls Try.prog 9 #[.agg #[.int .i8 base, .slice a n cap, .slice a1 n1 cap1, .slice a2 n2 cap2]] w fun e w' => e = .returned (.bool true) ∧ Below w.heap.size w w' := by
  have hw0 : Below w.heap.size w (w.alloc (.cells #[.int .i8 base, .slice a n cap, .slice a1 n1 cap1, .slice a2 n2 cap2] 28)) := (Below.refl _ w).alloc (Nat.le_refl _) _
  have HW0 := Lib.hid hw0; clear hw0
  have HI := Lib.hid h; clear h
  have HQ := Lib.hid hq; clear hq
  have HQl := Lib.hid hql; clear hql
  have HQb := Lib.hid hqb; clear hqb
  have HN := Lib.hid HI.out.hl
  have HN1 := Lib.hid HI.out.hl1
  have HNa := Lib.hid hna; clear hna
  have HNa1 := Lib.hid hna1; clear hna1
  have HB0 := Lib.hid (InBox.new w base a n cap a1 n1 cap1 a2 n2 cap2)
  go_enter Try.func9, Try.ntmps9
  go_wp2_with fail
  refine (beyond_walk _ base a n cap a1 n1 cap1 a2 n2 cap2).mono ?_
  rintro e w1 ⟨rfl, hb⟩
  have HBX1 := Lib.hid (HB0.out.below hb (Nat.le_refl _))
  have HW1 := Lib.hid (below_seq HW0.out hb); clear hb
  clear HB0 HW0
  cases hbig : (decide (3000 < n) || decide (1000 < n2)) with
  | true =>
    go_wp2_with fail
    refine (lives_walk _).mono ?_
    rintro e w2 ⟨rfl, hb2⟩
    go_wp2
    go_ret
    exact ⟨rfl, below_seq HW1.out hb2⟩
  | false =>
    have hbig2 : n ≤ 3000 ∧ n2 ≤ 1000 := by
      rw [Bool.or_eq_false_iff] at hbig
      have h1 := of_decide_eq_false hbig.1
      have h2 := of_decide_eq_false hbig.2
      omega
    obtain ⟨hn3, hn1000⟩ := hbig2
    clear hbig
    have r1 := HBX1.out.r1
    have hbx := HBX1.out.lt
    have hbx := HBX1.out.lt
    have HI1 := Lib.hid (HI.out.below HW1.out (Nat.le_refl _))
    have HQ1 := Lib.hid (HQ.out.below HW1.out (Nat.le_refl _))
    clear HI HQ
    go_wp2_with (at_builtin; refine wpList_appS Try.elemLevel rfl (.tmp 16) (.tmp 18) rfl (Own.nil w1.heap.size _ w1) (Nat.le_refl _) (by rw [ivs_length]; exact HN.out) HI1.out.il.vals HNa.out (ivs_one _ _) (by omega) (by unfold maxLen; omega) rfl rfl ?_)
    intro aA cA w2 ho2 hg2 _
    have HO2 : Hid (Own w1.heap.size 23 w2 aA n cA (ivs .i8 lv)) := Lib.hid (by simpa using ho2)
    have HV2 := Lib.hid ((Own.nil w1.heap.size 23 w1).app hg2 (Nat.le_refl _))
    clear ho2 hg2
    go_wp2_with (at_builtin; refine wpList_app1 Try.elemLevel rfl (.tmp 19) (.tmp 20) rfl HO2.out HV2.out.size (by omega) (by omega) _ rfl _ rfl rfl ?_)
    intro a3 cA3 w3 ho3 hg3
    have HO3 : Hid (Own w1.heap.size 23 w3 a3 (n + 1) cA3 (ivs .i8 (lv ++ [77]))) := Lib.hid (by rw [ivs_append]; exact ho3)
    have HV3 := Lib.hid (HV2.out.trans (HO2.out.app hg3 HV2.out.size))
    clear ho3 hg3 HO2 HV2
    obtain ⟨gA, ha, hgA1, hgA2, hgA3, hgA4⟩ := HO3.out.at (by omega)
    subst ha
    have HBX3 := Lib.hid (HBX1.out.below HV3.out (Nat.le_refl _))
    have r2 := HBX3.out.r2
    clear r1
    go_wp2_with (at_builtin; refine wpList_appS Try.elemInt rfl (.tmp 22) (.tmp 24) rfl (Own.nil w3.heap.size _ w3) (Nat.le_refl _) (by rw [ivs_length]; exact HN1.out) (HI1.out.iw.below HV3.out (Nat.le_refl _)).vals HNa1.out (ivs_one _ _) (by omega) (by unfold maxLen; omega) rfl rfl ?_)
    intro aB cB w4 ho4 hg4 _
    have HO4 : Hid (Own w3.heap.size 3 w4 aB n1 cB (ivs .i64 ws)) := Lib.hid (by simpa using ho4)
    have HU4 := Lib.hid ((Own.nil w3.heap.size 3 w3).app hg4 (Nat.le_refl _))
    clear ho4 hg4
    go_wp2_with (at_builtin; refine wpList_app1 Try.elemInt rfl (.tmp 25) (.tmp 26) rfl HO4.out HU4.out.size (by omega) (by omega) _ rfl _ rfl rfl ?_)
    intro a5 cB5 w5 ho5 hg5
    have HO5 : Hid (Own w3.heap.size 3 w5 a5 (n1 + 1) cB5 (ivs .i64 (ws ++ [-77]))) := Lib.hid (by rw [ivs_append]; exact ho5)
    have HU5 := Lib.hid (HU4.out.trans (HO4.out.app hg5 HU4.out.size))
    clear ho5 hg5 HO4 HU4
    obtain ⟨gB, ha, hgB1, hgB2, hgB3, hgB4⟩ := HO5.out.at (by omega)
    subst ha
    have HA5 := Lib.hid (HO3.out.below HU5.out (Nat.le_refl _))
    have HV5 := Lib.hid (HV3.out.trans (HU5.out.mono HV3.out.size))
    have hAB : gA < gB := by omega
    have hz5 := HV5.out.size
    have HBX5 := Lib.hid (HBX1.out.below HV5.out (Nat.le_refl _))
    clear r2 HBX3 HO3 HV3
    have r0 := HBX5.out.r0
    have r1 := HBX5.out.r1
    have r2 := HBX5.out.r2
    have hnc : (n : Int) ≤ (cA3 : Int) := by omega
    have hnc1 : (n1 : Int) ≤ (cB5 : Int) := by omega
    clear r0 r1 r2
    go_upto_region 7 with (fail)
    go_cut [5, 6] from 28 (NewC7 base lv ws w5)
    case first =>
      have r0 : w5.cell? ⟨w.heap.size, 0, none⟩ = some (.int .i8 base) := HBX5.out.r0
      have r1 : w5.cell? ⟨w.heap.size, 1, none⟩ = some (.slice a n cap) := HBX5.out.r1
      have r2 : w5.cell? ⟨w.heap.size, 2, none⟩ = some (.slice a1 n1 cap1) := HBX5.out.r2
      have HDr : Hid (Below w5.heap.size w5 w5.drew) := Lib.hid (below_drewN (Below.refl _ w5) 1)
      have HCl := Lib.hid (NewX_is base (some ⟨gA, 0, none⟩) (some ⟨gB, 0, none⟩) n cA3 n1 cB5 lv ws w5.drew HI1.out.hb HN.out HN1.out (by omega) (by omega) (HA5.out.ints.prefix_.below HDr.out (Nat.le_refl _)) (HO5.out.ints.prefix_.below HDr.out (Nat.le_refl _)))
      have HSw := Lib.hid (fun (W : World) (hb : Below w5.drew.heap.size w5.drew W) => show W.cell? ⟨w.heap.size, 0, none⟩ = some (.int .i8 base) ∧ W.cell? ⟨w.heap.size, 1, none⟩ = some (.slice a n cap) ∧ W.cell? ⟨w.heap.size, 2, none⟩ = some (.slice a1 n1 cap1) from
        have h := HBX5.out.below (HDr.out.trans hb) (Nat.le_refl _)
        ⟨h.r0, h.r1, h.r2⟩)
      go_wp2
      go_region_held3 (fun w' : World => w'.cell? ⟨w.heap.size, 0, none⟩ = some (.int .i8 base) ∧ w'.cell? ⟨w.heap.size, 1, none⟩ = some (.slice a n cap) ∧ w'.cell? ⟨w.heap.size, 2, none⟩ = some (.slice a1 n1 cap1)) (first | exact ⟨r0, r1, r2⟩ | exact HSw.out _ hb6) (first
        | (go_at_call 17; refine HCl.out.mono ?_; rintro e w6 ⟨u, v, rfl, hN6, hb6⟩))
      all_goals
        have HN6 := Lib.hid (show NewC7 base lv ws w5 u v w6 from ⟨hN6, HDr.out.trans hb6⟩)
        clear hN6 hb6
        go_wp2
        go_meet
        case rel => exact HN6.out
    case rest =>
      obtain ⟨hN6, hb6⟩ := hcut
      generalize wc = w6 at *
      have HN6 := Lib.hid hN6; clear hN6
      have HB6 := Lib.hid hb6; clear hb6
      have HV6 := Lib.hid (HV5.out.trans (HB6.out.mono HV5.out.size))
      have HBX6 := Lib.hid (HBX1.out.below HV6.out (Nat.le_refl _))
      have HA6 := Lib.hid (HA5.out.below HB6.out (Nat.le_refl _))
      have HO6 := Lib.hid (HO5.out.below HB6.out (Nat.le_refl _))
      have hz6 := HB6.out.size
      have r0 := HBX6.out.r0
      have r1 := HBX6.out.r1
      have r2 := HBX6.out.r2
      go_wp2_with fail
      refine (rNew_walk base a a1 n cap n1 cap1 lv ws w6 HN.out HN1.out (by omega) (by omega) (HI1.out.il.below HV6.out (Nat.le_refl _)) (HI1.out.iw.below HV6.out (Nat.le_refl _))).mono ?_
      rintro e w7 (⟨hL, gr, rfl, hr, hg, hb⟩ | ⟨hE, rfl, rfl⟩)
      · rcases HN6.out with ⟨-, g, rfl, rfl, hl⟩ | ⟨hE, _, _⟩
        · have HV7 := Lib.hid (HV6.out.trans (hb.mono HV6.out.size))
          have HBX7 := Lib.hid (HBX1.out.below HV7.out (Nat.le_refl _))
          have HA7 := Lib.hid (HA6.out.below hb (Nat.le_refl _))
          have HB7 := Lib.hid (HO6.out.below hb (Nat.le_refl _))
          have HL7 := Lib.hid (hl.below hb)
          have HR7 := Lib.hid hr
          have hz7 := hb.size
          have ea := HA7.out.cell n (by rw [ivs_length]; have := HN.out; simp; omega)
          rw [show (ivs .i8 (lv ++ [77]))[n]'(by rw [ivs_length]; have := HN.out; simp; omega) = .int .i8 77 by rw [ivs_get, List.getElem_append_right (by have := HN.out; omega)]; simp] at ea
          have eb := HB7.out.cell n1 (by rw [ivs_length]; have := HN1.out; simp; omega)
          rw [show (ivs .i64 (ws ++ [-77]))[n1]'(by rw [ivs_length]; have := HN1.out; simp; omega) = .int .i64 (-77) by rw [ivs_get, List.getElem_append_right (by have := HN1.out; omega)]; simp] at eb
          clear hl hr hL hb HN6 HBX6 HA6 HO6 HV6
          clear r0 r1 r2
          have r1 := HBX7.out.r1
          have r2 := HBX7.out.r2
          have r0 := HBX7.out.r0
          clear r0
          go_wp2
          go_loopw [9] (OvR w1.heap.size gA n cA3 23 .i8 3 lv 77 w7) (fun i _ => n - (intOf i).toNat)
          case atStart => exact ⟨0, Nat.zero_le _, rfl, ⟨by rw [over_zero]; exact HA7.out, But.refl _ _ _⟩⟩
          case round =>
            obtain ⟨k, hk, rfl, hst⟩ := hrel
            have HST := Lib.hid hst; clear hst
            have HVr := Lib.hid (HV7.out.trans (HST.out.but.below w1.heap.size (by omega) (fun b e => by rw [e]; exact hgA1)))
            have HBXr := Lib.hid (HBX1.out.below HVr.out (Nat.le_refl _))
            clear r1 r2
            have r1 := HBXr.out.r1
            by_cases hlt : k < n
            · have hkl : k < lv.length := by rw [HN.out]; exact hlt
              have ca := HST.out.own.cell k (by rw [ivs_length, over_length _ _ _ _ (by omega)]; omega)
              rw [ivs_get, over_at2 3 lv k 77 hkl] at ca
              have fa := HST.out.own.unfrozen k
              obtain ⟨b, o, ha⟩ := HI1.out.il.some (by omega)
              subst ha
              have cl := (HI1.out.il.below HVr.out (Nat.le_refl _)).get k hkl
              have HNx := Lib.hid (fun d => HST.out.step hkl d)
              have hki : (k : Int) < (n : Int) := by omega
              have hki1 : (k : Int) < (n : Int) + 1 := by omega
              have hgr : gA < wr.heap.size := by have := HST.out.but.size; omega
              generalize lv[k] = z at *
              go_wp2
              go_quiet (fail)
              go_wp2
              go_roundw
              case rel => exact ⟨k + 1, by omega, by go_num, HNx.out _⟩
              case measure => simp [intOf]; omega
            · obtain rfl : k = n := by omega
              obtain ⟨w8, rfl⟩ : ∃ w8 : World, w8 = wr := ⟨_, rfl⟩
              have r2 := HBXr.out.r2
              have hs8 := HST.out.but.size
              have HB8 := Lib.hid (HB7.out.grownBut HST.out.but (Nat.le_refl _) (fun b e (hx : b = gA) => by cases e; have h2 : gB = gA := hx; omega))
              have HL8 := Lib.hid (HL7.out.but HST.out.but (Nat.le_refl _) (fun b e => by rw [e]; omega))
              have HR8 := Lib.hid (HR7.out.but HST.out.but (Nat.le_refl _) (fun b e => by rw [e]; omega))
              go_wp2
              go_loopw [10] (OvR w3.heap.size gB n1 cB5 3 .i64 9 ws (-77) w8) (fun i _ => n1 - (intOf i).toNat)
              case atStart => exact ⟨0, Nat.zero_le _, rfl, ⟨by rw [over_zero]; exact HB8.out, But.refl _ _ _⟩⟩
              case round =>
                obtain ⟨j, hj, rfl, hst2⟩ := hrel
                have HST2 := Lib.hid hst2; clear hst2
                have HVr2 := Lib.hid (HVr.out.trans (HST2.out.but.below w1.heap.size (by omega) (fun b e => by rw [e]; omega)))
                have HBXr2 := Lib.hid (HBX1.out.below HVr2.out (Nat.le_refl _))
                clear r1 r2
                have r2 := HBXr2.out.r2
                by_cases hlt2 : j < n1
                · have hjl : j < ws.length := by rw [HN1.out]; exact hlt2
                  have ca := HST2.out.own.cell j (by rw [ivs_length, over_length _ _ _ _ (by omega)]; omega)
                  rw [ivs_get, over_at2 9 ws j (-77) hjl] at ca
                  have fa := HST2.out.own.unfrozen j
                  obtain ⟨b, o, ha⟩ := HI1.out.iw.some (by omega)
                  subst ha
                  have cl := (HI1.out.iw.below HVr2.out (Nat.le_refl _)).get j hjl
                  have HNx := Lib.hid (fun d => HST2.out.step hjl d)
                  have hki : (j : Int) < (n1 : Int) := by omega
                  have hki1 : (j : Int) < (n1 : Int) + 1 := by omega
                  have hgr : gB < wr.heap.size := by have := HST2.out.but.size; omega
                  generalize ws[j] = z at *
                  go_wp2
                  go_quiet (fail)
                  go_wp2
                  go_roundw
                  case rel => exact ⟨j + 1, by omega, by go_num, HNx.out _⟩
                  case measure => simp [intOf]; omega
                · obtain rfl : j = n1 := by omega
                  obtain ⟨w9, rfl⟩ : ∃ w9 : World, w9 = wr := ⟨_, rfl⟩
                  have HL9 := Lib.hid (HL8.out.but HST2.out.but (Nat.le_refl _) (fun b e => by rw [e]; omega)).line
                  have HR9 := Lib.hid ((HR8.out.but HST2.out.but (Nat.le_refl _) (fun b e => by rw [e]; omega)).ref (HI1.out.il.below HVr2.out (Nat.le_refl _)) (HI1.out.iw.below HVr2.out (Nat.le_refl _)))
                  clear HL8 HR8 HB8 HST HST2 hs8
                  have r1 := HBXr2.out.r1
                  have r3 := HBXr2.out.r3
                  go_wp2
                  go_loopw [11] (AskR n2 w9) (fun i _ => n2 - (intOf i).toNat)
                  case atStart => exact ⟨0, Nat.zero_le _, rfl, Below.refl _ _⟩
                  case round =>
                    obtain ⟨i, hi, rfl, hbi⟩ := hrel
                    have HBi := Lib.hid hbi; clear hbi
                    have HBXi := Lib.hid (HBXr2.out.below HBi.out (Nat.le_refl _))
                    clear r1 r2 r3
                    have r3 := HBXi.out.r3
                    by_cases hlti : i < n2
                    · have hil : i < qs.length := by rw [HQl.out]; exact hlti
                      obtain ⟨b, o, ha⟩ := HQ1.out.some (by omega)
                      subst ha
                      have hQ := ((HQ1.out.below HVr2.out (Nat.le_refl _)).below HBi.out (Nat.le_refl _)).get i hil
                      obtain ⟨q0, q1, q2⟩ := hQ
                      have HQi := Lib.hid (HQb.out _ (List.getElem_mem hil))
                      have hii : (i : Int) < (n2 : Int) := by omega
                      generalize qs[i] = q at *
                      go_wp2_with fail
                      refine (asked_walk g gr base lv ws q.a q.e _ (HL9.out.below HBi.out (Nat.le_refl _)) (HR9.out.below HBi.out (Nat.le_refl _)) q.d HQi.out).mono ?_
                      rintro e wx ⟨rfl, hbx⟩
                      have HBx := Lib.hid (below_seq HBi.out hbx); clear hbx q0 q1 q2
                      go_wp2
                      go_roundw
                      case rel => exact ⟨i + 1, by omega, by go_num, HBx.out⟩
                      case measure => simp [intOf]; omega
                    · obtain ⟨w10, rfl⟩ : ∃ w10 : World, w10 = wr := ⟨_, rfl⟩
                      have HL10 := Lib.hid (HL9.out.below HBi.out (Nat.le_refl _))
                      have HR10 := Lib.hid (HR9.out.below HBi.out (Nat.le_refl _))
                      have HV10 := Lib.hid ((HW1.out.trans (HVr2.out.mono HW1.out.size)).trans (HBi.out.mono (HW1.out.trans (HVr2.out.mono HW1.out.size)).size))
                      have r1 := HBXi.out.r1
                      go_wp2
                      have HRg2 := Lib.hid (show ∀ t : Nat, t ≤ k + 3 → -9223372036854775808 ≤ (t : Int) - 1 ∧ (t : Int) - 1 ≤ 9223372036854775807 from fun t ht => by omega)
                      go_loopw [12] (EachR k w10) (fun i _ => ((k : Int) + 2 - intOf i).toNat)
                      case atStart => exact ⟨0, Nat.zero_le _, rfl, Below.refl _ _⟩
                      case round =>
                        obtain ⟨t, ht, rfl, hbt⟩ := hrel
                        have HBt := Lib.hid hbt; clear hbt
                        have HBXt := Lib.hid (HBXi.out.below HBt.out (Nat.le_refl _))
                        clear r1 r3
                        have r1 := HBXt.out.r1
                        have hfin : ∀ W, Below w10.heap.size w10 W → Below w.heap.size w W := fun W hW => below_seq HV10.out hW
                        have HF := Lib.hid hfin; clear hfin
                        by_cases hlt4 : k < 60
                        · by_cases hlt5 : t ≤ k + 2
                          · have hle : (t : Int) - 1 ≤ (k : Int) + 1 := by omega
                            go_wp2_with fail
                            refine (asked_walk g gr base lv ws ((t : Int) - 1) 0 _ (HL10.out.below HBt.out (Nat.le_refl _)) (HR10.out.below HBt.out (Nat.le_refl _)) 0 (HRg2.out t ht)).mono ?_
                            rintro e wx ⟨rfl, hbx⟩
                            have HB2 := Lib.hid (below_seq HBt.out hbx); clear hbx
                            go_wp2_with fail
                            refine (asked_walk g gr base lv ws ((t : Int) - 1) 0 _ (HL10.out.below HB2.out (Nat.le_refl _)) (HR10.out.below HB2.out (Nat.le_refl _)) 4 (HRg2.out t ht)).mono ?_
                            rintro e wy ⟨rfl, hbx⟩
                            have HB3 := Lib.hid (below_seq HB2.out hbx); clear hbx
                            go_wp2_with fail
                            refine (asked_walk g gr base lv ws ((t : Int) - 1) 0 _ (HL10.out.below HB3.out (Nat.le_refl _)) (HR10.out.below HB3.out (Nat.le_refl _)) 5 (HRg2.out t ht)).mono ?_
                            rintro e wz ⟨rfl, hbx⟩
                            have HB4 := Lib.hid (below_seq HB3.out hbx); clear hbx
                            have he : (t : Int) - 1 + 1 = ((t + 1 : Nat) : Int) - 1 := by omega
                            have HE := Lib.hid he; clear he
                            go_wp2
                            go_roundw
                            case rel => exact ⟨t + 1, by omega, by first | rfl | go_num | (rw [← HE.out]), HB4.out⟩
                            case measure => simp [intOf]; omega
                          · have hle : ¬ (t : Int) - 1 ≤ (k : Int) + 1 := by omega
                            have hled : decide ((t : Int) - 1 ≤ (k : Int) + 1) = false := decide_eq_false hle
                            go_wp2_with fail
                            refine (asked_walk g gr base lv ws 0 0 _ (HL10.out.below HBt.out (Nat.le_refl _)) (HR10.out.below HBt.out (Nat.le_refl _)) 9 (by omega)).mono ?_
                            rintro e wx ⟨rfl, hbx⟩
                            have HB2 := Lib.hid (below_seq HBt.out hbx); clear hbx
                            go_wp2_with fail
                            refine (asked_walk g gr base lv ws (-1) 0 _ (HL10.out.below HB2.out (Nat.le_refl _)) (HR10.out.below HB2.out (Nat.le_refl _)) 6 (by omega)).mono ?_
                            rintro e wy ⟨rfl, hbx⟩
                            have HB3 := Lib.hid (below_seq HB2.out hbx); clear hbx
                            go_wp2_with fail
                            refine (lives_walk _).mono ?_
                            rintro e wz ⟨rfl, hbx⟩
                            have HB4 := Lib.hid (below_seq HB3.out hbx); clear hbx
                            go_wp2
                            go_ret
                            exact ⟨rfl, HF.out _ HB4.out⟩
                        · have hkd : decide (k < 60) = false := decide_eq_false hlt4
                          by_cases hlt5 : t ≤ k + 2
                          · have hle : (t : Int) - 1 ≤ (k : Int) + 1 := by omega
                            go_wp2_with fail
                            refine (asked_walk g gr base lv ws 0 0 _ (HL10.out.below HBt.out (Nat.le_refl _)) (HR10.out.below HBt.out (Nat.le_refl _)) 9 (by omega)).mono ?_
                            rintro e wx ⟨rfl, hbx⟩
                            have HB2 := Lib.hid (below_seq HBt.out hbx); clear hbx
                            go_wp2_with fail
                            refine (asked_walk g gr base lv ws (-1) 0 _ (HL10.out.below HB2.out (Nat.le_refl _)) (HR10.out.below HB2.out (Nat.le_refl _)) 6 (by omega)).mono ?_
                            rintro e wy ⟨rfl, hbx⟩
                            have HB3 := Lib.hid (below_seq HB2.out hbx); clear hbx
                            go_wp2_with fail
                            refine (lives_walk _).mono ?_
                            rintro e wz ⟨rfl, hbx⟩
                            have HB4 := Lib.hid (below_seq HB3.out hbx); clear hbx
                            go_wp2
                            go_ret
                            exact ⟨rfl, HF.out _ HB4.out⟩
                          · have hle : ¬ (t : Int) - 1 ≤ (k : Int) + 1 := by omega
                            have hled : decide ((t : Int) - 1 ≤ (k : Int) + 1) = false := decide_eq_false hle
                            go_wp2_with fail
                            refine (asked_walk g gr base lv ws 0 0 _ (HL10.out.below HBt.out (Nat.le_refl _)) (HR10.out.below HBt.out (Nat.le_refl _)) 9 (by omega)).mono ?_
                            rintro e wx ⟨rfl, hbx⟩
                            have HB2 := Lib.hid (below_seq HBt.out hbx); clear hbx
                            go_wp2_with fail
                            refine (asked_walk g gr base lv ws (-1) 0 _ (HL10.out.below HB2.out (Nat.le_refl _)) (HR10.out.below HB2.out (Nat.le_refl _)) 6 (by omega)).mono ?_
                            rintro e wy ⟨rfl, hbx⟩
                            have HB3 := Lib.hid (below_seq HB2.out hbx); clear hbx
                            go_wp2_with fail
                            refine (lives_walk _).mono ?_
                            rintro e wz ⟨rfl, hbx⟩
                            have HB4 := Lib.hid (below_seq HB3.out hbx); clear hbx
                            go_wp2
                            go_ret
                            exact ⟨rfl, HF.out _ HB4.out⟩
        · exact absurd (newErr_ok hL) hE
      · rcases HN6.out with ⟨hL, _⟩ | ⟨-, rfl, rfl⟩
        · exact absurd (newErr_ok hL) hE
        · have HV7 := Lib.hid HV6.out
          have HA7 := Lib.hid HA6.out
          have HB7 := Lib.hid HO6.out
          have hz7 := hz6
          have ea := HA7.out.cell n (by rw [ivs_length]; have := HN.out; simp; omega)
          rw [show (ivs .i8 (lv ++ [77]))[n]'(by rw [ivs_length]; have := HN.out; simp; omega) = .int .i8 77 by rw [ivs_get, List.getElem_append_right (by have := HN.out; omega)]; simp] at ea
          have eb := HB7.out.cell n1 (by rw [ivs_length]; have := HN1.out; simp; omega)
          rw [show (ivs .i64 (ws ++ [-77]))[n1]'(by rw [ivs_length]; have := HN1.out; simp; omega) = .int .i64 (-77) by rw [ivs_get, List.getElem_append_right (by have := HN1.out; omega)]; simp] at eb
          generalize newErr base lv ws = er at *
          clear HN6 HBX6 HA6 HO6 HV6 hE
          obtain ⟨w7, rfl⟩ : ∃ w7 : World, w7 = w6 := ⟨_, rfl⟩
          clear r0
          go_wp2
          go_loopw [9] (OvR w1.heap.size gA n cA3 23 .i8 3 lv 77 w7) (fun i _ => n - (intOf i).toNat)
          case atStart => exact ⟨0, Nat.zero_le _, rfl, ⟨by rw [over_zero]; exact HA7.out, But.refl _ _ _⟩⟩
          case round =>
            obtain ⟨k, hk, rfl, hst⟩ := hrel
            have HST := Lib.hid hst; clear hst
            have HVr := Lib.hid (HV7.out.trans (HST.out.but.below w1.heap.size (by omega) (fun b e => by rw [e]; exact hgA1)))
            have HBXr := Lib.hid (HBX1.out.below HVr.out (Nat.le_refl _))
            clear r1 r2
            have r1 := HBXr.out.r1
            by_cases hlt : k < n
            · have hkl : k < lv.length := by rw [HN.out]; exact hlt
              have ca := HST.out.own.cell k (by rw [ivs_length, over_length _ _ _ _ (by omega)]; omega)
              rw [ivs_get, over_at2 3 lv k 77 hkl] at ca
              have fa := HST.out.own.unfrozen k
              obtain ⟨b, o, ha⟩ := HI1.out.il.some (by omega)
              subst ha
              have cl := (HI1.out.il.below HVr.out (Nat.le_refl _)).get k hkl
              have HNx := Lib.hid (fun d => HST.out.step hkl d)
              have hki : (k : Int) < (n : Int) := by omega
              have hki1 : (k : Int) < (n : Int) + 1 := by omega
              have hgr : gA < wr.heap.size := by have := HST.out.but.size; omega
              generalize lv[k] = z at *
              go_wp2
              go_quiet (fail)
              go_wp2
              go_roundw
              case rel => exact ⟨k + 1, by omega, by go_num, HNx.out _⟩
              case measure => simp [intOf]; omega
            · obtain rfl : k = n := by omega
              obtain ⟨w8, rfl⟩ : ∃ w8 : World, w8 = wr := ⟨_, rfl⟩
              have r2 := HBXr.out.r2
              have hs8 := HST.out.but.size
              have HB8 := Lib.hid (HB7.out.grownBut HST.out.but (Nat.le_refl _) (fun b e (hx : b = gA) => by cases e; have h2 : gB = gA := hx; omega))
              go_wp2
              go_loopw [10] (OvR w3.heap.size gB n1 cB5 3 .i64 9 ws (-77) w8) (fun i _ => n1 - (intOf i).toNat)
              case atStart => exact ⟨0, Nat.zero_le _, rfl, ⟨by rw [over_zero]; exact HB8.out, But.refl _ _ _⟩⟩
              case round =>
                obtain ⟨j, hj, rfl, hst2⟩ := hrel
                have HST2 := Lib.hid hst2; clear hst2
                have HVr2 := Lib.hid (HVr.out.trans (HST2.out.but.below w1.heap.size (by omega) (fun b e => by rw [e]; omega)))
                have HBXr2 := Lib.hid (HBX1.out.below HVr2.out (Nat.le_refl _))
                clear r1 r2
                have r2 := HBXr2.out.r2
                by_cases hlt2 : j < n1
                · have hjl : j < ws.length := by rw [HN1.out]; exact hlt2
                  have ca := HST2.out.own.cell j (by rw [ivs_length, over_length _ _ _ _ (by omega)]; omega)
                  rw [ivs_get, over_at2 9 ws j (-77) hjl] at ca
                  have fa := HST2.out.own.unfrozen j
                  obtain ⟨b, o, ha⟩ := HI1.out.iw.some (by omega)
                  subst ha
                  have cl := (HI1.out.iw.below HVr2.out (Nat.le_refl _)).get j hjl
                  have HNx := Lib.hid (fun d => HST2.out.step hjl d)
                  have hki : (j : Int) < (n1 : Int) := by omega
                  have hki1 : (j : Int) < (n1 : Int) + 1 := by omega
                  have hgr : gB < wr.heap.size := by have := HST2.out.but.size; omega
                  generalize ws[j] = z at *
                  go_wp2
                  go_quiet (fail)
                  go_wp2
                  go_roundw
                  case rel => exact ⟨j + 1, by omega, by go_num, HNx.out _⟩
                  case measure => simp [intOf]; omega
                · obtain rfl : j = n1 := by omega
                  go_wp2_with fail
                  refine (lives_walk _).mono ?_
                  rintro e w9 ⟨rfl, hb9⟩
                  go_wp2
                  go_ret
                  exact ⟨rfl, below_seq (HW1.out.trans (HVr2.out.mono HW1.out.size)) hb9⟩
end Go.Proofs.Ytnnfhldfdiaddaa
