/-
  The walk of TrieFloats.
-/
import Derived.Test.YtabbabkmojaoaaaFP
import Derived.Test.YtabbabkmojaoaaaFN
import Derived.Test.YtabbabkmojaoaaaWHF
import Derived.Test.YtabbabkmojaoaaaTX
import Derived.Test.YtabbabkmojaoaaaRQ
import Derived.Deep.RegionHeld3
set_option linter.unusedVariables false
set_option linter.unusedSimpArgs false
namespace Go.Proofs.Ytabbabkmojaoaaa.VF
open Go.RowKit
attribute [local go_sem] Oper.semAt_some run_store_float

/-- the two boxes at the beginning -/
def Fl2 (w : World) (x : Int) : World := (w.alloc (.cells #[.int .i32 x] 21)).alloc (.cells #[.bool false] 4)
structure Fl2At (w : World) (x : Int) (b0 : Nat) (W : World) : Prop where
  size : W.heap.size = b0 + 2
  bel : Below w.heap.size w W
  h0 : W.heap[b0]? = some (.cells #[.int .i32 x] 21 (0, 0))
  h1 : W.heap[b0 + 1]? = some (.cells #[.bool false] 4 (0, 0))
theorem fl2 (w : World) (x : Int) : Fl2At w x w.heap.size (Fl2 w x) := by
  unfold Fl2
  have b1 := (Below.refl _ w).alloc (Nat.le_refl _) (.cells #[.int .i32 x] 21)
  have a1 := heap_alloc_new w (.cells #[.int .i32 x] 21)
  have s1 := World.size_alloc w (.cells #[.int .i32 x] 21)
  generalize w.alloc (.cells #[.int .i32 x] 21) = w1 at *
  have b2 := (Below.refl _ w1).alloc (Nat.le_refl _) (.cells #[.bool false] 4)
  have a2 := heap_alloc_new w1 (.cells #[.bool false] 4)
  have s2 := World.size_alloc w1 (.cells #[.bool false] 4)
  generalize w1.alloc (.cells #[.bool false] 4) = w2 at *
  refine ⟨by omega, b1.trans (b2.mono (by omega)), (b2.block _ (by omega)).trans a1, ?_⟩
  rw [← s1]; exact a2

theorem lies_below {w W : World} (h : Below w.heap.size w W) : Lies w W := fun k hk => h.block k hk
structure FlSt (W0 : World) (bM : Nat) (v : Nat) (T : Nat → Prop) (W : World) : Prop where
  but : But W0.heap.size (fun k => k = bM) W0 W
  cM : W.heap[bM]? = some (.cells #[.int .i64 (v : Nat)] 3 (0, 0))
  tn : ∀ k, T k → W0.heap.size ≤ k ∧ k < W.heap.size
def FlI (W0 : World) (bM : Nat) (T : Nat → Prop) (pre : List (Stretch El)) (W : World) : Prop := FlSt W0 bM (pre.countP (fun s => isN s.v)) T W
theorem FlI.abide {W0 : World} {bM : Nat} (h1 : bM < W0.heap.size) : Abide (FlI W0 bM) := fun T T' s W W' h ho hw =>
  ⟨h.but.off ho (fun k hk => (h.tn k hk).1) h.but.size, ho.cellsBlock h.cM (fun e => by have := (h.tn _ e).1; omega), fun k hk => by
    have hs := ho.size
    have hs2 := h.but.size
    rcases hw k hk with h3 | h3
    · have := h.tn k h3; omega
    · omega⟩
def FlAx (tmps : Array Value) (T : Nat → Prop) (x : Stretch El) (a' : Act) (W : World) : Prop :=
  ∃ bX, a' = { tmps := (tmps.setIfInBounds 60 (.agg #[.int .i32 (x.f : Nat), .int .i32 (x.t : Nat), val8 x.v])).setIfInBounds 13 (.pointer (some ⟨bX, 0, none⟩)), defers := [] } ∧ W.heap[bX]? = some (.cells #[.int .i32 (x.f : Nat), .int .i32 (x.t : Nat), val8 x.v] 53 (0, 0)) ∧ ¬ T bX
/-- what 'Build' makes of the two spans -/
def flL (a b n z : Nat) : List SpanD := [⟨(a : Int), (b : Int), n⟩, ⟨(b : Int) + 1, (b : Int) + 1, z⟩]
theorem buildFl_walk (w : World) (g a b n z : Nat) (hk : FlOk n z) (hab : a ≤ b) (hb : b ≤ 1114100) (hg : w.heap[g]? = some (.cells #[.int .i32 (a : Nat), .int .i32 (b : Nat), .float .f64 n, .int .i32 ((b : Int) + 1), .int .i32 ((b : Int) + 1), .float .f64 z] 53 (0, 0))) :
    Calls Try.prog 28 #[.float .f64 4609434218613702656, .slice (some ⟨g, 0, none⟩) 2 2] w fun e w' => ∃ p S, e = .returned (.tuple #[.pointer (some ⟨p, 0, none⟩), .int .i64 0, .int .i64 0]) ∧ w.heap.size ≤ p ∧ Below w.heap.size w w' ∧
      Made8 (flF a b n z) S ∧ TrieAt val8 148 64 w' p (trieS S) := by
  have eF : fS C15 (flL a b n z) = flF a b n z := funext (fun r => flF_fS r)
  have hs : SpansAt w (some ⟨g, 0, none⟩) (flL a b n z) := fun i hi => by
    have hi2 : i < 2 := hi
    refine ⟨g, 0, rfl, ?_, ?_, ?_⟩
    all_goals
      rw [cell_of_row w g _ _ _ (0, 0) hg]
      rcases Nat.lt_or_ge i 1 with h | h
      · obtain rfl : i = 0 := by omega
        rfl
      · obtain rfl : i = 1 := by omega
        rfl
  refine (Build8_walk C15 (some ⟨g, 0, none⟩) 2 2 (flL a b n z) w rfl (by omega) hs (fun s h => by
    simp only [flL, List.mem_cons, List.not_mem_nil, or_false] at h
    rcases h with rfl | rfl <;> simp only <;> omega)).mono ?_
  intro e w' hq
  obtain ⟨hbel, hq⟩ := bldQ_of (by rw [eF]; exact flF_injB hk) hq
  rcases hq with ⟨i, hi, h1, -⟩ | ⟨-, k, hk2, h1, -⟩ | ⟨-, -, p, S, rfl, hp, hS, hT⟩
  · exact absurd h1 (fl_good hab hb i hi)
  · exact absurd h1 (fl_no_meet k hk2)
  · rw [eF] at hS
    exact ⟨p, S, rfl, hp, hbel, hS, hT⟩

set_option maxRecDepth 100000 in
set_option maxHeartbeats 1600000 in
theorem trieFloats_walk (x y : Int) (minus : Bool) (w : World) (hx : -2147483648 ≤ x ∧ x ≤ 2147483647) (hy : 0 ≤ y ∧ y ≤ 255) :
    Calls Try.prog 6 #[.int .i32 x, .int .u8 y, .bool minus] w fun e w' => e = .returned (.bool true) ∧ Below w.heap.size w w' := by
  have HP := Lib.hid (fl2 w x)
  obtain ⟨b0, hb0⟩ : ∃ b0, b0 = w.heap.size := ⟨_, rfl⟩
  refine calls_of_wpM Try.func6 rfl ?_
  simp only [Try.ntmps6, List.size_toArray, List.length_cons, List.length_nil, Nat.reduceAdd, Nat.reduceSub, Array.replicate_succ, Array.replicate_zero, List.push_toArray, List.append_toArray, List.nil_append, List.cons_append]
  go_upto_region 1 with (fail)
  change Code.wp _ _ _ _ (Fl2 w x)
  rw [← hb0] at HP ⊢
  generalize Fl2 w x = w1 at *
  have hbw : w.heap.size ≤ b0 := by omega
  clear hb0
  have q0 : w1.cell? ⟨b0, 0, none⟩ = some (.int .i32 x) := cell_of_row w1 b0 0 _ _ (0, 0) HP.out.h0
  by_cases hin : 0 ≤ x ∧ x ≤ 1113856
  case neg =>
    have hxx : x < 0 ∨ (¬ x < 0 ∧ 1113856 < x) := by omega
    clear hin
    rcases hxx with h | ⟨h, h'⟩
    all_goals
      go_wp2_with fail
      refine (awake_walk _).mono ?_
      rintro e w2 ⟨rfl, hb⟩
      have r3 := (hb.block (b0 + 1) (by rw [HP.out.size]; omega)).trans HP.out.h1
      have q3 : w2.cell? ⟨b0 + 1, 0, none⟩ = some (.bool false) := cell_of_row w2 (b0 + 1) 0 _ _ (0, 0) r3
      have f3 := frozen_of_row w2 (b0 + 1) 0 _ _ r3
      have e3 := World.cell?_setCell_same' w2 ⟨b0 + 1, 0, none⟩ (.bool true) (by rw [q3]; rfl)
      have HB2 := Lib.hid (show Below w.heap.size w (w2.setCell ⟨b0 + 1, 0, none⟩ (.bool true)) from (HP.out.bel.trans (hb.mono HP.out.bel.size)).setCell (p := ⟨b0 + 1, 0, none⟩) (by show w.heap.size ≤ b0 + 1; omega) _)
      clear hb r3
      go_wp2
      refine leaves_nil (v := .bool true) (by simp [results, Try.results6, go_sem, e3]) ?_
      exact ⟨rfl, HB2.out⟩
  case pos =>
    obtain ⟨a, rfl⟩ : ∃ a : Nat, x = (a : Int) := ⟨x.toNat, by omega⟩
    obtain ⟨m, rfl⟩ : ∃ m : Nat, y = (m : Int) := ⟨y.toNat, by omega⟩
    have h1 : ¬ (a : Int) < 0 := by omega
    have h2 : ¬ (1113856 : Int) < (a : Int) := by omega
    have hm : m ≤ 255 := by omega
    have ha : a ≤ 1113856 := by omega
    clear hin hx hy
    go_upto_if 25 with (fail)
    go_cut [7] from 26 (fun zv wx => wx = w1 ∧ ∃ z : Nat, zv = .float .f64 z ∧ (z = 0 ∨ z = 2 ^ 63))
    case first =>
      cases minus
      · go_wp2
        go_meet
        case rel => exact ⟨rfl, 0, rfl, .inl rfl⟩
      · go_upto_region 5 with (fail)
        refine wp_region_list ?_
        refine wpList_val (v := .float .f64 0) (w' := w1) rfl (by rfl) ?_
        refine wpList_val (v := .float .f64 9223372036854775808) (w' := w1) rfl (by kernel_rfl) ?_
        go_wp2
        go_meet
        case rel => exact ⟨rfl, 9223372036854775808, rfl, .inr (by decide)⟩
    case rest =>
      obtain ⟨rfl, z, rfl, hz⟩ := hcut
      have HZ := Lib.hid hz; clear hz
      go_upto_region 7 with (fail)
      obtain ⟨T, hT⟩ : ∃ T : Nat, T = a + m % 200 := ⟨_, rfl⟩
      have eT : (a : Int) + (m : Int) % 200 = (T : Int) := by omega
      rw [eT]
      have hT1 : a ≤ T := by omega
      have hT2 : T ≤ 1114100 := by omega
      have HTe := Lib.hid hT; clear hT eT h1 h2 hm ha
      have HK1 := Lib.hid (fun (ob : Obj) => (show ((wc.drewN 2).alloc ob).cell? ⟨b0, 0, none⟩ = some (.int .i32 (a : Nat)) from (((Below.refl (wc.drewN 2).heap.size _).alloc (Nat.le_refl _) ob).cell (p := ⟨b0, 0, none⟩) (World.block_lt_of_cell? wc _ q0)).trans q0))
      have HWr : Hid (IntKind.i32.wrap ((T : Int) + 1) = (T : Int) + 1) := Lib.hid (by unfold IntKind.wrap IntKind.bits IntKind.signed; simp; omega)
      have hb0l : b0 < wc.heap.size := World.block_lt_of_cell? wc _ q0
      go_region_held3 (fun w' : World => w'.cell? ⟨b0, 0, none⟩ = some (.int .i32 (a : Nat))) (first | exact q0 | exact HK1.out _ | exact (hbel.cell (p := ⟨b0, 0, none⟩) (by show b0 < _; simp; omega)).trans (HK1.out _)) (first
        | (go_at_call 29; refine (nan_walk _).mono ?_; rintro e w' ⟨nb, rfl, hnb, rfl⟩)
        | (go_at_call 28; simp only [HWr.out]; refine (buildFl_walk ((wc.drewN 2).alloc _) wc.heap.size a T nb z ⟨hnb, HZ.out⟩ hT1 hT2 (heap_alloc_new (wc.drewN 2) _)).mono ?_; rintro e w4 ⟨p, S, rfl, hp, hbel, hS, hT⟩))
      have HFl : Hid (FlOk nb z) := Lib.hid ⟨hnb, HZ.out⟩
      have hA4 : Below wc.heap.size wc w4 := (below_drewN (Below.refl wc.heap.size wc) 2).trans (((Below.refl wc.heap.size (wc.drewN 2)).alloc (Nat.le_refl _) _).trans (hbel.mono (by simp)))
      have HB4 : Hid (Below w.heap.size w w4) := Lib.hid (HP.out.bel.trans (hA4.mono HP.out.bel.size))
      have hs4 : b0 + 2 ≤ w4.heap.size := by have := hA4.size; have := HP.out.size; omega
      have R0 := Lib.hid ((hA4.block b0 (by rw [HP.out.size]; omega)).trans HP.out.h0)
      have R1 := Lib.hid ((hA4.block (b0 + 1) (by rw [HP.out.size]; omega)).trans HP.out.h1)
      obtain ⟨Tr, hTr⟩ : ∃ Tr, Tr = trieS S := ⟨_, rfl⟩
      have HOk := Lib.hid (show TrieOk Tr from by rw [hTr]; exact hS.trie)
      have hpos : 0 < Tr.low.length := by rw [hTr]; exact hS.pos.1
      have HLook := Lib.hid (show ∀ r, r ≤ 1114111 → lookT (0 : El) Tr r = flF a T nb z r from fun r hr => by rw [hTr]; exact hS.look r hr)
      have HMany : Hid (T / 64 - a / 64 + 1 ≤ Tr.low.length ∧ Tr.low.length ≤ T / 64 - a / 64 + 1 + 3) := Lib.hid (by
        rw [hTr]
        exact flF_manyK HFl.out hT1 hT2 S hS.eq)
      rw [← hTr] at hT
      have HT := Lib.hid hT
      obtain ⟨N, hN⟩ : ∃ N, N = 1114112 := ⟨_, rfl⟩
      have HTold := Lib.hid (show _ from nan_told (isN := isN) (ne := neV) (f := lookT (0 : El) Tr) hT1 N (fun r hr => by rw [HLook.out r (by omega)]; exact flF_isN HFl.out r) (fun x y h => by
        unfold neV
        rcases h with h | h
        · rw [(isN_order h y).1]; rfl
        · rw [(isN_order h x).2]; rfl) (by omega))
      have HN := Lib.hid hN
      clear hT hTr hS hbel hp hA4 hnb HK1 HWr HP q0 hb0l hN
      have HA5 := Lib.hid (heap_alloc_new w4 (.cells #[.int .i64 0] 3))
      have HB5 := Lib.hid ((Below.refl w4.heap.size w4).alloc (Nat.le_refl _) (.cells #[.int .i64 0] 3))
      have HZ5 := Lib.hid (World.size_alloc w4 (.cells #[.int .i64 0] 3))
      have qF := fun (w : World) (cs : Array Value) => run_eql_func_nil (P := Try.prog) w 55 (.func 71) #[] cs _ _ _ Try.underlying55
      go_wp2_with fail
      generalize w4.alloc (.cells #[.int .i64 0] 3) = w5 at *
      refine (Spans8_fun (some ⟨p, 0, none⟩) w5).mono ?_
      rintro e w6 ⟨rfl, -, hz6, hb6⟩
      have HB6 := Lib.hid (HB5.out.trans (hb6.mono HB5.out.size))
      have hM5 : w4.heap.size < w5.heap.size := (Array.getElem?_eq_some_iff.1 HA5.out).1
      have HA6 := Lib.hid ((hb6.block _ hM5).trans HA5.out)
      clear hb6 HB5 HA5 HZ5
      go_wp2_with fail
      clear qF
      refine (Spans8_fun (some ⟨p, 0, none⟩) w6).mono ?_
      rintro e w7 ⟨rfl, c7, hz7, hb7⟩
      have HB7 := Lib.hid (HB6.out.trans (hb7.mono HB6.out.size))
      have hM6 : w4.heap.size < w6.heap.size := by omega
      have HA7 := Lib.hid ((hb7.block _ hM6).trans HA6.out)
      clear hb7 HB6 HA6
      obtain ⟨bM, hbM⟩ : ∃ bM, bM = w4.heap.size := ⟨_, rfl⟩
      rw [← hbM] at HA7 hM6 ⊢
      have hM7 : bM < w7.heap.size := by omega
      have HBm := Lib.hid hbM
      have hRb : w4.heap.size ≤ bM := Nat.le_of_eq hbM.symm
      clear hbM
      have HSeq := Lib.hid (spans_stops w4 p Tr HOk.out hpos HT.out w6.heap.size (fun k => k < w7.heap.size ∧ k ≠ bM) w7 (lies_below HB7.out) HB7.out.size (fun k hk => ⟨Nat.lt_of_lt_of_le hk HB7.out.size, by omega⟩) ⟨by omega, by omega⟩ c7 N HN.out)
      clear c7 hz7 hz6 hM5
      go_wp2
      refine wp_rangeX (gf := 71) (lb := #[.pointer (some ⟨w6.heap.size, 0, none⟩)]) rfl (enters_of Try.func71 (by kernel_rfl) rfl) HSeq.out (Below.refl _ _) (fun k hk => hk.1) (fun _ => rfl)
        (FlI w7 bM) (fun _ _ _ _ => False) (FlI.abide hM7) (fun _ _ _ _ _ _ h => h.elim) ⟨But.refl _ _ _, HA7.out, fun _ h => h.elim⟩
        FlAx (fun T x a' W W' h ho => by obtain ⟨bX, h1, h2, h3⟩ := h; exact ⟨bX, h1, ho.cellsBlock h2 h3, h3⟩) ?assign ?body ?done ?stop
      case stop =>
        rintro D c T pre W - - - h
        exact h.elim
      case assign =>
        rintro l Tt pre x W K hi hK
        have HK := Lib.hid hK; clear hK
        have hA := heap_alloc_new W (.cells #[.int .i32 (x.f : Nat), .int .i32 (x.t : Nat), val8 x.v] 53)
        have hB := (Below.refl W.heap.size W).alloc (Nat.le_refl _) (.cells #[.int .i32 (x.f : Nat), .int .i32 (x.t : Nat), val8 x.v] 53)
        have hI : FlI w7 bM Tt pre (W.alloc (.cells #[.int .i32 (x.f : Nat), .int .i32 (x.t : Nat), val8 x.v] 53)) := FlI.abide hM7 _ _ _ _ _ hi (Off.of_below hB) (Wider.refl _ _ _)
        have HH := Lib.hid (And.intro hB (And.intro hI (And.intro hA (show ¬ Tt W.heap.size from fun e => Nat.lt_irrefl _ (hi.tn _ e).2))))
        clear hA hB hI hi
        simp only [encQ]
        unfold val8
        gi_wp2
        exact HK.out _ _ (Kept.of_below HH.out.1) HH.out.2.1 ⟨W.heap.size, rfl, HH.out.2.2⟩
      case body =>
        rintro lp Tt pre x a' W hTl hl - hst hA hlen hsp
        obtain ⟨bX, rfl, hX, hXT⟩ := hA
        obtain ⟨kq, -, -, hpk⟩ := hsp
        have hnan := HTold.out.1 pre x (by rw [hpk]; exact List.take_prefix _ _)
        have hpre : pre ++ [x] <+: spL neV (lookT (0 : El) Tr) N := by rw [hpk]; exact List.take_prefix _ _
        have hcl := hpre.sublist.countP_le (p := fun s => isN s.v)
        rw [HTold.out.2] at hcl
        clear hpre
        have HSt := Lib.hid hst
        have HX := Lib.hid hX
        have q0 := cell_of_row W bX 0 _ _ (0, 0) hX
        have q1 := cell_of_row W bX 1 _ _ (0, 0) hX
        have q2 := cell_of_row W bX 2 _ _ (0, 0) hX
        simp at q0 q1 q2
        unfold val8 at q2
        obtain ⟨xf, xt, xv⟩ := x
        dsimp only at q0 q1 q2 hnan
        have HCnt : Hid ((pre ++ [(⟨xf, xt, xv⟩ : Stretch El)]).countP (fun s => isN s.v) = pre.countP (fun s => isN s.v) + (if isN xv = true then 1 else 0)) := Lib.hid (by simp [List.countP_append, List.countP_cons])
        obtain ⟨c, hc⟩ : ∃ c, c = pre.countP (fun s => isN s.v) := ⟨_, rfl⟩
        rw [← hc] at hnan
        rw [HCnt.out, ← hc] at hcl
        have hcM : W.heap[bM]? = some (.cells #[.int .i64 (c : Nat)] 3 (0, 0)) := by rw [hc]; exact hst.cM
        have m1 := cell_of_row W bM 0 _ _ (0, 0) hcM
        have m2 := frozen_of_row W bM 0 _ _ hcM
        have HcM := Lib.hid hcM
        simp at m1
        have HC := Lib.hid hc
        clear hst hX hpk hlen hc hcM
        by_cases hv : isN xv = true
        · obtain ⟨h1, h2⟩ := hnan hv
          subst h1
          subst h2
          have hv' : (FloatKind.f64.format.order xv xv != some .eq) = true := hv
          have HV := Lib.hid hv
          rw [if_pos hv] at hcl
          have hac : a + c ≤ 1114100 := by omega
          have k0 : W.cell? ⟨b0, 0, none⟩ = some (.int .i32 (a : Nat)) := HSt.out.but.cell (cell_of_row w7 b0 0 _ _ (0, 0) ((HB7.out.block b0 (by omega)).trans R0.out)) (by omega) (by omega)
          rw [show ((a + c : Nat) : Int) = (a : Int) + (c : Int) by omega] at q0 q1
          clear hnan hv hcl
          gi_wp2
          refine ⟨Kept.of_grown (grown_store W bM 0 _) (fun k e hk => by cases e; rcases hk with hk | hk; · have := HSt.out.tn _ hk; omega
                                                                         · exact hk.2 rfl), HSt.out.but.setCell bM 0 _ (.inl rfl), ?_, fun k hk => by have := HSt.out.tn k hk; simpa using this⟩
          have e := heap_setCell_same W bM 0 _ _ (.int .i64 ((c : Int) + 1)) HcM.out
          rw [HCnt.out, if_pos HV.out, ← HC.out]
          simpa using e
        · have hv' : (FloatKind.f64.format.order xv xv != some .eq) = false := eq_false_of_ne_true hv
          have HV := Lib.hid hv
          clear hnan hv hcl
          gi_wp2
          refine ⟨Kept.refl _ _ _, ?_⟩
          have hst := HSt.out
          unfold FlI at hst ⊢
          rw [HCnt.out, if_neg HV.out, Nat.add_zero]
          exact hst
      case done =>
        rintro D Tt xs W hD hTD hxs hst hDk
        unfold FlI at hst
        rw [hxs, HTold.out.2] at hst
        have hLW : Lies w4 W := fun k hk => (hst.but.block k (by omega) (by omega)).trans (HB7.out.block k hk)
        have HTW := Lib.hid (hLW.trie HT.out)
        have S0 := Lib.hid (hLW.block R0.out)
        have S1 := Lib.hid (hLW.block R1.out)
        have S2 := Lib.hid hst.cM
        have S3 := Lib.hid hDk
        have HBW : Hid (Below w.heap.size w W) := Lib.hid (HB4.out.trans ((HB7.out.mono HB4.out.size).trans (hst.but.below w.heap.size (by have := HB4.out.size; omega) (fun k hk => by rw [hk]; have := HB4.out.size; omega))))
        have hsW := hst.but.size
        clear hst hDk hxs hLW hTD HT R0 R1 HA7 HB7 HSeq HB4 HTold
        have qF := fun (w : World) (cs : Array Value) => run_eql_func_nil (P := Try.prog) w 34 (.func 75) #[] cs _ _ _ Try.underlying34
        go_wp2_with fail
        refine (nan_walk _).mono ?_
        rintro e w8 ⟨n2, rfl, hn2, rfl⟩
        go_wp2_with fail
        refine (Where8_fun (some ⟨p, 0, none⟩) n2 (W.drewN 1)).mono ?_
        rintro e w9 ⟨rfl, -, -, -, hb9⟩
        have HB9 : Hid (Below W.heap.size W w9) := Lib.hid ((below_drewN (Below.refl W.heap.size W) 1).trans hb9)
        clear hb9 hn2
        go_wp2_with fail
        clear qF
        refine (nan_walk _).mono ?_
        rintro e w10 ⟨n3, rfl, hn3, rfl⟩
        go_wp2_with fail
        refine (Where8_fun (some ⟨p, 0, none⟩) n3 (w9.drewN 1)).mono ?_
        rintro e w11 ⟨rfl, c11, d11, hz11, hb11⟩
        have HB11 : Hid (Below W.heap.size W w11) := Lib.hid (HB9.out.trans ((below_drewN (Below.refl w9.heap.size w9) 1).trans hb11 |>.mono HB9.out.size))
        have hz9 : w9.heap.size + 2 = w11.heap.size := hz11.symm
        have HSeq := Lib.hid (where_none W p Tr HOk.out hpos HTW.out n3 w9.heap.size (fun k => k < w11.heap.size) w11 (lies_below HB11.out) HB11.out.size (fun k hk => Nat.lt_of_lt_of_le hk HB11.out.size) (by omega) (by omega) c11 d11 N HN.out (fun r hr => by rw [(nan_order hn3 _).2]; rfl))
        clear c11 d11 hz11 hb11 hn3 HB9
        go_wp2
        refine wp_rangeX (gf := 75) (lb := #[.pointer (some ⟨w9.heap.size, 0, none⟩), .pointer (some ⟨w9.heap.size + 1, 0, none⟩)]) rfl (enters_of Try.func75 (by kernel_rfl) rfl) HSeq.out (Below.refl _ _) (fun k hk => hk) (fun _ => rfl)
          (BelI w11 w11.heap.size) (fun _ _ _ _ => False) (BelI.abide _ _) (fun _ _ _ _ _ _ h => h.elim) ⟨Below.refl _ _, Nat.le_refl _, fun _ h => h.elim⟩
          (fun _ _ _ _ _ => True) (fun T x a' W W' h ho => trivial) ?assign ?body ?done ?stop
        case stop =>
          rintro D c T pre W - - - h
          exact h.elim
        case assign =>
          rintro l T pre x W K hi hK
          have HK := Lib.hid hK; clear hK
          simp only [encR]
          gi_wp2
          exact HK.out _ _ (Kept.refl _ _ _) hi trivial
        case body =>
          rintro lp T pre x a' W - - - - - - hsp
          exact hsp.elim
        case done =>
          rintro D2 T2 xs2 W2 hD2 - - ⟨hb2, -, -⟩ hDk2
          have HB2 : Hid (Below W.heap.size W W2) := Lib.hid (HB11.out.trans (hb2.mono HB11.out.size))
          have hsz2 := HB2.out.size
          have HT2 := Lib.hid (HTW.out.below HB2.out (Nat.le_refl _))
          have hM8 : bM < W.heap.size := (Array.getElem?_eq_some_iff.1 S2.out).1
          have hDW : D < W.heap.size := (Array.getElem?_eq_some_iff.1 S3.out).1
          have hD2W : W.heap.size ≤ D2 := by have := HB11.out.size; omega
          have U0 := Lib.hid ((HB2.out.block b0 (by omega)).trans S0.out)
          have U1 := Lib.hid ((HB2.out.block (b0 + 1) (by omega)).trans S1.out)
          have U2 := Lib.hid ((HB2.out.block bM hM8).trans S2.out)
          have U3 := Lib.hid ((HB2.out.block D hDW).trans S3.out)
          have U4 := Lib.hid hDk2
          have HBx := Lib.hid (HBW.out.trans (HB2.out.mono HBW.out.size))
          clear hb2 hDk2 S0 S1 S2 S3 HTW HSeq HB11 HB2 HBW
          have q0 := cell_of_row W2 b0 0 _ _ (0, 0) U0.out
          simp at q0
          go_wp2_with fail
          have hra : runeR ((a : Nat) : Int) = a := by unfold runeR; rw [if_neg (by omega)]; omega
          have hl0 : lookT (0 : El) Tr a = nb := by rw [HLook.out a (by omega)]; unfold flF; rw [if_pos ⟨Nat.le_refl _, hT1⟩]
          have hl1 : lookT (0 : El) Tr (T + 1) = z := by rw [HLook.out (T + 1) (by omega)]; unfold flF; rw [if_neg (by omega), if_pos rfl]
          have hl2 : lookT (0 : El) Tr (T + 2) = 4609434218613702656 := by rw [HLook.out (T + 2) (by omega)]; unfold flF; rw [if_neg (by omega), if_neg (by omega)]; rfl
          have hr1 : runeR ((T : Int) + 1) = T + 1 := by unfold runeR; rw [if_neg (by omega)]; omega
          have hr2 : runeR ((T : Int) + 2) = T + 2 := by unfold runeR; rw [if_neg (by omega)]; omega
          have HL := Lib.hid (And.intro hra (And.intro hl0 (And.intro hr1 (And.intro hl1 (And.intro hr2 hl2)))))
          clear hra hl0 hl1 hl2 hr1 hr2
          refine (At8_walk W2 p Tr HOk.out hpos HT2.out ((a : Nat) : Int) (by omega) (by omega)).mono ?_
          rintro e W3 ⟨rfl, q, rfl⟩
          rw [HL.out.1, HL.out.2.1]
          unfold val8
          have HT3 : Hid (TrieAt val8 148 64 (W2.drewN q) p Tr) := Lib.hid (HT2.out.below (below_drewN (Below.refl W2.heap.size W2) q) (Nat.le_refl _))
          have HBx3 := Lib.hid (below_drewN HBx.out q)
          have V0 : Hid ((W2.drewN q).heap[b0]? = _) := Lib.hid U0.out
          have V1 : Hid ((W2.drewN q).heap[b0 + 1]? = _) := Lib.hid U1.out
          have V2 : Hid ((W2.drewN q).heap[bM]? = _) := Lib.hid U2.out
          have V3 : Hid ((W2.drewN q).heap[D]? = _) := Lib.hid U3.out
          have V4 : Hid ((W2.drewN q).heap[D2]? = _) := Lib.hid U4.out
          have hs3 : W.heap.size ≤ (W2.drewN q).heap.size := hsz2
          clear HT2 HBx U0 U1 U2 U3 U4 q0 hsz2
          generalize W2.drewN q = W3 at *
          have q0 := cell_of_row W3 b0 0 _ _ (0, 0) V0.out
          simp at q0
          have hTi : (0 : Int) ≤ (T : Int) := by omega
          have hai : (0 : Int) ≤ (a : Int) := by omega
          go_wp2_with fail
          refine (Blocks8_walk W3 p Tr HOk.out hpos HT3.out).mono ?_
          rintro e W4 ⟨rfl, q, rfl⟩
          have HT4 : Hid (TrieAt val8 148 64 (W3.drewN q) p Tr) := Lib.hid (HT3.out.below (below_drewN (Below.refl W3.heap.size W3) q) (Nat.le_refl _))
          have HBx4 := Lib.hid (below_drewN HBx3.out q)
          have X0 : Hid ((W3.drewN q).heap[b0]? = _) := Lib.hid V0.out
          have X1 : Hid ((W3.drewN q).heap[b0 + 1]? = _) := Lib.hid V1.out
          have X2 : Hid ((W3.drewN q).heap[bM]? = _) := Lib.hid V2.out
          have X3 : Hid ((W3.drewN q).heap[D]? = _) := Lib.hid V3.out
          have X4 : Hid ((W3.drewN q).heap[D2]? = _) := Lib.hid V4.out
          have hs4 : W.heap.size ≤ (W3.drewN q).heap.size := hs3
          clear HT3 HBx3 V0 V1 V2 V3 V4 q0 hs3
          have V0 := X0; have V1 := X1; have V2 := X2; have V3 := X3; have V4 := X4
          clear X0 X1 X2 X3 X4
          generalize W3.drewN q = W4 at *
          have q0 := cell_of_row W4 b0 0 _ _ (0, 0) V0.out
          simp at q0
          have q2 := cell_of_row W4 bM 0 _ _ (0, 0) V2.out
          simp at q2
          rw [show ((T + 1 - a : Nat) : Int) = (T : Int) - (a : Int) + 1 by omega] at q2
          have hvv : (FloatKind.f64.format.order nb nb != some .eq) = true := by rw [(nan_order HFl.out.nan nb).1]; rfl
          have hzz : (FloatKind.f64.format.order z 0 == some .eq) = true := HFl.out.zz.2.2.2.2
          have h15 : (FloatKind.f64.format.order 4609434218613702656 4609434218613702656 == some .eq) = true := HFl.out.zz.2.2.2.1
          have HPos := Lib.hid hpos
          have hm1 := HMany.out.1
          have hm2 := HMany.out.2
          obtain ⟨Ln, hLn⟩ : ∃ Ln, Ln = Tr.low.length := ⟨_, rfl⟩
          rw [← hLn] at hm1 hm2 ⊢
          clear hLn hpos
          generalize Tr.mid.length = Mn at *
          have hL1 : (T : Int) / 64 - (a : Int) / 64 + 1 ≤ (Ln : Int) := by omega
          have hL2 : (Ln : Int) ≤ (T : Int) / 64 - (a : Int) / 64 + 1 + 3 := by omega
          have HM := Lib.hid (And.intro hm1 hm2)
          clear hm1 hm2 HMany
          go_wp2_with fail
          refine (At8_walk W4 p Tr HOk.out HPos.out HT4.out _ (by omega) (by omega)).mono ?_
          rintro e W5 ⟨rfl, q, rfl⟩
          rw [HL.out.2.2.1, HL.out.2.2.2.1]
          unfold val8
          have HT5 : Hid (TrieAt val8 148 64 (W4.drewN q) p Tr) := Lib.hid (HT4.out.below (below_drewN (Below.refl W4.heap.size W4) q) (Nat.le_refl _))
          have HBx5 := Lib.hid (below_drewN HBx4.out q)
          have X0 : Hid ((W4.drewN q).heap[b0]? = _) := Lib.hid V0.out
          have X1 : Hid ((W4.drewN q).heap[b0 + 1]? = _) := Lib.hid V1.out
          have X2 : Hid ((W4.drewN q).heap[bM]? = _) := Lib.hid V2.out
          have X3 : Hid ((W4.drewN q).heap[D]? = _) := Lib.hid V3.out
          have X4 : Hid ((W4.drewN q).heap[D2]? = _) := Lib.hid V4.out
          have hs5 : W.heap.size ≤ (W4.drewN q).heap.size := hs4
          clear HT4 HBx4 V0 V1 V2 V3 V4 q0 q2 hs4
          have V0 := X0; have V1 := X1; have V2 := X2; have V3 := X3; have V4 := X4
          clear X0 X1 X2 X3 X4
          generalize W4.drewN q = W5 at *
          have q0 := cell_of_row W5 b0 0 _ _ (0, 0) V0.out
          simp at q0
          go_wp2_with fail
          refine (At8_walk W5 p Tr HOk.out HPos.out HT5.out _ (by omega) (by omega)).mono ?_
          rintro e W6 ⟨rfl, q, rfl⟩
          rw [HL.out.2.2.2.2.1, HL.out.2.2.2.2.2]
          unfold val8
          have HT6 : Hid (TrieAt val8 148 64 (W5.drewN q) p Tr) := Lib.hid (HT5.out.below (below_drewN (Below.refl W5.heap.size W5) q) (Nat.le_refl _))
          have HBx6 := Lib.hid (below_drewN HBx5.out q)
          have X0 : Hid ((W5.drewN q).heap[b0]? = _) := Lib.hid V0.out
          have X1 : Hid ((W5.drewN q).heap[b0 + 1]? = _) := Lib.hid V1.out
          have X2 : Hid ((W5.drewN q).heap[bM]? = _) := Lib.hid V2.out
          have X3 : Hid ((W5.drewN q).heap[D]? = _) := Lib.hid V3.out
          have X4 : Hid ((W5.drewN q).heap[D2]? = _) := Lib.hid V4.out
          have hs6 : W.heap.size ≤ (W5.drewN q).heap.size := hs5
          clear HT5 HBx5 V0 V1 V2 V3 V4 q0 hs5
          have V0 := X0; have V1 := X1; have V2 := X2; have V3 := X3; have V4 := X4
          clear X0 X1 X2 X3 X4
          generalize W5.drewN q = W6 at *
          have q0 := cell_of_row W6 b0 0 _ _ (0, 0) V0.out
          simp at q0
          go_wp2_with fail
          refine (awake_walk _).mono ?_
          rintro e W7 ⟨rfl, hb⟩
          have r3 := (hb.block (b0 + 1) (Array.getElem?_eq_some_iff.1 V1.out).1).trans V1.out
          have hD7 := (hb.block D (Array.getElem?_eq_some_iff.1 V3.out).1).trans V3.out
          have hE7 := (hb.block D2 (Array.getElem?_eq_some_iff.1 V4.out).1).trans V4.out
          have q3 : W7.cell? ⟨b0 + 1, 0, none⟩ = some (.bool false) := cell_of_row W7 (b0 + 1) 0 _ _ (0, 0) r3
          have f3 := frozen_of_row W7 (b0 + 1) 0 _ _ r3
          have E3 := Lib.hid (World.cell?_setCell_same' W7 ⟨b0 + 1, 0, none⟩ (.bool true) (by rw [q3]; rfl))
          have HB8 := Lib.hid (show Below w.heap.size w (W7.setCell ⟨b0 + 1, 0, none⟩ (.bool true)) from (HBx6.out.trans (hb.mono HBx6.out.size)).setCell (p := ⟨b0 + 1, 0, none⟩) (by show w.heap.size ≤ b0 + 1; omega) _)
          have HD8 : Hid ((W7.setCell ⟨b0 + 1, 0, none⟩ (.bool true)).heap[D]? = some (.deferred (some []))) := Lib.hid (by rw [heap_setCell_other _ ⟨b0 + 1, 0, none⟩ D _ (by simp; omega)]; exact hD7)
          have HE8 : Hid ((W7.setCell ⟨b0 + 1, 0, none⟩ (.bool true)).heap[D2]? = some (.deferred (some []))) := Lib.hid (by rw [heap_setCell_other _ ⟨b0 + 1, 0, none⟩ D2 _ (by simp; omega)]; exact hE7)
          clear hb r3 hD7 hE7
          go_wp2
          refine leaves_mark HE8.out (leaves_mark (by rw [World.putObj_heap_other (show D ≠ D2 by omega)]; exact HD8.out) (leaves_nil (v := .bool true) ?_ ?_))
          · have q := cell_mark (cell_mark E3.out D2 (.deferred none) (by omega)) D (.deferred none) (by omega)
            simp [results, Try.results6, go_sem, q]
          · exact ⟨rfl, below_mark2 (below_mark2 HB8.out D2 _ (by omega)) D _ (by omega)⟩
end Go.Proofs.Ytabbabkmojaoaaa.VF
