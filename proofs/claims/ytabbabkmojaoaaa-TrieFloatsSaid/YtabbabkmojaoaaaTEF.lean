/-
  The walk of 'Build' (float64).
-/
import Derived.Test.YtabbabkmojaoaaaTDF
import Derived.Test.YtabbabkmojaoaaaTE
set_option linter.unusedVariables false
set_option linter.unusedSimpArgs false
namespace Go.Proofs.Ytabbabkmojaoaaa.VF
open Go.RowKit
attribute [local go_sem] run_store_float

instance (s : SpanD) : Decidable (badS s) := by unfold badS; infer_instance
def BldPost (w : World) (rest : El) (l : List SpanD) (e : Ending) (w' : World) : Prop :=
  Below w.heap.size w w' ∧
    ((∃ i, i < l.length ∧ badS (l.getD i default) ∧ (∀ j, j < i → ¬ badS (l.getD j default)) ∧ e = .returned (.tuple #[.pointer none, .int .i64 (i : Nat), .int .i64 110])) ∨
     ((∀ j, j < l.length → ¬ badS (l.getD j default)) ∧ ∃ k, k < l.length ∧ meetS l k ∧ (∀ j, j < k → ¬ meetS l j) ∧ e = .returned (.tuple #[.pointer none, .int .i64 (k : Nat), .int .i64 111])) ∨
     ((∀ j, j < l.length → ¬ badS (l.getD j default)) ∧ (∀ j, j < l.length → ¬ meetS l j) ∧ ∃ g, e = .returned (.tuple #[.pointer (some ⟨g, 0, none⟩), .int .i64 0, .int .i64 0]) ∧ w.heap.size ≤ g ∧
       ∃ am cm al cl, MkAt val8 1 218 148 120 145 w' g (mkF (fS rest l) 17408) (mkF (fS rest l) 17408).lows (mkF (fS rest l) 17408).mids am cm al cl))
def Bl1 (w0 : World) (n : Nat) (l : List SpanD) (i : Value) (wr : World) : Prop :=
  ∃ k : Nat, k ≤ n ∧ i = .int .i64 k ∧ (∀ j, j < k → ¬ badS (l.getD j default)) ∧ Below w0.heap.size w0 wr

def Bl2 (w3 : World) (go N n : Nat) (l : List SpanD) (i : Value) (wr : World) : Prop :=
  ∃ k : Nat, k ≤ n ∧ i = .int .i64 k ∧ (∀ j, j < k → ¬ meetS l j) ∧ Own go 21 wr (some ⟨go, 0, none⟩) N N (ivs .i32 (osF N (l.take k))) ∧ w3.grownBy wr (some go)
def Bl3 (W : World) (go N k : Nat) (l : List SpanD) (f t : Int) (v : Value) (wr : World) : Prop :=
  ∃ r : Nat, v = .int .i32 (r : Nat) ∧ f ≤ (r : Int) ∧ (r : Int) ≤ t + 1 ∧ (∀ x : Int, f ≤ x → x < (r : Int) → ownF (l.take k) x = 0) ∧ Own go 21 wr (some ⟨go, 0, none⟩) N N (ivs .i32 (osG N (l.take k) f r ((k : Int) + 1))) ∧ W.grownBy wr (some go)

set_option maxRecDepth 100000 in
set_option maxHeartbeats 1600000 in
theorem Build8_walkB (rest : El) (a : Option Addr) (n c : Nat) (l : List SpanD) (w : World) (hl : l.length = n) (hn : n ≤ 2097152) (hs : SpansAt w a l) (hwf : ∀ s ∈ l, -2147483648 ≤ s.f ∧ s.f ≤ 2147483647 ∧ -2147483648 ≤ s.t ∧ s.t ≤ 2147483647) :
    Calls Try.prog 28 #[.float .f64 rest, .slice a n c] w fun e w' => BldPost w rest l e w' := by
  have HL := Lib.hid hl; clear hl
  have HS := Lib.hid hs; clear hs
  have HWf := Lib.hid hwf; clear hwf
  obtain ⟨bR, hbR⟩ : ∃ bR, bR = w.heap.size := ⟨_, rfl⟩
  have HW0 : Hid (Below w.heap.size w ((w.alloc (.cells #[.float .f64 rest] 47)).alloc (.cells #[.slice a n c] 139)) ∧ ((w.alloc (.cells #[.float .f64 rest] 47)).alloc (.cells #[.slice a n c] 139)).heap[bR]? = some (.cells #[.float .f64 rest] 47 (0, 0)) ∧
      ((w.alloc (.cells #[.float .f64 rest] 47)).alloc (.cells #[.slice a n c] 139)).heap[bR + 1]? = some (.cells #[.slice a n c] 139 (0, 0)) ∧ ((w.alloc (.cells #[.float .f64 rest] 47)).alloc (.cells #[.slice a n c] 139)).heap.size = bR + 1 + 1) := Lib.hid (by
    rw [hbR]
    refine ⟨((Below.refl _ w).alloc (Nat.le_refl _) _).alloc (by simp) _, ?_, ?_, by simp⟩
    · rw [Below.heap_alloc _ _ _ (by simp)]
      exact heap_alloc_new w _
    · have := heap_alloc_new (w.alloc (.cells #[.float .f64 rest] 47)) (.cells #[.slice a n c] 139)
      simpa using this)
  go_enter Try.func28, Try.ntmps28
  go_upto_region 1 with (fail)
  rw [← hbR]
  generalize ((w.alloc (.cells #[.float .f64 rest] 47)).alloc (.cells #[.slice a n c] 139)) = w0 at *
  have HBr := Lib.hid hbR; clear hbR
  have HS0 := Lib.hid (HS.out.below HW0.out.1 (fun b o e h0 => HS.out.lt b o e h0))
  have q1 := cell_of_row w0 (bR + 1) 0 _ _ (0, 0) HW0.out.2.2.1
  simp at q1
  go_wp2
  go_loopw [15] (Bl1 w0 n l) (fun i _ => n - (intOf i).toNat)
  case atStart => exact ⟨0, Nat.zero_le _, rfl, fun j hj => by omega, Below.refl _ _⟩
  case round =>
    obtain ⟨k, hk, rfl, hgood, hbel⟩ := hrel
    have HGd := Lib.hid hgood; clear hgood
    have HBe := Lib.hid hbel; clear hbel
    by_cases hkn : k < n
    · have hki : (k : Int) < (n : Int) := by omega
      have hkl : k < l.length := by rw [HL.out]; exact hkn
      obtain ⟨b, o, ha⟩ := HS0.out.some (by omega)
      subst ha
      obtain ⟨c1, c2, c3⟩ := (HS0.out.below HBe.out (fun b o e h0 => HS0.out.lt b o e h0)).get k hkl
      have hwk := HWf.out l[k] (List.getElem_mem hkl)
      have HGk := Lib.hid (show l.getD k default = l[k] by simp [hkl])
      generalize l[k] = s at *
      by_cases hb : badS s
      · have HBad := Lib.hid hb
        have hcs : (s.f < 0) ∨ (¬ s.f < 0 ∧ 1114111 < s.t) ∨ (¬ s.f < 0 ∧ ¬ 1114111 < s.t ∧ s.t < s.f) := by unfold badS at hb; omega
        clear hb
        rcases hcs with h1 | ⟨h1, h2⟩ | ⟨h1, h2, h3⟩
        all_goals
          go_wp2
          go_ret3
          exact ⟨(HW0.out.1.trans (HBe.out.mono HW0.out.1.size)).alloc (Nat.le_trans HW0.out.1.size HBe.out.size) _, .inl ⟨k, hkl, by rw [HGk.out]; exact HBad.out, HGd.out, rfl⟩⟩
      · have HBad := Lib.hid hb
        have hcs : ¬ s.f < 0 ∧ ¬ 1114111 < s.t ∧ ¬ s.t < s.f := by unfold badS at hb; omega
        obtain ⟨h1, h2, h3⟩ := hcs
        clear hb
        go_wp2
        refine ⟨⟨k + 1, by omega, by go_num, fun j hj => ?_, HBe.out.alloc HBe.out.size _⟩, by simp [intOf]; omega⟩
        by_cases e : j = k
        · rw [e, HGk.out]; exact HBad.out
        · exact HGd.out j (by omega)
    · obtain rfl : k = n := by omega
      have hki : ¬ (k : Int) < (k : Int) := by omega
      obtain ⟨w1, rfl⟩ : ∃ w1, w1 = wr := ⟨_, rfl⟩
      obtain ⟨N, hN⟩ : ∃ N : Nat, N = 1114112 := ⟨_, rfl⟩
      have HNN := Lib.hid hN; clear hN
      go_wp2_with (at_make; refine wpList_mk Try.elem32 rfl rfl (.const (.int .i64 1114112)) (.const (.int .i64 1114112)) rfl N (by have := HNN.out; omega) (by have := HNN.out; unfold maxLen; omega) (by rw [HNN.out]; rfl) (by rw [HNN.out]; rfl) ?_)
      intro w2 hown hb2 hs2
      go_upto_region 8 with (fail)
      obtain ⟨go, hgo⟩ : ∃ go, go = w1.heap.size := ⟨_, rfl⟩
      rw [← hgo] at hown hs2 ⊢
      obtain ⟨w3, hw3⟩ : ∃ w3, w3 = w2.alloc (.cells #[.slice (some ⟨go, 0, none⟩) N N] 60) := ⟨_, rfl⟩
      have hB23 : Below w2.heap.size w2 w3 := by rw [hw3]; exact (Below.refl _ _).alloc (Nat.le_refl _) _
      have HBo : Hid (w3.heap[go + 1]? = some (.cells #[.slice (some ⟨go, 0, none⟩) N N] 60 (0, 0))) := Lib.hid (by rw [← hs2, hw3]; exact heap_alloc_new w2 _)
      have hs3 : w3.heap.size = go + 1 + 1 := by rw [hw3]; simp [hs2]
      rw [← hw3]
      clear hw3
      have HO3 : Hid (Own go 21 w3 (some ⟨go, 0, none⟩) N N (ivs .i32 (osF N (l.take 0)))) := Lib.hid (by
        rw [List.take_zero, osF_nil, ← ivs_replicate]
        exact hown.below hB23 (Nat.le_refl _))
      have HB13 : Hid (Below w1.heap.size w1 w3) := Lib.hid (below_sq hb2 hB23)
      have HB03 : Hid (Below w0.heap.size w0 w3) := Lib.hid (below_sq HBe.out HB13.out)
      have hw01 : w0.heap.size ≤ go := by rw [hgo]; exact HBe.out.size
      have HS3 := Lib.hid (HS0.out.below HB03.out (fun b o e h0 => HS0.out.lt b o e h0))
      have HSl := Lib.hid (fun b o e h0 => HS0.out.lt b o e h0)
      have hbR2 : bR + 1 < w0.heap.size := by rw [HW0.out.2.2.2]; omega
      have HbS3 := Lib.hid ((HB03.out.block (bR + 1) hbR2).trans HW0.out.2.2.1)
      have HbR3 := Lib.hid ((HB03.out.block bR (by omega)).trans HW0.out.2.1)
      have HW3 := Lib.hid (HW0.out.1.trans (HB03.out.mono HW0.out.1.size))
      clear hown hb2 hs2 hB23 q1 HB13 HBe hgo
      have q1 := cell_of_row w3 (bR + 1) 0 _ _ (0, 0) HbS3.out
      simp at q1
      have HGd2 := Lib.hid HGd.out
      go_wp2
      go_loopw [40] (Bl2 w3 go N k l) (fun i _ => k - (intOf i).toNat)
      case atStart => exact ⟨0, Nat.zero_le _, rfl, fun j hj => by omega, HO3.out, World.grownBy.refl _ _⟩
      case round =>
        obtain ⟨m, hm, rfl, hnm, hown, hgr⟩ := hrel
        have HNm := Lib.hid hnm; clear hnm
        have HOw := Lib.hid hown; clear hown
        have HGr := Lib.hid hgr; clear hgr
        obtain ⟨w4, rfl⟩ : ∃ w4, w4 = wr := ⟨_, rfl⟩
        by_cases hmk : m < k
        · have hmi : (m : Int) < (k : Int) := by omega
          have hml : m < l.length := by rw [HL.out]; exact hmk
          obtain ⟨b, o, ha⟩ := HS3.out.some (by omega)
          subst ha
          have hbgo : b < go := by have := HSl.out b o rfl (by omega); omega
          obtain ⟨d1, d2, d3⟩ := HS3.out.get m hml
          have c1 := HGr.out.cell d1 (by simp; omega)
          have c2 := HGr.out.cell d2 (by simp; omega)
          have c3 := HGr.out.cell d3 (by simp; omega)
          clear d1 d2 d3
          have hgm : ¬ badS l[m] := by have := HGd2.out m hmk; rwa [show l.getD m default = l[m] by simp [hml]] at this
          have hwk := HWf.out l[m] (List.getElem_mem hml)
          have HEnd := Lib.hid (fun h => osG_end N l m hml h)
          have HNoM := Lib.hid (fun h => no_meet hml h)
          have HYes := Lib.hid (fun (x : Int) h1 h2 h3 => yes_meet (x := x) hml h1 h2 h3)
          generalize l[m] = s at *
          obtain ⟨f, t, v⟩ := s
          simp only at c1 c2 c3 hwk HEnd HNoM HYes
          have hcs : ¬ f < 0 ∧ ¬ 1114111 < t ∧ ¬ t < f := by unfold badS at hgm; simp only at hgm; omega
          clear hgm
          obtain ⟨h1, h2, h3⟩ := hcs
          obtain ⟨fn, rfl⟩ : ∃ fn : Nat, f = (fn : Int) := ⟨f.toNat, by omega⟩
          have htn : t ≤ 1114111 := by omega
          have hg4 : go + 1 + 1 ≤ w4.heap.size := by rw [← hs3]; exact HGr.out.size
          go_upto_region 12 with (fail)
          obtain ⟨w5, hw5⟩ : ∃ w5, w5 = w4.alloc (.cells #[.int .i32 (fn : Nat), .int .i32 t, .float .f64 v] 53) := ⟨_, rfl⟩
          have HG5 : Hid (w4.grownBy w5 (some go)) := Lib.hid (by rw [hw5]; exact World.grownBy_alloc _ _ _)
          have HC5 : Hid (w5.heap[w4.heap.size]? = some (.cells #[.int .i32 (fn : Nat), .int .i32 t, .float .f64 v] 53 (0, 0))) := Lib.hid (by rw [hw5]; exact heap_alloc_new w4 _)
          have HO5 : Hid (Own go 21 w5 (some ⟨go, 0, none⟩) N N (ivs .i32 (osF N (l.take m)))) := Lib.hid (by rw [hw5]; exact World.ownsRow.alloc HOw.out _)
          rw [← hw5]
          clear hw5 c1 c2 c3
          obtain ⟨b5, hb5⟩ : ∃ b5, b5 = w4.heap.size := ⟨_, rfl⟩
          rw [← hb5] at HC5 hg4 ⊢
          clear hb5
          have HH := Lib.hid (And.intro h1 (And.intro h2 h3))
          clear h1 h2 h3
          go_loopw [12] (Bl3 w5 go N m l fn t) (fun v _ => (t + 1 - (intOf v)).toNat)
          case atStart => exact ⟨fn, rfl, Int.le_refl _, by have := HH.out; omega, fun x h1 h2 => by omega, by rw [osG_start]; exact HO5.out, World.grownBy.refl _ _⟩
          case round =>
            obtain ⟨r, rfl, hr1, hr2, hz, hown, hgr⟩ := hrel
            have HZr := Lib.hid hz; clear hz
            have HOr := Lib.hid hown; clear hown
            have HGr5 := Lib.hid hgr; clear hgr
            have e1 := cell_of_row w5 b5 1 _ _ (0, 0) HC5.out
            simp at e1
            have e2 := HGr5.out.cell e1 (by simp; omega)
            clear e1
            by_cases hrt : (r : Int) ≤ t
            · have hrN : r < N := by have := HNN.out; omega
              have hrNi : (r : Int) < (N : Int) := by omega
              have p0 := cell_of_row w3 (go + 1) 0 _ _ (0, 0) HBo.out
              simp at p0
              have p1 := HG5.out.cell (HGr.out.cell p0 (by simp)) (by simp)
              have p2 := HGr5.out.cell p1 (by simp)
              clear p0 p1
              have x1 := HOr.out.cell r (by rw [ivs_length, osG_length]; exact hrN)
              have x2 : (ivs .i32 (osG N (l.take m) fn r ((m : Int) + 1)))[r]'(by rw [ivs_length, osG_length]; exact hrN) = .int .i32 (ownF (l.take m) r) := by
                have := osG_at N (l.take m) fn r ((m : Int) + 1) hrN
                simp only [ivs, List.getElem_map]
                rw [List.getElem?_eq_getElem (by rw [osG_length]; exact hrN)] at this
                rw [Option.some.inj this]
              rw [x2] at x1
              clear x2
              have f1 := HOr.out.unfrozen r
              by_cases h0 : ownF (l.take m) r = 0
              · rw [h0] at x1
                have HZ0 := Lib.hid h0; clear h0
                go_wp2
                refine ⟨⟨r + 1, by go_num, by omega, by omega, fun x hx1 hx2 => ?_, ?_, grown_trans HGr5.out (grown_store wr go r _)⟩, by simp [intOf]; omega⟩
                · by_cases e : x = (r : Int)
                  · rw [e]; exact HZ0.out
                  · exact HZr.out x hx1 (by omega)
                · have ho := HOr.out.store r (.int .i32 ((m : Int) + 1))
                  rw [ivs_set, osG_step N (l.take m) fn r ((m : Int) + 1) hrN hr1] at ho
                  rw [show ((r + 1 : Nat) : Int) = (r : Int) + 1 by omega]
                  exact ho
              · have hM := Lib.hid (HYes.out r hr1 hrt h0)
                have h0b : (ownF (l.take m) r != 0) = true := by simpa using h0
                generalize ownF (l.take m) r = y at *
                go_wp2
                go_ret3
                have hb : Below w.heap.size w wr := HW3.out.trans (below_grown (grown_trans HGr.out (grown_trans HG5.out HGr5.out)) (fun k e => by cases e; have := HW0.out.1.size; omega) HW3.out.size)
                exact ⟨hb, .inr (.inl ⟨fun j hj => HGd2.out j (by have := HL.out; omega), m, hml, hM.out, HNm.out, rfl⟩)⟩
            · have hrt2 : (r : Int) = t + 1 := by omega
              have hm2 := HNoM.out (fun x h1 h2 => HZr.out x h1 (by omega))
              have ho2 := HEnd.out hm2
              have HO6 : Hid (Own go 21 wr (some ⟨go, 0, none⟩) N N (ivs .i32 (osF N (l.take (m + 1))))) := Lib.hid (by rw [← ho2, ← hrt2]; exact HOr.out)
              have HM6 := Lib.hid hm2
              have HG6 := Lib.hid (grown_trans HGr.out (grown_trans HG5.out HGr5.out))
              clear hm2 ho2 hrt2
              go_wp2
              refine ⟨⟨m + 1, by omega, by go_num, fun j hj => ?_, HO6.out, HG6.out⟩, by simp [intOf]; omega⟩
              by_cases e : j = m
              · rw [e]; exact HM6.out
              · exact HNm.out j (by omega)
        · obtain rfl : m = k := by omega
          have hmi : ¬ (m : Int) < (m : Int) := by omega
          have HOl : Hid (Own go 21 w4 (some ⟨go, 0, none⟩) N N (ivs .i32 (osF N l))) := Lib.hid (by
            have := HOw.out
            rwa [List.take_of_length_le (by have := HL.out; omega)] at this)
          have HB4 := Lib.hid (HW3.out.trans (below_grown HGr.out (fun k e => by cases e; have := HW0.out.1.size; omega) HW3.out.size))
          have p0 := cell_of_row w3 (go + 1) 0 _ _ (0, 0) HBo.out
          simp at p0
          have p1 := cell_of_row w3 bR 0 _ _ (0, 0) HbR3.out
          simp at p1
          have K0 := Lib.hid (HGr.out.cell p0 (by simp))
          have K1 := Lib.hid (HGr.out.cell q1 (by simp; omega))
          have K2 := Lib.hid (HGr.out.cell p1 (by simp; omega))
          have KS : Hid (SpansAt w4 a l) := Lib.hid (fun i hi => by
            obtain ⟨b, o, e, h1, h2, h3⟩ := HS3.out i hi
            have hb := HSl.out b o e (by omega)
            exact ⟨b, o, e, HGr.out.cell h1 (by simp; omega), HGr.out.cell h2 (by simp; omega), HGr.out.cell h3 (by simp; omega)⟩)
          have hg4 : go + 1 + 1 ≤ w4.heap.size := by rw [← hs3]; exact HGr.out.size
          clear p0 p1 q1
          go_wp2_with fail
          refine (Fill8_walk 70 #[.pointer (some ⟨go + 1, 0, none⟩), .pointer (some ⟨bR + 1, 0, none⟩), .pointer (some ⟨bR, 0, none⟩)] w4 (fS rest l) (fun _ W => Below w4.heap.size w4 W) (enters_of Try.func70 (by kernel_rfl) rfl)
            (fun _ W W' h1 h2 => h1.trans h2) ?call (Below.refl _ _)).mono ?_
          case call =>
            intro r W hr hJ hW
            have hrN : r < N := by rw [HNN.out]; exact hr
            have hlen : (osF N l).length = N := osF_length N l
            have hos : (osF N l)[r]'(by rw [hlen]; exact hrN) = ownF l (r : Nat) := by
              have := osF_get N l r hrN
              rw [List.getElem?_eq_getElem (by rw [hlen]; exact hrN)] at this
              exact Option.some.inj this
            refine (bld1_walk W (go + 1) (bR + 1) bR go N m c a l rest (osF N l) r hlen (by rw [HNN.out]; exact Nat.le_refl _) hrN HL.out hn ((hJ.cell (p := ⟨go + 1, 0, none⟩) (by show go + 1 < _; omega)).trans K0.out) ((HOl.out.below hJ (Nat.le_refl _)).ints) ((hJ.cell (p := ⟨bR + 1, 0, none⟩) (by show bR + 1 < _; omega)).trans K1.out) (KS.out.below hJ (fun b o e h0 => KS.out.lt b o e h0)) ((hJ.cell (p := ⟨bR, 0, none⟩) (by show bR < _; omega)).trans K2.out) (by rw [hos]; have := ownF_le l (r : Nat); rw [HL.out] at this; exact this)).mono ?_
            rintro e W' ⟨rfl, rfl⟩
            refine ⟨?_, hJ, ⟨rfl, rfl, rfl, Nat.le_refl _, fun _ _ _ => rfl⟩⟩
            rw [hos]
            rfl
          rintro e w6 ⟨g, rfl, hg, hmk, hJ6⟩
          have HJ6 := Lib.hid hJ6; clear hJ6
          have HMk := Lib.hid hmk; clear hmk
          go_wp2
          go_ret3
          exact ⟨below_sq HB4.out HJ6.out, .inr (.inr ⟨fun j hj => HGd2.out j (by have := HL.out; omega), fun j hj => HNm.out j (by have := HL.out; omega), g, rfl, by have := HB4.out.size; omega, HMk.out⟩)⟩
theorem Build8_walk (rest : El) (a : Option Addr) (n c : Nat) (l : List SpanD) (w : World) (hl : l.length = n) (hn : n ≤ 1048576) (hs : SpansAt w a l) (hwf : ∀ s ∈ l, -2147483648 ≤ s.f ∧ s.f ≤ 2147483647 ∧ -2147483648 ≤ s.t ∧ s.t ≤ 2147483647) :
    Calls Try.prog 28 #[.float .f64 rest, .slice a n c] w fun e w' => BldPost w rest l e w' :=
  Build8_walkB rest a n c l w hl (by omega) hs hwf
end Go.Proofs.Ytabbabkmojaoaaa.VF
