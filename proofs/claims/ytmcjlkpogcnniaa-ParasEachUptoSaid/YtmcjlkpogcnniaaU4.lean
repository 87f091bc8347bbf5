/-
  The contract of the iterator over a text's paragraphs.
-/
import Derived.Test.YtmcjlkpogcnniaaU3
import Derived.Test.YtmcjlkpogcnniaaR0
import Derived.Test.YtmcjlkpogcnniaaS5
import Derived.Test.YtmcjlkpogcnniaaP5
import Derived.RangeFuncBound
import Derived.Shelf.RegionOpen
import Derived.OwnWalkIn
import Derived.TacticsInMore
import Derived.LoopNIn
import Derived.LoopIn
import Derived.Deep.Cut
set_option linter.unusedVariables false
namespace Go.Proofs.Ytmcjlkpogcnniaa
open Go.RowKit Go.Shelf
attribute [local go_sem] Oper.semAt_some

/-- the paragraphs of a text by props made by hand -/
def partsL (rest : Int) (cs : List CharD) (s : ByteArray) : List (Nat × Nat) := splitL (runesL s) ((runesL s).map (clsOf rest cs))
def encP (s : ByteArray) (p : Nat × Nat) : Array Value := #[.agg #[.int .i64 (p.1 : Nat), .int .i64 (p.2 : Nat)], .string (subS s p)]

theorem Pairs.kept {T R : Nat → Prop} {W W' : World} {a : Option Addr} {ps : List (Nat × Nat)} (h : Pairs W a ps) (hk : Kept T R W W') (ht : ∀ b o, a = Option.some ⟨b, o, none⟩ → T b ∨ R b) : Pairs W' a ps := by
  intro i hi
  obtain ⟨b, o, rfl, h1, h2⟩ := h i hi
  exact ⟨b, o, rfl, hk.cell h1 (ht b o rfl), hk.cell h2 (ht b o rfl)⟩
theorem PlacesAt.kept {T R : Nat → Prop} {s : ByteArray} {g : Nat} {a : Option Addr} {c : Nat} {ar : Option Addr} {cr : Nat} {W W' : World} (h : PlacesAt s g a c ar cr W) (hk : Kept T R W W') (hg : T g ∨ R g) (ht : ∀ b o, a = Option.some ⟨b, o, none⟩ → T b ∨ R b) : PlacesAt s g a c ar cr W' := by
  refine ⟨hk.below h.blk hg, fun i hi => ?_⟩
  obtain ⟨b, o, rfl, h1⟩ := h.ats i hi
  exact ⟨b, o, rfl, hk.cell h1 (ht b o rfl)⟩

structure EachSt (J : (Nat → Prop) → List (Nat × Nat) → World → Prop) (P : List (Nat × Nat)) (s : ByteArray) (ap : Option Addr) (g : Nat) (a : Option Addr) (c : Nat) (ar : Option Addr) (cr k : Nat) (T : Nat → Prop) (wr : World) : Prop where
  j : J T (P.take k) wr
  pairs : Pairs wr ap P
  places : PlacesAt s g a c ar cr wr
  tp : ∀ b o, ap = some ⟨b, o, none⟩ → T b
  tg : T g
  ta : ∀ b o, a = some ⟨b, o, none⟩ → T b
def EachR (J : (Nat → Prop) → List (Nat × Nat) → World → Prop) (P : List (Nat × Nat)) (s : ByteArray) (ap : Option Addr) (g : Nat) (a : Option Addr) (c : Nat) (ar : Option Addr) (cr : Nat) (v : Value) (wr : World) : Prop :=
  ∃ (k : Nat) (T : Nat → Prop), k ≤ P.length ∧ v = .int .i64 k ∧ EachSt J P s ap g a c ar cr k T wr

set_option maxRecDepth 100000 in
set_option maxHeartbeats 4000000 in
theorem each_stops (rest : Int) (a : Option Addr) (n cap : Nat) (cs : List CharD) (s : ByteArray) (B1 B2 : Nat) (R : Nat → Prop) (w : World) (hn : cs.length = n) (hm : n ≤ 1048576) (hc : Chars w a cs) (hs : s.size ≤ 4194304)
    (h1 : w.cell? ⟨B1, 0, none⟩ = some (.iface 25 (.agg #[.int .u8 rest, .slice a n cap]))) (h2 : w.cell? ⟨B2, 0, none⟩ = some (.string s)) :
    SeqX Try.prog 47 #[.pointer (some ⟨B1, 0, none⟩), .pointer (some ⟨B2, 0, none⟩)] (encP s) R (fun xs => xs = partsL rest cs s) (fun pre => ∃ k, k < (partsL rest cs s).length ∧ pre = (partsL rest cs s).take (k + 1)) (partsL rest cs s).length w := by
  intro l J Jx W hW hJ hJx hY h0
  refine callsIn_wide.2 ?_
  have HN := Lib.hid hn; clear hn
  have HC := Lib.hid (hc.below hW (Nat.le_refl _)); clear hc
  have HJ := Lib.hid hJ; clear hJ
  have HJx := Lib.hid hJx; clear hJx
  have HY := Lib.hid hY; clear hY
  have H0 := Lib.hid h0; clear h0
  have q1 : W.cell? ⟨B1, 0, none⟩ = some (.iface 25 (.agg #[.int .u8 rest, .slice a n cap])) := by rw [hW.cell (p := ⟨B1, 0, none⟩) (World.block_lt_of_cell? w _ h1)]; exact h1
  have q2 : W.cell? ⟨B2, 0, none⟩ = some (.string s) := by rw [hW.cell (p := ⟨B2, 0, none⟩) (World.block_lt_of_cell? w _ h2)]; exact h2
  clear h1 h2 hW
  have hRl : (runesL s).length ≤ 4194304 := Nat.le_trans (runesL_le s) hs
  have HPt := Lib.hid (show partsL rest cs s = splitL (runesL s) ((runesL s).map (clsOf rest cs)) from rfl)
  have HF := Lib.hid (cut_facts (runesL s) ((runesL s).map (clsOf rest cs)))
  rw [← HPt.out] at HF
  have hPl : (partsL rest cs s).length ≤ 4194305 := by
    have := splitP_le (runesL s) ((runesL s).map (clsOf rest cs))
    rw [splitP, if_pos (.inr (by simp)), List.length_map] at this
    rw [HPt.out]
    omega
  generalize partsL rest cs s = P at *
  go_enter Try.func47, Try.ntmps47
  go_wp2_with fail
  refine (Runes_walk s W (by omega)).mono ?_
  rintro e w1 ⟨a1, c1, rfl, ho, hb⟩
  have HO1 := Lib.hid ho.ints; clear ho
  have HB1 := Lib.hid hb
  have q1' : w1.cell? ⟨B1, 0, none⟩ = some (.iface 25 (.agg #[.int .u8 rest, .slice a n cap])) := by rw [hb.cell (p := ⟨B1, 0, none⟩) (World.block_lt_of_cell? W _ q1)]; exact q1
  have q2' : w1.cell? ⟨B2, 0, none⟩ = some (.string s) := by rw [hb.cell (p := ⟨B2, 0, none⟩) (World.block_lt_of_cell? W _ q2)]; exact q2
  clear q1 q2 hb
  go_wp2_with fail
  refine (Classes_walk rest a n cap cs a1 (runesL s).length c1 (runesL s) w1 HN.out (by omega) (HC.out.below HB1.out (Nat.le_refl _)) rfl (by omega) HO1.out).mono ?_
  rintro e w2 ⟨a2, m2, c2, rfl, ho, hb⟩
  obtain rfl : m2 = (runesL s).length := by have := ho.lenI; simpa using this.symm
  have HO2 := Lib.hid ho.ints; clear ho
  have HO12 := Lib.hid (HO1.out.below hb (Nat.le_refl _))
  have HB2 := Lib.hid (below_seq HB1.out hb)
  have q2 : w2.cell? ⟨B2, 0, none⟩ = some (.string s) := by rw [hb.cell (p := ⟨B2, 0, none⟩) (World.block_lt_of_cell? w1 _ q2')]; exact q2'
  clear q1' q2' hb
  go_wp2_with fail
  refine (Split_walk a1 (runesL s).length c1 a2 (runesL s).length c2 (runesL s) ((runesL s).map (clsOf rest cs)) w2 rfl (by simp) (by omega) HO12.out HO2.out (.inr rfl)).mono ?_
  rintro e w3 ⟨a3, m3, c3, rfl, ho, hb⟩
  rw [← HPt.out] at ho
  have hm3 := ho.len
  have HO3 := Lib.hid ho; clear ho
  have HS3 := Lib.hid hb.size
  have HB3 := Lib.hid (below_seq HB2.out hb)
  have q2' : w3.cell? ⟨B2, 0, none⟩ = some (.string s) := by rw [hb.cell (p := ⟨B2, 0, none⟩) (World.block_lt_of_cell? w2 _ q2)]; exact q2
  clear q2 hb
  go_wp2_with fail
  refine (New_walk s w3 hs).mono ?_
  rintro e w4 ⟨g, a4, c4, ar, cr, rfl, hg, hpl, ho, hb⟩
  have HO34 := Lib.hid (HO3.out.below hb (Nat.le_refl _))
  have HB4 := Lib.hid (below_seq HB3.out hb)
  have HM3 := Lib.hid hm3
  have hm3b : m3 ≤ 4194305 := by omega
  clear hm3
  obtain ⟨T0, hT0⟩ : ∃ T0 : Nat → Prop, T0 = fun k => W.heap.size ≤ k ∧ k < w4.heap.size := ⟨_, rfl⟩
  have HSt : Hid (EachSt J P s a3 g a4 c4 ar cr 0 T0 w4) := Lib.hid ⟨HJ.out _ _ _ _ _ H0.out (Off.of_below HB4.out) (fun k hk => by rw [hT0] at hk; exact .inr hk), HO34.out.pairs, hpl,
    fun b o hb' => by subst hb'; rw [hT0]; have := World.ownsRow.lt HO34.out b rfl; have h1 := HB2.out.size; exact ⟨by omega, this.2⟩,
    by rw [hT0]; have h1 := HB3.out.size; exact ⟨by omega, (Array.getElem?_eq_some_iff.1 hpl.blk).1⟩,
    fun b o hb' => by subst hb'; rw [hT0]; have := World.ownsRow.lt ho b (by obtain ⟨gg, e, _⟩ := ho.at (by rw [atsL_length]; omega); simp only [Option.some.injEq, Addr.mk.injEq] at e; obtain ⟨rfl, rfl, _⟩ := e; rfl); have h1 := HB3.out.size; exact ⟨by omega, this.2⟩⟩
  clear hpl ho hb hT0 q2' HO34 HO3 HO12 HO2 HO1 HS3
  go_wp2
  go_loopw [34] (EachR J P s a3 g a4 c4 ar cr) (fun v _ => m3 - (intOf v).toNat)
  case atStart => exact ⟨0, _, Nat.zero_le _, rfl, HSt.out⟩
  case round =>
    obtain ⟨k, T, hk, rfl, hst⟩ := hrel
    have HST := Lib.hid hst; clear hst
    have hkm : k ≤ m3 := by rw [← HM3.out]; exact hk
    clear hk
    by_cases hlt : k < m3
    · have hkl : k < P.length := by rw [HM3.out]; exact hlt
      obtain ⟨f1, f2, f3, -, -⟩ := HF.out.one k hkl
      have HTk := Lib.hid (show P.take (k + 1) = P.take k ++ [P[k]] from List.take_succ_eq_append_getElem hkl)
      obtain ⟨b, o, ha⟩ := HST.out.pairs.some (by omega)
      subst ha
      obtain ⟨k1, k2⟩ := HST.out.pairs.get k hkl
      generalize P[k] = x at *
      obtain ⟨p1, p2⟩ := x
      simp only at f1 f2 f3 k1 k2
      rw [List.length_map] at f3
      have HX := Lib.hid (show p1 ≤ p2 ∧ p2 ≤ (runesL s).length from ⟨by omega, f3⟩)
      clear f1 f2 f3
      have hWA : Below wr.heap.size wr (wr.alloc (.cells #[.int .i64 (p1 : Nat), .int .i64 (p2 : Nat)] 46)) := (Below.refl _ _).alloc (Nat.le_refl _) _
      have HWA := Lib.hid hWA; clear hWA
      have hblk0 : (wr.alloc (.cells #[.int .i64 (p1 : Nat), .int .i64 (p2 : Nat)] 46)).heap[wr.heap.size]? = some (.cells #[.int .i64 (p1 : Nat), .int .i64 (p2 : Nat)] 46 (0, 0)) := heap_alloc_new wr _
      have HBl := Lib.hid hblk0; clear hblk0
      have HSl := Lib.hid (PSlice_walk s g a4 c4 ar cr p1 p2 (wr.alloc (.cells #[.int .i64 (p1 : Nat), .int .i64 (p2 : Nat)] 46)) (HST.out.places.next HWA.out) HX.out.1 HX.out.2 hs)
      go_upto_region 9 with (go_at_call 49; refine HSl.out.mono ?_; rintro e w6 ⟨rfl, hb6⟩)
      have HB6 := Lib.hid (HWA.out.trans (hb6.mono HWA.out.size))
      have hblk6 : w6.heap[wr.heap.size]? = some (.cells #[.int .i64 (p1 : Nat), .int .i64 (p2 : Nat)] 46 (0, 0)) := by rw [hb6.block wr.heap.size (Array.getElem?_eq_some_iff.1 HBl.out).1]; exact HBl.out
      have r0 := cell_of_row w6 wr.heap.size 0 _ _ (0, 0) hblk6
      have r1 := cell_of_row w6 wr.heap.size 1 _ _ (0, 0) hblk6
      simp at r0 r1
      clear hblk6 hb6 k1 k2
      obtain ⟨T6, hT6⟩ : ∃ T6 : Nat → Prop, T6 = fun k => T k ∨ (wr.heap.size ≤ k ∧ k < w6.heap.size) := ⟨_, rfl⟩
      have HT6 := Lib.hid (show ∀ k, T k → T6 k from fun k h => by rw [hT6]; exact .inl h)
      have HJ6 := Lib.hid (HJ.out T T6 _ wr w6 HST.out.j (Off.of_below HB6.out) (fun k h => by rw [hT6] at h; exact h))
      clear hT6
      have HP6 := Lib.hid (HST.out.pairs.below HB6.out (Nat.le_refl _))
      have HPl6 := Lib.hid (HST.out.places.next HB6.out)
      have HTp := Lib.hid HST.out.tp
      have HTg := Lib.hid HST.out.tg
      have HTa := Lib.hid HST.out.ta
      obtain ⟨fn, tmps, assign, body, hy, hR⟩ := HY.out T6 (P.take k) (p1, p2) w6 HJ6.out (by rw [List.length_take]; omega)
      dsimp only [encP] at hy
      have HR := Lib.hid hR; clear hR
      clear HST HSl HWA
      refine (wpIn_wide (n := 2)).1 ?_
      gi_wp2
      refine HR.out.mono ?_
      rintro e W3 (⟨rfl, hJ3, hk3⟩ | ⟨rfl, hx3⟩)
      · rw [← HTk.out] at hJ3
        have HN3 : Hid (EachSt J P s (some ⟨b, o, none⟩) g a4 c4 ar cr (k + 1) T6 W3) := Lib.hid ⟨hJ3, HP6.out.kept hk3 (fun b' o' e => .inl (HT6.out _ (HTp.out b' o' e))), HPl6.out.kept hk3 (.inl (HT6.out _ HTg.out)) (fun b' o' e => .inl (HT6.out _ (HTa.out b' o' e))),
          fun b' o' e => HT6.out _ (HTp.out b' o' e), HT6.out _ HTg.out, fun b' o' e => HT6.out _ (HTa.out b' o' e)⟩
        clear hJ3 hk3 hy
        gi_wp2
        go_wp2
        go_roundw
        case rel => exact ⟨k + 1, T6, hkl, by go_num, HN3.out⟩
        case measure => simp [intOf]; omega
      · rw [← HTk.out] at hx3
        have HX3 := Lib.hid hx3
        clear hx3 hy
        gi_wp2
        go_wp2
        refine bodyPost_ret (results_none rfl _ _ _) rfl ?_
        exact ⟨⟨_, rfl⟩, .inr ⟨T6, _, ⟨k, hkl, rfl⟩, HX3.out⟩⟩
    · obtain rfl : k = m3 := by omega
      have HTk := Lib.hid (show P.take k = P from List.take_of_length_le (by rw [HM3.out]; exact Nat.le_refl _))
      go_wp2
      go_end0
      exact ⟨⟨_, rfl⟩, .inl ⟨T, P, rfl, by have := HST.out.j; rw [HTk.out] at this; exact this⟩⟩
end Go.Proofs.Ytmcjlkpogcnniaa
