/-
  The walk of VisualTurns.
-/
import Derived.Test.YtcgdhgdblieaiaaT4
import Derived.Test.YtcgdhgdblieaiaaT5
import Derived.Test.YtcgdhgdblieaiaaM4
set_option linter.unusedVariables false
namespace Go.Proofs.Ytcgdhgdblieaiaa
open Go.RowKit Go.Shelf
attribute [local go_sem] Oper.semAt_some

structure ArgS (w : World) (a : Option Addr) (n cap : Nat) (ss : List ByteArray) : Prop where
  strs : Strs w a ss
  len : ss.length = n
  le : n ≤ 1048576
  none_ : a = none → cap = 0
def markS : ByteArray := { data := #[109, 97, 114, 107] }
def overS : ByteArray := { data := #[111, 118, 101, 114] }
theorem turn_lens (ss : List ByteArray) (zs : List Int) : (turnS ss zs).length = (turnO ss zs).length := by
  unfold turnS turnO
  split
  · rw [pickS_length]
  · rfl
theorem turnS_pick (ss : List ByteArray) (zs : List Int) : turnS ss zs = pickS ss (turnO ss zs) := by
  unfold turnS turnO
  split <;> rfl
theorem turnO_le (ss : List ByteArray) (zs : List Int) : (turnO ss zs).length ≤ zs.length := by
  unfold turnO
  split
  · exact ord_le zs
  · exact Nat.zero_le _
theorem flatT_get (ss : List ByteArray) (o : List Int) (i : Nat) (hi : i < o.length) : (flatT ss o)[i * 2]? = some (.int .i64 o[i]) ∧ (flatT ss o)[i * 2 + 1]? = some (.string (ss.getD o[i].toNat noS)) := by
  induction o generalizing i with
  | nil => simp at hi
  | cons p t ih =>
    have e : flatT ss (p :: t) = .int .i64 p :: .string (ss.getD p.toNat noS) :: flatT ss t := rfl
    cases i with
    | zero => rw [e]; simp
    | succ i =>
      simp at hi
      have := ih i hi
      rw [e, show (i + 1) * 2 = i * 2 + 1 + 1 by omega]
      simpa using this
theorem Strs.grownOld {w0 w w' : World} {a : Option Addr} {ss : List ByteArray} {row : Option Nat} (h0 : Strs w0 a ss) (h : Strs w a ss) (hg : w.grownBy w' row) (hr : ∀ g, row = Option.some g → w0.heap.size ≤ g) : Strs w' a ss := by
  intro i hi
  obtain ⟨b, o, e, hc⟩ := h i hi
  obtain ⟨b', o', e', hc'⟩ := h0 i hi
  rw [e] at e'
  simp only [Option.some.injEq, Addr.mk.injEq, and_true] at e'
  obtain ⟨rfl, rfl⟩ := e'
  have hlt := World.block_lt_of_cell? w _ hc
  have hl0 := World.block_lt_of_cell? w0 _ hc'
  refine ⟨b, o, e, ?_⟩
  rw [World.cell?_of_block (w := w) (a := ⟨b, o + i, none⟩) (hg.block b hlt (fun e => by have := hr b e.symm; simp at hl0; omega))]
  exact hc
theorem told_at {B : Nat} {w : World} {a : Option Addr} {n c : Nat} {ss : List ByteArray} {o : List Int} (h : OwnT B w a n c ss o) (k : Nat) (hk : k < n) : ∃ g, a = some ⟨g, 0, none⟩ ∧ w.cell? ⟨g, k * 2, none⟩ = some (.int .i64 (o.getD k 0)) ∧ w.cell? ⟨g, k * 2 + 1, none⟩ = some (.string (ss.getD (o.getD k 0).toNat noS)) := by
  obtain ⟨h1, hl⟩ := h
  have hko : k < o.length := by omega
  rcases h1.2 with ⟨e, h0⟩ | ⟨g, cap', cur, e, hb, hg, _⟩
  · omega
  · simp only [Value.slice.injEq] at e
    obtain ⟨rfl, -, -⟩ := e
    obtain ⟨e0, e1⟩ := flatT_get ss o k hko
    have hd : o.getD k 0 = o[k] := by simp [hko]
    rw [hd]
    refine ⟨g, rfl, ?_, ?_⟩
    · rw [World.ownsRow.cellAt h1 _ (by omega)]; exact e0
    · rw [World.ownsRow.cellAt h1 _ (by omega)]; exact e1
def TuA (B : Nat) (a : Option Addr) (m c : Nat) (TS : List ByteArray) (w0 : World) (v : Value) (wr : World) : Prop := ∃ k : Nat, k ≤ m ∧ v = .int .i64 k ∧ Own B 9 wr a m c (svs (List.replicate k overS ++ TS.drop k)) ∧ w0.grownBy wr (Value.slice a m c).ownBlock
def TuB (m : Nat) (w0 : World) (v : Value) (wr : World) : Prop := ∃ k : Nat, k ≤ m ∧ v = .int .i64 k ∧ Below w0.heap.size w0 wr
def TuB2 (m : Nat) (w0 w1 : World) (v : Value) (wr : World) : Prop := ∃ k : Nat, k ≤ m ∧ v = .int .i64 k ∧ Below w0.heap.size w0 wr ∧ Below w1.heap.size w1 wr
theorem over_step (TS : List ByteArray) (k : Nat) (h : k < TS.length) : List.replicate (k + 1) overS ++ TS.drop (k + 1) = (List.replicate k overS ++ TS.drop k).set k overS := by
  rw [List.set_append_right _ _ (by simp), List.length_replicate, Nat.sub_self, List.drop_eq_getElem_cons h, List.set_cons_zero, List.replicate_succ', List.append_assoc]
  rfl

theorem grown_drewN {a w : World} {row : Option Nat} (h : a.grownBy w row) (q : Nat) : a.grownBy (w.drewN q) row := ⟨h.os, h.tape, h.output, h.size, h.block⟩
theorem ownsRow_below {B s n : Nat} {E : TypeId} {w w' : World} {a : Option Addr} {c : Nat} {xs : List Value} (h : w.ownsRow B E s (.slice a n c) n xs) (hb : Below w.heap.size w w') : w'.ownsRow B E s (.slice a n c) n xs :=
  ownsRow_off (T := fun _ => False) h (Off.of_below hb) (fun _ _ h => h)
/-- the k-th thing that is wanted -/
theorem want_at {B : Nat} {w : World} {a : Option Addr} {n c : Nat} {ss : List ByteArray} {zs : List Int} (h : OwnT B w a n c ss (turnO ss zs)) (k : Nat) (hk : k < n) : ∃ g, a = some ⟨g, 0, none⟩ ∧ ∃ h2 : k < (turnS ss zs).length, ∃ i : Int, w.cell? ⟨g, k * 2, none⟩ = some (.int .i64 i) ∧ w.cell? ⟨g, k * 2 + 1, none⟩ = some (.string (turnS ss zs)[k]) ∧ (turnO ss zs)[k]? = some i := by
  obtain ⟨h1, hl⟩ := h
  have hko : k < (turnO ss zs).length := by omega
  have hkt : k < (turnS ss zs).length := by rw [turn_lens]; exact hko
  rcases h1.2 with ⟨e, h0⟩ | ⟨g, cap', cur, e, hb, hg, _⟩
  · omega
  · simp only [Value.slice.injEq] at e
    obtain ⟨rfl, -, -⟩ := e
    obtain ⟨e0, e1⟩ := flatT_get ss (turnO ss zs) k hko
    refine ⟨g, rfl, hkt, (turnO ss zs)[k], ?_, ?_, List.getElem?_eq_getElem hko⟩
    · rw [World.ownsRow.cellAt h1 _ (by omega)]; exact e0
    · rw [World.ownsRow.cellAt h1 _ (by omega), e1]
      congr 2
      have : (turnS ss zs)[k] = (pickS ss (turnO ss zs))[k]'(by rw [pickS_length]; exact hko) := by
        congr 1
        exact turnS_pick ss zs
      rw [this]
      simp [pickS]

set_option maxRecDepth 100000 in
set_option maxHeartbeats 16000000 in
theorem turns_walk (a0 : Option Addr) (n0 c0 : Nat) (ss : List ByteArray) (a1 : Option Addr) (n1 c1 : Nat) (bs : List ByteArray) (a2 : Option Addr) (n2 c2 : Nat) (zs : List Int) (few : Int) (w : World)
    (h0 : ArgS w a0 n0 c0 ss) (h1 : ArgS w a1 n1 c1 bs) (h2 : ArgL .i8 w a2 n2 c2 zs) (hf : -9223372036854775808 ≤ few ∧ few ≤ 9223372036854775807) :
    Calls Try.prog 8 #[.slice a0 n0 c0, .slice a1 n1 c1, .slice a2 n2 c2, .int .i64 few] w fun e w' => e = .returned (.bool true) ∧ Below w.heap.size w w' := by
  have H0 := Lib.hid h0; clear h0
  have H1 := Lib.hid h1; clear h1
  have H2 := Lib.hid h2; clear h2
  have hm0 := H0.out.le
  have hm1 := H1.out.le
  have hm2 := H2.out.le
  have HN0 := Lib.hid H0.out.len
  have HN1 := Lib.hid H1.out.len
  have HN2 := Lib.hid H2.out.len
  go_enter Try.func8, Try.ntmps8
  go_wp2_with fail
  refine (beyond_walk a2 n2 c2 w hm2).mono ?_
  rintro e w' ⟨rfl, rfl⟩
  generalize decide (65536 < n2) = by_ at *
  cases by_ with
  | true =>
    go_wp2_with fail
    refine (lives_walk _).mono ?_
    rintro e w1 ⟨rfl, hb⟩
    go_wp2
    go_ret
    exact ⟨rfl, hb⟩
  | false =>
  go_wp2_with fail
  refine (lent_walk a2 n2 c2 zs w H2.out).mono ?_
  rintro e w1 ⟨g9, c9, rfl, ho, hb⟩
  have HO9 := Lib.hid ho; clear ho
  have HB1 := Lib.hid hb; clear hb
  go_wp2_with (at_builtin; refine wpList_appS Try.elemStr rfl (.tmp 33) (.tmp 34) rfl (Own.nil w1.heap.size _ w1) (Nat.le_refl _) (by rw [svs_length]; exact HN0.out) (H0.out.strs.below HB1.out (Nat.le_refl _)) H0.out.none_ (svs_one _) (by omega) (by unfold maxLen; omega) rfl rfl ?_)
  intro a10 c10 w2 ho hg _
  have HB2 := Lib.hid ((Own.nil w1.heap.size 9 w1).app hg (Nat.le_refl _))
  have HO2 : Hid (Own w1.heap.size 9 w2 a10 n0 c10 (svs ss)) := Lib.hid (by simpa using ho)
  clear ho hg
  go_wp2_with (at_builtin; refine wpList_app1 Try.elemStr rfl (.tmp 36) (.tmp 37) rfl HO2.out HB2.out.size (by omega) (by omega) _ rfl _ rfl rfl ?_)
  intro a10 c10 w3 ho hg
  have HB3 := Lib.hid (HB2.out.trans (HO2.out.app hg HB2.out.size))
  have HO10 : Hid (Own w1.heap.size 9 w3 a10 (n0 + 1) c10 (svs (ss ++ [markS]))) := Lib.hid (by rw [svs_append]; exact ho)
  clear ho hg HB2 HO2
  obtain ⟨g10, ha, hg1, hg2, hg3, hg4⟩ := HO10.out.at (by omega)
  subst ha
  have hnc : n0 ≤ c10 := by omega
  clear hg1 hg2 hg3 hg4
  have HO93 := Lib.hid (HO9.out.below HB3.out (Nat.le_refl _))
  have HBw3 := Lib.hid (HB1.out.trans (HB3.out.mono HB1.out.size))
  have HF : Hid (∀ W, Below w3.heap.size w3 W → Strs W a0 ss ∧ Strs W a1 bs ∧ Ints .i8 W a2 zs ∧ Strs W (some ⟨g10, 0, none⟩) (ss ++ [markS]) ∧ Ints .i8 W (some ⟨g9, 0, none⟩) (zs ++ [77]) ∧ Below w.heap.size w W) := Lib.hid (fun W hb =>
    have hP := HBw3.out.trans (hb.mono HBw3.out.size)
    ⟨H0.out.strs.below hP (Nat.le_refl _), H1.out.strs.below hP (Nat.le_refl _), H2.out.ints.below hP (Nat.le_refl _), HO10.out.strs.below hb (Nat.le_refl _), HO93.out.ints.below hb (Nat.le_refl _), hP⟩)
  have hsz : w.heap.size ≤ w3.heap.size := HBw3.out.size
  have hs13 : w1.heap.size ≤ w3.heap.size := HB3.out.size
  obtain ⟨f1, f2, f3, f4, f5, f6⟩ := HF.out w3 (Below.refl _ _)
  have HL : Hid (Strs w3 (some ⟨g10, 0, none⟩) ss) := Lib.hid (fun i hi => by
    obtain ⟨b, o, e, hc⟩ := f4 i (by rw [svs_length] at hi ⊢; rw [List.length_append]; omega)
    exact ⟨b, o, e, by rw [hc]; congr 1; simp only [svs_append]; exact List.getElem_append_left hi⟩)
  have HCl := Lib.hid (TurnS_walk (some ⟨g10, 0, none⟩) n0 c10 ss (some ⟨g9, 0, none⟩) n2 c9 zs w3 HN0.out hm0 HL.out HN2.out hm2 f5.left)
  clear f1 f2 f3 f4 f5 f6 HL
  go_wp2_with fail
  refine HCl.out.mono ?_
  rintro e w4 ⟨a11, n11, c11, rfl, ho, hb⟩
  have HO11 := Lib.hid ho; clear ho
  have D4 := Lib.hid hb
  have HB4 := Lib.hid hb; clear hb HCl
  obtain ⟨f1, f2, f3, f4, f5, f6⟩ := HF.out w4 HB4.out
  have HCl := Lib.hid (TurnS_walk a0 n0 c0 ss a2 n2 c2 zs w4 HN0.out hm0 f1 HN2.out hm2 f3)
  clear f1 f2 f3 f4 f5 f6
  go_wp2_with fail
  refine HCl.out.mono ?_
  rintro e w5 ⟨a13, n13, c13, rfl, ho, hb⟩
  have HO13 := Lib.hid ho; clear ho
  have D5 := Lib.hid hb
  have HB5 := Lib.hid (HB4.out.trans (hb.mono HB4.out.size)); clear hb HCl
  obtain ⟨f1, f2, f3, f4, f5, f6⟩ := HF.out w5 HB5.out
  have HCl := Lib.hid (rTurn_walk a0 n0 c0 ss a2 n2 c2 zs w5 HN0.out hm0 f1 HN2.out hm2 f3)
  clear f1 f2 f3 f4 f5 f6
  go_wp2_with fail
  refine HCl.out.mono ?_
  rintro e w6 ⟨a15, n15, c15, rfl, ho, hb⟩
  have HO15 := Lib.hid ho; clear ho
  have D6 := Lib.hid hb
  have HB6 := Lib.hid (HB5.out.trans (hb.mono HB5.out.size)); clear hb HCl
  have hcode : ∀ x : Int, (x != x) = false := fun x => by simp
  have l11 := HO11.out.lenS
  have l13 := HO13.out.lenS
  have l15 := HO15.out.2
  rw [turn_lens] at l11 l13
  obtain rfl : n15 = n11 := by omega
  obtain rfl : n13 = n15 := by omega
  have hm : n13 ≤ 1048576 := by have := turnO_le ss zs; have := HN2.out; omega
  have HLo := Lib.hid l15; clear l11 l13 l15
  obtain ⟨f1, f2, f3, f4, f5, f6⟩ := HF.out w6 HB6.out
  have HCl := Lib.hid (kept_walk g9 c9 a2 n2 c2 zs w6 HN2.out hm2 (by obtain ⟨gg, _, _, _, h, _⟩ := HO93.out.at (by omega); exact h) f5 f3)
  clear f1 f2 f3 f4 f5 f6
  have hc1 := hcode (lenC n0 zs n2)
  have hc2 := hcode (n13 : Int)
  clear hcode
  go_wp2_with fail
  refine HCl.out.mono ?_
  rintro e w7 ⟨rfl, hb⟩
  have D7 := Lib.hid hb
  have HB7 := Lib.hid (HB6.out.trans (hb.mono HB6.out.size)); clear hb HCl
  have O11 := Lib.hid (HO11.out.below (below_seq (below_seq D5.out D6.out) D7.out) (Nat.le_refl _))
  have O13 := Lib.hid (HO13.out.below (below_seq D6.out D7.out) (Nat.le_refl _))
  have O15 := Lib.hid (show OwnT w5.heap.size w7 a15 n13 c15 ss (turnO ss zs) from ⟨ownsRow_below HO15.out.1 D7.out, HLo.out⟩)
  have HT := Lib.hid (show (turnS ss zs).length = n13 by rw [turn_lens]; exact HLo.out)
  have S45 : w4.heap.size ≤ w5.heap.size := D5.out.size
  have HAp : Hid (∀ W, w7.grownBy W (Value.slice a11 n13 c11).ownBlock → OwnT w5.heap.size W a15 n13 c15 ss (turnO ss zs)) := Lib.hid (fun W hg => ⟨World.ownsRow.kept O15.out.1 hg (by
    cases h : (Value.slice a15 n13 c15).ownBlock with
    | none => exact .inl rfl
    | some k =>
      refine .inr (fun e => ?_)
      have e1 := World.ownsRow.lt HO15.out.1 k h
      have e2 := World.ownsRow.lt HO11.out k e.symm
      omega), HLo.out⟩)
  go_wp2
  clear hc1
  go_loopw [17] (TuA w3.heap.size a11 n13 c11 (turnS ss zs) w7) (fun v _ => n13 - (intOf v).toNat)
  case atStart => exact ⟨0, Nat.zero_le _, rfl, by simpa using O11.out, World.grownBy.refl _ _⟩
  case round =>
  obtain ⟨k, hk, rfl, hown, hgr⟩ := hrel
  have HO := Lib.hid hown; clear hown
  have HG := Lib.hid hgr; clear hgr
  by_cases hlt : k < n13
  · obtain ⟨g15, ha15, hkt, iv, v0, v1, -⟩ := want_at (HAp.out wr HG.out) k hlt
    subst ha15
    obtain ⟨g, ha, hg1, hg2, hg3, hg4⟩ := HO.out.at (by omega)
    subst ha
    have fz := HO.out.unfrozen k
    have cz := HO.out.cell k (by rw [svs_length, HO.out.lenS]; exact hlt)
    rw [show (svs (List.replicate k overS ++ (turnS ss zs).drop k))[k]'(by rw [svs_length, HO.out.lenS]; exact hlt) = .string (turnS ss zs)[k] by
      simp only [svs, List.getElem_map]
      congr 1
      rw [List.getElem_append_right (by simp)]
      simp] at cz
    have HSt := Lib.hid (over_step (turnS ss zs) k hkt)
    generalize (turnS ss zs)[k] = sk at *
    have hki : (k : Int) < (n13 : Int) := by omega
    clear hkt
    go_wp2
    go_quiet (fail)
    go_wp2
    go_roundw
    case rel =>
      refine ⟨k + 1, hlt, by go_num, ?_, ?_⟩
      · rw [HSt.out, ← svs_set]
        exact Own.store (Own.below HO.out (below_drewN (Below.refl _ wr) _) (Nat.le_refl _)) k _
      · exact grown_trans (grown_drewN HG.out _) (grown_store _ g k _)
    case measure => simp [intOf]; omega
  · have hki : ¬ (k : Int) < (n13 : Int) := by omega
    generalize wr = w8 at *
    have G8 := Lib.hid HG.out; clear HG HO
    have P15 := Lib.hid (HAp.out w8 G8.out)
    have hrow : ∀ g, (Value.slice a11 n13 c11).ownBlock = some g → w.heap.size ≤ g := fun g e => Nat.le_trans hsz (World.ownsRow.lt HO11.out g e).1
    have HF8 : Hid (Strs w8 a0 ss ∧ Strs w8 a1 bs ∧ Ints .i8 w8 a2 zs ∧ Strs w8 (some ⟨g10, 0, none⟩) (ss ++ [markS]) ∧ Strs w8 a13 (turnS ss zs) ∧ Below w.heap.size w w8) := by
      obtain ⟨f1, f2, f3, f4, f5, f6⟩ := HF.out w7 HB7.out
      refine Lib.hid ⟨Strs.grownOld H0.out.strs f1 G8.out hrow, Strs.grownOld H1.out.strs f2 G8.out hrow, Ints.grownOld H2.out.ints f3 G8.out hrow, ?_, ?_, ?_⟩
      · exact ((HO10.out.below HB7.out (Nat.le_refl _)).grown G8.out (HO11.out.apart HO10.out (.inr (Nat.le_refl _)))).strs
      · exact (O13.out.grown G8.out (HO11.out.apart HO13.out (.inl (Nat.le_refl _)))).strs
      · exact f6.trans ((O11.out.app G8.out HB7.out.size).mono hsz)
    clear hrow hk hlt
    go_wp2
    clear hki
    go_loopw [18] (TuB n13 w8) (fun v _ => n13 - (intOf v).toNat)
    case atStart => exact ⟨0, Nat.zero_le _, rfl, Below.refl _ _⟩
    case round =>
    obtain ⟨k, hk, rfl, hbel⟩ := hrel
    have HB := Lib.hid hbel; clear hbel
    by_cases hlt : k < n13
    · obtain ⟨g15, ha15, hkt, iv, v0, v1, -⟩ := want_at (⟨ownsRow_below P15.out.1 HB.out, HLo.out⟩ : OwnT w5.heap.size wr a15 n13 c15 ss (turnO ss zs)) k hlt
      subst ha15
      obtain ⟨b13, o13, ha13⟩ := HF8.out.2.2.2.2.1.some (by omega)
      subst ha13
      have cz := (HF8.out.2.2.2.2.1.below HB.out (Nat.le_refl _)).get k hkt
      generalize (turnS ss zs)[k] = sk at *
      have hki : (k : Int) < (n13 : Int) := by omega
      clear hkt
      go_wp2
      go_quiet (fail)
      go_wp2
      go_roundw
      case rel => exact ⟨k + 1, hlt, by go_num, below_drewN HB.out _⟩
      case measure => simp [intOf]; omega
    · have hki : ¬ (k : Int) < (n13 : Int) := by omega
      generalize wr = w9 at *
      have D9 := Lib.hid HB.out; clear HB
      clear hk hlt
      go_wp2
      clear hki
      go_loopw [19] (TuB n0 w8) (fun v _ => n0 - (intOf v).toNat)
      case atStart => exact ⟨0, Nat.zero_le _, rfl, D9.out⟩
      case round =>
      obtain ⟨k, hk, rfl, hbel⟩ := hrel
      have HB := Lib.hid hbel; clear hbel
      by_cases hlt : k < n0
      · have hks : k < ss.length := by rw [HN0.out]; exact hlt
        have cz := (HF8.out.2.2.2.1.below HB.out (Nat.le_refl _)).get k (by rw [List.length_append]; omega)
        rw [List.getElem_append_left hks] at cz
        simp only [Nat.zero_add] at cz
        obtain ⟨b0, o0, ha0⟩ := HF8.out.1.some (by omega)
        subst ha0
        have cy := (HF8.out.1.below HB.out (Nat.le_refl _)).get k hks
        generalize ss[k] = sk at *
        have hki : (k : Int) < (n0 : Int) := by omega
        have hki2 : (k : Int) < (n0 : Int) + 1 := by omega
        clear hks
        go_wp2
        go_quiet (fail)
        go_wp2
        go_roundw
        case rel => exact ⟨k + 1, hlt, by go_num, below_drewN HB.out _⟩
        case measure => simp [intOf]; omega
      · have hki : ¬ (k : Int) < (n0 : Int) := by omega
        generalize wr = w10 at *
        have D10 := Lib.hid HB.out; clear HB
        clear hk hlt
        have HCl := Lib.hid (told_walk a0 n0 c0 ss a2 n2 c2 zs few w10 HN0.out hm0 (HF8.out.1.below D10.out (Nat.le_refl _)) HN2.out hm2 (HF8.out.2.2.1.below D10.out (Nat.le_refl _)) hf)
        go_wp2_with fail
        refine HCl.out.mono ?_
        rintro e w11 ⟨ν, a20, c20, rfl, htold, hν, hot, hb⟩
        clear hki HCl
        have HOt := Lib.hid hot; clear hot
        have D11 := Lib.hid (below_seq D10.out hb); clear hb
        have HTd := Lib.hid htold
        have q10 := (HF8.out.2.2.2.1.below D11.out (Nat.le_refl _)).get n0 (by rw [List.length_append, HN0.out]; simp)
        rw [show (ss ++ [markS])[n0]'(by rw [List.length_append, HN0.out]; simp) = markS by rw [List.getElem_append_right (by rw [HN0.out]; exact Nat.le_refl _)]; simp] at q10
        simp only [Nat.zero_add] at q10
        unfold markS at q10
        have hn0lt : (n0 : Int) < (n0 : Int) + 1 := by omega
        rw [HLo.out] at hν htold
        have hcs : (few < 0 ∧ ν = n13) ∨ (0 ≤ few ∧ few < (n13 : Int) - 1 ∧ few = (ν : Int) - 1) ∨ (0 ≤ few ∧ ¬ few < (n13 : Int) - 1 ∧ ν = n13) := by
          unfold Told at htold
          omega
        clear htold hf
        rcases hcs with ⟨h1, h2⟩ | ⟨h1, h2, h3⟩ | ⟨h1, h2, h3⟩
        · have h1' : ¬ 0 ≤ few := by omega
          subst h2
          go_wp2
          clear q10 hn0lt
          go_loopw [22] (TuB2 ν w8 w11) (fun v _ => ν - (intOf v).toNat)
          case atStart => exact ⟨0, Nat.zero_le _, rfl, D11.out, Below.refl _ _⟩
          case round =>
          obtain ⟨k, hk, rfl, hbel, HB12⟩ := hrel
          have HB := Lib.hid hbel; clear hbel
          by_cases hlt : k < ν
          · obtain ⟨gt, hat, t0, t1⟩ := told_at (⟨ownsRow_below HOt.out.1 HB12, HOt.out.2⟩ : OwnT w10.heap.size wr a20 ν c20 ss ((turnO ss zs).take ν)) k hlt
            subst hat
            rw [show ((turnO ss zs).take ν).getD k 0 = (turnO ss zs).getD k 0 from getD_take _ _ _ hlt] at t0 t1
            obtain ⟨g15, ha15, v0, v1⟩ := told_at (⟨ownsRow_below P15.out.1 HB.out, HLo.out⟩ : OwnT w5.heap.size wr a15 ν c15 ss (turnO ss zs)) k (by omega)
            subst ha15
            generalize (turnO ss zs).getD k 0 = iv at *
            generalize ss.getD iv.toNat noS = sv at *
            have hki : (k : Int) < (ν : Int) := by omega
            have hkm : (k : Int) < (ν : Int) := by omega
            go_wp2
            go_quiet (fail)
            go_wp2
            go_roundw
            case rel => exact ⟨k + 1, hlt, by go_num, below_drewN HB.out _, below_drewN HB12 _⟩
            case measure => simp [intOf]; omega
          · have hki : ¬ (k : Int) < (ν : Int) := by omega
            generalize wr = w12 at *
            clear hk hlt
            have HCl := Lib.hid (BackS_walk a1 n1 c1 bs a2 n2 c2 zs w12 HN1.out hm1 (HF8.out.2.1.below HB.out (Nat.le_refl _)) HN2.out hm2 (HF8.out.2.2.1.below HB.out (Nat.le_refl _)))
            go_wp2_with fail
            refine HCl.out.mono ?_
            rintro e w13 ⟨a23, n23, c23, rfl, ho, hb⟩
            have HO23 := Lib.hid ho; clear ho
            have D13 := Lib.hid (below_seq HB.out hb); clear hb hki HCl
            have HCl := Lib.hid (rBack_walk a1 n1 c1 bs a2 n2 c2 zs w13 HN1.out hm1 (HF8.out.2.1.below D13.out (Nat.le_refl _)) HN2.out hm2 (HF8.out.2.2.1.below D13.out (Nat.le_refl _)))
            go_wp2_with fail
            refine HCl.out.mono ?_
            rintro e w14 ⟨a25, n25, c25, rfl, ho, hb⟩
            have HO25 := Lib.hid ho; clear ho
            have H23 := Lib.hid (HO23.out.below hb (Nat.le_refl _))
            have D14 := Lib.hid (below_seq D13.out hb); clear hb HCl
            have l23 := HO23.out.lenS
            have l25 := HO25.out.lenS
            obtain rfl : n25 = n23 := by omega
            have hle : n25 ≤ 1048576 := by
              have : (backS bs zs).length ≤ zs.length := by
                unfold backS
                split
                · unfold backSF; rw [fillL_length]; simp
                · exact Nat.zero_le _
              have := HN2.out
              omega
            have hc3 : (lenC n1 zs (ord zs).length != lenC n1 zs (ord zs).length) = false := by simp
            have hc4 : ((n25 : Int) != (n25 : Int)) = false := by simp
            have HL25 := Lib.hid l25
            clear l23 l25
            go_wp2
            clear hc3 hc4
            go_loopw [27] (TuB2 n25 w8 w14) (fun v _ => n25 - (intOf v).toNat)
            case atStart => exact ⟨0, Nat.zero_le _, rfl, D14.out, Below.refl _ _⟩
            case round =>
            obtain ⟨k, hk, rfl, hbel, hbel2⟩ := hrel
            have HB := Lib.hid hbel; clear hbel
            have HBB := Lib.hid hbel2; clear hbel2
            by_cases hlt : k < n25
            · have hkb : k < (backS bs zs).length := by rw [HL25.out]; exact hlt
              obtain ⟨b23, o23, ha23⟩ := H23.out.strs.some (by omega)
              subst ha23
              obtain ⟨b25, o25, ha25⟩ := HO25.out.strs.some (by omega)
              subst ha25
              have e1 := (H23.out.strs.below HBB.out (Nat.le_refl _)).get k hkb
              have e2 := (HO25.out.strs.below HBB.out (Nat.le_refl _)).get k hkb
              generalize (backS bs zs)[k] = sv at *
              have hki : (k : Int) < (n25 : Int) := by omega
              clear hkb
              go_wp2
              go_quiet (fail)
              go_wp2
              go_roundw
              case rel => exact ⟨k + 1, hlt, by go_num, below_drewN HB.out _, below_drewN HBB.out _⟩
              case measure => simp [intOf]; omega
            · have hki : ¬ (k : Int) < (n25 : Int) := by omega
              go_wp2_with fail
              refine (lives_walk _).mono ?_
              rintro e w15 ⟨rfl, hb⟩
              have hB := HF8.out.2.2.2.2.2
              have hE := hB.trans ((below_seq HB.out hb).mono hB.size)
              have HE := Lib.hid hE; clear hE hB hb
              go_wp2
              go_ret
              exact ⟨rfl, HE.out⟩
        · subst h3
          have hνν : ((ν : Int) != (ν : Int)) = false := by simp
          go_wp2
          clear q10 hn0lt
          go_loopw [22] (TuB2 ν w8 w11) (fun v _ => ν - (intOf v).toNat)
          case atStart => exact ⟨0, Nat.zero_le _, rfl, D11.out, Below.refl _ _⟩
          case round =>
          obtain ⟨k, hk, rfl, hbel, HB12⟩ := hrel
          have HB := Lib.hid hbel; clear hbel
          by_cases hlt : k < ν
          · obtain ⟨gt, hat, t0, t1⟩ := told_at (⟨ownsRow_below HOt.out.1 HB12, HOt.out.2⟩ : OwnT w10.heap.size wr a20 ν c20 ss ((turnO ss zs).take ν)) k hlt
            subst hat
            rw [show ((turnO ss zs).take ν).getD k 0 = (turnO ss zs).getD k 0 from getD_take _ _ _ hlt] at t0 t1
            obtain ⟨g15, ha15, v0, v1⟩ := told_at (⟨ownsRow_below P15.out.1 HB.out, HLo.out⟩ : OwnT w5.heap.size wr a15 n13 c15 ss (turnO ss zs)) k (by omega)
            subst ha15
            generalize (turnO ss zs).getD k 0 = iv at *
            generalize ss.getD iv.toNat noS = sv at *
            have hki : (k : Int) < (ν : Int) := by omega
            have hkm : (k : Int) < (n13 : Int) := by omega
            go_wp2
            go_quiet (fail)
            go_wp2
            go_roundw
            case rel => exact ⟨k + 1, hlt, by go_num, below_drewN HB.out _, below_drewN HB12 _⟩
            case measure => simp [intOf]; omega
          · have hki : ¬ (k : Int) < (ν : Int) := by omega
            generalize wr = w12 at *
            clear hk hlt
            have HCl := Lib.hid (BackS_walk a1 n1 c1 bs a2 n2 c2 zs w12 HN1.out hm1 (HF8.out.2.1.below HB.out (Nat.le_refl _)) HN2.out hm2 (HF8.out.2.2.1.below HB.out (Nat.le_refl _)))
            go_wp2_with fail
            refine HCl.out.mono ?_
            rintro e w13 ⟨a23, n23, c23, rfl, ho, hb⟩
            have HO23 := Lib.hid ho; clear ho
            have D13 := Lib.hid (below_seq HB.out hb); clear hb hki HCl
            have HCl := Lib.hid (rBack_walk a1 n1 c1 bs a2 n2 c2 zs w13 HN1.out hm1 (HF8.out.2.1.below D13.out (Nat.le_refl _)) HN2.out hm2 (HF8.out.2.2.1.below D13.out (Nat.le_refl _)))
            go_wp2_with fail
            refine HCl.out.mono ?_
            rintro e w14 ⟨a25, n25, c25, rfl, ho, hb⟩
            have HO25 := Lib.hid ho; clear ho
            have H23 := Lib.hid (HO23.out.below hb (Nat.le_refl _))
            have D14 := Lib.hid (below_seq D13.out hb); clear hb HCl
            have l23 := HO23.out.lenS
            have l25 := HO25.out.lenS
            obtain rfl : n25 = n23 := by omega
            have hle : n25 ≤ 1048576 := by
              have : (backS bs zs).length ≤ zs.length := by
                unfold backS
                split
                · unfold backSF; rw [fillL_length]; simp
                · exact Nat.zero_le _
              have := HN2.out
              omega
            have hc3 : (lenC n1 zs (ord zs).length != lenC n1 zs (ord zs).length) = false := by simp
            have hc4 : ((n25 : Int) != (n25 : Int)) = false := by simp
            have HL25 := Lib.hid l25
            clear l23 l25
            go_wp2
            clear hc3 hc4
            go_loopw [27] (TuB2 n25 w8 w14) (fun v _ => n25 - (intOf v).toNat)
            case atStart => exact ⟨0, Nat.zero_le _, rfl, D14.out, Below.refl _ _⟩
            case round =>
            obtain ⟨k, hk, rfl, hbel, hbel2⟩ := hrel
            have HB := Lib.hid hbel; clear hbel
            have HBB := Lib.hid hbel2; clear hbel2
            by_cases hlt : k < n25
            · have hkb : k < (backS bs zs).length := by rw [HL25.out]; exact hlt
              obtain ⟨b23, o23, ha23⟩ := H23.out.strs.some (by omega)
              subst ha23
              obtain ⟨b25, o25, ha25⟩ := HO25.out.strs.some (by omega)
              subst ha25
              have e1 := (H23.out.strs.below HBB.out (Nat.le_refl _)).get k hkb
              have e2 := (HO25.out.strs.below HBB.out (Nat.le_refl _)).get k hkb
              generalize (backS bs zs)[k] = sv at *
              have hki : (k : Int) < (n25 : Int) := by omega
              clear hkb
              go_wp2
              go_quiet (fail)
              go_wp2
              go_roundw
              case rel => exact ⟨k + 1, hlt, by go_num, below_drewN HB.out _, below_drewN HBB.out _⟩
              case measure => simp [intOf]; omega
            · have hki : ¬ (k : Int) < (n25 : Int) := by omega
              go_wp2_with fail
              refine (lives_walk _).mono ?_
              rintro e w15 ⟨rfl, hb⟩
              have hB := HF8.out.2.2.2.2.2
              have hE := hB.trans ((below_seq HB.out hb).mono hB.size)
              have HE := Lib.hid hE; clear hE hB hb
              go_wp2
              go_ret
              exact ⟨rfl, HE.out⟩
        · subst h3
          go_wp2
          clear q10 hn0lt
          go_loopw [22] (TuB2 ν w8 w11) (fun v _ => ν - (intOf v).toNat)
          case atStart => exact ⟨0, Nat.zero_le _, rfl, D11.out, Below.refl _ _⟩
          case round =>
          obtain ⟨k, hk, rfl, hbel, HB12⟩ := hrel
          have HB := Lib.hid hbel; clear hbel
          by_cases hlt : k < ν
          · obtain ⟨gt, hat, t0, t1⟩ := told_at (⟨ownsRow_below HOt.out.1 HB12, HOt.out.2⟩ : OwnT w10.heap.size wr a20 ν c20 ss ((turnO ss zs).take ν)) k hlt
            subst hat
            rw [show ((turnO ss zs).take ν).getD k 0 = (turnO ss zs).getD k 0 from getD_take _ _ _ hlt] at t0 t1
            obtain ⟨g15, ha15, v0, v1⟩ := told_at (⟨ownsRow_below P15.out.1 HB.out, HLo.out⟩ : OwnT w5.heap.size wr a15 ν c15 ss (turnO ss zs)) k (by omega)
            subst ha15
            generalize (turnO ss zs).getD k 0 = iv at *
            generalize ss.getD iv.toNat noS = sv at *
            have hki : (k : Int) < (ν : Int) := by omega
            have hkm : (k : Int) < (ν : Int) := by omega
            go_wp2
            go_quiet (fail)
            go_wp2
            go_roundw
            case rel => exact ⟨k + 1, hlt, by go_num, below_drewN HB.out _, below_drewN HB12 _⟩
            case measure => simp [intOf]; omega
          · have hki : ¬ (k : Int) < (ν : Int) := by omega
            generalize wr = w12 at *
            clear hk hlt
            have HCl := Lib.hid (BackS_walk a1 n1 c1 bs a2 n2 c2 zs w12 HN1.out hm1 (HF8.out.2.1.below HB.out (Nat.le_refl _)) HN2.out hm2 (HF8.out.2.2.1.below HB.out (Nat.le_refl _)))
            go_wp2_with fail
            refine HCl.out.mono ?_
            rintro e w13 ⟨a23, n23, c23, rfl, ho, hb⟩
            have HO23 := Lib.hid ho; clear ho
            have D13 := Lib.hid (below_seq HB.out hb); clear hb hki HCl
            have HCl := Lib.hid (rBack_walk a1 n1 c1 bs a2 n2 c2 zs w13 HN1.out hm1 (HF8.out.2.1.below D13.out (Nat.le_refl _)) HN2.out hm2 (HF8.out.2.2.1.below D13.out (Nat.le_refl _)))
            go_wp2_with fail
            refine HCl.out.mono ?_
            rintro e w14 ⟨a25, n25, c25, rfl, ho, hb⟩
            have HO25 := Lib.hid ho; clear ho
            have H23 := Lib.hid (HO23.out.below hb (Nat.le_refl _))
            have D14 := Lib.hid (below_seq D13.out hb); clear hb HCl
            have l23 := HO23.out.lenS
            have l25 := HO25.out.lenS
            obtain rfl : n25 = n23 := by omega
            have hle : n25 ≤ 1048576 := by
              have : (backS bs zs).length ≤ zs.length := by
                unfold backS
                split
                · unfold backSF; rw [fillL_length]; simp
                · exact Nat.zero_le _
              have := HN2.out
              omega
            have hc3 : (lenC n1 zs (ord zs).length != lenC n1 zs (ord zs).length) = false := by simp
            have hc4 : ((n25 : Int) != (n25 : Int)) = false := by simp
            have HL25 := Lib.hid l25
            clear l23 l25
            go_wp2
            clear hc3 hc4
            go_loopw [27] (TuB2 n25 w8 w14) (fun v _ => n25 - (intOf v).toNat)
            case atStart => exact ⟨0, Nat.zero_le _, rfl, D14.out, Below.refl _ _⟩
            case round =>
            obtain ⟨k, hk, rfl, hbel, hbel2⟩ := hrel
            have HB := Lib.hid hbel; clear hbel
            have HBB := Lib.hid hbel2; clear hbel2
            by_cases hlt : k < n25
            · have hkb : k < (backS bs zs).length := by rw [HL25.out]; exact hlt
              obtain ⟨b23, o23, ha23⟩ := H23.out.strs.some (by omega)
              subst ha23
              obtain ⟨b25, o25, ha25⟩ := HO25.out.strs.some (by omega)
              subst ha25
              have e1 := (H23.out.strs.below HBB.out (Nat.le_refl _)).get k hkb
              have e2 := (HO25.out.strs.below HBB.out (Nat.le_refl _)).get k hkb
              generalize (backS bs zs)[k] = sv at *
              have hki : (k : Int) < (n25 : Int) := by omega
              clear hkb
              go_wp2
              go_quiet (fail)
              go_wp2
              go_roundw
              case rel => exact ⟨k + 1, hlt, by go_num, below_drewN HB.out _, below_drewN HBB.out _⟩
              case measure => simp [intOf]; omega
            · have hki : ¬ (k : Int) < (n25 : Int) := by omega
              go_wp2_with fail
              refine (lives_walk _).mono ?_
              rintro e w15 ⟨rfl, hb⟩
              have hB := HF8.out.2.2.2.2.2
              have hE := hB.trans ((below_seq HB.out hb).mono hB.size)
              have HE := Lib.hid hE; clear hE hB hb
              go_wp2
              go_ret
              exact ⟨rfl, HE.out⟩
end Go.Proofs.Ytcgdhgdblieaiaa
