/-
  The walk of ParasBytes.
-/
import Derived.Test.YtmcjlkpogcnniaaU5
import Derived.Deep.RegionHeld3
set_option linter.unusedVariables false
namespace Go.Proofs.Ytmcjlkpogcnniaa
open Go.RowKit Go.Shelf
attribute [local go_sem] Oper.semAt_some

/-- between two rounds: the pieces that have come, and their text -/
structure CatSt (W0 : World) (n1 bx bw : Nat) (s : ByteArray) (T : Nat → Prop) (pre : List (Nat × Nat)) (W : World) (ax : Option Addr) (cx : Nat) : Prop where
  but : But n1 (fun k => k = bx ∨ k = bw) W0 W
  bx_ : W.heap[bx]? = some (.cells #[.slice ax pre.length cx] 39 (0, 0))
  bw_ : W.heap[bw]? = some (.cells #[.string (textTo s pre)] 9 (0, 0))
  own : Own2 n1 46 W ax pre.length cx pre
  tx : ¬ T bx
  tw : ¬ T bw
  ta : ∀ k, (Value.slice ax pre.length cx).ownBlock = some k → ¬ T k
  tn : ∀ k, T k → n1 ≤ k
  tl : ∀ k, T k → k < W.heap.size
def CatI (W0 : World) (n1 bx bw : Nat) (s : ByteArray) (T : Nat → Prop) (pre : List (Nat × Nat)) (W : World) : Prop := ∃ ax cx, CatSt W0 n1 bx bw s T pre W ax cx
theorem CatI.abide {W0 : World} {n1 bx bw : Nat} {s : ByteArray} (hx : bx < n1) (hw : bw < n1) (h1 : n1 ≤ W0.heap.size) : Abide (CatI W0 n1 bx bw s) := by
  rintro T T' pre W W' ⟨ax, cx, h⟩ ho hwd
  have hn : n1 ≤ W.heap.size := Nat.le_trans h1 h.but.size
  have hb : ∀ b, b < W.heap.size → ¬ T b → ¬ T' b := fun b hb hT hT' => by
    rcases hwd b hT' with h2 | h2
    · exact hT h2
    · omega
  refine ⟨ax, cx, h.but.off ho h.tn hn, ho.cellsBlock h.bx_ h.tx, ho.cellsBlock h.bw_ h.tw, ownsRow_off h.own ho h.ta, hb _ (by omega) h.tx, hb _ (by omega) h.tw, fun k hk => hb k (World.ownsRow.lt h.own k hk).2 (h.ta k hk), fun k hk => ?_, fun k hk => ?_⟩
  · rcases hwd k hk with h2 | h2
    · exact h.tn k h2
    · omega
  · rcases hwd k hk with h2 | h2
    · have := h.tl k h2; have := ho.size; omega
    · exact h2.2
/-- the loop's variables: the piece in a block of its own -/
def CatA (s : ByteArray) (p1 p2 v1 v2 : Nat) (tmps : Array Value) (T : Nat → Prop) (x : Nat × Nat) (a' : Act) (W : World) : Prop :=
  ∃ Bx, W.heap[Bx]? = some (.cells #[.int .i64 (x.1 : Nat), .int .i64 (x.2 : Nat)] 46 (0, 0)) ∧ ¬ T Bx ∧
    a' = { tmps := (((tmps.setIfInBounds p1 (.agg #[.int .i64 (x.1 : Nat), .int .i64 (x.2 : Nat)])).setIfInBounds p2 (.string (subS s x))).setIfInBounds v1 (.pointer (some ⟨Bx, 0, none⟩))).setIfInBounds v2 (.string (subS s x)), defers := [] }
theorem CatA.off {s : ByteArray} {p1 p2 v1 v2 : Nat} {tmps : Array Value} {T : Nat → Prop} {x : Nat × Nat} {a' : Act} {W W' : World} (h : CatA s p1 p2 v1 v2 tmps T x a' W) (ho : Off T W W') : CatA s p1 p2 v1 v2 tmps T x a' W' := by
  obtain ⟨Bx, h1, h2, h3⟩ := h
  exact ⟨Bx, ho.cellsBlock h1 h2, h2, h3⟩

/-- between two rounds of the second loop: the pieces that have come -/
structure ColSt (W0 : World) (n1 bx : Nat) (T : Nat → Prop) (pre : List (Nat × Nat)) (W : World) (ax : Option Addr) (cx : Nat) : Prop where
  but : But n1 (fun k => k = bx) W0 W
  bx_ : W.heap[bx]? = some (.cells #[.slice ax pre.length cx] 39 (0, 0))
  own : Own2 n1 46 W ax pre.length cx pre
  tx : ¬ T bx
  ta : ∀ k, (Value.slice ax pre.length cx).ownBlock = some k → ¬ T k
  tn : ∀ k, T k → n1 ≤ k
  tl : ∀ k, T k → k < W.heap.size
def ColI (W0 : World) (n1 bx : Nat) (T : Nat → Prop) (pre : List (Nat × Nat)) (W : World) : Prop := ∃ ax cx, ColSt W0 n1 bx T pre W ax cx
theorem ColI.abide {W0 : World} {n1 bx : Nat} (hx : bx < n1) (h1 : n1 ≤ W0.heap.size) : Abide (ColI W0 n1 bx) := by
  rintro T T' pre W W' ⟨ax, cx, h⟩ ho hwd
  have hn : n1 ≤ W.heap.size := Nat.le_trans h1 h.but.size
  have hb : ∀ b, b < W.heap.size → ¬ T b → ¬ T' b := fun b hb hT hT' => by
    rcases hwd b hT' with h2 | h2
    · exact hT h2
    · omega
  refine ⟨ax, cx, h.but.off ho h.tn hn, ho.cellsBlock h.bx_ h.tx, ownsRow_off h.own ho h.ta, hb _ (by omega) h.tx, fun k hk => hb k (World.ownsRow.lt h.own k hk).2 (h.ta k hk), fun k hk => ?_, fun k hk => ?_⟩
  · rcases hwd k hk with h2 | h2
    · exact h.tn k h2
    · omega
  · rcases hwd k hk with h2 | h2
    · have := h.tl k h2; have := ho.size; omega
    · exact h2.2
def ColA (s : ByteArray) (p1 p2 v1 : Nat) (tmps : Array Value) (T : Nat → Prop) (x : Nat × Nat) (a' : Act) (W : World) : Prop :=
  ∃ Bx, W.heap[Bx]? = some (.cells #[.int .i64 (x.1 : Nat), .int .i64 (x.2 : Nat)] 46 (0, 0)) ∧ ¬ T Bx ∧
    a' = { tmps := ((tmps.setIfInBounds p1 (.agg #[.int .i64 (x.1 : Nat), .int .i64 (x.2 : Nat)])).setIfInBounds p2 (.string (subS s x))).setIfInBounds v1 (.pointer (some ⟨Bx, 0, none⟩)), defers := [] }
theorem ColA.off {s : ByteArray} {p1 p2 v1 : Nat} {tmps : Array Value} {T : Nat → Prop} {x : Nat × Nat} {a' : Act} {W W' : World} (h : ColA s p1 p2 v1 tmps T x a' W) (ho : Off T W W') : ColA s p1 p2 v1 tmps T x a' W' := by
  obtain ⟨Bx, h1, h2, h3⟩ := h
  exact ⟨Bx, ho.cellsBlock h1 h2, h2, h3⟩

set_option maxRecDepth 100000 in
set_option maxHeartbeats 8000000 in
theorem bytes_walk (rest : Int) (a : Option Addr) (n cap : Nat) (cs : List CharD) (s : ByteArray) (w : World) (hn : cs.length = n) (hm : n ≤ 1048576) (hc : Chars w a cs) (hs : s.size ≤ 1048576) :
    Calls Try.prog 13 #[.agg #[.int .u8 rest, .slice a n cap], .string s] w fun e w' => e = .returned (.bool true) ∧ Below w.heap.size w w' := by
  have HN := Lib.hid hn; clear hn
  have HC := Lib.hid hc; clear hc
  have HP0 := Lib.hid (PB.start w rest a n cap)
  have hms : (mendS s).size ≤ 4194304 := Nat.le_trans (runesBytes_le s) (by omega)
  have HBk := Lib.hid (show runesL (mendS s) = runesL s from runes_back s)
  have hRl : (runesL s).length ≤ 1048576 := Nat.le_trans (runesL_le s) hs
  refine calls_of_wpM Try.func13 rfl ?_
  simp only [Try.ntmps13, List.size_toArray, List.length_cons, List.length_nil, Nat.reduceAdd, Nat.reduceSub, Array.replicate_succ, Array.replicate_zero, List.push_toArray, List.append_toArray, List.nil_append, List.cons_append]
  go_wp2_with fail
  refine (awake_walk _).mono ?_
  rintro e w1 ⟨rfl, hb⟩
  have HP1 := Lib.hid (HP0.out.next hb); clear hb
  have p0 := HP1.out.c0
  have p1 := HP1.out.c1
  go_wp2_with fail
  refine (PMay_walk rest a n cap cs w1 HN.out (by omega) (HC.out.below HP1.out.below (Nat.le_refl _))).mono ?_
  rintro e w2 ⟨b, rfl, hb⟩
  have HP2 := Lib.hid (HP1.out.next hb); clear hb p0 p1
  cases b with
  | false =>
    go_wp2_with fail
    refine (awake_walk _).mono ?_
    rintro e w3 ⟨rfl, hb⟩
    have HP3 := Lib.hid (HP2.out.next hb); clear hb
    go_wp2
    refine leaves_nil (results_tmp rfl _ _ _) ?_
    exact ⟨rfl, HP3.out.below⟩
  | true =>
    obtain ⟨g, c, w3, ho, hb, hr, hr2⟩ := mend_conv s w2 (by omega)
    have HP3 := Lib.hid (HP2.out.next hb); clear hb ho
    have p0 := HP3.out.c0
    have p1 := HP3.out.c1
    go_wp2
    clear hr hr2
    have HBd : Hid (PB w rest a n cap w3.drew) := Lib.hid (HP3.out.next (below_drewN (Below.refl _ w3) 1))
    have HSw : Hid (∀ (w5 : World) (hb : Below w3.drew.heap.size w3.drew w5), w5.cell? ⟨w.heap.size, 0, none⟩ = some (.int .u8 rest) ∧ w5.cell? ⟨w.heap.size, 1, none⟩ = some (.slice a n cap)) := Lib.hid (fun w5 hb => ⟨(HBd.out.next hb).c0, (HBd.out.next hb).c1⟩)
    go_region_held3 (fun w' : World => w'.cell? ⟨w.heap.size, 0, none⟩ = some (.int .u8 rest) ∧ w'.cell? ⟨w.heap.size, 1, none⟩ = some (.slice a n cap)) (first | exact ⟨p0, p1⟩ | exact HSw.out _ hb5 | exact HSw.out _ (below_seq hb5 hb6)) (first
        | (go_at_call 21; refine (Runes_walk s _ (by omega)).mono ?_; rintro e w5 ⟨a5, c5, rfl, ho5, hb5⟩)
        | (go_at_call 17; refine (Classes_walk rest a n cap cs _ _ _ (runesL s) _ HN.out (by omega) (HC.out.below (HBd.out.next hb5).below (Nat.le_refl _)) rfl (by omega) ho5.ints).mono ?_; rintro e w6 ⟨a6, m6, c6, rfl, ho6, hb6⟩))
    have HP6 := Lib.hid (HP3.out.next (((below_drewN (Below.refl _ w3) 1).trans (hb5.mono (Nat.le_refl _))).trans (hb6.mono hb5.size)))
    have hm6 := ho6.lenI
    rw [List.length_map] at hm6
    subst hm6
    obtain ⟨C, hC⟩ : ∃ C, C = (runesL s).map (clsOf rest cs) := ⟨_, rfl⟩
    have HCl := Lib.hid (show C.length = (runesL s).length by rw [hC, List.length_map])
    rw [← hC] at ho6
    have HO6 := Lib.hid ho6
    have HCe := Lib.hid hC; clear hC
    clear ho5 hb5 ho6 hb6 p0 p1 HSw HBd
    have p0 := HP6.out.c0
    have p1 := HP6.out.c1
    go_wp2
    have HBd : Hid (PB w rest a n cap w6.drew) := Lib.hid (HP6.out.next (below_drewN (Below.refl _ w6) 1))
    have HSw : Hid (∀ (w5 : World) (hb : Below w6.drew.heap.size w6.drew w5), w5.cell? ⟨w.heap.size, 0, none⟩ = some (.int .u8 rest) ∧ w5.cell? ⟨w.heap.size, 1, none⟩ = some (.slice a n cap)) := Lib.hid (fun w5 hb => ⟨(HBd.out.next hb).c0, (HBd.out.next hb).c1⟩)
    have HRm := Lib.hid (fun w => Runes_walk (mendS s) w (by omega))
    rw [HBk.out] at HRm
    go_region_held3 (fun w' : World => w'.cell? ⟨w.heap.size, 0, none⟩ = some (.int .u8 rest) ∧ w'.cell? ⟨w.heap.size, 1, none⟩ = some (.slice a n cap)) (first | exact ⟨p0, p1⟩ | exact HSw.out _ hb7 | exact HSw.out _ (below_seq hb7 hb8)) (first
        | (go_at_call 21; refine (HRm.out _).mono ?_; rintro e w7 ⟨a7, c7, rfl, ho7, hb7⟩)
        | (go_at_call 17; refine (Classes_walk rest a n cap cs _ _ _ (runesL s) _ HN.out (by omega) (HC.out.below (HBd.out.next hb7).below (Nat.le_refl _)) rfl (by omega) ho7.ints).mono ?_; rintro e w8 ⟨a8, m8, c8, rfl, ho8, hb8⟩))
    have hb68 : Below w6.heap.size w6 w8 := ((below_drewN (Below.refl _ w6) 1).trans (hb7.mono (Nat.le_refl _))).trans (hb8.mono hb7.size)
    have HP8 := Lib.hid (HP6.out.next hb68)
    have hm8 := ho8.lenI
    rw [List.length_map] at hm8
    subst hm8
    rw [← HCe.out] at ho8
    have HSm := Lib.hid (Same_walk a6 a8 (runesL s).length c6 (runesL s).length c8 C C w8 HCl.out HCl.out (by omega) (HO6.out.below hb68 (Nat.le_refl _)).ints ho8.ints)
    rw [decide_eq_true (rfl : C = C)] at HSm
    clear ho7 hb7 ho8 hb8 p0 p1 HSw HBd hb68 HRm
    go_wp2_with fail
    refine HSm.out.mono ?_
    rintro e w9 ⟨rfl, hb⟩
    have HP9 := Lib.hid (HP8.out.next hb); clear hb HSm
    have p0 := HP9.out.c0
    have p1 := HP9.out.c1
    have qF := fun (w : World) (cs : Array Value) => run_eql_func_nil (P := Try.prog) w 67 (.func 47) #[] cs _ _ _ Try.underlying67
    go_upto_region 10 with (fail)
    obtain ⟨bx, hbx⟩ : ∃ bx, bx = w9.heap.size := ⟨_, rfl⟩
    have HW : Hid (PB w rest a n cap (((w9.alloc (.cells #[.slice none 0 0] 39)).alloc (.cells #[.slice none 0 0] 39)).alloc (.cells #[.string { data := #[] }] 9)) ∧
        (((w9.alloc (.cells #[.slice none 0 0] 39)).alloc (.cells #[.slice none 0 0] 39)).alloc (.cells #[.string { data := #[] }] 9)).heap[bx]? = some (.cells #[.slice none 0 0] 39 (0, 0)) ∧
        (((w9.alloc (.cells #[.slice none 0 0] 39)).alloc (.cells #[.slice none 0 0] 39)).alloc (.cells #[.string { data := #[] }] 9)).heap[bx + 1]? = some (.cells #[.slice none 0 0] 39 (0, 0)) ∧
        (((w9.alloc (.cells #[.slice none 0 0] 39)).alloc (.cells #[.slice none 0 0] 39)).alloc (.cells #[.string { data := #[] }] 9)).heap[bx + 1 + 1]? = some (.cells #[.string { data := #[] }] 9 (0, 0)) ∧
        (((w9.alloc (.cells #[.slice none 0 0] 39)).alloc (.cells #[.slice none 0 0] 39)).alloc (.cells #[.string { data := #[] }] 9)).heap.size = bx + 1 + 1 + 1) := Lib.hid (by
      rw [hbx]
      refine ⟨HP9.out.next ((((Below.refl _ w9).alloc (Nat.le_refl _) _).alloc (by simp) _).alloc (by simp; omega) _), ?_, ?_, ?_, by simp⟩
      · rw [Below.heap_alloc _ _ _ (by simp; omega), Below.heap_alloc _ _ _ (by simp)]; exact heap_alloc_new w9 _
      · rw [Below.heap_alloc _ _ _ (by simp)]; have := heap_alloc_new (w9.alloc (.cells #[.slice none 0 0] 39)) (.cells #[.slice none 0 0] 39); simpa using this
      · have := heap_alloc_new ((w9.alloc (.cells #[.slice none 0 0] 39)).alloc (.cells #[.slice none 0 0] 39)) (.cells #[.string { data := #[] }] 9); simpa using this)
    rw [← hbx]
    clear p0 p1
    generalize (((w9.alloc (.cells #[.slice none 0 0] 39)).alloc (.cells #[.slice none 0 0] 39)).alloc (.cells #[.string { data := #[] }] 9)) = w10 at *
    have HP10 := Lib.hid HW.out.1
    have p0 := HP10.out.c0
    have p1 := HP10.out.c1
    have HBX := Lib.hid hbx; clear hbx
    go_wp2_with fail
    refine (Each_walk _ rfl s w10).mono ?_
    rintro e w11 ⟨rfl, -, -, hs11, hb⟩
    have HB11 := Lib.hid hb
    have HP11 := Lib.hid (HP10.out.next hb); clear hb p0 p1
    have HS11 := Lib.hid hs11; clear hs11
    have p0 := HP11.out.c0
    have p1 := HP11.out.c1
    go_wp2_with fail
    refine (Each_walk _ rfl s w11).mono ?_
    rintro e w12 ⟨rfl, k1, k2, hs12, hb⟩
    have HP12 := Lib.hid (HP11.out.next hb)
    have HB12 := Lib.hid (below_seq HB11.out hb); clear hb p0 p1
    have HK := Lib.hid (show _ ∧ _ ∧ _ from ⟨k1, k2, hs12⟩); clear k1 k2 hs12
    have HX12 := Lib.hid (show w12.heap[bx]? = _ ∧ w12.heap[bx + 1]? = _ ∧ w12.heap[bx + 1 + 1]? = _ from ⟨(HB12.out.block bx (by have := HW.out.2.2.2.2; omega)).trans HW.out.2.1, (HB12.out.block (bx + 1) (by have := HW.out.2.2.2.2; omega)).trans HW.out.2.2.1, (HB12.out.block (bx + 1 + 1) (by have := HW.out.2.2.2.2; omega)).trans HW.out.2.2.2.1⟩)
    obtain ⟨n1, hn1⟩ : ∃ n1, n1 = w12.heap.size := ⟨_, rfl⟩
    have hbx1 : bx + 1 + 1 < n1 := by have := HW.out.2.2.2.2; have := HB12.out.size; omega
    have hs11n : w11.heap.size + 1 < n1 := by have := HK.out.2.2; omega
    have HPl := Lib.hid (show (partsL rest cs s).length ≤ 1048577 from by
      have := splitP_le (runesL s) ((runesL s).map (clsOf rest cs))
      rw [splitP, if_pos (.inr (by simp)), List.length_map] at this
      unfold partsL
      omega)
    have HN1 := Lib.hid hn1; clear hn1
    go_wp2
    refine wp_rangeX (gf := 47) (lb := #[.pointer (some ⟨w11.heap.size, 0, none⟩), .pointer (some ⟨w11.heap.size + 1, 0, none⟩)]) rfl (enters_of Try.func47 (by kernel_rfl) rfl)
      (each_stops rest a n cap cs s w11.heap.size (w11.heap.size + 1) (fun k => k < n1 ∧ k ≠ bx ∧ k ≠ bx + 1 + 1) w12 HN.out (by omega) (HC.out.below HP12.out.below (Nat.le_refl _)) (by omega) HK.out.1 HK.out.2.1) (Below.refl _ _) (fun k hk => by rw [← HN1.out]; exact hk.1) (fun _ => rfl)
      (CatI w12 n1 bx (bx + 1 + 1) s) (fun _ _ _ _ => False) (CatI.abide (by omega) hbx1 (by rw [HN1.out]; exact Nat.le_refl _)) (fun _ _ _ _ _ _ h => h.elim)
      ⟨none, 0, But.refl _ _ _, HX12.out.1, HX12.out.2.2, Own2.nil _ _ _, id, id, (fun _ h => by cases h), (fun _ h => h.elim), (fun _ h => h.elim)⟩
      (CatA s 64 65 13 14) (fun T x a' W W' h ho => h.off ho) ?assign ?body ?done ?stop
    case assign =>
      rintro l T pre ⟨x1, x2⟩ W K hi hK
      have HK := Lib.hid hK; clear hK
      simp only [encP]
      gi_wp2
      obtain ⟨ax, cx, hst⟩ := hi
      refine HK.out _ _ ?_ ?_ ?_
      · exact Kept.of_below ((Below.refl _ W).alloc (Nat.le_refl _) _)
      · exact CatI.abide (by omega) hbx1 (by rw [HN1.out]; exact Nat.le_refl _) _ _ _ _ _ ⟨ax, cx, hst⟩ (Off.alloc T W _) (Wider.refl _ _ _)
      · exact ⟨W.heap.size, heap_alloc_new W _, fun h => by have := hst.tl _ h; omega, rfl⟩
    case body =>
      rintro l T pre ⟨x1, x2⟩ a' W hTl hl - ⟨ax, cx, hst⟩ ⟨Bx, hBx, hTB, rfl⟩ hlen
      have HST := Lib.hid hst; clear hst
      have hlen2 : pre.length ≤ 1048577 := by have := HPl.out; omega
      clear hlen
      have q0 := cell_of_row W bx 0 _ _ (0, 0) HST.out.bx_
      have r0 := cell_of_row W Bx 0 _ _ (0, 0) hBx
      have r1 := cell_of_row W Bx 1 _ _ (0, 0) hBx
      simp at q0 r0 r1
      have hn1W : n1 ≤ W.heap.size := by rw [HN1.out]; exact HST.out.but.size
      gi_wp2_with (gi_at_builtin; refine wpListIn_appN Try.elemPiece rfl (.tmp 66) (.tmp 68) rfl HST.out.own hn1W (by omega) (by omega) _ rfl (by intro u hu; simp at hu; rcases hu with rfl | rfl <;> rfl) _ rfl rfl ?_)
      intro a9 c9 w9 ho9 hg9 hn9
      have b9 : ∀ b, b < n1 → w9.heap[b]? = W.heap[b]? := fun b hb => hg9.block b (by omega) (fun e => by have := (World.ownsRow.lt HST.out.own b e.symm).1; omega)
      have x9 := (b9 bx (by omega)).trans HST.out.bx_
      have y9 := (b9 (bx + 1 + 1) hbx1).trans HST.out.bw_
      have q1 := cell_of_row w9 bx 0 _ _ (0, 0) x9
      have f1 := frozen_of_row w9 bx 0 _ _ x9
      have y10 : (w9.setCell ⟨bx, 0, none⟩ (.slice a9 (pre.length + 1) c9)).heap[bx + 1 + 1]? = some (.cells #[.string (textTo s pre)] 9 (0, 0)) := by
        rw [heap_setCell_other w9 ⟨bx, 0, none⟩ (bx + 1 + 1) _ (by simp; omega)]; exact y9
      have q2 := cell_of_row _ (bx + 1 + 1) 0 _ _ (0, 0) y10
      have f2 := frozen_of_row _ (bx + 1 + 1) 0 _ _ y10
      simp at q1 q2
      have hcat := cat_le s pre (x1, x2) (by omega) (by omega)
      have HE := Lib.hid (textTo_push s pre (x1, x2))
      have HOw := Lib.hid (show w9.ownsRow n1 46 2 (.slice a9 (pre.length + 1) c9) (pre.length + 1) (flat2 (pre ++ [(x1, x2)])) from by rw [flat2_push]; exact ho9)
      have HApp := Lib.hid (show n1 ≤ w9.heap.size from Nat.le_trans hn1W hg9.size)
      have HB9 := Lib.hid (But.grown HST.out.but hg9 hn1W (fun k e => .inr (World.ownsRow.lt HST.out.own k e).1))
      have HKp := Lib.hid (show Kept T (fun k => k < n1 ∧ k ≠ bx ∧ k ≠ bx + 1 + 1) W w9 from Kept.of_grown hg9 (fun k e h => by
        rcases h with h | h
        · exact HST.out.ta k e h
        · have := (World.ownsRow.lt HST.out.own k e).1; omega))
      have HTa := Lib.hid (show ∀ k, (Value.slice a9 (pre.length + 1) c9).ownBlock = some k → ¬ T k from fun k hk hT => by
        rcases hn9 with h | ⟨gg, h, hgg⟩
        · rw [h] at hk; exact HST.out.ta k hk hT
        · rw [h] at hk; cases hk; have := HST.out.tl _ hT; omega)
      have HTl := Lib.hid (fun k (h : T k) => Nat.lt_of_lt_of_le (HST.out.tl k h) hg9.size)
      clear ho9 hg9 hn9 b9
      gi_wp2
      refine ⟨HKp.out.trans ⟨by simp, fun k hk h => ?_⟩, a9, c9, ?_⟩
      · have hne : k ≠ bx ∧ k ≠ bx + 1 + 1 := by
          rcases h with h | h
          · exact ⟨fun e => HST.out.tx (e ▸ h), fun e => HST.out.tw (e ▸ h)⟩
          · exact h.2
        rw [heap_setCell_other _ ⟨bx + 1 + 1, 0, none⟩ k _ (by simp; omega), heap_setCell_other w9 ⟨bx, 0, none⟩ k _ (by simp; omega)]
      · have hl : (pre ++ [(x1, x2)]).length = pre.length + 1 := by simp
        refine ⟨(HB9.out.setCell bx 0 _ (.inl (.inl rfl))).setCell (bx + 1 + 1) 0 _ (.inl (.inr rfl)), ?_, ?_, ?_, HST.out.tx, HST.out.tw, by rw [hl]; exact HTa.out, HST.out.tn, fun k h => by simp; exact HTl.out k h⟩
        · rw [heap_setCell_other _ ⟨bx + 1 + 1, 0, none⟩ bx _ (by simp; omega), hl]
          have := heap_setCell_same w9 bx 0 _ _ (.slice a9 (pre.length + 1) c9) x9
          simpa using this
        · have := heap_setCell_same _ (bx + 1 + 1) 0 _ _ (.string (textTo s pre ++ subS s (x1, x2))) y10
          rw [HE.out]
          simpa using this
        · unfold Own2
          rw [hl]
          exact World.ownsRow.kept (World.ownsRow.kept HOw.out (grown_store w9 bx 0 _) (ownsRow_apart HOw.out (by omega))) (grown_store _ (bx + 1 + 1) 0 _) (ownsRow_apart HOw.out (by omega))
    case stop =>
      rintro D c T pre W - - - h
      exact h.elim
    case done =>
      rintro D T xs w20 hD hTD rfl ⟨ax, cx, hst⟩ hDk
      have HST := Lib.hid hst; clear hst
      have HX20 := Lib.hid HST.out.own
      have HY20 := Lib.hid ((HST.out.but.block (bx + 1) (by omega) (by show ¬ (bx + 1 = bx ∨ bx + 1 = bx + 1 + 1); omega)).trans HX12.out.2.1)
      have HWw := Lib.hid (show w.heap.size ≤ bx from by rw [HBX.out]; exact HP9.out.below.size)
      have hblt : w.heap.size < n1 := by have := (Array.getElem?_eq_some_iff.1 HP12.out.blk).1; rw [HN1.out]; exact this
      have hpb : w.heap.size ≠ bx := by
        have := (Array.getElem?_eq_some_iff.1 HP9.out.blk).1
        rw [HBX.out]; omega
      have HP20 : Hid (PB w rest a n cap w20) := Lib.hid ⟨HST.out.but.keep HP12.out.blk hblt (by show ¬ (w.heap.size = bx ∨ w.heap.size = bx + 1 + 1); have := HWw.out; omega), HP12.out.below.trans (HST.out.but.below w.heap.size (by omega) (fun k hk => by have := HWw.out; rcases hk with rfl | rfl <;> omega))⟩
      have HDk := Lib.hid hDk; clear hDk
      have hDw : w.heap.size ≤ D := by have := HN1.out; omega
      have p0 := HP20.out.c0
      have p1 := HP20.out.c1
      go_wp2_with fail
      refine (Each_walk _ rfl (mendS s) w20).mono ?_
      rintro e w21 ⟨rfl, -, -, hs21, hb⟩
      have HB21 := Lib.hid hb
      have HP21 := Lib.hid (HP20.out.next hb); clear hb p0 p1 hs21
      have p0 := HP21.out.c0
      have p1 := HP21.out.c1
      go_wp2_with fail
      refine (Each_walk _ rfl (mendS s) w21).mono ?_
      rintro e w22 ⟨rfl, k1, k2, hs22, hb⟩
      have HP22 := Lib.hid (HP21.out.next hb)
      have HB22 := Lib.hid (below_seq HB21.out hb); clear hb p0 p1
      have HK2 := Lib.hid (show _ ∧ _ ∧ _ from ⟨k1, k2, hs22⟩); clear k1 k2 hs22
      obtain ⟨n2, hn2⟩ : ∃ n2, n2 = w22.heap.size := ⟨_, rfl⟩
      have hlt20 : w20.heap.size ≤ n2 := by rw [hn2]; exact HB22.out.size
      have hn120 : n1 ≤ w20.heap.size := by rw [HN1.out]; exact HST.out.but.size
      have HX22 := Lib.hid (show w22.heap[bx]? = _ ∧ w22.heap[bx + 1]? = _ ∧ w22.heap[bx + 1 + 1]? = _ ∧ w22.heap[D]? = _ from
        ⟨(HB22.out.block bx (by omega)).trans HST.out.bx_, (HB22.out.block (bx + 1) (by omega)).trans HY20.out, (HB22.out.block (bx + 1 + 1) (by omega)).trans HST.out.bw_, (HB22.out.block D (Array.getElem?_eq_some_iff.1 HDk.out).1).trans HDk.out⟩)
      have HO22 := Lib.hid (Own2.below HX20.out HB22.out (Nat.le_refl _))
      have HDl := Lib.hid (Array.getElem?_eq_some_iff.1 HDk.out).1
      have HN2 := Lib.hid hn2; clear hn2
      have HPe := Lib.hid (show partsL rest cs (mendS s) = partsL rest cs s by unfold partsL; rw [HBk.out])
      have HEs := Lib.hid (each_stops rest a n cap cs (mendS s) w21.heap.size (w21.heap.size + 1) (fun k => k < n2 ∧ k ≠ bx + 1) w22 HN.out (by omega) (HC.out.below HP22.out.below (Nat.le_refl _)) (by omega) HK2.out.1 HK2.out.2.1)
      rw [HPe.out] at HEs
      clear HST HX20 HY20
      go_wp2
      refine wp_rangeX (gf := 47) (lb := #[.pointer (some ⟨w21.heap.size, 0, none⟩), .pointer (some ⟨w21.heap.size + 1, 0, none⟩)]) rfl (enters_of Try.func47 (by kernel_rfl) rfl)
        HEs.out (Below.refl _ _) (fun k hk => by rw [← HN2.out]; exact hk.1) (fun _ => rfl)
        (ColI w22 n2 (bx + 1)) (fun _ _ _ _ => False) (ColI.abide (by omega) (by rw [HN2.out]; exact Nat.le_refl _)) (fun _ _ _ _ _ _ h => h.elim)
        ⟨none, 0, But.refl _ _ _, HX22.out.2.1, Own2.nil _ _ _, id, (fun _ h => by cases h), (fun _ h => h.elim), (fun _ h => h.elim)⟩
        (ColA (mendS s) 82 83 15) (fun T x a' W W' h ho => h.off ho) ?assign2 ?body2 ?done2 ?stop2
      case stop2 =>
        rintro D c T pre W - - - h
        exact h.elim
      case assign2 =>
        rintro l T pre ⟨x1, x2⟩ W K hi hK
        have HK := Lib.hid hK; clear hK
        simp only [encP]
        gi_wp2
        obtain ⟨ax, cx, hst⟩ := hi
        refine HK.out _ _ ?_ ?_ ?_
        · exact Kept.of_below ((Below.refl _ W).alloc (Nat.le_refl _) _)
        · exact ColI.abide (by omega) (by rw [HN2.out]; exact Nat.le_refl _) _ _ _ _ _ ⟨ax, cx, hst⟩ (Off.alloc T W _) (Wider.refl _ _ _)
        · exact ⟨W.heap.size, heap_alloc_new W _, fun h => by have := hst.tl _ h; omega, rfl⟩
      case body2 =>
        rintro l T pre ⟨x1, x2⟩ a' W hTl hl - ⟨ax, cx, hst⟩ ⟨Bx, hBx, hTB, rfl⟩ hlen
        have HST := Lib.hid hst; clear hst
        have hlen2 : pre.length ≤ 1048577 := by have := HPl.out; omega
        clear hlen
        have q0 := cell_of_row W (bx + 1) 0 _ _ (0, 0) HST.out.bx_
        have r0 := cell_of_row W Bx 0 _ _ (0, 0) hBx
        have r1 := cell_of_row W Bx 1 _ _ (0, 0) hBx
        simp at q0 r0 r1
        have hn1W : n2 ≤ W.heap.size := by rw [HN2.out]; exact HST.out.but.size
        gi_wp2_with (gi_at_builtin; refine wpListIn_appN Try.elemPiece rfl (.tmp 84) (.tmp 86) rfl HST.out.own hn1W (by omega) (by omega) _ rfl (by intro u hu; simp at hu; rcases hu with rfl | rfl <;> rfl) _ rfl rfl ?_)
        intro a9 c9 w9 ho9 hg9 hn9
        have b9 : ∀ b, b < n2 → w9.heap[b]? = W.heap[b]? := fun b hb => hg9.block b (by omega) (fun e => by have := (World.ownsRow.lt HST.out.own b e.symm).1; omega)
        have x9 := (b9 (bx + 1) (by omega)).trans HST.out.bx_
        have q1 := cell_of_row w9 (bx + 1) 0 _ _ (0, 0) x9
        have f1 := frozen_of_row w9 (bx + 1) 0 _ _ x9
        simp at q1
        have HOw := Lib.hid (show w9.ownsRow n2 46 2 (.slice a9 (pre.length + 1) c9) (pre.length + 1) (flat2 (pre ++ [(x1, x2)])) from by rw [flat2_push]; exact ho9)
        have HB9 := Lib.hid (But.grown HST.out.but hg9 hn1W (fun k e => .inr (World.ownsRow.lt HST.out.own k e).1))
        have HKp := Lib.hid (show Kept T (fun k => k < n2 ∧ k ≠ bx + 1) W w9 from Kept.of_grown hg9 (fun k e h => by
          rcases h with h | h
          · exact HST.out.ta k e h
          · have := (World.ownsRow.lt HST.out.own k e).1; omega))
        have HTa := Lib.hid (show ∀ k, (Value.slice a9 (pre.length + 1) c9).ownBlock = some k → ¬ T k from fun k hk hT => by
          rcases hn9 with h | ⟨gg, h, hgg⟩
          · rw [h] at hk; exact HST.out.ta k hk hT
          · rw [h] at hk; cases hk; have := HST.out.tl _ hT; omega)
        have HTl := Lib.hid (fun k (h : T k) => Nat.lt_of_lt_of_le (HST.out.tl k h) hg9.size)
        clear ho9 hg9 hn9 b9
        gi_wp2
        refine ⟨HKp.out.trans ⟨by simp, fun k hk h => ?_⟩, a9, c9, ?_⟩
        · have hne : k ≠ bx + 1 := by
            rcases h with h | h
            · exact fun e => HST.out.tx (e ▸ h)
            · exact h.2
          rw [heap_setCell_other w9 ⟨bx + 1, 0, none⟩ k _ (by simp; omega)]
        · have hl : (pre ++ [(x1, x2)]).length = pre.length + 1 := by simp
          refine ⟨HB9.out.setCell (bx + 1) 0 _ (.inl rfl), ?_, ?_, HST.out.tx, by rw [hl]; exact HTa.out, HST.out.tn, fun k h => by simp; exact HTl.out k h⟩
          · rw [hl]
            have := heap_setCell_same w9 (bx + 1) 0 _ _ (.slice a9 (pre.length + 1) c9) x9
            simpa using this
          · unfold Own2
            rw [hl]
            exact World.ownsRow.kept HOw.out (grown_store w9 (bx + 1) 0 _) (ownsRow_apart HOw.out (by omega))
      case done2 =>
        rintro D2 T2 xs w30 hD2 hTD2 rfl ⟨ay, cy, hst⟩ hDk2
        have HST := Lib.hid hst; clear hst
        have hX : ∀ k, k < n2 → k ≠ bx + 1 → w30.heap[k]? = w22.heap[k]? := fun k h1 h2 => HST.out.but.block k h1 h2
        have x30 := (hX bx (by omega) (by omega)).trans HX22.out.1
        have y30 := HST.out.bx_
        have z30 := (hX (bx + 1 + 1) (by omega) (by omega)).trans HX22.out.2.2.1
        have d30 := (hX D (by have := HDl.out; omega) (by have := HW.out.2.2.2.2; have := HB12.out.size; omega)).trans HX22.out.2.2.2
        have q0 := cell_of_row w30 bx 0 _ _ (0, 0) x30
        have q1 := cell_of_row w30 (bx + 1) 0 _ _ (0, 0) y30
        have q2 := cell_of_row w30 (bx + 1 + 1) 0 _ _ (0, 0) z30
        simp at q0 q1 q2
        have HAll := Lib.hid (show textTo s (partsL rest cs s) = s from textTo_all s _ (by simp))
        rw [HAll.out] at q2
        have hoff : Off (fun k => k = bx + 1) w22 w30 := ⟨HST.out.but.os, HST.out.but.tape, HST.out.but.output, HST.out.but.size, fun k hk hn => hX k (by rw [HN2.out]; exact hk) hn⟩
        have HPx := Lib.hid (show Own2 n1 46 w30 ax (partsL rest cs s).length cx (partsL rest cs s) from ownsRow_off HO22.out hoff (fun k hk e => by have := (World.ownsRow.lt HO22.out k hk).1; omega))
        have HPy := Lib.hid HST.out.own
        have HB30 : Hid (Below w.heap.size w w30) := Lib.hid (HP22.out.below.trans (HST.out.but.below w.heap.size (by omega) (fun k hk => by have := HWw.out; subst hk; omega)))
        have hDD : D ≠ D2 := by have := HDl.out; have := HN2.out; omega
        have hD2l := (Array.getElem?_eq_some_iff.1 hDk2).1
        have HD := Lib.hid (show _ ∧ _ from ⟨d30, hDk2⟩); clear d30 hDk2
        have HDl0 := Lib.hid (Array.getElem?_eq_some_iff.1 HD.out.1).1
        clear HST hX hoff x30 y30
        have hPl := HPl.out
        have HSm := Lib.hid (samePieces_walk ax ay (partsL rest cs s).length cx cy (partsL rest cs s) w30 rfl (by omega) HPx.out.pairs HPy.out.pairs)
        go_wp2_with fail
        refine HSm.out.mono ?_
        rintro e w31 ⟨rfl, hb⟩
        have HB31 := Lib.hid hb
        have q2' : w31.cell? ⟨bx + 1 + 1, 0, none⟩ = some (.string s) := by rw [hb.cell (p := ⟨bx + 1 + 1, 0, none⟩) (World.block_lt_of_cell? w30 _ q2)]; exact q2
        clear hb q0 q1 q2 z30 HSm
        go_wp2_with fail
        refine (awake_walk _).mono ?_
        rintro e w32 ⟨rfl, hb⟩
        have HB32 := Lib.hid (below_seq HB31.out hb); clear hb q2'
        go_wp2
        have e1 : w32.heap[D]? = some (.deferred (some [])) := (HB32.out.block D HDl0.out).trans HD.out.1
        have e2 : w32.heap[D2]? = some (.deferred (some [])) := (HB32.out.block D2 hD2l).trans HD.out.2
        refine leaves_mark e2 (leaves_mark (by rw [World.putObj_heap_other hDD]; exact e1) (leaves_nil (results_tmp rfl _ _ _) ?_))
        have hB := HB30.out.trans (HB32.out.mono HB30.out.size)
        have hl := hB.size
        have hw30 := HB32.out.size
        have hn2' := HN2.out
        have hd' := HDl.out
        exact ⟨rfl, (hB.grown (grownBy_putObj' w32 D2 (.deferred none)) hl (fun k e => by cases e; omega)).grown (grownBy_putObj' _ D (.deferred none)) (by simp; omega) (fun k e => by cases e; omega)⟩
end Go.Proofs.Ytmcjlkpogcnniaa
