/-
  Walks: a list out of an iterator; sorted.
-/
import Derived.Test.YtkcdcgijbaepmaaW21
set_option linter.unusedVariables false
namespace Go.Proofs.Ytkcdcgijbaepmaa
open Go.RowKit Go.Shelf
attribute [local go_sem] Oper.semAt_some

theorem Try.elemInt : Elem Try.prog 31 3 (.int .i64 0) 8 := ⟨Try.underlying31, by kernel_rfl, by kernel_rfl⟩
/-- between two rounds: the numbers that have come -/
structure ColSt (W0 : World) (n1 bx : Nat) (T : Nat → Prop) (pre : List Int) (W : World) (ax : Option Addr) (cx : Nat) : Prop where
  but : But n1 (fun k => k = bx) W0 W
  bx_ : W.heap[bx]? = some (.cells #[.slice ax pre.length cx] 31 (0, 0))
  own : Own n1 3 W ax pre.length cx (ivs .i64 pre)
  tx : ¬ T bx
  ta : ∀ k, (Value.slice ax pre.length cx).ownBlock = some k → ¬ T k
  tn : ∀ k, T k → n1 ≤ k
  tl : ∀ k, T k → k < W.heap.size
def ColI (W0 : World) (n1 bx : Nat) (T : Nat → Prop) (pre : List Int) (W : World) : Prop := ∃ ax cx, ColSt W0 n1 bx T pre W ax cx
theorem ColI.abide {W0 : World} {n1 bx : Nat} (hx : bx < n1) (h1 : n1 ≤ W0.heap.size) : Abide (ColI W0 n1 bx) := by
  rintro T T' pre W W' ⟨ax, cx, h⟩ ho hwd
  have hn : n1 ≤ W.heap.size := Nat.le_trans h1 h.but.size
  have hb : ∀ b, b < W.heap.size → ¬ T b → ¬ T' b := fun b hb hT hT' => by
    rcases hwd b hT' with h2 | h2
    · exact hT h2
    · omega
  refine ⟨ax, cx, h.but.off ho h.tn hn, ho.cellsBlock h.bx_ h.tx, h.own.off ho h.ta, hb _ (by omega) h.tx, fun k hk => hb k (World.ownsRow.lt h.own k hk).2 (h.ta k hk), fun k hk => ?_, fun k hk => ?_⟩
  · rcases hwd k hk with h2 | h2
    · exact h.tn k h2
    · omega
  · rcases hwd k hk with h2 | h2
    · have := h.tl k h2; have := ho.size; omega
    · exact h2.2
def ColA (p1 v1 : Nat) (tmps : Array Value) (T : Nat → Prop) (x : Int) (a' : Act) (W : World) : Prop :=
  a' = { tmps := (tmps.setIfInBounds p1 (.int .i64 x)).setIfInBounds v1 (.int .i64 x), defers := [] }
theorem ivs_push1 (zs : List Int) (x : Int) : ivs .i64 (zs ++ [x]) = ivs .i64 zs ++ [.int .i64 x] := by simp [ivs]

set_option maxRecDepth 100000 in
set_option maxHeartbeats 8000000 in
theorem AppendSeq_walk (g : Nat) (lb : Array Value) (eg : ∀ args w, (callFunc g args).run Try.prog w = .ok (.enter g args) w) (zs : List Int) (R : Nat → Prop) (Sp : List Int → Prop) (w : World) (hm : zs.length ≤ 1048576)
    (hR : ∀ k, R k → k < w.heap.size) (hseq : SeqX Try.prog g lb encI R (fun xs => xs = zs) Sp zs.length w) :
    Calls Try.prog 75 #[.slice none 0 0, .func (.func g) #[] lb] w fun e w' => ∃ a c, e = .returned (.slice a zs.length c) ∧ Own w.heap.size 3 w' a zs.length c (ivs .i64 zs) ∧ Below w.heap.size w w' := by
  have HS := Lib.hid hseq; clear hseq
  have HR := Lib.hid hR; clear hR
  refine calls_of_wpM Try.func75 rfl ?_
  simp only [Try.ntmps75, List.size_toArray, List.length_cons, List.length_nil, Nat.reduceAdd, Nat.reduceSub, Array.replicate_succ, Array.replicate_zero, List.push_toArray, List.append_toArray, List.nil_append, List.cons_append]
  obtain ⟨bx, hbx⟩ : ∃ bx, bx = w.heap.size := ⟨_, rfl⟩
  have HW1 : Hid (Below w.heap.size w (w.alloc (.cells #[.slice none 0 0] 31)) ∧ (w.alloc (.cells #[.slice none 0 0] 31)).heap[bx]? = some (.cells #[.slice none 0 0] 31 (0, 0)) ∧ (w.alloc (.cells #[.slice none 0 0] 31)).heap.size = bx + 1) := Lib.hid (by
    rw [hbx]
    exact ⟨(Below.refl _ w).alloc (Nat.le_refl _) _, heap_alloc_new w _, by simp⟩)
  go_wp2
  rw [← hbx]
  generalize (w.alloc (.cells #[.slice none 0 0] 31)) = w1 at *
  have HBX := Lib.hid hbx; clear hbx
  refine wp_rangeX (gf := g) (lb := lb) rfl eg HS.out HW1.out.1 (fun k hk => by have := HR.out k hk; have := HW1.out.1.size; omega) (fun _ => rfl)
    (ColI w1 (bx + 1) bx) (fun _ _ _ _ => False) (ColI.abide (by omega) (by rw [HW1.out.2.2]; exact Nat.le_refl _)) (fun _ _ _ _ _ _ h => h.elim)
    ⟨none, 0, But.refl _ _ _, HW1.out.2.1, Own.nil _ _ _, id, (fun _ h => by cases h), (fun _ h => h.elim), (fun _ h => h.elim)⟩
    (ColA 7 5) (fun T x a' W W' h ho => h) ?assign ?body ?done ?stop
  case assign =>
    rintro l T pre x W K hi hK
    have HK := Lib.hid hK; clear hK
    simp only [encI]
    gi_wp2
    exact HK.out _ _ (Kept.refl _ _ _) hi rfl
  case body =>
    rintro l T pre x a' W hTl hl - ⟨ax, cx, hst⟩ hA hlen -
    unfold ColA at hA
    subst hA
    have HST := Lib.hid hst; clear hst
    have hlen2 : pre.length ≤ 1048576 := by omega
    clear hlen
    have q0 := cell_of_row W bx 0 _ _ (0, 0) HST.out.bx_
    simp at q0
    have hn1W : bx + 1 ≤ W.heap.size := by rw [← HW1.out.2.2]; exact HST.out.but.size
    gi_wp2_with (gi_at_builtin; refine wpListIn_appN Try.elemInt.toN rfl (.tmp 8) (.tmp 10) rfl HST.out.own hn1W (by omega) (by omega) _ rfl (by intro u hu; simp at hu; rcases hu with rfl; rfl) _ rfl rfl ?_)
    intro a9 c9 w9 ho9 hg9 hn9
    have b9 : ∀ b, b < bx + 1 → w9.heap[b]? = W.heap[b]? := fun b hb => hg9.block b (by omega) (fun e => by have := (World.ownsRow.lt HST.out.own b e.symm).1; omega)
    have x9 := (b9 bx (by omega)).trans HST.out.bx_
    have q1 := cell_of_row w9 bx 0 _ _ (0, 0) x9
    have f1 := frozen_of_row w9 bx 0 _ _ x9
    simp at q1
    have HOw := Lib.hid (show Own (bx + 1) 3 w9 a9 (pre.length + 1) c9 (ivs .i64 (pre ++ [x])) from by rw [ivs_push1]; exact ho9)
    have HB9 := Lib.hid (But.grown HST.out.but hg9 hn1W (fun k e => .inr (World.ownsRow.lt HST.out.own k e).1))
    have HKp := Lib.hid (show Kept T R W w9 from Kept.of_grown hg9 (fun k e h => by
      rcases h with h | h
      · exact HST.out.ta k e h
      · have h1 := (World.ownsRow.lt HST.out.own k e).1
        have h2 := HR.out k h
        have h3 := HBX.out
        omega))
    have HTa := Lib.hid (show ∀ k, (Value.slice a9 (pre.length + 1) c9).ownBlock = some k → ¬ T k from fun k hk hT => by
      rcases hn9 with h | ⟨gg, h, hgg⟩
      · rw [h] at hk; exact HST.out.ta k hk hT
      · rw [h] at hk; cases hk; have := HST.out.tl _ hT; omega)
    have HTl := Lib.hid (fun k (h : T k) => Nat.lt_of_lt_of_le (HST.out.tl k h) hg9.size)
    clear ho9 hg9 hn9 b9
    gi_wp2
    refine ⟨HKp.out.trans ⟨by simp, fun k hk h => ?_⟩, a9, c9, ?_⟩
    · have hne : k ≠ bx := by
        rcases h with h | h
        · exact fun e => HST.out.tx (e ▸ h)
        · have h2 := HR.out k h; have h3 := HBX.out; omega
      rw [heap_setCell_other w9 ⟨bx, 0, none⟩ k _ (by simp; omega)]
    · have hl : (pre ++ [x]).length = pre.length + 1 := by simp
      refine ⟨HB9.out.setCell bx 0 _ (.inl rfl), ?_, ?_, HST.out.tx, by rw [hl]; exact HTa.out, HST.out.tn, fun k h => by simp; exact HTl.out k h⟩
      · rw [hl]
        have := heap_setCell_same w9 bx 0 _ _ (.slice a9 (pre.length + 1) c9) x9
        simpa using this
      · rw [hl]
        exact World.ownsRow.kept HOw.out (grown_store w9 bx 0 _) (ownsRow_apart HOw.out (by omega))
  case stop =>
    rintro D c T pre W - - - h
    exact h.elim
  case done =>
    rintro D T xs w20 hD hTD rfl ⟨ax, cx, hst⟩ hDk
    have HST := Lib.hid hst; clear hst
    have HDk := Lib.hid hDk; clear hDk
    have q0 := cell_of_row w20 bx 0 _ _ (0, 0) HST.out.bx_
    simp at q0
    go_wp2
    refine leaves_mark HDk.out (leaves_nil (results_tmp rfl _ _ _) ?_)
    have hD1 : bx + 1 ≤ D := by have := HW1.out.2.2; omega
    have hof : Off T w20 (w20.putObj D (.deferred none)) := Off.putObj _ _ hTD
    have hbw : bx + 1 ≤ w20.heap.size := by rw [← HW1.out.2.2]; exact HST.out.but.size
    refine ⟨ax, cx, rfl, ?_, ?_⟩
    · exact (HST.out.own.off hof HST.out.ta).mono (by rw [← HBX.out]; omega)
    · have h1 : Below bx w1 w20 := HST.out.but.below bx (by omega) (fun k e => by subst e; exact Nat.le_refl _)
      have h2 : Below bx w20 (w20.putObj D (.deferred none)) := hof.below bx (by omega) (fun k hk => by have := HST.out.tn k hk; omega)
      have h3 := HW1.out.1
      rw [← HBX.out] at h3 ⊢
      exact (h3.trans h1).trans h2

theorem Values_walk (a : Option Addr) (n c : Nat) (w : World) :
    Calls Try.prog 43 #[.slice a n c] w fun e w' => e = .returned (.func (.func 65) #[] #[.pointer (some ⟨w.heap.size, 0, none⟩)]) ∧
      w'.cell? ⟨w.heap.size, 0, none⟩ = some (.slice a n c) ∧ w'.heap.size = w.heap.size + 1 ∧ Below w.heap.size w w' := by
  go_enter Try.func43, Try.ntmps43
  go_wp2
  go_ret
  have c0 := cell_of_row _ w.heap.size 0 _ _ (0, 0) (heap_alloc_new w (.cells #[.slice a n c] 31))
  exact ⟨rfl, c0, by simp, (Below.refl _ w).alloc (Nat.le_refl _) _⟩

theorem Collect_walk (g : Nat) (lb : Array Value) (eg : ∀ args w, (callFunc g args).run Try.prog w = .ok (.enter g args) w) (zs : List Int) (R : Nat → Prop) (Sp : List Int → Prop) (w : World) (hm : zs.length ≤ 1048576)
    (hR : ∀ k, R k → k < w.heap.size) (hseq : SeqX Try.prog g lb encI R (fun xs => xs = zs) Sp zs.length w) :
    Calls Try.prog 64 #[.func (.func g) #[] lb] w fun e w' => ∃ a c, e = .returned (.slice a zs.length c) ∧ Own w.heap.size 3 w' a zs.length c (ivs .i64 zs) ∧ Below w.heap.size w w' := by
  have HA := Lib.hid (AppendSeq_walk g lb eg zs R Sp w hm hR hseq)
  clear hR hseq eg
  go_enter Try.func64, Try.ntmps64
  go_wp2_with fail
  refine HA.out.mono ?_
  rintro e w1 ⟨a1, c1, rfl, ho, hb⟩
  have HO := Lib.hid ho; clear ho
  have HB := Lib.hid hb; clear hb
  go_wp2
  go_ret
  exact ⟨a1, c1, rfl, HO.out, HB.out⟩
theorem Sorted_walk (g : Nat) (lb : Array Value) (eg : ∀ args w, (callFunc g args).run Try.prog w = .ok (.enter g args) w) (zs : List Int) (R : Nat → Prop) (Sp : List Int → Prop) (w : World) (hm : zs.length ≤ 1048576)
    (hR : ∀ k, R k → k < w.heap.size) (hseq : SeqX Try.prog g lb encI R (fun xs => xs = zs) Sp zs.length w) :
    Calls Try.prog 42 #[.func (.func g) #[] lb] w fun e w' => ∃ a c, e = .returned (.slice a zs.length c) ∧ Own w.heap.size 3 w' a zs.length c (ivs .i64 (sortI zs)) ∧ Below w.heap.size w w' := by
  have HA := Lib.hid (Collect_walk g lb eg zs R Sp w hm hR hseq)
  clear hR hseq eg
  go_enter Try.func42, Try.ntmps42
  go_wp2_with fail
  refine HA.out.mono ?_
  rintro e w1 ⟨a1, c1, rfl, ho, hb⟩
  have HO := Lib.hid ho; clear ho
  have HB := Lib.hid hb; clear hb
  go_wp2_with fail
  refine (sortI_walk w.heap.size a1 zs.length c1 zs w1 hm HO.out).mono ?_
  rintro e w2 ⟨rfl, ho, hb⟩
  have HO2 := Lib.hid ho; clear ho
  have HB2 := Lib.hid hb; clear hb
  go_wp2
  go_ret
  exact ⟨a1, c1, rfl, HO2.out, HB.out.trans HB2.out⟩
end Go.Proofs.Ytkcdcgijbaepmaa
