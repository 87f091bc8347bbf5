/-
  The walk of TrieTurns.
-/
import Derived.Laws.BytesArg
import Derived.Deep.RegionLaw
import Derived.Lib.QuietBelow
import Derived.Great.BuildSlice
import Derived.Test.YtabbabkmojaoaaaTJ
import Derived.Test.YtabbabkmojaoaaaTGS
import Derived.Test.YtabbabkmojaoaaaTG8
import Derived.Test.YtabbabkmojaoaaaTHS
import Derived.Test.YtabbabkmojaoaaaTH8
set_option linter.unusedVariables false
set_option linter.unusedSimpArgs false
namespace Go.Proofs.Ytabbabkmojaoaaa
open Go.RowKit

/-- the text of a number -/
def textB (v : Int) : ByteArray := strOfNums [v, v]
theorem text_walk (v : Int) (w : World) : Calls Try.prog 21 #[.int .u8 v] w fun e w' => e = .returned (.string (textB v)) ∧ Below w.heap.size w w' := by
  have h1 := run_convert_bytes_arg (w.alloc (.cells #[.int .u8 v, .int .u8 v] 5)) 77 5 Try.underlying77 Try.underlying5 w.heap.size 0 2 2 [v, v] rfl (fun i hi => by
    rw [Nat.zero_add, cell_of_row _ w.heap.size i _ _ (0, 0) (heap_alloc_new w _)]
    match i, hi with
    | 0, _ => rfl
    | 1, _ => rfl) 9 Try.underlying9
  have HB := Lib.hid ((Below.refl w.heap.size w).alloc (Nat.le_refl _) (.cells #[.int .u8 v, .int .u8 v] 5))
  go_enter Try.func21, Try.ntmps21
  go_wp2
  go_ret
  exact ⟨rfl, HB.out⟩
theorem same_walk (v : Int) (w : World) : Calls Try.prog 27 #[.int .u8 v] w fun e w' => e = .returned (.int .u8 v) ∧ Below w.heap.size w w' := by
  go_enter Try.func27, Try.ntmps27
  go_wp2
  go_ret
  exact ⟨rfl, Below.refl _ _⟩
theorem turn1_walk (v add : Int) (b : Nat) (w : World) (hc : w.cell? ⟨b, 0, none⟩ = some (.int .u8 add)) : Calls Try.prog 19 #[.int .u8 v, .pointer (some ⟨b, 0, none⟩)] w fun e w' => e = .returned (.int .u8 (IntKind.u8.wrap (v + add))) ∧ w' = w := by
  go_enter Try.func19, Try.ntmps19
  go_wp2
  go_ret
  exact ⟨rfl, rfl⟩
theorem exec_min {P : Program} {o : Oper} {act : Act} {w : World} (x y : Operand) (ts : Array TypeId) (ho : o.op = .call { callee := .builtin .min, args := #[x, y], argTypes := ts }) (k : IntKind) (a b m : Int) (hx : act.eval x = .int k a) (hy : act.eval y = .int k b)
    (hr : (Builtin.min_ ts o.type #[.int k a, .int k b]).run P w = .ok (.int k m) w) : (execOp act.eval o).run P w = .ok (.value (.int k m)) w := by
  unfold execOp
  simp only [ho, resolve, invoke, builtin, Sem.run_bind, Sem.run_pure, Result.andThen_ok, List.map_toArray, List.map_cons, List.map_nil, hx, hy, hr]
def minI (v most : Int) : Int := if most < v then most else v
set_option maxRecDepth 10000 in
theorem turn2_walk (v most : Int) (b : Nat) (w : World) (hc : w.cell? ⟨b, 0, none⟩ = some (.int .u8 most)) : Calls Try.prog 20 #[.int .u8 v, .pointer (some ⟨b, 0, none⟩)] w fun e w' => e = .returned (.string (textB (minI v most))) ∧ Below w.heap.size w w' := by
  have hm : ∀ (w : World) (ts : Array TypeId) (t : TypeId), (Builtin.min_ ts t #[.int .u8 v, .int .u8 most]).run Try.prog w = .ok (.int .u8 (minI v most)) w := fun w ts t => run_min_int2 w ts t _ _ _ _
  generalize minI v most = m at *
  go_enter Try.func20, Try.ntmps20
  go_upto_region 1 with (fail)
  refine wp_region_list ?_
  refine wpList_val (v := .int .u8 v) (w' := w) rfl (by rfl) ?_
  refine wpList_val (v := .int .u8 most) (w' := w) rfl (by go_simp) ?_
  refine wpList_val (v := .int .u8 m) (w' := w) rfl (exec_min (.tmp 4) (.tmp 5) _ rfl .u8 v most m rfl rfl (hm _ _ _)) ?_
  go_wp2_with fail
  refine (text_walk _ _).mono ?_
  rintro e w1 ⟨rfl, hb⟩
  have HB := Lib.hid hb; clear hb
  go_wp2
  go_ret
  exact ⟨rfl, HB.out⟩
set_option maxRecDepth 10000 in
theorem turn3_walk (v add most : Int) (b1 b2 ba bm : Nat) (w : World) (c1 : w.cell? ⟨b1, 0, none⟩ = some (.func (.func 20) #[] #[.pointer (some ⟨bm, 0, none⟩)])) (c2 : w.cell? ⟨b2, 0, none⟩ = some (.func (.func 19) #[] #[.pointer (some ⟨ba, 0, none⟩)]))
    (ca : w.cell? ⟨ba, 0, none⟩ = some (.int .u8 add)) (cm : w.cell? ⟨bm, 0, none⟩ = some (.int .u8 most)) :
    Calls Try.prog 24 #[.int .u8 v, .pointer (some ⟨b1, 0, none⟩), .pointer (some ⟨b2, 0, none⟩)] w fun e w' => e = .returned (.string (textB (minI (IntKind.u8.wrap (v + add)) most))) ∧ Below w.heap.size w w' := by
  have H1 := Lib.hid (fun d os => Go.Calls.regrown_of ((turn1_walk v add ba (Go.Sort.grow (redrawn w d) os) (cell_regrown ca d os)).mono fun e w' ⟨h1, h2⟩ => ⟨h1, by rw [h2]; exact Below.refl _ _⟩))
  have H2 := Lib.hid (fun d os => Go.Calls.regrown_of (turn2_walk (IntKind.u8.wrap (v + add)) most bm (Go.Sort.grow (redrawn w d) os) (cell_regrown cm d os)))
  have k1 := fun d os => cell_regrown c1 d os
  have k2 := fun d os => cell_regrown c2 d os
  clear c1 c2
  generalize textB (minI (IntKind.u8.wrap (v + add)) most) = r at *
  generalize IntKind.u8.wrap (v + add) = u at *
  go_enter Try.func24, Try.ntmps24
  go_upto_region 1 with (fail)
  refine wp_region_quiet_below (by kernel_rfl) (by kernel_rfl) ?_
  iterate 3 (quiet_step (fail))
  quiet_step (exact H1.out _ _)
  quiet_step (exact H2.out _ _)
  quiet_step (fail)
  refine wpQuiet_nil ?_
  intro _ hw'
  obtain ⟨⟨dq, osq⟩, hw''⟩ := hw'
  subst hw''
  go_wp2
  go_ret
  exact ⟨rfl, below_regrown w dq osq⟩

/-- a box more -/
theorem box_fact (w : World) (x : Value) (t : TypeId) : Below w.heap.size w (w.alloc (.cells #[x] t)) ∧ (w.alloc (.cells #[x] t)).heap[w.heap.size]? = some (.cells #[x] t (0, 0)) ∧ (w.alloc (.cells #[x] t)).heap.size = w.heap.size + 1 :=
  ⟨(Below.refl _ w).alloc (Nat.le_refl _) _, heap_alloc_new w _, World.size_alloc w _⟩
theorem box_cell {w : World} {b : Nat} {x : Value} {t : TypeId} (h : w.heap[b]? = some (.cells #[x] t (0, 0))) : w.cell? ⟨b, 0, none⟩ = some x := cell_of_row w b 0 _ _ (0, 0) h
theorem setbox_fact (w : World) (x y : Value) (t : TypeId) : Below w.heap.size w ((w.alloc (.cells #[x] t)).setRow w.heap.size #[y]) ∧ ((w.alloc (.cells #[x] t)).setRow w.heap.size #[y]).heap[w.heap.size]? = some (.cells #[y] t (0, 0)) ∧ ((w.alloc (.cells #[x] t)).setRow w.heap.size #[y]).heap.size = w.heap.size + 1 := by
  obtain ⟨f1, f2, f3⟩ := box_fact w x t
  refine ⟨⟨f1.os, f1.tape, f1.output, by rw [setRow_size]; exact f1.size, fun k hk => by rw [setRow_other _ w.heap.size k _ (by omega)]; exact f1.block k hk⟩, setRow_heap _ w.heap.size _ #[y] _ _ f2, by rw [setRow_size]; exact f3⟩
set_option maxRecDepth 100000 in
set_option maxHeartbeats 1600000 in
theorem trieTurns_walk (rest : Int) (a : Option Addr) (n c : Nat) (l : List SpanD) (add most : Int) (w : World) (hl : l.length = n) (hs : SpansAt w a l) (hwf : ∀ s ∈ l, -2147483648 ≤ s.f ∧ s.f ≤ 2147483647 ∧ -2147483648 ≤ s.t ∧ s.t ≤ 2147483647) :
    Calls Try.prog 5 #[.int .u8 rest, .slice a n c, .int .u8 add, .int .u8 most] w fun e w' => e = .returned (.bool true) ∧ Below w.heap.size w w' := by
  have HL := Lib.hid hl; clear hl
  have HS := Lib.hid hs; clear hs
  have HWf := Lib.hid hwf; clear hwf
  obtain ⟨f1, f2, f3⟩ := box_fact w (.int .u8 add) 5
  have HW1 : Hid (∃ w1, w1 = w.alloc (.cells #[.int .u8 add] 5)) := Lib.hid ⟨_, rfl⟩
  obtain ⟨w1, hw1⟩ := HW1.out
  rw [← hw1] at f1 f2 f3
  obtain ⟨f4, f5, f6⟩ := box_fact w1 (.int .u8 most) 5
  obtain ⟨w2, hw2⟩ : ∃ w2, w2 = w1.alloc (.cells #[.int .u8 most] 5) := ⟨_, rfl⟩
  rw [← hw2] at f4 f5 f6
  have HW2 := Lib.hid (And.intro hw1 hw2)
  obtain ⟨b0, hb0⟩ : ∃ b0, b0 = w.heap.size := ⟨_, rfl⟩
  have HB2 : Hid (Below w.heap.size w w2) := Lib.hid (f1.trans (f4.mono (by omega)))
  have H0 : Hid (w2.heap[b0]? = some (.cells #[.int .u8 add] 5 (0, 0))) := Lib.hid (by rw [hb0]; exact (f4.block _ (by omega)).trans f2)
  have H1 : Hid (w2.heap[b0 + 1]? = some (.cells #[.int .u8 most] 5 (0, 0))) := Lib.hid (by rw [hb0, ← f3]; exact f5)
  have HZ : Hid (w2.heap.size = b0 + 2) := Lib.hid (by omega)
  clear f1 f2 f3 f4 f5 f6 hw1 hw2 HW1
  have HBz := Lib.hid hb0
  clear hb0
  have HS2 := Lib.hid (HS.out.below HB2.out (fun b o e h0 => HS.out.lt b o e h0))
  go_enter Try.func5, Try.ntmps5
  go_upto_region 1 with (fail)
  rw [← HBz.out, ← HW2.out.1, ← HW2.out.2]
  by_cases h6 : 60 < n
  · have h6i : (60 : Int) < (n : Int) := by omega
    go_wp2_with fail
    refine (awake_walk _).mono ?_
    rintro e w3 ⟨rfl, hb⟩
    have HB3 := Lib.hid (HB2.out.trans (hb.mono HB2.out.size)); clear hb
    go_wp2
    go_ret
    exact ⟨rfl, HB3.out⟩
  · have h6i : ¬ (60 : Int) < (n : Int) := by omega
    go_wp2_with fail
    refine (Build8_any2 rest a n c l w2 HL.out (by omega) HS2.out HWf.out).mono ?_
    rintro e w3 ⟨tv, at_, er, rfl, hb, hi⟩
    have HB3 := Lib.hid (HB2.out.trans (hb.mono HB2.out.size))
    have H0' := Lib.hid ((hb.block b0 (by rw [HZ.out]; omega)).trans H0.out)
    have H1' := Lib.hid ((hb.block (b0 + 1) (by rw [HZ.out]; omega)).trans H1.out)
    clear hb H0 H1
    rcases hi with ⟨her, rfl, -⟩ | ⟨rfl, hok, g, S, rfl, hS, hT⟩
    · have her' : (er != 0) = true := by simpa using her
      go_wp2_with fail
      refine (awake_walk _).mono ?_
      rintro e w4 ⟨rfl, hb⟩
      have HB4 := Lib.hid (HB3.out.trans (hb.mono HB3.out.size)); clear hb
      go_wp2
      go_ret
      exact ⟨rfl, HB4.out⟩
    · have HT := Lib.hid hT
      have HSm := Lib.hid hS
      clear hT hS hok
      have hF1 := fun (w : World) (t : TypeId) (x y : Value) => setbox_fact w x y t
      go_upto_region 6 with (fail)
      refine wp_region_list ?_
      refine wpList_val (v := .func (.func 19) #[] #[.pointer (some ⟨b0, 0, none⟩)]) (w' := w3) rfl (by kernel_rfl) ?_
      refine wpList_val (v := .pointer (some ⟨w3.heap.size, 0, none⟩)) (w' := w3.alloc (.cells #[.nilFunc] 39)) rfl (by kernel_rfl) ?_
      refine wpList_store_one rfl 39 (.tmp 12) (.tmp 30) rfl w3.heap.size rfl rfl 39 .nilFunc (heap_alloc_new w3 _) (by kernel_rfl) ?_
      obtain ⟨e1, e2, e3⟩ := setbox_fact w3 .nilFunc (.func (.func 19) #[] #[.pointer (some ⟨b0, 0, none⟩)]) 39
      change wpList _ _ _ _ _ ((w3.alloc (.cells #[.nilFunc] 39)).setRow w3.heap.size #[.func (.func 19) #[] #[.pointer (some ⟨b0, 0, none⟩)]])
      generalize (w3.alloc (.cells #[.nilFunc] 39)).setRow w3.heap.size #[.func (.func 19) #[] #[.pointer (some ⟨b0, 0, none⟩)]] = w4 at *
      have E1 := Lib.hid e1; have E2 := Lib.hid e2; have E3 := Lib.hid e3
      clear e1 e2 e3 hF1
      go_upto_region 7 with (fail)
      refine wp_region_list ?_
      refine wpList_val (v := .func (.func 20) #[] #[.pointer (some ⟨b0 + 1, 0, none⟩)]) (w' := w4) rfl (by kernel_rfl) ?_
      refine wpList_val (v := .pointer (some ⟨w4.heap.size, 0, none⟩)) (w' := w4.alloc (.cells #[.nilFunc] 40)) rfl (by kernel_rfl) ?_
      refine wpList_store_one rfl 40 (.tmp 13) (.tmp 31) rfl w4.heap.size rfl rfl 40 .nilFunc (heap_alloc_new w4 _) (by kernel_rfl) ?_
      obtain ⟨e1, e2, e3⟩ := setbox_fact w4 .nilFunc (.func (.func 20) #[] #[.pointer (some ⟨b0 + 1, 0, none⟩)]) 40
      change wpList _ _ _ _ _ ((w4.alloc (.cells #[.nilFunc] 40)).setRow w4.heap.size #[.func (.func 20) #[] #[.pointer (some ⟨b0 + 1, 0, none⟩)]])
      generalize (w4.alloc (.cells #[.nilFunc] 40)).setRow w4.heap.size #[.func (.func 20) #[] #[.pointer (some ⟨b0 + 1, 0, none⟩)]] = w5 at *
      have hz5 : w5.heap.size = w3.heap.size + 2 := by rw [e3, E3.out]
      rw [E3.out] at e1 e2 ⊢
      obtain ⟨b12, hb12⟩ : ∃ b12, b12 = w3.heap.size := ⟨_, rfl⟩
      have HB35 : Hid (Below w3.heap.size w3 w5) := Lib.hid (E1.out.trans (e1.mono (by omega)))
      have K12 : Hid (w5.heap[b12]? = some (.cells #[.func (.func 19) #[] #[.pointer (some ⟨b0, 0, none⟩)]] 39 (0, 0))) := Lib.hid (by rw [hb12]; exact (e1.block _ (by omega)).trans E2.out)
      have K13 : Hid (w5.heap[b12 + 1]? = some (.cells #[.func (.func 20) #[] #[.pointer (some ⟨b0 + 1, 0, none⟩)]] 40 (0, 0))) := Lib.hid (by rw [hb12]; exact e2)
      have K0 := Lib.hid ((HB35.out.block b0 (Array.getElem?_eq_some_iff.1 H0'.out).1).trans H0'.out)
      have K1 := Lib.hid ((HB35.out.block (b0 + 1) (Array.getElem?_eq_some_iff.1 H1'.out).1).trans H1'.out)
      have HB5 := Lib.hid (HB3.out.trans (HB35.out.mono HB3.out.size))
      have HT5 := Lib.hid (HT.out.below HB35.out (Nat.le_refl _))
      rw [← hb12]
      clear e1 e2 e3 E1 E2 E3 hb12 hz5 HB35 HT H0' H1' HB3
      have HOne : Hid (∀ v W, Below w5.heap.size w5 W → Calls Try.prog 19 (#[.int .u8 v] ++ #[.pointer (some ⟨b0, 0, none⟩)]) W fun e W' => e = .returned (val8 (IntKind.u8.wrap (v + add))) ∧ Below W.heap.size W W') := Lib.hid (fun v W hb =>
        (turn1_walk v add b0 W (box_cell ((hb.block b0 (Array.getElem?_eq_some_iff.1 K0.out).1).trans K0.out))).mono fun e W' ⟨h1, h2⟩ => ⟨h1, by rw [h2]; exact Below.refl _ _⟩)
      have HTwo : Hid (∀ v W, Below w5.heap.size w5 W → Calls Try.prog 20 (#[.int .u8 v] ++ #[.pointer (some ⟨b0 + 1, 0, none⟩)]) W fun e W' => e = .returned (VS.val8 (textB (minI v most))) ∧ Below W.heap.size W W') := Lib.hid (fun v W hb =>
        turn2_walk v most (b0 + 1) W (box_cell ((hb.block (b0 + 1) (Array.getElem?_eq_some_iff.1 K1.out).1).trans K1.out)))
      have HThr : Hid (∀ v W, Below w5.heap.size w5 W → Calls Try.prog 24 (#[.int .u8 v] ++ #[.pointer (some ⟨b12 + 1, 0, none⟩), .pointer (some ⟨b12, 0, none⟩)]) W fun e W' => e = .returned (VS.val8 (textB (minI (IntKind.u8.wrap (v + add)) most))) ∧ Below W.heap.size W W') := Lib.hid (fun v W hb =>
        turn3_walk v add most (b12 + 1) b12 b0 (b0 + 1) W (box_cell ((hb.block (b12 + 1) (Array.getElem?_eq_some_iff.1 K13.out).1).trans K13.out)) (box_cell ((hb.block b12 (Array.getElem?_eq_some_iff.1 K12.out).1).trans K12.out))
          (box_cell ((hb.block b0 (Array.getElem?_eq_some_iff.1 K0.out).1).trans K0.out)) (box_cell ((hb.block (b0 + 1) (Array.getElem?_eq_some_iff.1 K1.out).1).trans K1.out)))
      have M1 := Lib.hid (fun W (hb : Below w5.heap.size w5 W) => Map_walk W g (trieS S) HSm.out.trie HSm.out.pos.1 (HT5.out.below hb (Nat.le_refl _)) 19 #[.pointer (some ⟨b0, 0, none⟩)] (fun v => IntKind.u8.wrap (v + add)) (enters_of Try.func19 (by kernel_rfl) rfl)
        (fun v W' _ hb' => HOne.out v W' (hb.trans (hb'.mono hb.size))))
      have M2 := Lib.hid (fun W (hb : Below w5.heap.size w5 W) g' (T' : TrieD Int) hk' h0' ht' => VS.Map_walk W g' T' hk' h0' ht' 20 #[.pointer (some ⟨b0 + 1, 0, none⟩)] (fun v => textB (minI v most)) (enters_of Try.func20 (by kernel_rfl) rfl)
        (fun v W' _ hb' => HTwo.out v W' (hb.trans (hb'.mono hb.size))))
      have M3 := Lib.hid (fun W (hb : Below w5.heap.size w5 W) => VS.Map_walk W g (trieS S) HSm.out.trie HSm.out.pos.1 (HT5.out.below hb (Nat.le_refl _)) 24 #[.pointer (some ⟨b12 + 1, 0, none⟩), .pointer (some ⟨b12, 0, none⟩)] (fun v => textB (minI (IntKind.u8.wrap (v + add)) most)) (enters_of Try.func24 (by kernel_rfl) rfl)
        (fun v W' _ hb' => HThr.out v W' (hb.trans (hb'.mono hb.size))))
      have M4 := Lib.hid (fun W (hb : Below w5.heap.size w5 W) => Map_walk W g (trieS S) HSm.out.trie HSm.out.pos.1 (HT5.out.below hb (Nat.le_refl _)) 27 #[] (fun v => v) (enters_of Try.func27 (by kernel_rfl) rfl)
        (fun v W' _ hb' => same_walk v W'))
      have q12 := box_cell K12.out
      have q13 := box_cell K13.out
      go_upto_region 8 with (fail)
      go_region_law (first
        | (go_simp; go_at_call 23; refine (M1.out _ (Below.refl _ w5).drew).mono ?_; rintro e w6 ⟨g6, S6, rfl, hg6, hb6, hS6, hT6⟩; have HB6 : Hid (Below w5.heap.size w5 w6) := Lib.hid ((Below.refl _ w5).drew.trans hb6); have HS6 := Lib.hid hS6; have HT6 := Lib.hid hT6; have q13' := (hb6.cell (p := ⟨b12 + 1, 0, none⟩) (World.block_lt_of_cell? w5 _ q13)).trans q13; clear hg6 hb6 hS6 hT6)
        | (go_simp; go_at_call 22; refine (M2.out _ HB6.out _ _ HS6.out.trie HS6.out.pos.1 HT6.out).mono ?_; rintro e w7 ⟨g7, S7, rfl, hg7, hb7, hS7, hT7⟩; have HB7 : Hid (Below w5.heap.size w5 w7) := Lib.hid (HB6.out.trans (hb7.mono HB6.out.size)); have HS7 := Lib.hid hS7; have HT7 := Lib.hid hT7; clear hg7 hb7 hS7 hT7))
      all_goals
        clear q12 q13 M1 M2
        go_wp2_with fail
        refine (M3.out w7 HB7.out).mono ?_
        rintro e w8 ⟨g8, S8, rfl, hg8, hb8, hS8, hT8⟩
        have HB8 : Hid (Below w5.heap.size w5 w8) := Lib.hid (HB7.out.trans (hb8.mono HB7.out.size))
        have hT7' := HT7.out.below hb8 (Nat.le_refl _)
        have HSa := Lib.hid (VS.Same_walk w8 g7 g8 (VS.trieS S7) (VS.trieS S8) HS7.out.trie hS8.trie HS7.out.pos.1 hS8.pos.1 hT7' hT8)
        have HEq : Hid (∀ r, r ≤ 1114111 → lookT ByteArray.empty (VS.trieS S7) r = lookT ByteArray.empty (VS.trieS S8) r) := Lib.hid (fun r hr => by
          refine (HS7.out.look r hr).trans (Eq.trans ?_ (hS8.look r hr).symm)
          show textB (minI (lookT 0 (trieS S6) r) most) = textB (minI (IntKind.u8.wrap (lookT 0 (trieS S) r + add)) most)
          rw [HS6.out.look r hr])
        clear hg8 hb8 hS8 hT8 hT7' HT7 HS7 HB7 HS6 HT6 HB6
        go_wp2_with fail
        refine HSa.out.mono ?_
        rintro e w9 ⟨b, q, rfl, rfl, hbq⟩
        obtain rfl : b = true := hbq.2 HEq.out
        clear hbq HSa HEq
        have HB9 : Hid (Below w5.heap.size w5 (w8.drewN q)) := Lib.hid (below_drewN HB8.out q)
        generalize w8.drewN q = w9 at *
        go_wp2_with fail
        refine (M4.out w9 HB9.out).mono ?_
        rintro e w10 ⟨g10, S10, rfl, hg10, hb10, hS10, hT10⟩
        have HB10 : Hid (Below w5.heap.size w5 w10) := Lib.hid (HB9.out.trans (hb10.mono HB9.out.size))
        have HSb := Lib.hid (Same_walk w10 g10 g (trieS S10) (trieS S) hS10.trie HSm.out.trie hS10.pos.1 HSm.out.pos.1 hT10 (HT5.out.below HB10.out (Nat.le_refl _)))
        have HEq : Hid (∀ r, r ≤ 1114111 → lookT 0 (trieS S10) r = lookT 0 (trieS S) r) := Lib.hid (fun r hr => hS10.look r hr)
        clear hg10 hb10 hS10 hT10
        go_wp2_with fail
        refine HSb.out.mono ?_
        rintro e w11 ⟨b, q, rfl, rfl, hbq⟩
        obtain rfl : b = true := hbq.2 HEq.out
        clear hbq HSb HEq
        have HB11 : Hid (Below w.heap.size w (w10.drewN q)) := Lib.hid (HB5.out.trans ((below_drewN HB10.out q).mono HB5.out.size))
        generalize w10.drewN q = w11 at *
        go_wp2_with fail
        refine (awake_walk _).mono ?_
        rintro e w12 ⟨rfl, hb⟩
        have HB12 := Lib.hid (HB11.out.trans (hb.mono HB11.out.size)); clear hb
        go_wp2
        go_ret
        exact ⟨rfl, HB12.out⟩
end Go.Proofs.Ytabbabkmojaoaaa
