/-
  No trie, no function: walks; the walk of TrieNil.
-/
import Derived.Test.YtabbabkmojaoaaaTX
import Derived.Test.YtabbabkmojaoaaaRF1
import Derived.RangeFuncBound
import Derived.OwnWalkIn
import Derived.TacticsInMore
import Derived.LoopNIn
import Derived.LoopIn
import Derived.Deep.Cut
set_option linter.unusedVariables false
set_option linter.unusedSimpArgs false
namespace Go.Proofs.Ytabbabkmojaoaaa
open Go.RowKit
attribute [local go_sem] Oper.semAt_some

def encS (s : SpanD) : Array Value := #[.agg #[.int .i32 s.f, .int .i32 s.t, .int .u8 s.v]]
def encR (r : Int) : Array Value := #[.int .i32 r]
theorem Spans8_fun (q : Option Addr) (w : World) : Calls Try.prog 46 #[.pointer q] w fun e w' => e = .returned (.func (.func 88) #[] #[.pointer (some ⟨w.heap.size, 0, none⟩)]) ∧
    w'.cell? ⟨w.heap.size, 0, none⟩ = some (.pointer q) ∧ w'.heap.size = w.heap.size + 1 ∧ Below w.heap.size w w' := by
  go_enter Try.func46, Try.ntmps46
  go_wp2
  go_ret
  have c0 := cell_of_row _ w.heap.size 0 _ _ (0, 0) (heap_alloc_new w (.cells #[.pointer q] 26))
  exact ⟨rfl, c0, by simp, (Below.refl _ w).alloc (Nat.le_refl _) _⟩
theorem Where8_fun (q : Option Addr) (v : Int) (w : World) : Calls Try.prog 16 #[.pointer q, .int .u8 v] w fun e w' => e = .returned (.func (.func 61) #[] #[.pointer (some ⟨w.heap.size, 0, none⟩), .pointer (some ⟨w.heap.size + 1, 0, none⟩)]) ∧
    w'.cell? ⟨w.heap.size, 0, none⟩ = some (.pointer q) ∧ w'.cell? ⟨w.heap.size + 1, 0, none⟩ = some (.int .u8 v) ∧ w'.heap.size = w.heap.size + 2 ∧ Below w.heap.size w w' := by
  have HA := Lib.hid (heap_alloc_new w (.cells #[.pointer q] 26))
  have HB := Lib.hid ((Below.refl _ w).alloc (Nat.le_refl _) (.cells #[.pointer q] 26))
  have HS := Lib.hid (World.size_alloc w (.cells #[.pointer q] 26))
  go_enter Try.func16, Try.ntmps16
  go_wp2
  go_ret
  generalize w.alloc (.cells #[.pointer q] 26) = w1 at *
  have c0 := cell_of_row _ w.heap.size 0 _ _ (0, 0) HA.out
  have hA := (Below.refl _ w1).alloc (Nat.le_refl _) (.cells #[.int .u8 v] 5)
  have c1 := cell_of_row _ w1.heap.size 0 _ _ (0, 0) (heap_alloc_new w1 (.cells #[.int .u8 v] 5))
  have hs := HS.out
  refine ⟨by simp [hs], (hA.cell (p := ⟨w.heap.size, 0, none⟩) (by show w.heap.size < _; omega)).trans c0, by rw [← hs]; exact c1, by simp; omega, HB.out.trans (hA.mono (by omega))⟩
theorem run_equalIn_nil_nil {P : Program} (w : World) (d : Nat) (t : TypeId) (ps rs : Array TypeId) (v : Bool) (h : P.underlying t = some (.func ps rs v)) :
    (Op.equalIn (d + 1) t .nilFunc .nilFunc).run P w = .ok true w := by
  simp [Op.equalIn, run_underlying h]
theorem run_eql_nil_nil {P : Program} (w : World) (t : TypeId) (ps rs : Array TypeId) (v : Bool) (h : P.underlying t = some (.func ps rs v)) :
    (binOp .eql t .nilFunc .nilFunc).run P w = .ok (.bool true) w := by
  simp only [binOp]
  simp [Op.equal, Op.maxDepth, run_equalIn_nil_nil w 9999 t ps rs v h]
theorem Parts8_nil (w : World) : Calls Try.prog 44 #[.pointer none] w fun e w' => e = .returned (.agg #[.slice none 0 0, .slice none 0 0, .slice none 0 0]) ∧ Below w.heap.size w w' := by
  go_enter Try.func44, Try.ntmps44
  go_wp2_with fail
  refine (there8_nil _).mono ?_
  rintro e w1 ⟨rfl, rfl⟩
  go_wp2
  have z0 : (w.alloc (.cells #[.slice none 0 0, .slice none 0 0, .slice none 0 0] 79)).cell? ⟨w.heap.size, 0, none⟩ = some (.slice none 0 0) := cell_of_row _ w.heap.size 0 _ _ (0, 0) (heap_alloc_new w (.cells #[.slice none 0 0, .slice none 0 0, .slice none 0 0] 79))
  have z1 : (w.alloc (.cells #[.slice none 0 0, .slice none 0 0, .slice none 0 0] 79)).cell? ⟨w.heap.size, 1, none⟩ = some (.slice none 0 0) := cell_of_row _ w.heap.size 1 _ _ (0, 0) (heap_alloc_new w (.cells #[.slice none 0 0, .slice none 0 0, .slice none 0 0] 79))
  have z2 : (w.alloc (.cells #[.slice none 0 0, .slice none 0 0, .slice none 0 0] 79)).cell? ⟨w.heap.size, 2, none⟩ = some (.slice none 0 0) := cell_of_row _ w.heap.size 2 _ _ (0, 0) (heap_alloc_new w (.cells #[.slice none 0 0, .slice none 0 0, .slice none 0 0] 79))
  have hA := (Below.refl _ w).alloc (Nat.le_refl _) (.cells #[.slice none 0 0, .slice none 0 0, .slice none 0 0] 79)
  generalize (w.alloc (.cells #[.slice none 0 0, .slice none 0 0, .slice none 0 0] 79)) = w1 at *
  have hA1 := (Below.refl _ w1).alloc (Nat.le_refl _) (.cells #[.slice none 0 0, .slice none 0 0, .slice none 0 0] 79)
  have y0 := (hA1.cell (p := ⟨w.heap.size, 0, none⟩) (World.block_lt_of_cell? w1 _ z0)).trans z0
  have y1 := (hA1.cell (p := ⟨w.heap.size, 1, none⟩) (World.block_lt_of_cell? w1 _ z1)).trans z1
  have y2 := (hA1.cell (p := ⟨w.heap.size, 2, none⟩) (World.block_lt_of_cell? w1 _ z2)).trans z2
  refine bodyPost_ret (v := .agg #[.slice none 0 0, .slice none 0 0, .slice none 0 0]) (by simp [results, Try.results44, go_sem, y0, y1, y2]) rfl ?_
  exact ⟨rfl, hA.trans (hA1.mono hA.size)⟩
theorem At8_nil (w : World) (r : Int) : Calls Try.prog 18 #[.pointer none, .int .i32 r] w fun e w' => e = .returned (.int .u8 0) ∧ Below w.heap.size w w' := by
  go_enter Try.func18, Try.ntmps18
  go_wp2_with fail
  refine (there8_nil _).mono ?_
  rintro e w1 ⟨rfl, rfl⟩
  go_wp2
  go_ret
  exact ⟨rfl, Below.refl _ _⟩
theorem Same8_nil1 (w : World) (q : Value) : Calls Try.prog 26 #[.pointer none, q] w fun e w' => e = .returned (.bool false) ∧ Below w.heap.size w w' := by
  go_enter Try.func26, Try.ntmps26
  go_wp2_with fail
  refine (there8_nil _).mono ?_
  rintro e w1 ⟨rfl, rfl⟩
  go_wp2
  go_ret
  exact ⟨rfl, Below.refl _ _⟩
theorem Same8_nil2 (w : World) (g : Nat) (T : TrieD Int) (hk : TrieOk T) (h0 : 0 < T.low.length) (h : TrieAt val8 114 64 w g T) : Calls Try.prog 26 #[.pointer (some ⟨g, 0, none⟩), .pointer none] w fun e w' => e = .returned (.bool false) ∧ Below w.heap.size w w' := by
  have HT := Lib.hid (there8_walk w g T hk h0 h)
  clear h hk
  go_enter Try.func26, Try.ntmps26
  go_wp2_with fail
  refine HT.out.mono ?_
  rintro e w1 ⟨rfl, rfl⟩
  go_wp2_with fail
  refine (there8_nil _).mono ?_
  rintro e w1 ⟨rfl, rfl⟩
  go_wp2
  go_ret
  exact ⟨rfl, Below.refl _ _⟩
set_option maxRecDepth 100000 in
theorem MapS_nil (w : World) (q : Value) : Calls Try.prog 22 #[.pointer none, q] w fun e w' => e = .returned (.pointer none) ∧ Below w.heap.size w w' := by
  go_enter Try.func22, Try.ntmps22
  go_wp2_with fail
  refine (there8_nil _).mono ?_
  rintro e w1 ⟨rfl, rfl⟩
  go_wp2
  go_ret
  exact ⟨rfl, Below.refl _ _⟩
set_option maxRecDepth 100000 in
theorem Map8_nilf (w : World) (g : Nat) (T : TrieD Int) (hk : TrieOk T) (h0 : 0 < T.low.length) (h : TrieAt val8 114 64 w g T) : Calls Try.prog 23 #[.pointer (some ⟨g, 0, none⟩), .nilFunc] w fun e w' => e = .returned (.pointer none) ∧ Below w.heap.size w w' := by
  have HT := Lib.hid (there8_walk w g T hk h0 h)
  clear h hk
  have qF := fun (w : World) => run_eql_nil_nil (P := Try.prog) w 39 _ _ _ Try.underlying39
  go_enter Try.func23, Try.ntmps23
  go_wp2_with fail
  refine HT.out.mono ?_
  rintro e w1 ⟨rfl, rfl⟩
  go_wp2
  go_ret
  exact ⟨rfl, Below.refl _ _⟩
set_option maxRecDepth 100000 in
theorem Fill8_nilf (w : World) : Calls Try.prog 36 #[.nilFunc] w fun e w' => e = .returned (.pointer none) ∧ Below w.heap.size w w' := by
  have qF := fun (w : World) => run_eql_nil_nil (P := Try.prog) w 37 _ _ _ Try.underlying37
  go_enter Try.func36, Try.ntmps36
  go_wp2
  go_ret
  exact ⟨rfl, Below.refl _ _⟩

theorem SpansNil_stops (b : Nat) (R : Nat → Prop) (w : World) (h1 : w.cell? ⟨b, 0, none⟩ = some (.pointer none)) :
    SeqX Try.prog 88 #[.pointer (some ⟨b, 0, none⟩)] encS R (fun xs => xs = []) (fun _ => False) 0 w := by
  intro l J Jx W hW hJ hJx hY h0
  refine callsIn_wide.2 ?_
  have HJ := Lib.hid (hJ _ (fun _ => False) _ W (W.alloc (.cells #[.func (.yield l) #[] #[]] 170)) h0 (Off.alloc _ _ _) (Wider.refl _ _ _)); clear hJ hJx hY h0
  have q1 : W.cell? ⟨b, 0, none⟩ = some (.pointer none) := by rw [hW.cell (p := ⟨b, 0, none⟩) (World.block_lt_of_cell? w _ h1)]; exact h1
  have q2 : (W.alloc (.cells #[.func (.yield l) #[] #[]] 170)).cell? ⟨b, 0, none⟩ = some (.pointer none) := (((Below.refl _ W).alloc (Nat.le_refl _) _).cell (p := ⟨b, 0, none⟩) (World.block_lt_of_cell? W _ q1)).trans q1
  clear h1 hW q1
  go_enter Try.func88, Try.ntmps88
  go_wp2_with fail
  refine (there8_nil _).mono ?_
  rintro e w1 ⟨rfl, rfl⟩
  go_wp2
  refine bodyPost_ret (results_none rfl _ _ _) rfl ?_
  exact ⟨⟨_, rfl⟩, .inl ⟨_, [], rfl, HJ.out⟩⟩
theorem WhereNil_stops (b : Nat) (lb : Value) (R : Nat → Prop) (w : World) (h1 : w.cell? ⟨b, 0, none⟩ = some (.pointer none)) :
    SeqX Try.prog 61 #[.pointer (some ⟨b, 0, none⟩), lb] encR R (fun xs => xs = []) (fun _ => False) 0 w := by
  intro l J Jx W hW hJ hJx hY h0
  refine callsIn_wide.2 ?_
  have HJ := Lib.hid (hJ _ (fun _ => False) _ W (W.alloc (.cells #[.func (.yield l) #[] #[]] 115)) h0 (Off.alloc _ _ _) (Wider.refl _ _ _)); clear hJ hJx hY h0
  have q1 : W.cell? ⟨b, 0, none⟩ = some (.pointer none) := by rw [hW.cell (p := ⟨b, 0, none⟩) (World.block_lt_of_cell? w _ h1)]; exact h1
  have q2 : (W.alloc (.cells #[.func (.yield l) #[] #[]] 115)).cell? ⟨b, 0, none⟩ = some (.pointer none) := (((Below.refl _ W).alloc (Nat.le_refl _) _).cell (p := ⟨b, 0, none⟩) (World.block_lt_of_cell? W _ q1)).trans q1
  clear h1 hW q1
  go_enter Try.func61, Try.ntmps61
  go_wp2_with fail
  refine (there8_nil _).mono ?_
  rintro e w1 ⟨rfl, rfl⟩
  go_wp2
  refine bodyPost_ret (results_none rfl _ _ _) rfl ?_
  exact ⟨⟨_, rfl⟩, .inl ⟨_, [], rfl, HJ.out⟩⟩

theorem leaves_marks {P : Program} {fn : Func} {tmps : Array Value} {Rr : Ending → World → Prop} {B : Nat} : ∀ (Ds : List Nat) (w : World), Ds.Nodup → (∀ D ∈ Ds, B ≤ D ∧ w.heap[D]? = some (.deferred (some []))) →
    (∀ w', Below B w w' → LeavesInM Fence.wide 3 P fn tmps Rr [] .returning w') → LeavesInM Fence.wide 3 P fn tmps Rr (Ds.map (fun D => { target := .collected D, args := #[] })) .returning w
  | [], w, _, _, h => h w (Below.refl _ _)
  | D :: Ds, w, hn, hD, h => by
    rw [List.nodup_cons] at hn
    refine leaves_mark (hD D (by simp)).2 (leaves_marks (B := B) Ds _ hn.2 (fun E hE => ?_) (fun w' hb => h w' ?_))
    · refine ⟨(hD E (by simp [hE])).1, ?_⟩
      rw [World.putObj_heap_other (show E ≠ D from fun e => hn.1 (e ▸ hE))]
      exact (hD E (by simp [hE])).2
    · have h1 := (hD D (by simp)).1
      have hp : Below B w (w.putObj D (.deferred none)) := ⟨rfl, rfl, rfl, by simp, fun k hk => World.putObj_heap_other (show k ≠ D by omega)⟩
      exact hp.trans hb

/-- all that lay below n lies as it lay -/
def BelI {α : Type} (w0 : World) (n : Nat) : (Nat → Prop) → List α → World → Prop := fun T _ W => Below n w0 W ∧ n ≤ W.heap.size ∧ ∀ k, T k → n ≤ k
theorem BelI.abide {α : Type} (w0 : World) (n : Nat) : Abide (BelI (α := α) w0 n) := fun T T' s W W' ⟨h1, h2, h3⟩ ho hw =>
  ⟨h1.trans (ho.below n h2 h3), Nat.le_trans h2 ho.size, fun k hk => by rcases hw k hk with h | h; exact h3 k h; omega⟩

set_option maxRecDepth 100000 in
set_option maxHeartbeats 1600000 in
theorem trieNil_walk (r v : Int) (hv : 0 ≤ v ∧ v ≤ 255) (w : World) :
    Calls Try.prog 8 #[.int .i32 r, .int .u8 v] w fun e w' => e = .returned (.bool true) ∧ Below w.heap.size w w' := by
  refine calls_of_wpM Try.func8 rfl ?_
  simp only [Try.ntmps8, List.size_toArray, List.length_cons, List.length_nil, Nat.reduceAdd, Nat.reduceSub, Array.replicate_succ, Array.replicate_zero, List.push_toArray, List.append_toArray, List.nil_append, List.cons_append]
  go_wp2_with fail
  refine (awake_walk _).mono ?_
  rintro e w1 ⟨rfl, hb⟩
  have HB1 := Lib.hid hb; clear hb
  go_wp2_with fail
  refine (Blocks8_nil _).mono ?_
  rintro e w2 ⟨rfl, rfl⟩
  go_wp2_with fail
  refine (Parts8_nil _).mono ?_
  rintro e w2 ⟨rfl, hb⟩
  have HB2 := Lib.hid (HB1.out.trans (hb.mono HB1.out.size)); clear hb HB1
  go_wp2_with fail
  obtain ⟨bp, hbp⟩ : ∃ bp, bp = w2.heap.size := ⟨_, rfl⟩
  have HW3 : Hid (Below w2.heap.size w2 ((w2.alloc (.cells #[.slice none 0 0, .slice none 0 0, .slice none 0 0] 79)).alloc (.cells #[.int .i64 0] 3)) ∧
      ((w2.alloc (.cells #[.slice none 0 0, .slice none 0 0, .slice none 0 0] 79)).alloc (.cells #[.int .i64 0] 3)).heap[bp]? = some (.cells #[.slice none 0 0, .slice none 0 0, .slice none 0 0] 79 (0, 0)) ∧
      ((w2.alloc (.cells #[.slice none 0 0, .slice none 0 0, .slice none 0 0] 79)).alloc (.cells #[.int .i64 0] 3)).heap[bp + 1]? = some (.cells #[.int .i64 0] 3 (0, 0))) := Lib.hid (by
    have h1 := (Below.refl _ w2).alloc (Nat.le_refl _) (.cells #[.slice none 0 0, .slice none 0 0, .slice none 0 0] 79)
    have h2 := heap_alloc_new w2 (.cells #[.slice none 0 0, .slice none 0 0, .slice none 0 0] 79)
    have h3 := World.size_alloc w2 (.cells #[.slice none 0 0, .slice none 0 0, .slice none 0 0] 79)
    rw [hbp]
    generalize (w2.alloc (.cells #[.slice none 0 0, .slice none 0 0, .slice none 0 0] 79)) = w3 at *
    have h4 := (Below.refl _ w3).alloc (Nat.le_refl _) (.cells #[.int .i64 0] 3)
    have h5 := heap_alloc_new w3 (.cells #[.int .i64 0] 3)
    refine ⟨h1.trans (h4.mono h1.size), (h4.block _ (by omega)).trans h2, by rw [← h3]; exact h5⟩)
  rw [← hbp]
  have hbw : w.heap.size ≤ bp := by rw [hbp]; exact HB2.out.size
  generalize ((w2.alloc (.cells #[.slice none 0 0, .slice none 0 0, .slice none 0 0] 79)).alloc (.cells #[.int .i64 0] 3)) = w3 at *
  have HB3 := Lib.hid (HB2.out.trans (HW3.out.1.mono HB2.out.size))
  clear hbp HB2
  refine (Spans8_fun none w3).mono ?_
  rintro e w4 ⟨rfl, -, -, hb4⟩
  have HB4 := Lib.hid hb4; clear hb4
  have qF := fun (w : World) (cs : Array Value) => run_eql_func_nil (P := Try.prog) w 83 (.func 88) #[] cs _ _ _ Try.underlying83
  go_wp2_with fail
  clear qF
  refine (Spans8_fun none w4).mono ?_
  rintro e w5 ⟨rfl, c5, -, hb5⟩
  have HB5 := Lib.hid (HB4.out.trans (hb5.mono HB4.out.size)); clear hb5 HB4
  have hN5 : w3.heap.size ≤ w5.heap.size := HB5.out.size
  have hp2 : bp + 1 < w3.heap.size := (Array.getElem?_eq_some_iff.1 HW3.out.2.2).1
  go_wp2
  refine wp_rangeX (gf := 88) (lb := #[.pointer (some ⟨w4.heap.size, 0, none⟩)]) rfl (enters_of Try.func88 (by kernel_rfl) rfl) (SpansNil_stops w4.heap.size (fun _ => False) w5 c5) (Below.refl _ _) (fun k hk => hk.elim) (fun _ => rfl)
    (BelI w3 w3.heap.size) (fun _ _ _ _ => False) (BelI.abide _ _) (fun _ _ _ _ _ _ h => h.elim) ⟨HB5.out, hN5, fun _ h => h.elim⟩
    (fun _ _ _ _ _ => True) (fun T x a' W W' h ho => trivial) ?assign ?body ?done ?stop
  case stop =>
    rintro D c T pre W - - h
    exact h.elim
  case body =>
    rintro l T pre x a' W hTl hl - hst hA hlen hsp
    exact hsp.elim
  case assign =>
    rintro l T pre x W K hi hK
    have HK := Lib.hid hK; clear hK
    simp only [encS]
    gi_wp2
    exact HK.out _ _ (Kept.refl _ _ _) hi trivial
  case done =>
    rintro D T xs w6 hD hTD rfl ⟨hb6, hs6, -⟩ hDk
    have HB6 := Lib.hid hb6
    have HDk := Lib.hid hDk
    have hDw : w3.heap.size ≤ D := Nat.le_trans hN5 hD
    clear hb6 hDk hs6
    go_wp2_with fail
    refine (Where8_fun none v w6).mono ?_
    rintro e w7 ⟨rfl, -, -, -, hb7⟩
    have HB7 := Lib.hid (HB6.out.trans (hb7.mono HB6.out.size))
    have hDl6 := (Array.getElem?_eq_some_iff.1 HDk.out).1
    have HD7 := Lib.hid ((hb7.block D hDl6).trans HDk.out)
    clear hb7 HB6 HDk hDl6
    have qF := fun (w : World) (cs : Array Value) => run_eql_func_nil (P := Try.prog) w 34 (.func 61) #[] cs _ _ _ Try.underlying34
    go_wp2_with fail
    clear qF
    refine (Where8_fun none v w7).mono ?_
    rintro e w8 ⟨rfl, c8, -, -, hb8⟩
    have HB8 := Lib.hid (HB7.out.trans (hb8.mono HB7.out.size))
    have hDl7 := (Array.getElem?_eq_some_iff.1 HD7.out).1
    have HD8 := Lib.hid ((hb8.block D hDl7).trans HD7.out)
    clear hb8 HB7 HD7 hDl7
    have hDl8 := (Array.getElem?_eq_some_iff.1 HD8.out).1
    go_wp2
    refine wp_rangeX (gf := 61) (lb := #[.pointer (some ⟨w7.heap.size, 0, none⟩), .pointer (some ⟨w7.heap.size + 1, 0, none⟩)]) rfl (enters_of Try.func61 (by kernel_rfl) rfl) (WhereNil_stops w7.heap.size _ (fun _ => False) w8 c8) (Below.refl _ _) (fun k hk => hk.elim) (fun _ => rfl)
      (BelI w8 w8.heap.size) (fun _ _ _ _ => False) (BelI.abide _ _) (fun _ _ _ _ _ _ h => h.elim) ⟨Below.refl _ _, Nat.le_refl _, fun _ h => h.elim⟩
      (fun _ _ _ _ _ => True) (fun T x a' W W' h ho => trivial) ?assign2 ?body2 ?done2 ?stop2
    case stop2 =>
      rintro D c T pre W - - h
      exact h.elim
    case body2 =>
      rintro l T pre x a' W hTl hl - hst hA hlen hsp
      exact hsp.elim
    case assign2 =>
      rintro l T pre x W K hi hK
      have HK := Lib.hid hK; clear hK
      simp only [encR]
      gi_wp2
      exact HK.out _ _ (Kept.refl _ _ _) hi trivial
    case done2 =>
      rintro D2 T xs w9 hD2 hTD2 rfl ⟨hb9, hs9, -⟩ hDk2
      have HB9 := Lib.hid (HB8.out.trans (hb9.mono HB8.out.size))
      have HD9 := Lib.hid ((hb9.block D hDl8).trans HD8.out)
      have HDk2 := Lib.hid hDk2
      have hDD : D < D2 := by omega
      clear hb9 hDk2 hs9
      go_wp2_with fail
      refine (Build8_any v none 0 0 [] w9 rfl (by omega) (fun i hi => absurd hi (by simp)) (fun s hs => by simp at hs)).mono ?_
      rintro e w10 ⟨tv3, at3, er3, rfl, hb10, hi10⟩
      have hk3 : er3 = 0 ∧ ∃ g S, tv3 = .pointer (some ⟨g, 0, none⟩) ∧ Made8 (fS v []) S ∧ TrieAt val8 114 64 w10 g (trieS S) := by
        rcases hi10 with ⟨-, h⟩ | ⟨h, -, h'⟩
        · exact absurd okS_nil h
        · exact ⟨h, h'⟩
      obtain ⟨rfl, g3, S3, rfl, hS3, hT3⟩ := hk3
      have HT10 := Lib.hid hT3
      have HS3 := Lib.hid hS3
      have HB10 := Lib.hid (HB9.out.trans (hb10.mono HB9.out.size))
      have HDs10 := Lib.hid (And.intro ((hb10.block D (Array.getElem?_eq_some_iff.1 HD9.out).1).trans HD9.out) ((hb10.block D2 (Array.getElem?_eq_some_iff.1 HDk2.out).1).trans HDk2.out))
      clear hi10 hT3 hS3 hb10 HB9 HD9 HDk2
      go_wp2_with fail
      refine (Same8_nil1 w10 _).mono ?_
      rintro e w11 ⟨rfl, hb11⟩
      have HB11 := Lib.hid hb11
      have HT11 := Lib.hid (HT10.out.below hb11 (Nat.le_refl _)); clear hb11
      go_wp2_with fail
      refine (Same8_nil2 w11 g3 (trieS S3) HS3.out.trie HS3.out.pos.1 HT11.out).mono ?_
      rintro e w12 ⟨rfl, hb12⟩
      have HB12 := Lib.hid (HB11.out.trans (hb12.mono HB11.out.size))
      have HT12 := Lib.hid (HT11.out.below hb12 (Nat.le_refl _)); clear hb12 HB11
      go_wp2_with fail
      refine (Same8_nil1 w12 _).mono ?_
      rintro e w13 ⟨rfl, hb13⟩
      have HB13 := Lib.hid (HB12.out.trans (hb13.mono HB12.out.size))
      have HT13 := Lib.hid (HT12.out.below hb13 (Nat.le_refl _)); clear hb13 HB12
      go_wp2_with fail
      refine (MapS_nil w13 _).mono ?_
      rintro e w14 ⟨rfl, hb14⟩
      have HB14 := Lib.hid (HB13.out.trans (hb14.mono HB13.out.size))
      have HT14 := Lib.hid (HT13.out.below hb14 (Nat.le_refl _)); clear hb14 HB13
      go_wp2_with fail
      refine (Map8_nilf w14 g3 (trieS S3) HS3.out.trie HS3.out.pos.1 HT14.out).mono ?_
      rintro e w15 ⟨rfl, hb15⟩
      have HB15 := Lib.hid (HB14.out.trans (hb15.mono HB14.out.size)); clear hb15 HB14
      go_wp2_with fail
      refine (Fill8_nilf w15).mono ?_
      rintro e w16 ⟨rfl, hb16⟩
      have HB16 := Lib.hid (HB15.out.trans (hb16.mono HB15.out.size)); clear hb16 HB15
      go_wp2_with fail
      refine (At8_nil w16 r).mono ?_
      rintro e w17 ⟨rfl, hb17⟩
      have HB17 := Lib.hid (HB16.out.trans (hb17.mono HB16.out.size)); clear hb17 HB16
      have HE17 := Lib.hid (HB10.out.trans (HB17.out.mono HB10.out.size))
      have hp1 : bp < w3.heap.size := by omega
      have q8 : w17.heap[bp]? = _ := (HE17.out.block bp hp1).trans HW3.out.2.1
      have q9 : w17.heap[bp + 1]? = _ := (HE17.out.block (bp + 1) hp2).trans HW3.out.2.2
      have r0 := cell_of_row w17 bp 0 _ _ (0, 0) q8
      have r1 := cell_of_row w17 bp 1 _ _ (0, 0) q8
      have r2 := cell_of_row w17 bp 2 _ _ (0, 0) q8
      have r3 := cell_of_row w17 (bp + 1) 0 _ _ (0, 0) q9
      simp at r0 r1 r2 r3
      go_wp2_with fail
      refine (awake_walk _).mono ?_
      rintro e w18 ⟨rfl, hb18⟩
      have HB18 := Lib.hid (HB17.out.trans (hb18.mono HB17.out.size))
      have HE18 := Lib.hid (HE17.out.trans (hb18.mono HE17.out.size))
      clear hb18 HE17 HB17
      have HDs18 := Lib.hid (And.intro ((HB18.out.block D (Array.getElem?_eq_some_iff.1 HDs10.out.1).1).trans HDs10.out.1) ((HB18.out.block D2 (Array.getElem?_eq_some_iff.1 HDs10.out.2).1).trans HDs10.out.2))
      go_wp2
      refine leaves_marks (B := w3.heap.size) [D2, D] w18 (by rw [List.nodup_cons]; exact ⟨fun h => by have := List.mem_singleton.1 h; omega, List.nodup_cons.2 ⟨List.not_mem_nil, List.nodup_nil⟩⟩) (fun X hX => by
        rcases List.mem_cons.1 hX with rfl | hX
        · exact ⟨Nat.le_trans hDw (by omega), HDs18.out.2⟩
        · rw [List.mem_singleton.1 hX]; exact ⟨hDw, HDs18.out.1⟩) (fun w' hb' => ?_)
      refine leaves_nil (results_tmp rfl _ _ _) ?_
      exact ⟨rfl, HB3.out.trans ((HE18.out.trans (hb'.mono (Nat.le_refl _))).mono HB3.out.size)⟩
end Go.Proofs.Ytabbabkmojaoaaa
