/- several texts in one: TZS SPS TRS -/
import Derived.Test.YtabbabkmojaoaaaME
import Derived.RangeFuncBound
import Derived.OwnWalkIn
import Derived.TacticsInMore
import Derived.LoopNIn
import Derived.LoopIn
import Derived.Deep.Cut
import Derived.Test.YtabbabkmojaoaaaSP0
import Derived.Test.YtabbabkmojaoaaaTN
import Derived.Test.YtabbabkmojaoaaaTR
import Derived.Deep.RegionHeld3
import Derived.Deep.RegionLaw
set_option linter.unusedVariables false
set_option linter.unusedSimpArgs false
/-
  The walk through all low blocks of a trie, with any closure that is called for each (string).
-/
namespace Go.Proofs.Ytabbabkmojaoaaa.VS
open Go.RowKit
attribute [local go_sem] Oper.semAt_some

set_option maxRecDepth 100000 in
set_option maxHeartbeats 1600000 in
theorem blocks8_walk (w0 : World) (g : Nat) (T : TrieD El) (hk : TrieOk T) (h0 : 0 < T.low.length) (ht : TrieAt val8 138 64 w0 g T) (cf : Nat) (lb : Array Value) (J : Nat → World → Prop) (Jx : World → Prop) (w : World) (eg : ∀ args W, (callFunc cf args).run Try.prog W = .ok (.enter cf args) W)
    (hJ : ∀ k W, J k W → Lies w0 W)
    (hcall : ∀ k W (b o : Nat), k < 17408 → J k W → w0.rangeAt b o (blkC val8 (lowAt T k)) →
      Calls Try.prog cf (#[.pointer (some ⟨b, o, none⟩)] ++ lb) W fun e W' => (e = .returned (.bool true) ∧ J (k + 1) W') ∨ (e = .returned (.bool false) ∧ Jx W'))
    (h1 : J 0 w) :
    Calls Try.prog 118 #[.pointer (some ⟨g, 0, none⟩), .func (.func cf) #[] lb] w fun e w' => (∃ v, e = .returned v) ∧ (J 17408 w' ∨ Jx w') := by
  have HJ := Lib.hid hJ; clear hJ
  have HCl := Lib.hid hcall; clear hcall
  have H1 := Lib.hid h1; clear h1
  have HEg := Lib.hid eg; clear eg
  have HK := Lib.hid hk; clear hk
  obtain ⟨am, cm, al, cl, hh1, hh2, hh3⟩ := ht
  have HG1 := Lib.hid hh1; have HG2 := Lib.hid hh2; have HG3 := Lib.hid hh3
  clear hh1 hh2 hh3
  have hh1 := (HJ.out 0 w H1.out).block HG1.out
  have HR0 : Hid (w.rangeAt g 0 (blkC num16 T.top)) := Lib.hid (by
    intro j v hv
    have hjl : j < T.top.length := by
      have := (List.getElem?_eq_some_iff.1 hv).1
      rw [blkC_length (sz := 1) (fun _ => rfl)] at this
      omega
    rw [Nat.zero_add, TrieAt.cell_top (val := val8) HK.out hh1 j (by rw [← HK.out.top]; exact hjl), getD_at (d := 0) hjl, ← hv, blkC_get num16_cells _ j hjl])
  have hts : (blkC num16 T.top).length = 272 := by rw [blkC_length (sz := 1) (fun _ => rfl), HK.out.top]
  clear hh1
  go_enter Try.func118, Try.ntmps118
  go_upto_region 0 with (fail)
  refine wp_region_list ?_
  refine wpList_val (v := .pointer (some ⟨g, 0, none⟩)) (w' := w) rfl (by rfl) ?_
  refine wpList_val (v := .pointer (some ⟨g, 0, none⟩)) (w' := w) rfl (by rfl) ?_
  refine wpList_val (v := .pointer (some ⟨g, 0, none⟩)) (w' := w) rfl (by go_simp) ?_
  refine wpList_load_mid rfl 110 (.tmp 10) rfl g 0 rfl (blkC num16 T.top) (.array 272 91) HR0.out Try.underlying110 rfl (by rw [hts]; kernel_rfl) ?_
  have HTop : Hid (∀ c, c < 272 → (blkC num16 T.top).toArray[c]? = some (num16 (T.top.getD c 0))) := Lib.hid (fun c hc => by
    have hcl : c < T.top.length := by rw [HK.out.top]; exact hc
    rw [List.getElem?_toArray, blkC_get num16_cells _ c hcl, getD_at (d := 0) hcl])
  generalize (blkC num16 T.top).toArray = top at *
  clear hts HR0
  go_wp2
  go_loopw [12] (BlO J) (fun i _ => 272 - (intOf i).toNat)
  case atStart => exact ⟨0, Nat.zero_le _, rfl, H1.out⟩
  case round =>
    obtain ⟨c, hc, rfl, hj⟩ := hrel
    have HJc := Lib.hid hj; clear hj
    by_cases hcn : c < 272
    · have hci : (c : Int) < 272 := by omega
      have a1 := run_index_top top c _ hcn (HTop.out c hcn) wr
      have htl : c < T.top.length := by rw [HK.out.top]; exact hcn
      have hil : T.top.getD c 0 < T.mid.length := by rw [getD_at (d := 0) htl]; exact HK.out.topN _ (List.getElem_mem htl)
      obtain ⟨i, hi⟩ : ∃ i, i = T.top.getD c 0 := ⟨_, rfl⟩
      rw [← hi] at a1 hil
      have HI := Lib.hid hi; clear hi
      have hly := HJ.out _ _ HJc.out
      have c1 := TrieAt.cell_mid (val := val8) HK.out (hly.block HG1.out)
      obtain ⟨bm, om, rfl⟩ := HG2.out.some (by omega)
      have HR := Lib.hid (hly.range (HG2.out.get i hil))
      clear hly
      have hml : (T.mid[i]).length = 64 := HK.out.mid _ (List.getElem_mem hil)
      have hms : (blkC num16 T.mid[i]).length = 64 := by rw [blkC_length (sz := 1) (fun _ => rfl), hml]
      have hnm : T.mid.length ≤ 272 := HK.out.midL
      have HMid : Hid (∀ j, j < 64 → (blkC num16 T.mid[i]).toArray[j]? = some (num16 ((T.mid.getD i []).getD j 0))) := Lib.hid (fun j hj => by
        rw [List.getElem?_toArray, blkC_get num16_cells _ j (by omega), getD_at (d := []) hil, getD_at (d := 0) (by omega)])
      unfold num16 at a1
      have g1 : (0 : Int) ≤ (i : Int) := by omega
      have g2 : (i : Int) < ((T.mid.length : Nat) : Int) := by omega
      generalize hnn : T.mid.length = nm at c1 g2 hnm
      clear hnn
      go_upto_region 3 with (fail)
      refine wp_region_list ?_
      refine wpList_val (v := .pointer (some ⟨g, 0, none⟩)) (w' := wr) rfl (by rfl) ?_
      refine wpList_val (v := .pointer (some ⟨g, 0, none⟩)) (w' := wr) rfl (by rfl) ?_
      refine wpList_val (v := .pointer (some ⟨g, 272, none⟩)) (w' := wr) rfl (by go_simp) ?_
      refine wpList_val (v := .slice (some ⟨bm, om, none⟩) nm cm) (w' := wr) rfl (by go_simp) ?_
      refine wpList_val (v := .int .u16 (i : Nat)) (w' := wr) rfl (by rfl) ?_
      refine wpList_val (v := .pointer (some ⟨bm, om + i * 64, none⟩)) (w' := wr) rfl (by go_simp) ?_
      refine wpList_load_mid rfl 120 (.tmp 20) rfl bm (om + i * 64) rfl (blkC num16 T.mid[i]) (.array 64 91) HR.out Try.underlying120 rfl (by rw [hms]; kernel_rfl) ?_
      generalize (blkC num16 T.mid[i]).toArray = mid at *
      clear hms HR c1 g1 g2 hnm a1
      go_wp2
      go_loopw [22] (BlI J c) (fun i _ => 64 - (intOf i).toNat)
      case atStart => exact ⟨0, Nat.zero_le _, rfl, HJc.out⟩
      case round =>
        obtain ⟨j, hj, rfl, hjj⟩ := hrel
        have HJj := Lib.hid hjj; clear hjj
        by_cases hjn : j < 64
        · have hji : (j : Int) < 64 := by omega
          have b1 := run_index_mid mid j _ hjn (HMid.out j hjn) wr
          have hly := HJ.out _ _ HJj.out
          have c2 := TrieAt.cell_low (val := val8) HK.out (hly.block HG1.out)
          clear hly
          have hkk : 64 * c + j < 17408 := by omega
          have hLow : lowAt T (64 * c + j) = T.low.getD ((T.mid.getD i []).getD j 0) [] := by
            unfold lowAt
            rw [show (64 * c + j) / 64 = c by omega, show (64 * c + j) % 64 = j by omega, ← HI.out]
          have hmj : j < (T.mid[i]).length := by rw [hml]; exact hjn
          have hll : (T.mid.getD i []).getD j 0 < T.low.length := by
            rw [getD_at (d := []) hil, getD_at (d := 0) hmj]
            exact HK.out.midN _ (List.getElem_mem hil) _ (List.getElem_mem hmj)
          obtain ⟨q, hq⟩ : ∃ q, q = (T.mid.getD i []).getD j 0 := ⟨_, rfl⟩
          rw [← hq] at b1 hLow hll
          obtain ⟨bl, ol, rfl⟩ := HG3.out.some (by omega)
          have HRl : Hid (w0.rangeAt bl (ol + q * 64) (blkC val8 (lowAt T (64 * c + j)))) := Lib.hid (by
            rw [hLow, getD_at (d := []) hll]
            exact HG3.out.get q hll)
          have hnl : T.low.length ≤ 17408 := HK.out.lowL
          clear hq hLow
          unfold num16 at b1
          have g3 : (0 : Int) ≤ (q : Int) := by omega
          have g4 : (q : Int) < ((T.low.length : Nat) : Int) := by omega
          generalize hnn : T.low.length = nl at c2 g4 hnl
          clear hnn hll hmj hil hml
          have heg := HEg.out
          go_wp2_with fail
          refine (HCl.out (64 * c + j) wr bl (ol + q * 64) hkk HJj.out HRl.out).mono ?_
          rintro e w5 (⟨rfl, h5⟩ | ⟨rfl, h5⟩)
          · have H5 := Lib.hid h5; clear h5 heg
            go_wp2
            go_roundw
            case rel => exact ⟨j + 1, by omega, by go_num, by rw [← Nat.add_assoc]; exact H5.out⟩
            case measure => simp [intOf]; omega
          · have H5 := Lib.hid h5; clear h5 heg
            go_wp2
            refine bodyPost_ret (results_none rfl _ _ _) rfl ?_
            exact ⟨⟨_, rfl⟩, .inr H5.out⟩
        · obtain rfl : j = 64 := by omega
          have HJ6 : Hid (J (64 * (c + 1)) wr) := Lib.hid HJj.out
          go_wp2
          go_roundw
          case rel => exact ⟨c + 1, by omega, by go_num, HJ6.out⟩
          case measure => simp [intOf]; omega
    · obtain rfl : c = 272 := by omega
      have hJ2 : J 17408 wr := HJc.out
      have HJ2 := Lib.hid hJ2; clear hJ2
      go_wp2
      go_end0
      exact ⟨⟨_, rfl⟩, .inl HJ2.out⟩
end Go.Proofs.Ytabbabkmojaoaaa.VS

/-
  The contract of the iterator over the stretches (Spans, string).
-/
namespace Go.Proofs.Ytabbabkmojaoaaa.VS
open Go.RowKit
attribute [local go_sem] Oper.semAt_some

def neV : El → El → Bool := fun a b => !ByteArray.toList (a) == ByteArray.toList (b)
/-- a stretch that is told -/
def encQ (s : Stretch El) : Array Value := #[.agg #[.int .i32 (s.f : Nat), .int .i32 (s.t : Nat), val8 s.v]]
/-- the three cells of 'now' behind n numbers -/
def nowC (ne : El → El → Bool) (f : Nat → El) (n : Nat) : List Value := if n = 0 then [.int .i32 0, .int .i32 (-1), val8 (f 0)] else [.int .i32 ((spT ne f n).2 : Nat), .int .i32 ((n - 1 : Nat) : Int), val8 (f (spT ne f n).2)]
structure SpSt (J : (Nat → Prop) → List (Stretch El) → World → Prop) (w0 : World) (ne : El → El → Bool) (f : Nat → El) (l bt bn bm n : Nat) (wr : World) : Prop where
  j : J (fun k => k = bt ∨ k = bn ∨ k = bm) (spT ne f n).1 wr
  lies : Lies w0 wr
  ct : wr.heap[bt]? = some (.cells #[.func (.yield l) #[] #[]] 219 (0, 0))
  cn : wr.heap[bn]? = some (.cells (nowC ne f n).toArray 163 (0, 0))
  cm : wr.heap[bm]? = some (.cells #[.bool true] 4 (0, 0))
def SpR (J : (Nat → Prop) → List (Stretch El) → World → Prop) (w0 : World) (ne : El → El → Bool) (f : Nat → El) (l bt bn bm k : Nat) (i : Value) (wr : World) : Prop :=
  ∃ j : Nat, j ≤ 64 ∧ i = .int .i64 (j : Nat) ∧ SpSt J w0 ne f l bt bn bm (64 * k + j) wr
/-- what the range's side gives -/
def SpY (J Jx : (Nat → Prop) → List (Stretch El) → World → Prop) (R : Nat → Prop) (full : List (Stretch El)) (l : Nat) : Prop :=
  ∀ T pre x W1, J T pre W1 → pre.length < full.length → pre ++ [x] = full.take (pre.length + 1) → YieldAt Fence.wide 1 Try.prog l (encQ x) W1 fun e W' =>
      (e = .returned (.bool true) ∧ J T (pre ++ [x]) W' ∧ Kept T R W1 W') ∨ (e = .returned (.bool false) ∧ Jx T (pre ++ [x]) W' ∧ Kept T (fun _ => False) W1 W')
theorem SpSt.put {J : (Nat → Prop) → List (Stretch El) → World → Prop} {w0 : World} {ne : El → El → Bool} {f : Nat → El} {l bt bn bm n : Nat} {wr wr' : World} (h : SpSt J w0 ne f l bt bn bm n wr) (hJ : Abide J) (hg : wr.grownBy wr' (some bn)) (h1 : bt ≠ bn) (h2 : bm ≠ bn) (h0 : w0.heap.size ≤ bn) (m : Nat)
    (hm : (spT ne f m).1 = (spT ne f n).1) (hc : wr'.heap[bn]? = some (.cells (nowC ne f m).toArray 163 (0, 0))) : SpSt J w0 ne f l bt bn bm m wr' := by
  have oth : ∀ k, k < wr.heap.size → k ≠ bn → wr'.heap[k]? = wr.heap[k]? := fun k hk hne => hg.block k hk (fun e => hne (by simpa using e))
  have z1 := (Array.getElem?_eq_some_iff.1 h.ct).1
  have z2 := (Array.getElem?_eq_some_iff.1 h.cn).1
  have z3 := (Array.getElem?_eq_some_iff.1 h.cm).1
  exact ⟨hm ▸ hJ _ _ _ _ _ h.j (Off.of_grown hg (fun k e => by cases e; exact .inr (.inl rfl))) (Wider.refl _ _ _), fun k hk => (oth k (by omega) (by omega)).trans (h.lies k hk), (oth bt z1 h1).trans h.ct, hc, (oth bm z3 h2).trans h.cm⟩
theorem SpSt.kept {J : (Nat → Prop) → List (Stretch El) → World → Prop} {w0 : World} {ne : El → El → Bool} {f : Nat → El} {l bt bn bm n : Nat} {wr W : World} {R : Nat → Prop} (h : SpSt J w0 ne f l bt bn bm n wr) (hR0 : ∀ k, k < w0.heap.size → R k)
    (hk : Kept (fun k => k = bt ∨ k = bn ∨ k = bm) R wr W) (h0 : w0.heap.size ≤ wr.heap.size) :
    Lies w0 W ∧ W.heap[bt]? = some (.cells #[.func (.yield l) #[] #[]] 219 (0, 0)) ∧ W.heap[bn]? = some (.cells (nowC ne f n).toArray 163 (0, 0)) ∧ W.heap[bm]? = some (.cells #[.bool true] 4 (0, 0)) :=
  ⟨fun k hk' => (hk.block k (by omega) (.inr (hR0 k hk'))).trans (h.lies k hk'), hk.below h.ct (.inl (.inl rfl)), hk.below h.cn (.inl (.inr (.inl rfl))), hk.below h.cm (.inl (.inr (.inr rfl)))⟩

set_option maxRecDepth 100000 in
set_option maxHeartbeats 4000000 in
theorem spansC_walk (J Jx : (Nat → Prop) → List (Stretch El) → World → Prop) (R : Nat → Prop) (w0 : World) (f : Nat → El) (l bt bn bm k N : Nat) (hN : N = 1114112) (W : World) (b o : Nat) (bs : List El) (hkk : k < 17408) (hbl : bs.length = 64) (hbs : ∀ j, j < 64 → bs.getD j ByteArray.empty = f (64 * k + j))
    (hJ : Abide J) (hJx : Abide Jx) (hY : SpY J Jx R (spL neV f N) l) (hR0 : ∀ k, k < w0.heap.size → R k) (h1 : bt ≠ bn) (h2 : bm ≠ bn) (h3 : bt ≠ bm) (h0n : w0.heap.size ≤ bn) (h0m : w0.heap.size ≤ bm) (hb : w0.rangeAt b o (blkC val8 bs)) (hst : SpSt J w0 neV f l bt bn bm (64 * k) W) :
    Calls Try.prog 119 #[.pointer (some ⟨b, o, none⟩), .pointer (some ⟨bn, 0, none⟩), .pointer (some ⟨bt, 0, none⟩), .pointer (some ⟨bm, 0, none⟩)] W fun e W' =>
      (e = .returned (.bool true) ∧ SpSt J w0 neV f l bt bn bm (64 * (k + 1)) W') ∨ (e = .returned (.bool false) ∧ (∃ T q, 0 < q ∧ q ≤ (spL neV f N).length ∧ Jx T ((spL neV f N).take q) W') ∧ W'.heap[bm]? = some (.cells #[.bool false] 4 (0, 0)) ) := by
  have HN := Lib.hid hN; clear hN
  have HJ := Lib.hid hJ; clear hJ
  have HJx := Lib.hid hJx; clear hJx
  have HY := Lib.hid hY; clear hY
  have HR0 := Lib.hid hR0; clear hR0
  have HB := Lib.hid hb; clear hb
  have HBs := Lib.hid hbs; clear hbs
  have HS := Lib.hid hst; clear hst
  have HNe := Lib.hid (And.intro h1 (And.intro h2 h3)); clear h1 h2 h3
  go_enter Try.func119, Try.ntmps119
  go_wp2
  go_loopw [10] (SpR J w0 neV f l bt bn bm k) (fun i _ => 64 - (intOf i).toNat)
  case atStart => exact ⟨0, Nat.zero_le _, rfl, HS.out⟩
  case round =>
    obtain ⟨j, hj, rfl, hst⟩ := hrel
    have HST := Lib.hid hst; clear hst
    by_cases hjn : j < 64
    · have hji : (j : Int) < 64 := by omega
      have q0 : wr.cell? ⟨b, o + j, none⟩ = some (val8 (f (64 * k + j))) := by
        have hjl : j < bs.length := by omega
        rw [HST.out.lies.range HB.out j _ (blkC_get val8_cells bs j hjl), ← HBs.out j hjn, getD_at (d := ByteArray.empty) hjl]
      have HJn : Hid (j < 64) := Lib.hid hjn
      obtain ⟨n, hn⟩ : ∃ n, n = 64 * k + j := ⟨_, rfl⟩
      have hnN : n < 1114112 := by omega
      rw [← hn] at q0 HST
      have q2 : wr.cell? ⟨bt, 0, none⟩ = some (.func (.yield l) #[] #[]) := cell_of_row wr bt 0 _ _ (0, 0) HST.out.ct
      have q3 : wr.cell? ⟨bm, 0, none⟩ = some (.bool true) := cell_of_row wr bm 0 _ _ (0, 0) HST.out.cm
      have q4 := frozen_of_row wr bm 0 _ _ HST.out.cm
      have p0 := cell_of_row wr bn 0 _ _ (0, 0) HST.out.cn
      have p1 := cell_of_row wr bn 1 _ _ (0, 0) HST.out.cn
      have p2 := cell_of_row wr bn 2 _ _ (0, 0) HST.out.cn
      have f0 := frozen_of_row wr bn 0 _ _ HST.out.cn
      have f1 := frozen_of_row wr bn 1 _ _ HST.out.cn
      have f2 := frozen_of_row wr bn 2 _ _ HST.out.cn
      have hsz : w0.heap.size ≤ wr.heap.size := by have := (Array.getElem?_eq_some_iff.1 HST.out.cn).1; omega
      have HNn := Lib.hid hn; clear hn
      unfold val8 at q0
      by_cases hn0 : n = 0
      · have e : nowC neV f n = [.int .i32 0, .int .i32 (-1), val8 (f 0)] := by unfold nowC; rw [if_pos hn0]
        rw [e] at p0 p1 p2
        simp only [List.getElem?_toArray, List.getElem?_cons_zero, List.getElem?_cons_succ] at p0 p1 p2
        have HSt : Hid (SpSt J w0 neV f l bt bn bm 1 (wr.setCell ⟨bn, 1, none⟩ (.int .i32 0))) := Lib.hid (by
          refine HST.out.put HJ.out (grown_store wr bn 1 _) HNe.out.1 HNe.out.2.1 h0n 1 (by rw [hn0, spT_one]; rfl) ?_
          rw [heap_setCell_same wr bn 1 _ _ _ HST.out.cn, e]
          have e1 : nowC neV f 1 = [.int .i32 0, .int .i32 0, val8 (f 0)] := by unfold nowC; rw [if_neg (by omega), spT_one]; rfl
          rw [e1]
          rfl)
        rw [hn0] at q0
        have HE0 := Lib.hid hn0; clear hn0 e
        unfold val8 at p2
        generalize f 0 = x at *
        have hv : (!ByteArray.toList (x) == ByteArray.toList (x)) = false := by simp
        go_wp2
        go_roundw
        case rel =>
          have e : 64 * k + (j + 1) = 1 := by have := HNn.out; have := HE0.out; omega
          refine ⟨j + 1, by omega, by go_num, ?_⟩
          rw [e]
          exact HSt.out
        case measure => simp [intOf]; omega
      · obtain ⟨m, rfl⟩ : ∃ m, n = m + 1 := ⟨n - 1, by omega⟩
        have hlt := spT_lt neV f (m + 1) hn0
        have htold := fun h => spT_told (ne := neV) (f := f) (n := m + 1) (N := N) hn0 h (by rw [HN.out]; exact hnN)
        have hcut := fun h => spT_cut (ne := neV) (f := f) (n := m + 1) hn0 h
        have hon := fun h => spT_on (ne := neV) (f := f) (n := m + 1) hn0 h
        have e : nowC neV f (m + 1) = [.int .i32 ((spT neV f (m + 1)).2 : Nat), .int .i32 (m : Nat), val8 (f (spT neV f (m + 1)).2)] := by unfold nowC; rw [if_neg hn0]; rfl
        rw [e] at p0 p1 p2
        simp only [List.getElem?_toArray, List.getElem?_cons_zero, List.getElem?_cons_succ] at p0 p1 p2
        unfold val8 at p2
        obtain ⟨s, hs⟩ : ∃ s, s = (spT neV f (m + 1)).2 := ⟨_, rfl⟩
        rw [← hs] at p0 p2 hlt htold hcut hon e
        have E := Lib.hid e; clear e
        have HSs := Lib.hid hs; clear hs
        have hsm : (s : Int) ≤ (m : Int) := by omega
        have dsm : decide ((s : Int) ≤ (m : Int)) = true := decide_eq_true hsm
        have hms : ¬ (m : Int) < (s : Int) := by omega
        have dms : decide ((m : Int) < (s : Int)) = false := decide_eq_false hms
        have HTo := Lib.hid htold; clear htold
        have HCu := Lib.hid hcut; clear hcut
        have HOn := Lib.hid hon; clear hon
        by_cases hne : neV (f (m + 1)) (f s) = true
        · obtain ⟨t1, t2⟩ := HTo.out hne
          have hcu := HCu.out hne
          obtain ⟨fn, tmps, assign, body, hy, hR⟩ := HY.out _ (spT neV f (m + 1)).1 ⟨s, m, f s⟩ wr HST.out.j t1 t2
          have HT2 := Lib.hid (And.intro t1 t2); clear t1 t2
          have HCt := Lib.hid hcu; clear hcu
          dsimp only [encQ] at hy
          have HRr := Lib.hid hR; clear hR
          have hv : (!ByteArray.toList (f (m + 1)) == ByteArray.toList (f s)) = true := hne
          have HNe2 := Lib.hid hne; clear hne
          unfold val8 at hy
          have HXe : Hid (f (m + 1) = f (m + 1)) := Lib.hid rfl
          generalize hfs : f s = y at hy hv p2 HRr HT2 HCt
          generalize hfm : f (m + 1) = x at q0 hv
          have HFs := Lib.hid hfs; have HFm := Lib.hid hfm; clear hfs hfm
          go_upto_region 5 with (fail)
          refine (wpIn_wide (n := 2)).1 ?_
          gi_wp2
          refine HRr.out.mono ?_
          rintro e W3 (⟨rfl, hJ3, hk3⟩ | ⟨rfl, hx3, hk3⟩)
          · obtain ⟨l3, ct3, cn3, cm3⟩ := HST.out.kept HR0.out hk3 hsz
            rw [E.out] at cn3
            have HJ3 := Lib.hid hJ3
            have x0 : W3.cell? ⟨bm, 0, none⟩ = some (.bool true) := cell_of_row W3 bm 0 _ _ (0, 0) cm3
            have x1 := frozen_of_row W3 bm 0 _ _ cm3
            have hz3 : wr.heap.size ≤ W3.heap.size := hk3.size
            obtain ⟨W4, hW4⟩ : ∃ W4, W4 = W3.setCell ⟨bm, 0, none⟩ (.bool true) := ⟨_, rfl⟩
            have oth4 : ∀ k, k ≠ bm → W4.heap[k]? = W3.heap[k]? := fun k hk => by rw [hW4]; exact heap_setCell_other W3 ⟨bm, 0, none⟩ k _ hk
            have cm4 : W4.heap[bm]? = some (.cells #[.bool true] 4 (0, 0)) := by rw [hW4, heap_setCell_same W3 bm 0 _ _ _ cm3]; rfl
            have cn4 := (oth4 bn (fun h => HNe.out.2.1 h.symm)).trans cn3
            have HJ4 := Lib.hid (HJ.out _ _ _ _ _ hJ3 (show Off _ W3 W4 from by rw [hW4]; exact Off.of_grown (grown_store W3 bm 0 _) (fun k e => by cases e; exact .inr (.inr rfl))) (Wider.refl _ _ _))
            have y0 : W4.cell? ⟨bn, 0, none⟩ = some (.int .i32 (s : Nat)) := cell_of_row W4 bn 0 _ _ (0, 0) cn4
            have y1 : W4.cell? ⟨bn, 1, none⟩ = some (.int .i32 (m : Nat)) := cell_of_row W4 bn 1 _ _ (0, 0) cn4
            have y2 : W4.cell? ⟨bn, 2, none⟩ = some (val8 (f s)) := cell_of_row W4 bn 2 _ _ (0, 0) cn4
            have y3 := frozen_of_row W4 bn 0 _ _ cn4
            have y4 := frozen_of_row W4 bn 1 _ _ cn4
            have y5 := frozen_of_row W4 bn 2 _ _ cn4
            have y6 : W4.cell? ⟨bm, 0, none⟩ = some (.bool true) := cell_of_row W4 bm 0 _ _ (0, 0) cm4
            have HW4 := Lib.hid hW4
            have HX := Lib.hid (And.intro l3 (And.intro ct3 (And.intro cn4 cm4)))
            have HO4 := Lib.hid oth4
            clear hy q0 q2 q3 q4 p0 p1 p2 f0 f1 f2 hJ3 hk3 cn4 cm4 l3 ct3 cn3 cm3 hW4 oth4
            gi_wp2
            rw [← HW4.out]
            clear x0 x1
            go_upto_region 9 with (fail)
            obtain ⟨W5, hW5⟩ : ∃ W5, W5 = ((W4.setCell ⟨bn, 0, none⟩ (.int .i32 ((m : Int) + 1))).setCell ⟨bn, 1, none⟩ (.int .i32 0)).setCell ⟨bn, 2, none⟩ (val8 x) := ⟨_, rfl⟩
            obtain ⟨cn5, hg5⟩ := three_set HX.out.2.2.1 (.int .i32 ((m : Int) + 1)) (.int .i32 0) (val8 x)
            rw [← hW5] at cn5 hg5
            have cn6 := heap_setCell_same W5 bn 1 _ _ (.int .i32 ((m : Int) + 1)) cn5
            have hg6 := grown_trans hg5 (grown_store W5 bn 1 (.int .i32 ((m : Int) + 1)))
            have z0 : W5.cell? ⟨bn, 0, none⟩ = some (.int .i32 ((m : Int) + 1)) := cell_of_row W5 bn 0 _ _ (0, 0) cn5
            have z1 : W5.cell? ⟨bn, 1, none⟩ = some (.int .i32 0) := cell_of_row W5 bn 1 _ _ (0, 0) cn5
            have z4 := frozen_of_row W5 bn 1 _ _ cn5
            have HC6 := Lib.hid cn6; have HG6 := Lib.hid hg6
            unfold val8 at hW5
            rw [← hW5]
            clear y0 y1 y2 y3 y4 y5 y6 cn5 cn6 hg5 hg6 hW5
            have d1 : (0 : Int) < (m : Int) + 1 := by omega
            have d2 : decide ((0 : Int) < (m : Int) + 1) = true := decide_eq_true d1
            go_wp2
            go_roundw
            case rel =>
              have e : 64 * k + (j + 1) = m + 1 + 1 := by have := HNn.out; omega
              refine ⟨j + 1, by omega, by go_num, ?_⟩
              rw [e]
              have oth : ∀ k, k < W4.heap.size → k ≠ bn → (W5.setCell ⟨bn, 1, none⟩ (.int .i32 ((m : Int) + 1))).heap[k]? = W4.heap[k]? := fun k hk hne => HG6.out.block k hk (fun e => hne (by simpa using e))
              have hl4 : bm < W4.heap.size := (Array.getElem?_eq_some_iff.1 HX.out.2.2.2).1
              have hbt : W4.heap[bt]? = _ := (HO4.out bt HNe.out.2.2).trans HX.out.2.1
              refine ⟨?_, fun k hk => ?_, ?_, ?_, ?_⟩
              · rw [HCt.out]
                exact HJ.out _ _ _ _ _ HJ4.out (Off.of_grown HG6.out (fun k e => by cases e; exact .inr (.inl rfl))) (Wider.refl _ _ _)
              · rw [oth k (by omega) (by omega), HO4.out k (by omega)]
                exact HX.out.1 k hk
              · exact (oth bt (Array.getElem?_eq_some_iff.1 hbt).1 HNe.out.1).trans hbt
              · have e2 : nowC neV f (m + 1 + 1) = [.int .i32 ((m + 1 : Nat) : Int), .int .i32 ((m + 1 : Nat) : Int), val8 x] := by
                  unfold nowC
                  rw [if_neg (by omega), HCt.out, HFm.out]
                  rfl
                rw [e2]
                have := HC6.out
                simp only [List.setIfInBounds_toArray, List.set_cons_succ, List.set_cons_zero] at this
                exact this
              · exact (oth bm hl4 HNe.out.2.1).trans HX.out.2.2.2
            case measure => simp [intOf]; omega
          · have cm3 := hk3.below HST.out.cm (.inl (.inr (.inr rfl)))
            have x0 : W3.cell? ⟨bm, 0, none⟩ = some (.bool true) := cell_of_row W3 bm 0 _ _ (0, 0) cm3
            have x1 := frozen_of_row W3 bm 0 _ _ cm3
            have cm4 : (W3.setCell ⟨bm, 0, none⟩ (.bool false)).heap[bm]? = some (.cells #[.bool false] 4 (0, 0)) := by rw [heap_setCell_same W3 bm 0 _ _ _ cm3]; rfl
            have x2 : (W3.setCell ⟨bm, 0, none⟩ (.bool false)).cell? ⟨bm, 0, none⟩ = some (.bool false) := cell_of_row _ bm 0 _ _ (0, 0) cm4
            have HCm := Lib.hid cm4
            have HXf := Lib.hid (HJx.out _ _ _ _ _ hx3 (Off.of_grown (grown_store W3 bm 0 (.bool false)) (fun k e => by cases e; exact .inr (.inr rfl))) (Wider.refl _ _ _))
            clear hy q0 q2 q3 q4 p0 p1 p2 f0 f1 f2 hx3 hk3 cm3 cm4
            gi_wp2
            go_wp2
            go_ret
            refine .inr ⟨rfl, ⟨fun k => k = bt ∨ k = bn ∨ k = bm, _, Nat.succ_pos _, HT2.out.1, ?_⟩, HCm.out⟩
            rw [← HT2.out.2]
            exact HXf.out
        · have hv : (!ByteArray.toList (f (m + 1)) == ByteArray.toList (f s)) = false := eq_false_of_ne_true hne
          have hc := HOn.out hne
          have HSt : Hid (SpSt J w0 neV f l bt bn bm (m + 1 + 1) (wr.setCell ⟨bn, 1, none⟩ (.int .i32 ((m : Int) + 1)))) := Lib.hid (by
            refine HST.out.put HJ.out (grown_store wr bn 1 _) HNe.out.1 HNe.out.2.1 h0n (m + 1 + 1) (by rw [hc]) ?_
            rw [heap_setCell_same wr bn 1 _ _ _ HST.out.cn, E.out]
            have e1 : nowC neV f (m + 1 + 1) = [.int .i32 (s : Nat), .int .i32 ((m + 1 : Nat) : Int), val8 (f s)] := by unfold nowC; rw [if_neg (by omega), hc, ← HSs.out]; rfl
            rw [e1]
            rfl)
          clear hc hne
          generalize f s = y at hv p2
          generalize f (m + 1) = x at q0 hv
          go_wp2
          go_roundw
          case rel =>
            have e : 64 * k + (j + 1) = m + 1 + 1 := by have := HNn.out; omega
            refine ⟨j + 1, by omega, by go_num, ?_⟩
            rw [e]
            exact HSt.out
          case measure => simp [intOf]; omega
    · obtain rfl : j = 64 := by omega
      have HS6 : Hid (SpSt J w0 neV f l bt bn bm (64 * (k + 1)) wr) := Lib.hid HST.out
      go_wp2
      go_ret
      exact .inl ⟨rfl, HS6.out⟩

set_option maxRecDepth 100000 in
set_option maxHeartbeats 1600000 in
theorem spans_stops (w0 : World) (g : Nat) (T : TrieD El) (hk : TrieOk T) (h0 : 0 < T.low.length) (ht : TrieAt val8 138 64 w0 g T) (b : Nat) (R : Nat → Prop) (w : World) (hw : Lies w0 w) (hs : w0.heap.size ≤ w.heap.size) (hR0 : ∀ k, k < w0.heap.size → R k) (hR1 : R b)
    (c1 : w.cell? ⟨b, 0, none⟩ = some (.pointer (some ⟨g, 0, none⟩))) (N : Nat) (hN : N = 1114112) :
    SeqX Try.prog 117 #[.pointer (some ⟨b, 0, none⟩)] encQ R (fun xs => xs = spL neV (lookT ByteArray.empty T) N) (fun pre => ∃ q, 0 < q ∧ q ≤ (spL neV (lookT ByteArray.empty T) N).length ∧ pre = (spL neV (lookT ByteArray.empty T) N).take q) (spL neV (lookT ByteArray.empty T) N).length w := by
  intro l J Jx W hW hJ hJx hY h1
  refine callsIn_wide.2 ?_
  have HY : Hid (SpY J Jx R (spL neV (lookT ByteArray.empty T) N) l) := Lib.hid (fun T pre x W1 hj hlen htk => hY T pre x W1 hj hlen ⟨pre.length + 1, Nat.succ_pos _, hlen, htk⟩)
  have HJ := Lib.hid hJ
  have HJx := Lib.hid hJx
  have hWl : Lies w0 W := hw.of_below hs hW
  have hWs : w0.heap.size ≤ W.heap.size := Nat.le_trans hs hW.size
  have d1 := (hW.cell (p := ⟨b, 0, none⟩) (World.block_lt_of_cell? w _ c1)).trans c1
  have hbl : b < W.heap.size := World.block_lt_of_cell? W ⟨b, 0, none⟩ d1
  obtain ⟨bt, hbt⟩ : ∃ bt, bt = W.heap.size := ⟨_, rfl⟩
  have hB1 := (Below.refl _ W).alloc (Nat.le_refl _) (.cells #[.func (.yield l) #[] #[]] 219)
  have hA1 := heap_alloc_new W (.cells #[.func (.yield l) #[] #[]] 219)
  have hz1 := World.size_alloc W (.cells #[.func (.yield l) #[] #[]] 219)
  have HW1 : Hid (∃ w1, W.alloc (.cells #[.func (.yield l) #[] #[]] 219) = w1) := Lib.hid ⟨_, rfl⟩
  obtain ⟨w1, hw1⟩ := HW1.out
  clear HW1
  rw [hw1] at hB1 hA1 hz1
  have e1 : w1.cell? ⟨b, 0, none⟩ = some (.pointer (some ⟨g, 0, none⟩)) := (hB1.cell (p := ⟨b, 0, none⟩) (by show b < _; omega)).trans d1
  have HT1 := Lib.hid (there8_walk w1 g T hk h0 ((hWl.of_below hWs hB1).trie ht))
  have HAt := Lib.hid (At8_walk w1 g T hk h0 ((hWl.of_below hWs hB1).trie ht) 0 (by omega) (by omega))
  rw [show runeR 0 = 0 from rfl] at HAt
  obtain ⟨y0, hy0⟩ : ∃ y0, y0 = lookT ByteArray.empty T 0 := ⟨_, rfl⟩
  rw [← hy0] at HAt
  have HY0 := Lib.hid hy0; clear hy0
  have HBl := Lib.hid (fun (w2 : World) => blocks8_walk w0 g T hk h0 ht 119 #[.pointer (some ⟨bt + 1, 0, none⟩), .pointer (some ⟨bt, 0, none⟩), .pointer (some ⟨bt + 1 + 1, 0, none⟩)]
    (fun k W => SpSt J w0 neV (lookT ByteArray.empty T) l bt (bt + 1) (bt + 1 + 1) (64 * k) W) (fun W' => (∃ T' q, 0 < q ∧ q ≤ (spL neV (lookT ByteArray.empty T) N).length ∧ Jx T' ((spL neV (lookT ByteArray.empty T) N).take q) W') ∧ W'.heap[bt + 1 + 1]? = some (.cells #[.bool false] 4 (0, 0))) w2 (enters_of Try.func119 (by kernel_rfl) rfl)
    (fun k W h => h.lies) (fun k W b' o' hk' hst hr => spansC_walk J Jx R w0 (lookT ByteArray.empty T) l bt (bt + 1) (bt + 1 + 1) k N hN W b' o' (lowAt T k) hk' (lowAt_length hk k hk') (fun j hj => lowAt_look ByteArray.empty T k j hj) hJ hJx HY.out hR0 (by omega) (by omega) (by omega) (by omega) (by omega) hr hst))
  have HN := Lib.hid hN
  have HW1 := Lib.hid (And.intro hWl (And.intro hB1 (And.intro hA1 h1)))
  have HSz := Lib.hid (And.intro hWs hbt)
  have HH := Lib.hid hw1
  have hb1 : W.heap.size = bt := hbt.symm
  have hz1' : w1.heap.size = bt + 1 := by rw [hz1, hb1]
  have E1 := Lib.hid e1
  clear hJ hJx hY h1 hW hWl hWs d1 hbl hB1 hA1 e1 hR0 hR1 c1 hN hs hw ht hk h0 hbt hw1 hz1
  go_enter Try.func117, Try.ntmps117
  go_upto_region 1 with (fail)
  rw [HH.out]
  have e1 := E1.out
  go_wp2_with fail
  refine HT1.out.mono ?_
  rintro e w1' ⟨rfl, h1'⟩
  subst h1'
  clear HT1
  go_wp2_with fail
  refine HAt.out.mono ?_
  rintro e w2 ⟨rfl, q, rfl⟩
  have HBd : Hid (Below w1.heap.size w1 (w1.drewN q)) := Lib.hid (below_drewN (Below.refl _ w1) q)
  have e2 : (w1.drewN q).cell? ⟨b, 0, none⟩ = some (.pointer (some ⟨g, 0, none⟩)) := e1
  have hz2 : (w1.drewN q).heap.size = bt + 1 := hz1'
  clear e1 HAt hz1'
  generalize w1.drewN q = w2 at *
  have hB3 := (Below.refl _ w2).alloc (Nat.le_refl _) (.cells #[.int .i32 0, .int .i32 (-1), val8 y0] 163)
  have hA3 := heap_alloc_new w2 (.cells #[.int .i32 0, .int .i32 (-1), val8 y0] 163)
  have hz3 := World.size_alloc w2 (.cells #[.int .i32 0, .int .i32 (-1), val8 y0] 163)
  obtain ⟨w3, hw3⟩ : ∃ w3, w3 = w2.alloc (.cells #[.int .i32 0, .int .i32 (-1), val8 y0] 163) := ⟨_, rfl⟩
  rw [← hw3] at hB3 hA3 hz3
  have hB4 := (Below.refl _ w3).alloc (Nat.le_refl _) (.cells #[.bool true] 4)
  have hA4 := heap_alloc_new w3 (.cells #[.bool true] 4)
  have hz4 := World.size_alloc w3 (.cells #[.bool true] 4)
  obtain ⟨w4, hw4⟩ : ∃ w4, w4 = w3.alloc (.cells #[.bool true] 4) := ⟨_, rfl⟩
  rw [← hw4] at hB4 hA4 hz4
  have hB24 := hB3.trans (hB4.mono (by omega))
  have hB14 := HBd.out.trans (hB24.mono HBd.out.size)
  have HS4 : Hid (SpSt J w0 neV (lookT ByteArray.empty T) l bt (bt + 1) (bt + 1 + 1) (64 * 0) w4) := Lib.hid (by
    obtain ⟨hWl, hB1, hA1, h1⟩ := HW1.out
    have hb4 : Below W.heap.size W w4 := hB1.trans (hB14.mono hB1.size)
    refine ⟨HJ.out _ _ _ _ _ h1 (Off.of_below hb4) (fun k hk => .inr (by rcases hk with hk | hk | hk <;> omega)), hWl.of_below HSz.out.1 hb4, ?_, ?_, ?_⟩
    · rw [hb1] at hA1
      exact (hB14.block _ (by have := (Array.getElem?_eq_some_iff.1 hA1).1; omega)).trans hA1
    · rw [hz2] at hA3
      have e : nowC neV (lookT ByteArray.empty T) (64 * 0) = [.int .i32 0, .int .i32 (-1), val8 y0] := by rw [HY0.out]; rfl
      rw [e]
      exact (hB4.block _ (by omega)).trans hA3
    · rw [hz3, hz2] at hA4
      exact hA4)
  have e4 : w4.cell? ⟨b, 0, none⟩ = some (.pointer (some ⟨g, 0, none⟩)) := (hB24.cell (p := ⟨b, 0, none⟩) (World.block_lt_of_cell? w2 _ e2)).trans e2
  unfold val8 at hw3
  unfold val8
  have HW3 := Lib.hid (And.intro hw3 hw4)
  have HE4 := Lib.hid e4
  have hz3' : w3.heap.size = bt + 1 + 1 := by rw [hz3, hz2]
  have HZ := Lib.hid (And.intro hz2 hz3')
  clear hB3 hA3 hz3 hB4 hA4 hz4 hB24 hB14 e4 hw3 hw4 hz2 hz3'
  go_upto_region 4 with (fail)
  rw [← HW3.out.1, ← HW3.out.2, HZ.out.1]
  have e4 := HE4.out
  clear e2
  go_wp2_with fail
  refine (HBl.out w4 HS4.out).mono ?_
  clear HBl e4
  rintro e w5 ⟨⟨u, rfl⟩, (h5 | ⟨⟨T', q, hq0, hql, hx5⟩, hm5⟩)⟩
  · rw [show 64 * 17408 = N by rw [HN.out]] at h5
    have hN0 : N ≠ 0 := by rw [HN.out]; omega
    have e : nowC neV (lookT ByteArray.empty T) N = [.int .i32 ((spT neV (lookT ByteArray.empty T) N).2 : Nat), .int .i32 ((N - 1 : Nat) : Int), val8 (lookT ByteArray.empty T (spT neV (lookT ByteArray.empty T) N).2)] := by unfold nowC; rw [if_neg hN0]
    obtain ⟨fn, tmps, assign, body, hy, hR⟩ := HY.out _ (spT neV (lookT ByteArray.empty T) N).1 ⟨(spT neV (lookT ByteArray.empty T) N).2, N - 1, lookT ByteArray.empty T (spT neV (lookT ByteArray.empty T) N).2⟩ w5 h5.j (spL_last neV (lookT ByteArray.empty T) N).1 (spL_last neV (lookT ByteArray.empty T) N).2
    have HRr := Lib.hid hR; clear hR
    dsimp only [encQ] at hy
    have hcn := h5.cn
    rw [e] at hcn
    have q0 : w5.cell? ⟨bt, 0, none⟩ = some (.func (.yield l) #[] #[]) := cell_of_row w5 bt 0 _ _ (0, 0) h5.ct
    have q1 : w5.cell? ⟨bt + 1, 0, none⟩ = some (.int .i32 ((spT neV (lookT ByteArray.empty T) N).2 : Nat)) := cell_of_row w5 (bt + 1) 0 _ _ (0, 0) hcn
    have q2 : w5.cell? ⟨bt + 1, 1, none⟩ = some (.int .i32 ((N - 1 : Nat) : Int)) := cell_of_row w5 (bt + 1) 1 _ _ (0, 0) hcn
    have q3 : w5.cell? ⟨bt + 1, 2, none⟩ = some (val8 (lookT ByteArray.empty T (spT neV (lookT ByteArray.empty T) N).2)) := cell_of_row w5 (bt + 1) 2 _ _ (0, 0) hcn
    have q4 : w5.cell? ⟨bt + 1 + 1, 0, none⟩ = some (.bool true) := cell_of_row w5 (bt + 1 + 1) 0 _ _ (0, 0) h5.cm
    have HLast := Lib.hid (spL_last neV (lookT ByteArray.empty T) N)
    have HFull : Hid ((spT neV (lookT ByteArray.empty T) N).1 ++ [⟨(spT neV (lookT ByteArray.empty T) N).2, N - 1, lookT ByteArray.empty T (spT neV (lookT ByteArray.empty T) N).2⟩] = spL neV (lookT ByteArray.empty T) N) := Lib.hid rfl
    clear h5 hcn e
    unfold val8 at q3 hy
    generalize hgs : lookT ByteArray.empty T (spT neV (lookT ByteArray.empty T) N).2 = y at q3 hy HRr HLast HFull
    generalize hgs2 : (spT neV (lookT ByteArray.empty T) N).2 = s at q1 hy HRr HLast HFull
    generalize hgs3 : N - 1 = M at q2 hy HRr HLast HFull
    clear hgs hgs2 hgs3
    go_upto_region 6 with (fail)
    refine (wpIn_wide (n := 2)).1 ?_
    gi_wp2
    refine HRr.out.mono ?_
    rintro e W3 (⟨rfl, hJ3, hk3⟩ | ⟨rfl, hx3, hk3⟩)
    · rw [HFull.out] at hJ3
      have HJ3 := Lib.hid hJ3
      clear hJ3 hk3 hy q0 q1 q2 q3 q4
      gi_wp2
      go_wp2
      go_end0
      exact ⟨⟨_, rfl⟩, .inl ⟨_, _, rfl, HJ3.out⟩⟩
    · rw [HLast.out.2] at hx3
      have HX3 := Lib.hid hx3
      clear hx3 hk3 hy q0 q1 q2 q3 q4
      gi_wp2
      go_wp2
      go_end0
      exact ⟨⟨_, rfl⟩, .inr ⟨_, _, ⟨_, Nat.succ_pos _, HLast.out.1, rfl⟩, HX3.out⟩⟩
  · have q4 : w5.cell? ⟨bt + 1 + 1, 0, none⟩ = some (.bool false) := cell_of_row w5 (bt + 1 + 1) 0 _ _ (0, 0) hm5
    have HX5 := Lib.hid hx5
    clear hx5 hm5
    go_wp2
    go_end0
    exact ⟨⟨_, rfl⟩, .inr ⟨_, _, ⟨q, hq0, hql, rfl⟩, HX5.out⟩⟩
end Go.Proofs.Ytabbabkmojaoaaa.VS

/-
  The walk of Parts (string).
-/
namespace Go.Proofs.Ytabbabkmojaoaaa.VS
open Go.RowKit

theorem Try.elemI8 : Elem Try.prog 165 9 (.string { data := #[] }) 16 := ⟨Try.underlying165, by kernel_rfl, by kernel_rfl⟩
theorem val8_one (b : List El) : ∀ u ∈ b.map val8, u.oneCell' = true := fun u hu => by
  obtain ⟨x, -, rfl⟩ := List.mem_map.1 hu
  rfl
/-- between two rounds: the parts' own variable, the row that grows -/
def PaM (W0 : World) (bp n : Nat) (at_ : Option Addr) (ct : Nat) (L : List (List Nat)) (i : Value) (wr : World) : Prop :=
  ∃ (k : Nat) (a : Option Addr) (c : Nat), k ≤ n ∧ i = .int .i64 k ∧ wr.heap[bp]? = some (.cells #[.slice at_ 272 ct, .slice a (64 * k) c, .slice none 0 0] 167 (0, 0)) ∧
    Own W0.heap.size 91 wr a (64 * k) c (flatV num16 (L.take k)) ∧ But W0.heap.size (fun b => b = bp) W0 wr

def PaL (W0 : World) (bp n : Nat) (at_ : Option Addr) (ct : Nat) (am : Option Addr) (nm cm : Nat) (L : List (List El)) (i : Value) (wr : World) : Prop :=
  ∃ (k : Nat) (a : Option Addr) (c : Nat), k ≤ n ∧ i = .int .i64 k ∧ wr.heap[bp]? = some (.cells #[.slice at_ 272 ct, .slice am nm cm, .slice a (64 * k) c] 167 (0, 0)) ∧
    Own W0.heap.size 9 wr a (64 * k) c (flatV val8 (L.take k)) ∧ But W0.heap.size (fun b => b = bp) W0 wr

set_option maxRecDepth 100000 in
set_option maxHeartbeats 1600000 in
theorem Parts8_walk (w : World) (g : Nat) (T : TrieD El) (hk : TrieOk T) (h0 : 0 < T.low.length) (h : TrieAt val8 138 64 w g T) :
    Calls Try.prog 86 #[.pointer (some ⟨g, 0, none⟩)] w fun e w' => ∃ at_ ct am cm al cl, e = .returned (.agg #[.slice at_ 272 ct, .slice am (64 * T.mid.length) cm, .slice al (64 * T.low.length) cl]) ∧
      Own w.heap.size 91 w' at_ 272 ct (T.top.map num16) ∧ Own w.heap.size 91 w' am (64 * T.mid.length) cm (flatV num16 T.mid) ∧ Own w.heap.size 9 w' al (64 * T.low.length) cl (flatV val8 T.low) ∧ Below w.heap.size w w' := by
  obtain ⟨bz, hbz⟩ : ∃ bz, bz = w.heap.size := ⟨_, rfl⟩
  have hgl : g < w.heap.size := by obtain ⟨am, cm, al, cl, h1, -⟩ := h; exact (Array.getElem?_eq_some_iff.1 h1).1
  have HK := Lib.hid hk; clear hk
  have H := Lib.hid h; clear h
  refine calls_of_wpM Try.func86 rfl ?_
  simp only [Try.ntmps86, List.size_toArray, List.length_cons, List.length_nil, Nat.reduceAdd, Nat.reduceSub, Array.replicate_succ, Array.replicate_zero, List.push_toArray, List.append_toArray, List.nil_append, List.cons_append]
  have HW1 : Hid (Below w.heap.size w ((w.alloc (.cells #[.slice none 0 0, .slice none 0 0, .slice none 0 0] 167)).alloc (.cells #[.slice none 0 0, .slice none 0 0, .slice none 0 0] 167)) ∧
      ((w.alloc (.cells #[.slice none 0 0, .slice none 0 0, .slice none 0 0] 167)).alloc (.cells #[.slice none 0 0, .slice none 0 0, .slice none 0 0] 167)).heap[bz]? = some (.cells #[.slice none 0 0, .slice none 0 0, .slice none 0 0] 167 (0, 0)) ∧
      ((w.alloc (.cells #[.slice none 0 0, .slice none 0 0, .slice none 0 0] 167)).alloc (.cells #[.slice none 0 0, .slice none 0 0, .slice none 0 0] 167)).heap[bz + 1]? = some (.cells #[.slice none 0 0, .slice none 0 0, .slice none 0 0] 167 (0, 0)) ∧
      ((w.alloc (.cells #[.slice none 0 0, .slice none 0 0, .slice none 0 0] 167)).alloc (.cells #[.slice none 0 0, .slice none 0 0, .slice none 0 0] 167)).heap.size = bz + 1 + 1) := Lib.hid (by
    rw [hbz]
    refine ⟨((Below.refl _ w).alloc (Nat.le_refl _) _).alloc (by simp) _, ?_, ?_, by simp⟩
    · rw [Below.heap_alloc _ _ _ (by simp)]
      exact heap_alloc_new w _
    · have := heap_alloc_new (w.alloc (.cells #[.slice none 0 0, .slice none 0 0, .slice none 0 0] 167)) (.cells #[.slice none 0 0, .slice none 0 0, .slice none 0 0] 167)
      simpa using this)
  go_upto_region 2 with (fail)
  rw [← hbz]
  generalize ((w.alloc (.cells #[.slice none 0 0, .slice none 0 0, .slice none 0 0] 167)).alloc (.cells #[.slice none 0 0, .slice none 0 0, .slice none 0 0] 167)) = w1 at *
  have HBz := Lib.hid hbz
  have H1 := Lib.hid (H.out.below HW1.out.1 (Nat.le_refl _))
  have hgz : g < bz := by rw [hbz]; exact hgl
  clear hbz
  go_wp2_with fail
  refine (there8_walk w1 g T HK.out h0 H1.out).mono ?_
  rintro e w2 ⟨rfl, rfl⟩
  obtain ⟨am0, cm0, al0, cl0, hg1, hg2, hg3⟩ := H1.out
  have HG1 := Lib.hid hg1; clear hg1
  have HG2 := Lib.hid hg2; clear hg2
  have HG3 := Lib.hid hg3; clear hg3
  have HVt : Hid (Vals w1 (some ⟨g, 0, none⟩) (T.top.map num16)) := Lib.hid (fun j hj => by
    refine ⟨g, 0, rfl, ?_⟩
    have hj2 : j < 272 := by rw [List.length_map, HK.out.top] at hj; exact hj
    rw [Nat.zero_add, TrieAt.cell_top (val := val8) HK.out HG1.out j hj2, List.getElem_map]
    rw [getD_at (d := 0) (by rw [HK.out.top]; exact hj2)])
  go_wp2_with fail
  refine (Clone16_walk ⟨g, 0, none⟩ 272 272 (T.top.map num16) w1 (by rw [List.length_map, HK.out.top]) (by omega) HVt.out (num16_one _)).mono ?_
  rintro e w3 ⟨at_, ct, rfl, ho, hb⟩
  have HOt := Lib.hid ho
  have HB3 := Lib.hid hb
  have HZ3 := Lib.hid ((hb.block bz (by rw [HW1.out.2.2.2]; omega)).trans HW1.out.2.1)
  have HP3 := Lib.hid ((hb.block (bz + 1) (by rw [HW1.out.2.2.2]; omega)).trans HW1.out.2.2.1)
  clear ho hb HVt
  have p0 := cell_of_row w3 (bz + 1) 0 _ _ (0, 0) HP3.out
  have f0 := frozen_of_row w3 (bz + 1) 0 _ _ HP3.out
  simp at p0
  obtain ⟨bp, hbp⟩ : ∃ bp, bp = bz + 1 := ⟨_, rfl⟩
  have HBp := Lib.hid hbp; clear hbp
  go_upto_region 5 with (fail)
  have hbp := HBp.out
  rw [← hbp] at HP3 p0 f0 ⊢
  obtain ⟨w4, hw4⟩ : ∃ w4, w4 = w3.setCell ⟨bp, 0, none⟩ (.slice at_ 272 ct) := ⟨_, rfl⟩
  have HP4 : Hid (w4.heap[bp]? = some (.cells #[.slice at_ 272 ct, .slice none 0 0, .slice none 0 0] 167 (0, 0))) := Lib.hid (by
    have := heap_setCell_same w3 bp 0 _ _ (.slice at_ 272 ct) HP3.out
    rw [hw4]
    simpa using this)
  have HZ4 : Hid (w4.heap[bz]? = some (.cells #[.slice none 0 0, .slice none 0 0, .slice none 0 0] 167 (0, 0))) := Lib.hid (by
    rw [hw4, heap_setCell_other w3 ⟨bp, 0, none⟩ bz _ (by simp; omega)]
    exact HZ3.out)
  have HB4 : Hid (Below bz w w4) := Lib.hid (by
    rw [hw4, HBz.out]
    exact (below_sq HW1.out.1 HB3.out).setCell (p := ⟨bp, 0, none⟩) (by show w.heap.size ≤ bp; rw [hbp, HBz.out]; omega) _)
  have hs4 : bp < w4.heap.size := (Array.getElem?_eq_some_iff.1 HP4.out).1
  have HOt4 : Hid (Own w1.heap.size 91 w4 at_ 272 ct (T.top.map num16)) := Lib.hid (by
    rw [hw4]
    refine HOt.out.kept (grown_store w3 bp 0 _) ?_
    cases e : (Value.slice at_ 272 ct).ownBlock with
    | none => exact .inl rfl
    | some k => exact .inr (fun e2 => by cases e2; have := (World.ownsRow.lt HOt.out _ e).1; have := HW1.out.2.2.2; omega))
  have hs14 : w1.heap.size ≤ w4.heap.size := by rw [hw4]; simpa using HB3.out.size
  rw [← hw4]
  clear hw4 HP3 p0 f0 HOt HZ3 HB3
  have hbp2 : bz < bp := by omega
  clear hbp
  obtain ⟨am1, cm1, al1, cl1, hh1, hh2, hh3⟩ := H.out
  have HT4 := Lib.hid (H.out.below HB4.out (by rw [HBz.out]; exact Nat.le_refl _))
  have HM0 := Lib.hid hh2
  have HL0 := Lib.hid hh3
  have g4 : w4.heap[g]? = some (.cells (trieC T am1 cm1 al1 cl1).toArray 138 (0, 0)) := (HB4.out.block g hgz).trans hh1
  have HG4 := Lib.hid g4; clear g4 hh1 hh2 hh3
  have c1 := TrieAt.cell_mid (val := val8) HK.out HG4.out
  obtain ⟨nm, hnm⟩ : ∃ nm, nm = T.mid.length := ⟨_, rfl⟩
  have hnm2 : nm ≤ 272 := by rw [hnm]; exact HK.out.midL
  rw [← hnm] at c1
  have HNm := Lib.hid hnm; clear hnm
  go_wp2
  go_loopw [23] (PaM w4 bp nm at_ ct T.mid) (fun i _ => nm - (intOf i).toNat)
  case atStart => exact ⟨0, none, 0, Nat.zero_le _, rfl, HP4.out, Own.nil _ _ _, But.refl _ _ _⟩
  case round =>
    obtain ⟨k, a, c, hk, rfl, hcell, hown, hbut⟩ := hrel
    have HCe := Lib.hid hcell; clear hcell
    have HOw := Lib.hid hown; clear hown
    have HBt := Lib.hid hbut; clear hbut
    by_cases hkn : k < nm
    · have hki : (k : Int) < (nm : Int) := by omega
      have hkl : k < T.mid.length := by rw [← HNm.out]; exact hkn
      obtain ⟨b, o, ha⟩ := HM0.out.some (by omega)
      subst ha
      have hr := HM0.out.get k hkl
      have hbl : b < bz := by
        have hml := HK.out.mid _ (List.getElem_mem hkl)
        have h2 := hr 0 (num16 (T.mid[k][0]'(by omega))) (blkC_get num16_cells _ 0 (by omega))
        rw [HBz.out]
        exact World.block_lt_of_cell? w _ h2
      have HR : Hid (wr.rangeAt b (o + k * 64) (blkC num16 T.mid[k])) := Lib.hid (fun j v hv => HBt.out.cell ((HB4.out.cell (p := ⟨b, o + k * 64 + j, none⟩) hbl).trans (hr j v hv)) (by omega) (by show ¬ b = bp; omega))
      have hbs : (blkC num16 T.mid[k]).length = 64 := by rw [blkC_length (sz := 1) (fun _ => rfl), HK.out.mid _ (List.getElem_mem hkl)]
      clear hr
      go_upto_region 7 with (fail)
      refine wp_region_list ?_
      refine wpList_val (v := .pointer (some ⟨b, o + k * 64, none⟩)) (w' := wr) rfl (by go_simp) ?_
      refine wpList_load_mid rfl 120 (.tmp 25) rfl b (o + k * 64) rfl (blkC num16 T.mid[k]) (.array 64 91) HR.out Try.underlying120 rfl (by rw [hbs]; kernel_rfl) ?_
      refine wpList_val (v := .pointer (some ⟨wr.heap.size, 0, none⟩)) (w' := wr.alloc (.cells (blkC num16 (List.replicate 64 0)).toArray 120)) rfl (by kernel_rfl) ?_
      obtain ⟨b8, hb8⟩ : ∃ b8, b8 = wr.heap.size := ⟨_, rfl⟩
      have hA7 := heap_alloc_new wr (.cells (blkC num16 (List.replicate 64 0)).toArray 120)
      have hB7 : Below wr.heap.size wr (wr.alloc (.cells (blkC num16 (List.replicate 64 0)).toArray 120)) := (Below.refl _ _).alloc (Nat.le_refl _) _
      rw [← hb8] at hA7 hB7 ⊢
      generalize hw7 : wr.alloc (.cells (blkC num16 (List.replicate 64 0)).toArray 120) = w7 at *
      have hT7 : w7.there b8 0 (blkC num16 T.mid[k]).toArray.size := fun j hj => by
        rw [Nat.zero_add, cell_of_row w7 b8 j _ _ (0, 0) hA7]
        refine ⟨?_, frozen_of_row w7 b8 j _ _ hA7⟩
        rw [List.getElem?_toArray, blkC16_map, List.getElem?_map, List.getElem?_replicate, if_pos (by simpa [hbs] using hj)]
        rfl
      refine wpList_store_mid rfl 120 (.tmp 5) (.tmp 26) rfl b8 0 (blkC num16 T.mid[k]).toArray rfl rfl hT7 (by rw [List.size_toArray, hbs]; kernel_rfl) (by rw [blkC16_map]; exact all_oneCell_toArray (num16_one _)) ?_
      have HR8 : Hid ((w7.setCells b8 0 (blkC num16 T.mid[k]).toArray.toList).rangeAt b8 0 (blkC num16 T.mid[k])) := Lib.hid (World.rangeAt_setCells_same w7 b8 0 _ (by simpa using hT7))
      have HB8 : Hid (Below wr.heap.size wr (w7.setCells b8 0 (blkC num16 T.mid[k]).toArray.toList)) := Lib.hid (by
        rw [← hb8]
        exact hB7.trans (below_grown (grown_storeN b8 _ 0 w7) (fun k e => by cases e; exact Nat.le_refl _) (by rw [hb8]; exact hB7.size)))
      generalize (w7.setCells b8 0 (blkC num16 T.mid[k]).toArray.toList) = w8 at *
      clear hT7 hA7 hB7 hw7
      have HB8e := Lib.hid hb8; clear hb8
      have HV8 : Hid (Vals w8 (some ⟨b8, 0, none⟩) (T.mid[k].map num16)) := Lib.hid (fun j hj => ⟨b8, 0, rfl, HR8.out j _ (by rw [blkC16_map]; exact List.getElem?_eq_getElem hj)⟩)
      have hlen8 : (T.mid[k].map num16).length = 64 := by rw [List.length_map]; exact HK.out.mid _ (List.getElem_mem hkl)
      have hbpr : bp < wr.heap.size := (Array.getElem?_eq_some_iff.1 HCe.out).1
      have HC8 := Lib.hid ((HB8.out.block bp hbpr).trans HCe.out)
      have HO8 : Hid (Own w4.heap.size 91 w8 a (64 * k) c (flatV num16 (T.mid.take k))) := Lib.hid (HOw.out.below HB8.out (Nat.le_refl _))
      have d0 := cell_of_row w8 bp 1 _ _ (0, 0) HC8.out
      have e0 := frozen_of_row w8 bp 1 _ _ HC8.out
      simp at d0
      have hok : ∀ q, (Value.slice a (64 * k) c).ownBlock = some q → w4.heap.size ≤ q := fun q e => (World.ownsRow.lt HO8.out q e).1
      have hbase : w4.heap.size ≤ w8.heap.size := Nat.le_trans HBt.out.size HB8.out.size
      have HKB := Lib.hid (fun (w' : World) (hg : w8.drew.grownBy w' (Value.slice a (64 * k) c).ownBlock) => show w'.cell? ⟨bp, 1, none⟩ = some (.slice a (64 * k) c) ∧ w'.frozen? ⟨bp, 1, none⟩ = false from ⟨cell_grown hg d0 (fun q e => by have := hok q e; omega), frozen_of_row w' bp 1 _ _ ((other_grown hg (Array.getElem?_eq_some_iff.1 HC8.out).1 (fun q e => by have := hok q e; omega)).trans HC8.out)⟩)
      go_wp2
      have d1 : w8.drew.cell? ⟨bp, 1, none⟩ = some (.slice a (64 * k) c) := d0
      have e1 : w8.drew.frozen? ⟨bp, 1, none⟩ = false := e0
      have hbn1 : (64 * k + 64) * 2 ≤ 140737488355328 := by omega
      have hbn2 : 64 * k + 64 ≤ maxLen := by unfold maxLen; omega
      refine wp_region_noPanic ?_
      refine (wpIn_wide (n := 2)).1 ?_
      refine wpIn_region_calm [4, 5] (fun w' : World => w'.cell? ⟨bp, 1, none⟩ = some (.slice a (64 * k) c) ∧ w'.frozen? ⟨bp, 1, none⟩ = false) (by kernel_rfl) ?_
      have HCx : Hid ((fun w' : World => w'.cell? ⟨bp, 1, none⟩ = some (.slice a (64 * k) c) ∧ w'.frozen? ⟨bp, 1, none⟩ = false) w8.drew) := Lib.hid ⟨d1, e1⟩
      have HO9 : Hid (Own w4.heap.size 91 w8.drew a (64 * k) c (flatV num16 (T.mid.take k))) := Lib.hid (World.ownsRow.drew HO8.out)
      have HV9 : Hid (Vals w8.drew (some ⟨b8, 0, none⟩) (T.mid[k].map num16)) := Lib.hid HV8.out
      have HB9 : Hid (Below wr.heap.size wr w8.drew) := Lib.hid HB8.out.drew
      have HC9 : Hid (w8.drew.heap[bp]? = some (.cells #[.slice at_ 272 ct, .slice a (64 * k) c, .slice none 0 0] 167 (0, 0))) := Lib.hid HC8.out
      have hbase9 : w4.heap.size ≤ w8.drew.heap.size := hbase
      clear d0 e0 d1 e1
      generalize w8.drew = w9 at *
      refine' anyC_take (i := 0) (v := _) [1, 3, 4, 5] (by kernel_rfl) rfl (by kernel_rfl) (fun _ _ _ h => h) (by rfl) ?hv8x0 HCx.out ?h8x0
      case hv8x0 =>
        rintro w' ⟨c0, c1⟩
        go_simp
        try with_reducible rfl
      simp only [List.getElem_toArray, List.getElem_cons_zero, List.getElem_cons_succ, Act.put, List.setIfInBounds_toArray, List.set_cons_zero, List.set_cons_succ]
      refine' anyC_take (i := 1) (v := _) [3, 4, 5] (by kernel_rfl) rfl (by kernel_rfl) (fun _ _ _ h => h) (by rfl) ?hv8x1 HCx.out ?h8x1
      case hv8x1 =>
        rintro w' ⟨c0, c1⟩
        go_simp
        try with_reducible rfl
      simp only [List.getElem_toArray, List.getElem_cons_zero, List.getElem_cons_succ, Act.put, List.setIfInBounds_toArray, List.set_cons_zero, List.set_cons_succ]
      refine' anyC_take (i := 2) (v := _) [3, 4, 5] (by kernel_rfl) rfl (by kernel_rfl) (fun _ _ _ h => h) (by rfl) ?hv8x2 HCx.out ?h8x2
      case hv8x2 =>
        rintro w' ⟨c0, c1⟩
        go_simp
        try with_reducible rfl
      simp only [List.getElem_toArray, List.getElem_cons_zero, List.getElem_cons_succ, Act.put, List.setIfInBounds_toArray, List.set_cons_zero, List.set_cons_succ]
      refine anyC_appS (i := 3) Try.elemI16 (by kernel_rfl) rfl (by kernel_rfl) (by rfl) (.tmp 28) (.tmp 29) rfl HO9.out hbase9 hlen8 HV9.out (num16_one _) hbn1 hbn2 rfl rfl (fun w' hg => HKB.out w' hg) ?_
      intro a2 c2 w10 ho10 hg10 hn10
      simp only [List.getElem_toArray, List.getElem_cons_zero, List.getElem_cons_succ, Act.put, List.setIfInBounds_toArray, List.set_cons_zero, List.set_cons_succ]
      refine anyC_tail 4 (by rfl) (by kernel_rfl) (by kernel_rfl) ?_
      simp only [List.drop_succ_cons, List.drop_zero]
      obtain ⟨d2, e2⟩ := HKB.out w10 hg10
      have hbp9 : bp < w9.heap.size := (Array.getElem?_eq_some_iff.1 HC9.out).1
      have HC10 := Lib.hid ((other_grown hg10 hbp9 (fun q e => by have := hok q e; omega)).trans HC9.out)
      have HO10 := Lib.hid ho10
      have HG10 := Lib.hid hg10
      clear ho10 hg10 hn10
      gi_wp2
      show Exit.inBlock 1 _ Exit.normal _ _
      have HC11 : Hid ((w10.setCell ⟨bp, 1, none⟩ (.slice a2 (64 * k + 64) c2)).heap[bp]? = some (.cells #[.slice at_ 272 ct, .slice a2 (64 * k + 64) c2, .slice none 0 0] 167 (0, 0))) := Lib.hid (by
        have := heap_setCell_same w10 bp 1 _ _ (.slice a2 (64 * k + 64) c2) HC10.out
        simpa using this)
      have HO11 : Hid (Own w4.heap.size 91 (w10.setCell ⟨bp, 1, none⟩ (.slice a2 (64 * k + 64) c2)) a2 (64 * k + 64) c2 (flatV num16 (T.mid.take (k + 1)))) := Lib.hid (by
        rw [List.take_succ_eq_append_getElem hkl, flatV_snoc]
        refine HO10.out.kept (grown_store w10 bp 1 _) ?_
        cases e : (Value.slice a2 (64 * k + 64) c2).ownBlock with
        | none => exact .inl rfl
        | some q => exact .inr (fun e2 => by cases e2; have := (World.ownsRow.lt HO10.out _ e).1; omega))
      have HB11 : Hid (But w4.heap.size (fun b => b = bp) w4 (w10.setCell ⟨bp, 1, none⟩ (.slice a2 (64 * k + 64) c2))) := Lib.hid
        (((HBt.out.trans (But.of_below (HB9.out.mono HBt.out.size))).grown HG10.out hbase9 (fun q e => .inr (hok q e))).setCell bp 1 _ (.inl rfl))
      generalize (w10.setCell ⟨bp, 1, none⟩ (.slice a2 (64 * k + 64) c2)) = w11 at *
      clear d2 e2
      go_wp2
      exact ⟨⟨k + 1, a2, c2, by omega, by go_num, HC11.out, HO11.out, HB11.out⟩, by simp [intOf]; omega⟩
    · obtain rfl : k = nm := by omega
      have hki : ¬ (k : Int) < (k : Int) := by omega
      have htk : T.mid.take k = T.mid := List.take_of_length_le (by rw [HNm.out]; exact Nat.le_refl _)
      rw [htk] at HOw
      clear htk
      obtain ⟨w5, rfl⟩ : ∃ w5, w5 = wr := ⟨_, rfl⟩
      have c2 := (TrieAt.cell_low (val := val8) HK.out HG4.out)
      have c3 := HBt.out.cell c2 (by omega) (by show ¬ g = bp; omega)
      clear c2
      obtain ⟨nl, hnl⟩ : ∃ nl, nl = T.low.length := ⟨_, rfl⟩
      have hnl2 : nl ≤ 17408 := by rw [hnl]; exact HK.out.lowL
      rw [← hnl] at c3
      have HNl := Lib.hid hnl; clear hnl
      go_wp2
      obtain ⟨nmm, hnmm⟩ : ∃ nmm, nmm = k := ⟨_, rfl⟩
      have HCe2 : Hid (w5.heap[bp]? = some (.cells #[.slice at_ 272 ct, .slice a (64 * nmm) c, .slice none 0 0] 167 (0, 0))) := Lib.hid (by rw [hnmm]; exact HCe.out)
      have HOw2 : Hid (Own w4.heap.size 91 w5 a (64 * nmm) c (flatV num16 T.mid)) := Lib.hid (by rw [hnmm]; exact HOw.out)
      have HNmm := Lib.hid (show nmm = T.mid.length by rw [hnmm]; exact HNm.out)
      have hs5 : w4.heap.size ≤ w5.heap.size := HBt.out.size
      clear hnmm HCe HOw
      obtain ⟨am, ham⟩ : ∃ am, am = a := ⟨_, rfl⟩
      obtain ⟨cm, hcm⟩ : ∃ cm, cm = c := ⟨_, rfl⟩
      rw [← ham, ← hcm] at HCe2 HOw2
      clear ham hcm
      go_loopw [38] (PaL w5 bp nl at_ ct am (64 * nmm) cm T.low) (fun i _ => nl - (intOf i).toNat)
      case atStart => exact ⟨0, none, 0, Nat.zero_le _, rfl, HCe2.out, Own.nil _ _ _, But.refl _ _ _⟩
      case round =>
        obtain ⟨k, a, c, hk, rfl, hcell, hown, hbut⟩ := hrel
        have HDe := Lib.hid hcell; clear hcell
        have HOx := Lib.hid hown; clear hown
        have HBu := Lib.hid hbut; clear hbut
        by_cases hkn : k < nl
        · have hki : (k : Int) < (nl : Int) := by omega
          have hkl : k < T.low.length := by rw [← HNl.out]; exact hkn
          obtain ⟨b, o, ha⟩ := HL0.out.some (by omega)
          subst ha
          have hr := HL0.out.get k hkl
          have hbl : b < bz := by
            have hml := HK.out.low _ (List.getElem_mem hkl)
            have h2 := hr 0 (val8 (T.low[k][0]'(by omega))) (blkC_get val8_cells _ 0 (by omega))
            rw [HBz.out]
            exact World.block_lt_of_cell? w _ h2
          have HR : Hid (wr.rangeAt b (o + k * 64) (blkC val8 T.low[k])) := Lib.hid (fun j v hv => HBu.out.cell (HBt.out.cell ((HB4.out.cell (p := ⟨b, o + k * 64 + j, none⟩) hbl).trans (hr j v hv)) (by omega) (by show ¬ b = bp; omega)) (by omega) (by show ¬ b = bp; omega))
          have hbs : (blkC val8 T.low[k]).length = 64 := by rw [blkC_length (sz := 1) (fun _ => rfl), HK.out.low _ (List.getElem_mem hkl)]
          clear hr
          go_upto_region 12 with (fail)
          refine wp_region_list ?_
          refine wpList_val (v := .pointer (some ⟨b, o + k * 64, none⟩)) (w' := wr) rfl (by go_simp) ?_
          refine wpList_load_mid rfl 122 (.tmp 40) rfl b (o + k * 64) rfl (blkC val8 T.low[k]) (.array 64 9) HR.out Try.underlying122 rfl (by rw [hbs]; kernel_rfl) ?_
          refine wpList_val (v := .pointer (some ⟨wr.heap.size, 0, none⟩)) (w' := wr.alloc (.cells (blkC val8 (List.replicate 64 (ByteArray.empty : El))).toArray 122)) rfl (by kernel_rfl) ?_
          obtain ⟨b8, hb8⟩ : ∃ b8, b8 = wr.heap.size := ⟨_, rfl⟩
          have hA7 := heap_alloc_new wr (.cells (blkC val8 (List.replicate 64 (ByteArray.empty : El))).toArray 122)
          have hB7 : Below wr.heap.size wr (wr.alloc (.cells (blkC val8 (List.replicate 64 (ByteArray.empty : El))).toArray 122)) := (Below.refl _ _).alloc (Nat.le_refl _) _
          rw [← hb8] at hA7 hB7 ⊢
          generalize hw7 : wr.alloc (.cells (blkC val8 (List.replicate 64 (ByteArray.empty : El))).toArray 122) = w7 at *
          have hT7 : w7.there b8 0 (blkC val8 T.low[k]).toArray.size := fun j hj => by
            rw [Nat.zero_add, cell_of_row w7 b8 j _ _ (0, 0) hA7]
            refine ⟨?_, frozen_of_row w7 b8 j _ _ hA7⟩
            rw [List.getElem?_toArray, blkC8_map, List.getElem?_map, List.getElem?_replicate, if_pos (by simpa [hbs] using hj)]
            rfl
          refine wpList_store_mid rfl 122 (.tmp 7) (.tmp 41) rfl b8 0 (blkC val8 T.low[k]).toArray rfl rfl hT7 (by rw [List.size_toArray, hbs]; kernel_rfl) (by rw [blkC8_map]; exact all_oneCell_toArray (val8_one _)) ?_
          have HR8 : Hid ((w7.setCells b8 0 (blkC val8 T.low[k]).toArray.toList).rangeAt b8 0 (blkC val8 T.low[k])) := Lib.hid (World.rangeAt_setCells_same w7 b8 0 _ (by simpa using hT7))
          have HB8 : Hid (Below wr.heap.size wr (w7.setCells b8 0 (blkC val8 T.low[k]).toArray.toList)) := Lib.hid (by
            rw [← hb8]
            exact hB7.trans (below_grown (grown_storeN b8 _ 0 w7) (fun k e => by cases e; exact Nat.le_refl _) (by rw [hb8]; exact hB7.size)))
          generalize (w7.setCells b8 0 (blkC val8 T.low[k]).toArray.toList) = w8 at *
          clear hT7 hA7 hB7 hw7
          have HB8e := Lib.hid hb8; clear hb8
          have HV8 : Hid (Vals w8 (some ⟨b8, 0, none⟩) (T.low[k].map val8)) := Lib.hid (fun j hj => ⟨b8, 0, rfl, HR8.out j _ (by rw [blkC8_map]; exact List.getElem?_eq_getElem hj)⟩)
          have hlen8 : (T.low[k].map val8).length = 64 := by rw [List.length_map]; exact HK.out.low _ (List.getElem_mem hkl)
          have hbpr : bp < wr.heap.size := (Array.getElem?_eq_some_iff.1 HDe.out).1
          have HC8 := Lib.hid ((HB8.out.block bp hbpr).trans HDe.out)
          have HO8 : Hid (Own w5.heap.size 9 w8 a (64 * k) c (flatV val8 (T.low.take k))) := Lib.hid (HOx.out.below HB8.out (Nat.le_refl _))
          have d0 := cell_of_row w8 bp 2 _ _ (0, 0) HC8.out
          have e0 := frozen_of_row w8 bp 2 _ _ HC8.out
          simp at d0
          have hok : ∀ q, (Value.slice a (64 * k) c).ownBlock = some q → w5.heap.size ≤ q := fun q e => (World.ownsRow.lt HO8.out q e).1
          have hbase : w5.heap.size ≤ w8.heap.size := Nat.le_trans HBu.out.size HB8.out.size
          have HKB := Lib.hid (fun (w' : World) (hg : w8.drew.grownBy w' (Value.slice a (64 * k) c).ownBlock) => show w'.cell? ⟨bp, 2, none⟩ = some (.slice a (64 * k) c) ∧ w'.frozen? ⟨bp, 2, none⟩ = false from ⟨cell_grown hg d0 (fun q e => by have := hok q e; omega), frozen_of_row w' bp 2 _ _ ((other_grown hg (Array.getElem?_eq_some_iff.1 HC8.out).1 (fun q e => by have := hok q e; omega)).trans HC8.out)⟩)
          go_wp2
          have d1 : w8.drew.cell? ⟨bp, 2, none⟩ = some (.slice a (64 * k) c) := d0
          have e1 : w8.drew.frozen? ⟨bp, 2, none⟩ = false := e0
          have hbn1 : (64 * k + 64) * 16 ≤ 140737488355328 := by omega
          have hbn2 : 64 * k + 64 ≤ maxLen := by unfold maxLen; omega
          refine wp_region_noPanic ?_
          refine (wpIn_wide (n := 2)).1 ?_
          refine wpIn_region_calm [4, 5] (fun w' : World => w'.cell? ⟨bp, 2, none⟩ = some (.slice a (64 * k) c) ∧ w'.frozen? ⟨bp, 2, none⟩ = false) (by kernel_rfl) ?_
          have HCx : Hid ((fun w' : World => w'.cell? ⟨bp, 2, none⟩ = some (.slice a (64 * k) c) ∧ w'.frozen? ⟨bp, 2, none⟩ = false) w8.drew) := Lib.hid ⟨d1, e1⟩
          have HO9 : Hid (Own w5.heap.size 9 w8.drew a (64 * k) c (flatV val8 (T.low.take k))) := Lib.hid (World.ownsRow.drew HO8.out)
          have HV9 : Hid (Vals w8.drew (some ⟨b8, 0, none⟩) (T.low[k].map val8)) := Lib.hid HV8.out
          have HB9 : Hid (Below wr.heap.size wr w8.drew) := Lib.hid HB8.out.drew
          have HC9 : Hid (w8.drew.heap[bp]? = some (.cells #[.slice at_ 272 ct, .slice am (64 * nmm) cm, .slice a (64 * k) c] 167 (0, 0))) := Lib.hid HC8.out
          have hbase9 : w5.heap.size ≤ w8.drew.heap.size := hbase
          clear d0 e0 d1 e1
          generalize w8.drew = w9 at *
          refine' anyC_take (i := 0) (v := _) [1, 3, 4, 5] (by kernel_rfl) rfl (by kernel_rfl) (fun _ _ _ h => h) (by rfl) ?hv13x0 HCx.out ?h13x0
          case hv13x0 =>
            rintro w' ⟨c0, c1⟩
            go_simp
            try with_reducible rfl
          simp only [List.getElem_toArray, List.getElem_cons_zero, List.getElem_cons_succ, Act.put, List.setIfInBounds_toArray, List.set_cons_zero, List.set_cons_succ]
          refine' anyC_take (i := 1) (v := _) [3, 4, 5] (by kernel_rfl) rfl (by kernel_rfl) (fun _ _ _ h => h) (by rfl) ?hv13x1 HCx.out ?h13x1
          case hv13x1 =>
            rintro w' ⟨c0, c1⟩
            go_simp
            try with_reducible rfl
          simp only [List.getElem_toArray, List.getElem_cons_zero, List.getElem_cons_succ, Act.put, List.setIfInBounds_toArray, List.set_cons_zero, List.set_cons_succ]
          refine' anyC_take (i := 2) (v := _) [3, 4, 5] (by kernel_rfl) rfl (by kernel_rfl) (fun _ _ _ h => h) (by rfl) ?hv13x2 HCx.out ?h13x2
          case hv13x2 =>
            rintro w' ⟨c0, c1⟩
            go_simp
            try with_reducible rfl
          simp only [List.getElem_toArray, List.getElem_cons_zero, List.getElem_cons_succ, Act.put, List.setIfInBounds_toArray, List.set_cons_zero, List.set_cons_succ]
          refine anyC_appS (i := 3) Try.elemI8 (by kernel_rfl) rfl (by kernel_rfl) (by rfl) (.tmp 43) (.tmp 44) rfl HO9.out hbase9 hlen8 HV9.out (val8_one _) hbn1 hbn2 rfl rfl (fun w' hg => HKB.out w' hg) ?_
          intro a2 c2 w10 ho10 hg10 hn10
          simp only [List.getElem_toArray, List.getElem_cons_zero, List.getElem_cons_succ, Act.put, List.setIfInBounds_toArray, List.set_cons_zero, List.set_cons_succ]
          refine anyC_tail 4 (by rfl) (by kernel_rfl) (by kernel_rfl) ?_
          simp only [List.drop_succ_cons, List.drop_zero]
          obtain ⟨d2, e2⟩ := HKB.out w10 hg10
          have hbp9 : bp < w9.heap.size := (Array.getElem?_eq_some_iff.1 HC9.out).1
          have HC10 := Lib.hid ((other_grown hg10 hbp9 (fun q e => by have := hok q e; omega)).trans HC9.out)
          have HO10 := Lib.hid ho10
          have HG10 := Lib.hid hg10
          clear ho10 hg10 hn10
          gi_wp2
          show Exit.inBlock 1 _ Exit.normal _ _
          have HC11 : Hid ((w10.setCell ⟨bp, 2, none⟩ (.slice a2 (64 * k + 64) c2)).heap[bp]? = some (.cells #[.slice at_ 272 ct, .slice am (64 * nmm) cm, .slice a2 (64 * k + 64) c2] 167 (0, 0))) := Lib.hid (by
            have := heap_setCell_same w10 bp 2 _ _ (.slice a2 (64 * k + 64) c2) HC10.out
            simpa using this)
          have HO11 : Hid (Own w5.heap.size 9 (w10.setCell ⟨bp, 2, none⟩ (.slice a2 (64 * k + 64) c2)) a2 (64 * k + 64) c2 (flatV val8 (T.low.take (k + 1)))) := Lib.hid (by
            rw [List.take_succ_eq_append_getElem hkl, flatV_snoc]
            refine HO10.out.kept (grown_store w10 bp 2 _) ?_
            cases e : (Value.slice a2 (64 * k + 64) c2).ownBlock with
            | none => exact .inl rfl
            | some q => exact .inr (fun e2 => by cases e2; have := (World.ownsRow.lt HO10.out _ e).1; omega))
          have HB11 : Hid (But w5.heap.size (fun b => b = bp) w5 (w10.setCell ⟨bp, 2, none⟩ (.slice a2 (64 * k + 64) c2))) := Lib.hid
            (((HBu.out.trans (But.of_below (HB9.out.mono HBu.out.size))).grown HG10.out hbase9 (fun q e => .inr (hok q e))).setCell bp 2 _ (.inl rfl))
          generalize (w10.setCell ⟨bp, 2, none⟩ (.slice a2 (64 * k + 64) c2)) = w11 at *
          clear d2 e2
          go_wp2
          exact ⟨⟨k + 1, a2, c2, by omega, by go_num, HC11.out, HO11.out, HB11.out⟩, by simp [intOf]; omega⟩
        · obtain rfl : k = nl := by omega
          have hki : ¬ (k : Int) < (k : Int) := by omega
          have htk : T.low.take k = T.low := List.take_of_length_le (by rw [HNl.out]; exact Nat.le_refl _)
          rw [htk] at HOx
          clear htk
          have hz4 : bz < w4.heap.size := (Array.getElem?_eq_some_iff.1 HZ4.out).1
          have HZr := Lib.hid (HBu.out.keep (HBt.out.keep HZ4.out hz4 (by show ¬ bz = bp; omega)) (by omega) (by show ¬ bz = bp; omega))
          have p0 := cell_of_row wr bp 0 _ _ (0, 0) HDe.out
          have p1 := cell_of_row wr bp 1 _ _ (0, 0) HDe.out
          have p2 := cell_of_row wr bp 2 _ _ (0, 0) HDe.out
          have z0 := cell_of_row wr bz 0 _ _ (0, 0) HZr.out
          have z1 := cell_of_row wr bz 1 _ _ (0, 0) HZr.out
          have z2 := cell_of_row wr bz 2 _ _ (0, 0) HZr.out
          have y0 := frozen_of_row wr bz 0 _ _ HZr.out
          have y1 := frozen_of_row wr bz 1 _ _ HZr.out
          have y2 := frozen_of_row wr bz 2 _ _ HZr.out
          simp at p0 p1 p2 z0 z1 z2
          go_wp2
          obtain ⟨W, hW⟩ : ∃ W, W = ((wr.setCell ⟨bz, 0, none⟩ (.slice at_ 272 ct)).setCell ⟨bz, 1, none⟩ (.slice am (64 * nmm) cm)).setCell ⟨bz, 2, none⟩ (.slice a (64 * k) c) := ⟨_, rfl⟩
          rw [← hW]
          have hC : W.heap[bz]? = some (.cells #[.slice at_ 272 ct, .slice am (64 * nmm) cm, .slice a (64 * k) c] 167 (0, 0)) := by
            rw [hW]
            have e1 := heap_setCell_same wr bz 0 _ _ (.slice at_ 272 ct) HZr.out
            have e2 := heap_setCell_same _ bz 1 _ _ (.slice am (64 * nmm) cm) e1
            have e3 := heap_setCell_same _ bz 2 _ _ (.slice a (64 * k) c) e2
            simpa using e3
          have hO : ∀ q, q ≠ bz → W.heap[q]? = wr.heap[q]? := fun q hq => by
            rw [hW, heap_setCell_other _ ⟨bz, 2, none⟩ q _ hq, heap_setCell_other _ ⟨bz, 1, none⟩ q _ hq, heap_setCell_other _ ⟨bz, 0, none⟩ q _ hq]
          have hBe : Below bz wr W := by
            rw [hW]
            exact (((Below.refl bz wr).setCell (p := ⟨bz, 0, none⟩) (Nat.le_refl _) _).setCell (p := ⟨bz, 1, none⟩) (Nat.le_refl _) _).setCell (p := ⟨bz, 2, none⟩) (Nat.le_refl _) _
          have v0 := cell_of_row W bz 0 _ _ (0, 0) hC
          have v1 := cell_of_row W bz 1 _ _ (0, 0) hC
          have v2 := cell_of_row W bz 2 _ _ (0, 0) hC
          simp at v0 v1 v2
          clear hW
          have hs1 := HW1.out.2.2.2
          have hbpe := HBp.out
          refine leaves_nil (v := .agg #[.slice at_ 272 ct, .slice am (64 * nmm) cm, .slice a (64 * k) c]) (by simp [results, Try.results86, go_sem, v0, v1, v2]) ?_
          refine ⟨at_, ct, am, cm, a, c, by rw [HNmm.out, HNl.out], ?_, ?_, ?_, ?_⟩
          · refine own_keep HOt4.out (by rw [hs1, HBz.out]; omega) (fun q e => ?_)
            have hl := World.ownsRow.lt HOt4.out q e
            rw [hO q (by omega), HBu.out.block q (by omega) (by show ¬ q = bp; omega), HBt.out.block q (by omega) (by show ¬ q = bp; omega)]
          · rw [← HNmm.out]
            refine own_keep HOw2.out (by rw [← HBz.out]; omega) (fun q e => ?_)
            have hl := World.ownsRow.lt HOw2.out q e
            rw [hO q (by omega), HBu.out.block q (by omega) (by show ¬ q = bp; omega)]
          · rw [← HNl.out]
            refine own_keep HOx.out (by rw [← HBz.out]; omega) (fun q e => ?_)
            have hl := World.ownsRow.lt HOx.out q e
            rw [hO q (by omega)]
          · rw [← HBz.out]
            exact ((HB4.out.trans (HBt.out.below bz (by omega) (fun q hq => by have : q = bp := hq; omega))).trans (HBu.out.below bz (by omega) (fun q hq => by have : q = bp := hq; omega))).trans hBe
end Go.Proofs.Ytabbabkmojaoaaa.VS
