/-
  The walk of 'Map' from numbers of eight bits (uint8).
-/
import Derived.Test.YtabbabkmojaoaaaTQ
import Derived.Test.YtabbabkmojaoaaaTZ
import Derived.Test.YtabbabkmojaoaaaTN
set_option linter.unusedVariables false
set_option linter.unusedSimpArgs false
namespace Go.Proofs.Ytabbabkmojaoaaa
open Go.RowKit

theorem run_index_low (cs : Array Value) (c : Nat) (v : Value) (hc : c < 64) (hv : cs[c]? = some v) (w : World) : (Instr.index 119 (.agg cs) (.int .i64 (c : Nat))).run Try.prog w = .ok v w := by
  have h1 : (isAgg 5).run Try.prog w = .ok false w := by kernel_rfl
  have h2 : (sizeOf 5).run Try.prog w = .ok 1 w := by kernel_rfl
  have h3 : (c : Int) < 64 := by omega
  simp [Instr.index, run_underlying Try.underlying119, asIntOf, h3, part, h1, h2, hv]
  omega
/-- between two rounds: the row of turned blocks -/
def MaT (w : World) (h : Int → Int) (L : List (List Int)) (nl : Nat) (i sl : Value) (wr : World) : Prop :=
  ∃ (j : Nat) (a : Option Addr) (c : Nat), j ≤ nl ∧ i = .int .i64 (j : Nat) ∧ sl = .slice a j c ∧ wr.ownsRow w.heap.size 119 64 (.slice a j c) j ((L.take j).flatMap (fun l => blkC val8 (l.map h))) ∧ Below w.heap.size w wr
def MaI (W : World) (h : Int → Int) (l : List Int) (bc : Nat) (i : Value) (wr : World) : Prop :=
  ∃ (q : Nat) (cs : List Int), q ≤ 64 ∧ i = .int .i64 (q : Nat) ∧ cs.length = 64 ∧ (∀ p, p < q → cs[p]? = (l[p]?).map h) ∧ wr.heap[bc]? = some (.cells (blkC val8 cs).toArray 119 (0, 0)) ∧ Below bc W wr
def MaO (w1 : World) (f : Nat → Int) (v : Value) (wr : World) : Prop :=
  ∃ (c : Nat) (am : Option Addr) (cm : Nat) (al : Option Addr) (cl : Nat), c ≤ 272 ∧ v = .int .i64 (c : Nat) ∧ Below w1.heap.size w1 wr ∧
    MkAt val8 1 135 114 120 119 wr w1.heap.size (mkF f (64 * c)) (mkF f (64 * c)).lows (mkF f (64 * c)).mids am cm al cl
def MaP (w1 : World) (f : Nat → Int) (c : Nat) (v : Value) (wr : World) : Prop :=
  ∃ (j : Nat) (am : Option Addr) (cm : Nat) (al : Option Addr) (cl : Nat), j ≤ 64 ∧ v = .int .i64 (j : Nat) ∧ Below w1.heap.size w1 wr ∧
    MkAt val8 1 135 114 120 119 wr w1.heap.size (mkF f (64 * c + j)) (mkF f (64 * c + j)).lows (mkF f (64 * c + j)).mids am cm al cl
theorem take_map {β γ : Type} (L : List β) (f : β → List γ) (j : Nat) (hj : j < L.length) : (L.take (j + 1)).flatMap f = (L.take j).flatMap f ++ f L[j] := by
  rw [List.take_succ_eq_append_getElem hj, List.flatMap_append]
  simp
theorem lowAt_map (h : Int → Int) (T : TrieD Int) (hk : TrieOk T) (k : Nat) (hk2 : k < 17408) : (lowAt T k).map h = blkF (fun r => h (lookT 0 T r)) k := by
  apply List.ext_getElem?
  intro j
  unfold blkF
  rw [List.getElem?_map, List.getElem?_map]
  by_cases hj : j < 64
  · rw [List.getElem?_range hj, List.getElem?_eq_getElem (by rw [lowAt_length hk k hk2]; exact hj)]
    simp only [Option.map_some]
    rw [← lowAt_look 0 T k j hj]
    simp [List.getD_eq_getElem?_getD, lowAt_length hk k hk2, hj]
  · rw [List.getElem?_eq_none (by rw [lowAt_length hk k hk2]; omega), List.getElem?_eq_none (by simp; omega)]
    rfl

set_option maxRecDepth 100000 in
set_option maxHeartbeats 1600000 in
theorem Map_walk (w : World) (g : Nat) (T : TrieD Int) (hk : TrieOk T) (h0 : 0 < T.low.length) (ht : TrieAt Go.Proofs.Ytabbabkmojaoaaa.val8 114 64 w g T) (cf : Nat) (lb : Array Value) (h : Int → Int) (eg : ∀ args W, (callFunc cf args).run Try.prog W = .ok (.enter cf args) W)
    (hcall : ∀ v W, (∃ l ∈ T.low, v ∈ l) → Below w.heap.size w W → Calls Try.prog cf (#[.int .u8 v] ++ lb) W fun e W' => e = .returned (val8 (h v)) ∧ Below W.heap.size W W') :
    Calls Try.prog 23 #[.pointer (some ⟨g, 0, none⟩), .func (.func cf) #[] lb] w fun e w' => ∃ g' S, e = .returned (.pointer (some ⟨g', 0, none⟩)) ∧ w.heap.size ≤ g' ∧ Below w.heap.size w w' ∧
      Made8 (fun r => h (lookT 0 T r)) S ∧ TrieAt val8 114 64 w' g' (trieS S) := by
  have HCl := Lib.hid hcall; clear hcall
  have HEg := Lib.hid eg; clear eg
  have HK := Lib.hid hk; clear hk
  have HT0 := Lib.hid ht
  have HTh := Lib.hid (there8_walk w g T HK.out h0 ht)
  obtain ⟨am, cm, al, cl, hh1, hh2, hh3⟩ := ht
  have HG1 := Lib.hid hh1; have HG2 := Lib.hid hh2; have HG3 := Lib.hid hh3
  have c2 := TrieAt.cell_low (val := Go.Proofs.Ytabbabkmojaoaaa.val8) HK.out hh1
  obtain ⟨bl, ol, rfl⟩ := hh3.some h0
  clear hh1 hh2 hh3
  have hll := HK.out.lowL
  have qF := fun (w : World) (cs : Array Value) => run_eql_func_nil (P := Try.prog) w 39 (.func cf) #[] cs _ _ _ Try.underlying39
  obtain ⟨nl, hnl⟩ : ∃ nl, nl = T.low.length := ⟨_, rfl⟩
  rw [← hnl] at c2 hll h0
  have HNl := Lib.hid hnl; clear hnl
  go_enter Try.func23, Try.ntmps23
  go_wp2_with fail
  refine HTh.out.mono ?_
  rintro e w1 ⟨rfl, rfl⟩
  go_wp2
  go_loopw [28, 5] (MaT w h T.low nl) (fun i _ _ => nl - (intOf i).toNat)
  case atStart => exact ⟨0, none, 0, Nat.zero_le _, rfl, rfl, World.ownsRow_nil _ _ _ _, Below.refl _ _⟩
  case round =>
    obtain ⟨j, a, c, hj, rfl, rfl, hown, hbel⟩ := hrel
    have HOw := Lib.hid hown; clear hown
    have HBe := Lib.hid hbel; clear hbel
    by_cases hjn : j < nl
    · have hji : (j : Int) < (nl : Int) := by omega
      have hjl : j < T.low.length := by rw [← HNl.out]; exact hjn
      have HR : Hid (wr.rangeAt bl (ol + j * 64) (blkC Go.Proofs.Ytabbabkmojaoaaa.val8 T.low[j])) := Lib.hid (rangeAt_below (HG3.out.get j hjl) HBe.out (Nat.le_refl _))
      have hll64 : (T.low[j]).length = 64 := HK.out.low _ (List.getElem_mem hjl)
      have HMem : Hid (∀ v ∈ T.low[j], ∃ l ∈ T.low, v ∈ l) := Lib.hid (fun v hv => ⟨_, List.getElem_mem hjl, hv⟩)
      have HTk := Lib.hid (take_map T.low (fun l => blkC val8 (l.map h)) j hjl)
      generalize T.low[j] = l at *
      have hbs : (blkC Go.Proofs.Ytabbabkmojaoaaa.val8 l).length = 64 := by rw [blkC_length (sz := 1) (fun _ => rfl), hll64]
      go_upto_region 6 with (fail)
      refine wp_region_list ?_
      refine wpList_val (v := .pointer (some ⟨bl, ol + j * 64, none⟩)) (w' := wr) rfl (by go_simp) ?_
      refine wpList_load_mid rfl 119 (.tmp 30) rfl bl (ol + j * 64) rfl (blkC Go.Proofs.Ytabbabkmojaoaaa.val8 l) (.array 64 5) HR.out Try.underlying119 rfl (by rw [hbs]; kernel_rfl) ?_
      refine wpList_val (v := .pointer (some ⟨wr.heap.size, 0, none⟩)) (w' := wr.alloc (.cells (blkC Go.Proofs.Ytabbabkmojaoaaa.val8 (List.replicate 64 0)).toArray 119)) rfl (by kernel_rfl) ?_
      obtain ⟨b7, hb7⟩ : ∃ b7, b7 = wr.heap.size := ⟨_, rfl⟩
      have hA1 := heap_alloc_new wr (.cells (blkC Go.Proofs.Ytabbabkmojaoaaa.val8 (List.replicate 64 0)).toArray 119)
      have hB1 : Below wr.heap.size wr (wr.alloc (.cells (blkC Go.Proofs.Ytabbabkmojaoaaa.val8 (List.replicate 64 0)).toArray 119)) := (Below.refl _ _).alloc (Nat.le_refl _) _
      have hz1 := World.size_alloc wr (.cells (blkC Go.Proofs.Ytabbabkmojaoaaa.val8 (List.replicate 64 0)).toArray 119)
      rw [← hb7] at hA1 hB1 hz1 ⊢
      generalize wr.alloc (.cells (blkC Go.Proofs.Ytabbabkmojaoaaa.val8 (List.replicate 64 0)).toArray 119) = v1 at *
      refine wpList_store_row rfl 119 (.tmp 7) (.tmp 31) rfl b7 (blkC Go.Proofs.Ytabbabkmojaoaaa.val8 l).toArray rfl rfl 119 _ hA1 (by rw [List.size_toArray, hbs]; kernel_rfl) (by rw [List.size_toArray, List.size_toArray, hbs, blkC_length (sz := 1) (fun _ => rfl)]; rfl) (by rw [Go.Proofs.Ytabbabkmojaoaaa.blkC8_map]; exact all_oneCell_toArray (Go.Proofs.Ytabbabkmojaoaaa.val8_one _)) ?_
      have hA2 := setRow_heap v1 b7 _ (blkC Go.Proofs.Ytabbabkmojaoaaa.val8 l).toArray _ _ hA1
      have hB2 : Below b7 wr (v1.setRow b7 (blkC Go.Proofs.Ytabbabkmojaoaaa.val8 l).toArray) := ⟨hB1.os, hB1.tape, hB1.output, by rw [setRow_size]; exact hB1.size, fun k hk => by rw [setRow_other v1 b7 k _ (by omega)]; exact hB1.block k hk⟩
      have hz2 : (v1.setRow b7 (blkC Go.Proofs.Ytabbabkmojaoaaa.val8 l).toArray).heap.size = b7 + 1 := by rw [setRow_size]; exact hz1
      generalize v1.setRow b7 (blkC Go.Proofs.Ytabbabkmojaoaaa.val8 l).toArray = v2 at *
      have HB7 := Lib.hid hb7
      clear hA1 hB1 hz1 HR hb7
      go_upto_region 8 with (fail)
      change Code.wp _ _ _ _ (v2.alloc (.cells (blkC val8 (List.replicate 64 (0 : Int))).toArray 119))
      have hA3 := heap_alloc_new v2 (.cells (blkC val8 (List.replicate 64 (0 : Int))).toArray 119)
      have hB3 : Below v2.heap.size v2 (v2.alloc (.cells (blkC val8 (List.replicate 64 (0 : Int))).toArray 119)) := (Below.refl _ _).alloc (Nat.le_refl _) _
      have hz3 := World.size_alloc v2 (.cells (blkC val8 (List.replicate 64 (0 : Int))).toArray 119)
      generalize v2.alloc (.cells (blkC val8 (List.replicate 64 (0 : Int))).toArray 119) = v3 at *
      rw [hz2] at hA3 hB3 hz3
      have hA7 : v3.heap[b7]? = some (.cells (blkC Go.Proofs.Ytabbabkmojaoaaa.val8 l).toArray 119 (0, 0)) := (hB3.block b7 (by omega)).trans hA2
      have HR7 : Hid (v3.rangeAt b7 0 (blkC Go.Proofs.Ytabbabkmojaoaaa.val8 l)) := Lib.hid (by
        have := World.rangeAt_of_block hA7 0 (blkC Go.Proofs.Ytabbabkmojaoaaa.val8 l).length
        simpa using this)
      have HC3 := Lib.hid hA3
      have HB3 : Hid (Below b7 wr v3) := Lib.hid (hB2.trans (hB3.mono (by omega)))
      have HBw3 : Hid (Below w.heap.size w v3) := Lib.hid (HBe.out.trans (HB3.out.mono (by rw [HB7.out]; exact HBe.out.size)))
      have HOw3 : Hid (v3.ownsRow w.heap.size 119 64 (.slice a j c) j ((T.low.take j).flatMap (fun l => blkC val8 (l.map h)))) := Lib.hid (HOw.out.kept (row := none) ⟨HB3.out.os, HB3.out.tape, HB3.out.output, HB3.out.size, fun k hk _ => HB3.out.block k (by rw [HB7.out]; exact hk)⟩ (by cases e : (Value.slice a j c).ownBlock <;> simp))
      have HZ3 := Lib.hid hz3
      have HOlt : Hid (∀ k, (Value.slice a j c).ownBlock = some k → k < b7) := Lib.hid (fun k e => by rw [HB7.out]; exact (World.ownsRow.lt HOw.out k e).2)
      have hwb : w.heap.size ≤ b7 := by rw [HB7.out]; exact HBe.out.size
      clear hA2 hB2 hA3 hB3 hA7 hz2 hz3 v1 v2 HOw HBe
      refine wp_region_list ?_
      refine wpList_load_mid rfl 119 (.tmp 7) rfl b7 0 rfl (blkC Go.Proofs.Ytabbabkmojaoaaa.val8 l) (.array 64 5) HR7.out Try.underlying119 rfl (by rw [hbs]; kernel_rfl) ?_
      have HIx : Hid (∀ q (hq : q < l.length), (blkC Go.Proofs.Ytabbabkmojaoaaa.val8 l).toArray[q]? = some (.int .u8 (l[q]))) := Lib.hid (fun q hq => by rw [List.getElem?_toArray, blkC_get Go.Proofs.Ytabbabkmojaoaaa.val8_cells _ q hq]; rfl)
      generalize (blkC Go.Proofs.Ytabbabkmojaoaaa.val8 l).toArray = arr at *
      go_wp2
      go_loopw [33] (MaI v3 h l (b7 + 1)) (fun i _ => 64 - (intOf i).toNat)
      case atStart => exact ⟨0, List.replicate 64 0, Nat.zero_le _, rfl, List.length_replicate, fun p hp => by omega, HC3.out, Below.refl _ _⟩
      case round =>
        obtain ⟨q, cs, hq, rfl, hcl, hcs, hcell, hbel⟩ := hrel
        have HCs := Lib.hid hcs; clear hcs
        have HCe := Lib.hid hcell; clear hcell
        have HBe := Lib.hid hbel; clear hbel
        have HBwr : Hid (Below w.heap.size w wr) := Lib.hid (HBw3.out.trans (HBe.out.mono (by omega)))
        by_cases hqn : q < 64
        · have hqi : (q : Int) < 64 := by omega
          have a1 := run_index_low arr q _ hqn (HIx.out q (by omega)) wr
          have HCv := Lib.hid (HCl.out (l[q]'(by omega)) wr (HMem.out _ (List.getElem_mem _)) HBwr.out)
          have HLq : Hid (l[q]? = some (l[q]'(by omega))) := Lib.hid (List.getElem?_eq_getElem _)
          generalize l[q]'(by omega) = x at *
          have heg := HEg.out
          go_wp2_with fail
          refine HCv.out.mono ?_
          rintro e w5 ⟨rfl, hb5⟩
          have hbcl : b7 + 1 < wr.heap.size := (Array.getElem?_eq_some_iff.1 HCe.out).1
          have HC5 := Lib.hid ((hb5.block (b7 + 1) hbcl).trans HCe.out)
          have HB5 : Hid (Below (b7 + 1) v3 w5) := Lib.hid (HBe.out.trans (hb5.mono (by omega)))
          obtain ⟨z1, q1⟩ : ∃ v, w5.cell? ⟨b7 + 1, q, none⟩ = some v := by
            rw [cell_of_row w5 (b7 + 1) q _ _ (0, 0) HC5.out, blkC8_map]
            exact ⟨_, by rw [List.getElem?_toArray, List.getElem?_map, List.getElem?_eq_getElem (by omega)]; rfl⟩
          have f1 := frozen_of_row w5 (b7 + 1) q _ _ HC5.out
          have HC6 : Hid ((w5.setCell ⟨b7 + 1, q, none⟩ (val8 (h x))).heap[b7 + 1]? = some (.cells (blkC val8 (cs.set q (h x))).toArray 119 (0, 0))) := Lib.hid (by
            rw [heap_setCell_same w5 (b7 + 1) q _ _ (val8 (h x)) HC5.out, blkC8_map, blkC8_map, List.map_set]
            simp)
          have HB6 : Hid (Below (b7 + 1) v3 (w5.setCell ⟨b7 + 1, q, none⟩ (val8 (h x)))) := Lib.hid (HB5.out.setCell (p := ⟨b7 + 1, q, none⟩) (Nat.le_refl _) _)
          have HCs6 : Hid (∀ p, p < q + 1 → (cs.set q (h x))[p]? = (l[p]?).map h) := Lib.hid (fun p hp => by
            by_cases e : q = p
            · subst e
              rw [List.getElem?_set_self (by omega), HLq.out]
              rfl
            · rw [List.getElem?_set_ne e]
              exact HCs.out p (by omega))
          have hcl6 : (cs.set q (h x)).length = 64 := by simpa using hcl
          clear hb5 HCv HLq
          generalize hw6 : w5.setCell ⟨b7 + 1, q, none⟩ (val8 (h x)) = w6 at *
          generalize cs.set q (h x) = cs6 at *
          generalize h x = y at *
          unfold val8 at hw6
          unfold val8
          go_wp2
          go_roundw
          case rel => exact ⟨q + 1, cs6, by omega, by go_num, hcl6, HCs6.out, HC6.out, HB6.out⟩
          case measure => simp [intOf]; omega
        · obtain rfl : q = 64 := by omega
          have hcs : cs = l.map h := by
            apply List.ext_getElem?
            intro p
            by_cases hp : p < 64
            · rw [HCs.out p hp, List.getElem?_map]
            · rw [List.getElem?_eq_none (by omega), List.getElem?_eq_none (by simp; omega)]
          have hcbs : (blkC val8 cs).length = 64 := by rw [blkC_length (sz := 1) (fun _ => rfl), hcl]
          have HRc : Hid (wr.rangeAt (b7 + 1) 0 (blkC val8 cs)) := Lib.hid (by
            have := World.rangeAt_of_block HCe.out 0 (blkC val8 cs).length
            simpa using this)
          have HOw4 : Hid (wr.ownsRow w.heap.size 119 64 (.slice a j c) j ((T.low.take j).flatMap (fun l => blkC val8 (l.map h)))) := Lib.hid (HOw3.out.kept (row := some (b7 + 1)) ⟨HBe.out.os, HBe.out.tape, HBe.out.output, HBe.out.size, fun k hk hne => HBe.out.block k (by have := HZ3.out; have : k ≠ b7 + 1 := fun e => hne (by rw [e]); omega)⟩ (by
            cases e : (Value.slice a j c).ownBlock with
            | none => exact .inl rfl
            | some k => exact .inr (fun e2 => by cases e2; have := HOlt.out _ e; omega)))
          have HCq := Lib.hid hcs; clear hcs
          have hbase : w.heap.size ≤ wr.heap.size := HBwr.out.size
          have hj2 : j < 17408 := by omega
          go_upto_region 13 with (fail)
          refine wp_region_list ?_
          refine wpList_val (v := .slice a j c) (w' := wr) rfl (by rfl) ?_
          refine wpList_load_mid rfl 119 (.tmp 8) rfl (b7 + 1) 0 rfl (blkC val8 cs) (.array 64 5) HRc.out Try.underlying119 rfl (by rw [hcbs]; kernel_rfl) ?_
          refine wpList_val (v := .slice (some ⟨wr.heap.size, 0, none⟩) 1 1) (w' := wr.alloc (.cells (blkC val8 cs).toArray 119)) rfl (by go_simp; exact congrArg (fun c => wr.alloc (.cells c 119)) (fill_all (blkC val8 cs) _ (by rw [hcbs]; rfl))) ?_
          refine wpList_appN Try.elemB8 rfl (.tmp 43) (.tmp 45) rfl HOw4.out hbase (by omega) (by omega) (blkC val8 cs).toArray (by rw [List.size_toArray, hcbs]) (fun u hu => blkC8_one cs u hu) 119 rfl rfl ?_
          intro a' c' w5 ho5 hg5 hn5
          have HOw5 : Hid (w5.ownsRow w.heap.size 119 64 (.slice a' (j + 1) c') (j + 1) ((T.low.take (j + 1)).flatMap (fun l => blkC val8 (l.map h)))) := Lib.hid (by
            rw [HTk.out, ← HCq.out]
            exact ho5)
          have HB5 : Hid (Below w.heap.size w w5) := Lib.hid (HBwr.out.trans (below_grown hg5 (fun k e => (World.ownsRow.lt HOw4.out k e).1) hbase))
          clear ho5 hg5 hn5 HCq
          go_wp2
          go_roundw
          case rel => exact ⟨j + 1, a', c', by omega, by go_num, rfl, HOw5.out, HB5.out⟩
          case measure => simp [intOf]; omega
    · obtain rfl : j = nl := by omega
      have hji : ¬ (j : Int) < (j : Int) := by omega
      obtain ⟨w2, rfl⟩ : ∃ w2, w2 = wr := ⟨_, rfl⟩
      have hjT : (T.low.map (List.map h)).length = j := by rw [List.length_map, HNl.out]
      have HTur : Hid (BlocksAt val8 64 w2 a (T.low.map (List.map h))) := Lib.hid (by
        refine blocks_of_row (B := w.heap.size) (m := 64) (E := 119) (c := c) ?_ (fun l hl => ?_)
        · rw [hjT]
          have := HOw.out
          rwa [List.take_of_length_le (by rw [HNl.out]; exact Nat.le_refl _), ← List.flatMap_map] at this
        · obtain ⟨m, hm, rfl⟩ := List.mem_map.1 hl
          rw [blkC_length (sz := 1) (fun _ => rfl), List.length_map, HK.out.low _ hm])
      obtain ⟨ba, oa, rfl⟩ := HTur.out.some (by omega)
      obtain ⟨f, hf⟩ : ∃ f : Nat → Int, f = fun r => h (lookT 0 T r) := ⟨_, rfl⟩
      have HFf := Lib.hid (show ∀ k, k < 17408 → (lowAt T k).map h = blkF f k from fun k hk => by rw [hf]; exact lowAt_map h T HK.out k hk)
      have HFe := Lib.hid hf; clear hf
      have HT2 := Lib.hid (HT0.out.below HBe.out (Nat.le_refl _))
      have HBw2 := Lib.hid HBe.out
      clear HCl HOw HBe HG1 HG2 HG3 HT0 HTh c2
      go_wp2_with fail
      refine (begin8_walk w2).mono ?_
      rintro e w3 ⟨rfl, hm, hb⟩
      have HM3 := Lib.hid hm
      have HB3 := Lib.hid hb; clear hm hb
      obtain ⟨am1, cm1, al1, cl1, hh1, hh2, hh3⟩ := HT2.out
      have HG1 := Lib.hid hh1; have HG2 := Lib.hid hh2
      clear hh1 hh2 hh3
      have hh1 := (HB3.out.block g (Array.getElem?_eq_some_iff.1 HG1.out).1).trans HG1.out
      have HR0 : Hid (w3.rangeAt g 0 (blkC num16 T.top)) := Lib.hid (by
        intro j v hv
        have hjl : j < T.top.length := by
          have := (List.getElem?_eq_some_iff.1 hv).1
          rw [blkC_length (sz := 1) (fun _ => rfl)] at this
          omega
        rw [Nat.zero_add, TrieAt.cell_top (val := Go.Proofs.Ytabbabkmojaoaaa.val8) HK.out hh1 j (by rw [← HK.out.top]; exact hjl), getD_at (d := 0) hjl, ← hv, blkC_get num16_cells _ j hjl])
      have hts : (blkC num16 T.top).length = 272 := by rw [blkC_length (sz := 1) (fun _ => rfl), HK.out.top]
      clear hh1
      have hh16 : w2.heap.size + 3 < w3.heap.size := by have := HM3.out.lt; omega
      go_upto_region 16 with (fail)
      refine wp_region_list ?_
      refine wpList_val (v := .pointer (some ⟨g, 0, none⟩)) (w' := w3) rfl (by rfl) ?_
      refine wpList_val (v := .pointer (some ⟨g, 0, none⟩)) (w' := w3) rfl (by rfl) ?_
      refine wpList_val (v := .pointer (some ⟨g, 0, none⟩)) (w' := w3) rfl (by go_simp) ?_
      refine wpList_load_mid rfl 110 (.tmp 51) rfl g 0 rfl (blkC num16 T.top) (.array 272 91) HR0.out Try.underlying110 rfl (by rw [hts]; kernel_rfl) ?_
      have HTop : Hid (∀ c, c < 272 → (blkC num16 T.top).toArray[c]? = some (num16 (T.top.getD c 0))) := Lib.hid (fun c hc => by
        have hcl : c < T.top.length := by rw [HK.out.top]; exact hc
        rw [List.getElem?_toArray, blkC_get num16_cells _ c hcl, getD_at (d := 0) hcl])
      generalize (blkC num16 T.top).toArray = top at *
      clear hts HR0
      go_wp2
      go_loopw [53] (MaO w2 f) (fun i _ => 272 - (intOf i).toNat)
      case atStart => exact ⟨0, none, 0, none, 0, Nat.zero_le _, rfl, HB3.out, HM3.out⟩
      case round =>
        obtain ⟨c4, am4, cm4, al4, cl4, hc4, rfl, hbel, hmk⟩ := hrel
        have HBe := Lib.hid hbel; clear hbel
        have HMk := Lib.hid hmk; clear hmk
        by_cases hcn : c4 < 272
        · have hci : (c4 : Int) < 272 := by omega
          have a1 := run_index_top top c4 _ hcn (HTop.out c4 hcn) wr
          have htl : c4 < T.top.length := by rw [HK.out.top]; exact hcn
          have hil : T.top.getD c4 0 < T.mid.length := by rw [getD_at (d := 0) htl]; exact HK.out.topN _ (List.getElem_mem htl)
          obtain ⟨i, hi⟩ : ∃ i, i = T.top.getD c4 0 := ⟨_, rfl⟩
          rw [← hi] at a1 hil
          have HI := Lib.hid hi; clear hi
          have c1 := TrieAt.cell_mid (val := Go.Proofs.Ytabbabkmojaoaaa.val8) HK.out ((HBe.out.block g (by have := (Array.getElem?_eq_some_iff.1 HG1.out).1; omega)).trans HG1.out)
          obtain ⟨bm, om, rfl⟩ := HG2.out.some (by omega)
          have HR := Lib.hid (rangeAt_below (HG2.out.get i hil) HBe.out (Nat.le_refl _))
          have hml : (T.mid[i]).length = 64 := HK.out.mid _ (List.getElem_mem hil)
          have hms : (blkC num16 T.mid[i]).length = 64 := by rw [blkC_length (sz := 1) (fun _ => rfl), hml]
          have hnm : T.mid.length ≤ 272 := HK.out.midL
          have HMid : Hid (∀ j, j < 64 → (blkC num16 T.mid[i]).toArray[j]? = some (num16 ((T.mid.getD i []).getD j 0))) := Lib.hid (fun j hj => by
            rw [List.getElem?_toArray, blkC_get num16_cells _ j (by omega), getD_at (d := []) hil, getD_at (d := 0) (by omega)])
          unfold num16 at a1
          have g1 : (0 : Int) ≤ (i : Int) := by omega
          have g2 : (i : Int) < ((T.mid.length : Nat) : Int) := by omega
          generalize hnn : T.mid.length = nm at c1 g2 hnm
          clear hnn
          go_upto_region 19 with (fail)
          refine wp_region_list ?_
          refine wpList_val (v := .pointer (some ⟨g, 0, none⟩)) (w' := wr) rfl (by rfl) ?_
          refine wpList_val (v := .pointer (some ⟨g, 0, none⟩)) (w' := wr) rfl (by rfl) ?_
          refine wpList_val (v := .pointer (some ⟨g, 272, none⟩)) (w' := wr) rfl (by go_simp) ?_
          refine wpList_val (v := .slice (some ⟨bm, om, none⟩) nm cm1) (w' := wr) rfl (by go_simp) ?_
          refine wpList_val (v := .int .u16 (i : Nat)) (w' := wr) rfl (by rfl) ?_
          refine wpList_val (v := .pointer (some ⟨bm, om + i * 64, none⟩)) (w' := wr) rfl (by go_simp) ?_
          refine wpList_load_mid rfl 120 (.tmp 61) rfl bm (om + i * 64) rfl (blkC num16 T.mid[i]) (.array 64 91) HR.out Try.underlying120 rfl (by rw [hms]; kernel_rfl) ?_
          generalize (blkC num16 T.mid[i]).toArray = mid at *
          clear hms HR c1 g1 g2 hnm a1
          go_wp2
          go_loopw [63] (MaP w2 f c4) (fun i _ => 64 - (intOf i).toNat)
          case atStart => exact ⟨0, am4, cm4, al4, cl4, Nat.zero_le _, rfl, HBe.out, HMk.out⟩
          case round =>
            obtain ⟨k, am5, cm5, al5, cl5, hk, rfl, hbel, hmk⟩ := hrel
            have HBe5 := Lib.hid hbel; clear hbel
            have HMk5 := Lib.hid hmk; clear hmk
            by_cases hkn : k < 64
            · have hki : (k : Int) < 64 := by omega
              have b1 := run_index_mid mid k _ hkn (HMid.out k hkn) wr
              have hkk : 64 * c4 + k < 17408 := by omega
              have hLow : lowAt T (64 * c4 + k) = T.low.getD ((T.mid.getD i []).getD k 0) [] := by
                unfold lowAt
                rw [show (64 * c4 + k) / 64 = c4 by omega, show (64 * c4 + k) % 64 = k by omega, ← HI.out]
              have hmj : k < (T.mid[i]).length := by rw [hml]; exact hkn
              have hll2 : (T.mid.getD i []).getD k 0 < T.low.length := by
                rw [getD_at (d := []) hil, getD_at (d := 0) hmj]
                exact HK.out.midN _ (List.getElem_mem hil) _ (List.getElem_mem hmj)
              obtain ⟨q, hq⟩ : ∃ q, q = (T.mid.getD i []).getD k 0 := ⟨_, rfl⟩
              rw [← hq] at b1 hLow hll2
              have hqT : q < (T.low.map (List.map h)).length := by rw [List.length_map]; exact hll2
              have HRl : Hid (wr.rangeAt ba (oa + q * 64) (blkC val8 (blkF f (64 * c4 + k)))) := Lib.hid (by
                rw [← HFf.out _ hkk, hLow, getD_at (d := []) hll2]
                have := HTur.out.get q hqT
                rw [List.getElem_map] at this
                exact rangeAt_below this HBe5.out (Nat.le_refl _))
              have hbF : (blkC val8 (blkF f (64 * c4 + k))).length = 64 := by rw [blkC_length (sz := 1) (fun _ => rfl), blkF_length]
              have hqj : q < j := by rw [HNl.out]; exact hll2
              clear hq hLow
              unfold num16 at b1
              have g3 : (0 : Int) ≤ (q : Int) := by omega
              have g4 : (q : Int) < (j : Int) := by omega
              obtain ⟨hk1, hk2, hk3, hk4⟩ := mkF_ok f (64 * c4 + k)
              have HKf := Lib.hid hk1; clear hk1
              go_upto_region 22 with (fail)
              refine wp_region_list ?_
              refine wpList_val (v := .pointer (some ⟨w2.heap.size + 3, 0, none⟩)) (w' := wr) rfl (by rfl) ?_
              refine wpList_val (v := .slice (some ⟨ba, oa, none⟩) j c) (w' := wr) rfl (by rfl) ?_
              refine wpList_val (v := .int .u16 (q : Nat)) (w' := wr) rfl (by rfl) ?_
              refine wpList_val (v := .pointer (some ⟨ba, oa + q * 64, none⟩)) (w' := wr) rfl (by go_simp) ?_
              refine wpList_load_mid rfl 119 (.tmp 69) rfl ba (oa + q * 64) rfl (blkC val8 (blkF f (64 * c4 + k))) (.array 64 5) HRl.out Try.underlying119 rfl (by rw [hbF]; kernel_rfl) ?_
              go_wp2_with fail
              refine (add8_walk wr w2.heap.size (mkF f (64 * c4 + k)) (blkF f (64 * c4 + k)) am5 cm5 al5 cl5 HKf.out (blkF_length _ _) (by omega) (by omega) (by omega) HMk5.out).mono ?_
              rintro e w7 ⟨rfl, am', cm', al', cl', hm7, ha7⟩
              have hB7 := ha7.to_below (fun k' e => by rw [← ob_eq am5 (mkF f (64 * c4 + k)).mids.length cm5] at e; have := (World.ownsRow.lt HMk5.out.rm k' e).1; omega) (fun k' e => by rw [← ob_eq al5 (mkF f (64 * c4 + k)).lows.length cl5] at e; have := (World.ownsRow.lt HMk5.out.rl k' e).1; omega) HBe5.out.size
              have HM7 := Lib.hid hm7
              have HB7 := Lib.hid (HBe5.out.trans hB7)
              clear hm7 ha7 hB7 hk2 hk3 hk4
              go_wp2
              go_roundw
              case rel => exact ⟨k + 1, am', cm', al', cl', by omega, by go_num, HB7.out, HM7.out⟩
              case measure => simp [intOf]; omega
            · obtain rfl : k = 64 := by omega
              have HM6 : Hid (MkAt val8 1 135 114 120 119 wr w2.heap.size (mkF f (64 * (c4 + 1))) (mkF f (64 * (c4 + 1))).lows (mkF f (64 * (c4 + 1))).mids am5 cm5 al5 cl5) := Lib.hid HMk5.out
              go_wp2
              go_roundw
              case rel => exact ⟨c4 + 1, am5, cm5, al5, cl5, by omega, by go_num, HBe5.out, HM6.out⟩
              case measure => simp [intOf]; omega
        · obtain rfl : c4 = 272 := by omega
          have HM8 : Hid (MkAt val8 1 135 114 120 119 wr w2.heap.size (mkF f 17408) (mkF f 17408).lows (mkF f 17408).mids am4 cm4 al4 cl4) := Lib.hid HMk.out
          have c0 := HM8.out.c_t
          go_wp2
          go_ret
          have hM := made8 f 17408 rfl
          have hm8 := HM8.out
          generalize mkF f 17408 = S at *
          exact ⟨_, S, rfl, HBw2.out.size, HBw2.out.trans (HBe.out.mono HBw2.out.size), HFe.out ▸ hM, trieS_at hM hm8⟩
end Go.Proofs.Ytabbabkmojaoaaa
