/-
  The walks of the library's Clone (of numbers of sixteen bits) and of 'Parts'.
-/
import Derived.Deep.RegionHeld3
import Derived.Deep.RegionLaw
import Derived.Test.YtabbabkmojaoaaaTQ
set_option linter.unusedVariables false
set_option linter.unusedSimpArgs false
namespace Go.Proofs.Ytabbabkmojaoaaa
open Go.RowKit

theorem Try.elemI16 : Elem Try.prog 76 91 (.int .u16 0) 2 := ⟨Try.underlying76, by kernel_rfl, by kernel_rfl⟩
theorem Try.elemI8 : Elem Try.prog 77 5 (.int .u8 0) 1 := ⟨Try.underlying77, by kernel_rfl, by kernel_rfl⟩
theorem Clone16_walk (ad : Addr) (n c : Nat) (xs : List Value) (w : World) (hn : xs.length = n) (hlt : n ≤ 1048576) (hc : Vals w (some ad) xs) (h1 : ∀ u ∈ xs, u.oneCell' = true) :
    Calls Try.prog 87 #[.slice (some ad) n c] w fun e w' => ∃ a' c', e = .returned (.slice a' n c') ∧ Own w.heap.size 91 w' a' n c' xs ∧ Below w.heap.size w w' := by
  have HC := Lib.hid hc; clear hc
  have HN := Lib.hid hn; clear hn
  have hnil : ∀ w : World, (binOp .eql 76 (.slice (some ad) n c) (.slice none 0 0)).run Try.prog w = .ok (.bool false) w := fun w => Lib.run_eql_slice_nil w _ _ _ _ _ _ _ Try.underlying76
  have HO : Hid (Own w.heap.size 91 (w.alloc (.cells #[] 91)) (some ⟨w.heap.size, 0, none⟩) 0 0 []) := Lib.hid ⟨by simp, .inr ⟨w.heap.size, 0, #[], rfl, Nat.le_refl _, heap_alloc_new w _, Nat.le_refl _, Nat.zero_le _, rfl, rfl⟩⟩
  have HV : Hid (Vals (w.alloc (.cells #[] 91)) (some ad) xs) := Lib.hid (fun j hj => by
    obtain ⟨b, o, e, h⟩ := HC.out j hj
    exact ⟨b, o, e, cell_allocN h _⟩)
  go_enter Try.func87, Try.ntmps87
  go_wp2_with (at_builtin; refine wpList_appS Try.elemI16 rfl (.tmp 5) (.tmp 6) rfl HO.out (by simp) HN.out HV.out (by simp) h1 (by omega) (by unfold maxLen; omega) rfl rfl ?_)
  intro a2 cap2 w2 hown2 hg hb
  have HB := Lib.hid (((Below.refl _ w).alloc (Nat.le_refl _) (.cells #[] 91)).trans (HO.out.app hg (by simp)))
  have HO2 : Hid (Own w.heap.size 91 w2 a2 n cap2 xs) := Lib.hid (by simpa using hown2)
  clear hg hb hown2
  go_wp2
  go_ret
  exact ⟨_, _, rfl, HO2.out, HB.out⟩

theorem anyC_appS {F : Fence} {nF : Nat} {P : Program} {md : Region.Mode} {ops : Array Oper} {Q : Exit → Act → World → Prop} {C : World → Prop} {M : List Nat} {i : Nat} {o : Oper} {f : Nat} {l : Array Bool} {act : Act} {t e : TypeId} {z : Value} {bytes : Nat} (el : Elem P t e z bytes) {w : World} (hr : Region.ready md ops l = [i]) (hi : ops[i]? = some o) (hc : calmOp o = true)
    (hwt : Region.wanted o (yielded ops act.tmps) = true) (s x : Operand)
    (ho : o.op = .call { callee := .builtin .append, args := #[s, x], argTypes := #[t, t] }) {B : Nat} {a : Option Addr} {n cap : Nat} {xs : List Value} (hown : Own B e w a n cap xs) (hB : B ≤ w.heap.size)
    {ad : Addr} {m c : Nat} {ys : List Value} (hys : ys.length = m) (hsrc : Vals w (some ad) ys) (hone : ∀ u ∈ ys, u.oneCell' = true) (hn : (n + m) * bytes ≤ 140737488355328) (hm : n + m ≤ maxLen)
    (hs : act.eval s = .slice a n cap) (hx : act.eval x = .slice (some ad) m c)
    (hC : ∀ w', w.grownBy w' (Value.slice a n cap).ownBlock → C w')
    (h : ∀ a' cap' w', Own B e w' a' (n + m) cap' (xs ++ ys) → w.grownBy w' (Value.slice a n cap).ownBlock → newBlock w (.slice a n cap) (.slice a' (n + m) cap') → anyC F nF P md ops Q M C f (l.setIfInBounds i true) (act.put o.dst (.slice a' (n + m) cap')) w') :
    anyC F nF P md ops Q M C (f + 1) l act w := by
  obtain ⟨i', hi', hz, h1, hb⟩ := info_parts el.inf
  have hcell : ∀ j v, ys[j]? = some v → w.cell? (ad.add j) = some v := by
    intro j v hv
    obtain ⟨hj, hv2⟩ := List.getElem?_eq_some_iff.1 hv
    obtain ⟨b, o, h3, h4⟩ := hsrc j hj
    obtain rfl := Option.some.inj h3
    rw [Addr.add_lit, h4, hv2]
  obtain ⟨v', w', hr', h2, h3, h4⟩ := run_app (P := P) w B t o.type e i' z 1 bytes el.und hi' hz h1 hb el.one (by decide) _ n xs hown ad m c ys (by simpa using hys) hcell hone hm hn hB
  have hv' : ∃ a' cap', v' = .slice a' (n + m) cap' := by
    rcases h2.2 with ⟨rfl, h0⟩ | ⟨g, cap', cur, rfl, _⟩
    · exact ⟨none, 0, by rw [h0]⟩
    · exact ⟨_, _, rfl⟩
  obtain ⟨a', cap', rfl⟩ := hv'
  refine anyC_one hr hi hc hwt (v := .slice a' (n + m) cap') (w' := w') ?_ (hC w' h3) (h a' cap' w' h2 h3 h4)
  unfold execOp
  simp only [ho, resolve, invoke, builtin, Sem.run_bind, Sem.run_pure, Result.andThen_ok, List.map_toArray, List.map_cons, List.map_nil, hs, hx, hr']
theorem own_keep {B B' : Nat} {E : TypeId} {w w' : World} {a : Option Addr} {n c : Nat} {xs : List Value} (h : Own B E w a n c xs) (hB : B' ≤ B) (hk : ∀ k, (Value.slice a n c).ownBlock = some k → w'.heap[k]? = w.heap[k]?) : Own B' E w' a n c xs := by
  refine ⟨h.1, ?_⟩
  rcases h.2 with hn | ⟨g, cap, cur, e, hb, hg, rest⟩
  · exact .inl hn
  · exact .inr ⟨g, cap, cur, e, by omega, by rw [hk g (by rw [e]; rfl)]; exact hg, rest⟩
/-- the numbers of blocks, one behind the other -/
def flatV {α : Type} (val : α → Value) (L : List (List α)) : List Value := L.flatMap (fun l => l.map val)
theorem flatV_snoc {α : Type} (val : α → Value) (L : List (List α)) (l : List α) : flatV val (L ++ [l]) = flatV val L ++ l.map val := by simp [flatV]
theorem blkC16_map (b : List Nat) : blkC num16 b = b.map num16 := by
  induction b with
  | nil => rfl
  | cons a l ih => rw [blkC, List.flatMap_cons, ← blkC, ih, num16_cells]; rfl
theorem num16_one (b : List Nat) : ∀ u ∈ b.map num16, u.oneCell' = true := fun u hu => by
  obtain ⟨x, -, rfl⟩ := List.mem_map.1 hu
  rfl
theorem val8_one (b : List Int) : ∀ u ∈ b.map val8, u.oneCell' = true := fun u hu => by
  obtain ⟨x, -, rfl⟩ := List.mem_map.1 hu
  rfl
/-- between two rounds: the parts' own variable, the row that grows -/
def PaM (W0 : World) (bp n : Nat) (at_ : Option Addr) (ct : Nat) (L : List (List Nat)) (i : Value) (wr : World) : Prop :=
  ∃ (k : Nat) (a : Option Addr) (c : Nat), k ≤ n ∧ i = .int .i64 k ∧ wr.heap[bp]? = some (.cells #[.slice at_ 272 ct, .slice a (64 * k) c, .slice none 0 0] 79 (0, 0)) ∧
    Own W0.heap.size 91 wr a (64 * k) c (flatV num16 (L.take k)) ∧ But W0.heap.size (fun b => b = bp) W0 wr

def PaL (W0 : World) (bp n : Nat) (at_ : Option Addr) (ct : Nat) (am : Option Addr) (nm cm : Nat) (L : List (List Int)) (i : Value) (wr : World) : Prop :=
  ∃ (k : Nat) (a : Option Addr) (c : Nat), k ≤ n ∧ i = .int .i64 k ∧ wr.heap[bp]? = some (.cells #[.slice at_ 272 ct, .slice am nm cm, .slice a (64 * k) c] 79 (0, 0)) ∧
    Own W0.heap.size 5 wr a (64 * k) c (flatV val8 (L.take k)) ∧ But W0.heap.size (fun b => b = bp) W0 wr

set_option maxRecDepth 100000 in
set_option maxHeartbeats 1600000 in
theorem Parts8_walk (w : World) (g : Nat) (T : TrieD Int) (hk : TrieOk T) (h0 : 0 < T.low.length) (h : TrieAt val8 114 64 w g T) :
    Calls Try.prog 44 #[.pointer (some ⟨g, 0, none⟩)] w fun e w' => ∃ at_ ct am cm al cl, e = .returned (.agg #[.slice at_ 272 ct, .slice am (64 * T.mid.length) cm, .slice al (64 * T.low.length) cl]) ∧
      Own w.heap.size 91 w' at_ 272 ct (T.top.map num16) ∧ Own w.heap.size 91 w' am (64 * T.mid.length) cm (flatV num16 T.mid) ∧ Own w.heap.size 5 w' al (64 * T.low.length) cl (flatV val8 T.low) ∧ Below w.heap.size w w' := by
  obtain ⟨bz, hbz⟩ : ∃ bz, bz = w.heap.size := ⟨_, rfl⟩
  have hgl : g < w.heap.size := by obtain ⟨am, cm, al, cl, h1, -⟩ := h; exact (Array.getElem?_eq_some_iff.1 h1).1
  have HK := Lib.hid hk; clear hk
  have H := Lib.hid h; clear h
  refine calls_of_wpM Try.func44 rfl ?_
  simp only [Try.ntmps44, List.size_toArray, List.length_cons, List.length_nil, Nat.reduceAdd, Nat.reduceSub, Array.replicate_succ, Array.replicate_zero, List.push_toArray, List.append_toArray, List.nil_append, List.cons_append]
  have HW1 : Hid (Below w.heap.size w ((w.alloc (.cells #[.slice none 0 0, .slice none 0 0, .slice none 0 0] 79)).alloc (.cells #[.slice none 0 0, .slice none 0 0, .slice none 0 0] 79)) ∧
      ((w.alloc (.cells #[.slice none 0 0, .slice none 0 0, .slice none 0 0] 79)).alloc (.cells #[.slice none 0 0, .slice none 0 0, .slice none 0 0] 79)).heap[bz]? = some (.cells #[.slice none 0 0, .slice none 0 0, .slice none 0 0] 79 (0, 0)) ∧
      ((w.alloc (.cells #[.slice none 0 0, .slice none 0 0, .slice none 0 0] 79)).alloc (.cells #[.slice none 0 0, .slice none 0 0, .slice none 0 0] 79)).heap[bz + 1]? = some (.cells #[.slice none 0 0, .slice none 0 0, .slice none 0 0] 79 (0, 0)) ∧
      ((w.alloc (.cells #[.slice none 0 0, .slice none 0 0, .slice none 0 0] 79)).alloc (.cells #[.slice none 0 0, .slice none 0 0, .slice none 0 0] 79)).heap.size = bz + 1 + 1) := Lib.hid (by
    rw [hbz]
    refine ⟨((Below.refl _ w).alloc (Nat.le_refl _) _).alloc (by simp) _, ?_, ?_, by simp⟩
    · rw [Below.heap_alloc _ _ _ (by simp)]
      exact heap_alloc_new w _
    · have := heap_alloc_new (w.alloc (.cells #[.slice none 0 0, .slice none 0 0, .slice none 0 0] 79)) (.cells #[.slice none 0 0, .slice none 0 0, .slice none 0 0] 79)
      simpa using this)
  go_upto_region 2 with (fail)
  rw [← hbz]
  generalize ((w.alloc (.cells #[.slice none 0 0, .slice none 0 0, .slice none 0 0] 79)).alloc (.cells #[.slice none 0 0, .slice none 0 0, .slice none 0 0] 79)) = w1 at *
  have HBz := Lib.hid hbz
  have H1 := Lib.hid (H.out.below HW1.out.1 (Nat.le_refl _))
  have hgz : g < bz := by rw [hbz]; exact hgl
  clear hbz
  go_wp2_with fail
  refine (there8_walk w1 g T HK.out h0 H1.out).mono ?_
  rintro e w2 ⟨rfl, rfl⟩
  obtain ⟨am0, cm0, al0, cl0, hg1, hg2, hg3⟩ := H1.out
  have HG1 := Lib.hid hg1; clear hg1
  have HG2 := Lib.hid hg2; clear hg2
  have HG3 := Lib.hid hg3; clear hg3
  have HVt : Hid (Vals w1 (some ⟨g, 0, none⟩) (T.top.map num16)) := Lib.hid (fun j hj => by
    refine ⟨g, 0, rfl, ?_⟩
    have hj2 : j < 272 := by rw [List.length_map, HK.out.top] at hj; exact hj
    rw [Nat.zero_add, TrieAt.cell_top (val := val8) HK.out HG1.out j hj2, List.getElem_map]
    rw [getD_at (d := 0) (by rw [HK.out.top]; exact hj2)])
  go_wp2_with fail
  refine (Clone16_walk ⟨g, 0, none⟩ 272 272 (T.top.map num16) w1 (by rw [List.length_map, HK.out.top]) (by omega) HVt.out (num16_one _)).mono ?_
  rintro e w3 ⟨at_, ct, rfl, ho, hb⟩
  have HOt := Lib.hid ho
  have HB3 := Lib.hid hb
  have HZ3 := Lib.hid ((hb.block bz (by rw [HW1.out.2.2.2]; omega)).trans HW1.out.2.1)
  have HP3 := Lib.hid ((hb.block (bz + 1) (by rw [HW1.out.2.2.2]; omega)).trans HW1.out.2.2.1)
  clear ho hb HVt
  have p0 := cell_of_row w3 (bz + 1) 0 _ _ (0, 0) HP3.out
  have f0 := frozen_of_row w3 (bz + 1) 0 _ _ HP3.out
  simp at p0
  obtain ⟨bp, hbp⟩ : ∃ bp, bp = bz + 1 := ⟨_, rfl⟩
  have HBp := Lib.hid hbp; clear hbp
  go_upto_region 5 with (fail)
  have hbp := HBp.out
  rw [← hbp] at HP3 p0 f0 ⊢
  obtain ⟨w4, hw4⟩ : ∃ w4, w4 = w3.setCell ⟨bp, 0, none⟩ (.slice at_ 272 ct) := ⟨_, rfl⟩
  have HP4 : Hid (w4.heap[bp]? = some (.cells #[.slice at_ 272 ct, .slice none 0 0, .slice none 0 0] 79 (0, 0))) := Lib.hid (by
    have := heap_setCell_same w3 bp 0 _ _ (.slice at_ 272 ct) HP3.out
    rw [hw4]
    simpa using this)
  have HZ4 : Hid (w4.heap[bz]? = some (.cells #[.slice none 0 0, .slice none 0 0, .slice none 0 0] 79 (0, 0))) := Lib.hid (by
    rw [hw4, heap_setCell_other w3 ⟨bp, 0, none⟩ bz _ (by simp; omega)]
    exact HZ3.out)
  have HB4 : Hid (Below bz w w4) := Lib.hid (by
    rw [hw4, HBz.out]
    exact (below_sq HW1.out.1 HB3.out).setCell (p := ⟨bp, 0, none⟩) (by show w.heap.size ≤ bp; rw [hbp, HBz.out]; omega) _)
  have hs4 : bp < w4.heap.size := (Array.getElem?_eq_some_iff.1 HP4.out).1
  have HOt4 : Hid (Own w1.heap.size 91 w4 at_ 272 ct (T.top.map num16)) := Lib.hid (by
    rw [hw4]
    refine HOt.out.kept (grown_store w3 bp 0 _) ?_
    cases e : (Value.slice at_ 272 ct).ownBlock with
    | none => exact .inl rfl
    | some k => exact .inr (fun e2 => by cases e2; have := (World.ownsRow.lt HOt.out _ e).1; have := HW1.out.2.2.2; omega))
  have hs14 : w1.heap.size ≤ w4.heap.size := by rw [hw4]; simpa using HB3.out.size
  rw [← hw4]
  clear hw4 HP3 p0 f0 HOt HZ3 HB3
  have hbp2 : bz < bp := by omega
  clear hbp
  obtain ⟨am1, cm1, al1, cl1, hh1, hh2, hh3⟩ := H.out
  have HT4 := Lib.hid (H.out.below HB4.out (by rw [HBz.out]; exact Nat.le_refl _))
  have HM0 := Lib.hid hh2
  have HL0 := Lib.hid hh3
  have g4 : w4.heap[g]? = some (.cells (trieC T am1 cm1 al1 cl1).toArray 114 (0, 0)) := (HB4.out.block g hgz).trans hh1
  have HG4 := Lib.hid g4; clear g4 hh1 hh2 hh3
  have c1 := TrieAt.cell_mid (val := val8) HK.out HG4.out
  obtain ⟨nm, hnm⟩ : ∃ nm, nm = T.mid.length := ⟨_, rfl⟩
  have hnm2 : nm ≤ 272 := by rw [hnm]; exact HK.out.midL
  rw [← hnm] at c1
  have HNm := Lib.hid hnm; clear hnm
  go_wp2
  go_loopw [23] (PaM w4 bp nm at_ ct T.mid) (fun i _ => nm - (intOf i).toNat)
  case atStart => exact ⟨0, none, 0, Nat.zero_le _, rfl, HP4.out, Own.nil _ _ _, But.refl _ _ _⟩
  case round =>
    obtain ⟨k, a, c, hk, rfl, hcell, hown, hbut⟩ := hrel
    have HCe := Lib.hid hcell; clear hcell
    have HOw := Lib.hid hown; clear hown
    have HBt := Lib.hid hbut; clear hbut
    by_cases hkn : k < nm
    · have hki : (k : Int) < (nm : Int) := by omega
      have hkl : k < T.mid.length := by rw [← HNm.out]; exact hkn
      obtain ⟨b, o, ha⟩ := HM0.out.some (by omega)
      subst ha
      have hr := HM0.out.get k hkl
      have hbl : b < bz := by
        have hml := HK.out.mid _ (List.getElem_mem hkl)
        have h2 := hr 0 (num16 (T.mid[k][0]'(by omega))) (blkC_get num16_cells _ 0 (by omega))
        rw [HBz.out]
        exact World.block_lt_of_cell? w _ h2
      have HR : Hid (wr.rangeAt b (o + k * 64) (blkC num16 T.mid[k])) := Lib.hid (fun j v hv => HBt.out.cell ((HB4.out.cell (p := ⟨b, o + k * 64 + j, none⟩) hbl).trans (hr j v hv)) (by omega) (by show ¬ b = bp; omega))
      have hbs : (blkC num16 T.mid[k]).length = 64 := by rw [blkC_length (sz := 1) (fun _ => rfl), HK.out.mid _ (List.getElem_mem hkl)]
      clear hr
      go_upto_region 7 with (fail)
      refine wp_region_list ?_
      refine wpList_val (v := .pointer (some ⟨b, o + k * 64, none⟩)) (w' := wr) rfl (by go_simp) ?_
      refine wpList_load_mid rfl 120 (.tmp 25) rfl b (o + k * 64) rfl (blkC num16 T.mid[k]) (.array 64 91) HR.out Try.underlying120 rfl (by rw [hbs]; kernel_rfl) ?_
      refine wpList_val (v := .pointer (some ⟨wr.heap.size, 0, none⟩)) (w' := wr.alloc (.cells (blkC num16 (List.replicate 64 0)).toArray 120)) rfl (by kernel_rfl) ?_
      obtain ⟨b8, hb8⟩ : ∃ b8, b8 = wr.heap.size := ⟨_, rfl⟩
      have hA7 := heap_alloc_new wr (.cells (blkC num16 (List.replicate 64 0)).toArray 120)
      have hB7 : Below wr.heap.size wr (wr.alloc (.cells (blkC num16 (List.replicate 64 0)).toArray 120)) := (Below.refl _ _).alloc (Nat.le_refl _) _
      rw [← hb8] at hA7 hB7 ⊢
      generalize hw7 : wr.alloc (.cells (blkC num16 (List.replicate 64 0)).toArray 120) = w7 at *
      have hT7 : w7.there b8 0 (blkC num16 T.mid[k]).toArray.size := fun j hj => by
        rw [Nat.zero_add, cell_of_row w7 b8 j _ _ (0, 0) hA7]
        refine ⟨?_, frozen_of_row w7 b8 j _ _ hA7⟩
        rw [List.getElem?_toArray, blkC16_map, List.getElem?_map, List.getElem?_replicate, if_pos (by simpa [hbs] using hj)]
        rfl
      refine wpList_store_mid rfl 120 (.tmp 5) (.tmp 26) rfl b8 0 (blkC num16 T.mid[k]).toArray rfl rfl hT7 (by rw [List.size_toArray, hbs]; kernel_rfl) (by rw [blkC16_map]; exact all_oneCell_toArray (num16_one _)) ?_
      have HR8 : Hid ((w7.setCells b8 0 (blkC num16 T.mid[k]).toArray.toList).rangeAt b8 0 (blkC num16 T.mid[k])) := Lib.hid (World.rangeAt_setCells_same w7 b8 0 _ (by simpa using hT7))
      have HB8 : Hid (Below wr.heap.size wr (w7.setCells b8 0 (blkC num16 T.mid[k]).toArray.toList)) := Lib.hid (by
        rw [← hb8]
        exact hB7.trans (below_grown (grown_storeN b8 _ 0 w7) (fun k e => by cases e; exact Nat.le_refl _) (by rw [hb8]; exact hB7.size)))
      generalize (w7.setCells b8 0 (blkC num16 T.mid[k]).toArray.toList) = w8 at *
      clear hT7 hA7 hB7 hw7
      have HB8e := Lib.hid hb8; clear hb8
      have HV8 : Hid (Vals w8 (some ⟨b8, 0, none⟩) (T.mid[k].map num16)) := Lib.hid (fun j hj => ⟨b8, 0, rfl, HR8.out j _ (by rw [blkC16_map]; exact List.getElem?_eq_getElem hj)⟩)
      have hlen8 : (T.mid[k].map num16).length = 64 := by rw [List.length_map]; exact HK.out.mid _ (List.getElem_mem hkl)
      have hbpr : bp < wr.heap.size := (Array.getElem?_eq_some_iff.1 HCe.out).1
      have HC8 := Lib.hid ((HB8.out.block bp hbpr).trans HCe.out)
      have HO8 : Hid (Own w4.heap.size 91 w8 a (64 * k) c (flatV num16 (T.mid.take k))) := Lib.hid (HOw.out.below HB8.out (Nat.le_refl _))
      have d0 := cell_of_row w8 bp 1 _ _ (0, 0) HC8.out
      have e0 := frozen_of_row w8 bp 1 _ _ HC8.out
      simp at d0
      have hok : ∀ q, (Value.slice a (64 * k) c).ownBlock = some q → w4.heap.size ≤ q := fun q e => (World.ownsRow.lt HO8.out q e).1
      have hbase : w4.heap.size ≤ w8.heap.size := Nat.le_trans HBt.out.size HB8.out.size
      have HKB := Lib.hid (fun (w' : World) (hg : w8.drew.grownBy w' (Value.slice a (64 * k) c).ownBlock) => show w'.cell? ⟨bp, 1, none⟩ = some (.slice a (64 * k) c) ∧ w'.frozen? ⟨bp, 1, none⟩ = false from ⟨cell_grown hg d0 (fun q e => by have := hok q e; omega), frozen_of_row w' bp 1 _ _ ((other_grown hg (Array.getElem?_eq_some_iff.1 HC8.out).1 (fun q e => by have := hok q e; omega)).trans HC8.out)⟩)
      go_wp2
      have d1 : w8.drew.cell? ⟨bp, 1, none⟩ = some (.slice a (64 * k) c) := d0
      have e1 : w8.drew.frozen? ⟨bp, 1, none⟩ = false := e0
      have hbn1 : (64 * k + 64) * 2 ≤ 140737488355328 := by omega
      have hbn2 : 64 * k + 64 ≤ maxLen := by unfold maxLen; omega
      refine wp_region_noPanic ?_
      refine (wpIn_wide (n := 2)).1 ?_
      refine wpIn_region_calm [4, 5] (fun w' : World => w'.cell? ⟨bp, 1, none⟩ = some (.slice a (64 * k) c) ∧ w'.frozen? ⟨bp, 1, none⟩ = false) (by kernel_rfl) ?_
      have HCx : Hid ((fun w' : World => w'.cell? ⟨bp, 1, none⟩ = some (.slice a (64 * k) c) ∧ w'.frozen? ⟨bp, 1, none⟩ = false) w8.drew) := Lib.hid ⟨d1, e1⟩
      have HO9 : Hid (Own w4.heap.size 91 w8.drew a (64 * k) c (flatV num16 (T.mid.take k))) := Lib.hid (World.ownsRow.drew HO8.out)
      have HV9 : Hid (Vals w8.drew (some ⟨b8, 0, none⟩) (T.mid[k].map num16)) := Lib.hid HV8.out
      have HB9 : Hid (Below wr.heap.size wr w8.drew) := Lib.hid HB8.out.drew
      have HC9 : Hid (w8.drew.heap[bp]? = some (.cells #[.slice at_ 272 ct, .slice a (64 * k) c, .slice none 0 0] 79 (0, 0))) := Lib.hid HC8.out
      have hbase9 : w4.heap.size ≤ w8.drew.heap.size := hbase
      clear d0 e0 d1 e1
      generalize w8.drew = w9 at *
      refine' anyC_take (i := 0) (v := _) [1, 3, 4, 5] (by kernel_rfl) rfl (by kernel_rfl) (fun _ _ _ h => h) (by rfl) ?hv8x0 HCx.out ?h8x0
      case hv8x0 =>
        rintro w' ⟨c0, c1⟩
        go_simp
        try with_reducible rfl
      simp only [List.getElem_toArray, List.getElem_cons_zero, List.getElem_cons_succ, Act.put, List.setIfInBounds_toArray, List.set_cons_zero, List.set_cons_succ]
      refine' anyC_take (i := 1) (v := _) [3, 4, 5] (by kernel_rfl) rfl (by kernel_rfl) (fun _ _ _ h => h) (by rfl) ?hv8x1 HCx.out ?h8x1
      case hv8x1 =>
        rintro w' ⟨c0, c1⟩
        go_simp
        try with_reducible rfl
      simp only [List.getElem_toArray, List.getElem_cons_zero, List.getElem_cons_succ, Act.put, List.setIfInBounds_toArray, List.set_cons_zero, List.set_cons_succ]
      refine' anyC_take (i := 2) (v := _) [3, 4, 5] (by kernel_rfl) rfl (by kernel_rfl) (fun _ _ _ h => h) (by rfl) ?hv8x2 HCx.out ?h8x2
      case hv8x2 =>
        rintro w' ⟨c0, c1⟩
        go_simp
        try with_reducible rfl
      simp only [List.getElem_toArray, List.getElem_cons_zero, List.getElem_cons_succ, Act.put, List.setIfInBounds_toArray, List.set_cons_zero, List.set_cons_succ]
      refine anyC_appS (i := 3) Try.elemI16 (by kernel_rfl) rfl (by kernel_rfl) (by rfl) (.tmp 28) (.tmp 29) rfl HO9.out hbase9 hlen8 HV9.out (num16_one _) hbn1 hbn2 rfl rfl (fun w' hg => HKB.out w' hg) ?_
      intro a2 c2 w10 ho10 hg10 hn10
      simp only [List.getElem_toArray, List.getElem_cons_zero, List.getElem_cons_succ, Act.put, List.setIfInBounds_toArray, List.set_cons_zero, List.set_cons_succ]
      refine anyC_tail 4 (by rfl) (by kernel_rfl) (by kernel_rfl) ?_
      simp only [List.drop_succ_cons, List.drop_zero]
      obtain ⟨d2, e2⟩ := HKB.out w10 hg10
      have hbp9 : bp < w9.heap.size := (Array.getElem?_eq_some_iff.1 HC9.out).1
      have HC10 := Lib.hid ((other_grown hg10 hbp9 (fun q e => by have := hok q e; omega)).trans HC9.out)
      have HO10 := Lib.hid ho10
      have HG10 := Lib.hid hg10
      clear ho10 hg10 hn10
      gi_wp2
      show Exit.inBlock 1 _ Exit.normal _ _
      have HC11 : Hid ((w10.setCell ⟨bp, 1, none⟩ (.slice a2 (64 * k + 64) c2)).heap[bp]? = some (.cells #[.slice at_ 272 ct, .slice a2 (64 * k + 64) c2, .slice none 0 0] 79 (0, 0))) := Lib.hid (by
        have := heap_setCell_same w10 bp 1 _ _ (.slice a2 (64 * k + 64) c2) HC10.out
        simpa using this)
      have HO11 : Hid (Own w4.heap.size 91 (w10.setCell ⟨bp, 1, none⟩ (.slice a2 (64 * k + 64) c2)) a2 (64 * k + 64) c2 (flatV num16 (T.mid.take (k + 1)))) := Lib.hid (by
        rw [List.take_succ_eq_append_getElem hkl, flatV_snoc]
        refine HO10.out.kept (grown_store w10 bp 1 _) ?_
        cases e : (Value.slice a2 (64 * k + 64) c2).ownBlock with
        | none => exact .inl rfl
        | some q => exact .inr (fun e2 => by cases e2; have := (World.ownsRow.lt HO10.out _ e).1; omega))
      have HB11 : Hid (But w4.heap.size (fun b => b = bp) w4 (w10.setCell ⟨bp, 1, none⟩ (.slice a2 (64 * k + 64) c2))) := Lib.hid
        (((HBt.out.trans (But.of_below (HB9.out.mono HBt.out.size))).grown HG10.out hbase9 (fun q e => .inr (hok q e))).setCell bp 1 _ (.inl rfl))
      generalize (w10.setCell ⟨bp, 1, none⟩ (.slice a2 (64 * k + 64) c2)) = w11 at *
      clear d2 e2
      go_wp2
      exact ⟨⟨k + 1, a2, c2, by omega, by go_num, HC11.out, HO11.out, HB11.out⟩, by simp [intOf]; omega⟩
    · obtain rfl : k = nm := by omega
      have hki : ¬ (k : Int) < (k : Int) := by omega
      have htk : T.mid.take k = T.mid := List.take_of_length_le (by rw [HNm.out]; exact Nat.le_refl _)
      rw [htk] at HOw
      clear htk
      obtain ⟨w5, rfl⟩ : ∃ w5, w5 = wr := ⟨_, rfl⟩
      have c2 := (TrieAt.cell_low (val := val8) HK.out HG4.out)
      have c3 := HBt.out.cell c2 (by omega) (by show ¬ g = bp; omega)
      clear c2
      obtain ⟨nl, hnl⟩ : ∃ nl, nl = T.low.length := ⟨_, rfl⟩
      have hnl2 : nl ≤ 17408 := by rw [hnl]; exact HK.out.lowL
      rw [← hnl] at c3
      have HNl := Lib.hid hnl; clear hnl
      go_wp2
      obtain ⟨nmm, hnmm⟩ : ∃ nmm, nmm = k := ⟨_, rfl⟩
      have HCe2 : Hid (w5.heap[bp]? = some (.cells #[.slice at_ 272 ct, .slice a (64 * nmm) c, .slice none 0 0] 79 (0, 0))) := Lib.hid (by rw [hnmm]; exact HCe.out)
      have HOw2 : Hid (Own w4.heap.size 91 w5 a (64 * nmm) c (flatV num16 T.mid)) := Lib.hid (by rw [hnmm]; exact HOw.out)
      have HNmm := Lib.hid (show nmm = T.mid.length by rw [hnmm]; exact HNm.out)
      have hs5 : w4.heap.size ≤ w5.heap.size := HBt.out.size
      clear hnmm HCe HOw
      obtain ⟨am, ham⟩ : ∃ am, am = a := ⟨_, rfl⟩
      obtain ⟨cm, hcm⟩ : ∃ cm, cm = c := ⟨_, rfl⟩
      rw [← ham, ← hcm] at HCe2 HOw2
      clear ham hcm
      go_loopw [38] (PaL w5 bp nl at_ ct am (64 * nmm) cm T.low) (fun i _ => nl - (intOf i).toNat)
      case atStart => exact ⟨0, none, 0, Nat.zero_le _, rfl, HCe2.out, Own.nil _ _ _, But.refl _ _ _⟩
      case round =>
        obtain ⟨k, a, c, hk, rfl, hcell, hown, hbut⟩ := hrel
        have HDe := Lib.hid hcell; clear hcell
        have HOx := Lib.hid hown; clear hown
        have HBu := Lib.hid hbut; clear hbut
        by_cases hkn : k < nl
        · have hki : (k : Int) < (nl : Int) := by omega
          have hkl : k < T.low.length := by rw [← HNl.out]; exact hkn
          obtain ⟨b, o, ha⟩ := HL0.out.some (by omega)
          subst ha
          have hr := HL0.out.get k hkl
          have hbl : b < bz := by
            have hml := HK.out.low _ (List.getElem_mem hkl)
            have h2 := hr 0 (val8 (T.low[k][0]'(by omega))) (blkC_get val8_cells _ 0 (by omega))
            rw [HBz.out]
            exact World.block_lt_of_cell? w _ h2
          have HR : Hid (wr.rangeAt b (o + k * 64) (blkC val8 T.low[k])) := Lib.hid (fun j v hv => HBu.out.cell (HBt.out.cell ((HB4.out.cell (p := ⟨b, o + k * 64 + j, none⟩) hbl).trans (hr j v hv)) (by omega) (by show ¬ b = bp; omega)) (by omega) (by show ¬ b = bp; omega))
          have hbs : (blkC val8 T.low[k]).length = 64 := by rw [blkC_length (sz := 1) (fun _ => rfl), HK.out.low _ (List.getElem_mem hkl)]
          clear hr
          go_upto_region 12 with (fail)
          refine wp_region_list ?_
          refine wpList_val (v := .pointer (some ⟨b, o + k * 64, none⟩)) (w' := wr) rfl (by go_simp) ?_
          refine wpList_load_mid rfl 119 (.tmp 40) rfl b (o + k * 64) rfl (blkC val8 T.low[k]) (.array 64 5) HR.out Try.underlying119 rfl (by rw [hbs]; kernel_rfl) ?_
          refine wpList_val (v := .pointer (some ⟨wr.heap.size, 0, none⟩)) (w' := wr.alloc (.cells (blkC val8 (List.replicate 64 0)).toArray 119)) rfl (by kernel_rfl) ?_
          obtain ⟨b8, hb8⟩ : ∃ b8, b8 = wr.heap.size := ⟨_, rfl⟩
          have hA7 := heap_alloc_new wr (.cells (blkC val8 (List.replicate 64 0)).toArray 119)
          have hB7 : Below wr.heap.size wr (wr.alloc (.cells (blkC val8 (List.replicate 64 0)).toArray 119)) := (Below.refl _ _).alloc (Nat.le_refl _) _
          rw [← hb8] at hA7 hB7 ⊢
          generalize hw7 : wr.alloc (.cells (blkC val8 (List.replicate 64 0)).toArray 119) = w7 at *
          have hT7 : w7.there b8 0 (blkC val8 T.low[k]).toArray.size := fun j hj => by
            rw [Nat.zero_add, cell_of_row w7 b8 j _ _ (0, 0) hA7]
            refine ⟨?_, frozen_of_row w7 b8 j _ _ hA7⟩
            rw [List.getElem?_toArray, blkC8_map, List.getElem?_map, List.getElem?_replicate, if_pos (by simpa [hbs] using hj)]
            rfl
          refine wpList_store_mid rfl 119 (.tmp 7) (.tmp 41) rfl b8 0 (blkC val8 T.low[k]).toArray rfl rfl hT7 (by rw [List.size_toArray, hbs]; kernel_rfl) (by rw [blkC8_map]; exact all_oneCell_toArray (val8_one _)) ?_
          have HR8 : Hid ((w7.setCells b8 0 (blkC val8 T.low[k]).toArray.toList).rangeAt b8 0 (blkC val8 T.low[k])) := Lib.hid (World.rangeAt_setCells_same w7 b8 0 _ (by simpa using hT7))
          have HB8 : Hid (Below wr.heap.size wr (w7.setCells b8 0 (blkC val8 T.low[k]).toArray.toList)) := Lib.hid (by
            rw [← hb8]
            exact hB7.trans (below_grown (grown_storeN b8 _ 0 w7) (fun k e => by cases e; exact Nat.le_refl _) (by rw [hb8]; exact hB7.size)))
          generalize (w7.setCells b8 0 (blkC val8 T.low[k]).toArray.toList) = w8 at *
          clear hT7 hA7 hB7 hw7
          have HB8e := Lib.hid hb8; clear hb8
          have HV8 : Hid (Vals w8 (some ⟨b8, 0, none⟩) (T.low[k].map val8)) := Lib.hid (fun j hj => ⟨b8, 0, rfl, HR8.out j _ (by rw [blkC8_map]; exact List.getElem?_eq_getElem hj)⟩)
          have hlen8 : (T.low[k].map val8).length = 64 := by rw [List.length_map]; exact HK.out.low _ (List.getElem_mem hkl)
          have hbpr : bp < wr.heap.size := (Array.getElem?_eq_some_iff.1 HDe.out).1
          have HC8 := Lib.hid ((HB8.out.block bp hbpr).trans HDe.out)
          have HO8 : Hid (Own w5.heap.size 5 w8 a (64 * k) c (flatV val8 (T.low.take k))) := Lib.hid (HOx.out.below HB8.out (Nat.le_refl _))
          have d0 := cell_of_row w8 bp 2 _ _ (0, 0) HC8.out
          have e0 := frozen_of_row w8 bp 2 _ _ HC8.out
          simp at d0
          have hok : ∀ q, (Value.slice a (64 * k) c).ownBlock = some q → w5.heap.size ≤ q := fun q e => (World.ownsRow.lt HO8.out q e).1
          have hbase : w5.heap.size ≤ w8.heap.size := Nat.le_trans HBu.out.size HB8.out.size
          have HKB := Lib.hid (fun (w' : World) (hg : w8.drew.grownBy w' (Value.slice a (64 * k) c).ownBlock) => show w'.cell? ⟨bp, 2, none⟩ = some (.slice a (64 * k) c) ∧ w'.frozen? ⟨bp, 2, none⟩ = false from ⟨cell_grown hg d0 (fun q e => by have := hok q e; omega), frozen_of_row w' bp 2 _ _ ((other_grown hg (Array.getElem?_eq_some_iff.1 HC8.out).1 (fun q e => by have := hok q e; omega)).trans HC8.out)⟩)
          go_wp2
          have d1 : w8.drew.cell? ⟨bp, 2, none⟩ = some (.slice a (64 * k) c) := d0
          have e1 : w8.drew.frozen? ⟨bp, 2, none⟩ = false := e0
          have hbn1 : (64 * k + 64) * 1 ≤ 140737488355328 := by omega
          have hbn2 : 64 * k + 64 ≤ maxLen := by unfold maxLen; omega
          refine wp_region_noPanic ?_
          refine (wpIn_wide (n := 2)).1 ?_
          refine wpIn_region_calm [4, 5] (fun w' : World => w'.cell? ⟨bp, 2, none⟩ = some (.slice a (64 * k) c) ∧ w'.frozen? ⟨bp, 2, none⟩ = false) (by kernel_rfl) ?_
          have HCx : Hid ((fun w' : World => w'.cell? ⟨bp, 2, none⟩ = some (.slice a (64 * k) c) ∧ w'.frozen? ⟨bp, 2, none⟩ = false) w8.drew) := Lib.hid ⟨d1, e1⟩
          have HO9 : Hid (Own w5.heap.size 5 w8.drew a (64 * k) c (flatV val8 (T.low.take k))) := Lib.hid (World.ownsRow.drew HO8.out)
          have HV9 : Hid (Vals w8.drew (some ⟨b8, 0, none⟩) (T.low[k].map val8)) := Lib.hid HV8.out
          have HB9 : Hid (Below wr.heap.size wr w8.drew) := Lib.hid HB8.out.drew
          have HC9 : Hid (w8.drew.heap[bp]? = some (.cells #[.slice at_ 272 ct, .slice am (64 * nmm) cm, .slice a (64 * k) c] 79 (0, 0))) := Lib.hid HC8.out
          have hbase9 : w5.heap.size ≤ w8.drew.heap.size := hbase
          clear d0 e0 d1 e1
          generalize w8.drew = w9 at *
          refine' anyC_take (i := 0) (v := _) [1, 3, 4, 5] (by kernel_rfl) rfl (by kernel_rfl) (fun _ _ _ h => h) (by rfl) ?hv13x0 HCx.out ?h13x0
          case hv13x0 =>
            rintro w' ⟨c0, c1⟩
            go_simp
            try with_reducible rfl
          simp only [List.getElem_toArray, List.getElem_cons_zero, List.getElem_cons_succ, Act.put, List.setIfInBounds_toArray, List.set_cons_zero, List.set_cons_succ]
          refine' anyC_take (i := 1) (v := _) [3, 4, 5] (by kernel_rfl) rfl (by kernel_rfl) (fun _ _ _ h => h) (by rfl) ?hv13x1 HCx.out ?h13x1
          case hv13x1 =>
            rintro w' ⟨c0, c1⟩
            go_simp
            try with_reducible rfl
          simp only [List.getElem_toArray, List.getElem_cons_zero, List.getElem_cons_succ, Act.put, List.setIfInBounds_toArray, List.set_cons_zero, List.set_cons_succ]
          refine' anyC_take (i := 2) (v := _) [3, 4, 5] (by kernel_rfl) rfl (by kernel_rfl) (fun _ _ _ h => h) (by rfl) ?hv13x2 HCx.out ?h13x2
          case hv13x2 =>
            rintro w' ⟨c0, c1⟩
            go_simp
            try with_reducible rfl
          simp only [List.getElem_toArray, List.getElem_cons_zero, List.getElem_cons_succ, Act.put, List.setIfInBounds_toArray, List.set_cons_zero, List.set_cons_succ]
          refine anyC_appS (i := 3) Try.elemI8 (by kernel_rfl) rfl (by kernel_rfl) (by rfl) (.tmp 43) (.tmp 44) rfl HO9.out hbase9 hlen8 HV9.out (val8_one _) hbn1 hbn2 rfl rfl (fun w' hg => HKB.out w' hg) ?_
          intro a2 c2 w10 ho10 hg10 hn10
          simp only [List.getElem_toArray, List.getElem_cons_zero, List.getElem_cons_succ, Act.put, List.setIfInBounds_toArray, List.set_cons_zero, List.set_cons_succ]
          refine anyC_tail 4 (by rfl) (by kernel_rfl) (by kernel_rfl) ?_
          simp only [List.drop_succ_cons, List.drop_zero]
          obtain ⟨d2, e2⟩ := HKB.out w10 hg10
          have hbp9 : bp < w9.heap.size := (Array.getElem?_eq_some_iff.1 HC9.out).1
          have HC10 := Lib.hid ((other_grown hg10 hbp9 (fun q e => by have := hok q e; omega)).trans HC9.out)
          have HO10 := Lib.hid ho10
          have HG10 := Lib.hid hg10
          clear ho10 hg10 hn10
          gi_wp2
          show Exit.inBlock 1 _ Exit.normal _ _
          have HC11 : Hid ((w10.setCell ⟨bp, 2, none⟩ (.slice a2 (64 * k + 64) c2)).heap[bp]? = some (.cells #[.slice at_ 272 ct, .slice am (64 * nmm) cm, .slice a2 (64 * k + 64) c2] 79 (0, 0))) := Lib.hid (by
            have := heap_setCell_same w10 bp 2 _ _ (.slice a2 (64 * k + 64) c2) HC10.out
            simpa using this)
          have HO11 : Hid (Own w5.heap.size 5 (w10.setCell ⟨bp, 2, none⟩ (.slice a2 (64 * k + 64) c2)) a2 (64 * k + 64) c2 (flatV val8 (T.low.take (k + 1)))) := Lib.hid (by
            rw [List.take_succ_eq_append_getElem hkl, flatV_snoc]
            refine HO10.out.kept (grown_store w10 bp 2 _) ?_
            cases e : (Value.slice a2 (64 * k + 64) c2).ownBlock with
            | none => exact .inl rfl
            | some q => exact .inr (fun e2 => by cases e2; have := (World.ownsRow.lt HO10.out _ e).1; omega))
          have HB11 : Hid (But w5.heap.size (fun b => b = bp) w5 (w10.setCell ⟨bp, 2, none⟩ (.slice a2 (64 * k + 64) c2))) := Lib.hid
            (((HBu.out.trans (But.of_below (HB9.out.mono HBu.out.size))).grown HG10.out hbase9 (fun q e => .inr (hok q e))).setCell bp 2 _ (.inl rfl))
          generalize (w10.setCell ⟨bp, 2, none⟩ (.slice a2 (64 * k + 64) c2)) = w11 at *
          clear d2 e2
          go_wp2
          exact ⟨⟨k + 1, a2, c2, by omega, by go_num, HC11.out, HO11.out, HB11.out⟩, by simp [intOf]; omega⟩
        · obtain rfl : k = nl := by omega
          have hki : ¬ (k : Int) < (k : Int) := by omega
          have htk : T.low.take k = T.low := List.take_of_length_le (by rw [HNl.out]; exact Nat.le_refl _)
          rw [htk] at HOx
          clear htk
          have hz4 : bz < w4.heap.size := (Array.getElem?_eq_some_iff.1 HZ4.out).1
          have HZr := Lib.hid (HBu.out.keep (HBt.out.keep HZ4.out hz4 (by show ¬ bz = bp; omega)) (by omega) (by show ¬ bz = bp; omega))
          have p0 := cell_of_row wr bp 0 _ _ (0, 0) HDe.out
          have p1 := cell_of_row wr bp 1 _ _ (0, 0) HDe.out
          have p2 := cell_of_row wr bp 2 _ _ (0, 0) HDe.out
          have z0 := cell_of_row wr bz 0 _ _ (0, 0) HZr.out
          have z1 := cell_of_row wr bz 1 _ _ (0, 0) HZr.out
          have z2 := cell_of_row wr bz 2 _ _ (0, 0) HZr.out
          have y0 := frozen_of_row wr bz 0 _ _ HZr.out
          have y1 := frozen_of_row wr bz 1 _ _ HZr.out
          have y2 := frozen_of_row wr bz 2 _ _ HZr.out
          simp at p0 p1 p2 z0 z1 z2
          go_wp2
          obtain ⟨W, hW⟩ : ∃ W, W = ((wr.setCell ⟨bz, 0, none⟩ (.slice at_ 272 ct)).setCell ⟨bz, 1, none⟩ (.slice am (64 * nmm) cm)).setCell ⟨bz, 2, none⟩ (.slice a (64 * k) c) := ⟨_, rfl⟩
          rw [← hW]
          have hC : W.heap[bz]? = some (.cells #[.slice at_ 272 ct, .slice am (64 * nmm) cm, .slice a (64 * k) c] 79 (0, 0)) := by
            rw [hW]
            have e1 := heap_setCell_same wr bz 0 _ _ (.slice at_ 272 ct) HZr.out
            have e2 := heap_setCell_same _ bz 1 _ _ (.slice am (64 * nmm) cm) e1
            have e3 := heap_setCell_same _ bz 2 _ _ (.slice a (64 * k) c) e2
            simpa using e3
          have hO : ∀ q, q ≠ bz → W.heap[q]? = wr.heap[q]? := fun q hq => by
            rw [hW, heap_setCell_other _ ⟨bz, 2, none⟩ q _ hq, heap_setCell_other _ ⟨bz, 1, none⟩ q _ hq, heap_setCell_other _ ⟨bz, 0, none⟩ q _ hq]
          have hBe : Below bz wr W := by
            rw [hW]
            exact (((Below.refl bz wr).setCell (p := ⟨bz, 0, none⟩) (Nat.le_refl _) _).setCell (p := ⟨bz, 1, none⟩) (Nat.le_refl _) _).setCell (p := ⟨bz, 2, none⟩) (Nat.le_refl _) _
          have v0 := cell_of_row W bz 0 _ _ (0, 0) hC
          have v1 := cell_of_row W bz 1 _ _ (0, 0) hC
          have v2 := cell_of_row W bz 2 _ _ (0, 0) hC
          simp at v0 v1 v2
          clear hW
          have hs1 := HW1.out.2.2.2
          have hbpe := HBp.out
          refine leaves_nil (v := .agg #[.slice at_ 272 ct, .slice am (64 * nmm) cm, .slice a (64 * k) c]) (by simp [results, Try.results44, go_sem, v0, v1, v2]) ?_
          refine ⟨at_, ct, am, cm, a, c, by rw [HNmm.out, HNl.out], ?_, ?_, ?_, ?_⟩
          · refine own_keep HOt4.out (by rw [hs1, HBz.out]; omega) (fun q e => ?_)
            have hl := World.ownsRow.lt HOt4.out q e
            rw [hO q (by omega), HBu.out.block q (by omega) (by show ¬ q = bp; omega), HBt.out.block q (by omega) (by show ¬ q = bp; omega)]
          · rw [← HNmm.out]
            refine own_keep HOw2.out (by rw [← HBz.out]; omega) (fun q e => ?_)
            have hl := World.ownsRow.lt HOw2.out q e
            rw [hO q (by omega), HBu.out.block q (by omega) (by show ¬ q = bp; omega)]
          · rw [← HNl.out]
            refine own_keep HOx.out (by rw [← HBz.out]; omega) (fun q e => ?_)
            have hl := World.ownsRow.lt HOx.out q e
            rw [hO q (by omega)]
          · rw [← HBz.out]
            exact ((HB4.out.trans (HBt.out.below bz (by omega) (fun q hq => by have : q = bp := hq; omega))).trans (HBu.out.below bz (by omega) (fun q hq => by have : q = bp := hq; omega))).trans hBe
end Go.Proofs.Ytabbabkmojaoaaa
