/-
  The walks of 'begin' and 'Fill' (float64).
-/
import Derived.Test.YtabbabkmojaoaaaTAF
import Derived.Test.YtabbabkmojaoaaaTF
set_option linter.unusedVariables false
set_option linter.unusedSimpArgs false
namespace Go.Proofs.Ytabbabkmojaoaaa.VF
open Go.RowKit
attribute [local go_sem] run_store_float

def S0 : MkS El := { top := List.replicate 272 0, cur := List.replicate 64 0, lows := [], mids := [], blocks := 0 }
theorem S0_ok : MkW S0 := ⟨List.length_replicate, List.length_replicate, fun _ h => absurd h (List.not_mem_nil), fun _ h => absurd h (List.not_mem_nil)⟩
set_option maxRecDepth 100000 in
set_option maxHeartbeats 1600000 in
theorem begin8_walk (w : World) :
    Calls Try.prog 115 #[] w fun e w' => e = .returned (.pointer (some ⟨w.heap.size + 3, 0, none⟩)) ∧
      MkAt val8 1 218 148 120 145 w' w.heap.size S0 [] [] none 0 none 0 ∧ Below w.heap.size w w' := by
  go_enter Try.func115, Try.ntmps115
  go_upto_region 1 with (fail)
  refine wp_region_list ?_
  refine wpList_val (v := .agg (trC S0 none 0 none 0).toArray) (w' := w) rfl (by kernel_rfl) ?_
  refine wpList_val (v := .pointer (some ⟨w.heap.size, 0, none⟩)) (w' := w.alloc (.cells (trC S0 none 0 none 0).toArray 148)) rfl (by kernel_rfl) ?_
  obtain ⟨w1, hw1⟩ : ∃ w1, w1 = w.alloc (.cells (trC S0 none 0 none 0).toArray 148) := ⟨_, rfl⟩
  have hs1 : w1.heap.size = w.heap.size + 1 := by rw [hw1]; simp
  rw [← hw1]
  refine wpList_val (v := .map (some (w.heap.size + 1))) (w' := w1.alloc (.map #[] 0)) rfl (by rw [← hs1]; kernel_rfl) ?_
  obtain ⟨w2, hw2⟩ : ∃ w2, w2 = w1.alloc (.map #[] 0) := ⟨_, rfl⟩
  have hs2 : w2.heap.size = w.heap.size + 2 := by rw [hw2]; simp [hs1]
  rw [← hw2]
  refine wpList_val (v := .map (some (w.heap.size + 2))) (w' := w2.alloc (.map #[] 0)) rfl (by rw [← hs2]; kernel_rfl) ?_
  obtain ⟨w3, hw3⟩ : ∃ w3, w3 = w2.alloc (.map #[] 0) := ⟨_, rfl⟩
  have hs3 : w3.heap.size = w.heap.size + 3 := by rw [hw3]; simp [hs2]
  rw [← hw3]
  refine wpList_val (v := .agg (mkC w.heap.size S0).toArray) (w' := w3) rfl (by kernel_rfl) ?_
  refine wpList_val (v := .pointer (some ⟨w.heap.size + 3, 0, none⟩)) (w' := w3.alloc (.cells (mkC w.heap.size S0).toArray 218)) rfl (by rw [← hs3]; kernel_rfl) ?_
  obtain ⟨w4, hw4⟩ : ∃ w4, w4 = w3.alloc (.cells (mkC w.heap.size S0).toArray 218) := ⟨_, rfl⟩
  rw [← hw4]
  refine wpList_val (v := .pointer (some ⟨w.heap.size + 3, 0, none⟩)) (w' := w4) rfl (by kernel_rfl) ?_
  have b1 : Below w.heap.size w w1 := by rw [hw1]; exact (Below.refl _ _).alloc (Nat.le_refl _) _
  have b2 : Below w1.heap.size w1 w2 := by rw [hw2]; exact (Below.refl _ _).alloc (Nat.le_refl _) _
  have b3 : Below w2.heap.size w2 w3 := by rw [hw3]; exact (Below.refl _ _).alloc (Nat.le_refl _) _
  have b4 : Below w3.heap.size w3 w4 := by rw [hw4]; exact (Below.refl _ _).alloc (Nat.le_refl _) _
  have k1 : w1.heap[w.heap.size]? = some (.cells (trC S0 none 0 none 0).toArray 148 (0, 0)) := by rw [hw1]; exact heap_alloc_new w _
  have k2 : w2.heap[w.heap.size + 1]? = some (.map #[] 0) := by rw [← hs1, hw2]; exact heap_alloc_new w1 _
  have k3 : w3.heap[w.heap.size + 2]? = some (.map #[] 0) := by rw [← hs2, hw3]; exact heap_alloc_new w2 _
  have k4 : w4.heap[w.heap.size + 3]? = some (.cells (mkC w.heap.size S0).toArray 218 (0, 0)) := by rw [← hs3, hw4]; exact heap_alloc_new w3 _
  have HB := Lib.hid (below_sq (below_sq (below_sq b1 b2) b3) b4)
  have HM : Hid (MkAt val8 1 218 148 120 145 w4 w.heap.size S0 [] [] none 0 none 0) := Lib.hid
    ⟨k4, (b4.block _ (by omega)).trans ((b3.block _ (by omega)).trans ((b2.block _ (by omega)).trans k1)), World.ownsRow_nil _ _ _ _, World.ownsRow_nil _ _ _ _, (fun k e => by cases e),
      (b4.block _ (by omega)).trans ((b3.block _ (by omega)).trans k2), (b4.block _ (by omega)).trans k3⟩
  clear b1 b2 b3 b4 k1 k2 k3 k4 hw1 hw2 hw3 hw4 hs1 hs2 hs3
  go_wp2
  go_ret
  exact ⟨rfl, HM.out, HB.out⟩

/-- block number k of a function -/
def blkF (f : Nat → El) (k : Nat) : List El := (List.range 64).map (fun i => f (64 * k + i))
theorem blkF_length (f : Nat → El) (k : Nat) : (blkF f k).length = 64 := by simp [blkF]
/-- the maker after k blocks -/
def mkF (f : Nat → El) : Nat → MkS El
  | 0 => S0
  | k + 1 => addS eq8 (mkF f k) (blkF f k)
theorem addS_ok {S : MkS El} {b : List El} (h : MkW S) (hb : b.length = 64) : MkW (addS eq8 S b) ∧ (addS eq8 S b).blocks = S.blocks + 1 := by
  by_cases h1 : (S.blocks + 1) % 64 = 0
  · rw [addS_full h1]
    exact ⟨⟨by simpa using h.top, by simpa using h.cur, numB_len h.low hb, numB_len h.mid (by simpa using h.cur)⟩, rfl⟩
  · rw [addS_less h1]
    exact ⟨⟨h.top, by simpa using h.cur, numB_len h.low hb, h.mid⟩, rfl⟩
theorem mkF_ok (f : Nat → El) (k : Nat) : MkW (mkF f k) ∧ (mkF f k).blocks = k ∧ (mkF f k).lows.length ≤ k ∧ (mkF f k).mids.length ≤ k / 64 := by
  induction k with
  | zero => exact ⟨S0_ok, rfl, Nat.le_refl _, Nat.le_refl _⟩
  | succ k ih =>
    obtain ⟨h1, h2, h3, h4⟩ := ih
    obtain ⟨h5, h6⟩ := addS_ok h1 (blkF_length f k)
    refine ⟨h5, by rw [mkF, h6, h2], ?_, ?_⟩
    · rw [mkF]
      have := numB_le eq8 (mkF f k).lows (blkF f k)
      by_cases h7 : ((mkF f k).blocks + 1) % 64 = 0
      · rw [addS_full h7]; simp only; omega
      · rw [addS_less h7]; simp only; omega
    · rw [mkF]
      by_cases h7 : ((mkF f k).blocks + 1) % 64 = 0
      · rw [addS_full h7]
        have := numB_le eq16 (mkF f k).mids ((mkF f k).cur.set ((mkF f k).blocks % 64) (numB eq8 (mkF f k).lows (blkF f k)).2)
        simp only
        omega
      · rw [addS_less h7]; simp only; omega

/-- what lies from B on is left alone -/
theorem Keeps.mkAt (B : Nat) {W W' : World} {g : Nat} {S : MkS El} {ml : List (List El)} {mm : List (List Nat)} {am : Option Addr} {cm : Nat} {al : Option Addr} {cl : Nat} {tM tT tA tV : TypeId} (hk : Keeps B W W') (hB : B ≤ g)
    (h : MkAt val8 1 tM tT tA tV W g S ml mm am cm al cl) : MkAt val8 1 tM tT tA tV W' g S ml mm am cm al cl := by
  have hl := h.lt
  have k : ∀ b, B ≤ b → b < W.heap.size → W'.heap[b]? = W.heap[b]? := hk.block
  have r : ∀ {E : TypeId} {s : Nat} {v : Value} {n : Nat} {xs : List Value}, W.ownsRow (g + 4) E s v n xs → W'.ownsRow (g + 4) E s v n xs := fun {E s v n xs} h => by
    refine ⟨h.1, ?_⟩
    rcases h.2 with hn | ⟨gg, cap, cur, e, hbg, hgg, rest⟩
    · exact .inl hn
    · exact .inr ⟨gg, cap, cur, e, hbg, by rw [k gg (by omega) (Array.getElem?_eq_some_iff.1 hgg).1]; exact hgg, rest⟩
  exact ⟨(k _ (by omega) (by omega)).trans h.mk_, (k _ hB (by omega)).trans h.tr, r h.rm, r h.rl, h.ap, (k _ (by omega) (by omega)).trans h.lm, (k _ (by omega) (by omega)).trans h.mm_⟩

def FilR (B : Nat) (f : Nat → El) (J : Nat → World → Prop) (g bB : Nat) (i : Value) (wr : World) : Prop :=
  ∃ (r : Nat) (bc : List El) (am : Option Addr) (cm : Nat) (al : Option Addr) (cl : Nat), r ≤ 1114112 ∧ i = .int .i32 r ∧ bc.length = 64 ∧ (∀ j, j < r % 64 → bc[j]? = some (f (64 * (r / 64) + j))) ∧
    wr.heap[bB]? = some (.cells (blkC val8 bc).toArray 145 (0, 0)) ∧
    MkAt val8 1 218 148 120 145 wr g (mkF f (r / 64)) (mkF f (r / 64)).lows (mkF f (r / 64)).mids am cm al cl ∧ J r wr ∧
    (∀ k, (Value.slice am (mkF f (r / 64)).mids.length cm).ownBlock = some k ∨ (Value.slice al (mkF f (r / 64)).lows.length cl).ownBlock = some k → k ≠ bB)

set_option maxRecDepth 100000 in
set_option maxHeartbeats 1600000 in
theorem Fill8_walk (cf : Nat) (lb : Array Value) (w : World) (f : Nat → El) (J : Nat → World → Prop) (eg : ∀ args W, (callFunc cf args).run Try.prog W = .ok (.enter cf args) W)
    (hJ : ∀ k W W', J k W → Below w.heap.size W W' → J k W')
    (hcall : ∀ k W, k < 1114112 → J k W → w.heap.size ≤ W.heap.size → Calls Try.prog cf (#[.int .i32 (k : Nat)] ++ lb) W fun e W' => e = .returned (val8 (f k)) ∧ J (k + 1) W' ∧ Keeps w.heap.size W W')
    (h0 : J 0 w) :
    Calls Try.prog 69 #[.func (.func cf) #[] lb] w fun e w' => ∃ g, e = .returned (.pointer (some ⟨g, 0, none⟩)) ∧ w.heap.size ≤ g ∧
      (∃ am cm al cl, MkAt val8 1 218 148 120 145 w' g (mkF f 17408) (mkF f 17408).lows (mkF f 17408).mids am cm al cl) ∧ J 1114112 w' := by
  have HJ := Lib.hid hJ; clear hJ
  have HCl := Lib.hid hcall; clear hcall
  have H0 := Lib.hid h0; clear h0
  have HEg := Lib.hid eg; clear eg
  have qF := fun (w : World) (cs : Array Value) => run_eql_func_nil (P := Try.prog) w 58 (.func cf) #[] cs _ _ _ Try.underlying58
  go_enter Try.func69, Try.ntmps69
  go_wp2_with fail
  refine (begin8_walk w).mono ?_
  rintro e w1 ⟨rfl, hm, hb⟩
  have HM1 := Lib.hid hm
  have HB1 := Lib.hid hb; clear hm hb
  obtain ⟨g, hg⟩ : ∃ g, g = w.heap.size := ⟨_, rfl⟩
  rw [← hg] at HM1 ⊢
  have hgs : g + 4 ≤ w1.heap.size := HM1.out.lt
  have HG := Lib.hid hg
  rw [← hg] at HB1
  go_upto_region 5 with (fail)
  change Code.wp _ _ _ _ (w1.alloc (.cells (blkC val8 (List.replicate 64 (0 : El))).toArray 145))
  obtain ⟨w2, hw2⟩ : ∃ w2, w2 = w1.alloc (.cells (blkC val8 (List.replicate 64 (0 : El))).toArray 145) := ⟨_, rfl⟩
  have HB2 : Hid (Below w1.heap.size w1 w2) := Lib.hid (by rw [hw2]; exact (Below.refl _ _).alloc (Nat.le_refl _) _)
  have HC2 : Hid (w2.heap[w1.heap.size]? = some (.cells (blkC val8 (List.replicate 64 (0 : El))).toArray 145 (0, 0))) := Lib.hid (by rw [hw2]; exact heap_alloc_new w1 _)
  rw [← hw2]
  clear hw2
  obtain ⟨bB, hbB⟩ : ∃ bB, bB = w1.heap.size := ⟨_, rfl⟩
  have HM2 := Lib.hid (HM1.out.below HB2.out)
  rw [← hbB] at HC2 hgs ⊢
  have HW02 := Lib.hid (HB1.out.trans (HB2.out.mono (by have := HB1.out.size; have := HG.out; omega)))
  have HJ2 := Lib.hid (HJ.out 0 w w2 H0.out (by rw [← HG.out]; exact HW02.out))
  clear hbB HM1 HB1 HB2 hg
  rw [← HG.out] at HCl HJ ⊢
  go_wp2
  go_loopw [5] (FilR g f J g bB) (fun i _ => 1114112 - (intOf i).toNat)
  case atStart =>
    exact ⟨0, List.replicate 64 (0 : El), none, 0, none, 0, Nat.zero_le _, rfl, List.length_replicate, fun j hj => by omega, HC2.out, HM2.out, HJ2.out, fun k hk => by rcases hk with hk | hk <;> cases hk⟩
  case round =>
    obtain ⟨r, bc, am, cm, al, cl, hr, rfl, hbl, hbc, hcell, hmk, hj, hdis⟩ := hrel
    have HBc := Lib.hid hbc; clear hbc
    have HCe := Lib.hid hcell; clear hcell
    have HMk := Lib.hid hmk; clear hmk
    have HJr := Lib.hid hj; clear hj
    have HDi := Lib.hid hdis; clear hdis
    by_cases hrN : r < 1114112
    · have hri : (r : Int) ≤ 1114111 := by omega
      have i1 : (0 : Int) ≤ (r : Int) % 64 := by omega
      have i2 : (r : Int) % 64 < 64 := by omega
      have heg := HEg.out
      go_wp2_with fail
      refine (HCl.out r wr hrN HJr.out (by have := HMk.out.lt; omega)).mono ?_
      rintro e w5 ⟨rfl, hj5, hk5⟩
      have HM5 := Lib.hid (Keeps.mkAt g hk5 (Nat.le_refl g) HMk.out)
      have hbBl : bB < wr.heap.size := (Array.getElem?_eq_some_iff.1 HCe.out).1
      have HC5 := Lib.hid ((hk5.block bB (by omega) hbBl).trans HCe.out)
      have HJ5 := Lib.hid hj5; clear hj5
      have hs5 := hk5.size
      clear hk5
      obtain ⟨v1, q1⟩ : ∃ v, w5.cell? ⟨bB, r % 64, none⟩ = some v := by
        rw [cell_of_row w5 bB (r % 64) _ _ (0, 0) HC5.out, blkC8_map]
        exact ⟨_, by rw [List.getElem?_toArray, List.getElem?_map, List.getElem?_eq_getElem (by omega)]; rfl⟩
      have f1 := frozen_of_row w5 bB (r % 64) _ _ HC5.out
      have HC6 : Hid ((w5.setCell ⟨bB, r % 64, none⟩ (val8 (f r))).heap[bB]? = some (.cells (blkC val8 (bc.set (r % 64) (f r))).toArray 145 (0, 0))) := Lib.hid (by
        rw [heap_setCell_same w5 bB (r % 64) _ _ (val8 (f r)) HC5.out, blkC8_map, blkC8_map, List.map_set]
        simp)
      have HB6 : Hid (Below g w5 (w5.setCell ⟨bB, r % 64, none⟩ (val8 (f r)))) := Lib.hid ((Below.refl g w5).setCell (p := ⟨bB, r % 64, none⟩) (by show g ≤ bB; omega) _)
      have HM6 : Hid (MkAt val8 1 218 148 120 145 (w5.setCell ⟨bB, r % 64, none⟩ (val8 (f r))) g (mkF f (r / 64)) (mkF f (r / 64)).lows (mkF f (r / 64)).mids am cm al cl) := Lib.hid (by
        have hm := HM5.out
        have oth : ∀ k, k ≠ bB → (w5.setCell ⟨bB, r % 64, none⟩ (val8 (f r))).heap[k]? = w5.heap[k]? := fun k hk => heap_setCell_other w5 ⟨bB, r % 64, none⟩ k _ hk
        refine ⟨(oth _ (by omega)).trans hm.mk_, (oth _ (by omega)).trans hm.tr, ?_, ?_, hm.ap, (oth _ (by omega)).trans hm.lm, (oth _ (by omega)).trans hm.mm_⟩
        · exact hm.rm.kept (grown_store w5 bB (r % 64) _) (by
            cases e : (Value.slice am (mkF f (r / 64)).mids.length cm).ownBlock with
            | none => exact .inl rfl
            | some k => exact .inr (fun e2 => by cases e2; exact HDi.out bB (.inl e) rfl))
        · exact hm.rl.kept (grown_store w5 bB (r % 64) _) (by
            cases e : (Value.slice al (mkF f (r / 64)).lows.length cl).ownBlock with
            | none => exact .inl rfl
            | some k => exact .inr (fun e2 => by cases e2; exact HDi.out bB (.inr e) rfl)))
      have HJ6 := Lib.hid (HJ.out (r + 1) w5 _ HJ5.out HB6.out)
      have hl6 : bB < (w5.setCell ⟨bB, r % 64, none⟩ (val8 (f r))).heap.size := (Array.getElem?_eq_some_iff.1 HC6.out).1
      have HBs : Hid (∀ j, j < r % 64 + 1 → (bc.set (r % 64) (f r))[j]? = some (f (64 * (r / 64) + j))) := Lib.hid (fun j hj => by
        by_cases h : r % 64 = j
        · subst h
          rw [List.getElem?_set_self (by omega)]
          rw [show 64 * (r / 64) + r % 64 = r by omega]
        · rw [List.getElem?_set_ne h]
          exact HBc.out j (by omega))
      have hbl6 : (bc.set (r % 64) (f r)).length = 64 := by simpa using hbl
      generalize hw6 : w5.setCell ⟨bB, r % 64, none⟩ (val8 (f r)) = w6 at *
      unfold val8 at hw6
      generalize bc.set (r % 64) (f r) = bc6 at *
      unfold val8
      by_cases h63 : (r : Int) % 64 = 63
      · have h63' : ((r : Int) % 64 == 63) = true := beq_iff_eq.2 h63
        have HRn := Lib.hid h63; clear h63
        obtain ⟨hk1, hk2, hk3, hk4⟩ := mkF_ok f (r / 64)
        have HKf := Lib.hid hk1
        have hq : r / 64 < 17408 := by omega
        have hbf : bc6 = blkF f (r / 64) := by
          apply List.ext_getElem?
          intro j
          have h3 := HRn.out
          by_cases hj : j < 64
          · rw [HBs.out j (by omega)]
            simp [blkF, hj]
          · rw [List.getElem?_eq_none (by omega), List.getElem?_eq_none (by rw [blkF_length]; omega)]
        have HBf := Lib.hid hbf; clear hbf
        have hbs6 : (blkC val8 bc6).length = 64 := by rw [blkC_length (sz := 1) (fun _ => rfl), hbl6]
        have HR6 : Hid (w6.rangeAt bB 0 (blkC val8 bc6)) := Lib.hid (by
          have := World.rangeAt_of_block HC6.out 0 (blkC val8 bc6).length
          simpa using this)
        go_upto_region 10 with (fail)
        refine wp_region_list ?_
        refine wpList_val (v := .pointer (some ⟨g + 3, 0, none⟩)) (w' := w6) rfl (by rfl) ?_
        refine wpList_load_mid rfl 145 (.tmp 4) rfl bB 0 rfl (blkC val8 bc6) (.array 64 47) HR6.out Try.underlying145 rfl (by rw [hbs6]; kernel_rfl) ?_
        go_wp2_with fail
        rw [HBf.out]
        refine (add8_walk w6 g (mkF f (r / 64)) (blkF f (r / 64)) am cm al cl HKf.out (blkF_length _ _) (by omega) (by omega) (by omega) HM6.out).mono ?_
        rintro e w7 ⟨rfl, am', cm', al', cl', hm7, ha7⟩
        have hB7 := ha7.to_below (fun k e => by rw [← ob_eq am (mkF f (r / 64)).mids.length cm] at e; have := (World.ownsRow.lt HM6.out.rm k e).1; omega) (fun k e => by rw [← ob_eq al (mkF f (r / 64)).lows.length cl] at e; have := (World.ownsRow.lt HM6.out.rl k e).1; omega) (by omega)
        have HJ7 := Lib.hid (HJ.out (r + 1) w6 w7 HJ6.out hB7)
        have HC7 := Lib.hid ((ha7.oth bB hl6 (by omega) (fun e => HDi.out bB (.inl (by rw [ob_eq]; exact e)) rfl) (fun e => HDi.out bB (.inr (by rw [ob_eq]; exact e)) rfl)).trans HC6.out)
        have HM7 := Lib.hid hm7
        have HDi7 : Hid (∀ k, (Value.slice am' (mkF f (r / 64 + 1)).mids.length cm').ownBlock = some k ∨ (Value.slice al' (mkF f (r / 64 + 1)).lows.length cl').ownBlock = some k → k ≠ bB) := Lib.hid (fun k hk => by
          rw [ob_eq, ob_eq] at hk
          rcases hk with hk | hk
          · rcases ha7.na k hk with h | h
            · exact HDi.out k (.inl (by rw [ob_eq]; exact h))
            · omega
          · rcases ha7.nl k hk with h | h
            · exact HDi.out k (.inr (by rw [ob_eq]; exact h))
            · omega)
        clear hm7 ha7 hB7 hk1 hk2 hk3 hk4
        go_wp2
        go_roundw
        case rel =>
          have h3 := HRn.out
          refine ⟨r + 1, bc6, am', cm', al', cl', by omega, by go_num, hbl6, fun j hj => by omega, HC7.out, ?_, HJ7.out, ?_⟩
          · rw [show (r + 1) / 64 = r / 64 + 1 by omega]
            exact HM7.out
          · rw [show (r + 1) / 64 = r / 64 + 1 by omega]
            exact HDi7.out
        case measure => simp [intOf]; omega
      · have h63' : ((r : Int) % 64 == 63) = false := beq_false_of_ne h63
        have HRn := Lib.hid h63; clear h63
        go_wp2
        go_roundw
        case rel =>
          have h3 := HRn.out
          refine ⟨r + 1, bc6, am, cm, al, cl, by omega, by go_num, hbl6, fun j hj => ?_, HC6.out, ?_, HJ6.out, ?_⟩
          · rw [show (r + 1) / 64 = r / 64 by omega]
            exact HBs.out j (by omega)
          · rw [show (r + 1) / 64 = r / 64 by omega]
            exact HM6.out
          · rw [show (r + 1) / 64 = r / 64 by omega]
            exact HDi.out
        case measure => simp [intOf]; omega
    · have hr2 : r = 1114112 := by omega
      have hri : ¬ (r : Int) ≤ 1114111 := by omega
      have hq : r / 64 = 17408 := by omega
      have HM8 : Hid (MkAt val8 1 218 148 120 145 wr g (mkF f 17408) (mkF f 17408).lows (mkF f 17408).mids am cm al cl) := Lib.hid (by rw [← hq]; exact HMk.out)
      have HJ8 : Hid (J 1114112 wr) := Lib.hid (by rw [← hr2]; exact HJr.out)
      clear hr2 hq
      have c0 := HM8.out.c_t
      go_wp2
      go_ret
      exact ⟨g, rfl, by rw [← HG.out]; exact Nat.le_refl _, ⟨am, cm, al, cl, HM8.out⟩, HJ8.out⟩
end Go.Proofs.Ytabbabkmojaoaaa.VF
