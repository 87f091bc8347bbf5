/- several texts in one: LA8 LK8 LM8 -/
import Derived.Test.YtabbabkmojaoaaaQ6
import Derived.Test.YtabbabkmojaoaaaQ2
import Derived.Lib.QuietBelow
import Derived.Deep.QuietTactic
import Derived.Test.YtabbabkmojaoaaaSP8
import Derived.LoopN
import Derived.Deep.CutRange
set_option linter.unusedVariables false
set_option linter.unusedSimpArgs false
/-
  Walk: are parts the document's (uint8)?
-/
namespace Go.Proofs.Ytabbabkmojaoaaa
open Go.RowKit
attribute [local go_sem] Oper.semAt_some

def AkR (n : Nat) (w2 : World) (iv : Value) (wr : World) : Prop := ∃ k : Nat, k ≤ n ∧ iv = .int .i64 (k : Nat) ∧ Below w2.heap.size w2 wr
set_option maxRecDepth 100000 in
set_option maxHeartbeats 1600000 in
theorem alike_walk (w : World) (aT : Option Addr) (cT : Nat) (aM : Option Addr) (cM : Nat) (aL : Option Addr) (cL : Nat) (sT : Option Addr) (dT : Nat) (sM : Option Addr) (dM : Nat) (sL : Option Addr) (dL : Nat) (tops mids : List Nat) (lows : List Int) (nT nM nL : Nat)
    (hnT : tops.length = nT) (hnM : mids.length = nM) (hnL : lows.length = nL) (hsz : nT ≤ 1114112 ∧ nM ≤ 1114112 ∧ nL ≤ 1114112) (ofv : Int → Int) (cf : Nat) (lb : Array Value) (eg : ∀ args W, (callFunc cf args).run Try.prog W = .ok (.enter cf args) W)
    (h1 : Vals w aT (tops.map num16)) (h2 : Vals w aM (mids.map num16)) (h3 : Vals w aL (lows.map (fun v => val8 (ofv v)))) (k1 : Ints .i64 w sT (natsI tops)) (k2 : Ints .i64 w sM (natsI mids)) (k3 : Ints .i64 w sL lows) (hv : ∀ v ∈ lows, 0 ≤ v ∧ v ≤ 255) (ht : ∀ x ∈ tops, x < 65536) (hm : ∀ x ∈ mids, x < 65536)
    (hcall : ∀ v ∈ lows, ∀ W, Below w.heap.size w W → Calls Try.prog cf (#[.int .u8 v] ++ lb) W fun e W' => e = .returned (val8 (ofv v)) ∧ Below W.heap.size W W') :
    Calls Try.prog 43 #[.agg #[.slice aT nT cT, .slice aM nM cM, .slice aL nL cL], .agg #[.slice sT nT dT, .slice sM nM dM, .slice sL nL dL], .func (.func cf) #[] lb] w fun e w' => e = .returned (.bool true) ∧ Below w.heap.size w w' := by
  obtain ⟨z1, z2, z3⟩ := hsz
  have HNT := Lib.hid hnT; have HNM := Lib.hid hnM; have HNL := Lib.hid hnL; have HEg := Lib.hid eg; have H1 := Lib.hid h1; have H2 := Lib.hid h2; have H3 := Lib.hid h3; have K1 := Lib.hid k1; have K2 := Lib.hid k2; have K3 := Lib.hid k3; have HV := Lib.hid hv; have HTb := Lib.hid ht; have HMb := Lib.hid hm; have HC := Lib.hid hcall
  clear hnT hnM hnL eg h1 h2 h3 k1 k2 k3 hv ht hm hcall
  have E1 := heap_alloc_new w (.cells #[.slice aT nT cT, .slice aM nM cM, .slice aL nL cL] 79)
  have E2 := (Below.refl _ w).alloc (Nat.le_refl _) (.cells #[.slice aT nT cT, .slice aM nM cM, .slice aL nL cL] 79)
  have E3 := World.size_alloc w (.cells #[.slice aT nT cT, .slice aM nM cM, .slice aL nL cL] 79)
  go_enter Try.func43, Try.ntmps43
  go_upto_region 1 with (fail)
  generalize w.alloc (.cells #[.slice aT nT cT, .slice aM nM cM, .slice aL nL cL] 79) = w1 at *
  have F1 := heap_alloc_new w1 (.cells #[.slice sT nT dT, .slice sM nM dM, .slice sL nL dL] 70)
  have F2 := (Below.refl _ w1).alloc (Nat.le_refl _) (.cells #[.slice sT nT dT, .slice sM nM dM, .slice sL nL dL] 70)
  generalize w1.alloc (.cells #[.slice sT nT dT, .slice sM nM dM, .slice sL nL dL] 70) = w2 at *
  obtain ⟨b0, hb0⟩ : ∃ b0, b0 = w.heap.size := ⟨_, rfl⟩
  rw [← hb0] at E1 E3 ⊢
  rw [E3] at F1
  have HB : Hid (Below w.heap.size w w2) := Lib.hid (E2.trans (F2.mono (by omega)))
  have X0 : Hid (w2.heap[b0]? = some (.cells #[.slice aT nT cT, .slice aM nM cM, .slice aL nL cL] 79 (0, 0))) := Lib.hid ((F2.block b0 (by omega)).trans E1)
  have X1 := Lib.hid F1
  clear E1 E2 E3 F1 F2 hb0
  have H1 := Lib.hid (vals_below H1.out HB.out (Nat.le_refl _)); have H2 := Lib.hid (vals_below H2.out HB.out (Nat.le_refl _)); have H3 := Lib.hid (vals_below H3.out HB.out (Nat.le_refl _))
  have K1 := Lib.hid (K1.out.below HB.out (Nat.le_refl _)); have K2 := Lib.hid (K2.out.below HB.out (Nat.le_refl _)); have K3 := Lib.hid (K3.out.below HB.out (Nat.le_refl _))
  have HCell := Lib.hid (fun (W : World) (hb : Below w2.heap.size w2 W) => show (W.cell? ⟨b0, 0, none⟩ = some (.slice aT nT cT) ∧ W.cell? ⟨b0, 1, none⟩ = some (.slice aM nM cM) ∧ W.cell? ⟨b0, 2, none⟩ = some (.slice aL nL cL)) ∧ (W.cell? ⟨b0 + 1, 0, none⟩ = some (.slice sT nT dT) ∧ W.cell? ⟨b0 + 1, 1, none⟩ = some (.slice sM nM dM) ∧ W.cell? ⟨b0 + 1, 2, none⟩ = some (.slice sL nL dL)) from by
    have x0 := (hb.block b0 (Array.getElem?_eq_some_iff.1 X0.out).1).trans X0.out
    have x1 := (hb.block (b0 + 1) (Array.getElem?_eq_some_iff.1 X1.out).1).trans X1.out
    exact ⟨⟨cell_of_row W b0 0 _ _ (0, 0) x0, cell_of_row W b0 1 _ _ (0, 0) x0, cell_of_row W b0 2 _ _ (0, 0) x0⟩, ⟨cell_of_row W (b0 + 1) 0 _ _ (0, 0) x1, cell_of_row W (b0 + 1) 1 _ _ (0, 0) x1, cell_of_row W (b0 + 1) 2 _ _ (0, 0) x1⟩⟩)
  obtain ⟨⟨p0, p1, p2⟩, ⟨q0, q1, q2⟩⟩ := HCell.out w2 (Below.refl _ _)
  go_wp2
  clear p0 p1 p2 q0 q1 q2
  go_loopw [7] (AkR nT w2) (fun i _ => nT - (intOf i).toNat)
  case atStart => exact ⟨0, Nat.zero_le _, rfl, Below.refl _ _⟩
  case round =>
    obtain ⟨k, hk, rfl, hbel⟩ := hrel
    have HBl := Lib.hid hbel; clear hbel
    obtain ⟨⟨p0, p1, p2⟩, ⟨q0, q1, q2⟩⟩ := HCell.out wr HBl.out
    by_cases hkn : k < nT
    · have hki : (k : Int) < (nT : Int) := by omega
      have hkl : k < tops.length := by rw [HNT.out]; exact hkn
      obtain ⟨b1, o1, e1, c1⟩ := (vals_below H1.out HBl.out (Nat.le_refl _)) k (by rw [List.length_map]; exact hkl)
      obtain ⟨b2, o2, e2, c2⟩ := (K1.out.below HBl.out (Nat.le_refl _)) k (by rw [natsI_length]; exact hkl)
      subst e1 e2
      simp only [natsI, List.getElem_map] at c1 c2
      unfold num16 at c1
      have hxb := HTb.out _ (List.getElem_mem hkl)
      generalize tops[k] = x at *
      have hw : wrap64 (x : Int) = (x : Int) := by unfold wrap64; omega
      have hxx : ((x : Int) != (x : Int)) = false := by simp
      clear p1 p2 q1 q2
      go_wp2
      go_quiet (fail)
      have HBq : Hid (Below w2.heap.size w2 (wr.drewN nq)) := Lib.hid (below_drewN HBl.out nq)
      clear c1 c2 p0 q0
      generalize wr.drewN nq = w6 at *
      go_wp2
      exact ⟨⟨k + 1, by omega, by go_num, HBq.out⟩, by simp [intOf]; omega⟩
    · obtain rfl : k = nT := by omega
      have hki : ¬ (k : Int) < (k : Int) := by omega
      go_wp2
      clear p0 p1 p2 q0 q1 q2
      go_loopw [8] (AkR nM w2) (fun i _ => nM - (intOf i).toNat)
      case atStart => exact ⟨0, Nat.zero_le _, rfl, HBl.out⟩
      case round =>
        clear HBl
        obtain ⟨m, hm, rfl, hbel⟩ := hrel
        have HBl := Lib.hid hbel; clear hbel
        obtain ⟨⟨p0, p1, p2⟩, ⟨q0, q1, q2⟩⟩ := HCell.out wr HBl.out
        by_cases hmn : m < nM
        · have hmi : (m : Int) < (nM : Int) := by omega
          have hml : m < mids.length := by rw [HNM.out]; exact hmn
          obtain ⟨b1, o1, e1, c1⟩ := (vals_below H2.out HBl.out (Nat.le_refl _)) m (by rw [List.length_map]; exact hml)
          obtain ⟨b2, o2, e2, c2⟩ := (K2.out.below HBl.out (Nat.le_refl _)) m (by rw [natsI_length]; exact hml)
          subst e1 e2
          simp only [natsI, List.getElem_map] at c1 c2
          unfold num16 at c1
          have hxb := HMb.out _ (List.getElem_mem hml)
          generalize mids[m] = x at *
          have hw : wrap64 (x : Int) = (x : Int) := by unfold wrap64; omega
          have hxx : ((x : Int) != (x : Int)) = false := by simp
          clear p0 p2 q0 q2
          go_wp2
          go_quiet (fail)
          have HBq : Hid (Below w2.heap.size w2 (wr.drewN nq)) := Lib.hid (below_drewN HBl.out nq)
          clear c1 c2 p1 q1
          generalize wr.drewN nq = w6 at *
          go_wp2
          exact ⟨⟨m + 1, by omega, by go_num, HBq.out⟩, by simp [intOf]; omega⟩
        · obtain rfl : m = nM := by omega
          have hmi : ¬ (m : Int) < (m : Int) := by omega
          go_wp2
          clear p0 p1 p2 q0 q1 q2
          go_loopw [9] (AkR nL w2) (fun i _ => nL - (intOf i).toNat)
          case atStart => exact ⟨0, Nat.zero_le _, rfl, HBl.out⟩
          case round =>
            clear HBl
            obtain ⟨j, hj, rfl, hbel⟩ := hrel
            have HBl := Lib.hid hbel; clear hbel
            obtain ⟨⟨p0, p1, p2⟩, ⟨q0, q1, q2⟩⟩ := HCell.out wr HBl.out
            by_cases hjn : j < nL
            · have hji : (j : Int) < (nL : Int) := by omega
              have hjl : j < lows.length := by rw [HNL.out]; exact hjn
              obtain ⟨b1, o1, e1, c1⟩ := (vals_below H3.out HBl.out (Nat.le_refl _)) j (by rw [List.length_map]; exact hjl)
              obtain ⟨b2, o2, e2, c2⟩ := (K3.out.below HBl.out (Nat.le_refl _)) j hjl
              subst e1 e2
              simp only [List.getElem_map] at c1
              have hvk := HV.out _ (List.getElem_mem hjl)
              have HCk := Lib.hid (fun d os => (HC.out _ (List.getElem_mem hjl) (Go.Sort.grow (Go.redrawn wr d) os) (HB.out.trans ((HBl.out.mono HB.out.size).trans ((below_regrown wr d os).mono (Nat.le_trans HB.out.size HBl.out.size))))).regrown_of)
              generalize lows[j] = v at *
              have hwv : IntKind.u8.wrap v = v := by simp [IntKind.wrap, IntKind.bits, IntKind.signed]; omega
              unfold val8 at c1 HCk
              obtain ⟨x, hx⟩ : ∃ x, x = ofv v := ⟨_, rfl⟩
              rw [← hx] at c1 HCk
              clear hx
              have k0 := fun d os => cell_regrown c1 d os
              have k1 := fun d os => cell_regrown c2 d os
              have k2 := fun d os => cell_regrown p2 d os
              have k3 := fun d os => cell_regrown q2 d os
              have heg := HEg.out
              clear p0 p1 q0 q1 c1 c2
              go_upto_region 16 with (fail)
              clear p2 q2
              refine wp_region_quiet_below (by kernel_rfl) (by kernel_rfl) ?_
              iterate 12 (quiet_step (fail))
              quiet_step (exact HCk.out _ _)
              quiet_step (fail)
              refine wpQuiet_nil ?_
              intro _ hw'
              obtain ⟨⟨dq, osq⟩, hw''⟩ := hw'
              subst hw''
              have HBq : Hid (Below w2.heap.size w2 (Go.Sort.grow (Go.redrawn wr dq) osq)) := Lib.hid (HBl.out.trans ((below_regrown wr dq osq).mono HBl.out.size))
              generalize (Go.Sort.grow (Go.redrawn wr dq) osq) = w6 at *
              clear k0 k1 k2 k3 heg
              go_wp2
              go_roundw
              case rel => exact ⟨j + 1, by omega, by go_num, HBq.out⟩
              case measure => simp [intOf]; omega
            · obtain rfl : j = nL := by omega
              have hji : ¬ (j : Int) < (j : Int) := by omega
              go_wp2
              go_ret
              exact ⟨rfl, HB.out.trans (HBl.out.mono HB.out.size)⟩
end Go.Proofs.Ytabbabkmojaoaaa

/-
  Walk: what a look at a trie finds (uint8).
-/
namespace Go.Proofs.Ytabbabkmojaoaaa
open Go.RowKit
attribute [local go_sem] Oper.semAt_some
attribute [local go_sem] wide_fn

def LkA (n : Nat) (w1 : World) (iv : Value) (wr : World) : Prop := ∃ k : Nat, k ≤ n ∧ iv = .int .i64 (k : Nat) ∧ Below w1.heap.size w1 wr
/-- what is known of the trie and of the document's answer -/
structure LkOk (T : TrieD Int) (S : MkS Int) (F : Nat → Int) (of : Int → Int) (N : Nat) : Prop where
  ok : TrieOk T
  pos : 0 < T.low.length
  top : T.top = S.top
  mid : T.mid = S.mids
  low : T.low = S.lows.map (fun l => l.map of)
  look : ∀ r, r < N → lookT 0 T r = of (F r)
  rng : ∀ r, r < N → 0 ≤ F r ∧ F r ≤ 255
  inj : ∀ x y, 0 ≤ x → x ≤ 255 → 0 ≤ y → y ≤ 255 → of x = of y → x = y
  lo : ∀ l ∈ S.lows, ∀ x ∈ l, 0 ≤ x ∧ x ≤ 255
theorem Spans_fun (q : Option Addr) (w : World) : Calls Try.prog 46 #[.pointer q] w fun e w' => e = .returned (.func (.func 88) #[] #[.pointer (some ⟨w.heap.size, 0, none⟩)]) ∧
    w'.cell? ⟨w.heap.size, 0, none⟩ = some (.pointer q) ∧ w'.heap.size = w.heap.size + 1 ∧ Below w.heap.size w w' := by
  go_enter Try.func46, Try.ntmps46
  go_wp2
  go_ret
  have c0 := cell_of_row _ w.heap.size 0 _ _ (0, 0) (heap_alloc_new w (.cells #[.pointer q] 26))
  exact ⟨rfl, c0, by simp, (Below.refl _ w).alloc (Nat.le_refl _) _⟩
theorem neV_iff : ∀ a b : Int, neV a b = true ↔ a ≠ b := fun a b => by simp [neV]
/-- between two rounds of the range: how far the runs have been told -/
structure LkSt (W0 : World) (bF bN : Nat) (L : List (Int × Int)) (T : Nat → Prop) (m : Nat) (W : World) : Prop where
  but : But W0.heap.size (fun k => k = bF ∨ k = bN) W0 W
  cF : W.heap[bF]? = some (.cells #[.int .i32 (endP (-1) (L.take m) + 1)] 21 (0, 0))
  cN : W.heap[bN]? = some (.cells #[.int .i64 (m : Nat)] 3 (0, 0))
  tn : ∀ k, T k → W0.heap.size ≤ k ∧ k < W.heap.size
theorem LkSt.off {W0 : World} {bF bN : Nat} {L : List (Int × Int)} {T T' : Nat → Prop} {m : Nat} {W W' : World} (h : LkSt W0 bF bN L T m W) (h1 : bF < W0.heap.size) (h2 : bN < W0.heap.size) (ho : Off T W W') (hw : Wider T T' W W') : LkSt W0 bF bN L T' m W' :=
  ⟨h.but.off ho (fun k hk => (h.tn k hk).1) h.but.size, ho.cellsBlock h.cF (fun e => by have := (h.tn _ e).1; omega), ho.cellsBlock h.cN (fun e => by have := (h.tn _ e).1; omega), fun k hk => by
    have hs := ho.size
    have hs2 := h.but.size
    rcases hw k hk with h3 | h3
    · have := h.tn k h3; omega
    · omega⟩
def LkI (W0 : World) (bF bN : Nat) (L : List (Int × Int)) (r : Nat) (T : Nat → Prop) (pre : List (Stretch Int)) (W : World) : Prop := LkSt W0 bF bN L T pre.length W ∧ (r = 0 → pre.length < 2)
def LkX (W0 : World) (bF bN : Nat) (L : List (Int × Int)) (r : Nat) (c : Code) (T : Nat → Prop) (pre : List (Stretch Int)) (W : World) : Prop := LkSt W0 bF bN L T pre.length W ∧ c = .exit 4 ∧ pre.length = 2 ∧ r = 0
theorem LkI.abide {W0 : World} {bF bN : Nat} {L : List (Int × Int)} {r : Nat} (h1 : bF < W0.heap.size) (h2 : bN < W0.heap.size) : Abide (LkI W0 bF bN L r) := fun T T' s W W' h ho hw => ⟨h.1.off h1 h2 ho hw, h.2⟩
theorem LkX.abide {W0 : World} {bF bN : Nat} {L : List (Int × Int)} {r : Nat} (h1 : bF < W0.heap.size) (h2 : bN < W0.heap.size) : ∀ c, Abide (LkX W0 bF bN L r c) := fun c T T' s W W' h ho hw => ⟨h.1.off h1 h2 ho hw, h.2⟩
/-- a told stretch lies in a variable of the round's own -/
def LkAx (tmps : Array Value) (T : Nat → Prop) (x : Stretch Int) (a' : Act) (W : World) : Prop :=
  ∃ bX, a' = { tmps := (tmps.setIfInBounds 52 (.agg #[.int .i32 (x.f : Nat), .int .i32 (x.t : Nat), val8 x.v])).setIfInBounds 16 (.pointer (some ⟨bX, 0, none⟩)), defers := [] } ∧ W.heap[bX]? = some (.cells #[.int .i32 (x.f : Nat), .int .i32 (x.t : Nat), val8 x.v] 24 (0, 0)) ∧ ¬ T bX
set_option maxRecDepth 100000 in
set_option maxHeartbeats 4000000 in
theorem looks_walk (w : World) (g : Nat) (T : TrieD Int) (S : MkS Int) (F : Nat → Int) (of : Int → Int) (N : Nat) (hN : N = 1114112) (hok : LkOk T S F of N) (ht : TrieAt val8 114 64 w g T) (fv sv : Value) (hf : FnAt w fv (runL F N)) (hs : StagesAt w sv S)
    (cf : Nat) (lb : Array Value) (eg : ∀ args W, (callFunc cf args).run Try.prog W = .ok (.enter cf args) W)
    (hcall : ∀ v, 0 ≤ v → v ≤ 255 → ∀ W, Below w.heap.size w W → Calls Try.prog cf (#[.int .u8 v] ++ lb) W fun e W' => e = .returned (val8 (of v)) ∧ Below W.heap.size W W')
    (a : Option Addr) (n c : Nat) (zs : List Int) (hz : Ints .i32 w a zs) (hn : zs.length = n) (hzb : ∀ z ∈ zs, -2147483648 ≤ z ∧ z ≤ 2147483647) :
    Calls Try.prog 39 #[.pointer (some ⟨g, 0, none⟩), fv, sv, .func (.func cf) #[] lb, .slice a n c] w fun e w' => e = .returned (.bool true) ∧ Below w.heap.size w w' := by
  obtain ⟨aT, cT, aV, cV, rfl, hT, hV, hnT, hnV⟩ := hf
  obtain ⟨sT, dT, sM, dM, sL, dL, rfl, k1, k2, k3⟩ := hs
  obtain ⟨nR, hnR⟩ : ∃ nR, nR = (runL F N).length := ⟨_, rfl⟩
  have hnRl : nR ≤ 1114112 := by rw [hnR, ← hN]; exact runL_length F N
  rw [← hnR]
  have hS272 : S.top.length = 272 := by rw [← hok.top]; exact hok.ok.top
  rw [hS272]
  have hSm : S.mids.length ≤ 272 := by rw [← hok.mid]; exact hok.ok.midL
  have hSl : S.lows.length ≤ 17408 := by have := hok.ok.lowL; rw [hok.low, List.length_map] at this; exact this
  have HNR := Lib.hid hnR; have HN := Lib.hid hN; have HOk := Lib.hid hok; have HTr := Lib.hid ht; have HEg := Lib.hid eg; have HCl := Lib.hid hcall; have HZ := Lib.hid hz; have HNz := Lib.hid hn; have HZb := Lib.hid hzb
  have HNn := Lib.hid (And.intro hnT hnV); have HT := Lib.hid hT; have HV := Lib.hid hV; have K1 := Lib.hid k1; have K2 := Lib.hid k2; have K3 := Lib.hid k3
  clear hnR hN hok ht eg hcall hz hn hzb hT hV hnT hnV k1 k2 k3
  obtain ⟨b0, hb0⟩ : ∃ b0, b0 = w.heap.size := ⟨_, rfl⟩
  obtain ⟨W1, hW1⟩ : ∃ W1, W1 = (((w.alloc (.cells #[.slice aT nR cT, .slice aV nR cV] 63)).alloc (.cells #[.slice sT 272 dT, .slice sM (64 * S.mids.length) dM, .slice sL (64 * S.lows.length) dL] 70)).alloc (.cells #[.func (.func cf) #[] lb] 39)).alloc (.cells #[.bool false] 4) := ⟨_, rfl⟩
  have HP : Hid (Below w.heap.size w W1 ∧ W1.heap[b0]? = some (.cells #[.slice aT nR cT, .slice aV nR cV] 63 (0, 0)) ∧ W1.heap[b0 + 1]? = some (.cells #[.slice sT 272 dT, .slice sM (64 * S.mids.length) dM, .slice sL (64 * S.lows.length) dL] 70 (0, 0)) ∧ W1.heap[b0 + 2]? = some (.cells #[.func (.func cf) #[] lb] 39 (0, 0)) ∧ W1.heap[b0 + 3]? = some (.cells #[.bool false] 4 (0, 0)) ∧ W1.heap.size = b0 + 4) := Lib.hid (by
    rw [hb0, hW1]
    exact four_boxes w _ _ _ _ _ _ _ _)
  refine calls_of_wpM Try.func39 rfl ?_
  simp only [Try.ntmps39, List.size_toArray, List.length_cons, List.length_nil, Nat.reduceAdd, Nat.reduceSub, Array.replicate_succ, Array.replicate_zero, List.push_toArray, List.append_toArray, List.nil_append, List.cons_append]
  have HW := Lib.hid hW1; have HB0 := Lib.hid hb0; clear hW1 hb0
  go_upto_region 1 with (fail)
  rw [← HB0.out, ← HW.out]
  have hbz : b0 + 4 ≤ W1.heap.size := by rw [HP.out.2.2.2.2.2]; exact Nat.le_refl _
  have HTr1 := Lib.hid (HTr.out.below HP.out.1 (Nat.le_refl _)); have HZ1 := Lib.hid (HZ.out.below HP.out.1 (Nat.le_refl _)); have HT1 := Lib.hid (HT.out.below HP.out.1 (Nat.le_refl _)); have HV1 := Lib.hid (HV.out.below HP.out.1 (Nat.le_refl _))
  have K1 := Lib.hid (K1.out.below HP.out.1 (Nat.le_refl _)); have K2 := Lib.hid (K2.out.below HP.out.1 (Nat.le_refl _)); have K3 := Lib.hid (K3.out.below HP.out.1 (Nat.le_refl _))
  have HCell := Lib.hid (fun (W : World) (hb : Below W1.heap.size W1 W) => show (W.cell? ⟨b0, 0, none⟩ = some (.slice aT nR cT) ∧ W.cell? ⟨b0, 1, none⟩ = some (.slice aV nR cV)) ∧ (W.cell? ⟨b0 + 1, 0, none⟩ = some (.slice sT 272 dT) ∧ W.cell? ⟨b0 + 1, 1, none⟩ = some (.slice sM (64 * S.mids.length) dM) ∧ W.cell? ⟨b0 + 1, 2, none⟩ = some (.slice sL (64 * S.lows.length) dL)) ∧ W.cell? ⟨b0 + 2, 0, none⟩ = some (.func (.func cf) #[] lb) ∧ W.heap[b0 + 3]? = some (.cells #[.bool false] 4 (0, 0)) from by
    obtain ⟨-, x0, x1, x2, x3, -⟩ := HP.out
    have y0 := (hb.block b0 (by omega)).trans x0
    have y1 := (hb.block (b0 + 1) (by omega)).trans x1
    have y2 := (hb.block (b0 + 2) (by omega)).trans x2
    exact ⟨⟨cell_of_row W b0 0 _ _ (0, 0) y0, cell_of_row W b0 1 _ _ (0, 0) y0⟩, ⟨cell_of_row W (b0 + 1) 0 _ _ (0, 0) y1, cell_of_row W (b0 + 1) 1 _ _ (0, 0) y1, cell_of_row W (b0 + 1) 2 _ _ (0, 0) y1⟩, cell_of_row W (b0 + 2) 0 _ _ (0, 0) y2, (hb.block (b0 + 3) (by omega)).trans x3⟩)
  go_wp2
  go_loopw [11] (LkA n W1) (fun i _ => n - (intOf i).toNat)
  case atStart => exact ⟨0, Nat.zero_le _, rfl, Below.refl _ _⟩
  case round =>
    obtain ⟨k, hk, rfl, hbel⟩ := hrel
    have HBl := Lib.hid hbel; clear hbel
    go_upto_region 2 with (fail)
    go_cut [26] from 19 to 26 (fun p wx => p = .bool (decide (k < n ∧ k < 200)) ∧ wx = wr)
    case first =>
      by_cases h1 : k < n
      · have hi1 : (k : Int) < (n : Int) := by omega
        by_cases h2 : k < 200
        · have hi2 : (k : Int) < 200 := by omega
          have H3 := Lib.hid (decide_eq_true (p := k < n ∧ k < 200) ⟨h1, h2⟩)
          go_wp2
          go_meet
          exact ⟨congrArg Value.bool H3.out.symm, by first | rfl | trivial⟩
        · have hi2 : ¬ (k : Int) < 200 := by omega
          have H3 := Lib.hid (decide_eq_false (p := k < n ∧ k < 200) (fun h => h2 h.2))
          go_wp2
          go_meet
          exact ⟨congrArg Value.bool H3.out.symm, by first | rfl | trivial⟩
      · have hi1 : ¬ (k : Int) < (n : Int) := by omega
        have H3 := Lib.hid (decide_eq_false (p := k < n ∧ k < 200) (fun h => h1 h.1))
        go_wp2
        go_meet
        exact ⟨congrArg Value.bool H3.out.symm, by first | rfl | trivial⟩
    case rest =>
    obtain ⟨rfl, rfl⟩ := hcut
    by_cases hkn : k < n ∧ k < 200
    · rw [decide_eq_true hkn]
      obtain ⟨h1, h2⟩ := hkn
      have hki : (k : Int) < (n : Int) := by omega
      have hk2 : (k : Int) < 200 := by omega
      have hkl : k < zs.length := by rw [HNz.out]; exact h1
      obtain ⟨bz, oz, ez, cz⟩ := (HZ1.out.below HBl.out (Nat.le_refl _)) k hkl
      subst ez
      have hzk := HZb.out _ (List.getElem_mem hkl)
      generalize zs[k] = z at *
      obtain ⟨⟨p0, p1⟩, -, p2, -⟩ := HCell.out wc HBl.out
      have hr : runeR z < N := by have := runeR_le z; rw [HN.out]; omega
      obtain ⟨v, hv⟩ : ∃ v, v = F (runeR z) := ⟨_, rfl⟩
      have hvb := HOk.out.rng _ hr
      have hlk := HOk.out.look _ hr
      rw [← hv] at hvb hlk
      have HAt := Lib.hid (fun d os => (show Calls Try.prog 18 #[.pointer (some ⟨g, 0, none⟩), .int .i32 z] (Go.Sort.grow (redrawn wc d) os) (fun e w' => e = .returned (val8 (of v)) ∧ Below (Go.Sort.grow (redrawn wc d) os).heap.size (Go.Sort.grow (redrawn wc d) os) w') from by
        have hb := HBl.out.trans ((below_regrown wc d os).mono HBl.out.size)
        refine (At8_walk (Go.Sort.grow (redrawn wc d) os) g T HOk.out.ok HOk.out.pos (HTr1.out.below hb (Nat.le_refl _)) z hzk.1 hzk.2).mono ?_
        rintro e w' ⟨rfl, q, rfl⟩
        exact ⟨by rw [hlk], below_drewN (Below.refl _ _) q⟩).regrown_of)
      have HRf := Lib.hid (fun d os => (show Calls Try.prog 81 #[.agg #[.slice aT nR cT, .slice aV nR cV], .int .i32 z] (Go.Sort.grow (redrawn wc d) os) (fun e w' => e = .returned (.int .i64 v) ∧ Below (Go.Sort.grow (redrawn wc d) os).heap.size (Go.Sort.grow (redrawn wc d) os) w') from by
        have hb := HBl.out.trans ((below_regrown wc d os).mono HBl.out.size)
        rw [HNR.out, hv]
        exact refAt_walk (Go.Sort.grow (redrawn wc d) os) _ F N HN.out ⟨aT, cT, aV, cV, rfl, HT1.out.below hb (Nat.le_refl _), HV1.out.below hb (Nat.le_refl _), HNn.out.1, HNn.out.2⟩ z hzk.1 hzk.2).regrown_of)
      have HOf := Lib.hid (fun d os => (HCl.out v hvb.1 hvb.2 (Go.Sort.grow (redrawn wc d) os) (HP.out.1.trans ((HBl.out.trans ((below_regrown wc d os).mono HBl.out.size)).mono HP.out.1.size))).regrown_of)
      have hwv : IntKind.u8.wrap v = v := by simp [IntKind.wrap, IntKind.bits, IntKind.signed]; omega
      clear hlk hv
      generalize of v = y at HAt HOf
      unfold val8 at HAt HOf
      have e0 := fun d os => cell_regrown p0 d os
      have e1 := fun d os => cell_regrown p1 d os
      have e2 := fun d os => cell_regrown p2 d os
      have e3 := fun d os => cell_regrown cz d os
      have heg := HEg.out
      go_upto_region 4 with (fail)
      clear p0 p1 p2 cz
      refine wp_region_quiet_below (by kernel_rfl) (by kernel_rfl) ?_
      iterate 5 (quiet_step (fail))
      quiet_step (exact HAt.out _ _)
      iterate 6 (quiet_step (fail))
      quiet_step (exact HRf.out _ _)
      quiet_step (fail)
      quiet_step (exact HOf.out _ _)
      quiet_step (fail)
      refine wpQuiet_nil ?_
      intro _ hw'
      obtain ⟨⟨dq, osq⟩, hw''⟩ := hw'
      subst hw''
      have HBq : Hid (Below W1.heap.size W1 (Go.Sort.grow (redrawn wc dq) osq)) := Lib.hid (HBl.out.trans ((below_regrown wc dq osq).mono HBl.out.size))
      generalize (Go.Sort.grow (redrawn wc dq) osq) = w6 at *
      clear e0 e1 e2 e3 heg HAt HRf HOf hwv
      go_wp2
      go_roundw
      case rel => exact ⟨k + 1, by omega, by go_num, HBq.out⟩
      case measure => simp [intOf]; omega
    · rw [decide_eq_false hkn]
      clear hkn hk
      go_wp2_with fail
      refine (Spans_fun (some ⟨g, 0, none⟩) wc).mono ?_
      rintro e w2 ⟨rfl, cS, hz2, hb2⟩
      obtain ⟨bS, hbS⟩ : ∃ bS, bS = wc.heap.size := ⟨_, rfl⟩
      rw [← hbS] at cS hz2 ⊢
      have HBS := Lib.hid (show b0 + 4 ≤ bS by rw [hbS]; exact Nat.le_trans hbz HBl.out.size)
      have HB2 := Lib.hid (HBl.out.trans (hb2.mono HBl.out.size))
      have HCS := Lib.hid cS
      clear cS hbS hb2 hz2 HBl
      have A1 := heap_alloc_new w2 (.cells #[.int .i64 0] 3)
      have A2 := (Below.refl _ w2).alloc (Nat.le_refl _) (.cells #[.int .i64 0] 3)
      obtain ⟨bR, hbR⟩ : ∃ bR, bR = w2.heap.size := ⟨_, rfl⟩
      rw [← hbR] at A1
      go_wp2
      rw [← hbR]
      have HFull : Hid (spL neV (lookT 0 T) N = toS of (-1) (runL F N)) := Lib.hid (spL_runs N (by rw [HN.out]; omega) neV_iff (fun r s hr hs e => HOk.out.inj _ _ (HOk.out.rng r hr).1 (HOk.out.rng r hr).2 (HOk.out.rng s hs).1 (HOk.out.rng s hs).2 e) HOk.out.look)
      obtain ⟨Wa, hWa⟩ : ∃ Wa, Wa = w2.alloc (.cells #[.int .i64 0] 3) := ⟨_, rfl⟩
      obtain ⟨bRa, hbRa⟩ : ∃ bRa, bRa = bR := ⟨_, rfl⟩
      rw [← hWa, ← hbRa]
      rw [← hWa] at A1 A2
      rw [← hbRa] at A1
      have HRa := Lib.hid A1
      have HBa := Lib.hid (HB2.out.trans (A2.mono HB2.out.size))
      have HCSa : Hid (Wa.cell? ⟨bS, 0, none⟩ = some (.pointer (some ⟨g, 0, none⟩))) := Lib.hid ((A2.cell (p := ⟨bS, 0, none⟩) (World.block_lt_of_cell? w2 _ HCS.out)).trans HCS.out)
      clear A1 A2 hWa hbRa hbR
      refine wp_loop_rounds 3 ?_
      rw [rounds_succ]
      have qR : Wa.cell? ⟨bRa, 0, none⟩ = some (.int .i64 0) := cell_of_row Wa bRa 0 _ _ (0, 0) HRa.out
      obtain ⟨bFa, hbFa⟩ : ∃ bF, bF = Wa.heap.size := ⟨_, rfl⟩
      obtain ⟨Va, hVa⟩ : ∃ V, V = (Wa.alloc (.cells #[.int .i32 0] 21)).alloc (.cells #[.int .i64 0] 3) := ⟨_, rfl⟩
      have HVa : Hid (Below Wa.heap.size Wa Va ∧ Va.heap[bFa]? = some (.cells #[.int .i32 0] 21 (0, 0)) ∧ Va.heap[bFa + 1]? = some (.cells #[.int .i64 0] 3 (0, 0)) ∧ Va.heap.size = bFa + 2) := Lib.hid (by rw [hbFa, hVa]; exact two_boxes _ _ _ _ _)
      have HFa := Lib.hid hbFa; have HVva := Lib.hid hVa
      clear hbFa hVa
      go_upto_region 11 with (fail)
      rw [← HVva.out, ← HFa.out]
      clear qR
      have HBVa := Lib.hid (HBa.out.trans (HVa.out.1.mono HBa.out.size))
      have HRVa := Lib.hid ((HVa.out.1.block bRa (Array.getElem?_eq_some_iff.1 HRa.out).1).trans HRa.out)
      have hbSla : bS < Wa.heap.size := World.block_lt_of_cell? Wa ⟨bS, 0, none⟩ HCSa.out
      have HCVa : Hid (Va.cell? ⟨bS, 0, none⟩ = some (.pointer (some ⟨g, 0, none⟩))) := Lib.hid ((HVa.out.1.cell (p := ⟨bS, 0, none⟩) hbSla).trans HCSa.out)
      have hf1a : W1.heap.size ≤ bFa := by rw [HFa.out]; exact HBa.out.size
      have hf2a : bRa < bFa := by rw [HFa.out]; exact (Array.getElem?_eq_some_iff.1 HRa.out).1
      have hf3a : bS < bFa := by rw [HFa.out]; exact hbSla
      have hf4a : Va.heap.size = bFa + 2 := HVa.out.2.2.2
      have HSeqa := Lib.hid (spans_stops W1 g T HOk.out.ok HOk.out.pos HTr1.out bS (fun k => k < Va.heap.size ∧ k ≠ bFa ∧ k ≠ bFa + 1) Va (lies_below HBVa.out) HBVa.out.size (fun k hk => ⟨by omega, by omega, by omega⟩) ⟨by omega, by omega, by omega⟩ HCVa.out N HN.out)
      rw [HFull.out] at HSeqa
      clear hbSla
      go_wp2
      refine wp_rangeX (gf := 88) (lb := #[.pointer (some ⟨bS, 0, none⟩)]) rfl (enters_of Try.func88 (by kernel_rfl) rfl) HSeqa.out (Below.refl _ _) (fun k hk => hk.1) (fun _ => rfl)
        (LkI Va bFa (bFa + 1) (runL F N) 0) (LkX Va bFa (bFa + 1) (runL F N) 0) (LkI.abide (by omega) (by omega)) (LkX.abide (by omega) (by omega)) ⟨⟨But.refl _ _ _, HVa.out.2.1, HVa.out.2.2.1, fun _ h => h.elim⟩, fun _ => by simp⟩
        LkAx (fun T x a' W W' ⟨bX, h1, h2, h3⟩ ho => ⟨bX, h1, ho.cellsBlock h2 h3, h3⟩) ?asga ?bdya ?dna ?stpa
      case asga =>
        rintro l Tt pre x W K hi hK
        have HK := Lib.hid hK; clear hK
        have hA := heap_alloc_new W (.cells #[.int .i32 (x.f : Nat), .int .i32 (x.t : Nat), val8 x.v] 24)
        have hB := (Below.refl W.heap.size W).alloc (Nat.le_refl _) (.cells #[.int .i32 (x.f : Nat), .int .i32 (x.t : Nat), val8 x.v] 24)
        have hI : LkI Va bFa (bFa + 1) (runL F N) 0 Tt pre (W.alloc (.cells #[.int .i32 (x.f : Nat), .int .i32 (x.t : Nat), val8 x.v] 24)) := LkI.abide (by omega) (by omega) _ _ _ _ _ hi (Off.of_below hB) (Wider.refl _ _ _)
        have HH := Lib.hid (And.intro hB (And.intro hI (And.intro hA (show ¬ Tt W.heap.size from fun e => Nat.lt_irrefl _ (hi.1.tn _ e).2))))
        clear hA hB hI hi
        simp only [encQ]
        unfold val8
        gi_wp2
        exact HK.out _ _ (Kept.of_below HH.out.1) HH.out.2.1 ⟨W.heap.size, rfl, HH.out.2.2⟩
      case bdya =>
        rintro lp Tt pre x a' W hTl hl - hst hA hlen hsp
        obtain ⟨bX, rfl, hX, hXT⟩ := hA
        obtain ⟨q, -, hq1, hq2⟩ := hsp
        obtain ⟨m, hm⟩ : ∃ m, m = pre.length := ⟨_, rfl⟩
        have hmn : m < (runL F N).length := by rw [hm]; rw [toS_length] at hlen; exact hlen
        have hxg : x = ⟨(endP (-1) ((runL F N).take m) + 1).toNat, ((runL F N)[m]).1.toNat, of ((runL F N)[m]).2⟩ := by
          have h1 := toS_get of (runL F N) (-1) m hmn
          have hql : q = m + 1 := by
            have := congrArg List.length hq2
            rw [List.length_append, List.length_singleton, List.length_take] at this
            omega
          have h2 : (pre ++ [x])[m]? = some x := by rw [List.getElem?_append_right (by omega)]; simp [hm]
          rw [hq2, List.getElem?_take_of_lt (by omega), h1] at h2
          exact (Option.some.inj h2).symm
        obtain ⟨hst, hr2⟩ := hst
        rw [← hm] at hst hr2
        have hsn : LkSt Va bFa (bFa + 1) (runL F N) Tt m W := hst
        have hrise := (runL_rise F N)
        have hm0 : 0 ≤ ((runL F N)[m]).1 := hrise.2 _ (List.getElem_mem hmn)
        have hmN : ((runL F N)[m]).1 < (N : Int) := runL_lt F N _ (List.getElem_mem hmn)
        have hp0 : 0 ≤ endP (-1) ((runL F N).take m) + 1 := by
          cases m with
          | zero => simp [endP]
          | succ j =>
            rw [endP_take (runL F N) (-1) j (by omega)]
            have := hrise.2 _ (List.getElem_mem (show j < (runL F N).length by omega))
            omega
        have hep := endP_take (runL F N) (-1) m hmn
        have hvF : ∃ r0, r0 < N ∧ ((runL F N)[m]).2 = F r0 := run_val (List.getElem_mem hmn)
        obtain ⟨r0, hr0, hvr⟩ := hvF
        have hvb := HOk.out.rng r0 hr0
        rw [← hvr] at hvb
        have hbut := hsn.but
        have HBw : Hid (Below W1.heap.size W1 W) := Lib.hid (HBVa.out.trans (hbut.below _ (by omega) (fun k hk => by omega)))
        obtain ⟨⟨p0, p1⟩, -, p2, p3⟩ := HCell.out W HBw.out
        have cT := (HT1.out.below HBw.out (Nat.le_refl _)) m (by rw [List.length_map]; exact hmn)
        have cV := (HV1.out.below HBw.out (Nat.le_refl _)) m (by rw [List.length_map]; exact hmn)
        obtain ⟨b1, o1, ea1, cT⟩ := cT
        obtain ⟨b2, o2, ea2, cV⟩ := cV
        subst ea1 ea2
        simp only [List.getElem_map] at cT cV
        have hmr : m < nR := by rw [HNR.out]; exact hmn
        have hmi : ¬ (nR : Int) ≤ (m : Int) := by omega
        have hmi2 : (m : Int) < (nR : Int) := by omega
        have hXW : bX < W.heap.size := (Array.getElem?_eq_some_iff.1 hX).1
        have HQ := Lib.hid (And.intro hq2 hm)
        have HSn := Lib.hid hsn; have HR2 := Lib.hid hr2
        have HXT := Lib.hid hXT
        obtain ⟨p, hp⟩ : ∃ p, p = endP (-1) ((runL F N).take m) + 1 := ⟨_, rfl⟩
        rw [← hp] at hxg hp0
        have cF : W.cell? ⟨bFa, 0, none⟩ = some (.int .i32 p) := by rw [hp]; exact cell_of_row W bFa 0 _ _ (0, 0) hsn.cF
        have cN : W.cell? ⟨bFa + 1, 0, none⟩ = some (.int .i64 (m : Nat)) := cell_of_row W (bFa + 1) 0 _ _ (0, 0) hsn.cN
        have HEp := Lib.hid hep
        generalize (runL F N)[m] = z at *
        subst hxg
        have hx0 : W.cell? ⟨bX, 0, none⟩ = some (.int .i32 p) := by
          have := cell_of_row W bX 0 _ _ (0, 0) hX
          rw [show ((p.toNat : Nat) : Int) = p from by omega] at this
          exact this
        have hx1 : W.cell? ⟨bX, 1, none⟩ = some (.int .i32 z.1) := by
          have := cell_of_row W bX 1 _ _ (0, 0) hX
          rw [show ((z.1.toNat : Nat) : Int) = z.1 from by omega] at this
          exact this
        have hx2 : W.cell? ⟨bX, 2, none⟩ = some (val8 (of z.2)) := cell_of_row W bX 2 _ _ (0, 0) hX
        have HXc := Lib.hid hX
        have HOf := Lib.hid (fun d os => (HCl.out z.2 hvb.1 hvb.2 (Go.Sort.grow (redrawn W d) os) (HP.out.1.trans ((HBw.out.trans ((below_regrown W d os).mono HBw.out.size)).mono HP.out.1.size))).regrown_of)
        have hwv : IntKind.u8.wrap z.2 = z.2 := by simp [IntKind.wrap, IntKind.bits, IntKind.signed]; omega
        have HRw := Lib.hid (hbut.keep HRVa.out (by omega) (by omega))
        have hz1b : z.1 < 1114112 := by have := HN.out; omega
        clear hst hr2 hsn hX hXT hq1 hq2 hm hbut hrise hlen hr0 hvr p3 hep
        clear hp
        generalize of z.2 = y at HOf hx2 HXc HQ
        unfold val8 at HOf hx2
        obtain ⟨z1, z2⟩ := z
        dsimp only at *
        have e0 := fun d os => cell_regrown p0 d os
        have e1 := fun d os => cell_regrown p1 d os
        have e2 := fun d os => cell_regrown p2 d os
        have e3 := fun d os => cell_regrown cT d os
        have e4 := fun d os => cell_regrown cV d os
        have e5 := fun d os => cell_regrown cF d os
        have e6 := fun d os => cell_regrown cN d os
        have e7 := fun d os => cell_regrown hx0 d os
        have e8 := fun d os => cell_regrown hx1 d os
        have e9 := fun d os => cell_regrown hx2 d os
        have heg := HEg.out
        clear p0 p1 p2 cT cV cF cN hx0 hx1 hx2
        have dmi : decide ((nR : Int) ≤ (m : Int)) = false := decide_eq_false hmi
        have dmn : decide (nR ≤ m) = false := decide_eq_false (by omega)
        have dpp : (p != p) = false := by simp
        have dzz : (z1 != z1) = false := by simp
        have dyy : (y != y) = false := by simp
        gi_wp2
        refine wpIn_region_belowR (by kernel_rfl) (by kernel_rfl) (by kernel_rfl) ?_
        iterate 31 (gi_big_quiet_step (fail))
        gi_big_quiet_step (exact CallsIn.inRound lp (callsIn_wide.2 (HOf.out _ _)))
        iterate 2 (gi_big_quiet_step (fail))
        refine wpQuietIn_nil ?_
        intro _ hw'
        obtain ⟨⟨dq, osq⟩, hw''⟩ := hw'
        subst hw''
        have hbq := below_regrown W dq osq
        generalize (Go.Sort.grow (redrawn W dq) osq) = Wq at *
        have hsq := HSn.out.off (by omega) (by omega) (Off.of_below hbq) (Wider.refl Tt W Wq)
        have hXq := (hbq.block bX (Array.getElem?_eq_some_iff.1 HXc.out).1).trans HXc.out
        have hRq := (hbq.block bRa (Array.getElem?_eq_some_iff.1 HRw.out).1).trans HRw.out
        clear e0 e1 e2 e3 e4 e5 e6 e7 e8 e9 heg dmn dpp dzz dyy hwv HOf
        have hx1 : Wq.cell? ⟨bX, 1, none⟩ = some (.int .i32 z1) := by
          have := cell_of_row Wq bX 1 _ _ (0, 0) hXq
          rw [show ((z1.toNat : Nat) : Int) = z1 from by omega] at this
          exact this
        have fF := frozen_of_row Wq bFa 0 _ _ hsq.cF
        have qF : Wq.cell? ⟨bFa, 0, none⟩ = some _ := cell_of_row Wq bFa 0 _ _ (0, 0) hsq.cF
        have h5F := heap_setCell_same Wq bFa 0 _ _ (.int .i32 (z1 + 1)) hsq.cF
        have h5N := (heap_setCell_other Wq ⟨bFa, 0, none⟩ (bFa + 1) (.int .i32 (z1 + 1)) (by simp)).trans hsq.cN
        have h5R := (heap_setCell_other Wq ⟨bFa, 0, none⟩ bRa (.int .i32 (z1 + 1)) (by simp; omega)).trans hRq
        have g5 := grown_store Wq bFa 0 (.int .i32 (z1 + 1))
        have b5 := hsq.but.setCell bFa 0 (.int .i32 (z1 + 1)) (.inl (.inl rfl))
        have hs5 : (Wq.setCell ⟨bFa, 0, none⟩ (.int .i32 (z1 + 1))).heap.size = Wq.heap.size := by simp
        generalize hW5 : Wq.setCell ⟨bFa, 0, none⟩ (.int .i32 (z1 + 1)) = W5 at *
        have fN := frozen_of_row W5 (bFa + 1) 0 _ _ h5N
        have qN : W5.cell? ⟨bFa + 1, 0, none⟩ = some (.int .i64 (m : Nat)) := cell_of_row W5 (bFa + 1) 0 _ _ (0, 0) h5N
        have h6N := heap_setCell_same W5 (bFa + 1) 0 _ _ (.int .i64 ((m : Int) + 1)) h5N
        have h6F := (heap_setCell_other W5 ⟨bFa + 1, 0, none⟩ bFa (.int .i64 ((m : Int) + 1)) (by simp)).trans h5F
        have h6R := (heap_setCell_other W5 ⟨bFa + 1, 0, none⟩ bRa (.int .i64 ((m : Int) + 1)) (by simp; omega)).trans h5R
        have g6 := grown_store W5 (bFa + 1) 0 (.int .i64 ((m : Int) + 1))
        have b6 := b5.setCell (bFa + 1) 0 (.int .i64 ((m : Int) + 1)) (.inl (.inr rfl))
        have hs6 : (W5.setCell ⟨bFa + 1, 0, none⟩ (.int .i64 ((m : Int) + 1))).heap.size = W5.heap.size := by simp
        generalize hW6 : W5.setCell ⟨bFa + 1, 0, none⟩ (.int .i64 ((m : Int) + 1)) = W6 at *
        have qN6 : W6.cell? ⟨bFa + 1, 0, none⟩ = some (.int .i64 ((m : Int) + 1)) := cell_of_row W6 (bFa + 1) 0 _ _ (0, 0) h6N
        have qR6 : W6.cell? ⟨bRa, 0, none⟩ = some (.int .i64 0) := cell_of_row W6 bRa 0 _ _ (0, 0) h6R
        have hT0 := hsq.tn
        have HKp : Hid (Kept Tt (fun k => k < Va.heap.size ∧ k ≠ bFa ∧ k ≠ bFa + 1) W W6) := Lib.hid ((Kept.of_below hbq).trans ((Kept.of_grown g5 (fun k e h => by cases e; rcases h with h | h; have := hT0 _ h; omega; exact h.2.1 rfl)).trans (Kept.of_grown g6 (fun k e h => by cases e; rcases h with h | h; have := hT0 _ h; omega; exact h.2.2 rfl))))
        have HS6 : Hid (LkSt Va bFa (bFa + 1) (runL F N) Tt (m + 1) W6) := Lib.hid ⟨b6, by rw [HEp.out]; exact h6F, by rw [h6N]; rfl, fun k hk => by have := hT0 k hk; omega⟩
        have HPl : Hid ((pre ++ [(⟨p.toNat, z1.toNat, y⟩ : Stretch Int)]).length = m + 1) := Lib.hid (by have := HQ.out.2; simp; omega)
        clear h5F h5N h5R g5 b5 hs5 h6N h6F h6R g6 b6 hs6 hT0 hsq hXq hRq hbq
        by_cases h2 : m + 1 = 2
        · have d2 : ((m : Int) + 1 == 2) = true := by simp; omega
          have H2 := Lib.hid h2; clear h2
          gi_wp2
          exact ⟨⟨HKp.out.size, fun k hk h => HKp.out.block k hk (h.imp id (fun f => f.elim))⟩, by rw [HPl.out]; exact HS6.out, rfl, by rw [HPl.out]; exact H2.out, rfl⟩
        · have d2 : ((m : Int) + 1 == 2) = false := by simp; omega
          have H2 := Lib.hid h2; clear h2
          gi_wp2
          exact ⟨HKp.out, by rw [HPl.out]; exact HS6.out, fun _ => by rw [HPl.out]; have h2 := H2.out; have h3 := HR2.out; simp at h3; omega⟩
      case dna =>
        rintro Dad Tt xs W hDl hTD hxs ⟨hst, -⟩ hDk
        subst hxs
        rw [toS_length] at hst
        have hsq : LkSt Va bFa (bFa + 1) (runL F N) Tt nR W := by rw [HNR.out]; exact hst
        clear hst
        obtain ⟨mm, hmm⟩ : ∃ mm, mm = nR := ⟨_, rfl⟩
        rw [← hmm] at hsq

        obtain ⟨Uad, hUad⟩ : ∃ U, U = W := ⟨_, rfl⟩
        rw [← hUad] at hsq hDk ⊢
        clear hUad
        have hbut := hsq.but
        have HBuad : Hid (Below W1.heap.size W1 Uad) := Lib.hid (HBVa.out.trans (hbut.below _ (by omega) (fun k hk => by omega)))
        have HRuad : Hid (Uad.heap[bRa]? = some (.cells #[.int .i64 0] 3 (0, 0))) := Lib.hid (hbut.keep HRVa.out (by omega) (by omega))
        have HDvad := Lib.hid hDl
        have HLiad0 : Hid (∀ k, k < Wa.heap.size → Uad.heap[k]? = Wa.heap[k]?) := Lib.hid (fun k hk => (hbut.block k (by have := HVa.out.1.size; omega) (by have := HFa.out; omega)).trans (HVa.out.1.block k hk))
        have HDkad := Lib.hid (And.intro (show W1.heap.size ≤ Dad from by have := HBVa.out.size; omega) hDk)
        have HCuad : Hid (Uad.cell? ⟨bS, 0, none⟩ = some (.pointer (some ⟨g, 0, none⟩))) := Lib.hid (hbut.cell HCVa.out (by omega) (by omega))
        have qN : Uad.cell? ⟨bFa + 1, 0, none⟩ = some (.int .i64 (mm : Nat)) := cell_of_row Uad (bFa + 1) 0 _ _ (0, 0) hsq.cN
        have qR : Uad.cell? ⟨bRa, 0, none⟩ = some (.int .i64 0) := cell_of_row Uad bRa 0 _ _ (0, 0) HRuad.out
        obtain ⟨⟨p0, p1⟩, -, -, -⟩ := HCell.out Uad HBuad.out
        have hC := heap_alloc_new Uad (.cells #[.int .i64 1] 3)
        have hD := (Below.refl Uad.heap.size Uad).alloc (Nat.le_refl _) (.cells #[.int .i64 1] 3)
        obtain ⟨Wad, hWad⟩ : ∃ X, Uad.alloc (.cells #[.int .i64 1] 3) = X := ⟨_, rfl⟩
        rw [hWad] at hC hD
        have HWwad := Lib.hid hWad
        clear hWad
        have HRad : Hid (Wad.heap[Uad.heap.size]? = some (.cells #[.int .i64 1] 3 (0, 0))) := Lib.hid hC
        have HBad : Hid (Below W1.heap.size W1 Wad) := Lib.hid (HBuad.out.trans (hD.mono HBuad.out.size))
        have HCSad : Hid (Wad.cell? ⟨bS, 0, none⟩ = some (.pointer (some ⟨g, 0, none⟩))) := Lib.hid ((hD.cell (p := ⟨bS, 0, none⟩) (World.block_lt_of_cell? Uad _ HCuad.out)).trans HCuad.out)
        have HDmad : Hid (W1.heap.size ≤ Dad ∧ Wad.heap[Dad]? = some (.deferred (some []))) := Lib.hid ⟨HDkad.out.1, (hD.block Dad (Array.getElem?_eq_some_iff.1 HDkad.out.2).1).trans HDkad.out.2⟩
        have HLiad : Hid (∀ k, k < Wa.heap.size → Wad.heap[k]? = Wa.heap[k]?) := Lib.hid (fun k hk => (hD.block k (by have := hbut.size; have := HVa.out.1.size; omega)).trans (HLiad0.out k hk))
        clear hC hD hbut hsq hDk
        have dmn : ((mm : Int) != (nR : Int)) = false := by simp [hmm]
        clear hmm
        go_wp2
        rw [HWwad.out]
        clear HWwad qN qR p0 p1
        obtain ⟨bRad, hbRad⟩ : ∃ b, b = Uad.heap.size := ⟨_, rfl⟩
        rw [← hbRad] at HRad ⊢
        clear hbRad
        rw [rounds_succ]
        have qR : Wad.cell? ⟨bRad, 0, none⟩ = some (.int .i64 1) := cell_of_row Wad bRad 0 _ _ (0, 0) HRad.out
        obtain ⟨bFad, hbFad⟩ : ∃ bF, bF = Wad.heap.size := ⟨_, rfl⟩
        obtain ⟨Vad, hVad⟩ : ∃ V, V = (Wad.alloc (.cells #[.int .i32 0] 21)).alloc (.cells #[.int .i64 0] 3) := ⟨_, rfl⟩
        have HVad : Hid (Below Wad.heap.size Wad Vad ∧ Vad.heap[bFad]? = some (.cells #[.int .i32 0] 21 (0, 0)) ∧ Vad.heap[bFad + 1]? = some (.cells #[.int .i64 0] 3 (0, 0)) ∧ Vad.heap.size = bFad + 2) := Lib.hid (by rw [hbFad, hVad]; exact two_boxes _ _ _ _ _)
        have HFad := Lib.hid hbFad; have HVvad := Lib.hid hVad
        clear hbFad hVad
        go_upto_region 11 with (fail)
        rw [← HVvad.out, ← HFad.out]
        clear qR
        have HBVad := Lib.hid (HBad.out.trans (HVad.out.1.mono HBad.out.size))
        have HRVad := Lib.hid ((HVad.out.1.block bRad (Array.getElem?_eq_some_iff.1 HRad.out).1).trans HRad.out)
        have hbSlad : bS < Wad.heap.size := World.block_lt_of_cell? Wad ⟨bS, 0, none⟩ HCSad.out
        have HCVad : Hid (Vad.cell? ⟨bS, 0, none⟩ = some (.pointer (some ⟨g, 0, none⟩))) := Lib.hid ((HVad.out.1.cell (p := ⟨bS, 0, none⟩) hbSlad).trans HCSad.out)
        have hf1ad : W1.heap.size ≤ bFad := by rw [HFad.out]; exact HBad.out.size
        have hf2ad : bRad < bFad := by rw [HFad.out]; exact (Array.getElem?_eq_some_iff.1 HRad.out).1
        have hf3ad : bS < bFad := by rw [HFad.out]; exact hbSlad
        have hf4ad : Vad.heap.size = bFad + 2 := HVad.out.2.2.2
        have HSeqad := Lib.hid (spans_stops W1 g T HOk.out.ok HOk.out.pos HTr1.out bS (fun k => k < Vad.heap.size ∧ k ≠ bFad ∧ k ≠ bFad + 1) Vad (lies_below HBVad.out) HBVad.out.size (fun k hk => ⟨by omega, by omega, by omega⟩) ⟨by omega, by omega, by omega⟩ HCVad.out N HN.out)
        rw [HFull.out] at HSeqad
        clear hbSlad
        go_wp2
        refine wp_rangeX (gf := 88) (lb := #[.pointer (some ⟨bS, 0, none⟩)]) rfl (enters_of Try.func88 (by kernel_rfl) rfl) HSeqad.out (Below.refl _ _) (fun k hk => hk.1) (fun _ => rfl)
          (LkI Vad bFad (bFad + 1) (runL F N) 1) (LkX Vad bFad (bFad + 1) (runL F N) 1) (LkI.abide (by omega) (by omega)) (LkX.abide (by omega) (by omega)) ⟨⟨But.refl _ _ _, HVad.out.2.1, HVad.out.2.2.1, fun _ h => h.elim⟩, fun _ => by simp⟩
          LkAx (fun T x a' W W' ⟨bX, h1, h2, h3⟩ ho => ⟨bX, h1, ho.cellsBlock h2 h3, h3⟩) ?asgad ?bdyad ?dnad ?stpad
        case asgad =>
          rintro l Tt pre x W K hi hK
          have HK := Lib.hid hK; clear hK
          have hA := heap_alloc_new W (.cells #[.int .i32 (x.f : Nat), .int .i32 (x.t : Nat), val8 x.v] 24)
          have hB := (Below.refl W.heap.size W).alloc (Nat.le_refl _) (.cells #[.int .i32 (x.f : Nat), .int .i32 (x.t : Nat), val8 x.v] 24)
          have hI : LkI Vad bFad (bFad + 1) (runL F N) 1 Tt pre (W.alloc (.cells #[.int .i32 (x.f : Nat), .int .i32 (x.t : Nat), val8 x.v] 24)) := LkI.abide (by omega) (by omega) _ _ _ _ _ hi (Off.of_below hB) (Wider.refl _ _ _)
          have HH := Lib.hid (And.intro hB (And.intro hI (And.intro hA (show ¬ Tt W.heap.size from fun e => Nat.lt_irrefl _ (hi.1.tn _ e).2))))
          clear hA hB hI hi
          simp only [encQ]
          unfold val8
          gi_wp2
          exact HK.out _ _ (Kept.of_below HH.out.1) HH.out.2.1 ⟨W.heap.size, rfl, HH.out.2.2⟩
        case bdyad =>
          rintro lp Tt pre x a' W hTl hl - hst hA hlen hsp
          obtain ⟨bX, rfl, hX, hXT⟩ := hA
          obtain ⟨q, -, hq1, hq2⟩ := hsp
          obtain ⟨m, hm⟩ : ∃ m, m = pre.length := ⟨_, rfl⟩
          have hmn : m < (runL F N).length := by rw [hm]; rw [toS_length] at hlen; exact hlen
          have hxg : x = ⟨(endP (-1) ((runL F N).take m) + 1).toNat, ((runL F N)[m]).1.toNat, of ((runL F N)[m]).2⟩ := by
            have h1 := toS_get of (runL F N) (-1) m hmn
            have hql : q = m + 1 := by
              have := congrArg List.length hq2
              rw [List.length_append, List.length_singleton, List.length_take] at this
              omega
            have h2 : (pre ++ [x])[m]? = some x := by rw [List.getElem?_append_right (by omega)]; simp [hm]
            rw [hq2, List.getElem?_take_of_lt (by omega), h1] at h2
            exact (Option.some.inj h2).symm
          obtain ⟨hst, hr2⟩ := hst
          rw [← hm] at hst hr2
          have hsn : LkSt Vad bFad (bFad + 1) (runL F N) Tt m W := hst
          have hrise := (runL_rise F N)
          have hm0 : 0 ≤ ((runL F N)[m]).1 := hrise.2 _ (List.getElem_mem hmn)
          have hmN : ((runL F N)[m]).1 < (N : Int) := runL_lt F N _ (List.getElem_mem hmn)
          have hp0 : 0 ≤ endP (-1) ((runL F N).take m) + 1 := by
            cases m with
            | zero => simp [endP]
            | succ j =>
              rw [endP_take (runL F N) (-1) j (by omega)]
              have := hrise.2 _ (List.getElem_mem (show j < (runL F N).length by omega))
              omega
          have hep := endP_take (runL F N) (-1) m hmn
          have hvF : ∃ r0, r0 < N ∧ ((runL F N)[m]).2 = F r0 := run_val (List.getElem_mem hmn)
          obtain ⟨r0, hr0, hvr⟩ := hvF
          have hvb := HOk.out.rng r0 hr0
          rw [← hvr] at hvb
          have hbut := hsn.but
          have HBw : Hid (Below W1.heap.size W1 W) := Lib.hid (HBVad.out.trans (hbut.below _ (by omega) (fun k hk => by omega)))
          obtain ⟨⟨p0, p1⟩, -, p2, p3⟩ := HCell.out W HBw.out
          have cT := (HT1.out.below HBw.out (Nat.le_refl _)) m (by rw [List.length_map]; exact hmn)
          have cV := (HV1.out.below HBw.out (Nat.le_refl _)) m (by rw [List.length_map]; exact hmn)
          obtain ⟨b1, o1, ea1, cT⟩ := cT
          obtain ⟨b2, o2, ea2, cV⟩ := cV
          subst ea1 ea2
          simp only [List.getElem_map] at cT cV
          have hmr : m < nR := by rw [HNR.out]; exact hmn
          have hmi : ¬ (nR : Int) ≤ (m : Int) := by omega
          have hmi2 : (m : Int) < (nR : Int) := by omega
          have hXW : bX < W.heap.size := (Array.getElem?_eq_some_iff.1 hX).1
          have HQ := Lib.hid (And.intro hq2 hm)
          have HSn := Lib.hid hsn; have HR2 := Lib.hid hr2
          have HXT := Lib.hid hXT
          obtain ⟨p, hp⟩ : ∃ p, p = endP (-1) ((runL F N).take m) + 1 := ⟨_, rfl⟩
          rw [← hp] at hxg hp0
          have cF : W.cell? ⟨bFad, 0, none⟩ = some (.int .i32 p) := by rw [hp]; exact cell_of_row W bFad 0 _ _ (0, 0) hsn.cF
          have cN : W.cell? ⟨bFad + 1, 0, none⟩ = some (.int .i64 (m : Nat)) := cell_of_row W (bFad + 1) 0 _ _ (0, 0) hsn.cN
          have HEp := Lib.hid hep
          generalize (runL F N)[m] = z at *
          subst hxg
          have hx0 : W.cell? ⟨bX, 0, none⟩ = some (.int .i32 p) := by
            have := cell_of_row W bX 0 _ _ (0, 0) hX
            rw [show ((p.toNat : Nat) : Int) = p from by omega] at this
            exact this
          have hx1 : W.cell? ⟨bX, 1, none⟩ = some (.int .i32 z.1) := by
            have := cell_of_row W bX 1 _ _ (0, 0) hX
            rw [show ((z.1.toNat : Nat) : Int) = z.1 from by omega] at this
            exact this
          have hx2 : W.cell? ⟨bX, 2, none⟩ = some (val8 (of z.2)) := cell_of_row W bX 2 _ _ (0, 0) hX
          have HXc := Lib.hid hX
          have HOf := Lib.hid (fun d os => (HCl.out z.2 hvb.1 hvb.2 (Go.Sort.grow (redrawn W d) os) (HP.out.1.trans ((HBw.out.trans ((below_regrown W d os).mono HBw.out.size)).mono HP.out.1.size))).regrown_of)
          have hwv : IntKind.u8.wrap z.2 = z.2 := by simp [IntKind.wrap, IntKind.bits, IntKind.signed]; omega
          have HRw := Lib.hid (hbut.keep HRVad.out (by omega) (by omega))
          have hz1b : z.1 < 1114112 := by have := HN.out; omega
          clear hst hr2 hsn hX hXT hq1 hq2 hm hbut hrise hlen hr0 hvr p3 hep
          clear hp
          generalize of z.2 = y at HOf hx2 HXc HQ
          unfold val8 at HOf hx2
          obtain ⟨z1, z2⟩ := z
          dsimp only at *
          have e0 := fun d os => cell_regrown p0 d os
          have e1 := fun d os => cell_regrown p1 d os
          have e2 := fun d os => cell_regrown p2 d os
          have e3 := fun d os => cell_regrown cT d os
          have e4 := fun d os => cell_regrown cV d os
          have e5 := fun d os => cell_regrown cF d os
          have e6 := fun d os => cell_regrown cN d os
          have e7 := fun d os => cell_regrown hx0 d os
          have e8 := fun d os => cell_regrown hx1 d os
          have e9 := fun d os => cell_regrown hx2 d os
          have heg := HEg.out
          clear p0 p1 p2 cT cV cF cN hx0 hx1 hx2
          have dmi : decide ((nR : Int) ≤ (m : Int)) = false := decide_eq_false hmi
          have dmn : decide (nR ≤ m) = false := decide_eq_false (by omega)
          have dpp : (p != p) = false := by simp
          have dzz : (z1 != z1) = false := by simp
          have dyy : (y != y) = false := by simp
          gi_wp2
          refine wpIn_region_belowR (by kernel_rfl) (by kernel_rfl) (by kernel_rfl) ?_
          iterate 31 (gi_big_quiet_step (fail))
          gi_big_quiet_step (exact CallsIn.inRound lp (callsIn_wide.2 (HOf.out _ _)))
          iterate 2 (gi_big_quiet_step (fail))
          refine wpQuietIn_nil ?_
          intro _ hw'
          obtain ⟨⟨dq, osq⟩, hw''⟩ := hw'
          subst hw''
          have hbq := below_regrown W dq osq
          generalize (Go.Sort.grow (redrawn W dq) osq) = Wq at *
          have hsq := HSn.out.off (by omega) (by omega) (Off.of_below hbq) (Wider.refl Tt W Wq)
          have hXq := (hbq.block bX (Array.getElem?_eq_some_iff.1 HXc.out).1).trans HXc.out
          have hRq := (hbq.block bRad (Array.getElem?_eq_some_iff.1 HRw.out).1).trans HRw.out
          clear e0 e1 e2 e3 e4 e5 e6 e7 e8 e9 heg dmn dpp dzz dyy hwv HOf
          have hx1 : Wq.cell? ⟨bX, 1, none⟩ = some (.int .i32 z1) := by
            have := cell_of_row Wq bX 1 _ _ (0, 0) hXq
            rw [show ((z1.toNat : Nat) : Int) = z1 from by omega] at this
            exact this
          have fF := frozen_of_row Wq bFad 0 _ _ hsq.cF
          have qF : Wq.cell? ⟨bFad, 0, none⟩ = some _ := cell_of_row Wq bFad 0 _ _ (0, 0) hsq.cF
          have h5F := heap_setCell_same Wq bFad 0 _ _ (.int .i32 (z1 + 1)) hsq.cF
          have h5N := (heap_setCell_other Wq ⟨bFad, 0, none⟩ (bFad + 1) (.int .i32 (z1 + 1)) (by simp)).trans hsq.cN
          have h5R := (heap_setCell_other Wq ⟨bFad, 0, none⟩ bRad (.int .i32 (z1 + 1)) (by simp; omega)).trans hRq
          have g5 := grown_store Wq bFad 0 (.int .i32 (z1 + 1))
          have b5 := hsq.but.setCell bFad 0 (.int .i32 (z1 + 1)) (.inl (.inl rfl))
          have hs5 : (Wq.setCell ⟨bFad, 0, none⟩ (.int .i32 (z1 + 1))).heap.size = Wq.heap.size := by simp
          generalize hW5 : Wq.setCell ⟨bFad, 0, none⟩ (.int .i32 (z1 + 1)) = W5 at *
          have fN := frozen_of_row W5 (bFad + 1) 0 _ _ h5N
          have qN : W5.cell? ⟨bFad + 1, 0, none⟩ = some (.int .i64 (m : Nat)) := cell_of_row W5 (bFad + 1) 0 _ _ (0, 0) h5N
          have h6N := heap_setCell_same W5 (bFad + 1) 0 _ _ (.int .i64 ((m : Int) + 1)) h5N
          have h6F := (heap_setCell_other W5 ⟨bFad + 1, 0, none⟩ bFad (.int .i64 ((m : Int) + 1)) (by simp)).trans h5F
          have h6R := (heap_setCell_other W5 ⟨bFad + 1, 0, none⟩ bRad (.int .i64 ((m : Int) + 1)) (by simp; omega)).trans h5R
          have g6 := grown_store W5 (bFad + 1) 0 (.int .i64 ((m : Int) + 1))
          have b6 := b5.setCell (bFad + 1) 0 (.int .i64 ((m : Int) + 1)) (.inl (.inr rfl))
          have hs6 : (W5.setCell ⟨bFad + 1, 0, none⟩ (.int .i64 ((m : Int) + 1))).heap.size = W5.heap.size := by simp
          generalize hW6 : W5.setCell ⟨bFad + 1, 0, none⟩ (.int .i64 ((m : Int) + 1)) = W6 at *
          have qN6 : W6.cell? ⟨bFad + 1, 0, none⟩ = some (.int .i64 ((m : Int) + 1)) := cell_of_row W6 (bFad + 1) 0 _ _ (0, 0) h6N
          have qR6 : W6.cell? ⟨bRad, 0, none⟩ = some (.int .i64 1) := cell_of_row W6 bRad 0 _ _ (0, 0) h6R
          have hT0 := hsq.tn
          have HKp : Hid (Kept Tt (fun k => k < Vad.heap.size ∧ k ≠ bFad ∧ k ≠ bFad + 1) W W6) := Lib.hid ((Kept.of_below hbq).trans ((Kept.of_grown g5 (fun k e h => by cases e; rcases h with h | h; have := hT0 _ h; omega; exact h.2.1 rfl)).trans (Kept.of_grown g6 (fun k e h => by cases e; rcases h with h | h; have := hT0 _ h; omega; exact h.2.2 rfl))))
          have HS6 : Hid (LkSt Vad bFad (bFad + 1) (runL F N) Tt (m + 1) W6) := Lib.hid ⟨b6, by rw [HEp.out]; exact h6F, by rw [h6N]; rfl, fun k hk => by have := hT0 k hk; omega⟩
          have HPl : Hid ((pre ++ [(⟨p.toNat, z1.toNat, y⟩ : Stretch Int)]).length = m + 1) := Lib.hid (by have := HQ.out.2; simp; omega)
          clear h5F h5N h5R g5 b5 hs5 h6N h6F h6R g6 b6 hs6 hT0 hsq hXq hRq hbq
          gi_wp2
          exact ⟨HKp.out, by rw [HPl.out]; exact HS6.out, fun h => by cases h⟩
        case dnad =>
          rintro Dadd Tt xs W hDl hTD hxs ⟨hst, -⟩ hDk
          subst hxs
          rw [toS_length] at hst
          have hsq : LkSt Vad bFad (bFad + 1) (runL F N) Tt nR W := by rw [HNR.out]; exact hst
          clear hst
          obtain ⟨mm, hmm⟩ : ∃ mm, mm = nR := ⟨_, rfl⟩
          rw [← hmm] at hsq

          obtain ⟨Uadd, hUadd⟩ : ∃ U, U = W := ⟨_, rfl⟩
          rw [← hUadd] at hsq hDk ⊢
          clear hUadd
          have hbut := hsq.but
          have HBuadd : Hid (Below W1.heap.size W1 Uadd) := Lib.hid (HBVad.out.trans (hbut.below _ (by omega) (fun k hk => by omega)))
          have HRuadd : Hid (Uadd.heap[bRad]? = some (.cells #[.int .i64 1] 3 (0, 0))) := Lib.hid (hbut.keep HRVad.out (by omega) (by omega))
          have HDvadd := Lib.hid hDl
          have HLiadd0 : Hid (∀ k, k < Wad.heap.size → Uadd.heap[k]? = Wad.heap[k]?) := Lib.hid (fun k hk => (hbut.block k (by have := HVad.out.1.size; omega) (by have := HFad.out; omega)).trans (HVad.out.1.block k hk))
          have HDkadd := Lib.hid (And.intro (show W1.heap.size ≤ Dadd from by have := HBVad.out.size; omega) hDk)
          have HCuadd : Hid (Uadd.cell? ⟨bS, 0, none⟩ = some (.pointer (some ⟨g, 0, none⟩))) := Lib.hid (hbut.cell HCVad.out (by omega) (by omega))
          have qN : Uadd.cell? ⟨bFad + 1, 0, none⟩ = some (.int .i64 (mm : Nat)) := cell_of_row Uadd (bFad + 1) 0 _ _ (0, 0) hsq.cN
          have qR : Uadd.cell? ⟨bRad, 0, none⟩ = some (.int .i64 1) := cell_of_row Uadd bRad 0 _ _ (0, 0) HRuadd.out
          obtain ⟨⟨p0, p1⟩, -, -, -⟩ := HCell.out Uadd HBuadd.out
          have hC := heap_alloc_new Uadd (.cells #[.int .i64 2] 3)
          have hD := (Below.refl Uadd.heap.size Uadd).alloc (Nat.le_refl _) (.cells #[.int .i64 2] 3)
          obtain ⟨Wadd, hWadd⟩ : ∃ X, Uadd.alloc (.cells #[.int .i64 2] 3) = X := ⟨_, rfl⟩
          rw [hWadd] at hC hD
          have HWwadd := Lib.hid hWadd
          clear hWadd
          have HRadd : Hid (Wadd.heap[Uadd.heap.size]? = some (.cells #[.int .i64 2] 3 (0, 0))) := Lib.hid hC
          have HBadd : Hid (Below W1.heap.size W1 Wadd) := Lib.hid (HBuadd.out.trans (hD.mono HBuadd.out.size))
          have HCSadd : Hid (Wadd.cell? ⟨bS, 0, none⟩ = some (.pointer (some ⟨g, 0, none⟩))) := Lib.hid ((hD.cell (p := ⟨bS, 0, none⟩) (World.block_lt_of_cell? Uadd _ HCuadd.out)).trans HCuadd.out)
          have HDmadd : Hid (W1.heap.size ≤ Dadd ∧ Wadd.heap[Dadd]? = some (.deferred (some []))) := Lib.hid ⟨HDkadd.out.1, (hD.block Dadd (Array.getElem?_eq_some_iff.1 HDkadd.out.2).1).trans HDkadd.out.2⟩
          have HLiadd : Hid (∀ k, k < Wad.heap.size → Wadd.heap[k]? = Wad.heap[k]?) := Lib.hid (fun k hk => (hD.block k (by have := hbut.size; have := HVad.out.1.size; omega)).trans (HLiadd0.out k hk))
          clear hC hD hbut hsq hDk
          have dmn : ((mm : Int) != (nR : Int)) = false := by simp [hmm]
          clear hmm
          go_wp2
          rw [HWwadd.out]
          clear HWwadd qN qR p0 p1
          obtain ⟨bRadd, hbRadd⟩ : ∃ b, b = Uadd.heap.size := ⟨_, rfl⟩
          rw [← hbRadd] at HRadd ⊢
          clear hbRadd
          rw [rounds_succ]
          have qR : Wadd.cell? ⟨bRadd, 0, none⟩ = some (.int .i64 2) := cell_of_row Wadd bRadd 0 _ _ (0, 0) HRadd.out
          have HTz := Lib.hid (HTr1.out.below HBadd.out (Nat.le_refl _))
          go_wp2_with fail
          refine (Blocks8_walk Wadd g T HOk.out.ok HOk.out.pos HTz.out).mono ?_
          rintro e we ⟨rfl, q, rfl⟩
          clear qR
          have HBz : Hid (Below W1.heap.size W1 (Wadd.drewN q)) := Lib.hid (below_drewN HBadd.out q)
          have HD1 : Hid (W1.heap.size ≤ Dad ∧ (Wadd.drewN q).heap[Dad]? = some (.deferred (some []))) := Lib.hid ⟨HDmad.out.1, (HLiadd.out Dad (Array.getElem?_eq_some_iff.1 HDmad.out.2).1).trans HDmad.out.2⟩
          have HD2 : Hid (W1.heap.size ≤ Dadd ∧ (Wadd.drewN q).heap[Dadd]? = some (.deferred (some []))) := Lib.hid ⟨HDmadd.out.1, HDmadd.out.2⟩
          have HNd : Hid (Dad ≠ Dadd) := Lib.hid (by
            have h1 := (Array.getElem?_eq_some_iff.1 HDmad.out.2).1
            have h2 := HVad.out.1.size
            have h3 := HDvadd.out
            omega)
          generalize Wadd.drewN q = Wz at *
          have hml : T.mid.length = S.mids.length := by rw [HOk.out.mid]
          have hll : T.low.length = S.lows.length := by rw [HOk.out.low, List.length_map]
          rw [hml, hll]
          obtain ⟨nm, hnm⟩ : ∃ nm, nm = S.mids.length := ⟨_, rfl⟩
          obtain ⟨nl, hnl⟩ : ∃ nl, nl = S.lows.length := ⟨_, rfl⟩
          obtain ⟨-, ⟨p0, p1, p2⟩, p3, p4⟩ := HCell.out Wz HBz.out
          rw [← hnm] at p1 hSm
          rw [← hnl] at p2 hSl
          rw [← hnm, ← hnl]
          have HNm := Lib.hid (And.intro hnm hnl)
          have HMl := Lib.hid (And.intro hml hll)
          clear hnm hnl hml hll
          have em : ((nm : Int) * 64 == ((64 * nm : Nat) : Int)) = true := by simp; omega
          have el : ((nl : Int) * 64 == ((64 * nl : Nat) : Int)) = true := by simp; omega
          have hw1 : IntKind.i64.wrap ((nm : Int) * 64) = (nm : Int) * 64 := by simp [IntKind.wrap, IntKind.bits, IntKind.signed]; omega
          have hw2 : IntKind.i64.wrap ((nl : Int) * 64) = (nl : Int) * 64 := by simp [IntKind.wrap, IntKind.bits, IntKind.signed]; omega
          have em2 : ((nm : Int) * 64 == 64 * (nm : Int)) = true := by simp; omega
          have el2 : ((nl : Int) * 64 == 64 * (nl : Int)) = true := by simp; omega
          clear p4
          go_upto_region 23 with (fail)
          refine wp_region_noPanic ?_
          refine (wpIn_wide (n := 2)).1 ?_
          refine wpIn_region_calm [21] (fun w' : World => w'.cell? ⟨b0 + 1, 0, none⟩ = some (.slice sT 272 dT) ∧ w'.cell? ⟨b0 + 1, 1, none⟩ = some (.slice sM (64 * nm) dM) ∧ w'.cell? ⟨b0 + 1, 2, none⟩ = some (.slice sL (64 * nl) dL) ∧ w'.cell? ⟨b0 + 2, 0, none⟩ = some (.func (.func cf) #[] lb)) (by kernel_rfl) ?_
          have HCb : Hid (∀ (wa wb : World), Below wa.heap.size wa wb → (wa.cell? ⟨b0 + 1, 0, none⟩ = some (.slice sT 272 dT) ∧ wa.cell? ⟨b0 + 1, 1, none⟩ = some (.slice sM (64 * nm) dM) ∧ wa.cell? ⟨b0 + 1, 2, none⟩ = some (.slice sL (64 * nl) dL) ∧ wa.cell? ⟨b0 + 2, 0, none⟩ = some (.func (.func cf) #[] lb)) → (wb.cell? ⟨b0 + 1, 0, none⟩ = some (.slice sT 272 dT) ∧ wb.cell? ⟨b0 + 1, 1, none⟩ = some (.slice sM (64 * nm) dM) ∧ wb.cell? ⟨b0 + 1, 2, none⟩ = some (.slice sL (64 * nl) dL) ∧ wb.cell? ⟨b0 + 2, 0, none⟩ = some (.func (.func cf) #[] lb))) := Lib.hid (fun wa wb hb ⟨h1, h2, h3, h4⟩ =>
            ⟨(hb.cell (p := ⟨b0 + 1, 0, none⟩) (World.block_lt_of_cell? wa _ h1)).trans h1, (hb.cell (p := ⟨b0 + 1, 1, none⟩) (World.block_lt_of_cell? wa _ h2)).trans h2, (hb.cell (p := ⟨b0 + 1, 2, none⟩) (World.block_lt_of_cell? wa _ h3)).trans h3, (hb.cell (p := ⟨b0 + 2, 0, none⟩) (World.block_lt_of_cell? wa _ h4)).trans h4⟩)
          have HCx : Hid (Wz.drew.cell? ⟨b0 + 1, 0, none⟩ = some (.slice sT 272 dT) ∧ Wz.drew.cell? ⟨b0 + 1, 1, none⟩ = some (.slice sM (64 * nm) dM) ∧ Wz.drew.cell? ⟨b0 + 1, 2, none⟩ = some (.slice sL (64 * nl) dL) ∧ Wz.drew.cell? ⟨b0 + 2, 0, none⟩ = some (.func (.func cf) #[] lb)) := Lib.hid ⟨p0, p1, p2, p3⟩
          have HBy : Hid (Below W1.heap.size W1 Wz.drew) := Lib.hid HBz.out.drew
          have HD1y : Hid (W1.heap.size ≤ Dad ∧ Wz.drew.heap[Dad]? = some (.deferred (some []))) := Lib.hid HD1.out
          have HD2y : Hid (W1.heap.size ≤ Dadd ∧ Wz.drew.heap[Dadd]? = some (.deferred (some []))) := Lib.hid HD2.out
          clear p0 p1 p2 p3 HBz HD1 HD2
          generalize Wz.drew = Wy at *
          refine' anyD_take (i := 0) (v := _) [1, 5, 6, 7, 8, 9, 10, 11, 12, 13, 14, 15, 16, 17, 18, 19, 20, 21] (by kernel_rfl) rfl (by rfl) (by kernel_rfl) (fun _ _ _ h => h) (by rfl) ?hadd0 HCx.out ?kadd0
          case hadd0 =>
            rintro w' ⟨c0, c1, c2, c3⟩
            go_simp
            try with_reducible rfl
          simp only [List.getElem_toArray, List.getElem_cons_zero, List.getElem_cons_succ, Act.put, List.setIfInBounds_toArray, List.set_cons_zero, List.set_cons_succ]
          refine' anyD_take (i := 1) (v := _) [5, 6, 7, 8, 9, 10, 11, 12, 13, 14, 15, 16, 17, 18, 19, 20, 21] (by kernel_rfl) rfl (by rfl) (by kernel_rfl) (fun _ _ _ h => h) (by rfl) ?hadd1 HCx.out ?kadd1
          case hadd1 =>
            rintro w' ⟨c0, c1, c2, c3⟩
            go_simp
            try with_reducible rfl
          simp only [List.getElem_toArray, List.getElem_cons_zero, List.getElem_cons_succ, Act.put, List.setIfInBounds_toArray, List.set_cons_zero, List.set_cons_succ]
          refine' anyD_take (i := 2) (v := _) [3, 4, 5, 6, 7, 8, 9, 10, 11, 12, 13, 14, 15, 16, 17, 18, 19, 20, 21] (by kernel_rfl) rfl (by rfl) (by kernel_rfl) (fun _ _ _ h => h) (by rfl) ?hadd2 HCx.out ?kadd2
          case hadd2 =>
            rintro w' ⟨c0, c1, c2, c3⟩
            go_simp
            try with_reducible rfl
          simp only [List.getElem_toArray, List.getElem_cons_zero, List.getElem_cons_succ, Act.put, List.setIfInBounds_toArray, List.set_cons_zero, List.set_cons_succ]
          refine' anyD_take (i := 3) (v := _) [4, 5, 6, 7, 8, 9, 10, 11, 12, 13, 14, 15, 16, 17, 18, 19, 20, 21] (by kernel_rfl) rfl (by rfl) (by kernel_rfl) (fun _ _ _ h => h) (by rfl) ?hadd3 HCx.out ?kadd3
          case hadd3 =>
            rintro w' ⟨c0, c1, c2, c3⟩
            go_simp
            try with_reducible rfl
          simp only [List.getElem_toArray, List.getElem_cons_zero, List.getElem_cons_succ, Act.put, List.setIfInBounds_toArray, List.set_cons_zero, List.set_cons_succ]
          refine' anyD_take (i := 4) (v := _) [5, 6, 7, 8, 9, 10, 11, 12, 13, 14, 15, 16, 17, 18, 19, 20, 21] (by kernel_rfl) rfl (by rfl) (by kernel_rfl) (fun _ _ _ h => h) (by rfl) ?hadd4 HCx.out ?kadd4
          case hadd4 =>
            rintro w' ⟨c0, c1, c2, c3⟩
            go_simp
            try with_reducible rfl
          simp only [List.getElem_toArray, List.getElem_cons_zero, List.getElem_cons_succ, Act.put, List.setIfInBounds_toArray, List.set_cons_zero, List.set_cons_succ]
          refine' anyD_take (i := 5) (v := .bool true) [6, 7, 8, 9, 10, 11, 12, 13, 14, 15, 16, 17, 18, 19, 20, 21] (by kernel_rfl) rfl (by rfl) (by kernel_rfl) (fun _ _ _ h => h) (by rfl) ?hadd5 HCx.out ?kadd5
          case hadd5 =>
            rintro w' ⟨c0, c1, c2, c3⟩
            go_simp
            try with_reducible rfl
          simp only [List.getElem_toArray, List.getElem_cons_zero, List.getElem_cons_succ, Act.put, List.setIfInBounds_toArray, List.set_cons_zero, List.set_cons_succ]
          refine' anyD_take (i := 6) (v := _) [7, 8, 9, 10, 11, 12, 13, 14, 15, 16, 17, 18, 19, 20, 21] (by kernel_rfl) rfl (by rfl) (by kernel_rfl) (fun _ _ _ h => h) (by rfl) ?hadd6 HCx.out ?kadd6
          case hadd6 =>
            rintro w' ⟨c0, c1, c2, c3⟩
            go_simp
            try with_reducible rfl
          simp only [List.getElem_toArray, List.getElem_cons_zero, List.getElem_cons_succ, Act.put, List.setIfInBounds_toArray, List.set_cons_zero, List.set_cons_succ]
          refine' anyD_take (i := 7) (v := _) [8, 12, 13, 14, 15, 16, 17, 18, 19, 20, 21] (by kernel_rfl) rfl (by rfl) (by kernel_rfl) (fun _ _ _ h => h) (by rfl) ?hadd7 HCx.out ?kadd7
          case hadd7 =>
            rintro w' ⟨c0, c1, c2, c3⟩
            go_simp
            try with_reducible rfl
          simp only [List.getElem_toArray, List.getElem_cons_zero, List.getElem_cons_succ, Act.put, List.setIfInBounds_toArray, List.set_cons_zero, List.set_cons_succ]
          refine' anyD_take (i := 8) (v := _) [12, 13, 14, 15, 16, 17, 18, 19, 20, 21] (by kernel_rfl) rfl (by rfl) (by kernel_rfl) (fun _ _ _ h => h) (by rfl) ?hadd8 HCx.out ?kadd8
          case hadd8 =>
            rintro w' ⟨c0, c1, c2, c3⟩
            go_simp
            try with_reducible rfl
          simp only [List.getElem_toArray, List.getElem_cons_zero, List.getElem_cons_succ, Act.put, List.setIfInBounds_toArray, List.set_cons_zero, List.set_cons_succ]
          refine' anyD_take (i := 9) (v := _) [10, 11, 12, 13, 14, 15, 16, 17, 18, 19, 20, 21] (by kernel_rfl) rfl (by rfl) (by kernel_rfl) (fun _ _ _ h => h) (by rfl) ?hadd9 HCx.out ?kadd9
          case hadd9 =>
            rintro w' ⟨c0, c1, c2, c3⟩
            go_simp
            try with_reducible rfl
          simp only [List.getElem_toArray, List.getElem_cons_zero, List.getElem_cons_succ, Act.put, List.setIfInBounds_toArray, List.set_cons_zero, List.set_cons_succ]
          refine' anyD_take (i := 10) (v := _) [11, 12, 13, 14, 15, 16, 17, 18, 19, 20, 21] (by kernel_rfl) rfl (by rfl) (by kernel_rfl) (fun _ _ _ h => h) (by rfl) ?hadd10 HCx.out ?kadd10
          case hadd10 =>
            rintro w' ⟨c0, c1, c2, c3⟩
            go_simp
            try with_reducible rfl
          simp only [List.getElem_toArray, List.getElem_cons_zero, List.getElem_cons_succ, Act.put, List.setIfInBounds_toArray, List.set_cons_zero, List.set_cons_succ]
          refine' anyD_take (i := 11) (v := _) [12, 13, 14, 15, 16, 17, 18, 19, 20, 21] (by kernel_rfl) rfl (by rfl) (by kernel_rfl) (fun _ _ _ h => h) (by rfl) ?hadd11 HCx.out ?kadd11
          case hadd11 =>
            rintro w' ⟨c0, c1, c2, c3⟩
            go_simp
            try with_reducible rfl
          simp only [List.getElem_toArray, List.getElem_cons_zero, List.getElem_cons_succ, Act.put, List.setIfInBounds_toArray, List.set_cons_zero, List.set_cons_succ]
          refine' anyD_take (i := 12) (v := .bool true) [13, 14, 15, 16, 17, 18, 19, 20, 21] (by kernel_rfl) rfl (by rfl) (by kernel_rfl) (fun _ _ _ h => h) (by rfl) ?hadd12 HCx.out ?kadd12
          case hadd12 =>
            rintro w' ⟨c0, c1, c2, c3⟩
            go_simp
            try with_reducible rfl
          simp only [List.getElem_toArray, List.getElem_cons_zero, List.getElem_cons_succ, Act.put, List.setIfInBounds_toArray, List.set_cons_zero, List.set_cons_succ]
          refine' anyD_take (i := 13) (v := _) [14, 15, 16, 17, 18, 19, 20, 21] (by kernel_rfl) rfl (by rfl) (by kernel_rfl) (fun _ _ _ h => h) (by rfl) ?hadd13 HCx.out ?kadd13
          case hadd13 =>
            rintro w' ⟨c0, c1, c2, c3⟩
            go_simp
            try with_reducible rfl
          simp only [List.getElem_toArray, List.getElem_cons_zero, List.getElem_cons_succ, Act.put, List.setIfInBounds_toArray, List.set_cons_zero, List.set_cons_succ]
          refine' anyD_take (i := 14) (v := _) [15, 16, 17, 18, 19, 20, 21] (by kernel_rfl) rfl (by rfl) (by kernel_rfl) (fun _ _ _ h => h) (by rfl) ?hadd14 HCx.out ?kadd14
          case hadd14 =>
            rintro w' ⟨c0, c1, c2, c3⟩
            go_simp
            try with_reducible rfl
          simp only [List.getElem_toArray, List.getElem_cons_zero, List.getElem_cons_succ, Act.put, List.setIfInBounds_toArray, List.set_cons_zero, List.set_cons_succ]
          refine' anyD_take (i := 15) (v := _) [16, 19, 20, 21] (by kernel_rfl) rfl (by rfl) (by kernel_rfl) (fun _ _ _ h => h) (by rfl) ?hadd15 HCx.out ?kadd15
          case hadd15 =>
            rintro w' ⟨c0, c1, c2, c3⟩
            go_simp
            try with_reducible rfl
          simp only [List.getElem_toArray, List.getElem_cons_zero, List.getElem_cons_succ, Act.put, List.setIfInBounds_toArray, List.set_cons_zero, List.set_cons_succ]
          refine' anyD_take (i := 17) (v := _) [19, 20, 21] (by kernel_rfl) rfl (by rfl) (by kernel_rfl) (fun _ _ _ h => h) (by rfl) ?hadd17 HCx.out ?kadd17
          case hadd17 =>
            rintro w' ⟨c0, c1, c2, c3⟩
            go_simp
            try with_reducible rfl
          simp only [List.getElem_toArray, List.getElem_cons_zero, List.getElem_cons_succ, Act.put, List.setIfInBounds_toArray, List.set_cons_zero, List.set_cons_succ]
          refine' anyD_take (i := 18) (v := _) [19, 20, 21] (by kernel_rfl) rfl (by rfl) (by kernel_rfl) (fun _ _ _ h => h) (by rfl) ?hadd18 HCx.out ?kadd18
          case hadd18 =>
            rintro w' ⟨c0, c1, c2, c3⟩
            go_simp
            try with_reducible rfl
          simp only [List.getElem_toArray, List.getElem_cons_zero, List.getElem_cons_succ, Act.put, List.setIfInBounds_toArray, List.set_cons_zero, List.set_cons_succ]
          clear em el em2 el2 hw1 hw2
          have HTy := Lib.hid (HTr1.out.below HBy.out (Nat.le_refl _))
          refine anyC_r1 (i := 16) (by kernel_rfl) ?_
          refine stepCall (i := 16) rfl (by rfl) (by rfl) (fun _ _ => trivial) (exec_call1 44 (.tmp 132) _ rfl (.pointer (some ⟨g, 0, none⟩)) rfl (enters_of Try.func44 (by kernel_rfl) rfl)) (fun h => by cases h) ?_
          refine callsIn_wide.2 ?_
          refine (Parts8_walk Wy g T HOk.out.ok HOk.out.pos HTy.out).mono ?_
          rintro e Wx ⟨at_, ct, am, cm, al, cl, rfl, ho1, ho2, ho3, hb⟩
          refine ⟨_, rfl, fun _ => HCb.out _ _ hb HCx.out, ?_⟩
          rw [HMl.out.1, ← HNm.out.1] at ho2 ⊢
          rw [HMl.out.2, ← HNm.out.2] at ho3 ⊢
          have HV1 : Hid (Vals Wx at_ (S.top.map num16)) := Lib.hid (by have := own_vals ho1; rw [HOk.out.top] at this; exact this)
          have HV2 : Hid (Vals Wx am (S.mids.flatten.map num16)) := Lib.hid (by have := own_vals ho2; rw [HOk.out.mid, flatV_flatten] at this; exact this)
          have HV3 : Hid (Vals Wx al (S.lows.flatten.map (fun v => val8 (of v)))) := Lib.hid (by have := own_vals ho3; rw [HOk.out.low, flatV_flatten, ← List.map_flatten, List.map_map] at this; exact this)
          have HBx : Hid (Below W1.heap.size W1 Wx) := Lib.hid (HBy.out.trans (hb.mono HBy.out.size))
          have HD1x : Hid (W1.heap.size ≤ Dad ∧ Wx.heap[Dad]? = some (.deferred (some []))) := Lib.hid ⟨HD1y.out.1, (hb.block _ (Array.getElem?_eq_some_iff.1 HD1y.out.2).1).trans HD1y.out.2⟩
          have HD2x : Hid (W1.heap.size ≤ Dadd ∧ Wx.heap[Dadd]? = some (.deferred (some []))) := Lib.hid ⟨HD2y.out.1, (hb.block _ (Array.getElem?_eq_some_iff.1 HD2y.out.2).1).trans HD2y.out.2⟩
          have HCx2 := Lib.hid (HCb.out _ _ hb HCx.out)
          clear ho1 ho2 ho3 hb HBy HD1y HD2y HTy HCx
          simp only [List.getElem_toArray, List.getElem_cons_zero, List.getElem_cons_succ, Act.put, List.setIfInBounds_toArray, List.set_cons_zero, List.set_cons_succ]
          have hbs := HOk.out.ok
          refine anyC_r1 (i := 19) (by kernel_rfl) ?_
          refine stepCall (i := 19) rfl (by rfl) (by rfl) (fun _ _ => trivial) (exec_call3 43 (.tmp 133) (.tmp 134) (.tmp 135) _ rfl (.agg #[.slice at_ 272 ct, .slice am (64 * nm) cm, .slice al (64 * nl) cl]) (.agg #[.slice sT 272 dT, .slice sM (64 * nm) dM, .slice sL (64 * nl) dL]) (.func (.func cf) #[] lb) rfl rfl rfl (enters_of Try.func43 (by kernel_rfl) rfl)) (fun h => by cases h) ?_
          refine callsIn_wide.2 ?_
          refine (alike_walk Wx at_ ct am cm al cl sT dT sM dM sL dL S.top S.mids.flatten S.lows.flatten 272 (64 * nm) (64 * nl) hS272 (by rw [flatten_len _ (fun l hl => hbs.mid l (by rw [HOk.out.mid]; exact hl)), HNm.out.1]) (by rw [flatten_len _ (fun l hl => by have := hbs.low (l.map of) (by rw [HOk.out.low]; exact List.mem_map_of_mem hl); rwa [List.length_map] at this), HNm.out.2]) (by omega) of cf lb HEg.out HV1.out HV2.out HV3.out (K1.out.below HBx.out (Nat.le_refl _)) (K2.out.below HBx.out (Nat.le_refl _)) (K3.out.below HBx.out (Nat.le_refl _))
            (fun v hv => by obtain ⟨l, hl, h⟩ := List.mem_flatten.1 hv; exact HOk.out.lo l hl v h) (fun x hx => by rw [← HOk.out.top] at hx; have := hbs.topN x hx; have := hbs.midL; omega) (fun x hx => by obtain ⟨l, hl, h⟩ := List.mem_flatten.1 hx; rw [← HOk.out.mid] at hl; have := hbs.midN l hl x h; have := hbs.lowL; omega)
            (fun v hv W hW => by obtain ⟨l, hl, h⟩ := List.mem_flatten.1 hv; have hr := HOk.out.lo l hl v h; exact HCl.out v hr.1 hr.2 W (HP.out.1.trans ((HBx.out.trans (hW.mono HBx.out.size)).mono HP.out.1.size)))).mono ?_
          rintro e Wf ⟨rfl, hb⟩
          refine ⟨_, rfl, fun _ => HCb.out _ _ hb HCx2.out, ?_⟩
          have HBf : Hid (Below W1.heap.size W1 Wf) := Lib.hid (HBx.out.trans (hb.mono HBx.out.size))
          have HD1f : Hid (W1.heap.size ≤ Dad ∧ Wf.heap[Dad]? = some (.deferred (some []))) := Lib.hid ⟨HD1x.out.1, (hb.block _ (Array.getElem?_eq_some_iff.1 HD1x.out.2).1).trans HD1x.out.2⟩
          have HD2f : Hid (W1.heap.size ≤ Dadd ∧ Wf.heap[Dadd]? = some (.deferred (some []))) := Lib.hid ⟨HD2x.out.1, (hb.block _ (Array.getElem?_eq_some_iff.1 HD2x.out.2).1).trans HD2x.out.2⟩
          have HCf := Lib.hid (HCb.out _ _ hb HCx2.out)
          clear hb hbs HBx HD1x HD2x HCx2 HV1 HV2 HV3
          simp only [List.getElem_toArray, List.getElem_cons_zero, List.getElem_cons_succ, Act.put, List.setIfInBounds_toArray, List.set_cons_zero, List.set_cons_succ]
          refine' anyD_take (i := 20) (v := .bool true) [21] (by kernel_rfl) rfl (by rfl) (by kernel_rfl) (fun _ _ _ h => h) (by rfl) ?hadd20 HCf.out ?kadd20
          case hadd20 =>
            rintro w' ⟨c0, c1, c2, c3⟩
            go_simp
            try with_reducible rfl
          simp only [List.getElem_toArray, List.getElem_cons_zero, List.getElem_cons_succ, Act.put, List.setIfInBounds_toArray, List.set_cons_zero, List.set_cons_succ]
          refine anyC_r1 (i := 21) (by kernel_rfl) ?_
          have hrs : Wf.heap[b0 + 3]? = some (.cells #[.bool false] 4 (0, 0)) := (HCell.out Wf HBf.out).2.2.2
          refine stepS (i := 21) (w' := Wf.setRow (b0 + 3) #[.bool true]) rfl (by rfl) (fun _ _ => trivial) (by rfl) (exec_store1 4 (.tmp 10) (.tmp 137) rfl (b0 + 3) (.bool true) rfl rfl rfl 4 _ hrs (by kernel_rfl)) (fun h => absurd (by simp) h) ?_
          simp only [List.getElem_toArray, List.getElem_cons_zero, List.getElem_cons_succ, Act.put, List.setIfInBounds_toArray, List.set_cons_zero, List.set_cons_succ]
          refine ⟨by kernel_rfl, ?_⟩
          have hz1 : b0 + 3 < W1.heap.size := by omega
          have HD1g : Hid (W1.heap.size ≤ Dad ∧ (Wf.setRow (b0 + 3) #[.bool true]).heap[Dad]? = some (.deferred (some []))) := Lib.hid ⟨HD1f.out.1, by rw [setRow_other Wf (b0 + 3) _ _ (by have := HD1f.out.1; omega)]; exact HD1f.out.2⟩
          have HD2g : Hid (W1.heap.size ≤ Dadd ∧ (Wf.setRow (b0 + 3) #[.bool true]).heap[Dadd]? = some (.deferred (some []))) := Lib.hid ⟨HD2f.out.1, by rw [setRow_other Wf (b0 + 3) _ _ (by have := HD2f.out.1; omega)]; exact HD2f.out.2⟩
          have HRg := Lib.hid (setRow_heap Wf (b0 + 3) _ #[.bool true] _ _ hrs)
          have HBg : Hid (Below w.heap.size w (Wf.setRow (b0 + 3) #[.bool true])) := Lib.hid (by
            have h := HP.out.1.trans (HBf.out.mono HP.out.1.size)
            have := HB0.out
            exact ⟨h.os, h.tape, h.output, by rw [setRow_size]; exact h.size, fun k hk => by rw [setRow_other Wf (b0 + 3) k _ (by omega)]; exact h.block k hk⟩)
          clear hrs
          generalize (Wf.setRow (b0 + 3) #[.bool true]) = Wg at *
          clear hSm hSl hS272
          refine NoPanic.normal ?_
          go_step
          go_step
          go_step
          go_step
          refine leaves_marks (B := W1.heap.size) [Dadd, Dad] Wg (by simp [HNd.out, Ne.symm HNd.out]) (fun D hD => by
            rcases List.mem_cons.1 hD with rfl | hD
            · exact HD2g.out
            · rw [List.mem_singleton.1 hD]; exact HD1g.out) (fun w' hb' => ?_)
          have q3 : w'.cell? ⟨b0 + 3, 0, none⟩ = some (.bool true) := cell_of_row w' (b0 + 3) 0 _ _ (0, 0) ((hb'.block (b0 + 3) hz1).trans HRg.out)
          refine leaves_nil (v := .bool true) (by simp [results, Try.results39, go_sem, q3]) ?_
          exact ⟨rfl, HBg.out.trans (hb'.mono HP.out.1.size)⟩
        case stpad =>
          rintro D c T pre W - - - ⟨-, -, -, h⟩ -
          cases h
      case stpa =>
        rintro Das c Tt pre W hDl hTD hsp ⟨hst, rfl, hl2, -⟩ hDk
        rw [hl2] at hst
        have hsq : LkSt Va bFa (bFa + 1) (runL F N) Tt 2 W := hst
        clear hst hl2 hsp
        obtain ⟨mm, hmm⟩ : ∃ mm, mm = 2 := ⟨_, rfl⟩
        rw [← hmm] at hsq

        obtain ⟨Uas, hUas⟩ : ∃ U, U = W := ⟨_, rfl⟩
        rw [← hUas] at hsq hDk ⊢
        clear hUas
        have hbut := hsq.but
        have HBuas : Hid (Below W1.heap.size W1 Uas) := Lib.hid (HBVa.out.trans (hbut.below _ (by omega) (fun k hk => by omega)))
        have HRuas : Hid (Uas.heap[bRa]? = some (.cells #[.int .i64 0] 3 (0, 0))) := Lib.hid (hbut.keep HRVa.out (by omega) (by omega))
        have HDvas := Lib.hid hDl
        have HLias0 : Hid (∀ k, k < Wa.heap.size → Uas.heap[k]? = Wa.heap[k]?) := Lib.hid (fun k hk => (hbut.block k (by have := HVa.out.1.size; omega) (by have := HFa.out; omega)).trans (HVa.out.1.block k hk))
        have HDkas := Lib.hid (And.intro (show W1.heap.size ≤ Das from by have := HBVa.out.size; omega) hDk)
        have HCuas : Hid (Uas.cell? ⟨bS, 0, none⟩ = some (.pointer (some ⟨g, 0, none⟩))) := Lib.hid (hbut.cell HCVa.out (by omega) (by omega))
        have qN : Uas.cell? ⟨bFa + 1, 0, none⟩ = some (.int .i64 (mm : Nat)) := cell_of_row Uas (bFa + 1) 0 _ _ (0, 0) hsq.cN
        have qR : Uas.cell? ⟨bRa, 0, none⟩ = some (.int .i64 0) := cell_of_row Uas bRa 0 _ _ (0, 0) HRuas.out
        obtain ⟨⟨p0, p1⟩, -, -, -⟩ := HCell.out Uas HBuas.out
        have hC := heap_alloc_new Uas (.cells #[.int .i64 1] 3)
        have hD := (Below.refl Uas.heap.size Uas).alloc (Nat.le_refl _) (.cells #[.int .i64 1] 3)
        obtain ⟨Was, hWas⟩ : ∃ X, Uas.alloc (.cells #[.int .i64 1] 3) = X := ⟨_, rfl⟩
        rw [hWas] at hC hD
        have HWwas := Lib.hid hWas
        clear hWas
        have HRas : Hid (Was.heap[Uas.heap.size]? = some (.cells #[.int .i64 1] 3 (0, 0))) := Lib.hid hC
        have HBas : Hid (Below W1.heap.size W1 Was) := Lib.hid (HBuas.out.trans (hD.mono HBuas.out.size))
        have HCSas : Hid (Was.cell? ⟨bS, 0, none⟩ = some (.pointer (some ⟨g, 0, none⟩))) := Lib.hid ((hD.cell (p := ⟨bS, 0, none⟩) (World.block_lt_of_cell? Uas _ HCuas.out)).trans HCuas.out)
        have HDmas : Hid (W1.heap.size ≤ Das ∧ Was.heap[Das]? = some (.deferred (some []))) := Lib.hid ⟨HDkas.out.1, (hD.block Das (Array.getElem?_eq_some_iff.1 HDkas.out.2).1).trans HDkas.out.2⟩
        have HLias : Hid (∀ k, k < Wa.heap.size → Was.heap[k]? = Wa.heap[k]?) := Lib.hid (fun k hk => (hD.block k (by have := hbut.size; have := HVa.out.1.size; omega)).trans (HLias0.out k hk))
        clear hC hD hbut hsq hDk
        subst hmm
        go_upto_region 18 with (fail)
        go_cut [110] from 98 to 110 (fun p wx => p = .bool false ∧ wx = Uas)
        case first =>
          by_cases h : nR = 2
          · have dmn : ((2 : Int) != (nR : Int)) = false := by simp; omega
            clear h
            go_wp2
            go_meet
            exact ⟨rfl, by first | rfl | trivial⟩
          · have dmn : ((2 : Int) != (nR : Int)) = true := by simp; omega
            clear h
            go_wp2
            go_meet
            exact ⟨rfl, by first | rfl | trivial⟩
        case rest =>
        obtain ⟨rfl, hwc⟩ := hcut
        rw [hwc]
        clear hwc
        go_wp2
        rw [HWwas.out]
        clear HWwas qN qR p0 p1
        obtain ⟨bRas, hbRas⟩ : ∃ b, b = Uas.heap.size := ⟨_, rfl⟩
        rw [← hbRas] at HRas ⊢
        clear hbRas
        rw [rounds_succ]
        have qR : Was.cell? ⟨bRas, 0, none⟩ = some (.int .i64 1) := cell_of_row Was bRas 0 _ _ (0, 0) HRas.out
        obtain ⟨bFas, hbFas⟩ : ∃ bF, bF = Was.heap.size := ⟨_, rfl⟩
        obtain ⟨Vas, hVas⟩ : ∃ V, V = (Was.alloc (.cells #[.int .i32 0] 21)).alloc (.cells #[.int .i64 0] 3) := ⟨_, rfl⟩
        have HVas : Hid (Below Was.heap.size Was Vas ∧ Vas.heap[bFas]? = some (.cells #[.int .i32 0] 21 (0, 0)) ∧ Vas.heap[bFas + 1]? = some (.cells #[.int .i64 0] 3 (0, 0)) ∧ Vas.heap.size = bFas + 2) := Lib.hid (by rw [hbFas, hVas]; exact two_boxes _ _ _ _ _)
        have HFas := Lib.hid hbFas; have HVvas := Lib.hid hVas
        clear hbFas hVas
        go_upto_region 11 with (fail)
        rw [← HVvas.out, ← HFas.out]
        clear qR
        have HBVas := Lib.hid (HBas.out.trans (HVas.out.1.mono HBas.out.size))
        have HRVas := Lib.hid ((HVas.out.1.block bRas (Array.getElem?_eq_some_iff.1 HRas.out).1).trans HRas.out)
        have hbSlas : bS < Was.heap.size := World.block_lt_of_cell? Was ⟨bS, 0, none⟩ HCSas.out
        have HCVas : Hid (Vas.cell? ⟨bS, 0, none⟩ = some (.pointer (some ⟨g, 0, none⟩))) := Lib.hid ((HVas.out.1.cell (p := ⟨bS, 0, none⟩) hbSlas).trans HCSas.out)
        have hf1as : W1.heap.size ≤ bFas := by rw [HFas.out]; exact HBas.out.size
        have hf2as : bRas < bFas := by rw [HFas.out]; exact (Array.getElem?_eq_some_iff.1 HRas.out).1
        have hf3as : bS < bFas := by rw [HFas.out]; exact hbSlas
        have hf4as : Vas.heap.size = bFas + 2 := HVas.out.2.2.2
        have HSeqas := Lib.hid (spans_stops W1 g T HOk.out.ok HOk.out.pos HTr1.out bS (fun k => k < Vas.heap.size ∧ k ≠ bFas ∧ k ≠ bFas + 1) Vas (lies_below HBVas.out) HBVas.out.size (fun k hk => ⟨by omega, by omega, by omega⟩) ⟨by omega, by omega, by omega⟩ HCVas.out N HN.out)
        rw [HFull.out] at HSeqas
        clear hbSlas
        go_wp2
        refine wp_rangeX (gf := 88) (lb := #[.pointer (some ⟨bS, 0, none⟩)]) rfl (enters_of Try.func88 (by kernel_rfl) rfl) HSeqas.out (Below.refl _ _) (fun k hk => hk.1) (fun _ => rfl)
          (LkI Vas bFas (bFas + 1) (runL F N) 1) (LkX Vas bFas (bFas + 1) (runL F N) 1) (LkI.abide (by omega) (by omega)) (LkX.abide (by omega) (by omega)) ⟨⟨But.refl _ _ _, HVas.out.2.1, HVas.out.2.2.1, fun _ h => h.elim⟩, fun _ => by simp⟩
          LkAx (fun T x a' W W' ⟨bX, h1, h2, h3⟩ ho => ⟨bX, h1, ho.cellsBlock h2 h3, h3⟩) ?asgas ?bdyas ?dnas ?stpas
        case asgas =>
          rintro l Tt pre x W K hi hK
          have HK := Lib.hid hK; clear hK
          have hA := heap_alloc_new W (.cells #[.int .i32 (x.f : Nat), .int .i32 (x.t : Nat), val8 x.v] 24)
          have hB := (Below.refl W.heap.size W).alloc (Nat.le_refl _) (.cells #[.int .i32 (x.f : Nat), .int .i32 (x.t : Nat), val8 x.v] 24)
          have hI : LkI Vas bFas (bFas + 1) (runL F N) 1 Tt pre (W.alloc (.cells #[.int .i32 (x.f : Nat), .int .i32 (x.t : Nat), val8 x.v] 24)) := LkI.abide (by omega) (by omega) _ _ _ _ _ hi (Off.of_below hB) (Wider.refl _ _ _)
          have HH := Lib.hid (And.intro hB (And.intro hI (And.intro hA (show ¬ Tt W.heap.size from fun e => Nat.lt_irrefl _ (hi.1.tn _ e).2))))
          clear hA hB hI hi
          simp only [encQ]
          unfold val8
          gi_wp2
          exact HK.out _ _ (Kept.of_below HH.out.1) HH.out.2.1 ⟨W.heap.size, rfl, HH.out.2.2⟩
        case bdyas =>
          rintro lp Tt pre x a' W hTl hl - hst hA hlen hsp
          obtain ⟨bX, rfl, hX, hXT⟩ := hA
          obtain ⟨q, -, hq1, hq2⟩ := hsp
          obtain ⟨m, hm⟩ : ∃ m, m = pre.length := ⟨_, rfl⟩
          have hmn : m < (runL F N).length := by rw [hm]; rw [toS_length] at hlen; exact hlen
          have hxg : x = ⟨(endP (-1) ((runL F N).take m) + 1).toNat, ((runL F N)[m]).1.toNat, of ((runL F N)[m]).2⟩ := by
            have h1 := toS_get of (runL F N) (-1) m hmn
            have hql : q = m + 1 := by
              have := congrArg List.length hq2
              rw [List.length_append, List.length_singleton, List.length_take] at this
              omega
            have h2 : (pre ++ [x])[m]? = some x := by rw [List.getElem?_append_right (by omega)]; simp [hm]
            rw [hq2, List.getElem?_take_of_lt (by omega), h1] at h2
            exact (Option.some.inj h2).symm
          obtain ⟨hst, hr2⟩ := hst
          rw [← hm] at hst hr2
          have hsn : LkSt Vas bFas (bFas + 1) (runL F N) Tt m W := hst
          have hrise := (runL_rise F N)
          have hm0 : 0 ≤ ((runL F N)[m]).1 := hrise.2 _ (List.getElem_mem hmn)
          have hmN : ((runL F N)[m]).1 < (N : Int) := runL_lt F N _ (List.getElem_mem hmn)
          have hp0 : 0 ≤ endP (-1) ((runL F N).take m) + 1 := by
            cases m with
            | zero => simp [endP]
            | succ j =>
              rw [endP_take (runL F N) (-1) j (by omega)]
              have := hrise.2 _ (List.getElem_mem (show j < (runL F N).length by omega))
              omega
          have hep := endP_take (runL F N) (-1) m hmn
          have hvF : ∃ r0, r0 < N ∧ ((runL F N)[m]).2 = F r0 := run_val (List.getElem_mem hmn)
          obtain ⟨r0, hr0, hvr⟩ := hvF
          have hvb := HOk.out.rng r0 hr0
          rw [← hvr] at hvb
          have hbut := hsn.but
          have HBw : Hid (Below W1.heap.size W1 W) := Lib.hid (HBVas.out.trans (hbut.below _ (by omega) (fun k hk => by omega)))
          obtain ⟨⟨p0, p1⟩, -, p2, p3⟩ := HCell.out W HBw.out
          have cT := (HT1.out.below HBw.out (Nat.le_refl _)) m (by rw [List.length_map]; exact hmn)
          have cV := (HV1.out.below HBw.out (Nat.le_refl _)) m (by rw [List.length_map]; exact hmn)
          obtain ⟨b1, o1, ea1, cT⟩ := cT
          obtain ⟨b2, o2, ea2, cV⟩ := cV
          subst ea1 ea2
          simp only [List.getElem_map] at cT cV
          have hmr : m < nR := by rw [HNR.out]; exact hmn
          have hmi : ¬ (nR : Int) ≤ (m : Int) := by omega
          have hmi2 : (m : Int) < (nR : Int) := by omega
          have hXW : bX < W.heap.size := (Array.getElem?_eq_some_iff.1 hX).1
          have HQ := Lib.hid (And.intro hq2 hm)
          have HSn := Lib.hid hsn; have HR2 := Lib.hid hr2
          have HXT := Lib.hid hXT
          obtain ⟨p, hp⟩ : ∃ p, p = endP (-1) ((runL F N).take m) + 1 := ⟨_, rfl⟩
          rw [← hp] at hxg hp0
          have cF : W.cell? ⟨bFas, 0, none⟩ = some (.int .i32 p) := by rw [hp]; exact cell_of_row W bFas 0 _ _ (0, 0) hsn.cF
          have cN : W.cell? ⟨bFas + 1, 0, none⟩ = some (.int .i64 (m : Nat)) := cell_of_row W (bFas + 1) 0 _ _ (0, 0) hsn.cN
          have HEp := Lib.hid hep
          generalize (runL F N)[m] = z at *
          subst hxg
          have hx0 : W.cell? ⟨bX, 0, none⟩ = some (.int .i32 p) := by
            have := cell_of_row W bX 0 _ _ (0, 0) hX
            rw [show ((p.toNat : Nat) : Int) = p from by omega] at this
            exact this
          have hx1 : W.cell? ⟨bX, 1, none⟩ = some (.int .i32 z.1) := by
            have := cell_of_row W bX 1 _ _ (0, 0) hX
            rw [show ((z.1.toNat : Nat) : Int) = z.1 from by omega] at this
            exact this
          have hx2 : W.cell? ⟨bX, 2, none⟩ = some (val8 (of z.2)) := cell_of_row W bX 2 _ _ (0, 0) hX
          have HXc := Lib.hid hX
          have HOf := Lib.hid (fun d os => (HCl.out z.2 hvb.1 hvb.2 (Go.Sort.grow (redrawn W d) os) (HP.out.1.trans ((HBw.out.trans ((below_regrown W d os).mono HBw.out.size)).mono HP.out.1.size))).regrown_of)
          have hwv : IntKind.u8.wrap z.2 = z.2 := by simp [IntKind.wrap, IntKind.bits, IntKind.signed]; omega
          have HRw := Lib.hid (hbut.keep HRVas.out (by omega) (by omega))
          have hz1b : z.1 < 1114112 := by have := HN.out; omega
          clear hst hr2 hsn hX hXT hq1 hq2 hm hbut hrise hlen hr0 hvr p3 hep
          clear hp
          generalize of z.2 = y at HOf hx2 HXc HQ
          unfold val8 at HOf hx2
          obtain ⟨z1, z2⟩ := z
          dsimp only at *
          have e0 := fun d os => cell_regrown p0 d os
          have e1 := fun d os => cell_regrown p1 d os
          have e2 := fun d os => cell_regrown p2 d os
          have e3 := fun d os => cell_regrown cT d os
          have e4 := fun d os => cell_regrown cV d os
          have e5 := fun d os => cell_regrown cF d os
          have e6 := fun d os => cell_regrown cN d os
          have e7 := fun d os => cell_regrown hx0 d os
          have e8 := fun d os => cell_regrown hx1 d os
          have e9 := fun d os => cell_regrown hx2 d os
          have heg := HEg.out
          clear p0 p1 p2 cT cV cF cN hx0 hx1 hx2
          have dmi : decide ((nR : Int) ≤ (m : Int)) = false := decide_eq_false hmi
          have dmn : decide (nR ≤ m) = false := decide_eq_false (by omega)
          have dpp : (p != p) = false := by simp
          have dzz : (z1 != z1) = false := by simp
          have dyy : (y != y) = false := by simp
          gi_wp2
          refine wpIn_region_belowR (by kernel_rfl) (by kernel_rfl) (by kernel_rfl) ?_
          iterate 31 (gi_big_quiet_step (fail))
          gi_big_quiet_step (exact CallsIn.inRound lp (callsIn_wide.2 (HOf.out _ _)))
          iterate 2 (gi_big_quiet_step (fail))
          refine wpQuietIn_nil ?_
          intro _ hw'
          obtain ⟨⟨dq, osq⟩, hw''⟩ := hw'
          subst hw''
          have hbq := below_regrown W dq osq
          generalize (Go.Sort.grow (redrawn W dq) osq) = Wq at *
          have hsq := HSn.out.off (by omega) (by omega) (Off.of_below hbq) (Wider.refl Tt W Wq)
          have hXq := (hbq.block bX (Array.getElem?_eq_some_iff.1 HXc.out).1).trans HXc.out
          have hRq := (hbq.block bRas (Array.getElem?_eq_some_iff.1 HRw.out).1).trans HRw.out
          clear e0 e1 e2 e3 e4 e5 e6 e7 e8 e9 heg dmn dpp dzz dyy hwv HOf
          have hx1 : Wq.cell? ⟨bX, 1, none⟩ = some (.int .i32 z1) := by
            have := cell_of_row Wq bX 1 _ _ (0, 0) hXq
            rw [show ((z1.toNat : Nat) : Int) = z1 from by omega] at this
            exact this
          have fF := frozen_of_row Wq bFas 0 _ _ hsq.cF
          have qF : Wq.cell? ⟨bFas, 0, none⟩ = some _ := cell_of_row Wq bFas 0 _ _ (0, 0) hsq.cF
          have h5F := heap_setCell_same Wq bFas 0 _ _ (.int .i32 (z1 + 1)) hsq.cF
          have h5N := (heap_setCell_other Wq ⟨bFas, 0, none⟩ (bFas + 1) (.int .i32 (z1 + 1)) (by simp)).trans hsq.cN
          have h5R := (heap_setCell_other Wq ⟨bFas, 0, none⟩ bRas (.int .i32 (z1 + 1)) (by simp; omega)).trans hRq
          have g5 := grown_store Wq bFas 0 (.int .i32 (z1 + 1))
          have b5 := hsq.but.setCell bFas 0 (.int .i32 (z1 + 1)) (.inl (.inl rfl))
          have hs5 : (Wq.setCell ⟨bFas, 0, none⟩ (.int .i32 (z1 + 1))).heap.size = Wq.heap.size := by simp
          generalize hW5 : Wq.setCell ⟨bFas, 0, none⟩ (.int .i32 (z1 + 1)) = W5 at *
          have fN := frozen_of_row W5 (bFas + 1) 0 _ _ h5N
          have qN : W5.cell? ⟨bFas + 1, 0, none⟩ = some (.int .i64 (m : Nat)) := cell_of_row W5 (bFas + 1) 0 _ _ (0, 0) h5N
          have h6N := heap_setCell_same W5 (bFas + 1) 0 _ _ (.int .i64 ((m : Int) + 1)) h5N
          have h6F := (heap_setCell_other W5 ⟨bFas + 1, 0, none⟩ bFas (.int .i64 ((m : Int) + 1)) (by simp)).trans h5F
          have h6R := (heap_setCell_other W5 ⟨bFas + 1, 0, none⟩ bRas (.int .i64 ((m : Int) + 1)) (by simp; omega)).trans h5R
          have g6 := grown_store W5 (bFas + 1) 0 (.int .i64 ((m : Int) + 1))
          have b6 := b5.setCell (bFas + 1) 0 (.int .i64 ((m : Int) + 1)) (.inl (.inr rfl))
          have hs6 : (W5.setCell ⟨bFas + 1, 0, none⟩ (.int .i64 ((m : Int) + 1))).heap.size = W5.heap.size := by simp
          generalize hW6 : W5.setCell ⟨bFas + 1, 0, none⟩ (.int .i64 ((m : Int) + 1)) = W6 at *
          have qN6 : W6.cell? ⟨bFas + 1, 0, none⟩ = some (.int .i64 ((m : Int) + 1)) := cell_of_row W6 (bFas + 1) 0 _ _ (0, 0) h6N
          have qR6 : W6.cell? ⟨bRas, 0, none⟩ = some (.int .i64 1) := cell_of_row W6 bRas 0 _ _ (0, 0) h6R
          have hT0 := hsq.tn
          have HKp : Hid (Kept Tt (fun k => k < Vas.heap.size ∧ k ≠ bFas ∧ k ≠ bFas + 1) W W6) := Lib.hid ((Kept.of_below hbq).trans ((Kept.of_grown g5 (fun k e h => by cases e; rcases h with h | h; have := hT0 _ h; omega; exact h.2.1 rfl)).trans (Kept.of_grown g6 (fun k e h => by cases e; rcases h with h | h; have := hT0 _ h; omega; exact h.2.2 rfl))))
          have HS6 : Hid (LkSt Vas bFas (bFas + 1) (runL F N) Tt (m + 1) W6) := Lib.hid ⟨b6, by rw [HEp.out]; exact h6F, by rw [h6N]; rfl, fun k hk => by have := hT0 k hk; omega⟩
          have HPl : Hid ((pre ++ [(⟨p.toNat, z1.toNat, y⟩ : Stretch Int)]).length = m + 1) := Lib.hid (by have := HQ.out.2; simp; omega)
          clear h5F h5N h5R g5 b5 hs5 h6N h6F h6R g6 b6 hs6 hT0 hsq hXq hRq hbq
          gi_wp2
          exact ⟨HKp.out, by rw [HPl.out]; exact HS6.out, fun h => by cases h⟩
        case dnas =>
          rintro Dasd Tt xs W hDl hTD hxs ⟨hst, -⟩ hDk
          subst hxs
          rw [toS_length] at hst
          have hsq : LkSt Vas bFas (bFas + 1) (runL F N) Tt nR W := by rw [HNR.out]; exact hst
          clear hst
          obtain ⟨mm, hmm⟩ : ∃ mm, mm = nR := ⟨_, rfl⟩
          rw [← hmm] at hsq

          obtain ⟨Uasd, hUasd⟩ : ∃ U, U = W := ⟨_, rfl⟩
          rw [← hUasd] at hsq hDk ⊢
          clear hUasd
          have hbut := hsq.but
          have HBuasd : Hid (Below W1.heap.size W1 Uasd) := Lib.hid (HBVas.out.trans (hbut.below _ (by omega) (fun k hk => by omega)))
          have HRuasd : Hid (Uasd.heap[bRas]? = some (.cells #[.int .i64 1] 3 (0, 0))) := Lib.hid (hbut.keep HRVas.out (by omega) (by omega))
          have HDvasd := Lib.hid hDl
          have HLiasd0 : Hid (∀ k, k < Was.heap.size → Uasd.heap[k]? = Was.heap[k]?) := Lib.hid (fun k hk => (hbut.block k (by have := HVas.out.1.size; omega) (by have := HFas.out; omega)).trans (HVas.out.1.block k hk))
          have HDkasd := Lib.hid (And.intro (show W1.heap.size ≤ Dasd from by have := HBVas.out.size; omega) hDk)
          have HCuasd : Hid (Uasd.cell? ⟨bS, 0, none⟩ = some (.pointer (some ⟨g, 0, none⟩))) := Lib.hid (hbut.cell HCVas.out (by omega) (by omega))
          have qN : Uasd.cell? ⟨bFas + 1, 0, none⟩ = some (.int .i64 (mm : Nat)) := cell_of_row Uasd (bFas + 1) 0 _ _ (0, 0) hsq.cN
          have qR : Uasd.cell? ⟨bRas, 0, none⟩ = some (.int .i64 1) := cell_of_row Uasd bRas 0 _ _ (0, 0) HRuasd.out
          obtain ⟨⟨p0, p1⟩, -, -, -⟩ := HCell.out Uasd HBuasd.out
          have hC := heap_alloc_new Uasd (.cells #[.int .i64 2] 3)
          have hD := (Below.refl Uasd.heap.size Uasd).alloc (Nat.le_refl _) (.cells #[.int .i64 2] 3)
          obtain ⟨Wasd, hWasd⟩ : ∃ X, Uasd.alloc (.cells #[.int .i64 2] 3) = X := ⟨_, rfl⟩
          rw [hWasd] at hC hD
          have HWwasd := Lib.hid hWasd
          clear hWasd
          have HRasd : Hid (Wasd.heap[Uasd.heap.size]? = some (.cells #[.int .i64 2] 3 (0, 0))) := Lib.hid hC
          have HBasd : Hid (Below W1.heap.size W1 Wasd) := Lib.hid (HBuasd.out.trans (hD.mono HBuasd.out.size))
          have HCSasd : Hid (Wasd.cell? ⟨bS, 0, none⟩ = some (.pointer (some ⟨g, 0, none⟩))) := Lib.hid ((hD.cell (p := ⟨bS, 0, none⟩) (World.block_lt_of_cell? Uasd _ HCuasd.out)).trans HCuasd.out)
          have HDmasd : Hid (W1.heap.size ≤ Dasd ∧ Wasd.heap[Dasd]? = some (.deferred (some []))) := Lib.hid ⟨HDkasd.out.1, (hD.block Dasd (Array.getElem?_eq_some_iff.1 HDkasd.out.2).1).trans HDkasd.out.2⟩
          have HLiasd : Hid (∀ k, k < Was.heap.size → Wasd.heap[k]? = Was.heap[k]?) := Lib.hid (fun k hk => (hD.block k (by have := hbut.size; have := HVas.out.1.size; omega)).trans (HLiasd0.out k hk))
          clear hC hD hbut hsq hDk
          have dmn : ((mm : Int) != (nR : Int)) = false := by simp [hmm]
          clear hmm
          go_wp2
          rw [HWwasd.out]
          clear HWwasd qN qR p0 p1
          obtain ⟨bRasd, hbRasd⟩ : ∃ b, b = Uasd.heap.size := ⟨_, rfl⟩
          rw [← hbRasd] at HRasd ⊢
          clear hbRasd
          rw [rounds_succ]
          have qR : Wasd.cell? ⟨bRasd, 0, none⟩ = some (.int .i64 2) := cell_of_row Wasd bRasd 0 _ _ (0, 0) HRasd.out
          have HTz := Lib.hid (HTr1.out.below HBasd.out (Nat.le_refl _))
          go_wp2_with fail
          refine (Blocks8_walk Wasd g T HOk.out.ok HOk.out.pos HTz.out).mono ?_
          rintro e we ⟨rfl, q, rfl⟩
          clear qR
          have HBz : Hid (Below W1.heap.size W1 (Wasd.drewN q)) := Lib.hid (below_drewN HBasd.out q)
          have HD1 : Hid (W1.heap.size ≤ Das ∧ (Wasd.drewN q).heap[Das]? = some (.deferred (some []))) := Lib.hid ⟨HDmas.out.1, (HLiasd.out Das (Array.getElem?_eq_some_iff.1 HDmas.out.2).1).trans HDmas.out.2⟩
          have HD2 : Hid (W1.heap.size ≤ Dasd ∧ (Wasd.drewN q).heap[Dasd]? = some (.deferred (some []))) := Lib.hid ⟨HDmasd.out.1, HDmasd.out.2⟩
          have HNd : Hid (Das ≠ Dasd) := Lib.hid (by
            have h1 := (Array.getElem?_eq_some_iff.1 HDmas.out.2).1
            have h2 := HVas.out.1.size
            have h3 := HDvasd.out
            omega)
          generalize Wasd.drewN q = Wz at *
          have hml : T.mid.length = S.mids.length := by rw [HOk.out.mid]
          have hll : T.low.length = S.lows.length := by rw [HOk.out.low, List.length_map]
          rw [hml, hll]
          obtain ⟨nm, hnm⟩ : ∃ nm, nm = S.mids.length := ⟨_, rfl⟩
          obtain ⟨nl, hnl⟩ : ∃ nl, nl = S.lows.length := ⟨_, rfl⟩
          obtain ⟨-, ⟨p0, p1, p2⟩, p3, p4⟩ := HCell.out Wz HBz.out
          rw [← hnm] at p1 hSm
          rw [← hnl] at p2 hSl
          rw [← hnm, ← hnl]
          have HNm := Lib.hid (And.intro hnm hnl)
          have HMl := Lib.hid (And.intro hml hll)
          clear hnm hnl hml hll
          have em : ((nm : Int) * 64 == ((64 * nm : Nat) : Int)) = true := by simp; omega
          have el : ((nl : Int) * 64 == ((64 * nl : Nat) : Int)) = true := by simp; omega
          have hw1 : IntKind.i64.wrap ((nm : Int) * 64) = (nm : Int) * 64 := by simp [IntKind.wrap, IntKind.bits, IntKind.signed]; omega
          have hw2 : IntKind.i64.wrap ((nl : Int) * 64) = (nl : Int) * 64 := by simp [IntKind.wrap, IntKind.bits, IntKind.signed]; omega
          have em2 : ((nm : Int) * 64 == 64 * (nm : Int)) = true := by simp; omega
          have el2 : ((nl : Int) * 64 == 64 * (nl : Int)) = true := by simp; omega
          clear p4
          go_upto_region 23 with (fail)
          refine wp_region_noPanic ?_
          refine (wpIn_wide (n := 2)).1 ?_
          refine wpIn_region_calm [21] (fun w' : World => w'.cell? ⟨b0 + 1, 0, none⟩ = some (.slice sT 272 dT) ∧ w'.cell? ⟨b0 + 1, 1, none⟩ = some (.slice sM (64 * nm) dM) ∧ w'.cell? ⟨b0 + 1, 2, none⟩ = some (.slice sL (64 * nl) dL) ∧ w'.cell? ⟨b0 + 2, 0, none⟩ = some (.func (.func cf) #[] lb)) (by kernel_rfl) ?_
          have HCb : Hid (∀ (wa wb : World), Below wa.heap.size wa wb → (wa.cell? ⟨b0 + 1, 0, none⟩ = some (.slice sT 272 dT) ∧ wa.cell? ⟨b0 + 1, 1, none⟩ = some (.slice sM (64 * nm) dM) ∧ wa.cell? ⟨b0 + 1, 2, none⟩ = some (.slice sL (64 * nl) dL) ∧ wa.cell? ⟨b0 + 2, 0, none⟩ = some (.func (.func cf) #[] lb)) → (wb.cell? ⟨b0 + 1, 0, none⟩ = some (.slice sT 272 dT) ∧ wb.cell? ⟨b0 + 1, 1, none⟩ = some (.slice sM (64 * nm) dM) ∧ wb.cell? ⟨b0 + 1, 2, none⟩ = some (.slice sL (64 * nl) dL) ∧ wb.cell? ⟨b0 + 2, 0, none⟩ = some (.func (.func cf) #[] lb))) := Lib.hid (fun wa wb hb ⟨h1, h2, h3, h4⟩ =>
            ⟨(hb.cell (p := ⟨b0 + 1, 0, none⟩) (World.block_lt_of_cell? wa _ h1)).trans h1, (hb.cell (p := ⟨b0 + 1, 1, none⟩) (World.block_lt_of_cell? wa _ h2)).trans h2, (hb.cell (p := ⟨b0 + 1, 2, none⟩) (World.block_lt_of_cell? wa _ h3)).trans h3, (hb.cell (p := ⟨b0 + 2, 0, none⟩) (World.block_lt_of_cell? wa _ h4)).trans h4⟩)
          have HCx : Hid (Wz.drew.cell? ⟨b0 + 1, 0, none⟩ = some (.slice sT 272 dT) ∧ Wz.drew.cell? ⟨b0 + 1, 1, none⟩ = some (.slice sM (64 * nm) dM) ∧ Wz.drew.cell? ⟨b0 + 1, 2, none⟩ = some (.slice sL (64 * nl) dL) ∧ Wz.drew.cell? ⟨b0 + 2, 0, none⟩ = some (.func (.func cf) #[] lb)) := Lib.hid ⟨p0, p1, p2, p3⟩
          have HBy : Hid (Below W1.heap.size W1 Wz.drew) := Lib.hid HBz.out.drew
          have HD1y : Hid (W1.heap.size ≤ Das ∧ Wz.drew.heap[Das]? = some (.deferred (some []))) := Lib.hid HD1.out
          have HD2y : Hid (W1.heap.size ≤ Dasd ∧ Wz.drew.heap[Dasd]? = some (.deferred (some []))) := Lib.hid HD2.out
          clear p0 p1 p2 p3 HBz HD1 HD2
          generalize Wz.drew = Wy at *
          refine' anyD_take (i := 0) (v := _) [1, 5, 6, 7, 8, 9, 10, 11, 12, 13, 14, 15, 16, 17, 18, 19, 20, 21] (by kernel_rfl) rfl (by rfl) (by kernel_rfl) (fun _ _ _ h => h) (by rfl) ?hasd0 HCx.out ?kasd0
          case hasd0 =>
            rintro w' ⟨c0, c1, c2, c3⟩
            go_simp
            try with_reducible rfl
          simp only [List.getElem_toArray, List.getElem_cons_zero, List.getElem_cons_succ, Act.put, List.setIfInBounds_toArray, List.set_cons_zero, List.set_cons_succ]
          refine' anyD_take (i := 1) (v := _) [5, 6, 7, 8, 9, 10, 11, 12, 13, 14, 15, 16, 17, 18, 19, 20, 21] (by kernel_rfl) rfl (by rfl) (by kernel_rfl) (fun _ _ _ h => h) (by rfl) ?hasd1 HCx.out ?kasd1
          case hasd1 =>
            rintro w' ⟨c0, c1, c2, c3⟩
            go_simp
            try with_reducible rfl
          simp only [List.getElem_toArray, List.getElem_cons_zero, List.getElem_cons_succ, Act.put, List.setIfInBounds_toArray, List.set_cons_zero, List.set_cons_succ]
          refine' anyD_take (i := 2) (v := _) [3, 4, 5, 6, 7, 8, 9, 10, 11, 12, 13, 14, 15, 16, 17, 18, 19, 20, 21] (by kernel_rfl) rfl (by rfl) (by kernel_rfl) (fun _ _ _ h => h) (by rfl) ?hasd2 HCx.out ?kasd2
          case hasd2 =>
            rintro w' ⟨c0, c1, c2, c3⟩
            go_simp
            try with_reducible rfl
          simp only [List.getElem_toArray, List.getElem_cons_zero, List.getElem_cons_succ, Act.put, List.setIfInBounds_toArray, List.set_cons_zero, List.set_cons_succ]
          refine' anyD_take (i := 3) (v := _) [4, 5, 6, 7, 8, 9, 10, 11, 12, 13, 14, 15, 16, 17, 18, 19, 20, 21] (by kernel_rfl) rfl (by rfl) (by kernel_rfl) (fun _ _ _ h => h) (by rfl) ?hasd3 HCx.out ?kasd3
          case hasd3 =>
            rintro w' ⟨c0, c1, c2, c3⟩
            go_simp
            try with_reducible rfl
          simp only [List.getElem_toArray, List.getElem_cons_zero, List.getElem_cons_succ, Act.put, List.setIfInBounds_toArray, List.set_cons_zero, List.set_cons_succ]
          refine' anyD_take (i := 4) (v := _) [5, 6, 7, 8, 9, 10, 11, 12, 13, 14, 15, 16, 17, 18, 19, 20, 21] (by kernel_rfl) rfl (by rfl) (by kernel_rfl) (fun _ _ _ h => h) (by rfl) ?hasd4 HCx.out ?kasd4
          case hasd4 =>
            rintro w' ⟨c0, c1, c2, c3⟩
            go_simp
            try with_reducible rfl
          simp only [List.getElem_toArray, List.getElem_cons_zero, List.getElem_cons_succ, Act.put, List.setIfInBounds_toArray, List.set_cons_zero, List.set_cons_succ]
          refine' anyD_take (i := 5) (v := .bool true) [6, 7, 8, 9, 10, 11, 12, 13, 14, 15, 16, 17, 18, 19, 20, 21] (by kernel_rfl) rfl (by rfl) (by kernel_rfl) (fun _ _ _ h => h) (by rfl) ?hasd5 HCx.out ?kasd5
          case hasd5 =>
            rintro w' ⟨c0, c1, c2, c3⟩
            go_simp
            try with_reducible rfl
          simp only [List.getElem_toArray, List.getElem_cons_zero, List.getElem_cons_succ, Act.put, List.setIfInBounds_toArray, List.set_cons_zero, List.set_cons_succ]
          refine' anyD_take (i := 6) (v := _) [7, 8, 9, 10, 11, 12, 13, 14, 15, 16, 17, 18, 19, 20, 21] (by kernel_rfl) rfl (by rfl) (by kernel_rfl) (fun _ _ _ h => h) (by rfl) ?hasd6 HCx.out ?kasd6
          case hasd6 =>
            rintro w' ⟨c0, c1, c2, c3⟩
            go_simp
            try with_reducible rfl
          simp only [List.getElem_toArray, List.getElem_cons_zero, List.getElem_cons_succ, Act.put, List.setIfInBounds_toArray, List.set_cons_zero, List.set_cons_succ]
          refine' anyD_take (i := 7) (v := _) [8, 12, 13, 14, 15, 16, 17, 18, 19, 20, 21] (by kernel_rfl) rfl (by rfl) (by kernel_rfl) (fun _ _ _ h => h) (by rfl) ?hasd7 HCx.out ?kasd7
          case hasd7 =>
            rintro w' ⟨c0, c1, c2, c3⟩
            go_simp
            try with_reducible rfl
          simp only [List.getElem_toArray, List.getElem_cons_zero, List.getElem_cons_succ, Act.put, List.setIfInBounds_toArray, List.set_cons_zero, List.set_cons_succ]
          refine' anyD_take (i := 8) (v := _) [12, 13, 14, 15, 16, 17, 18, 19, 20, 21] (by kernel_rfl) rfl (by rfl) (by kernel_rfl) (fun _ _ _ h => h) (by rfl) ?hasd8 HCx.out ?kasd8
          case hasd8 =>
            rintro w' ⟨c0, c1, c2, c3⟩
            go_simp
            try with_reducible rfl
          simp only [List.getElem_toArray, List.getElem_cons_zero, List.getElem_cons_succ, Act.put, List.setIfInBounds_toArray, List.set_cons_zero, List.set_cons_succ]
          refine' anyD_take (i := 9) (v := _) [10, 11, 12, 13, 14, 15, 16, 17, 18, 19, 20, 21] (by kernel_rfl) rfl (by rfl) (by kernel_rfl) (fun _ _ _ h => h) (by rfl) ?hasd9 HCx.out ?kasd9
          case hasd9 =>
            rintro w' ⟨c0, c1, c2, c3⟩
            go_simp
            try with_reducible rfl
          simp only [List.getElem_toArray, List.getElem_cons_zero, List.getElem_cons_succ, Act.put, List.setIfInBounds_toArray, List.set_cons_zero, List.set_cons_succ]
          refine' anyD_take (i := 10) (v := _) [11, 12, 13, 14, 15, 16, 17, 18, 19, 20, 21] (by kernel_rfl) rfl (by rfl) (by kernel_rfl) (fun _ _ _ h => h) (by rfl) ?hasd10 HCx.out ?kasd10
          case hasd10 =>
            rintro w' ⟨c0, c1, c2, c3⟩
            go_simp
            try with_reducible rfl
          simp only [List.getElem_toArray, List.getElem_cons_zero, List.getElem_cons_succ, Act.put, List.setIfInBounds_toArray, List.set_cons_zero, List.set_cons_succ]
          refine' anyD_take (i := 11) (v := _) [12, 13, 14, 15, 16, 17, 18, 19, 20, 21] (by kernel_rfl) rfl (by rfl) (by kernel_rfl) (fun _ _ _ h => h) (by rfl) ?hasd11 HCx.out ?kasd11
          case hasd11 =>
            rintro w' ⟨c0, c1, c2, c3⟩
            go_simp
            try with_reducible rfl
          simp only [List.getElem_toArray, List.getElem_cons_zero, List.getElem_cons_succ, Act.put, List.setIfInBounds_toArray, List.set_cons_zero, List.set_cons_succ]
          refine' anyD_take (i := 12) (v := .bool true) [13, 14, 15, 16, 17, 18, 19, 20, 21] (by kernel_rfl) rfl (by rfl) (by kernel_rfl) (fun _ _ _ h => h) (by rfl) ?hasd12 HCx.out ?kasd12
          case hasd12 =>
            rintro w' ⟨c0, c1, c2, c3⟩
            go_simp
            try with_reducible rfl
          simp only [List.getElem_toArray, List.getElem_cons_zero, List.getElem_cons_succ, Act.put, List.setIfInBounds_toArray, List.set_cons_zero, List.set_cons_succ]
          refine' anyD_take (i := 13) (v := _) [14, 15, 16, 17, 18, 19, 20, 21] (by kernel_rfl) rfl (by rfl) (by kernel_rfl) (fun _ _ _ h => h) (by rfl) ?hasd13 HCx.out ?kasd13
          case hasd13 =>
            rintro w' ⟨c0, c1, c2, c3⟩
            go_simp
            try with_reducible rfl
          simp only [List.getElem_toArray, List.getElem_cons_zero, List.getElem_cons_succ, Act.put, List.setIfInBounds_toArray, List.set_cons_zero, List.set_cons_succ]
          refine' anyD_take (i := 14) (v := _) [15, 16, 17, 18, 19, 20, 21] (by kernel_rfl) rfl (by rfl) (by kernel_rfl) (fun _ _ _ h => h) (by rfl) ?hasd14 HCx.out ?kasd14
          case hasd14 =>
            rintro w' ⟨c0, c1, c2, c3⟩
            go_simp
            try with_reducible rfl
          simp only [List.getElem_toArray, List.getElem_cons_zero, List.getElem_cons_succ, Act.put, List.setIfInBounds_toArray, List.set_cons_zero, List.set_cons_succ]
          refine' anyD_take (i := 15) (v := _) [16, 19, 20, 21] (by kernel_rfl) rfl (by rfl) (by kernel_rfl) (fun _ _ _ h => h) (by rfl) ?hasd15 HCx.out ?kasd15
          case hasd15 =>
            rintro w' ⟨c0, c1, c2, c3⟩
            go_simp
            try with_reducible rfl
          simp only [List.getElem_toArray, List.getElem_cons_zero, List.getElem_cons_succ, Act.put, List.setIfInBounds_toArray, List.set_cons_zero, List.set_cons_succ]
          refine' anyD_take (i := 17) (v := _) [19, 20, 21] (by kernel_rfl) rfl (by rfl) (by kernel_rfl) (fun _ _ _ h => h) (by rfl) ?hasd17 HCx.out ?kasd17
          case hasd17 =>
            rintro w' ⟨c0, c1, c2, c3⟩
            go_simp
            try with_reducible rfl
          simp only [List.getElem_toArray, List.getElem_cons_zero, List.getElem_cons_succ, Act.put, List.setIfInBounds_toArray, List.set_cons_zero, List.set_cons_succ]
          refine' anyD_take (i := 18) (v := _) [19, 20, 21] (by kernel_rfl) rfl (by rfl) (by kernel_rfl) (fun _ _ _ h => h) (by rfl) ?hasd18 HCx.out ?kasd18
          case hasd18 =>
            rintro w' ⟨c0, c1, c2, c3⟩
            go_simp
            try with_reducible rfl
          simp only [List.getElem_toArray, List.getElem_cons_zero, List.getElem_cons_succ, Act.put, List.setIfInBounds_toArray, List.set_cons_zero, List.set_cons_succ]
          clear em el em2 el2 hw1 hw2
          have HTy := Lib.hid (HTr1.out.below HBy.out (Nat.le_refl _))
          refine anyC_r1 (i := 16) (by kernel_rfl) ?_
          refine stepCall (i := 16) rfl (by rfl) (by rfl) (fun _ _ => trivial) (exec_call1 44 (.tmp 132) _ rfl (.pointer (some ⟨g, 0, none⟩)) rfl (enters_of Try.func44 (by kernel_rfl) rfl)) (fun h => by cases h) ?_
          refine callsIn_wide.2 ?_
          refine (Parts8_walk Wy g T HOk.out.ok HOk.out.pos HTy.out).mono ?_
          rintro e Wx ⟨at_, ct, am, cm, al, cl, rfl, ho1, ho2, ho3, hb⟩
          refine ⟨_, rfl, fun _ => HCb.out _ _ hb HCx.out, ?_⟩
          rw [HMl.out.1, ← HNm.out.1] at ho2 ⊢
          rw [HMl.out.2, ← HNm.out.2] at ho3 ⊢
          have HV1 : Hid (Vals Wx at_ (S.top.map num16)) := Lib.hid (by have := own_vals ho1; rw [HOk.out.top] at this; exact this)
          have HV2 : Hid (Vals Wx am (S.mids.flatten.map num16)) := Lib.hid (by have := own_vals ho2; rw [HOk.out.mid, flatV_flatten] at this; exact this)
          have HV3 : Hid (Vals Wx al (S.lows.flatten.map (fun v => val8 (of v)))) := Lib.hid (by have := own_vals ho3; rw [HOk.out.low, flatV_flatten, ← List.map_flatten, List.map_map] at this; exact this)
          have HBx : Hid (Below W1.heap.size W1 Wx) := Lib.hid (HBy.out.trans (hb.mono HBy.out.size))
          have HD1x : Hid (W1.heap.size ≤ Das ∧ Wx.heap[Das]? = some (.deferred (some []))) := Lib.hid ⟨HD1y.out.1, (hb.block _ (Array.getElem?_eq_some_iff.1 HD1y.out.2).1).trans HD1y.out.2⟩
          have HD2x : Hid (W1.heap.size ≤ Dasd ∧ Wx.heap[Dasd]? = some (.deferred (some []))) := Lib.hid ⟨HD2y.out.1, (hb.block _ (Array.getElem?_eq_some_iff.1 HD2y.out.2).1).trans HD2y.out.2⟩
          have HCx2 := Lib.hid (HCb.out _ _ hb HCx.out)
          clear ho1 ho2 ho3 hb HBy HD1y HD2y HTy HCx
          simp only [List.getElem_toArray, List.getElem_cons_zero, List.getElem_cons_succ, Act.put, List.setIfInBounds_toArray, List.set_cons_zero, List.set_cons_succ]
          have hbs := HOk.out.ok
          refine anyC_r1 (i := 19) (by kernel_rfl) ?_
          refine stepCall (i := 19) rfl (by rfl) (by rfl) (fun _ _ => trivial) (exec_call3 43 (.tmp 133) (.tmp 134) (.tmp 135) _ rfl (.agg #[.slice at_ 272 ct, .slice am (64 * nm) cm, .slice al (64 * nl) cl]) (.agg #[.slice sT 272 dT, .slice sM (64 * nm) dM, .slice sL (64 * nl) dL]) (.func (.func cf) #[] lb) rfl rfl rfl (enters_of Try.func43 (by kernel_rfl) rfl)) (fun h => by cases h) ?_
          refine callsIn_wide.2 ?_
          refine (alike_walk Wx at_ ct am cm al cl sT dT sM dM sL dL S.top S.mids.flatten S.lows.flatten 272 (64 * nm) (64 * nl) hS272 (by rw [flatten_len _ (fun l hl => hbs.mid l (by rw [HOk.out.mid]; exact hl)), HNm.out.1]) (by rw [flatten_len _ (fun l hl => by have := hbs.low (l.map of) (by rw [HOk.out.low]; exact List.mem_map_of_mem hl); rwa [List.length_map] at this), HNm.out.2]) (by omega) of cf lb HEg.out HV1.out HV2.out HV3.out (K1.out.below HBx.out (Nat.le_refl _)) (K2.out.below HBx.out (Nat.le_refl _)) (K3.out.below HBx.out (Nat.le_refl _))
            (fun v hv => by obtain ⟨l, hl, h⟩ := List.mem_flatten.1 hv; exact HOk.out.lo l hl v h) (fun x hx => by rw [← HOk.out.top] at hx; have := hbs.topN x hx; have := hbs.midL; omega) (fun x hx => by obtain ⟨l, hl, h⟩ := List.mem_flatten.1 hx; rw [← HOk.out.mid] at hl; have := hbs.midN l hl x h; have := hbs.lowL; omega)
            (fun v hv W hW => by obtain ⟨l, hl, h⟩ := List.mem_flatten.1 hv; have hr := HOk.out.lo l hl v h; exact HCl.out v hr.1 hr.2 W (HP.out.1.trans ((HBx.out.trans (hW.mono HBx.out.size)).mono HP.out.1.size)))).mono ?_
          rintro e Wf ⟨rfl, hb⟩
          refine ⟨_, rfl, fun _ => HCb.out _ _ hb HCx2.out, ?_⟩
          have HBf : Hid (Below W1.heap.size W1 Wf) := Lib.hid (HBx.out.trans (hb.mono HBx.out.size))
          have HD1f : Hid (W1.heap.size ≤ Das ∧ Wf.heap[Das]? = some (.deferred (some []))) := Lib.hid ⟨HD1x.out.1, (hb.block _ (Array.getElem?_eq_some_iff.1 HD1x.out.2).1).trans HD1x.out.2⟩
          have HD2f : Hid (W1.heap.size ≤ Dasd ∧ Wf.heap[Dasd]? = some (.deferred (some []))) := Lib.hid ⟨HD2x.out.1, (hb.block _ (Array.getElem?_eq_some_iff.1 HD2x.out.2).1).trans HD2x.out.2⟩
          have HCf := Lib.hid (HCb.out _ _ hb HCx2.out)
          clear hb hbs HBx HD1x HD2x HCx2 HV1 HV2 HV3
          simp only [List.getElem_toArray, List.getElem_cons_zero, List.getElem_cons_succ, Act.put, List.setIfInBounds_toArray, List.set_cons_zero, List.set_cons_succ]
          refine' anyD_take (i := 20) (v := .bool true) [21] (by kernel_rfl) rfl (by rfl) (by kernel_rfl) (fun _ _ _ h => h) (by rfl) ?hasd20 HCf.out ?kasd20
          case hasd20 =>
            rintro w' ⟨c0, c1, c2, c3⟩
            go_simp
            try with_reducible rfl
          simp only [List.getElem_toArray, List.getElem_cons_zero, List.getElem_cons_succ, Act.put, List.setIfInBounds_toArray, List.set_cons_zero, List.set_cons_succ]
          refine anyC_r1 (i := 21) (by kernel_rfl) ?_
          have hrs : Wf.heap[b0 + 3]? = some (.cells #[.bool false] 4 (0, 0)) := (HCell.out Wf HBf.out).2.2.2
          refine stepS (i := 21) (w' := Wf.setRow (b0 + 3) #[.bool true]) rfl (by rfl) (fun _ _ => trivial) (by rfl) (exec_store1 4 (.tmp 10) (.tmp 137) rfl (b0 + 3) (.bool true) rfl rfl rfl 4 _ hrs (by kernel_rfl)) (fun h => absurd (by simp) h) ?_
          simp only [List.getElem_toArray, List.getElem_cons_zero, List.getElem_cons_succ, Act.put, List.setIfInBounds_toArray, List.set_cons_zero, List.set_cons_succ]
          refine ⟨by kernel_rfl, ?_⟩
          have hz1 : b0 + 3 < W1.heap.size := by omega
          have HD1g : Hid (W1.heap.size ≤ Das ∧ (Wf.setRow (b0 + 3) #[.bool true]).heap[Das]? = some (.deferred (some []))) := Lib.hid ⟨HD1f.out.1, by rw [setRow_other Wf (b0 + 3) _ _ (by have := HD1f.out.1; omega)]; exact HD1f.out.2⟩
          have HD2g : Hid (W1.heap.size ≤ Dasd ∧ (Wf.setRow (b0 + 3) #[.bool true]).heap[Dasd]? = some (.deferred (some []))) := Lib.hid ⟨HD2f.out.1, by rw [setRow_other Wf (b0 + 3) _ _ (by have := HD2f.out.1; omega)]; exact HD2f.out.2⟩
          have HRg := Lib.hid (setRow_heap Wf (b0 + 3) _ #[.bool true] _ _ hrs)
          have HBg : Hid (Below w.heap.size w (Wf.setRow (b0 + 3) #[.bool true])) := Lib.hid (by
            have h := HP.out.1.trans (HBf.out.mono HP.out.1.size)
            have := HB0.out
            exact ⟨h.os, h.tape, h.output, by rw [setRow_size]; exact h.size, fun k hk => by rw [setRow_other Wf (b0 + 3) k _ (by omega)]; exact h.block k hk⟩)
          clear hrs
          generalize (Wf.setRow (b0 + 3) #[.bool true]) = Wg at *
          clear hSm hSl hS272
          refine NoPanic.normal ?_
          go_step
          go_step
          go_step
          go_step
          refine leaves_marks (B := W1.heap.size) [Dasd, Das] Wg (by simp [HNd.out, Ne.symm HNd.out]) (fun D hD => by
            rcases List.mem_cons.1 hD with rfl | hD
            · exact HD2g.out
            · rw [List.mem_singleton.1 hD]; exact HD1g.out) (fun w' hb' => ?_)
          have q3 : w'.cell? ⟨b0 + 3, 0, none⟩ = some (.bool true) := cell_of_row w' (b0 + 3) 0 _ _ (0, 0) ((hb'.block (b0 + 3) hz1).trans HRg.out)
          refine leaves_nil (v := .bool true) (by simp [results, Try.results39, go_sem, q3]) ?_
          exact ⟨rfl, HBg.out.trans (hb'.mono HP.out.1.size)⟩
        case stpas =>
          rintro D c T pre W - - - ⟨-, -, -, h⟩ -
          cases h
end Go.Proofs.Ytabbabkmojaoaaa

/-
  Plain laws: a trie of values made of numbers, and the document's stages of the numbers (uint8).
-/
namespace Go.Proofs.Ytabbabkmojaoaaa
open Go.RowKit
theorem blkF_of {F : Nat → Int} {f : Nat → Int} {of : Int → Int} {N : Nat} (hf : ∀ r, r < N → f r = of (F r)) (k : Nat) (hk : 64 * (k + 1) ≤ N) : blkF f k = (Go.Proofs.Ytabbabkmojaoaaa.blkF F k).map of := by
  apply List.ext_getElem
  · simp [blkF, Go.Proofs.Ytabbabkmojaoaaa.blkF]
  · intro i h1 h2
    simp [blkF] at h1
    simp [blkF, Go.Proofs.Ytabbabkmojaoaaa.blkF, hf (64 * k + i) (by omega)]
theorem mkF_of {F : Nat → Int} {f : Nat → Int} {of : Int → Int} {N : Nat} (hi : inj8 of) (hf : ∀ r, r < N → f r = of (F r)) (hr : ∀ r, r < N → rng8 (F r)) : ∀ k, 64 * k ≤ N → mkF f k = mapS of (Go.Proofs.Ytabbabkmojaoaaa.mkF F k) ∧ ∀ l ∈ (Go.Proofs.Ytabbabkmojaoaaa.mkF F k).lows, ∀ x ∈ l, rng8 x
  | 0, _ => ⟨rfl, fun l hl => by cases hl⟩
  | k + 1, hk => by
    obtain ⟨h1, h2⟩ := mkF_of hi hf hr k (by omega)
    have hb : ∀ x ∈ Go.Proofs.Ytabbabkmojaoaaa.blkF F k, rng8 x := fun x hx => by
      simp only [Go.Proofs.Ytabbabkmojaoaaa.blkF, List.mem_map, List.mem_range] at hx
      obtain ⟨i, hi, rfl⟩ := hx
      exact hr _ (by omega)
    rw [mkF, Go.Proofs.Ytabbabkmojaoaaa.mkF, h1, blkF_of hf k (by omega)]
    exact ⟨addS_of hi hb h2, addS_rng hb h2⟩
theorem lkOk {F : Nat → Int} {f : Nat → Int} {of : Int → Int} {S : MkS Int} {N M : Nat} (hN : N = 1114112) (hM : M = 17408) (hS : Made8 f S) (hi : inj8 of) (hf : ∀ r, r < N → f r = of (F r)) (hr : ∀ r, r < N → 0 ≤ F r ∧ F r ≤ 255) : LkOk (trieS S) (Go.Proofs.Ytabbabkmojaoaaa.mkF F M) F of N := by
  obtain ⟨K, hK, hSe⟩ := hS.eq
  obtain ⟨h1, h2⟩ := mkF_of hi hf hr M (by omega)
  have hSM : S = mapS of (Go.Proofs.Ytabbabkmojaoaaa.mkF F M) := by rw [hSe, show K = M by omega, h1]
  refine ⟨hS.trie, hS.pos.1, ?_, ?_, ?_, fun r hr' => ?_, hr, hi, h2⟩
  · show S.top = _
    rw [hSM]; rfl
  · show S.mids = _
    rw [hSM]; rfl
  · show S.lows = _
    rw [hSM]; rfl
  · rw [hS.look r (by omega), hf r hr']
end Go.Proofs.Ytabbabkmojaoaaa
