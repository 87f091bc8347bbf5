/-
  The walk through all low blocks of a trie, with any closure that is called for each (float64).
-/
import Derived.Test.YtabbabkmojaoaaaTWF
import Derived.RangeFuncBound
import Derived.OwnWalkIn
import Derived.TacticsInMore
import Derived.LoopNIn
import Derived.LoopIn
import Derived.Deep.Cut
set_option linter.unusedVariables false
set_option linter.unusedSimpArgs false
namespace Go.Proofs.Ytabbabkmojaoaaa.VF
open Go.RowKit
attribute [local go_sem] run_store_float
attribute [local go_sem] Oper.semAt_some

set_option maxRecDepth 100000 in
set_option maxHeartbeats 1600000 in
theorem blocks8_walk (w0 : World) (g : Nat) (T : TrieD El) (hk : TrieOk T) (h0 : 0 < T.low.length) (ht : TrieAt val8 148 64 w0 g T) (cf : Nat) (lb : Array Value) (J : Nat → World → Prop) (Jx : World → Prop) (w : World) (eg : ∀ args W, (callFunc cf args).run Try.prog W = .ok (.enter cf args) W)
    (hJ : ∀ k W, J k W → Lies w0 W)
    (hcall : ∀ k W (b o : Nat), k < 17408 → J k W → w0.rangeAt b o (blkC val8 (lowAt T k)) →
      Calls Try.prog cf (#[.pointer (some ⟨b, o, none⟩)] ++ lb) W fun e W' => (e = .returned (.bool true) ∧ J (k + 1) W') ∨ (e = .returned (.bool false) ∧ Jx W'))
    (h1 : J 0 w) :
    Calls Try.prog 73 #[.pointer (some ⟨g, 0, none⟩), .func (.func cf) #[] lb] w fun e w' => (∃ v, e = .returned v) ∧ (J 17408 w' ∨ Jx w') := by
  have HJ := Lib.hid hJ; clear hJ
  have HCl := Lib.hid hcall; clear hcall
  have H1 := Lib.hid h1; clear h1
  have HEg := Lib.hid eg; clear eg
  have HK := Lib.hid hk; clear hk
  obtain ⟨am, cm, al, cl, hh1, hh2, hh3⟩ := ht
  have HG1 := Lib.hid hh1; have HG2 := Lib.hid hh2; have HG3 := Lib.hid hh3
  clear hh1 hh2 hh3
  have hh1 := (HJ.out 0 w H1.out).block HG1.out
  have HR0 : Hid (w.rangeAt g 0 (blkC num16 T.top)) := Lib.hid (by
    intro j v hv
    have hjl : j < T.top.length := by
      have := (List.getElem?_eq_some_iff.1 hv).1
      rw [blkC_length (sz := 1) (fun _ => rfl)] at this
      omega
    rw [Nat.zero_add, TrieAt.cell_top (val := val8) HK.out hh1 j (by rw [← HK.out.top]; exact hjl), getD_at (d := 0) hjl, ← hv, blkC_get num16_cells _ j hjl])
  have hts : (blkC num16 T.top).length = 272 := by rw [blkC_length (sz := 1) (fun _ => rfl), HK.out.top]
  clear hh1
  go_enter Try.func73, Try.ntmps73
  go_upto_region 0 with (fail)
  refine wp_region_list ?_
  refine wpList_val (v := .pointer (some ⟨g, 0, none⟩)) (w' := w) rfl (by rfl) ?_
  refine wpList_val (v := .pointer (some ⟨g, 0, none⟩)) (w' := w) rfl (by rfl) ?_
  refine wpList_val (v := .pointer (some ⟨g, 0, none⟩)) (w' := w) rfl (by go_simp) ?_
  refine wpList_load_mid rfl 110 (.tmp 10) rfl g 0 rfl (blkC num16 T.top) (.array 272 91) HR0.out Try.underlying110 rfl (by rw [hts]; kernel_rfl) ?_
  have HTop : Hid (∀ c, c < 272 → (blkC num16 T.top).toArray[c]? = some (num16 (T.top.getD c 0))) := Lib.hid (fun c hc => by
    have hcl : c < T.top.length := by rw [HK.out.top]; exact hc
    rw [List.getElem?_toArray, blkC_get num16_cells _ c hcl, getD_at (d := 0) hcl])
  generalize (blkC num16 T.top).toArray = top at *
  clear hts HR0
  go_wp2
  go_loopw [12] (BlO J) (fun i _ => 272 - (intOf i).toNat)
  case atStart => exact ⟨0, Nat.zero_le _, rfl, H1.out⟩
  case round =>
    obtain ⟨c, hc, rfl, hj⟩ := hrel
    have HJc := Lib.hid hj; clear hj
    by_cases hcn : c < 272
    · have hci : (c : Int) < 272 := by omega
      have a1 := run_index_top top c _ hcn (HTop.out c hcn) wr
      have htl : c < T.top.length := by rw [HK.out.top]; exact hcn
      have hil : T.top.getD c 0 < T.mid.length := by rw [getD_at (d := 0) htl]; exact HK.out.topN _ (List.getElem_mem htl)
      obtain ⟨i, hi⟩ : ∃ i, i = T.top.getD c 0 := ⟨_, rfl⟩
      rw [← hi] at a1 hil
      have HI := Lib.hid hi; clear hi
      have hly := HJ.out _ _ HJc.out
      have c1 := TrieAt.cell_mid (val := val8) HK.out (hly.block HG1.out)
      obtain ⟨bm, om, rfl⟩ := HG2.out.some (by omega)
      have HR := Lib.hid (hly.range (HG2.out.get i hil))
      clear hly
      have hml : (T.mid[i]).length = 64 := HK.out.mid _ (List.getElem_mem hil)
      have hms : (blkC num16 T.mid[i]).length = 64 := by rw [blkC_length (sz := 1) (fun _ => rfl), hml]
      have hnm : T.mid.length ≤ 272 := HK.out.midL
      have HMid : Hid (∀ j, j < 64 → (blkC num16 T.mid[i]).toArray[j]? = some (num16 ((T.mid.getD i []).getD j 0))) := Lib.hid (fun j hj => by
        rw [List.getElem?_toArray, blkC_get num16_cells _ j (by omega), getD_at (d := []) hil, getD_at (d := 0) (by omega)])
      unfold num16 at a1
      have g1 : (0 : Int) ≤ (i : Int) := by omega
      have g2 : (i : Int) < ((T.mid.length : Nat) : Int) := by omega
      generalize hnn : T.mid.length = nm at c1 g2 hnm
      clear hnn
      go_upto_region 3 with (fail)
      refine wp_region_list ?_
      refine wpList_val (v := .pointer (some ⟨g, 0, none⟩)) (w' := wr) rfl (by rfl) ?_
      refine wpList_val (v := .pointer (some ⟨g, 0, none⟩)) (w' := wr) rfl (by rfl) ?_
      refine wpList_val (v := .pointer (some ⟨g, 272, none⟩)) (w' := wr) rfl (by go_simp) ?_
      refine wpList_val (v := .slice (some ⟨bm, om, none⟩) nm cm) (w' := wr) rfl (by go_simp) ?_
      refine wpList_val (v := .int .u16 (i : Nat)) (w' := wr) rfl (by rfl) ?_
      refine wpList_val (v := .pointer (some ⟨bm, om + i * 64, none⟩)) (w' := wr) rfl (by go_simp) ?_
      refine wpList_load_mid rfl 120 (.tmp 20) rfl bm (om + i * 64) rfl (blkC num16 T.mid[i]) (.array 64 91) HR.out Try.underlying120 rfl (by rw [hms]; kernel_rfl) ?_
      generalize (blkC num16 T.mid[i]).toArray = mid at *
      clear hms HR c1 g1 g2 hnm a1
      go_wp2
      go_loopw [22] (BlI J c) (fun i _ => 64 - (intOf i).toNat)
      case atStart => exact ⟨0, Nat.zero_le _, rfl, HJc.out⟩
      case round =>
        obtain ⟨j, hj, rfl, hjj⟩ := hrel
        have HJj := Lib.hid hjj; clear hjj
        by_cases hjn : j < 64
        · have hji : (j : Int) < 64 := by omega
          have b1 := run_index_mid mid j _ hjn (HMid.out j hjn) wr
          have hly := HJ.out _ _ HJj.out
          have c2 := TrieAt.cell_low (val := val8) HK.out (hly.block HG1.out)
          clear hly
          have hkk : 64 * c + j < 17408 := by omega
          have hLow : lowAt T (64 * c + j) = T.low.getD ((T.mid.getD i []).getD j 0) [] := by
            unfold lowAt
            rw [show (64 * c + j) / 64 = c by omega, show (64 * c + j) % 64 = j by omega, ← HI.out]
          have hmj : j < (T.mid[i]).length := by rw [hml]; exact hjn
          have hll : (T.mid.getD i []).getD j 0 < T.low.length := by
            rw [getD_at (d := []) hil, getD_at (d := 0) hmj]
            exact HK.out.midN _ (List.getElem_mem hil) _ (List.getElem_mem hmj)
          obtain ⟨q, hq⟩ : ∃ q, q = (T.mid.getD i []).getD j 0 := ⟨_, rfl⟩
          rw [← hq] at b1 hLow hll
          obtain ⟨bl, ol, rfl⟩ := HG3.out.some (by omega)
          have HRl : Hid (w0.rangeAt bl (ol + q * 64) (blkC val8 (lowAt T (64 * c + j)))) := Lib.hid (by
            rw [hLow, getD_at (d := []) hll]
            exact HG3.out.get q hll)
          have hnl : T.low.length ≤ 17408 := HK.out.lowL
          clear hq hLow
          unfold num16 at b1
          have g3 : (0 : Int) ≤ (q : Int) := by omega
          have g4 : (q : Int) < ((T.low.length : Nat) : Int) := by omega
          generalize hnn : T.low.length = nl at c2 g4 hnl
          clear hnn hll hmj hil hml
          have heg := HEg.out
          go_wp2_with fail
          refine (HCl.out (64 * c + j) wr bl (ol + q * 64) hkk HJj.out HRl.out).mono ?_
          rintro e w5 (⟨rfl, h5⟩ | ⟨rfl, h5⟩)
          · have H5 := Lib.hid h5; clear h5 heg
            go_wp2
            go_roundw
            case rel => exact ⟨j + 1, by omega, by go_num, by rw [← Nat.add_assoc]; exact H5.out⟩
            case measure => simp [intOf]; omega
          · have H5 := Lib.hid h5; clear h5 heg
            go_wp2
            refine bodyPost_ret (results_none rfl _ _ _) rfl ?_
            exact ⟨⟨_, rfl⟩, .inr H5.out⟩
        · obtain rfl : j = 64 := by omega
          have HJ6 : Hid (J (64 * (c + 1)) wr) := Lib.hid HJj.out
          go_wp2
          go_roundw
          case rel => exact ⟨c + 1, by omega, by go_num, HJ6.out⟩
          case measure => simp [intOf]; omega
    · obtain rfl : c = 272 := by omega
      have hJ2 : J 17408 wr := HJc.out
      have HJ2 := Lib.hid hJ2; clear hJ2
      go_wp2
      go_end0
      exact ⟨⟨_, rfl⟩, .inl HJ2.out⟩
end Go.Proofs.Ytabbabkmojaoaaa.VF
