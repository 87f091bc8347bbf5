/-
  The walk of picks.Text.
-/
import Derived.Test.YtkcdcgijbaepmaaW19
import Derived.Test.YtkcdcgijbaepmaaW23
import Derived.Test.YtkcdcgijbaepmaaBU
import Derived.StillTailTactics
set_option linter.unusedVariables false
namespace Go.Proofs.Ytkcdcgijbaepmaa
open Go.RowKit

/-- one step of a range over a text, whatever else lies in memory -/
theorem run_next_at {P : Program} (w : World) (b : Nat) (s : ByteArray) (pos : Nat) (ty : TypeId) (hb : w.heap[b]? = some (.stringIter s pos)) (h : pos < s.size) :
    (Instr.next (.pointer (some ⟨b, 0, none⟩)) true ty).run P w = .ok (.tuple #[.bool true, .int .i64 pos, .int .i32 (Utf8.decode s pos).1]) (w.putObj b (.stringIter s (pos + (Utf8.decode s pos).2))) := by
  simp only [Instr.next, getObj, setObj, Sem.run_bind, Sem.run, hb, Result.andThen, h, if_true]
  simp [goInt, World.putObj]
theorem run_next_over {P : Program} (w : World) (b : Nat) (s : ByteArray) (pos : Nat) (ty : TypeId) (hb : w.heap[b]? = some (.stringIter s pos)) (h : ¬ pos < s.size) :
    (Instr.next (.pointer (some ⟨b, 0, none⟩)) true ty).run P w = .ok (.tuple #[.bool false]) w := by
  simp [Instr.next, getObj, Sem.run, hb, h]
def posOf (wr : World) (gi : Nat) : Nat := match wr.heap[gi]? with | some (.stringIter _ p) => p | _ => 0
def begI (s : ByteArray) (k : Nat) : List Int := (List.range k).map (fun j => ((atN s j : Nat) : Int))
theorem begI_length (s : ByteArray) (k : Nat) : (begI s k).length = k := by simp [begI]
theorem begI_succ (s : ByteArray) (k : Nat) : begI s (k + 1) = begI s k ++ [((atN s k : Nat) : Int)] := by simp [begI, List.range_succ]
theorem begI_get (s : ByteArray) (k j : Nat) (h : j < (begI s k).length) : (begI s k)[j] = ((atN s j : Nat) : Int) := by simp [begI]
def BegR (w : World) (s : ByteArray) (gi : Nat) (v : Value) (wr : World) : Prop := ∃ k a c, k ≤ (begL s).length ∧ v = .slice a k c ∧ wr.heap[gi]? = some (.stringIter s (atN s k)) ∧ Own (gi + 1) 3 wr a k c (ivs .i64 (begI s k)) ∧ Below w.heap.size w wr
/-- between two rounds: the builder holds the text of the first pieces -/
structure TxSt (s : ByteArray) (L : List PD) (w5 : World) (bB j : Nat) (wr : World) : Prop where
  bld : Lib.IsBuilderF 60 5 bB bB (Lib.strCells (textL s (L.take j))) wr
  bel : Below bB w5 wr
  oth : Lib.OthersKept 5 (some bB) w5 wr
def TxR (s : ByteArray) (L : List PD) (w5 : World) (bB : Nat) (v : Value) (wr : World) : Prop := ∃ j : Nat, j ≤ L.length ∧ v = .int .i64 j ∧ TxSt s L w5 bB j wr

theorem OwnP.others {B bB : Nat} {w w' : World} {a : Option Addr} {n c : Nat} {rs : List PD} (h : OwnP B w a n c rs) (ho : Lib.OthersKept 5 (some bB) w w') (hB : bB < B) : OwnP B w' a n c rs := by
  refine ⟨h.1, ?_⟩
  rcases h.2 with hn | ⟨g, cap, cur, e, hbg, hgg, rest⟩
  · exact .inl hn
  · refine .inr ⟨g, cap, cur, e, hbg, ho g _ hgg (by simp; omega) (fun c fz e => by simp at e), rest⟩
theorem textL_size (s : ByteArray) (l : List PD) : (textL s l).size ≤ l.length * s.size := by
  have h : ∀ (t : ByteArray), (l.foldl (fun t p => t ++ subS s p.f.toNat p.t.toNat) t).size ≤ t.size + l.length * s.size := by
    induction l with
    | nil => intro t; simp
    | cons p r ih =>
      intro t
      rw [List.foldl_cons, List.length_cons, Nat.add_mul, Nat.one_mul]
      have h1 := ih (t ++ subS s p.f.toNat p.t.toNat)
      have h2 : (subS s p.f.toNat p.t.toNat).size ≤ s.size := by unfold subS; rw [ByteArray.size_extract]; omega
      rw [ByteArray.size_append] at h1
      omega
  have := h ByteArray.empty
  simpa [textL] using this
theorem any_text_in {k : Nat} {ps : List PD} (h : ¬ Any_text k ps = true) : ∀ p ∈ ps, 0 ≤ p.f ∧ p.t ≤ (k : Int) := fun p hp => by
  unfold Any_text at h
  rw [decide_eq_true_iff] at h
  have h2 : ¬ overP k p := fun h3 => h ⟨p, hp, h3⟩
  unfold overP wrongP at h2
  omega
theorem text_join (s : ByteArray) (ps : List PD) (k : Nat) (hk : k = (begL s).length) (h : ¬ Any_text k ps = true) : textP s (covB ps ∘ Int.ofNat) k = textL s (joinL ps) := by
  have hw := fun q hq => join_within (any_text_in h) (q := q) hq
  rw [textL_eq s _ (joinL ps) rfl (joinL_ok ps).1 (fun p hp => by rw [← hk]; exact hw p hp), hk]
  refine textP_congr s _ _ _ (fun i _ => ?_)
  unfold covN
  simp only [Function.comp, covB]
  exact (decide_eq_decide.2 ((joinL_ok ps).2 _)).symm

set_option maxRecDepth 100000 in
set_option maxHeartbeats 4000000 in
theorem Text_walk (s : ByteArray) (a : Option Addr) (n c : Nat) (ps : List PD) (w : World) (hs : s.size ≤ 1048576) (hn : ps.length = n) (hlt : n ≤ 65536) (hc : PiecesAt w a ps) (hnone : a = none → c = 0) :
    Calls Try.prog 12 #[.string s, .slice a n c] w fun e w' => e = .returned (.tuple #[.string (txtS s ps), .int .i64 (txtE s ps)]) ∧ Below w.heap.size w w' := by
  have HN := Lib.hid hn; clear hn
  have HC := Lib.hid hc; clear hc
  have HZ := Lib.hid hnone; clear hnone
  have hle := begL_le s
  obtain ⟨m, hm⟩ : ∃ m, m = (begL s).length := ⟨_, rfl⟩
  rw [← hm] at hle
  have HM := Lib.hid hm; clear hm
  obtain ⟨gi, hgi⟩ : ∃ gi, gi = w.heap.size := ⟨_, rfl⟩
  have HIt : Hid ((w.iter s 0).heap[gi]? = some (.stringIter s 0) ∧ Below w.heap.size w (w.iter s 0) ∧ (w.iter s 0).heap.size = gi + 1) := Lib.hid (by
    rw [hgi]; exact ⟨World.iter_heap w s 0, (Below.refl _ _).alloc (Nat.le_refl _) _, by simp [World.iter]⟩)
  go_enter Try.func12, Try.ntmps12
  go_wp2
  rw [← hgi]
  generalize w.iter s 0 = w6 at *
  have HGi := Lib.hid hgi; clear hgi
  have hgi6 : w6.heap.size = gi + 1 := HIt.out.2.2
  go_loopw [6] (fun v wr => BegR w s gi v wr) (fun _ wr => s.size - posOf wr gi)
  case atStart => exact ⟨0, none, 0, Nat.zero_le _, rfl, by rw [atN_zero]; exact HIt.out.1, Own.nil _ _ _, HIt.out.2.1⟩
  case round =>
    obtain ⟨k, ab, cb, hk, rfl, hit, hown, hbel⟩ := hrel
    have HI := Lib.hid hit
    have HO := Lib.hid hown; clear hown
    have HBl := Lib.hid hbel; clear hbel
    have hgilt := (Array.getElem?_eq_some_iff.1 hit).1
    clear hit
    have HBs : Hid (gi + 1 ≤ wr.heap.size) := Lib.hid hgilt
    have hkm : k ≤ m := by rw [HM.out]; exact hk
    clear hk
    by_cases hkn : k < m
    · have hkb : k < (begL s).length := by rw [← HM.out]; exact hkn
      have hp := atN_lt s k hkb
      have HAn := Lib.hid (atN_succ s k hkb)
      have hwd := decode_pos s (atN s k) hp
      have HT := Lib.hid (begI_succ s k)
      generalize atN s k = pos at *
      have hnx : ∀ ty, (Instr.next (.pointer (some ⟨gi, 0, none⟩)) true ty).run Try.prog wr = _ := fun ty => run_next_at wr gi s pos ty HI.out hp
      have HO5 := Lib.hid (HO.out.grown (grownBy_putObj' wr gi (.stringIter s (pos + (Utf8.decode s pos).2))) (HO.out.blockAt (by omega)))
      have HBs5 : Hid (gi + 1 ≤ (wr.putObj gi (.stringIter s (pos + (Utf8.decode s pos).2))).heap.size) := Lib.hid (by simp; omega)
      have HPo := Lib.hid (show Below w.heap.size w (wr.putObj gi (.stringIter s (pos + (Utf8.decode s pos).2))) from HBl.out.grown (grownBy_putObj' wr gi _) HBl.out.size (fun k e => by cases e; rw [HGi.out]; exact Nat.le_refl _))
      go_wp2_with (at_builtin; refine wpList_app1x Try.elemInt rfl (.tmp 17) (.tmp 19) rfl HO5.out HBs5.out (by omega) (by omega) (.int .i64 (pos : Nat)) rfl _ rfl (by rw [World.putObj_size]; rfl) ?_)
      intro a9 c9 w9 ho9 hg9 _
      have HAp := Lib.hid (HO5.out.app hg9 HBs5.out)
      have HI9 := Lib.hid (show w9.heap[gi]? = some (.stringIter s (pos + (Utf8.decode s pos).2)) by rw [HAp.out.block gi (Nat.lt_succ_self _)]; exact World.putObj_heap_same hgilt)
      have HO9 := Lib.hid (show Own (gi + 1) 3 w9 a9 (k + 1) c9 (ivs .i64 (begI s (k + 1))) by rw [HT.out, ivs_append]; exact ho9)
      have HB9 := Lib.hid (HPo.out.trans (HAp.out.mono (by rw [HGi.out]; omega)))
      have HM1 := Lib.hid (show posOf w9 gi = pos + (Utf8.decode s pos).2 by unfold posOf; rw [HI9.out])
      have HM0 := Lib.hid (show posOf wr gi = pos by unfold posOf; rw [HI.out])
      clear ho9 hg9
      go_wp2
      go_roundw
      case rel => exact ⟨k + 1, _, _, hkb, rfl, by rw [HAn.out]; exact HI9.out, HO9.out, HB9.out⟩
      case measure => rw [HM1.out, HM0.out]; omega
    · obtain rfl : k = m := by omega
      have hp : ¬ atN s k < s.size := by rw [HM.out, atN_last]; omega
      have hnx : ∀ ty, (Instr.next (.pointer (some ⟨gi, 0, none⟩)) true ty).run Try.prog wr = _ := fun ty => run_next_over wr gi s _ ty HI.out hp
      have HT := Lib.hid (show begI s (k + 1) = begI s k ++ [((s.size : Nat) : Int)] by rw [begI_succ, HM.out, atN_last])
      obtain ⟨bn, hbn⟩ : ∃ bn, bn = wr.heap.size := ⟨_, rfl⟩
      have HW7 : Hid (Below wr.heap.size wr (wr.alloc (.cells #[.int .i64 (k : Nat)] 3)) ∧ (wr.alloc (.cells #[.int .i64 (k : Nat)] 3)).heap[bn]? = some (.cells #[.int .i64 (k : Nat)] 3 (0, 0)) ∧ (wr.alloc (.cells #[.int .i64 (k : Nat)] 3)).heap.size = bn + 1) := Lib.hid (by
        rw [hbn]
        exact ⟨(Below.refl _ _).alloc (Nat.le_refl _) _, heap_alloc_new wr _, by simp⟩)
      go_upto_region 7 with (fail)
      rw [← hbn]
      have HBN := Lib.hid hbn; clear hbn
      generalize (wr.alloc (.cells #[.int .i64 (k : Nat)] 3)) = w7 at *
      clear hnx hp
      have HO7 := Lib.hid (HO.out.below HW7.out.1 (Nat.le_refl _))
      have hg7 : gi + 1 ≤ w7.heap.size := by have := HW7.out.1.size; omega
      have HB7 := Lib.hid (HBl.out.trans (HW7.out.1.mono HBl.out.size))
      go_wp2_with (at_builtin; refine wpList_app1x Try.elemInt rfl (.tmp 23) (.tmp 26) rfl HO7.out hg7 (by omega) (by omega) (.int .i64 (s.size : Nat)) rfl _ rfl rfl ?_)
      intro a9 c9 w9 ho9 hg9 _
      have HAp := Lib.hid (HO7.out.app hg9 hg7)
      have hn9 : w9.heap[bn]? = some (.cells #[.int .i64 (k : Nat)] 3 (0, 0)) := (hg9.block bn (by rw [HW7.out.2.2]; omega) (fun e => by
        have h1 := HO.out.lt bn e.symm
        have h2 := HBN.out
        omega)).trans HW7.out.2.1
      have HO9 := Lib.hid (show Own (gi + 1) 3 w9 a9 (k + 1) c9 (ivs .i64 (begI s (k + 1))) by rw [HT.out, ivs_append]; exact ho9)
      have HB9 := Lib.hid (HB7.out.trans (HAp.out.mono (by rw [HGi.out]; omega)))
      have q9 := cell_of_row w9 bn 0 _ _ (0, 0) hn9
      simp at q9
      have HC9 := Lib.hid (HC.out.below HB9.out (Nat.le_refl _))
      clear ho9 hg9 hn9
      go_wp2_with fail
      refine (Contains_text_walk k bn a n c ps w9 HN.out (by omega) (by omega) HC9.out q9).mono ?_
      rintro e w10 ⟨rfl, hb⟩
      have HB10 := Lib.hid (below_sq HB9.out hb)
      have HO10 := Lib.hid (HO9.out.below hb (Nat.le_refl _)); clear hb q9
      by_cases h1 : Any_text k ps = true
      · have HE := Lib.hid (show txtE s ps = 260 by unfold txtE; rw [← HM.out, if_pos h1])
        have HX := Lib.hid (show txtS s ps = ByteArray.empty by unfold txtS; rw [← HM.out, if_pos h1])
        rw [h1]
        clear h1
        go_wp2
        go_ret2
        exact ⟨by rw [HE.out, HX.out]; rfl, HB10.out⟩
      · have HE := Lib.hid (show txtE s ps = 0 by unfold txtE; rw [← HM.out, if_neg h1])
        have HX := Lib.hid (show txtS s ps = textL s (joinL ps) by
          unfold txtS
          rw [← HM.out, if_neg h1, text_join s ps k HM.out h1])
        have HIn := Lib.hid (any_text_in h1)
        have h1f : Any_text k ps = false := by simpa using h1
        rw [h1f]
        clear h1 h1f
        obtain ⟨bB, hbB⟩ : ∃ bB, bB = w10.heap.size := ⟨_, rfl⟩
        have HW11 : Hid (Below w10.heap.size w10 (w10.alloc (.cells #[.pointer none, .slice none 0 0] 60)) ∧ (w10.alloc (.cells #[.pointer none, .slice none 0 0] 60)).heap[bB]? = some (.cells #[.pointer none, .slice none 0 0] 60 (0, 0)) ∧ (w10.alloc (.cells #[.pointer none, .slice none 0 0] 60)).heap.size = bB + 1) := Lib.hid (by
          rw [hbB]
          exact ⟨(Below.refl _ _).alloc (Nat.le_refl _) _, heap_alloc_new w10 _, by simp⟩)
        go_upto_region 11 with (fail)
        rw [← hbB]
        generalize (w10.alloc (.cells #[.pointer none, .slice none 0 0] 60)) = w11 at *
        have HBB := Lib.hid hbB; clear hbB
        have HB11 := Lib.hid (below_sq HB10.out HW11.out.1)
        go_wp2_with fail
        refine (Join_walk a n c ps w11 HN.out (by omega) (HC.out.below HB11.out (Nat.le_refl _)) HZ.out).mono ?_
        rintro e w5 ⟨aJ, nJ, cJ, rfl, hoJ, hb⟩
        have HJ := Lib.hid hoJ
        have hnJ : nJ ≤ 65536 := by have := hoJ.len; have := joinL_length ps; have := HN.out; omega
        have HJl := Lib.hid hoJ.len
        have HWi := Lib.hid (fun q hq => join_within HIn.out (q := q) hq)
        have hb5 : w5.heap[bB]? = some (.cells #[.pointer none, .slice none 0 0] 60 (0, 0)) := (hb.block bB (by rw [HW11.out.2.2]; omega)).trans HW11.out.2.1
        have HSt : Hid (TxSt s (joinL ps) w5 bB 0 w5) := Lib.hid ⟨Lib.IsBuilderF.of (.inl ⟨Nat.le_refl _, .slice none 0 0, hb5, by
          rw [show textL s ((joinL ps).take 0) = ByteArray.empty from rfl]
          exact World.ownsRow_nil _ _ _ _, by simp [Value.ownBlock]⟩), Below.refl _ _, Lib.OthersKept.refl _ _ _⟩
        have HO5 := Lib.hid ((HO10.out.below HW11.out.1 (Nat.le_refl _)).below hb (Nat.le_refl _))
        have HB5 := Lib.hid (below_sq HB11.out hb)
        have hbB5 := (Array.getElem?_eq_some_iff.1 hb5).1
        have HBB5 := Lib.hid (show Below bB w10 w5 from by rw [HBB.out]; exact below_sq HW11.out.1 hb)
        have HgB := Lib.hid (show bB < w11.heap.size by rw [HW11.out.2.2]; omega)
        clear hoJ hb hb5
        go_wp2
        go_loopw [34] (TxR s (joinL ps) w5 bB) (fun v _ => nJ - (intOf v).toNat)
        case atStart => exact ⟨0, Nat.zero_le _, rfl, HSt.out⟩
        case round =>
          obtain ⟨j, hj, rfl, hst⟩ := hrel
          have HST := Lib.hid hst; clear hst
          have hjn : j ≤ nJ := by rw [← HJl.out]; exact hj
          clear hj
          by_cases hlt2 : j < nJ
          · have hjl : j < (joinL ps).length := by rw [HJl.out]; exact hlt2
            have HJw := Lib.hid (HJ.out.others HST.out.oth HgB.out)
            obtain ⟨gJ, ha, hgJ1, hgJ2, -, -⟩ := HJw.out.at (by omega)
            subst ha
            obtain ⟨c0, c1'⟩ := HJw.out.pieces.get j hjl
            obtain ⟨hp1, hp2⟩ := HWi.out _ (List.getElem_mem hjl)
            have hp3 := (joinL_ok ps).1.pos _ (List.getElem_mem hjl)
            have HTk := Lib.hid (show textL s ((joinL ps).take (j + 1)) = textL s ((joinL ps).take j) ++ subS s (joinL ps)[j].f.toNat (joinL ps)[j].t.toNat by rw [List.take_succ_eq_append_getElem hjl, textL_push])
            have HSz := Lib.hid (textL_size s ((joinL ps).take j))
            have hjl2 : ((joinL ps).take j).length ≤ 65536 := by rw [List.length_take]; omega
            generalize (joinL ps)[j] = p at *
            obtain ⟨pf, pt⟩ := p
            obtain ⟨f, rfl⟩ : ∃ f : Nat, pf = (f : Int) := ⟨pf.toNat, by simp at hp1; omega⟩
            obtain ⟨t, rfl⟩ : ∃ t : Nat, pt = (t : Int) := ⟨pt.toNat, by simp at hp3; omega⟩
            simp only at hp1 hp2 hp3 c0 c1' HTk
            simp only [Nat.zero_add] at c0 c1'
            have hft : f < t := by omega
            have htk : t ≤ k := by omega
            have HBw := Lib.hid (HBB5.out.trans HST.out.bel)
            have HOw := Lib.hid (HO10.out.below HBw.out (by rw [← HBB.out]; exact Nat.le_refl _))
            obtain ⟨gB, haB, hgB1, hgB2⟩ := HOw.out.at (by omega)
            subst haB
            have b0 := HOw.out.ints.get f (by rw [begI_length]; omega)
            have b1 := HOw.out.ints.get t (by rw [begI_length]; omega)
            rw [begI_get] at b0 b1
            simp only [Nat.zero_add] at b0 b1
            have hat1 := atN_mono s f t (by omega) (by rw [← HM.out]; exact htk)
            have hat2 := atN_le s t (by rw [← HM.out]; exact htk)
            have HSub := Lib.hid (show subS s f t = s.extract (atN s f) (atN s t) from rfl)
            have hsub : (subS s f t).size ≤ 1048576 := by rw [subS_size s f t (by rw [← HM.out]; exact htk)]; omega
            have hji : (j : Int) < (nJ : Int) := by omega
            have HWA : Hid (Below wr.heap.size wr (wr.alloc (.cells #[.int .i64 (f : Nat), .int .i64 (t : Nat)] 45)) ∧ (wr.alloc (.cells #[.int .i64 (f : Nat), .int .i64 (t : Nat)] 45)).heap[wr.heap.size]? = some (.cells #[.int .i64 (f : Nat), .int .i64 (t : Nat)] 45 (0, 0)) ∧
                Lib.IsBuilderF 60 5 bB bB (Lib.strCells (textL s ((joinL ps).take j))) (wr.alloc (.cells #[.int .i64 (f : Nat), .int .i64 (t : Nat)] 45)) ∧ Below bB w5 (wr.alloc (.cells #[.int .i64 (f : Nat), .int .i64 (t : Nat)] 45)) ∧
                Lib.OthersKept 5 (some bB) w5 (wr.alloc (.cells #[.int .i64 (f : Nat), .int .i64 (t : Nat)] 45))) := Lib.hid
              ⟨(Below.refl _ _).alloc (Nat.le_refl _) _, heap_alloc_new wr _, HST.out.bld.alloc _, HST.out.bel.alloc (by have := HST.out.bel.size; omega) _, HST.out.oth.alloc _⟩
            have HLn := Lib.hid (show (Lib.strCells (textL s ((joinL ps).take j))).length + (subS s f t).size ≤ 140737488355328 by
              rw [Lib.strCells_length]
              have h1 := HSz.out
              have h2 : ((joinL ps).take j).length * s.size ≤ 65536 * 1048576 := Nat.mul_le_mul hjl2 hs
              omega)
            have hwr := HBw.out.size
            have hblB : gB < wr.heap.size := hgB2.1
            obtain ⟨gP, hgP⟩ : ∃ gP, gP = wr.heap.size := ⟨_, rfl⟩
            go_upto_region 14 with (fail)
            rw [← hgP] at HWA ⊢
            generalize (wr.alloc (.cells #[.int .i64 (f : Nat), .int .i64 (t : Nat)] 45)) = w8 at *
            have HGP := Lib.hid hgP; clear hgP
            replace b0 : w8.cell? ⟨gB, f, none⟩ = _ := (HWA.out.1.cell (p := ⟨gB, f, none⟩) (by rw [HGP.out]; exact hblB)).trans b0
            replace b1 : w8.cell? ⟨gB, t, none⟩ = _ := (HWA.out.1.cell (p := ⟨gB, t, none⟩) (by rw [HGP.out]; exact hblB)).trans b1
            have r0 := cell_of_row w8 gP 0 _ _ (0, 0) HWA.out.2.1
            have r1 := cell_of_row w8 gP 1 _ _ (0, 0) HWA.out.2.1
            simp at r0 r1
            have HBw8 : Hid (bB ≤ w8.heap.size) := Lib.hid (by have h1 := HWA.out.1.size; have h2 := HGP.out; have := (Array.getElem?_eq_some_iff.1 HWA.out.2.1).1; have h3 := HBB.out; omega)
            clear c0 c1' hwr hblB
            have f1i : (f : Int) < (k : Int) + 1 := by omega
            have t1i : (t : Int) < (k : Int) + 1 := by omega
            generalize atN s f = A0 at *
            generalize atN s t = A1 at *
            have a1i : (A0 : Int) ≤ (A1 : Int) := by omega
            have a2i : (A1 : Int) ≤ (s.size : Int) := by omega
            have HTx := Lib.hid (show Lib.strCells (textL s ((joinL ps).take (j + 1))) = Lib.strCells (textL s ((joinL ps).take j)) ++ Lib.strCells (s.extract A0 A1) by
              rw [HTk.out, Int.toNat_natCast, Int.toNat_natCast, HSub.out]
              simp [Lib.strCells])
            have HLn2 := Lib.hid (show (Lib.strCells (textL s ((joinL ps).take j))).length + (s.extract A0 A1).size ≤ 140737488355328 by rw [← HSub.out]; exact HLn.out)
            have HWr := Lib.hid (fun (w9 : World) (h : Lib.IsBuilderF 60 5 bB bB (Lib.strCells (textL s ((joinL ps).take j))) w9) (hB : bB ≤ w9.heap.size) => Any.Builder_WriteString_k (P := Try.prog) (ρ := builder_ren) builder166 builderX bB bB _ (s.extract A0 A1) w9 h HLn2.out hB)
            refine wp_region_still_tail 12 (by kernel_rfl) (by kernel_rfl) ?_
            simp only [List.take_succ_cons, List.take_zero, List.drop_succ_cons, List.drop_zero]
            change wpStill _ _ (World.drew _) (fun a' => wpList _ _ _ _ a' (World.drew _)) _ _
            repeat still_step
            refine wpStill_nil ?_
            go_wp2_with fail
            have hcall := HWr.out w8.drew HWA.out.2.2.1 HBw8.out
            change Calls Try.prog 34 _ _ _ at hcall
            refine hcall.mono ?_
            rintro e w9 ⟨rfl, hbld, hb9, hoth⟩
            have HN9 : Hid (TxSt s (joinL ps) w5 bB (j + 1) w9) := Lib.hid ⟨.inr (by rw [HTx.out]; exact hbld), HWA.out.2.2.2.1.trans ((below_drewN (Below.refl bB w8) 1).trans hb9), HWA.out.2.2.2.2.trans hoth⟩
            clear hbld hb9 hoth hcall
            go_wp2
            go_roundw
            case rel => exact ⟨j + 1, hjl, by go_num, HN9.out⟩
            case measure => simp [intOf]; omega
          · obtain rfl : j = nJ := by omega
            have hji : ¬ (j : Int) < (j : Int) := by omega
            have HAll := Lib.hid (show (joinL ps).take j = joinL ps from List.take_of_length_le (by rw [HJl.out]; exact Nat.le_refl _))
            have HBl9 := Lib.hid (show Lib.IsBuilderF 60 5 bB bB (Lib.byteCells (txtS s ps).data.toList) wr by
              have := HST.out.bld
              rw [HAll.out] at this
              rw [HX.out]
              exact this)
            have HSi := Lib.hid (show bB ≤ wr.heap.size by have := HST.out.bel.size; omega)
            go_wp2_with fail
            have hcall := Any.Builder_String_any_k (P := Try.prog) (ρ := builder_ren) builder169 builderX bB bB _ wr HBl9.out HSi.out
            change Calls Try.prog 35 _ _ _ at hcall
            refine hcall.mono ?_
            rintro e w9 ⟨rfl, -, hb9, -⟩
            have HEnd := Lib.hid (HB5.out.trans ((HST.out.bel.trans hb9).mono (by rw [HBB.out]; exact HB10.out.size)))
            clear hb9 hcall
            go_wp2
            go_ret2
            exact ⟨by rw [HE.out]; rfl, HEnd.out⟩
end Go.Proofs.Ytkcdcgijbaepmaa
