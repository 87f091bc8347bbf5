/-
  The walk of ParasEach.
-/
import Derived.Test.YtmcjlkpogcnniaaU7
import Derived.Test.YtmcjlkpogcnniaaS10
import Derived.Deep.CutBlock
set_option linter.unusedVariables false
namespace Go.Proofs.Ytmcjlkpogcnniaa
open Go.RowKit Go.Shelf
attribute [local go_sem] Oper.semAt_some

theorem rounds_go {P : Program} {c : Code} {Q : Exit → Act → World → Prop} {n : Nat} {a : Act} {w : World} (h : c.wp P (Exit.then (Code.rounds P c Q n) Q) a w) : Code.rounds P c Q (n + 1) a w := h

/-- how many rounds a loop makes that is left behind few of them -/
def Few (few : Int) (m ν : Nat) : Prop := (few < 1 ∧ ν = m) ∨ (1 ≤ few ∧ (ν : Int) = min few (m : Int))
theorem Few.all {few : Int} {m k : Nat} (h : few < 1 ∨ (m : Int) < few) (hk : k = m) : Few few m k := by
  unfold Few
  omega
theorem Few.some {few : Int} {m k : Nat} (h1 : 1 ≤ few) (h2 : (k : Int) = few) (h3 : k ≤ m) : Few few m k := by
  unfold Few
  omega

/-- the blocks that the call lays first: the props, the number, the result -/
structure EB (w : World) (rest : Int) (a : Option Addr) (n cap : Nat) (few : Int) (wr : World) : Prop where
  pb : PB w rest a n cap wr
  few_ : wr.heap[w.heap.size + 1]? = some (.cells #[.int .i64 few] 3 (0, 0))
  res : wr.heap[w.heap.size + 2]? = some (.cells #[.bool false] 4 (0, 0))
theorem EB.next {w wr w' : World} {rest : Int} {a : Option Addr} {n cap : Nat} {few : Int} (h : EB w rest a n cap few wr) (hb : Below wr.heap.size wr w') : EB w rest a n cap few w' :=
  ⟨h.pb.next hb, (hb.block _ (Array.getElem?_eq_some_iff.1 h.few_).1).trans h.few_, (hb.block _ (Array.getElem?_eq_some_iff.1 h.res).1).trans h.res⟩
theorem EB.cfew {w wr : World} {rest : Int} {a : Option Addr} {n cap : Nat} {few : Int} (h : EB w rest a n cap few wr) : wr.cell? ⟨w.heap.size + 1, 0, none⟩ = some (.int .i64 few) := by
  have := cell_of_row wr (w.heap.size + 1) 0 _ _ (0, 0) h.few_
  simpa using this
theorem EB.fewlt {w wr : World} {rest : Int} {a : Option Addr} {n cap : Nat} {few : Int} (h : EB w rest a n cap few wr) : w.heap.size + 1 < wr.heap.size := (Array.getElem?_eq_some_iff.1 h.few_).1
theorem EB.start (w : World) (rest : Int) (a : Option Addr) (n cap : Nat) (few : Int) : EB w rest a n cap few (((w.alloc (.cells #[.int .u8 rest, .slice a n cap] 25)).alloc (.cells #[.int .i64 few] 3)).alloc (.cells #[.bool false] 4)) := by
  refine ⟨(PB.start w rest a n cap).next (((Below.refl _ _).alloc (Nat.le_refl _) _).alloc (by simp) _), ?_, ?_⟩
  · rw [Below.heap_alloc _ _ _ (by simp)]
    have := heap_alloc_new (w.alloc (.cells #[.int .u8 rest, .slice a n cap] 25)) (.cells #[.int .i64 few] 3)
    simpa using this
  · have := heap_alloc_new ((w.alloc (.cells #[.int .u8 rest, .slice a n cap] 25)).alloc (.cells #[.int .i64 few] 3)) (.cells #[.bool false] 4)
    simpa using this
/-- what stays through the rounds -/
structure EachF (w : World) (rest : Int) (a : Option Addr) (n cap : Nat) (few : Int) (s : ByteArray) (P : List (Nat × Nat)) (aw ab : Option Addr) (B1 : Nat) (wr : World) : Prop where
  eb : EB w rest a n cap few wr
  want : Pairs wr aw P
  begs : Ints .i64 wr ab (natsI (atsL s))
  k1 : wr.cell? ⟨B1, 0, none⟩ = some (.iface 25 (.agg #[.int .u8 rest, .slice a n cap]))
  k2 : wr.cell? ⟨B1 + 1, 0, none⟩ = some (.string s)
theorem EachF.next {w wr w' : World} {rest : Int} {a : Option Addr} {n cap : Nat} {few : Int} {s : ByteArray} {P : List (Nat × Nat)} {aw ab : Option Addr} {B1 : Nat} (h : EachF w rest a n cap few s P aw ab B1 wr) (hb : Below wr.heap.size wr w') : EachF w rest a n cap few s P aw ab B1 w' :=
  ⟨h.eb.next hb, h.want.below hb (Nat.le_refl _), h.begs.below hb (Nat.le_refl _), by rw [hb.cell (p := ⟨B1, 0, none⟩) (World.block_lt_of_cell? wr _ h.k1)]; exact h.k1, by rw [hb.cell (p := ⟨B1 + 1, 0, none⟩) (World.block_lt_of_cell? wr _ h.k2)]; exact h.k2⟩
theorem CntI.abide {W0 : World} {n1 b : Nat} {few : Int} (hx : b < n1) (h1 : n1 ≤ W0.heap.size) : Abide (CntI W0 n1 b few) := fun T T' s W W' h ho hw => ⟨CntSt.abide hx h1 T T' s W W' h.1 ho hw, h.2⟩
theorem CntX.abide {W0 : World} {n1 b : Nat} {few : Int} (hx : b < n1) (h1 : n1 ≤ W0.heap.size) : ∀ c, Abide (CntX W0 n1 b few c) := fun c T T' s W W' h ho hw => ⟨CntSt.abide hx h1 T T' s W W' h.1 ho hw, h.2⟩

def NilI (W0 : World) (T : Nat → Prop) (_ : List (Nat × Nat)) (W : World) : Prop := But W0.heap.size (fun _ => False) W0 W ∧ ∀ k, T k → W0.heap.size ≤ k
theorem NilI.abide (W0 : World) : Abide (NilI W0) := by
  rintro T T' pre W W' ⟨h1, h2⟩ ho hwd
  refine ⟨h1.off ho h2 h1.size, fun k hk => ?_⟩
  rcases hwd k hk with h3 | h3
  · exact h2 k h3
  · have := h1.size; omega
theorem cell_mark {w : World} {b o : Nat} {v : Value} (h : w.cell? ⟨b, o, none⟩ = some v) (D : Nat) (ob : Obj) (hne : b ≠ D) : (w.putObj D ob).cell? ⟨b, o, none⟩ = some v := by
  rw [World.cell?_of_block (w := w) (a := ⟨b, o, none⟩) (World.putObj_heap_other hne)]; exact h
theorem below_mark {B : Nat} {w W : World} (h : Below B w W) (D : Nat) (ob : Obj) (hD : B ≤ D) : Below B w (W.putObj D ob) :=
  h.trans ⟨rfl, rfl, rfl, by simp, fun k hk => World.putObj_heap_other (by omega)⟩

set_option maxRecDepth 100000 in
set_option maxHeartbeats 16000000 in
theorem each_walk (rest : Int) (a : Option Addr) (n cap : Nat) (cs : List CharD) (s : ByteArray) (few : Int) (w : World) (hn : cs.length = n) (hm : n ≤ 1048576) (hc : Chars w a cs) (hs : s.size ≤ 1048576) (hf : -9223372036854775808 ≤ few ∧ few ≤ 9223372036854775807) :
    Calls Try.prog 12 #[.agg #[.int .u8 rest, .slice a n cap], .string s, .int .i64 few] w fun e w' => e = .returned (.bool true) ∧ Below w.heap.size w w' := by
  have HN := Lib.hid hn; clear hn
  have HC := Lib.hid hc; clear hc
  have hRl : (runesL s).length ≤ 1048576 := Nat.le_trans (runesL_le s) hs
  have hBl : (begL s).length ≤ 1048576 := by rw [begL_length]; exact hRl
  obtain ⟨P, hP⟩ : ∃ P, P = partsL rest cs s := ⟨_, rfl⟩
  obtain ⟨m, hM⟩ : ∃ m, m = P.length := ⟨_, rfl⟩
  have hPl : m ≤ 1048577 := by
    have := splitP_le (runesL s) ((runesL s).map (clsOf rest cs))
    rw [splitP, if_pos (.inr (by simp)), List.length_map] at this
    rw [hM, hP]
    unfold partsL
    omega
  have HF := Lib.hid (cut_facts (runesL s) ((runesL s).map (clsOf rest cs)))
  rw [show splitL (runesL s) ((runesL s).map (clsOf rest cs)) = P from hP.symm] at HF
  have HP := Lib.hid hP; clear hP
  have HM := Lib.hid hM.symm; clear hM
  have HE0 := Lib.hid (EB.start w rest a n cap few)
  refine calls_of_wpM Try.func12 rfl ?_
  simp only [Try.ntmps12, List.size_toArray, List.length_cons, List.length_nil, Nat.reduceAdd, Nat.reduceSub, Array.replicate_succ, Array.replicate_zero, List.push_toArray, List.append_toArray, List.nil_append, List.cons_append]
  go_upto_region 1 with (fail)
  generalize (((w.alloc (.cells #[.int .u8 rest, .slice a n cap] 25)).alloc (.cells #[.int .i64 few] 3)).alloc (.cells #[.bool false] 4)) = w0 at *
  go_wp2_with fail
  refine (awake_walk _).mono ?_
  rintro e w1 ⟨rfl, hb⟩
  have HE1 := Lib.hid (HE0.out.next hb); clear hb
  have p0 := HE1.out.pb.c0
  have p1 := HE1.out.pb.c1
  go_wp2_with fail
  refine (PMay_walk rest a n cap cs w1 HN.out (by omega) (HC.out.below HE1.out.pb.below (Nat.le_refl _))).mono ?_
  rintro e w2 ⟨b, rfl, hb⟩
  have HE2 := Lib.hid (HE1.out.next hb); clear hb p0 p1
  cases b with
  | false =>
    go_wp2_with fail
    refine (awake_walk _).mono ?_
    rintro e w3 ⟨rfl, hb⟩
    have HE3 := Lib.hid (HE2.out.next hb); clear hb
    have q6 := cell_of_row w3 (w.heap.size + 2) 0 _ _ (0, 0) HE3.out.res
    have f6 := frozen_of_row w3 (w.heap.size + 2) 0 _ _ HE3.out.res
    have q6' := World.cell?_setCell_same' w3 ⟨w.heap.size + 2, 0, none⟩ (.bool true) (by rw [q6]; rfl)
    simp at q6
    go_wp2
    refine leaves_nil (v := .bool true) (by simp [results, Try.results12, go_sem, q6']) ?_
    exact ⟨rfl, HE3.out.pb.below.setCell (p := ⟨w.heap.size + 2, 0, none⟩) (by simp) _⟩
  | true =>
    obtain ⟨ar, cr, w3, hor, hbr, hr⟩ := runes_at s w2 (by omega)
    have HE3 := Lib.hid (HE2.out.next hbr); clear hbr
    have HOr := Lib.hid hor.ints; clear hor
    have p0 := HE3.out.pb.c0
    have p1 := HE3.out.pb.c1
    go_wp2_with fail
    refine (rClasses_walk rest a n cap cs ar (runesL s).length cr (runesL s) w3 HN.out (by omega) (HC.out.below HE3.out.pb.below (Nat.le_refl _)) rfl (by omega) HOr.out).mono ?_
    rintro e w4 ⟨a4, m4, c4, rfl, ho, hb⟩
    have hm4 := ho.lenI
    rw [List.length_map] at hm4
    subst hm4
    have HE4 := Lib.hid (HE3.out.next hb)
    have HO4 := Lib.hid ho.ints
    have HOr4 := Lib.hid (HOr.out.below hb (Nat.le_refl _)); clear ho hb hr p0 p1
    go_wp2_with fail
    refine (rSplit_walk ar (runesL s).length cr a4 (runesL s).length c4 (runesL s) ((runesL s).map (clsOf rest cs)) w4 rfl (by simp) (by omega) HOr4.out HO4.out (.inr rfl)).mono ?_
    rintro e w5 ⟨aw, mw, cw, rfl, ho, hb⟩
    rw [show splitL (runesL s) ((runesL s).map (clsOf rest cs)) = P from HP.out.symm] at ho
    have hmw := ho.len
    rw [HM.out] at hmw
    subst hmw
    have HE5 := Lib.hid (HE4.out.next hb); clear hb
    have HW5 := Lib.hid ho.pairs; clear ho
    obtain ⟨gi, hgi⟩ : ∃ gi, gi = w5.heap.size := ⟨_, rfl⟩
    have HIt : Hid ((w5.iter s 0).heap[gi]? = some (.stringIter s 0) ∧ Below w5.heap.size w5 (w5.iter s 0) ∧ (w5.iter s 0).heap.size = gi + 1) := Lib.hid (by
      rw [hgi]; exact ⟨World.iter_heap w5 s 0, (Below.refl _ _).alloc (Nat.le_refl _) _, by simp [World.iter]⟩)
    go_wp2
    rw [← hgi]
    generalize w5.iter s 0 = w6 at *
    have HGi := Lib.hid hgi; clear hgi
    have HE6 := Lib.hid (HE5.out.next HIt.out.2.1)
    have HW6 := Lib.hid (HW5.out.below HIt.out.2.1 (Nat.le_refl _))
    have hgi6 : w6.heap.size = gi + 1 := HIt.out.2.2
    go_loopw [10] (fun v wr => BegR w5 s gi v wr) (fun _ wr => s.size - posOf wr gi)
    case atStart => exact ⟨0, 0, none, 0, Nat.zero_le _, rfl, HIt.out.1, RangeAt.start s, Own.nil _ _ _, HIt.out.2.1⟩
    case round =>
      obtain ⟨k, pos, ab, cb, hk, rfl, hit, hat, hown, hbel⟩ := hrel
      have HI := Lib.hid hit
      have HAt := Lib.hid hat; clear hat
      have HO := Lib.hid hown; clear hown
      have HBl := Lib.hid hbel; clear hbel
      have hgilt := (Array.getElem?_eq_some_iff.1 hit).1
      clear hit
      by_cases hp : pos < s.size
      · obtain ⟨hkl, hke, hat2⟩ := HAt.out.next hp
        have HAt2 := Lib.hid hat2; clear hat2
        have HKe := Lib.hid hke; clear hke
        have hnx : ∀ ty, (Instr.next (.pointer (some ⟨gi, 0, none⟩)) true ty).run Try.prog wr = _ := fun ty => run_next_at wr gi s pos ty HI.out hp
        have HO5 := Lib.hid (HO.out.grown (grownBy_putObj' wr gi (.stringIter s (pos + (Utf8.decode s pos).2))) (HO.out.blockAt (by omega)))
        have HBs : Hid (gi + 1 ≤ (wr.putObj gi (.stringIter s (pos + (Utf8.decode s pos).2))).heap.size) := Lib.hid (by simp; omega)
        have HT := Lib.hid (show natsI ((begL s).take (k + 1)) = natsI ((begL s).take k) ++ [(pos : Int)] by
          rw [List.take_succ_eq_append_getElem hkl, HKe.out, natsI_push])
        have HPo := Lib.hid (show Below w5.heap.size w5 (wr.putObj gi (.stringIter s (pos + (Utf8.decode s pos).2))) from HBl.out.grown (grownBy_putObj' wr gi _) HBl.out.size (fun k e => by cases e; rw [HGi.out]; exact Nat.le_refl _))
        go_wp2_with (at_builtin; refine wpList_app1x Try.elemInt rfl (.tmp 41) (.tmp 43) rfl HO5.out HBs.out (by omega) (by omega) (.int .i64 (pos : Nat)) rfl _ rfl (by rw [World.putObj_size]; rfl) ?_)
        intro a9 c9 w9 ho9 hg9 _
        have HAp := Lib.hid (HO5.out.app hg9 HBs.out)
        have HI9 := Lib.hid (show w9.heap[gi]? = some (.stringIter s (pos + (Utf8.decode s pos).2)) by rw [HAp.out.block gi (Nat.lt_succ_self _)]; exact World.putObj_heap_same hgilt)
        have HO9 := Lib.hid (show Own (gi + 1) 3 w9 a9 (k + 1) c9 (ivs .i64 (natsI ((begL s).take (k + 1)))) by rw [HT.out, ivs_append]; exact ho9)
        have HB9 := Lib.hid (HPo.out.trans (HAp.out.mono (by rw [HGi.out]; omega)))
        have HM1 := Lib.hid (show posOf w9 gi = pos + (Utf8.decode s pos).2 by unfold posOf; rw [HI9.out])
        have HM0 := Lib.hid (show posOf wr gi = pos by unfold posOf; rw [HI.out])
        have hwd : 1 ≤ (Utf8.decode s pos).2 := by
          by_cases ha : (s[pos]'hp).toNat < 128
          · rw [decode_ascii s pos hp ha]; exact Nat.le_refl _
          · exact (decode_high s pos hp (by omega)).2
        clear ho9 hg9
        go_wp2
        go_roundw
        case rel => exact ⟨k + 1, _, _, _, hkl, rfl, HI9.out, HAt2.out, HO9.out, HB9.out⟩
        case measure => rw [HM1.out, HM0.out]; omega
      · have HK := Lib.hid (HAt.out.end_ hp)
        have HT := Lib.hid (show natsI ((begL s).take k) ++ [(s.size : Int)] = natsI (atsL s) by
          rw [List.take_of_length_le HK.out, atsL, natsI_push])
        have HKl := Lib.hid (show (atsL s).length = k + 1 by have := HK.out; rw [atsL]; simp; omega)
        have hnx : ∀ ty, (Instr.next (.pointer (some ⟨gi, 0, none⟩)) true ty).run Try.prog wr = _ := fun ty => run_next_over wr gi s pos ty HI.out hp
        have HBs : Hid (gi + 1 ≤ wr.heap.size) := Lib.hid hgilt
        go_wp2_with (at_builtin; refine wpList_app1x Try.elemInt rfl (.tmp 45) (.tmp 48) rfl HO.out HBs.out (by omega) (by omega) (.int .i64 (s.size : Nat)) rfl _ rfl rfl ?_)
        intro ab cb w7 ho9 hg9 _
        have HB7 := Lib.hid (HBl.out.trans ((HO.out.app hg9 HBs.out).mono (by rw [HGi.out]; omega)))
        have HO7 := Lib.hid (show Own (gi + 1) 3 w7 ab (k + 1) cb (ivs .i64 (natsI (atsL s))) by
          have e : ivs .i64 (natsI ((begL s).take k)) ++ [.int .i64 (s.size : Int)] = ivs .i64 (natsI (atsL s)) := by rw [← HT.out, ivs_append]; rfl
          rw [← e]; exact ho9)
        have HE7 := Lib.hid (HE5.out.next HB7.out)
        have HW7 := Lib.hid (HW5.out.below HB7.out (Nat.le_refl _))
        clear ho9 hg9 hnx
        have p0 := HE7.out.pb.c0
        have p1 := HE7.out.pb.c1
        obtain ⟨B1, hB1⟩ : ∃ B1, B1 = w7.heap.size := ⟨_, rfl⟩
        have qF := fun (w : World) (cs : Array Value) => run_eql_func_nil (P := Try.prog) w 67 (.func 47) #[] cs _ _ _ Try.underlying67
        go_wp2_with fail
        refine (Each_walk _ rfl s w7).mono ?_
        rintro e w8 ⟨rfl, k1, k2, hs8, hb⟩
        rw [← hB1] at k1 k2 ⊢
        have HF8 : Hid (EachF w rest a n cap few s P aw ab B1 w8) := Lib.hid ⟨HE7.out.next hb, HW7.out.below hb (Nat.le_refl _), HO7.out.ints.below hb (Nat.le_refl _), k1, k2⟩
        clear k1 k2 hs8 hb p0 p1 hB1
        clear HE0 HE1 HE2 HE3 HE4 HE5 HE6 HE7 HW5 HW6 HW7 HO7 HB7 HIt HI HAt HO HBl HBs HOr HO4 HOr4
        go_wp2
        refine wp_loop_rounds (2 + 1) ?_
        refine rounds_go (n := 2) ?_
        go_upto_block 4 with (fail)
        obtain ⟨b1, hb1⟩ : ∃ b, b = w8.heap.size := ⟨_, rfl⟩
        have HA1 : Hid ((w8.alloc (.cells #[.int .i64 0] 3)).heap[b1]? = some (.cells #[.int .i64 0] 3 (0, 0)) ∧ (w8.alloc (.cells #[.int .i64 0] 3)).heap.size = b1 + 1 ∧ Below w8.heap.size w8 (w8.alloc (.cells #[.int .i64 0] 3))) := Lib.hid (by
          rw [hb1]; exact ⟨heap_alloc_new w8 _, by simp, (Below.refl _ _).alloc (Nat.le_refl _) _⟩)
        rw [← hb1]
        generalize w8.alloc (.cells #[.int .i64 0] 3) = u1 at *
        have HFu1 := Lib.hid (HF8.out.next HA1.out.2.2)
        have HBb1 := Lib.hid hb1; clear hb1
        have hub1 : u1.heap.size = b1 + 1 := HA1.out.2.1
        refine wp_cutX (fun D w' => u1.heap.size ≤ D ∧ w'.heap[D]? = some (.deferred (some [])) ∧ But u1.heap.size (fun k => k = b1) u1 w' ∧ ∃ ν : Nat, w'.heap[b1]? = some (.cells #[.int .i64 (ν : Nat)] 3 (0, 0)) ∧ Few few m ν) ?rest1 ?first1
        case first1 =>
          intro K' hK'
          have HK' := Lib.hid hK'; clear hK'
          have HEs := Lib.hid (each_stops rest a n cap cs s B1 (B1 + 1) (fun k => k < u1.heap.size ∧ k ≠ b1) u1 HN.out (by omega) (HC.out.below HFu1.out.eb.pb.below (Nat.le_refl _)) (by omega) HFu1.out.k1 HFu1.out.k2)
          rw [← HP.out] at HEs
          go_wp2
          refine wp_rangeX (gf := 47) (lb := #[.pointer (some ⟨B1, 0, none⟩), .pointer (some ⟨B1 + 1, 0, none⟩)]) rfl (enters_of Try.func47 (by kernel_rfl) rfl)
            HEs.out (Below.refl _ _) (fun k hk => hk.1) (fun _ => rfl)
            (CntI u1 u1.heap.size b1 few) (CntX u1 u1.heap.size b1 few) (CntI.abide (by omega) (Nat.le_refl _)) (CntX.abide (by omega) (Nat.le_refl _))
            ⟨⟨But.refl _ _ _, HA1.out.1, id, (fun _ h => h.elim), (fun _ h => h.elim)⟩, by show few < 1 ∨ (0 : Int) < few; omega⟩
            (fun tmps _ x a' _ => a' = { tmps := (tmps.setIfInBounds 59 (.agg #[.int .i64 (x.1 : Nat), .int .i64 (x.2 : Nat)])).setIfInBounds 60 (.string (subS s x)), defers := [] }) (fun _ _ _ _ _ h _ => h) ?asg1 ?bdy1 ?dn1 ?stp1
          case asg1 =>
            rintro l T pre ⟨x1, x2⟩ W K hi hK
            have HK := Lib.hid hK; clear hK
            simp only [encP]
            gi_wp2
            exact HK.out _ _ (Kept.refl _ _ _) hi rfl
          case bdy1 =>
            rintro l T pre ⟨x1, x2⟩ a' W hTl hl - ⟨hst, hfw⟩ rfl hlen
            have HST := Lib.hid hst; clear hst
            have q0 := cell_of_row W b1 0 _ _ (0, 0) HST.out.bx
            have f0 := frozen_of_row W b1 0 _ _ HST.out.bx
            have q5 := HST.out.but.cell HFu1.out.eb.cfew (by have := HFu1.out.eb.fewlt; exact this) (by have := HBb1.out; have := HF8.out.eb.fewlt; show ¬ (_ = b1); omega)
            simp at q0
            have hlen2 : pre.length ≤ 1048577 := by have := HM.out; omega
            have HKp := Lib.hid (show Kept T (fun k => k < u1.heap.size ∧ k ≠ b1) W (W.setCell ⟨b1, 0, none⟩ (.int .i64 ((pre.length : Int) + 1))) from ⟨by simp, fun k hk h => by
              have hne : k ≠ b1 := by
                rcases h with h | h
                · exact fun e => HST.out.tx (e ▸ h)
                · exact h.2
              rw [heap_setCell_other W ⟨b1, 0, none⟩ k _ (by simp; omega)]⟩)
            have HNx := Lib.hid (show CntSt u1 u1.heap.size b1 few T (pre ++ [(x1, x2)]) (W.setCell ⟨b1, 0, none⟩ (.int .i64 ((pre.length : Int) + 1))) from
              ⟨HST.out.but.setCell b1 0 _ (.inl rfl), by
                have := heap_setCell_same W b1 0 _ _ (.int .i64 ((pre.length : Int) + 1)) HST.out.bx
                rw [List.length_append]
                simpa using this, HST.out.tx, HST.out.tn, fun k h => by simp; exact HST.out.tl k h⟩)
            have q5' : (W.setCell ⟨b1, 0, none⟩ (.int .i64 ((pre.length : Int) + 1))).cell? ⟨w.heap.size + 1, 0, none⟩ = some (.int .i64 few) := by
              rw [World.cell?_setCell_other _ _ _ _ (by have := HBb1.out; have := HF8.out.eb.fewlt; simp <;> omega)]; exact q5
            have q0' : (W.setCell ⟨b1, 0, none⟩ (.int .i64 ((pre.length : Int) + 1))).cell? ⟨b1, 0, none⟩ = some (.int .i64 ((pre.length : Int) + 1)) := World.cell?_setCell_same' _ _ _ (by rw [q0]; rfl)
            clear hlen
            by_cases he : (pre.length : Int) + 1 = few
            · have he' : ((pre.length : Int) + 1 == few) = true := by simpa using he
              have HE := Lib.hid he; clear he
              gi_wp2
              exact ⟨⟨HKp.out.size, fun k hk h => HKp.out.block k hk (h.imp id (fun h => h.elim))⟩, HNx.out, rfl, by have := HE.out; omega, by rw [List.length_append]; have := HE.out; simp; omega⟩
            · have he' : ((pre.length : Int) + 1 == few) = false := by simpa using he
              have HE := Lib.hid he; clear he
              gi_wp2
              exact ⟨HKp.out, HNx.out, by rw [List.length_append]; have := HE.out; simp; omega⟩
          case dn1 =>
            rintro D T xs W hD hTD rfl ⟨hst, hfw⟩ hDk
            have HG := Lib.hid (HK'.out D W ⟨hD, hDk, hst.but, _, hst.bx, Few.all (by rw [HM.out] at hfw; exact hfw) HM.out⟩)
            clear hst hfw hDk
            go_wp2
            exact HG.out
          case stp1 =>
            rintro D c T pre W hD hTD ⟨k, hk, rfl⟩ ⟨hst, rfl, h1, h2⟩ hDk
            have HG := Lib.hid (HK'.out D W ⟨hD, hDk, hst.but, _, hst.bx, Few.some h1 h2 (by rw [List.length_take]; have := HM.out; omega)⟩)
            clear hst h1 h2 hDk
            go_wp2
            exact HG.out
        case rest1 =>
        rintro D1 v1 ⟨hD1, hDk1, hbut1, ν1, hbx1, hfew1⟩
        have HBv1 := Lib.hid (show Below w8.heap.size w8 v1 from HA1.out.2.2.trans (hbut1.below w8.heap.size HA1.out.2.2.size (fun k hk => by have := HBb1.out; subst hk; omega)))
        have HFv1 := Lib.hid (HF8.out.next HBv1.out)
        have HX1 := Lib.hid (show _ ∧ _ from ⟨hbx1, hDk1⟩); clear hbx1 hDk1 hbut1
        have HFe1 := Lib.hid hfew1; clear hfew1
        dsimp only
        go_upto_block 6 with (fail)
        obtain ⟨c1, hc1⟩ : ∃ b, b = v1.heap.size := ⟨_, rfl⟩
        have HAc1 : Hid ((v1.alloc (.cells #[.slice none 0 0] 69)).heap[c1]? = some (.cells #[.slice none 0 0] 69 (0, 0)) ∧ (v1.alloc (.cells #[.slice none 0 0] 69)).heap.size = c1 + 1 ∧ Below v1.heap.size v1 (v1.alloc (.cells #[.slice none 0 0] 69))) := Lib.hid (by
          rw [hc1]; exact ⟨heap_alloc_new v1 _, by simp, (Below.refl _ _).alloc (Nat.le_refl _) _⟩)
        rw [← hc1]
        generalize v1.alloc (.cells #[.slice none 0 0] 69) = y1 at *
        have HFy1 := Lib.hid (HFv1.out.next HAc1.out.2.2)
        have HCc1 := Lib.hid hc1; clear hc1
        have hyc1 : y1.heap.size = c1 + 1 := HAc1.out.2.1
        have HEt1 := Lib.hid (each_stops rest a n cap cs s B1 (B1 + 1) (fun k => k < y1.heap.size ∧ k ≠ c1) y1 HN.out (by omega) (HC.out.below HFy1.out.eb.pb.below (Nat.le_refl _)) (by omega) HFy1.out.k1 HFy1.out.k2)
        rw [← HP.out] at HEt1
        go_wp2
        refine wp_rangeX (gf := 47) (lb := #[.pointer (some ⟨B1, 0, none⟩), .pointer (some ⟨B1 + 1, 0, none⟩)]) rfl (enters_of Try.func47 (by kernel_rfl) rfl)
          HEt1.out (Below.refl _ _) (fun k hk => hk.1) (fun _ => rfl)
          (PrtI y1 y1.heap.size c1 s) (fun _ _ _ _ => False) (PrtI.abide (by omega) (Nat.le_refl _)) (fun _ _ _ _ _ _ h => h.elim)
          ⟨none, 0, But.refl _ _ _, HAc1.out.1, World.ownsRow_nil _ _ _ _, id, (fun _ h => by cases h), (fun _ h => h.elim), (fun _ h => h.elim)⟩
          (CatA s 67 68 15 16) (fun T x a' W W' h ho => h.off ho) ?asg21 ?bdy21 ?dn21 ?stp21
        case stp21 =>
          rintro D c T pre W - - - h
          exact h.elim
        case asg21 =>
          rintro l T pre ⟨x1, x2⟩ W K hi hK
          have HK := Lib.hid hK; clear hK
          simp only [encP]
          gi_wp2
          obtain ⟨ax, cx, hst⟩ := hi
          refine HK.out _ _ ?_ ?_ ?_
          · exact Kept.of_below ((Below.refl _ W).alloc (Nat.le_refl _) _)
          · exact PrtI.abide (by omega) (Nat.le_refl _) _ _ _ _ _ ⟨ax, cx, hst⟩ (Off.alloc T W _) (Wider.refl _ _ _)
          · exact ⟨W.heap.size, heap_alloc_new W _, fun h => by have := hst.tl _ h; omega, rfl⟩
        case bdy21 =>
          rintro l T pre ⟨x1, x2⟩ a' W hTl hl - ⟨ax, cx, hst⟩ ⟨Bx, hBx, hTB, rfl⟩ hlen
          have HST := Lib.hid hst; clear hst
          have hlen2 : pre.length ≤ 1048577 := by have := HM.out; omega
          clear hlen
          have q0 := cell_of_row W c1 0 _ _ (0, 0) HST.out.bx_
          have r0 := cell_of_row W Bx 0 _ _ (0, 0) hBx
          have r1 := cell_of_row W Bx 1 _ _ (0, 0) hBx
          simp at q0 r0 r1
          have hn1W : y1.heap.size ≤ W.heap.size := HST.out.but.size
          gi_wp2_with (gi_at_builtin; refine wpListIn_appN Try.elemPart rfl (.tmp 69) (.tmp 73) rfl HST.out.own hn1W (by omega) (by omega) _ rfl (by intro u hu; simp at hu; rcases hu with rfl | rfl | rfl <;> rfl) _ rfl rfl ?_)
          intro a9 c9 w9 ho9 hg9 hn9
          have b9 : ∀ b, b < y1.heap.size → w9.heap[b]? = W.heap[b]? := fun b hb => hg9.block b (by omega) (fun e => by have := (World.ownsRow.lt HST.out.own b e.symm).1; omega)
          have x9 := (b9 c1 (by omega)).trans HST.out.bx_
          have q1 := cell_of_row w9 c1 0 _ _ (0, 0) x9
          have f1 := frozen_of_row w9 c1 0 _ _ x9
          simp at q1
          have HOw := Lib.hid (show w9.ownsRow y1.heap.size 71 3 (.slice a9 (pre.length + 1) c9) (pre.length + 1) (flat3 s (pre ++ [(x1, x2)])) from by rw [flat3_push, hyc1]; exact ho9)
          have HB9 := Lib.hid (But.grown HST.out.but hg9 hn1W (fun k e => .inr (World.ownsRow.lt HST.out.own k e).1))
          have HKp := Lib.hid (show Kept T (fun k => k < y1.heap.size ∧ k ≠ c1) W w9 from Kept.of_grown hg9 (fun k e h => by
            rcases h with h | h
            · exact HST.out.ta k e h
            · have := (World.ownsRow.lt HST.out.own k e).1; omega))
          have HTa := Lib.hid (show ∀ k, (Value.slice a9 (pre.length + 1) c9).ownBlock = some k → ¬ T k from fun k hk hT => by
            rcases hn9 with h | ⟨gg, h, hgg⟩
            · rw [h] at hk; exact HST.out.ta k hk hT
            · rw [h] at hk; cases hk; have := HST.out.tl _ hT; omega)
          have HTl := Lib.hid (fun k (h : T k) => Nat.lt_of_lt_of_le (HST.out.tl k h) hg9.size)
          clear ho9 hg9 hn9 b9
          gi_wp2
          refine ⟨HKp.out.trans ⟨by simp, fun k hk h => ?_⟩, a9, c9, ?_⟩
          · have hne : k ≠ c1 := by
              rcases h with h | h
              · exact fun e => HST.out.tx (e ▸ h)
              · exact h.2
            rw [heap_setCell_other w9 ⟨c1, 0, none⟩ k _ (by simp; omega)]
          · have hl : (pre ++ [(x1, x2)]).length = pre.length + 1 := by simp
            refine ⟨HB9.out.setCell c1 0 _ (.inl rfl), ?_, ?_, HST.out.tx, by rw [hl]; exact HTa.out, HST.out.tn, fun k h => by simp; exact HTl.out k h⟩
            · rw [hl]
              have := heap_setCell_same w9 c1 0 _ _ (.slice a9 (pre.length + 1) c9) x9
              simpa using this
            · rw [hl]
              exact World.ownsRow.kept HOw.out (grown_store w9 c1 0 _) (ownsRow_apart HOw.out (by omega))
        case dn21 =>
        rintro E1 T xs z1 hE1 hTE hxs ⟨ax1, cx1, hst⟩ hEk
        have hxs' := hxs.symm; clear hxs; subst hxs'
        have HST1 := Lib.hid hst; clear hst
        have HBz1 := Lib.hid (show Below v1.heap.size v1 z1 from HAc1.out.2.2.trans (HST1.out.but.below v1.heap.size HAc1.out.2.2.size (fun k hk => by have := HCc1.out; subst hk; omega)))
        have HFz1 := Lib.hid (HFv1.out.next HBz1.out)
        have HY1 := Lib.hid (show _ ∧ _ ∧ _ from ⟨(HBz1.out.block b1 (Array.getElem?_eq_some_iff.1 HX1.out.1).1).trans HX1.out.1, (HBz1.out.block D1 (Array.getElem?_eq_some_iff.1 HX1.out.2).1).trans HX1.out.2, hEk⟩)
        clear hEk
        have q0 := cell_of_row z1 c1 0 _ _ (0, 0) HST1.out.bx_
        have q1 := cell_of_row z1 b1 0 _ _ (0, 0) HY1.out.1
        simp at q0 q1
        have q5 := HFz1.out.eb.cfew
        rw [HM.out] at q0
        have hmm : ((m : Int) != (m : Int)) = false := by simp
        have hfw := HFe1.out
        have HOz1 := Lib.hid HST1.out.own
        rw [HM.out] at HOz1
        go_upto_region 25 with (fail)
        go_cut [101] from 75 (fun v w' => v = .bool false ∧ w' = z1)
        case first =>
          rcases hfw with ⟨h1, h2⟩ | ⟨h1, h2⟩
          · subst h2
            have h1' : ¬ (1 : Int) ≤ few := by omega
            go_wp2
            go_meet
            case rel => exact ⟨rfl, rfl⟩
          · have h1' : ¬ few < 1 := by omega
            by_cases hcm : few ≤ (m : Int)
            · have hmin : ((ν1 : Int) != few) = false := by simp; omega
              clear h2
              go_wp2
              go_meet
              case rel => exact ⟨rfl, rfl⟩
            · have hmin : ((ν1 : Int) != (m : Int)) = false := by simp; omega
              clear h2
              go_wp2
              go_meet
              case rel => exact ⟨rfl, rfl⟩
        case rest =>
        obtain ⟨hcv, hcw⟩ := hcut
        have hcw' := hcw.symm; clear hcw; subst hcw'
        subst hcv
        clear hfw q5 q1
        go_wp2
        go_loopw [17] (fun v wr => ∃ i : Nat, i ≤ m ∧ v = .int .i64 i ∧ Below z1.heap.size z1 wr) (fun v _ => m - (intOf v).toNat)
        case atStart => exact ⟨0, Nat.zero_le _, rfl, Below.refl _ _⟩
        case round =>
          obtain ⟨i, hi, rfl, hbl⟩ := hrel
          generalize wr = x1 at *
          have HBx1 := Lib.hid hbl; clear hbl
          have HFx1 := Lib.hid (HFz1.out.next HBx1.out)
          have q0' : x1.cell? ⟨c1, 0, none⟩ = some (.slice ax1 m cx1) := by rw [HBx1.out.cell (p := ⟨c1, 0, none⟩) (World.block_lt_of_cell? z1 _ q0)]; exact q0
          by_cases hlt : i < m
          · have hil : i < P.length := by rw [HM.out]; exact hlt
            have him : (i : Int) < (m : Int) := by omega
            obtain ⟨f1, f2, f3, -, -⟩ := HF.out.one i hil
            rw [List.length_map] at f3
            obtain ⟨bw, ow, haw⟩ := HFx1.out.want.some (by omega)
            subst haw
            obtain ⟨t1, t2⟩ := HFx1.out.want.get i hil
            have hat := atsL_length s
            have hx1 : (P[i]).1 < (atsL s).length := by omega
            have hx2 : (P[i]).2 < (atsL s).length := by omega
            obtain ⟨bb, ob, hab⟩ := HFx1.out.begs.some (by rw [natsI_length]; omega)
            subst hab
            have g1 := HFx1.out.begs.get (P[i]).1 (by rw [natsI_length]; exact hx1)
            have g2 := HFx1.out.begs.get (P[i]).2 (by rw [natsI_length]; exact hx2)
            rw [show (natsI (atsL s))[(P[i]).1]'(by rw [natsI_length]; exact hx1) = ((atsL s).getD (P[i]).1 0 : Nat) by simp [natsI, hx1]] at g1
            rw [show (natsI (atsL s))[(P[i]).2]'(by rw [natsI_length]; exact hx2) = ((atsL s).getD (P[i]).2 0 : Nat) by simp [natsI, hx2]] at g2
            have hae : ∃ ga, ax1 = some ⟨ga, 0, none⟩ ∧ ga < z1.heap.size := by
              rcases HOz1.out.2 with ⟨e, h0⟩ | ⟨ga, cap', cur, e, hb, hg, _⟩
              · omega
              · simp only [Value.slice.injEq] at e
                exact ⟨ga, e.1, (Array.getElem?_eq_some_iff.1 hg).1⟩
            obtain ⟨ga, hae, hga⟩ := hae
            subst hae
            obtain ⟨e0, e1, e2⟩ := flat3_get s P i hil
            have v0 : x1.cell? ⟨ga, i * 3, none⟩ = some (.int .i64 ((P[i]).1 : Nat)) := by rw [HBx1.out.cell (p := ⟨ga, i * 3, none⟩) hga, World.ownsRow.cellAt HOz1.out _ (by omega)]; exact e0
            have v1 : x1.cell? ⟨ga, i * 3 + 1, none⟩ = some (.int .i64 ((P[i]).2 : Nat)) := by rw [HBx1.out.cell (p := ⟨ga, i * 3 + 1, none⟩) hga, World.ownsRow.cellAt HOz1.out _ (by omega)]; exact e1
            have v2 : x1.cell? ⟨ga, i * 3 + 2, none⟩ = some (.string (s.extract ((atsL s).getD (P[i]).1 0) ((atsL s).getD (P[i]).2 0))) := by rw [HBx1.out.cell (p := ⟨ga, i * 3 + 2, none⟩) hga, World.ownsRow.cellAt HOz1.out _ (by omega)]; exact e2
            have m1 := atsL_mono s (P[i]).1 (P[i]).2 (by omega) hx2
            have m2 := atsL_getD_le s (P[i]).2 hx2
            have hi1 : ((P[i]).1 : Int) < ((atsL s).length : Int) := by omega
            have hi2 : ((P[i]).2 : Int) < ((atsL s).length : Int) := by omega
            have hkl := HKl.out
            rw [hkl] at hi1 hi2
            generalize (atsL s).getD (P[i]).1 0 = y1 at *
            generalize (atsL s).getD (P[i]).2 0 = y2 at *
            generalize P[i] = pp at *
            obtain ⟨p1, p2⟩ := pp
            simp only at t1 t2 g1 g2 v0 v1 hi1 hi2
            have i3 : (y1 : Int) ≤ (y2 : Int) := by omega
            have i4 : (y2 : Int) ≤ (s.size : Int) := by omega
            clear f1 f2 f3 hx1 hx2 hat e0 e1 e2 hkl hga
            go_wp2
            go_quiet (fail)
            go_wp2
            go_roundw
            case rel => exact ⟨i + 1, by omega, by go_num, below_drewN HBx1.out _⟩
            case measure => simp [intOf]; omega
          · have hnlt1 : ¬ (i : Int) < (m : Int) := by omega
            go_wp2
            clear q0 q0' hnlt1 hlt hi
            refine rounds_go (n := 1) ?_
            go_upto_block 4 with (fail)
            obtain ⟨b2, hb2⟩ : ∃ b, b = x1.heap.size := ⟨_, rfl⟩
            have HA2 : Hid ((x1.alloc (.cells #[.int .i64 0] 3)).heap[b2]? = some (.cells #[.int .i64 0] 3 (0, 0)) ∧ (x1.alloc (.cells #[.int .i64 0] 3)).heap.size = b2 + 1 ∧ Below x1.heap.size x1 (x1.alloc (.cells #[.int .i64 0] 3))) := Lib.hid (by
              rw [hb2]; exact ⟨heap_alloc_new x1 _, by simp, (Below.refl _ _).alloc (Nat.le_refl _) _⟩)
            rw [← hb2]
            generalize x1.alloc (.cells #[.int .i64 0] 3) = u2 at *
            have HFu2 := Lib.hid (HFx1.out.next HA2.out.2.2)
            have HBb2 := Lib.hid hb2; clear hb2
            have hub2 : u2.heap.size = b2 + 1 := HA2.out.2.1
            refine wp_cutX (fun D w' => u2.heap.size ≤ D ∧ w'.heap[D]? = some (.deferred (some [])) ∧ But u2.heap.size (fun k => k = b2) u2 w' ∧ ∃ ν : Nat, w'.heap[b2]? = some (.cells #[.int .i64 (ν : Nat)] 3 (0, 0)) ∧ Few few m ν) ?rest2 ?first2
            case first2 =>
              intro K' hK'
              have HK' := Lib.hid hK'; clear hK'
              have HEs := Lib.hid (each_stops rest a n cap cs s B1 (B1 + 1) (fun k => k < u2.heap.size ∧ k ≠ b2) u2 HN.out (by omega) (HC.out.below HFu2.out.eb.pb.below (Nat.le_refl _)) (by omega) HFu2.out.k1 HFu2.out.k2)
              rw [← HP.out] at HEs
              go_wp2
              refine wp_rangeX (gf := 47) (lb := #[.pointer (some ⟨B1, 0, none⟩), .pointer (some ⟨B1 + 1, 0, none⟩)]) rfl (enters_of Try.func47 (by kernel_rfl) rfl)
                HEs.out (Below.refl _ _) (fun k hk => hk.1) (fun _ => rfl)
                (CntI u2 u2.heap.size b2 few) (CntX u2 u2.heap.size b2 few) (CntI.abide (by omega) (Nat.le_refl _)) (CntX.abide (by omega) (Nat.le_refl _))
                ⟨⟨But.refl _ _ _, HA2.out.1, id, (fun _ h => h.elim), (fun _ h => h.elim)⟩, by show few < 1 ∨ (0 : Int) < few; omega⟩
                (fun tmps _ x a' _ => a' = { tmps := (tmps.setIfInBounds 59 (.agg #[.int .i64 (x.1 : Nat), .int .i64 (x.2 : Nat)])).setIfInBounds 60 (.string (subS s x)), defers := [] }) (fun _ _ _ _ _ h _ => h) ?asg2 ?bdy2 ?dn2 ?stp2
              case asg2 =>
                rintro l T pre ⟨x1, x2⟩ W K hi hK
                have HK := Lib.hid hK; clear hK
                simp only [encP]
                gi_wp2
                exact HK.out _ _ (Kept.refl _ _ _) hi rfl
              case bdy2 =>
                rintro l T pre ⟨x1, x2⟩ a' W hTl hl - ⟨hst, hfw⟩ rfl hlen
                have HST := Lib.hid hst; clear hst
                have q0 := cell_of_row W b2 0 _ _ (0, 0) HST.out.bx
                have f0 := frozen_of_row W b2 0 _ _ HST.out.bx
                have q5 := HST.out.but.cell HFu2.out.eb.cfew (by have := HFu2.out.eb.fewlt; exact this) (by have := HBb2.out; have := HFx1.out.eb.fewlt; show ¬ (_ = b2); omega)
                simp at q0
                have hlen2 : pre.length ≤ 1048577 := by have := HM.out; omega
                have HKp := Lib.hid (show Kept T (fun k => k < u2.heap.size ∧ k ≠ b2) W (W.setCell ⟨b2, 0, none⟩ (.int .i64 ((pre.length : Int) + 1))) from ⟨by simp, fun k hk h => by
                  have hne : k ≠ b2 := by
                    rcases h with h | h
                    · exact fun e => HST.out.tx (e ▸ h)
                    · exact h.2
                  rw [heap_setCell_other W ⟨b2, 0, none⟩ k _ (by simp; omega)]⟩)
                have HNx := Lib.hid (show CntSt u2 u2.heap.size b2 few T (pre ++ [(x1, x2)]) (W.setCell ⟨b2, 0, none⟩ (.int .i64 ((pre.length : Int) + 1))) from
                  ⟨HST.out.but.setCell b2 0 _ (.inl rfl), by
                    have := heap_setCell_same W b2 0 _ _ (.int .i64 ((pre.length : Int) + 1)) HST.out.bx
                    rw [List.length_append]
                    simpa using this, HST.out.tx, HST.out.tn, fun k h => by simp; exact HST.out.tl k h⟩)
                have q5' : (W.setCell ⟨b2, 0, none⟩ (.int .i64 ((pre.length : Int) + 1))).cell? ⟨w.heap.size + 1, 0, none⟩ = some (.int .i64 few) := by
                  rw [World.cell?_setCell_other _ _ _ _ (by have := HBb2.out; have := HFx1.out.eb.fewlt; simp <;> omega)]; exact q5
                have q0' : (W.setCell ⟨b2, 0, none⟩ (.int .i64 ((pre.length : Int) + 1))).cell? ⟨b2, 0, none⟩ = some (.int .i64 ((pre.length : Int) + 1)) := World.cell?_setCell_same' _ _ _ (by rw [q0]; rfl)
                clear hlen
                by_cases he : (pre.length : Int) + 1 = few
                · have he' : ((pre.length : Int) + 1 == few) = true := by simpa using he
                  have HE := Lib.hid he; clear he
                  gi_wp2
                  exact ⟨⟨HKp.out.size, fun k hk h => HKp.out.block k hk (h.imp id (fun h => h.elim))⟩, HNx.out, rfl, by have := HE.out; omega, by rw [List.length_append]; have := HE.out; simp; omega⟩
                · have he' : ((pre.length : Int) + 1 == few) = false := by simpa using he
                  have HE := Lib.hid he; clear he
                  gi_wp2
                  exact ⟨HKp.out, HNx.out, by rw [List.length_append]; have := HE.out; simp; omega⟩
              case dn2 =>
                rintro D T xs W hD hTD rfl ⟨hst, hfw⟩ hDk
                have HG := Lib.hid (HK'.out D W ⟨hD, hDk, hst.but, _, hst.bx, Few.all (by rw [HM.out] at hfw; exact hfw) HM.out⟩)
                clear hst hfw hDk
                go_wp2
                exact HG.out
              case stp2 =>
                rintro D c T pre W hD hTD ⟨k, hk, rfl⟩ ⟨hst, rfl, h1, h2⟩ hDk
                have HG := Lib.hid (HK'.out D W ⟨hD, hDk, hst.but, _, hst.bx, Few.some h1 h2 (by rw [List.length_take]; have := HM.out; omega)⟩)
                clear hst h1 h2 hDk
                go_wp2
                exact HG.out
            case rest2 =>
            rintro D2 v2 ⟨hD2, hDk2, hbut2, ν2, hbx2, hfew2⟩
            have HBv2 := Lib.hid (show Below x1.heap.size x1 v2 from HA2.out.2.2.trans (hbut2.below x1.heap.size HA2.out.2.2.size (fun k hk => by have := HBb2.out; subst hk; omega)))
            have HFv2 := Lib.hid (HFx1.out.next HBv2.out)
            have HX2 := Lib.hid (show _ ∧ _ from ⟨hbx2, hDk2⟩); clear hbx2 hDk2 hbut2
            have HFe2 := Lib.hid hfew2; clear hfew2
            dsimp only
            go_upto_block 6 with (fail)
            obtain ⟨c2, hc2⟩ : ∃ b, b = v2.heap.size := ⟨_, rfl⟩
            have HAc2 : Hid ((v2.alloc (.cells #[.slice none 0 0] 69)).heap[c2]? = some (.cells #[.slice none 0 0] 69 (0, 0)) ∧ (v2.alloc (.cells #[.slice none 0 0] 69)).heap.size = c2 + 1 ∧ Below v2.heap.size v2 (v2.alloc (.cells #[.slice none 0 0] 69))) := Lib.hid (by
              rw [hc2]; exact ⟨heap_alloc_new v2 _, by simp, (Below.refl _ _).alloc (Nat.le_refl _) _⟩)
            rw [← hc2]
            generalize v2.alloc (.cells #[.slice none 0 0] 69) = y2 at *
            have HFy2 := Lib.hid (HFv2.out.next HAc2.out.2.2)
            have HCc2 := Lib.hid hc2; clear hc2
            have hyc2 : y2.heap.size = c2 + 1 := HAc2.out.2.1
            have HEt2 := Lib.hid (each_stops rest a n cap cs s B1 (B1 + 1) (fun k => k < y2.heap.size ∧ k ≠ c2) y2 HN.out (by omega) (HC.out.below HFy2.out.eb.pb.below (Nat.le_refl _)) (by omega) HFy2.out.k1 HFy2.out.k2)
            rw [← HP.out] at HEt2
            go_wp2
            refine wp_rangeX (gf := 47) (lb := #[.pointer (some ⟨B1, 0, none⟩), .pointer (some ⟨B1 + 1, 0, none⟩)]) rfl (enters_of Try.func47 (by kernel_rfl) rfl)
              HEt2.out (Below.refl _ _) (fun k hk => hk.1) (fun _ => rfl)
              (PrtI y2 y2.heap.size c2 s) (fun _ _ _ _ => False) (PrtI.abide (by omega) (Nat.le_refl _)) (fun _ _ _ _ _ _ h => h.elim)
              ⟨none, 0, But.refl _ _ _, HAc2.out.1, World.ownsRow_nil _ _ _ _, id, (fun _ h => by cases h), (fun _ h => h.elim), (fun _ h => h.elim)⟩
              (CatA s 67 68 15 16) (fun T x a' W W' h ho => h.off ho) ?asg22 ?bdy22 ?dn22 ?stp22
            case stp22 =>
              rintro D c T pre W - - - h
              exact h.elim
            case asg22 =>
              rintro l T pre ⟨x1, x2⟩ W K hi hK
              have HK := Lib.hid hK; clear hK
              simp only [encP]
              gi_wp2
              obtain ⟨ax, cx, hst⟩ := hi
              refine HK.out _ _ ?_ ?_ ?_
              · exact Kept.of_below ((Below.refl _ W).alloc (Nat.le_refl _) _)
              · exact PrtI.abide (by omega) (Nat.le_refl _) _ _ _ _ _ ⟨ax, cx, hst⟩ (Off.alloc T W _) (Wider.refl _ _ _)
              · exact ⟨W.heap.size, heap_alloc_new W _, fun h => by have := hst.tl _ h; omega, rfl⟩
            case bdy22 =>
              rintro l T pre ⟨x1, x2⟩ a' W hTl hl - ⟨ax, cx, hst⟩ ⟨Bx, hBx, hTB, rfl⟩ hlen
              have HST := Lib.hid hst; clear hst
              have hlen2 : pre.length ≤ 1048577 := by have := HM.out; omega
              clear hlen
              have q0 := cell_of_row W c2 0 _ _ (0, 0) HST.out.bx_
              have r0 := cell_of_row W Bx 0 _ _ (0, 0) hBx
              have r1 := cell_of_row W Bx 1 _ _ (0, 0) hBx
              simp at q0 r0 r1
              have hn1W : y2.heap.size ≤ W.heap.size := HST.out.but.size
              gi_wp2_with (gi_at_builtin; refine wpListIn_appN Try.elemPart rfl (.tmp 69) (.tmp 73) rfl HST.out.own hn1W (by omega) (by omega) _ rfl (by intro u hu; simp at hu; rcases hu with rfl | rfl | rfl <;> rfl) _ rfl rfl ?_)
              intro a9 c9 w9 ho9 hg9 hn9
              have b9 : ∀ b, b < y2.heap.size → w9.heap[b]? = W.heap[b]? := fun b hb => hg9.block b (by omega) (fun e => by have := (World.ownsRow.lt HST.out.own b e.symm).1; omega)
              have x9 := (b9 c2 (by omega)).trans HST.out.bx_
              have q1 := cell_of_row w9 c2 0 _ _ (0, 0) x9
              have f1 := frozen_of_row w9 c2 0 _ _ x9
              simp at q1
              have HOw := Lib.hid (show w9.ownsRow y2.heap.size 71 3 (.slice a9 (pre.length + 1) c9) (pre.length + 1) (flat3 s (pre ++ [(x1, x2)])) from by rw [flat3_push, hyc2]; exact ho9)
              have HB9 := Lib.hid (But.grown HST.out.but hg9 hn1W (fun k e => .inr (World.ownsRow.lt HST.out.own k e).1))
              have HKp := Lib.hid (show Kept T (fun k => k < y2.heap.size ∧ k ≠ c2) W w9 from Kept.of_grown hg9 (fun k e h => by
                rcases h with h | h
                · exact HST.out.ta k e h
                · have := (World.ownsRow.lt HST.out.own k e).1; omega))
              have HTa := Lib.hid (show ∀ k, (Value.slice a9 (pre.length + 1) c9).ownBlock = some k → ¬ T k from fun k hk hT => by
                rcases hn9 with h | ⟨gg, h, hgg⟩
                · rw [h] at hk; exact HST.out.ta k hk hT
                · rw [h] at hk; cases hk; have := HST.out.tl _ hT; omega)
              have HTl := Lib.hid (fun k (h : T k) => Nat.lt_of_lt_of_le (HST.out.tl k h) hg9.size)
              clear ho9 hg9 hn9 b9
              gi_wp2
              refine ⟨HKp.out.trans ⟨by simp, fun k hk h => ?_⟩, a9, c9, ?_⟩
              · have hne : k ≠ c2 := by
                  rcases h with h | h
                  · exact fun e => HST.out.tx (e ▸ h)
                  · exact h.2
                rw [heap_setCell_other w9 ⟨c2, 0, none⟩ k _ (by simp; omega)]
              · have hl : (pre ++ [(x1, x2)]).length = pre.length + 1 := by simp
                refine ⟨HB9.out.setCell c2 0 _ (.inl rfl), ?_, ?_, HST.out.tx, by rw [hl]; exact HTa.out, HST.out.tn, fun k h => by simp; exact HTl.out k h⟩
                · rw [hl]
                  have := heap_setCell_same w9 c2 0 _ _ (.slice a9 (pre.length + 1) c9) x9
                  simpa using this
                · rw [hl]
                  exact World.ownsRow.kept HOw.out (grown_store w9 c2 0 _) (ownsRow_apart HOw.out (by omega))
            case dn22 =>
            rintro E2 T xs z2 hE2 hTE hxs ⟨ax2, cx2, hst⟩ hEk
            have hxs' := hxs.symm; clear hxs; subst hxs'
            have HST2 := Lib.hid hst; clear hst
            have HBz2 := Lib.hid (show Below v2.heap.size v2 z2 from HAc2.out.2.2.trans (HST2.out.but.below v2.heap.size HAc2.out.2.2.size (fun k hk => by have := HCc2.out; subst hk; omega)))
            have HFz2 := Lib.hid (HFv2.out.next HBz2.out)
            have HY2 := Lib.hid (show _ ∧ _ ∧ _ from ⟨(HBz2.out.block b2 (Array.getElem?_eq_some_iff.1 HX2.out.1).1).trans HX2.out.1, (HBz2.out.block D2 (Array.getElem?_eq_some_iff.1 HX2.out.2).1).trans HX2.out.2, hEk⟩)
            clear hEk
            have q0 := cell_of_row z2 c2 0 _ _ (0, 0) HST2.out.bx_
            have q1 := cell_of_row z2 b2 0 _ _ (0, 0) HY2.out.1
            simp at q0 q1
            have q5 := HFz2.out.eb.cfew
            rw [HM.out] at q0
            have hmm : ((m : Int) != (m : Int)) = false := by simp
            have hfw := HFe2.out
            have HOz2 := Lib.hid HST2.out.own
            rw [HM.out] at HOz2
            go_upto_region 25 with (fail)
            go_cut [101] from 75 (fun v w' => v = .bool false ∧ w' = z2)
            case first =>
              rcases hfw with ⟨h1, h2⟩ | ⟨h1, h2⟩
              · subst h2
                have h1' : ¬ (1 : Int) ≤ few := by omega
                go_wp2
                go_meet
                case rel => exact ⟨rfl, rfl⟩
              · have h1' : ¬ few < 1 := by omega
                by_cases hcm : few ≤ (m : Int)
                · have hmin : ((ν2 : Int) != few) = false := by simp; omega
                  clear h2
                  go_wp2
                  go_meet
                  case rel => exact ⟨rfl, rfl⟩
                · have hmin : ((ν2 : Int) != (m : Int)) = false := by simp; omega
                  clear h2
                  go_wp2
                  go_meet
                  case rel => exact ⟨rfl, rfl⟩
            case rest =>
            obtain ⟨hcv, hcw⟩ := hcut
            have hcw' := hcw.symm; clear hcw; subst hcw'
            subst hcv
            clear hfw q5 q1
            go_wp2
            go_loopw [17] (fun v wr => ∃ i : Nat, i ≤ m ∧ v = .int .i64 i ∧ Below z2.heap.size z2 wr) (fun v _ => m - (intOf v).toNat)
            case atStart => exact ⟨0, Nat.zero_le _, rfl, Below.refl _ _⟩
            case round =>
              obtain ⟨i, hi, rfl, hbl⟩ := hrel
              generalize wr = x2 at *
              have HBx2 := Lib.hid hbl; clear hbl
              have HFx2 := Lib.hid (HFz2.out.next HBx2.out)
              have q0' : x2.cell? ⟨c2, 0, none⟩ = some (.slice ax2 m cx2) := by rw [HBx2.out.cell (p := ⟨c2, 0, none⟩) (World.block_lt_of_cell? z2 _ q0)]; exact q0
              by_cases hlt : i < m
              · have hil : i < P.length := by rw [HM.out]; exact hlt
                have him : (i : Int) < (m : Int) := by omega
                obtain ⟨f1, f2, f3, -, -⟩ := HF.out.one i hil
                rw [List.length_map] at f3
                obtain ⟨bw, ow, haw⟩ := HFx2.out.want.some (by omega)
                subst haw
                obtain ⟨t1, t2⟩ := HFx2.out.want.get i hil
                have hat := atsL_length s
                have hx1 : (P[i]).1 < (atsL s).length := by omega
                have hx2 : (P[i]).2 < (atsL s).length := by omega
                obtain ⟨bb, ob, hab⟩ := HFx2.out.begs.some (by rw [natsI_length]; omega)
                subst hab
                have g1 := HFx2.out.begs.get (P[i]).1 (by rw [natsI_length]; exact hx1)
                have g2 := HFx2.out.begs.get (P[i]).2 (by rw [natsI_length]; exact hx2)
                rw [show (natsI (atsL s))[(P[i]).1]'(by rw [natsI_length]; exact hx1) = ((atsL s).getD (P[i]).1 0 : Nat) by simp [natsI, hx1]] at g1
                rw [show (natsI (atsL s))[(P[i]).2]'(by rw [natsI_length]; exact hx2) = ((atsL s).getD (P[i]).2 0 : Nat) by simp [natsI, hx2]] at g2
                have hae : ∃ ga, ax2 = some ⟨ga, 0, none⟩ ∧ ga < z2.heap.size := by
                  rcases HOz2.out.2 with ⟨e, h0⟩ | ⟨ga, cap', cur, e, hb, hg, _⟩
                  · omega
                  · simp only [Value.slice.injEq] at e
                    exact ⟨ga, e.1, (Array.getElem?_eq_some_iff.1 hg).1⟩
                obtain ⟨ga, hae, hga⟩ := hae
                subst hae
                obtain ⟨e0, e1, e2⟩ := flat3_get s P i hil
                have v0 : x2.cell? ⟨ga, i * 3, none⟩ = some (.int .i64 ((P[i]).1 : Nat)) := by rw [HBx2.out.cell (p := ⟨ga, i * 3, none⟩) hga, World.ownsRow.cellAt HOz2.out _ (by omega)]; exact e0
                have v1 : x2.cell? ⟨ga, i * 3 + 1, none⟩ = some (.int .i64 ((P[i]).2 : Nat)) := by rw [HBx2.out.cell (p := ⟨ga, i * 3 + 1, none⟩) hga, World.ownsRow.cellAt HOz2.out _ (by omega)]; exact e1
                have v2 : x2.cell? ⟨ga, i * 3 + 2, none⟩ = some (.string (s.extract ((atsL s).getD (P[i]).1 0) ((atsL s).getD (P[i]).2 0))) := by rw [HBx2.out.cell (p := ⟨ga, i * 3 + 2, none⟩) hga, World.ownsRow.cellAt HOz2.out _ (by omega)]; exact e2
                have m1 := atsL_mono s (P[i]).1 (P[i]).2 (by omega) hx2
                have m2 := atsL_getD_le s (P[i]).2 hx2
                have hi1 : ((P[i]).1 : Int) < ((atsL s).length : Int) := by omega
                have hi2 : ((P[i]).2 : Int) < ((atsL s).length : Int) := by omega
                have hkl := HKl.out
                rw [hkl] at hi1 hi2
                generalize (atsL s).getD (P[i]).1 0 = y1 at *
                generalize (atsL s).getD (P[i]).2 0 = y2 at *
                generalize P[i] = pp at *
                obtain ⟨p1, p2⟩ := pp
                simp only at t1 t2 g1 g2 v0 v1 hi1 hi2
                have i3 : (y1 : Int) ≤ (y2 : Int) := by omega
                have i4 : (y2 : Int) ≤ (s.size : Int) := by omega
                clear f1 f2 f3 hx1 hx2 hat e0 e1 e2 hkl hga
                go_wp2
                go_quiet (fail)
                go_wp2
                go_roundw
                case rel => exact ⟨i + 1, by omega, by go_num, below_drewN HBx2.out _⟩
                case measure => simp [intOf]; omega
              · have hnlt2 : ¬ (i : Int) < (m : Int) := by omega
                go_wp2
                clear q0 q0' hnlt2 hlt hi
                refine rounds_go (n := 0) ?_
                go_wp2_with fail
                refine (Each_walk .nilIface rfl s x2).mono ?_
                rintro e w21 ⟨rfl, -, -, -, hb⟩
                have HB21 := Lib.hid hb; clear hb
                go_wp2_with fail
                refine (Each_walk .nilIface rfl s w21).mono ?_
                rintro e w22 ⟨rfl, k1, k2, hs22, hb⟩
                have HB22 := Lib.hid (below_seq HB21.out hb); clear hb hs22
                have HK1 := Lib.hid k1; clear k1 k2
                go_wp2
                refine wp_rangeX (gf := 47) (lb := #[.pointer (some ⟨w21.heap.size, 0, none⟩), .pointer (some ⟨w21.heap.size + 1, 0, none⟩)]) rfl (enters_of Try.func47 (by kernel_rfl) rfl)
                  (each_none s w21.heap.size (w21.heap.size + 1) (fun _ => False) w22 HK1.out) (Below.refl _ _) (fun _ h => h.elim) (fun _ => rfl)
                  (NilI w22) (fun _ _ _ _ => False) (NilI.abide w22) (fun _ _ _ _ _ _ h => h.elim)
                  ⟨But.refl _ _ _, fun _ h => h.elim⟩
                  (fun tmps _ x a' _ => a' = { tmps := (tmps.setIfInBounds 150 (.agg #[.int .i64 (x.1 : Nat), .int .i64 (x.2 : Nat)])).setIfInBounds 151 (.string (subS s x)), defers := [] }) (fun _ _ _ _ _ h _ => h) ?asg3 ?bdy3 ?dn3 ?stp3
                case stp3 =>
                  rintro D c T pre W - - - h
                  exact h.elim
                case asg3 =>
                  rintro l T pre ⟨x1, x2⟩ W K hi hK
                  have HK := Lib.hid hK; clear hK
                  simp only [encP]
                  gi_wp2
                  exact HK.out _ _ (Kept.refl _ _ _) hi rfl
                case bdy3 =>
                  intro l T pre x a' W _ _ _ _ _ hlen
                  exact absurd hlen (Nat.not_lt_zero _)
                case dn3 =>
                  rintro D5 T xs w23 hD5 hTD rfl ⟨hbut, -⟩ hDk5
                  have HB23 := Lib.hid (below_seq HB22.out (hbut.below w22.heap.size (Nat.le_refl _) (fun _ h => h.elim)))
                  have HD5 := Lib.hid (show _ ∧ _ from ⟨hD5, hDk5⟩); clear hD5 hDk5 hbut
                  go_wp2_with fail
                  refine (awake_walk _).mono ?_
                  rintro e w24 ⟨rfl, hb⟩
                  have HB24 := Lib.hid (below_seq HB23.out hb)
                  have HE24 := Lib.hid (HFx2.out.eb.next HB24.out)
                  have c2 := below_seq HBx2.out HB24.out
                  have c1 := below_seq HBx1.out (below_seq HBv2.out (below_seq HBz2.out c2))
                  have HM := Lib.hid (show w24.heap[D1]? = some (.deferred (some [])) ∧ w24.heap[E1]? = some (.deferred (some [])) ∧ w24.heap[D2]? = some (.deferred (some [])) ∧ w24.heap[E2]? = some (.deferred (some [])) ∧ w24.heap[D5]? = some (.deferred (some [])) from
                    ⟨(c1.block D1 (Array.getElem?_eq_some_iff.1 HY1.out.2.1).1).trans HY1.out.2.1, (c1.block E1 (Array.getElem?_eq_some_iff.1 HY1.out.2.2).1).trans HY1.out.2.2,
                     (c2.block D2 (Array.getElem?_eq_some_iff.1 HY2.out.2.1).1).trans HY2.out.2.1, (c2.block E2 (Array.getElem?_eq_some_iff.1 HY2.out.2.2).1).trans HY2.out.2.2,
                     (hb.block D5 (Array.getElem?_eq_some_iff.1 HD5.out.2).1).trans HD5.out.2⟩)
                  have HOrd : Hid (w.heap.size + 2 < D1 ∧ D1 < E1 ∧ E1 < D2 ∧ D2 < E2 ∧ E2 < D5) := Lib.hid (by
                    have o1 := (Array.getElem?_eq_some_iff.1 HF8.out.eb.res).1
                    have o2 := (Array.getElem?_eq_some_iff.1 HX1.out.2).1
                    have o3 := (Array.getElem?_eq_some_iff.1 HY1.out.2.2).1
                    have o4 := (Array.getElem?_eq_some_iff.1 HX2.out.2).1
                    have o5 := (Array.getElem?_eq_some_iff.1 HY2.out.2.2).1
                    have o6 := HBx1.out.size
                    have o7 := HBx2.out.size
                    have o8 := HB22.out.size
                    have o9 := HD5.out.1
                    have t1 := HBb1.out
                    have t2 := HBb2.out
                    have t3 := HCc1.out
                    have t4 := HCc2.out
                    refine ⟨by omega, by omega, by omega, by omega, by omega⟩)
                  clear hb c1 c2
                  have q6 := cell_of_row w24 (w.heap.size + 2) 0 _ _ (0, 0) HE24.out.res
                  have f6 := frozen_of_row w24 (w.heap.size + 2) 0 _ _ HE24.out.res
                  have q6' := World.cell?_setCell_same' w24 ⟨w.heap.size + 2, 0, none⟩ (.bool true) (by rw [q6]; rfl)
                  simp at q6
                  have hHF := HFx2.out
                  go_wp2
                  have ho := HOrd.out
                  obtain ⟨e1, e2, e3, e4, e5⟩ := HM.out
                  have s : ∀ D, D ≠ w.heap.size + 2 → (w24.setCell ⟨w.heap.size + 2, 0, none⟩ (.bool true)).heap[D]? = w24.heap[D]? := fun D hD => heap_setCell_other w24 ⟨w.heap.size + 2, 0, none⟩ D _ (by simp; omega)
                  refine leaves_mark (by rw [s _ (by omega)]; exact e5) (leaves_mark (by rw [World.putObj_heap_other (by omega), s _ (by omega)]; exact e4)
                    (leaves_mark (by rw [World.putObj_heap_other (by omega), World.putObj_heap_other (by omega), s _ (by omega)]; exact e3)
                    (leaves_mark (by rw [World.putObj_heap_other (by omega), World.putObj_heap_other (by omega), World.putObj_heap_other (by omega), s _ (by omega)]; exact e2)
                    (leaves_mark (by rw [World.putObj_heap_other (by omega), World.putObj_heap_other (by omega), World.putObj_heap_other (by omega), World.putObj_heap_other (by omega), s _ (by omega)]; exact e1) (leaves_nil (v := .bool true) ?_ ?_)))))
                  · have q := cell_mark (cell_mark (cell_mark (cell_mark (cell_mark q6' D5 (.deferred none) (by omega)) E2 (.deferred none) (by omega)) D2 (.deferred none) (by omega)) E1 (.deferred none) (by omega)) D1 (.deferred none) (by omega)
                    simp [results, Try.results12, go_sem, q]
                  · have hB : Below w.heap.size w (w24.setCell ⟨w.heap.size + 2, 0, none⟩ (.bool true)) := HE24.out.pb.below.setCell (p := ⟨w.heap.size + 2, 0, none⟩) (by simp) _
                    exact ⟨rfl, below_mark (below_mark (below_mark (below_mark (below_mark hB D5 (.deferred none) (by omega)) E2 (.deferred none) (by omega)) D2 (.deferred none) (by omega)) E1 (.deferred none) (by omega)) D1 (.deferred none) (by omega)⟩
end Go.Proofs.Ytmcjlkpogcnniaa
