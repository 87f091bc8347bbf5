/-
  What 'told' tells.
-/
import Derived.Test.YtcgdhgdblieaiaaT3
set_option linter.unusedVariables false
namespace Go.Proofs.Ytcgdhgdblieaiaa
open Go.RowKit Go.Shelf
attribute [local go_sem] Oper.semAt_some

theorem cell_mark {w : World} {b o : Nat} {v : Value} (h : w.cell? ⟨b, o, none⟩ = some v) (D : Nat) (ob : Obj) (hne : b ≠ D) : (w.putObj D ob).cell? ⟨b, o, none⟩ = some v := by
  rw [World.cell?_of_block (w := w) (a := ⟨b, o, none⟩) (World.putObj_heap_other hne)]; exact h
theorem below_mark {B : Nat} {w W : World} (h : Below B w W) (D : Nat) (ob : Obj) (hD : B ≤ D) : Below B w (W.putObj D ob) :=
  h.trans ⟨rfl, rfl, rfl, by simp, fun k hk => World.putObj_heap_other (by omega)⟩
theorem flatT_push (ss : List ByteArray) (o : List Int) (i : Int) : flatT ss (o ++ [i]) = flatT ss o ++ [.int .i64 i, .string (ss.getD i.toNat noS)] := by
  unfold flatT
  rw [List.flatMap_append]
  rfl
/-- how many are told, of m, left behind few of them -/
def Told (few : Int) (m ν : Nat) : Prop := (few < 0 ∧ ν = m) ∨ (0 ≤ few ∧ (ν : Int) = min (few + 1) (m : Int))
theorem Told.all {few : Int} {m k : Nat} (h : few < 0 ∨ (k : Int) ≤ few) (hk : k = m) : Told few m k := by
  unfold Told
  omega
theorem Told.some {few : Int} {m k : Nat} (h1 : 0 ≤ few) (h2 : (k : Int) = few + 1) (h3 : k ≤ m) : Told few m k := by
  unfold Told
  omega

structure TlSt (W0 : World) (n1 bx br : Nat) (ss : List ByteArray) (rv : Value) (T : Nat → Prop) (pre : List Int) (W : World) (ax : Option Addr) (cx : Nat) : Prop where
  but : But n1 (fun k => k = bx ∨ k = br) W0 W
  bx_ : W.heap[bx]? = some (.cells #[.slice ax pre.length cx] 42 (0, 0))
  br_ : W.heap[br]? = some (.cells #[rv] 42 (0, 0))
  own : W.ownsRow n1 47 2 (.slice ax pre.length cx) pre.length (flatT ss pre)
  tx : ¬ T bx
  tr : ¬ T br
  ta : ∀ k, (Value.slice ax pre.length cx).ownBlock = some k → ¬ T k
  tn : ∀ k, T k → n1 ≤ k
  tl : ∀ k, T k → k < W.heap.size
theorem TlSt.off {W0 W W' : World} {n1 bx br : Nat} {ss : List ByteArray} {rv : Value} {T T' : Nat → Prop} {pre : List Int} {ax : Option Addr} {cx : Nat} (h : TlSt W0 n1 bx br ss rv T pre W ax cx) (hx : bx < n1) (hr : br < n1) (h1 : n1 ≤ W0.heap.size) (ho : Off T W W') (hwd : Wider T T' W W') : TlSt W0 n1 bx br ss rv T' pre W' ax cx := by
  have hn : n1 ≤ W.heap.size := Nat.le_trans h1 h.but.size
  have hb : ∀ b, b < W.heap.size → ¬ T b → ¬ T' b := fun b hb hT hT' => by
    rcases hwd b hT' with h2 | h2
    · exact hT h2
    · omega
  refine ⟨h.but.off ho h.tn hn, ho.cellsBlock h.bx_ h.tx, ho.cellsBlock h.br_ h.tr, ownsRow_off h.own ho h.ta, hb _ (by omega) h.tx, hb _ (by omega) h.tr, fun k hk => hb k (World.ownsRow.lt h.own k hk).2 (h.ta k hk), fun k hk => ?_, fun k hk => ?_⟩
  · rcases hwd k hk with h2 | h2
    · exact h.tn k h2
    · omega
  · rcases hwd k hk with h2 | h2
    · have := h.tl k h2; have := ho.size; omega
    · exact h2.2
def TlI (W0 : World) (n1 bx br : Nat) (ss : List ByteArray) (few : Int) (T : Nat → Prop) (pre : List Int) (W : World) : Prop := ∃ ax cx, TlSt W0 n1 bx br ss (.slice none 0 0) T pre W ax cx ∧ (few < 0 ∨ (pre.length : Int) ≤ few)
def TlX (W0 : World) (n1 bx br : Nat) (ss : List ByteArray) (few : Int) (c : Code) (T : Nat → Prop) (pre : List Int) (W : World) : Prop := ∃ ax cx, TlSt W0 n1 bx br ss (.slice ax pre.length cx) T pre W ax cx ∧ c = .ret ∧ 0 ≤ few ∧ (pre.length : Int) = few + 1
theorem TlI.abide {W0 : World} {n1 bx br : Nat} {ss : List ByteArray} {few : Int} (hx : bx < n1) (hr : br < n1) (h1 : n1 ≤ W0.heap.size) : Abide (TlI W0 n1 bx br ss few) := by
  rintro T T' pre W W' ⟨ax, cx, h, h2⟩ ho hwd
  exact ⟨ax, cx, h.off hx hr h1 ho hwd, h2⟩
theorem TlX.abide {W0 : World} {n1 bx br : Nat} {ss : List ByteArray} {few : Int} (hx : bx < n1) (hr : br < n1) (h1 : n1 ≤ W0.heap.size) : ∀ c, Abide (TlX W0 n1 bx br ss few c) := by
  rintro c T T' pre W W' ⟨ax, cx, h, h2⟩ ho hwd
  exact ⟨ax, cx, h.off hx hr h1 ho hwd, h2⟩

set_option maxRecDepth 100000 in
set_option maxHeartbeats 8000000 in
theorem told_walk (a1 : Option Addr) (n1 c1 : Nat) (ss : List ByteArray) (a : Option Addr) (n cap : Nat) (zs : List Int) (few : Int) (w : World) (hx : ss.length = n1) (hm1 : n1 ≤ 1048576) (hc1 : Strs w a1 ss) (hn : zs.length = n) (hlt : n ≤ 1048576) (hc : Ints .i8 w a zs) (hf : -9223372036854775808 ≤ few ∧ few ≤ 9223372036854775807) :
    Calls Try.prog 26 #[.slice a1 n1 c1, .slice a n cap, .int .i64 few] w fun e w' => ∃ ν a' c', e = .returned (.slice a' ν c') ∧ Told few (turnO ss zs).length ν ∧ ν ≤ (turnO ss zs).length ∧ OwnT w.heap.size w' a' ν c' ss ((turnO ss zs).take ν) ∧ Below w.heap.size w w' := by
  have HN := Lib.hid hn; clear hn
  have HX := Lib.hid hx; clear hx
  have hPl : (turnO ss zs).length ≤ 1048576 := by
    unfold turnO
    split
    · have := ord_le zs; have := HN.out; omega
    · exact Nat.zero_le _
  obtain ⟨P, hP⟩ : ∃ P, P = turnO ss zs := ⟨_, rfl⟩
  rw [← hP] at hPl ⊢
  have HP := Lib.hid hP; clear hP
  have H0 : Hid (((((w.alloc (.cells #[.int .i64 few] 3)).alloc (.cells #[.slice none 0 0] 42)).alloc (.cells #[.slice none 0 0] 42)).heap[w.heap.size]? = some (.cells #[.int .i64 few] 3 (0, 0))) ∧
      ((((w.alloc (.cells #[.int .i64 few] 3)).alloc (.cells #[.slice none 0 0] 42)).alloc (.cells #[.slice none 0 0] 42)).heap[w.heap.size + 1]? = some (.cells #[.slice none 0 0] 42 (0, 0))) ∧
      ((((w.alloc (.cells #[.int .i64 few] 3)).alloc (.cells #[.slice none 0 0] 42)).alloc (.cells #[.slice none 0 0] 42)).heap[w.heap.size + 2]? = some (.cells #[.slice none 0 0] 42 (0, 0))) ∧
      Below w.heap.size w (((w.alloc (.cells #[.int .i64 few] 3)).alloc (.cells #[.slice none 0 0] 42)).alloc (.cells #[.slice none 0 0] 42))) := by
    refine Lib.hid ⟨?_, ?_, ?_, (((Below.refl _ _).alloc (Nat.le_refl _) _).alloc (by simp) _).alloc (by simp; omega) _⟩
    · rw [Below.heap_alloc _ _ _ (by simp; omega), Below.heap_alloc _ _ _ (by simp)]
      exact heap_alloc_new w _
    · rw [Below.heap_alloc _ _ _ (by simp)]
      have := heap_alloc_new (w.alloc (.cells #[.int .i64 few] 3)) (.cells #[.slice none 0 0] 42)
      simpa using this
    · have := heap_alloc_new ((w.alloc (.cells #[.int .i64 few] 3)).alloc (.cells #[.slice none 0 0] 42)) (.cells #[.slice none 0 0] 42)
      simpa using this
  refine calls_of_wpM Try.func26 rfl ?_
  simp only [Try.ntmps26, List.size_toArray, List.length_cons, List.length_nil, Nat.reduceAdd, Nat.reduceSub, Array.replicate_succ, Array.replicate_zero, List.push_toArray, List.append_toArray, List.nil_append, List.cons_append]
  go_upto_region 2 with (fail)
  generalize (((w.alloc (.cells #[.int .i64 few] 3)).alloc (.cells #[.slice none 0 0] 42)).alloc (.cells #[.slice none 0 0] 42)) = w0 at *
  obtain ⟨B0, hB0⟩ : ∃ B0, B0 = w0.heap.size := ⟨_, rfl⟩
  have qF := fun (w : World) (cs : Array Value) => run_eql_func_nil (P := Try.prog) w 71 (.func 55) #[] cs _ _ _ Try.underlying71
  go_wp2_with fail
  refine (EachS_walk a1 n1 c1 a n cap w0).mono ?_
  rintro e w1 ⟨rfl, k1, k2, -, hb⟩
  rw [← hB0] at k1 k2 ⊢
  clear hB0
  have HB1 := Lib.hid (below_seq H0.out.2.2.2 hb)
  have HF1 := Lib.hid (show w1.heap[w.heap.size]? = some (.cells #[.int .i64 few] 3 (0, 0)) ∧ w1.heap[w.heap.size + 1]? = some (.cells #[.slice none 0 0] 42 (0, 0)) ∧ w1.heap[w.heap.size + 2]? = some (.cells #[.slice none 0 0] 42 (0, 0)) from
    ⟨(hb.block _ (Array.getElem?_eq_some_iff.1 H0.out.1).1).trans H0.out.1, (hb.block _ (Array.getElem?_eq_some_iff.1 H0.out.2.1).1).trans H0.out.2.1, (hb.block _ (Array.getElem?_eq_some_iff.1 H0.out.2.2.1).1).trans H0.out.2.2.1⟩)
  have hlt2 : w.heap.size + 2 < w1.heap.size := (Array.getElem?_eq_some_iff.1 HF1.out.2.2).1
  have HSq := Lib.hid (each_strs a1 n1 c1 ss a n cap zs (B0 + 1) B0 (fun _ => False) w1 HX.out hm1 (hc1.below HB1.out (Nat.le_refl _)) HN.out hlt (hc.below HB1.out (Nat.le_refl _)) k2 k1)
  rw [← HP.out] at HSq
  have HK := Lib.hid (And.intro k1 k2)
  have hf0 := cell_of_row w1 w.heap.size 0 _ _ (0, 0) HF1.out.1
  simp at hf0
  clear hb k1 k2 H0 hc1 hc
  obtain ⟨br, hbr⟩ : ∃ br, br = w.heap.size + 1 := ⟨_, rfl⟩
  obtain ⟨bx, hbx⟩ : ∃ bx, bx = w.heap.size + 2 := ⟨_, rfl⟩
  go_wp2
  rw [show w.heap.size + 1 + 1 = bx by omega, ← hbr]
  rw [← hbr, ← hbx] at HF1
  have hbr1 : w.heap.size < br := by omega
  have hbr2 : br < w1.heap.size := by omega
  have hbx1 : br < bx := by omega
  have hbx2 : bx < w1.heap.size := by omega
  clear hbr hbx hlt2
  refine wp_rangeX (gf := 55) (lb := #[.pointer (some ⟨B0 + 1, 0, none⟩), .pointer (some ⟨B0, 0, none⟩)]) rfl (enters_of Try.func55 (by kernel_rfl) rfl)
    HSq.out (Below.refl _ _) (fun _ h => h.elim) (fun _ => rfl)
    (TlI w1 w1.heap.size bx br ss few) (TlX w1 w1.heap.size bx br ss few) (TlI.abide (by omega) (by omega) (Nat.le_refl _)) (TlX.abide (by omega) (by omega) (Nat.le_refl _))
    ⟨none, 0, ⟨But.refl _ _ _, HF1.out.2.2, HF1.out.2.1, World.ownsRow_nil _ _ _ _, id, id, (fun _ h => by cases h), (fun _ h => h.elim), (fun _ h => h.elim)⟩, by show few < 0 ∨ (0 : Int) ≤ few; omega⟩
    (fun tmps _ x a' _ => a' = { tmps := (((tmps.setIfInBounds 19 (.int .i64 x)).setIfInBounds 20 (.string (ss.getD x.toNat noS))).setIfInBounds 9 (.int .i64 x)).setIfInBounds 10 (.string (ss.getD x.toNat noS)), defers := [] }) (fun _ _ _ _ _ h _ => h) ?asg ?bdy ?dn ?stp
  case asg =>
    rintro l T pre x W K hi hK
    have HK := Lib.hid hK; clear hK
    simp only [encT]
    gi_wp2
    exact HK.out _ _ (Kept.refl _ _ _) hi rfl
  case bdy =>
    rintro l T pre x a' W hTl hl - ⟨ax, cx, hst, hfw⟩ rfl hlen
    have HST := Lib.hid hst; clear hst
    have hlen2 : pre.length ≤ 1048576 := by omega
    clear hlen
    generalize hsx : ss.getD x.toNat noS = sx at *
    have HSx := Lib.hid hsx; clear hsx
    have q0 := cell_of_row W bx 0 _ _ (0, 0) HST.out.bx_
    simp at q0
    have hn1W : w1.heap.size ≤ W.heap.size := HST.out.but.size
    gi_wp2_with (gi_at_builtin; refine wpListIn_appN Try.elemTurned rfl (.tmp 21) (.tmp 25) rfl HST.out.own hn1W (by omega) (by omega) _ rfl (by intro u hu; simp at hu; rcases hu with rfl | rfl <;> rfl) _ rfl rfl ?_)
    intro a9 c9 w9 ho9 hg9 hn9
    have b9 : ∀ b, b < w1.heap.size → w9.heap[b]? = W.heap[b]? := fun b hb => hg9.block b (by omega) (fun e => by have := (World.ownsRow.lt HST.out.own b e.symm).1; omega)
    have x9 := (b9 bx (by omega)).trans HST.out.bx_
    have y9 := (b9 br (by omega)).trans HST.out.br_
    have q1 := cell_of_row w9 bx 0 _ _ (0, 0) x9
    have f1 := frozen_of_row w9 bx 0 _ _ x9
    simp at q1
    have HOw := Lib.hid (show w9.ownsRow w1.heap.size 47 2 (.slice a9 (pre.length + 1) c9) (pre.length + 1) (flatT ss (pre ++ [x])) from by rw [flatT_push, HSx.out]; exact ho9)
    have HB9 := Lib.hid (But.grown HST.out.but hg9 hn1W (fun k e => .inr (World.ownsRow.lt HST.out.own k e).1))
    have HKp := Lib.hid (show Kept T (fun _ => False) W w9 from Kept.of_grown hg9 (fun k e h => by
      rcases h with h | h
      · exact HST.out.ta k e h
      · exact h))
    have HTa := Lib.hid (show ∀ k, (Value.slice a9 (pre.length + 1) c9).ownBlock = some k → ¬ T k from fun k hk hT => by
      rcases hn9 with h | ⟨gg, h, hgg⟩
      · rw [h] at hk; exact HST.out.ta k hk hT
      · rw [h] at hk; cases hk; have := HST.out.tl _ hT; omega)
    have HTl := Lib.hid (fun k (h : T k) => Nat.lt_of_lt_of_le (HST.out.tl k h) hg9.size)
    have e5 : W.cell? ⟨w.heap.size, 0, none⟩ = some (.int .i64 few) := HST.out.but.cell hf0 (by omega) (by omega)
    have e5' : w9.cell? ⟨w.heap.size, 0, none⟩ = some (.int .i64 few) := by rw [World.cell?_of_block (w := W) (a := ⟨w.heap.size, 0, none⟩) (b9 _ (by show w.heap.size < w1.heap.size; omega))]; exact e5
    have hlp : (pre ++ [x]).length = pre.length + 1 := by simp
    obtain ⟨w10, hw10⟩ : ∃ w10, w10 = w9.setCell ⟨bx, 0, none⟩ (.slice a9 (pre.length + 1) c9) := ⟨_, rfl⟩
    have HN10 : Hid (TlSt w1 w1.heap.size bx br ss (.slice none 0 0) T (pre ++ [x]) w10 a9 c9) := by
      rw [hw10]
      refine Lib.hid ⟨HB9.out.setCell bx 0 _ (.inl (.inl rfl)), ?_, ?_, ?_, HST.out.tx, HST.out.tr, by rw [hlp]; exact HTa.out, HST.out.tn, fun k h => by simp; exact HTl.out k h⟩
      · rw [hlp]
        have := heap_setCell_same w9 bx 0 _ _ (.slice a9 (pre.length + 1) c9) x9
        simpa using this
      · rw [heap_setCell_other w9 ⟨bx, 0, none⟩ br _ (by simp; omega)]; exact y9
      · rw [hlp]
        exact World.ownsRow.kept HOw.out (grown_store w9 bx 0 _) (ownsRow_apart HOw.out (by omega))
    have HK10 : Hid (Kept T (fun _ => False) W w10) := by
      rw [hw10]
      refine Lib.hid (HKp.out.trans ⟨by simp, fun k hk h => ?_⟩)
      have hne : k ≠ bx := by
        rcases h with h | h
        · exact fun e => HST.out.tx (e ▸ h)
        · exact h.elim
      rw [heap_setCell_other w9 ⟨bx, 0, none⟩ k _ (by simp; omega)]
    have g5 : w10.cell? ⟨w.heap.size, 0, none⟩ = some (.int .i64 few) := by
      rw [hw10, World.cell?_setCell_other _ _ _ _ (by simp <;> omega)]; exact e5'
    have g0 := cell_of_row w10 bx 0 _ _ (0, 0) HN10.out.bx_
    have gr := cell_of_row w10 br 0 _ _ (0, 0) HN10.out.br_
    have fr := frozen_of_row w10 br 0 _ _ HN10.out.br_
    rw [hlp] at g0
    simp at g0 gr
    clear ho9 hg9 hn9 b9 x9 y9 e5 e5'
    have hfw' := hfw
    clear hfw
    subst hw10
    have hcs : (few < 0) ∨ (0 ≤ few ∧ few < (pre.length : Int) + 1) ∨ (0 ≤ few ∧ ¬ few < (pre.length : Int) + 1) := by omega
    rcases hcs with h1 | ⟨h1, h2⟩ | ⟨h1, h2⟩
    · have h1' : ¬ 0 ≤ few := by omega
      clear hfw'
      gi_wp2
      exact ⟨HK10.out, a9, c9, HN10.out, .inl h1⟩
    · have hpf : (pre.length : Int) = few := by omega
      have HPf := Lib.hid hpf
      clear hfw' hpf
      gi_wp2
      refine ⟨HK10.out.trans ⟨by simp, fun k hk h => ?_⟩, a9, c9, ?_, rfl, h1, by rw [hlp]; have := HPf.out; push_cast; omega⟩
      · have hne : k ≠ br := by
          rcases h with h | h
          · exact fun e => HST.out.tr (e ▸ h)
          · exact h.elim
        rw [heap_setCell_other _ ⟨br, 0, none⟩ k _ (by simp; omega)]
      · have hN := HN10.out
        refine ⟨hN.but.setCell br 0 _ (.inl (.inr rfl)), ?_, ?_, ?_, hN.tx, hN.tr, hN.ta, hN.tn, fun k h => by have := hN.tl k h; simpa using this⟩
        · rw [heap_setCell_other _ ⟨br, 0, none⟩ bx _ (by simp; omega)]; exact hN.bx_
        · rw [hlp]
          have := heap_setCell_same _ br 0 _ _ (.slice a9 (pre.length + 1) c9) hN.br_
          simpa using this
        · exact World.ownsRow.kept hN.own (grown_store _ br 0 _) (ownsRow_apart hN.own (by omega))
    · have hpf : (pre.length : Int) + 1 ≤ few := by omega
      have HPf := Lib.hid hpf
      clear hfw' hpf
      gi_wp2
      exact ⟨HK10.out, a9, c9, HN10.out, .inr (by rw [hlp]; have := HPf.out; push_cast; omega)⟩
  case dn =>
    rintro D T xs W hD hTD hxs ⟨ax, cx, hst, hfw⟩ hDk
    have hxs' := hxs.symm; clear hxs; subst hxs'
    have HST := Lib.hid hst; clear hst
    have HFw := Lib.hid hfw; clear hfw
    have HDk := Lib.hid hDk; clear hDk
    have HTD := Lib.hid hTD; clear hTD
    have q0 := cell_of_row W bx 0 _ _ (0, 0) HST.out.bx_
    have q1 := cell_of_row W br 0 _ _ (0, 0) HST.out.br_
    have f1 := frozen_of_row W br 0 _ _ HST.out.br_
    have q2 := World.cell?_setCell_same' W ⟨br, 0, none⟩ (.slice ax P.length cx) (by rw [q1]; rfl)
    simp at q0 q1
    go_wp2
    refine leaves_mark (by rw [heap_setCell_other W ⟨br, 0, none⟩ D _ (by simp; omega)]; exact HDk.out) (leaves_nil (v := .slice ax P.length cx) ?_ ?_)
    · have q := cell_mark q2 D (.deferred none) (by omega)
      simp [results, Try.results26, go_sem, q]
    · have hst := HST.out
      have o1 : (W.setCell ⟨br, 0, none⟩ (.slice ax P.length cx)).ownsRow w1.heap.size 47 2 (.slice ax P.length cx) P.length (flatT ss P) := World.ownsRow.kept hst.own (grown_store W br 0 _) (ownsRow_apart hst.own (by omega))
      have o2 := World.ownsRow.kept o1 (grownBy_putObj' (W.setCell ⟨br, 0, none⟩ (.slice ax P.length cx)) D (.deferred none)) (by
        cases e : (Value.slice ax P.length cx).ownBlock with
        | none => exact .inl rfl
        | some k => exact .inr (fun e2 => by cases e2; exact hst.ta D e HTD.out))
      refine ⟨P.length, ax, cx, rfl, Told.all HFw.out rfl, Nat.le_refl _, ⟨?_, by simp⟩, ?_⟩
      · rw [List.take_of_length_le (Nat.le_refl _)]
        exact ownsRow_mono o2 (by omega)
      · have hW : Below w.heap.size w W := HB1.out.trans (hst.but.below w.heap.size (by omega) (fun k hk => by rcases hk with rfl | rfl <;> omega))
        exact below_mark (hW.setCell (p := ⟨br, 0, none⟩) (by show w.heap.size ≤ br; omega) _) D _ (by omega)
  case stp =>
    rintro D c T pre W hD hTD ⟨k, hk, rfl⟩ ⟨ax, cx, hst, rfl, h1, h2⟩ hDk
    have hlk : (P.take (k + 1)).length = k + 1 := by rw [List.length_take]; omega
    have HST := Lib.hid hst; clear hst
    have HDk := Lib.hid hDk; clear hDk
    have HTD := Lib.hid hTD; clear hTD
    have q1 := cell_of_row W br 0 _ _ (0, 0) HST.out.br_
    simp only [List.getElem?_toArray, List.getElem?_cons_zero] at q1
    have HL := Lib.hid hlk
    rw [hlk] at h2
    have H12 := Lib.hid (And.intro h1 h2)
    clear hlk h1 h2
    go_wp2
    refine leaves_mark HDk.out (leaves_nil (v := .slice ax (P.take (k + 1)).length cx) ?_ ?_)
    · have q := cell_mark q1 D (.deferred none) (by omega)
      simp [results, Try.results26, go_sem, q]
    · have hst := HST.out
      have o2 := World.ownsRow.kept hst.own (grownBy_putObj' W D (.deferred none)) (by
        cases e : (Value.slice ax (P.take (k + 1)).length cx).ownBlock with
        | none => exact .inl rfl
        | some k => exact .inr (fun e2 => by cases e2; exact hst.ta D e HTD.out))
      rw [HL.out] at o2 ⊢
      refine ⟨k + 1, ax, cx, rfl, Told.some H12.out.1 H12.out.2 hk, hk, ⟨ownsRow_mono o2 (by omega), HL.out⟩, ?_⟩
      have hW : Below w.heap.size w W := HB1.out.trans (hst.but.below w.heap.size (by omega) (fun k hk => by rcases hk with rfl | rfl <;> omega))
      exact below_mark hW D _ (by omega)
end Go.Proofs.Ytcgdhgdblieaiaa
