/-
  What ParasEach collects.
-/
import Derived.Test.YtmcjlkpogcnniaaU6
import Derived.LoopN
set_option linter.unusedVariables false
namespace Go.Proofs.Ytmcjlkpogcnniaa
open Go.RowKit Go.Shelf
attribute [local go_sem] Oper.semAt_some

/-- a cut around a range over a function: what follows is walked once -/
theorem wp_cutX {P : Program} {st : Code} {K : Act → World → Prop} {Q' : Exit → Act → World → Prop} {a : Act} {w : World} (G : Nat → World → Prop)
    (rest : ∀ D w', G D w' → K { a with defers := { target := .collected D, args := #[] } :: a.defers } w')
    (first : ∀ K' : Act → World → Prop, (∀ D w', G D w' → K' { a with defers := { target := .collected D, args := #[] } :: a.defers } w') → st.wp P (Exit.then K' Q') a w) : st.wp P (Exit.then K Q') a w := by
  refine wp_mono (first (fun a' w' => ∃ D, a' = { a with defers := { target := .collected D, args := #[] } :: a.defers } ∧ G D w') (fun D w' h => ⟨D, rfl, h⟩)) ?_
  intro e a' w' hq
  cases e with
  | normal =>
    obtain ⟨D, rfl, h⟩ := hq
    exact rest D w' h
  | exit id => exact hq
  | goto l => exact hq
  | ret => exact hq
  | panic ch => exact hq
  | outgrown => exact hq

/-- parts told: pieces with their texts, three cells each -/
def flat3 (s : ByteArray) (ps : List (Nat × Nat)) : List Value := ps.flatMap (fun p => [.int .i64 (p.1 : Nat), .int .i64 (p.2 : Nat), .string (subS s p)])
theorem flat3_push (s : ByteArray) (ps : List (Nat × Nat)) (p : Nat × Nat) : flat3 s (ps ++ [p]) = flat3 s ps ++ [.int .i64 (p.1 : Nat), .int .i64 (p.2 : Nat), .string (subS s p)] := by simp [flat3]
theorem flat3_get (s : ByteArray) (ps : List (Nat × Nat)) (i : Nat) (hi : i < ps.length) : (flat3 s ps)[i * 3]? = some (.int .i64 ((ps[i]).1 : Nat)) ∧ (flat3 s ps)[i * 3 + 1]? = some (.int .i64 ((ps[i]).2 : Nat)) ∧ (flat3 s ps)[i * 3 + 2]? = some (.string (subS s ps[i])) := by
  induction ps generalizing i with
  | nil => simp at hi
  | cons p t ih =>
    have e : flat3 s (p :: t) = .int .i64 (p.1 : Nat) :: .int .i64 (p.2 : Nat) :: .string (subS s p) :: flat3 s t := rfl
    cases i with
    | zero => rw [e]; simp
    | succ i =>
      simp at hi
      have := ih i hi
      rw [e, show (i + 1) * 3 = i * 3 + 1 + 1 + 1 by omega]
      simpa using this
theorem flat3_length (s : ByteArray) (ps : List (Nat × Nat)) : (flat3 s ps).length = ps.length * 3 := by
  induction ps with
  | nil => rfl
  | cons p t ih =>
    have e : flat3 s (p :: t) = .int .i64 (p.1 : Nat) :: .int .i64 (p.2 : Nat) :: .string (subS s p) :: flat3 s t := rfl
    rw [e]
    simp only [List.length_cons]
    omega
theorem Try.elemPart : ElemN Try.prog 69 71 (.agg #[.int .i64 0, .int .i64 0, .string { data := #[] }]) 3 32 := ⟨Try.underlying69, by kernel_rfl, by kernel_rfl, by decide⟩

/-- between two rounds of a loop that counts -/
structure CntSt (W0 : World) (n1 b : Nat) (few : Int) (T : Nat → Prop) (pre : List (Nat × Nat)) (W : World) : Prop where
  but : But n1 (fun k => k = b) W0 W
  bx : W.heap[b]? = some (.cells #[.int .i64 (pre.length : Nat)] 3 (0, 0))
  tx : ¬ T b
  tn : ∀ k, T k → n1 ≤ k
  tl : ∀ k, T k → k < W.heap.size
def CntI (W0 : World) (n1 b : Nat) (few : Int) (T : Nat → Prop) (pre : List (Nat × Nat)) (W : World) : Prop := CntSt W0 n1 b few T pre W ∧ (few < 1 ∨ (pre.length : Int) < few)
def CntX (W0 : World) (n1 b : Nat) (few : Int) (c : Code) (T : Nat → Prop) (pre : List (Nat × Nat)) (W : World) : Prop := CntSt W0 n1 b few T pre W ∧ c = .exit 4 ∧ 1 ≤ few ∧ (pre.length : Int) = few
theorem CntSt.abide {W0 : World} {n1 b : Nat} {few : Int} (hx : b < n1) (h1 : n1 ≤ W0.heap.size) : Abide (CntSt W0 n1 b few) := by
  intro T T' pre W W' h ho hwd
  have hn : n1 ≤ W.heap.size := Nat.le_trans h1 h.but.size
  refine ⟨h.but.off ho h.tn hn, ho.cellsBlock h.bx h.tx, fun hT' => ?_, fun k hk => ?_, fun k hk => ?_⟩
  · rcases hwd b hT' with h2 | h2
    · exact h.tx h2
    · omega
  · rcases hwd k hk with h2 | h2
    · exact h.tn k h2
    · omega
  · rcases hwd k hk with h2 | h2
    · have := h.tl k h2; have := ho.size; omega
    · exact h2.2

/-- between two rounds of a loop that collects parts -/
structure PrtSt (W0 : World) (n1 bx : Nat) (s : ByteArray) (T : Nat → Prop) (pre : List (Nat × Nat)) (W : World) (ax : Option Addr) (cx : Nat) : Prop where
  but : But n1 (fun k => k = bx) W0 W
  bx_ : W.heap[bx]? = some (.cells #[.slice ax pre.length cx] 69 (0, 0))
  own : W.ownsRow n1 71 3 (.slice ax pre.length cx) pre.length (flat3 s pre)
  tx : ¬ T bx
  ta : ∀ k, (Value.slice ax pre.length cx).ownBlock = some k → ¬ T k
  tn : ∀ k, T k → n1 ≤ k
  tl : ∀ k, T k → k < W.heap.size
def PrtI (W0 : World) (n1 bx : Nat) (s : ByteArray) (T : Nat → Prop) (pre : List (Nat × Nat)) (W : World) : Prop := ∃ ax cx, PrtSt W0 n1 bx s T pre W ax cx
theorem PrtI.abide {W0 : World} {n1 bx : Nat} {s : ByteArray} (hx : bx < n1) (h1 : n1 ≤ W0.heap.size) : Abide (PrtI W0 n1 bx s) := by
  rintro T T' pre W W' ⟨ax, cx, h⟩ ho hwd
  have hn : n1 ≤ W.heap.size := Nat.le_trans h1 h.but.size
  have hb : ∀ b, b < W.heap.size → ¬ T b → ¬ T' b := fun b hb hT hT' => by
    rcases hwd b hT' with h2 | h2
    · exact hT h2
    · omega
  refine ⟨ax, cx, h.but.off ho h.tn hn, ho.cellsBlock h.bx_ h.tx, ownsRow_off h.own ho h.ta, hb _ (by omega) h.tx, fun k hk => hb k (World.ownsRow.lt h.own k hk).2 (h.ta k hk), fun k hk => ?_, fun k hk => ?_⟩
  · rcases hwd k hk with h2 | h2
    · exact h.tn k h2
    · omega
  · rcases hwd k hk with h2 | h2
    · have := h.tl k h2; have := ho.size; omega
    · exact h2.2

/-- the contract of the iterator over nothing -/
theorem each_none (s : ByteArray) (B1 B2 : Nat) (R : Nat → Prop) (w : World) (h1 : w.cell? ⟨B1, 0, none⟩ = some .nilIface) :
    SeqX (α := Nat × Nat) Try.prog 47 #[.pointer (some ⟨B1, 0, none⟩), .pointer (some ⟨B2, 0, none⟩)] (encP s) R (fun xs => xs = []) (fun _ => False) 0 w := by
  intro l J Jx W hW hJ hJx hY h0
  refine callsIn_wide.2 ?_
  have H0 := Lib.hid h0; clear h0 hJ hJx hY
  have q1 : W.cell? ⟨B1, 0, none⟩ = some .nilIface := by rw [hW.cell (p := ⟨B1, 0, none⟩) (World.block_lt_of_cell? w _ h1)]; exact h1
  clear h1 hW
  go_enter Try.func47, Try.ntmps47
  go_wp2
  refine bodyPost_ret (results_none rfl _ _ _) rfl ?_
  exact ⟨⟨_, rfl⟩, .inl ⟨_, [], rfl, H0.out⟩⟩

/-- between two rounds of a range over a text that collects where the characters begin -/
def BegR (w : World) (s : ByteArray) (gi : Nat) (v : Value) (wr : World) : Prop := ∃ k pos a c, k ≤ (begL s).length ∧ v = .slice a k c ∧ wr.heap[gi]? = some (.stringIter s pos) ∧ RangeAt s k pos ∧ Own (gi + 1) 3 wr a k c (ivs .i64 (natsI ((begL s).take k))) ∧ Below w.heap.size w wr
end Go.Proofs.Ytmcjlkpogcnniaa
