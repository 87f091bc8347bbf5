/-
  The walk of grown: an answer's memory is its own.
-/
import Derived.Test.YtkcdcgijbaepmaaW10
set_option linter.unusedVariables false
namespace Go.Proofs.Ytkcdcgijbaepmaa
open Go.RowKit

/-- the row at a does not lie where b begins -/
def Away (a : Option Addr) (n c : Nat) (b : Option Addr) : Prop := ∀ k o, b = some ⟨k, o, none⟩ → (Value.slice a n c).ownBlock ≠ some k
theorem PiecesAt.grownAway {w w' : World} {a b : Option Addr} {n c : Nat} {qs : List PD} (h : PiecesAt w b qs) (hg : w.grownBy w' (Value.slice a n c).ownBlock) (ha : Away a n c b) : PiecesAt w' b qs := by
  intro i hi
  obtain ⟨k, o, e, h1, h2⟩ := h i hi
  have hl := World.block_lt_of_cell? w _ h1
  have hb := hg.block k hl (fun e2 => ha k o e e2.symm)
  exact ⟨k, o, e, by rw [World.cell?_of_block (w := w) (a := ⟨k, o + i * 2, none⟩) hb]; exact h1, by rw [World.cell?_of_block (w := w) (a := ⟨k, o + i * 2 + 1, none⟩) hb]; exact h2⟩
theorem Away.next {w : World} {a a' b : Option Addr} {n c n' c' : Nat} {qs : List PD} (h : Away a n c b) (hn : newBlock w (.slice a n c) (.slice a' n' c')) (hq : PiecesAt w b qs) (h0 : 0 < qs.length) : Away a' n' c' b := by
  intro k o e
  rcases hn with hn | ⟨g, hn, hle⟩
  · rw [hn]; exact h k o e
  · rw [hn]
    obtain ⟨k', o', e', h1, _⟩ := hq 0 h0
    have hl := World.block_lt_of_cell? w _ h1
    rw [e] at e'
    simp at e' hl
    intro e2
    simp at e2
    omega
theorem grown_tr {w1 w2 w3 : World} {row : Option Nat} (h1 : w1.grownBy w2 row) (h2 : w2.grownBy w3 row) : w1.grownBy w3 row :=
  ⟨h2.os.trans h1.os, h2.tape.trans h1.tape, h2.output.trans h1.output, Nat.le_trans h1.size h2.size, fun k hk hne => by rw [h2.block k (Nat.lt_of_lt_of_le hk h1.size) hne, h1.block k hk hne]⟩
def GrA (B n c : Nat) (a : Option Addr) (w : World) (i : Value) (wr : World) : Prop := ∃ k : Nat, k ≤ n ∧ i = .int .i64 k ∧ Any 2 B 45 wr a n c ∧ w.grownBy wr (Value.slice a n c).ownBlock
def GrB (B n : Nat) (b t : Option Addr) (ws : List PD) (w : World) (v i : Value) (wr : World) : Prop :=
  ∃ (k : Nat) (a' : Option Addr) (c' : Nat), k ≤ 40 ∧ i = .int .i64 k ∧ v = .slice a' (n + k) c' ∧ Any 2 B 45 wr a' (n + k) c' ∧ Below B w wr ∧ PiecesAt wr b ws ∧ PiecesAt wr t ws ∧ (0 < ws.length → Away a' (n + k) c' b ∧ Away a' (n + k) c' t)

set_option maxRecDepth 100000 in
set_option maxHeartbeats 4000000 in
theorem grown_walk (B : Nat) (a : Option Addr) (n c : Nat) (xs : List PD) (b : Option Addr) (cb : Nat) (t : Option Addr) (ct : Nat) (ws : List PD) (w : World) (hlt : n ≤ 65536) (hB : B ≤ w.heap.size) (hn : ws.length = n)
    (ha : OwnP B w a n c xs) (hb : PiecesAt w b ws) (ht : PiecesAt w t ws) (hab : Away a n c b) (hat : Away a n c t) :
    Calls Try.prog 22 #[.slice a n c, .slice b n cb, .slice t n ct] w fun e w' => e = .returned (.bool true) ∧ Below B w w' := by
  have HN := Lib.hid hn; clear hn
  have HA : Hid (Any 2 B 45 w a n c) := Lib.hid ⟨_, ha⟩
  have HBk := Lib.hid ha.blk
  clear ha
  have Hb := Lib.hid hb; clear hb
  have Ht := Lib.hid ht; clear ht
  have Hab := Lib.hid hab; clear hab
  have Hat := Lib.hid hat; clear hat
  go_enter Try.func22, Try.ntmps22
  go_wp2
  go_loopw [7] (GrA B n c a w) (fun i _ => n - (intOf i).toNat)
  case atStart => exact ⟨0, Nat.zero_le _, rfl, HA.out, World.grownBy.refl _ _⟩
  case round =>
    obtain ⟨k, hk, rfl, hany, hgr⟩ := hrel
    have HY := Lib.hid hany; clear hany
    have HG := Lib.hid hgr; clear hgr
    by_cases hkn : k < n
    · obtain ⟨g, ha, -, -⟩ := HY.out.at (by omega)
      subst ha
      have HT := Lib.hid (HY.out.there k hkn)
      have HY' := Lib.hid (HY.out.setCells (k * 2) [.int .i64 (-5), .int .i64 0])
      have HG' := Lib.hid (grown_tr HG.out (grown_storeN g [.int .i64 (-5), .int .i64 0] (k * 2) wr))
      obtain ⟨u0, u1, q0, f0, q1, f1⟩ := there_two HT.out (.int .i64 (-5))
      have hki : (k : Int) < (n : Int) := by omega
      go_wp2
      go_roundw
      case rel => exact ⟨k + 1, by omega, by go_num, HY'.out, HG'.out⟩
      case measure => simp [intOf]; omega
    · obtain ⟨w3, rfl⟩ : ∃ w3 : World, w3 = wr := ⟨_, rfl⟩
      have HB3 := Lib.hid (Below.ofGrown HG.out hB HBk.out)
      have Hb3 := Lib.hid (Hb.out.grownAway HG.out Hab.out)
      have Ht3 := Lib.hid (Ht.out.grownAway HG.out Hat.out)
      go_wp2
      clear hkn hk
      go_loopw [0, 8] (GrB B n b t ws w) (fun _ i _ => 40 - (intOf i).toNat)
      case atStart => exact ⟨0, a, c, by omega, rfl, rfl, HY.out, HB3.out, Hb3.out, Ht3.out, fun _ => ⟨Hab.out, Hat.out⟩⟩
      case round =>
        obtain ⟨k, a', c', hk, rfl, rfl, hany, hbel, hpb, hpt, haw⟩ := hrel
        have HY2 := Lib.hid hany; clear hany
        have HB2 := Lib.hid hbel; clear hbel
        have Hb2 := Lib.hid hpb; clear hpb
        have Ht2 := Lib.hid hpt; clear hpt
        have Haw := Lib.hid haw; clear haw
        by_cases hk4 : k < 40
        · obtain ⟨ys, hown⟩ := HY2.out
          have HO := Lib.hid hown; clear hown
          have hsz : B ≤ wr.heap.size := by have := HB2.out.size; omega
          go_wp2_with (at_builtin; refine wpList_appN Try.elemPiece rfl (.tmp 23) (.tmp 25) rfl HO.out hsz (by omega) (by omega) #[.int .i64 (-6), .int .i64 0] rfl (by intro u hu; simp at hu; rcases hu with rfl | rfl <;> rfl) _ rfl rfl ?_)
          intro a9 c9 w9 ho9 hg9 hn9
          have HY9 : Hid (Any 2 B 45 w9 a9 (n + (k + 1)) c9) := Lib.hid ⟨_, ho9⟩
          have HB9 := Lib.hid (HB2.out.trans (Below.ofGrown hg9 hsz (fun q hq => (World.ownsRow.lt HO.out q hq).1)))
          have Hb9 : Hid (PiecesAt w9 b ws) := Lib.hid (by
            by_cases h0 : 0 < ws.length
            · exact Hb2.out.grownAway hg9 (Haw.out h0).1
            · exact fun i hi => absurd hi (by omega))
          have Ht9 : Hid (PiecesAt w9 t ws) := Lib.hid (by
            by_cases h0 : 0 < ws.length
            · exact Ht2.out.grownAway hg9 (Haw.out h0).2
            · exact fun i hi => absurd hi (by omega))
          have Haw9 : Hid (0 < ws.length → Away a9 (n + (k + 1)) c9 b ∧ Away a9 (n + (k + 1)) c9 t) := Lib.hid (fun h0 => ⟨(Haw.out h0).1.next hn9 Hb2.out h0, (Haw.out h0).2.next hn9 Ht2.out h0⟩)
          clear ho9 hg9 hn9
          go_wp2
          go_roundw
          case rel => exact ⟨k + 1, _, _, by omega, by go_num, rfl, HY9.out, HB9.out, Hb9.out, Ht9.out, Haw9.out⟩
          case measure => simp [intOf]; omega
        · have hk40 : k = 40 := by omega
          have HK := Lib.hid hk40
          go_wp2_with fail
          refine (Same_walk b n cb ws t n ct ws wr HN.out HN.out (by omega) Hb2.out Ht2.out).mono ?_
          rintro e w8 ⟨rfl, hb8⟩
          rw [show decide (ws = ws) = true from decide_eq_true rfl]
          have HBe := Lib.hid (HB2.out.trans (hb8.mono (by have := HB2.out.size; omega)))
          clear hb8
          have hkk : (((n + k : Nat) : Int) == (n : Int) + 40) = true := by rw [beq_iff_eq]; omega
          go_wp2
          go_ret
          exact ⟨rfl, HBe.out⟩
end Go.Proofs.Ytkcdcgijbaepmaa
