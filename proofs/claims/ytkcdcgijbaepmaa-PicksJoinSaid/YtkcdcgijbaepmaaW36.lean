/-
  grown changes the row that it is given and nothing else; rows that lie one behind the other.
-/
import Derived.Test.YtkcdcgijbaepmaaW11
set_option linter.unusedVariables false
namespace Go.Proofs.Ytkcdcgijbaepmaa
open Go.RowKit

/-- of the blocks that were there, only row's may differ -/
def Only (row : Option Nat) (w w' : World) : Prop := w.heap.size ≤ w'.heap.size ∧ ∀ k, k < w.heap.size → some k ≠ row → w'.heap[k]? = w.heap[k]?
theorem _root_.Go.World.grownBy.only {w w' : World} {row : Option Nat} (h : w.grownBy w' row) : Only row w w' := ⟨h.size, h.block⟩
theorem Only.app {row row' : Option Nat} {w w1 w2 : World} (h : Only row w w1) (hg : w1.grownBy w2 row') (hw : ∀ g, row' = some g → some g = row ∨ w.heap.size ≤ g) : Only row w w2 :=
  ⟨Nat.le_trans h.1 hg.size, fun k hk hne => (hg.block k (Nat.lt_of_lt_of_le hk h.1) (fun e => by
    rcases hw k e.symm with h1 | h1
    · exact hne h1
    · omega)).trans (h.2 k hk hne)⟩
theorem Only.below {row : Option Nat} {w w1 w2 : World} (h : Only row w w1) (hb : Below w1.heap.size w1 w2) : Only row w w2 :=
  ⟨Nat.le_trans h.1 hb.size, fun k hk hne => (hb.block k (Nat.lt_of_lt_of_le hk h.1)).trans (h.2 k hk hne)⟩
theorem where_next {row : Option Nat} {w w1 : World} {a a2 : Option Addr} {n c n2 c2 : Nat} (h : Only row w w1) (hw : ∀ g, (Value.slice a n c).ownBlock = some g → some g = row ∨ w.heap.size ≤ g) (hn : newBlock w1 (.slice a n c) (.slice a2 n2 c2)) :
    ∀ g, (Value.slice a2 n2 c2).ownBlock = some g → some g = row ∨ w.heap.size ≤ g := fun g e => by
  rcases hn with h1 | ⟨g', h1, h2⟩
  · exact hw g (by rw [← h1]; exact e)
  · rw [e] at h1
    obtain rfl : g = g' := by simpa using h1
    exact .inr (Nat.le_trans h.1 h2)
def GrC (B n c : Nat) (a b t : Option Addr) (ws : List PD) (w : World) (v i : Value) (wr : World) : Prop :=
  ∃ (k : Nat) (a' : Option Addr) (c' : Nat), k ≤ 40 ∧ i = .int .i64 k ∧ v = .slice a' (n + k) c' ∧ Any 2 B 45 wr a' (n + k) c' ∧ Below B w wr ∧ PiecesAt wr b ws ∧ PiecesAt wr t ws ∧ (0 < ws.length → Away a' (n + k) c' b ∧ Away a' (n + k) c' t) ∧
    Only (Value.slice a n c).ownBlock w wr ∧ ∀ g, (Value.slice a' (n + k) c').ownBlock = some g → some g = (Value.slice a n c).ownBlock ∨ w.heap.size ≤ g

set_option maxRecDepth 100000 in
set_option maxHeartbeats 4000000 in
theorem grown2_walk (B : Nat) (a : Option Addr) (n c : Nat) (xs : List PD) (b : Option Addr) (cb : Nat) (t : Option Addr) (ct : Nat) (ws : List PD) (w : World) (hlt : n ≤ 65536) (hB : B ≤ w.heap.size) (hn : ws.length = n)
    (ha : OwnP B w a n c xs) (hb : PiecesAt w b ws) (ht : PiecesAt w t ws) (hab : Away a n c b) (hat : Away a n c t) :
    Calls Try.prog 22 #[.slice a n c, .slice b n cb, .slice t n ct] w fun e w' => e = .returned (.bool true) ∧ Below B w w' ∧ Only (Value.slice a n c).ownBlock w w' := by
  have HN := Lib.hid hn; clear hn
  have HA : Hid (Any 2 B 45 w a n c) := Lib.hid ⟨_, ha⟩
  have HBk := Lib.hid ha.blk
  clear ha
  have Hb := Lib.hid hb; clear hb
  have Ht := Lib.hid ht; clear ht
  have Hab := Lib.hid hab; clear hab
  have Hat := Lib.hid hat; clear hat
  go_enter Try.func22, Try.ntmps22
  go_wp2
  go_loopw [7] (GrA B n c a w) (fun i _ => n - (intOf i).toNat)
  case atStart => exact ⟨0, Nat.zero_le _, rfl, HA.out, World.grownBy.refl _ _⟩
  case round =>
    obtain ⟨k, hk, rfl, hany, hgr⟩ := hrel
    have HY := Lib.hid hany; clear hany
    have HG := Lib.hid hgr; clear hgr
    by_cases hkn : k < n
    · obtain ⟨g, ha, -, -⟩ := HY.out.at (by omega)
      subst ha
      have HT := Lib.hid (HY.out.there k hkn)
      have HY' := Lib.hid (HY.out.setCells (k * 2) [.int .i64 (-5), .int .i64 0])
      have HG' := Lib.hid (grown_tr HG.out (grown_storeN g [.int .i64 (-5), .int .i64 0] (k * 2) wr))
      obtain ⟨u0, u1, q0, f0, q1, f1⟩ := there_two HT.out (.int .i64 (-5))
      have hki : (k : Int) < (n : Int) := by omega
      go_wp2
      go_roundw
      case rel => exact ⟨k + 1, by omega, by go_num, HY'.out, HG'.out⟩
      case measure => simp [intOf]; omega
    · obtain ⟨w3, rfl⟩ : ∃ w3 : World, w3 = wr := ⟨_, rfl⟩
      have HB3 := Lib.hid (Below.ofGrown HG.out hB HBk.out)
      have Hb3 := Lib.hid (Hb.out.grownAway HG.out Hab.out)
      have Ht3 := Lib.hid (Ht.out.grownAway HG.out Hat.out)
      go_wp2
      clear hkn hk
      go_loopw [0, 8] (GrC B n c a b t ws w) (fun _ i _ => 40 - (intOf i).toNat)
      case atStart => exact ⟨0, a, c, by omega, rfl, rfl, HY.out, HB3.out, Hb3.out, Ht3.out, (fun _ => ⟨Hab.out, Hat.out⟩), HG.out.only, fun g h => .inl h.symm⟩
      case round =>
        obtain ⟨k, a', c', hk, rfl, rfl, hany, hbel, hpb, hpt, haw, honly, hwhere⟩ := hrel
        have HOn := Lib.hid honly; clear honly
        have HWh := Lib.hid hwhere; clear hwhere
        have HY2 := Lib.hid hany; clear hany
        have HB2 := Lib.hid hbel; clear hbel
        have Hb2 := Lib.hid hpb; clear hpb
        have Ht2 := Lib.hid hpt; clear hpt
        have Haw := Lib.hid haw; clear haw
        by_cases hk4 : k < 40
        · obtain ⟨ys, hown⟩ := HY2.out
          have HO := Lib.hid hown; clear hown
          have hsz : B ≤ wr.heap.size := by have := HB2.out.size; omega
          go_wp2_with (at_builtin; refine wpList_appN Try.elemPiece rfl (.tmp 23) (.tmp 25) rfl HO.out hsz (by omega) (by omega) #[.int .i64 (-6), .int .i64 0] rfl (by intro u hu; simp at hu; rcases hu with rfl | rfl <;> rfl) _ rfl rfl ?_)
          intro a9 c9 w9 ho9 hg9 hn9
          have HY9 : Hid (Any 2 B 45 w9 a9 (n + (k + 1)) c9) := Lib.hid ⟨_, ho9⟩
          have HB9 := Lib.hid (HB2.out.trans (Below.ofGrown hg9 hsz (fun q hq => (World.ownsRow.lt HO.out q hq).1)))
          have Hb9 : Hid (PiecesAt w9 b ws) := Lib.hid (by
            by_cases h0 : 0 < ws.length
            · exact Hb2.out.grownAway hg9 (Haw.out h0).1
            · exact fun i hi => absurd hi (by omega))
          have Ht9 : Hid (PiecesAt w9 t ws) := Lib.hid (by
            by_cases h0 : 0 < ws.length
            · exact Ht2.out.grownAway hg9 (Haw.out h0).2
            · exact fun i hi => absurd hi (by omega))
          have Haw9 : Hid (0 < ws.length → Away a9 (n + (k + 1)) c9 b ∧ Away a9 (n + (k + 1)) c9 t) := Lib.hid (fun h0 => ⟨(Haw.out h0).1.next hn9 Hb2.out h0, (Haw.out h0).2.next hn9 Ht2.out h0⟩)
          have HOn9 := Lib.hid (HOn.out.app hg9 HWh.out)
          have HWh9 := Lib.hid (where_next (n2 := n + (k + 1)) (c2 := c9) HOn.out HWh.out hn9)
          clear ho9 hg9 hn9
          go_wp2
          go_roundw
          case rel => exact ⟨k + 1, _, _, by omega, by go_num, rfl, HY9.out, HB9.out, Hb9.out, Ht9.out, Haw9.out, HOn9.out, HWh9.out⟩
          case measure => simp [intOf]; omega
        · have hk40 : k = 40 := by omega
          have HK := Lib.hid hk40
          go_wp2_with fail
          refine (Same_walk b n cb ws t n ct ws wr HN.out HN.out (by omega) Hb2.out Ht2.out).mono ?_
          rintro e w8 ⟨rfl, hb8⟩
          rw [show decide (ws = ws) = true from decide_eq_true rfl]
          have HBe := Lib.hid (HB2.out.trans (hb8.mono (by have := HB2.out.size; omega)))
          have HOe := Lib.hid (HOn.out.below hb8)
          clear hb8
          have hkk : (((n + k : Nat) : Int) == (n : Int) + 40) = true := by rw [beq_iff_eq]; omega
          go_wp2
          go_ret
          exact ⟨rfl, HBe.out, HOe.out⟩

theorem OwnP.keep {B : Nat} {w w' : World} {a : Option Addr} {n c : Nat} {rs : List PD} (h : OwnP B w a n c rs) (hk : ∀ g, (Value.slice a n c).ownBlock = some g → w'.heap[g]? = w.heap[g]?) : OwnP B w' a n c rs := by
  refine ⟨h.1, ?_⟩
  rcases h.2 with hn | ⟨g, cap, cur, e, hbg, hgg, rest⟩
  · exact .inl hn
  · exact .inr ⟨g, cap, cur, e, hbg, (hk g (by rw [e]; rfl)).trans hgg, rest⟩
/-- a row that lies in the blocks from lo to hi -/
structure Slot (lo hi : Nat) (w : World) (a : Option Addr) (n c : Nat) (rs : List PD) : Prop where
  own : OwnP lo w a n c rs
  top : ∀ g, (Value.slice a n c).ownBlock = some g → g < hi
theorem Slot.mk' {lo : Nat} {w : World} {a : Option Addr} {n c : Nat} {rs : List PD} (h : OwnP lo w a n c rs) : Slot lo w.heap.size w a n c rs := ⟨h, fun g e => (World.ownsRow.lt h g e).2⟩
theorem Slot.below {lo hi B : Nat} {w w' : World} {a : Option Addr} {n c : Nat} {rs : List PD} (h : Slot lo hi w a n c rs) (hb : Below B w w') (hB : w.heap.size ≤ B) : Slot lo hi w' a n c rs := ⟨h.own.below hb hB, h.top⟩
theorem Slot.low {lo hi : Nat} {w : World} {a : Option Addr} {n c : Nat} {rs : List PD} (h : Slot lo hi w a n c rs) : ∀ g, (Value.slice a n c).ownBlock = some g → lo ≤ g := fun g e => (World.ownsRow.lt h.own g e).1
theorem Slot.only {lo hi lo2 hi2 : Nat} {w w2 w' : World} {a b : Option Addr} {n c m d : Nat} {rs qs : List PD} (h : Slot lo hi w a n c rs) (hx : Slot lo2 hi2 w2 b m d qs) (hd : hi2 ≤ lo ∨ hi ≤ lo2) (ho : Only (Value.slice b m d).ownBlock w w') : Slot lo hi w' a n c rs :=
  ⟨h.own.keep (fun g e => ho.2 g (World.ownsRow.lt h.own g e).2 (fun e2 => by
    have h1 := h.top g e
    have h2 := h.low g e
    have h3 := hx.top g e2.symm
    have h4 := hx.low g e2.symm
    omega)), h.top⟩
theorem Slot.away {lo hi lo2 hi2 : Nat} {w w2 : World} {a b : Option Addr} {n c m d : Nat} {rs qs : List PD} (h : Slot lo hi w a n c rs) (hx : Slot lo2 hi2 w2 b m d qs) (hd : hi2 ≤ lo ∨ hi ≤ lo2) : Away a n c b := by
  intro k o e e2
  subst e
  have h1 := h.top k e2
  have h2 := h.low k e2
  have h3 := hx.top k rfl
  have h4 := hx.low k rfl
  omega
end Go.Proofs.Ytkcdcgijbaepmaa
