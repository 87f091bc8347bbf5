/-
  The walks of a text's places.
-/
import Derived.Test.YtmcjlkpogcnniaaU1
import Derived.Deep.QuietTactic
import Derived.BigQuiet
set_option linter.unusedVariables false
namespace Go.Proofs.Ytmcjlkpogcnniaa
open Go.RowKit

/-- a text's places in memory: block g -/
structure PlacesAt (s : ByteArray) (g : Nat) (a : Option Addr) (c : Nat) (ar : Option Addr) (cr : Nat) (w : World) : Prop where
  blk : w.heap[g]? = some (.cells #[.string s, .slice a (atsL s).length c, .slice ar (runesL s).length cr] 93 (0, 0))
  ats : Ints .i64 w a (natsI (atsL s))

structure NewSt (w : World) (s : ByteArray) (g gi : Nat) (ar : Option Addr) (cr k pos : Nat) (a : Option Addr) (c : Nat) (wr : World) : Prop where
  blk : wr.heap[g]? = some (.cells #[.string s, .slice a k c, .slice ar (runesL s).length cr] 93 (0, 0))
  it : wr.heap[gi]? = some (.stringIter s pos)
  at_ : RangeAt s k pos
  own : Own (gi + 1) 3 wr a k c (ivs .i64 (natsI ((begL s).take k)))
  below : Below w.heap.size w wr
def NewR (w : World) (s : ByteArray) (g gi : Nat) (ar : Option Addr) (cr : Nat) (wr : World) : Prop := ∃ k pos a c, k ≤ (begL s).length ∧ NewSt w s g gi ar cr k pos a c wr
def posOf (wr : World) (gi : Nat) : Nat := match wr.heap[gi]? with | some (.stringIter _ p) => p | _ => 0

/-- a text turned to runes -/
theorem runes_at (s : ByteArray) (w : World) (h46 : s.size ≤ 70368744177664) :
    ∃ a' c' w', Own w.heap.size 21 w' a' (runesL s).length c' (ivs .i32 (runesL s)) ∧ Below w.heap.size w w' ∧ (convert 9 26 (.string s)).run Try.prog w = .ok (.slice a' (runesL s).length c') w' := by
  have hle := runesL_le s
  rw [runesL_length] at hle
  have hr := run_runes_of_string (P := Try.prog) w 9 26 21 s Try.underlying9 Try.underlying26 Try.underlying21 (by omega)
  refine ⟨_, _, _, ?_, ?_, by rw [runesL_length]; exact hr⟩
  · rw [runesL_length]
    have hcap := grownCap_ge w (Conv.runesFrom s s.size 0 #[]).size 0 21
    have hsz : (Conv.runesFrom s s.size 0 #[] ++ Array.replicate (grownCap w (Conv.runesFrom s s.size 0 #[]).size 0 21 - (Conv.runesFrom s s.size 0 #[]).size) (Value.int .i32 0)).size = grownCap w (Conv.runesFrom s s.size 0 #[]).size 0 21 := by simp; omega
    have := World.ownsRow_lit (size := 1) (e := 21) (base := w.heap.size) w.drew (Conv.runesFrom s s.size 0 #[] ++ Array.replicate (grownCap w (Conv.runesFrom s s.size 0 #[]).size 0 21 - (Conv.runesFrom s s.size 0 #[]).size) (.int .i32 0)) (grownCap w (Conv.runesFrom s s.size 0 #[]).size 0 21) (Nat.le_refl _) (grownCap_le_maxLen _ _ _ _ (by unfold maxLen; omega)) (by rw [hsz]; omega)
    have h2 := Own.take this (Conv.runesFrom s s.size 0 #[]).size hcap
    simp only [Array.toList_append, Array.toList_replicate] at h2
    rw [List.take_append_of_le_length (by simp), List.take_of_length_le (by simp), runes_ivs] at h2
    exact h2
  · have : Below w.heap.size w w.drew := by have := below_drewN (Below.refl w.heap.size w) 1; exact this
    exact this.alloc (by simp) _

/-- the row of beginnings grows by one, and its slice is stored -/
theorem NewSt.push {w : World} {s : ByteArray} {g gi : Nat} {ar : Option Addr} {cr k pos : Nat} {a : Option Addr} {c : Nat} {wr w5 : World} (h : NewSt w s g gi ar cr k pos a c wr) (hg : w.heap.size ≤ g) (hgi : g < gi)
    {a' : Option Addr} {c' x : Nat} (pos' : Nat) (ho : Own (gi + 1) 3 w5 a' (k + 1) c' (ivs .i64 (natsI ((begL s).take k)) ++ [.int .i64 (x : Nat)])) (hb : Below (gi + 1) (wr.putObj gi (.stringIter s pos')) w5) :
    (∃ u, w5.cell? ⟨g, 1, none⟩ = some u) ∧ w5.frozen? ⟨g, 1, none⟩ = false ∧
    (w5.setCell ⟨g, 1, none⟩ (.slice a' (k + 1) c')).heap[g]? = some (.cells #[.string s, .slice a' (k + 1) c', .slice ar (runesL s).length cr] 93 (0, 0)) ∧
    (w5.setCell ⟨g, 1, none⟩ (.slice a' (k + 1) c')).heap[gi]? = some (.stringIter s pos') ∧
    Own (gi + 1) 3 (w5.setCell ⟨g, 1, none⟩ (.slice a' (k + 1) c')) a' (k + 1) c' (ivs .i64 (natsI ((begL s).take k)) ++ [.int .i64 (x : Nat)]) ∧
    Below w.heap.size w (w5.setCell ⟨g, 1, none⟩ (.slice a' (k + 1) c')) := by
  have hgil : gi < wr.heap.size := (Array.getElem?_eq_some_iff.1 h.it).1
  have b5 : w5.heap[g]? = some (.cells #[.string s, .slice a k c, .slice ar (runesL s).length cr] 93 (0, 0)) := by
    rw [hb.block g (by omega), World.putObj_heap_other (by omega)]; exact h.blk
  have i5 : w5.heap[gi]? = some (.stringIter s pos') := by
    rw [hb.block gi (by omega)]; exact World.putObj_heap_same hgil
  have c5 := cell_of_row w5 g 1 _ _ (0, 0) b5
  have f5 := frozen_of_row w5 g 1 _ _ b5
  have hp : Below w.heap.size wr (wr.putObj gi (.stringIter s pos')) := (Below.refl _ _).grown (row := some gi) ⟨rfl, rfl, rfl, by simp, fun k hk hne => World.putObj_heap_other (fun e => hne (by rw [e]))⟩ h.below.size (fun k e => by cases e; omega)
  refine ⟨⟨_, c5⟩, f5, ?_, ?_, ?_, ?_⟩
  · have := heap_setCell_same w5 g 1 _ _ (.slice a' (k + 1) c') b5
    simpa using this
  · rw [heap_setCell_other w5 ⟨g, 1, none⟩ gi _ (by simp; omega)]; exact i5
  · exact ho.grown (grown_store w5 g 1 _) (ho.blockAt (by omega))
  · exact (h.below.trans (hp.trans (hb.mono (by omega)))).setCell (p := ⟨g, 1, none⟩) hg _

set_option maxRecDepth 100000 in
set_option maxHeartbeats 4000000 in
theorem New_walk (s : ByteArray) (w : World) (hs : s.size ≤ 4194304) :
    Calls Try.prog 48 #[.string s] w fun e w' => ∃ g a c ar cr, e = .returned (.pointer (some ⟨g, 0, none⟩)) ∧ w.heap.size ≤ g ∧ PlacesAt s g a c ar cr w' ∧ Own w.heap.size 3 w' a (atsL s).length c (ivs .i64 (natsI (atsL s))) ∧ Below w.heap.size w w' := by
  have hRl : (begL s).length ≤ 4194304 := by rw [begL_length]; exact Nat.le_trans (runesL_le s) hs
  obtain ⟨ar, cr, w1, hor, hbr, hr⟩ := runes_at s w (by omega)
  have HOr := Lib.hid hor; clear hor
  have HBr := Lib.hid hbr; clear hbr
  obtain ⟨g, hg⟩ : ∃ g, g = w1.heap.size := ⟨_, rfl⟩
  have HSt : Hid (NewSt w s g (g + 1) ar cr 0 0 none 0 ((w1.alloc (.cells #[.string s, .slice none 0 0, .slice ar (runesL s).length cr] 93)).iter s 0)) := Lib.hid ⟨by
      rw [hg]; exact (Below.heap_alloc _ _ _ (by simp)).trans (heap_alloc_new w1 _),
    by have := World.iter_heap (w1.alloc (.cells #[.string s, .slice none 0 0, .slice ar (runesL s).length cr] 93)) s 0; rw [hg]; simpa using this,
    RangeAt.start s, Own.nil _ _ _, (HBr.out.alloc HBr.out.size _).alloc (by simp; have := HBr.out.size; omega) _⟩
  have hgw : w.heap.size ≤ g := by rw [hg]; exact HBr.out.size
  have HG := Lib.hid hg
  go_enter Try.func48, Try.ntmps48
  go_wp2
  generalize ((w1.alloc (.cells #[.string s, .slice none 0 0, .slice ar (runesL s).length cr] 93)).iter s 0) = W0 at *
  rw [← hg]
  clear hr hg
  go_loopw [4] (fun _ wr => NewR w s g (g + 1) ar cr wr) (fun _ wr => s.size - posOf wr (g + 1))
  case atStart => exact ⟨0, 0, none, 0, Nat.zero_le _, HSt.out⟩
  case round =>
    obtain ⟨k, pos, a, c, hk, hst⟩ := hrel
    have HST := Lib.hid hst; clear hst
    by_cases hp : pos < s.size
    · obtain ⟨hkl, hke, hat⟩ := HST.out.at_.next hp
      have HAt := Lib.hid hat; clear hat
      have HKe := Lib.hid hke; clear hke
      have hnx : ∀ ty, (Instr.next (.pointer (some ⟨g + 1, 0, none⟩)) true ty).run Try.prog wr = _ := fun ty => run_next_at wr (g + 1) s pos ty HST.out.it hp
      have HO5 := Lib.hid (HST.out.own.grown (grownBy_putObj' wr (g + 1) (.stringIter s (pos + (Utf8.decode s pos).2))) (HST.out.own.blockAt (by omega)))
      have c1 : (wr.putObj (g + 1) (.stringIter s (pos + (Utf8.decode s pos).2))).cell? ⟨g, 1, none⟩ = some (.slice a k c) := by
        have := cell_of_row (wr.putObj (g + 1) (.stringIter s (pos + (Utf8.decode s pos).2))) g 1 _ _ (0, 0) (by rw [World.putObj_heap_other (by omega)]; exact HST.out.blk)
        simpa using this
      have HBs : Hid (g + 1 + 1 ≤ (wr.putObj (g + 1) (.stringIter s (pos + (Utf8.decode s pos).2))).heap.size) := Lib.hid (by have := (Array.getElem?_eq_some_iff.1 HST.out.it).1; simp; omega)
      have HT := Lib.hid (show natsI ((begL s).take (k + 1)) = natsI ((begL s).take k) ++ [(pos : Int)] by
        rw [List.take_succ_eq_append_getElem hkl, HKe.out, natsI_push])
      go_wp2_with (at_builtin; refine wpList_app1x Try.elemInt rfl (.tmp 19) (.tmp 21) rfl HO5.out HBs.out (by omega) (by omega) (.int .i64 (pos : Nat)) rfl _ rfl (by rw [World.putObj_size]; rfl) ?_)
      intro a9 c9 w9 ho9 hg9 _
      obtain ⟨⟨u, q0⟩, f0, hblk, hit, hown, hbel⟩ := HST.out.push hgw (Nat.lt_succ_self g) (pos + (Utf8.decode s pos).2) (x := pos) ho9 (HO5.out.app hg9 HBs.out)
      have HN : Hid (NewSt w s g (g + 1) ar cr (k + 1) (pos + (Utf8.decode s pos).2) a9 c9 (w9.setCell ⟨g, 1, none⟩ (.slice a9 (k + 1) c9))) := Lib.hid ⟨hblk, hit, HAt.out, by rw [HT.out, ivs_append]; exact hown, hbel⟩
      have HM := Lib.hid (show posOf (w9.setCell ⟨g, 1, none⟩ (.slice a9 (k + 1) c9)) (g + 1) = pos + (Utf8.decode s pos).2 by unfold posOf; rw [hit])
      have HM0 := Lib.hid (show posOf wr (g + 1) = pos by unfold posOf; rw [HST.out.it])
      have hwd : 1 ≤ (Utf8.decode s pos).2 := by
        by_cases ha : (s[pos]'hp).toNat < 128
        · rw [decode_ascii s pos hp ha]; exact Nat.le_refl _
        · exact (decode_high s pos hp (by omega)).2
      clear ho9 hg9 hblk hit hown hbel
      go_wp2
      go_roundw
      case rel => exact ⟨k + 1, _, _, _, hkl, HN.out⟩
      case measure => rw [HM.out, HM0.out]; omega
    · have HK := Lib.hid (HST.out.at_.end_ hp)
      have HT := Lib.hid (show natsI ((begL s).take k) ++ [(s.size : Int)] = natsI (atsL s) by
        rw [List.take_of_length_le HK.out, atsL, natsI_push])
      have HKl := Lib.hid (show (atsL s).length = k + 1 by have := HK.out; rw [atsL]; simp; omega)
      have hnx : ∀ ty, (Instr.next (.pointer (some ⟨g + 1, 0, none⟩)) true ty).run Try.prog wr = _ := fun ty => run_next_over wr (g + 1) s pos ty HST.out.it hp
      have c1 : wr.cell? ⟨g, 1, none⟩ = some (.slice a k c) := by
        have := cell_of_row wr g 1 _ _ (0, 0) HST.out.blk
        simpa using this
      have HBs : Hid (g + 1 + 1 ≤ wr.heap.size) := Lib.hid (by have := (Array.getElem?_eq_some_iff.1 HST.out.it).1; omega)
      have HO5 := Lib.hid HST.out.own
      go_wp2_with (at_builtin; refine wpList_app1x Try.elemInt rfl (.tmp 29) (.tmp 32) rfl HO5.out HBs.out (by omega) (by omega) (.int .i64 (s.size : Nat)) rfl _ rfl rfl ?_)
      intro a9 c9 w9 ho9 hg9 _
      have hpp : wr.putObj (g + 1) (.stringIter s pos) = wr := by
        obtain ⟨hlt, he⟩ := Array.getElem?_eq_some_iff.1 HST.out.it
        unfold World.putObj
        congr 1
        apply Array.ext'
        rw [Array.toList_setIfInBounds]
        rw [← Array.getElem_toList] at he
        rw [← he, List.set_getElem_self]
      obtain ⟨⟨u, q0⟩, f0, hblk, hit, hown, hbel⟩ := HST.out.push hgw (Nat.lt_succ_self g) pos (x := s.size) ho9 (by rw [hpp]; exact HO5.out.app hg9 HBs.out)
      have HN : Hid (PlacesAt s g a9 c9 ar cr (w9.setCell ⟨g, 1, none⟩ (.slice a9 (k + 1) c9)) ∧ Own w.heap.size 3 (w9.setCell ⟨g, 1, none⟩ (.slice a9 (k + 1) c9)) a9 (atsL s).length c9 (ivs .i64 (natsI (atsL s)))) := Lib.hid (by
        rw [show natsI (begL s |>.take k) = natsI ((begL s).take k) from rfl] at hown
        have e : ivs .i64 (natsI ((begL s).take k)) ++ [.int .i64 (s.size : Int)] = ivs .i64 (natsI (atsL s)) := by rw [← HT.out, ivs_append]; rfl
        rw [e] at hown
        refine ⟨⟨?_, hown.ints⟩, ?_⟩
        · rw [HKl.out]; exact hblk
        · rw [HKl.out]; exact hown.mono (by omega))
      have HB := Lib.hid hbel
      clear ho9 hg9 hblk hit hown hbel hpp
      go_wp2
      go_ret
      exact ⟨_, _, _, _, _, rfl, hgw, HN.out.1, HN.out.2, HB.out⟩
end Go.Proofs.Ytmcjlkpogcnniaa
