/-
  The walks of props made by hand.
-/
import Derived.Test.YtcgdhgdblieaiaaPR1
set_option linter.unusedVariables false
namespace Go.Proofs.Ytcgdhgdblieaiaa
open Go.RowKit

def knownC (c : Int) : Int := if c < 1 ∨ 23 < c then 14 else c
def askedR (r : Int) : Int := if r < 0 ∨ 1114111 < r then 65533 else r
theorem rClass_walk (c : Int) (w : World) : Calls Try.prog 45 #[.int .u8 c] w fun e w' => e = .returned (.int .u8 (knownC c)) ∧ w = w' := by
  by_cases h1 : c < 1
  · have HR := Lib.hid (show knownC c = 14 from if_pos (.inl h1))
    go_enter Try.func45, Try.ntmps45
    go_wp2
    go_ret
    exact ⟨by rw [HR.out]; rfl, rfl⟩
  · by_cases h2 : 23 < c
    · have HR := Lib.hid (show knownC c = 14 from if_pos (.inr h2))
      go_enter Try.func45, Try.ntmps45
      go_wp2
      go_ret
      exact ⟨by rw [HR.out]; rfl, rfl⟩
    · have HR := Lib.hid (show knownC c = c from if_neg (by omega))
      go_enter Try.func45, Try.ntmps45
      go_wp2
      go_ret
      exact ⟨by rw [HR.out]; rfl, rfl⟩
theorem rRune_walk (c : Int) (w : World) : Calls Try.prog 50 #[.int .i32 c] w fun e w' => e = .returned (.int .i32 (askedR c)) ∧ w = w' := by
  by_cases h1 : c < 0
  · have HR := Lib.hid (show askedR c = 65533 from if_pos (.inl h1))
    go_enter Try.func50, Try.ntmps50
    go_wp2
    go_ret
    exact ⟨by rw [HR.out]; rfl, rfl⟩
  · by_cases h2 : 1114111 < c
    · have HR := Lib.hid (show askedR c = 65533 from if_pos (.inr h2))
      go_enter Try.func50, Try.ntmps50
      go_wp2
      go_ret
      exact ⟨by rw [HR.out]; rfl, rfl⟩
    · have HR := Lib.hid (show askedR c = c from if_neg (by omega))
      go_enter Try.func50, Try.ntmps50
      go_wp2
      go_ret
      exact ⟨by rw [HR.out]; rfl, rfl⟩


def classN (rest : Int) (cs : List CharD) (r : Int) : Int := match findC cs r with
  | some c => c.cls
  | none => rest
theorem box_facts {w : World} {cs : Array Value} {E : TypeId} : (w.alloc (.cells cs E)).heap[w.heap.size]? = some (.cells cs E (0, 0)) := heap_alloc_new w _

set_option maxHeartbeats 2000000 in
theorem PClass_walk (rest : Int) (a : Option Addr) (n cap : Nat) (cs : List CharD) (r : Int) (w : World) (hn : cs.length = n) (hm : n ≤ 9223372036854775807) (hc : Chars w a cs) :
    Calls Try.prog 46 #[.agg #[.int .u8 rest, .slice a n cap], .int .i32 r] w fun e w' => e = .returned (.int .u8 (classN rest cs r)) ∧ Below w.heap.size w w' := by
  have HN := Lib.hid hn; clear hn
  have HC := Lib.hid hc; clear hc
  have HA : Hid (Below w.heap.size w (w.alloc (.cells #[.int .u8 rest, .slice a n cap] 54))) := Lib.hid ((Below.refl _ w).alloc (Nat.le_refl _) _)
  have HAt := Lib.hid (at_walk rest a n cap cs r (w.alloc (.cells #[.int .u8 rest, .slice a n cap] 54)) HN.out hm (HC.out.below HA.out (Nat.le_refl _)))
  have HBx : Hid (∀ w' : World, Below (w.alloc (.cells #[.int .u8 rest, .slice a n cap] 54)).heap.size (w.alloc (.cells #[.int .u8 rest, .slice a n cap] 54)) w' → w'.heap[w.heap.size]? = some (.cells #[.int .u8 rest, .slice a n cap] 54 (0, 0)) ∧ Below w.heap.size w w') := by
    refine Lib.hid (fun w' hb => ⟨?_, HA.out.trans (hb.mono (by simp))⟩)
    rw [hb.block w.heap.size (by simp)]
    exact heap_alloc_new w _
  go_enter Try.func46, Try.ntmps46
  go_wp2_with fail
  refine HAt.out.mono ?_
  rintro e w1 ⟨rfl, hb1⟩
  obtain ⟨hblk, hb⟩ := HBx.out w1 hb1
  have HB1 := Lib.hid hb; clear hb hb1
  have p0 := cell_of_row w1 w.heap.size 0 _ _ (0, 0) hblk
  simp at p0
  have hlt : w.heap.size < w1.heap.size := (Array.getElem?_eq_some_iff.1 hblk).1
  clear hblk
  cases hf : findC cs r with
  | none =>
    have HR := Lib.hid (show classN rest cs r = rest by unfold classN; rw [hf])
    rw [show atV cs r = .tuple #[.agg #[.int .i32 0, .int .u8 0, .int .i32 0, .int .u8 0, .int .i32 0, .int .i32 0, .bool false], .bool false] by unfold atV; rw [hf]; rfl]
    clear hf
    go_wp2
    go_ret
    exact ⟨by rw [HR.out]; rfl, HB1.out.alloc HB1.out.size _⟩
  | some c =>
    obtain ⟨x0, x1, x2, x3, x4, x5, x6⟩ := c
    have HR := Lib.hid (show classN rest cs r = x1 by unfold classN; rw [hf])
    rw [show atV cs r = .tuple #[.agg #[.int .i32 x0, .int .u8 x1, .int .i32 x2, .int .u8 x3, .int .i32 x4, .int .i32 x5, .bool x6], .bool true] by unfold atV; rw [hf]; rfl]
    clear hf
    go_wp2
    go_ret
    exact ⟨by rw [HR.out]; rfl, HB1.out.alloc HB1.out.size _⟩

/-- props in a block of their own, which the call has made first -/
structure PB (w : World) (rest : Int) (a : Option Addr) (n cap : Nat) (wr : World) : Prop where
  blk : wr.heap[w.heap.size]? = some (.cells #[.int .u8 rest, .slice a n cap] 54 (0, 0))
  below : Below w.heap.size w wr
theorem PB.start (w : World) (rest : Int) (a : Option Addr) (n cap : Nat) : PB w rest a n cap (w.alloc (.cells #[.int .u8 rest, .slice a n cap] 54)) :=
  ⟨heap_alloc_new w _, (Below.refl _ w).alloc (Nat.le_refl _) _⟩
theorem PB.next {w wr w' : World} {rest : Int} {a : Option Addr} {n cap : Nat} (h : PB w rest a n cap wr) (hb : Below wr.heap.size wr w') : PB w rest a n cap w' :=
  ⟨by rw [hb.block w.heap.size (Array.getElem?_eq_some_iff.1 h.blk).1]; exact h.blk, h.below.trans (hb.mono h.below.size)⟩
theorem PB.c0 {w wr : World} {rest : Int} {a : Option Addr} {n cap : Nat} (h : PB w rest a n cap wr) : wr.cell? ⟨w.heap.size, 0, none⟩ = some (.int .u8 rest) := by
  have := cell_of_row wr w.heap.size 0 _ _ (0, 0) h.blk
  simpa using this
theorem PB.c1 {w wr : World} {rest : Int} {a : Option Addr} {n cap : Nat} (h : PB w rest a n cap wr) : wr.cell? ⟨w.heap.size, 1, none⟩ = some (.slice a n cap) := by
  have := cell_of_row wr w.heap.size 1 _ _ (0, 0) h.blk
  simpa using this

theorem PB.next1 {w wr w' : World} {rest : Int} {a : Option Addr} {n cap : Nat} (h : PB w rest a n cap wr) (hb : Below (w.heap.size + 1) wr w') : PB w rest a n cap w' :=
  ⟨by rw [hb.block w.heap.size (Nat.lt_succ_self _)]; exact h.blk, h.below.trans (hb.mono (Nat.le_succ _))⟩

def brV (cs : List CharD) (r : Int) : Int × Int := match findC cs r with
  | some c => if c.side = 1 ∨ c.side = 2 then (c.other, c.side) else (0, 0)
  | none => (0, 0)
def twV (cs : List CharD) (r : Int) : Int := match findC cs r with
  | some c => if c.twin = 0 then r else c.twin
  | none => r

set_option maxHeartbeats 2000000 in
theorem PBracket_walk (rest : Int) (a : Option Addr) (n cap : Nat) (cs : List CharD) (r : Int) (w : World) (hn : cs.length = n) (hm : n ≤ 9223372036854775807) (hc : Chars w a cs) :
    Calls Try.prog 44 #[.agg #[.int .u8 rest, .slice a n cap], .int .i32 r] w fun e w' => e = .returned (.tuple #[.int .i32 (brV cs r).1, .int .u8 (brV cs r).2]) ∧ Below w.heap.size w w' := by
  have HN := Lib.hid hn; clear hn
  have HC := Lib.hid hc; clear hc
  have HP0 := Lib.hid (PB.start w rest a n cap)
  have HAt := Lib.hid (at_walk rest a n cap cs r _ HN.out hm (HC.out.below HP0.out.below (Nat.le_refl _)))
  go_enter Try.func44, Try.ntmps44
  go_wp2_with fail
  refine HAt.out.mono ?_
  rintro e w1 ⟨rfl, hb1⟩
  have HP1 := Lib.hid (HP0.out.next hb1); clear hb1
  have HB1 := Lib.hid HP1.out.below
  cases hf : findC cs r with
  | none =>
    have HR := Lib.hid (show brV cs r = (0, 0) by unfold brV; rw [hf])
    rw [show atV cs r = .tuple #[.agg #[.int .i32 0, .int .u8 0, .int .i32 0, .int .u8 0, .int .i32 0, .int .i32 0, .bool false], .bool false] by unfold atV; rw [hf]; rfl]
    clear hf
    go_wp2
    go_ret2
    exact ⟨by rw [HR.out]; rfl, HB1.out.alloc HB1.out.size _⟩
  | some c =>
    obtain ⟨x0, x1, x2, x3, x4, x5, x6⟩ := c
    rw [show atV cs r = .tuple #[.agg #[.int .i32 x0, .int .u8 x1, .int .i32 x2, .int .u8 x3, .int .i32 x4, .int .i32 x5, .bool x6], .bool true] by unfold atV; rw [hf]; rfl]
    by_cases h12 : x3 = 1 ∨ x3 = 2
    · have HR := Lib.hid (show brV cs r = (x2, x3) by unfold brV; rw [hf]; exact if_pos h12)
      clear hf
      rcases h12 with rfl | rfl
      all_goals
        go_wp2
        go_quiet (fail)
        go_wp2
        go_ret2
        exact ⟨by rw [HR.out]; rfl, below_drewN (HB1.out.alloc HB1.out.size _) _⟩
    · have HR := Lib.hid (show brV cs r = (0, 0) by unfold brV; rw [hf]; exact if_neg h12)
      have b1 : (x3 != 1) = true := bne_iff_ne.2 (fun h => h12 (.inl h))
      have b2 : (x3 != 2) = true := bne_iff_ne.2 (fun h => h12 (.inr h))
      clear hf h12
      go_wp2
      go_ret2
      exact ⟨by rw [HR.out]; rfl, HB1.out.alloc HB1.out.size _⟩

set_option maxHeartbeats 2000000 in
theorem PTwin_walk (rest : Int) (a : Option Addr) (n cap : Nat) (cs : List CharD) (r : Int) (w : World) (hn : cs.length = n) (hm : n ≤ 9223372036854775807) (hc : Chars w a cs) :
    Calls Try.prog 47 #[.agg #[.int .u8 rest, .slice a n cap], .int .i32 r] w fun e w' => e = .returned (.int .i32 (twV cs r)) ∧ Below w.heap.size w w' := by
  have HN := Lib.hid hn; clear hn
  have HC := Lib.hid hc; clear hc
  have HP0 := Lib.hid (PB.start w rest a n cap)
  have HAt := Lib.hid (at_walk rest a n cap cs r _ HN.out hm (HC.out.below HP0.out.below (Nat.le_refl _)))
  go_enter Try.func47, Try.ntmps47
  go_wp2_with fail
  refine HAt.out.mono ?_
  rintro e w1 ⟨rfl, hb1⟩
  have HP1 := Lib.hid (HP0.out.next hb1); clear hb1
  have HB1 := Lib.hid HP1.out.below
  cases hf : findC cs r with
  | none =>
    have HR := Lib.hid (show twV cs r = r by unfold twV; rw [hf])
    rw [show atV cs r = .tuple #[.agg #[.int .i32 0, .int .u8 0, .int .i32 0, .int .u8 0, .int .i32 0, .int .i32 0, .bool false], .bool false] by unfold atV; rw [hf]; rfl]
    clear hf
    go_wp2
    go_ret
    exact ⟨by rw [HR.out]; rfl, HB1.out.alloc HB1.out.size _⟩
  | some c =>
    obtain ⟨x0, x1, x2, x3, x4, x5, x6⟩ := c
    rw [show atV cs r = .tuple #[.agg #[.int .i32 x0, .int .u8 x1, .int .i32 x2, .int .u8 x3, .int .i32 x4, .int .i32 x5, .bool x6], .bool true] by unfold atV; rw [hf]; rfl]
    by_cases h4 : x4 = 0
    · have HR := Lib.hid (show twV cs r = r by unfold twV; rw [hf]; exact if_pos h4)
      subst h4
      clear hf
      go_wp2
      go_ret
      exact ⟨by rw [HR.out]; rfl, HB1.out.alloc HB1.out.size _⟩
    · have HR := Lib.hid (show twV cs r = x4 by unfold twV; rw [hf]; exact if_neg h4)
      have b4 : (x4 == 0) = false := by simpa using h4
      clear hf h4
      go_wp2
      go_ret
      exact ⟨by rw [HR.out]; rfl, HB1.out.alloc HB1.out.size _⟩

def MayR (w : World) (rest : Int) (a : Option Addr) (n cap : Nat) (v : Value) (wr : World) : Prop := ∃ k : Nat, k ≤ n ∧ v = .int .i64 k ∧ PB w rest a n cap wr

set_option maxRecDepth 100000 in
set_option maxHeartbeats 4000000 in
theorem PMay_walk (rest : Int) (a : Option Addr) (n cap : Nat) (cs : List CharD) (w : World) (hn : cs.length = n) (hm : n ≤ 9223372036854775807) (hc : Chars w a cs) :
    Calls Try.prog 29 #[.agg #[.int .u8 rest, .slice a n cap]] w fun e w' => ∃ b, e = .returned (.bool b) ∧ Below w.heap.size w w' := by
  have HN := Lib.hid hn; clear hn
  have HC := Lib.hid hc; clear hc
  go_enter Try.func29, Try.ntmps29
  go_wp2
  go_loopw [3] (MayR w rest a n cap) (fun v _ => n - (intOf v).toNat)
  case atStart => exact ⟨0, Nat.zero_le _, rfl, PB.start w rest a n cap⟩
  case round =>
    obtain ⟨k, hk, rfl, hpb⟩ := hrel
    have HP := Lib.hid hpb; clear hpb
    have p0 := HP.out.c0
    have p1 := HP.out.c1
    by_cases hlt : k < n
    · have hkl : k < cs.length := by rw [HN.out]; exact hlt
      have hki : (k : Int) < (n : Int) := by omega
      obtain ⟨b, o, ha, hch⟩ := (HC.out.below HP.out.below (Nat.le_refl _)) k hkl
      subst ha
      obtain ⟨c0, c1, c2, c3, c4, c5, c6⟩ := hch
      generalize hr : cs[k].rune = r at *
      clear c1 c2 c3 c4 c5 c6 hr
      go_wp2_with fail
      refine (PBracket_walk rest (some ⟨b, o, none⟩) n cap cs r wr HN.out hm (HC.out.below HP.out.below (Nat.le_refl _))).mono ?_
      rintro e w1 ⟨rfl, hb⟩
      generalize brV cs r = br at *
      obtain ⟨other, side⟩ := br
      have HP1 := Lib.hid (HP.out.next hb); clear hb p0 p1 c0
      have p0 := HP1.out.c0
      have p1 := HP1.out.c1
      by_cases hs : side = 0
      · subst hs
        go_wp2
        go_roundw
        case rel => exact ⟨k + 1, by omega, by go_num, HP1.out⟩
        case measure => simp [intOf]; omega
      · have bs : (side == 0) = false := by simpa using hs
        clear hs
        go_wp2_with fail
        refine (PBracket_walk rest (some ⟨b, o, none⟩) n cap cs other w1 HN.out hm (HC.out.below HP1.out.below (Nat.le_refl _))).mono ?_
        rintro e w2 ⟨rfl, hb⟩
        generalize brV cs other = br at *
        obtain ⟨back, far⟩ := br
        have HP2 := Lib.hid (HP1.out.next hb); clear hb p0 p1
        have p0 := HP2.out.c0
        have p1 := HP2.out.c1
        by_cases hx : (far == 0) = true ∨ (far == side) = true ∨ (back != r) = true
        · have hd : (far == 0) = true ∨ ((far == 0) = false ∧ (far == side) = true) ∨ ((far == 0) = false ∧ (far == side) = false ∧ (back != r) = true) := by
            cases h1 : (far == 0) <;> cases h2 : (far == side) <;> simp_all
          clear hx
          rcases hd with h1 | ⟨h1, h2⟩ | ⟨h1, h2, h3⟩
          all_goals
            go_wp2
            go_ret
            exact ⟨_, rfl, HP2.out.below⟩
        · have h1 : (far == 0) = false := by cases h : (far == 0) <;> simp_all
          have h2 : (far == side) = false := by cases h : (far == side) <;> simp_all
          have h3 : (back != r) = false := by cases h : (back != r) <;> simp_all
          clear hx
          go_wp2_with fail
          refine (PClass_walk rest (some ⟨b, o, none⟩) n cap cs r w2 HN.out hm (HC.out.below HP2.out.below (Nat.le_refl _))).mono ?_
          rintro e w3 ⟨rfl, hb⟩
          generalize classN rest cs r = cl at *
          have HP3 := Lib.hid (HP2.out.next hb); clear hb p0 p1
          have p0 := HP3.out.c0
          have p1 := HP3.out.c1
          go_wp2_with fail
          refine (rClass_walk cl _).mono ?_
          rintro e w' ⟨rfl, rfl⟩
          generalize knownC cl = kn at *
          by_cases h4 : kn = 14
          · subst h4
            go_wp2_with fail
            refine (PTwin_walk rest (some ⟨b, o, none⟩) n cap cs r w3 HN.out hm (HC.out.below HP3.out.below (Nat.le_refl _))).mono ?_
            rintro e w4 ⟨rfl, hb⟩
            generalize twV cs r = tw at *
            have HP4 := Lib.hid (HP3.out.next hb); clear hb p0 p1
            have p0 := HP4.out.c0
            have p1 := HP4.out.c1
            go_wp2_with fail
            refine (PBracket_walk rest (some ⟨b, o, none⟩) n cap cs tw w4 HN.out hm (HC.out.below HP4.out.below (Nat.le_refl _))).mono ?_
            rintro e w5 ⟨rfl, hb⟩
            generalize brV cs tw = br at *
            obtain ⟨its, same⟩ := br
            have HP5 := Lib.hid (HP4.out.next hb); clear hb p0 p1
            have p0 := HP5.out.c0
            have p1 := HP5.out.c1
            cases h5 : (same != side) with
            | true =>
              go_wp2
              go_ret
              exact ⟨_, rfl, HP5.out.below⟩
            | false =>
              go_wp2_with fail
              refine (PTwin_walk rest (some ⟨b, o, none⟩) n cap cs tw w5 HN.out hm (HC.out.below HP5.out.below (Nat.le_refl _))).mono ?_
              rintro e w6 ⟨rfl, hb⟩
              generalize twV cs tw = tw2 at *
              have HP6 := Lib.hid (HP5.out.next hb); clear hb p0 p1
              have p0 := HP6.out.c0
              have p1 := HP6.out.c1
              cases h6 : (tw2 != tw) with
              | true =>
                go_wp2
                go_ret
                exact ⟨_, rfl, HP6.out.below⟩
              | false =>
                go_wp2_with fail
                refine (PTwin_walk rest (some ⟨b, o, none⟩) n cap cs other w6 HN.out hm (HC.out.below HP6.out.below (Nat.le_refl _))).mono ?_
                rintro e w7 ⟨rfl, hb⟩
                generalize twV cs other = tw3 at *
                have HP7 := Lib.hid (HP6.out.next hb); clear hb p0 p1
                cases h7 : (its != tw3) with
                | true =>
                  go_wp2
                  go_ret
                  exact ⟨_, rfl, HP7.out.below⟩
                | false =>
                  go_wp2
                  go_roundw
                  case rel => exact ⟨k + 1, by omega, by go_num, HP7.out⟩
                  case measure => simp [intOf]; omega
          · have b4 : (kn != 14) = true := by simpa using h4
            clear h4
            go_wp2
            go_ret
            exact ⟨_, rfl, HP3.out.below⟩
    · obtain rfl : k = n := by omega
      go_wp2
      go_ret
      exact ⟨_, rfl, HP.out.below⟩

def mirV (cs : List CharD) (r : Int) : Int × Bool := match findC cs r with
  | some c => if c.turns = true then (c.mirror, true) else (r, false)
  | none => (r, false)

set_option maxHeartbeats 2000000 in
theorem PMirror_walk (rest : Int) (a : Option Addr) (n cap : Nat) (cs : List CharD) (r : Int) (w : World) (hn : cs.length = n) (hm : n ≤ 9223372036854775807) (hc : Chars w a cs) :
    Calls Try.prog 49 #[.agg #[.int .u8 rest, .slice a n cap], .int .i32 r] w fun e w' => e = .returned (.tuple #[.int .i32 (mirV cs r).1, .bool (mirV cs r).2]) ∧ Below w.heap.size w w' := by
  have HN := Lib.hid hn; clear hn
  have HC := Lib.hid hc; clear hc
  have HP0 := Lib.hid (PB.start w rest a n cap)
  have HAt := Lib.hid (at_walk rest a n cap cs r _ HN.out hm (HC.out.below HP0.out.below (Nat.le_refl _)))
  go_enter Try.func49, Try.ntmps49
  go_wp2_with fail
  refine HAt.out.mono ?_
  rintro e w1 ⟨rfl, hb1⟩
  have HP1 := Lib.hid (HP0.out.next hb1); clear hb1
  have HB1 := Lib.hid HP1.out.below
  cases hf : findC cs r with
  | none =>
    have HR := Lib.hid (show mirV cs r = (r, false) by unfold mirV; rw [hf])
    rw [show atV cs r = .tuple #[.agg #[.int .i32 0, .int .u8 0, .int .i32 0, .int .u8 0, .int .i32 0, .int .i32 0, .bool false], .bool false] by unfold atV; rw [hf]; rfl]
    clear hf
    go_wp2
    go_ret2
    exact ⟨by rw [HR.out]; rfl, HB1.out.alloc HB1.out.size _⟩
  | some c =>
    obtain ⟨x0, x1, x2, x3, x4, x5, x6⟩ := c
    rw [show atV cs r = .tuple #[.agg #[.int .i32 x0, .int .u8 x1, .int .i32 x2, .int .u8 x3, .int .i32 x4, .int .i32 x5, .bool x6], .bool true] by unfold atV; rw [hf]; rfl]
    cases x6 with
    | true =>
      have HR := Lib.hid (show mirV cs r = (x5, true) by unfold mirV; rw [hf]; exact if_pos rfl)
      clear hf
      go_wp2
      go_ret2
      exact ⟨by rw [HR.out]; rfl, HB1.out.alloc HB1.out.size _⟩
    | false =>
      have HR := Lib.hid (show mirV cs r = (r, false) by unfold mirV; rw [hf]; exact if_neg (fun h => by cases h))
      clear hf
      go_wp2
      go_ret2
      exact ⟨by rw [HR.out]; rfl, HB1.out.alloc HB1.out.size _⟩
end Go.Proofs.Ytcgdhgdblieaiaa
