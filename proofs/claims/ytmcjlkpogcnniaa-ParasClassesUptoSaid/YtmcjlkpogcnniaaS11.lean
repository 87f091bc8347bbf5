/-
  The walk of ParasClasses.
-/
import Derived.Test.YtmcjlkpogcnniaaS10
import Derived.Test.YtmcjlkpogcnniaaS5
set_option linter.unusedVariables false
namespace Go.Proofs.Ytmcjlkpogcnniaa
open Go.RowKit

theorem Classes_nil (a1 : Option Addr) (n1 cap1 : Nat) (w : World) :
    Calls Try.prog 17 #[.nilIface, .slice a1 n1 cap1] w fun e w' => e = .returned (.tuple #[.slice none 0 0, .int .i64 1]) ∧ w = w' := by
  go_enter Try.func17, Try.ntmps17
  go_wp2
  go_ret2
  exact ⟨rfl, rfl⟩

theorem apart_of {u v : Value} (B : Nat) (hu : ∀ k, u.ownBlock = some k → B ≤ k) (hv : ∀ k, v.ownBlock = some k → k < B) : u.ownBlock = none ∨ u.ownBlock ≠ v.ownBlock := by
  cases hk : u.ownBlock with
  | none => exact .inl rfl
  | some k =>
    refine .inr (fun e => ?_)
    have h1 := hu k hk
    have h2 := hv k e.symm
    omega

/-- a text turned to runes -/
theorem runes_conv (s : ByteArray) (w : World) (h46 : s.size ≤ 70368744177664) :
    ∃ a' c' w', Own w.heap.size 21 w' a' (runesL s).length c' (ivs .i32 (runesL s)) ∧ Below w.heap.size w w' ∧ (convert 9 26 (.string s)).run Try.prog w = .ok (.slice a' (runesL s).length c') w' := by
  have hle := runesL_le s
  rw [runesL_length] at hle
  have hr := run_runes_of_string (P := Try.prog) w 9 26 21 s Try.underlying9 Try.underlying26 Try.underlying21 (by omega)
  refine ⟨_, _, _, ?_, ?_, by rw [runesL_length]; exact hr⟩
  · rw [runesL_length]
    have hcap := grownCap_ge w (Conv.runesFrom s s.size 0 #[]).size 0 21
    have hsz : (Conv.runesFrom s s.size 0 #[] ++ Array.replicate (grownCap w (Conv.runesFrom s s.size 0 #[]).size 0 21 - (Conv.runesFrom s s.size 0 #[]).size) (Value.int .i32 0)).size = grownCap w (Conv.runesFrom s s.size 0 #[]).size 0 21 := by simp; omega
    have := World.ownsRow_lit (size := 1) (e := 21) (base := w.heap.size) w.drew (Conv.runesFrom s s.size 0 #[] ++ Array.replicate (grownCap w (Conv.runesFrom s s.size 0 #[]).size 0 21 - (Conv.runesFrom s s.size 0 #[]).size) (.int .i32 0)) (grownCap w (Conv.runesFrom s s.size 0 #[]).size 0 21) (Nat.le_refl _) (grownCap_le_maxLen _ _ _ _ (by unfold maxLen; omega)) (by rw [hsz]; omega)
    have h2 := Own.take this (Conv.runesFrom s s.size 0 #[]).size hcap
    simp only [Array.toList_append, Array.toList_replicate] at h2
    rw [List.take_append_of_le_length (by simp), List.take_of_length_le (by simp), runes_ivs] at h2
    exact h2
  · have : Below w.heap.size w w.drew := by have := below_drewN (Below.refl w.heap.size w) 1; exact this
    exact this.alloc (by simp) _

def CL1 (w : World) (s1 s2 s3 : Nat) (a3 a4 a5 : Option Addr) (m c3 c4 c5 : Nat) (C : List Int) (i : Value) (wr : World) : Prop :=
  ∃ k : Nat, k ≤ m ∧ i = .int .i64 k ∧ s1 ≤ wr.heap.size ∧ Any 1 s1 22 wr a3 m c3 ∧ Own s2 22 wr a4 m c4 (ivs .u8 C) ∧ Own s3 22 wr a5 m c5 (ivs .u8 C) ∧ Below w.heap.size w wr
def apartV (u v : Value) : Prop := u.ownBlock = none ∨ u.ownBlock ≠ v.ownBlock
structure CL2S (w : World) (s1 s2 s3 : Nat) (a' a4 a5 : Option Addr) (m k c' c4 c5 : Nat) (C : List Int) (wr : World) : Prop where
  o : ∃ xs, Own s1 22 wr a' (m + k) c' xs
  p4 : apartV (.slice a4 m c4) (.slice a' (m + k) c')
  p5 : apartV (.slice a5 m c5) (.slice a' (m + k) c')
  o4 : Own s2 22 wr a4 m c4 (ivs .u8 C)
  o5 : Own s3 22 wr a5 m c5 (ivs .u8 C)
  below : Below w.heap.size w wr
  sz : s1 ≤ wr.heap.size
def CL2 (w : World) (s1 s2 s3 : Nat) (a4 a5 : Option Addr) (m c4 c5 : Nat) (C : List Int) (v i : Value) (wr : World) : Prop :=
  ∃ (k : Nat) (a' : Option Addr) (c' : Nat), k ≤ 40 ∧ v = .slice a' (m + k) c' ∧ i = .int .i64 k ∧ CL2S w s1 s2 s3 a' a4 a5 m k c' c4 c5 C wr
def CL3 (w : World) (s6 s7 : Nat) (a6 a7 : Option Addr) (m c6 c7 : Nat) (R : List Int) (i : Value) (wr : World) : Prop :=
  ∃ k : Nat, k ≤ m ∧ i = .int .i64 k ∧ Any 1 s6 21 wr a6 m c6 ∧ Own s7 21 wr a7 m c7 (ivs .i32 R) ∧ Below w.heap.size w wr

theorem one_there {w : World} {g o : Nat} (h : w.there g (o * 1) 1) : ∃ u, w.cell? ⟨g, o, none⟩ = some u ∧ w.frozen? ⟨g, o, none⟩ = false := by
  obtain ⟨h0, f0⟩ := h 0 (by omega)
  rw [Nat.mul_one, Nat.add_zero] at h0 f0
  obtain ⟨u, e⟩ := Option.isSome_iff_exists.1 h0
  exact ⟨u, e, f0⟩
theorem Any.setCell {s B : Nat} {E : TypeId} {w : World} {g n cap : Nat} (h : Any s B E w (some ⟨g, 0, none⟩) n cap) (o : Nat) (v : Value) : Any s B E (w.setCell ⟨g, o, none⟩ v) (some ⟨g, 0, none⟩) n cap := h.setCells o [v]
theorem Own.setCellLow {B : Nat} {E : TypeId} {w : World} {a : Option Addr} {n cap : Nat} {xs : List Value} (h : Own B E w a n cap xs) (g o : Nat) (v : Value) (hg : g < B) : Own B E (w.setCell ⟨g, o, none⟩ v) a n cap xs :=
  World.ownsRow.kept h (grown_store w g o v) (ownsRow_apart h hg)

set_option maxRecDepth 100000 in
set_option maxHeartbeats 8000000 in
theorem classes_walk (rest : Int) (a : Option Addr) (n cap : Nat) (cs : List CharD) (a1 : Option Addr) (n1 cap1 : Nat) (rs : List Int) (s : ByteArray) (w : World)
    (hn : cs.length = n) (hm : n ≤ 1048576) (hc : Chars w a cs) (h : ArgL .i32 w a1 n1 cap1 rs) (hs : s.size ≤ 1048576) :
    Calls Try.prog 3 #[.agg #[.int .u8 rest, .slice a n cap], .slice a1 n1 cap1, .string s] w fun e w' => e = .returned (.bool true) ∧ Below w.heap.size w w' := by
  have HN := Lib.hid hn; clear hn
  have HC := Lib.hid hc; clear hc
  have HA := Lib.hid h; clear h
  have hle := HA.out.le
  have HP0 := Lib.hid (PB.start w rest a n cap)
  obtain ⟨C, hC⟩ : ∃ C, C = rs.map (clsOf rest cs) := ⟨_, rfl⟩
  have HCl := Lib.hid (show C.length = n1 by rw [hC, List.length_map, HA.out.len])
  have HCe := Lib.hid hC; clear hC
  have HMy := Lib.hid (PMay_walk rest a n cap cs _ HN.out (by omega) (HC.out.below HP0.out.below (Nat.le_refl _)))
  go_enter Try.func3, Try.ntmps3
  go_wp2_with fail
  refine HMy.out.mono ?_
  rintro e w1 ⟨b, rfl, hb⟩
  have HP1 := Lib.hid (HP0.out.next hb); clear hb
  cases b with
  | false =>
    go_wp2_with fail
    refine (awake_walk _).mono ?_
    rintro e w2 ⟨rfl, hb⟩
    have HB2 := Lib.hid (HP1.out.below.trans (hb.mono HP1.out.below.size))
    go_wp2
    go_ret
    exact ⟨rfl, HB2.out⟩
  | true =>
    go_wp2_with fail
    refine (lentRunes_walk a1 n1 cap1 rs w1 HA.out.len (by omega) HA.out.none_ (HA.out.ints.below HP1.out.below (Nat.le_refl _))).mono ?_
    rintro e w2 ⟨a2, c2, rfl, hc2, ho, hb⟩
    obtain ⟨g, ha, hg1, hg2, _, hcm⟩ := ho.at (by omega)
    subst ha
    have HF2 := Lib.hid ho.ints; clear ho
    have HP2 := Lib.hid (HP1.out.next hb); clear hb
    have p0 := HP2.out.c0
    have p1 := HP2.out.c1
    go_wp2_with fail
    refine (Classes_walk rest a n cap cs (some ⟨g, 0, none⟩) n1 c2 rs w2 HN.out (by omega) (HC.out.below HP2.out.below (Nat.le_refl _)) HA.out.len (by omega) HF2.out.front).mono ?_
    rintro e w3 ⟨a3, m3, c3, rfl, ho, hb⟩
    rw [← HCe.out] at ho
    obtain rfl : m3 = n1 := by rw [← HCl.out]; exact ho.lenI.symm
    have HO3 := Lib.hid ho; clear ho
    have HF3 := Lib.hid (HF2.out.below hb (Nat.le_refl _))
    have HS23 := Lib.hid hb.size
    have HP3 := Lib.hid (HP2.out.next hb); clear hb p0 p1
    have p0 := HP3.out.c0
    have p1 := HP3.out.c1
    go_wp2_with fail
    refine (Classes_walk rest a n cap cs (some ⟨g, 0, none⟩) m3 c2 rs w3 HN.out (by omega) (HC.out.below HP3.out.below (Nat.le_refl _)) HA.out.len (by omega) HF3.out.front).mono ?_
    rintro e w4 ⟨a4, m4, c4, rfl, ho, hb⟩
    rw [← HCe.out] at ho
    obtain rfl : m4 = m3 := by rw [← HCl.out]; exact ho.lenI.symm
    have HO4 := Lib.hid ho; clear ho
    have HO34 := Lib.hid (HO3.out.below hb (Nat.le_refl _))
    have HF4 := Lib.hid (HF3.out.below hb (Nat.le_refl _))
    have HS34 := Lib.hid hb.size
    have HP4 := Lib.hid (HP3.out.next hb); clear hb p0 p1
    have p0 := HP4.out.c0
    have p1 := HP4.out.c1
    go_wp2_with fail
    refine (Classes_nil _ _ _ w4).mono ?_
    rintro e w' ⟨rfl, rfl⟩
    go_wp2_with fail
    refine (rClasses_walk rest a n cap cs a1 m4 cap1 rs w4 HN.out (by omega) (HC.out.below HP4.out.below (Nat.le_refl _)) HA.out.len (by omega) (HA.out.ints.below HP4.out.below (Nat.le_refl _))).mono ?_
    rintro e w5 ⟨a5, m5, c5, rfl, ho, hb⟩
    rw [← HCe.out] at ho
    obtain rfl : m5 = m4 := by rw [← HCl.out]; exact ho.lenI.symm
    have HO5 := Lib.hid ho; clear ho
    have HO35 := Lib.hid (HO34.out.below hb (Nat.le_refl _))
    have HO45 := Lib.hid (HO4.out.below hb (Nat.le_refl _))
    have HF5 := Lib.hid (HF4.out.below hb (Nat.le_refl _))
    have HB5 := Lib.hid (HP4.out.next hb).below
    have HS25 := Lib.hid (Nat.le_trans HS23.out (Nat.le_trans HS34.out hb.size)); clear hb p0 p1
    have HS02 := Lib.hid (show w.heap.size ≤ w2.heap.size from HP2.out.below.size)
    clear HP0 HP1 HP2 HP3 HP4
    have HSm1 := Lib.hid (Same_walk a3 a5 m5 c3 m5 c5 C C w5 HCl.out HCl.out (by omega) HO35.out.ints HO5.out.ints)
    rw [decide_eq_true (rfl : C = C)] at HSm1
    go_wp2_with fail
    refine HSm1.out.mono ?_
    rintro e w6 ⟨rfl, hb⟩
    have HO36 := Lib.hid (HO35.out.below hb (Nat.le_refl _))
    have HO46 := Lib.hid (HO45.out.below hb (Nat.le_refl _))
    have HO56 := Lib.hid (HO5.out.below hb (Nat.le_refl _))
    have HF6 := Lib.hid (HF5.out.below hb (Nat.le_refl _))
    have HB6 := Lib.hid (below_seq HB5.out hb)
    have HS26 := Lib.hid (Nat.le_trans HS25.out hb.size); clear hb
    clear HSm1 HO35 HO34 HO45
    go_wp2_with fail
    refine (keptRunes_walk g m5 c2 a1 cap1 rs w6 HA.out.len (by omega) hc2 hcm HF6.out (HA.out.below HB6.out (Nat.le_refl _)).ints).mono ?_
    rintro e w7 ⟨rfl, hb⟩
    have HO37 := Lib.hid (HO36.out.below hb (Nat.le_refl _))
    have HO47 := Lib.hid (HO46.out.below hb (Nat.le_refl _))
    have HO57 := Lib.hid (HO56.out.below hb (Nat.le_refl _))
    have HB7 := Lib.hid (below_seq HB6.out hb)
    have HS27 := Lib.hid (Nat.le_trans HS26.out hb.size); clear hb
    clear HO36 HO46 HO56 HF2 HF3 HF4 HF5 HF6
    have HL3 : Hid (∀ k, (Value.slice a3 m5 c3).ownBlock = some k → w2.heap.size ≤ k ∧ k < w3.heap.size) := Lib.hid (World.ownsRow.lt HO3.out)
    have HP34 := Lib.hid (apart_of (u := .slice a4 m5 c4) (v := .slice a3 m5 c3) w3.heap.size HO4.out.blk (fun k hk => (HL3.out k hk).2))
    have HP35 := Lib.hid (apart_of (u := .slice a5 m5 c5) (v := .slice a3 m5 c3) w3.heap.size (fun k hk => Nat.le_trans HS34.out (HO5.out.blk k hk)) (fun k hk => (HL3.out k hk).2))
    go_wp2
    go_loopw [15] (CL1 w w2.heap.size w3.heap.size w4.heap.size a3 a4 a5 m5 c3 c4 c5 C) (fun i _ => m5 - (intOf i).toNat)
    case atStart => exact ⟨0, Nat.zero_le _, rfl, HS27.out, HO37.out.any, HO47.out, HO57.out, HB7.out⟩
    case round =>
      obtain ⟨k, hk, rfl, hsr, hy, ho4, ho5, hbl⟩ := hrel
      have HSr := Lib.hid hsr; clear hsr
      have HY := Lib.hid hy; clear hy
      have HO48 := Lib.hid ho4; clear ho4
      have HO58 := Lib.hid ho5; clear ho5
      have HB8 := Lib.hid hbl; clear hbl
      by_cases hlt : k < m5
      · obtain ⟨g3, ha, -, -⟩ := HY.out.at (by omega)
        subst ha
        obtain ⟨hl1, hl2⟩ := HL3.out g3 rfl
        obtain ⟨u, q0, f0⟩ := one_there (HY.out.there k hlt)
        have HY' := Lib.hid (HY.out.setCell k (.int .u8 99))
        have HO4' := Lib.hid (HO48.out.setCellLow g3 k (.int .u8 99) hl2)
        have HO5' := Lib.hid (HO58.out.setCellLow g3 k (.int .u8 99) (by have := HS34.out; omega))
        have HB' := Lib.hid (HB8.out.setCell (p := ⟨g3, k, none⟩) (by have := HS02.out; simp; omega) (.int .u8 99))
        go_wp2
        go_roundw
        case rel => exact ⟨k + 1, by omega, by go_num, by rw [size_set]; exact HSr.out, HY'.out, HO4'.out, HO5'.out, HB'.out⟩
        case measure => simp [intOf]; omega
      · obtain rfl : k = m5 := by omega
        have HSz := HSr
        go_wp2
        go_loopw [8, 78] (CL2 w w2.heap.size w3.heap.size w4.heap.size a4 a5 k c4 c5 C) (fun _ i _ => 40 - (intOf i).toNat)
        case atStart => exact ⟨0, a3, c3, Nat.zero_le _, rfl, rfl, ⟨HY.out, HP34.out, HP35.out, HO48.out, HO58.out, HB8.out, HSz.out⟩⟩
        case round =>
          obtain ⟨j, a', c', hj, rfl, rfl, hst⟩ := hrel
          have HST := Lib.hid hst; clear hst
          by_cases hlt : j < 40
          · obtain ⟨xs, ho⟩ := HST.out.o
            have HOx := Lib.hid ho; clear ho
            have hj2 : (j : Int) < 40 := by omega
            go_wp2_with (at_builtin; refine wpList_app1x Try.elemClass rfl (.tmp 80) (.tmp 81) rfl HOx.out HST.out.sz (by omega) (by omega) _ rfl _ rfl rfl ?_)
            intro a9 c9 w9 ho9 hg9 hn9
            have HN9 : Hid (CL2S w w2.heap.size w3.heap.size w4.heap.size a9 a4 a5 k (j + 1) c9 c4 c5 C w9) := Lib.hid ⟨⟨_, ho9⟩,
              apart_new hn9 HST.out.o4.lt HST.out.p4, apart_new hn9 HST.out.o5.lt HST.out.p5, HST.out.o4.grown hg9 HST.out.p4, HST.out.o5.grown hg9 HST.out.p5,
              HST.out.below.trans ((HOx.out.app hg9 HST.out.sz).mono HS02.out), Nat.le_trans HST.out.sz hg9.size⟩
            clear ho9 hg9 hn9
            go_wp2
            go_roundw
            case rel => exact ⟨j + 1, a9, c9, by omega, rfl, by go_num, HN9.out⟩
            case measure => simp [intOf]; omega
          · obtain rfl : j = 40 := by omega
            have HO49 := Lib.hid HST.out.o4
            have HO59 := Lib.hid HST.out.o5
            have HB9 := Lib.hid HST.out.below
            clear HST HP34 HP35 HL3
            have HSm2 := Lib.hid (Same_walk a4 a5 k c4 k c5 C C wr HCl.out HCl.out (by omega) HO49.out.ints HO59.out.ints)
            rw [decide_eq_true (rfl : C = C)] at HSm2
            go_wp2_with fail
            refine HSm2.out.mono ?_
            rintro e w10 ⟨rfl, hb⟩
            have HB10 := Lib.hid (below_seq HB9.out hb); clear hb
            clear HSm2
            go_wp2_with fail
            refine (Runes_walk s w10 (by omega)).mono ?_
            rintro e w11 ⟨a6, c6, rfl, ho, hb⟩
            have HO6 := Lib.hid ho; clear ho
            have HB11 := Lib.hid (below_seq HB10.out hb); clear hb
            go_wp2_with fail
            refine (Runes_walk s w11 (by omega)).mono ?_
            rintro e w12 ⟨a7, c7, rfl, ho, hb⟩
            have HO7 := Lib.hid ho; clear ho
            have HO67 := Lib.hid (HO6.out.below hb (Nat.le_refl _))
            have HB12 := Lib.hid (below_seq HB11.out hb); clear hb
            have hRl : (runesL s).length ≤ 1048576 := Nat.le_trans (runesL_le s) hs
            generalize hR : runesL s = R at *
            obtain ⟨a8, c8, w13, ho8, hb8, hr8⟩ := runes_conv s w12 (by omega)
            rw [hR] at ho8 hr8
            have HO8 := Lib.hid ho8; clear ho8
            have HO68 := Lib.hid (HO67.out.below hb8 (Nat.le_refl _))
            have HO78 := Lib.hid (HO7.out.below hb8 (Nat.le_refl _))
            have HB13 := Lib.hid (below_seq HB12.out hb8); clear hb8
            have HR := Lib.hid hR; clear hR
            have HSm3 := Lib.hid (sameRunes_walk a6 a8 R.length c6 R.length c8 R R w13 rfl rfl (by omega) HO68.out.ints HO8.out.ints)
            rw [decide_eq_true (rfl : R = R)] at HSm3
            go_wp2_with fail
            refine HSm3.out.mono ?_
            rintro e w14 ⟨rfl, hb⟩
            have HO69 := Lib.hid (HO68.out.below hb (Nat.le_refl _))
            have HO79 := Lib.hid (HO78.out.below hb (Nat.le_refl _))
            have HB14 := Lib.hid (below_seq HB13.out hb); clear hb hr8 HSm3
            have HL6 : Hid (∀ k, (Value.slice a6 R.length c6).ownBlock = some k → w10.heap.size ≤ k ∧ k < w11.heap.size) := Lib.hid (World.ownsRow.lt HO6.out)
            have HS010 := Lib.hid HB10.out.size
            go_wp2
            go_loopw [18] (CL3 w w10.heap.size w11.heap.size a6 a7 R.length c6 c7 R) (fun i _ => R.length - (intOf i).toNat)
            case atStart => exact ⟨0, Nat.zero_le _, rfl, HO69.out.any, HO79.out, HB14.out⟩
            case round =>
              obtain ⟨k, hk, rfl, hy, ho7, hbl⟩ := hrel
              have HY := Lib.hid hy; clear hy
              have HO710 := Lib.hid ho7; clear ho7
              have HB15 := Lib.hid hbl; clear hbl
              by_cases hlt : k < R.length
              · obtain ⟨g6, ha, -, -⟩ := HY.out.at (by omega)
                subst ha
                obtain ⟨hl1, hl2⟩ := HL6.out g6 rfl
                obtain ⟨u, q0, f0⟩ := one_there (HY.out.there k hlt)
                have HY' := Lib.hid (HY.out.setCell k (.int .i32 (-9)))
                have HO7' := Lib.hid (HO710.out.setCellLow g6 k (.int .i32 (-9)) hl2)
                have HB' := Lib.hid (HB15.out.setCell (p := ⟨g6, k, none⟩) (by have := HS010.out; simp; omega) (.int .i32 (-9)))
                go_wp2
                go_roundw
                case rel => exact ⟨k + 1, by omega, by go_num, HY'.out, HO7'.out, HB'.out⟩
                case measure => simp [intOf]; omega
              · have hkR : ¬ (k : Int) < (R.length : Int) := by omega
                obtain ⟨a9, c9, w16, ho9, hb9, hr9⟩ := runes_conv s wr (by omega)
                rw [HR.out] at ho9 hr9
                have HO711 := Lib.hid (HO710.out.below hb9 (Nat.le_refl _))
                have HB16 := Lib.hid (below_seq HB15.out hb9); clear hb9
                have HSm4 := Lib.hid (sameRunes_walk a7 a9 R.length c7 R.length c9 R R w16 rfl rfl (by omega) HO711.out.ints ho9.ints)
                rw [decide_eq_true (rfl : R = R)] at HSm4
                clear ho9
                go_wp2_with fail
                refine HSm4.out.mono ?_
                rintro e w17 ⟨rfl, hb⟩
                have HB17 := Lib.hid (below_seq HB16.out hb); clear hb hr9 HSm4
                go_wp2_with fail
                refine (awake_walk _).mono ?_
                rintro e w18 ⟨rfl, hb⟩
                have HB18 := Lib.hid (below_seq HB17.out hb); clear hb
                go_wp2
                go_ret
                exact ⟨rfl, HB18.out⟩
end Go.Proofs.Ytmcjlkpogcnniaa
