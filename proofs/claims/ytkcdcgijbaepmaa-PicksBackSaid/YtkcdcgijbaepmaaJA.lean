/-
  Plain laws: how many bytes the document's reading takes at a byte of a text.
-/
import Derived.Test.YtkcdcgijbaepmaaJ4
set_option linter.unusedVariables false
namespace Go.Proofs.Ytkcdcgijbaepmaa
open Go.RowKit

def byteN (s : ByteArray) (k : Nat) : Nat := (s.get! k).toNat
theorem byteN_lt (s : ByteArray) (k : Nat) : byteN s k < 256 := UInt8.toNat_lt _
theorem byteN_get (s : ByteArray) (k : Nat) (h : k < s.size) : (s[k]'h).toNat = byteN s k := by
  unfold byteN
  congr 1
  obtain ⟨a⟩ := s
  show a[k]'h = a[k]!
  simp [show k < a.size from h]
def longN (b : Nat) : Nat := if b < 128 then 1 else if b < 192 ∨ 247 < b then 0 else if b < 224 then 2 else if b < 240 then 3 else 4
def maskN (n : Nat) : Nat := if n = 1 then 128 else if n = 2 then 32 else if n = 3 then 16 else 8
def leastN (n : Nat) : Nat := if n = 2 then 128 else if n = 3 then 2048 else if n = 4 then 65536 else 0
/-- what has been read of the character's number, k bytes behind the first -/
def accN (s : ByteArray) (i n : Nat) : Nat → Nat
  | 0 => byteN s i % maskN n
  | k + 1 => accN s i n k * 64 + byteN s (i + (k + 1)) - 128
def contN (s : ByteArray) (k : Nat) : Prop := k < s.size ∧ 128 ≤ byteN s k ∧ byteN s k ≤ 191
instance (s : ByteArray) (k : Nat) : Decidable (contN s k) := by unfold contN; infer_instance
theorem maskN_le (n : Nat) : maskN n ≤ 128 ∧ 0 < maskN n := by
  unfold maskN
  split
  · omega
  · split
    · omega
    · split <;> omega
theorem acc_step (X Y Z : Nat) (h1 : Y < X) (h2 : Z ≤ 191) (h3 : 128 ≤ Z) : Y * 64 + Z - 128 < X * 64 := by omega
theorem acc_two (s : ByteArray) (i n k : Nat) (hk : k ≤ 2) (hc : ∀ j, 1 ≤ j → j ≤ k → contN s (i + j)) : accN s i n k < 524288 := by
  have h1 := maskN_le n
  have h0 : accN s i n 0 < 128 := by
    have := Nat.mod_lt (byteN s i) h1.2
    show byteN s i % maskN n < 128
    omega
  rcases Nat.lt_or_ge 0 k with hk0 | hk0
  · have c1 := (hc 1 (by omega) (by omega)).2
    have h2 : accN s i n 1 < 8192 := acc_step 128 _ _ h0 c1.2 c1.1
    rcases Nat.lt_or_ge 1 k with hk1 | hk1
    · have c2 := (hc 2 (by omega) (by omega)).2
      have h3 : accN s i n 2 < 524288 := acc_step 8192 _ _ h2 c2.2 c2.1
      rw [show k = 2 by omega]; exact h3
    · rw [show k = 1 by omega]; omega
  · rw [show k = 0 by omega]; omega
theorem long_pos {b : Nat} (h : longN b ≠ 0) : 1 ≤ longN b ∧ longN b ≤ 4 := by
  unfold longN at h ⊢
  repeat' split
  all_goals first | omega | (exfalso; simp_all)
theorem cont_cond (s : ByteArray) (k : Nat) : (decide (k < s.size) && (s.get! k).toNat / 64 == 2) = decide (contN s k) := by
  have h := byteN_lt s k
  rw [show (s.get! k).toNat = byteN s k from rfl]
  by_cases hc : contN s k
  · rw [decide_eq_true hc, decide_eq_true hc.1]
    have := hc.2
    rw [show byteN s k / 64 = 2 by omega]
    rfl
  · rw [decide_eq_false hc]
    by_cases h1 : k < s.size
    · have h2 : ¬ byteN s k / 64 = 2 := fun h2 => hc ⟨h1, by omega⟩
      rw [decide_eq_true h1]
      simpa using h2
    · rw [decide_eq_false h1]; rfl
theorem decode_eq (s : ByteArray) (i : Nat) : Utf8.decode s i =
    if byteN s i < 128 then (byteN s i, 1)
    else if (byteN s i / 32 == 6 && decide (contN s (i + 1))) = true then
      if (byteN s i % 32) * 64 + byteN s (i + 1) % 64 ≥ 128 then ((byteN s i % 32) * 64 + byteN s (i + 1) % 64, 2) else (Utf8.runeError, 1)
    else if (byteN s i / 16 == 14 && decide (contN s (i + 1)) && decide (contN s (i + 2))) = true then
      if ((byteN s i % 16) * 4096 + (byteN s (i + 1) % 64) * 64 + byteN s (i + 2) % 64 ≥ 2048 && Utf8.valid ((byteN s i % 16) * 4096 + (byteN s (i + 1) % 64) * 64 + byteN s (i + 2) % 64 : Nat)) = true then ((byteN s i % 16) * 4096 + (byteN s (i + 1) % 64) * 64 + byteN s (i + 2) % 64, 3) else (Utf8.runeError, 1)
    else if (byteN s i / 8 == 30 && decide (contN s (i + 1)) && decide (contN s (i + 2)) && decide (contN s (i + 3))) = true then
      if ((byteN s i % 8) * 262144 + (byteN s (i + 1) % 64) * 4096 + (byteN s (i + 2) % 64) * 64 + byteN s (i + 3) % 64 ≥ 65536 && Utf8.valid ((byteN s i % 8) * 262144 + (byteN s (i + 1) % 64) * 4096 + (byteN s (i + 2) % 64) * 64 + byteN s (i + 3) % 64 : Nat)) = true then ((byteN s i % 8) * 262144 + (byteN s (i + 1) % 64) * 4096 + (byteN s (i + 2) % 64) * 64 + byteN s (i + 3) % 64, 4) else (Utf8.runeError, 1)
    else (Utf8.runeError, 1) := by
  rw [← cont_cond, ← cont_cond, ← cont_cond]
  unfold Utf8.decode
  rfl
theorem valid_iff (c : Nat) : Utf8.valid (c : Int) = true ↔ c < 55296 ∨ (57344 ≤ c ∧ c ≤ 1114111) := by
  unfold Utf8.valid
  simp
  omega
/-- the first byte begins nothing -/
theorem wide_lead (s : ByteArray) (i : Nat) (h : longN (byteN s i) = 0) : (Utf8.decode s i).2 = 1 := by
  have hb := byteN_lt s i
  have h2 : 128 ≤ byteN s i ∧ (byteN s i < 192 ∨ 247 < byteN s i) := by
    unfold longN at h
    split at h
    · omega
    · split at h
      · omega
      · repeat' split at h
        all_goals omega
  rw [decode_eq, if_neg (by omega), if_neg (by simp; omega), if_neg (by simp; omega), if_neg (by simp; omega)]
theorem long_two {b : Nat} (h : longN b = 2) : 192 ≤ b ∧ b < 224 := by
  unfold longN at h
  repeat' split at h
  all_goals omega
theorem long_three {b : Nat} (h : longN b = 3) : 224 ≤ b ∧ b < 240 := by
  unfold longN at h
  repeat' split at h
  all_goals omega
theorem long_four {b : Nat} (h : longN b = 4) : 240 ≤ b ∧ b ≤ 247 := by
  unfold longN at h
  repeat' split at h
  all_goals omega
theorem long_one {b : Nat} (h : longN b = 1) : b < 128 := by
  unfold longN at h
  repeat' split at h
  all_goals omega
/-- a byte that does not go on -/
theorem wide_cut (s : ByteArray) (i k : Nat) (h1 : 1 ≤ k) (h2 : k < longN (byteN s i)) (h : ¬ contN s (i + k)) : (Utf8.decode s i).2 = 1 := by
  have hb := byteN_lt s i
  have hl := long_pos (b := byteN s i) (by omega)
  have hk : k = 1 ∨ k = 2 ∨ k = 3 := by omega
  obtain h4 | h4 | h4 : longN (byteN s i) = 2 ∨ longN (byteN s i) = 3 ∨ longN (byteN s i) = 4 := by omega
  · have h5 := long_two h4
    obtain rfl : k = 1 := by omega
    rw [decode_eq, if_neg (by omega), if_neg (by simp [h]), if_neg (by simp; omega), if_neg (by simp; omega)]
  · have h5 := long_three h4
    obtain rfl | rfl : k = 1 ∨ k = 2 := by omega
    · rw [decode_eq, if_neg (by omega), if_neg (by simp; omega), if_neg (by simp [h]), if_neg (by simp; omega)]
    · rw [decode_eq, if_neg (by omega), if_neg (by simp; omega), if_neg (by simp [h]), if_neg (by simp; omega)]
  · have h5 := long_four h4
    obtain rfl | rfl | rfl := hk
    · rw [decode_eq, if_neg (by omega), if_neg (by simp; omega), if_neg (by simp; omega), if_neg (by simp [h])]
    · rw [decode_eq, if_neg (by omega), if_neg (by simp; omega), if_neg (by simp; omega), if_neg (by simp [h])]
    · rw [decode_eq, if_neg (by omega), if_neg (by simp; omega), if_neg (by simp; omega), if_neg (by simp [h])]
/-- all bytes are there -/
theorem wide_full (s : ByteArray) (i : Nat) (h0 : longN (byteN s i) ≠ 0) (h : ∀ k, 1 ≤ k → k < longN (byteN s i) → contN s (i + k)) :
    (Utf8.decode s i).2 = if accN s i (longN (byteN s i)) (longN (byteN s i) - 1) < leastN (longN (byteN s i)) ∨ (55296 ≤ accN s i (longN (byteN s i)) (longN (byteN s i) - 1) ∧ accN s i (longN (byteN s i)) (longN (byteN s i) - 1) ≤ 57343) ∨ 1114111 < accN s i (longN (byteN s i)) (longN (byteN s i) - 1) then 1 else longN (byteN s i) := by
  have hb := byteN_lt s i
  have hl := long_pos h0
  obtain h4 | h4 | h4 | h4 : longN (byteN s i) = 1 ∨ longN (byteN s i) = 2 ∨ longN (byteN s i) = 3 ∨ longN (byteN s i) = 4 := by omega
  · have h5 := long_one h4
    rw [h4, decode_eq, if_pos h5]
    simp
  · have h5 := long_two h4
    have c1 := h 1 (by omega) (by omega)
    have e : accN s i 2 1 = (byteN s i % 32) * 64 + byteN s (i + 1) % 64 := by
      have := c1.2
      show (byteN s i % 32) * 64 + byteN s (i + (0 + 1)) - 128 = _
      rw [Nat.zero_add]; omega
    have hl2 : leastN 2 = 128 := rfl
    rw [h4, show 2 - 1 = 1 from rfl, e, hl2, decode_eq, if_neg (by omega), if_pos (by simp [c1]; omega)]
    by_cases hc : (byteN s i % 32) * 64 + byteN s (i + 1) % 64 ≥ 128
    · rw [if_pos hc, if_neg (by omega)]
    · rw [if_neg hc, if_pos (by omega)]
  · have h5 := long_three h4
    have c1 := h 1 (by omega) (by omega)
    have c2 := h 2 (by omega) (by omega)
    have e : accN s i 3 2 = (byteN s i % 16) * 4096 + (byteN s (i + 1) % 64) * 64 + byteN s (i + 2) % 64 := by
      have := c1.2
      have := c2.2
      show ((byteN s i % 16) * 64 + byteN s (i + (0 + 1)) - 128) * 64 + byteN s (i + (1 + 1)) - 128 = _
      rw [Nat.zero_add, show 1 + 1 = 2 from rfl]; omega
    have hl2 : leastN 3 = 2048 := rfl
    rw [h4, show 3 - 1 = 2 from rfl, e, hl2, decode_eq, if_neg (by omega), if_neg (by simp; omega), if_pos (by simp [c1, c2]; omega)]
    have hv := valid_iff ((byteN s i % 16) * 4096 + (byteN s (i + 1) % 64) * 64 + byteN s (i + 2) % 64)
    generalize (byteN s i % 16) * 4096 + (byteN s (i + 1) % 64) * 64 + byteN s (i + 2) % 64 = x at *
    by_cases hc : (x ≥ 2048 && Utf8.valid (x : Nat)) = true
    · rw [if_pos hc]
      simp only [Bool.and_eq_true, decide_eq_true_eq] at hc
      have := hv.1 hc.2
      rw [if_neg (by omega)]
    · rw [if_neg hc]
      simp only [Bool.and_eq_true, decide_eq_true_eq] at hc
      rw [hv] at hc
      rw [if_pos (by omega)]
  · have h5 := long_four h4
    have c1 := h 1 (by omega) (by omega)
    have c2 := h 2 (by omega) (by omega)
    have c3 := h 3 (by omega) (by omega)
    have e : accN s i 4 3 = (byteN s i % 8) * 262144 + (byteN s (i + 1) % 64) * 4096 + (byteN s (i + 2) % 64) * 64 + byteN s (i + 3) % 64 := by
      have := c1.2
      have := c2.2
      have := c3.2
      show (((byteN s i % 8) * 64 + byteN s (i + (0 + 1)) - 128) * 64 + byteN s (i + (1 + 1)) - 128) * 64 + byteN s (i + (2 + 1)) - 128 = _
      rw [Nat.zero_add, show 1 + 1 = 2 from rfl, show 2 + 1 = 3 from rfl]; omega
    have hl2 : leastN 4 = 65536 := rfl
    rw [h4, show 4 - 1 = 3 from rfl, e, hl2, decode_eq, if_neg (by omega), if_neg (by simp; omega), if_neg (by simp; omega), if_pos (by simp [c1, c2, c3]; omega)]
    have hv := valid_iff ((byteN s i % 8) * 262144 + (byteN s (i + 1) % 64) * 4096 + (byteN s (i + 2) % 64) * 64 + byteN s (i + 3) % 64)
    generalize (byteN s i % 8) * 262144 + (byteN s (i + 1) % 64) * 4096 + (byteN s (i + 2) % 64) * 64 + byteN s (i + 3) % 64 = x at *
    by_cases hc : (x ≥ 65536 && Utf8.valid (x : Nat)) = true
    · rw [if_pos hc]
      simp only [Bool.and_eq_true, decide_eq_true_eq] at hc
      have := hv.1 hc.2
      rw [if_neg (by omega)]
    · rw [if_neg hc]
      simp only [Bool.and_eq_true, decide_eq_true_eq] at hc
      rw [hv] at hc
      rw [if_pos (by omega)]
theorem and_all : ∀ b : Fin 256, bits .and .i64 (b.val : Int) 127 = ((b.val % 128 : Nat) : Int) ∧ bits .and .i64 (b.val : Int) 31 = ((b.val % 32 : Nat) : Int) ∧ bits .and .i64 (b.val : Int) 15 = ((b.val % 16 : Nat) : Int) ∧ bits .and .i64 (b.val : Int) 7 = ((b.val % 8 : Nat) : Int) := by
  decide +kernel
def maskV (n : Nat) : Int := (maskN n : Int) - 1
theorem mask_all (b n : Nat) (hb : b < 256) (h1 : 1 ≤ n) (h4 : n ≤ 4) : bits .and .i64 (b : Int) (maskV n) = ((b % maskN n : Nat) : Int) := by
  obtain ⟨a1, a2, a3, a4⟩ := and_all ⟨b, hb⟩
  obtain rfl | rfl | rfl | rfl : n = 1 ∨ n = 2 ∨ n = 3 ∨ n = 4 := by omega
  · exact a1
  · exact a2
  · exact a3
  · exact a4
end Go.Proofs.Ytkcdcgijbaepmaa
