/-
  Plain laws: where the characters of a text begin; the bytes of what is picked.
-/
import Derived.Test.YtkcdcgijbaepmaaJ3
import Derived.Test.YtkcdcgijbaepmaaBase5
import Derived.Laws.RangeAny
set_option linter.unusedVariables false
namespace Go.Proofs.Ytkcdcgijbaepmaa
open Go.RowKit

def begFrom (s : ByteArray) : Nat → Nat → List Nat
  | 0, _ => []
  | b + 1, i => if i < s.size then i :: begFrom s b (i + (Utf8.decode s i).2) else []
def begL (s : ByteArray) : List Nat := begFrom s s.size 0
theorem runesFrom_beg (s : ByteArray) : ∀ (b i : Nat) (acc : Array Value), (Conv.runesFrom s b i acc).toList = acc.toList ++ (begFrom s b i).map (fun j => .int .i32 (Int.ofNat (Utf8.decode s j).1)) := by
  intro b
  induction b with
  | zero => intro i acc; simp [Conv.runesFrom, begFrom]
  | succ b ih =>
    intro i acc
    rw [Conv.runesFrom, begFrom]
    by_cases h : i < s.size
    · simp only [h, if_true]
      rw [ih]
      simp
    · simp [h]
theorem decode_pos (s : ByteArray) (i : Nat) (h : i < s.size) : 1 ≤ (Utf8.decode s i).2 := by
  by_cases ha : (s[i]'h).toNat < 128
  · rw [decode_ascii s i h ha]; exact Nat.le_refl _
  · exact (decode_high s i h (by omega)).2
theorem decode_in (s : ByteArray) (i : Nat) (h : i < s.size) : i + (Utf8.decode s i).2 ≤ s.size := by
  unfold Utf8.decode
  simp only
  split
  · show i + 1 ≤ s.size; omega
  · split
    · rename_i h2
      simp at h2
      split
      · show i + 2 ≤ s.size; omega
      · show i + 1 ≤ s.size; omega
    · split
      · rename_i h2
        simp at h2
        split
        · show i + 3 ≤ s.size; omega
        · show i + 1 ≤ s.size; omega
      · split
        · rename_i h2
          simp at h2
          split
          · show i + 4 ≤ s.size; omega
          · show i + 1 ≤ s.size; omega
        · show i + 1 ≤ s.size; omega
theorem begFrom_lt (s : ByteArray) : ∀ b i, ∀ j ∈ begFrom s b i, i ≤ j ∧ j < s.size := by
  intro b
  induction b with
  | zero => intro i j h; simp [begFrom] at h
  | succ b ih =>
    intro i j h
    rw [begFrom] at h
    by_cases hi : i < s.size
    · rw [if_pos hi] at h
      rcases List.mem_cons.1 h with rfl | h
      · exact ⟨Nat.le_refl _, hi⟩
      · have := ih _ _ h; omega
    · rw [if_neg hi] at h; simp at h
theorem begFrom_len (s : ByteArray) : ∀ b i, (begFrom s b i).length + i ≤ max s.size i := by
  intro b
  induction b with
  | zero => intro i; simp [begFrom]; omega
  | succ b ih =>
    intro i
    rw [begFrom]
    by_cases hi : i < s.size
    · rw [if_pos hi]
      have h1 := ih (i + (Utf8.decode s i).2)
      have h2 := decode_pos s i hi
      have h3 := decode_in s i hi
      simp only [List.length_cons]
      omega
    · rw [if_neg hi]; simp; omega
theorem begL_le (s : ByteArray) : (begL s).length ≤ s.size := by have := begFrom_len s s.size 0; unfold begL; omega
/-- one character ends where the next one begins, or at the end -/
theorem begFrom_chain (s : ByteArray) : ∀ b i, i ≤ s.size → s.size ≤ i + b → (begFrom s b i ++ [s.size]).getD 0 0 = i ∧
    ∀ k, k < (begFrom s b i).length → (begFrom s b i ++ [s.size]).getD (k + 1) 0 = (begFrom s b i ++ [s.size]).getD k 0 + (Utf8.decode s ((begFrom s b i ++ [s.size]).getD k 0)).2 := by
  intro b
  induction b with
  | zero => intro i h1 h2; simp [begFrom]; omega
  | succ b ih =>
    intro i h1 h2
    rw [begFrom]
    by_cases hi : i < s.size
    · rw [if_pos hi]
      have hp := decode_pos s i hi
      have hin := decode_in s i hi
      obtain ⟨e0, e1⟩ := ih (i + (Utf8.decode s i).2) hin (by omega)
      refine ⟨rfl, fun k hk => ?_⟩
      rw [List.cons_append]
      cases k with
      | zero => simp only [List.getD_cons_succ, List.getD_cons_zero]; exact e0
      | succ k => simp only [List.getD_cons_succ]; exact e1 k (by simpa using hk)
    · rw [if_neg hi]; simp; omega
/-- where the characters begin, and the end -/
def atsL (s : ByteArray) : List Nat := begL s ++ [s.size]
def atN (s : ByteArray) (k : Nat) : Nat := (atsL s).getD k 0
theorem atsL_length (s : ByteArray) : (atsL s).length = (begL s).length + 1 := by simp [atsL]
theorem atN_zero (s : ByteArray) : atN s 0 = 0 := (begFrom_chain s s.size 0 (Nat.zero_le _) (by omega)).1
theorem atN_succ (s : ByteArray) (k : Nat) (hk : k < (begL s).length) : atN s (k + 1) = atN s k + (Utf8.decode s (atN s k)).2 := (begFrom_chain s s.size 0 (Nat.zero_le _) (by omega)).2 k hk
theorem atN_last (s : ByteArray) : atN s (begL s).length = s.size := by simp [atN, atsL]
theorem atN_beg (s : ByteArray) (k : Nat) (hk : k < (begL s).length) : atN s k = (begL s)[k] := by simp [atN, atsL, List.getD_eq_getElem?_getD, List.getElem?_append_left hk, hk]
theorem atN_lt (s : ByteArray) (k : Nat) (hk : k < (begL s).length) : atN s k < s.size := by
  rw [atN_beg s k hk]
  exact (begFrom_lt s _ _ _ (List.getElem_mem hk)).2
theorem atN_le (s : ByteArray) (k : Nat) (hk : k ≤ (begL s).length) : atN s k ≤ s.size := by
  rcases Nat.lt_or_ge k (begL s).length with h | h
  · exact Nat.le_of_lt (atN_lt s k h)
  · rw [show k = (begL s).length by omega, atN_last]; exact Nat.le_refl _
theorem atN_mono (s : ByteArray) (i j : Nat) (hij : i ≤ j) (hj : j ≤ (begL s).length) : atN s i ≤ atN s j := by
  induction j with
  | zero => rw [show i = 0 by omega]; exact Nat.le_refl _
  | succ j ih =>
    rcases Nat.lt_or_ge i (j + 1) with h | h
    · have h1 := ih (by omega) (by omega)
      have h2 := atN_succ s j (by omega)
      omega
    · rw [show i = j + 1 by omega]; exact Nat.le_refl _
/-- the bytes of a stretch of characters -/
def subS (s : ByteArray) (f t : Nat) : ByteArray := s.extract (atN s f) (atN s t)
theorem subS_join (s : ByteArray) (a b c : Nat) (h1 : a ≤ b) (h2 : b ≤ c) (hc : c ≤ (begL s).length) : subS s a b ++ subS s b c = subS s a c := by
  unfold subS
  have m1 := atN_mono s a b h1 (by omega)
  have m2 := atN_mono s b c h2 hc
  rw [ByteArray.extract_append_extract, Nat.min_eq_left m1, Nat.max_eq_right m2]
theorem subS_nil (s : ByteArray) (a : Nat) : subS s a a = ByteArray.empty := by
  unfold subS
  rw [ByteArray.extract_eq_empty_iff]; omega
theorem subS_size (s : ByteArray) (f t : Nat) (ht : t ≤ (begL s).length) : (subS s f t).size = atN s t - atN s f := by
  unfold subS
  rw [ByteArray.size_extract, Nat.min_eq_left (atN_le s t ht)]
theorem subS_all (s : ByteArray) : subS s 0 (begL s).length = s := by
  unfold subS
  rw [atN_zero, atN_last]
  simp
/-- the characters below k that P picks, one behind the other -/
def textP (s : ByteArray) (P : Nat → Bool) : Nat → ByteArray
  | 0 => ByteArray.empty
  | k + 1 => if P k then textP s P k ++ subS s k (k + 1) else textP s P k
theorem textP_congr (s : ByteArray) (P Q : Nat → Bool) (k : Nat) (h : ∀ i, i < k → P i = Q i) : textP s P k = textP s Q k := by
  induction k with
  | zero => rfl
  | succ k ih => rw [textP, textP, ih (fun i hi => h i (by omega)), h k (by omega)]
theorem textP_none (s : ByteArray) (P : Nat → Bool) (a b : Nat) (hab : a ≤ b) (h : ∀ i, a ≤ i → i < b → P i = false) : textP s P b = textP s P a := by
  induction b with
  | zero => rw [show a = 0 by omega]
  | succ b ih =>
    rcases Nat.lt_or_ge a (b + 1) with h1 | h1
    · rw [textP, h b (by omega) (by omega), ih (by omega) (fun i h2 h3 => h i h2 (by omega))]; rfl
    · rw [show a = b + 1 by omega]
theorem textP_every (s : ByteArray) (P : Nat → Bool) (a b : Nat) (hab : a ≤ b) (hb : b ≤ (begL s).length) (h : ∀ i, a ≤ i → i < b → P i = true) : textP s P b = textP s P a ++ subS s a b := by
  induction b with
  | zero => rw [show a = 0 by omega, subS_nil]; simp
  | succ b ih =>
    rcases Nat.lt_or_ge a (b + 1) with h1 | h1
    · rw [textP, h b (by omega) (by omega), if_pos rfl, ih (by omega) (by omega) (fun i h2 h3 => h i h2 (by omega)), ByteArray.append_assoc, subS_join s a b (b + 1) (by omega) (by omega) hb]
    · rw [show a = b + 1 by omega, subS_nil]; simp
theorem textP_size (s : ByteArray) (P : Nat → Bool) (k : Nat) (hk : k ≤ (begL s).length) : (textP s P k).size ≤ atN s k := by
  induction k with
  | zero => exact Nat.zero_le _
  | succ k ih =>
    have h1 := ih (by omega)
    have h2 := atN_mono s k (k + 1) (by omega) hk
    rw [textP]
    split
    · rw [ByteArray.size_append, subS_size s _ _ hk]; omega
    · omega
/-- the pieces' bytes -/
def textL (s : ByteArray) (l : List PD) : ByteArray := l.foldl (fun t p => t ++ subS s p.f.toNat p.t.toNat) ByteArray.empty
theorem textL_push (s : ByteArray) (l : List PD) (p : PD) : textL s (l ++ [p]) = textL s l ++ subS s p.f.toNat p.t.toNat := by simp [textL]
def covN (l : List PD) (i : Nat) : Bool := decide (cov l (i : Int))
theorem textL_eq (s : ByteArray) : ∀ (n : Nat) (l : List PD), l.length = n → NF l → (∀ p ∈ l, 0 ≤ p.f ∧ p.t ≤ (begL s).length) → textL s l = textP s (covN l) (begL s).length := by
  intro n
  induction n with
  | zero =>
    intro l hl _ _
    obtain rfl : l = [] := List.length_eq_zero_iff.1 hl
    rw [textP_none s (covN []) 0 _ (Nat.zero_le _) (fun i _ _ => decide_eq_false (cov_nil _))]
    rfl
  | succ n ih =>
    intro l hl hnf hb
    rcases List.eq_nil_or_concat l with rfl | ⟨init, p, rfl⟩
    · simp at hl
    rw [List.concat_eq_append] at *
    have hp := hb p (by simp)
    have hpos := hnf.pos p (by simp)
    have hlast := hnf.last
    obtain ⟨f, hf⟩ : ∃ f : Nat, (f : Int) = p.f := ⟨p.f.toNat, by omega⟩
    obtain ⟨t, ht⟩ : ∃ t : Nat, (t : Int) = p.t := ⟨p.t.toNat, by omega⟩
    have hc : ∀ i : Nat, covN (init ++ [p]) i = (covN init i || decide (f ≤ i ∧ i < t)) := fun i => by
      unfold covN
      rw [Bool.eq_iff_iff]
      simp only [decide_eq_true_eq, Bool.or_eq_true]
      rw [cov_append, cov_cons]
      simp only [cov_nil, or_false]
      constructor
      · rintro (h | h)
        · exact .inl h
        · exact .inr (by omega)
      · rintro (h | h)
        · exact .inl h
        · exact .inr (by omega)
    have hno : ∀ i : Nat, f ≤ i → covN init i = false := fun i hi => by
      refine decide_eq_false ?_
      rintro ⟨q, hq, h1, h2⟩
      have := hlast q hq
      omega
    rw [textL_push, ih init (by simpa using hl) hnf.init (fun q hq => hb q (by simp [hq])),
      textP_none s _ f _ (by omega) (fun i h1 _ => hno i h1), textP_none s (covN (init ++ [p])) t _ (by omega) (fun i h1 _ => by rw [hc, hno i (by omega)]; simp; omega),
      textP_every s (covN (init ++ [p])) f t (by omega) (by omega) (fun i h1 h2 => by rw [hc, hno i h1]; simp; omega),
      textP_congr s (covN (init ++ [p])) (covN init) f (fun i hi => by rw [hc]; simp; omega),
      show p.f.toNat = f by omega, show p.t.toNat = t by omega]

theorem atN_inj (s : ByteArray) (k j : Nat) (hk : k ≤ (begL s).length) (hj : j ≤ (begL s).length) (h : atN s k = atN s j) : k = j := by
  have st : ∀ a b, a < b → b ≤ (begL s).length → atN s a < atN s b := fun a b hab hb => by
    have h1 := atN_succ s a (by omega)
    have h2 := decode_pos s (atN s a) (atN_lt s a (by omega))
    have h3 := atN_mono s (a + 1) b hab hb
    omega
  rcases Nat.lt_trichotomy k j with h1 | h1 | h1
  · have := st k j h1 hj; omega
  · exact h1
  · have := st j k h1 hk; omega
end Go.Proofs.Ytkcdcgijbaepmaa
