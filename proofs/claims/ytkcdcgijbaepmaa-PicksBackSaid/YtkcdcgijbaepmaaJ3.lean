/-
  Plain laws: the ends of joined pieces; two lists of pieces turned (what one of them covers and not the other).
-/
import Derived.Test.YtkcdcgijbaepmaaJ1
set_option linter.unusedVariables false
namespace Go.Proofs.Ytkcdcgijbaepmaa

/-- the ends of pieces, in their order -/
def edgesL (l : List PD) : List Int := l.flatMap (fun p => [p.f, p.t])
theorem edgesL_cons (p : PD) (l : List PD) : edgesL (p :: l) = p.f :: p.t :: edgesL l := rfl
theorem edgesL_snoc (l : List PD) (p : PD) : edgesL (l ++ [p]) = edgesL l ++ [p.f, p.t] := by simp [edgesL]
theorem edgesL_length (l : List PD) : (edgesL l).length = 2 * l.length := by
  induction l with
  | nil => rfl
  | cons p t ih => rw [edgesL_cons]; simp only [List.length_cons]; omega
/-- how many are not above x -/
def uptoN (x : Int) (e : List Int) : Nat := e.countP (fun z => decide (z ≤ x))
theorem uptoN_cons (x z : Int) (e : List Int) : uptoN x (z :: e) = uptoN x e + if z ≤ x then 1 else 0 := by
  unfold uptoN
  rw [List.countP_cons]
  by_cases h : z ≤ x <;> simp [h]
theorem uptoN_append (x : Int) (a b : List Int) : uptoN x (a ++ b) = uptoN x a + uptoN x b := List.countP_append
theorem uptoN_perm (x : Int) {a b : List Int} (h : a.Perm b) : uptoN x a = uptoN x b := h.countP_eq _
theorem uptoN_le (x : Int) (e : List Int) : uptoN x e ≤ e.length := List.countP_le_length
theorem uptoN_zero (x : Int) (e : List Int) (h : ∀ z ∈ e, x < z) : uptoN x e = 0 := by
  unfold uptoN
  rw [List.countP_eq_zero]
  intro z hz
  have := h z hz
  simp; omega
theorem mem_edges {l : List PD} {z : Int} (h : z ∈ edgesL l) : ∃ p ∈ l, z = p.f ∨ z = p.t := by
  obtain ⟨p, hp, hz⟩ := List.mem_flatMap.1 h
  exact ⟨p, hp, by simpa using hz⟩
theorem edges_parity {l : List PD} (h : NF l) (x : Int) : cov l x ↔ uptoN x (edgesL l) % 2 = 1 := by
  induction l with
  | nil => simp [cov_nil, edgesL, uptoN]
  | cons p t ih =>
    have hp := h.pos p List.mem_cons_self
    have hgap := (List.pairwise_cons.1 h.gap).1
    have ih := ih h.tail
    rw [edgesL_cons, uptoN_cons, uptoN_cons, cov_cons]
    by_cases h1 : p.t ≤ x
    · rw [if_pos h1, if_pos (by omega : p.f ≤ x), ih]
      constructor
      · rintro (h2 | h2)
        · omega
        · omega
      · intro h2; exact .inr (by omega)
    · have hz : uptoN x (edgesL t) = 0 := uptoN_zero x _ (fun z hz => by
        obtain ⟨q, hq, e⟩ := mem_edges hz
        have := hgap q hq
        have := h.pos q (List.mem_cons_of_mem _ hq)
        rcases e with rfl | rfl <;> omega)
      have hn : ¬ cov t x := fun hc => by rw [ih, hz] at hc; omega
      rw [hz, if_neg h1]
      by_cases h2 : p.f ≤ x
      · rw [if_pos h2]
        exact ⟨fun _ => rfl, fun _ => .inl ⟨h2, by omega⟩⟩
      · rw [if_neg h2]
        constructor
        · rintro (h3 | h3)
          · omega
          · exact absurd h3 hn
        · intro h3; omega
/-- pieces of numbers, two by two -/
def pairsL : List Int → List PD
  | a :: b :: r => ⟨a, b⟩ :: pairsL r
  | _ => []
theorem pairs_parity : ∀ (e : List Int), e.Pairwise (· ≤ ·) → e.length % 2 = 0 → ∀ x, cov (pairsL e) x ↔ uptoN x e % 2 = 1
  | [], _, _, x => by simp [pairsL, cov_nil, uptoN]
  | [a], _, hl, x => by simp at hl
  | a :: b :: r, hs, hl, x => by
    have ih := pairs_parity r (List.pairwise_cons.1 (List.pairwise_cons.1 hs).2).2 (by simp at hl; omega) x
    have hab := (List.pairwise_cons.1 hs).1 b (by simp)
    have hbr := (List.pairwise_cons.1 (List.pairwise_cons.1 hs).2).1
    rw [pairsL, cov_cons, uptoN_cons, uptoN_cons]
    by_cases h1 : b ≤ x
    · rw [if_pos h1, if_pos (by omega : a ≤ x), ih]
      constructor
      · rintro (h2 | h2)
        · simp only at h2; omega
        · omega
      · intro h2; exact .inr (by omega)
    · have hz : uptoN x r = 0 := uptoN_zero x _ (fun z hz => by have := hbr z hz; omega)
      have hn : ¬ cov (pairsL r) x := fun hc => by rw [ih, hz] at hc; omega
      rw [hz, if_neg h1]
      by_cases h2 : a ≤ x
      · rw [if_pos h2]
        exact ⟨fun _ => rfl, fun _ => .inl ⟨h2, by simp only; omega⟩⟩
      · rw [if_neg h2]
        constructor
        · rintro (h3 | h3)
          · simp only at h3; omega
          · exact absurd h3 hn
        · intro h3; omega
theorem pairsL_length : ∀ e : List Int, (pairsL e).length = e.length / 2
  | [] => rfl
  | [a] => by simp [pairsL]
  | a :: b :: r => by rw [pairsL]; simp only [List.length_cons]; rw [pairsL_length r]; omega
theorem pairsL_snoc : ∀ (e : List Int) (a b : Int), e.length % 2 = 0 → pairsL (e ++ [a, b]) = pairsL e ++ [⟨a, b⟩]
  | [], a, b, _ => rfl
  | [c], a, b, h => by simp at h
  | c :: d :: r, a, b, h => by
    rw [List.cons_append, List.cons_append, pairsL, pairsL_snoc r a b (by simp at h; omega)]
    rfl

/-! ### turned -/
def sortI (e : List Int) : List Int := e.mergeSort (fun a b => decide (a ≤ b))
theorem sortI_perm (e : List Int) : (sortI e).Perm e := List.mergeSort_perm _ _
theorem sortI_sorted (e : List Int) : (sortI e).Pairwise (· ≤ ·) := by
  have := List.pairwise_mergeSort (le := fun a b : Int => decide (a ≤ b)) (fun a b c h1 h2 => by simp at *; omega) (fun a b => by simp; omega) e
  exact this.imp (fun h => by simpa using h)
theorem sorted_only {a b : List Int} (hp : a.Perm b) (ha : a.Pairwise (· ≤ ·)) (hb : b.Pairwise (· ≤ ·)) : a = b :=
  hp.eq_of_pairwise (fun x y _ _ h1 h2 => Int.le_antisymm h1 h2) ha hb
theorem sortI_only {e s : List Int} (hp : s.Perm e) (hs : s.Pairwise (· ≤ ·)) : s = sortI e := sorted_only (hp.trans (sortI_perm e).symm) hs (sortI_sorted e)
def bothE (a b : List PD) : List Int := edgesL (joinL a) ++ edgesL (joinL b)
theorem bothE_length (a b : List PD) : (bothE a b).length = 2 * ((joinL a).length + (joinL b).length) := by
  unfold bothE
  rw [List.length_append, edgesL_length, edgesL_length]; omega
theorem bothE_parity (a b : List PD) (x : Int) : uptoN x (bothE a b) % 2 = 1 ↔ (cov a x ↔ ¬ cov b x) := by
  unfold bothE
  have h1 := edges_parity (joinL_ok a).1 x
  have h2 := edges_parity (joinL_ok b).1 x
  rw [(joinL_ok a).2 x] at h1
  rw [(joinL_ok b).2 x] at h2
  rw [uptoN_append, h1, h2]
  omega
def turnL (a b : List PD) : List PD := joinL (pairsL (sortI (bothE a b)))
theorem turnL_ok (a b : List PD) : NF (turnL a b) ∧ ∀ x, cov (turnL a b) x ↔ (cov a x ↔ ¬ cov b x) := by
  refine ⟨(joinL_ok _).1, fun x => ?_⟩
  unfold turnL
  rw [(joinL_ok _).2 x, pairs_parity _ (sortI_sorted _) (by rw [(sortI_perm _).length_eq, bothE_length]; omega) x, uptoN_perm x (sortI_perm _)]
  exact bothE_parity a b x
theorem turn_only (a b : List PD) (s : List Int) (hp : s.Perm (bothE a b)) (hs : s.Pairwise (· ≤ ·)) : joinL (pairsL s) = turnL a b := by
  rw [sortI_only hp hs]; rfl
theorem upto_sorted : ∀ {e : List Int}, e.Pairwise (· ≤ ·) → ∀ (x : Int) (i : Nat) (h : i < e.length), i < uptoN x e ↔ e[i] ≤ x
  | [], _, x, i, h => by simp at h
  | z :: r, hs, x, i, h => by
    have hz := (List.pairwise_cons.1 hs).1
    rw [uptoN_cons]
    cases i with
    | zero =>
      simp only [List.getElem_cons_zero]
      by_cases h1 : z ≤ x
      · rw [if_pos h1]; exact ⟨fun _ => h1, fun _ => by omega⟩
      · rw [if_neg h1, uptoN_zero x r (fun y hy => by have := hz y hy; omega)]; omega
    | succ i =>
      have ih := upto_sorted (List.pairwise_cons.1 hs).2 x i (by simpa using h)
      simp only [List.getElem_cons_succ]
      by_cases h1 : z ≤ x
      · rw [if_pos h1, ← ih]; omega
      · rw [if_neg h1, uptoN_zero x r (fun y hy => by have := hz y hy; omega)]
        have hi : i < r.length := by simpa using h
        have := hz r[i] (List.getElem_mem hi)
        omega
/-- the document's pieces between neighbouring ends, up to the one numbered k -/
def rturnK (e : List Int) (a b : List PD) (k : Nat) : List PD :=
  ((List.range k).filter (fun i => decide (e.getD i 0 < e.getD (i + 1) 0) && (decide (cov a (e.getD i 0)) != decide (cov b (e.getD i 0))))).map (fun i => ⟨e.getD i 0, e.getD (i + 1) 0⟩)
theorem rturnK_length (e : List Int) (a b : List PD) (k : Nat) : (rturnK e a b k).length ≤ k := by
  unfold rturnK
  rw [List.length_map]
  exact Nat.le_trans (List.length_filter_le _ _) (by simp)
theorem rturnK_yes {e : List Int} {a b : List PD} {k : Nat} (h1 : e.getD k 0 < e.getD (k + 1) 0) (h2 : (decide (cov a (e.getD k 0)) != decide (cov b (e.getD k 0))) = true) : rturnK e a b (k + 1) = rturnK e a b k ++ [⟨e.getD k 0, e.getD (k + 1) 0⟩] := by
  unfold rturnK
  rw [List.range_succ, List.filter_append, List.map_append, List.filter_cons_of_pos (by rw [h2, decide_eq_true h1]; rfl)]
  rfl
theorem rturnK_no {e : List Int} {a b : List PD} {k : Nat} (h : (decide (e.getD k 0 < e.getD (k + 1) 0) && (decide (cov a (e.getD k 0)) != decide (cov b (e.getD k 0)))) = false) : rturnK e a b (k + 1) = rturnK e a b k := by
  unfold rturnK
  rw [List.range_succ, List.filter_append, List.map_append, List.filter_cons_of_neg (by rw [h]; exact Bool.false_ne_true)]
  simp
theorem rturn_cov (a b : List PD) (e : List Int) (hp : e.Perm (bothE a b)) (hs : e.Pairwise (· ≤ ·)) (x : Int) : cov (rturnK e (joinL a) (joinL b) (e.length - 1)) x ↔ (cov a x ↔ ¬ cov b x) := by
  have hev : e.length % 2 = 0 := by rw [hp.length_eq, bothE_length]; omega
  have hpar : ∀ y, uptoN y e % 2 = 1 ↔ (cov a y ↔ ¬ cov b y) := fun y => by rw [uptoN_perm y hp]; exact bothE_parity a b y
  have hj : ∀ y, (decide (cov (joinL a) y) != decide (cov (joinL b) y)) = true ↔ (cov a y ↔ ¬ cov b y) := fun y => by
    rw [show decide (cov (joinL a) y) = decide (cov a y) from by congr 1; exact propext ((joinL_ok a).2 y), show decide (cov (joinL b) y) = decide (cov b y) from by congr 1; exact propext ((joinL_ok b).2 y)]
    by_cases h1 : cov a y <;> by_cases h2 : cov b y <;> simp [h1, h2]
  constructor
  · rintro ⟨p, hp', h1, h2⟩
    obtain ⟨i, hi, rfl⟩ := List.mem_map.1 hp'
    obtain ⟨hi, hc⟩ := List.mem_filter.1 hi
    have hi : i < e.length - 1 := by simpa using hi
    simp only [Bool.and_eq_true, decide_eq_true_eq] at hc
    have g0 : e.getD i 0 = e[i] := by simp [List.getD_eq_getElem?_getD, show i < e.length by omega]
    have g1 : e.getD (i + 1) 0 = e[i + 1] := by simp [List.getD_eq_getElem?_getD, show i + 1 < e.length by omega]
    simp only [g0, g1] at h1 h2 hc
    have u1 := (upto_sorted hs x i (by omega)).2 h1
    have u2 := mt (upto_sorted hs x (i + 1) (by omega)).1 (by omega)
    have u3 := (upto_sorted hs e[i] i (by omega)).2 (Int.le_refl _)
    have u4 := mt (upto_sorted hs e[i] (i + 1) (by omega)).1 (by omega)
    have hx := (hpar e[i]).2 ((hj _).1 hc.2)
    exact (hpar x).1 (by omega)
  · intro h
    have hx := (hpar x).2 h
    have hle := uptoN_le x e
    obtain ⟨i, hi⟩ : ∃ i, uptoN x e = i + 1 := ⟨uptoN x e - 1, by omega⟩
    have h1 := (upto_sorted hs x i (by omega)).1 (by omega)
    have h2 := mt (upto_sorted hs x (i + 1) (by omega)).2 (by omega)
    have u3 := (upto_sorted hs e[i] i (by omega)).2 (Int.le_refl _)
    have u4 := mt (upto_sorted hs e[i] (i + 1) (by omega)).1 (by omega)
    have g0 : e.getD i 0 = e[i] := by simp [List.getD_eq_getElem?_getD, show i < e.length by omega]
    have g1 : e.getD (i + 1) 0 = e[i + 1] := by simp [List.getD_eq_getElem?_getD, show i + 1 < e.length by omega]
    refine ⟨⟨e.getD i 0, e.getD (i + 1) 0⟩, List.mem_map.2 ⟨i, List.mem_filter.2 ⟨by simp; omega, ?_⟩, rfl⟩, by simp only [g0]; exact h1, by simp only [g1]; omega⟩
    simp only [Bool.and_eq_true, decide_eq_true_eq, g0, g1]
    exact ⟨by omega, (hj _).2 ((hpar _).1 (by omega))⟩
theorem rturn_only (a b : List PD) (e : List Int) (hp : e.Perm (bothE a b)) (hs : e.Pairwise (· ≤ ·)) : joinL (rturnK e (joinL a) (joinL b) (e.length - 1)) = turnL a b :=
  (joinL_ok _).1.unique (turnL_ok a b).1 (fun x => by rw [(joinL_ok _).2 x, rturn_cov a b e hp hs x, (turnL_ok a b).2 x])
/-! ### 26.6 -/
theorem turnL_self (a : List PD) : turnL a a = [] := (turnL_ok a a).1.unique NF.nil (fun x => by rw [(turnL_ok a a).2 x]; by_cases h : cov a x <;> simp [h, cov_nil])
theorem turnL_comm (a b : List PD) : turnL a b = turnL b a := (turnL_ok a b).1.unique (turnL_ok b a).1 (fun x => by rw [(turnL_ok a b).2 x, (turnL_ok b a).2 x]; by_cases h : cov a x <;> by_cases k : cov b x <;> simp [h, k])
theorem turnL_nil (a : List PD) : turnL a [] = joinL a := (turnL_ok a []).1.unique (joinL_ok a).1 (fun x => by rw [(turnL_ok a []).2 x, (joinL_ok a).2 x]; simp [cov_nil])
theorem turnL_twice (a b : List PD) : turnL a (turnL a b) = joinL b := (turnL_ok _ _).1.unique (joinL_ok b).1 (fun x => by rw [(turnL_ok _ _).2 x, (turnL_ok a b).2 x, (joinL_ok b).2 x]; by_cases h : cov a x <;> by_cases k : cov b x <;> simp [h, k])
theorem joinL_perm {a b : List PD} (h : a.Perm b) : joinL a = joinL b := (joinL_ok a).1.unique (joinL_ok b).1 (fun x => by rw [(joinL_ok a).2 x, (joinL_ok b).2 x]; exact cov_perm h x)
end Go.Proofs.Ytkcdcgijbaepmaa
