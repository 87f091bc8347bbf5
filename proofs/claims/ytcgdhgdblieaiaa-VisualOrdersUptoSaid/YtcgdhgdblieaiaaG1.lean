/-
  Plain laws: the runs of a line, and the order as the runs laid one behind the other. No program here.
-/
import Derived.Test.YtcgdhgdblieaiaaP2
import Derived.Test.YtcgdhgdblieaiaaP5
set_option linter.unusedVariables false
namespace Go.Proofs.Ytcgdhgdblieaiaa

/-- a run: its first place, the one behind its last, its level -/
structure RunD where
  f : Nat
  t : Nat
  l : Int
theorem flatMap_eq {α β : Type} {f g : α → List β} : ∀ l : List α, (∀ a ∈ l, f a = g a) → l.flatMap f = l.flatMap g
  | [], _ => rfl
  | x :: t, h => by rw [List.flatMap_cons, List.flatMap_cons, h x (by simp), flatMap_eq t (fun a ha => h a (by simp [ha]))]
def runPush : List RunD → Nat → Int → List RunD
  | [], i, l => [⟨i, i + 1, l⟩]
  | [r], i, l => if r.l = l then [⟨r.f, i + 1, l⟩] else [r, ⟨i, i + 1, l⟩]
  | r :: s :: rs, i, l => r :: runPush (s :: rs) i l
def runsTo (lv : List Int) : Nat → List RunD
  | 0 => []
  | k + 1 => if lv.getD k 0 = -1 then runsTo lv k else runPush (runsTo lv k) k (lv.getD k 0)
def runsL (lv : List Int) : List RunD := runsTo lv lv.length

theorem runPush_same (rs : List RunD) (r : RunD) (i : Nat) : runPush (rs ++ [r]) i r.l = rs ++ [⟨r.f, i + 1, r.l⟩] := by
  induction rs with
  | nil => simp [runPush]
  | cons x t ih =>
    cases t with
    | nil => simp [runPush]
    | cons y u => rw [List.cons_append, List.cons_append, runPush, ← List.cons_append, ih]; rfl
theorem runPush_new (rs : List RunD) (i : Nat) (l : Int) (h : ∀ r, rs.getLast? = some r → r.l ≠ l) : runPush rs i l = rs ++ [⟨i, i + 1, l⟩] := by
  induction rs with
  | nil => rfl
  | cons x t ih =>
    cases t with
    | nil => rw [runPush, if_neg (h x rfl)]; rfl
    | cons y u => rw [runPush, ih (fun r hr => h r (by simpa using hr))]; rfl
theorem runPush_length (rs : List RunD) (i : Nat) (l : Int) : rs.length ≤ (runPush rs i l).length ∧ (runPush rs i l).length ≤ rs.length + 1 := by
  induction rs with
  | nil => simp [runPush]
  | cons x t ih =>
    cases t with
    | nil => rw [runPush]; split <;> simp
    | cons y u => rw [runPush]; simp only [List.length_cons] at ih ⊢; omega
theorem runsTo_length (lv : List Int) (k : Nat) : (runsTo lv k).length ≤ k := by
  induction k with
  | zero => simp [runsTo]
  | succ k ih =>
    rw [runsTo]
    split
    · omega
    · have := (runPush_length (runsTo lv k) k (lv.getD k 0)).2; omega

/-- the shown places of a run, as they stand -/
def block (lv : List Int) (r : RunD) : List Int := (((List.range' r.f (r.t - r.f)).filter (fun i => decide (lv.getD i 0 ≠ -1)))).map (fun (i : Nat) => (i : Int))
/-- .. as they are read -/
def readR (lv : List Int) (r : RunD) : List Int := if r.l % 2 = 1 then (block lv r).reverse else block lv r

structure RunOk (lv : List Int) (k : Nat) (r : RunD) : Prop where
  lt : r.f < r.t
  le : r.t ≤ k
  first : lv.getD r.f 0 = r.l
  last : lv.getD (r.t - 1) 0 = r.l
  all : ∀ i, r.f ≤ i → i < r.t → lv.getD i 0 = -1 ∨ lv.getD i 0 = r.l
  pos : r.l ≠ -1
theorem RunOk.mono {lv : List Int} {k k' : Nat} {r : RunD} (h : RunOk lv k r) (hk : k ≤ k') : RunOk lv k' r := ⟨h.lt, Nat.le_trans h.le hk, h.first, h.last, h.all, h.pos⟩
theorem block_mem {lv : List Int} {r : RunD} {x : Int} : x ∈ block lv r ↔ ∃ i : Nat, x = i ∧ r.f ≤ i ∧ i < r.t ∧ lv.getD i 0 ≠ -1 := by
  unfold block
  simp only [List.mem_map, List.mem_filter, List.mem_range', decide_eq_true_eq]
  constructor
  · rintro ⟨i, ⟨⟨j, hj, rfl⟩, h2⟩, rfl⟩
    exact ⟨_, rfl, by omega, by omega, h2⟩
  · rintro ⟨i, rfl, h1, h2, h3⟩
    exact ⟨i, ⟨⟨i - r.f, by omega, by omega⟩, h3⟩, rfl⟩
theorem block_ext (lv : List Int) (f t t' : Nat) (l : Int) (h1 : f ≤ t) (h2 : t ≤ t') (hg : ∀ i, t ≤ i → i < t' → lv.getD i 0 = -1) : block lv ⟨f, t', l⟩ = block lv ⟨f, t, l⟩ := by
  unfold block
  simp only
  congr 1
  rw [show t' - f = (t - f) + (t' - t) by omega, ← List.range'_append_1, List.filter_append, show f + (t - f) = t by omega]
  have : (List.range' t (t' - t)).filter (fun i => decide (lv.getD i 0 ≠ -1)) = [] := by
    rw [List.filter_eq_nil_iff]
    intro i hi
    rw [List.mem_range'_1] at hi
    rw [decide_eq_true_eq]
    exact fun h => h (hg i hi.1 (by omega))
  rw [this, List.append_nil]
theorem block_push (lv : List Int) (f k : Nat) (l : Int) (h1 : f ≤ k) (hk : lv.getD k 0 ≠ -1) : block lv ⟨f, k + 1, l⟩ = block lv ⟨f, k, l⟩ ++ [(k : Int)] := by
  unfold block
  simp only
  rw [show k + 1 - f = (k - f) + 1 by omega, ← List.range'_append_1, List.filter_append, List.map_append, show f + (k - f) = k by omega, show List.range' k 1 = [k] from rfl, List.filter_cons, if_pos (decide_eq_true hk)]
  rfl
theorem block_one (lv : List Int) (k : Nat) (l : Int) (hk : lv.getD k 0 ≠ -1) : block lv ⟨k, k + 1, l⟩ = [(k : Int)] := by
  unfold block
  simp only
  rw [show k + 1 - k = 1 by omega, show List.range' k 1 = [k] from rfl, List.filter_cons, if_pos (decide_eq_true hk)]
  rfl
theorem block_lvl (lv : List Int) (f t : Nat) (l l' : Int) : block lv ⟨f, t, l⟩ = block lv ⟨f, t, l'⟩ := rfl

/-- what is known of the runs up to a place -/
structure RunsInv (lv : List Int) (k : Nat) : Prop where
  ok : ∀ r ∈ runsTo lv k, RunOk lv k r
  tot : (runsTo lv k).flatMap (block lv) = shownIdx (lv.take k)
  gone : ∀ r, (runsTo lv k).getLast? = some r → ∀ i, r.t ≤ i → i < k → lv.getD i 0 = -1
theorem runsInv (lv : List Int) (k : Nat) (hk : k ≤ lv.length) : RunsInv lv k := by
  induction k with
  | zero => exact ⟨fun r hr => (by cases hr), by simp [runsTo, shownIdx], fun r hr => (by cases hr)⟩
  | succ k ih =>
    have ih := ih (by omega)
    have hg : lv.getD k 0 = lv[k] := by simp [show k < lv.length by omega]
    have hsn := shownIdx_snoc lv k (by omega)
    by_cases hs : lv.getD k 0 = -1
    · have e : runsTo lv (k + 1) = runsTo lv k := by rw [runsTo, if_pos hs]
      rw [if_pos (by rw [← hg]; exact hs), List.append_nil] at hsn
      refine ⟨?_, ?_, ?_⟩
      · rw [e]; exact fun r hr => (ih.ok r hr).mono (by omega)
      · rw [e, hsn]; exact ih.tot
      · rw [e]
        intro r hr i h1 h2
        by_cases hi : i = k
        · rw [hi]; exact hs
        · exact ih.gone r hr i h1 (by omega)
    · have e : runsTo lv (k + 1) = runPush (runsTo lv k) k (lv.getD k 0) := by rw [runsTo, if_neg hs]
      rw [if_neg (by rw [← hg]; exact hs)] at hsn
      by_cases hl : ∃ r, (runsTo lv k).getLast? = some r ∧ r.l = lv.getD k 0
      · obtain ⟨r, hr, hrl⟩ := hl
        obtain ⟨rs, hrs⟩ : ∃ rs, runsTo lv k = rs ++ [r] := by
          have := List.getLast?_eq_some_iff.1 hr
          obtain ⟨ys, h⟩ := this
          exact ⟨ys, h⟩
        have e2 : runsTo lv (k + 1) = rs ++ [⟨r.f, k + 1, r.l⟩] := by rw [e, hrs, ← hrl, runPush_same]
        have hro := ih.ok r (by rw [hrs]; simp)
        have hgo := ih.gone r hr
        refine ⟨?_, ?_, ?_⟩
        · rw [e2]
          intro x hx
          rcases List.mem_append.1 hx with hx | hx
          · exact (ih.ok x (by rw [hrs]; simp [hx])).mono (by omega)
          · simp at hx
            subst hx
            refine ⟨by have := hro.lt; have := hro.le; simp only; omega, by simp, hro.first, by simp only [Nat.add_sub_cancel]; exact hrl.symm, ?_, hro.pos⟩
            intro i h1 h2
            simp only at h1 h2
            by_cases hi : i < r.t
            · exact hro.all i h1 hi
            · by_cases hik : i = k
              · right; rw [hik]; exact hrl.symm
              · left; exact hgo i (by omega) (by omega)
        · rw [e2, List.flatMap_append, hsn, ← ih.tot, hrs, List.flatMap_append, List.append_assoc]
          congr 1
          simp only [List.flatMap_cons, List.flatMap_nil, List.append_nil]
          rw [block_push lv r.f k r.l (by have := hro.lt; have := hro.le; omega) hs, block_ext lv r.f r.t k r.l (by have := hro.lt; omega) hro.le (fun i h1 h2 => hgo i h1 h2)]
        · rw [e2]
          intro x hx i h1 h2
          simp at hx
          subst hx
          simp only at h1
          omega
      · have e2 : runsTo lv (k + 1) = runsTo lv k ++ [⟨k, k + 1, lv.getD k 0⟩] := by
          rw [e, runPush_new _ _ _ (fun r hr hrl => hl ⟨r, hr, hrl⟩)]
        refine ⟨?_, ?_, ?_⟩
        · rw [e2]
          intro x hx
          rcases List.mem_append.1 hx with hx | hx
          · exact (ih.ok x hx).mono (by omega)
          · simp at hx
            subst hx
            refine ⟨by simp, by simp, rfl, by simp, ?_, hs⟩
            intro i h1 h2
            simp only at h1 h2
            obtain rfl : i = k := by omega
            exact .inr rfl
        · rw [e2, List.flatMap_append, hsn, ih.tot]
          simp only [List.flatMap_cons, List.flatMap_nil, List.append_nil]
          rw [block_one lv k _ hs]
        · rw [e2]
          intro x hx i h1 h2
          simp at hx
          subst hx
          simp only at h1
          omega

/-! ### turning round whole blocks -/
section
variable {α β : Type} (p : α → Bool) (q : β → Bool) (f : β → List α)
theorem turnGo_blocks (acc Rs : List β) (h : ∀ r ∈ Rs, f r ≠ [] ∧ ∀ x ∈ f r, p x = q r) (hacc : ∀ r ∈ acc, q r = true) :
    turnGo p (acc.flatMap (fun r => (f r).reverse)) (Rs.flatMap f) = (turnGo q acc Rs).flatMap (fun r => if q r = true then (f r).reverse else f r) := by
  have hfl : ∀ l : List β, (∀ r ∈ l, q r = true) → l.flatMap (fun r => (f r).reverse) = l.flatMap (fun r => if q r = true then (f r).reverse else f r) := by
    intro l hl
    induction l with
    | nil => rfl
    | cons x t ih => rw [List.flatMap_cons, List.flatMap_cons, if_pos (hl x (by simp)), ih (fun r hr => hl r (by simp [hr]))]
  have hno : ∀ (run rest : List α), (∀ x ∈ run, p x = false) → turnGo p [] (run ++ rest) = run ++ turnGo p [] rest := by
    intro run rest hr
    induction run with
    | nil => rfl
    | cons x t ih =>
      rw [List.cons_append, turnGo, if_neg (by simp [hr x (by simp)]), ih (fun y hy => hr y (by simp [hy]))]
      rfl
  induction Rs generalizing acc with
  | nil => rw [List.flatMap_nil, turnGo, turnGo]; exact hfl acc hacc
  | cons r t ih =>
    obtain ⟨hne, hr⟩ := h r (by simp)
    have ht : ∀ r ∈ t, f r ≠ [] ∧ ∀ x ∈ f r, p x = q r := fun x hx => h x (by simp [hx])
    rw [List.flatMap_cons]
    cases hq : q r with
    | true =>
      rw [turnGo_run p _ _ _ (fun x hx => by rw [hr x hx, hq]), turnGo, if_pos hq]
      have := ih (r :: acc) ht (fun x hx => by
        rcases List.mem_cons.1 hx with rfl | hx
        · exact hq
        · exact hacc x hx)
      rw [List.flatMap_cons] at this
      exact this
    | false =>
      rw [turnGo, if_neg (by simp [hq])]
      cases hf : f r with
      | nil => exact absurd hf hne
      | cons x u =>
        rw [hf] at hr
        rw [List.cons_append, turnGo, if_neg (by simp [hr x (by simp), hq]), hno u _ (fun y hy => by rw [hr y (by simp [hy]), hq]), List.flatMap_append, List.flatMap_cons, if_neg (by simp [hq]), hf, hfl acc hacc]
        have := ih [] ht (fun x hx => by cases hx)
        rw [List.flatMap_nil] at this
        rw [this]
        simp
theorem turns_blocks (Rs : List β) (h : ∀ r ∈ Rs, f r ≠ [] ∧ ∀ x ∈ f r, p x = q r) :
    turns p (Rs.flatMap f) = (turns q Rs).flatMap (fun r => if q r = true then (f r).reverse else f r) := by
  have := turnGo_blocks p q f [] Rs h (fun r hr => by cases hr)
  rwa [List.flatMap_nil] at this
end

def runGe (k : Nat) (r : RunD) : Bool := decide ((k : Int) ≤ r.l)
def passesR : Nat → List RunD → List RunD
  | 0, l => l
  | k + 1, l => passesR k (turns (runGe (k + 1)) l)
theorem passesR_perm (k : Nat) (l : List RunD) : (passesR k l).Perm l := by
  induction k generalizing l with
  | zero => exact .refl _
  | succ k ih => exact (ih _).trans (turns_perm _ _)
theorem passes_blocks (lv : List Int) (k : Nat) (f : RunD → List Int) (Rs : List RunD) (h : ∀ r ∈ Rs, f r ≠ [] ∧ 0 ≤ r.l ∧ ∀ x ∈ f r, lv.getD x.toNat 0 = r.l) :
    passes lv k (Rs.flatMap f) = (passesR k Rs).flatMap (fun r => if (min (k : Int) r.l) % 2 = 1 then (f r).reverse else f r) := by
  induction k generalizing f Rs with
  | zero =>
    rw [passes, passesR]
    refine (flatMap_eq _ (fun r hr => ?_)).symm
    have := (h r hr).2.1
    rw [if_neg (by omega)]
  | succ k ih =>
    rw [passes, passesR, turns_blocks (lvGe lv (k + 1)) (runGe (k + 1)) f Rs (fun r hr => ⟨(h r hr).1, fun x hx => by simp only [lvGe, runGe, (h r hr).2.2 x hx]⟩)]
    rw [ih]
    · refine flatMap_eq _ (fun r hr => ?_)
      have hr0 := (h r ((turns_perm _ _).mem_iff.1 ((passesR_perm k _).mem_iff.1 hr))).2.1
      by_cases hq : ((k + 1 : Nat) : Int) ≤ r.l
      · rw [if_pos (show runGe (k + 1) r = true from decide_eq_true hq)]
        have e1 : min (k : Int) r.l = k := by omega
        have e2 : min ((k + 1 : Nat) : Int) r.l = (k : Int) + 1 := by omega
        rw [e1, e2]
        by_cases ho : (k : Int) % 2 = 1
        · rw [if_pos ho, if_neg (by omega), List.reverse_reverse]
        · rw [if_neg ho, if_pos (by omega)]
      · rw [if_neg (show ¬ runGe (k + 1) r = true by simp [runGe]; omega)]
        have e1 : min (k : Int) r.l = r.l := by omega
        have e2 : min ((k + 1 : Nat) : Int) r.l = r.l := by omega
        rw [e1, e2]
    · intro r hr
      obtain ⟨h1, h2, h3⟩ := h r ((turns_perm _ _).mem_iff.1 hr)
      refine ⟨?_, h2, ?_⟩
      · split
        · simpa using h1
        · exact h1
      · intro x hx
        split at hx
        · exact h3 x (by simpa using hx)
        · exact h3 x hx

/-- the runs in the order in which they are shown -/
def runsS (lv : List Int) : List RunD := passesR (high lv).toNat (runsL lv)
theorem runsS_perm (lv : List Int) : (runsS lv).Perm (runsL lv) := passesR_perm _ _
theorem runsL_ok (lv : List Int) : ∀ r ∈ runsL lv, RunOk lv lv.length r := (runsInv lv lv.length (Nat.le_refl _)).ok
theorem runsS_ok (lv : List Int) : ∀ r ∈ runsS lv, RunOk lv lv.length r := fun r hr => runsL_ok lv r ((runsS_perm lv).mem_iff.1 hr)
theorem block_self {lv : List Int} {k : Nat} {r : RunD} (h : RunOk lv k r) : (r.f : Int) ∈ block lv r := block_mem.2 ⟨r.f, rfl, Nat.le_refl _, h.lt, by rw [h.first]; exact h.pos⟩
theorem ord_runs (lv : List Int) (h : ∀ x ∈ lv, -1 ≤ x ∧ x ≤ 126) : ord lv = (runsS lv).flatMap (readR lv) := by
  have hi := runsInv lv lv.length (Nat.le_refl _)
  have hb := high_ok lv h
  have hlv : ∀ r ∈ runsL lv, 0 ≤ r.l ∧ r.l ≤ high lv := by
    intro r hr
    have ho := hi.ok r hr
    have hfl : r.f < lv.length := by have := ho.lt; have := ho.le; omega
    have e : lv.getD r.f 0 = lv[r.f] := by simp [hfl]
    have h1 := h _ (List.getElem_mem hfl)
    have h2 := high_ge lv r.f hfl
    have h3 := ho.first
    have h4 := ho.pos
    omega
  unfold ord
  have ht := hi.tot
  rw [List.take_length] at ht
  rw [← ht]
  show passes lv (high lv).toNat ((runsL lv).flatMap (block lv)) = _
  rw [passes_blocks lv _ (block lv) (runsL lv)]
  · show (runsS lv).flatMap _ = (runsS lv).flatMap _
    refine flatMap_eq _ (fun r hr => ?_)
    have := hlv r ((runsS_perm lv).mem_iff.1 hr)
    rw [show min (((high lv).toNat : Nat) : Int) r.l = r.l by omega]
    rfl
  · intro r hr
    have ho := hi.ok r hr
    refine ⟨fun e => (by have := block_self ho; rw [e] at this; cases this), (hlv r hr).1, ?_⟩
    intro x hx
    obtain ⟨i, rfl, h1, h2, h3⟩ := block_mem.1 hx
    rw [Int.toNat_natCast]
    rcases ho.all i h1 h2 with h4 | h4
    · exact absurd h4 h3
    · exact h4
end Go.Proofs.Ytcgdhgdblieaiaa
