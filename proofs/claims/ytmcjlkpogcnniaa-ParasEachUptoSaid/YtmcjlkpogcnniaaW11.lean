/-
  The walks of a text's runes, and of 'awake'.
-/
import Derived.Test.YtmcjlkpogcnniaaW10
import Derived.Laws.IdiomStrings
set_option linter.unusedVariables false
namespace Go.Proofs.Ytmcjlkpogcnniaa
open Go.RowKit

/-- the runes of a text's bytes -/
def runesL (s : ByteArray) : List Int := (Conv.runesFrom s s.size 0 #[]).toList.map (fun v => match v with | .int _ n => n | _ => 0)
theorem runesFrom_ints (s : ByteArray) : ∀ (bound i : Nat) (acc : Array Value), (∀ v ∈ acc.toList, ∃ n, v = .int .i32 n) → ∀ v ∈ (Conv.runesFrom s bound i acc).toList, ∃ n, v = .int .i32 n := by
  intro bound
  induction bound with
  | zero => intro i acc h; exact h
  | succ b ih =>
    intro i acc h
    rw [Conv.runesFrom]
    split
    · refine ih _ _ ?_
      intro v hv
      simp at hv
      rcases hv with hv | rfl
      · exact h v (by simpa using hv)
      · exact ⟨_, rfl⟩
    · exact h
theorem runes_ivs (s : ByteArray) : (Conv.runesFrom s s.size 0 #[]).toList = ivs .i32 (runesL s) := by
  unfold runesL ivs
  rw [List.map_map]
  have h := runesFrom_ints s s.size 0 #[] (by simp)
  conv => lhs; rw [← List.map_id (Conv.runesFrom s s.size 0 #[]).toList]
  refine List.map_congr_left ?_
  intro v hv
  obtain ⟨n, rfl⟩ := h v hv
  rfl
theorem runesL_length (s : ByteArray) : (runesL s).length = (Conv.runesFrom s s.size 0 #[]).size := by simp [runesL]
theorem runesL_le (s : ByteArray) : (runesL s).length ≤ s.size := by
  rw [runesL_length]
  simpa using size_runesFrom s s.size 0 #[]

/-- 'Runes' -/
theorem uRunes_walk (s : ByteArray) (w : World) (h46 : s.size ≤ 70368744177664) :
    Calls Try.prog 45 #[.string s] w fun e w' => ∃ a' c', e = .returned (.slice a' (runesL s).length c') ∧ Own w.heap.size 21 w' a' (runesL s).length c' (ivs .i32 (runesL s)) ∧ Below w.heap.size w w' := by
  have hle := runesL_le s
  rw [runesL_length] at hle
  have hr := run_runes_of_string (P := Try.prog) w 9 26 21 s Try.underlying9 Try.underlying26 Try.underlying21 (by omega)
  have HP : Hid (∃ a' c' w', Own w.heap.size 21 w' a' (runesL s).length c' (ivs .i32 (runesL s)) ∧ Below w.heap.size w w' ∧ (convert 9 26 (.string s)).run Try.prog w = .ok (.slice a' (runesL s).length c') w') := by
    refine Lib.hid ⟨_, _, _, ?_, ?_, by rw [runesL_length]; exact hr⟩
    · rw [runesL_length]
      have hcap := grownCap_ge w (Conv.runesFrom s s.size 0 #[]).size 0 21
      have hsz : (Conv.runesFrom s s.size 0 #[] ++ Array.replicate (grownCap w (Conv.runesFrom s s.size 0 #[]).size 0 21 - (Conv.runesFrom s s.size 0 #[]).size) (Value.int .i32 0)).size = grownCap w (Conv.runesFrom s s.size 0 #[]).size 0 21 := by simp; omega
      have := World.ownsRow_lit (size := 1) (e := 21) (base := w.heap.size) w.drew (Conv.runesFrom s s.size 0 #[] ++ Array.replicate (grownCap w (Conv.runesFrom s s.size 0 #[]).size 0 21 - (Conv.runesFrom s s.size 0 #[]).size) (.int .i32 0)) (grownCap w (Conv.runesFrom s s.size 0 #[]).size 0 21) (Nat.le_refl _) (grownCap_le_maxLen _ _ _ _ (by unfold maxLen; omega)) (by rw [hsz]; omega)
      have h2 := Own.take this (Conv.runesFrom s s.size 0 #[]).size hcap
      simp only [Array.toList_append, Array.toList_replicate] at h2
      rw [List.take_append_of_le_length (by simp), List.take_of_length_le (by simp), runes_ivs] at h2
      exact h2
    · have : Below w.heap.size w w.drew := by have := below_drewN (Below.refl w.heap.size w) 1; exact this
      exact this.alloc (by simp) _
  clear hr hle
  obtain ⟨a', c', w', ho, hb, hr⟩ := HP.out
  have HO := Lib.hid ho; clear ho
  have HB := Lib.hid hb; clear hb
  clear HP
  go_enter Try.func45, Try.ntmps45
  go_wp2
  go_ret
  exact ⟨_, _, rfl, HO.out, HB.out⟩
theorem Runes_walk (s : ByteArray) (w : World) (h46 : s.size ≤ 70368744177664) :
    Calls Try.prog 21 #[.string s] w fun e w' => ∃ a' c', e = .returned (.slice a' (runesL s).length c') ∧ Own w.heap.size 21 w' a' (runesL s).length c' (ivs .i32 (runesL s)) ∧ Below w.heap.size w w' := by
  go_enter Try.func21, Try.ntmps21
  go_wp2_with fail
  refine (uRunes_walk s w h46).mono ?_
  rintro e w' ⟨a', c', rfl, ho, hb⟩
  have HO := Lib.hid ho; clear ho
  have HB := Lib.hid hb; clear hb
  go_wp2
  go_ret
  exact ⟨_, _, rfl, HO.out, HB.out⟩
end Go.Proofs.Ytmcjlkpogcnniaa
