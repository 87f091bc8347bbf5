/-
  The walks of the library's IndexFunc and ContainsFunc where the function says no to every number.
-/
import Derived.Test.YtabbabkmojaoaaaFA
set_option linter.unusedVariables false
set_option linter.unusedSimpArgs false
namespace Go.Proofs.Ytabbabkmojaoaaa
open Go.RowKit

def IfR (w : World) (i : Value) (wr : World) (n : Nat) : Prop := ∃ k : Nat, k ≤ n ∧ i = .int .i64 (k : Nat) ∧ Below w.heap.size w wr
set_option maxRecDepth 100000 in
theorem IndexFunc_none (w : World) (b o n c : Nat) (zs : List Nat) (cf : Nat) (lb : Array Value) (hn : zs.length = n) (hn2 : n ≤ 1048576) (h : NumsAt w (some ⟨b, o, none⟩) zs) (eg : ∀ args W, (callFunc cf args).run Try.prog W = .ok (.enter cf args) W)
    (hcall : ∀ (x : Nat) W, x ∈ zs → Below w.heap.size w W → Calls Try.prog cf (#[.int .u16 (x : Nat)] ++ lb) W fun e W' => e = .returned (.bool false) ∧ Below W.heap.size W W') :
    Calls Try.prog 122 #[.slice (some ⟨b, o, none⟩) n c, .func (.func cf) #[] lb] w fun e w' => e = .returned (.int .i64 (-1)) ∧ Below w.heap.size w w' := by
  have HN := Lib.hid hn; clear hn
  have HA := Lib.hid h; clear h
  have HEg := Lib.hid eg; clear eg
  have HCl := Lib.hid hcall; clear hcall
  go_enter Try.func122, Try.ntmps122
  go_wp2
  go_loopw [8] (fun i wr => IfR w i wr n) (fun i _ => n - (intOf i).toNat)
  case atStart => exact ⟨0, Nat.zero_le _, rfl, Below.refl _ _⟩
  case round =>
    obtain ⟨k, hk, rfl, hb⟩ := hrel
    have HB := Lib.hid hb; clear hb
    by_cases hkn : k < n
    · have hki : (k : Int) < (n : Int) := by omega
      have hkl : k < zs.length := by rw [HN.out]; exact hkn
      obtain ⟨b', o', ha, hc⟩ := (HA.out.below HB.out) k hkl
      simp only [Option.some.injEq, Addr.mk.injEq, and_true] at ha
      obtain ⟨rfl, rfl⟩ := ha
      have HMem : Hid (zs[k] ∈ zs) := Lib.hid (List.getElem_mem hkl)
      generalize zs[k] = x at *
      unfold num16 at hc
      have heg := HEg.out
      go_wp2_with fail
      refine (HCl.out x wr HMem.out HB.out).mono ?_
      rintro e w1 ⟨rfl, hb1⟩
      have HB1 := Lib.hid (HB.out.trans (hb1.mono HB.out.size)); clear hb1
      go_wp2
      go_roundw
      case rel => exact ⟨k + 1, by omega, by go_num, HB1.out⟩
      case measure => simp [intOf]; omega
    · obtain rfl : k = n := by omega
      have hki : ¬ (k : Int) < (k : Int) := by omega
      go_wp2
      go_ret
      exact ⟨rfl, HB.out⟩
theorem ContainsFunc_none (w : World) (b o n c : Nat) (zs : List Nat) (cf : Nat) (lb : Array Value) (hn : zs.length = n) (hn2 : n ≤ 1048576) (h : NumsAt w (some ⟨b, o, none⟩) zs) (eg : ∀ args W, (callFunc cf args).run Try.prog W = .ok (.enter cf args) W)
    (hcall : ∀ (x : Nat) W, x ∈ zs → Below w.heap.size w W → Calls Try.prog cf (#[.int .u16 (x : Nat)] ++ lb) W fun e W' => e = .returned (.bool false) ∧ Below W.heap.size W W') :
    Calls Try.prog 94 #[.slice (some ⟨b, o, none⟩) n c, .func (.func cf) #[] lb] w fun e w' => e = .returned (.bool false) ∧ Below w.heap.size w w' := by
  have HI := Lib.hid (IndexFunc_none w b o n c zs cf lb hn hn2 h eg hcall)
  clear h eg hcall
  go_enter Try.func94, Try.ntmps94
  go_wp2_with fail
  refine HI.out.mono ?_
  rintro e w1 ⟨rfl, hb⟩
  have HB := Lib.hid hb; clear hb
  go_wp2
  go_ret
  exact ⟨rfl, HB.out⟩
end Go.Proofs.Ytabbabkmojaoaaa
