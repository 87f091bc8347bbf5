/-
  The library's sort of the runs.
-/
import Derived.Test.YtcgdhgdblieaiaaG3
import Derived.Test.YtcgdhgdblieaiaaGS
import Derived.Shelf.SlSortCmp.WholeK
set_option linter.unusedVariables false
namespace Go.Proofs.Ytcgdhgdblieaiaa
open Go.RowKit
open Go.Sort (PermIn SortedIn SWO)

theorem sort_out {lv : List Int} (hok : ∀ x ∈ lv, -1 ≤ x ∧ x ≤ 126) {rs : List {r : RunD // RunOk lv lv.length r}} [Inhabited {r : RunD // RunOk lv lv.length r}] (hrs : rs.map (·.1) = runsL lv) {d' : Array {r : RunD // RunOk lv lv.length r}} (hp : PermIn 0 rs.toArray.size rs.toArray d') (hs : SortedIn (Go.Proofs.ltOf fun x y => keyR lv x.1 - keyR lv y.1) 0 rs.toArray.size d') :
    d'.toList.map (·.1) = runsS lv := by
  obtain ⟨h1, _, h3⟩ := hp
  have hsz : d'.size = rs.length := by simpa using h1
  have h3' : d'.toList.Perm rs := by
    have e1 : d'.extract 0 rs.toArray.size = d' := by rw [show rs.toArray.size = d'.size by simp [hsz]]; simp
    have e2 : rs.toArray.extract 0 rs.toArray.size = rs.toArray := by simp
    rw [e1, e2] at h3
    simpa using h3
  refine runsS_only lv hok _ (by rw [← hrs]; exact h3'.map _) ?_
  rw [List.pairwise_map]
  rw [List.pairwise_iff_getElem]
  intro i j hi hj hij
  have hi' : i < d'.size := by simpa using hi
  have hj' : j < d'.size := by simpa using hj
  have := hs i j (Nat.zero_le _) hij (by simp; omega)
  rw [getElem!_pos d' i hi', getElem!_pos d' j hj'] at this
  unfold Go.Proofs.ltOf at this
  have h : ¬ (keyR lv (d'[j]).1 - keyR lv (d'[i]).1 < 0) := of_decide_eq_false this
  simp only [Array.getElem_toList]
  omega

def encR (lv : List Int) (x : {r : RunD // RunOk lv lv.length r}) : List Value := cellsR x.1
theorem swo_runs (lv : List Int) : SWO (Go.Proofs.ltOf fun x y : {r : RunD // RunOk lv lv.length r} => keyR lv x.1 - keyR lv y.1) where
  irrefl x := by unfold Go.Proofs.ltOf; simp
  trans x y z h1 h2 := by unfold Go.Proofs.ltOf at *; simp at *; omega
  ntrans x y z h1 h2 := by unfold Go.Proofs.ltOf at *; simp at *; omega
theorem ints_sortK {α : Type} [Inhabited α] {enc : α → List Value} {k : Nat} {w : World} {g n : Nat} {os : Array Obj} {kk : IntKind} {a : Option Addr} {zs : List Int} (d : Array α) (h : Ints kk w a zs) (hne : ∀ b o, a = some ⟨b, o, none⟩ → b ≠ g) : Ints kk (sortWorldK enc k w g 0 n d os) a zs := by
  intro i hi
  obtain ⟨b, o, rfl, hc⟩ := h i hi
  exact ⟨b, o, rfl, cell_sortK d hc (hne b o rfl)⟩

set_option maxRecDepth 20000 in
set_option maxHeartbeats 2000000 in
theorem sortRuns_walk (zs : List Int) (hok : ∀ x ∈ zs, -1 ≤ x ∧ x ≤ 126) (bx n cA B g m c' : Nat) (aA : Option Addr) (wr : World) (hn : zs.length = n) (hlt : n ≤ 1048576) (hbx : wr.cell? ⟨bx, 0, none⟩ = some (.slice aA n cA)) (hbB : bx < B)
    (hA : Ints .i64 wr aA (placesL zs)) (hAB : ∀ b o, aA = some ⟨b, o, none⟩ → b < B) (hO : OwnR B wr (some ⟨g, 0, none⟩) m c' (runsL zs)) (hm : 0 < m) :
    Calls Try.prog 51 #[.slice (some ⟨g, 0, none⟩) m c', .func (.func 52) #[] #[.pointer (some ⟨bx, 0, none⟩)]] wr fun e w' =>
      e = .returned (.tuple #[]) ∧ OwnR B w' (some ⟨g, 0, none⟩) m c' (runsS zs) ∧ Below B wr w' := by
  have hmn : m ≤ 1048576 := by
    have h1 := hO.len
    have h2 := runsTo_length zs zs.length
    unfold runsL at h1
    omega
  obtain ⟨g', hg', hgB, hgl, hmc, hcm⟩ := hO.at hm
  obtain rfl : g = g' := by simpa using hg'
  obtain ⟨rs, hrs⟩ : ∃ rs : List {r : RunD // RunOk zs zs.length r}, rs.map (·.1) = runsL zs := ⟨(runsL zs).attachWith _ (runsL_ok zs), by simp⟩
  have hlen : rs.length = m := by rw [← hO.len, ← hrs]; simp
  have inh : Inhabited {r : RunD // RunOk zs zs.length r} := ⟨rs[0]'(by omega)⟩
  have hk3 : ∀ x : {r : RunD // RunOk zs zs.length r}, (encR zs x).length = 3 := fun _ => rfl
  have hfm : ∀ l : List {r : RunD // RunOk zs zs.length r}, l.flatMap (encR zs) = flatR (l.map (·.1)) := by
    intro l
    unfold flatR
    rw [List.flatMap_map]
    rfl
  have hown : wr.ownsRow B 68 3 (.slice (some ⟨g, 0, none⟩) rs.toArray.size c') rs.toArray.size (rs.toArray.toList.flatMap (encR zs)) := by
    rw [show rs.toArray.size = m by simpa using hlen, hfm, show rs.toArray.toList = rs by simp, hrs]
    exact hO
  have hcon := AnyQ.slices_SortFunc (P := Try.prog) (ρ := sortLaid_ren) sortLaid 3 Try.isAgg68 Try.sizeOf68 (encR zs) hk3 (fun x v hv => by simp [encR, cellsR] at hv; rcases hv with rfl | rfl | rfl <;> rfl)
    (fun x y => keyR zs x.1 - keyR zs y.1) (swo_runs zs) 52 #[.pointer (some ⟨bx, 0, none⟩)] g 0 c' rs.toArray wr (enters_of Try.func52 (by kernel_rfl) rfl)
    (fun k os dk hs x y => runsCmp_walk zs bx n cA aA x.1 y.1 _ hn hlt (cell_sortK dk hbx (by omega)) (ints_sortK dk hA (fun b o e => by have := hAB b o e; omega)) x.2 y.2)
    (holdsK_of hk3 (by omega) hown) hgl (by simp; omega)
  have hsz : rs.toArray.size = m := by simpa using hlen
  change Calls Try.prog 51 _ _ _ at hcon
  have hcon2 : Calls Try.prog 51 #[.slice (some ⟨g, 0, none⟩) m c', .func (.func 52) #[] #[.pointer (some ⟨bx, 0, none⟩)]] wr (fun e w' => e = .returned (.tuple #[]) ∧ ∃ d' n os, PermIn 0 rs.toArray.size rs.toArray d' ∧ SortedIn (Go.Proofs.ltOf fun x y => keyR zs x.1 - keyR zs y.1) 0 rs.toArray.size d' ∧ w' = sortWorldK (encR zs) 3 wr g 0 n d' os) := by
    have e : (Value.slice (some ⟨g, 0, none⟩) m c') = .slice (some ⟨g, 0, none⟩) rs.toArray.size c' := by rw [hsz]
    rw [e]
    exact hcon
  refine hcon2.mono ?_
  rintro e w' ⟨rfl, d', q, os, hp, hs, rfl⟩
  refine ⟨rfl, ?_, ?_⟩
  · have h := sort_own (n := q) (os := os) hk3 (by omega) hp.1 hown
    rw [hsz, hfm, sort_out hok hrs hp hs] at h
    exact h
  · exact Below.ofGrown (v := .slice (some ⟨g, 0, none⟩) m c') (grownBy_sortK d') (by omega) (fun k hk => by cases hk; exact hgB)
end Go.Proofs.Ytcgdhgdblieaiaa
