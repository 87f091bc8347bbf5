/-
  The library's sort of pieces.
-/
import Derived.Test.YtkcdcgijbaepmaaW1
import Derived.Shelf.SlSortCmp.WholeK
import Derived.Shelf.SlSortCmp.NoneTotal
set_option linter.unusedVariables false
namespace Go.Proofs.Ytkcdcgijbaepmaa
open Go.RowKit
open Go.Sort (PermIn SortedIn SWO)

instance : Inhabited PD := ⟨⟨0, 0⟩⟩
def cmpP (x y : PD) : Int := cmpI x.f y.f
theorem ltP (x y : PD) : Go.Proofs.ltOf cmpP x y = decide (x.f < y.f) := by
  unfold Go.Proofs.ltOf cmpP cmpI
  by_cases h1 : x.f < y.f
  · rw [if_pos h1]; simp [h1]
  · rw [if_neg h1]
    by_cases h2 : y.f < x.f
    · rw [if_pos h2]; simp [h1]
    · rw [if_neg h2]; simp [h1]
theorem swo_pieces : SWO (Go.Proofs.ltOf cmpP) where
  irrefl x := by rw [ltP]; simp
  trans x y z h1 h2 := by rw [ltP] at *; simp at *; omega
  ntrans x y z h1 h2 := by rw [ltP] at *; simp at *; omega

set_option maxRecDepth 20000 in
set_option maxHeartbeats 2000000 in
theorem sortP_some (B g m c' : Nat) (rs : List PD) (wr : World) (hlt : m ≤ 1048576) (hO : OwnP B wr (some ⟨g, 0, none⟩) m c' rs) (hm : 0 < m) :
    Calls Try.prog 51 #[.slice (some ⟨g, 0, none⟩) m c', .func (.func 52) #[] #[]] wr fun e w' =>
      e = .returned (.tuple #[]) ∧ ∃ qs : List PD, qs.Perm rs ∧ qs.Pairwise (fun a b => a.f ≤ b.f) ∧ OwnP B w' (some ⟨g, 0, none⟩) m c' qs ∧ Below B wr w' := by
  obtain ⟨g', hg', hgB, hgl, hmc, hcm⟩ := hO.at hm
  obtain rfl : g = g' := by simpa using hg'
  have hlen : rs.length = m := hO.len
  have hk2 : ∀ x : PD, (cellsP x).length = 2 := fun _ => rfl
  have hsz : rs.toArray.size = m := by simpa using hlen
  have hown : wr.ownsRow B 45 2 (.slice (some ⟨g, 0, none⟩) rs.toArray.size c') rs.toArray.size (rs.toArray.toList.flatMap cellsP) := by
    rw [hsz, show rs.toArray.toList = rs by simp]
    exact hO
  have hcon := AnyQ.slices_SortFunc (P := Try.prog) (ρ := sortLaid_ren) sortLaid 2 Try.isAgg45 Try.sizeOf45 cellsP hk2 (fun x v hv => by simp [cellsP] at hv; rcases hv with rfl | rfl <;> rfl)
    cmpP swo_pieces 52 #[] g 0 c' rs.toArray wr (enters_of Try.func52 (by kernel_rfl) rfl)
    (fun k os dk hs x y => lower_walk x y _)
    (holdsK_of hk2 (by omega) hown) hgl (by simp; omega)
  change Calls Try.prog 51 _ _ _ at hcon
  have hcon2 : Calls Try.prog 51 #[.slice (some ⟨g, 0, none⟩) m c', .func (.func 52) #[] #[]] wr (fun e w' => e = .returned (.tuple #[]) ∧ ∃ d' n os, PermIn 0 rs.toArray.size rs.toArray d' ∧ SortedIn (Go.Proofs.ltOf cmpP) 0 rs.toArray.size d' ∧ w' = sortWorldK cellsP 2 wr g 0 n d' os) := by
    have e : (Value.slice (some ⟨g, 0, none⟩) m c') = .slice (some ⟨g, 0, none⟩) rs.toArray.size c' := by rw [hsz]
    rw [e]
    exact hcon
  refine hcon2.mono ?_
  rintro e w' ⟨rfl, d', q, os, hp, hs, rfl⟩
  refine ⟨rfl, d'.toList, ?_, ?_, ?_, ?_⟩
  · obtain ⟨h1, _, h3⟩ := hp
    have hd : d'.size = rs.length := by simpa using h1
    have e1 : d'.extract 0 rs.toArray.size = d' := by rw [show rs.toArray.size = d'.size by simp [hd]]; simp
    have e2 : rs.toArray.extract 0 rs.toArray.size = rs.toArray := by simp
    rw [e1, e2] at h3
    simpa using h3
  · rw [List.pairwise_iff_getElem]
    intro i j hi hj hij
    have h1 := hp.1
    have hi' : i < d'.size := by simpa using hi
    have hj' : j < d'.size := by simpa using hj
    have := hs i j (Nat.zero_le _) hij (by omega)
    rw [getElem!_pos d' i hi', getElem!_pos d' j hj', ltP] at this
    have h2 := of_decide_eq_false this
    simp only [Array.getElem_toList]
    omega
  · have h := sort_own (n := q) (os := os) hk2 (by omega) hp.1 hown
    rw [hsz] at h
    exact h
  · exact Below.ofGrown (v := .slice (some ⟨g, 0, none⟩) m c') (grownBy_sortK d') (by omega) (fun k hk => by cases hk; exact hgB)
theorem sortP_walk (B : Nat) (a : Option Addr) (m c' : Nat) (rs : List PD) (wr : World) (hlt : m ≤ 1048576) (hO : OwnP B wr a m c' rs) :
    Calls Try.prog 51 #[.slice a m c', .func (.func 52) #[] #[]] wr fun e w' =>
      e = .returned (.tuple #[]) ∧ ∃ qs : List PD, qs.Perm rs ∧ qs.Pairwise (fun a b => a.f ≤ b.f) ∧ OwnP B w' a m c' qs ∧ Below B wr w' := by
  by_cases hm : 0 < m
  · obtain ⟨g, rfl, _⟩ := hO.at hm
    exact sortP_some B g m c' rs wr hlt hO hm
  · obtain rfl : m = 0 := by omega
    have h0 : rs = [] := List.length_eq_zero_iff.1 hO.len
    subst h0
    have h := AnyF.slices_SortFunc_none (P := Try.prog) (ρ := sortLaid_ren) sortLaid a c' (.func (.func 52) #[] #[]) wr
    change Calls Try.prog 51 _ _ _ at h
    refine h.mono ?_
    rintro e w' ⟨rfl, rfl⟩
    exact ⟨rfl, [], List.Perm.refl _, List.Pairwise.nil, hO, Below.refl _ _⟩
end Go.Proofs.Ytkcdcgijbaepmaa
