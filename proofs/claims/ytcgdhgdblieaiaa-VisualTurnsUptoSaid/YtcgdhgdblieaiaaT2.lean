/-
  Walks: the document's own turning of texts.
-/
import Derived.Test.YtcgdhgdblieaiaaT1
import Derived.Deep.RegionLaw
set_option linter.unusedVariables false
namespace Go.Proofs.Ytcgdhgdblieaiaa
open Go.RowKit

/-- one element of several cells appended, in a region that draws its order -/
theorem step_appN {P : Program} {t e : TypeId} {z : Value} {size bytes : Nat} (el : ElemN P t e z size bytes) {w : World} {ops : Array Oper} {o : Oper} {act : Act} {K : Act → World → Prop} {Q : Exit → Act → World → Prop} {E : Prop} (hgd : o.guard = none) (s x : Operand)
    (ho : o.op = .call { callee := .builtin .append, args := #[s, x], argTypes := #[t, t] }) {B : Nat} {a : Option Addr} {n cap : Nat} {xs : List Value} (hown : w.ownsRow B e size (.slice a n cap) n xs) (hB : B ≤ w.heap.size) (hn : (n + 1) * bytes ≤ 140737488355328) (hm : n < 140737488355328) (b : Nat) (cs : List Value) (hcs : cs.length = size)
    (hcell : ∀ j v, cs[j]? = some v → w.cell? ⟨b, j, none⟩ = some v) (hu : ∀ u ∈ cs, u.oneCell' = true)
    (hs : act.eval s = .slice a n cap) (hx : act.eval x = .slice (some ⟨b, 0, none⟩) 1 1)
    (h : ∀ a' cap' w', w'.ownsRow B e size (.slice a' (n + 1) cap') (n + 1) (xs ++ cs) → w.grownBy w' (Value.slice a n cap).ownBlock → newBlock w (.slice a n cap) (.slice a' (n + 1) cap') → K (act.put o.dst (.slice a' (n + 1) cap')) w') :
    if Region.wanted o (yielded ops act.tmps) = true then Oper.wp P o act w K Q else E := by
  rw [if_pos (by simp [Region.wanted, hgd])]
  obtain ⟨i, hi, hz, h1, hb⟩ := info_parts el.inf
  have hcell' : ∀ j v, cs[j]? = some v → w.cell? ((⟨b, 0, none⟩ : Addr).add j) = some v := by
    intro j v hv
    rw [Addr.add_lit, Nat.zero_add]
    exact hcell j v hv
  obtain ⟨v', w', hr, h2, h3, h4⟩ := run_app (P := P) w B t o.type e i z size bytes el.und hi hz h1 hb el.sz el.pos _ n xs hown ⟨b, 0, none⟩ 1 1 cs (by simp [hcs]) hcell' hu (by simp only [maxLen]; omega) hn hB
  unfold Oper.wp execOp
  simp only [ho, resolve, invoke, builtin, Sem.run_bind, Sem.run_pure, Result.andThen_ok, List.map_toArray, List.map_cons, List.map_nil, hs, hx, hr]
  have hv' : ∃ a' cap', v' = .slice a' (n + 1) cap' := by
    rcases h2.2 with ⟨rfl, h0⟩ | ⟨g, cap', cur, rfl, _⟩
    · omega
    · exact ⟨_, _, rfl⟩
  obtain ⟨a', cap', rfl⟩ := hv'
  exact h a' cap' w' h2 h3 h4

theorem ownsRow_mono {B B' : Nat} {E : TypeId} {size n : Nat} {w : World} {v : Value} {xs : List Value} (h : w.ownsRow B E size v n xs) (hB : B' ≤ B) : w.ownsRow B' E size v n xs := by
  refine ⟨h.1, ?_⟩
  rcases h.2 with hn | ⟨g, cap, cur, e, hbg, rest⟩
  · exact .inl hn
  · exact .inr ⟨g, cap, cur, e, Nat.le_trans hB hbg, rest⟩
theorem Try.elemTurned : ElemN Try.prog 42 47 (.agg #[.int .i64 0, .string { data := #[] }]) 2 24 := ⟨Try.underlying42, by kernel_rfl, by kernel_rfl, by decide⟩
/-- things told: a place and a text, two cells each -/
def flatT (ss : List ByteArray) (o : List Int) : List Value := o.flatMap (fun i => [.int .i64 i, .string (ss.getD i.toNat noS)])
theorem flatT_snoc (ss : List ByteArray) (o : List Int) (k : Nat) (h : k < o.length) : flatT ss (o.take (k + 1)) = flatT ss (o.take k) ++ [.int .i64 o[k], .string (ss.getD o[k].toNat noS)] := by
  rw [List.take_succ_eq_append_getElem h]
  unfold flatT
  rw [List.flatMap_append]
  rfl
def turnO (ss : List ByteArray) (zs : List Int) : List Int := if okL zs = true ∧ ss.length = zs.length then ord zs else []
def OwnT (B : Nat) (w : World) (a : Option Addr) (n c : Nat) (ss : List ByteArray) (o : List Int) : Prop := w.ownsRow B 47 2 (.slice a n c) n (flatT ss o) ∧ o.length = n
def RtR (w : World) (ss : List ByteArray) (os : List Int) (v i : Value) (wr : World) : Prop :=
  ∃ k : Nat, k ≤ os.length ∧ i = .int .i64 k ∧ ∃ a' c', v = .slice a' k c' ∧ w.heap.size ≤ wr.heap.size ∧ wr.ownsRow w.heap.size 47 2 (.slice a' k c') k (flatT ss (os.take k)) ∧ Below w.heap.size w wr

set_option maxRecDepth 100000 in
set_option maxHeartbeats 4000000 in
/-- 'furrowref22.Turn' -/
theorem rTurn_walk (a1 : Option Addr) (n1 c1 : Nat) (ss : List ByteArray) (a : Option Addr) (n cap : Nat) (zs : List Int) (w : World) (hx : ss.length = n1) (hm1 : n1 ≤ 1048576) (hc1 : Strs w a1 ss) (hn : zs.length = n) (hlt : n ≤ 1048576) (hc : Ints .i8 w a zs) :
    Calls Try.prog 24 #[.slice a1 n1 c1, .slice a n cap] w fun e w' => ∃ a' n' cap', e = .returned (.tuple #[.slice a' n' cap', .int .i64 (lenC n1 zs n)]) ∧ OwnT w.heap.size w' a' n' cap' ss (turnO ss zs) ∧ Below w.heap.size w w' := by
  have HN := Lib.hid hn; clear hn
  have HX := Lib.hid hx; clear hx
  go_enter Try.func24, Try.ntmps24
  go_wp2_with fail
  refine (Check_walk a n cap zs _ HN.out hlt hc).mono ?_
  rintro e w' ⟨rfl, rfl⟩
  by_cases hok : okL zs = true
  · have HK := Lib.hid hok
    rw [show mayN zs = 0 from if_pos hok]
    clear hok
    by_cases hl : n1 = n
    · subst hl
      have hnn : ((n1 : Int) != (n1 : Int)) = false := by simp
      have HC0 := Lib.hid (show lenC n1 zs n1 = 0 by unfold lenC; rw [if_pos HK.out, if_pos rfl])
      have HR0 := Lib.hid (show turnO ss zs = ord zs from if_pos ⟨HK.out, by rw [HX.out, HN.out]⟩)
      go_wp2_with fail
      refine (rOrder_walk a n1 cap zs _ HN.out hlt HK.out hc).mono ?_
      rintro e w1 ⟨a2, n2, cap2, rfl, hown, hb⟩
      have hl0 := hown.lenI
      have hl2 : n2 ≤ n1 := by have := ord_le zs; have := HN.out; omega
      have HO := Lib.hid hown; clear hown
      have HB := Lib.hid hb; clear hb
      have HL := Lib.hid hl0; clear hl0
      go_wp2
      go_loopw [8, 9] (RtR w1 ss (ord zs)) (fun _ i _ => n2 - (intOf i).toNat)
      case atStart => exact ⟨0, Nat.zero_le _, rfl, none, 0, rfl, Nat.le_refl _, World.ownsRow_nil _ _ _ _, Below.refl _ _⟩
      case round =>
        obtain ⟨k, hk, rfl, a', c', rfl, hsz, hown, hbel⟩ := hrel
        have hk2 : k ≤ n2 := by rw [← HL.out]; exact hk
        clear hk
        have HO1 := Lib.hid hown; clear hown
        have HB1 := Lib.hid hbel; clear hbel
        have HSz := Lib.hid hsz; clear hsz
        by_cases hlt : k < n2
        · have hko : k < (ord zs).length := by rw [HL.out]; exact hlt
          obtain ⟨x, hxe, hxl⟩ := ord_nonneg zs k hko
          obtain ⟨g, ha, _⟩ := HO.out.at (by omega)
          subst ha
          have e1 := (HO.out.ints.below HB1.out (Nat.le_refl _)).get k hko
          rw [hxe] at e1
          simp only [Nat.zero_add] at e1
          have hx1 : x < ss.length := by have := HX.out; have := HN.out; omega
          obtain ⟨b, o, ha⟩ := hc1.some (by omega)
          subst ha
          have e2 := ((hc1.below HB.out (Nat.le_refl _)).below HB1.out (Nat.le_refl _)).get x hx1
          have hxn : x < n1 := by have := HN.out; omega
          have hki : (k : Int) < (n2 : Int) := by omega
          have hxi : (x : Int) < (n1 : Int) := by omega
          have HS := Lib.hid (show flatT ss ((ord zs).take (k + 1)) = flatT ss ((ord zs).take k) ++ [.int .i64 (x : Nat), .string ss[x]] by
            rw [flatT_snoc ss (ord zs) k hko, hxe]; simp [hx1])
          clear hxe
          generalize ss[x] = sx at *
          have hbnd1 : (k + 1) * 24 ≤ 140737488355328 := by omega
          have hbnd2 : k < 140737488355328 := by omega
          go_wp2
          go_region_law (refine step_appN Try.elemTurned rfl (.tmp 28) (.tmp 41) rfl (World.ownsRow.drew (World.ownsRow.alloc HO1.out _)) (by have := HSz.out; simp; omega) hbnd1 hbnd2 wr.heap.size [.int .i64 (x : Nat), .string sx] rfl (fun j v hv => by rw [show (wr.alloc _).drew.cell? ⟨wr.heap.size, j, none⟩ = (wr.alloc _).cell? ⟨wr.heap.size, j, none⟩ from rfl, cell_of_row _ wr.heap.size j _ _ (0, 0) (heap_alloc_new wr _)]; simpa using hv) (by intro u hu; simp at hu; rcases hu with rfl | rfl <;> rfl) rfl rfl ?_; intro a9 c9 w9 ho9 hg9 hb9)
          all_goals
            have HO9 := Lib.hid ho9
            have HB9 := Lib.hid ((below_drewN (HB1.out.alloc HSz.out _) 1).trans (Below.ofGrown hg9 (by have := HSz.out; simp; omega) (fun k hk => (World.ownsRow.lt HO1.out k hk).1)))
            rw [← HS.out] at HO9
            clear ho9 hg9 hb9
            go_wp2
            go_roundw
            case rel => exact ⟨k + 1, by rw [HL.out]; exact hlt, by go_num, _, _, rfl, Nat.le_trans (Nat.le_refl _) HB9.out.size, HO9.out, HB9.out⟩
            case measure => simp [intOf]; omega
        · obtain rfl : k = n2 := by omega
          have hk3 : (ord zs).take k = ord zs := List.take_of_length_le (by rw [HL.out]; exact Nat.le_refl _)
          have HK2 := Lib.hid hk3; clear hk3
          go_wp2
          go_ret2
          refine ⟨_, _, _, by rw [HC0.out]; rfl, ⟨?_, by rw [HR0.out]; exact HL.out⟩, HB.out.trans (HB1.out.mono HB.out.size)⟩
          have := HO1.out
          rw [HK2.out] at this
          rw [HR0.out]
          exact ownsRow_mono this HB.out.size
    · have hnn : ((n1 : Int) != (n : Int)) = true := by simpa using fun h => hl (by omega)
      have HC0 := Lib.hid (show lenC n1 zs n = 220 by unfold lenC; rw [if_pos HK.out, if_neg hl])
      have HR0 := Lib.hid (show turnO ss zs = [] from if_neg (fun h => hl (by rw [← HX.out, ← HN.out]; exact h.2)))
      go_wp2
      go_ret2
      exact ⟨_, _, _, by rw [HC0.out]; rfl, by rw [HR0.out]; exact ⟨World.ownsRow_nil _ _ _ _, rfl⟩, Below.refl _ _⟩
  · have HC0 := Lib.hid (show lenC n1 zs n = 2 from if_neg hok)
    have HR0 := Lib.hid (show turnO ss zs = [] from if_neg (fun h => hok h.1))
    rw [show mayN zs = 2 from if_neg hok]
    go_wp2
    go_ret2
    exact ⟨_, _, _, by rw [HC0.out]; rfl, by rw [HR0.out]; exact ⟨World.ownsRow_nil _ _ _ _, rfl⟩, Below.refl _ _⟩
end Go.Proofs.Ytcgdhgdblieaiaa
