/-
  Plain laws: what is written as characters reads as they were.
-/
import Derived.Test.YtmcjlkpogcnniaaU1
import Derived.Laws.Cover4
set_option linter.unusedVariables false
namespace Go.Proofs.Ytmcjlkpogcnniaa

theorem get_app (A B : ByteArray) (k : Nat) : (A ++ B).get! (A.size + k) = B.get! k := by
  obtain ⟨a⟩ := A
  obtain ⟨b⟩ := B
  show ((⟨a⟩ : ByteArray) ++ ⟨b⟩).data[(a.size + k)]! = b[k]!
  rw [ByteArray.data_append]
  simp only [getElem!_def, Array.getElem?_append_right (Nat.le_add_right a.size k), Nat.add_sub_cancel_left]
theorem get_mk (a : Array UInt8) (B : ByteArray) (k : Nat) (h : k < a.size) : ((⟨a⟩ : ByteArray) ++ B).get! k = a[k] := by
  obtain ⟨b⟩ := B
  show ((⟨a⟩ : ByteArray) ++ ⟨b⟩).data[k]! = a[k]
  rw [ByteArray.data_append]
  simp [getElem!_def, Array.getElem?_append_left h, h]
theorem valid_lt {c : Nat} (h : Utf8.valid (c : Int) = true) : c < 55296 ∨ (57344 ≤ c ∧ c ≤ 1114111) := by
  unfold Utf8.valid at h
  simp at h
  omega

set_option maxRecDepth 100000 in
theorem decode_encode (A B : ByteArray) (c : Nat) (hv : Utf8.valid (c : Int) = true) : Utf8.decode (A ++ (Utf8.encode (c : Int) ++ B)) A.size = (c, (Utf8.encode (c : Int)).size) := by
  have hl := valid_lt hv
  have hsz : ∀ k, (A ++ (Utf8.encode (c : Int) ++ B)).get! (A.size + k) = (Utf8.encode (c : Int) ++ B).get! k := fun k => get_app _ _ k
  have hs2 : (A ++ (Utf8.encode (c : Int) ++ B)).size = A.size + ((Utf8.encode (c : Int)).size + B.size) := by rw [ByteArray.size_append, ByteArray.size_append]
  unfold Utf8.decode
  simp only [hsz, hs2]
  have he : Utf8.encode (c : Int) = (if c < 0x80 then ⟨#[UInt8.ofNat c]⟩
    else if c < 0x800 then ⟨#[UInt8.ofNat (0xC0 + c / 64), UInt8.ofNat (0x80 + c % 64)]⟩
    else if c < 0x10000 then ⟨#[UInt8.ofNat (0xE0 + c / 4096), UInt8.ofNat (0x80 + c / 64 % 64), UInt8.ofNat (0x80 + c % 64)]⟩
    else ⟨#[UInt8.ofNat (0xF0 + c / 262144), UInt8.ofNat (0x80 + c / 4096 % 64), UInt8.ofNat (0x80 + c / 64 % 64), UInt8.ofNat (0x80 + c % 64)]⟩) := by
    unfold Utf8.encode
    rw [hv]
    simp
  rw [he]
  by_cases h1 : c < 128
  · rw [if_pos h1]
    simp only [get_mk, List.size_toArray, List.length_cons, List.length_nil, Nat.reduceAdd, Nat.reduceLT, List.getElem_toArray, List.getElem_cons_zero]
    rw [UInt8.toNat_ofNat_of_lt' (by simp [UInt8.size]; omega), if_pos h1]
    rfl
  · rw [if_neg h1]
    by_cases h2 : c < 2048
    · rw [if_pos h2]
      have s2 : ByteArray.size ⟨#[UInt8.ofNat (0xC0 + c / 64), UInt8.ofNat (0x80 + c % 64)]⟩ = 2 := rfl
      simp only [s2]
      rw [get_mk _ _ 0 (by simp), get_mk _ _ 1 (by simp)]
      simp only [List.getElem_toArray, List.getElem_cons_zero, List.getElem_cons_succ]
      have n0 : (UInt8.ofNat (192 + c / 64)).toNat = 192 + c / 64 := UInt8.toNat_ofNat_of_lt' (by simp [UInt8.size]; omega)
      have n1 : (UInt8.ofNat (128 + c % 64)).toNat = 128 + c % 64 := UInt8.toNat_ofNat_of_lt' (by simp [UInt8.size]; omega)
      simp only [n0, n1]
      have e : (192 + c / 64) % 32 * 64 + (128 + c % 64) % 64 = c := by omega
      rw [if_neg (by omega), if_pos (by simp; omega), e, if_pos (by omega)]
    · rw [if_neg h2]
      by_cases h3 : c < 65536
      · rw [if_pos h3]
        have s3 : ByteArray.size ⟨#[UInt8.ofNat (0xE0 + c / 4096), UInt8.ofNat (0x80 + c / 64 % 64), UInt8.ofNat (0x80 + c % 64)]⟩ = 3 := rfl
        simp only [s3]
        rw [get_mk _ _ 0 (by simp), get_mk _ _ 1 (by simp), get_mk _ _ 2 (by simp)]
        simp only [List.getElem_toArray, List.getElem_cons_zero, List.getElem_cons_succ]
        have n0 : (UInt8.ofNat (224 + c / 4096)).toNat = 224 + c / 4096 := UInt8.toNat_ofNat_of_lt' (by simp [UInt8.size]; omega)
        have n1 : (UInt8.ofNat (128 + c / 64 % 64)).toNat = 128 + c / 64 % 64 := UInt8.toNat_ofNat_of_lt' (by simp [UInt8.size]; omega)
        have n2 : (UInt8.ofNat (128 + c % 64)).toNat = 128 + c % 64 := UInt8.toNat_ofNat_of_lt' (by simp [UInt8.size]; omega)
        simp only [n0, n1, n2]
        have e : (224 + c / 4096) % 16 * 4096 + (128 + c / 64 % 64) % 64 * 64 + (128 + c % 64) % 64 = c := by omega
        rw [if_neg (by omega), if_neg (by simp; omega), if_pos (by simp; omega), e, if_pos (by simp [hv]; omega)]
      · rw [if_neg h3]
        have s4 : ByteArray.size ⟨#[UInt8.ofNat (0xF0 + c / 262144), UInt8.ofNat (0x80 + c / 4096 % 64), UInt8.ofNat (0x80 + c / 64 % 64), UInt8.ofNat (0x80 + c % 64)]⟩ = 4 := rfl
        simp only [s4]
        rw [get_mk _ _ 0 (by simp), get_mk _ _ 1 (by simp), get_mk _ _ 2 (by simp), get_mk _ _ 3 (by simp)]
        simp only [List.getElem_toArray, List.getElem_cons_zero, List.getElem_cons_succ]
        have n0 : (UInt8.ofNat (240 + c / 262144)).toNat = 240 + c / 262144 := UInt8.toNat_ofNat_of_lt' (by simp [UInt8.size]; omega)
        have n1 : (UInt8.ofNat (128 + c / 4096 % 64)).toNat = 128 + c / 4096 % 64 := UInt8.toNat_ofNat_of_lt' (by simp [UInt8.size]; omega)
        have n2 : (UInt8.ofNat (128 + c / 64 % 64)).toNat = 128 + c / 64 % 64 := UInt8.toNat_ofNat_of_lt' (by simp [UInt8.size]; omega)
        have n3 : (UInt8.ofNat (128 + c % 64)).toNat = 128 + c % 64 := UInt8.toNat_ofNat_of_lt' (by simp [UInt8.size]; omega)
        simp only [n0, n1, n2, n3]
        have e : (240 + c / 262144) % 8 * 262144 + (128 + c / 4096 % 64) % 64 * 4096 + (128 + c / 64 % 64) % 64 * 64 + (128 + c % 64) % 64 = c := by omega
        rw [if_neg (by omega), if_neg (by simp; omega), if_neg (by simp; omega), if_pos (by simp; omega), e, if_pos (by simp [hv]; omega)]

theorem decode_valid (s : ByteArray) (i : Nat) : Utf8.valid ((Utf8.decode s i).1 : Int) = true := by
  have he : Utf8.valid ((Utf8.runeError : Nat) : Int) = true := by decide
  have hlo : ∀ c : Nat, c < 2048 → Utf8.valid (c : Int) = true := fun c hc => by unfold Utf8.valid; simp; omega
  unfold Utf8.decode
  simp only
  split
  · rename_i h; exact hlo _ (by omega)
  · split
    · split
      · refine hlo _ ?_
        simp only
        omega
      · exact he
    · split
      · split
        · rename_i h; simp at h; exact h.2
        · exact he
      · split
        · split
          · rename_i h; simp at h; exact h.2
          · exact he
        · exact he

/-- the bytes of characters -/
def bytesR : List Int → ByteArray
  | [] => ByteArray.empty
  | n :: t => Utf8.encode n ++ bytesR t
theorem foldl_bytesR (ns : List Int) : ∀ s : ByteArray, ns.foldl (fun r n => r ++ Utf8.encode n) s = s ++ bytesR ns := by
  induction ns with
  | nil => intro s; simp [bytesR]
  | cons n t ih => intro s; rw [List.foldl_cons, ih, bytesR, ByteArray.append_assoc]
theorem runesBytes_eq (ns : List Int) : runesBytes ns = bytesR ns := by
  unfold runesBytes
  rw [foldl_bytesR]
  simp
theorem encode_pos (n : Int) : 1 ≤ (Utf8.encode n).size := by
  unfold Utf8.encode
  simp only
  repeat' split
  all_goals simp [ByteArray.size]
set_option maxRecDepth 100000 in
theorem read_bytesR (ns : List Int) (hv : ∀ n ∈ ns, ∃ c : Nat, n = (c : Int) ∧ Utf8.valid (c : Int) = true) : ∀ (A : ByteArray) (b : Nat), (bytesR ns).size ≤ b →
    (begFrom (A ++ bytesR ns) b A.size).map (fun j => ((Utf8.decode (A ++ bytesR ns) j).1 : Int)) = ns := by
  induction ns with
  | nil =>
    intro A b hb
    have : begFrom (A ++ bytesR []) b A.size = [] := by
      cases b with
      | zero => rfl
      | succ b => rw [begFrom, if_neg (by simp [bytesR])]
    rw [this]
    rfl
  | cons n t ih =>
    intro A b hb
    obtain ⟨c, rfl, hc⟩ := hv n (by simp)
    have hp := encode_pos (c : Int)
    rw [bytesR] at hb ⊢
    rw [ByteArray.size_append] at hb
    cases b with
    | zero => omega
    | succ b =>
      rw [begFrom, if_pos (by rw [ByteArray.size_append, ByteArray.size_append]; omega), List.map_cons, decode_encode A _ c hc]
      refine List.cons_eq_cons.2 ⟨rfl, ?_⟩
      have := ih (fun n hn => hv n (by simp [hn])) (A ++ Utf8.encode (c : Int)) b (by omega)
      rw [ByteArray.append_assoc, ByteArray.size_append] at this
      dsimp only at this ⊢
      rw [this]
theorem runes_back (s : ByteArray) : runesL (runesBytes (runesL s)) = runesL s := by
  rw [runesBytes_eq, runesL_beg (bytesR (runesL s))]
  have h := read_bytesR (runesL s) (fun n hn => by
    rw [runesL_beg] at hn
    obtain ⟨j, _, rfl⟩ := List.mem_map.1 hn
    exact ⟨_, rfl, decode_valid s j⟩) ByteArray.empty (bytesR (runesL s)).size (Nat.le_refl _)
  simpa [begL] using h
theorem runesBytes_le (s : ByteArray) : (runesBytes (runesL s)).size ≤ 4 * s.size := Nat.le_trans (runesBytes_size_le _) (Nat.mul_le_mul_left 4 (runesL_le s))
end Go.Proofs.Ytmcjlkpogcnniaa
