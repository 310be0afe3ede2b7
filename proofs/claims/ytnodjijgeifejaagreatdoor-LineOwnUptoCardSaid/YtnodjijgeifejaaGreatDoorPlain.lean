/- Plain laws that name no program: numerals, bytes, strings' tests, digits at the front. -/
import Derived.Test.YtnodjijgeifejaaGreatDoorNum
import Derived.Lib.ItoaLen
import Derived.Lib.Strings
import Derived.Lib.Slices
namespace Go.Proofs.YtnodjijgeifejaaGreatDoor
open Go.RowKit
set_option linter.unusedSimpArgs false
set_option linter.unusedVariables false

def I64 (k : Int) : Prop := -9223372036854775808 ≤ k ∧ k ≤ 9223372036854775807
/-- A whole number's numeral. -/
def itoa (n : Int) : ByteArray := ⟨(Lib.itoa n).toArray⟩
theorem itoa_size (k : Int) (h0 : -9223372036854775808 ≤ k) (h1 : k ≤ 9223372036854775807) : (itoa k).size ≤ 21 := Lib.itoa_length_le k h0 h1
/-- What strconv.Atoi answers: the number, and whether the text says it. -/
def atoiV (s : ByteArray) : Int × Bool :=
  match Lib.atoiAll s.data.toList with
  | .ok v => (v, true)
  | Lib.NumEnd.syntax => (0, false)
  | .range => (Lib.atoiSat s.data.toList, false)
theorem str_ne {s : ByteArray} (h : ¬ s = ⟨#[]⟩) : s.toList.isEmpty = false := by
  rw [Lib.toList_data]
  cases s with
  | mk d =>
    cases d with
    | mk l =>
      cases l with
      | nil => exact absurd rfl h
      | cons a l => rfl
theorem str_same {s t : ByteArray} (h : s = t) : (s.toList == t.toList) = true := by subst h; simp
theorem str_other {s t : ByteArray} (h : ¬ s = t) : (s.toList == t.toList) = false := by
  rw [Lib.toList_data, Lib.toList_data]
  apply beq_eq_false_iff_ne.2
  exact fun e => h (ByteArray.ext (Array.toList_inj.1 e))
theorem atoiV_I64 (s : ByteArray) (h : (atoiV s).2 = true) : I64 (atoiV s).1 := by
  unfold atoiV at h ⊢
  split at h
  · rename_i v hv
    exact Lib.atoiAll_bounds hv
  · cases h
  · cases h

theorem atoiV_itoa (n : Int) (h : I64 n) : atoiV (itoa n) = (n, true) := by
  unfold atoiV
  show (match Lib.atoiAll (Lib.itoa n) with | .ok v => (v, true) | Lib.NumEnd.syntax => (0, false) | .range => (Lib.atoiSat (Lib.itoa n), false)) = (n, true)
  rw [atoi_itoa n h.1 h.2]
theorem data_app (a b : ByteArray) : (a ++ b).data.toList = a.data.toList ++ b.data.toList := by simp
theorem bytes_ext {a b : ByteArray} (h : a.data.toList = b.data.toList) : a = b := ByteArray.ext (Array.toList_inj.1 h)
theorem digits_no (u : Nat) : ∀ c ∈ Lib.decDigits u, 48 ≤ c.toNat ∧ c.toNat ≤ 57 := by
  induction u using Nat.strongRecOn with
  | ind u ih =>
    intro c hc
    rw [Lib.decDigits] at hc
    split at hc
    · rename_i h
      simp only [List.mem_singleton] at hc
      subst hc
      rw [digit_toNat u h]
      omega
    · rename_i h
      rcases List.mem_append.1 hc with h1 | h1
      · exact ih (u / 10) (by omega) c h1
      · simp only [List.mem_singleton] at h1
        subst h1
        rw [digit_toNat _ (by omega)]
        omega
def isD (c : UInt8) : Bool := decide (48 ≤ c.toNat) && decide (c.toNat ≤ 57)
def runD : List UInt8 → Nat
  | [] => 0
  | c :: r => if isD c = true then runD r + 1 else 0
/-- weirref01.digits. -/
def digitsP : List UInt8 → Nat
  | [] => 0
  | c :: r => if isD c = true ∨ c = 45 then runD r + 1 else 0
theorem runD_app (d x : List UInt8) (h : ∀ c ∈ d, isD c = true) : runD (d ++ 58 :: x) = d.length := by
  induction d with
  | nil => rfl
  | cons c d ih =>
    have hc := h c (List.mem_cons_self ..)
    show (if isD c = true then runD (d ++ 58 :: x) + 1 else 0) = _
    rw [if_pos hc, ih (fun y hy => h y (List.mem_cons_of_mem _ hy))]
    rfl
theorem digits_isD (u : Nat) : ∀ c ∈ Lib.decDigits u, isD c = true := fun c hc => by
  have := digits_no u c hc
  simp [isD, this.1, this.2]
theorem digitsP_itoa (v : Int) (x : List UInt8) : digitsP ((itoa v).data.toList ++ 58 :: x) = (itoa v).data.toList.length ∧ 0 < (itoa v).data.toList.length := by
  show digitsP (Lib.itoa v ++ 58 :: x) = (Lib.itoa v).length ∧ 0 < (Lib.itoa v).length
  unfold Lib.itoa
  split
  · refine ⟨?_, by simp⟩
    show (if isD 45 = true ∨ (45 : UInt8) = 45 then runD (Lib.decDigits v.natAbs ++ 58 :: x) + 1 else 0) = _
    rw [if_pos (Or.inr rfl), runD_app _ _ (digits_isD _)]
    rfl
  · have hd := digits_isD v.toNat
    obtain ⟨c, r, e, _, _⟩ := digits_head v.toNat
    rw [e] at hd ⊢
    refine ⟨?_, by simp⟩
    show (if isD c = true ∨ c = 45 then runD (r ++ 58 :: x) + 1 else 0) = _
    rw [if_pos (Or.inl (hd c (List.mem_cons_self ..))), runD_app _ _ (fun y hy => hd y (List.mem_cons_of_mem _ hy))]
    rfl
theorem atoiV_all (s : ByteArray) : I64 (atoiV s).1 := by
  unfold atoiV
  split
  · rename_i v hv
    exact Lib.atoiAll_bounds hv
  · exact ⟨by simp, by simp⟩
  · exact Lib.atoiSat_bounds _
theorem digitsP_step (l : List UInt8) (i : Nat) (h : i < l.length) : runD (l.drop i) = if isD l[i] = true then runD (l.drop (i + 1)) + 1 else 0 := by
  rw [List.drop_eq_getElem_cons h]
  rfl
theorem runD_le : ∀ l : List UInt8, runD l ≤ l.length
  | [] => Nat.le_refl _
  | c :: r => by
    show (if isD c = true then runD r + 1 else 0) ≤ r.length + 1
    have := runD_le r
    split <;> omega
theorem digitsP_le (l : List UInt8) : digitsP l ≤ l.length := by
  cases l with
  | nil => exact Nat.le_refl _
  | cons c r =>
    show (if isD c = true ∨ c = 45 then runD r + 1 else 0) ≤ r.length + 1
    have := runD_le r
    split <;> omega
theorem digitsP_cons {l : List UInt8} (h : 0 < l.length) : digitsP l = if isD l[0] = true ∨ l[0] = 45 then runD (l.drop 1) + 1 else 0 := by
  cases l with
  | nil => simp at h
  | cons c r => rfl
end Go.Proofs.YtnodjijgeifejaaGreatDoor
