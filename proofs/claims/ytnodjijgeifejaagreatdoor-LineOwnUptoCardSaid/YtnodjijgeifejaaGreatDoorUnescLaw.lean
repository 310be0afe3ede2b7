/- key.Unescape, the plain law: one step at a place. -/
import Derived.Test.YtnodjijgeifejaaGreatDoorPoint
namespace Go.Proofs.YtnodjijgeifejaaGreatDoor
open Go.RowKit
set_option linter.unusedSimpArgs false
set_option linter.unusedVariables false

def comb (acc : List UInt8) (i : Nat) : Sum (List UInt8 × Nat) Nat → Sum (List UInt8 × Nat) Nat
  | .inl (t, n) => .inl (acc ++ t, i + n)
  | .inr e => .inr (i + e)
theorem comb_zero (r) : comb [] 0 r = r := by
  rcases r with ⟨t, n⟩ | e <;> simp [comb]
theorem comb_comb (a b : List UInt8) (i j : Nat) (r) : comb a i (comb b j r) = comb (a ++ b) (i + j) r := by
  rcases r with ⟨t, n⟩ | e <;> simp [comb, Nat.add_assoc]
theorem unesc_cons (c : UInt8) (r : List UInt8) : unesc (c :: r) =
    if c = 92 then
      match r with
      | [] => .inr 0
      | d :: q => if sp4 d then (match unesc q with | .inl (t, n) => .inl (d :: t, n + 2) | .inr e => .inr (e + 2)) else .inr 0
    else if sp4 c then .inl ([], 0)
    else match unesc r with | .inl (t, n) => .inl (c :: t, n + 1) | .inr e => .inr (e + 1) := by rw [unesc.eq_def]; rfl
theorem unesc_end {l : List UInt8} {i : Nat} (h : l.length ≤ i) : unesc (l.drop i) = .inl ([], 0) := by
  rw [List.drop_of_length_le h]
  rfl
theorem unesc_bare {l : List UInt8} {i : Nat} (h : i < l.length) (h1 : ¬ l[i] = 92) (h2 : sp4 l[i] = false) : unesc (l.drop i) = comb [l[i]] 1 (unesc (l.drop (i + 1))) := by
  rw [List.drop_eq_getElem_cons h, unesc_cons, if_neg h1, h2]
  simp only [Bool.false_eq_true, if_false]
  rcases unesc (List.drop (i + 1) l) with ⟨t, n⟩ | e <;> simp [comb, Nat.add_comm]
theorem unesc_stop {l : List UInt8} {i : Nat} (h : i < l.length) (h1 : ¬ l[i] = 92) (h2 : sp4 l[i] = true) : unesc (l.drop i) = .inl ([], 0) := by
  rw [List.drop_eq_getElem_cons h, unesc_cons, if_neg h1, h2]
  rfl
theorem unesc_last {l : List UInt8} {i : Nat} (h : i < l.length) (h1 : l[i] = 92) (h2 : l.length ≤ i + 1) : unesc (l.drop i) = .inr 0 := by
  rw [List.drop_eq_getElem_cons h, List.drop_of_length_le h2, unesc_cons, if_pos h1]
theorem unesc_wrong {l : List UInt8} {i : Nat} (h : i + 1 < l.length) (h1 : l[i] = 92) (h2 : sp4 l[i + 1] = false) : unesc (l.drop i) = .inr 0 := by
  rw [List.drop_eq_getElem_cons (by omega), List.drop_eq_getElem_cons h, unesc_cons, if_pos h1]
  simp only []
  rw [h2]
  rfl
theorem unesc_pair {l : List UInt8} {i : Nat} (h : i + 1 < l.length) (h1 : l[i] = 92) (h2 : sp4 l[i + 1] = true) : unesc (l.drop i) = comb [l[i + 1]] 2 (unesc (l.drop (i + 2))) := by
  rw [List.drop_eq_getElem_cons (by omega), List.drop_eq_getElem_cons h, unesc_cons, if_pos h1]
  simp only []
  rw [h2]
  simp only [if_true]
  rcases unesc (List.drop (i + 1 + 1) l) with ⟨t, n⟩ | e <;> simp [comb, Nat.add_comm]
/-- What is read is no longer than what it is read from. -/
theorem unesc_le : ∀ (l : List UInt8), match unesc l with | .inl (t, n) => t.length ≤ n ∧ n ≤ l.length ∧ (t = [] ↔ n = 0) | .inr e => e < l.length
  | [] => by simp [unesc]
  | [c] => by
    rw [unesc_cons]
    by_cases h : c = 92
    · simp [h]
    · by_cases h2 : sp4 c = true
      · simp [h, h2]
      · simp [h, h2, unesc]
  | c :: d :: q => by
    rw [unesc_cons]
    by_cases h : c = 92
    · have ih := unesc_le q
      by_cases h2 : sp4 d = true
      · simp only [h, h2, if_true]
        rcases hq : unesc q with ⟨t, n⟩ | e
        · rw [hq] at ih
          simp only [List.length_cons] at ih ⊢
          exact ⟨by omega, by omega, by simp⟩
        · rw [hq] at ih
          simp only [List.length_cons] at ih ⊢
          omega
      · simp [h, h2]
    · have ih := unesc_le (d :: q)
      by_cases h2 : sp4 c = true
      · simp [h, h2]
      · simp only [h, h2, if_false]
        rcases hq : unesc (d :: q) with ⟨t, n⟩ | e
        · rw [hq] at ih
          simp only [List.length_cons] at ih ⊢
          exact ⟨by simp; omega, by simp; omega, by simp⟩
        · rw [hq] at ih
          simp only [List.length_cons] at ih ⊢
          simp; omega
  termination_by l => l.length
end Go.Proofs.YtnodjijgeifejaaGreatDoor
