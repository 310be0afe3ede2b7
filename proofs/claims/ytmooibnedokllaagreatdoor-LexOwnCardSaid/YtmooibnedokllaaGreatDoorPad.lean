/- Numbers in so many digits, zeros ahead; zeros behind: plain laws, no program in sight. -/
import Derived.Test.YtmooibnedokllaaGreatDoorSpanA
namespace Go.Proofs.YtmooibnedokllaaGreatDoor
open Go.RowKit
set_option linter.unusedSimpArgs false
set_option linter.unusedVariables false

/-- The last k digits of a number. -/
def padL : Nat → Nat → List UInt8
  | 0, _ => []
  | k + 1, n => padL k (n / 10) ++ [UInt8.ofNat (48 + n % 10)]
theorem padL_len (k : Nat) : ∀ n, (padL k n).length = k := by
  induction k with
  | zero => intro n; rfl
  | succ k ih => intro n; simp [padL, ih]
theorem padL_isD (k : Nat) : ∀ n, ∀ c ∈ padL k n, isD c = true := by
  induction k with
  | zero => intro n c h; simp [padL] at h
  | succ k ih =>
    intro n c h
    rcases List.mem_append.1 h with h | h
    · exact ih _ c h
    · obtain rfl := List.mem_singleton.1 h
      rw [isD_iff, digit_toNat _ (by omega)]
      omega
theorem padL_dec (k : Nat) : ∀ n v, decF v (padL k n) = v * 10 ^ k + n % 10 ^ k := by
  induction k with
  | zero => intro n v; simp [padL, decF_nil, Nat.mod_one]
  | succ k ih =>
    intro n v
    rw [padL, decF_snoc, ih, digit_toNat _ (by omega), Nat.pow_succ]
    have h1 : n % (10 ^ k * 10) = n % 10 + 10 * (n / 10 % 10 ^ k) := by rw [Nat.mul_comm, Nat.mod_mul]
    rw [h1]
    have h2 : v * (10 ^ k * 10) = 10 * (v * 10 ^ k) := by rw [← Nat.mul_assoc, Nat.mul_comm (v * 10 ^ k) 10]
    rw [h2]
    omega
theorem padL_decN (k n : Nat) (h : n < 10 ^ k) : decN (padL k n) = n := by
  show decF 0 (padL k n) = n
  rw [padL_dec, Nat.mod_eq_of_lt h]; omega
/-- 1000 and a number: behind the first digit it stands with zeros ahead. -/
theorem dec_pad (k : Nat) : ∀ n, n < 10 ^ k → Lib.decDigits (10 ^ k + n) = 49 :: padL k n := by
  induction k with
  | zero => intro n h; obtain rfl : n = 0 := by simpa using h
            rw [Lib.decDigits, dif_pos (by decide)]; rfl
  | succ k ih =>
    intro n h
    rw [Nat.pow_succ] at h ⊢
    have hp : 0 < 10 ^ k := Nat.pow_pos (by omega)
    rw [Lib.decDigits, dif_neg (by omega), show (10 ^ k * 10 + n) / 10 = 10 ^ k + n / 10 by omega, show (10 ^ k * 10 + n) % 10 = n % 10 by omega, ih (n / 10) (by omega)]
    rfl
theorem padL_zero (k : Nat) : padL k 0 = List.replicate k 48 := by
  induction k with
  | zero => rfl
  | succ k ih => rw [padL, Nat.zero_div, ih, List.replicate_succ']; rfl
theorem dec_len (k : Nat) : ∀ v, v < 10 ^ k → 0 < k → (Lib.decDigits v).length ≤ k := by
  induction k with
  | zero => intro v _ h; omega
  | succ k ih =>
    intro v h _
    rw [Lib.decDigits]
    by_cases hv : v < 10
    · rw [dif_pos hv]; simp
    · rw [dif_neg hv, List.length_append]
      have hk : 0 < k := by
        rcases Nat.eq_zero_or_pos k with rfl | h1
        · simp at h; omega
        · exact h1
      rw [Nat.pow_succ] at h
      have := ih (v / 10) (by omega) hk
      simp
      omega
/-- A numeral with zeros ahead. -/
theorem pad_dec (k : Nat) : ∀ v, v < 10 ^ k → 0 < k → padL k v = List.replicate (k - (Lib.decDigits v).length) 48 ++ Lib.decDigits v := by
  induction k with
  | zero => intro v _ h; omega
  | succ k ih =>
    intro v h _
    by_cases hv : v < 10
    · rw [Lib.decDigits, dif_pos hv, padL, Nat.div_eq_of_lt hv, padL_zero, Nat.mod_eq_of_lt hv]
      simp
    · have hk : 0 < k := by
        rcases Nat.eq_zero_or_pos k with rfl | h1
        · simp at h; omega
        · exact h1
      rw [Nat.pow_succ] at h
      have hl := dec_len k (v / 10) (by omega) hk
      rw [padL, ih (v / 10) (by omega) hk, Lib.decDigits.eq_1 v, dif_neg hv, List.append_assoc, List.length_append]
      simp
/-- Without the zeros at the end. -/
def trimZ (l : List UInt8) : List UInt8 := (l.reverse.dropWhile (· == 48)).reverse
theorem trimZ_nil : trimZ [] = [] := rfl
theorem trimZ_snoc (l : List UInt8) (c : UInt8) : trimZ (l ++ [c]) = if c = 48 then trimZ l else l ++ [c] := by
  unfold trimZ
  rw [List.reverse_append, List.reverse_singleton, List.singleton_append, List.dropWhile_cons]
  by_cases h : c = 48
  · simp [h]
  · simp [h]
theorem rev_ind {α} {P : List α → Prop} (h0 : P []) (h1 : ∀ l a, P l → P (l ++ [a])) (l : List α) : P l := by
  have : ∀ n (l : List α), l.length = n → P l := by
    intro n
    induction n with
    | zero => intro l h; obtain rfl := List.length_eq_zero_iff.1 h; exact h0
    | succ n ih =>
      intro l h
      have hne : l ≠ [] := by rintro rfl; simp at h
      rw [← List.dropLast_concat_getLast hne]
      exact h1 _ _ (ih _ (by rw [List.length_dropLast]; omega))
  exact this _ l rfl
theorem trimZ_back (l : List UInt8) : ∃ k, l = trimZ l ++ List.replicate k 48 ∧ k + (trimZ l).length = l.length := by
  refine rev_ind (P := fun l => ∃ k, l = trimZ l ++ List.replicate k 48 ∧ k + (trimZ l).length = l.length) ⟨0, rfl, rfl⟩ ?_ l
  rintro l c ⟨k, hk, hn⟩
  rw [trimZ_snoc]
  by_cases h : c = 48
  · rw [if_pos h]
    refine ⟨k + 1, ?_, by simp; omega⟩
    subst h
    rw [List.replicate_succ', ← List.append_assoc, ← hk]
  · rw [if_neg h]
    exact ⟨0, by simp, by simp⟩
theorem trimZ_ne (l : List UInt8) (h : ∃ c ∈ l, c ≠ 48) : trimZ l ≠ [] := by
  intro e
  obtain ⟨k, hk, _⟩ := trimZ_back l
  rw [e, List.nil_append] at hk
  obtain ⟨c, hc, hn⟩ := h
  rw [hk] at hc
  exact hn (List.eq_of_mem_replicate hc)
end Go.Proofs.YtmooibnedokllaaGreatDoor
