/- Numerals: what is written of a whole number is read as that number. -/
import Derived.Lib.AtoiAllCases
import Derived.Lib.ItoaLen
namespace Go.Proofs.YtnodjijgeifejaaGreatDoor
open Go.Lib

theorem digit_toNat (d : Nat) (h : d < 10) : (UInt8.ofNat (48 + d)).toNat = 48 + d := by
  rw [UInt8.toNat_ofNat']; omega
theorem parse_step (acc d : Nat) (r : List UInt8) (hd : d < 10) (ha : acc * 10 + d < 18446744073709551616) :
    parseUint10 acc (UInt8.ofNat (48 + d) :: r) = parseUint10 (acc * 10 + d) r := by
  have e := digit_toNat d hd
  simp only [parseUint10, e]
  rw [if_pos (by omega), if_neg (by omega), if_neg (by omega)]
  congr 1
  omega
theorem parse_digits (u : Nat) : ∀ r : List UInt8, u < 18446744073709551616 → parseUint10 0 (decDigits u ++ r) = parseUint10 u r := by
  induction u using Nat.strongRecOn with
  | ind u ih =>
    intro r hu
    by_cases h : u < 10
    · rw [decDigits, dif_pos h]
      have := parse_step 0 u r h (by omega)
      simpa using this
    · rw [decDigits, dif_neg h, List.append_assoc, ih (u / 10) (by omega) _ (by omega)]
      have := parse_step (u / 10) (u % 10) r (by omega) (by omega)
      rw [show u / 10 * 10 + u % 10 = u by omega] at this
      exact this
theorem digits_head (u : Nat) : ∃ c r, decDigits u = c :: r ∧ 48 ≤ c.toNat ∧ c.toNat ≤ 57 := by
  induction u using Nat.strongRecOn with
  | ind u ih =>
    by_cases h : u < 10
    · exact ⟨_, [], by rw [decDigits, dif_pos h], by rw [digit_toNat u h]; omega, by rw [digit_toNat u h]; omega⟩
    · obtain ⟨c, r, e, h1, h2⟩ := ih (u / 10) (by omega)
      exact ⟨c, r ++ [UInt8.ofNat (48 + u % 10)], by rw [decDigits, dif_neg h, e]; rfl, h1, h2⟩
theorem mag_digits (u : Nat) (h : u < 18446744073709551616) : parseMag (decDigits u) = .ok u := by
  obtain ⟨c, r, e, _, _⟩ := digits_head u
  have := parse_digits u [] h
  rw [List.append_nil] at this
  rw [parseMag, if_neg (by rw [e]; simp), this]
  rfl
theorem atoi_itoa (n : Int) (h0 : -9223372036854775808 ≤ n) (h1 : n ≤ 9223372036854775807) : atoiAll (Go.Lib.itoa n) = .ok n := by
  unfold Go.Lib.itoa
  split
  · rw [atoiAll_minus, mag_digits _ (by omega)]
    simp only [signed]
    rw [if_neg (by omega)]
    congr 1
    omega
  · obtain ⟨c, r, e, h2, h3⟩ := digits_head n.toNat
    have hm := mag_digits n.toNat (by omega)
    rw [e] at hm ⊢
    rw [atoiAll_plain c r (by omega) (by omega), hm]
    simp only [signless]
    rw [if_neg (by omega)]
    congr 1
    omega
end Go.Proofs.YtnodjijgeifejaaGreatDoor
