/- The calendar: days of years and months, the number of a day, the day of a number: plain laws, no program in sight. -/
import Derived.Test.YtmooibnedokllaaGreatDoorPlain
namespace Go.Proofs.YtmooibnedokllaaGreatDoor
open Go.RowKit
set_option linter.unusedSimpArgs false
set_option linter.unusedVariables false

def leapB (y : Int) : Bool := decide (y % 4 = 0) && (!decide (y % 100 = 0) || decide (y % 400 = 0))
def lpI (y : Int) : Int := if leapB y = true then 1 else 0
def daysM (y m : Int) : Int := if m = 2 then 28 + lpI y else if m = 4 ∨ m = 6 ∨ m = 9 ∨ m = 11 then 30 else 31
def aheadY (y : Int) : Int := if y = 0 then 0 else 365 * y + (y - 1) / 4 - (y - 1) / 100 + (y - 1) / 400 + 1
/-- Days of the first months. -/
def cumM (y : Int) : Nat → Int
  | 0 => 0
  | k + 1 => cumM y k + daysM y (k + 1)
/-- The number of a day since 1970. -/
def dayN (y m d : Int) : Int := aheadY y + cumM y (m - 1).toNat + d - 1 - 719528
def validD (y m d : Int) : Bool := decide (0 ≤ y) && decide (y ≤ 9999) && decide (1 ≤ m) && decide (m ≤ 12) && decide (1 ≤ d) && decide (d ≤ daysM y m)
theorem validD_iff {y m d : Int} : validD y m d = true ↔ 0 ≤ y ∧ y ≤ 9999 ∧ 1 ≤ m ∧ m ≤ 12 ∧ 1 ≤ d ∧ d ≤ daysM y m := by
  unfold validD; simp [and_assoc]

theorem lpI_bd (y : Int) : 0 ≤ lpI y ∧ lpI y ≤ 1 := by unfold lpI; split <;> omega
theorem ahead_succ (y : Int) (h : 0 ≤ y) : aheadY (y + 1) = aheadY y + 365 + lpI y := by
  unfold aheadY lpI leapB
  rw [if_neg (show ¬ y + 1 = 0 by omega)]
  by_cases h0 : y = 0
  · subst h0; decide
  rw [if_neg h0]
  by_cases h4 : y % 4 = 0
  · by_cases h1 : y % 100 = 0
    · by_cases h5 : y % 400 = 0
      · simp [h4, h1, h5]; omega
      · simp [h4, h1, h5]; omega
    · simp [h4, h1]; omega
  · simp [h4]; omega
theorem ahead_lt (a b : Int) (ha : 0 ≤ a) (h : a < b) : aheadY a + 365 ≤ aheadY b := by
  unfold aheadY
  split <;> split <;> omega
theorem ahead_le (a b : Int) (ha : 0 ≤ a) (h : a ≤ b) : aheadY a ≤ aheadY b := by
  by_cases e : a = b
  · rw [e]; exact Int.le_refl _
  · have := ahead_lt a b ha (by omega); omega
theorem ahead_0 : aheadY 0 = 0 := rfl
theorem ahead_end : aheadY 10000 = 3652425 := by decide
theorem ahead_bd (y : Int) (h : 0 ≤ y) (h1 : y ≤ 10000) : 0 ≤ aheadY y ∧ aheadY y ≤ 3652425 :=
  ⟨by have := ahead_le 0 y (by omega) h; rw [ahead_0] at this; exact this, by have := ahead_le y 10000 h h1; rw [ahead_end] at this; exact this⟩
theorem daysM_bd (y m : Int) : 28 ≤ daysM y m ∧ daysM y m ≤ 31 := by
  have := lpI_bd y
  unfold daysM
  split
  · omega
  · split <;> omega
theorem cum_tab (y : Int) : cumM y 0 = 0 ∧ cumM y 1 = 31 ∧ cumM y 2 = 59 + lpI y ∧ cumM y 3 = 90 + lpI y ∧ cumM y 4 = 120 + lpI y ∧ cumM y 5 = 151 + lpI y ∧ cumM y 6 = 181 + lpI y ∧ cumM y 7 = 212 + lpI y ∧
    cumM y 8 = 243 + lpI y ∧ cumM y 9 = 273 + lpI y ∧ cumM y 10 = 304 + lpI y ∧ cumM y 11 = 334 + lpI y ∧ cumM y 12 = 365 + lpI y := by
  refine ⟨rfl, ?_, ?_, ?_, ?_, ?_, ?_, ?_, ?_, ?_, ?_, ?_, ?_⟩ <;> simp [cumM, daysM] <;> omega
theorem cum_le (y : Int) : ∀ (b a : Nat), a ≤ b → cumM y a ≤ cumM y b := by
  intro b
  induction b with
  | zero => intro a h; obtain rfl : a = 0 := by omega
            exact Int.le_refl _
  | succ b ih =>
    intro a h
    by_cases e : a = b + 1
    · rw [e]; exact Int.le_refl _
    · have := ih a (by omega)
      have h2 := daysM_bd y (b + 1)
      show _ ≤ cumM y b + _
      omega
theorem cum_bd (y : Int) (k : Nat) (h : k ≤ 12) : 0 ≤ cumM y k ∧ cumM y k ≤ 365 + lpI y :=
  ⟨by have := cum_le y k 0 (by omega); simpa [cumM] using this, by have := cum_le y 12 k h; rw [(cum_tab y).2.2.2.2.2.2.2.2.2.2.2.2] at this; exact this⟩
theorem cum_next (y m : Int) (h : 1 ≤ m) : cumM y m.toNat = cumM y (m - 1).toNat + daysM y m := by
  obtain ⟨k, rfl⟩ : ∃ k : Nat, m = k + 1 := ⟨(m - 1).toNat, by omega⟩
  rw [show ((k : Int) + 1).toNat = k + 1 by omega, show ((k : Int) + 1 - 1).toNat = k by omega]
  rfl
/-- A day lies in its year and its month. -/
theorem day_in {y m d : Int} (h : validD y m d = true) : aheadY y ≤ dayN y m d + 719528 ∧ dayN y m d + 719528 < aheadY (y + 1) ∧
    aheadY y + cumM y (m - 1).toNat ≤ dayN y m d + 719528 ∧ dayN y m d + 719528 < aheadY y + cumM y m.toNat := by
  obtain ⟨h0, h1, h2, h3, h4, h5⟩ := validD_iff.1 h
  have a := ahead_succ y h0
  have b := cum_next y m h2
  have c := cum_bd y (m - 1).toNat (by omega)
  have e := cum_bd y m.toNat (by omega)
  unfold dayN
  omega
theorem day_bd {y m d : Int} (h : validD y m d = true) : -719528 ≤ dayN y m d ∧ dayN y m d < 2932897 := by
  obtain ⟨h0, h1, _⟩ := validD_iff.1 h
  obtain ⟨a, b, _⟩ := day_in h
  have c := ahead_bd y h0 (by omega)
  have e := ahead_bd (y + 1) (by omega) (by omega)
  omega
theorem day_inj {y m d y' m' d' : Int} (h : validD y m d = true) (h' : validD y' m' d' = true) (e : dayN y m d = dayN y' m' d') : y = y' ∧ m = m' ∧ d = d' := by
  obtain ⟨h0, h1, h2, h3, h4, h5⟩ := validD_iff.1 h
  obtain ⟨k0, k1, k2, k3, k4, k5⟩ := validD_iff.1 h'
  obtain ⟨a, b, c, f⟩ := day_in h
  obtain ⟨a', b', c', f'⟩ := day_in h'
  have ey : y = y' := by
    rcases Int.lt_trichotomy y y' with hl | hl | hl
    · have := ahead_le (y + 1) y' (by omega) (by omega); omega
    · exact hl
    · have := ahead_le (y' + 1) y (by omega) (by omega); omega
  subst ey
  have em : m = m' := by
    rcases Int.lt_trichotomy m m' with hl | hl | hl
    · have := cum_le y (m' - 1).toNat m.toNat (by omega); omega
    · exact hl
    · have := cum_le y (m - 1).toNat m'.toNat (by omega); omega
  subst em
  refine ⟨rfl, rfl, ?_⟩
  unfold dayN at e
  omega
/-- What a search for the day of a number comes to. -/
theorem day_of {n y m r : Int} (hy : 0 ≤ y) (hy1 : y ≤ 9999) (hm : 1 ≤ m) (hm1 : m ≤ 12) (hr : n + 719528 = aheadY y + cumM y (m - 1).toNat + r) (h0 : 0 ≤ r) (h1 : r < daysM y m) :
    validD y m (r + 1) = true ∧ dayN y m (r + 1) = n :=
  ⟨validD_iff.2 ⟨hy, hy1, hm, hm1, by omega, by omega⟩, by unfold dayN; omega⟩
/-- There is a year, and a month. -/
theorem date_ex (n : Int) (h0 : -719528 ≤ n) (h1 : n < 2932897) : ∃ y m d, validD y m d = true ∧ dayN y m d = n := by
  have hy : ∀ k : Nat, k ≤ 9999 → n + 719528 < aheadY ((k : Int) + 1) → ∃ y : Int, 0 ≤ y ∧ y ≤ 9999 ∧ aheadY y ≤ n + 719528 ∧ n + 719528 < aheadY (y + 1) := by
    intro k
    induction k with
    | zero => intro _ hk; exact ⟨0, by omega, by omega, by rw [ahead_0]; omega, by simpa using hk⟩
    | succ k ih =>
      intro hk hlt
      by_cases hc : aheadY ((k : Int) + 1) ≤ n + 719528
      · exact ⟨(k : Int) + 1, by omega, by omega, hc, by simpa using hlt⟩
      · exact ih (by omega) (by omega)
  obtain ⟨y, y0, y1, y2, y3⟩ := hy 9999 (by omega) (by show _ < aheadY 10000; rw [ahead_end]; omega)
  have hs := ahead_succ y y0
  have hm : ∀ k : Nat, k ≤ 11 → n + 719528 - aheadY y < cumM y (k + 1) → ∃ m : Int, 1 ≤ m ∧ m ≤ 12 ∧ cumM y (m - 1).toNat ≤ n + 719528 - aheadY y ∧ n + 719528 - aheadY y < cumM y m.toNat := by
    intro k
    induction k with
    | zero => intro _ hk; exact ⟨1, by omega, by omega, by show (0 : Int) ≤ _; omega, hk⟩
    | succ k ih =>
      intro hk hlt
      by_cases hc : cumM y (k + 1) ≤ n + 719528 - aheadY y
      · exact ⟨(k : Int) + 2, by omega, by omega, by rw [show ((k : Int) + 2 - 1).toNat = k + 1 by omega]; exact hc, by rw [show ((k : Int) + 2).toNat = k + 1 + 1 by omega]; exact hlt⟩
      · exact ih (by omega) (by omega)
  obtain ⟨m, m0, m1, m2, m3⟩ := hm 11 (by omega) (by rw [(cum_tab y).2.2.2.2.2.2.2.2.2.2.2.2]; omega)
  have hn := cum_next y m m0
  obtain ⟨a, b⟩ := day_of (n := n) (y := y) (m := m) (r := n + 719528 - aheadY y - cumM y (m - 1).toNat) y0 y1 m0 m1 (by omega) (by omega) (by omega)
  exact ⟨y, m, _, a, b⟩
/-- The day of a number. -/
noncomputable def dateP (n : Int) : Int × Int × Int :=
  if h : -719528 ≤ n ∧ n < 2932897 then ((date_ex n h.1 h.2).choose, (date_ex n h.1 h.2).choose_spec.choose, (date_ex n h.1 h.2).choose_spec.choose_spec.choose) else (0, 0, 0)
theorem dateP_no {n : Int} (h : ¬ (-719528 ≤ n ∧ n < 2932897)) : dateP n = (0, 0, 0) := dif_neg h
theorem dateP_yes {n : Int} (h : -719528 ≤ n ∧ n < 2932897) : validD (dateP n).1 (dateP n).2.1 (dateP n).2.2 = true ∧ dayN (dateP n).1 (dateP n).2.1 (dateP n).2.2 = n := by
  unfold dateP
  rw [dif_pos h]
  exact (date_ex n h.1 h.2).choose_spec.choose_spec.choose_spec
theorem dateP_of {y m d n : Int} (h : validD y m d = true) (e : dayN y m d = n) : dateP n = (y, m, d) := by
  have hb := day_bd h
  rw [e] at hb
  obtain ⟨a, b⟩ := dateP_yes hb
  obtain ⟨e1, e2, e3⟩ := day_inj a h (b.trans e.symm)
  rw [← e1, ← e2, ← e3]
/-- The next day. -/
theorem day_next {y m d : Int} (h : validD y m d = true) :
    (y = 9999 ∧ m = 12 ∧ d = 31 ∧ dateP (dayN y m d + 1) = (0, 0, 0)) ∨
    (¬ (y = 9999 ∧ m = 12 ∧ d = 31) ∧ ∃ y' m' d', dateP (dayN y m d + 1) = (y', m', d') ∧ validD y' m' d' = true ∧ dayN y' m' d' = dayN y m d + 1 ∧
      (y' = y ∧ m' = m ∧ d' = d + 1 ∨ d' = 1 ∧ (y' = y ∧ m' = m + 1 ∨ y' = y + 1 ∧ m' = 1 ∧ m = 12))) := by
  obtain ⟨h0, h1, h2, h3, h4, h5⟩ := validD_iff.1 h
  by_cases hd : d < daysM y m
  · have hv : validD y m (d + 1) = true := validD_iff.2 ⟨h0, h1, h2, h3, by omega, by omega⟩
    have hn : dayN y m (d + 1) = dayN y m d + 1 := by unfold dayN; omega
    right
    refine ⟨?_, y, m, d + 1, dateP_of hv hn, hv, hn, Or.inl ⟨rfl, rfl, rfl⟩⟩
    rintro ⟨rfl, rfl, rfl⟩
    exact absurd hd (by decide)
  · have ed : d = daysM y m := by omega
    by_cases hm : m < 12
    · have hb := daysM_bd y (m + 1)
      have hv : validD y (m + 1) 1 = true := validD_iff.2 ⟨h0, h1, by omega, by omega, by omega, by omega⟩
      have hn : dayN y (m + 1) 1 = dayN y m d + 1 := by
        have := cum_next y m h2
        unfold dayN
        rw [show m + 1 - 1 = m by omega]
        omega
      right
      exact ⟨by omega, y, m + 1, 1, dateP_of hv hn, hv, hn, Or.inr ⟨rfl, Or.inl ⟨rfl, rfl⟩⟩⟩
    · obtain rfl : m = 12 := by omega
      have e31 : daysM y 12 = 31 := by unfold daysM; simp
      have ec : cumM y ((12 : Int) - 1).toNat = 334 + lpI y := (cum_tab y).2.2.2.2.2.2.2.2.2.2.2.1
      have es := ahead_succ y h0
      by_cases hy : y = 9999
      · left
        subst hy
        refine ⟨rfl, rfl, by omega, dateP_no ?_⟩
        have : aheadY (9999 + 1) = 3652425 := ahead_end
        unfold dayN
        omega
      · have hb := daysM_bd (y + 1) 1
        have hv : validD (y + 1) 1 1 = true := validD_iff.2 ⟨by omega, by omega, by omega, by omega, by omega, by omega⟩
        have hn : dayN (y + 1) 1 1 = dayN y 12 d + 1 := by
          have e0 : cumM (y + 1) ((1 : Int) - 1).toNat = 0 := rfl
          unfold dayN
          omega
        right
        exact ⟨by omega, y + 1, 1, 1, dateP_of hv hn, hv, hn, Or.inr ⟨rfl, Or.inr ⟨rfl, rfl, rfl⟩⟩⟩
end Go.Proofs.YtmooibnedokllaaGreatDoor
