/- Package span: digits, parts, sums of parts: plain laws, no program in sight. -/
import Derived.Test.YtmooibnedokllaaGreatDoorUnitLaw
namespace Go.Proofs.YtmooibnedokllaaGreatDoor
open Go.RowKit
set_option linter.unusedSimpArgs false
set_option linter.unusedVariables false

/-- The number that digits say, behind what was said. -/
def decF (v : Nat) (l : List UInt8) : Nat := l.foldl (fun v c => 10 * v + (c.toNat - 48)) v
abbrev decN (l : List UInt8) : Nat := decF 0 l
theorem decF_nil (v : Nat) : decF v [] = v := rfl
theorem decF_cons (v : Nat) (c : UInt8) (l : List UInt8) : decF v (c :: l) = decF (10 * v + (c.toNat - 48)) l := by unfold decF; rw [List.foldl_cons]
theorem decF_snoc (v : Nat) (l : List UInt8) (c : UInt8) : decF v (l ++ [c]) = 10 * decF v l + (c.toNat - 48) := by unfold decF; rw [List.foldl_append]; rfl
theorem decF_app (v : Nat) (a b : List UInt8) : decF v (a ++ b) = decF (decF v a) b := by unfold decF; rw [List.foldl_append]
theorem decF_ge (l : List UInt8) : ∀ v, v ≤ decF v l := by
  induction l with
  | nil => intro v; exact Nat.le_refl _
  | cons c l ih => intro v; rw [decF_cons]; have := ih (10 * v + (c.toNat - 48)); omega
theorem isD_iff {c : UInt8} : isD c = true ↔ 48 ≤ c.toNat ∧ c.toNat ≤ 57 := by unfold isD; simp
theorem uint_digits (l : List UInt8) : ∀ acc, (∀ c ∈ l, isD c = true) → acc < 18446744073709551616 →
    Lib.parseUint10 acc l = if decF acc l < 18446744073709551616 then .ok (decF acc l) else .range := by
  induction l with
  | nil => intro acc _ ha; rw [decF_nil, if_pos ha]; rfl
  | cons c l ih =>
    intro acc hd ha
    have hc := isD_iff.1 (hd c (List.mem_cons_self ..))
    have hl : ∀ c ∈ l, isD c = true := fun x hx => hd x (List.mem_cons_of_mem _ hx)
    have hge := decF_ge l (10 * acc + (c.toNat - 48))
    simp only [Lib.parseUint10]
    rw [if_pos hc, decF_cons]
    by_cases h1 : 1844674407370955162 ≤ acc
    · rw [if_pos h1, if_neg (by omega)]
    · rw [if_neg h1]
      by_cases h2 : 18446744073709551616 ≤ acc * 10 + (c.toNat - 48)
      · rw [if_pos h2, if_neg (by omega)]
      · rw [if_neg h2, ih _ hl (by omega)]
        rw [show acc * 10 + (c.toNat - 48) = 10 * acc + (c.toNat - 48) by omega]
/-- A number of digits as strconv reads it. -/
theorem atoiV_digits (s : ByteArray) (h : s.data.toList ≠ []) (hd : ∀ c ∈ s.data.toList, isD c = true) :
    atoiV s = if decN s.data.toList ≤ 9223372036854775807 then ((decN s.data.toList : Int), true) else (9223372036854775807, false) := by
  unfold atoiV
  generalize s.data.toList = l at *
  obtain ⟨c, r, rfl⟩ : ∃ c r, l = c :: r := by cases l with
    | nil => exact absurd rfl h
    | cons c r => exact ⟨c, r, rfl⟩
  have hc := isD_iff.1 (hd c (List.mem_cons_self ..))
  have hm : Lib.parseMag (c :: r) = if decN (c :: r) < 18446744073709551616 then .ok (decN (c :: r)) else .range := by
    unfold Lib.parseMag
    rw [if_neg (by simp)]
    exact uint_digits _ 0 hd (by omega)
  rw [Lib.atoiAll_plain c r (by omega) (by omega), Lib.atoiSat_other c r (by omega), hm]
  by_cases h1 : decN (c :: r) < 18446744073709551616
  · rw [if_pos h1]
    simp only [Lib.signless]
    by_cases h2 : 9223372036854775808 ≤ decN (c :: r)
    · rw [if_pos h2, if_neg (by omega)]
    · rw [if_neg h2, if_pos (by omega)]
  · rw [if_neg h1, if_neg (by omega)]
    rfl

theorem runD_take (l : List UInt8) : ∀ c ∈ l.take (runD l), isD c = true := by
  induction l with
  | nil => intro c h; simp at h
  | cons c l ih =>
    intro x hx
    unfold runD at hx
    split at hx
    · rename_i hc
      rw [List.take_succ_cons] at hx
      rcases List.mem_cons.1 hx with rfl | h
      · exact hc
      · exact ih x h
    · simp at hx
theorem runD_next (l : List UInt8) (h : runD l < l.length) : isD (l[runD l]'h) = false := by
  induction l with
  | nil => simp at h
  | cons c l ih =>
    by_cases hc : isD c = true
    · have e : runD (c :: l) = runD l + 1 := by simp [runD, hc]
      simp only [e] at h ⊢
      rw [List.getElem_cons_succ]
      exact ih (by simpa using h)
    · have e : runD (c :: l) = 0 := by simp [runD, hc]
      simp only [e]
      simpa using hc
/-- Digits, and behind them what is none. -/
theorem runD_of (d r : List UInt8) (hd : ∀ c ∈ d, isD c = true) (hr : ∀ c, r.head? = some c → isD c = false) : runD (d ++ r) = d.length := by
  induction d with
  | nil =>
    cases r with
    | nil => rfl
    | cons c r => have := hr c rfl; simp [runD, this]
  | cons c d ih =>
    have hc := hd c (List.mem_cons_self ..)
    show (if isD c = true then runD (d ++ r) + 1 else 0) = _
    rw [if_pos hc, ih (fun x hx => hd x (List.mem_cons_of_mem _ hx))]
    rfl

/-- How long a unit is, in nanoseconds. -/
def unitV : Nat → Nat
  | 0 => 604800000000000 | 1 => 86400000000000 | 2 => 3600000000000 | 3 => 60000000000 | 4 => 1000000000 | 5 => 1000000 | 6 => 1000 | _ => 1
theorem unitV_pos (u : Nat) : 0 < unitV u := by unfold unitV; split <;> omega
theorem unitV_le (u : Nat) : unitV u ≤ 604800000000000 := by unfold unitV; split <;> omega
theorem unitL_lo (l : List UInt8) : -1 ≤ unitL l := by
  cases l with
  | nil => simp [unitL]
  | cons a r => unfold unitL; repeat' split
                all_goals omega
theorem unitL_hi (l : List UInt8) : unitL l ≤ 7 := by
  cases l with
  | nil => simp [unitL]
  | cons a r => unfold unitL; repeat' split
                all_goals omega
theorem unitN_len (u : Nat) : 1 ≤ (unitN u).length ∧ (unitN u).length ≤ 2 := by unfold unitN; split <;> simp
theorem unitV_lt (a b : Nat) (h : a < b) (hb : b ≤ 7) : unitV b < unitV a := by
  have : ∀ b, b < 8 → ∀ a, a < b → unitV b < unitV a := by decide
  exact this b (by omega) a h
theorem unitV_iff (a b : Nat) (ha : a ≤ 7) (hb : b ≤ 7) : unitV b < unitV a ↔ a < b := by
  constructor
  · intro h
    rcases Nat.lt_trichotomy a b with h1 | h1 | h1
    · exact h1
    · subst h1; omega
    · have := unitV_lt b a h1 ha; omega
  · intro h; exact unitV_lt a b h hb
/-- The unit's bytes stand there. -/
theorem unitL_pre (l : List UInt8) (h : 0 ≤ unitL l) : (unitN (unitL l).toNat).length ≤ l.length := by
  cases l with
  | nil => simp [unitL] at h
  | cons a r =>
    cases r with
    | nil =>
      simp only [unitL] at h ⊢
      by_cases e0 : a = 119
      · rw [if_pos e0]; rw [List.length_singleton]; decide
      rw [if_neg e0] at h ⊢
      by_cases e1 : a = 100
      · rw [if_pos e1]; rw [List.length_singleton]; decide
      rw [if_neg e1] at h ⊢
      by_cases e2 : a = 104
      · rw [if_pos e2]; rw [List.length_singleton]; decide
      rw [if_neg e2] at h ⊢
      by_cases e3 : a = 109
      · rw [if_pos e3]; rw [List.length_singleton]; decide
      rw [if_neg e3] at h ⊢
      by_cases e4 : a = 115
      · rw [if_pos e4]; rw [List.length_singleton]; decide
      rw [if_neg e4] at h ⊢
      by_cases e5 : a = 117
      · rw [if_pos e5] at h; exact absurd h (by decide)
      rw [if_neg e5] at h ⊢
      by_cases e6 : a = 110
      · rw [if_pos e6] at h; exact absurd h (by decide)
      rw [if_neg e6] at h
      exact absurd h (by decide)
    | cons b r => have := (unitN_len (unitL (a :: b :: r)).toNat).2; simp; omega

/-- The part at the front: its unit, how many bytes it has, its number. -/
def partL (l : List UInt8) : Option (Nat × Nat × Nat) :=
  if runD l = 0 ∨ unitL (l.drop (runD l)) < 0 then none
  else some ((unitL (l.drop (runD l))).toNat, runD l + (unitN (unitL (l.drop (runD l))).toNat).length, decN (l.take (runD l)))
theorem partL_some {l : List UInt8} {u n v : Nat} (h : partL l = some (u, n, v)) : u ≤ 7 ∧ 2 ≤ n ∧ n ≤ l.length := by
  unfold partL at h
  split at h
  · cases h
  · rename_i hc
    have h' := Option.some.inj h
    clear h
    obtain ⟨rfl, h⟩ := Prod.mk.inj h'
    obtain ⟨rfl, rfl⟩ := Prod.mk.inj h
    have h1 := unitL_hi (l.drop (runD l))
    have h2 := (unitN_len (unitL (l.drop (runD l))).toNat).1
    have h3 := unitL_pre (l.drop (runD l)) (by omega)
    have h4 := runD_le l
    rw [List.length_drop] at h3
    omega
/-- The parts at the front, each of a smaller unit than the one ahead: how many bytes, and the sum. -/
def scanG (lo : Nat) (l : List UInt8) : Nat × Nat :=
  match partL l with
  | none => (0, 0)
  | some (u, n, v) => if h : lo ≤ u ∧ u ≤ 7 then (n + (scanG (u + 1) (l.drop n)).1, v * unitV u + (scanG (u + 1) (l.drop n)).2) else (0, 0)
termination_by 8 - lo
theorem scanG_none {lo : Nat} {l : List UInt8} (h : partL l = none) : scanG lo l = (0, 0) := by rw [scanG, h]
theorem scanG_stop {lo : Nat} {l : List UInt8} {u n v : Nat} (h : partL l = some (u, n, v)) (hu : u < lo) : scanG lo l = (0, 0) := by
  rw [scanG, h]; exact dif_neg (by omega)
theorem scanG_go {lo : Nat} {l : List UInt8} {u n v : Nat} (h : partL l = some (u, n, v)) (hu : lo ≤ u) :
    scanG lo l = (n + (scanG (u + 1) (l.drop n)).1, v * unitV u + (scanG (u + 1) (l.drop n)).2) := by
  rw [scanG, h]; exact dif_pos ⟨hu, (partL_some h).1⟩
theorem scanG_le (m : Nat) : ∀ (lo : Nat) (l : List UInt8), 8 - lo ≤ m → (scanG lo l).1 ≤ l.length := by
  induction m with
  | zero =>
    intro lo l hm
    cases h : partL l with
    | none => rw [scanG_none h]; exact Nat.zero_le _
    | some p => obtain ⟨u, n, v⟩ := p; rw [scanG_stop h (by have := (partL_some h).1; omega)]; exact Nat.zero_le _
  | succ m ih =>
    intro lo l hm
    cases h : partL l with
    | none => rw [scanG_none h]; exact Nat.zero_le _
    | some p =>
      obtain ⟨u, n, v⟩ := p
      by_cases hu : lo ≤ u
      · rw [scanG_go h hu]
        have h1 := ih (u + 1) (l.drop n) (by omega)
        have h2 := (partL_some h).2.2
        rw [List.length_drop] at h1
        show n + _ ≤ _
        omega
      · rw [scanG_stop h (by omega)]; exact Nat.zero_le _
theorem scanG_len (lo : Nat) (l : List UInt8) : (scanG lo l).1 ≤ l.length := scanG_le _ lo l (Nat.le_refl _)
end Go.Proofs.YtmooibnedokllaaGreatDoor
