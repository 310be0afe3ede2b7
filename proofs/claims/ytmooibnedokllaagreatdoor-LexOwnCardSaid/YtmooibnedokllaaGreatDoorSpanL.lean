/- Package span: what is printed is scanned and read again: plain laws, no program in sight. -/
import Derived.Test.YtmooibnedokllaaGreatDoorSpanA
namespace Go.Proofs.YtmooibnedokllaaGreatDoor
open Go.RowKit
set_option linter.unusedSimpArgs false
set_option linter.unusedVariables false

/-- The greatest unit in which a number is whole. -/
def uOf (n : Nat) : Nat :=
  if n % unitV 0 = 0 then 0 else if n % unitV 1 = 0 then 1 else if n % unitV 2 = 0 then 2 else if n % unitV 3 = 0 then 3 else
  if n % unitV 4 = 0 then 4 else if n % unitV 5 = 0 then 5 else if n % unitV 6 = 0 then 6 else 7
theorem uOf_le (n : Nat) : uOf n ≤ 7 := by unfold uOf; repeat' split
                                           all_goals omega
theorem uOf_dvd (n : Nat) : n % unitV (uOf n) = 0 := by
  unfold uOf
  repeat' split
  all_goals first | assumption | exact Nat.mod_one n
theorem uOf_min (n j : Nat) (h : j < uOf n) : n % unitV j ≠ 0 := by
  revert h
  unfold uOf
  repeat' split
  all_goals intro h
  all_goals
    first
    | omega
    | (have hj : j = 0 ∨ j = 1 ∨ j = 2 ∨ j = 3 ∨ j = 4 ∨ j = 5 ∨ j = 6 := by omega
       rcases hj with rfl | rfl | rfl | rfl | rfl | rfl | rfl <;> first | assumption | omega)
/-- A number above 0 as a text. -/
def printU (n : Nat) : List UInt8 := Lib.decDigits (n / unitV (uOf n)) ++ unitN (uOf n)
/-- "-9223372036854775807ns". -/
def leastL : List UInt8 := 45 :: (Lib.decDigits 9223372036854775807 ++ [110, 115])
def printP (n : Int) : List UInt8 :=
  if n = 0 then [48, 115] else if n = -9223372036854775808 then leastL else if n < 0 then 45 :: printU (-n).toNat else printU n.toNat
/-- What Scan answers: the number, how many bytes, the error's number. -/
def scanP (l : List UInt8) : Int × Int × Int :=
  if (scanG 0 l).1 = 0 then (0, 0, 40) else if 9223372036854775807 < (scanG 0 l).2 then (0, 0, 20) else ((scanG 0 l).2, (scanG 0 l).1, 0)
/-- Behind a '-'. -/
def bareL : List UInt8 → List UInt8
  | 45 :: r => r
  | l => l
def belowL (l : List UInt8) : Bool := l.head? == some 45
/-- What Parse answers: the number, the error's number. -/
def parseP (l : List UInt8) : Int × Int :=
  if (scanG 0 (bareL l)).1 = 0 ∨ (scanG 0 (bareL l)).1 ≠ (bareL l).length then (0, 40)
  else if 9223372036854775807 < (scanG 0 (bareL l)).2 then (0, 20)
  else (if belowL l = true then -((scanG 0 (bareL l)).2 : Int) else (scanG 0 (bareL l)).2, 0)

/-- A letter or a digit. -/
def alnum (c : UInt8) : Bool := decide (48 ≤ c.toNat ∧ c.toNat ≤ 57) || decide (97 ≤ c.toNat ∧ c.toNat ≤ 122) || decide (65 ≤ c.toNat ∧ c.toNat ≤ 90)
theorem unitL_name (u : Nat) (hu : u ≤ 7) (r : List UInt8) (hr : u = 3 → r.head? ≠ some 115) : unitL (unitN u ++ r) = u := by
  have h : u = 0 ∨ u = 1 ∨ u = 2 ∨ u = 3 ∨ u = 4 ∨ u = 5 ∨ u = 6 ∨ u = 7 := by omega
  rcases h with rfl | rfl | rfl | rfl | rfl | rfl | rfl | rfl
  case inr.inr.inr.inl =>
    have := hr rfl
    cases r with
    | nil => rfl
    | cons c r =>
      have hc : c ≠ 115 := by simpa using this
      simp [unitL, unitN, hc]
  all_goals simp [unitL, unitN]
theorem unitN_noD (u : Nat) (c : UInt8) (r : List UInt8) (h : (unitN u ++ r).head? = some c) : isD c = false := by
  have : ∀ l : List UInt8, (l ++ r).head? = some c → l ∈ ([[119], [100], [104], [109], [115], [109, 115], [117, 115], [110, 115]] : List (List UInt8)) → isD c = false := by
    intro l h hm
    simp only [List.mem_cons, List.not_mem_nil, or_false] at hm
    rcases hm with rfl | rfl | rfl | rfl | rfl | rfl | rfl | rfl <;> (obtain rfl := Option.some.inj h; decide)
  refine this _ h ?_
  unfold unitN
  split <;> simp
/-- A part, and what does not belong to it behind it. -/
theorem part_of (v u : Nat) (hu : u ≤ 7) (r : List UInt8) (hr : u = 3 → r.head? ≠ some 115) :
    partL (Lib.decDigits v ++ (unitN u ++ r)) = some (u, (Lib.decDigits v).length + (unitN u).length, v) := by
  obtain ⟨c, d, hc, _, _⟩ := digits_head v
  have hd := digits_isD v
  have h1 : runD (Lib.decDigits v ++ (unitN u ++ r)) = (Lib.decDigits v).length := runD_of _ _ hd (fun c h => unitN_noD u c r h)
  have h2 : (Lib.decDigits v ++ (unitN u ++ r)).drop (Lib.decDigits v).length = unitN u ++ r := by simp
  have h3 : (Lib.decDigits v ++ (unitN u ++ r)).take (Lib.decDigits v).length = Lib.decDigits v := by simp
  have h4 := unitL_name u hu r hr
  have h5 : decN (Lib.decDigits v) = v := by
    clear h1 h2 h3 h4 hc hd hu hr
    induction v using Nat.strongRecOn with
    | ind v ih =>
      rw [Lib.decDigits]
      split
      · rename_i h; show decF 0 _ = _; rw [decF_cons, decF_nil, digit_toNat v h]; omega
      · rename_i h; show decF 0 _ = _; rw [decF_snoc, digit_toNat _ (by omega)]; have := ih (v / 10) (by omega); show 10 * decN _ + _ = _; rw [this]; omega
  unfold partL
  rw [h1, h2, h3, h4, h5, if_neg (by rw [hc]; simp)]
  rfl
theorem drop_part (a b r : List UInt8) : (a ++ (b ++ r)).drop (a.length + b.length) = r := by
  rw [← List.append_assoc, ← List.length_append]; simp
/-- A number above 0, printed, and behind it what begins with no letter and no digit: it is scanned. -/
theorem scan_print (n : Nat) (h : 0 < n) (r : List UInt8) (hr : ∀ c, r.head? = some c → alnum c = false) : scanG 0 (printU n ++ r) = ((printU n).length, n) := by
  have hu := uOf_le n
  have hd := uOf_dvd n
  have hp := part_of (n / unitV (uOf n)) (uOf n) hu r (fun _ e => by have := hr _ e; exact absurd this (by decide))
  have hz : partL r = none := by
    unfold partL
    rw [if_pos]
    left
    cases r with
    | nil => rfl
    | cons c r =>
      have h0 := hr c rfl
      have : isD c = false := by
        cases hi : isD c with
        | false => rfl
        | true => have := isD_iff.1 hi; rw [alnum] at h0; simp [this] at h0
      simp [runD, this]
  show scanG 0 ((Lib.decDigits _ ++ unitN _) ++ r) = _
  rw [List.append_assoc, scanG_go hp (Nat.zero_le _), drop_part, scanG_none hz]
  have e : n / unitV (uOf n) * unitV (uOf n) = n := by
    have := Nat.div_add_mod n (unitV (uOf n)); rw [Nat.mul_comm]; omega
  show ((_ + 0 : Nat), (_ + 0 : Nat)) = _
  rw [e]
  simp [printU]
theorem printU_ne (n : Nat) : printU n ≠ [] ∧ (printU n).head? ≠ some 45 := by
  obtain ⟨c, d, hc, h1, h2⟩ := digits_head (n / unitV (uOf n))
  unfold printU
  rw [hc]
  refine ⟨by simp, ?_⟩
  show some c ≠ some 45
  intro e
  obtain rfl := Option.some.inj e
  revert h1; decide
theorem bare_plain {l : List UInt8} (h : l.head? ≠ some 45) : bareL l = l ∧ belowL l = false := by
  cases l with
  | nil => exact ⟨rfl, rfl⟩
  | cons c r =>
    have hc : c ≠ 45 := fun e => h (by rw [e]; rfl)
    refine ⟨?_, by simp [belowL, hc]⟩
    unfold bareL
    split
    · rename_i e; exact absurd (List.cons.inj e).1 hc
    · rfl
theorem scan_alone (n : Nat) (h : 0 < n) : scanG 0 (printU n) = ((printU n).length, n) := by
  have := scan_print n h [] (by simp)
  simpa using this
theorem printU_len (n : Nat) : 0 < (printU n).length := by
  have := (printU_ne n).1
  exact List.length_pos_iff.2 this
/-- What is printed is read. -/
theorem parse_print (n : Int) (h0 : -9223372036854775808 ≤ n) (h1 : n ≤ 9223372036854775807) : parseP (printP n) = (if n = -9223372036854775808 then n + 1 else n, 0) := by
  by_cases hz : n = 0
  · subst hz
    have hs : scanG 0 [48, 115] = (2, 0) := by
      have hp := part_of 0 4 (by omega) [] (by omega)
      rw [Lib.decDigits, dif_pos (by omega)] at hp
      have := scanG_go hp (Nat.zero_le _)
      rw [show scanG (4 + 1) _ = (0, 0) from scanG_none (by rfl)] at this
      exact this
    simp [parseP, printP, bareL, belowL, hs]
  by_cases hl : n = -9223372036854775808
  · subst hl
    have hp := part_of 9223372036854775807 7 (by omega) [] (by omega)
    have hs := scanG_go hp (Nat.zero_le _)
    rw [drop_part, show scanG (7 + 1) [] = (0, 0) from scanG_none (by rfl)] at hs
    have e : printP (-9223372036854775808) = 45 :: (Lib.decDigits 9223372036854775807 ++ (unitN 7 ++ [])) := rfl
    rw [e]
    unfold parseP
    have e1 : bareL (45 :: (Lib.decDigits 9223372036854775807 ++ (unitN 7 ++ []))) = Lib.decDigits 9223372036854775807 ++ (unitN 7 ++ []) := rfl
    rw [e1, hs]
    rw [if_neg (by simp [unitN]), if_neg (by simp [unitV])]
    simp [belowL, unitV]
  have key : ∀ m : Nat, 0 < m → m ≤ 9223372036854775807 → parseP (printU m) = ((m : Int), 0) ∧ parseP (45 :: printU m) = (-(m : Int), 0) := by
    intro m hm hm1
    have hs := scan_alone m hm
    have hl := printU_len m
    obtain ⟨hb, hb'⟩ := bare_plain (printU_ne m).2
    have e1 : bareL (45 :: printU m) = printU m := rfl
    have e2 : belowL (45 :: printU m) = true := rfl
    unfold parseP
    rw [hb, hb', e1, e2, hs]
    refine ⟨?_, ?_⟩
    · rw [if_neg (fun h => h.elim (fun h => absurd h (Nat.ne_of_gt hl)) (fun h => h rfl)), if_neg (by show ¬ 9223372036854775807 < m; omega)]; rfl
    · rw [if_neg (fun h => h.elim (fun h => absurd h (Nat.ne_of_gt hl)) (fun h => h rfl)), if_neg (by show ¬ 9223372036854775807 < m; omega)]; rfl
  unfold printP
  rw [if_neg hz, if_neg hl, if_neg hl]
  by_cases hn : n < 0
  · rw [if_pos hn, (key (-n).toNat (by omega) (by omega)).2]
    congr 1; omega
  · rw [if_neg hn, (key n.toNat (by omega) (by omega)).1]
    congr 1; omega
/-- A number from 0 on, printed, and behind it no letter and no digit: Scan takes just the text. -/
theorem scanP_print (n : Int) (h0 : 0 ≤ n) (h1 : n ≤ 9223372036854775807) (r : List UInt8) (hr : ∀ c, r.head? = some c → alnum c = false) :
    scanP (printP n ++ r) = (n, ((printP n).length : Int), 0) := by
  by_cases hz : n = 0
  · subst hz
    have hp := part_of 0 4 (by omega) r (by omega)
    have hs := scanG_go hp (Nat.zero_le _)
    have hn : partL r = none := by
      unfold partL
      rw [if_pos]
      left
      cases r with
      | nil => rfl
      | cons c r =>
        have h0 := hr c rfl
        have : isD c = false := by
          cases hi : isD c with
          | false => rfl
          | true => have := isD_iff.1 hi; rw [alnum] at h0; simp [this] at h0
        simp [runD, this]
    rw [drop_part, scanG_none hn] at hs
    have e : printP 0 ++ r = Lib.decDigits 0 ++ (unitN 4 ++ r) := by rw [Lib.decDigits, dif_pos (by omega)]; rfl
    unfold scanP
    rw [e, hs]
    rw [Lib.decDigits, dif_pos (by omega)]
    simp [unitN, printP]
  · have hs := scan_print n.toNat (by omega) r hr
    have hl := printU_len n.toNat
    have e : printP n = printU n.toNat := by unfold printP; rw [if_neg hz, if_neg (by omega), if_neg (by omega)]
    unfold scanP
    rw [e, hs, if_neg (by show ¬ (printU n.toNat).length = 0; omega), if_neg (by show ¬ 9223372036854775807 < n.toNat; omega)]
    simp; omega
/-- Hours and a part of a second: two parts. -/
theorem parse_two (h s : Int) (h0 : 0 < h) (h1 : h < 1000) (h2 : h % 24 ≠ 0) (s0 : 0 < s) (s1 : s < 1000000000) :
    parseP (printP (h * 3600000000000) ++ printP s) = (h * 3600000000000 + s, 0) := by
  obtain ⟨a, rfl⟩ : ∃ a : Nat, h = a := ⟨h.toNat, by omega⟩
  obtain ⟨b, rfl⟩ : ∃ b : Nat, s = b := ⟨s.toNat, by omega⟩
  have ea : printP ((a : Int) * 3600000000000) = Lib.decDigits a ++ unitN 2 := by
    have e : ((a : Int) * 3600000000000).toNat = a * 3600000000000 := by omega
    have hu : uOf (a * 3600000000000) = 2 := by
      unfold uOf
      rw [if_neg (by simp only [unitV]; omega), if_neg (by simp only [unitV]; omega), if_pos (by simp only [unitV]; omega)]
    unfold printP
    rw [if_neg (by omega), if_neg (by omega), if_neg (by omega), e]
    unfold printU
    rw [hu]
    congr 2
    simp only [unitV]; omega
  have eb : printP (b : Int) = printU b := by unfold printP; rw [if_neg (by omega), if_neg (by omega), if_neg (by omega)]; rfl
  have hub : 3 ≤ uOf b := by
    unfold uOf
    rw [if_neg (by simp only [unitV]; omega), if_neg (by simp only [unitV]; omega), if_neg (by simp only [unitV]; omega)]
    repeat' split
    all_goals omega
  have hhead : ∀ c, (printU b).head? = some c → isD c = true := by
    intro c hc
    obtain ⟨x, d, hx, h3, h4⟩ := digits_head (b / unitV (uOf b))
    unfold printU at hc
    rw [hx] at hc
    obtain rfl := Option.some.inj hc
    exact isD_iff.2 ⟨h3, h4⟩
  rw [ea, eb]
  have hp := part_of a 2 (by omega) (printU b) (by omega)
  have hs := scanG_go hp (Nat.zero_le _)
  rw [drop_part] at hs
  have hp2 := part_of (b / unitV (uOf b)) (uOf b) (uOf_le b) [] (by simp)
  have hs2 := scanG_go hp2 (show 2 + 1 ≤ _ from hub)
  rw [drop_part, show scanG (uOf b + 1) [] = (0, 0) from scanG_none (by rfl), List.append_nil] at hs2
  rw [show scanG (2 + 1) (printU b) = _ from hs2] at hs
  have eb2 : b / unitV (uOf b) * unitV (uOf b) = b := by
    have := Nat.div_add_mod b (unitV (uOf b)); have := uOf_dvd b; rw [Nat.mul_comm]; omega
  rw [List.append_assoc]
  have hne : (Lib.decDigits a ++ (unitN 2 ++ printU b)).head? ≠ some 45 := by
    obtain ⟨x, d, hx, h3, h4⟩ := digits_head a
    rw [hx]
    show some x ≠ some 45
    intro e
    obtain rfl := Option.some.inj e
    revert h3; decide
  obtain ⟨hb, hb'⟩ := bare_plain hne
  unfold parseP
  rw [hb, hb', hs, eb2]
  have hu2 : unitV 2 = 3600000000000 := rfl
  rw [if_neg, if_neg]
  · simp [hu2]
  · simp [hu2]; omega
  · simp [printU, unitN]; omega
end Go.Proofs.YtmooibnedokllaaGreatDoor
