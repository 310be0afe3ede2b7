/- Which unit a text begins with, unit by unit. -/
import Derived.Test.YtmooibnedokllaaGreatDoorPlain
namespace Go.Proofs.YtmooibnedokllaaGreatDoor
open Go.RowKit
set_option linter.unusedSimpArgs false
set_option linter.unusedVariables false

/-- Which unit stands at the front: its number. -/
def unitL : List UInt8 → Int
  | [] => -1
  | a :: r => if a = 119 then 0 else if a = 100 then 1 else if a = 104 then 2 else if a = 109 then (if r.take 1 = [115] then 5 else 3) else if a = 115 then 4
    else if a = 117 then (if r.take 1 = [115] then 6 else -1) else if a = 110 then (if r.take 1 = [115] then 7 else -1) else -1
def unitN : Nat → List UInt8
  | 0 => [119] | 1 => [100] | 2 => [104] | 3 => [109] | 4 => [115] | 5 => [109, 115] | 6 => [117, 115] | _ => [110, 115]
def preL (l : List UInt8) (j : Nat) : Bool := decide ((unitN j).length ≤ l.length) && (l.take (unitN j).length == unitN j)
def uA (l : List UInt8) : Nat → Int
  | 0 => -1
  | j + 1 => if preL l j then (j : Int) else uA l j
set_option maxHeartbeats 2000000 in
theorem uA_all (l : List UInt8) : uA l 8 = unitL l ∧ (∀ j, j < 8 → j ≠ 5 → preL l j = true → uA l j = -1) ∧ (preL l 5 = true → uA l 5 = 3) := by
  have facts : uA l 8 = unitL l ∧ (preL l 5 = true → preL l 3 = true) ∧ (preL l 0).toNat + (preL l 1).toNat + (preL l 2).toNat + (preL l 3).toNat + (preL l 4).toNat + (preL l 6).toNat + (preL l 7).toNat ≤ 1 := by
    rcases l with _ | ⟨a, _ | ⟨b, r⟩⟩
    · decide
    · by_cases e0 : a = 119
      · subst e0; simp [uA, preL, unitN, unitL]
      have b0 : (a == 119) = false := by simp [e0]
      by_cases e1 : a = 100
      · subst e1; simp [uA, preL, unitN, unitL]
      have b1 : (a == 100) = false := by simp [e1]
      by_cases e2 : a = 104
      · subst e2; simp [uA, preL, unitN, unitL]
      have b2 : (a == 104) = false := by simp [e2]
      by_cases e3 : a = 109
      · subst e3; simp [uA, preL, unitN, unitL]
      have b3 : (a == 109) = false := by simp [e3]
      by_cases e4 : a = 115
      · subst e4; simp [uA, preL, unitN, unitL]
      have b4 : (a == 115) = false := by simp [e4]
      by_cases e5 : a = 117
      · subst e5; simp [uA, preL, unitN, unitL]
      have b5 : (a == 117) = false := by simp [e5]
      by_cases e6 : a = 110
      · subst e6; simp [uA, preL, unitN, unitL]
      have b6 : (a == 110) = false := by simp [e6]
      simp [uA, preL, unitN, unitL, b0, e0, b1, e1, b2, e2, b3, e3, b4, e4, b5, e5, b6, e6]
    · by_cases e0 : a = 119
      · subst e0
        by_cases eb : b = 115
        · subst eb
          simp [uA, preL, unitN, unitL]
        · have bb : (b == 115) = false := by simp [eb]
          simp [uA, preL, unitN, unitL, bb, eb]
      have b0 : (a == 119) = false := by simp [e0]
      by_cases e1 : a = 100
      · subst e1
        by_cases eb : b = 115
        · subst eb
          simp [uA, preL, unitN, unitL]
        · have bb : (b == 115) = false := by simp [eb]
          simp [uA, preL, unitN, unitL, bb, eb]
      have b1 : (a == 100) = false := by simp [e1]
      by_cases e2 : a = 104
      · subst e2
        by_cases eb : b = 115
        · subst eb
          simp [uA, preL, unitN, unitL]
        · have bb : (b == 115) = false := by simp [eb]
          simp [uA, preL, unitN, unitL, bb, eb]
      have b2 : (a == 104) = false := by simp [e2]
      by_cases e3 : a = 109
      · subst e3
        by_cases eb : b = 115
        · subst eb
          simp [uA, preL, unitN, unitL]
        · have bb : (b == 115) = false := by simp [eb]
          simp [uA, preL, unitN, unitL, bb, eb]
      have b3 : (a == 109) = false := by simp [e3]
      by_cases e4 : a = 115
      · subst e4
        by_cases eb : b = 115
        · subst eb
          simp [uA, preL, unitN, unitL]
        · have bb : (b == 115) = false := by simp [eb]
          simp [uA, preL, unitN, unitL, bb, eb]
      have b4 : (a == 115) = false := by simp [e4]
      by_cases e5 : a = 117
      · subst e5
        by_cases eb : b = 115
        · subst eb
          simp [uA, preL, unitN, unitL]
        · have bb : (b == 115) = false := by simp [eb]
          simp [uA, preL, unitN, unitL, bb, eb]
      have b5 : (a == 117) = false := by simp [e5]
      by_cases e6 : a = 110
      · subst e6
        by_cases eb : b = 115
        · subst eb
          simp [uA, preL, unitN, unitL]
        · have bb : (b == 115) = false := by simp [eb]
          simp [uA, preL, unitN, unitL, bb, eb]
      have b6 : (a == 110) = false := by simp [e6]
      simp [uA, preL, unitN, unitL, b0, e0, b1, e1, b2, e2, b3, e3, b4, e4, b5, e5, b6, e6]
  have key : ∀ (p0 p1 p2 p3 p4 p5 p6 p7 : Bool), preL l 0 = p0 → preL l 1 = p1 → preL l 2 = p2 → preL l 3 = p3 → preL l 4 = p4 → preL l 5 = p5 → preL l 6 = p6 → preL l 7 = p7 →
      (p5 = true → p3 = true) → (p0.toNat + p1.toNat + p2.toNat + p3.toNat + p4.toNat + p6.toNat + p7.toNat ≤ 1) →
      (∀ j, j < 8 → j ≠ 5 → preL l j = true → uA l j = -1) ∧ (preL l 5 = true → uA l 5 = 3) := by
    intro p0 p1 p2 p3 p4 p5 p6 p7 h0 h1 h2 h3 h4 h5 h6 h7 hc hs
    refine ⟨fun j hj hn hp => ?_, fun hp => ?_⟩
    · match j, hj, hn, hp with
      | 0, _, _, _ => rfl
      | 1, _, _, hp => cases p0 <;> cases p1 <;> simp_all [uA] <;> omega
      | 2, _, _, hp => cases p0 <;> cases p1 <;> cases p2 <;> simp_all [uA] <;> omega
      | 3, _, _, hp => cases p0 <;> cases p1 <;> cases p2 <;> cases p3 <;> simp_all [uA] <;> omega
      | 4, _, _, hp => cases p0 <;> cases p1 <;> cases p2 <;> cases p3 <;> cases p4 <;> cases p6 <;> cases p7 <;> simp_all [uA]
      | 6, _, _, hp => cases p0 <;> cases p1 <;> cases p2 <;> cases p3 <;> cases p4 <;> cases p5 <;> cases p6 <;> simp_all [uA] <;> omega
      | 7, _, _, hp => cases p0 <;> cases p1 <;> cases p2 <;> cases p3 <;> cases p4 <;> cases p5 <;> cases p6 <;> cases p7 <;> simp_all [uA] <;> omega
    · cases p0 <;> cases p1 <;> cases p2 <;> cases p3 <;> cases p4 <;> cases p5 <;> simp_all [uA] <;> omega
  obtain ⟨f1, f2, f3⟩ := facts
  exact ⟨f1, key _ _ _ _ _ _ _ _ rfl rfl rfl rfl rfl rfl rfl rfl f2 f3⟩
end Go.Proofs.YtmooibnedokllaaGreatDoor
