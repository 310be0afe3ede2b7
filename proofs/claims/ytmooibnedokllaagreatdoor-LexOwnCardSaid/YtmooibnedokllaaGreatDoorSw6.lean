/- Package span: Print. -/
import Derived.Test.YtmooibnedokllaaGreatDoorSw5
namespace Go.Proofs.YtmooibnedokllaaGreatDoor
open Go.RowKit
set_option linter.unusedSimpArgs false
set_option linter.unusedVariables false

theorem unit_index (j : Nat) (hj : j ≤ 7) (W : World) : (Instr.index 263 (.agg unitCells.toArray) (.int .i64 (j : Int))).run Tryz.prog W = .ok (.agg #[.string (unitS j), .int .i64 (unitV j)]) W := by
  have e : j = 0 ∨ j = 1 ∨ j = 2 ∨ j = 3 ∨ j = 4 ∨ j = 5 ∨ j = 6 ∨ j = 7 := by omega
  have i0 : ∀ W, (Instr.index 263 (.agg unitCells.toArray) (.int .i64 ((0 : Nat) : Int))).run Tryz.prog W = .ok (.agg #[.string (unitS 0), .int .i64 (unitV 0)]) W := fun _ => by kernel_rfl
  have i1 : ∀ W, (Instr.index 263 (.agg unitCells.toArray) (.int .i64 ((1 : Nat) : Int))).run Tryz.prog W = .ok (.agg #[.string (unitS 1), .int .i64 (unitV 1)]) W := fun _ => by kernel_rfl
  have i2 : ∀ W, (Instr.index 263 (.agg unitCells.toArray) (.int .i64 ((2 : Nat) : Int))).run Tryz.prog W = .ok (.agg #[.string (unitS 2), .int .i64 (unitV 2)]) W := fun _ => by kernel_rfl
  have i3 : ∀ W, (Instr.index 263 (.agg unitCells.toArray) (.int .i64 ((3 : Nat) : Int))).run Tryz.prog W = .ok (.agg #[.string (unitS 3), .int .i64 (unitV 3)]) W := fun _ => by kernel_rfl
  have i4 : ∀ W, (Instr.index 263 (.agg unitCells.toArray) (.int .i64 ((4 : Nat) : Int))).run Tryz.prog W = .ok (.agg #[.string (unitS 4), .int .i64 (unitV 4)]) W := fun _ => by kernel_rfl
  have i5 : ∀ W, (Instr.index 263 (.agg unitCells.toArray) (.int .i64 ((5 : Nat) : Int))).run Tryz.prog W = .ok (.agg #[.string (unitS 5), .int .i64 (unitV 5)]) W := fun _ => by kernel_rfl
  have i6 : ∀ W, (Instr.index 263 (.agg unitCells.toArray) (.int .i64 ((6 : Nat) : Int))).run Tryz.prog W = .ok (.agg #[.string (unitS 6), .int .i64 (unitV 6)]) W := fun _ => by kernel_rfl
  have i7 : ∀ W, (Instr.index 263 (.agg unitCells.toArray) (.int .i64 ((7 : Nat) : Int))).run Tryz.prog W = .ok (.agg #[.string (unitS 7), .int .i64 (unitV 7)]) W := fun _ => by kernel_rfl
  rcases e with rfl | rfl | rfl | rfl | rfl | rfl | rfl | rfl
  · exact i0 W
  · exact i1 W
  · exact i2 W
  · exact i3 W
  · exact i4 W
  · exact i5 W
  · exact i6 W
  · exact i7 W
theorem itoa_nat (n : Int) (h : 0 ≤ n) : (itoa n).data.toList = Lib.decDigits n.toNat := by
  show Lib.itoa n = _
  unfold Lib.itoa
  rw [if_neg (by omega)]
theorem uOf_of {n j : Nat} (hj : j ≤ 7) (h0 : ∀ i, i < j → n % unitV i ≠ 0) (h1 : n % unitV j = 0) : uOf n = j := by
  rcases Nat.lt_trichotomy (uOf n) j with h | h | h
  · exact absurd (uOf_dvd n) (h0 _ h)
  · exact h
  · exact absurd h1 (uOf_min n j h)
theorem print_pos {n : Int} (h : 0 < n) : printP n = printU n.toNat := by unfold printP; rw [if_neg (by omega), if_neg (by omega), if_neg (by omega)]
theorem print_is {n : Int} {j : Nat} (h : 0 < n) (hj : j ≤ 7) (h0 : ∀ i, i < j → n % (unitV i : Int) ≠ 0) (h1 : n % (unitV j : Int) = 0) :
    itoa (n / (unitV j : Int)) ++ unitS j = ⟨(printP n).toArray⟩ := by
  have cast : ∀ i, (n % (unitV i : Int) = 0 ↔ n.toNat % unitV i = 0) := by
    intro i
    have : n % (unitV i : Int) = ((n.toNat % unitV i : Nat) : Int) := by rw [Int.natCast_emod]; congr 1; omega
    rw [this]; omega
  have hu := uOf_of hj (fun i hi e => h0 i hi ((cast i).2 e)) ((cast j).1 h1)
  apply bytes_ext
  rw [data_app, print_pos h, itoa_nat _ (Int.ediv_nonneg (by omega) (by omega))]
  unfold printU
  rw [hu]
  have e2 : (n / (unitV j : Int)).toNat = n.toNat / unitV j := by
    have : n / (unitV j : Int) = ((n.toNat / unitV j : Nat) : Int) := by rw [Int.natCast_ediv]; congr 1; omega
    rw [this]; rfl
  rw [e2]
  rfl
end Go.Proofs.YtmooibnedokllaaGreatDoor
