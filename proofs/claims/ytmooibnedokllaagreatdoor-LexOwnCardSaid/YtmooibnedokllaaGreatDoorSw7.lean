/- The reference's Print of a span. -/
import Derived.Test.YtmooibnedokllaaGreatDoorSw6
namespace Go.Proofs.YtmooibnedokllaaGreatDoor
open Go.RowKit
set_option linter.unusedSimpArgs false
set_option linter.unusedVariables false

theorem unitBy_name (j : Nat) (hj : j ≤ 7) : unitBy (unitS j).data.toList = unitV j := by
  have e : j = 0 ∨ j = 1 ∨ j = 2 ∨ j = 3 ∨ j = 4 ∨ j = 5 ∨ j = 6 ∨ j = 7 := by omega
  rcases e with rfl | rfl | rfl | rfl | rfl | rfl | rfl | rfl <;> decide
theorem names_cell {w : World} {b : Nat} {T : TypeId} (h : w.heap[b]? = some (.cells #[.string ⟨#[119]⟩, .string ⟨#[100]⟩, .string ⟨#[104]⟩, .string ⟨#[109]⟩, .string ⟨#[115]⟩, .string ⟨#[109, 115]⟩, .string ⟨#[117, 115]⟩, .string ⟨#[110, 115]⟩] T (0, 0))) {j : Nat} (hj : j ≤ 7) :
    w.cell? ⟨b, j, none⟩ = some (.string (unitS j)) := by
  rw [blk_cell' h]
  have e : j = 0 ∨ j = 1 ∨ j = 2 ∨ j = 3 ∨ j = 4 ∨ j = 5 ∨ j = 6 ∨ j = 7 := by omega
  rcases e with rfl | rfl | rfl | rfl | rfl | rfl | rfl | rfl <;> rfl
end Go.Proofs.YtmooibnedokllaaGreatDoor
