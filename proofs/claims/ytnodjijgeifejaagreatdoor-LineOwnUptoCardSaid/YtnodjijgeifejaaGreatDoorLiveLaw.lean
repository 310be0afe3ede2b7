/- The two constant lines of 'live': what they say. -/
import Derived.Test.YtnodjijgeifejaaGreatDoorPoint
import Derived.Test.YtnodjijgeifejaaGreatDoorEscLaw
import Derived.KernelRfl
namespace Go.Proofs.YtnodjijgeifejaaGreatDoor
open Go.RowKit
set_option linter.unusedSimpArgs false
set_option linter.unusedVariables false

abbrev lv1 : ByteArray := ⟨#[99, 112, 117, 44, 104, 111, 115, 116, 61, 97, 32, 118, 61, 52, 105, 32, 49, 48]⟩
abbrev lv2 : ByteArray := ⟨#[99, 112, 117, 32, 118, 61, 49, 32, 49, 48]⟩
abbrev lvP : Pt := ⟨⟨#[99, 112, 117]⟩, [(⟨#[104, 111, 115, 116]⟩, ⟨#[97]⟩)], [(⟨#[118]⟩, 4)], 10⟩
theorem live_one : oneP lv1 = .inl lvP := by kernel_rfl
theorem live_two : oneP lv2 = .inr (some 7) := by kernel_rfl
theorem live_print : printP lvP = .inl lv1 := by kernel_rfl
theorem live_plain : isPlainP lvP = true := by kernel_rfl
end Go.Proofs.YtnodjijgeifejaaGreatDoor
