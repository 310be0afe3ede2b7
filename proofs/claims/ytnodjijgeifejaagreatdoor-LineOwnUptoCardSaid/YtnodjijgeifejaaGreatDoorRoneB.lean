/- weirref06.One: what it answers, for every text. -/
import Derived.Test.YtnodjijgeifejaaGreatDoorRone
namespace Go.Proofs.YtnodjijgeifejaaGreatDoor
open Go.RowKit
set_option linter.unusedSimpArgs false
set_option linter.unusedVariables false

theorem ref_One (s : ByteArray) (w : World) (L : LayS w) :
    Calls Tryz.prog 41 #[.string s] w fun ev w' => ∃ v, ev = .returned (.tuple #[v, (oneBad (oneP s)).enc]) ∧ PtIn w.heap.size v (oneD (oneP s)) w' ∧ Below w.heap.size w w' := by
  by_cases h8 : 8192 < s.size
  · exact ref_One_long s w L h8
  by_cases hx : 10 ∈ s.data.toList
  · have hlt : s.data.toList.findIdx (· == 10) < s.data.toList.length := List.findIdx_lt_length_of_exists ⟨10, hx, by simp⟩
    have h10 := List.findIdx_getElem (w := hlt)
    have hmin : ∀ j (hj : j < s.data.toList.findIdx (· == 10)), s.data.toList[j] ≠ 10 := fun j hj h => by
      have := List.not_of_lt_findIdx hj
      simp [h] at this
    exact ref_One_nl s w L h8 _ hlt (by simp at h10; exact h10) (fun j hj => hmin j hj)
  · have hno : ∀ j (hj : j < s.size), s[j] ≠ 10 := fun j hj h => hx (List.mem_iff_getElem.2 ⟨j, hj, h⟩)
    cases hs : isP s 35 0 with
    | true => exact ref_One_hash s w L h8 hno hs
    | false => exact ref_One_read s w L h8 hno hs
end Go.Proofs.YtnodjijgeifejaaGreatDoor
