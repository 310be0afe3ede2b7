/- weirlaw04.SpanTexts is true. -/
import Derived.Test.YthplpjcadjnfiaaGreatDoorSlive
import Derived.Test.YthplpjcadjnfiaaGreatDoorSc5
namespace Go.Proofs.YthplpjcadjnfiaaGreatDoor
open Go.RowKit
set_option linter.unusedSimpArgs false
set_option linter.unusedVariables false

set_option maxRecDepth 100000 in
set_option maxHeartbeats 1000000 in
theorem texts_true (t : Int) (w : World) (hL : LayU w) (h0 : -9223372036854775808 ≤ t) (h1 : t ≤ 9223372036854775807) :
    Calls Tryz.prog 6 #[.int .i64 t] w fun e w' => e = .returned (.bool true) ∧ Below w.heap.size w w' := by
  have st := Sq.start hL
  have C0 := fun W hW => span_live W hW
  have C1 := fun W hW => span_Text t h0 h1 W hW
  have C2 := fun W hW => ref_Text t h0 h1 W hW
  generalize (⟨(textL t).toArray⟩ : ByteArray) = R at *
  go_enter Tryz.func6, Tryz.ntmps6
  go_wp2_with (first | (go_at_call 13; refine (C0 _ st.L).mono ?_; rintro e w1 ⟨rfl, hB⟩; have st1 := st.next hB) | (go_at_call 23; refine (C1 _ st1.L.S).mono ?_; rintro e w2 ⟨rfl, hB⟩; have st2 := st1.next hB) | (go_at_call 24; refine (C2 _ st2.L.S).mono ?_; rintro e w3 ⟨rfl, hB⟩; have st3 := st2.next hB))
  go_ret
  exact ⟨ret_b (by simp), st3.B⟩
end Go.Proofs.YthplpjcadjnfiaaGreatDoor
