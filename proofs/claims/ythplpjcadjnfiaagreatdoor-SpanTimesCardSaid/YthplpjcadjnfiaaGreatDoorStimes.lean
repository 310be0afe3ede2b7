/- weirlaw04.SpanTimes is true. -/
import Derived.Test.YthplpjcadjnfiaaGreatDoorSlive
import Derived.Test.YthplpjcadjnfiaaGreatDoorSc4
namespace Go.Proofs.YthplpjcadjnfiaaGreatDoor
open Go.RowKit
set_option linter.unusedSimpArgs false
set_option linter.unusedVariables false

theorem same_time (T : TimeR) : same (timeV T).2 (timeBad T) = true := by
  cases T with
  | at_ p => simp [timeV, timeBad, same, mkAt, Er.code?, Er.at?, Er.in?, atPos, inPos]
  | over => simp [timeV, timeBad, same, mkE, Er.code?, Er.at?, Er.in?]
  | ok v => rfl
theorem num_time (T : TimeR) : (timeV T).1 = timeNum T := by cases T <;> rfl
set_option maxRecDepth 100000 in
set_option maxHeartbeats 1000000 in
theorem times_true (s : ByteArray) (w : World) (hL : LayU w) (hs : s.size ≤ 140737488355328) :
    Calls Tryz.prog 5 #[.string s] w fun e w' => e = .returned (.bool true) ∧ Below w.heap.size w w' := by
  have st := Sq.start hL
  have C0 := fun W hW => span_live W hW
  have C1 := fun W hW => span_Time s hs W hW
  have C2 := fun W => ref_Time s hs W
  rw [time_run] at C1
  have C3 := fun W hW => weirboth_Same (timeV (timeP s.data.toList)).2 (timeBad (timeP s.data.toList)) W hW
  rw [same_time] at C3
  rw [num_time] at C1
  generalize hev : encE (timeV (timeP s.data.toList)).2 = ev at *
  clear hev
  generalize timeNum (timeP s.data.toList) = v at *
  generalize timeBad (timeP s.data.toList) = b at *
  obtain ⟨b0, b1, b2, b3, b4⟩ := b
  simp only [Bad.enc] at C2 C3
  have kv : (v == v) = true := by simp
  go_enter Tryz.func5, Tryz.ntmps5
  go_wp2_with (first | (go_at_call 13; refine (C0 _ st.L).mono ?_; rintro e w1 ⟨rfl, hB⟩; have st1 := st.next hB; clear hB) | (go_at_call 21; refine (C1 _ st1.L.S).mono ?_; rintro e w2 ⟨rfl, hB⟩; have st2 := st1.next hB; clear hB) | (go_at_call 22; refine (C2 _).mono ?_; rintro e w3 ⟨rfl, hB⟩; have st3 := st2.next hB; clear hB) | (go_at_call 16; refine (C3 _ (st3.alloc _).L.S.L.hg).mono ?_; rintro e w4 ⟨rfl, hB⟩; have st4 := (st3.alloc _).next hB; clear hB))
  go_ret
  exact ⟨ret_b (by simp), st4.B⟩
end Go.Proofs.YthplpjcadjnfiaaGreatDoor
