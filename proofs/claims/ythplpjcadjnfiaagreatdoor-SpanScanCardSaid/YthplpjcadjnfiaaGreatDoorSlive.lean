/- weirlaw04.live is true. -/
import Derived.Test.YthplpjcadjnfiaaGreatDoorTimeR
import Derived.Test.YthplpjcadjnfiaaGreatDoorSw24
import Derived.Test.YthplpjcadjnfiaaGreatDoorSw7
import Derived.Test.YthplpjcadjnfiaaGreatDoorIs
namespace Go.Proofs.YthplpjcadjnfiaaGreatDoor
open Go.RowKit
set_option linter.unusedSimpArgs false
set_option linter.unusedVariables false

theorem live_parse1 : parseP [49, 104, 51, 48, 109] = (5400000000000, 0) := by
  have p1 : partL [49, 104, 51, 48, 109] = some (2, 2, 1) := by decide
  have p2 : partL [51, 48, 109] = some (3, 3, 30) := by decide
  have p3 : partL [] = none := by decide
  have s : scanG 0 [49, 104, 51, 48, 109] = (5, 5400000000000) := by
    rw [scanG_go p1 (by omega)]
    show (2 + (scanG 3 [51, 48, 109]).1, 1 * unitV 2 + (scanG 3 [51, 48, 109]).2) = _
    rw [scanG_go p2 (by omega)]
    show (2 + (3 + (scanG 4 []).1), 1 * unitV 2 + (30 * unitV 3 + (scanG 4 []).2)) = _
    rw [scanG_none p3]
    rfl
  have b : bareL [49, 104, 51, 48, 109] = [49, 104, 51, 48, 109] := by decide
  unfold parseP
  rw [b, s]
  decide
theorem live_parse2 : parseP [49, 109, 49, 104] = (0, 40) := by
  have p1 : partL [49, 109, 49, 104] = some (3, 2, 1) := by decide
  have p2 : partL [49, 104] = some (2, 2, 1) := by decide
  have s : scanG 0 [49, 109, 49, 104] = (2, 60000000000) := by
    rw [scanG_go p1 (by omega)]
    show (2 + (scanG 4 [49, 104]).1, 1 * unitV 3 + (scanG 4 [49, 104]).2) = _
    rw [scanG_stop p2 (by omega)]
    rfl
  have b : bareL [49, 109, 49, 104] = [49, 109, 49, 104] := by decide
  unfold parseP
  rw [b, s]
  decide
theorem live_time : timeP [49, 57, 55, 48, 45, 48, 49, 45, 48, 49, 84, 48, 48, 58, 48, 48, 58, 48, 49, 90] = .ok 1000000000 := by rfl
theorem live_print : printP 5400000000000 = [57, 48, 109] := by
  simp [printP, printU, uOf, unitV, Lib.decDigits, unitN]
theorem live_text : textL 0 = [49, 57, 55, 48, 45, 48, 49, 45, 48, 49, 84, 48, 48, 58, 48, 48, 58, 48, 48, 90] := by
  have h : dateP (0 / 1000000000 / 86400) = (1970, 1, 1) := dateP_of (by decide) (by decide)
  unfold textL
  rw [h]
  decide
set_option maxRecDepth 100000 in
set_option maxHeartbeats 1000000 in
theorem span_live (w : World) (hL : LayU w) :
    Calls Tryz.prog 13 #[] w fun e w' => e = .returned (.bool true) ∧ Below w.heap.size w w' := by
  have st := Sq.start hL
  have C1 := fun W hW => span_Parse ⟨#[49, 104, 51, 48, 109]⟩ (by decide) W hW
  have C2 := fun W hW => span_Parse ⟨#[49, 109, 49, 104]⟩ (by decide) W hW
  have C3 := fun W hW => span_Time ⟨#[49, 57, 55, 48, 45, 48, 49, 45, 48, 49, 84, 48, 48, 58, 48, 48, 58, 48, 49, 90]⟩ (by decide) W hW
  have C4 := fun W hW => both_Is (mkE 40) 40 (by decide) W hW
  have C5 := fun W hW => span_Print 5400000000000 (by omega) (by omega) W hW
  have C6 := fun W hW => span_Text 0 (by omega) (by omega) W hW
  rw [show (⟨#[49, 104, 51, 48, 109]⟩ : ByteArray).data.toList = [49, 104, 51, 48, 109] from rfl, live_parse1] at C1
  rw [show (⟨#[49, 109, 49, 104]⟩ : ByteArray).data.toList = [49, 109, 49, 104] from rfl, live_parse2] at C2
  rw [time_run, show (⟨#[49, 57, 55, 48, 45, 48, 49, 45, 48, 49, 84, 48, 48, 58, 48, 48, 58, 48, 49, 90]⟩ : ByteArray).data.toList = [49, 57, 55, 48, 45, 48, 49, 45, 48, 49, 84, 48, 48, 58, 48, 48, 58, 48, 49, 90] from rfl, live_time] at C3
  rw [show isE (mkE 40) 40 = true by decide] at C4
  rw [live_print] at C5
  rw [live_text] at C6
  have C1' : ∀ W, LayU W → Calls Tryz.prog 14 #[.string ⟨#[49, 104, 51, 48, 109]⟩] W fun e w' => e = .returned (.tuple #[.int .i64 5400000000000, .nilIface]) ∧ Below W.heap.size W w' := C1
  have C3' : ∀ W, LayS W → Calls Tryz.prog 21 #[.string ⟨#[49, 57, 55, 48, 45, 48, 49, 45, 48, 49, 84, 48, 48, 58, 48, 48, 58, 48, 49, 90]⟩] W fun e w' => e = .returned (.tuple #[.int .i64 1000000000, .nilIface]) ∧ Below W.heap.size W w' := C3
  generalize encE (mkE 40) = ev at *
  clear C1 C3
  go_enter Tryz.func13, Tryz.ntmps13
  go_wp2_with (first | (go_at_call 14; (with_reducible refine (C1' _ st.L).mono ?_); rintro e w1 ⟨rfl, hB⟩; have st1 := st.next hB) | (go_at_call 14; (with_reducible refine (C2 _ st1.L).mono ?_); rintro e w2 ⟨rfl, hB⟩; have st2 := st1.next hB) | (go_at_call 21; (with_reducible refine (C3' _ st2.L.S).mono ?_); rintro e w3 ⟨rfl, hB⟩; have st3 := st2.next hB) | (go_at_call 29; (with_reducible refine (C4 _ st3.L.S.L.hg).mono ?_); rintro e w4 ⟨rfl, hB⟩; have st4 := st3.next hB) | (go_at_call 19; (with_reducible refine (C5 _ st4.L).mono ?_); rintro e w5 ⟨rfl, hB⟩; have st5 := st4.next hB) | (go_at_call 23; (with_reducible refine (C6 _ st5.L.S).mono ?_); rintro e w6 ⟨rfl, hB⟩; have st6 := st5.next hB))
  go_ret
  exact ⟨rfl, st6.B⟩
set_option maxRecDepth 100000 in
set_option maxHeartbeats 1000000 in
theorem prints_true (n : Int) (w : World) (hL : LayU w) (h0 : -9223372036854775808 ≤ n) (h1 : n ≤ 9223372036854775807) :
    Calls Tryz.prog 4 #[.int .i64 n] w fun e w' => e = .returned (.bool true) ∧ Below w.heap.size w w' := by
  have st := Sq.start hL
  have C0 := fun W hW => span_live W hW
  have C1 := fun W hW => span_Print n h0 h1 W hW
  have C2 := fun W hW => ref_Print n h0 h1 W hW
  generalize (⟨(printP n).toArray⟩ : ByteArray) = R at *
  go_enter Tryz.func4, Tryz.ntmps4
  go_wp2_with (first | (go_at_call 13; refine (C0 _ st.L).mono ?_; rintro e w1 ⟨rfl, hB⟩; have st1 := st.next hB) | (go_at_call 19; refine (C1 _ st1.L).mono ?_; rintro e w2 ⟨rfl, hB⟩; have st2 := st1.next hB) | (go_at_call 20; refine (C2 _ st2.L.S).mono ?_; rintro e w3 ⟨rfl, hB⟩; have st3 := st2.next hB))
  go_ret
  exact ⟨ret_b (by simp), st3.B⟩
end Go.Proofs.YthplpjcadjnfiaaGreatDoor
