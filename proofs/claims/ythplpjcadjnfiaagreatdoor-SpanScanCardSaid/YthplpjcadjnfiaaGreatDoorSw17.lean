/- Reading a time: a sign; the point; the error where it stands. -/
import Derived.Test.YthplpjcadjnfiaaGreatDoorSw16
namespace Go.Proofs.YthplpjcadjnfiaaGreatDoor
open Go.RowKit
set_option linter.unusedSimpArgs false
set_option linter.unusedVariables false

theorem ext_one (s : ByteArray) (a : Nat) (h : a < s.size) : s.extract a (a + 1) = ⟨#[s[a]]⟩ := by
  apply bytes_ext
  rw [ext_take]
  have hl : a < s.data.toList.length := h
  rw [List.take_one, List.head?_drop, List.getElem?_eq_getElem hl]
  rfl
theorem slice_one (s : ByteArray) (a : Nat) (h : a < s.size) (W : World) :
    (Instr.slice 9 (.string s) (some (.int .i64 (a : Int))) (some (.int .i64 ((a : Int) + 1))) none).run Tryz.prog W = .ok (.string ⟨#[s[a]]⟩) W := by
  have := slice_mid s a 1 (by omega) W
  rw [ext_one s a h] at this
  exact this
set_option maxRecDepth 100000 in
set_option maxHeartbeats 1000000 in
theorem sign_end (s signs : ByteArray) (a b : Nat) (ha : s.size ≤ a) (w : World)
    (c0 : w.cell? ⟨b, 0, none⟩ = some (.string s)) (c1 : w.cell? ⟨b, 1, none⟩ = some (.int .i64 (a : Int))) :
    Calls Tryz.prog 50 #[.pointer (some ⟨b, 0, none⟩), .string signs] w fun e w' => e = .returned (.bool false) ∧ Below w.heap.size w w' := by
  have kA : decide ((s.size : Int) ≤ (a : Int)) = true := by simp; omega
  go_enter Tryz.func50, Tryz.ntmps50
  go_wp2_with fail
  go_quiet (fail)
  go_wp2
  go_ret
  exact ⟨rfl, below_drewN (Below.refl _ _) _⟩
set_option maxRecDepth 100000 in
set_option maxHeartbeats 1000000 in
theorem sign_no (s signs : ByteArray) (a b : Nat) (hs : s.size ≤ 140737488355328) (ha : a < s.size) (hc : decide (0 ≤ Lib.indexByte signs.data.toList s[a]) = false) (w : World)
    (c0 : w.cell? ⟨b, 0, none⟩ = some (.string s)) (c1 : w.cell? ⟨b, 1, none⟩ = some (.int .i64 (a : Int))) :
    Calls Tryz.prog 50 #[.pointer (some ⟨b, 0, none⟩), .string signs] w fun e w' => e = .returned (.bool false) ∧ Below w.heap.size w w' := by
  have kA : decide ((s.size : Int) ≤ (a : Int)) = false := by simp; omega
  have kA2 : ¬ s.size ≤ a := by omega
  have hsl := slice_one s a ha
  have hsum : IntKind.i64.wrap ((a : Int) + 1) = (a : Int) + 1 := by rw [IntKind.wrap_i64]; omega
  have CC := fun W => Tryz.strings_Contains_one signs s[a] W
  rw [hc] at CC
  generalize s[a] = c at *
  clear hc
  go_enter Tryz.func50, Tryz.ntmps50
  go_wp2_with fail
  go_quiet ((go_at_call 95; exact Calls.quiet_of_same (CC _)))
  go_wp2
  go_ret
  exact ⟨rfl, below_drewN (Below.refl _ _) _⟩
set_option maxRecDepth 100000 in
set_option maxHeartbeats 1000000 in
theorem sign_yes (s signs : ByteArray) (a b : Nat) (hs : s.size ≤ 140737488355328) (ha : a < s.size) (hc : decide (0 ≤ Lib.indexByte signs.data.toList s[a]) = true) (w : World)
    (c0 : w.cell? ⟨b, 0, none⟩ = some (.string s)) (c1 : w.cell? ⟨b, 1, none⟩ = some (.int .i64 (a : Int))) (f1 : w.frozen? ⟨b, 1, none⟩ = false) :
    Calls Tryz.prog 50 #[.pointer (some ⟨b, 0, none⟩), .string signs] w fun e w' => e = .returned (.bool true) ∧ ∃ w1, Below w.heap.size w w1 ∧ w' = w1.setCell ⟨b, 1, none⟩ (.int .i64 ((a : Int) + 1)) := by
  have kA : decide ((s.size : Int) ≤ (a : Int)) = false := by simp; omega
  have kA2 : ¬ s.size ≤ a := by omega
  have hsl := slice_one s a ha
  have hsum : IntKind.i64.wrap ((a : Int) + 1) = (a : Int) + 1 := by rw [IntKind.wrap_i64]; omega
  have CC := fun W => Tryz.strings_Contains_one signs s[a] W
  rw [hc] at CC
  generalize s[a] = c at *
  clear hc
  have hbl := World.block_lt_of_cell? w _ c0
  go_enter Tryz.func50, Tryz.ntmps50
  go_wp2_with fail
  go_quiet ((go_at_call 95; exact Calls.quiet_of_same (CC _)))
  clear hsum
  go_wp2
  go_ret
  exact ⟨rfl, _, below_drewN (Below.refl _ _) _, rfl⟩
set_option maxRecDepth 100000 in
set_option maxHeartbeats 1000000 in
theorem reading_fault (a b : Nat) (w : World) (c1 : w.cell? ⟨b, 1, none⟩ = some (.int .i64 (a : Int))) :
    Calls Tryz.prog 63 #[.pointer (some ⟨b, 0, none⟩)] w fun e w' => e = .returned (encE (mkAt (a : Int) 41)) ∧ Below w.heap.size w w' := by
  have CA := fun W => fault_At (a : Int) 41 W
  generalize encE (mkAt (a : Int) 41) = ev at *
  go_enter Tryz.func63, Tryz.ntmps63
  go_wp2_with (go_at_call 64; refine (CA _).mono ?_; rintro e w1 ⟨rfl, hB⟩)
  go_ret
  exact ⟨rfl, hB⟩
end Go.Proofs.YthplpjcadjnfiaaGreatDoor
