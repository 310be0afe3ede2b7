/- The reference's Small: a sum as an int64, or the error. -/
import Derived.Test.YtmooibnedokllaaGreatDoorSw9
namespace Go.Proofs.YtmooibnedokllaaGreatDoor
open Go.RowKit
set_option linter.unusedSimpArgs false
set_option linter.unusedVariables false

theorem smallV_in0 {hi lo : Int} (h : hi = 0) (l0 : 0 ≤ lo) (h1 : lo ≤ 9223372036854775807) : smallV hi lo = (lo, 0) := by
  unfold smallV signI lowI; rw [if_pos (show lo < 9223372036854775808 by omega), if_neg (show ¬ lo < 0 by omega), if_pos h]
theorem smallV_in1 {hi lo : Int} (h : hi = -1) (h1 : 9223372036854775807 < lo) (h2 : lo < 18446744073709551616) : smallV hi lo = (lo - 18446744073709551616, 0) := by
  unfold smallV signI lowI; rw [if_neg (show ¬ lo < 9223372036854775808 by omega), if_pos (show lo - 18446744073709551616 < 0 by omega), if_pos h]
theorem smallV_out {hi lo : Int} (l0 : 0 ≤ lo) (h2 : lo < 18446744073709551616) (h : ¬ (hi = 0 ∧ lo ≤ 9223372036854775807)) (h' : ¬ (hi = -1 ∧ 9223372036854775807 < lo)) : smallV hi lo = (0, 20) := by
  unfold smallV signI lowI
  rw [if_neg]
  split <;> split <;> omega
set_option maxRecDepth 100000 in
set_option maxHeartbeats 1000000 in
theorem ref_Small (hi lo : Int) (h0 : 0 ≤ lo) (h1 : lo < 18446744073709551616) (w : World) :
    Calls Tryz.prog 135 #[.agg #[.int .i64 hi, .int .u64 lo]] w fun e w' => e = .returned (.tuple #[.int .i64 (smallV hi lo).1, (refNew (smallV hi lo).2).enc]) ∧ Below w.heap.size w w' := by
  by_cases a0 : hi = 0
  · have k0 : (hi == 0) = true := by simpa using a0
    by_cases a1 : lo ≤ 9223372036854775807
    · rw [smallV_in0 a0 h0 a1]
      have k1 : decide (lo ≤ 9223372036854775807) = true := by simpa using a1
      have k2 : IntKind.i64.wrap lo = lo := by rw [IntKind.wrap_i64]; omega
      clear a0
      go_enter Tryz.func135, Tryz.ntmps135
      go_wp2
      exact bodyPost_ret (results_two (v1 := (refNew 0).enc) Tryz.results135 (res_tmp rfl) (res_cell (T' := 40) (fr := (0, 0)) rfl (heap_new' _ _ _ (by first | omega | (simp only [World.size_alloc, World.size_setCell, World.size_drew, size_drewN'] <;> omega))) Tryz.underlying40 rfl (by kernel_rfl))) rfl ⟨rfl, by go_grown⟩
    · have k1 : decide (lo ≤ 9223372036854775807) = false := by simpa using a1
      have k2 : (hi == -1) = false := by rw [a0]; rfl
      have HR : Hid (smallV hi lo = (0, 20)) := Lib.hid (smallV_out h0 h1 (by omega) (by omega))
      rw [HR.out]
      clear a0
      go_enter Tryz.func135, Tryz.ntmps135
      go_wp2_with fail
      refine (weirref01_New 20 _).mono ?_
      rintro e w1 ⟨rfl, hB⟩
      have m1 := below_blk hB (b := w.heap.size + 1) (by first | omega | (simp only [World.size_alloc, World.size_setCell, World.size_drew, size_drewN'] <;> omega)) (o := .cells #[.int .i64 0, .int .i64 0, .int .i64 0, .bool false, .bool false] 40 (0, 0)) (heap_new' _ _ _ (by first | omega | (simp only [World.size_alloc, World.size_setCell, World.size_drew, size_drewN'] <;> omega)))
      have HB := Lib.hid (show Below w.heap.size w w1 from Below.trans (by go_grown) (hB.mono (by first | omega | (simp only [World.size_alloc, World.size_setCell, World.size_drew, size_drewN'] <;> omega))))
      have HT := fun v0 v1 v2 v3 v4 => bad_blk m1 v0 v1 v2 v3 v4
      have e20 : (refNew 20).enc = .agg #[.int .i64 20, .int .i64 0, .int .i64 0, .bool false, .bool false] := rfl
      rw [e20]
      have qk0 := blk_cell' (m1) 0
      have qf0 := blk_free' (m1) 0
      have qk1 := blk_cell' (m1) 1
      have qf1 := blk_free' (m1) 1
      have qk2 := blk_cell' (m1) 2
      have qf2 := blk_free' (m1) 2
      have qk3 := blk_cell' (m1) 3
      have qf3 := blk_free' (m1) 3
      have qk4 := blk_cell' (m1) 4
      have qf4 := blk_free' (m1) 4
      clear m1 hB
      go_wp2
      exact bodyPost_ret (results_two (v1 := (refNew 20).enc) Tryz.results135 (res_tmp rfl) (res_cell (T' := 40) (fr := (0, 0)) rfl (HT _ _ _ _ _) Tryz.underlying40 rfl (by kernel_rfl))) rfl ⟨rfl, below_bad HB.out (by omega) _ _ _ _ _⟩
  · have k0 : (hi == 0) = false := by simpa using a0
    by_cases a2 : hi = -1
    · have k2 : (hi == -1) = true := by simpa using a2
      by_cases a1 : 9223372036854775807 < lo
      · rw [smallV_in1 a2 a1 h1]
        have k1 : decide (9223372036854775807 < lo) = true := by simpa using a1
        have k3 : IntKind.i64.wrap lo = lo - 18446744073709551616 := by rw [IntKind.wrap_i64]; omega
        clear a0 a2
        go_enter Tryz.func135, Tryz.ntmps135
        go_wp2
        exact bodyPost_ret (results_two (v1 := (refNew 0).enc) Tryz.results135 (res_tmp rfl) (res_cell (T' := 40) (fr := (0, 0)) rfl (heap_new' _ _ _ (by first | omega | (simp only [World.size_alloc, World.size_setCell, World.size_drew, size_drewN'] <;> omega))) Tryz.underlying40 rfl (by kernel_rfl))) rfl ⟨rfl, by go_grown⟩
      · have k1 : decide (9223372036854775807 < lo) = false := by simpa using a1
        have HR : Hid (smallV hi lo = (0, 20)) := Lib.hid (smallV_out h0 h1 (by omega) (by omega))
        rw [HR.out]
        clear a0 a2
        go_enter Tryz.func135, Tryz.ntmps135
        go_wp2_with fail
        refine (weirref01_New 20 _).mono ?_
        rintro e w1 ⟨rfl, hB⟩
        have m1 := below_blk hB (b := w.heap.size + 1) (by first | omega | (simp only [World.size_alloc, World.size_setCell, World.size_drew, size_drewN'] <;> omega)) (o := .cells #[.int .i64 0, .int .i64 0, .int .i64 0, .bool false, .bool false] 40 (0, 0)) (heap_new' _ _ _ (by first | omega | (simp only [World.size_alloc, World.size_setCell, World.size_drew, size_drewN'] <;> omega)))
        have HB := Lib.hid (show Below w.heap.size w w1 from Below.trans (by go_grown) (hB.mono (by first | omega | (simp only [World.size_alloc, World.size_setCell, World.size_drew, size_drewN'] <;> omega))))
        have HT := fun v0 v1 v2 v3 v4 => bad_blk m1 v0 v1 v2 v3 v4
        have e20 : (refNew 20).enc = .agg #[.int .i64 20, .int .i64 0, .int .i64 0, .bool false, .bool false] := rfl
        rw [e20]
        have qk0 := blk_cell' (m1) 0
        have qf0 := blk_free' (m1) 0
        have qk1 := blk_cell' (m1) 1
        have qf1 := blk_free' (m1) 1
        have qk2 := blk_cell' (m1) 2
        have qf2 := blk_free' (m1) 2
        have qk3 := blk_cell' (m1) 3
        have qf3 := blk_free' (m1) 3
        have qk4 := blk_cell' (m1) 4
        have qf4 := blk_free' (m1) 4
        clear m1 hB
        go_wp2
        exact bodyPost_ret (results_two (v1 := (refNew 20).enc) Tryz.results135 (res_tmp rfl) (res_cell (T' := 40) (fr := (0, 0)) rfl (HT _ _ _ _ _) Tryz.underlying40 rfl (by kernel_rfl))) rfl ⟨rfl, below_bad HB.out (by omega) _ _ _ _ _⟩
    · have k2 : (hi == -1) = false := by simpa using a2
      have HR : Hid (smallV hi lo = (0, 20)) := Lib.hid (smallV_out h0 h1 (by omega) (by omega))
      rw [HR.out]
      clear a0
      go_enter Tryz.func135, Tryz.ntmps135
      go_wp2_with fail
      refine (weirref01_New 20 _).mono ?_
      rintro e w1 ⟨rfl, hB⟩
      have m1 := below_blk hB (b := w.heap.size + 1) (by first | omega | (simp only [World.size_alloc, World.size_setCell, World.size_drew, size_drewN'] <;> omega)) (o := .cells #[.int .i64 0, .int .i64 0, .int .i64 0, .bool false, .bool false] 40 (0, 0)) (heap_new' _ _ _ (by first | omega | (simp only [World.size_alloc, World.size_setCell, World.size_drew, size_drewN'] <;> omega)))
      have HB := Lib.hid (show Below w.heap.size w w1 from Below.trans (by go_grown) (hB.mono (by first | omega | (simp only [World.size_alloc, World.size_setCell, World.size_drew, size_drewN'] <;> omega))))
      have HT := fun v0 v1 v2 v3 v4 => bad_blk m1 v0 v1 v2 v3 v4
      have e20 : (refNew 20).enc = .agg #[.int .i64 20, .int .i64 0, .int .i64 0, .bool false, .bool false] := rfl
      rw [e20]
      have qk0 := blk_cell' (m1) 0
      have qf0 := blk_free' (m1) 0
      have qk1 := blk_cell' (m1) 1
      have qf1 := blk_free' (m1) 1
      have qk2 := blk_cell' (m1) 2
      have qf2 := blk_free' (m1) 2
      have qk3 := blk_cell' (m1) 3
      have qf3 := blk_free' (m1) 3
      have qk4 := blk_cell' (m1) 4
      have qf4 := blk_free' (m1) 4
      clear m1 hB
      go_wp2
      exact bodyPost_ret (results_two (v1 := (refNew 20).enc) Tryz.results135 (res_tmp rfl) (res_cell (T' := 40) (fr := (0, 0)) rfl (HT _ _ _ _ _) Tryz.underlying40 rfl (by kernel_rfl))) rfl ⟨rfl, below_bad HB.out (by omega) _ _ _ _ _⟩
end Go.Proofs.YtmooibnedokllaaGreatDoor
