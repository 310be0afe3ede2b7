/- The reference's calendar: Day and Date. -/
import Derived.Test.YthplpjcadjnfiaaGreatDoorSw13
namespace Go.Proofs.YthplpjcadjnfiaaGreatDoor
open Go.RowKit
set_option linter.unusedSimpArgs false
set_option linter.unusedVariables false

theorem refNew_enc' (n : Int) : (refNew n).enc = .agg #[.int .i64 n, .int .i64 0, .int .i64 0, .bool false, .bool false] := rfl
set_option maxRecDepth 100000 in
set_option maxHeartbeats 4000000 in
theorem ref_Day (y m d : Int) (d0 : -9223372036854775808 ≤ d) (d1 : d ≤ 9223372036854775807) (w : World) :
    Calls Tryz.prog 26 #[.int .i64 y, .int .i64 m, .int .i64 d] w fun e w' => e = .returned (.tuple #[.int .i64 (dayP y m d).1, (refNew (dayP y m d).2).enc]) ∧ Below w.heap.size w w' := by
  rw [refNew_enc']
  by_cases h0 : y < 0
  · have kA : decide (y < 0) = true := by simpa using h0
    rw [dayP_no (by omega)]
    clear h0
    go_enter Tryz.func26, Tryz.ntmps26
    go_wp2_with (first | (go_at_call 68; refine (CM _).mono ?_; rintro e w' ⟨rfl, rfl⟩))
    refine (weirref01_New 41 _).mono ?_
    rintro e w1 ⟨rfl, hB⟩
    have m1 := below_blk hB (b := w.heap.size) (by first | omega | (simp only [World.size_alloc, World.size_setCell, World.size_drew, size_drewN'] <;> omega)) (o := .cells #[.int .i64 0, .int .i64 0, .int .i64 0, .bool false, .bool false] 29 (0, 0)) (heap_new' _ _ _ (by first | omega | (simp only [World.size_alloc, World.size_setCell, World.size_drew, size_drewN'] <;> omega)))
    have HB := Lib.hid (show Below w.heap.size w w1 from Below.trans (by go_grown) (hB.mono (by first | omega | (simp only [World.size_alloc, World.size_setCell, World.size_drew, size_drewN'] <;> omega))))
    have HT := fun v0 v1 v2 v3 v4 => bad_blk m1 v0 v1 v2 v3 v4
    rw [refNew_enc']
    have qk0 := blk_cell' (m1) 0
    have qf0 := blk_free' (m1) 0
    have qk1 := blk_cell' (m1) 1
    have qf1 := blk_free' (m1) 1
    have qk2 := blk_cell' (m1) 2
    have qf2 := blk_free' (m1) 2
    have qk3 := blk_cell' (m1) 3
    have qf3 := blk_free' (m1) 3
    have qk4 := blk_cell' (m1) 4
    have qf4 := blk_free' (m1) 4
    clear m1 hB
    go_wp2
    exact bodyPost_ret (results_two Tryz.results26 (res_tmp rfl) (res_cell (T' := 29) (fr := (0, 0)) rfl (HT _ _ _ _ _) Tryz.underlying29 rfl (by kernel_rfl))) rfl ⟨rfl, below_bad HB.out (Nat.le_refl _) _ _ _ _ _⟩
  have kA : decide (y < 0) = false := by simpa using h0
  by_cases h1 : 9999 < y
  · have kB : decide (9999 < y) = true := by simpa using h1
    rw [dayP_no (by omega)]
    clear h1
    go_enter Tryz.func26, Tryz.ntmps26
    go_wp2_with (first | (go_at_call 68; refine (CM _).mono ?_; rintro e w' ⟨rfl, rfl⟩))
    refine (weirref01_New 41 _).mono ?_
    rintro e w1 ⟨rfl, hB⟩
    have m1 := below_blk hB (b := w.heap.size) (by first | omega | (simp only [World.size_alloc, World.size_setCell, World.size_drew, size_drewN'] <;> omega)) (o := .cells #[.int .i64 0, .int .i64 0, .int .i64 0, .bool false, .bool false] 29 (0, 0)) (heap_new' _ _ _ (by first | omega | (simp only [World.size_alloc, World.size_setCell, World.size_drew, size_drewN'] <;> omega)))
    have HB := Lib.hid (show Below w.heap.size w w1 from Below.trans (by go_grown) (hB.mono (by first | omega | (simp only [World.size_alloc, World.size_setCell, World.size_drew, size_drewN'] <;> omega))))
    have HT := fun v0 v1 v2 v3 v4 => bad_blk m1 v0 v1 v2 v3 v4
    rw [refNew_enc']
    have qk0 := blk_cell' (m1) 0
    have qf0 := blk_free' (m1) 0
    have qk1 := blk_cell' (m1) 1
    have qf1 := blk_free' (m1) 1
    have qk2 := blk_cell' (m1) 2
    have qf2 := blk_free' (m1) 2
    have qk3 := blk_cell' (m1) 3
    have qf3 := blk_free' (m1) 3
    have qk4 := blk_cell' (m1) 4
    have qf4 := blk_free' (m1) 4
    clear m1 hB
    go_wp2
    exact bodyPost_ret (results_two Tryz.results26 (res_tmp rfl) (res_cell (T' := 29) (fr := (0, 0)) rfl (HT _ _ _ _ _) Tryz.underlying29 rfl (by kernel_rfl))) rfl ⟨rfl, below_bad HB.out (Nat.le_refl _) _ _ _ _ _⟩
  have kB : decide (9999 < y) = false := by simpa using h1
  by_cases h4 : d < 1
  · have kE : decide (d < 1) = true := by simpa using h4
    rw [dayP_no (by omega)]
    clear h4
    go_enter Tryz.func26, Tryz.ntmps26
    go_wp2_with (first | (go_at_call 68; refine (CM _).mono ?_; rintro e w' ⟨rfl, rfl⟩))
    refine (weirref01_New 41 _).mono ?_
    rintro e w1 ⟨rfl, hB⟩
    have m1 := below_blk hB (b := w.heap.size) (by first | omega | (simp only [World.size_alloc, World.size_setCell, World.size_drew, size_drewN'] <;> omega)) (o := .cells #[.int .i64 0, .int .i64 0, .int .i64 0, .bool false, .bool false] 29 (0, 0)) (heap_new' _ _ _ (by first | omega | (simp only [World.size_alloc, World.size_setCell, World.size_drew, size_drewN'] <;> omega)))
    have HB := Lib.hid (show Below w.heap.size w w1 from Below.trans (by go_grown) (hB.mono (by first | omega | (simp only [World.size_alloc, World.size_setCell, World.size_drew, size_drewN'] <;> omega))))
    have HT := fun v0 v1 v2 v3 v4 => bad_blk m1 v0 v1 v2 v3 v4
    rw [refNew_enc']
    have qk0 := blk_cell' (m1) 0
    have qf0 := blk_free' (m1) 0
    have qk1 := blk_cell' (m1) 1
    have qf1 := blk_free' (m1) 1
    have qk2 := blk_cell' (m1) 2
    have qf2 := blk_free' (m1) 2
    have qk3 := blk_cell' (m1) 3
    have qf3 := blk_free' (m1) 3
    have qk4 := blk_cell' (m1) 4
    have qf4 := blk_free' (m1) 4
    clear m1 hB
    go_wp2
    exact bodyPost_ret (results_two Tryz.results26 (res_tmp rfl) (res_cell (T' := 29) (fr := (0, 0)) rfl (HT _ _ _ _ _) Tryz.underlying29 rfl (by kernel_rfl))) rfl ⟨rfl, below_bad HB.out (Nat.le_refl _) _ _ _ _ _⟩
  have kE : decide (d < 1) = false := by simpa using h4
  by_cases hm : m < 1 ∨ 12 < m
  · have CM := fun W => ref_month0 y m hm W
    have kF : decide (0 < d) = true := by simp; omega
    rw [dayP_no (by omega)]
    clear h0 h1 h4 hm
    go_enter Tryz.func26, Tryz.ntmps26
    go_wp2_with (first | (go_at_call 68; refine (CM _).mono ?_; rintro e w' ⟨rfl, rfl⟩))
    refine (weirref01_New 41 _).mono ?_
    rintro e w1 ⟨rfl, hB⟩
    have m1 := below_blk hB (b := w.heap.size) (by first | omega | (simp only [World.size_alloc, World.size_setCell, World.size_drew, size_drewN'] <;> omega)) (o := .cells #[.int .i64 0, .int .i64 0, .int .i64 0, .bool false, .bool false] 29 (0, 0)) (heap_new' _ _ _ (by first | omega | (simp only [World.size_alloc, World.size_setCell, World.size_drew, size_drewN'] <;> omega)))
    have HB := Lib.hid (show Below w.heap.size w w1 from Below.trans (by go_grown) (hB.mono (by first | omega | (simp only [World.size_alloc, World.size_setCell, World.size_drew, size_drewN'] <;> omega))))
    have HT := fun v0 v1 v2 v3 v4 => bad_blk m1 v0 v1 v2 v3 v4
    rw [refNew_enc']
    have qk0 := blk_cell' (m1) 0
    have qf0 := blk_free' (m1) 0
    have qk1 := blk_cell' (m1) 1
    have qf1 := blk_free' (m1) 1
    have qk2 := blk_cell' (m1) 2
    have qf2 := blk_free' (m1) 2
    have qk3 := blk_cell' (m1) 3
    have qf3 := blk_free' (m1) 3
    have qk4 := blk_cell' (m1) 4
    have qf4 := blk_free' (m1) 4
    clear m1 hB
    go_wp2
    exact bodyPost_ret (results_two Tryz.results26 (res_tmp rfl) (res_cell (T' := 29) (fr := (0, 0)) rfl (HT _ _ _ _ _) Tryz.underlying29 rfl (by kernel_rfl))) rfl ⟨rfl, below_bad HB.out (Nat.le_refl _) _ _ _ _ _⟩
  have CM := fun W => ref_month y m (by omega) (by omega) (by omega) (by omega) W
  have hdm := daysM_bd y m
  by_cases h5 : daysM y m < d
  · have kF : decide (daysM y m < d) = true := by simpa using h5
    rw [dayP_no (by omega)]
    generalize hDM : daysM y m = DM at *
    clear hDM
    clear h0 h1 h4 h5
    go_enter Tryz.func26, Tryz.ntmps26
    go_wp2_with (first | (go_at_call 68; refine (CM _).mono ?_; rintro e w' ⟨rfl, rfl⟩))
    refine (weirref01_New 41 _).mono ?_
    rintro e w1 ⟨rfl, hB⟩
    have m1 := below_blk hB (b := w.heap.size) (by first | omega | (simp only [World.size_alloc, World.size_setCell, World.size_drew, size_drewN'] <;> omega)) (o := .cells #[.int .i64 0, .int .i64 0, .int .i64 0, .bool false, .bool false] 29 (0, 0)) (heap_new' _ _ _ (by first | omega | (simp only [World.size_alloc, World.size_setCell, World.size_drew, size_drewN'] <;> omega)))
    have HB := Lib.hid (show Below w.heap.size w w1 from Below.trans (by go_grown) (hB.mono (by first | omega | (simp only [World.size_alloc, World.size_setCell, World.size_drew, size_drewN'] <;> omega))))
    have HT := fun v0 v1 v2 v3 v4 => bad_blk m1 v0 v1 v2 v3 v4
    rw [refNew_enc']
    have qk0 := blk_cell' (m1) 0
    have qf0 := blk_free' (m1) 0
    have qk1 := blk_cell' (m1) 1
    have qf1 := blk_free' (m1) 1
    have qk2 := blk_cell' (m1) 2
    have qf2 := blk_free' (m1) 2
    have qk3 := blk_cell' (m1) 3
    have qf3 := blk_free' (m1) 3
    have qk4 := blk_cell' (m1) 4
    have qf4 := blk_free' (m1) 4
    clear m1 hB
    go_wp2
    exact bodyPost_ret (results_two Tryz.results26 (res_tmp rfl) (res_cell (T' := 29) (fr := (0, 0)) rfl (HT _ _ _ _ _) Tryz.underlying29 rfl (by kernel_rfl))) rfl ⟨rfl, below_bad HB.out (Nat.le_refl _) _ _ _ _ _⟩
  have kF : decide (daysM y m < d) = false := by simpa using h5
  have HR := Lib.hid (dayP_yes (y := y) (m := m) (d := d) (by omega))
  rw [HR.out]
  have HD : Hid (dayN y m d = -719528 + aheadY y + cumM y (m - 1).toNat + d - 1) := Lib.hid (by unfold dayN; omega)
  rw [HD.out]
  obtain ⟨M, rfl⟩ : ∃ M : Nat, m = (M : Int) + 1 := ⟨(m - 1).toNat, by omega⟩
  rw [show ((M : Int) + 1 - 1).toNat = M by omega]
  obtain ⟨Y, rfl⟩ : ∃ Y : Nat, y = (Y : Int) := ⟨y.toNat, by omega⟩
  have hM : M ≤ 11 := by omega
  have y1 : Y ≤ 9999 := by omega
  have d2 : 1 ≤ d := by omega
  have d3 : d ≤ 31 := by omega
  have CY := fun (k : Nat) (hk : k ≤ 9999) W => ref_year (k : Int) (by omega) (by omega) W
  have CK := fun (k : Nat) (hk : k ≤ 11) W => ref_month (Y : Int) ((k : Int) + 1) (by omega) (by omega) (by omega) (by omega) W
  have HC : Hid (∀ k : Nat, cumM Y (k + 1) = cumM Y k + daysM Y ((k : Int) + 1)) := Lib.hid (fun _ => rfl)
  have HB : Hid (∀ k : Nat, k ≤ 12 → 0 ≤ cumM Y k ∧ cumM Y k ≤ 366) := Lib.hid (fun k hk => by have := cum_bd Y k hk; have := lpI_bd Y; omega)
  have HDM := Lib.hid (fun k => daysM_bd Y k)
  clear h0 h1 h4 h5 hm HR HD hdm
  go_enter Tryz.func26, Tryz.ntmps26
  go_wp2_with (go_at_call 68; refine (CM _).mono ?_; rintro e w' ⟨rfl, rfl⟩)
  have T0 : (w.alloc (.cells #[.int .i64 0, .int .i64 0, .int .i64 0, .bool false, .bool false] 29 (0, 0))).heap[w.heap.size]? = some (.cells #[.int .i64 0, .int .i64 0, .int .i64 0, .bool false, .bool false] 29 (0, 0)) := heap_new' _ _ _ rfl
  have B0 : Below w.heap.size w (w.alloc (.cells #[.int .i64 0, .int .i64 0, .int .i64 0, .bool false, .bool false] 29 (0, 0))) := by go_grown
  generalize w.alloc (.cells #[.int .i64 0, .int .i64 0, .int .i64 0, .bool false, .bool false] 29 (0, 0)) = W at *
  have HT0 := Lib.hid T0
  have HB0 := Lib.hid B0
  clear T0 B0 CM
  go_loopg [8, 9] Y (fun n v8 v9 wr => ∃ k : Nat, v9 = .int .i64 (k : Int) ∧ v8 = .int .i64 (-719528 + aheadY k) ∧ k + n = Y ∧ W = wr)
  case atStart => exact ⟨0, rfl, rfl, by omega, rfl⟩
  case round =>
    obtain ⟨k, rfl, rfl, hk, rfl⟩ := hrel
    have hab := ahead_bd (k : Int) (by omega) (by omega)
    by_cases hlt : k < Y
    · have HS := Lib.hid (ahead_succ (k : Int) (by omega))
      have hlp := lpI_bd (k : Int)
      have CYk := CY k (by omega)
      have hl : decide ((k : Int) < (Y : Int)) = true := by simp; omega
      generalize lpI (k : Int) = L at *
      generalize aheadY (k : Int) = A at *
      go_wp2_with (go_at_call 83; refine (CYk _).mono ?_; rintro e w' ⟨rfl, rfl⟩)
      go_roundg (Y - (k + 1))
      case measure => omega
      case rel => exact ⟨k + 1, by go_num, by rw [show ((k + 1 : Nat) : Int) = (k : Int) + 1 by omega, HS.out, Int.add_assoc (-719528), Int.add_assoc A], by omega, rfl⟩
    · obtain rfl : k = Y := by omega
      have hl : decide ((k : Int) < (k : Int)) = false := by simp
      go_wp2_with fail
      go_loopg [8, 10] M (fun n v8 v10 wr => ∃ j : Nat, v10 = .int .i64 ((j : Int) + 1) ∧ v8 = .int .i64 (-719528 + aheadY (k : Int) + cumM k j) ∧ j + n = M ∧ W = wr)
      case atStart => exact ⟨0, rfl, by show _ = Value.int .i64 (-719528 + aheadY (k : Int) + 0); rw [Int.add_zero], by omega, rfl⟩
      case round =>
        obtain ⟨j, rfl, rfl, hj, rfl⟩ := hrel
        have hb := HB.out j (by omega)
        by_cases hlt : j < M
        · have HS := Lib.hid (HC.out j)
          have hdk := HDM.out ((j : Int) + 1)
          have CKk := CK j (by omega)
          have hl : decide ((j : Int) + 1 < (M : Int) + 1) = true := by simp; omega
          generalize daysM k ((j : Int) + 1) = DK at *
          generalize cumM k j = c0 at *
          go_wp2_with (go_at_call 68; refine (CKk _).mono ?_; rintro e w' ⟨rfl, rfl⟩)
          go_roundg (M - (j + 1))
          case measure => omega
          case rel => exact ⟨j + 1, by go_num, by rw [HS.out, Int.add_assoc (-719528 + aheadY (k : Int))], by omega, rfl⟩
        · obtain rfl : j = M := by omega
          have hl : decide ((j : Int) + 1 < (j : Int) + 1) = false := by simp
          have HT := fun v0 v1 v2 v3 v4 => bad_blk HT0.out v0 v1 v2 v3 v4
          have m1 := HT0.out
          have qk0 := blk_cell' (m1) 0
          have qf0 := blk_free' (m1) 0
          have qk1 := blk_cell' (m1) 1
          have qf1 := blk_free' (m1) 1
          have qk2 := blk_cell' (m1) 2
          have qf2 := blk_free' (m1) 2
          have qk3 := blk_cell' (m1) 3
          have qf3 := blk_free' (m1) 3
          have qk4 := blk_cell' (m1) 4
          have qf4 := blk_free' (m1) 4
          clear m1
          go_wp2
          exact bodyPost_ret (results_two Tryz.results26 (res_tmp rfl) (res_cell (T' := 29) (fr := (0, 0)) rfl (HT _ _ _ _ _) Tryz.underlying29 rfl (by kernel_rfl))) rfl ⟨rfl, below_bad HB0.out (Nat.le_refl _) _ _ _ _ _⟩
set_option maxRecDepth 100000 in
set_option maxHeartbeats 4000000 in
theorem ref_Date (n : Int) (n0 : -9223372036854775808 ≤ n) (n1 : n ≤ 9223372036854775807) (w : World) :
    Calls Tryz.prog 28 #[.int .i64 n] w fun e w' => e = .returned (.tuple #[.int .i64 (dateP n).1, .int .i64 (dateP n).2.1, .int .i64 (dateP n).2.2]) ∧ w = w' := by
  by_cases h0 : n < -719528
  · rw [dateP_no (by omega)]
    have kA : decide (n < -719528) = true := by simpa using h0
    clear h0
    go_enter Tryz.func28, Tryz.ntmps28
    go_wp2
    go_ret3
    exact ⟨rfl, rfl⟩
  have kA : decide (n < -719528) = false := by simpa using h0
  by_cases h1 : 4000000 < n
  · rw [dateP_no (by omega)]
    have kB : decide (4000000 < n) = true := by simpa using h1
    clear h0 h1
    go_enter Tryz.func28, Tryz.ntmps28
    go_wp2
    go_ret3
    exact ⟨rfl, rfl⟩
  have kB : decide (4000000 < n) = false := by simpa using h1
  have hn0 : -719528 ≤ n := by omega
  have hn1 : n ≤ 4000000 := by omega
  clear h0 h1
  go_enter Tryz.func28, Tryz.ntmps28
  go_wp2
  go_loopg [5, 6] 10000 (fun k v5 v6 wr => ∃ (y : Nat) (r : Int), v5 = .int .i64 r ∧ v6 = .int .i64 (y : Int) ∧ y + k = 10000 ∧ 0 ≤ r ∧ r ≤ 4719528 ∧ Hid (n + 719528 = aheadY y + r) ∧ w = wr)
  case atStart => exact ⟨0, _, rfl, rfl, rfl, by omega, by omega, Lib.hid (by show n + 719528 = 0 + _; omega), rfl⟩
  case round =>
    obtain ⟨y, r, rfl, rfl, hk, r0, r1, HE, rfl⟩ := hrel
    by_cases hy : y ≤ 9999
    · have hl : decide ((y : Int) ≤ 9999) = true := by simp; omega
      have CY := fun W => ref_year (y : Int) (by omega) (by omega) W
      have hlp := lpI_bd (y : Int)
      have HS := Lib.hid (ahead_succ (y : Int) (by omega))
      by_cases hr : 365 + lpI (y : Int) ≤ r
      · have kr : decide (365 + lpI (y : Int) ≤ r) = true := by simpa using hr
        have HE2 : Hid (n + 719528 = aheadY ((y : Int) + 1) + (r - (365 + lpI (y : Int)))) := Lib.hid (by rw [HS.out]; have := HE.out; omega)
        generalize hL : lpI (y : Int) = L at *
        clear hL
        go_wp2_with (go_at_call 83; refine (CY _).mono ?_; rintro e w' ⟨rfl, rfl⟩)
        go_roundg (10000 - (y + 1))
        case measure => omega
        case rel => exact ⟨y + 1, r - (365 + L), rfl, by go_num, by omega, by omega, by omega, by rw [show ((y + 1 : Nat) : Int) = (y : Int) + 1 by omega]; exact HE2, rfl⟩
      · have kr : decide (365 + lpI (y : Int) ≤ r) = false := by simpa using hr
        have HTT : Hid (r < cumM (y : Int) 12) := Lib.hid (by rw [(cum_tab (y : Int)).2.2.2.2.2.2.2.2.2.2.2.2]; omega)
        have CK := fun (k : Nat) (hk : k ≤ 11) W => ref_month (y : Int) ((k : Int) + 1) (by omega) (by omega) (by omega) (by omega) W
        have HC : Hid (∀ k : Nat, cumM (y : Int) (k + 1) = cumM y k + daysM y ((k : Int) + 1)) := Lib.hid (fun _ => rfl)
        have HDM := Lib.hid (fun k => daysM_bd (y : Int) k)
        have HD : Hid (∀ (k : Nat) (r : Int), k ≤ 11 → n + 719528 = aheadY y + cumM y k + r → 0 ≤ r → r < daysM y ((k : Int) + 1) → dateP n = ((y : Int), (k : Int) + 1, r + 1)) := Lib.hid (fun k r hk e r0 r1 => by
          have := day_of (n := n) (y := (y : Int)) (m := (k : Int) + 1) (r := r) (by omega) (by omega) (by omega) (by omega) (by rw [show ((k : Int) + 1 - 1).toNat = k by omega]; exact e) r0 r1
          exact dateP_of this.1 this.2)
        obtain ⟨R, hR⟩ : ∃ R : Int, R = r := ⟨_, rfl⟩
        have HRR := Lib.hid hR
        clear hr hR
        generalize hL : lpI (y : Int) = L at *
        clear hL
        go_wp2_with (go_at_call 83; refine (CY _).mono ?_; rintro e w' ⟨rfl, rfl⟩)
        go_loopg [5, 7] 11 (fun m v5 v7 wr => ∃ (k : Nat) (q : Int), v5 = .int .i64 q ∧ v7 = .int .i64 ((k : Int) + 1) ∧ k + m = 11 ∧ Hid (R = cumM (y : Int) k + q) ∧ 0 ≤ q ∧ q ≤ 4719528 ∧ w = wr)
        case atStart => exact ⟨0, _, rfl, rfl, rfl, Lib.hid (by show R = 0 + _; have := HRR.out; omega), by omega, by omega, rfl⟩
        case round =>
          obtain ⟨k, q, rfl, rfl, hkm, HQ, q0, q1, rfl⟩ := hrel
          have CKk := CK k (by omega)
          have hdk := HDM.out ((k : Int) + 1)
          have HCk := Lib.hid (HC.out k)
          have HDk := Lib.hid (HD.out k q (by omega) (by have := HE.out; have := HQ.out; have := HRR.out; omega) q0)
          have hl12 : decide ((k : Int) + 1 ≤ 12) = true := by simp; omega
          generalize hDK : daysM (y : Int) ((k : Int) + 1) = DK at *
          clear hDK
          by_cases hd : q < DK
          · have kd : decide (q < DK) = true := by simpa using hd
            have HR2 := Lib.hid (HDk.out hd)
            go_wp2_with (go_at_call 68; refine (CKk _).mono ?_; rintro e w' ⟨rfl, rfl⟩)
            go_ret3
            exact ⟨by rw [HR2.out]; rfl, rfl⟩
          · have kd : decide (q < DK) = false := by simpa using hd
            have hk11 : k < 11 := by
              rcases Nat.lt_or_ge k 11 with h | h
              · exact h
              · obtain rfl : k = 11 := by omega
                have e1 := HQ.out
                have e2 : cumM (y : Int) 12 = cumM (y : Int) 11 + DK := HCk.out
                have e3 := HTT.out
                have e4 := HRR.out
                omega
            have HE2 : Hid (R = cumM (y : Int) (k + 1) + (q - DK)) := Lib.hid (by rw [HCk.out]; have := HQ.out; omega)
            go_wp2_with (go_at_call 68; refine (CKk _).mono ?_; rintro e w' ⟨rfl, rfl⟩)
            go_roundg (11 - (k + 1))
            case measure => omega
            case rel => exact ⟨k + 1, q - DK, rfl, by go_num, by omega, HE2, by omega, by omega, rfl⟩
    · obtain rfl : y = 10000 := by omega
      have HR : Hid (dateP n = (0, 0, 0)) := Lib.hid (dateP_no (by have e := HE.out; have e2 : aheadY ((10000 : Nat) : Int) = 3652425 := ahead_end; omega))
      go_wp2
      go_ret3
      exact ⟨by rw [HR.out]; rfl, rfl⟩
end Go.Proofs.YthplpjcadjnfiaaGreatDoor
