/- The calendar: Day and Date of package span and of the reference. -/
import Derived.Test.YthplpjcadjnfiaaGreatDoorSw11
namespace Go.Proofs.YthplpjcadjnfiaaGreatDoor
open Go.RowKit
set_option linter.unusedSimpArgs false
set_option linter.unusedVariables false

/-- What Day answers: the number, the error's number. -/
def dayP (y m d : Int) : Int × Int := if validD y m d = true then (dayN y m d, 0) else (0, 41)
theorem dayP_no {y m d : Int} (h : ¬ (0 ≤ y ∧ y ≤ 9999 ∧ 1 ≤ m ∧ m ≤ 12 ∧ 1 ≤ d ∧ d ≤ daysM y m)) : dayP y m d = (0, 41) := if_neg (fun hv => h (validD_iff.1 hv))
theorem dayP_yes {y m d : Int} (h : 0 ≤ y ∧ y ≤ 9999 ∧ 1 ≤ m ∧ m ≤ 12 ∧ 1 ≤ d ∧ d ≤ daysM y m) : dayP y m d = (dayN y m d, 0) := if_pos (validD_iff.2 h)
theorem ahead_guess (N : Int) (h : 0 ≤ N) : aheadY (N / 366) ≤ N := by unfold aheadY; split <;> omega
set_option maxRecDepth 100000 in
set_option maxHeartbeats 4000000 in
theorem span_Day (y m d : Int) (d0 : -9223372036854775808 ≤ d) (d1 : d ≤ 9223372036854775807) (w : World) :
    Calls Tryz.prog 25 #[.int .i64 y, .int .i64 m, .int .i64 d] w fun e w' => e = .returned (.tuple #[.int .i64 (dayP y m d).1, encE (mkE (dayP y m d).2)]) ∧ w = w' := by
  by_cases h0 : y < 0
  · have kA : decide (y < 0) = true := by simpa using h0
    rw [dayP_no (by omega)]
    clear h0
    go_enter Tryz.func25, Tryz.ntmps25
    go_wp2_with (first | (go_at_call 54; refine (CM _).mono ?_; rintro e w' ⟨rfl, rfl⟩) | (go_at_call 32; refine (fault_New _ _).mono ?_; rintro e w' ⟨rfl, rfl⟩))
    go_ret2
    exact ⟨rfl, rfl⟩
  have kA : decide (y < 0) = false := by simpa using h0
  by_cases h1 : 9999 < y
  · have kB : decide (9999 < y) = true := by simpa using h1
    rw [dayP_no (by omega)]
    clear h1
    go_enter Tryz.func25, Tryz.ntmps25
    go_wp2_with (first | (go_at_call 54; refine (CM _).mono ?_; rintro e w' ⟨rfl, rfl⟩) | (go_at_call 32; refine (fault_New _ _).mono ?_; rintro e w' ⟨rfl, rfl⟩))
    go_ret2
    exact ⟨rfl, rfl⟩
  have kB : decide (9999 < y) = false := by simpa using h1
  by_cases h2 : m < 1
  · have kC : decide (m < 1) = true := by simpa using h2
    rw [dayP_no (by omega)]
    clear h2
    go_enter Tryz.func25, Tryz.ntmps25
    go_wp2_with (first | (go_at_call 54; refine (CM _).mono ?_; rintro e w' ⟨rfl, rfl⟩) | (go_at_call 32; refine (fault_New _ _).mono ?_; rintro e w' ⟨rfl, rfl⟩))
    go_ret2
    exact ⟨rfl, rfl⟩
  have kC : decide (m < 1) = false := by simpa using h2
  by_cases h3 : 12 < m
  · have kD : decide (12 < m) = true := by simpa using h3
    rw [dayP_no (by omega)]
    clear h3
    go_enter Tryz.func25, Tryz.ntmps25
    go_wp2_with (first | (go_at_call 54; refine (CM _).mono ?_; rintro e w' ⟨rfl, rfl⟩) | (go_at_call 32; refine (fault_New _ _).mono ?_; rintro e w' ⟨rfl, rfl⟩))
    go_ret2
    exact ⟨rfl, rfl⟩
  have kD : decide (12 < m) = false := by simpa using h3
  by_cases h4 : d < 1
  · have kE : decide (d < 1) = true := by simpa using h4
    rw [dayP_no (by omega)]
    clear h4
    go_enter Tryz.func25, Tryz.ntmps25
    go_wp2_with (first | (go_at_call 54; refine (CM _).mono ?_; rintro e w' ⟨rfl, rfl⟩) | (go_at_call 32; refine (fault_New _ _).mono ?_; rintro e w' ⟨rfl, rfl⟩))
    go_ret2
    exact ⟨rfl, rfl⟩
  have kE : decide (d < 1) = false := by simpa using h4
  have CM := fun W => span_days y m (by omega) (by omega) (by omega) (by omega) W
  have hdm := daysM_bd y m
  by_cases h5 : daysM y m < d
  · have kF : decide (daysM y m < d) = true := by simpa using h5
    rw [dayP_no (by omega)]
    generalize daysM y m = DM at *
    clear h0 h1 h2 h3 h4 h5
    go_enter Tryz.func25, Tryz.ntmps25
    go_wp2_with (first | (go_at_call 54; refine (CM _).mono ?_; rintro e w' ⟨rfl, rfl⟩) | (go_at_call 32; refine (fault_New _ _).mono ?_; rintro e w' ⟨rfl, rfl⟩))
    go_ret2
    exact ⟨rfl, rfl⟩
  have kF : decide (daysM y m < d) = false := by simpa using h5
  have HR := Lib.hid (dayP_yes (y := y) (m := m) (d := d) (by omega))
  rw [HR.out]
  have CA := fun W => span_ahead y (by omega) (by omega) W
  have hab := ahead_bd y (by omega) (by omega)
  have HD : Hid (dayN y m d = aheadY y + d - 1 + cumM y (m - 1).toNat - 719528) := Lib.hid (by unfold dayN; omega)
  rw [HD.out]
  rw [encE_mkE0]
  obtain ⟨M, rfl⟩ : ∃ M : Nat, m = (M : Int) + 1 := ⟨(m - 1).toNat, by omega⟩
  rw [show ((M : Int) + 1 - 1).toNat = M by omega]
  have hM : M ≤ 11 := by omega
  have y0 : 0 ≤ y := by omega
  have y1 : y ≤ 9999 := by omega
  have d2 : 1 ≤ d := by omega
  have d3 : d ≤ 31 := by omega
  have CK := fun (k : Nat) (hk : k ≤ 11) W => span_days y ((k : Int) + 1) y0 (by omega) (by omega) (by omega) W
  have HC : Hid (∀ k : Nat, cumM y (k + 1) = cumM y k + daysM y ((k : Int) + 1)) := Lib.hid (fun _ => rfl)
  have HB : Hid (∀ k : Nat, k ≤ 12 → 0 ≤ cumM y k ∧ cumM y k ≤ 366) := Lib.hid (fun k hk => by have := cum_bd y k hk; have := lpI_bd y; omega)
  have HDM := Lib.hid (fun k => daysM_bd y k)
  generalize aheadY y = A at *
  clear h0 h1 h2 h3 h4 h5 HR HD hdm
  go_enter Tryz.func25, Tryz.ntmps25
  go_wp2_with (first | (go_at_call 54; refine (CM _).mono ?_; rintro e w' ⟨rfl, rfl⟩) | (go_at_call 82; refine (CA _).mono ?_; rintro e w' ⟨rfl, rfl⟩))
  go_loopg [8, 9] M (fun n v8 v9 wr => ∃ k : Nat, v9 = .int .i64 ((k : Int) + 1) ∧ v8 = .int .i64 (A + d - 1 + cumM y k) ∧ k + n = M ∧ w = wr)
  case atStart => exact ⟨0, rfl, by show _ = Value.int .i64 (A + d - 1 + 0); rw [Int.add_zero], by omega, rfl⟩
  case round =>
    obtain ⟨k, rfl, rfl, hk, rfl⟩ := hrel
    have hb := HB.out k (by omega)
    by_cases hlt : k < M
    · have HS := Lib.hid (HC.out k)
      have hdk := HDM.out ((k : Int) + 1)
      have CKk := CK k (by omega)
      have hl : decide ((k : Int) + 1 < (M : Int) + 1) = true := by simp; omega
      generalize daysM y ((k : Int) + 1) = DK at *
      generalize cumM y k = c0 at *
      go_wp2_with (go_at_call 54; refine (CKk _).mono ?_; rintro e w' ⟨rfl, rfl⟩)
      go_roundg (M - (k + 1))
      case measure => omega
      case rel => exact ⟨k + 1, by go_num, by rw [HS.out, Int.add_assoc], by omega, rfl⟩
    · obtain rfl : k = M := by omega
      have hl : decide ((k : Int) + 1 < (k : Int) + 1) = false := by simp
      go_wp2
      go_ret2
      exact ⟨rfl, rfl⟩
set_option maxRecDepth 100000 in
set_option maxHeartbeats 4000000 in
theorem span_Date (n : Int) (n0 : -9223372036854775808 ≤ n) (n1 : n ≤ 9223372036854775807) (w : World) :
    Calls Tryz.prog 27 #[.int .i64 n] w fun e w' => e = .returned (.tuple #[.int .i64 (dateP n).1, .int .i64 (dateP n).2.1, .int .i64 (dateP n).2.2]) ∧ w = w' := by
  have CE := fun W => span_ahead 10000 (by omega) (by omega) W
  rw [ahead_end] at CE
  by_cases h0 : n < -719528
  · rw [dateP_no (by omega)]
    have kA : decide (n < -719528) = true := by simpa using h0
    clear h0
    go_enter Tryz.func27, Tryz.ntmps27
    go_wp2
    go_ret3
    exact ⟨rfl, rfl⟩
  have kA : decide (n < -719528) = false := by simpa using h0
  by_cases h1 : 2932897 ≤ n
  · rw [dateP_no (by omega)]
    have kB : decide (2932897 ≤ n) = true := by simpa using h1
    clear h0 h1
    go_enter Tryz.func27, Tryz.ntmps27
    go_wp2_with (go_at_call 82; refine (CE _).mono ?_; rintro e w' ⟨rfl, rfl⟩)
    go_ret3
    exact ⟨rfl, rfl⟩
  have kB : decide (2932897 ≤ n) = false := by simpa using h1
  have hg := ahead_guess (n + 719528) (by omega)
  have hn0 : 0 ≤ n + 719528 := by omega
  have hn1 : n + 719528 < 3652425 := by omega
  clear h0 h1
  go_enter Tryz.func27, Tryz.ntmps27
  go_wp2_with (go_at_call 82; refine (CE _).mono ?_; rintro e w' ⟨rfl, rfl⟩)
  go_loopg [5] (9999 - (n + 719528) / 366).toNat (fun k v5 wr => ∃ y : Int, v5 = .int .i64 y ∧ 0 ≤ y ∧ y ≤ 9999 ∧ aheadY y ≤ n + 719528 ∧ (k : Int) = 9999 - y ∧ w = wr)
  case atStart => exact ⟨_, rfl, by omega, by omega, hg, by omega, rfl⟩
  case round =>
    clear hg
    obtain ⟨y, rfl, y0, y1, hy, hk, rfl⟩ := hrel
    have CA := fun W => span_ahead (y + 1) (by omega) (by omega) W
    have hs := ahead_succ y y0
    have hb := ahead_bd (y + 1) (by omega) (by omega)
    by_cases hc : aheadY (y + 1) ≤ n + 719528
    · have kc : decide (aheadY (y + 1) ≤ n + 719528) = true := by simpa using hc
      have hy9 : y + 1 ≤ 9999 := by
        rcases Int.lt_or_le 9999 (y + 1) with h | h
        · have e : y + 1 = 10000 := by omega
          rw [e, ahead_end] at hc
          omega
        · exact h
      have HCC := Lib.hid hc
      have HK := Lib.hid hk
      clear hs hc hk
      go_wp2_with (go_at_call 82; refine (CA _).mono ?_; rintro e w' ⟨rfl, rfl⟩)
      go_roundg (gk - 1)
      case measure => have := HK.out; omega
      case rel => exact ⟨y + 1, rfl, by omega, hy9, HCC.out, by have := HK.out; omega, rfl⟩
    · have kc : decide (aheadY (y + 1) ≤ n + 719528) = false := by simpa using hc
      have CB := fun W => span_ahead y y0 (by omega) W
      have hab := ahead_bd y y0 (by omega)
      have HT : Hid (n + 719528 < aheadY y + cumM y 12) := Lib.hid (by rw [(cum_tab y).2.2.2.2.2.2.2.2.2.2.2.2]; omega)
      have CK := fun (k : Nat) (hk : k ≤ 11) W => span_days y ((k : Int) + 1) y0 (by omega) (by omega) (by omega) W
      have HC : Hid (∀ k : Nat, cumM y (k + 1) = cumM y k + daysM y ((k : Int) + 1)) := Lib.hid (fun _ => rfl)
      have HDM := Lib.hid (fun k => daysM_bd y k)
      have HD : Hid (∀ (k : Nat) (r : Int), k ≤ 11 → n + 719528 = aheadY y + cumM y k + r → 0 ≤ r → r < daysM y ((k : Int) + 1) → dateP n = (y, (k : Int) + 1, r + 1)) := Lib.hid (fun k r hk e r0 r1 => by
        have := day_of (n := n) (y := y) (m := (k : Int) + 1) (r := r) y0 y1 (by omega) (by omega) (by rw [show ((k : Int) + 1 - 1).toNat = k by omega]; exact e) r0 r1
        exact dateP_of this.1 this.2)
      generalize aheadY y = A at *
      clear hs hc hk
      go_wp2_with (first | (go_at_call 82; (with_reducible refine (CA _).mono ?_); rintro e w' ⟨rfl, rfl⟩) | (go_at_call 82; (with_reducible refine (CB _).mono ?_); rintro e w' ⟨rfl, rfl⟩))
      go_loopg [0, 6] 11 (fun m v0 v6 wr => ∃ (k : Nat) (r : Int), v0 = .int .i64 r ∧ v6 = .int .i64 ((k : Int) + 1) ∧ k + m = 11 ∧ Hid (n + 719528 = A + cumM y k + r) ∧ 0 ≤ r ∧ r ≤ 3652425 ∧ w = wr)
      case atStart => exact ⟨0, _, rfl, rfl, rfl, Lib.hid (by show n + 719528 = A + 0 + _; omega), by omega, by omega, rfl⟩
      case round =>
        obtain ⟨k, r, rfl, rfl, hk, HE, r0, r1, rfl⟩ := hrel
        have CKk := CK k (by omega)
        have hdk := HDM.out ((k : Int) + 1)
        have HCk := Lib.hid (HC.out k)
        have HDk := Lib.hid (HD.out k r (by omega) HE.out r0)
        generalize hDK : daysM y ((k : Int) + 1) = DK at *
        clear hDK
        by_cases hd : DK ≤ r
        · have kd : decide (DK ≤ r) = true := by simpa using hd
          have hk11 : k < 11 := by
            rcases Nat.lt_or_ge k 11 with h | h
            · exact h
            · obtain rfl : k = 11 := by omega
              have e1 := HE.out
              have e2 : cumM y 12 = cumM y 11 + DK := HCk.out
              have e3 := HT.out
              omega
          have HE2 : Hid (n + 719528 = A + cumM y (k + 1) + (r - DK)) := Lib.hid (by rw [HCk.out]; have := HE.out; omega)
          go_wp2_with (go_at_call 54; refine (CKk _).mono ?_; rintro e w' ⟨rfl, rfl⟩)
          go_roundg (11 - (k + 1))
          case measure => omega
          case rel => exact ⟨k + 1, r - DK, rfl, by go_num, by omega, HE2, by omega, by omega, rfl⟩
        · have kd : decide (DK ≤ r) = false := by simpa using hd
          have HR := Lib.hid (HDk.out (by omega))
          go_wp2_with (go_at_call 54; refine (CKk _).mono ?_; rintro e w' ⟨rfl, rfl⟩)
          go_ret3
          exact ⟨by rw [HR.out]; rfl, rfl⟩
end Go.Proofs.YthplpjcadjnfiaaGreatDoor
