/- Package span: Print. -/
import Derived.Test.YthplpjcadjnfiaaGreatDoorSw5
namespace Go.Proofs.YthplpjcadjnfiaaGreatDoor
open Go.RowKit
set_option linter.unusedSimpArgs false
set_option linter.unusedVariables false

theorem unit_index (j : Nat) (hj : j ≤ 7) (W : World) : (Instr.index 73 (.agg unitCells.toArray) (.int .i64 (j : Int))).run Tryz.prog W = .ok (.agg #[.string (unitS j), .int .i64 (unitV j)]) W := by
  have e : j = 0 ∨ j = 1 ∨ j = 2 ∨ j = 3 ∨ j = 4 ∨ j = 5 ∨ j = 6 ∨ j = 7 := by omega
  have i0 : ∀ W, (Instr.index 73 (.agg unitCells.toArray) (.int .i64 ((0 : Nat) : Int))).run Tryz.prog W = .ok (.agg #[.string (unitS 0), .int .i64 (unitV 0)]) W := fun _ => by kernel_rfl
  have i1 : ∀ W, (Instr.index 73 (.agg unitCells.toArray) (.int .i64 ((1 : Nat) : Int))).run Tryz.prog W = .ok (.agg #[.string (unitS 1), .int .i64 (unitV 1)]) W := fun _ => by kernel_rfl
  have i2 : ∀ W, (Instr.index 73 (.agg unitCells.toArray) (.int .i64 ((2 : Nat) : Int))).run Tryz.prog W = .ok (.agg #[.string (unitS 2), .int .i64 (unitV 2)]) W := fun _ => by kernel_rfl
  have i3 : ∀ W, (Instr.index 73 (.agg unitCells.toArray) (.int .i64 ((3 : Nat) : Int))).run Tryz.prog W = .ok (.agg #[.string (unitS 3), .int .i64 (unitV 3)]) W := fun _ => by kernel_rfl
  have i4 : ∀ W, (Instr.index 73 (.agg unitCells.toArray) (.int .i64 ((4 : Nat) : Int))).run Tryz.prog W = .ok (.agg #[.string (unitS 4), .int .i64 (unitV 4)]) W := fun _ => by kernel_rfl
  have i5 : ∀ W, (Instr.index 73 (.agg unitCells.toArray) (.int .i64 ((5 : Nat) : Int))).run Tryz.prog W = .ok (.agg #[.string (unitS 5), .int .i64 (unitV 5)]) W := fun _ => by kernel_rfl
  have i6 : ∀ W, (Instr.index 73 (.agg unitCells.toArray) (.int .i64 ((6 : Nat) : Int))).run Tryz.prog W = .ok (.agg #[.string (unitS 6), .int .i64 (unitV 6)]) W := fun _ => by kernel_rfl
  have i7 : ∀ W, (Instr.index 73 (.agg unitCells.toArray) (.int .i64 ((7 : Nat) : Int))).run Tryz.prog W = .ok (.agg #[.string (unitS 7), .int .i64 (unitV 7)]) W := fun _ => by kernel_rfl
  rcases e with rfl | rfl | rfl | rfl | rfl | rfl | rfl | rfl
  · exact i0 W
  · exact i1 W
  · exact i2 W
  · exact i3 W
  · exact i4 W
  · exact i5 W
  · exact i6 W
  · exact i7 W
theorem itoa_nat (n : Int) (h : 0 ≤ n) : (itoa n).data.toList = Lib.decDigits n.toNat := by
  show Lib.itoa n = _
  unfold Lib.itoa
  rw [if_neg (by omega)]
theorem uOf_of {n j : Nat} (hj : j ≤ 7) (h0 : ∀ i, i < j → n % unitV i ≠ 0) (h1 : n % unitV j = 0) : uOf n = j := by
  rcases Nat.lt_trichotomy (uOf n) j with h | h | h
  · exact absurd (uOf_dvd n) (h0 _ h)
  · exact h
  · exact absurd h1 (uOf_min n j h)
theorem print_pos {n : Int} (h : 0 < n) : printP n = printU n.toNat := by unfold printP; rw [if_neg (by omega), if_neg (by omega), if_neg (by omega)]
theorem print_is {n : Int} {j : Nat} (h : 0 < n) (hj : j ≤ 7) (h0 : ∀ i, i < j → n % (unitV i : Int) ≠ 0) (h1 : n % (unitV j : Int) = 0) :
    itoa (n / (unitV j : Int)) ++ unitS j = ⟨(printP n).toArray⟩ := by
  have cast : ∀ i, (n % (unitV i : Int) = 0 ↔ n.toNat % unitV i = 0) := by
    intro i
    have : n % (unitV i : Int) = ((n.toNat % unitV i : Nat) : Int) := by rw [Int.natCast_emod]; congr 1; omega
    rw [this]; omega
  have hu := uOf_of hj (fun i hi e => h0 i hi ((cast i).2 e)) ((cast j).1 h1)
  apply bytes_ext
  rw [data_app, print_pos h, itoa_nat _ (Int.ediv_nonneg (by omega) (by omega))]
  unfold printU
  rw [hu]
  have e2 : (n / (unitV j : Int)).toNat = n.toNat / unitV j := by
    have : n / (unitV j : Int) = ((n.toNat / unitV j : Nat) : Int) := by rw [Int.natCast_ediv]; congr 1; omega
    rw [this]; rfl
  rw [e2]
  rfl
set_option maxRecDepth 100000 in
set_option maxHeartbeats 1000000 in
theorem span_Print_pos (n : Int) (h0 : 0 < n) (h1 : n ≤ 9223372036854775807) (w : World) (hL : LayU w) :
    Calls Tryz.prog 19 #[.int .i64 n] w fun e w' => e = .returned (.string ⟨(printP n).toArray⟩) ∧ Below w.heap.size w w' := by
  have st := Sq.start hL
  have hz : (n == 0) = false := by simp; omega
  have hm : (n == -9223372036854775808) = false := by simp; omega
  have hl : decide (n < 0) = false := by simp; omega
  have zc0 := hL.U 0 _ rfl
  have zc1 := hL.U 1 _ rfl
  have zc2 := hL.U 2 _ rfl
  have zc3 := hL.U 3 _ rfl
  have zc4 := hL.U 4 _ rfl
  have zc5 := hL.U 5 _ rfl
  have zc6 := hL.U 6 _ rfl
  have zc7 := hL.U 7 _ rfl
  have zc8 := hL.U 8 _ rfl
  have zc9 := hL.U 9 _ rfl
  have zc10 := hL.U 10 _ rfl
  have zc11 := hL.U 11 _ rfl
  have zc12 := hL.U 12 _ rfl
  have zc13 := hL.U 13 _ rfl
  have zc14 := hL.U 14 _ rfl
  have zc15 := hL.U 15 _ rfl
  go_enter Tryz.func19, Tryz.ntmps19
  go_wp2
  clear zc0 zc1 zc2 zc3 zc4 zc5 zc6 zc7 zc8 zc9 zc10 zc11 zc12 zc13 zc14 zc15
  go_loopg [19] 8 (fun k v19 wr => ∃ j : Nat, v19 = .int .i64 j ∧ j + k = 8 ∧ Hid (∀ i, i < j → n % (unitV i : Int) ≠ 0) ∧ Sq LayU w wr)
  case atStart => exact ⟨0, rfl, rfl, Lib.hid (by omega), Sq.start hL⟩
  case round =>
    obtain ⟨j, rfl, hj, HJ, st1⟩ := hrel
    have hj7 : j ≤ 7 := by
      rcases Nat.lt_or_ge j 8 with h | h
      · omega
      · exact absurd (Int.emod_one n) (HJ.out 7 (by omega))
    have hI := unit_index j hj7
    have hK0 := unitV_pos j
    have hK1 := unitV_le j
    have hK : (1 : Int) ≤ unitV j := by omega
    have hK2 : (unitV j : Int) ≤ 604800000000000 := by omega
    have hz0 : ((unitV j : Int) == 0) = false := by simp; omega
    have hz1 : ¬ (unitV j : Int) = 0 := by omega
    have hnm := unitN_len j
    rw [← unitS_size] at hnm
    by_cases hd : n % (unitV j : Int) = 0
    · have hd' : (n % (unitV j : Int) == 0) = true := by simpa using hd
      have HR := Lib.hid (print_is h0 hj7 HJ.out hd)
      have q0 : 0 ≤ n / (unitV j : Int) := Int.ediv_nonneg (by omega) (by omega)
      have q1 : n / (unitV j : Int) ≤ n := Int.ediv_le_self (unitV j : Int) (by omega)
      have q2 : n / (unitV j : Int) ≤ 9223372036854775807 := by omega
      have hq : IntKind.i64.wrap (n.tdiv (unitV j : Int)) = n / (unitV j : Int) := by rw [Int.tdiv_eq_ediv_of_nonneg (by omega), IntKind.wrap_i64]; omega
      have C := fun W hW => strconv_FormatInt (n / (unitV j : Int)) (by omega) (by omega) W hW
      have hsz := itoa_size (n / (unitV j : Int)) (by omega) (by omega)
      generalize itoa (n / (unitV j : Int)) = R at *
      have hle : ¬ 9223372036854775807 < R.size + (unitS j).size := by omega
      generalize unitS j = nm at *
      generalize (unitV j : Int) = K at *
      clear hd HJ hK0 hK1
      go_wp2_with fail
      have hb : (wr.alloc (.cells #[.string nm, .int .i64 K] 72 (0, 0))).heap[wr.heap.size]? = some (.cells #[.string nm, .int .i64 K] 72 (0, 0)) := heap_new' _ _ _ rfl
      have st2 := st1.alloc (.cells #[.string nm, .int .i64 K] 72 (0, 0))
      generalize wr.alloc (.cells #[.string nm, .int .i64 K] 72 (0, 0)) = W at *
      have hz := blk_lt' hb
      have t0 := cell2 hb (Below.refl _ _)
      have t0d := cell2 (w1 := W.drew) hb (Below.refl _ _).drew
      have HB := Lib.hid hb
      clear hb
      go_region_held3 (fun w' => w'.cell? ⟨wr.heap.size, 0, none⟩ = some (.string nm) ∧ w'.cell? ⟨wr.heap.size, 1, none⟩ = some (.int .i64 K)) (first | (with_reducible exact t0) | (with_reducible exact t0d) | (with_reducible exact t1)) (first | (go_at_call 45; (with_reducible refine (C _ st2.drew.L.S.L).mono ?_); rintro ev w2 ⟨rfl, hB⟩; have t1 := cell2 HB.out (show Below W.heap.size W w2 from (Below.refl _ _).drew.trans hB)))
      have st3 := st2.drew.next hB
      clear t0 t0d t1
      go_wp2
      go_ret
      exact ⟨by rw [← HR.out]; rfl, st3.B⟩
    · have hd' : (n % (unitV j : Int) == 0) = false := by simpa using hd
      have HJ' : Hid (∀ i, i < j + 1 → n % (unitV i : Int) ≠ 0) := Lib.hid (fun i hi => by
        rcases Nat.lt_or_ge i j with h | h
        · exact HJ.out i h
        · obtain rfl : i = j := by omega
          exact hd)
      generalize unitS j = nm at *
      generalize hKK : (unitV j : Int) = K at *
      clear hd HJ hKK hK0 hK1
      go_wp2_with fail
      go_roundg (gk - 1)
      case measure => omega
      case rel => exact ⟨j + 1, by go_num, by omega, HJ', st1.alloc _⟩

set_option maxRecDepth 100000 in
set_option maxHeartbeats 1000000 in
theorem span_Print (n : Int) (h0 : -9223372036854775808 ≤ n) (h1 : n ≤ 9223372036854775807) (w : World) (hL : LayU w) :
    Calls Tryz.prog 19 #[.int .i64 n] w fun e w' => e = .returned (.string ⟨(printP n).toArray⟩) ∧ Below w.heap.size w w' := by
  by_cases hz : n = 0
  · subst hz
    have HR : Hid (printP 0 = [48, 115]) := Lib.hid rfl
    go_enter Tryz.func19, Tryz.ntmps19
    go_wp2
    go_ret
    exact ⟨by rw [HR.out]; rfl, Below.refl _ _⟩
  by_cases hm : n = -9223372036854775808
  · subst hm
    have HR : Hid (⟨(printP (-9223372036854775808)).toArray⟩ = (⟨#[45, 57, 50, 50, 51, 51, 55, 50, 48, 51, 54, 56, 53, 52, 55, 55, 53, 56, 48, 55, 110, 115]⟩ : ByteArray)) := Lib.hid (by
      have : printP (-9223372036854775808) = [45, 57, 50, 50, 51, 51, 55, 50, 48, 51, 54, 56, 53, 52, 55, 55, 53, 56, 48, 55, 110, 115] := by
        show leastL = _
        unfold leastL
        simp [Lib.decDigits]
      rw [this])
    go_enter Tryz.func19, Tryz.ntmps19
    go_wp2
    go_ret
    exact ⟨by rw [HR.out]; rfl, Below.refl _ _⟩
  by_cases hn : 0 < n
  · exact span_Print_pos n hn h1 w hL
  · have hz' : (n == 0) = false := by simpa using hz
    have hm' : (n == -9223372036854775808) = false := by simpa using hm
    have hl : decide (n < 0) = true := by simp; omega
    have hw : wrap64 (-n) = -n := by unfold wrap64; omega
    have C := fun W hW => span_Print_pos (-n) (by omega) (by omega) W hW
    have HR : Hid (printP n = 45 :: printP (-n)) := Lib.hid (by rw [print_pos (n := -n) (by omega)]; unfold printP; rw [if_neg hz, if_neg hm, if_pos (by omega)])
    have hsz : (printP (-n)).length ≤ 100 := by
      rw [print_pos (by omega)]
      unfold printU
      rw [List.length_append]
      have e1 := unitN_len (uOf (-n).toNat)
      have e0 := Nat.div_le_self (-n).toNat (unitV (uOf (-n).toNat))
      generalize (-n).toNat / unitV (uOf (-n).toNat) = q at *
      have e2 := itoa_size (q : Int) (by omega) (by omega)
      have e3 := itoa_nat (q : Int) (by omega)
      have e4 : (Lib.decDigits q).length ≤ 21 := by
        have : (itoa (q : Int)).data.toList.length ≤ 21 := e2
        rw [e3] at this
        exact this
      omega
    have HS : (⟨(printP (-n)).toArray⟩ : ByteArray).size ≤ 100 := by simpa [ByteArray.size] using hsz
    have HE : Hid ((⟨#[45]⟩ : ByteArray) ++ ⟨(printP (-n)).toArray⟩ = ⟨(printP n).toArray⟩) := Lib.hid (by apply bytes_ext; rw [data_app, HR.out]; rfl)
    generalize (⟨(printP (-n)).toArray⟩ : ByteArray) = R at *
    clear hz hm hsz HR
    go_enter Tryz.func19, Tryz.ntmps19
    go_wp2_with (go_at_call 19; refine (C _ hL).mono ?_; rintro e w1 ⟨rfl, hB⟩)
    go_ret
    exact ⟨by rw [← HE.out]; rfl, hB⟩
end Go.Proofs.YthplpjcadjnfiaaGreatDoor
