/- The reference's Print of a span. -/
import Derived.Test.YthplpjcadjnfiaaGreatDoorSw6
namespace Go.Proofs.YthplpjcadjnfiaaGreatDoor
open Go.RowKit
set_option linter.unusedSimpArgs false
set_option linter.unusedVariables false

theorem unitBy_name (j : Nat) (hj : j ≤ 7) : unitBy (unitS j).data.toList = unitV j := by
  have e : j = 0 ∨ j = 1 ∨ j = 2 ∨ j = 3 ∨ j = 4 ∨ j = 5 ∨ j = 6 ∨ j = 7 := by omega
  rcases e with rfl | rfl | rfl | rfl | rfl | rfl | rfl | rfl <;> decide
theorem names_cell {w : World} {b : Nat} {T : TypeId} (h : w.heap[b]? = some (.cells #[.string ⟨#[119]⟩, .string ⟨#[100]⟩, .string ⟨#[104]⟩, .string ⟨#[109]⟩, .string ⟨#[115]⟩, .string ⟨#[109, 115]⟩, .string ⟨#[117, 115]⟩, .string ⟨#[110, 115]⟩] T (0, 0))) {j : Nat} (hj : j ≤ 7) :
    w.cell? ⟨b, j, none⟩ = some (.string (unitS j)) := by
  rw [blk_cell' h]
  have e : j = 0 ∨ j = 1 ∨ j = 2 ∨ j = 3 ∨ j = 4 ∨ j = 5 ∨ j = 6 ∨ j = 7 := by omega
  rcases e with rfl | rfl | rfl | rfl | rfl | rfl | rfl | rfl <;> rfl
set_option maxRecDepth 100000 in
set_option maxHeartbeats 1000000 in
theorem ref_Print_pos (n : Int) (h0 : 0 < n) (h1 : n ≤ 9223372036854775807) (w : World) (hL : LayS w) :
    Calls Tryz.prog 20 #[.int .i64 n] w fun e w' => e = .returned (.string ⟨(printP n).toArray⟩) ∧ Below w.heap.size w w' := by
  have st := Sq.start hL
  have hz : (n == 0) = false := by simp; omega
  have hm : (n == -9223372036854775808) = false := by simp; omega
  have hl : decide (n < 0) = false := by simp; omega
  go_enter Tryz.func20, Tryz.ntmps20
  go_wp2
  have hb : (w.alloc (.cells #[.string ⟨#[119]⟩, .string ⟨#[100]⟩, .string ⟨#[104]⟩, .string ⟨#[109]⟩, .string ⟨#[115]⟩, .string ⟨#[109, 115]⟩, .string ⟨#[117, 115]⟩, .string ⟨#[110, 115]⟩] 78 (0, 0))).heap[w.heap.size]? = some (.cells #[.string ⟨#[119]⟩, .string ⟨#[100]⟩, .string ⟨#[104]⟩, .string ⟨#[109]⟩, .string ⟨#[115]⟩, .string ⟨#[109, 115]⟩, .string ⟨#[117, 115]⟩, .string ⟨#[110, 115]⟩] 78 (0, 0)) := heap_new' _ _ _ rfl
  have st2 := st.alloc (.cells #[.string ⟨#[119]⟩, .string ⟨#[100]⟩, .string ⟨#[104]⟩, .string ⟨#[109]⟩, .string ⟨#[115]⟩, .string ⟨#[109, 115]⟩, .string ⟨#[117, 115]⟩, .string ⟨#[110, 115]⟩] 78 (0, 0))
  generalize w.alloc (.cells #[.string ⟨#[119]⟩, .string ⟨#[100]⟩, .string ⟨#[104]⟩, .string ⟨#[109]⟩, .string ⟨#[115]⟩, .string ⟨#[109, 115]⟩, .string ⟨#[117, 115]⟩, .string ⟨#[110, 115]⟩] 78 (0, 0)) = W at *
  have HB := Lib.hid hb
  clear hb
  go_loopg [4] 8 (fun k v4 wr => ∃ j : Nat, v4 = .int .i64 j ∧ j + k = 8 ∧ Hid (∀ i, i < j → n % (unitV i : Int) ≠ 0) ∧ W = wr)
  case atStart => exact ⟨0, rfl, rfl, Lib.hid (by omega), rfl⟩
  case round =>
    obtain ⟨j, rfl, hj, HJ, rfl⟩ := hrel
    have hj7 : j ≤ 7 := by
      rcases Nat.lt_or_ge j 8 with h | h
      · omega
      · exact absurd (Int.emod_one n) (HJ.out 7 (by omega))
    have hcell := names_cell HB.out hj7
    have hcelld : W.drew.cell? ⟨w.heap.size, j, none⟩ = some (.string (unitS j)) := hcell
    have hK0 := unitV_pos j
    have hK1 := unitV_le j
    have CU := fun W => ref_unit (unitS j) W
    rw [unitBy_name j hj7] at CU
    have hK : (1 : Int) ≤ unitV j := by omega
    have hK2 : (unitV j : Int) ≤ 604800000000000 := by omega
    have hz0 : ((unitV j : Int) == 0) = false := by simp; omega
    have hz1 : ¬ (unitV j : Int) = 0 := by omega
    have hnm := unitN_len j
    rw [← unitS_size] at hnm
    by_cases hd : n % (unitV j : Int) = 0
    · have hd' : (n % (unitV j : Int) == 0) = true := by simpa using hd
      have HR := Lib.hid (print_is h0 hj7 HJ.out hd)
      have q0 : 0 ≤ n / (unitV j : Int) := Int.ediv_nonneg (by omega) (by omega)
      have q1 : n / (unitV j : Int) ≤ n := Int.ediv_le_self (unitV j : Int) (by omega)
      have q2 : n / (unitV j : Int) ≤ 9223372036854775807 := by omega
      have hq : IntKind.i64.wrap (n.tdiv (unitV j : Int)) = n / (unitV j : Int) := by rw [Int.tdiv_eq_ediv_of_nonneg (by omega), IntKind.wrap_i64]; omega
      have C := fun W hW => strconv_FormatInt (n / (unitV j : Int)) (by omega) (by omega) W hW
      have hsz := itoa_size (n / (unitV j : Int)) (by omega) (by omega)
      generalize itoa (n / (unitV j : Int)) = R at *
      have hle : ¬ 9223372036854775807 < R.size + (unitS j).size := by omega
      have HB2 : Hid (∀ w2, Below W.heap.size W w2 → w2.cell? ⟨w.heap.size, j, none⟩ = some (.string (unitS j))) := Lib.hid (fun w2 hw => names_cell (below_blk hw (blk_lt' HB.out) HB.out) hj7)
      generalize unitS j = nm at *
      generalize (unitV j : Int) = K at *
      clear hd HJ hK0 hK1
      go_wp2_with (go_at_call 46; refine (CU _).mono ?_; rintro e w' ⟨rfl, rfl⟩)
      go_region_held3 (fun w' => w'.cell? ⟨w.heap.size, j, none⟩ = some (.string nm)) (first | (with_reducible exact hcell) | (with_reducible exact hcelld) | (with_reducible exact t1)) (first | (go_at_call 46; (with_reducible refine (CU _).mono ?_); rintro e w' ⟨rfl, rfl⟩) | (go_at_call 45; (with_reducible refine (C _ st2.drew.L.L).mono ?_); rintro ev w2 ⟨rfl, hB⟩; have t1 := HB2.out w2 (show Below W.heap.size W w2 from (Below.refl _ _).drew.trans hB)))
      have st3 := st2.drew.next hB
      clear hcell hcelld t1
      go_wp2
      go_ret
      exact ⟨by rw [← HR.out]; rfl, st3.B⟩
    · have hd' : (n % (unitV j : Int) == 0) = false := by simpa using hd
      have HJ' : Hid (∀ i, i < j + 1 → n % (unitV i : Int) ≠ 0) := Lib.hid (fun i hi => by
        rcases Nat.lt_or_ge i j with h | h
        · exact HJ.out i h
        · obtain rfl : i = j := by omega
          exact hd)
      generalize unitS j = nm at *
      generalize hKK : (unitV j : Int) = K at *
      clear hd HJ hKK hK0 hK1
      go_wp2_with (go_at_call 46; refine (CU _).mono ?_; rintro e w' ⟨rfl, rfl⟩)
      go_roundg (gk - 1)
      case measure => omega
      case rel => exact ⟨j + 1, by go_num, by omega, HJ', rfl⟩
set_option maxRecDepth 100000 in
set_option maxHeartbeats 1000000 in
theorem ref_Print (n : Int) (h0 : -9223372036854775808 ≤ n) (h1 : n ≤ 9223372036854775807) (w : World) (hL : LayS w) :
    Calls Tryz.prog 20 #[.int .i64 n] w fun e w' => e = .returned (.string ⟨(printP n).toArray⟩) ∧ Below w.heap.size w w' := by
  by_cases hz : n = 0
  · subst hz
    have HR : Hid (printP 0 = [48, 115]) := Lib.hid rfl
    go_enter Tryz.func20, Tryz.ntmps20
    go_wp2
    go_ret
    exact ⟨by rw [HR.out]; rfl, Below.refl _ _⟩
  by_cases hm : n = -9223372036854775808
  · subst hm
    have HR : Hid (⟨(printP (-9223372036854775808)).toArray⟩ = (⟨#[45, 57, 50, 50, 51, 51, 55, 50, 48, 51, 54, 56, 53, 52, 55, 55, 53, 56, 48, 55, 110, 115]⟩ : ByteArray)) := Lib.hid (by
      have : printP (-9223372036854775808) = [45, 57, 50, 50, 51, 51, 55, 50, 48, 51, 54, 56, 53, 52, 55, 55, 53, 56, 48, 55, 110, 115] := by
        show leastL = _
        unfold leastL
        simp [Lib.decDigits]
      rw [this])
    go_enter Tryz.func20, Tryz.ntmps20
    go_wp2
    go_ret
    exact ⟨by rw [HR.out]; rfl, Below.refl _ _⟩
  by_cases hn : 0 < n
  · exact ref_Print_pos n hn h1 w hL
  · have hz' : (n == 0) = false := by simpa using hz
    have hm' : (n == -9223372036854775808) = false := by simpa using hm
    have hl : decide (n < 0) = true := by simp; omega
    have hw : wrap64 (-n) = -n := by unfold wrap64; omega
    have C := fun W hW => ref_Print_pos (-n) (by omega) (by omega) W hW
    have HR : Hid (printP n = 45 :: printP (-n)) := Lib.hid (by rw [print_pos (n := -n) (by omega)]; unfold printP; rw [if_neg hz, if_neg hm, if_pos (by omega)])
    have hsz : (printP (-n)).length ≤ 100 := by
      rw [print_pos (by omega)]
      unfold printU
      rw [List.length_append]
      have e1 := unitN_len (uOf (-n).toNat)
      have e0 := Nat.div_le_self (-n).toNat (unitV (uOf (-n).toNat))
      generalize (-n).toNat / unitV (uOf (-n).toNat) = q at *
      have e2 := itoa_size (q : Int) (by omega) (by omega)
      have e3 := itoa_nat (q : Int) (by omega)
      have e4 : (Lib.decDigits q).length ≤ 21 := by
        have : (itoa (q : Int)).data.toList.length ≤ 21 := e2
        rw [e3] at this
        exact this
      omega
    have HS : (⟨(printP (-n)).toArray⟩ : ByteArray).size ≤ 100 := by simpa [ByteArray.size] using hsz
    have HE : Hid ((⟨#[45]⟩ : ByteArray) ++ ⟨(printP (-n)).toArray⟩ = ⟨(printP n).toArray⟩) := Lib.hid (by apply bytes_ext; rw [data_app, HR.out]; rfl)
    generalize (⟨(printP (-n)).toArray⟩ : ByteArray) = R at *
    clear hz hm hsz HR
    go_enter Tryz.func20, Tryz.ntmps20
    go_wp2_with (go_at_call 20; refine (C _ hL).mono ?_; rintro e w1 ⟨rfl, hB⟩)
    go_ret
    exact ⟨by rw [← HE.out]; rfl, hB⟩
end Go.Proofs.YthplpjcadjnfiaaGreatDoor
