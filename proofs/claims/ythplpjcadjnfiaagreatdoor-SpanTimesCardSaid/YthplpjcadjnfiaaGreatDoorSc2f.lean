/- The document's clock: fraction. -/
import Derived.Test.YthplpjcadjnfiaaGreatDoorSc2
import Derived.Deep.DeepCutAuto
import Derived.Deep.CutBlock
namespace Go.Proofs.YthplpjcadjnfiaaGreatDoor
open Go.RowKit
set_option linter.unusedSimpArgs false
set_option linter.unusedVariables false

theorem take_min {l : List UInt8} {k : Nat} (h : k < 9) : l.take (min k 9) = l.take k := by rw [Nat.min_eq_left (by omega)]
theorem pow_le9 {V D j : Nat} (hV : V < 10 ^ D) (h : D + j ≤ 9) : V * 10 ^ j ≤ 999999999 ∧ (D + j ≤ 8 → V * 10 ^ j ≤ 99999999) := by
  have h1 : V * 10 ^ j < 10 ^ D * 10 ^ j := Nat.mul_lt_mul_of_pos_right hV (Nat.pow_pos (by omega))
  rw [← Nat.pow_add] at h1
  have h2 : 10 ^ (D + j) ≤ 10 ^ 9 := Nat.pow_le_pow_right (by omega) h
  refine ⟨by omega, fun h8 => ?_⟩
  have h3 : 10 ^ (D + j) ≤ 10 ^ 8 := Nat.pow_le_pow_right (by omega) h8
  omega
set_option maxRecDepth 100000 in
set_option maxHeartbeats 2000000 in
theorem ck_fraction (c : Nat) (s : ByteArray) (st : CSt) (ha : st.1 ≤ s.size) (hs : s.size ≤ 140737488355328) (w : World) (h : CkAt c s st w) :
    Calls Tryz.prog 69 #[.pointer (some ⟨c, 0, none⟩)] w (CkPost c s (.int .i64) w (fracC s.data.toList st)) := by
  obtain ⟨a, b⟩ := st
  replace ha : a ≤ s.size := ha
  have h' := h
  unfold CkAt at h'
  cases b with
  | some p =>
    rw [fracC_bad]
    simp only [kC, kB, kP] at h'
    have k2 := blk_cell' h' 2
    go_enter Tryz.func69, Tryz.ntmps69
    go_wp2_with fail
    go_quiet (fail)
    go_wp2_with fail
    go_ret
    exact ⟨rfl, h.drewN _, grown_of_below (below_drewN (Below.refl _ _) _) (Nat.le_refl _) _⟩
  | none =>
    simp only [kC, kB, kP] at h'
    have k0 := blk_cell' h' 0
    have k1 := blk_cell' h' 1
    have k2 := blk_cell' h' 2
    by_cases hi : a < s.size
    case neg =>
      have kl : decide ((s.size : Int) ≤ (a : Int)) = true := by simp; omega
      have kl2 : s.size ≤ a := by omega
      have hR : fracC s.data.toList (a, none) = (0, (a, none)) := by
        have : fracS s.data.toList a = some (0, a) := by unfold fracS; rw [if_neg (by rw [sig_end hi]; decide)]
        simp [fracC, this]
      rw [hR]
      clear hi h' hR
      go_enter Tryz.func69, Tryz.ntmps69
      go_wp2_with fail
      go_quiet (fail)
      go_wp2_with fail
      go_ret
      exact ⟨rfl, h.drewN _, grown_of_below (below_drewN (Below.refl _ _) _) (Nat.le_refl _) _⟩
    have g46 := sig_get hi 46
    have kl : decide ((s.size : Int) ≤ (a : Int)) = false := by simp; omega
    have kl2 : ¬ s.size ≤ a := by omega
    by_cases h46 : sigS s.data.toList a 46 = true
    case neg =>
      have hR : fracC s.data.toList (a, none) = (0, (a, none)) := by
        have : fracS s.data.toList a = some (0, a) := by unfold fracS; rw [if_neg h46]
        simp [fracC, this]
      rw [hR]
      have n46 : (((s[a]'hi).toNat : Int) == 46) = false := by rw [Bool.not_eq_true] at h46; rw [h46] at g46; exact g46.symm
      have n46x : (((s[a]'hi).toNat : Int) != 46) = true := by rw [bne, n46]; rfl
      clear h' hR g46 h46
      go_enter Tryz.func69, Tryz.ntmps69
      go_wp2_with fail
      go_quiet (fail)
      go_wp2_with fail
      go_ret
      exact ⟨rfl, h.drewN _, grown_of_below (below_drewN (Below.refl _ _) _) (Nat.le_refl _) _⟩
    have n46 : (((s[a]'hi).toNat : Int) == 46) = true := by rw [h46] at g46; exact g46.symm
    have n46x : (((s[a]'hi).toNat : Int) != 46) = false := by rw [bne, n46]; rfl
    have hDl := runD_le (s.data.toList.drop (a + 1))
    rw [List.length_drop, show s.data.toList.length = s.size from rfl] at hDl
    obtain ⟨D, hD⟩ : ∃ D, D = runD (s.data.toList.drop (a + 1)) := ⟨_, rfl⟩
    have hR : fracC s.data.toList (a, none) = if 1 ≤ D ∧ D ≤ 9 then (((decN ((s.data.toList.drop (a + 1)).take D) * 10 ^ (9 - D) : Nat) : Int), (a + 1 + D, none)) else (0, (a, some a)) := by
      have : fracS s.data.toList a = if 1 ≤ D ∧ D ≤ 9 then some (((decN ((s.data.toList.drop (a + 1)).take D) * 10 ^ (9 - D) : Nat) : Int), a + 1 + D) else none := by unfold fracS; rw [if_pos h46, hD]
      unfold fracC
      simp only [this]
      by_cases hq : 1 ≤ D ∧ D ≤ 9
      · rw [if_pos hq, if_pos hq]
      · rw [if_neg hq, if_neg hq]
    generalize fracC s.data.toList (a, none) = R at *
    have HR := Lib.hid hR
    have HD := Lib.hid hD
    rw [← hD] at hDl
    have hg0 := gr_refl w (some c)
    have CW := Lib.hid (fun W hW => ck_wrong c s a ha W hW)
    clear h' hR g46 h46 hD
    go_enter Tryz.func69, Tryz.ntmps69
    go_wp2_with fail
    go_quiet (fail)
    go_upto_block 0 with (fail)
    clear k0 k1 k2
    go_cut [3, 4] (fun v3 v4 wc => v3 = .int .i64 (D : Int) ∧ v4 = .int .i64 (decN ((s.data.toList.drop (a + 1)).take (min D 9)) : Int) ∧ CkAt c s (a, none) wc ∧ w.grownBy wc (some c))
    case first =>
      clear CW HR
      go_wp2_with fail
      go_loopg [3, 4] (s.size - a) (fun m v3 v4 wr => ∃ k : Nat, v3 = .int .i64 (k : Int) ∧ v4 = .int .i64 (decN ((s.data.toList.drop (a + 1)).take (min k 9)) : Int) ∧ k + m = s.size - a ∧ k ≤ D ∧ CkAt c s (a, none) wr ∧ w.grownBy wr (some c))
      case atStart => exact ⟨0, rfl, rfl, by omega, by omega, h.drewN _, grown_of_below (below_drewN (Below.refl _ _) _) (Nat.le_refl _) _⟩
      case round =>
        clear h hg0
        obtain ⟨k, rfl, rfl, hk, hkD, h, hg⟩ := hrel
        have h' := h
        unfold CkAt at h'
        simp only [kC, kB, kP] at h'
        have k0 := blk_cell' h' 0
        have k1 := blk_cell' h' 1
        have hv := dec_bd (s.data.toList.drop (a + 1)) (min k 9) (by rw [← HD.out]; omega) (by omega)
        have e1 : IntKind.i64.wrap ((a : Int) + 1) = (a : Int) + 1 := by rw [IntKind.wrap_i64]; omega
        have e2 : IntKind.i64.wrap ((a : Int) + 1 + (k : Int)) = (a : Int) + 1 + (k : Int) := by rw [IntKind.wrap_i64]; omega
        by_cases hlt : a + 1 + k < s.size
        · have kk : decide ((a : Int) + 1 + (k : Int) < (s.size : Int)) = true := by rw [decide_eq_true_iff]; omega
          have hge : (s.data.toList.drop (a + 1))[k]? = some (s[a + 1 + k]'hlt) := by rw [List.getElem?_drop]; exact List.getElem?_eq_getElem (show a + 1 + k < s.data.toList.length from hlt)
          have e3 : ((a : Int) + 1 + (k : Int)).toNat = a + 1 + k := by omega
          have CD : ∀ W, Calls Tryz.prog 84 #[.int .u8 ((s[a + 1 + k]'hlt).toNat : Int)] W fun e w' => e = .returned (.bool (isD (s[a + 1 + k]'hlt))) ∧ w' = W := fun W => (ref_digit (s[a + 1 + k]'hlt) W).mono fun _ _ h => ⟨h.1, h.2.symm⟩
          cases hd : isD (s[a + 1 + k]'hlt) with
          | true =>
            have hd2 := isD_iff.1 hd
            rw [hd] at CD
            have hkr2 : k + 1 ≤ D := by
              rcases Nat.lt_or_ge k D with h | h
              · exact h
              · exfalso
                have hkk : runD (s.data.toList.drop (a + 1)) = k := by rw [← HD.out]; omega
                have hlen : runD (s.data.toList.drop (a + 1)) < (s.data.toList.drop (a + 1)).length := by rw [hkk, List.length_drop, show s.data.toList.length = s.size from rfl]; omega
                have := runD_next (s.data.toList.drop (a + 1)) hlen
                have e2 : (s.data.toList.drop (a + 1))[runD (s.data.toList.drop (a + 1))]? = some (s[a + 1 + k]'hlt) := by rw [hkk]; exact hge
                rw [List.getElem?_eq_getElem hlen] at e2
                rw [Option.some.inj e2, hd] at this
                cases this
            by_cases h9 : k < 9
            · have k9 : decide ((k : Int) < 9) = true := by rw [decide_eq_true_iff]; omega
              have hsn : decN ((s.data.toList.drop (a + 1)).take (min (k + 1) 9)) = 10 * decN ((s.data.toList.drop (a + 1)).take (min k 9)) + ((s[a + 1 + k]'hlt).toNat - 48) := by
                have : (s.data.toList.drop (a + 1)).take (k + 1) = (s.data.toList.drop (a + 1)).take k ++ [s[a + 1 + k]'hlt] := by
                  rw [List.take_add_one, hge]; rfl
                rw [Nat.min_eq_left (show k + 1 ≤ 9 by omega), Nat.min_eq_left (show k ≤ 9 by omega), this]
                exact decF_snoc 0 _ _
              have hv8 := dec_bd8 (s.data.toList.drop (a + 1)) (min k 9) (by rw [← HD.out]; omega) (by omega)
              obtain ⟨ch, hc⟩ : ∃ ch : Nat, (s[a + 1 + k]'hlt).toNat = ch + 48 := ⟨(s[a + 1 + k]'hlt).toNat - 48, by omega⟩
              have hc9 : ch ≤ 9 := by omega
              rw [hc] at CD hsn
              generalize decN ((s.data.toList.drop (a + 1)).take (min k 9)) = V at *
              have HSN := Lib.hid hsn
              have e4 : IntKind.u8.wrap (((ch + 48 : Nat) : Int) - 48) = (ch : Int) := by rw [IntKind.wrap_u8]; omega
              have e5 : IntKind.i64.wrap (10 * (V : Int)) = 10 * (V : Int) := by rw [IntKind.wrap_i64]; omega
              have e6 : IntKind.i64.wrap (10 * (V : Int) + (ch : Int)) = 10 * (V : Int) + (ch : Int) := by rw [IntKind.wrap_i64]; omega
              have e7 : IntKind.i64.wrap (ch : Int) = (ch : Int) := by rw [IntKind.wrap_i64]; omega
              clear hd hd2 hsn hge h'
              go_wp2_with fail
              go_quiet ((go_at_call 84; exact Calls.quiet_of_same (CD _)))
              go_wp2_with fail
              go_quiet (fail)
              go_wp2_with fail
              go_roundg (gk - 1)
              case measure => omega
              case rel => exact ⟨k + 1, by go_num, by rw [HSN.out]; go_num, by omega, hkr2, h.drewN _, gr_trans hg (grown_of_below (below_drewN (Below.refl _ _) _) (Nat.le_refl _) _)⟩
            · have k9 : decide ((k : Int) < 9) = false := by rw [decide_eq_false_iff_not]; omega
              have HM : Hid (min (k + 1) 9 = min k 9) := Lib.hid (by omega)
              obtain ⟨V, hVV⟩ : ∃ V, V = decN ((s.data.toList.drop (a + 1)).take (min k 9)) := ⟨_, rfl⟩
              rw [← hVV] at hv ⊢
              have HV := Lib.hid hVV
              clear hVV
              obtain ⟨ch, hc⟩ : ∃ ch : Nat, (s[a + 1 + k]'hlt).toNat = ch := ⟨_, rfl⟩
              rw [hc] at CD
              clear hd hd2 hge h'
              go_wp2_with fail
              go_quiet ((go_at_call 84; exact Calls.quiet_of_same (CD _)))
              go_wp2_with fail
              go_roundg (gk - 1)
              case measure => omega
              case rel => exact ⟨k + 1, by go_num, by rw [HM.out, ← HV.out], by omega, hkr2, h.drewN _, gr_trans hg (grown_of_below (below_drewN (Below.refl _ _) _) (Nat.le_refl _) _)⟩
          | false =>
            have hkr2 : Hid (D = k) := Lib.hid (by
              rcases Nat.lt_or_ge k (runD (s.data.toList.drop (a + 1))) with h | h
              · exfalso
                obtain ⟨hk1, h2⟩ := runD_lt h
                have e2 := List.getElem?_eq_getElem hk1
                rw [hge] at e2
                rw [← Option.some.inj e2, hd] at h2
                cases h2
              · have := HD.out; omega)
            rw [hd] at CD
            obtain ⟨ch, hc⟩ : ∃ ch : Nat, (s[a + 1 + k]'hlt).toNat = ch := ⟨_, rfl⟩
            rw [hc] at CD
            clear hd hge h'
            go_wp2_with fail
            go_quiet ((go_at_call 84; exact Calls.quiet_of_same (CD _)))
            go_wp2_with fail
            go_meet
            case rel => exact ⟨by rw [hkr2.out], by rw [hkr2.out], h.drewN _, gr_trans hg (grown_of_below (below_drewN (Below.refl _ _) _) (Nat.le_refl _) _)⟩
        · have kk : decide ((a : Int) + 1 + (k : Int) < (s.size : Int)) = false := by rw [decide_eq_false_iff_not]; omega
          have hkr2 : Hid (D = k) := Lib.hid (by omega)
          clear h'
          go_wp2_with fail
          go_quiet (fail)
          go_wp2_with fail
          go_meet
          case rel => exact ⟨by rw [hkr2.out], by rw [hkr2.out], h.drewN _, gr_trans hg (grown_of_below (below_drewN (Below.refl _ _) _) (Nat.le_refl _) _)⟩
    case rest =>
      clear h hg0
      obtain ⟨rfl, rfl, h, hg⟩ := hcut
      have h' := h
      unfold CkAt at h'
      simp only [kC, kB, kP] at h'
      have k1 := blk_cell' h' 1
      have f1 := blk_free' h' 1
      clear h'
      by_cases hD : 1 ≤ D ∧ D ≤ 9
      · obtain ⟨hD1, hD9⟩ := hD
        obtain rfl : R = (((decN ((s.data.toList.drop (a + 1)).take D) * 10 ^ (9 - D) : Nat) : Int), (a + 1 + D, none)) := by rw [HR.out, if_pos ⟨hD1, hD9⟩]
        rw [Nat.min_eq_left hD9]
        have hV := decN_lt' ((s.data.toList.drop (a + 1)).take D) (fun c hc => by rw [HD.out] at hc; exact runD_take _ c hc)
        have hVl : ((s.data.toList.drop (a + 1)).take D).length ≤ D := List.length_take_le _ _
        replace hV : decN ((s.data.toList.drop (a + 1)).take D) < 10 ^ D := Nat.lt_of_lt_of_le hV (Nat.pow_le_pow_right (by omega) hVl)
        generalize decN ((s.data.toList.drop (a + 1)).take D) = V at *
        have HP := Lib.hid (fun j (h : D + j ≤ 9) => pow_le9 hV h)
        have kz : ((D : Int) == 0) = false := by simp; omega
        have k9 : decide (9 < (D : Int)) = false := by rw [decide_eq_false_iff_not]; omega
        clear HR HD CW hV hVl
        obtain ⟨W, hW⟩ : ∃ W, W = wc := ⟨_, rfl⟩
        have HW := Lib.hid hW
        clear hW
        go_wp2_with fail
        go_loopg [4, 5] (9 - D) (fun m v4 v5 wr => ∃ j : Nat, v4 = .int .i64 ((V * 10 ^ j : Nat) : Int) ∧ v5 = .int .i64 ((D : Int) + (j : Int)) ∧ D + j + m = 9 ∧ Hid (W = wr))
        case atStart => exact ⟨0, by rw [Nat.pow_zero, Nat.mul_one], by rw [show ((D : Int) + ((0 : Nat) : Int)) = D by omega], by omega, HW⟩
        case round =>
          obtain ⟨j, rfl, rfl, hj, hWr⟩ := hrel
          obtain rfl : wr = wc := by rw [← hWr.out, HW.out]
          have hp := HP.out j (by omega)
          by_cases hlt : D + j < 9
          · have kj : decide ((D : Int) + (j : Int) < 9) = true := by rw [decide_eq_true_iff]; omega
            have hp8 := hp.2 (by omega)
            have hpp : V * 10 ^ (j + 1) = 10 * (V * 10 ^ j) := by rw [Nat.pow_succ, Nat.mul_comm (10 ^ j) 10, ← Nat.mul_assoc, Nat.mul_comm V 10, Nat.mul_assoc]
            have HPP := Lib.hid hpp
            generalize V * 10 ^ j = X at *
            clear hp hpp
            go_wp2_with fail
            go_roundg (gk - 1)
            case measure => omega
            case rel => exact ⟨j + 1, by rw [HPP.out]; go_num, by go_num, by omega, HW⟩
          · obtain rfl : j = 9 - D := by omega
            have kj : decide ((D : Int) + ((9 - D : Nat) : Int) < 9) = false := by rw [decide_eq_false_iff_not]; omega
            have e1 : IntKind.i64.wrap (1 + (D : Int)) = 1 + (D : Int) := by rw [IntKind.wrap_i64]; omega
            have e2 : IntKind.i64.wrap ((a : Int) + (1 + (D : Int))) = (a : Int) + (1 + (D : Int)) := by rw [IntKind.wrap_i64]; omega
            have hfin := h.at (a + 1 + D)
            rw [show ((a + 1 + D : Nat) : Int) = (a : Int) + (1 + (D : Int)) by omega] at hfin
            go_wp2_with fail
            go_ret
            exact ⟨rfl, hfin, grown_set hg 1 _⟩
      · obtain rfl : R = (0, (a, some a)) := by rw [HR.out, if_neg hD]
        rcases (show D = 0 ∨ 9 < D by omega) with rfl | h9
        · clear HR HD hD
          go_wp2_with fail
          refine (CW.out _ h).mono ?_
          rintro e w2 ⟨rfl, h2, hg2⟩
          go_wp2
          go_ret
          exact ⟨rfl, h2, gr_trans hg hg2⟩
        · have kz : ((D : Int) == 0) = false := by simp; omega
          have k9 : decide (9 < (D : Int)) = true := by rw [decide_eq_true_iff]; omega
          clear HR HD hD
          go_wp2_with fail
          refine (CW.out _ h).mono ?_
          rintro e w2 ⟨rfl, h2, hg2⟩
          go_wp2
          go_ret
          exact ⟨rfl, h2, gr_trans hg hg2⟩
end Go.Proofs.YthplpjcadjnfiaaGreatDoor
