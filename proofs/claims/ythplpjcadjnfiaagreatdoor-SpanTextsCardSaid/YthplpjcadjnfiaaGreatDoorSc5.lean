/- The document's answer: Text. -/
import Derived.Test.YthplpjcadjnfiaaGreatDoorSc3
import Derived.Test.YthplpjcadjnfiaaGreatDoorSw24
import Derived.Deep.DeepCutAuto
import Derived.Deep.CutBlock
namespace Go.Proofs.YthplpjcadjnfiaaGreatDoor
open Go.RowKit
set_option linter.unusedSimpArgs false
set_option linter.unusedVariables false

theorem ref_twoB (v : Int) (n : Nat) (h0 : 0 ≤ v) (h1 : v.toNat < 10 ^ n) (hn : 0 < n) (hn9 : n ≤ 9) (w : World) (hL : LayS w) :
    Calls Tryz.prog 81 #[.int .i64 v, .int .i64 (n : Int)] w fun e w' => e = .returned (.string (padB n v)) ∧ Below w.heap.size w w' := ref_two v n h0 h1 hn hn9 w hL
def zB (T : List UInt8) (j : Nat) : ByteArray := ⟨(T ++ List.replicate j 48).toArray⟩
theorem zB_size (T : List UInt8) (j : Nat) : (zB T j).size = T.length + j := by show (T ++ List.replicate j 48).toArray.size = _; simp
theorem zB_get (T : List UInt8) (j i : Nat) (h : i < (zB T j).size) : (zB T j)[i]'h = (T ++ List.replicate j 48)[i]'(by rw [zB_size] at h; simpa using h) := rfl
theorem zB_cut (T : List UInt8) (j : Nat) : (zB T (j + 1)).extract 0 (T.length + j) = zB T j := by
  apply bytes_ext
  simp only [zB, ByteArray.data_extract, Array.toList_extract, List.extract_eq_take_drop, List.drop_zero, Nat.sub_zero]
  rw [List.replicate_succ', ← List.append_assoc]
  rw [List.take_left' (by simp)]
theorem trimZ_last (l : List UInt8) (h : trimZ l ≠ []) : (trimZ l).getLast h ≠ 48 := by
  refine rev_ind (P := fun l => ∀ h : trimZ l ≠ [], (trimZ l).getLast h ≠ 48) (fun h => absurd trimZ_nil h) ?_ l h
  intro l c ih h
  have e := trimZ_snoc l c
  by_cases hc : c = 48
  · rw [if_pos hc] at e
    have : trimZ l ≠ [] := by rw [← e]; exact h
    simp only [e]
    exact ih this
  · rw [if_neg hc] at e
    simp only [e]
    simpa using hc
set_option maxRecDepth 100000 in
set_option maxHeartbeats 2000000 in
theorem ref_Text (t : Int) (t0 : -9223372036854775808 ≤ t) (t1 : t ≤ 9223372036854775807) (w : World) (hL : LayS w) :
    Calls Tryz.prog 24 #[.int .i64 t] w fun e w' => e = .returned (.string ⟨(textL t).toArray⟩) ∧ Below w.heap.size w w' := by
  have st := Sq.start hL
  obtain ⟨S, hS⟩ : ∃ S, S = t / 1000000000 := ⟨_, rfl⟩
  obtain ⟨N, hN⟩ : ∃ N, N = t % 1000000000 := ⟨_, rfl⟩
  obtain ⟨D, hD⟩ : ∃ D, D = S / 86400 := ⟨_, rfl⟩
  obtain ⟨R, hR⟩ : ∃ R, R = S % 86400 := ⟨_, rfl⟩
  have C1 := fun W => ref_Div t 1000000000 t0 t1 (by omega) (by omega) W
  have C2 := fun W => ref_Mod t 1000000000 t0 t1 (by omega) (by omega) W
  have C3 := fun W => ref_Div S 86400 (by omega) (by omega) (by omega) (by omega) W
  have C4 := fun W => ref_Mod S 86400 (by omega) (by omega) (by omega) (by omega) W
  have C5 := fun W => ref_Date D (by omega) (by omega) W
  unfold badZV at C1 C2 C3 C4
  obtain ⟨hv, _⟩ := dateP_yes (n := D) ⟨by omega, by omega⟩
  have HT : Hid (textL t = padL 4 (dateP D).1.toNat ++ 45 :: (padL 2 (dateP D).2.1.toNat ++ 45 :: (padL 2 (dateP D).2.2.toNat ++ 84 :: (padL 2 (R / 3600).toNat ++ 58 :: (padL 2 (R / 60 % 60).toNat ++ 58 :: (padL 2 (R % 60).toNat ++ (fracL N ++ [90]))))))) := Lib.hid (by rw [hR, hD, hS, hN]; rfl)
  rw [← hS] at C1
  rw [← hN] at C2
  rw [← hD] at C3
  rw [← hR] at C4
  generalize (dateP D).1 = y at *
  generalize (dateP D).2.1 = m at *
  generalize (dateP D).2.2 = d at *
  obtain ⟨y0, y1, m0, m1, d0, d1⟩ := validD_iff.1 hv
  have d2 := daysM_bd y m
  have r0 : 0 ≤ R := by omega
  have r1 : R < 86400 := by omega
  have n0 : 0 ≤ N := by omega
  have n1 : N < 1000000000 := by omega
  clear hS hN hD hR hv
  have T0 := fun W hW => ref_twoB y 4 y0 (by omega) (by omega) (by omega) W hW
  have T1 := fun W hW => ref_twoB m 2 (by omega) (by omega) (by omega) (by omega) W hW
  have T2 := fun W hW => ref_twoB d 2 (by omega) (by omega) (by omega) (by omega) W hW
  have T3 := fun W hW => ref_twoB (R / 3600) 2 (by omega) (by omega) (by omega) (by omega) W hW
  have T4 := fun W hW => ref_twoB (R / 60 % 60) 2 (by omega) (by omega) (by omega) (by omega) W hW
  have T5 := fun W hW => ref_twoB (R % 60) 2 (by omega) (by omega) (by omega) (by omega) W hW
  have T9 := fun W hW => ref_twoB N 9 n0 (by omega) (by omega) (by omega) W hW
  have z1 := padB_size 4 y
  have z2 := padB_size 2 m
  have z3 := padB_size 2 d
  have z4 := padB_size 2 (R / 3600)
  have z5 := padB_size 2 (R / 60 % 60)
  have z6 := padB_size 2 (R % 60)
  have HG : Hid (∀ F : List UInt8, F = fracL N → (((((((((((padB 4 y ++ ⟨#[45]⟩) ++ padB 2 m) ++ ⟨#[45]⟩) ++ padB 2 d) ++ ⟨#[84]⟩) ++ padB 2 (R / 3600)) ++ ⟨#[58]⟩) ++ padB 2 (R / 60 % 60)) ++ ⟨#[58]⟩) ++ padB 2 (R % 60)) ++ (⟨F.toArray⟩ ++ ⟨#[90]⟩) : ByteArray) = ⟨(textL t).toArray⟩) := Lib.hid (fun F hF => by
    apply bytes_ext
    rw [HT.out, ← hF]
    simp [padB])
  generalize padB 4 y = B1 at *
  generalize padB 2 m = B2 at *
  generalize padB 2 d = B3 at *
  generalize padB 2 (R / 3600) = B4 at *
  generalize padB 2 (R / 60 % 60) = B5 at *
  generalize padB 2 (R % 60) = B6 at *
  have C1 := Lib.hid C1
  have C2 := Lib.hid C2
  have C3 := Lib.hid C3
  have C4 := Lib.hid C4
  have C5 := Lib.hid C5
  have T0 := Lib.hid T0
  have T1 := Lib.hid T1
  have T2 := Lib.hid T2
  have T3 := Lib.hid T3
  have T4 := Lib.hid T4
  have T5 := Lib.hid T5
  have T9 := Lib.hid T9
  clear HT m0 m1 d0 d1 d2 y0 y1
  go_enter Tryz.func24, Tryz.ntmps24
  go_wp2_with fail
  refine (C1.out _).mono ?_
  rintro e w' ⟨rfl, hB⟩
  replace st := (st.next hB).alloc (.cells #[.int .i64 0, .int .i64 0, .int .i64 0, .bool false, .bool false] 29 (0, 0))
  clear hB C1
  go_wp2_with fail
  refine (C2.out _).mono ?_
  rintro e w' ⟨rfl, hB⟩
  replace st := (st.next hB).alloc (.cells #[.int .i64 0, .int .i64 0, .int .i64 0, .bool false, .bool false] 29 (0, 0))
  clear hB C2
  go_wp2_with fail
  refine (C3.out _).mono ?_
  rintro e w' ⟨rfl, hB⟩
  replace st := (st.next hB).alloc (.cells #[.int .i64 0, .int .i64 0, .int .i64 0, .bool false, .bool false] 29 (0, 0))
  clear hB C3
  go_wp2_with fail
  refine (C4.out _).mono ?_
  rintro e w' ⟨rfl, hB⟩
  replace st := (st.next hB).alloc (.cells #[.int .i64 0, .int .i64 0, .int .i64 0, .bool false, .bool false] 29 (0, 0))
  clear hB C4
  go_upto_region 5 with (fail)
  generalize w'.alloc _ = W at *
  go_wp2_with fail
  refine (C5.out _).mono ?_
  rintro e w' ⟨rfl, rfl⟩
  clear C5
  go_wp2_with fail
  refine (T0.out _ st.L).mono ?_
  rintro e w' ⟨rfl, hB⟩
  replace st := st.next hB
  clear hB T0
  go_wp2_with fail
  refine (T1.out _ st.L).mono ?_
  rintro e w' ⟨rfl, hB⟩
  replace st := st.next hB
  clear hB T1
  go_wp2_with fail
  refine (T2.out _ st.L).mono ?_
  rintro e w' ⟨rfl, hB⟩
  replace st := st.next hB
  clear hB T2
  go_wp2_with fail
  refine (T3.out _ st.L).mono ?_
  rintro e w' ⟨rfl, hB⟩
  replace st := st.next hB
  clear hB T3
  go_wp2_with fail
  refine (T4.out _ st.L).mono ?_
  rintro e w' ⟨rfl, hB⟩
  replace st := st.next hB
  clear hB T4
  go_wp2_with fail
  refine (T5.out _ st.L).mono ?_
  rintro e w' ⟨rfl, hB⟩
  replace st := st.next hB
  clear hB T5
  have hX : ((((((((((B1 ++ ⟨#[45]⟩) ++ B2) ++ ⟨#[45]⟩) ++ B3) ++ ⟨#[84]⟩) ++ B4) ++ ⟨#[58]⟩) ++ B5) ++ ⟨#[58]⟩) ++ B6).size ≤ 19 := by
    have e1 : (⟨#[45]⟩ : ByteArray).size = 1 := rfl
    have e2 : (⟨#[84]⟩ : ByteArray).size = 1 := rfl
    have e3 : (⟨#[58]⟩ : ByteArray).size = 1 := rfl
    simp only [ByteArray.size_append, e1, e2, e3, z1, z2, z3, z4, z5, z6]
    omega
  go_upto_region 7 with (fail)
  generalize ((((((((((B1 ++ ⟨#[45]⟩) ++ B2) ++ ⟨#[45]⟩) ++ B3) ++ ⟨#[84]⟩) ++ B4) ++ ⟨#[58]⟩) ++ B5) ++ ⟨#[58]⟩) ++ B6) = X at *
  have HB := Lib.hid st.B
  have hLs := st.L
  clear z1 z2 z3 z4 z5 z6
  by_cases hn : 0 < N
  · have kn : decide (0 < N) = true := by simpa using hn
    obtain ⟨j0, hj0, hjl⟩ := trimZ_back (padL 9 N.toNat)
    rw [padL_len] at hjl
    have hne : trimZ (padL 9 N.toNat) ≠ [] := by
      apply trimZ_ne
      refine Decidable.byContradiction fun hno => ?_
      have hall : ∀ c ∈ padL 9 N.toNat, c = 48 := fun c hc => Decidable.byContradiction fun e => hno ⟨c, hc, e⟩
      have e : padL 9 N.toNat = List.replicate 9 48 := List.eq_replicate_iff.2 ⟨padL_len _ _, hall⟩
      have e2 := padL_decN 9 N.toNat (by omega)
      rw [e] at e2
      have : decN (List.replicate 9 48) = 0 := by decide
      omega
    have hlast := trimZ_last _ hne
    have hpB : padB 9 N = zB (trimZ (padL 9 N.toNat)) j0 := by
      apply bytes_ext
      show (padL 9 N.toNat) = (zB (trimZ (padL 9 N.toNat)) j0).data.toList
      simp only [zB]
      exact hj0
    have hF : Hid (X ++ (⟨#[46]⟩ ++ zB (trimZ (padL 9 N.toNat)) 0) ++ ⟨#[90]⟩ = (⟨(textL t).toArray⟩ : ByteArray)) := Lib.hid (by
      rw [← HG.out (fracL N) rfl]
      apply bytes_ext
      have e : fracL N = 46 :: trimZ (padL 9 N.toNat) := by unfold fracL; rw [if_pos hn]
      rw [e]
      simp [zB])
    generalize trimZ (padL 9 N.toNat) = T at *
    have hTl := List.length_pos_iff.2 hne
    have HLast : Hid (∀ h : T.length - 1 < (zB T 0).size, (zB T 0)[T.length - 1]'h ≠ 48) := Lib.hid (fun h => by
      rw [zB_get]
      have : (T ++ List.replicate 0 48) = T := by simp
      simp only [this]
      rw [List.getLast_eq_getElem] at hlast
      exact hlast)
    have HZero : Hid (∀ j (h : T.length + j < (zB T (j + 1)).size), (zB T (j + 1))[T.length + j]'h = 48) := Lib.hid (fun j h => by
      rw [zB_get, List.getElem_append_right (by omega)]
      simp)
    have T9 := T9.out
    rw [hpB] at T9
    have T9 := Lib.hid T9
    clear HG hj0 hlast hpB hne hn
    go_wp2_with fail
    refine (T9.out _ hLs).mono ?_
    rintro e w9 ⟨rfl, hB⟩
    have HB9 := Lib.hid (HB.out.trans (hB.mono HB.out.size))
    clear hB st T9 HB
    go_wp2_with fail
    go_loopg [15] j0 (fun j v15 wr => v15 = .string (zB T j) ∧ j ≤ j0 ∧ w9 = wr)
    case atStart => exact ⟨rfl, Nat.le_refl _, rfl⟩
    case round =>
      obtain ⟨rfl, hj, rfl⟩ := hrel
      have hz := zB_size T gk
      have hto : (((zB T gk).size : Int) - 1).toNat = (zB T gk).size - 1 := by omega
      have hpos : 0 < (zB T gk).size := by omega
      cases gk with
      | zero =>
        have h0 := HLast.out (by rw [zB_size]; omega)
        have hl : (((zB T 0)[(zB T 0).size - 1]'(Nat.sub_lt hpos Nat.one_pos)).toNat : Int) ≠ 48 := by
          intro e
          apply h0
          apply UInt8.toNat_inj.1
          have e2 : (zB T 0).size - 1 = T.length - 1 := by omega
          simp only [e2] at e
          show _ = 48
          omega
        have hs9 : (zB T 0).size ≤ 9 := by omega
        have kq : ((((zB T 0)[(zB T 0).size - 1]'(Nat.sub_lt hpos Nat.one_pos)).toNat : Int) == 48) = false := by simpa using hl
        clear hl h0 HLast HZero hz
        generalize zB T 0 = Z at *
        go_wp2_with fail
        go_ret
        exact ⟨by rw [← hF.out]; rfl, HB9.out⟩
      | succ j =>
        have h0 := HZero.out j (by rw [zB_size]; omega)
        have e2 : (zB T (j + 1)).size - 1 = T.length + j := by omega
        have kq : ((((zB T (j + 1))[(zB T (j + 1)).size - 1]'(Nat.sub_lt hpos Nat.one_pos)).toNat : Int) == 48) = true := by
          simp only [e2, h0]; rfl
        have hcut := zB_cut T j
        rw [← e2] at hcut
        have hsl : ∀ W, (Instr.slice 9 (.string (zB T (j + 1))) none (some (.int .i64 (((zB T (j + 1)).size : Int) - 1))) none).run Tryz.prog W = .ok (.string (zB T j)) W := fun W => by
          rw [run_slice_string_h W 9 _ Tryz.underlying9 .i64 _ (by omega) (by omega), hto, hcut]
        have hs9 : (zB T (j + 1)).size ≤ 9 := by omega
        clear h0 hcut hz e2 HLast HZero
        generalize zB T (j + 1) = Z at *
        go_wp2_with fail
        go_roundg j
        case measure => omega
        case rel => exact ⟨rfl, by omega, rfl⟩
  · have kn : decide (0 < N) = false := by simpa using hn
    have hF : Hid (X ++ ⟨#[90]⟩ = (⟨(textL t).toArray⟩ : ByteArray)) := Lib.hid (by
      rw [← HG.out (fracL N) rfl]
      apply bytes_ext
      have e : fracL N = [] := by unfold fracL; rw [if_neg hn]
      rw [e]
      simp)
    clear HG
    go_wp2
    go_ret
    exact ⟨by rw [← hF.out]; rfl, HB.out⟩
end Go.Proofs.YthplpjcadjnfiaaGreatDoor
