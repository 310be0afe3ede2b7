/- A time as a text: span.two, span.Text. -/
import Derived.Test.YthplpjcadjnfiaaGreatDoorSw14
import Derived.Test.YthplpjcadjnfiaaGreatDoorSw6
import Derived.Test.YthplpjcadjnfiaaGreatDoorTimeL
import Derived.Deep.RegionHeld3
namespace Go.Proofs.YthplpjcadjnfiaaGreatDoor
open Go.RowKit
set_option linter.unusedSimpArgs false
set_option linter.unusedVariables false

/-- A number in so many digits, as bytes. -/
def padB (k : Nat) (n : Int) : ByteArray := ⟨(padL k n.toNat).toArray⟩
theorem padB_size (k : Nat) (n : Int) : (padB k n).size = k := by
  have : (padB k n).data.toList.length = k := padL_len k n.toNat
  exact this
/-- 1000 and a number, without the first digit. -/
theorem pad_cut (k : Nat) (n : Int) (K : Int) (hK : K = ((10 ^ k : Nat) : Int)) (h0 : 0 ≤ n) (h1 : n < K) : (itoa (K + n)).extract 1 (itoa (K + n)).size = padB k n := by
  apply bytes_ext
  rw [ext_drop, itoa_nat _ (by omega)]
  have e : (K + n).toNat = 10 ^ k + n.toNat := by omega
  rw [e, dec_pad k n.toNat (by omega)]
  rfl
set_option maxRecDepth 100000 in
set_option maxHeartbeats 1000000 in
theorem span_two (n : Int) (h0 : 0 ≤ n) (h1 : n < 100) (w : World) (hL : LayS w) :
    Calls Tryz.prog 77 #[.int .i64 n] w fun e w' => e = .returned (.string (padB 2 n)) ∧ Below w.heap.size w w' := by
  have C := fun W hW => strconv_FormatInt (100 + n) (by omega) (by omega) W hW
  have hc := pad_cut 2 n 100 rfl h0 h1
  have hsz := itoa_size (100 + n) (by omega) (by omega)
  have hp : 1 ≤ (itoa (100 + n)).size := by
    have := padB_size 2 n
    rw [← hc, ByteArray.size_extract] at this
    omega
  have hsl : ∀ W, (Instr.slice 9 (.string (itoa (100 + n))) (some (.int .i64 1)) none none).run Tryz.prog W = .ok (.string (padB 2 n)) W := fun W => by
    rw [run_slice_string_l W 9 _ Tryz.underlying9 .i64 1 (by omega) (by omega), ← hc]; rfl
  generalize itoa (100 + n) = R at *
  generalize padB 2 n = Q at *
  clear hc
  go_enter Tryz.func77, Tryz.ntmps77
  go_wp2_with (go_at_call 45; refine (C _ hL.L).mono ?_; rintro e w1 ⟨rfl, hB⟩)
  go_ret
  exact ⟨rfl, hB⟩
set_option maxRecDepth 100000 in
set_option maxHeartbeats 4000000 in
theorem span_Text (t : Int) (t0 : -9223372036854775808 ≤ t) (t1 : t ≤ 9223372036854775807) (w : World) (hL : LayS w) :
    Calls Tryz.prog 23 #[.int .i64 t] w fun e w' => e = .returned (.string ⟨(textL t).toArray⟩) ∧ Below w.heap.size w w' := by
  have st := Sq.start hL
  obtain ⟨S, hS⟩ : ∃ S, S = t / 1000000000 := ⟨_, rfl⟩
  obtain ⟨N, hN⟩ : ∃ N, N = t % 1000000000 := ⟨_, rfl⟩
  obtain ⟨D, hD⟩ : ∃ D, D = S / 86400 := ⟨_, rfl⟩
  obtain ⟨R, hR⟩ : ∃ R, R = S % 86400 := ⟨_, rfl⟩
  have C1 := fun W => num_Div t 1000000000 t0 t1 (by omega) (by omega) W
  have C2 := fun W => num_Mod t 1000000000 t0 t1 (by omega) (by omega) W
  have C3 := fun W => num_Div S 86400 (by omega) (by omega) (by omega) (by omega) W
  have C4 := fun W => num_Mod S 86400 (by omega) (by omega) (by omega) (by omega) W
  have C5 := fun W => span_Date D (by omega) (by omega) W
  obtain ⟨hv, _⟩ := dateP_yes (n := D) ⟨by omega, by omega⟩
  have HT : Hid (textL t = padL 4 (dateP D).1.toNat ++ 45 :: (padL 2 (dateP D).2.1.toNat ++ 45 :: (padL 2 (dateP D).2.2.toNat ++ 84 :: (padL 2 (R / 3600).toNat ++ 58 :: (padL 2 (R / 60 % 60).toNat ++ 58 :: (padL 2 (R % 60).toNat ++ (fracL N ++ [90]))))))) := Lib.hid (by rw [hR, hD, hS, hN]; rfl)
  rw [← hS] at C1
  rw [← hN] at C2
  rw [← hD] at C3
  rw [← hR] at C4
  generalize (dateP D).1 = y at *
  generalize (dateP D).2.1 = m at *
  generalize (dateP D).2.2 = d at *
  obtain ⟨y0, y1, m0, m1, d0, d1⟩ := validD_iff.1 hv
  have d2 := daysM_bd y m
  have r0 : 0 ≤ R := by omega
  have r1 : R < 86400 := by omega
  have n0 : 0 ≤ N := by omega
  have n1 : N < 1000000000 := by omega
  clear hS hN hD hR hv
  have CI := fun W hW => strconv_Itoa (10000 + y) (by omega) (by omega) W hW
  have hc := pad_cut 4 y 10000 rfl y0 (by omega)
  have hsz := itoa_size (10000 + y) (by omega) (by omega)
  have hp : 1 ≤ (itoa (10000 + y)).size := by
    have := padB_size 4 y
    rw [← hc, ByteArray.size_extract] at this
    omega
  have hsl : ∀ W, (Instr.slice 9 (.string (itoa (10000 + y))) (some (.int .i64 1)) none none).run Tryz.prog W = .ok (.string (padB 4 y)) W := fun W => by
    rw [run_slice_string_l W 9 _ Tryz.underlying9 .i64 1 (by omega) (by omega), ← hc]; rfl
  have T1 := fun W hW => span_two m (by omega) (by omega) W hW
  have T2 := fun W hW => span_two d (by omega) (by omega) W hW
  have T3 := fun W hW => span_two (R / 3600) (by omega) (by omega) W hW
  have T4 := fun W hW => span_two (R / 60 % 60) (by omega) (by omega) W hW
  have T5 := fun W hW => span_two (R % 60) (by omega) (by omega) W hW
  have w1 : IntKind.i64.wrap (10000 + y) = 10000 + y := by rw [IntKind.wrap_i64]; omega
  have w2 : IntKind.i64.wrap (R.tdiv 3600) = R / 3600 := by rw [Int.tdiv_eq_ediv_of_nonneg r0, IntKind.wrap_i64]; omega
  have w3 : IntKind.i64.wrap (R.tdiv 60) = R / 60 := by rw [Int.tdiv_eq_ediv_of_nonneg r0, IntKind.wrap_i64]; omega
  have w4 : (R / 60).tmod 60 = R / 60 % 60 := Int.tmod_eq_emod_of_nonneg (by omega)
  have w5 : R.tmod 60 = R % 60 := Int.tmod_eq_emod_of_nonneg r0
  have z1 := padB_size 4 y
  have z2 := padB_size 2 m
  have z3 := padB_size 2 d
  have z4 := padB_size 2 (R / 3600)
  have z5 := padB_size 2 (R / 60 % 60)
  have z6 := padB_size 2 (R % 60)
  have HG : Hid (∀ F : List UInt8, F = fracL N → (((((((((((padB 4 y ++ ⟨#[45]⟩) ++ padB 2 m) ++ ⟨#[45]⟩) ++ padB 2 d) ++ ⟨#[84]⟩) ++ padB 2 (R / 3600)) ++ ⟨#[58]⟩) ++ padB 2 (R / 60 % 60)) ++ ⟨#[58]⟩) ++ padB 2 (R % 60)) ++ (⟨F.toArray⟩ ++ ⟨#[90]⟩) : ByteArray) = ⟨(textL t).toArray⟩) := Lib.hid (fun F hF => by
    apply bytes_ext
    rw [HT.out, ← hF]
    simp [padB])
  generalize padB 4 y = B1 at *
  generalize padB 2 m = B2 at *
  generalize padB 2 d = B3 at *
  generalize padB 2 (R / 3600) = B4 at *
  generalize padB 2 (R / 60 % 60) = B5 at *
  generalize padB 2 (R % 60) = B6 at *
  generalize itoa (10000 + y) = IY at *
  clear hc HT
  go_enter Tryz.func23, Tryz.ntmps23
  go_wp2_with (first | (go_at_call 74; (with_reducible refine (C1 _).mono ?_); rintro e w' ⟨rfl, rfl⟩) | (go_at_call 74; (with_reducible refine (C3 _).mono ?_); rintro e w' ⟨rfl, rfl⟩) | (go_at_call 75; (with_reducible refine (C2 _).mono ?_); rintro e w' ⟨rfl, rfl⟩) | (go_at_call 75; (with_reducible refine (C4 _).mono ?_); rintro e w' ⟨rfl, rfl⟩) | (go_at_call 27; refine (C5 _).mono ?_; rintro e w' ⟨rfl, rfl⟩))
  go_region_held3 (fun w' => True) (trivial) (first
    | (go_at_call 76; (with_reducible refine (CI _ st.drew.L.L).mono ?_); rintro ev u1 ⟨rfl, hB⟩; have s1 := st.drew.next hB)
    | (go_at_call 77; (with_reducible refine (T1 _ s1.L).mono ?_); rintro ev u2 ⟨rfl, hB⟩; have s2 := s1.next hB)
    | (go_at_call 77; (with_reducible refine (T2 _ s2.L).mono ?_); rintro ev u3 ⟨rfl, hB⟩; have s3 := s2.next hB)
    | (go_at_call 77; (with_reducible refine (T3 _ s3.L).mono ?_); rintro ev u4 ⟨rfl, hB⟩; have s4 := s3.next hB)
    | (go_at_call 77; (with_reducible refine (T4 _ s4.L).mono ?_); rintro ev u5 ⟨rfl, hB⟩; have s5 := s4.next hB)
    | (go_at_call 77; (with_reducible refine (T5 _ s5.L).mono ?_); rintro ev u6 ⟨rfl, hB⟩; have s6 := s5.next hB))
  have hX : ((((((((((B1 ++ ⟨#[45]⟩) ++ B2) ++ ⟨#[45]⟩) ++ B3) ++ ⟨#[84]⟩) ++ B4) ++ ⟨#[58]⟩) ++ B5) ++ ⟨#[58]⟩) ++ B6).size ≤ 19 := by
    have e1 : (⟨#[45]⟩ : ByteArray).size = 1 := rfl
    have e2 : (⟨#[84]⟩ : ByteArray).size = 1 := rfl
    have e3 : (⟨#[58]⟩ : ByteArray).size = 1 := rfl
    simp only [ByteArray.size_append, e1, e2, e3, z1, z2, z3, z4, z5, z6]
    omega
  generalize ((((((((((B1 ++ ⟨#[45]⟩) ++ B2) ++ ⟨#[45]⟩) ++ B3) ++ ⟨#[84]⟩) ++ B4) ++ ⟨#[58]⟩) ++ B5) ++ ⟨#[58]⟩) ++ B6) = X at *
  have HB := Lib.hid s6.B
  have hLs := s6.L
  clear z1 z2 z3 z4 z5 z6 w1 w2 w3 w4 w5 hsl
  by_cases hn : 0 < N
  · have kn : decide (0 < N) = true := by simpa using hn
    have CF := fun W hW => strconv_FormatInt (1000000000 + N) (by omega) (by omega) W hW
    have hc := pad_cut 9 N 1000000000 rfl n0 n1
    have hsz2 := itoa_size (1000000000 + N) (by omega) (by omega)
    have hp2 : 1 ≤ (itoa (1000000000 + N)).size := by
      have := padB_size 9 N
      rw [← hc, ByteArray.size_extract] at this
      omega
    have hsl2 : ∀ W, (Instr.slice 9 (.string (itoa (1000000000 + N))) (some (.int .i64 1)) none none).run Tryz.prog W = .ok (.string (padB 9 N)) W := fun W => by
      rw [run_slice_string_l W 9 _ Tryz.underlying9 .i64 1 (by omega) (by omega), ← hc]; rfl
    have CT := fun W => Tryz.strings_TrimRight_one (padB 9 N) 48 (by decide) W (by rw [padB_size]; omega)
    have hF : Hid (X ++ (⟨#[46]⟩ ++ ⟨(Lib.trimRightB (padB 9 N).data.toList 48).toArray⟩) ++ ⟨#[90]⟩ = (⟨(textL t).toArray⟩ : ByteArray)) := Lib.hid (by
      rw [← HG.out (fracL N) rfl]
      apply bytes_ext
      have e : fracL N = 46 :: Lib.trimRightB (padB 9 N).data.toList 48 := by unfold fracL; rw [if_pos hn]; rfl
      rw [e]
      simp)
    have hFs : (⟨(Lib.trimRightB (padB 9 N).data.toList 48).toArray⟩ : ByteArray).size ≤ 9 := by
      obtain ⟨k, _, hk⟩ := trimZ_back (padL 9 N.toNat)
      rw [padL_len] at hk
      have : (Lib.trimRightB (padB 9 N).data.toList 48).length ≤ 9 := by
        show (trimZ (padL 9 N.toNat)).length ≤ 9
        omega
      simpa [ByteArray.size] using this
    generalize (⟨(Lib.trimRightB (padB 9 N).data.toList 48).toArray⟩ : ByteArray) = F9 at *
    generalize padB 9 N = P9 at *
    generalize itoa (1000000000 + N) = IN at *
    clear hc HG
    go_wp2_with (first | (go_at_call 45; refine (CF _ hLs.L).mono ?_; rintro e w7 ⟨rfl, hB7⟩) | (go_at_call 78; refine (CT _).mono ?_; rintro e w8 ⟨rfl, rfl⟩))
    go_ret
    exact ⟨by rw [← hF.out]; rfl, HB.out.trans (hB7.mono HB.out.size)⟩
  · have kn : decide (0 < N) = false := by simpa using hn
    have hF : Hid (X ++ ⟨#[90]⟩ = (⟨(textL t).toArray⟩ : ByteArray)) := Lib.hid (by
      rw [← HG.out (fracL N) rfl]
      apply bytes_ext
      have e : fracL N = [] := by unfold fracL; rw [if_neg hn]
      rw [e]
      simp)
    clear HG
    go_wp2
    go_ret
    exact ⟨by rw [← hF.out]; rfl, HB.out⟩
end Go.Proofs.YthplpjcadjnfiaaGreatDoor
