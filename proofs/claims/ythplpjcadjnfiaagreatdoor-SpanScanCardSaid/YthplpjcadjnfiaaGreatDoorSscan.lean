/- weirlaw04.SpanScan: the walk's parts. -/
import Derived.Test.YthplpjcadjnfiaaGreatDoorSback
import Derived.Deep.DeepCutAuto
import Derived.Deep.CutBlock
import Derived.Deep.RegionHeld3
namespace Go.Proofs.YthplpjcadjnfiaaGreatDoor
open Go.RowKit
set_option linter.unusedSimpArgs false
set_option linter.unusedVariables false

set_option maxRecDepth 100000 in
set_option maxHeartbeats 1000000 in
theorem scan_neg (n m : Int) (b : ByteArray) (w : World) (hL : LayU w) (h : n < 0 ∨ (¬ n < 0 ∧ m < 0)) :
    Calls Tryz.prog 12 #[.int .i64 n, .int .i64 m, .string b] w fun e w' => e = .returned (.bool true) ∧ Below w.heap.size w w' := by
  have st := Sq.start hL
  have C0 := fun W hW => span_live W hW
  rcases h with h | ⟨h, h'⟩
  · have k0 : decide (n < 0) = true := by simpa using h
    go_enter Tryz.func12, Tryz.ntmps12
    go_wp2_with (first | (go_at_call 13; refine (C0 _ st.L).mono ?_; rintro e w1 ⟨rfl, hB⟩; have st1 := st.next hB))
    go_ret
    exact ⟨ret_b (by simp), st1.B⟩
  · have k0 : decide (n < 0) = false := by simpa using h
    have k1 : decide (m < 0) = true := by simpa using h'
    go_enter Tryz.func12, Tryz.ntmps12
    go_wp2_with (first | (go_at_call 13; refine (C0 _ st.L).mono ?_; rintro e w1 ⟨rfl, hB⟩; have st1 := st.next hB))
    go_ret
    exact ⟨ret_b (by simp), st1.B⟩
set_option maxRecDepth 100000 in
set_option maxHeartbeats 1000000 in
theorem scan_alnum (n m : Int) (b : ByteArray) (w : World) (hL : LayU w) (h0 : ¬ n < 0) (h1 : ¬ m < 0) (hb : 0 < b.size) (hc : alnum b[0] = true) :
    Calls Tryz.prog 12 #[.int .i64 n, .int .i64 m, .string b] w fun e w' => e = .returned (.bool true) ∧ Below w.heap.size w w' := by
  have st := Sq.start hL
  have C0 := fun W hW => span_live W hW
  have k0 : decide (n < 0) = false := by simpa using h0
  have k1 : decide (m < 0) = false := by simpa using h1
  have k2 : decide (0 < (b.size : Int)) = true := by simpa using hb
  have g0 : b[0]? = some b[0] := by simp [hb]
  go_enter Tryz.func12, Tryz.ntmps12
  go_wp2_with (first | (go_at_call 13; refine (C0 _ st.L).mono ?_; rintro e w1 ⟨rfl, hB⟩; have st1 := st.next hB) | (exfalso; simp [alnum] at hc; omega))
  all_goals first
    | (go_ret; exact ⟨ret_b (by simp), st1.B⟩)
    | (exfalso; simp [alnum] at hc; omega)
set_option maxRecDepth 100000 in
set_option maxHeartbeats 2000000 in
theorem scan_go (n m : Int) (b : ByteArray) (w : World) (hL : LayU w) (h0 : ¬ n < 0) (h1 : ¬ m < 0) (n1 : n ≤ 9223372036854775807) (m1 : m ≤ 9223372036854775807) (hs : b.size ≤ 140737488351232) (hc : ∀ h : 0 < b.size, alnum b[0] = false) :
    Calls Tryz.prog 12 #[.int .i64 n, .int .i64 m, .string b] w fun e w' => e = .returned (.bool true) ∧ Below w.heap.size w w' := by
  have st := Sq.start hL
  have C0 := fun W hW => span_live W hW
  have C1 := fun W hW => span_Print n (by omega) n1 W hW
  have l1 := printP_le n (by omega) n1
  have hR : (⟨(printP n).toArray⟩ : ByteArray).size = (printP n).length := by show (printP n).toArray.size = _; simp
  have C2 := fun W hW => span_Scan (⟨(printP n).toArray⟩ ++ b) (by rw [ByteArray.size_append, hR]; omega) W hW
  have hhd : ∀ c, b.data.toList.head? = some c → alnum c = false := by
    intro c hcc
    have e : b.data.toList[0]? = some c := by rw [← List.head?_eq_getElem?]; exact hcc
    obtain ⟨hl, e'⟩ := List.getElem?_eq_some_iff.1 e
    have := hc (by simpa using hl)
    rw [← e']
    exact this
  have hsum : ((⟨(printP n).toArray⟩ : ByteArray) ++ b).data.toList = printP n ++ b.data.toList := by simp
  rw [hsum, scanP_print n (by omega) n1 _ hhd] at C2
  obtain ⟨H, hH⟩ : ∃ H, H = m % 1000 := ⟨_, rfl⟩
  obtain ⟨Q, hQ⟩ : ∃ Q, Q = n % 1000000000 := ⟨_, rfl⟩
  have C3 := fun W hW => span_Print (H * 3600000000000) (by omega) (by omega) W hW
  have C4 := fun W hW => span_Print Q (by omega) (by omega) W hW
  have hH0 : 0 ≤ H := by omega
  have hH1 : H < 1000 := by omega
  have hQ0 : 0 ≤ Q := by omega
  have hQ1 : Q < 1000000000 := by omega
  have e1 : m.tmod 1000 = H := by rw [hH, Int.tmod_eq_emod_of_nonneg (by omega)]
  have e2 : n.tmod 1000000000 = Q := by rw [hQ, Int.tmod_eq_emod_of_nonneg (by omega)]
  have wX : IntKind.i64.wrap (H * 3600000000000) = H * 3600000000000 := by rw [IntKind.wrap_i64]; omega
  have e3 : H.tmod 24 = H % 24 := Int.tmod_eq_emod_of_nonneg hH0
  have hy3 := printP_le (H * 3600000000000) (by omega) (by omega)
  have hy4 := printP_le Q (by omega) (by omega)
  have C5 : Hid (0 < H → H % 24 ≠ 0 → 0 < Q → ∀ W, LayU W → Calls Tryz.prog 14 #[.string (⟨(printP (H * 3600000000000)).toArray⟩ ++ ⟨(printP Q).toArray⟩)] W fun e w' => e = .returned (.tuple #[.int .i64 (H * 3600000000000 + Q), .nilIface]) ∧ Below W.heap.size W w') := Lib.hid (fun a b c W hW => by
    have h := span_Parse (⟨(printP (H * 3600000000000)).toArray⟩ ++ ⟨(printP Q).toArray⟩) (by
      rw [ByteArray.size_append]
      show (printP (H * 3600000000000)).toArray.size + (printP Q).toArray.size ≤ _
      simp; omega) W hW
    rw [show ((⟨(printP (H * 3600000000000)).toArray⟩ : ByteArray) ++ ⟨(printP Q).toArray⟩).data.toList = printP (H * 3600000000000) ++ printP Q by simp, parse_two H Q a hH1 b c hQ1] at h
    exact h)
  have s3 : (⟨(printP (H * 3600000000000)).toArray⟩ : ByteArray).size ≤ 100 := by show (printP (H * 3600000000000)).toArray.size ≤ _; simpa using hy3
  have s4 : (⟨(printP Q).toArray⟩ : ByteArray).size ≤ 100 := by show (printP Q).toArray.size ≤ _; simpa using hy4
  have s1 : (⟨(printP n).toArray⟩ : ByteArray).size ≤ 100 := by rw [hR]; exact l1
  rw [← hR] at C2
  have C2' : ∀ W, LayU W → Calls Tryz.prog 17 #[.string (⟨(printP n).toArray⟩ ++ b)] W fun e w' => e = .returned (.tuple #[.int .i64 n, .int .i64 ((⟨(printP n).toArray⟩ : ByteArray).size : Int), .nilIface]) ∧ Below W.heap.size W w' := C2
  clear C2 hsum hR l1 hy3 hy4 hH hQ
  generalize (⟨(printP n).toArray⟩ : ByteArray) = P1 at *
  generalize (⟨(printP (H * 3600000000000)).toArray⟩ : ByteArray) = P3 at *
  generalize (⟨(printP Q).toArray⟩ : ByteArray) = P4 at *
  have k0 : decide (n < 0) = false := by simpa using h0
  have k1 : decide (m < 0) = false := by simpa using h1
  have hsz : ¬ 9223372036854775807 < P1.size + b.size := by omega
  have hsz2 : ¬ 9223372036854775807 < P3.size + P4.size := by omega
  have kn : (n == n) = true := by simp
  have kn2 : (n != n) = false := by simp
  have C0 := Lib.hid C0
  have C1 := Lib.hid C1
  have C2 := Lib.hid C2'
  have C3 := Lib.hid C3
  have C4 := Lib.hid C4
  clear C2' hhd
  go_enter Tryz.func12, Tryz.ntmps12
  go_wp2_with fail
  refine (C0.out _ st.L).mono ?_
  rintro e w1 ⟨rfl, hB⟩
  replace st := st.next hB
  clear hB C0
  obtain ⟨W1, hW1⟩ : ∃ W1, W1 = w1 := ⟨_, rfl⟩
  have HW1 := Lib.hid hW1
  clear hW1
  go_upto_region 3 with (fail)
  go_cut [56] (fun v56 wc => v56 = .bool false ∧ W1 = wc)
  case first =>
    clear C1 C2 C3 C4 C5 st s1 s3 s4 hsz hsz2 e1 e2 e3 wX
    by_cases hb : 0 < b.size
    · have k2 : decide ((0 : Int) < (b.size : Int)) = true := by simpa using hb
      have hq := hc hb
      obtain ⟨c, hcc⟩ : ∃ c : Nat, (b[0]'hb).toNat = c := ⟨_, rfl⟩
      have hq2 : (c < 48) ∨ (57 < c ∧ c < 65) ∨ (90 < c ∧ c < 97) ∨ 122 < c := by
        simp [alnum, hcc] at hq
        omega
      clear hq hc
      rcases hq2 with h | ⟨h, h'⟩ | ⟨h, h'⟩ | h
      all_goals
        go_wp2_with fail
        go_meet
        case rel => exact ⟨by first | rfl | (simp only [Value.bool.injEq, Bool.or_eq_false_iff, decide_eq_false_iff_not]; omega), HW1.out⟩
    · have k2 : decide ((0 : Int) < (b.size : Int)) = false := by simpa using hb
      clear hc
      go_wp2_with fail
      go_meet
      case rel => exact ⟨rfl, HW1.out⟩
  case rest =>
    clear hc
    obtain ⟨rfl, rfl⟩ := hcut
    rw [← HW1.out] at st
    go_wp2_with fail
    refine (C1.out _ st.L).mono ?_
    rintro e w2 ⟨rfl, hB⟩
    replace st := st.next hB
    clear hB C1
    go_wp2_with fail
    refine (C2.out _ st.L).mono ?_
    rintro e w3 ⟨rfl, hB⟩
    replace st := st.next hB
    clear hB C2
    go_wp2_with fail
    refine (C3.out _ st.L).mono ?_
    rintro e w4 ⟨rfl, hB⟩
    replace st := st.next hB
    clear hB C3
    go_wp2_with fail
    refine (C4.out _ st.L).mono ?_
    rintro e w5 ⟨rfl, hB⟩
    replace st := st.next hB
    clear hB C4
    by_cases z1 : H = 0
    · have q1 : (H == 0) = true := by simpa using z1
      go_wp2_with fail
      go_ret
      exact ⟨rfl, st.B⟩
    by_cases z2 : Q = 0
    · have q1 : (H == 0) = false := by simpa using z1
      have q2 : (Q == 0) = true := by simpa using z2
      go_wp2_with fail
      go_ret
      exact ⟨rfl, st.B⟩
    have q1 : (H == 0) = false := by simpa using z1
    have q2 : (Q == 0) = false := by simpa using z2
    by_cases z3 : H % 24 = 0
    · have q3 : (H % 24 == 0) = true := by simpa using z3
      go_wp2_with fail
      go_ret
      exact ⟨rfl, st.B⟩
    have q3 : (H % 24 == 0) = false := by simpa using z3
    have C6 := Lib.hid (C5.out (by omega) z3 (by omega))
    clear C5 z1 z2 z3
    go_wp2_with fail
    refine (C6.out _ st.L).mono ?_
    rintro e w6 ⟨rfl, hB⟩
    replace st := st.next hB
    clear hB C6
    go_wp2
    go_ret
    exact ⟨ret_b (by simp), st.B⟩
set_option maxRecDepth 100000 in
theorem spanScan_true (n m : Int) (b : ByteArray) (w : World) (hL : LayU w) (n1 : n ≤ 9223372036854775807) (m1 : m ≤ 9223372036854775807) (hs : b.size ≤ 140737488351232) :
    Calls Tryz.prog 12 #[.int .i64 n, .int .i64 m, .string b] w fun e w' => e = .returned (.bool true) ∧ Below w.heap.size w w' := by
  by_cases h0 : n < 0
  · exact scan_neg n m b w hL (.inl h0)
  by_cases h1 : m < 0
  · exact scan_neg n m b w hL (.inr ⟨h0, h1⟩)
  by_cases hb : 0 < b.size
  · cases hc : alnum (b[0]'hb) with
    | true => exact scan_alnum n m b w hL h0 h1 hb hc
    | false => exact scan_go n m b w hL h0 h1 n1 m1 hs (fun _ => hc)
  · exact scan_go n m b w hL h0 h1 n1 m1 hs (fun h => absurd h hb)
end Go.Proofs.YthplpjcadjnfiaaGreatDoor
