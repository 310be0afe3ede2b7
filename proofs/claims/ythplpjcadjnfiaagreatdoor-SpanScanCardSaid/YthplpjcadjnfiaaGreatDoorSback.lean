/- weirlaw04.SpanBack and weirlaw04.SpanTimeBack are true. -/
import Derived.Test.YthplpjcadjnfiaaGreatDoorSlive
namespace Go.Proofs.YthplpjcadjnfiaaGreatDoor
open Go.RowKit
set_option linter.unusedSimpArgs false
set_option linter.unusedVariables false

theorem trimZ_len (l : List UInt8) : (trimZ l).length ≤ l.length := by
  unfold trimZ
  rw [List.length_reverse]
  exact Nat.le_trans (List.dropWhile_sublist _).length_le (by simp)
theorem text_len (t : Int) : (textL t).length ≤ 100 := by
  have h : (fracL (t % 1000000000)).length ≤ 10 := by
    unfold fracL
    split
    · have := trimZ_len (padL 9 (t % 1000000000).toNat)
      rw [padL_len] at this
      simp; omega
    · simp
  unfold textL
  simp only [List.length_append, List.length_cons, padL_len, List.length_nil]
  omega
theorem printU_le (n : Nat) (h : n ≤ 9223372036854775807) : (printU n).length ≤ 90 := by
  unfold printU
  rw [List.length_append]
  have e1 := unitN_len (uOf n)
  have e0 := Nat.div_le_self n (unitV (uOf n))
  generalize n / unitV (uOf n) = q at *
  have e2 := itoa_size (q : Int) (by omega) (by omega)
  have e3 := itoa_nat (q : Int) (by omega)
  have e4 : (Lib.decDigits q).length ≤ 80 := by
    have e5 : (itoa (q : Int)).data.toList.length = (itoa (q : Int)).size := rfl
    rw [e3] at e5
    simp at e5
    omega
  omega
theorem printP_le (n : Int) (h0 : -9223372036854775808 ≤ n) (h1 : n ≤ 9223372036854775807) : (printP n).length ≤ 100 := by
  unfold printP
  by_cases a : n = 0
  · rw [if_pos a]; decide
  · rw [if_neg a]
    by_cases b : n = -9223372036854775808
    · rw [if_pos b]
      have := printU_le 1 (by omega)
      simp [leastL, Lib.decDigits]
    · rw [if_neg b]
      by_cases c : n < 0
      · rw [if_pos c]
        have := printU_le (-n).toNat (by omega)
        simp; omega
      · rw [if_neg c]
        have := printU_le n.toNat (by omega)
        omega
set_option maxRecDepth 100000 in
set_option maxHeartbeats 1000000 in
theorem timeBack_true (t : Int) (w : World) (hL : LayU w) (h0 : -9223372036854775808 ≤ t) (h1 : t ≤ 9223372036854775807) :
    Calls Tryz.prog 9 #[.int .i64 t] w fun e w' => e = .returned (.bool true) ∧ Below w.heap.size w w' := by
  have st := Sq.start hL
  have C0 := fun W hW => span_live W hW
  have C1 := fun W hW => span_Text t h0 h1 W hW
  have hsz : (⟨(textL t).toArray⟩ : ByteArray).size ≤ 140737488355328 := by
    have := text_len t
    show (textL t).toArray.size ≤ _
    simp; omega
  have C2 := fun W hW => span_Time ⟨(textL t).toArray⟩ hsz W hW
  rw [time_run, show (⟨(textL t).toArray⟩ : ByteArray).data.toList = textL t by simp, time_text t h0 h1] at C2
  generalize (⟨(textL t).toArray⟩ : ByteArray) = R at *
  have C2' : ∀ W, LayS W → Calls Tryz.prog 21 #[.string R] W fun e w' => e = .returned (.tuple #[.int .i64 t, .nilIface]) ∧ Below W.heap.size W w' := C2
  clear C2 hsz
  go_enter Tryz.func9, Tryz.ntmps9
  go_wp2_with (first | (go_at_call 13; refine (C0 _ st.L).mono ?_; rintro e w1 ⟨rfl, hB⟩; have st1 := st.next hB) | (go_at_call 23; refine (C1 _ st1.L.S).mono ?_; rintro e w2 ⟨rfl, hB⟩; have st2 := st1.next hB) | (go_at_call 21; refine (C2' _ st2.L.S).mono ?_; rintro e w3 ⟨rfl, hB⟩; have st3 := st2.next hB))
  go_ret
  exact ⟨ret_b (by simp), st3.B⟩
set_option maxRecDepth 100000 in
set_option maxHeartbeats 1000000 in
theorem back_true (n : Int) (w : World) (hL : LayU w) (h0 : -9223372036854775808 ≤ n) (h1 : n ≤ 9223372036854775807) :
    Calls Tryz.prog 8 #[.int .i64 n] w fun e w' => e = .returned (.bool true) ∧ Below w.heap.size w w' := by
  have st := Sq.start hL
  have C0 := fun W hW => span_live W hW
  have C1 := fun W hW => span_Print n h0 h1 W hW
  have hsz : (⟨(printP n).toArray⟩ : ByteArray).size ≤ 140737488355328 := by
    have := printP_le n h0 h1
    show (printP n).toArray.size ≤ _
    simp; omega
  have C2 := fun W hW => span_Parse ⟨(printP n).toArray⟩ hsz W hW
  rw [show (⟨(printP n).toArray⟩ : ByteArray).data.toList = printP n by simp, parse_print n h0 h1] at C2
  generalize (⟨(printP n).toArray⟩ : ByteArray) = R at *
  have C2' : ∀ W, LayU W → Calls Tryz.prog 14 #[.string R] W fun e w' => e = .returned (.tuple #[.int .i64 (if n = -9223372036854775808 then n + 1 else n), .nilIface]) ∧ Below W.heap.size W w' := C2
  clear C2 hsz
  by_cases hn : n = -9223372036854775808
  · subst hn
    rw [if_pos rfl] at C2'
    go_enter Tryz.func8, Tryz.ntmps8
    go_wp2_with (first | (go_at_call 13; refine (C0 _ st.L).mono ?_; rintro e w1 ⟨rfl, hB⟩; have st1 := st.next hB) | (go_at_call 19; refine (C1 _ st1.L).mono ?_; rintro e w2 ⟨rfl, hB⟩; have st2 := st1.next hB) | (go_at_call 14; refine (C2' _ st2.L).mono ?_; rintro e w3 ⟨rfl, hB⟩; have st3 := st2.next hB))
    go_ret
    exact ⟨ret_b (by first | rfl | simp), st3.B⟩
  · rw [if_neg hn] at C2'
    have kk : (n == n) = true := by simp
    go_enter Tryz.func8, Tryz.ntmps8
    go_wp2_with (first | (go_at_call 13; refine (C0 _ st.L).mono ?_; rintro e w1 ⟨rfl, hB⟩; have st1 := st.next hB) | (go_at_call 19; refine (C1 _ st1.L).mono ?_; rintro e w2 ⟨rfl, hB⟩; have st2 := st1.next hB) | (go_at_call 14; refine (C2' _ st2.L).mono ?_; rintro e w3 ⟨rfl, hB⟩; have st3 := st2.next hB) | rw [kk])
    go_ret
    exact ⟨ret_b (by simp), st3.B⟩
end Go.Proofs.YthplpjcadjnfiaaGreatDoor
