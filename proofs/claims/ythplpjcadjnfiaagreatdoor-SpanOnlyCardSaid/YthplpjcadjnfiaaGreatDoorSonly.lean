/- weirlaw04.SpanOnly is true. -/
import Derived.Test.YthplpjcadjnfiaaGreatDoorSback
namespace Go.Proofs.YthplpjcadjnfiaaGreatDoor
open Go.RowKit
set_option linter.unusedSimpArgs false
set_option linter.unusedVariables false

theorem said_ok {x t : Int} (h : saidP x = .ok t) : -9223372036854775808 ≤ t ∧ t ≤ 9223372036854775807 := by
  unfold saidP at h
  split at h <;> first
    | (cases h; done)
    | (injection h with h; omega)
theorem time_ok {l : List UInt8} {t : Int} (h : timeP l = .ok t) : -9223372036854775808 ≤ t ∧ t ≤ 9223372036854775807 := by
  unfold timeP at h
  repeat' split at h
  all_goals first
    | (cases h; done)
    | exact said_ok h
set_option maxRecDepth 100000 in
set_option maxHeartbeats 1000000 in
theorem only_err (s : ByteArray) (ev : Value) (tp : TypeId) (p : Value) (hev : ev = .iface tp p) (C2' : ∀ W, LayS W → Calls Tryz.prog 21 #[.string s] W fun e w' => e = .returned (.tuple #[.int .i64 0, ev]) ∧ Below W.heap.size W w') (w : World) (hL : LayU w) :
    Calls Tryz.prog 10 #[.string s] w fun e w' => e = .returned (.bool true) ∧ Below w.heap.size w w' := by
  have st := Sq.start hL
  subst hev
  have C0 := fun W hW => span_live W hW
  go_enter Tryz.func10, Tryz.ntmps10
  go_wp2_with (first | (go_at_call 13; refine (C0 _ st.L).mono ?_; rintro e w1 ⟨rfl, hB⟩; have st1 := st.next hB) | (go_at_call 21; refine (C2' _ st1.L.S).mono ?_; rintro e w2 ⟨rfl, hB⟩; have st2 := st1.next hB))
  go_ret
  exact ⟨ret_b (by simp), st2.B⟩
set_option maxRecDepth 100000 in
set_option maxHeartbeats 1000000 in
theorem only_true (s : ByteArray) (w : World) (hL : LayU w) (hs : s.size ≤ 140737488355328) :
    Calls Tryz.prog 10 #[.string s] w fun e w' => e = .returned (.bool true) ∧ Below w.heap.size w w' := by
  have C2 := fun W hW => span_Time s hs W hW
  rw [time_run] at C2
  cases ht : timeP s.data.toList with
  | at_ p =>
    rw [ht] at C2
    exact only_err s _ _ _ rfl C2 w hL
  | over =>
    rw [ht] at C2
    exact only_err s _ _ _ rfl C2 w hL
  | ok t =>
    rw [ht] at C2
    obtain ⟨h0, h1⟩ := time_ok ht
    clear ht
    have st := Sq.start hL
    have C0 := fun W hW => span_live W hW
    have C1 := fun W hW => span_Text t h0 h1 W hW
    have hsz : (⟨(textL t).toArray⟩ : ByteArray).size ≤ 140737488355328 := by
      have := text_len t
      show (textL t).toArray.size ≤ _
      simp; omega
    have C3 := fun W hW => span_Time ⟨(textL t).toArray⟩ hsz W hW
    rw [time_run, show (⟨(textL t).toArray⟩ : ByteArray).data.toList = textL t by simp, time_text t h0 h1] at C3
    generalize (⟨(textL t).toArray⟩ : ByteArray) = R at *
    have C2' : ∀ W, LayS W → Calls Tryz.prog 21 #[.string s] W fun e w' => e = .returned (.tuple #[.int .i64 t, .nilIface]) ∧ Below W.heap.size W w' := C2
    have C3' : ∀ W, LayS W → Calls Tryz.prog 21 #[.string R] W fun e w' => e = .returned (.tuple #[.int .i64 t, .nilIface]) ∧ Below W.heap.size W w' := C3
    clear C2 C3 hsz
    go_enter Tryz.func10, Tryz.ntmps10
    go_wp2_with (first | (go_at_call 13; refine (C0 _ st.L).mono ?_; rintro e w1 ⟨rfl, hB⟩; have st1 := st.next hB) | (go_at_call 21; (with_reducible refine (C2' _ st1.L.S).mono ?_); rintro e w2 ⟨rfl, hB⟩; have st2 := st1.next hB) | (go_at_call 23; refine (C1 _ st2.L.S).mono ?_; rintro e w3 ⟨rfl, hB⟩; have st3 := st2.next hB) | (go_at_call 21; (with_reducible refine (C3' _ st3.L.S).mono ?_); rintro e w4 ⟨rfl, hB⟩; have st4 := st3.next hB))
    go_ret
    exact ⟨ret_b (by simp), st4.B⟩
end Go.Proofs.YthplpjcadjnfiaaGreatDoor
