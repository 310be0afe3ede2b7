/- weirlaw04.SpanCalendar is true. -/
import Derived.Test.YthplpjcadjnfiaaGreatDoorSback
import Derived.Test.YthplpjcadjnfiaaGreatDoorSw13
namespace Go.Proofs.YthplpjcadjnfiaaGreatDoor
open Go.RowKit
set_option linter.unusedSimpArgs false
set_option linter.unusedVariables false

set_option maxRecDepth 100000 in
set_option maxHeartbeats 1000000 in
theorem cal_no (y m d : Int) (ev : Value) (tp : TypeId) (p : Value) (hev : ev = .iface tp p) (CD : ∀ W, Calls Tryz.prog 25 #[.int .i64 y, .int .i64 m, .int .i64 d] W fun e w' => e = .returned (.tuple #[.int .i64 0, ev]) ∧ W = w')
    (C4 : ∀ W, HG W → Calls Tryz.prog 29 #[ev, .int .i64 41] W fun e w' => e = .returned (.bool true) ∧ Below W.heap.size W w') (w : World) (hL : LayU w) :
    Calls Tryz.prog 11 #[.int .i64 y, .int .i64 m, .int .i64 d] w fun e w' => e = .returned (.bool true) ∧ Below w.heap.size w w' := by
  have st := Sq.start hL
  subst hev
  have C0 := fun W hW => span_live W hW
  go_enter Tryz.func11, Tryz.ntmps11
  go_wp2_with (first | (go_at_call 13; refine (C0 _ st.L).mono ?_; rintro e w1 ⟨rfl, hB⟩; have st1 := st.next hB) | (go_at_call 25; refine (CD _).mono ?_; rintro e w2 ⟨rfl, rfl⟩) | (go_at_call 29; refine (C4 _ st1.L.S.L.hg).mono ?_; rintro e w2 ⟨rfl, hB⟩; have st2 := st1.next hB))
  go_ret
  exact ⟨ret_b (by simp), st2.B⟩
set_option maxRecDepth 100000 in
set_option maxHeartbeats 1000000 in
theorem cal_last (y m d n N : Int) (hN : wrap64 (n + 1) = N) (k9 : (y == 9999) = true) (k12 : (m == 12) = true) (k31 : (d == 31) = true)
    (CD : ∀ W, Calls Tryz.prog 25 #[.int .i64 y, .int .i64 m, .int .i64 d] W fun e w' => e = .returned (.tuple #[.int .i64 n, .nilIface]) ∧ W = w')
    (CT : ∀ W, Calls Tryz.prog 27 #[.int .i64 n] W fun e w' => e = .returned (.tuple #[.int .i64 y, .int .i64 m, .int .i64 d]) ∧ W = w')
    (CN : ∀ W, Calls Tryz.prog 27 #[.int .i64 N] W fun e w' => e = .returned (.tuple #[.int .i64 0, .int .i64 0, .int .i64 0]) ∧ W = w') (w : World) (hL : LayU w) :
    Calls Tryz.prog 11 #[.int .i64 y, .int .i64 m, .int .i64 d] w fun e w' => e = .returned (.bool true) ∧ Below w.heap.size w w' := by
  have st := Sq.start hL
  have C0 := fun W hW => span_live W hW
  go_enter Tryz.func11, Tryz.ntmps11
  go_wp2_with (first | (go_at_call 13; refine (C0 _ st.L).mono ?_; rintro e w1 ⟨rfl, hB⟩; have st1 := st.next hB) | (go_at_call 25; refine (CD _).mono ?_; rintro e w2 ⟨rfl, rfl⟩) | (go_at_call 27; (with_reducible refine (CT _).mono ?_); rintro e w2 ⟨rfl, rfl⟩) | (rw [hN]; go_at_call 27; (with_reducible refine (CN _).mono ?_); rintro e w2 ⟨rfl, rfl⟩) | (go_at_call 27; (with_reducible refine (CN _).mono ?_); rintro e w2 ⟨rfl, rfl⟩))
  go_ret
  exact ⟨ret_b (by simp), st1.B⟩
set_option maxRecDepth 100000 in
set_option maxHeartbeats 4000000 in
theorem cal_next (y m d n N y' m' d' : Int) (hN : wrap64 (n + 1) = N) (hy : wrap64 (y + 1) = y + 1) (hm : wrap64 (m + 1) = m + 1) (hd : wrap64 (d + 1) = d + 1)
    (hT : (y == 9999) = false ∨ ((y == 9999) = true ∧ (m == 12) = false) ∨ ((y == 9999) = true ∧ (m == 12) = true ∧ (d == 31) = false))
    (hF : ((y' == y) = true ∧ (m' == m) = true ∧ (d' == d + 1) = true) ∨ ((y' == y) = true ∧ (m' == m) = false ∧ (d' == 1) = true ∧ (m' == m + 1) = true) ∨ ((y == 9999) = false ∧ (y' == y) = false ∧ (d' == 1) = true ∧ (y' == y + 1) = true ∧ (m' == 1) = true ∧ (m == 12) = true))
    (CD : ∀ W, Calls Tryz.prog 25 #[.int .i64 y, .int .i64 m, .int .i64 d] W fun e w' => e = .returned (.tuple #[.int .i64 n, .nilIface]) ∧ W = w')
    (CT : ∀ W, Calls Tryz.prog 27 #[.int .i64 n] W fun e w' => e = .returned (.tuple #[.int .i64 y, .int .i64 m, .int .i64 d]) ∧ W = w')
    (CN : ∀ W, Calls Tryz.prog 27 #[.int .i64 N] W fun e w' => e = .returned (.tuple #[.int .i64 y', .int .i64 m', .int .i64 d']) ∧ W = w')
    (CE : ∀ W, Calls Tryz.prog 25 #[.int .i64 y', .int .i64 m', .int .i64 d'] W fun e w' => e = .returned (.tuple #[.int .i64 N, .nilIface]) ∧ W = w') (w : World) (hL : LayU w) :
    Calls Tryz.prog 11 #[.int .i64 y, .int .i64 m, .int .i64 d] w fun e w' => e = .returned (.bool true) ∧ Below w.heap.size w w' := by
  have st := Sq.start hL
  have C0 := fun W hW => span_live W hW
  rcases hF with ⟨f1, f2, f3⟩ | ⟨f1, f2, f3, f4⟩ | ⟨k9, f1, f2, f3, f4, f5⟩
  · rcases hT with k9 | ⟨k9, k12⟩ | ⟨k9, k12, k31⟩
    · go_enter Tryz.func11, Tryz.ntmps11
      go_wp2_with (first | (go_at_call 13; refine (C0 _ st.L).mono ?_; rintro e w1 ⟨rfl, hB⟩; have st1 := st.next hB) | (go_at_call 25; (with_reducible refine (CD _).mono ?_); rintro e w2 ⟨rfl, rfl⟩) | (go_at_call 25; (with_reducible refine (CE _).mono ?_); rintro e w2 ⟨rfl, rfl⟩) | (go_at_call 27; (with_reducible refine (CT _).mono ?_); rintro e w2 ⟨rfl, rfl⟩) | (rw [hN]; go_at_call 27; (with_reducible refine (CN _).mono ?_); rintro e w2 ⟨rfl, rfl⟩) | (go_at_call 27; (with_reducible refine (CN _).mono ?_); rintro e w2 ⟨rfl, rfl⟩))
      go_ret
      exact ⟨ret_b (by simp [*]), st1.B⟩
    · go_enter Tryz.func11, Tryz.ntmps11
      go_wp2_with (first | (go_at_call 13; refine (C0 _ st.L).mono ?_; rintro e w1 ⟨rfl, hB⟩; have st1 := st.next hB) | (go_at_call 25; (with_reducible refine (CD _).mono ?_); rintro e w2 ⟨rfl, rfl⟩) | (go_at_call 25; (with_reducible refine (CE _).mono ?_); rintro e w2 ⟨rfl, rfl⟩) | (go_at_call 27; (with_reducible refine (CT _).mono ?_); rintro e w2 ⟨rfl, rfl⟩) | (rw [hN]; go_at_call 27; (with_reducible refine (CN _).mono ?_); rintro e w2 ⟨rfl, rfl⟩) | (go_at_call 27; (with_reducible refine (CN _).mono ?_); rintro e w2 ⟨rfl, rfl⟩))
      go_ret
      exact ⟨ret_b (by simp [*]), st1.B⟩
    · go_enter Tryz.func11, Tryz.ntmps11
      go_wp2_with (first | (go_at_call 13; refine (C0 _ st.L).mono ?_; rintro e w1 ⟨rfl, hB⟩; have st1 := st.next hB) | (go_at_call 25; (with_reducible refine (CD _).mono ?_); rintro e w2 ⟨rfl, rfl⟩) | (go_at_call 25; (with_reducible refine (CE _).mono ?_); rintro e w2 ⟨rfl, rfl⟩) | (go_at_call 27; (with_reducible refine (CT _).mono ?_); rintro e w2 ⟨rfl, rfl⟩) | (rw [hN]; go_at_call 27; (with_reducible refine (CN _).mono ?_); rintro e w2 ⟨rfl, rfl⟩) | (go_at_call 27; (with_reducible refine (CN _).mono ?_); rintro e w2 ⟨rfl, rfl⟩))
      go_ret
      exact ⟨ret_b (by simp [*]), st1.B⟩
  · rcases hT with k9 | ⟨k9, k12⟩ | ⟨k9, k12, k31⟩
    · go_enter Tryz.func11, Tryz.ntmps11
      go_wp2_with (first | (go_at_call 13; refine (C0 _ st.L).mono ?_; rintro e w1 ⟨rfl, hB⟩; have st1 := st.next hB) | (go_at_call 25; (with_reducible refine (CD _).mono ?_); rintro e w2 ⟨rfl, rfl⟩) | (go_at_call 25; (with_reducible refine (CE _).mono ?_); rintro e w2 ⟨rfl, rfl⟩) | (go_at_call 27; (with_reducible refine (CT _).mono ?_); rintro e w2 ⟨rfl, rfl⟩) | (rw [hN]; go_at_call 27; (with_reducible refine (CN _).mono ?_); rintro e w2 ⟨rfl, rfl⟩) | (go_at_call 27; (with_reducible refine (CN _).mono ?_); rintro e w2 ⟨rfl, rfl⟩))
      go_ret
      exact ⟨ret_b (by simp [*]), st1.B⟩
    · go_enter Tryz.func11, Tryz.ntmps11
      go_wp2_with (first | (go_at_call 13; refine (C0 _ st.L).mono ?_; rintro e w1 ⟨rfl, hB⟩; have st1 := st.next hB) | (go_at_call 25; (with_reducible refine (CD _).mono ?_); rintro e w2 ⟨rfl, rfl⟩) | (go_at_call 25; (with_reducible refine (CE _).mono ?_); rintro e w2 ⟨rfl, rfl⟩) | (go_at_call 27; (with_reducible refine (CT _).mono ?_); rintro e w2 ⟨rfl, rfl⟩) | (rw [hN]; go_at_call 27; (with_reducible refine (CN _).mono ?_); rintro e w2 ⟨rfl, rfl⟩) | (go_at_call 27; (with_reducible refine (CN _).mono ?_); rintro e w2 ⟨rfl, rfl⟩))
      go_ret
      exact ⟨ret_b (by simp [*]), st1.B⟩
    · go_enter Tryz.func11, Tryz.ntmps11
      go_wp2_with (first | (go_at_call 13; refine (C0 _ st.L).mono ?_; rintro e w1 ⟨rfl, hB⟩; have st1 := st.next hB) | (go_at_call 25; (with_reducible refine (CD _).mono ?_); rintro e w2 ⟨rfl, rfl⟩) | (go_at_call 25; (with_reducible refine (CE _).mono ?_); rintro e w2 ⟨rfl, rfl⟩) | (go_at_call 27; (with_reducible refine (CT _).mono ?_); rintro e w2 ⟨rfl, rfl⟩) | (rw [hN]; go_at_call 27; (with_reducible refine (CN _).mono ?_); rintro e w2 ⟨rfl, rfl⟩) | (go_at_call 27; (with_reducible refine (CN _).mono ?_); rintro e w2 ⟨rfl, rfl⟩))
      go_ret
      exact ⟨ret_b (by simp [*]), st1.B⟩
  · clear hT
    go_enter Tryz.func11, Tryz.ntmps11
    go_wp2_with (first | (go_at_call 13; refine (C0 _ st.L).mono ?_; rintro e w1 ⟨rfl, hB⟩; have st1 := st.next hB) | (go_at_call 25; (with_reducible refine (CD _).mono ?_); rintro e w2 ⟨rfl, rfl⟩) | (go_at_call 25; (with_reducible refine (CE _).mono ?_); rintro e w2 ⟨rfl, rfl⟩) | (go_at_call 27; (with_reducible refine (CT _).mono ?_); rintro e w2 ⟨rfl, rfl⟩) | (rw [hN]; go_at_call 27; (with_reducible refine (CN _).mono ?_); rintro e w2 ⟨rfl, rfl⟩) | (go_at_call 27; (with_reducible refine (CN _).mono ?_); rintro e w2 ⟨rfl, rfl⟩))
    go_ret
    exact ⟨ret_b (by simp [*]), st1.B⟩
theorem cal_true (y m d : Int) (w : World) (hL : LayU w) (d0 : -9223372036854775808 ≤ d) (d1 : d ≤ 9223372036854775807) :
    Calls Tryz.prog 11 #[.int .i64 y, .int .i64 m, .int .i64 d] w fun e w' => e = .returned (.bool true) ∧ Below w.heap.size w w' := by
  have CD := fun W => span_Day y m d d0 d1 W
  by_cases hv : validD y m d = true
  · have hb := day_bd hv
    have hdm := daysM_bd y m
    obtain ⟨y0, y1, m0, m1, e0, e1⟩ := validD_iff.1 hv
    rw [show dayP y m d = (dayN y m d, 0) from if_pos hv] at CD
    have CT := fun W => span_Date (dayN y m d) (by omega) (by omega) W
    rw [dateP_of hv rfl] at CT
    have CN := fun W => span_Date (dayN y m d + 1) (by omega) (by omega) W
    rcases day_next hv with ⟨a, b, c, hn⟩ | ⟨hne, y', m', d', hn, hv', hN, hF⟩
    · rw [hn] at CN
      subst a b c
      exact cal_last _ _ _ _ _ (by unfold wrap64; omega) rfl rfl rfl CD CT CN w hL
    · rw [hn] at CN
      obtain ⟨z0, z1, n0, n1, g0, g1⟩ := validD_iff.1 hv'
      have hdm' := daysM_bd y' m'
      have CE := fun W => span_Day y' m' d' (by omega) (by omega) W
      rw [show dayP y' m' d' = (dayN y' m' d', 0) from if_pos hv', hN] at CE
      refine cal_next y m d (dayN y m d) (dayN y m d + 1) y' m' d' (by unfold wrap64; omega) (by unfold wrap64; omega) (by unfold wrap64; omega) (by unfold wrap64; omega) ?_ ?_ CD CT CN CE w hL
      · simp only [beq_iff_eq, beq_eq_false_iff_ne, ne_eq]
        omega
      · simp only [beq_iff_eq, beq_eq_false_iff_ne, ne_eq]
        omega
  · rw [show dayP y m d = (0, 41) from if_neg hv] at CD
    have C4 := fun W hW => both_Is (mkE 41) 41 (by decide) W hW
    rw [show isE (mkE 41) 41 = true by decide] at C4
    exact cal_no y m d _ _ _ rfl CD C4 w hL
end Go.Proofs.YthplpjcadjnfiaaGreatDoor
