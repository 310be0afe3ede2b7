/- Package span: Parse. -/
import Derived.Test.YtmooibnedokllaaGreatDoorSw4
namespace Go.Proofs.YtmooibnedokllaaGreatDoor
open Go.RowKit
set_option linter.unusedSimpArgs false
set_option linter.unusedVariables false

theorem codeOf_mkE (n : Int) : codeOf (mkE n) = n := by unfold mkE; by_cases h : n = 0 <;> simp [h, codeOf, Er.code?]
theorem bare_below {s : ByteArray} (h : 0 < s.size) (h0 : (s[0]'h).toNat = 45) : bareL s.data.toList = (s.extract 1 s.size).data.toList ∧ belowL s.data.toList = true := by
  rw [ext_drop]
  have hl : s.data.toList.length = s.size := rfl
  cases hs : s.data.toList with
  | nil => rw [hs] at hl; simp at hl; omega
  | cons a r =>
    have ha : a = s[0]'h := by
      have : s.data.toList[0]'(by omega) = s[0]'h := rfl
      simp [hs] at this
      exact this
    have : a = 45 := by apply UInt8.toNat_inj.1; rw [ha]; exact h0
    subst this
    exact ⟨rfl, rfl⟩
theorem bare_above {s : ByteArray} (h : ∀ h : 0 < s.size, ¬ (s[0]'h).toNat = 45) : bareL s.data.toList = s.data.toList ∧ belowL s.data.toList = false := by
  apply bare_plain
  have hl : s.data.toList.length = s.size := rfl
  cases hs : s.data.toList with
  | nil => simp
  | cons a r =>
    have hp : 0 < s.size := by rw [← hl, hs]; simp
    have ha : a = s[0]'hp := by
      have : s.data.toList[0]'(by omega) = s[0]'hp := rfl
      simp [hs] at this
      exact this
    intro e
    obtain rfl := Option.some.inj e
    exact h hp (by rw [← ha]; rfl)
set_option maxRecDepth 100000 in
set_option maxHeartbeats 4000000 in
theorem span_Parse (s : ByteArray) (hs : s.size ≤ 140737488355328) (w : World) (hL : LayU w) :
    Calls Tryz.prog 80 #[.string s] w fun e w' => e = .returned (.tuple #[.int .i64 (parseP s.data.toList).1, encE (mkE (parseP s.data.toList).2)]) ∧ Below w.heap.size w w' := by
  have st := Sq.start hL
  by_cases hp : 0 < s.size
  · by_cases hc : (s[0]'hp).toNat = 45
    · have hc' : (((s[0]'hp).toNat : Int) == 45) = true := by rw [hc]; rfl
      obtain ⟨hba, hbb⟩ := bare_below hp hc
      clear hc
      have CS := fun W hW => span_Scan (s.extract 1 s.size) (by simp; omega) W hW
      have CL := fun W hW => span_length (s.extract 1 s.size) (by simp; omega) W hW
      rw [← hba] at CS CL
      have HQ : Hid (parseP s.data.toList = if (scanG 0 (bareL s.data.toList)).1 = 0 ∨ (scanG 0 (bareL s.data.toList)).1 ≠ (bareL s.data.toList).length then (0, 40) else if 9223372036854775807 < (scanG 0 (bareL s.data.toList)).2 then (0, 20) else (if belowL s.data.toList = true then -((scanG 0 (bareL s.data.toList)).2 : Int) else (scanG 0 (bareL s.data.toList)).2, 0)) := Lib.hid rfl
      rw [hbb] at HQ
      have hsp : scanP (bareL s.data.toList) = if (scanG 0 (bareL s.data.toList)).1 = 0 then (0, 0, 40) else if 9223372036854775807 < (scanG 0 (bareL s.data.toList)).2 then (0, 0, 20) else (((scanG 0 (bareL s.data.toList)).2 : Int), ((scanG 0 (bareL s.data.toList)).1 : Int), 0) := rfl
      have hlen : (bareL s.data.toList).length = ((s.extract 1 s.size)).size := by rw [hba]; rfl
      rw [hlen] at HQ
      generalize (scanG 0 (bareL s.data.toList)).1 = r1 at *
      generalize (scanG 0 (bareL s.data.toList)).2 = r2 at *
      generalize hpp : parseP s.data.toList = pp at *
      clear hba hbb hlen hpp
      by_cases h0 : r1 = 0
      · rw [if_pos h0] at hsp
        obtain rfl : pp = (0, 40) := by rw [HQ.out, if_pos (Or.inl h0)]
        rw [hsp] at CS
        have CC := fun W hW => fault_Code (mkE 40) W hW
        rw [codeOf_mkE] at CC
        clear hsp h0 HQ
        go_enter Tryz.func80, Tryz.ntmps80
        go_wp2_with (first | (go_at_call 101; refine (CS _ st.L).mono ?_; rintro e w1 ⟨rfl, hB1⟩; have st1 := st.next hB1) | (go_at_call 102; refine (CC _ st1.L.S.L.hg).mono ?_; rintro e w2 ⟨rfl, hB2⟩; have st2 := st1.next hB2) | (go_at_call 103; refine (CL _ st2.L.U).mono ?_; rintro e w3 ⟨rfl, hB3⟩; have st2 := st2.next hB3) | (go_at_call 27; refine (fault_New _ _).mono ?_; rintro e w6 ⟨rfl, rfl⟩))
        go_ret2
        exact ⟨rfl, st2.B⟩
      rw [if_neg h0] at hsp
      by_cases h1 : r1 = ((s.extract 1 s.size)).size
      · have hn : ((r1 : Int) != (((s.extract 1 s.size)).size : Int)) = false := by simp [h1]
        have hn' : ((r1 : Int) != ((s.size - 1 : Nat) : Int)) = false := by rw [show (s.extract 1 s.size).size = s.size - 1 by simp] at hn; exact hn
        have HQ2 : Hid (pp = if 9223372036854775807 < r2 then (0, 20) else (-(r2 : Int), 0)) := Lib.hid (by rw [HQ.out, if_neg (by rintro (h | h); exact h0 h; exact h h1)]; rfl)
        by_cases h2 : 9223372036854775807 < r2
        · rw [if_pos h2] at hsp
          obtain rfl : pp = (0, 20) := by rw [HQ2.out, if_pos h2]
          rw [hsp] at CS
          have CC := fun W hW => fault_Code (mkE 20) W hW
          rw [codeOf_mkE] at CC
          have N1 := fun W => encE_neq (mkE 20) W
          have G1 := er_guardE (mkE 20)
          rw [show (mkE 20).isSome = true by rfl] at N1
          generalize encE (mkE 20) = ev at *
          clear hsp h0 h1 h2 HQ HQ2
          go_enter Tryz.func80, Tryz.ntmps80
          go_wp2_with (first | (go_at_call 101; refine (CS _ st.L).mono ?_; rintro e w1 ⟨rfl, hB1⟩; have st1 := st.next hB1) | (go_at_call 102; refine (CC _ st1.L.S.L.hg).mono ?_; rintro e w2 ⟨rfl, hB2⟩; have st2 := st1.next hB2) | (go_at_call 103; refine (CL _ st2.L.U).mono ?_; rintro e w3 ⟨rfl, hB3⟩; have st2 := st2.next hB3) | (go_at_call 27; refine (fault_New _ _).mono ?_; rintro e w6 ⟨rfl, rfl⟩))
          go_ret2
          exact ⟨rfl, st2.B⟩
        · rw [if_neg h2] at hsp
          obtain rfl : pp = (-(r2 : Int), 0) := by rw [HQ2.out, if_neg h2]
          rw [hsp] at CS
          have CC := fun W hW => fault_Code (mkE 0) W hW
          rw [codeOf_mkE] at CC
          have N1 := fun W => encE_neq (mkE 0) W
          have G1 := er_guardE (mkE 0)
          rw [show (mkE 0).isSome = false by rfl] at N1
          rw [show encE (mkE 0) = .nilIface by rfl]
          generalize encE (mkE 0) = ev at *
          have h3 : (r2 : Int) ≤ 9223372036854775807 := by omega
          clear hsp h0 h1 h2 HQ HQ2
          go_enter Tryz.func80, Tryz.ntmps80
          go_wp2_with (first | (go_at_call 101; refine (CS _ st.L).mono ?_; rintro e w1 ⟨rfl, hB1⟩; have st1 := st.next hB1) | (go_at_call 102; refine (CC _ st1.L.S.L.hg).mono ?_; rintro e w2 ⟨rfl, hB2⟩; have st2 := st1.next hB2) | (go_at_call 103; refine (CL _ st2.L.U).mono ?_; rintro e w3 ⟨rfl, hB3⟩; have st2 := st2.next hB3) | (go_at_call 27; refine (fault_New _ _).mono ?_; rintro e w6 ⟨rfl, rfl⟩))
          go_ret2
          exact ⟨rfl, st2.B⟩
      · have hn : ((r1 : Int) != (((s.extract 1 s.size)).size : Int)) = true := by rw [bne_iff_ne]; intro e; exact h1 (by omega)
        have hn' : ((r1 : Int) != ((s.size - 1 : Nat) : Int)) = true := by rw [show (s.extract 1 s.size).size = s.size - 1 by simp] at hn; exact hn
        obtain rfl : pp = (0, 40) := by rw [HQ.out, if_pos (Or.inr h1)]
        obtain ⟨v1, v2, k, hk, hk1⟩ : ∃ v1 v2 k, scanP (bareL s.data.toList) = (v1, v2, k) ∧ (k == 40) = false := by
          rw [hsp]; split; exact ⟨_, _, _, rfl, rfl⟩; exact ⟨_, _, _, rfl, rfl⟩
        rw [hk] at CS
        have CC := fun W hW => fault_Code (mkE k) W hW
        rw [codeOf_mkE] at CC
        generalize encE (mkE k) = ev at *
        clear hsp h0 h1 HQ hk
        go_enter Tryz.func80, Tryz.ntmps80
        go_wp2_with (first | (go_at_call 101; refine (CS _ st.L).mono ?_; rintro e w1 ⟨rfl, hB1⟩; have st1 := st.next hB1) | (go_at_call 102; refine (CC _ st1.L.S.L.hg).mono ?_; rintro e w2 ⟨rfl, hB2⟩; have st2 := st1.next hB2) | (go_at_call 103; refine (CL _ st2.L.U).mono ?_; rintro e w3 ⟨rfl, hB3⟩; have st2 := st2.next hB3) | (go_at_call 27; refine (fault_New _ _).mono ?_; rintro e w6 ⟨rfl, rfl⟩))
        go_ret2
        exact ⟨rfl, st2.B⟩
    · have hc' : (((s[0]'hp).toNat : Int) == 45) = false := by simp; omega
      obtain ⟨hba, hbb⟩ := bare_above (s := s) (fun _ => hc)
      clear hc
      have CS := fun W hW => span_Scan s hs W hW
      have CL := fun W hW => span_length s hs W hW
      rw [← hba] at CS CL
      have HQ : Hid (parseP s.data.toList = if (scanG 0 (bareL s.data.toList)).1 = 0 ∨ (scanG 0 (bareL s.data.toList)).1 ≠ (bareL s.data.toList).length then (0, 40) else if 9223372036854775807 < (scanG 0 (bareL s.data.toList)).2 then (0, 20) else (if belowL s.data.toList = true then -((scanG 0 (bareL s.data.toList)).2 : Int) else (scanG 0 (bareL s.data.toList)).2, 0)) := Lib.hid rfl
      rw [hbb] at HQ
      have hsp : scanP (bareL s.data.toList) = if (scanG 0 (bareL s.data.toList)).1 = 0 then (0, 0, 40) else if 9223372036854775807 < (scanG 0 (bareL s.data.toList)).2 then (0, 0, 20) else (((scanG 0 (bareL s.data.toList)).2 : Int), ((scanG 0 (bareL s.data.toList)).1 : Int), 0) := rfl
      have hlen : (bareL s.data.toList).length = (s).size := by rw [hba]; rfl
      rw [hlen] at HQ
      generalize (scanG 0 (bareL s.data.toList)).1 = r1 at *
      generalize (scanG 0 (bareL s.data.toList)).2 = r2 at *
      generalize hpp : parseP s.data.toList = pp at *
      clear hba hbb hlen hpp
      by_cases h0 : r1 = 0
      · rw [if_pos h0] at hsp
        obtain rfl : pp = (0, 40) := by rw [HQ.out, if_pos (Or.inl h0)]
        rw [hsp] at CS
        have CC := fun W hW => fault_Code (mkE 40) W hW
        rw [codeOf_mkE] at CC
        clear hsp h0 HQ
        go_enter Tryz.func80, Tryz.ntmps80
        go_wp2_with (first | (go_at_call 101; refine (CS _ st.L).mono ?_; rintro e w1 ⟨rfl, hB1⟩; have st1 := st.next hB1) | (go_at_call 102; refine (CC _ st1.L.S.L.hg).mono ?_; rintro e w2 ⟨rfl, hB2⟩; have st2 := st1.next hB2) | (go_at_call 103; refine (CL _ st2.L.U).mono ?_; rintro e w3 ⟨rfl, hB3⟩; have st2 := st2.next hB3) | (go_at_call 27; refine (fault_New _ _).mono ?_; rintro e w6 ⟨rfl, rfl⟩))
        go_ret2
        exact ⟨rfl, st2.B⟩
      rw [if_neg h0] at hsp
      by_cases h1 : r1 = (s).size
      · have hn : ((r1 : Int) != ((s).size : Int)) = false := by simp [h1]
        have HQ2 : Hid (pp = if 9223372036854775807 < r2 then (0, 20) else ((r2 : Int), 0)) := Lib.hid (by rw [HQ.out, if_neg (by rintro (h | h); exact h0 h; exact h h1)]; rfl)
        by_cases h2 : 9223372036854775807 < r2
        · rw [if_pos h2] at hsp
          obtain rfl : pp = (0, 20) := by rw [HQ2.out, if_pos h2]
          rw [hsp] at CS
          have CC := fun W hW => fault_Code (mkE 20) W hW
          rw [codeOf_mkE] at CC
          have N1 := fun W => encE_neq (mkE 20) W
          have G1 := er_guardE (mkE 20)
          rw [show (mkE 20).isSome = true by rfl] at N1
          generalize encE (mkE 20) = ev at *
          clear hsp h0 h1 h2 HQ HQ2
          go_enter Tryz.func80, Tryz.ntmps80
          go_wp2_with (first | (go_at_call 101; refine (CS _ st.L).mono ?_; rintro e w1 ⟨rfl, hB1⟩; have st1 := st.next hB1) | (go_at_call 102; refine (CC _ st1.L.S.L.hg).mono ?_; rintro e w2 ⟨rfl, hB2⟩; have st2 := st1.next hB2) | (go_at_call 103; refine (CL _ st2.L.U).mono ?_; rintro e w3 ⟨rfl, hB3⟩; have st2 := st2.next hB3) | (go_at_call 27; refine (fault_New _ _).mono ?_; rintro e w6 ⟨rfl, rfl⟩))
          go_ret2
          exact ⟨rfl, st2.B⟩
        · rw [if_neg h2] at hsp
          obtain rfl : pp = ((r2 : Int), 0) := by rw [HQ2.out, if_neg h2]
          rw [hsp] at CS
          have CC := fun W hW => fault_Code (mkE 0) W hW
          rw [codeOf_mkE] at CC
          have N1 := fun W => encE_neq (mkE 0) W
          have G1 := er_guardE (mkE 0)
          rw [show (mkE 0).isSome = false by rfl] at N1
          rw [show encE (mkE 0) = .nilIface by rfl]
          generalize encE (mkE 0) = ev at *
          have h3 : (r2 : Int) ≤ 9223372036854775807 := by omega
          clear hsp h0 h1 h2 HQ HQ2
          go_enter Tryz.func80, Tryz.ntmps80
          go_wp2_with (first | (go_at_call 101; refine (CS _ st.L).mono ?_; rintro e w1 ⟨rfl, hB1⟩; have st1 := st.next hB1) | (go_at_call 102; refine (CC _ st1.L.S.L.hg).mono ?_; rintro e w2 ⟨rfl, hB2⟩; have st2 := st1.next hB2) | (go_at_call 103; refine (CL _ st2.L.U).mono ?_; rintro e w3 ⟨rfl, hB3⟩; have st2 := st2.next hB3) | (go_at_call 27; refine (fault_New _ _).mono ?_; rintro e w6 ⟨rfl, rfl⟩))
          go_ret2
          exact ⟨rfl, st2.B⟩
      · have hn : ((r1 : Int) != ((s).size : Int)) = true := by rw [bne_iff_ne]; intro e; exact h1 (by omega)
        obtain rfl : pp = (0, 40) := by rw [HQ.out, if_pos (Or.inr h1)]
        obtain ⟨v1, v2, k, hk, hk1⟩ : ∃ v1 v2 k, scanP (bareL s.data.toList) = (v1, v2, k) ∧ (k == 40) = false := by
          rw [hsp]; split; exact ⟨_, _, _, rfl, rfl⟩; exact ⟨_, _, _, rfl, rfl⟩
        rw [hk] at CS
        have CC := fun W hW => fault_Code (mkE k) W hW
        rw [codeOf_mkE] at CC
        generalize encE (mkE k) = ev at *
        clear hsp h0 h1 HQ hk
        go_enter Tryz.func80, Tryz.ntmps80
        go_wp2_with (first | (go_at_call 101; refine (CS _ st.L).mono ?_; rintro e w1 ⟨rfl, hB1⟩; have st1 := st.next hB1) | (go_at_call 102; refine (CC _ st1.L.S.L.hg).mono ?_; rintro e w2 ⟨rfl, hB2⟩; have st2 := st1.next hB2) | (go_at_call 103; refine (CL _ st2.L.U).mono ?_; rintro e w3 ⟨rfl, hB3⟩; have st2 := st2.next hB3) | (go_at_call 27; refine (fault_New _ _).mono ?_; rintro e w6 ⟨rfl, rfl⟩))
        go_ret2
        exact ⟨rfl, st2.B⟩
  · obtain ⟨hba, hbb⟩ := bare_above (s := s) (fun h => absurd h hp)
    have CS := fun W hW => span_Scan s hs W hW
    have CL := fun W hW => span_length s hs W hW
    rw [← hba] at CS CL
    have HQ : Hid (parseP s.data.toList = if (scanG 0 (bareL s.data.toList)).1 = 0 ∨ (scanG 0 (bareL s.data.toList)).1 ≠ (bareL s.data.toList).length then (0, 40) else if 9223372036854775807 < (scanG 0 (bareL s.data.toList)).2 then (0, 20) else (if belowL s.data.toList = true then -((scanG 0 (bareL s.data.toList)).2 : Int) else (scanG 0 (bareL s.data.toList)).2, 0)) := Lib.hid rfl
    rw [hbb] at HQ
    have hsp : scanP (bareL s.data.toList) = if (scanG 0 (bareL s.data.toList)).1 = 0 then (0, 0, 40) else if 9223372036854775807 < (scanG 0 (bareL s.data.toList)).2 then (0, 0, 20) else (((scanG 0 (bareL s.data.toList)).2 : Int), ((scanG 0 (bareL s.data.toList)).1 : Int), 0) := rfl
    have hlen : (bareL s.data.toList).length = (s).size := by rw [hba]; rfl
    rw [hlen] at HQ
    generalize (scanG 0 (bareL s.data.toList)).1 = r1 at *
    generalize (scanG 0 (bareL s.data.toList)).2 = r2 at *
    generalize hpp : parseP s.data.toList = pp at *
    clear hba hbb hlen hpp
    by_cases h0 : r1 = 0
    · rw [if_pos h0] at hsp
      obtain rfl : pp = (0, 40) := by rw [HQ.out, if_pos (Or.inl h0)]
      rw [hsp] at CS
      have CC := fun W hW => fault_Code (mkE 40) W hW
      rw [codeOf_mkE] at CC
      clear hsp h0 HQ
      go_enter Tryz.func80, Tryz.ntmps80
      go_wp2_with (first | (go_at_call 101; refine (CS _ st.L).mono ?_; rintro e w1 ⟨rfl, hB1⟩; have st1 := st.next hB1) | (go_at_call 102; refine (CC _ st1.L.S.L.hg).mono ?_; rintro e w2 ⟨rfl, hB2⟩; have st2 := st1.next hB2) | (go_at_call 103; refine (CL _ st2.L.U).mono ?_; rintro e w3 ⟨rfl, hB3⟩; have st2 := st2.next hB3) | (go_at_call 27; refine (fault_New _ _).mono ?_; rintro e w6 ⟨rfl, rfl⟩))
      go_ret2
      exact ⟨rfl, st2.B⟩
    rw [if_neg h0] at hsp
    by_cases h1 : r1 = (s).size
    · have hn : ((r1 : Int) != ((s).size : Int)) = false := by simp [h1]
      have HQ2 : Hid (pp = if 9223372036854775807 < r2 then (0, 20) else ((r2 : Int), 0)) := Lib.hid (by rw [HQ.out, if_neg (by rintro (h | h); exact h0 h; exact h h1)]; rfl)
      by_cases h2 : 9223372036854775807 < r2
      · rw [if_pos h2] at hsp
        obtain rfl : pp = (0, 20) := by rw [HQ2.out, if_pos h2]
        rw [hsp] at CS
        have CC := fun W hW => fault_Code (mkE 20) W hW
        rw [codeOf_mkE] at CC
        have N1 := fun W => encE_neq (mkE 20) W
        have G1 := er_guardE (mkE 20)
        rw [show (mkE 20).isSome = true by rfl] at N1
        generalize encE (mkE 20) = ev at *
        clear hsp h0 h1 h2 HQ HQ2
        go_enter Tryz.func80, Tryz.ntmps80
        go_wp2_with (first | (go_at_call 101; refine (CS _ st.L).mono ?_; rintro e w1 ⟨rfl, hB1⟩; have st1 := st.next hB1) | (go_at_call 102; refine (CC _ st1.L.S.L.hg).mono ?_; rintro e w2 ⟨rfl, hB2⟩; have st2 := st1.next hB2) | (go_at_call 103; refine (CL _ st2.L.U).mono ?_; rintro e w3 ⟨rfl, hB3⟩; have st2 := st2.next hB3) | (go_at_call 27; refine (fault_New _ _).mono ?_; rintro e w6 ⟨rfl, rfl⟩))
        go_ret2
        exact ⟨rfl, st2.B⟩
      · rw [if_neg h2] at hsp
        obtain rfl : pp = ((r2 : Int), 0) := by rw [HQ2.out, if_neg h2]
        rw [hsp] at CS
        have CC := fun W hW => fault_Code (mkE 0) W hW
        rw [codeOf_mkE] at CC
        have N1 := fun W => encE_neq (mkE 0) W
        have G1 := er_guardE (mkE 0)
        rw [show (mkE 0).isSome = false by rfl] at N1
        rw [show encE (mkE 0) = .nilIface by rfl]
        generalize encE (mkE 0) = ev at *
        have h3 : (r2 : Int) ≤ 9223372036854775807 := by omega
        clear hsp h0 h1 h2 HQ HQ2
        go_enter Tryz.func80, Tryz.ntmps80
        go_wp2_with (first | (go_at_call 101; refine (CS _ st.L).mono ?_; rintro e w1 ⟨rfl, hB1⟩; have st1 := st.next hB1) | (go_at_call 102; refine (CC _ st1.L.S.L.hg).mono ?_; rintro e w2 ⟨rfl, hB2⟩; have st2 := st1.next hB2) | (go_at_call 103; refine (CL _ st2.L.U).mono ?_; rintro e w3 ⟨rfl, hB3⟩; have st2 := st2.next hB3) | (go_at_call 27; refine (fault_New _ _).mono ?_; rintro e w6 ⟨rfl, rfl⟩))
        go_ret2
        exact ⟨rfl, st2.B⟩
    · have hn : ((r1 : Int) != ((s).size : Int)) = true := by rw [bne_iff_ne]; intro e; exact h1 (by omega)
      obtain rfl : pp = (0, 40) := by rw [HQ.out, if_pos (Or.inr h1)]
      obtain ⟨v1, v2, k, hk, hk1⟩ : ∃ v1 v2 k, scanP (bareL s.data.toList) = (v1, v2, k) ∧ (k == 40) = false := by
        rw [hsp]; split; exact ⟨_, _, _, rfl, rfl⟩; exact ⟨_, _, _, rfl, rfl⟩
      rw [hk] at CS
      have CC := fun W hW => fault_Code (mkE k) W hW
      rw [codeOf_mkE] at CC
      generalize encE (mkE k) = ev at *
      clear hsp h0 h1 HQ hk
      go_enter Tryz.func80, Tryz.ntmps80
      go_wp2_with (first | (go_at_call 101; refine (CS _ st.L).mono ?_; rintro e w1 ⟨rfl, hB1⟩; have st1 := st.next hB1) | (go_at_call 102; refine (CC _ st1.L.S.L.hg).mono ?_; rintro e w2 ⟨rfl, hB2⟩; have st2 := st1.next hB2) | (go_at_call 103; refine (CL _ st2.L.U).mono ?_; rintro e w3 ⟨rfl, hB3⟩; have st2 := st2.next hB3) | (go_at_call 27; refine (fault_New _ _).mono ?_; rintro e w6 ⟨rfl, rfl⟩))
      go_ret2
      exact ⟨rfl, st2.B⟩
end Go.Proofs.YtmooibnedokllaaGreatDoor
