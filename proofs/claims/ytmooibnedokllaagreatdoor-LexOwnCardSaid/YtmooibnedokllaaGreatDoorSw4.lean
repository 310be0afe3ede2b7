/- Package span: zeros, Scan, Parse. -/
import Derived.Test.YtmooibnedokllaaGreatDoorSw3
namespace Go.Proofs.YtmooibnedokllaaGreatDoor
open Go.RowKit
set_option linter.unusedSimpArgs false
set_option linter.unusedVariables false

theorem slice_mid (s : ByteArray) (a n : Nat) (h : a + n ≤ s.size) (W : World) :
    (Instr.slice 9 (.string s) (some (.int .i64 (a : Int))) (some (.int .i64 ((a : Int) + (n : Int)))) none).run Tryz.prog W = .ok (.string (s.extract a (a + n))) W := by
  rw [run_slice_string W 9 s .i64 .i64 a ((a : Int) + n) Tryz.underlying9 (by omega) (by omega) (by omega)]
  rfl
/-- The library's variables and the units lie as the program's text lays them. -/
structure LayU (w : World) : Prop where
  S : LayS w
  U : UnitsAt w
theorem LayU.below {w w' : World} (h : LayU w) (hB : Below w.heap.size w w') : LayU w' := ⟨h.S.below hB, h.U.below hB⟩
instance : Stays LayU := ⟨LayU.below⟩
theorem at_zero {t : ByteArray} {c : UInt8} (hd : ∀ c ∈ t.data.toList, isD c = true) (h1 : 1 < t.size) (h0 : (t[0]'(by omega)).toNat = 48) :
    (t.extract 1 t.size).data.toList ≠ [] ∧ (∀ c ∈ (t.extract 1 t.size).data.toList, isD c = true) ∧ decN (t.extract 1 t.size).data.toList = decN t.data.toList ∧ (t.extract 1 t.size).size = t.size - 1 := by
  have e := ext_drop t 1
  have hl : t.data.toList.length = t.size := rfl
  obtain ⟨a, r, hr⟩ : ∃ a r, t.data.toList = a :: r := by
    cases h : t.data.toList with
    | nil => rw [h] at hl; simp at hl; omega
    | cons a r => exact ⟨a, r, rfl⟩
  have ha : a = t[0]'(by omega) := by
    have : t.data.toList[0]'(by omega) = t[0]'(by omega) := rfl
    simp [hr] at this
    exact this
  rw [e, hr]
  rw [hr] at hl hd
  refine ⟨?_, ?_, ?_, by simp⟩
  · rintro e2
    simp at e2
    subst e2
    simp at hl
    omega
  · intro c hc; exact hd c (List.mem_cons_of_mem _ hc)
  · show decF 0 r = decF 0 (a :: r)
    rw [decF_cons, show 10 * 0 + (a.toNat - 48) = 0 by rw [ha, h0]]
set_option maxRecDepth 100000 in
set_option maxHeartbeats 400000 in
theorem span_zeros (s : ByteArray) (hs : s.size ≤ 140737488355328) (hne : s.data.toList ≠ []) (hd : ∀ c ∈ s.data.toList, isD c = true) (hv : 9223372036854775807 < decN s.data.toList) (w : World) (hL : LayS w) :
    Calls Tryz.prog 124 #[.string s] w fun e w' => e = .returned (.bool false) ∧ Below w.heap.size w w' := by
  have HNE := Lib.hid hne
  have HD := Lib.hid hd
  have HV := Lib.hid hv
  clear hne hd hv
  go_enter Tryz.func124, Tryz.ntmps124
  go_wp2
  go_loopg [0] s.size (fun n v0 wr => ∃ t : ByteArray, v0 = .string t ∧ t.size ≤ s.size ∧ n = t.size ∧ Hid (t.data.toList ≠ [] ∧ (∀ c ∈ t.data.toList, isD c = true) ∧ decN t.data.toList = decN s.data.toList) ∧ w = wr)
  case atStart => exact ⟨s, rfl, Nat.le_refl _, rfl, Lib.hid ⟨HNE.out, HD.out, rfl⟩, rfl⟩
  case round =>
    obtain ⟨t, rfl, ht, rfl, HT, rfl⟩ := hrel
    by_cases h1 : 1 < t.size
    · by_cases h0 : (t[0]'(by omega)).toNat = 48
      · obtain ⟨a1, a2, a3, a4⟩ := at_zero (c := 0) HT.out.2.1 h1 h0
        have h0' : (((t[0]'(by omega)).toNat : Int) == 48) = true := by rw [h0]; rfl
        have HT2 : Hid ((t.extract 1 t.size).data.toList ≠ [] ∧ (∀ c ∈ (t.extract 1 t.size).data.toList, isD c = true) ∧ decN (t.extract 1 t.size).data.toList = decN s.data.toList) := Lib.hid ⟨a1, a2, a3.trans HT.out.2.2⟩
        have HS : Hid ((t.extract 1 t.size).size = t.size - 1) := Lib.hid a4
        clear a1 a2 a3 a4 h0
        go_wp2
        go_roundg (t.size - 1)
        case measure => omega
        case rel => exact ⟨t.extract 1 t.size, rfl, by rw [HS.out]; omega, HS.out.symm, HT2, rfl⟩
      · have h0' : (((t[0]'(by omega)).toNat : Int) == 48) = false := by simp; omega
        have e : atoiV t = (9223372036854775807, false) := by rw [atoiV_digits t HT.out.1 HT.out.2.1, if_neg (by rw [HT.out.2.2]; have := HV.out; omega)]
        have C := fun W hW => strconv_ParseInt t (by omega) W hW
        rw [e] at C
        clear e h0
        go_wp2_with (go_at_call 79; refine (C _ hL).mono ?_; rintro e w' ⟨ev, rfl, ⟨p, rfl⟩, hB⟩)
        go_ret
        exact ⟨rfl, hB⟩
    · have e : atoiV t = (9223372036854775807, false) := by rw [atoiV_digits t HT.out.1 HT.out.2.1, if_neg (by rw [HT.out.2.2]; have := HV.out; omega)]
      have C := fun W hW => strconv_ParseInt t (by omega) W hW
      rw [e] at C
      clear e
      go_wp2_with (go_at_call 79; refine (C _ hL).mono ?_; rintro e w' ⟨ev, rfl, ⟨p, rfl⟩, hB⟩)
      go_ret
      exact ⟨rfl, hB⟩
set_option maxRecDepth 100000 in
set_option maxHeartbeats 4000000 in
theorem span_Scan (s : ByteArray) (hs : s.size ≤ 140737488355328) (w : World) (hL : LayU w) :
    Calls Tryz.prog 101 #[.string s] w fun e w' => e = .returned (.tuple #[.int .i64 (scanP s.data.toList).1, .int .i64 (scanP s.data.toList).2.1, encE (mkE (scanP s.data.toList).2.2)]) ∧ Below w.heap.size w w' := by
  have hsz : s.data.toList.length = s.size := rfl
  go_enter Tryz.func101, Tryz.ntmps101
  go_wp2
  go_loopg [5, 6, 7, 8] 9 (fun n v5 v6 v7 v8 wr => ∃ (lo a V : Nat) (sum : Int) (ov : Bool), v5 = .int .i64 sum ∧ v6 = .bool ov ∧ v7 = .int .i64 a ∧ v8 = .int .i64 ((lo : Int) - 1) ∧ a ≤ s.size ∧ lo + n = 9 ∧ lo ≤ 8 ∧
    Hid (ov = decide (9223372036854775807 < V)) ∧ 0 ≤ sum ∧ sum ≤ 9223372036854775807 ∧ Hid (V ≤ 9223372036854775807 → sum = V) ∧
    Hid ((scanG 0 s.data.toList).1 = a + (scanG lo (s.data.toList.drop a)).1) ∧ Hid ((scanG 0 s.data.toList).2 = V + (scanG lo (s.data.toList.drop a)).2) ∧ Sq LayU w wr)
  case atStart => exact ⟨0, 0, 0, 0, false, rfl, rfl, rfl, rfl, Nat.zero_le _, rfl, by omega, Lib.hid rfl, by omega, by omega, Lib.hid (fun _ => rfl), Lib.hid (by simp), Lib.hid (by simp), Sq.start hL⟩
  case round =>
    obtain ⟨lo, a, V, sum, ov, rfl, rfl, rfl, rfl, ha, hn, hlo, HO, s0, s1, HM, HS1, HS2, st⟩ := hrel
    have HN := Lib.hid hn
    clear hn
    have CD := fun W => span_digits (s.extract a s.size) (by simp; omega) W
    rw [ext_drop] at CD
    have hD : runD (s.data.toList.drop a) ≤ s.size - a := by have := runD_le (s.data.toList.drop a); rw [List.length_drop, hsz] at this; exact this
    have CU := fun W hW => span_unitAt (s.extract (a + runD (s.data.toList.drop a)) s.size) W hW
    rw [ext_drop, ← List.drop_drop] at CU
    have HP : Hid (partL (s.data.toList.drop a) = if runD (s.data.toList.drop a) = 0 ∨ unitL ((s.data.toList.drop a).drop (runD (s.data.toList.drop a))) < 0 then none else some ((unitL ((s.data.toList.drop a).drop (runD (s.data.toList.drop a)))).toNat, runD (s.data.toList.drop a) + (unitN (unitL ((s.data.toList.drop a).drop (runD (s.data.toList.drop a)))).toNat).length, decN ((s.data.toList.drop a).take (runD (s.data.toList.drop a))))) := Lib.hid rfl
    have HDD := Lib.hid (runD_take (s.data.toList.drop a))
    have u0 := unitL_lo ((s.data.toList.drop a).drop (runD (s.data.toList.drop a)))
    have u1 := unitL_hi ((s.data.toList.drop a).drop (runD (s.data.toList.drop a)))
    generalize unitL ((s.data.toList.drop a).drop (runD (s.data.toList.drop a))) = U at *
    generalize runD (s.data.toList.drop a) = D at *
    by_cases h0 : D = 0
    · subst h0
      have hz : (scanG lo (s.data.toList.drop a)) = (0, 0) := scanG_none (by rw [HP.out, if_pos (Or.inl rfl)])
      have HE1 : Hid ((scanG 0 s.data.toList).1 = a) := Lib.hid (by rw [HS1.out, hz]; rfl)
      have HE2 : Hid ((scanG 0 s.data.toList).2 = V) := Lib.hid (by rw [HS2.out, hz]; rfl)
      clear hz
      by_cases hz : a = 0
      · have ha0 : ((a : Int) == 0) = true := by simp [hz]
        have HR : Hid (scanP s.data.toList = (0, 0, 40)) := Lib.hid (by unfold scanP; rw [if_pos (by rw [HE1.out]; exact hz)])
        clear hz
        go_wp2_with (first | (go_at_call 122; refine (CD _).mono ?_; rintro e w' ⟨rfl, rfl⟩) | (go_at_call 123; refine (CU _ st.L.U).mono ?_; rintro e w1 ⟨rfl, hB1⟩; have st1 := st.next hB1) | (go_at_call 79; refine (CP _ st1.L.S).mono ?_; rintro e w2 ⟨ev, rfl, _, hB2⟩; have st2 := st1.next hB2; have zl := hZl _ st2.L.U) | (go_at_call 124; refine (CZ _ st2.L.S).mono ?_; rintro e w3 ⟨rfl, hB3⟩; have st2 := st2.next hB3; have zl := hZl _ st2.L.U) | (go_at_call 125; refine (CM _).mono ?_; rintro e w4 ⟨rfl, hB4⟩; have st4 := st2.next hB4; have zn := hZn _ st4.L.U) | (go_at_call 126; refine (CA _).mono ?_; rintro e w5 ⟨rfl, rfl⟩) | (go_at_call 27; refine (fault_New _ _).mono ?_; rintro e w6 ⟨rfl, rfl⟩))
        go_ret3
        exact ⟨by rw [HR.out]; rfl, st1.B⟩
      have ha0 : ((a : Int) == 0) = false := by simpa using hz
      have hz1 : ¬ (scanG 0 s.data.toList).1 = 0 := by rw [HE1.out]; exact hz
      cases ov with
      | true =>
        have HR : Hid (scanP s.data.toList = (0, 0, 20)) := Lib.hid (by unfold scanP; rw [if_neg hz1, if_pos (by rw [HE2.out]; exact of_decide_eq_true HO.out.symm)])
        clear hz hz1
        go_wp2_with (first | (go_at_call 122; refine (CD _).mono ?_; rintro e w' ⟨rfl, rfl⟩) | (go_at_call 123; refine (CU _ st.L.U).mono ?_; rintro e w1 ⟨rfl, hB1⟩; have st1 := st.next hB1) | (go_at_call 79; refine (CP _ st1.L.S).mono ?_; rintro e w2 ⟨ev, rfl, _, hB2⟩; have st2 := st1.next hB2; have zl := hZl _ st2.L.U) | (go_at_call 124; refine (CZ _ st2.L.S).mono ?_; rintro e w3 ⟨rfl, hB3⟩; have st2 := st2.next hB3; have zl := hZl _ st2.L.U) | (go_at_call 125; refine (CM _).mono ?_; rintro e w4 ⟨rfl, hB4⟩; have st4 := st2.next hB4; have zn := hZn _ st4.L.U) | (go_at_call 126; refine (CA _).mono ?_; rintro e w5 ⟨rfl, rfl⟩) | (go_at_call 27; refine (fault_New _ _).mono ?_; rintro e w6 ⟨rfl, rfl⟩))
        go_ret3
        exact ⟨by rw [HR.out]; rfl, st1.B⟩
      | false =>
        have hV : ¬ 9223372036854775807 < V := of_decide_eq_false HO.out.symm
        have HR : Hid (scanP s.data.toList = (sum, (a : Int), 0)) := Lib.hid (by unfold scanP; rw [if_neg hz1, if_neg (by rw [HE2.out]; exact hV), HE2.out, HE1.out, HM.out (by omega)])
        clear hz hz1 hV
        go_wp2_with (first | (go_at_call 122; refine (CD _).mono ?_; rintro e w' ⟨rfl, rfl⟩) | (go_at_call 123; refine (CU _ st.L.U).mono ?_; rintro e w1 ⟨rfl, hB1⟩; have st1 := st.next hB1) | (go_at_call 79; refine (CP _ st1.L.S).mono ?_; rintro e w2 ⟨ev, rfl, _, hB2⟩; have st2 := st1.next hB2; have zl := hZl _ st2.L.U) | (go_at_call 124; refine (CZ _ st2.L.S).mono ?_; rintro e w3 ⟨rfl, hB3⟩; have st2 := st2.next hB3; have zl := hZl _ st2.L.U) | (go_at_call 125; refine (CM _).mono ?_; rintro e w4 ⟨rfl, hB4⟩; have st4 := st2.next hB4; have zn := hZn _ st4.L.U) | (go_at_call 126; refine (CA _).mono ?_; rintro e w5 ⟨rfl, rfl⟩) | (go_at_call 27; refine (fault_New _ _).mono ?_; rintro e w6 ⟨rfl, rfl⟩))
        go_ret3
        exact ⟨by rw [HR.out]; rfl, st1.B⟩
    have h0' : ((D : Int) == 0) = false := by simpa using h0
    by_cases h1 : U ≤ (lo : Int) - 1
    · have hz : (scanG lo (s.data.toList.drop a)) = (0, 0) := by
        by_cases hneg : U < 0
        · exact scanG_none (by rw [HP.out, if_pos (Or.inr hneg)])
        · exact scanG_stop (by rw [HP.out, if_neg (by omega)]) (by omega)
      have HE1 : Hid ((scanG 0 s.data.toList).1 = a) := Lib.hid (by rw [HS1.out, hz]; rfl)
      have HE2 : Hid ((scanG 0 s.data.toList).2 = V) := Lib.hid (by rw [HS2.out, hz]; rfl)
      clear hz h0
      by_cases hz : a = 0
      · have ha0 : ((a : Int) == 0) = true := by simp [hz]
        have HR : Hid (scanP s.data.toList = (0, 0, 40)) := Lib.hid (by unfold scanP; rw [if_pos (by rw [HE1.out]; exact hz)])
        clear hz
        go_wp2_with (first | (go_at_call 122; refine (CD _).mono ?_; rintro e w' ⟨rfl, rfl⟩) | (go_at_call 123; refine (CU _ st.L.U).mono ?_; rintro e w1 ⟨rfl, hB1⟩; have st1 := st.next hB1) | (go_at_call 79; refine (CP _ st1.L.S).mono ?_; rintro e w2 ⟨ev, rfl, _, hB2⟩; have st2 := st1.next hB2; have zl := hZl _ st2.L.U) | (go_at_call 124; refine (CZ _ st2.L.S).mono ?_; rintro e w3 ⟨rfl, hB3⟩; have st2 := st2.next hB3; have zl := hZl _ st2.L.U) | (go_at_call 125; refine (CM _).mono ?_; rintro e w4 ⟨rfl, hB4⟩; have st4 := st2.next hB4; have zn := hZn _ st4.L.U) | (go_at_call 126; refine (CA _).mono ?_; rintro e w5 ⟨rfl, rfl⟩) | (go_at_call 27; refine (fault_New _ _).mono ?_; rintro e w6 ⟨rfl, rfl⟩))
        go_ret3
        exact ⟨by rw [HR.out]; rfl, st1.B⟩
      have ha0 : ((a : Int) == 0) = false := by simpa using hz
      have hz1 : ¬ (scanG 0 s.data.toList).1 = 0 := by rw [HE1.out]; exact hz
      cases ov with
      | true =>
        have HR : Hid (scanP s.data.toList = (0, 0, 20)) := Lib.hid (by unfold scanP; rw [if_neg hz1, if_pos (by rw [HE2.out]; exact of_decide_eq_true HO.out.symm)])
        clear hz hz1
        go_wp2_with (first | (go_at_call 122; refine (CD _).mono ?_; rintro e w' ⟨rfl, rfl⟩) | (go_at_call 123; refine (CU _ st.L.U).mono ?_; rintro e w1 ⟨rfl, hB1⟩; have st1 := st.next hB1) | (go_at_call 79; refine (CP _ st1.L.S).mono ?_; rintro e w2 ⟨ev, rfl, _, hB2⟩; have st2 := st1.next hB2; have zl := hZl _ st2.L.U) | (go_at_call 124; refine (CZ _ st2.L.S).mono ?_; rintro e w3 ⟨rfl, hB3⟩; have st2 := st2.next hB3; have zl := hZl _ st2.L.U) | (go_at_call 125; refine (CM _).mono ?_; rintro e w4 ⟨rfl, hB4⟩; have st4 := st2.next hB4; have zn := hZn _ st4.L.U) | (go_at_call 126; refine (CA _).mono ?_; rintro e w5 ⟨rfl, rfl⟩) | (go_at_call 27; refine (fault_New _ _).mono ?_; rintro e w6 ⟨rfl, rfl⟩))
        go_ret3
        exact ⟨by rw [HR.out]; rfl, st1.B⟩
      | false =>
        have hV : ¬ 9223372036854775807 < V := of_decide_eq_false HO.out.symm
        have HR : Hid (scanP s.data.toList = (sum, (a : Int), 0)) := Lib.hid (by unfold scanP; rw [if_neg hz1, if_neg (by rw [HE2.out]; exact hV), HE2.out, HE1.out, HM.out (by omega)])
        clear hz hz1 hV
        go_wp2_with (first | (go_at_call 122; refine (CD _).mono ?_; rintro e w' ⟨rfl, rfl⟩) | (go_at_call 123; refine (CU _ st.L.U).mono ?_; rintro e w1 ⟨rfl, hB1⟩; have st1 := st.next hB1) | (go_at_call 79; refine (CP _ st1.L.S).mono ?_; rintro e w2 ⟨ev, rfl, _, hB2⟩; have st2 := st1.next hB2; have zl := hZl _ st2.L.U) | (go_at_call 124; refine (CZ _ st2.L.S).mono ?_; rintro e w3 ⟨rfl, hB3⟩; have st2 := st2.next hB3; have zl := hZl _ st2.L.U) | (go_at_call 125; refine (CM _).mono ?_; rintro e w4 ⟨rfl, hB4⟩; have st4 := st2.next hB4; have zn := hZn _ st4.L.U) | (go_at_call 126; refine (CA _).mono ?_; rintro e w5 ⟨rfl, rfl⟩) | (go_at_call 27; refine (fault_New _ _).mono ?_; rintro e w6 ⟨rfl, rfl⟩))
        go_ret3
        exact ⟨by rw [HR.out]; rfl, st1.B⟩
    · obtain ⟨u, rfl⟩ : ∃ u : Nat, U = u := ⟨U.toNat, by omega⟩
      have h1' : decide ((u : Int) ≤ (lo : Int) - 1) = false := by simp; omega
      have hlu : lo ≤ u := by omega
      have hp : partL (s.data.toList.drop a) = some (u, D + (unitN u).length, decN ((s.data.toList.drop a).take D)) := by rw [HP.out, if_neg (by omega)]; rfl
      have hpl := (partL_some hp).2.2
      rw [List.length_drop, hsz] at hpl
      have hgo := scanG_go hp hlu
      rw [List.drop_drop] at hgo
      have hlen := unitS_size u
      have hlen2 := unitN_len u
      rw [← hlen] at hgo hpl hlen2
      have hK0 := unitV_pos u
      have hsl := slice_mid s a D (by omega)
      have hK1 := unitV_le u
      have hT : (s.extract a (a + D)).data.toList = (s.data.toList.drop a).take D := ext_take s a D
      have hTn : (s.data.toList.drop a).take D ≠ [] := by
        intro e
        have := congrArg List.length e
        rw [List.length_take, List.length_drop, hsz] at this
        simp at this
        omega
      have hTa := atoiV_digits (s.extract a (a + D)) (by rw [hT]; exact hTn) (by rw [hT]; exact HDD.out)
      have hTz := fun hv W hW => span_zeros (s.extract a (a + D)) (by simp; omega) (by rw [hT]; exact hTn) (by rw [hT]; exact HDD.out) hv W hW
      have CP := fun W hW => strconv_ParseInt (s.extract a (a + D)) (by simp; omega) W hW
      rw [hT] at hTa hTz
      have hZn := fun W hW => units_name (w := W) hW (u := u) (by omega)
      have hZl := fun W hW => units_long (w := W) hW (u := u) (by omega)
      generalize decN ((s.data.toList.drop a).take D) = v at *
      obtain ⟨n0, hn0, hn1⟩ : ∃ n0 : Int, (v ≤ 9223372036854775807 → n0 = v) ∧ (9223372036854775807 < v → n0 = 9223372036854775807) := by
        by_cases h : v ≤ 9223372036854775807
        · exact ⟨v, fun _ => rfl, fun _ => by omega⟩
        · exact ⟨9223372036854775807, fun _ => by omega, fun _ => rfl⟩
      obtain ⟨m, b1, t, b2, f1, f2, m0, m1, t0, t1, n0a, n0b, hov, hsum⟩ := scan_step (V := V) (v := v) (U := unitV u) hK0 s0 s1 HM.out hn0 hn1
      obtain ⟨V', hV'⟩ : ∃ V' : Nat, V' = V + v * unitV u := ⟨_, rfl⟩
      rw [← hV'] at hov hsum
      have HG : Hid ((scanG 0 s.data.toList).1 = (a + (D + (unitS u).size)) + (scanG (u + 1) (s.data.toList.drop (a + (D + (unitS u).size)))).1 ∧ (scanG 0 s.data.toList).2 = V' + (scanG (u + 1) (s.data.toList.drop (a + (D + (unitS u).size)))).2) :=
        Lib.hid ⟨by rw [HS1.out, hgo]; show a + (_ + _) = _; omega, by rw [HS2.out, hgo]; show V + (_ + _) = _; omega⟩
      have HM' := Lib.hid hsum
      have CM := fun W => num_Mul n0 (unitV u) (by omega) (by omega) (by omega) (by omega) W
      have CA := fun W => num_Add sum m (by omega) (by omega) (by omega) (by omega) W
      rw [f1] at CM
      rw [f2] at CA
      rw [← mkE_isSome b1, ← mkE_isSome b2, ← HO.out] at hov
      have N1 := fun W => encE_neq (mkE b1) W
      have N2 := fun W => encE_neq (mkE b2) W
      have G1 := er_guardE (mkE b1)
      have G2 := er_guardE (mkE b2)
      generalize encE (mkE b1) = v1 at *
      generalize encE (mkE b2) = v2 at *
      generalize (mkE b1).isSome = c1 at *
      generalize (mkE b2).isSome = c2 at *
      generalize (unitV u : Int) = K at *
      generalize unitS u = nm at *
      have HH := Lib.hid hov
      clear h0 h1 hp hgo hlen hov hsum hV' f1 f2 hT hTn hK0 hK1
      by_cases hv : v ≤ 9223372036854775807
      · obtain rfl := hn0 hv
        rw [if_pos hv] at hTa
        rw [hTa] at CP
        have hv2 : decide (9223372036854775807 < v) = false := by simp; omega
        rw [hv2] at HH
        clear hTa hTz hn0 hn1 hv hv2
        cases ov with
        | true =>
          have HO' : Hid (true = decide (9223372036854775807 < V')) := Lib.hid (by rw [HH.out]; simp)
          go_wp2_with (first | (go_at_call 122; refine (CD _).mono ?_; rintro e w' ⟨rfl, rfl⟩) | (go_at_call 123; refine (CU _ st.L.U).mono ?_; rintro e w1 ⟨rfl, hB1⟩; have st1 := st.next hB1) | (go_at_call 79; refine (CP _ st1.L.S).mono ?_; rintro e w2 ⟨ev, rfl, rfl, hB2⟩; have st2 := st1.next hB2; have zl := hZl _ st2.L.U) | (go_at_call 124; refine (CZ _ st2.L.S).mono ?_; rintro e w3 ⟨rfl, hB3⟩; have st2 := st2.next hB3; have zl := hZl _ st2.L.U) | (go_at_call 125; refine (CM _).mono ?_; rintro e w4 ⟨rfl, hB4⟩; have st4 := st2.next hB4; have zn := hZn _ st4.L.U) | (go_at_call 126; refine (CA _).mono ?_; rintro e w5 ⟨rfl, rfl⟩) | (go_at_call 27; refine (fault_New _ _).mono ?_; rintro e w6 ⟨rfl, rfl⟩))
          have HN' := HN.out
          go_roundg (gk - (u + 1 - lo))
          case measure => omega
          case rel => exact ⟨u + 1, a + (D + nm.size), V', t, _, rfl, rfl, by go_num, by go_num, by omega, by omega, by omega, HO'.out, t0, t1, HM', HG.out.1, HG.out.2, st4⟩
        | false =>
          cases c1 with
          | true =>
            have HO' : Hid (true = decide (9223372036854775807 < V')) := Lib.hid (by rw [HH.out]; simp)
            go_wp2_with (first | (go_at_call 122; refine (CD _).mono ?_; rintro e w' ⟨rfl, rfl⟩) | (go_at_call 123; refine (CU _ st.L.U).mono ?_; rintro e w1 ⟨rfl, hB1⟩; have st1 := st.next hB1) | (go_at_call 79; refine (CP _ st1.L.S).mono ?_; rintro e w2 ⟨ev, rfl, rfl, hB2⟩; have st2 := st1.next hB2; have zl := hZl _ st2.L.U) | (go_at_call 124; refine (CZ _ st2.L.S).mono ?_; rintro e w3 ⟨rfl, hB3⟩; have st2 := st2.next hB3; have zl := hZl _ st2.L.U) | (go_at_call 125; refine (CM _).mono ?_; rintro e w4 ⟨rfl, hB4⟩; have st4 := st2.next hB4; have zn := hZn _ st4.L.U) | (go_at_call 126; refine (CA _).mono ?_; rintro e w5 ⟨rfl, rfl⟩) | (go_at_call 27; refine (fault_New _ _).mono ?_; rintro e w6 ⟨rfl, rfl⟩))
            have HN' := HN.out
            go_roundg (gk - (u + 1 - lo))
            case measure => omega
            case rel => exact ⟨u + 1, a + (D + nm.size), V', t, _, rfl, rfl, by go_num, by go_num, by omega, by omega, by omega, HO'.out, t0, t1, HM', HG.out.1, HG.out.2, st4⟩
          | false =>
            have HO' : Hid (c2 = decide (9223372036854775807 < V')) := Lib.hid (by rw [HH.out]; simp)
            cases c2
            all_goals
              go_wp2_with (first | (go_at_call 122; refine (CD _).mono ?_; rintro e w' ⟨rfl, rfl⟩) | (go_at_call 123; refine (CU _ st.L.U).mono ?_; rintro e w1 ⟨rfl, hB1⟩; have st1 := st.next hB1) | (go_at_call 79; refine (CP _ st1.L.S).mono ?_; rintro e w2 ⟨ev, rfl, rfl, hB2⟩; have st2 := st1.next hB2; have zl := hZl _ st2.L.U) | (go_at_call 124; refine (CZ _ st2.L.S).mono ?_; rintro e w3 ⟨rfl, hB3⟩; have st2 := st2.next hB3; have zl := hZl _ st2.L.U) | (go_at_call 125; refine (CM _).mono ?_; rintro e w4 ⟨rfl, hB4⟩; have st4 := st2.next hB4; have zn := hZn _ st4.L.U) | (go_at_call 126; refine (CA _).mono ?_; rintro e w5 ⟨rfl, rfl⟩) | (go_at_call 27; refine (fault_New _ _).mono ?_; rintro e w6 ⟨rfl, rfl⟩))
              have HN' := HN.out
              go_roundg (gk - (u + 1 - lo))
              case measure => omega
              case rel => exact ⟨u + 1, a + (D + nm.size), V', t, _, rfl, rfl, by go_num, by go_num, by omega, by omega, by omega, HO'.out, t0, t1, HM', HG.out.1, HG.out.2, st4⟩
      · obtain rfl := hn1 (by omega)
        have CZ := hTz (by omega)
        rw [if_neg hv] at hTa
        rw [hTa] at CP
        have hv2 : decide (9223372036854775807 < v) = true := by simp; omega
        rw [hv2] at HH
        have HO' : Hid (true = decide (9223372036854775807 < V')) := Lib.hid (by rw [HH.out]; simp)
        clear hTa hTz hn0 hn1 hv hv2
        cases ov
        all_goals
          go_wp2_with (first | (go_at_call 122; refine (CD _).mono ?_; rintro e w' ⟨rfl, rfl⟩) | (go_at_call 123; refine (CU _ st.L.U).mono ?_; rintro e w1 ⟨rfl, hB1⟩; have st1 := st.next hB1) | (go_at_call 79; refine (CP _ st1.L.S).mono ?_; rintro e w2 ⟨ev, rfl, ⟨p, rfl⟩, hB2⟩; have st2 := st1.next hB2; have zl := hZl _ st2.L.U) | (go_at_call 124; refine (CZ _ st2.L.S).mono ?_; rintro e w3 ⟨rfl, hB3⟩; have st2 := st2.next hB3; have zl := hZl _ st2.L.U) | (go_at_call 125; refine (CM _).mono ?_; rintro e w4 ⟨rfl, hB4⟩; have st4 := st2.next hB4; have zn := hZn _ st4.L.U) | (go_at_call 126; refine (CA _).mono ?_; rintro e w5 ⟨rfl, rfl⟩) | (go_at_call 27; refine (fault_New _ _).mono ?_; rintro e w6 ⟨rfl, rfl⟩))
          have HN' := HN.out
          go_roundg (gk - (u + 1 - lo))
          case measure => omega
          case rel => exact ⟨u + 1, a + (D + nm.size), V', t, _, rfl, rfl, by go_num, by go_num, by omega, by omega, by omega, HO'.out, t0, t1, HM', HG.out.1, HG.out.2, st4⟩
end Go.Proofs.YtmooibnedokllaaGreatDoor
