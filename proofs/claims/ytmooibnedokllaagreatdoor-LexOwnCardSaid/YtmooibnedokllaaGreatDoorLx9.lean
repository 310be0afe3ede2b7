/- Package lex: Next. -/
import Derived.Test.YtmooibnedokllaaGreatDoorLxa
import Derived.Test.YtmooibnedokllaaGreatDoorLx6
import Derived.Test.YtmooibnedokllaaGreatDoorLx8
import Derived.Deep.DeepCutAuto
import Derived.Deep.CutBlock
namespace Go.Proofs.YtmooibnedokllaaGreatDoor
open Go.RowKit
set_option linter.unusedSimpArgs false
set_option linter.unusedVariables false

/-- The block of a walk through Next: the result's token. -/
structure Xb (w0 w : World) : Prop where
  B : Below w0.heap.size w0 w
  ht : w.heap[w0.heap.size]? = some tokO
theorem Xb.start (w : World) : Xb w (w.alloc tokO) := ⟨by go_grown, (heap_new' _ _ _ (by first | omega | (simp only [World.size_alloc, World.size_setCell, World.size_drew, size_drewN'] <;> omega)))⟩
theorem Xb.next {w0 w w' : World} (t : Xb w0 w) (h : Below w.heap.size w w') : Xb w0 w' := ⟨t.B.trans (h.mono t.B.size), below_blk h (blk_lt' t.ht) t.ht⟩
set_option maxRecDepth 100000 in
set_option maxHeartbeats 4000000 in
theorem lex_Next (s : ByteArray) (at_ : Int) (hs : s.size ≤ 140737488355327) (w : World) (hL : LayU w) :
    Calls Tryz.prog 12 #[.string s, .int .i64 at_] w fun e w' =>
      e = .returned (.tuple #[(nTok (nextP s at_)).enc, .int .i64 (nEnd (nextP s at_)), encE (nErr (nextP s at_))]) ∧ Below w.heap.size w w' := by
  obtain ⟨R, hR⟩ : ∃ R, R = nextP s at_ := ⟨_, rfl⟩
  rw [← hR]
  have HR := Lib.hid hR
  clear hR
  obtain ⟨V0, hV0⟩ : ∃ V, V = nTok R := ⟨_, rfl⟩
  obtain ⟨V1, hV1⟩ : ∃ V, V = nEnd R := ⟨_, rfl⟩
  obtain ⟨V2, hV2⟩ : ∃ V, V = encE (nErr R) := ⟨_, rfl⟩
  rw [← hV0, ← hV1, ← hV2]
  have HV := Lib.hid (And.intro hV0 (And.intro hV1 hV2))
  clear hV0 hV1 hV2
  obtain ⟨v0, v1, v2, v3⟩ := V0
  simp only [Tok.enc]
  have t := Xb.start w
  by_cases h0 : 0 ≤ at_ ∧ at_ ≤ s.size
  case neg =>
    obtain rfl : R = .inr (2, none) := by rw [HR.out]; exact if_neg h0
    obtain ⟨hv, rfl, h2⟩ : (⟨v0, v1, v2, v3⟩ : Tok) = Tok.zero ∧ V1 = 0 ∧ V2 = encE (mkE 2) := HV.out
    simp only [Tok.mk.injEq, Tok.zero] at hv
    obtain ⟨hv0, hv1, hv2, hv3⟩ := hv
    replace hv0 := hv0.symm
    replace hv1 := hv1.symm
    replace hv2 := hv2.symm
    replace hv3 := hv3.symm
    subst hv0 hv1 hv2 hv3
    clear HV HR
    have N2 : ∀ W, Calls Tryz.prog 27 #[.int .i64 2] W fun ev w' => ev = .returned V2 ∧ W = w' := fun W => by rw [h2]; exact fault_New 2 W
    have N2 := Lib.hid N2
    clear h2
    by_cases h1 : at_ < 0
    · have k1 : decide (at_ < 0) = true := by simpa using h1
      clear h0 h1
      go_enter Tryz.func12, Tryz.ntmps12
      go_wp2_with fail
      refine (N2.out _).mono ?_
      rintro ev w' ⟨rfl, rfl⟩
      generalize w.alloc tokO = W0 at *
      have m1 := t.ht
      have HB0 := Lib.hid t.B
      have HT := fun v0 v1 v2 v3 => four_blk m1 v0 v1 v2 v3
      have ck0 := blk_cell' (m1) 0
      have cf0 := blk_free' (m1) 0
      have ck1 := blk_cell' (m1) 1
      have cf1 := blk_free' (m1) 1
      have ck2 := blk_cell' (m1) 2
      have cf2 := blk_free' (m1) 2
      have ck3 := blk_cell' (m1) 3
      have cf3 := blk_free' (m1) 3
      clear m1 t
      go_wp2
      exact bodyPost_ret (results_three Tryz.results12 (res_cell (T' := 30) (fr := (0, 0)) rfl (HT _ _ _ _) Tryz.underlying30 rfl (by kernel_rfl)) (res_tmp rfl) (res_tmp rfl)) rfl ⟨rfl, below_four HB0.out (Nat.le_refl _) _ _ _ _⟩
    · have k1 : decide (at_ < 0) = false := by simpa using h1
      have k2 : decide ((s.size : Int) < at_) = true := by rw [decide_eq_true_iff]; omega
      clear h0 h1
      go_enter Tryz.func12, Tryz.ntmps12
      go_wp2_with fail
      refine (N2.out _).mono ?_
      rintro ev w' ⟨rfl, rfl⟩
      generalize w.alloc tokO = W0 at *
      have m1 := t.ht
      have HB0 := Lib.hid t.B
      have HT := fun v0 v1 v2 v3 => four_blk m1 v0 v1 v2 v3
      have ck0 := blk_cell' (m1) 0
      have cf0 := blk_free' (m1) 0
      have ck1 := blk_cell' (m1) 1
      have cf1 := blk_free' (m1) 1
      have ck2 := blk_cell' (m1) 2
      have cf2 := blk_free' (m1) 2
      have ck3 := blk_cell' (m1) 3
      have cf3 := blk_free' (m1) 3
      clear m1 t
      go_wp2
      exact bodyPost_ret (results_three Tryz.results12 (res_cell (T' := 30) (fr := (0, 0)) rfl (HT _ _ _ _) Tryz.underlying30 rfl (by kernel_rfl)) (res_tmp rfl) (res_tmp rfl)) rfl ⟨rfl, below_four HB0.out (Nat.le_refl _) _ _ _ _⟩
  obtain ⟨a0, rfl⟩ : ∃ a0 : Nat, at_ = (a0 : Int) := ⟨at_.toNat, by omega⟩
  have ha0 : a0 ≤ s.size := by omega
  have hRR : R = tokAt s (a0 + runP blankC (s.data.toList.drop a0)) := by rw [HR.out]; exact if_pos h0
  have hrl := runP_le blankC (s.data.toList.drop a0)
  rw [List.length_drop, show s.data.toList.length = s.size from rfl] at hrl
  obtain ⟨A, hA⟩ : ∃ A, A = a0 + runP blankC (s.data.toList.drop a0) := ⟨_, rfl⟩
  rw [← hA] at hRR
  have HR := Lib.hid hRR
  have HA := Lib.hid hA.symm
  have hAs : A ≤ s.size := by omega
  clear hRR hA hrl
  have k1 : decide ((a0 : Int) < 0) = false := by rw [decide_eq_false_iff_not]; omega
  have k2 : decide ((s.size : Int) < (a0 : Int)) = false := by rw [decide_eq_false_iff_not]; omega
  have k2n : decide (s.size < a0) = false := by rw [decide_eq_false_iff_not]; omega
  clear h0
  obtain ⟨W0, hW0⟩ : ∃ W0, W0 = w.alloc tokO := ⟨_, rfl⟩
  rw [← hW0] at t
  have HW0 := Lib.hid hW0
  clear hW0
  go_enter Tryz.func12, Tryz.ntmps12
  go_upto_block 0 with (fail)
  go_cut [1] (fun v1 wc => v1 = .int .i64 (A : Int) ∧ W0 = wc)
  case first =>
    clear HV HR t
    go_wp2_with fail
    go_loopg [1] (s.size - a0) (fun m v1 wr => ∃ k : Nat, v1 = .int .i64 (k : Int) ∧ k + m = s.size ∧ Hid (k + runP blankC (s.data.toList.drop k) = A) ∧ Hid (W0 = wr))
    case atStart => exact ⟨a0, rfl, by omega, HA, HW0⟩
    case round =>
      obtain ⟨k, rfl, hm, HK, hWr⟩ := hrel
      by_cases hk : k < s.size
      · have hst := runP_step blankC s.data.toList k hk
        rw [show s.data.toList[k] = s[k] from rfl] at hst
        have hl : decide ((k : Int) < (s.size : Int)) = true := by rw [decide_eq_true_iff]; omega
        have CB := fun W => lex_blank s[k] W
        generalize blankC s[k] = x at *
        obtain ⟨ch, hc⟩ : ∃ ch : Nat, s[k].toNat = ch := ⟨_, rfl⟩
        rw [hc] at CB
        have HST := Lib.hid hst
        clear hst
        cases x with
        | true =>
          have HK2 : Hid (k + 1 + runP blankC (s.data.toList.drop (k + 1)) = A) := Lib.hid (by rw [← HK.out, HST.out]; simp; omega)
          clear HST HK
          go_wp2_with (go_at_call 28; (with_reducible refine (CB _).mono ?_); rintro e w' ⟨rfl, rfl⟩)
          go_roundg (gk - 1)
          case measure => omega
          case rel => exact ⟨k + 1, by go_num, by omega, HK2, hWr⟩
        | false =>
          have HK2 : Hid (A = k) := Lib.hid (by rw [← HK.out, HST.out]; simp)
          clear HST HK
          go_wp2_with (go_at_call 28; (with_reducible refine (CB _).mono ?_); rintro e w' ⟨rfl, rfl⟩)
          go_meet
          case rel => exact ⟨by rw [HK2.out], hWr.out⟩
      · have hl : decide ((k : Int) < (s.size : Int)) = false := by rw [decide_eq_false_iff_not]; omega
        have HK2 : Hid (A = k) := Lib.hid (by rw [← HK.out, runP_end blankC (by show s.size ≤ k; omega)]; rfl)
        clear HK
        go_wp2_with fail
        go_meet
        case rel => exact ⟨by rw [HK2.out], hWr.out⟩
  case rest =>
    clear HA HW0
    obtain ⟨rfl, rfl⟩ := hcut
    by_cases hend : A = s.size
    · have ke : ((A : Int) == (s.size : Int)) = true := by simp; omega
      have ke2 : decide (A = s.size) = true := by simpa using hend
      obtain rfl : R = .inl (⟨0, ⟨#[]⟩, 0, A⟩, A) := by rw [HR.out]; exact tokAt_end (Nat.le_of_eq hend.symm)
      obtain ⟨hv, rfl, h2⟩ : (⟨v0, v1, v2, v3⟩ : Tok) = ⟨0, ⟨#[]⟩, 0, A⟩ ∧ V1 = (A : Int) ∧ V2 = .nilIface := HV.out
      simp only [Tok.mk.injEq, Tok.zero] at hv
      obtain ⟨hv0, hv1, hv2, hv3⟩ := hv
      replace hv0 := hv0.symm
      replace hv1 := hv1.symm
      replace hv2 := hv2.symm
      replace hv3 := hv3.symm
      subst hv0 hv1 hv2 hv3
      subst h2
      clear HV HR
      clear hend
      have m1 := t.ht
      have HB0 := Lib.hid t.B
      have HT := fun v0 v1 v2 v3 => four_blk m1 v0 v1 v2 v3
      have ck0 := blk_cell' (m1) 0
      have cf0 := blk_free' (m1) 0
      have ck1 := blk_cell' (m1) 1
      have cf1 := blk_free' (m1) 1
      have ck2 := blk_cell' (m1) 2
      have cf2 := blk_free' (m1) 2
      have ck3 := blk_cell' (m1) 3
      have cf3 := blk_free' (m1) 3
      clear m1 t
      go_wp2
      exact bodyPost_ret (results_three Tryz.results12 (res_cell (T' := 30) (fr := (0, 0)) rfl (HT _ _ _ _) Tryz.underlying30 rfl (by kernel_rfl)) (res_tmp rfl) (res_tmp rfl)) rfl ⟨rfl, below_four HB0.out (Nat.le_refl _) _ _ _ _⟩
    have ha : A < s.size := by omega
    have ke : ((A : Int) == (s.size : Int)) = false := by simp; omega
    have hat := tokAt_at ha
    have CL := fun W => lex_letter s[A] W
    have CD := fun W => lex_digit s[A] W
    obtain ⟨cn, hcn⟩ : ∃ cn : Nat, s[A].toNat = cn := ⟨_, rfl⟩
    rw [hcn] at CL CD
    cases hlt : letterC s[A] with
    | true =>
      rw [hlt] at CL
      rw [hlt, if_pos rfl] at hat
      have CRW := Lib.hid (fun W => lex_row s A (by omega) hAs W)
      have hrl := runP_le wordC (s.data.toList.drop A)
      rw [List.length_drop, show s.data.toList.length = s.size from rfl] at hrl
      obtain ⟨e, he⟩ : ∃ e, e = A + runP wordC (s.data.toList.drop A) := ⟨_, rfl⟩
      rw [← he] at CRW hat
      have hAe : A ≤ e := by omega
      have hes : e ≤ s.size := by omega
      have hsl := slice_to s A e hAe hes
      obtain ⟨T, hT⟩ : ∃ T, T = s.extract A e := ⟨_, rfl⟩
      rw [← hT] at hsl hat
      obtain rfl : R = .inl (⟨1, T, 0, A⟩, e) := by rw [HR.out]; exact hat
      obtain ⟨hv, rfl, h2⟩ : (⟨v0, v1, v2, v3⟩ : Tok) = ⟨1, T, 0, A⟩ ∧ V1 = (e : Int) ∧ V2 = .nilIface := HV.out
      simp only [Tok.mk.injEq, Tok.zero] at hv
      obtain ⟨hv0, hv1, hv2, hv3⟩ := hv
      replace hv0 := hv0.symm
      replace hv1 := hv1.symm
      replace hv2 := hv2.symm
      replace hv3 := hv3.symm
      subst hv0 hv1 hv2 hv3
      subst h2
      clear HV HR
      clear hT hlt hat he hrl hend CD
      have CL := Lib.hid CL
      go_wp2_with fail
      refine (CL.out _).mono ?_
      rintro ev w' ⟨rfl, rfl⟩
      go_wp2_with fail
      refine (CRW.out _).mono ?_
      rintro ev w' ⟨rfl, rfl⟩
      have m1 := t.ht
      have HB0 := Lib.hid t.B
      have HT := fun v0 v1 v2 v3 => four_blk m1 v0 v1 v2 v3
      have ck0 := blk_cell' (m1) 0
      have cf0 := blk_free' (m1) 0
      have ck1 := blk_cell' (m1) 1
      have cf1 := blk_free' (m1) 1
      have ck2 := blk_cell' (m1) 2
      have cf2 := blk_free' (m1) 2
      have ck3 := blk_cell' (m1) 3
      have cf3 := blk_free' (m1) 3
      clear m1 t
      go_wp2
      exact bodyPost_ret (results_three Tryz.results12 (res_cell (T' := 30) (fr := (0, 0)) rfl (HT _ _ _ _) Tryz.underlying30 rfl (by kernel_rfl)) (res_tmp rfl) (res_tmp rfl)) rfl ⟨rfl, below_four HB0.out (Nat.le_refl _) _ _ _ _⟩
    | false =>
    rw [hlt] at CL
    rw [hlt, if_neg (by decide)] at hat
    have CL := Lib.hid CL
    cases hdg : isD s[A] with
    | true =>
      rw [hdg] at CD
      rw [hdg, if_pos rfl] at hat
      have CRW := Lib.hid (fun W => lex_row s A (by omega) hAs W)
      have hrl := runP_le wordC (s.data.toList.drop A)
      rw [List.length_drop, show s.data.toList.length = s.size from rfl] at hrl
      have hr1 : 1 ≤ runP wordC (s.data.toList.drop A) := by
        rw [runP_step wordC s.data.toList A ha]
        have : wordC s.data.toList[A] = true := by show (letterC s[A] || isD s[A]) = true; rw [hdg]; simp
        rw [if_pos this]; omega
      obtain ⟨e, he⟩ : ∃ e, e = A + runP wordC (s.data.toList.drop A) := ⟨_, rfl⟩
      rw [← he] at CRW hat
      have hAe : A < e := by omega
      have hes : e ≤ s.size := by omega
      have hRR : numberT s A e = R := hat.symm.trans HR.out.symm
      have CC : Hid (∀ W, LayU W → Calls Tryz.prog 32 #[.string s, .int .i64 (A : Int), .int .i64 (e : Int)] W fun ev w' => ev = .returned (.tuple #[.agg #[.int .u8 v0, .string v1, .int .i64 v2, .int .i64 v3], .int .i64 V1, V2]) ∧ Below W.heap.size W w') := Lib.hid (fun W hW => by
        have h := lex_number s A e (by omega) hAe hes W hW
        rw [hRR, ← HV.out.1, ← HV.out.2.1, ← HV.out.2.2] at h
        exact h)
      have CD := Lib.hid CD
      clear hlt hat hdg hend HV HR hRR he hrl hr1
      go_wp2_with fail
      refine (CL.out _).mono ?_
      rintro ev w' ⟨rfl, rfl⟩
      go_wp2_with fail
      refine (CD.out _).mono ?_
      rintro ev w' ⟨rfl, rfl⟩
      go_wp2_with fail
      refine (CRW.out _).mono ?_
      rintro ev w' ⟨rfl, rfl⟩
      go_wp2_with fail
      refine (CC.out _ (hL.below t.B)).mono ?_
      rintro ev w' ⟨rfl, hB⟩
      replace t := t.next hB
      clear hB
      have m1 := t.ht
      have HB0 := Lib.hid t.B
      have HT := fun v0 v1 v2 v3 => four_blk m1 v0 v1 v2 v3
      have ck0 := blk_cell' (m1) 0
      have cf0 := blk_free' (m1) 0
      have ck1 := blk_cell' (m1) 1
      have cf1 := blk_free' (m1) 1
      have ck2 := blk_cell' (m1) 2
      have cf2 := blk_free' (m1) 2
      have ck3 := blk_cell' (m1) 3
      have cf3 := blk_free' (m1) 3
      clear m1 t
      go_wp2
      exact bodyPost_ret (results_three Tryz.results12 (res_cell (T' := 30) (fr := (0, 0)) rfl (HT _ _ _ _) Tryz.underlying30 rfl (by kernel_rfl)) (res_tmp rfl) (res_tmp rfl)) rfl ⟨rfl, below_four HB0.out (Nat.le_refl _) _ _ _ _⟩
    | false =>
    rw [hdg] at CD
    rw [hdg, if_neg (by decide)] at hat
    have CD := Lib.hid CD
    by_cases hq : s[A] = 34 ∨ s[A] = 39
    · rw [if_pos hq] at hat
      have hRR : quotedT s A s[A] = R := hat.symm.trans HR.out.symm
      have CC : Hid (∀ W, Calls Tryz.prog 33 #[.string s, .int .i64 (A : Int)] W fun ev w' => ev = .returned (.tuple #[.agg #[.int .u8 v0, .string v1, .int .i64 v2, .int .i64 v3], .int .i64 V1, V2]) ∧ Below W.heap.size W w') := Lib.hid (fun W => by
        have h := lex_quoted s A hs ha hq W
        rw [hRR, ← HV.out.1, ← HV.out.2.1, ← HV.out.2.2] at h
        exact h)
      clear hlt hat hdg hend HV HR hRR
      rcases hq with hq | hq
      · have k34 : ((cn : Int) == 34) = true := by rw [← hcn, hq]; rfl
        have k39 : ((cn : Int) == 39) = false := by rw [← hcn, hq]; rfl
        clear hq
        go_wp2_with fail
        refine (CL.out _).mono ?_
        rintro ev w' ⟨rfl, rfl⟩
        go_wp2_with fail
        refine (CD.out _).mono ?_
        rintro ev w' ⟨rfl, rfl⟩
        go_wp2_with fail
        refine (CC.out _).mono ?_
        rintro ev w' ⟨rfl, hB⟩
        replace t := t.next hB
        clear hB
        have m1 := t.ht
        have HB0 := Lib.hid t.B
        have HT := fun v0 v1 v2 v3 => four_blk m1 v0 v1 v2 v3
        have ck0 := blk_cell' (m1) 0
        have cf0 := blk_free' (m1) 0
        have ck1 := blk_cell' (m1) 1
        have cf1 := blk_free' (m1) 1
        have ck2 := blk_cell' (m1) 2
        have cf2 := blk_free' (m1) 2
        have ck3 := blk_cell' (m1) 3
        have cf3 := blk_free' (m1) 3
        clear m1 t
        go_wp2
        exact bodyPost_ret (results_three Tryz.results12 (res_cell (T' := 30) (fr := (0, 0)) rfl (HT _ _ _ _) Tryz.underlying30 rfl (by kernel_rfl)) (res_tmp rfl) (res_tmp rfl)) rfl ⟨rfl, below_four HB0.out (Nat.le_refl _) _ _ _ _⟩
      · have k34 : ((cn : Int) == 34) = false := by rw [← hcn, hq]; rfl
        have k39 : ((cn : Int) == 39) = true := by rw [← hcn, hq]; rfl
        clear hq
        go_wp2_with fail
        refine (CL.out _).mono ?_
        rintro ev w' ⟨rfl, rfl⟩
        go_wp2_with fail
        refine (CD.out _).mono ?_
        rintro ev w' ⟨rfl, rfl⟩
        go_wp2_with fail
        refine (CC.out _).mono ?_
        rintro ev w' ⟨rfl, hB⟩
        replace t := t.next hB
        clear hB
        have m1 := t.ht
        have HB0 := Lib.hid t.B
        have HT := fun v0 v1 v2 v3 => four_blk m1 v0 v1 v2 v3
        have ck0 := blk_cell' (m1) 0
        have cf0 := blk_free' (m1) 0
        have ck1 := blk_cell' (m1) 1
        have cf1 := blk_free' (m1) 1
        have ck2 := blk_cell' (m1) 2
        have cf2 := blk_free' (m1) 2
        have ck3 := blk_cell' (m1) 3
        have cf3 := blk_free' (m1) 3
        clear m1 t
        go_wp2
        exact bodyPost_ret (results_three Tryz.results12 (res_cell (T' := 30) (fr := (0, 0)) rfl (HT _ _ _ _) Tryz.underlying30 rfl (by kernel_rfl)) (res_tmp rfl) (res_tmp rfl)) rfl ⟨rfl, below_four HB0.out (Nat.le_refl _) _ _ _ _⟩
    · rw [if_neg hq] at hat
      have h34 : ((cn : Int) == 34) = false := by rw [← hcn]; simp only [beq_eq_false_iff_ne, ne_eq]; exact fun e => hq (.inl (UInt8.toNat_inj.1 (by show _ = 34; omega)))
      have h39 : ((cn : Int) == 39) = false := by rw [← hcn]; simp only [beq_eq_false_iff_ne, ne_eq]; exact fun e => hq (.inr (UInt8.toNat_inj.1 (by show _ = 39; omega)))
      have HAT := Lib.hid (HR.out.trans hat)
      clear hlt hdg hq hend HR hat
      go_wp2_with fail
      refine (CL.out _).mono ?_
      rintro ev w' ⟨rfl, rfl⟩
      go_wp2_with fail
      refine (CD.out _).mono ?_
      rintro ev w' ⟨rfl, rfl⟩
      clear CL CD
      go_upto_region 16 with (fail)
      have hnx : (∃ d, s.data.toList[A + 1]? = some d ∧ ∃ h : A + 1 < s.size, s[A + 1] = d) ∨ (s.data.toList[A + 1]? = none ∧ s.size = A + 1) := by
        rcases Nat.lt_or_ge (A + 1) s.size with h | h
        · exact .inl ⟨s[A + 1], List.getElem?_eq_getElem (show A + 1 < s.data.toList.length from h), h, rfl⟩
        · exact .inr ⟨List.getElem?_eq_none (show s.data.toList.length ≤ A + 1 from h), by omega⟩
      by_cases hx : s[A] = 33
      · have hcc : cn = 33 := by rw [← hcn, hx]; rfl
        subst hcc
        rcases hnx with ⟨d, hd1, hlt1, hd2⟩ | ⟨hd1, hsz⟩
        · have kl : decide ((A : Int) + 1 < (s.size : Int)) = true := by rw [decide_eq_true_iff]; omega
          have ke1 : ((A : Int) + 1 == (s.size : Int)) = false := by simp; omega
          obtain ⟨dn, hdn⟩ : ∃ dn : Nat, s[A + 1].toNat = dn := ⟨_, rfl⟩
          by_cases h61 : d = 61
          · have k61 : ((dn : Int) == 61) = true := by rw [← hdn, hd2, h61]; rfl
            have k61x : ((dn : Int) != 61) = false := by rw [bne, k61]; rfl
            clear hd2
            obtain ⟨T, hT⟩ : ∃ T, T = s.extract A (A + 2) := ⟨_, rfl⟩
            have hsl := slice_to s A (A + 2) (by omega) (by omega)
            have hRR : R = .inl (⟨6, T, 0, A⟩, A + 2) := by rw [HAT.out, hT]; simp [signN, hx, hd1, h61]
            have e1 : ((A + 2 : Nat) : Int) = (A : Int) + 1 + 1 := by omega
            rw [← hT, e1] at hsl
            subst hRR
            obtain ⟨hv, hv4, h2⟩ : (⟨v0, v1, v2, v3⟩ : Tok) = ⟨6, T, 0, A⟩ ∧ V1 = ((A + 2 : Nat) : Int) ∧ V2 = .nilIface := HV.out
            rw [e1] at hv4
            subst hv4 h2
            simp only [Tok.mk.injEq] at hv
            obtain ⟨hv0, hv1, hv2, hv3⟩ := hv
            replace hv0 := hv0.symm
            replace hv1 := hv1.symm
            replace hv2 := hv2.symm
            replace hv3 := hv3.symm
            subst hv0 hv1 hv2 hv3
            clear HV HAT hT e1
            have m1 := t.ht
            have HB0 := Lib.hid t.B
            have HT := fun v0 v1 v2 v3 => four_blk m1 v0 v1 v2 v3
            have ck0 := blk_cell' (m1) 0
            have cf0 := blk_free' (m1) 0
            have ck1 := blk_cell' (m1) 1
            have cf1 := blk_free' (m1) 1
            have ck2 := blk_cell' (m1) 2
            have cf2 := blk_free' (m1) 2
            have ck3 := blk_cell' (m1) 3
            have cf3 := blk_free' (m1) 3
            clear m1 t
            go_wp2
            exact bodyPost_ret (results_three Tryz.results12 (res_cell (T' := 30) (fr := (0, 0)) rfl (HT _ _ _ _) Tryz.underlying30 rfl (by kernel_rfl)) (res_tmp rfl) (res_tmp rfl)) rfl ⟨rfl, below_four HB0.out (Nat.le_refl _) _ _ _ _⟩
          · have k61 : ((dn : Int) == 61) = false := by rw [← hdn, hd2]; simp only [beq_eq_false_iff_ne, ne_eq]; exact fun e => h61 (UInt8.toNat_inj.1 (by show _ = 61; omega))
            have k61x : ((dn : Int) != 61) = true := by rw [bne, k61]; rfl
            clear hd2
            have hRR : R = .inr (120, some A) := by rw [HAT.out]; simp [signN, hx, hd1, h61]
            subst hRR
            obtain ⟨hv, rfl, h2⟩ : (⟨v0, v1, v2, v3⟩ : Tok) = Tok.zero ∧ V1 = 0 ∧ V2 = encE (mkAt (A : Int) 120) := HV.out
            simp only [Tok.mk.injEq, Tok.zero] at hv
            obtain ⟨hv0, hv1, hv2, hv3⟩ := hv
            replace hv0 := hv0.symm
            replace hv1 := hv1.symm
            replace hv2 := hv2.symm
            replace hv3 := hv3.symm
            subst hv0 hv1 hv2 hv3
            have N3 : ∀ W, Calls Tryz.prog 34 #[.int .i64 (A : Int), .int .i64 120] W fun ev w' => ev = .returned V2 ∧ Below W.heap.size W w' := fun W => by rw [h2]; exact fault_At (A : Int) 120 W
            have N3 := Lib.hid N3
            clear h2
            clear HV HAT
            go_wp2_with fail
            refine (N3.out _).mono ?_
            rintro ev w' ⟨rfl, hB⟩
            replace t := t.next hB
            clear hB
            have m1 := t.ht
            have HB0 := Lib.hid t.B
            have HT := fun v0 v1 v2 v3 => four_blk m1 v0 v1 v2 v3
            have ck0 := blk_cell' (m1) 0
            have cf0 := blk_free' (m1) 0
            have ck1 := blk_cell' (m1) 1
            have cf1 := blk_free' (m1) 1
            have ck2 := blk_cell' (m1) 2
            have cf2 := blk_free' (m1) 2
            have ck3 := blk_cell' (m1) 3
            have cf3 := blk_free' (m1) 3
            clear m1 t
            go_wp2
            exact bodyPost_ret (results_three Tryz.results12 (res_cell (T' := 30) (fr := (0, 0)) rfl (HT _ _ _ _) Tryz.underlying30 rfl (by kernel_rfl)) (res_tmp rfl) (res_tmp rfl)) rfl ⟨rfl, below_four HB0.out (Nat.le_refl _) _ _ _ _⟩
        · have kl : decide ((A : Int) + 1 < (s.size : Int)) = false := by rw [decide_eq_false_iff_not]; omega
          have ke1 : ((A : Int) + 1 == (s.size : Int)) = true := by simp; omega
          have ke2 : ((A : Int) + 1 == (A : Int) + 1) = true := by simp
          have hRR : R = .inr (120, some A) := by rw [HAT.out]; simp [signN, hx, hd1]
          subst hRR
          obtain ⟨hv, rfl, h2⟩ : (⟨v0, v1, v2, v3⟩ : Tok) = Tok.zero ∧ V1 = 0 ∧ V2 = encE (mkAt (A : Int) 120) := HV.out
          simp only [Tok.mk.injEq, Tok.zero] at hv
          obtain ⟨hv0, hv1, hv2, hv3⟩ := hv
          replace hv0 := hv0.symm
          replace hv1 := hv1.symm
          replace hv2 := hv2.symm
          replace hv3 := hv3.symm
          subst hv0 hv1 hv2 hv3
          have N3 : ∀ W, Calls Tryz.prog 34 #[.int .i64 (A : Int), .int .i64 120] W fun ev w' => ev = .returned V2 ∧ Below W.heap.size W w' := fun W => by rw [h2]; exact fault_At (A : Int) 120 W
          have N3 := Lib.hid N3
          clear h2
          clear HV HAT
          go_wp2_with fail
          refine (N3.out _).mono ?_
          rintro ev w' ⟨rfl, hB⟩
          replace t := t.next hB
          clear hB
          have m1 := t.ht
          have HB0 := Lib.hid t.B
          have HT := fun v0 v1 v2 v3 => four_blk m1 v0 v1 v2 v3
          have ck0 := blk_cell' (m1) 0
          have cf0 := blk_free' (m1) 0
          have ck1 := blk_cell' (m1) 1
          have cf1 := blk_free' (m1) 1
          have ck2 := blk_cell' (m1) 2
          have cf2 := blk_free' (m1) 2
          have ck3 := blk_cell' (m1) 3
          have cf3 := blk_free' (m1) 3
          clear m1 t
          go_wp2
          exact bodyPost_ret (results_three Tryz.results12 (res_cell (T' := 30) (fr := (0, 0)) rfl (HT _ _ _ _) Tryz.underlying30 rfl (by kernel_rfl)) (res_tmp rfl) (res_tmp rfl)) rfl ⟨rfl, below_four HB0.out (Nat.le_refl _) _ _ _ _⟩
      have n33 : ((cn : Int) == 33) = false := by rw [← hcn]; simp only [beq_eq_false_iff_ne, ne_eq]; exact fun e => hx (UInt8.toNat_inj.1 (by show _ = 33; omega))
      by_cases hx60 : s[A] = 60
      · have hcc : cn = 60 := by rw [← hcn, hx60]; rfl
        subst hcc
        rcases hnx with ⟨d, hd1, hlt1, hd2⟩ | ⟨hd1, hsz⟩
        · have kl : decide ((A : Int) + 1 < (s.size : Int)) = true := by rw [decide_eq_true_iff]; omega
          have ke1 : ((A : Int) + 1 == (s.size : Int)) = false := by simp; omega
          obtain ⟨dn, hdn⟩ : ∃ dn : Nat, s[A + 1].toNat = dn := ⟨_, rfl⟩
          by_cases h61 : d = 61
          · have k61 : ((dn : Int) == 61) = true := by rw [← hdn, hd2, h61]; rfl
            have k61x : ((dn : Int) != 61) = false := by rw [bne, k61]; rfl
            clear hd2
            obtain ⟨T, hT⟩ : ∃ T, T = s.extract A (A + 2) := ⟨_, rfl⟩
            have hsl := slice_to s A (A + 2) (by omega) (by omega)
            have hRR : R = .inl (⟨6, T, 0, A⟩, A + 2) := by rw [HAT.out, hT]; simp [signN, hx60, hd1, h61]
            have e1 : ((A + 2 : Nat) : Int) = (A : Int) + 1 + 1 := by omega
            rw [← hT, e1] at hsl
            subst hRR
            obtain ⟨hv, hv4, h2⟩ : (⟨v0, v1, v2, v3⟩ : Tok) = ⟨6, T, 0, A⟩ ∧ V1 = ((A + 2 : Nat) : Int) ∧ V2 = .nilIface := HV.out
            rw [e1] at hv4
            subst hv4 h2
            simp only [Tok.mk.injEq] at hv
            obtain ⟨hv0, hv1, hv2, hv3⟩ := hv
            replace hv0 := hv0.symm
            replace hv1 := hv1.symm
            replace hv2 := hv2.symm
            replace hv3 := hv3.symm
            subst hv0 hv1 hv2 hv3
            clear HV HAT hT e1
            have m1 := t.ht
            have HB0 := Lib.hid t.B
            have HT := fun v0 v1 v2 v3 => four_blk m1 v0 v1 v2 v3
            have ck0 := blk_cell' (m1) 0
            have cf0 := blk_free' (m1) 0
            have ck1 := blk_cell' (m1) 1
            have cf1 := blk_free' (m1) 1
            have ck2 := blk_cell' (m1) 2
            have cf2 := blk_free' (m1) 2
            have ck3 := blk_cell' (m1) 3
            have cf3 := blk_free' (m1) 3
            clear m1 t
            go_wp2
            exact bodyPost_ret (results_three Tryz.results12 (res_cell (T' := 30) (fr := (0, 0)) rfl (HT _ _ _ _) Tryz.underlying30 rfl (by kernel_rfl)) (res_tmp rfl) (res_tmp rfl)) rfl ⟨rfl, below_four HB0.out (Nat.le_refl _) _ _ _ _⟩
          · have k61 : ((dn : Int) == 61) = false := by rw [← hdn, hd2]; simp only [beq_eq_false_iff_ne, ne_eq]; exact fun e => h61 (UInt8.toNat_inj.1 (by show _ = 61; omega))
            have k61x : ((dn : Int) != 61) = true := by rw [bne, k61]; rfl
            clear hd2
            obtain ⟨T, hT⟩ : ∃ T, T = s.extract A (A + 1) := ⟨_, rfl⟩
            have hsl := slice_to s A (A + 1) (by omega) (by omega)
            have hRR : R = .inl (⟨6, T, 0, A⟩, A + 1) := by rw [HAT.out, hT]; simp [signN, hx60, hd1, h61]
            have e1 : ((A + 1 : Nat) : Int) = (A : Int) + 1 := by omega
            rw [← hT, e1] at hsl
            subst hRR
            obtain ⟨hv, hv4, h2⟩ : (⟨v0, v1, v2, v3⟩ : Tok) = ⟨6, T, 0, A⟩ ∧ V1 = ((A + 1 : Nat) : Int) ∧ V2 = .nilIface := HV.out
            rw [e1] at hv4
            subst hv4 h2
            simp only [Tok.mk.injEq] at hv
            obtain ⟨hv0, hv1, hv2, hv3⟩ := hv
            replace hv0 := hv0.symm
            replace hv1 := hv1.symm
            replace hv2 := hv2.symm
            replace hv3 := hv3.symm
            subst hv0 hv1 hv2 hv3
            clear HV HAT hT e1
            have m1 := t.ht
            have HB0 := Lib.hid t.B
            have HT := fun v0 v1 v2 v3 => four_blk m1 v0 v1 v2 v3
            have ck0 := blk_cell' (m1) 0
            have cf0 := blk_free' (m1) 0
            have ck1 := blk_cell' (m1) 1
            have cf1 := blk_free' (m1) 1
            have ck2 := blk_cell' (m1) 2
            have cf2 := blk_free' (m1) 2
            have ck3 := blk_cell' (m1) 3
            have cf3 := blk_free' (m1) 3
            clear m1 t
            go_wp2
            exact bodyPost_ret (results_three Tryz.results12 (res_cell (T' := 30) (fr := (0, 0)) rfl (HT _ _ _ _) Tryz.underlying30 rfl (by kernel_rfl)) (res_tmp rfl) (res_tmp rfl)) rfl ⟨rfl, below_four HB0.out (Nat.le_refl _) _ _ _ _⟩
        · have kl : decide ((A : Int) + 1 < (s.size : Int)) = false := by rw [decide_eq_false_iff_not]; omega
          have ke1 : ((A : Int) + 1 == (s.size : Int)) = true := by simp; omega
          have ke2 : ((A : Int) + 1 == (A : Int) + 1) = true := by simp
          obtain ⟨T, hT⟩ : ∃ T, T = s.extract A (A + 1) := ⟨_, rfl⟩
          have hsl := slice_to s A (A + 1) (by omega) (by omega)
          have hRR : R = .inl (⟨6, T, 0, A⟩, A + 1) := by rw [HAT.out, hT]; simp [signN, hx60, hd1]
          have e1 : ((A + 1 : Nat) : Int) = (A : Int) + 1 := by omega
          rw [← hT, e1] at hsl
          subst hRR
          obtain ⟨hv, hv4, h2⟩ : (⟨v0, v1, v2, v3⟩ : Tok) = ⟨6, T, 0, A⟩ ∧ V1 = ((A + 1 : Nat) : Int) ∧ V2 = .nilIface := HV.out
          rw [e1] at hv4
          subst hv4 h2
          simp only [Tok.mk.injEq] at hv
          obtain ⟨hv0, hv1, hv2, hv3⟩ := hv
          replace hv0 := hv0.symm
          replace hv1 := hv1.symm
          replace hv2 := hv2.symm
          replace hv3 := hv3.symm
          subst hv0 hv1 hv2 hv3
          clear HV HAT hT e1
          have m1 := t.ht
          have HB0 := Lib.hid t.B
          have HT := fun v0 v1 v2 v3 => four_blk m1 v0 v1 v2 v3
          have ck0 := blk_cell' (m1) 0
          have cf0 := blk_free' (m1) 0
          have ck1 := blk_cell' (m1) 1
          have cf1 := blk_free' (m1) 1
          have ck2 := blk_cell' (m1) 2
          have cf2 := blk_free' (m1) 2
          have ck3 := blk_cell' (m1) 3
          have cf3 := blk_free' (m1) 3
          clear m1 t
          go_wp2
          exact bodyPost_ret (results_three Tryz.results12 (res_cell (T' := 30) (fr := (0, 0)) rfl (HT _ _ _ _) Tryz.underlying30 rfl (by kernel_rfl)) (res_tmp rfl) (res_tmp rfl)) rfl ⟨rfl, below_four HB0.out (Nat.le_refl _) _ _ _ _⟩
      have n60 : ((cn : Int) == 60) = false := by rw [← hcn]; simp only [beq_eq_false_iff_ne, ne_eq]; exact fun e => hx60 (UInt8.toNat_inj.1 (by show _ = 60; omega))
      by_cases hx62 : s[A] = 62
      · have hcc : cn = 62 := by rw [← hcn, hx62]; rfl
        subst hcc
        rcases hnx with ⟨d, hd1, hlt1, hd2⟩ | ⟨hd1, hsz⟩
        · have kl : decide ((A : Int) + 1 < (s.size : Int)) = true := by rw [decide_eq_true_iff]; omega
          have ke1 : ((A : Int) + 1 == (s.size : Int)) = false := by simp; omega
          obtain ⟨dn, hdn⟩ : ∃ dn : Nat, s[A + 1].toNat = dn := ⟨_, rfl⟩
          by_cases h61 : d = 61
          · have k61 : ((dn : Int) == 61) = true := by rw [← hdn, hd2, h61]; rfl
            have k61x : ((dn : Int) != 61) = false := by rw [bne, k61]; rfl
            clear hd2
            obtain ⟨T, hT⟩ : ∃ T, T = s.extract A (A + 2) := ⟨_, rfl⟩
            have hsl := slice_to s A (A + 2) (by omega) (by omega)
            have hRR : R = .inl (⟨6, T, 0, A⟩, A + 2) := by rw [HAT.out, hT]; simp [signN, hx62, hd1, h61]
            have e1 : ((A + 2 : Nat) : Int) = (A : Int) + 1 + 1 := by omega
            rw [← hT, e1] at hsl
            subst hRR
            obtain ⟨hv, hv4, h2⟩ : (⟨v0, v1, v2, v3⟩ : Tok) = ⟨6, T, 0, A⟩ ∧ V1 = ((A + 2 : Nat) : Int) ∧ V2 = .nilIface := HV.out
            rw [e1] at hv4
            subst hv4 h2
            simp only [Tok.mk.injEq] at hv
            obtain ⟨hv0, hv1, hv2, hv3⟩ := hv
            replace hv0 := hv0.symm
            replace hv1 := hv1.symm
            replace hv2 := hv2.symm
            replace hv3 := hv3.symm
            subst hv0 hv1 hv2 hv3
            clear HV HAT hT e1
            have m1 := t.ht
            have HB0 := Lib.hid t.B
            have HT := fun v0 v1 v2 v3 => four_blk m1 v0 v1 v2 v3
            have ck0 := blk_cell' (m1) 0
            have cf0 := blk_free' (m1) 0
            have ck1 := blk_cell' (m1) 1
            have cf1 := blk_free' (m1) 1
            have ck2 := blk_cell' (m1) 2
            have cf2 := blk_free' (m1) 2
            have ck3 := blk_cell' (m1) 3
            have cf3 := blk_free' (m1) 3
            clear m1 t
            go_wp2
            exact bodyPost_ret (results_three Tryz.results12 (res_cell (T' := 30) (fr := (0, 0)) rfl (HT _ _ _ _) Tryz.underlying30 rfl (by kernel_rfl)) (res_tmp rfl) (res_tmp rfl)) rfl ⟨rfl, below_four HB0.out (Nat.le_refl _) _ _ _ _⟩
          · have k61 : ((dn : Int) == 61) = false := by rw [← hdn, hd2]; simp only [beq_eq_false_iff_ne, ne_eq]; exact fun e => h61 (UInt8.toNat_inj.1 (by show _ = 61; omega))
            have k61x : ((dn : Int) != 61) = true := by rw [bne, k61]; rfl
            clear hd2
            obtain ⟨T, hT⟩ : ∃ T, T = s.extract A (A + 1) := ⟨_, rfl⟩
            have hsl := slice_to s A (A + 1) (by omega) (by omega)
            have hRR : R = .inl (⟨6, T, 0, A⟩, A + 1) := by rw [HAT.out, hT]; simp [signN, hx62, hd1, h61]
            have e1 : ((A + 1 : Nat) : Int) = (A : Int) + 1 := by omega
            rw [← hT, e1] at hsl
            subst hRR
            obtain ⟨hv, hv4, h2⟩ : (⟨v0, v1, v2, v3⟩ : Tok) = ⟨6, T, 0, A⟩ ∧ V1 = ((A + 1 : Nat) : Int) ∧ V2 = .nilIface := HV.out
            rw [e1] at hv4
            subst hv4 h2
            simp only [Tok.mk.injEq] at hv
            obtain ⟨hv0, hv1, hv2, hv3⟩ := hv
            replace hv0 := hv0.symm
            replace hv1 := hv1.symm
            replace hv2 := hv2.symm
            replace hv3 := hv3.symm
            subst hv0 hv1 hv2 hv3
            clear HV HAT hT e1
            have m1 := t.ht
            have HB0 := Lib.hid t.B
            have HT := fun v0 v1 v2 v3 => four_blk m1 v0 v1 v2 v3
            have ck0 := blk_cell' (m1) 0
            have cf0 := blk_free' (m1) 0
            have ck1 := blk_cell' (m1) 1
            have cf1 := blk_free' (m1) 1
            have ck2 := blk_cell' (m1) 2
            have cf2 := blk_free' (m1) 2
            have ck3 := blk_cell' (m1) 3
            have cf3 := blk_free' (m1) 3
            clear m1 t
            go_wp2
            exact bodyPost_ret (results_three Tryz.results12 (res_cell (T' := 30) (fr := (0, 0)) rfl (HT _ _ _ _) Tryz.underlying30 rfl (by kernel_rfl)) (res_tmp rfl) (res_tmp rfl)) rfl ⟨rfl, below_four HB0.out (Nat.le_refl _) _ _ _ _⟩
        · have kl : decide ((A : Int) + 1 < (s.size : Int)) = false := by rw [decide_eq_false_iff_not]; omega
          have ke1 : ((A : Int) + 1 == (s.size : Int)) = true := by simp; omega
          have ke2 : ((A : Int) + 1 == (A : Int) + 1) = true := by simp
          obtain ⟨T, hT⟩ : ∃ T, T = s.extract A (A + 1) := ⟨_, rfl⟩
          have hsl := slice_to s A (A + 1) (by omega) (by omega)
          have hRR : R = .inl (⟨6, T, 0, A⟩, A + 1) := by rw [HAT.out, hT]; simp [signN, hx62, hd1]
          have e1 : ((A + 1 : Nat) : Int) = (A : Int) + 1 := by omega
          rw [← hT, e1] at hsl
          subst hRR
          obtain ⟨hv, hv4, h2⟩ : (⟨v0, v1, v2, v3⟩ : Tok) = ⟨6, T, 0, A⟩ ∧ V1 = ((A + 1 : Nat) : Int) ∧ V2 = .nilIface := HV.out
          rw [e1] at hv4
          subst hv4 h2
          simp only [Tok.mk.injEq] at hv
          obtain ⟨hv0, hv1, hv2, hv3⟩ := hv
          replace hv0 := hv0.symm
          replace hv1 := hv1.symm
          replace hv2 := hv2.symm
          replace hv3 := hv3.symm
          subst hv0 hv1 hv2 hv3
          clear HV HAT hT e1
          have m1 := t.ht
          have HB0 := Lib.hid t.B
          have HT := fun v0 v1 v2 v3 => four_blk m1 v0 v1 v2 v3
          have ck0 := blk_cell' (m1) 0
          have cf0 := blk_free' (m1) 0
          have ck1 := blk_cell' (m1) 1
          have cf1 := blk_free' (m1) 1
          have ck2 := blk_cell' (m1) 2
          have cf2 := blk_free' (m1) 2
          have ck3 := blk_cell' (m1) 3
          have cf3 := blk_free' (m1) 3
          clear m1 t
          go_wp2
          exact bodyPost_ret (results_three Tryz.results12 (res_cell (T' := 30) (fr := (0, 0)) rfl (HT _ _ _ _) Tryz.underlying30 rfl (by kernel_rfl)) (res_tmp rfl) (res_tmp rfl)) rfl ⟨rfl, below_four HB0.out (Nat.le_refl _) _ _ _ _⟩
      have n62 : ((cn : Int) == 62) = false := by rw [← hcn]; simp only [beq_eq_false_iff_ne, ne_eq]; exact fun e => hx62 (UInt8.toNat_inj.1 (by show _ = 62; omega))
      clear hnx
      by_cases hx44 : s[A] = 44
      · have hcc : cn = 44 := by rw [← hcn, hx44]; rfl
        subst hcc
        obtain ⟨T, hT⟩ : ∃ T, T = s.extract A (A + 1) := ⟨_, rfl⟩
        have hsl := slice_to s A (A + 1) (by omega) (by omega)
        have hRR : R = .inl (⟨6, T, 0, A⟩, A + 1) := by rw [HAT.out, hT]; simp [signN, hx44]
        have e1 : ((A + 1 : Nat) : Int) = (A : Int) + 1 := by omega
        rw [← hT, e1] at hsl
        subst hRR
        obtain ⟨hv, hv4, h2⟩ : (⟨v0, v1, v2, v3⟩ : Tok) = ⟨6, T, 0, A⟩ ∧ V1 = ((A + 1 : Nat) : Int) ∧ V2 = .nilIface := HV.out
        rw [e1] at hv4
        subst hv4 h2
        simp only [Tok.mk.injEq] at hv
        obtain ⟨hv0, hv1, hv2, hv3⟩ := hv
        replace hv0 := hv0.symm
        replace hv1 := hv1.symm
        replace hv2 := hv2.symm
        replace hv3 := hv3.symm
        subst hv0 hv1 hv2 hv3
        clear HV HAT hT e1
        have m1 := t.ht
        have HB0 := Lib.hid t.B
        have HT := fun v0 v1 v2 v3 => four_blk m1 v0 v1 v2 v3
        have ck0 := blk_cell' (m1) 0
        have cf0 := blk_free' (m1) 0
        have ck1 := blk_cell' (m1) 1
        have cf1 := blk_free' (m1) 1
        have ck2 := blk_cell' (m1) 2
        have cf2 := blk_free' (m1) 2
        have ck3 := blk_cell' (m1) 3
        have cf3 := blk_free' (m1) 3
        clear m1 t
        go_wp2
        exact bodyPost_ret (results_three Tryz.results12 (res_cell (T' := 30) (fr := (0, 0)) rfl (HT _ _ _ _) Tryz.underlying30 rfl (by kernel_rfl)) (res_tmp rfl) (res_tmp rfl)) rfl ⟨rfl, below_four HB0.out (Nat.le_refl _) _ _ _ _⟩
      have n44 : ((cn : Int) == 44) = false := by rw [← hcn]; simp only [beq_eq_false_iff_ne, ne_eq]; exact fun e => hx44 (UInt8.toNat_inj.1 (by show _ = 44; omega))
      by_cases hx40 : s[A] = 40
      · have hcc : cn = 40 := by rw [← hcn, hx40]; rfl
        subst hcc
        obtain ⟨T, hT⟩ : ∃ T, T = s.extract A (A + 1) := ⟨_, rfl⟩
        have hsl := slice_to s A (A + 1) (by omega) (by omega)
        have hRR : R = .inl (⟨6, T, 0, A⟩, A + 1) := by rw [HAT.out, hT]; simp [signN, hx40]
        have e1 : ((A + 1 : Nat) : Int) = (A : Int) + 1 := by omega
        rw [← hT, e1] at hsl
        subst hRR
        obtain ⟨hv, hv4, h2⟩ : (⟨v0, v1, v2, v3⟩ : Tok) = ⟨6, T, 0, A⟩ ∧ V1 = ((A + 1 : Nat) : Int) ∧ V2 = .nilIface := HV.out
        rw [e1] at hv4
        subst hv4 h2
        simp only [Tok.mk.injEq] at hv
        obtain ⟨hv0, hv1, hv2, hv3⟩ := hv
        replace hv0 := hv0.symm
        replace hv1 := hv1.symm
        replace hv2 := hv2.symm
        replace hv3 := hv3.symm
        subst hv0 hv1 hv2 hv3
        clear HV HAT hT e1
        have m1 := t.ht
        have HB0 := Lib.hid t.B
        have HT := fun v0 v1 v2 v3 => four_blk m1 v0 v1 v2 v3
        have ck0 := blk_cell' (m1) 0
        have cf0 := blk_free' (m1) 0
        have ck1 := blk_cell' (m1) 1
        have cf1 := blk_free' (m1) 1
        have ck2 := blk_cell' (m1) 2
        have cf2 := blk_free' (m1) 2
        have ck3 := blk_cell' (m1) 3
        have cf3 := blk_free' (m1) 3
        clear m1 t
        go_wp2
        exact bodyPost_ret (results_three Tryz.results12 (res_cell (T' := 30) (fr := (0, 0)) rfl (HT _ _ _ _) Tryz.underlying30 rfl (by kernel_rfl)) (res_tmp rfl) (res_tmp rfl)) rfl ⟨rfl, below_four HB0.out (Nat.le_refl _) _ _ _ _⟩
      have n40 : ((cn : Int) == 40) = false := by rw [← hcn]; simp only [beq_eq_false_iff_ne, ne_eq]; exact fun e => hx40 (UInt8.toNat_inj.1 (by show _ = 40; omega))
      by_cases hx41 : s[A] = 41
      · have hcc : cn = 41 := by rw [← hcn, hx41]; rfl
        subst hcc
        obtain ⟨T, hT⟩ : ∃ T, T = s.extract A (A + 1) := ⟨_, rfl⟩
        have hsl := slice_to s A (A + 1) (by omega) (by omega)
        have hRR : R = .inl (⟨6, T, 0, A⟩, A + 1) := by rw [HAT.out, hT]; simp [signN, hx41]
        have e1 : ((A + 1 : Nat) : Int) = (A : Int) + 1 := by omega
        rw [← hT, e1] at hsl
        subst hRR
        obtain ⟨hv, hv4, h2⟩ : (⟨v0, v1, v2, v3⟩ : Tok) = ⟨6, T, 0, A⟩ ∧ V1 = ((A + 1 : Nat) : Int) ∧ V2 = .nilIface := HV.out
        rw [e1] at hv4
        subst hv4 h2
        simp only [Tok.mk.injEq] at hv
        obtain ⟨hv0, hv1, hv2, hv3⟩ := hv
        replace hv0 := hv0.symm
        replace hv1 := hv1.symm
        replace hv2 := hv2.symm
        replace hv3 := hv3.symm
        subst hv0 hv1 hv2 hv3
        clear HV HAT hT e1
        have m1 := t.ht
        have HB0 := Lib.hid t.B
        have HT := fun v0 v1 v2 v3 => four_blk m1 v0 v1 v2 v3
        have ck0 := blk_cell' (m1) 0
        have cf0 := blk_free' (m1) 0
        have ck1 := blk_cell' (m1) 1
        have cf1 := blk_free' (m1) 1
        have ck2 := blk_cell' (m1) 2
        have cf2 := blk_free' (m1) 2
        have ck3 := blk_cell' (m1) 3
        have cf3 := blk_free' (m1) 3
        clear m1 t
        go_wp2
        exact bodyPost_ret (results_three Tryz.results12 (res_cell (T' := 30) (fr := (0, 0)) rfl (HT _ _ _ _) Tryz.underlying30 rfl (by kernel_rfl)) (res_tmp rfl) (res_tmp rfl)) rfl ⟨rfl, below_four HB0.out (Nat.le_refl _) _ _ _ _⟩
      have n41 : ((cn : Int) == 41) = false := by rw [← hcn]; simp only [beq_eq_false_iff_ne, ne_eq]; exact fun e => hx41 (UInt8.toNat_inj.1 (by show _ = 41; omega))
      by_cases hx43 : s[A] = 43
      · have hcc : cn = 43 := by rw [← hcn, hx43]; rfl
        subst hcc
        obtain ⟨T, hT⟩ : ∃ T, T = s.extract A (A + 1) := ⟨_, rfl⟩
        have hsl := slice_to s A (A + 1) (by omega) (by omega)
        have hRR : R = .inl (⟨6, T, 0, A⟩, A + 1) := by rw [HAT.out, hT]; simp [signN, hx43]
        have e1 : ((A + 1 : Nat) : Int) = (A : Int) + 1 := by omega
        rw [← hT, e1] at hsl
        subst hRR
        obtain ⟨hv, hv4, h2⟩ : (⟨v0, v1, v2, v3⟩ : Tok) = ⟨6, T, 0, A⟩ ∧ V1 = ((A + 1 : Nat) : Int) ∧ V2 = .nilIface := HV.out
        rw [e1] at hv4
        subst hv4 h2
        simp only [Tok.mk.injEq] at hv
        obtain ⟨hv0, hv1, hv2, hv3⟩ := hv
        replace hv0 := hv0.symm
        replace hv1 := hv1.symm
        replace hv2 := hv2.symm
        replace hv3 := hv3.symm
        subst hv0 hv1 hv2 hv3
        clear HV HAT hT e1
        have m1 := t.ht
        have HB0 := Lib.hid t.B
        have HT := fun v0 v1 v2 v3 => four_blk m1 v0 v1 v2 v3
        have ck0 := blk_cell' (m1) 0
        have cf0 := blk_free' (m1) 0
        have ck1 := blk_cell' (m1) 1
        have cf1 := blk_free' (m1) 1
        have ck2 := blk_cell' (m1) 2
        have cf2 := blk_free' (m1) 2
        have ck3 := blk_cell' (m1) 3
        have cf3 := blk_free' (m1) 3
        clear m1 t
        go_wp2
        exact bodyPost_ret (results_three Tryz.results12 (res_cell (T' := 30) (fr := (0, 0)) rfl (HT _ _ _ _) Tryz.underlying30 rfl (by kernel_rfl)) (res_tmp rfl) (res_tmp rfl)) rfl ⟨rfl, below_four HB0.out (Nat.le_refl _) _ _ _ _⟩
      have n43 : ((cn : Int) == 43) = false := by rw [← hcn]; simp only [beq_eq_false_iff_ne, ne_eq]; exact fun e => hx43 (UInt8.toNat_inj.1 (by show _ = 43; omega))
      by_cases hx45 : s[A] = 45
      · have hcc : cn = 45 := by rw [← hcn, hx45]; rfl
        subst hcc
        obtain ⟨T, hT⟩ : ∃ T, T = s.extract A (A + 1) := ⟨_, rfl⟩
        have hsl := slice_to s A (A + 1) (by omega) (by omega)
        have hRR : R = .inl (⟨6, T, 0, A⟩, A + 1) := by rw [HAT.out, hT]; simp [signN, hx45]
        have e1 : ((A + 1 : Nat) : Int) = (A : Int) + 1 := by omega
        rw [← hT, e1] at hsl
        subst hRR
        obtain ⟨hv, hv4, h2⟩ : (⟨v0, v1, v2, v3⟩ : Tok) = ⟨6, T, 0, A⟩ ∧ V1 = ((A + 1 : Nat) : Int) ∧ V2 = .nilIface := HV.out
        rw [e1] at hv4
        subst hv4 h2
        simp only [Tok.mk.injEq] at hv
        obtain ⟨hv0, hv1, hv2, hv3⟩ := hv
        replace hv0 := hv0.symm
        replace hv1 := hv1.symm
        replace hv2 := hv2.symm
        replace hv3 := hv3.symm
        subst hv0 hv1 hv2 hv3
        clear HV HAT hT e1
        have m1 := t.ht
        have HB0 := Lib.hid t.B
        have HT := fun v0 v1 v2 v3 => four_blk m1 v0 v1 v2 v3
        have ck0 := blk_cell' (m1) 0
        have cf0 := blk_free' (m1) 0
        have ck1 := blk_cell' (m1) 1
        have cf1 := blk_free' (m1) 1
        have ck2 := blk_cell' (m1) 2
        have cf2 := blk_free' (m1) 2
        have ck3 := blk_cell' (m1) 3
        have cf3 := blk_free' (m1) 3
        clear m1 t
        go_wp2
        exact bodyPost_ret (results_three Tryz.results12 (res_cell (T' := 30) (fr := (0, 0)) rfl (HT _ _ _ _) Tryz.underlying30 rfl (by kernel_rfl)) (res_tmp rfl) (res_tmp rfl)) rfl ⟨rfl, below_four HB0.out (Nat.le_refl _) _ _ _ _⟩
      have n45 : ((cn : Int) == 45) = false := by rw [← hcn]; simp only [beq_eq_false_iff_ne, ne_eq]; exact fun e => hx45 (UInt8.toNat_inj.1 (by show _ = 45; omega))
      by_cases hx42 : s[A] = 42
      · have hcc : cn = 42 := by rw [← hcn, hx42]; rfl
        subst hcc
        obtain ⟨T, hT⟩ : ∃ T, T = s.extract A (A + 1) := ⟨_, rfl⟩
        have hsl := slice_to s A (A + 1) (by omega) (by omega)
        have hRR : R = .inl (⟨6, T, 0, A⟩, A + 1) := by rw [HAT.out, hT]; simp [signN, hx42]
        have e1 : ((A + 1 : Nat) : Int) = (A : Int) + 1 := by omega
        rw [← hT, e1] at hsl
        subst hRR
        obtain ⟨hv, hv4, h2⟩ : (⟨v0, v1, v2, v3⟩ : Tok) = ⟨6, T, 0, A⟩ ∧ V1 = ((A + 1 : Nat) : Int) ∧ V2 = .nilIface := HV.out
        rw [e1] at hv4
        subst hv4 h2
        simp only [Tok.mk.injEq] at hv
        obtain ⟨hv0, hv1, hv2, hv3⟩ := hv
        replace hv0 := hv0.symm
        replace hv1 := hv1.symm
        replace hv2 := hv2.symm
        replace hv3 := hv3.symm
        subst hv0 hv1 hv2 hv3
        clear HV HAT hT e1
        have m1 := t.ht
        have HB0 := Lib.hid t.B
        have HT := fun v0 v1 v2 v3 => four_blk m1 v0 v1 v2 v3
        have ck0 := blk_cell' (m1) 0
        have cf0 := blk_free' (m1) 0
        have ck1 := blk_cell' (m1) 1
        have cf1 := blk_free' (m1) 1
        have ck2 := blk_cell' (m1) 2
        have cf2 := blk_free' (m1) 2
        have ck3 := blk_cell' (m1) 3
        have cf3 := blk_free' (m1) 3
        clear m1 t
        go_wp2
        exact bodyPost_ret (results_three Tryz.results12 (res_cell (T' := 30) (fr := (0, 0)) rfl (HT _ _ _ _) Tryz.underlying30 rfl (by kernel_rfl)) (res_tmp rfl) (res_tmp rfl)) rfl ⟨rfl, below_four HB0.out (Nat.le_refl _) _ _ _ _⟩
      have n42 : ((cn : Int) == 42) = false := by rw [← hcn]; simp only [beq_eq_false_iff_ne, ne_eq]; exact fun e => hx42 (UInt8.toNat_inj.1 (by show _ = 42; omega))
      by_cases hx47 : s[A] = 47
      · have hcc : cn = 47 := by rw [← hcn, hx47]; rfl
        subst hcc
        obtain ⟨T, hT⟩ : ∃ T, T = s.extract A (A + 1) := ⟨_, rfl⟩
        have hsl := slice_to s A (A + 1) (by omega) (by omega)
        have hRR : R = .inl (⟨6, T, 0, A⟩, A + 1) := by rw [HAT.out, hT]; simp [signN, hx47]
        have e1 : ((A + 1 : Nat) : Int) = (A : Int) + 1 := by omega
        rw [← hT, e1] at hsl
        subst hRR
        obtain ⟨hv, hv4, h2⟩ : (⟨v0, v1, v2, v3⟩ : Tok) = ⟨6, T, 0, A⟩ ∧ V1 = ((A + 1 : Nat) : Int) ∧ V2 = .nilIface := HV.out
        rw [e1] at hv4
        subst hv4 h2
        simp only [Tok.mk.injEq] at hv
        obtain ⟨hv0, hv1, hv2, hv3⟩ := hv
        replace hv0 := hv0.symm
        replace hv1 := hv1.symm
        replace hv2 := hv2.symm
        replace hv3 := hv3.symm
        subst hv0 hv1 hv2 hv3
        clear HV HAT hT e1
        have m1 := t.ht
        have HB0 := Lib.hid t.B
        have HT := fun v0 v1 v2 v3 => four_blk m1 v0 v1 v2 v3
        have ck0 := blk_cell' (m1) 0
        have cf0 := blk_free' (m1) 0
        have ck1 := blk_cell' (m1) 1
        have cf1 := blk_free' (m1) 1
        have ck2 := blk_cell' (m1) 2
        have cf2 := blk_free' (m1) 2
        have ck3 := blk_cell' (m1) 3
        have cf3 := blk_free' (m1) 3
        clear m1 t
        go_wp2
        exact bodyPost_ret (results_three Tryz.results12 (res_cell (T' := 30) (fr := (0, 0)) rfl (HT _ _ _ _) Tryz.underlying30 rfl (by kernel_rfl)) (res_tmp rfl) (res_tmp rfl)) rfl ⟨rfl, below_four HB0.out (Nat.le_refl _) _ _ _ _⟩
      have n47 : ((cn : Int) == 47) = false := by rw [← hcn]; simp only [beq_eq_false_iff_ne, ne_eq]; exact fun e => hx47 (UInt8.toNat_inj.1 (by show _ = 47; omega))
      by_cases hx37 : s[A] = 37
      · have hcc : cn = 37 := by rw [← hcn, hx37]; rfl
        subst hcc
        obtain ⟨T, hT⟩ : ∃ T, T = s.extract A (A + 1) := ⟨_, rfl⟩
        have hsl := slice_to s A (A + 1) (by omega) (by omega)
        have hRR : R = .inl (⟨6, T, 0, A⟩, A + 1) := by rw [HAT.out, hT]; simp [signN, hx37]
        have e1 : ((A + 1 : Nat) : Int) = (A : Int) + 1 := by omega
        rw [← hT, e1] at hsl
        subst hRR
        obtain ⟨hv, hv4, h2⟩ : (⟨v0, v1, v2, v3⟩ : Tok) = ⟨6, T, 0, A⟩ ∧ V1 = ((A + 1 : Nat) : Int) ∧ V2 = .nilIface := HV.out
        rw [e1] at hv4
        subst hv4 h2
        simp only [Tok.mk.injEq] at hv
        obtain ⟨hv0, hv1, hv2, hv3⟩ := hv
        replace hv0 := hv0.symm
        replace hv1 := hv1.symm
        replace hv2 := hv2.symm
        replace hv3 := hv3.symm
        subst hv0 hv1 hv2 hv3
        clear HV HAT hT e1
        have m1 := t.ht
        have HB0 := Lib.hid t.B
        have HT := fun v0 v1 v2 v3 => four_blk m1 v0 v1 v2 v3
        have ck0 := blk_cell' (m1) 0
        have cf0 := blk_free' (m1) 0
        have ck1 := blk_cell' (m1) 1
        have cf1 := blk_free' (m1) 1
        have ck2 := blk_cell' (m1) 2
        have cf2 := blk_free' (m1) 2
        have ck3 := blk_cell' (m1) 3
        have cf3 := blk_free' (m1) 3
        clear m1 t
        go_wp2
        exact bodyPost_ret (results_three Tryz.results12 (res_cell (T' := 30) (fr := (0, 0)) rfl (HT _ _ _ _) Tryz.underlying30 rfl (by kernel_rfl)) (res_tmp rfl) (res_tmp rfl)) rfl ⟨rfl, below_four HB0.out (Nat.le_refl _) _ _ _ _⟩
      have n37 : ((cn : Int) == 37) = false := by rw [← hcn]; simp only [beq_eq_false_iff_ne, ne_eq]; exact fun e => hx37 (UInt8.toNat_inj.1 (by show _ = 37; omega))
      by_cases hx61 : s[A] = 61
      · have hcc : cn = 61 := by rw [← hcn, hx61]; rfl
        subst hcc
        obtain ⟨T, hT⟩ : ∃ T, T = s.extract A (A + 1) := ⟨_, rfl⟩
        have hsl := slice_to s A (A + 1) (by omega) (by omega)
        have hRR : R = .inl (⟨6, T, 0, A⟩, A + 1) := by rw [HAT.out, hT]; simp [signN, hx61]
        have e1 : ((A + 1 : Nat) : Int) = (A : Int) + 1 := by omega
        rw [← hT, e1] at hsl
        subst hRR
        obtain ⟨hv, hv4, h2⟩ : (⟨v0, v1, v2, v3⟩ : Tok) = ⟨6, T, 0, A⟩ ∧ V1 = ((A + 1 : Nat) : Int) ∧ V2 = .nilIface := HV.out
        rw [e1] at hv4
        subst hv4 h2
        simp only [Tok.mk.injEq] at hv
        obtain ⟨hv0, hv1, hv2, hv3⟩ := hv
        replace hv0 := hv0.symm
        replace hv1 := hv1.symm
        replace hv2 := hv2.symm
        replace hv3 := hv3.symm
        subst hv0 hv1 hv2 hv3
        clear HV HAT hT e1
        have m1 := t.ht
        have HB0 := Lib.hid t.B
        have HT := fun v0 v1 v2 v3 => four_blk m1 v0 v1 v2 v3
        have ck0 := blk_cell' (m1) 0
        have cf0 := blk_free' (m1) 0
        have ck1 := blk_cell' (m1) 1
        have cf1 := blk_free' (m1) 1
        have ck2 := blk_cell' (m1) 2
        have cf2 := blk_free' (m1) 2
        have ck3 := blk_cell' (m1) 3
        have cf3 := blk_free' (m1) 3
        clear m1 t
        go_wp2
        exact bodyPost_ret (results_three Tryz.results12 (res_cell (T' := 30) (fr := (0, 0)) rfl (HT _ _ _ _) Tryz.underlying30 rfl (by kernel_rfl)) (res_tmp rfl) (res_tmp rfl)) rfl ⟨rfl, below_four HB0.out (Nat.le_refl _) _ _ _ _⟩
      have n61 : ((cn : Int) == 61) = false := by rw [← hcn]; simp only [beq_eq_false_iff_ne, ne_eq]; exact fun e => hx61 (UInt8.toNat_inj.1 (by show _ = 61; omega))
      have hRR : R = .inr (120, some A) := by rw [HAT.out]; simp [signN, hx, hx60, hx62, hx44, hx40, hx41, hx43, hx45, hx42, hx47, hx37, hx61]
      subst hRR
      obtain ⟨hv, rfl, h2⟩ : (⟨v0, v1, v2, v3⟩ : Tok) = Tok.zero ∧ V1 = 0 ∧ V2 = encE (mkAt (A : Int) 120) := HV.out
      simp only [Tok.mk.injEq, Tok.zero] at hv
      obtain ⟨hv0, hv1, hv2, hv3⟩ := hv
      replace hv0 := hv0.symm
      replace hv1 := hv1.symm
      replace hv2 := hv2.symm
      replace hv3 := hv3.symm
      subst hv0 hv1 hv2 hv3
      have N3 : ∀ W, Calls Tryz.prog 34 #[.int .i64 (A : Int), .int .i64 120] W fun ev w' => ev = .returned V2 ∧ Below W.heap.size W w' := fun W => by rw [h2]; exact fault_At (A : Int) 120 W
      have N3 := Lib.hid N3
      clear h2
      clear HV HAT
      go_wp2_with fail
      refine (N3.out _).mono ?_
      rintro ev w' ⟨rfl, hB⟩
      replace t := t.next hB
      clear hB
      have m1 := t.ht
      have HB0 := Lib.hid t.B
      have HT := fun v0 v1 v2 v3 => four_blk m1 v0 v1 v2 v3
      have ck0 := blk_cell' (m1) 0
      have cf0 := blk_free' (m1) 0
      have ck1 := blk_cell' (m1) 1
      have cf1 := blk_free' (m1) 1
      have ck2 := blk_cell' (m1) 2
      have cf2 := blk_free' (m1) 2
      have ck3 := blk_cell' (m1) 3
      have cf3 := blk_free' (m1) 3
      clear m1 t
      go_wp2
      exact bodyPost_ret (results_three Tryz.results12 (res_cell (T' := 30) (fr := (0, 0)) rfl (HT _ _ _ _) Tryz.underlying30 rfl (by kernel_rfl)) (res_tmp rfl) (res_tmp rfl)) rfl ⟨rfl, below_four HB0.out (Nat.le_refl _) _ _ _ _⟩
end Go.Proofs.YtmooibnedokllaaGreatDoor
