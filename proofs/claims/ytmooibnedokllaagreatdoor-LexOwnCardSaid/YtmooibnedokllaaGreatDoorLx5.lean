/- The reference of package lex: Next. -/
import Derived.Test.YtmooibnedokllaaGreatDoorLxa
import Derived.Deep.DeepCutAuto
import Derived.Deep.CutBlock
namespace Go.Proofs.YtmooibnedokllaaGreatDoor
open Go.RowKit
set_option linter.unusedSimpArgs false
set_option linter.unusedVariables false

/-- The blocks of a walk through Next: the results' token and error. -/
structure Nb (w0 w : World) : Prop where
  B : Below w0.heap.size w0 w
  ht : w.heap[w0.heap.size]? = some tokO
  hb : w.heap[w0.heap.size + 1]? = some badOO
theorem Nb.start (w : World) : Nb w ((w.alloc tokO).alloc badOO) := ⟨by go_grown, (heap_old' _ _ _ (by first | omega | (simp only [World.size_alloc, World.size_setCell, World.size_drew, size_drewN'] <;> omega)) (heap_new' _ _ _ (by first | omega | (simp only [World.size_alloc, World.size_setCell, World.size_drew, size_drewN'] <;> omega)))), (heap_new' _ _ _ (by first | omega | (simp only [World.size_alloc, World.size_setCell, World.size_drew, size_drewN'] <;> omega)))⟩
theorem Nb.next {w0 w w' : World} (t : Nb w0 w) (h : Below w.heap.size w w') : Nb w0 w' := ⟨t.B.trans (h.mono t.B.size), below_blk h (blk_lt' t.ht) t.ht, below_blk h (blk_lt' t.hb) t.hb⟩
theorem Nb.alloc {w0 w : World} (t : Nb w0 w) (o : Obj) : Nb w0 (w.alloc o) := t.next ((Below.refl _ _).alloc (Nat.le_refl _) o)
set_option maxRecDepth 100000 in
set_option maxHeartbeats 4000000 in
theorem r12_Next (s : ByteArray) (at_ : Int) (hs : s.size ≤ 140737488355328) (w : World) (hL : LayS w) :
    Calls Tryz.prog 24 #[.string s, .int .i64 at_] w fun e w' =>
      e = .returned (.tuple #[(nTok (nextP s at_)).enc, .int .i64 (nEnd (nextP s at_)), (nBad (nextP s at_)).enc]) ∧ Below w.heap.size w w' := by
  obtain ⟨R, hR⟩ : ∃ R, R = nextP s at_ := ⟨_, rfl⟩
  rw [← hR]
  have HR := Lib.hid hR
  clear hR
  obtain ⟨V0, hV0⟩ : ∃ V, V = nTok R := ⟨_, rfl⟩
  obtain ⟨V1, hV1⟩ : ∃ V, V = nEnd R := ⟨_, rfl⟩
  obtain ⟨V2, hV2⟩ : ∃ V, V = nBad R := ⟨_, rfl⟩
  rw [← hV0, ← hV1, ← hV2]
  have HV := Lib.hid (And.intro hV0 (And.intro hV1 hV2))
  clear hV0 hV1 hV2
  obtain ⟨v0, v1, v2, v3⟩ := V0
  obtain ⟨b0, b1, b2, b3, b4⟩ := V2
  simp only [Tok.enc, Bad.enc]
  have t := Nb.start w
  by_cases h0 : 0 ≤ at_ ∧ at_ ≤ s.size
  case neg =>
    obtain rfl : R = .inr (2, none) := by rw [HR.out]; exact if_neg h0
    obtain ⟨hv, rfl, hb⟩ : (⟨v0, v1, v2, v3⟩ : Tok) = Tok.zero ∧ V1 = 0 ∧ (⟨b0, b1, b2, b3, b4⟩ : Bad) = ⟨2, 0, 0, false, false⟩ := HV.out
    simp only [Tok.mk.injEq, Bad.mk.injEq, Tok.zero] at hv hb
    obtain ⟨hv0, hv1, hv2, hv3⟩ := hv
    replace hv0 := hv0.symm
    replace hv1 := hv1.symm
    replace hv2 := hv2.symm
    replace hv3 := hv3.symm
    subst hv0 hv1 hv2 hv3
    obtain ⟨rfl, rfl, rfl, rfl, rfl⟩ := hb
    clear HV HR
    have N2 : ∀ W, Calls Tryz.prog 43 #[.int .i64 2] W fun ev w' => ev = .returned (.agg #[.int .i64 2, .int .i64 0, .int .i64 0, .bool false, .bool false]) ∧ Below W.heap.size W w' := fun W => weirref01_New 2 W
    have N2 := Lib.hid N2
    by_cases h1 : at_ < 0
    · have k1 : decide (at_ < 0) = true := by simpa using h1
      clear h0 h1
      go_enter Tryz.func24, Tryz.ntmps24
      go_wp2_with fail
      refine (N2.out _).mono ?_
      rintro ev w' ⟨rfl, hB⟩
      replace t := t.next hB
      clear hB
      have m1 := t.ht
      have m2 := t.hb
      have HB0 := Lib.hid t.B
      obtain ⟨u1, u2, u3⟩ := tok_ends w.heap.size (.int .u8 0) (.string ⟨#[]⟩) (.int .i64 0) (.int .i64 0) (.int .i64 2) (.int .i64 0) (.int .i64 0) (.bool false) (.bool false) m1 m2
      have HU := Lib.hid (And.intro u1 (And.intro u2 u3))
      have ck0 := blk_cell' (m1) 0
      have cf0 := blk_free' (m1) 0
      have ck1 := blk_cell' (m1) 1
      have cf1 := blk_free' (m1) 1
      have ck2 := blk_cell' (m1) 2
      have cf2 := blk_free' (m1) 2
      have ck3 := blk_cell' (m1) 3
      have cf3 := blk_free' (m1) 3
      have dk0 := blk_cell' (m2) 0
      have df0 := blk_free' (m2) 0
      have dk1 := blk_cell' (m2) 1
      have df1 := blk_free' (m2) 1
      have dk2 := blk_cell' (m2) 2
      have df2 := blk_free' (m2) 2
      have dk3 := blk_cell' (m2) 3
      have df3 := blk_free' (m2) 3
      have dk4 := blk_cell' (m2) 4
      have df4 := blk_free' (m2) 4
      clear m1 m2 u1 u2 u3 t
      go_wp2
      exact bodyPost_ret (results_three Tryz.results24 (res_cell (b := w.heap.size) (T' := 30) (fr := (0, 0)) rfl HU.out.1 Tryz.underlying30 rfl (by kernel_rfl)) (res_tmp rfl) (res_cell (b := w.heap.size + 1) (T' := 40) (fr := (0, 0)) rfl HU.out.2.1 Tryz.underlying40 rfl (by kernel_rfl))) rfl ⟨rfl, HB0.out.trans (HU.out.2.2 _ (Nat.le_refl _))⟩
    · have k1 : decide (at_ < 0) = false := by simpa using h1
      have k2 : decide ((s.size : Int) < at_) = true := by rw [decide_eq_true_iff]; omega
      clear h0 h1
      go_enter Tryz.func24, Tryz.ntmps24
      go_wp2_with fail
      refine (N2.out _).mono ?_
      rintro ev w' ⟨rfl, hB⟩
      replace t := t.next hB
      clear hB
      have m1 := t.ht
      have m2 := t.hb
      have HB0 := Lib.hid t.B
      obtain ⟨u1, u2, u3⟩ := tok_ends w.heap.size (.int .u8 0) (.string ⟨#[]⟩) (.int .i64 0) (.int .i64 0) (.int .i64 2) (.int .i64 0) (.int .i64 0) (.bool false) (.bool false) m1 m2
      have HU := Lib.hid (And.intro u1 (And.intro u2 u3))
      have ck0 := blk_cell' (m1) 0
      have cf0 := blk_free' (m1) 0
      have ck1 := blk_cell' (m1) 1
      have cf1 := blk_free' (m1) 1
      have ck2 := blk_cell' (m1) 2
      have cf2 := blk_free' (m1) 2
      have ck3 := blk_cell' (m1) 3
      have cf3 := blk_free' (m1) 3
      have dk0 := blk_cell' (m2) 0
      have df0 := blk_free' (m2) 0
      have dk1 := blk_cell' (m2) 1
      have df1 := blk_free' (m2) 1
      have dk2 := blk_cell' (m2) 2
      have df2 := blk_free' (m2) 2
      have dk3 := blk_cell' (m2) 3
      have df3 := blk_free' (m2) 3
      have dk4 := blk_cell' (m2) 4
      have df4 := blk_free' (m2) 4
      clear m1 m2 u1 u2 u3 t
      go_wp2
      exact bodyPost_ret (results_three Tryz.results24 (res_cell (b := w.heap.size) (T' := 30) (fr := (0, 0)) rfl HU.out.1 Tryz.underlying30 rfl (by kernel_rfl)) (res_tmp rfl) (res_cell (b := w.heap.size + 1) (T' := 40) (fr := (0, 0)) rfl HU.out.2.1 Tryz.underlying40 rfl (by kernel_rfl))) rfl ⟨rfl, HB0.out.trans (HU.out.2.2 _ (Nat.le_refl _))⟩
  obtain ⟨a0, rfl⟩ : ∃ a0 : Nat, at_ = (a0 : Int) := ⟨at_.toNat, by omega⟩
  have ha0 : a0 ≤ s.size := by omega
  have hRR : R = tokAt s (a0 + runP blankC (s.data.toList.drop a0)) := by rw [HR.out]; exact if_pos h0
  have HR := Lib.hid hRR
  have hrl := runP_le blankC (s.data.toList.drop a0)
  rw [List.length_drop, show s.data.toList.length = s.size from rfl] at hrl
  obtain ⟨A, hA⟩ : ∃ A, A = a0 + runP blankC (s.data.toList.drop a0) := ⟨_, rfl⟩
  rw [← hA] at hRR
  have HR := Lib.hid hRR
  have HA := Lib.hid hA.symm
  have hAs : A ≤ s.size := by omega
  clear hRR hA hrl
  have k1 : decide ((a0 : Int) < 0) = false := by rw [decide_eq_false_iff_not]; omega
  have k2 : decide ((s.size : Int) < (a0 : Int)) = false := by rw [decide_eq_false_iff_not]; omega
  have k2n : decide (s.size < a0) = false := by rw [decide_eq_false_iff_not]; omega
  clear h0
  obtain ⟨W0, hW0⟩ : ∃ W0, W0 = (w.alloc tokO).alloc badOO := ⟨_, rfl⟩
  rw [← hW0] at t
  have HW0 := Lib.hid hW0
  clear hW0
  go_enter Tryz.func24, Tryz.ntmps24
  go_upto_block 0 with (fail)
  go_cut [1] (fun v1 wc => v1 = .int .i64 (A : Int) ∧ W0 = wc)
  case first =>
    clear HV HR t
    go_wp2_with fail
    go_loopg [1] (s.size - a0) (fun m v1 wr => ∃ k : Nat, v1 = .int .i64 (k : Int) ∧ k + m = s.size ∧ Hid (k + runP blankC (s.data.toList.drop k) = A) ∧ Hid (W0 = wr))
    case atStart => exact ⟨a0, rfl, by omega, HA, HW0⟩
    case round =>
      obtain ⟨k, rfl, hm, HK, hWr⟩ := hrel
      by_cases hk : k < s.size
      · have hst := runP_step blankC s.data.toList k hk
        rw [show s.data.toList[k] = s[k] from rfl] at hst
        have hl : decide ((k : Int) < (s.size : Int)) = true := by rw [decide_eq_true_iff]; omega
        have CB := fun W => r12_blank s[k] W
        generalize blankC s[k] = x at *
        obtain ⟨ch, hc⟩ : ∃ ch : Nat, s[k].toNat = ch := ⟨_, rfl⟩
        rw [hc] at CB
        have HST := Lib.hid hst
        clear hst
        cases x with
        | true =>
          have HK2 : Hid (k + 1 + runP blankC (s.data.toList.drop (k + 1)) = A) := Lib.hid (by rw [← HK.out, HST.out]; simp; omega)
          clear HST HK
          go_wp2_with (go_at_call 44; (with_reducible refine (CB _).mono ?_); rintro e w' ⟨rfl, rfl⟩)
          go_roundg (gk - 1)
          case measure => omega
          case rel => exact ⟨k + 1, by go_num, by omega, HK2, hWr⟩
        | false =>
          have HK2 : Hid (A = k) := Lib.hid (by rw [← HK.out, HST.out]; simp)
          clear HST HK
          go_wp2_with (go_at_call 44; (with_reducible refine (CB _).mono ?_); rintro e w' ⟨rfl, rfl⟩)
          go_meet
          case rel => exact ⟨by rw [HK2.out], hWr.out⟩
      · have hl : decide ((k : Int) < (s.size : Int)) = false := by rw [decide_eq_false_iff_not]; omega
        have HK2 : Hid (A = k) := Lib.hid (by rw [← HK.out, runP_end blankC (by show s.size ≤ k; omega)]; rfl)
        clear HK
        go_wp2_with fail
        go_meet
        case rel => exact ⟨by rw [HK2.out], hWr.out⟩
  case rest =>
    clear HA HW0
    obtain ⟨rfl, rfl⟩ := hcut
    by_cases hend : A = s.size
    · have ke : ((A : Int) == (s.size : Int)) = true := by simp; omega
      have ke2 : decide (A = s.size) = true := by simpa using hend
      obtain rfl : R = .inl (⟨0, ⟨#[]⟩, 0, A⟩, A) := by rw [HR.out]; exact tokAt_end (Nat.le_of_eq hend.symm)
      obtain ⟨hv, rfl, hb⟩ : (⟨v0, v1, v2, v3⟩ : Tok) = ⟨0, ⟨#[]⟩, 0, A⟩ ∧ V1 = (A : Int) ∧ (⟨b0, b1, b2, b3, b4⟩ : Bad) = ⟨0, 0, 0, false, false⟩ := HV.out
      simp only [Tok.mk.injEq, Bad.mk.injEq, Tok.zero] at hv hb
      obtain ⟨hv0, hv1, hv2, hv3⟩ := hv
      replace hv0 := hv0.symm
      replace hv1 := hv1.symm
      replace hv2 := hv2.symm
      replace hv3 := hv3.symm
      subst hv0 hv1 hv2 hv3
      obtain ⟨rfl, rfl, rfl, rfl, rfl⟩ := hb
      clear HV HR
      clear hend
      have m1 := t.ht
      have m2 := t.hb
      have HB0 := Lib.hid t.B
      obtain ⟨u1, u2, u3⟩ := tok_ends w.heap.size (.int .u8 0) (.string ⟨#[]⟩) (.int .i64 0) (.int .i64 (A : Int)) (.int .i64 0) (.int .i64 0) (.int .i64 0) (.bool false) (.bool false) m1 m2
      have HU := Lib.hid (And.intro u1 (And.intro u2 u3))
      have ck0 := blk_cell' (m1) 0
      have cf0 := blk_free' (m1) 0
      have ck1 := blk_cell' (m1) 1
      have cf1 := blk_free' (m1) 1
      have ck2 := blk_cell' (m1) 2
      have cf2 := blk_free' (m1) 2
      have ck3 := blk_cell' (m1) 3
      have cf3 := blk_free' (m1) 3
      have dk0 := blk_cell' (m2) 0
      have df0 := blk_free' (m2) 0
      have dk1 := blk_cell' (m2) 1
      have df1 := blk_free' (m2) 1
      have dk2 := blk_cell' (m2) 2
      have df2 := blk_free' (m2) 2
      have dk3 := blk_cell' (m2) 3
      have df3 := blk_free' (m2) 3
      have dk4 := blk_cell' (m2) 4
      have df4 := blk_free' (m2) 4
      clear m1 m2 u1 u2 u3 t
      go_wp2
      exact bodyPost_ret (results_three Tryz.results24 (res_cell (b := w.heap.size) (T' := 30) (fr := (0, 0)) rfl HU.out.1 Tryz.underlying30 rfl (by kernel_rfl)) (res_tmp rfl) (res_cell (b := w.heap.size + 1) (T' := 40) (fr := (0, 0)) rfl HU.out.2.1 Tryz.underlying40 rfl (by kernel_rfl))) rfl ⟨rfl, HB0.out.trans (HU.out.2.2 _ (Nat.le_refl _))⟩
    have ha : A < s.size := by omega
    have ke : ((A : Int) == (s.size : Int)) = false := by simp; omega
    have hat := tokAt_at ha
    have CL := fun W => r12_letter s[A] W
    have CD := fun W => r12_digit s[A] W
    obtain ⟨cn, hcn⟩ : ∃ cn : Nat, s[A].toNat = cn := ⟨_, rfl⟩
    rw [hcn] at CL CD
    cases hlt : letterC s[A] with
    | true =>
      rw [hlt] at CL
      rw [hlt, if_pos rfl] at hat
      have CRW := Lib.hid (fun W => r12_row s A hs hAs W)
      have hrl := runP_le wordC (s.data.toList.drop A)
      rw [List.length_drop, show s.data.toList.length = s.size from rfl] at hrl
      obtain ⟨e, he⟩ : ∃ e, e = A + runP wordC (s.data.toList.drop A) := ⟨_, rfl⟩
      rw [← he] at CRW hat
      have hAe : A ≤ e := by omega
      have hes : e ≤ s.size := by omega
      have hsl := slice_to s A e hAe hes
      obtain ⟨T, hT⟩ : ∃ T, T = s.extract A e := ⟨_, rfl⟩
      rw [← hT] at hsl hat
      obtain rfl : R = .inl (⟨1, T, 0, A⟩, e) := by rw [HR.out]; exact hat
      obtain ⟨hv, rfl, hb⟩ : (⟨v0, v1, v2, v3⟩ : Tok) = ⟨1, T, 0, A⟩ ∧ V1 = (e : Int) ∧ (⟨b0, b1, b2, b3, b4⟩ : Bad) = ⟨0, 0, 0, false, false⟩ := HV.out
      simp only [Tok.mk.injEq, Bad.mk.injEq, Tok.zero] at hv hb
      obtain ⟨hv0, hv1, hv2, hv3⟩ := hv
      replace hv0 := hv0.symm
      replace hv1 := hv1.symm
      replace hv2 := hv2.symm
      replace hv3 := hv3.symm
      subst hv0 hv1 hv2 hv3
      obtain ⟨rfl, rfl, rfl, rfl, rfl⟩ := hb
      clear HV HR
      clear hT hlt hat he hrl hend CD
      have CL := Lib.hid CL
      go_wp2_with fail
      refine (CL.out _).mono ?_
      rintro ev w' ⟨rfl, rfl⟩
      go_wp2_with fail
      refine (CRW.out _).mono ?_
      rintro ev w' ⟨rfl, rfl⟩
      have m1 := t.ht
      have m2 := t.hb
      have HB0 := Lib.hid t.B
      obtain ⟨u1, u2, u3⟩ := tok_ends w.heap.size (.int .u8 1) (.string T) (.int .i64 0) (.int .i64 (A : Int)) (.int .i64 0) (.int .i64 0) (.int .i64 0) (.bool false) (.bool false) m1 m2
      have HU := Lib.hid (And.intro u1 (And.intro u2 u3))
      have ck0 := blk_cell' (m1) 0
      have cf0 := blk_free' (m1) 0
      have ck1 := blk_cell' (m1) 1
      have cf1 := blk_free' (m1) 1
      have ck2 := blk_cell' (m1) 2
      have cf2 := blk_free' (m1) 2
      have ck3 := blk_cell' (m1) 3
      have cf3 := blk_free' (m1) 3
      have dk0 := blk_cell' (m2) 0
      have df0 := blk_free' (m2) 0
      have dk1 := blk_cell' (m2) 1
      have df1 := blk_free' (m2) 1
      have dk2 := blk_cell' (m2) 2
      have df2 := blk_free' (m2) 2
      have dk3 := blk_cell' (m2) 3
      have df3 := blk_free' (m2) 3
      have dk4 := blk_cell' (m2) 4
      have df4 := blk_free' (m2) 4
      clear m1 m2 u1 u2 u3 t
      go_wp2
      exact bodyPost_ret (results_three Tryz.results24 (res_cell (b := w.heap.size) (T' := 30) (fr := (0, 0)) rfl HU.out.1 Tryz.underlying30 rfl (by kernel_rfl)) (res_tmp rfl) (res_cell (b := w.heap.size + 1) (T' := 40) (fr := (0, 0)) rfl HU.out.2.1 Tryz.underlying40 rfl (by kernel_rfl))) rfl ⟨rfl, HB0.out.trans (HU.out.2.2 _ (Nat.le_refl _))⟩
    | false =>
    rw [hlt] at CL
    rw [hlt, if_neg (by decide)] at hat
    have CL := Lib.hid CL
    cases hdg : isD s[A] with
    | true =>
      rw [hdg] at CD
      rw [hdg, if_pos rfl] at hat
      have CC := Lib.hid (fun W hW => r12_counted s A hs ha hdg W hW)
      rw [← hat] at CC
      have hRR : tokAt s A = R := HR.out.symm
      rw [hRR] at CC
      have CC : Hid (∀ W, LayS W → Calls Tryz.prog 46 #[.string s, .int .i64 (A : Int)] W fun e w' => e = .returned (.tuple #[.agg #[.int .u8 v0, .string v1, .int .i64 v2, .int .i64 v3], .int .i64 V1, .agg #[.int .i64 b0, .int .i64 b1, .int .i64 b2, .bool b3, .bool b4]]) ∧ Below W.heap.size W w') := Lib.hid (fun W hW => by
        have h := CC.out W hW
        rw [← HV.out.1, ← HV.out.2.1, ← HV.out.2.2] at h
        exact h)
      have CD := Lib.hid CD
      clear hlt hat hdg hend HV HR hRR
      go_wp2_with fail
      refine (CL.out _).mono ?_
      rintro ev w' ⟨rfl, rfl⟩
      go_wp2_with fail
      refine (CD.out _).mono ?_
      rintro ev w' ⟨rfl, rfl⟩
      go_wp2_with fail
      refine (CC.out _ (hL.below t.B)).mono ?_
      rintro ev w' ⟨rfl, hB⟩
      replace t := t.next hB
      clear hB
      have m1 := t.ht
      have m2 := t.hb
      have HB0 := Lib.hid t.B
      obtain ⟨u1, u2, u3⟩ := tok_ends w.heap.size (.int .u8 v0) (.string v1) (.int .i64 v2) (.int .i64 v3) (.int .i64 b0) (.int .i64 b1) (.int .i64 b2) (.bool b3) (.bool b4) m1 m2
      have HU := Lib.hid (And.intro u1 (And.intro u2 u3))
      have ck0 := blk_cell' (m1) 0
      have cf0 := blk_free' (m1) 0
      have ck1 := blk_cell' (m1) 1
      have cf1 := blk_free' (m1) 1
      have ck2 := blk_cell' (m1) 2
      have cf2 := blk_free' (m1) 2
      have ck3 := blk_cell' (m1) 3
      have cf3 := blk_free' (m1) 3
      have dk0 := blk_cell' (m2) 0
      have df0 := blk_free' (m2) 0
      have dk1 := blk_cell' (m2) 1
      have df1 := blk_free' (m2) 1
      have dk2 := blk_cell' (m2) 2
      have df2 := blk_free' (m2) 2
      have dk3 := blk_cell' (m2) 3
      have df3 := blk_free' (m2) 3
      have dk4 := blk_cell' (m2) 4
      have df4 := blk_free' (m2) 4
      clear m1 m2 u1 u2 u3 t
      go_wp2
      exact bodyPost_ret (results_three Tryz.results24 (res_cell (b := w.heap.size) (T' := 30) (fr := (0, 0)) rfl HU.out.1 Tryz.underlying30 rfl (by kernel_rfl)) (res_tmp rfl) (res_cell (b := w.heap.size + 1) (T' := 40) (fr := (0, 0)) rfl HU.out.2.1 Tryz.underlying40 rfl (by kernel_rfl))) rfl ⟨rfl, HB0.out.trans (HU.out.2.2 _ (Nat.le_refl _))⟩
    | false =>
    rw [hdg] at CD
    rw [hdg, if_neg (by decide)] at hat
    have CD := Lib.hid CD
    by_cases hq : s[A] = 34 ∨ s[A] = 39
    · rw [if_pos hq] at hat
      have CQ := Lib.hid (fun W => r12_quoted s A hs ha hq W)
      obtain ⟨p0, p1, p2⟩ := quoted_parts s A s[A]
      rw [← hat, ← HR.out] at p0 p1 p2
      have HVV := Lib.hid (And.intro (HV.out.1.trans p0) (And.intro (HV.out.2.1.trans p1) (HV.out.2.2.trans p2)))
      clear p0 p1 p2 HV HR hat hlt hdg hend
      generalize qL s[A] (s.data.toList.drop (A + 1)) = Q at *
      rcases hq with hq | hq
      · have k34 : ((cn : Int) == 34) = true := by rw [← hcn, hq]; rfl
        have k39 : ((cn : Int) == 39) = false := by rw [← hcn, hq]; rfl
        rw [hq] at HVV
        rcases Q with ⟨tx, n⟩ | _ | pe
        · obtain ⟨hv, rfl, hb⟩ := HVV.out
          simp only [Tok.mk.injEq, Bad.mk.injEq, qBad] at hv hb
          obtain ⟨rfl, rfl, rfl, rfl⟩ := hv
          obtain ⟨rfl, rfl, rfl, rfl, rfl⟩ := hb
          simp only [qText, qEnd, qBad, Bad.enc] at CQ ⊢
          clear HVV hq
          go_wp2_with fail
          refine (CL.out _).mono ?_
          rintro ev w' ⟨rfl, rfl⟩
          go_wp2_with fail
          refine (CD.out _).mono ?_
          rintro ev w' ⟨rfl, rfl⟩
          go_wp2_with fail
          refine (CQ.out _).mono ?_
          rintro ev w' ⟨rfl, hB⟩
          have hgz : w.heap.size + 1 < w'.heap.size := blk_lt' (t.next hB).hb
          have m3 := heap_alloc_new w' (.cells #[.int .i64 0, .int .i64 0, .int .i64 0, .bool false, .bool false] 40 (0, 0))
          replace t := (t.next hB).alloc (.cells #[.int .i64 0, .int .i64 0, .int .i64 0, .bool false, .bool false] 40 (0, 0))
          clear hB
          go_upto_region 17 with (fail)
          generalize w'.alloc _ = W at *
          generalize w'.heap.size = g at *
          have hn1 : ¬ g = w.heap.size := by omega
          have hn2 : ¬ g = w.heap.size + 1 := by omega
          have hn3 : ¬ w.heap.size = g := by omega
          have hn4 : ¬ w.heap.size + 1 = g := by omega
          have ek0 := blk_cell' (m3) 0
          have ef0 := blk_free' (m3) 0
          have ek1 := blk_cell' (m3) 1
          have ef1 := blk_free' (m3) 1
          have ek2 := blk_cell' (m3) 2
          have ef2 := blk_free' (m3) 2
          have ek3 := blk_cell' (m3) 3
          have ef3 := blk_free' (m3) 3
          have ek4 := blk_cell' (m3) 4
          have ef4 := blk_free' (m3) 4
          clear m3
          have m1 := t.ht
          have m2 := t.hb
          have HB0 := Lib.hid t.B
          obtain ⟨u1, u2, u3⟩ := tok_ends w.heap.size (.int .u8 2) (.string ⟨tx.toArray⟩) (.int .i64 0) (.int .i64 (A : Int)) (.int .i64 0) (.int .i64 0) (.int .i64 0) (.bool false) (.bool false) m1 m2
          have HU := Lib.hid (And.intro u1 (And.intro u2 u3))
          have ck0 := blk_cell' (m1) 0
          have cf0 := blk_free' (m1) 0
          have ck1 := blk_cell' (m1) 1
          have cf1 := blk_free' (m1) 1
          have ck2 := blk_cell' (m1) 2
          have cf2 := blk_free' (m1) 2
          have ck3 := blk_cell' (m1) 3
          have cf3 := blk_free' (m1) 3
          have dk0 := blk_cell' (m2) 0
          have df0 := blk_free' (m2) 0
          have dk1 := blk_cell' (m2) 1
          have df1 := blk_free' (m2) 1
          have dk2 := blk_cell' (m2) 2
          have df2 := blk_free' (m2) 2
          have dk3 := blk_cell' (m2) 3
          have df3 := blk_free' (m2) 3
          have dk4 := blk_cell' (m2) 4
          have df4 := blk_free' (m2) 4
          clear m1 m2 u1 u2 u3 t
          go_wp2
          exact bodyPost_ret (results_three Tryz.results24 (res_cell (b := w.heap.size) (T' := 30) (fr := (0, 0)) rfl HU.out.1 Tryz.underlying30 rfl (by kernel_rfl)) (res_tmp rfl) (res_cell (b := w.heap.size + 1) (T' := 40) (fr := (0, 0)) rfl HU.out.2.1 Tryz.underlying40 rfl (by kernel_rfl))) rfl ⟨rfl, HB0.out.trans (HU.out.2.2 _ (Nat.le_refl _))⟩
        · obtain ⟨hv, rfl, hb⟩ := HVV.out
          simp only [Tok.mk.injEq, Bad.mk.injEq, Tok.zero, qBad, qEnd] at hv hb ⊢
          obtain ⟨rfl, rfl, rfl, rfl⟩ := hv
          obtain ⟨rfl, rfl, rfl, rfl, rfl⟩ := hb
          simp only [qText, qEnd, qBad, Bad.enc] at CQ ⊢
          clear HVV hq
          go_wp2_with fail
          refine (CL.out _).mono ?_
          rintro ev w' ⟨rfl, rfl⟩
          go_wp2_with fail
          refine (CD.out _).mono ?_
          rintro ev w' ⟨rfl, rfl⟩
          go_wp2_with fail
          refine (CQ.out _).mono ?_
          rintro ev w' ⟨rfl, hB⟩
          have hgz : w.heap.size + 1 < w'.heap.size := blk_lt' (t.next hB).hb
          have m3 := heap_alloc_new w' (.cells #[.int .i64 121, .int .i64 (A : Int), .int .i64 0, .bool true, .bool false] 40 (0, 0))
          replace t := (t.next hB).alloc (.cells #[.int .i64 121, .int .i64 (A : Int), .int .i64 0, .bool true, .bool false] 40 (0, 0))
          clear hB
          go_upto_region 16 with (fail)
          generalize w'.alloc _ = W at *
          generalize w'.heap.size = g at *
          have hn1 : ¬ g = w.heap.size := by omega
          have hn2 : ¬ g = w.heap.size + 1 := by omega
          have hn3 : ¬ w.heap.size = g := by omega
          have hn4 : ¬ w.heap.size + 1 = g := by omega
          have ek0 := blk_cell' (m3) 0
          have ef0 := blk_free' (m3) 0
          have ek1 := blk_cell' (m3) 1
          have ef1 := blk_free' (m3) 1
          have ek2 := blk_cell' (m3) 2
          have ef2 := blk_free' (m3) 2
          have ek3 := blk_cell' (m3) 3
          have ef3 := blk_free' (m3) 3
          have ek4 := blk_cell' (m3) 4
          have ef4 := blk_free' (m3) 4
          clear m3
          have m1 := t.ht
          have m2 := t.hb
          have HB0 := Lib.hid t.B
          obtain ⟨u1, u2, u3⟩ := tok_ends w.heap.size (.int .u8 0) (.string ⟨#[]⟩) (.int .i64 0) (.int .i64 0) (.int .i64 121) (.int .i64 (A : Int)) (.int .i64 0) (.bool true) (.bool false) m1 m2
          have HU := Lib.hid (And.intro u1 (And.intro u2 u3))
          have ck0 := blk_cell' (m1) 0
          have cf0 := blk_free' (m1) 0
          have ck1 := blk_cell' (m1) 1
          have cf1 := blk_free' (m1) 1
          have ck2 := blk_cell' (m1) 2
          have cf2 := blk_free' (m1) 2
          have ck3 := blk_cell' (m1) 3
          have cf3 := blk_free' (m1) 3
          have dk0 := blk_cell' (m2) 0
          have df0 := blk_free' (m2) 0
          have dk1 := blk_cell' (m2) 1
          have df1 := blk_free' (m2) 1
          have dk2 := blk_cell' (m2) 2
          have df2 := blk_free' (m2) 2
          have dk3 := blk_cell' (m2) 3
          have df3 := blk_free' (m2) 3
          have dk4 := blk_cell' (m2) 4
          have df4 := blk_free' (m2) 4
          clear m1 m2 u1 u2 u3 t
          go_wp2_with fail
          go_region
          all_goals (try go_wp2)
          all_goals exact bodyPost_ret (results_three Tryz.results24 (res_cell (b := w.heap.size) (T' := 30) (fr := (0, 0)) rfl (blk_drewn HU.out.1) Tryz.underlying30 rfl (by kernel_rfl)) (res_tmp rfl) (res_cell (b := w.heap.size + 1) (T' := 40) (fr := (0, 0)) rfl (blk_drewn HU.out.2.1) Tryz.underlying40 rfl (by kernel_rfl))) rfl ⟨rfl, (HB0.out.trans (HU.out.2.2 _ (Nat.le_refl _))).drew⟩
        · obtain ⟨hv, rfl, hb⟩ := HVV.out
          obtain ⟨pl, hpl⟩ : ∃ pl : Int, pl = ((A + 1 + pe : Nat) : Int) := ⟨_, rfl⟩
          simp only [Tok.mk.injEq, Bad.mk.injEq, Tok.zero, qBad, qEnd] at hv hb ⊢
          rw [← hpl] at hb
          obtain ⟨rfl, rfl, rfl, rfl⟩ := hv
          obtain ⟨rfl, rfl, rfl, rfl, rfl⟩ := hb
          simp only [qText, qEnd, qBad, Bad.enc] at CQ ⊢
          rw [← hpl] at CQ
          clear hpl
          clear HVV hq
          go_wp2_with fail
          refine (CL.out _).mono ?_
          rintro ev w' ⟨rfl, rfl⟩
          go_wp2_with fail
          refine (CD.out _).mono ?_
          rintro ev w' ⟨rfl, rfl⟩
          go_wp2_with fail
          refine (CQ.out _).mono ?_
          rintro ev w' ⟨rfl, hB⟩
          have hgz : w.heap.size + 1 < w'.heap.size := blk_lt' (t.next hB).hb
          have m3 := heap_alloc_new w' (.cells #[.int .i64 121, .int .i64 b1, .int .i64 0, .bool true, .bool false] 40 (0, 0))
          replace t := (t.next hB).alloc (.cells #[.int .i64 121, .int .i64 b1, .int .i64 0, .bool true, .bool false] 40 (0, 0))
          clear hB
          go_upto_region 16 with (fail)
          generalize w'.alloc _ = W at *
          generalize w'.heap.size = g at *
          have hn1 : ¬ g = w.heap.size := by omega
          have hn2 : ¬ g = w.heap.size + 1 := by omega
          have hn3 : ¬ w.heap.size = g := by omega
          have hn4 : ¬ w.heap.size + 1 = g := by omega
          have ek0 := blk_cell' (m3) 0
          have ef0 := blk_free' (m3) 0
          have ek1 := blk_cell' (m3) 1
          have ef1 := blk_free' (m3) 1
          have ek2 := blk_cell' (m3) 2
          have ef2 := blk_free' (m3) 2
          have ek3 := blk_cell' (m3) 3
          have ef3 := blk_free' (m3) 3
          have ek4 := blk_cell' (m3) 4
          have ef4 := blk_free' (m3) 4
          clear m3
          have m1 := t.ht
          have m2 := t.hb
          have HB0 := Lib.hid t.B
          obtain ⟨u1, u2, u3⟩ := tok_ends w.heap.size (.int .u8 0) (.string ⟨#[]⟩) (.int .i64 0) (.int .i64 0) (.int .i64 121) (.int .i64 b1) (.int .i64 0) (.bool true) (.bool false) m1 m2
          have HU := Lib.hid (And.intro u1 (And.intro u2 u3))
          have ck0 := blk_cell' (m1) 0
          have cf0 := blk_free' (m1) 0
          have ck1 := blk_cell' (m1) 1
          have cf1 := blk_free' (m1) 1
          have ck2 := blk_cell' (m1) 2
          have cf2 := blk_free' (m1) 2
          have ck3 := blk_cell' (m1) 3
          have cf3 := blk_free' (m1) 3
          have dk0 := blk_cell' (m2) 0
          have df0 := blk_free' (m2) 0
          have dk1 := blk_cell' (m2) 1
          have df1 := blk_free' (m2) 1
          have dk2 := blk_cell' (m2) 2
          have df2 := blk_free' (m2) 2
          have dk3 := blk_cell' (m2) 3
          have df3 := blk_free' (m2) 3
          have dk4 := blk_cell' (m2) 4
          have df4 := blk_free' (m2) 4
          clear m1 m2 u1 u2 u3 t
          go_wp2_with fail
          go_region
          all_goals (try go_wp2)
          all_goals exact bodyPost_ret (results_three Tryz.results24 (res_cell (b := w.heap.size) (T' := 30) (fr := (0, 0)) rfl (blk_drewn HU.out.1) Tryz.underlying30 rfl (by kernel_rfl)) (res_tmp rfl) (res_cell (b := w.heap.size + 1) (T' := 40) (fr := (0, 0)) rfl (blk_drewn HU.out.2.1) Tryz.underlying40 rfl (by kernel_rfl))) rfl ⟨rfl, (HB0.out.trans (HU.out.2.2 _ (Nat.le_refl _))).drew⟩
      · have k34 : ((cn : Int) == 34) = false := by rw [← hcn, hq]; rfl
        have k39 : ((cn : Int) == 39) = true := by rw [← hcn, hq]; rfl
        rw [hq] at HVV
        rcases Q with ⟨tx, n⟩ | _ | pe
        · obtain ⟨hv, rfl, hb⟩ := HVV.out
          simp only [Tok.mk.injEq, Bad.mk.injEq, qBad] at hv hb
          obtain ⟨rfl, rfl, rfl, rfl⟩ := hv
          obtain ⟨rfl, rfl, rfl, rfl, rfl⟩ := hb
          simp only [qText, qEnd, qBad, Bad.enc] at CQ ⊢
          clear HVV hq
          go_wp2_with fail
          refine (CL.out _).mono ?_
          rintro ev w' ⟨rfl, rfl⟩
          go_wp2_with fail
          refine (CD.out _).mono ?_
          rintro ev w' ⟨rfl, rfl⟩
          go_wp2_with fail
          refine (CQ.out _).mono ?_
          rintro ev w' ⟨rfl, hB⟩
          have hgz : w.heap.size + 1 < w'.heap.size := blk_lt' (t.next hB).hb
          have m3 := heap_alloc_new w' (.cells #[.int .i64 0, .int .i64 0, .int .i64 0, .bool false, .bool false] 40 (0, 0))
          replace t := (t.next hB).alloc (.cells #[.int .i64 0, .int .i64 0, .int .i64 0, .bool false, .bool false] 40 (0, 0))
          clear hB
          go_upto_region 17 with (fail)
          generalize w'.alloc _ = W at *
          generalize w'.heap.size = g at *
          have hn1 : ¬ g = w.heap.size := by omega
          have hn2 : ¬ g = w.heap.size + 1 := by omega
          have hn3 : ¬ w.heap.size = g := by omega
          have hn4 : ¬ w.heap.size + 1 = g := by omega
          have ek0 := blk_cell' (m3) 0
          have ef0 := blk_free' (m3) 0
          have ek1 := blk_cell' (m3) 1
          have ef1 := blk_free' (m3) 1
          have ek2 := blk_cell' (m3) 2
          have ef2 := blk_free' (m3) 2
          have ek3 := blk_cell' (m3) 3
          have ef3 := blk_free' (m3) 3
          have ek4 := blk_cell' (m3) 4
          have ef4 := blk_free' (m3) 4
          clear m3
          have m1 := t.ht
          have m2 := t.hb
          have HB0 := Lib.hid t.B
          obtain ⟨u1, u2, u3⟩ := tok_ends w.heap.size (.int .u8 3) (.string ⟨tx.toArray⟩) (.int .i64 0) (.int .i64 (A : Int)) (.int .i64 0) (.int .i64 0) (.int .i64 0) (.bool false) (.bool false) m1 m2
          have HU := Lib.hid (And.intro u1 (And.intro u2 u3))
          have ck0 := blk_cell' (m1) 0
          have cf0 := blk_free' (m1) 0
          have ck1 := blk_cell' (m1) 1
          have cf1 := blk_free' (m1) 1
          have ck2 := blk_cell' (m1) 2
          have cf2 := blk_free' (m1) 2
          have ck3 := blk_cell' (m1) 3
          have cf3 := blk_free' (m1) 3
          have dk0 := blk_cell' (m2) 0
          have df0 := blk_free' (m2) 0
          have dk1 := blk_cell' (m2) 1
          have df1 := blk_free' (m2) 1
          have dk2 := blk_cell' (m2) 2
          have df2 := blk_free' (m2) 2
          have dk3 := blk_cell' (m2) 3
          have df3 := blk_free' (m2) 3
          have dk4 := blk_cell' (m2) 4
          have df4 := blk_free' (m2) 4
          clear m1 m2 u1 u2 u3 t
          go_wp2
          exact bodyPost_ret (results_three Tryz.results24 (res_cell (b := w.heap.size) (T' := 30) (fr := (0, 0)) rfl HU.out.1 Tryz.underlying30 rfl (by kernel_rfl)) (res_tmp rfl) (res_cell (b := w.heap.size + 1) (T' := 40) (fr := (0, 0)) rfl HU.out.2.1 Tryz.underlying40 rfl (by kernel_rfl))) rfl ⟨rfl, HB0.out.trans (HU.out.2.2 _ (Nat.le_refl _))⟩
        · obtain ⟨hv, rfl, hb⟩ := HVV.out
          simp only [Tok.mk.injEq, Bad.mk.injEq, Tok.zero, qBad, qEnd] at hv hb ⊢
          obtain ⟨rfl, rfl, rfl, rfl⟩ := hv
          obtain ⟨rfl, rfl, rfl, rfl, rfl⟩ := hb
          simp only [qText, qEnd, qBad, Bad.enc] at CQ ⊢
          clear HVV hq
          go_wp2_with fail
          refine (CL.out _).mono ?_
          rintro ev w' ⟨rfl, rfl⟩
          go_wp2_with fail
          refine (CD.out _).mono ?_
          rintro ev w' ⟨rfl, rfl⟩
          go_wp2_with fail
          refine (CQ.out _).mono ?_
          rintro ev w' ⟨rfl, hB⟩
          have hgz : w.heap.size + 1 < w'.heap.size := blk_lt' (t.next hB).hb
          have m3 := heap_alloc_new w' (.cells #[.int .i64 121, .int .i64 (A : Int), .int .i64 0, .bool true, .bool false] 40 (0, 0))
          replace t := (t.next hB).alloc (.cells #[.int .i64 121, .int .i64 (A : Int), .int .i64 0, .bool true, .bool false] 40 (0, 0))
          clear hB
          go_upto_region 16 with (fail)
          generalize w'.alloc _ = W at *
          generalize w'.heap.size = g at *
          have hn1 : ¬ g = w.heap.size := by omega
          have hn2 : ¬ g = w.heap.size + 1 := by omega
          have hn3 : ¬ w.heap.size = g := by omega
          have hn4 : ¬ w.heap.size + 1 = g := by omega
          have ek0 := blk_cell' (m3) 0
          have ef0 := blk_free' (m3) 0
          have ek1 := blk_cell' (m3) 1
          have ef1 := blk_free' (m3) 1
          have ek2 := blk_cell' (m3) 2
          have ef2 := blk_free' (m3) 2
          have ek3 := blk_cell' (m3) 3
          have ef3 := blk_free' (m3) 3
          have ek4 := blk_cell' (m3) 4
          have ef4 := blk_free' (m3) 4
          clear m3
          have m1 := t.ht
          have m2 := t.hb
          have HB0 := Lib.hid t.B
          obtain ⟨u1, u2, u3⟩ := tok_ends w.heap.size (.int .u8 0) (.string ⟨#[]⟩) (.int .i64 0) (.int .i64 0) (.int .i64 121) (.int .i64 (A : Int)) (.int .i64 0) (.bool true) (.bool false) m1 m2
          have HU := Lib.hid (And.intro u1 (And.intro u2 u3))
          have ck0 := blk_cell' (m1) 0
          have cf0 := blk_free' (m1) 0
          have ck1 := blk_cell' (m1) 1
          have cf1 := blk_free' (m1) 1
          have ck2 := blk_cell' (m1) 2
          have cf2 := blk_free' (m1) 2
          have ck3 := blk_cell' (m1) 3
          have cf3 := blk_free' (m1) 3
          have dk0 := blk_cell' (m2) 0
          have df0 := blk_free' (m2) 0
          have dk1 := blk_cell' (m2) 1
          have df1 := blk_free' (m2) 1
          have dk2 := blk_cell' (m2) 2
          have df2 := blk_free' (m2) 2
          have dk3 := blk_cell' (m2) 3
          have df3 := blk_free' (m2) 3
          have dk4 := blk_cell' (m2) 4
          have df4 := blk_free' (m2) 4
          clear m1 m2 u1 u2 u3 t
          go_wp2_with fail
          go_region
          all_goals (try go_wp2)
          all_goals exact bodyPost_ret (results_three Tryz.results24 (res_cell (b := w.heap.size) (T' := 30) (fr := (0, 0)) rfl (blk_drewn HU.out.1) Tryz.underlying30 rfl (by kernel_rfl)) (res_tmp rfl) (res_cell (b := w.heap.size + 1) (T' := 40) (fr := (0, 0)) rfl (blk_drewn HU.out.2.1) Tryz.underlying40 rfl (by kernel_rfl))) rfl ⟨rfl, (HB0.out.trans (HU.out.2.2 _ (Nat.le_refl _))).drew⟩
        · obtain ⟨hv, rfl, hb⟩ := HVV.out
          obtain ⟨pl, hpl⟩ : ∃ pl : Int, pl = ((A + 1 + pe : Nat) : Int) := ⟨_, rfl⟩
          simp only [Tok.mk.injEq, Bad.mk.injEq, Tok.zero, qBad, qEnd] at hv hb ⊢
          rw [← hpl] at hb
          obtain ⟨rfl, rfl, rfl, rfl⟩ := hv
          obtain ⟨rfl, rfl, rfl, rfl, rfl⟩ := hb
          simp only [qText, qEnd, qBad, Bad.enc] at CQ ⊢
          rw [← hpl] at CQ
          clear hpl
          clear HVV hq
          go_wp2_with fail
          refine (CL.out _).mono ?_
          rintro ev w' ⟨rfl, rfl⟩
          go_wp2_with fail
          refine (CD.out _).mono ?_
          rintro ev w' ⟨rfl, rfl⟩
          go_wp2_with fail
          refine (CQ.out _).mono ?_
          rintro ev w' ⟨rfl, hB⟩
          have hgz : w.heap.size + 1 < w'.heap.size := blk_lt' (t.next hB).hb
          have m3 := heap_alloc_new w' (.cells #[.int .i64 121, .int .i64 b1, .int .i64 0, .bool true, .bool false] 40 (0, 0))
          replace t := (t.next hB).alloc (.cells #[.int .i64 121, .int .i64 b1, .int .i64 0, .bool true, .bool false] 40 (0, 0))
          clear hB
          go_upto_region 16 with (fail)
          generalize w'.alloc _ = W at *
          generalize w'.heap.size = g at *
          have hn1 : ¬ g = w.heap.size := by omega
          have hn2 : ¬ g = w.heap.size + 1 := by omega
          have hn3 : ¬ w.heap.size = g := by omega
          have hn4 : ¬ w.heap.size + 1 = g := by omega
          have ek0 := blk_cell' (m3) 0
          have ef0 := blk_free' (m3) 0
          have ek1 := blk_cell' (m3) 1
          have ef1 := blk_free' (m3) 1
          have ek2 := blk_cell' (m3) 2
          have ef2 := blk_free' (m3) 2
          have ek3 := blk_cell' (m3) 3
          have ef3 := blk_free' (m3) 3
          have ek4 := blk_cell' (m3) 4
          have ef4 := blk_free' (m3) 4
          clear m3
          have m1 := t.ht
          have m2 := t.hb
          have HB0 := Lib.hid t.B
          obtain ⟨u1, u2, u3⟩ := tok_ends w.heap.size (.int .u8 0) (.string ⟨#[]⟩) (.int .i64 0) (.int .i64 0) (.int .i64 121) (.int .i64 b1) (.int .i64 0) (.bool true) (.bool false) m1 m2
          have HU := Lib.hid (And.intro u1 (And.intro u2 u3))
          have ck0 := blk_cell' (m1) 0
          have cf0 := blk_free' (m1) 0
          have ck1 := blk_cell' (m1) 1
          have cf1 := blk_free' (m1) 1
          have ck2 := blk_cell' (m1) 2
          have cf2 := blk_free' (m1) 2
          have ck3 := blk_cell' (m1) 3
          have cf3 := blk_free' (m1) 3
          have dk0 := blk_cell' (m2) 0
          have df0 := blk_free' (m2) 0
          have dk1 := blk_cell' (m2) 1
          have df1 := blk_free' (m2) 1
          have dk2 := blk_cell' (m2) 2
          have df2 := blk_free' (m2) 2
          have dk3 := blk_cell' (m2) 3
          have df3 := blk_free' (m2) 3
          have dk4 := blk_cell' (m2) 4
          have df4 := blk_free' (m2) 4
          clear m1 m2 u1 u2 u3 t
          go_wp2_with fail
          go_region
          all_goals (try go_wp2)
          all_goals exact bodyPost_ret (results_three Tryz.results24 (res_cell (b := w.heap.size) (T' := 30) (fr := (0, 0)) rfl (blk_drewn HU.out.1) Tryz.underlying30 rfl (by kernel_rfl)) (res_tmp rfl) (res_cell (b := w.heap.size + 1) (T' := 40) (fr := (0, 0)) rfl (blk_drewn HU.out.2.1) Tryz.underlying40 rfl (by kernel_rfl))) rfl ⟨rfl, (HB0.out.trans (HU.out.2.2 _ (Nat.le_refl _))).drew⟩
    · rw [if_neg hq] at hat
      have h34 : ((cn : Int) == 34) = false := by rw [← hcn]; simp only [beq_eq_false_iff_ne, ne_eq]; exact fun e => hq (.inl (UInt8.toNat_inj.1 (by show _ = 34; omega)))
      have h39 : ((cn : Int) == 39) = false := by rw [← hcn]; simp only [beq_eq_false_iff_ne, ne_eq]; exact fun e => hq (.inr (UInt8.toNat_inj.1 (by show _ = 39; omega)))
      have CS := fun W => r12_sign s A hs ha W
      obtain ⟨g2, g1⟩ := signN_le s[A] s.data.toList[A + 1]?
      have gl : A + signN s[A] s.data.toList[A + 1]? ≤ s.size := by
        rcases Nat.lt_or_ge (A + 1) s.size with h | h
        · omega
        · have := g1 (List.getElem?_eq_none (by show s.size ≤ A + 1; omega)); omega
      generalize signN s[A] s.data.toList[A + 1]? = n at *
      clear g1 hlt hdg hq hend
      have CS := Lib.hid CS
      by_cases hn : n = 0
      · have kn : ((n : Int) == 0) = true := by simp; omega
        obtain rfl : R = .inr (120, some A) := by rw [HR.out, hat, if_pos hn]
        obtain ⟨hv, rfl, hb⟩ : (⟨v0, v1, v2, v3⟩ : Tok) = Tok.zero ∧ V1 = 0 ∧ (⟨b0, b1, b2, b3, b4⟩ : Bad) = ⟨120, (A : Int), 0, true, false⟩ := HV.out
        simp only [Tok.mk.injEq, Bad.mk.injEq, Tok.zero] at hv hb
        obtain ⟨hv0, hv1, hv2, hv3⟩ := hv
        replace hv0 := hv0.symm
        replace hv1 := hv1.symm
        replace hv2 := hv2.symm
        replace hv3 := hv3.symm
        subst hv0 hv1 hv2 hv3
        obtain ⟨rfl, rfl, rfl, rfl, rfl⟩ := hb
        clear HV HR
        have N3 : ∀ W, Calls Tryz.prog 49 #[.int .i64 (A : Int), .int .i64 120] W fun ev w' => ev = .returned (.agg #[.int .i64 120, .int .i64 (A : Int), .int .i64 0, .bool true, .bool false]) ∧ Below W.heap.size W w' := fun W => weirref01_At A 120 W
        have N3 := Lib.hid N3
        clear hat hn
        go_wp2_with fail
        refine (CL.out _).mono ?_
        rintro ev w' ⟨rfl, rfl⟩
        go_wp2_with fail
        refine (CD.out _).mono ?_
        rintro ev w' ⟨rfl, rfl⟩
        go_wp2_with fail
        refine (CS.out _).mono ?_
        rintro ev w' ⟨rfl, rfl⟩
        go_wp2_with fail
        refine (N3.out _).mono ?_
        rintro ev w' ⟨rfl, hB⟩
        replace t := t.next hB
        clear hB
        have m1 := t.ht
        have m2 := t.hb
        have HB0 := Lib.hid t.B
        obtain ⟨u1, u2, u3⟩ := tok_ends w.heap.size (.int .u8 0) (.string ⟨#[]⟩) (.int .i64 0) (.int .i64 0) (.int .i64 120) (.int .i64 (A : Int)) (.int .i64 0) (.bool true) (.bool false) m1 m2
        have HU := Lib.hid (And.intro u1 (And.intro u2 u3))
        have ck0 := blk_cell' (m1) 0
        have cf0 := blk_free' (m1) 0
        have ck1 := blk_cell' (m1) 1
        have cf1 := blk_free' (m1) 1
        have ck2 := blk_cell' (m1) 2
        have cf2 := blk_free' (m1) 2
        have ck3 := blk_cell' (m1) 3
        have cf3 := blk_free' (m1) 3
        have dk0 := blk_cell' (m2) 0
        have df0 := blk_free' (m2) 0
        have dk1 := blk_cell' (m2) 1
        have df1 := blk_free' (m2) 1
        have dk2 := blk_cell' (m2) 2
        have df2 := blk_free' (m2) 2
        have dk3 := blk_cell' (m2) 3
        have df3 := blk_free' (m2) 3
        have dk4 := blk_cell' (m2) 4
        have df4 := blk_free' (m2) 4
        clear m1 m2 u1 u2 u3 t
        go_wp2
        exact bodyPost_ret (results_three Tryz.results24 (res_cell (b := w.heap.size) (T' := 30) (fr := (0, 0)) rfl HU.out.1 Tryz.underlying30 rfl (by kernel_rfl)) (res_tmp rfl) (res_cell (b := w.heap.size + 1) (T' := 40) (fr := (0, 0)) rfl HU.out.2.1 Tryz.underlying40 rfl (by kernel_rfl))) rfl ⟨rfl, HB0.out.trans (HU.out.2.2 _ (Nat.le_refl _))⟩
      · have kn : ((n : Int) == 0) = false := by simp; omega
        have e1 : ((A + n : Nat) : Int) = (A : Int) + (n : Int) := by omega
        have hsl := slice_to s A (A + n) (by omega) gl
        rw [e1] at hsl
        obtain ⟨T, hT⟩ : ∃ T, T = s.extract A (A + n) := ⟨_, rfl⟩
        rw [← hT] at hsl hat
        obtain rfl : R = .inl (⟨6, T, 0, A⟩, A + n) := by rw [HR.out, hat, if_neg hn]
        obtain ⟨hv, h2, hb⟩ : (⟨v0, v1, v2, v3⟩ : Tok) = ⟨6, T, 0, A⟩ ∧ V1 = ((A + n : Nat) : Int) ∧ (⟨b0, b1, b2, b3, b4⟩ : Bad) = ⟨0, 0, 0, false, false⟩ := HV.out
        rw [e1] at h2
        subst h2
        simp only [Tok.mk.injEq, Bad.mk.injEq, Tok.zero] at hv hb
        obtain ⟨hv0, hv1, hv2, hv3⟩ := hv
        replace hv0 := hv0.symm
        replace hv1 := hv1.symm
        replace hv2 := hv2.symm
        replace hv3 := hv3.symm
        subst hv0 hv1 hv2 hv3
        obtain ⟨rfl, rfl, rfl, rfl, rfl⟩ := hb
        clear HV HR
        have e2 : IntKind.i64.wrap ((A : Int) + (n : Int)) = (A : Int) + (n : Int) := by rw [IntKind.wrap_i64]; omega
        clear hT hat hn e1
        go_wp2_with fail
        refine (CL.out _).mono ?_
        rintro ev w' ⟨rfl, rfl⟩
        go_wp2_with fail
        refine (CD.out _).mono ?_
        rintro ev w' ⟨rfl, rfl⟩
        go_wp2_with fail
        refine (CS.out _).mono ?_
        rintro ev w' ⟨rfl, rfl⟩
        have m1 := t.ht
        have m2 := t.hb
        have HB0 := Lib.hid t.B
        obtain ⟨u1, u2, u3⟩ := tok_ends w.heap.size (.int .u8 6) (.string T) (.int .i64 0) (.int .i64 (A : Int)) (.int .i64 0) (.int .i64 0) (.int .i64 0) (.bool false) (.bool false) m1 m2
        have HU := Lib.hid (And.intro u1 (And.intro u2 u3))
        have ck0 := blk_cell' (m1) 0
        have cf0 := blk_free' (m1) 0
        have ck1 := blk_cell' (m1) 1
        have cf1 := blk_free' (m1) 1
        have ck2 := blk_cell' (m1) 2
        have cf2 := blk_free' (m1) 2
        have ck3 := blk_cell' (m1) 3
        have cf3 := blk_free' (m1) 3
        have dk0 := blk_cell' (m2) 0
        have df0 := blk_free' (m2) 0
        have dk1 := blk_cell' (m2) 1
        have df1 := blk_free' (m2) 1
        have dk2 := blk_cell' (m2) 2
        have df2 := blk_free' (m2) 2
        have dk3 := blk_cell' (m2) 3
        have df3 := blk_free' (m2) 3
        have dk4 := blk_cell' (m2) 4
        have df4 := blk_free' (m2) 4
        clear m1 m2 u1 u2 u3 t
        go_wp2
        exact bodyPost_ret (results_three Tryz.results24 (res_cell (b := w.heap.size) (T' := 30) (fr := (0, 0)) rfl HU.out.1 Tryz.underlying30 rfl (by kernel_rfl)) (res_tmp rfl) (res_cell (b := w.heap.size + 1) (T' := 40) (fr := (0, 0)) rfl HU.out.2.1 Tryz.underlying40 rfl (by kernel_rfl))) rfl ⟨rfl, HB0.out.trans (HU.out.2.2 _ (Nat.le_refl _))⟩
end Go.Proofs.YtmooibnedokllaaGreatDoor
