/- Package lex and its reference: a text as a name, as a text. -/
import Derived.Test.YtmooibnedokllaaGreatDoorRp
import Derived.Test.YtmooibnedokllaaGreatDoorLx7
import Derived.Test.YtmooibnedokllaaGreatDoorLxa
namespace Go.Proofs.YtmooibnedokllaaGreatDoor
open Go.RowKit
set_option linter.unusedSimpArgs false
set_option linter.unusedVariables false

/-- A text as a name. -/
def quoteT (s : ByteArray) : ByteArray := ⟨(quoteL s.data.toList).toArray⟩
theorem quoteT_bare {s : ByteArray} (h : bareW s.data.toList = true) : quoteT s = s := by
  unfold quoteT quoteL
  rw [if_pos h]
theorem quoteT_in {s : ByteArray} (h : ¬ bareW s.data.toList = true) : quoteT s = inT 34 s := by
  unfold quoteT quoteL inT
  rw [if_neg h]
theorem list_isEmpty (s : ByteArray) : s.toList.isEmpty = decide (s.data.toList = []) := by
  rw [ByteArray.toList_eq]
  cases s.data.toList <;> rfl
theorem bare_is {s : ByteArray} (h : 0 < s.size) : bareW s.data.toList = (letterC s[0] && decide (runP wordC s.data.toList = s.size) && !isWord s) := by
  have hl : s.data.toList.length = s.size := rfl
  have h0 : s.data.toList[0]'(by omega) = s[0] := rfl
  unfold bareW isWord
  cases hc : s.data.toList with
  | nil => rw [hc] at hl; simp at hl; omega
  | cons c r =>
    have : c = s[0] := by rw [← h0]; simp [hc]
    rw [← hl, ← this, hc]
    simp only [Bool.beq_eq_decide_eq]
set_option maxRecDepth 100000 in
set_option maxHeartbeats 2000000 in
theorem r12_within (q : UInt8) (hq : ¬ q = 92) (s : ByteArray) (hs : s.size ≤ 140737488355327) (w : World) :
    Calls Tryz.prog 40 #[.string s, .string ⟨#[q]⟩] w fun ev w' => ev = .returned (.string (inT q s)) ∧ Below w.heap.size w w' := by
  have hI := inT_is q s
  obtain ⟨I, hII⟩ : ∃ I, I = inT q s := ⟨_, rfl⟩
  rw [← hII] at hI ⊢
  have HI := Lib.hid hI
  obtain ⟨Q, hQ⟩ : ∃ Q : ByteArray, Q = ⟨#[q]⟩ := ⟨_, rfl⟩
  rw [← hQ]
  have hz1 : Q.size = 1 := by rw [hQ]; rfl
  have HQ := Lib.hid hQ
  clear hI hII hQ
  go_enter Tryz.func40, Tryz.ntmps40
  go_wp2_with fail
  go_loopg [5, 6] s.size (fun m v5 v6 wr => ∃ (i : Nat) (t : ByteArray), v5 = .string t ∧ v6 = .int .i64 (i : Int) ∧ i + m = s.size ∧ Hid (t = Q ++ ⟨(withinL q (s.data.toList.take i)).toArray⟩) ∧ t.size ≤ 2 * i + 1 ∧ Hid (wr = w))
  case atStart => exact ⟨0, _, rfl, rfl, by omega, Lib.hid (bytes_ext (by rw [data_app]; simp [withinL])), by rw [hz1]; omega, Lib.hid rfl⟩
  case round =>
    obtain ⟨i, t, rfl, rfl, hm, HT, hts, hw⟩ := hrel
    by_cases hi : i < s.size
    · have kl : decide ((i : Int) < (s.size : Int)) = true := by rw [decide_eq_true_iff]; omega
      have hb : s.data.toList[i]'hi = s[i] := rfl
      have hst := within_step q s.data.toList i hi
      rw [hb] at hst
      have hsl := ext_one s i hi
      obtain ⟨cn, hcn⟩ : ∃ cn : Nat, s[i].toNat = cn := ⟨_, rfl⟩
      have hcl : cn < 256 := by rw [← hcn]; exact s[i].toNat_lt
      obtain ⟨C1, hC1⟩ : ∃ C1 : ByteArray, C1 = ⟨#[s[i]]⟩ := ⟨_, rfl⟩
      have hc1 : C1.size = 1 := by rw [hC1]; rfl
      have heq : (C1.toList == Q.toList) = decide (s[i] = q) := by rw [hC1, HQ.out, ByteArray.toList_eq, ByteArray.toList_eq]; rw [Bool.eq_iff_iff]; simp
      have h92 : (⟨#[92]⟩ : ByteArray).size = 1 := rfl
      rw [← hC1] at hsl
      have HC1 := Lib.hid hC1
      by_cases h1 : s[i] = q
      · have k1 : (C1.toList == Q.toList) = true := by rw [heq]; simpa using h1
        have HT2 : Hid (t ++ ⟨#[92]⟩ ++ C1 = Q ++ ⟨(withinL q (s.data.toList.take (i + 1))).toArray⟩) := Lib.hid (by
          rw [HT.out, hst, show withinC q s[i] = [92, s[i]] from if_pos (.inl h1), hC1]
          apply bytes_ext; simp only [data_app]; simp)
        clear heq h1 hst hb hcn hC1 HT
        go_wp2_with fail
        go_roundg (gk - 1)
        case measure => omega
        case rel => exact ⟨i + 1, _, rfl, by go_num, by omega, HT2, by rw [ByteArray.size_append, ByteArray.size_append, hc1, h92]; omega, hw⟩
      · have k1 : (C1.toList == Q.toList) = false := by rw [heq]; simpa using h1
        by_cases h2 : s[i] = 92
        · have k2 : ((cn : Int) == 92) = true := by rw [← hcn, h2]; rfl
          have HT2 : Hid (t ++ ⟨#[92]⟩ ++ C1 = Q ++ ⟨(withinL q (s.data.toList.take (i + 1))).toArray⟩) := Lib.hid (by
            rw [HT.out, hst, show withinC q s[i] = [92, s[i]] from if_pos (.inr h2), hC1]
            apply bytes_ext; simp only [data_app]; simp)
          clear heq h1 h2 hst hb hC1 HT
          go_wp2_with fail
          go_roundg (gk - 1)
          case measure => omega
          case rel => exact ⟨i + 1, _, rfl, by go_num, by omega, HT2, by rw [ByteArray.size_append, ByteArray.size_append, hc1, h92]; omega, hw⟩
        · have k2 : ((cn : Int) == 92) = false := by
            rw [← hcn]; simp only [beq_eq_false_iff_ne, ne_eq]; exact fun e => h2 (UInt8.toNat_inj.1 (by show _ = 92; omega))
          have HT2 : Hid (t ++ C1 = Q ++ ⟨(withinL q (s.data.toList.take (i + 1))).toArray⟩) := Lib.hid (by
            rw [HT.out, hst, show withinC q s[i] = [s[i]] from if_neg (fun h => h.elim h1 h2), hC1]
            apply bytes_ext; simp only [data_app]; simp)
          clear heq h1 h2 hst hb hC1 HT
          go_wp2_with fail
          go_roundg (gk - 1)
          case measure => omega
          case rel => exact ⟨i + 1, _, rfl, by go_num, by omega, HT2, by rw [ByteArray.size_append, hc1]; omega, hw⟩
    · have kl : decide ((i : Int) < (s.size : Int)) = false := by rw [decide_eq_false_iff_not]; omega
      have HE : Hid (t ++ Q = I) := Lib.hid (by
        rw [← HI.out, HT.out, HQ.out, List.take_of_length_le (show s.data.toList.length ≤ i from by show s.size ≤ i; omega)]; rfl)
      obtain rfl := hw.out
      go_wp2_with fail
      go_ret
      exact ⟨by rw [← HE.out]; rfl, Below.refl _ _⟩

set_option maxRecDepth 100000 in
set_option maxHeartbeats 400000 in
theorem lex_Quote (s : ByteArray) (hs : s.size ≤ 140737488355327) (w : World) :
    Calls Tryz.prog 15 #[.string s] w fun ev w' => ev = .returned (.string (quoteT s)) ∧ Below w.heap.size w w' := by
  have CI := fun W => lex_inQuotes 34 (by decide) s hs W
  obtain ⟨V, hV⟩ : ∃ V, V = quoteT s := ⟨_, rfl⟩
  rw [← hV]
  by_cases h0 : 0 < s.size
  case neg =>
    have h0' : s.data.toList = [] := List.length_eq_zero_iff.1 (show s.data.toList.length = 0 from by show s.size = 0; omega)
    have he : s.toList.isEmpty = true := by rw [list_isEmpty]; simpa using h0'
    have HI : inT 34 s = V := by rw [hV, quoteT_in]; rw [h0']; decide
    rw [HI] at CI
    have CI := Lib.hid CI
    clear h0 hV h0' HI
    go_enter Tryz.func15, Tryz.ntmps15
    go_wp2_with fail
    refine (CI.out _).mono ?_
    rintro ev w2 ⟨rfl, B2⟩
    have B2 := Lib.hid B2
    go_wp2_with fail
    go_ret
    exact ⟨rfl, B2.out⟩
  have hne : ¬ s.data.toList = [] := fun e => by have : s.data.toList.length = 0 := by rw [e]; rfl
                                                 have : s.size = 0 := this
                                                 omega
  have he : s.toList.isEmpty = false := by rw [list_isEmpty]; simpa using hne
  have hbi := bare_is h0
  have CL := fun W => lex_letter s[0] W
  have CR := fun W => lex_row s 0 (by omega) (by omega) W
  have CK := fun W => lex_Key s (by omega) W
  rw [List.drop_zero, Nat.zero_add] at CR
  obtain ⟨cn, hcn⟩ : ∃ cn : Nat, s[0].toNat = cn := ⟨_, rfl⟩
  rw [hcn] at CL
  cases hl : letterC s[0] with
  | false =>
    rw [hl] at CL hbi
    have HI : inT 34 s = V := by rw [hV, quoteT_in]; rw [hbi]; simp
    rw [HI] at CI
    have CI := Lib.hid CI
    have CL := Lib.hid CL
    clear hV HI hl hbi CR CK hne
    go_enter Tryz.func15, Tryz.ntmps15
    go_wp2_with fail
    refine (CL.out _).mono ?_
    rintro ev w1 ⟨rfl, rfl⟩
    go_wp2_with fail
    refine (CI.out _).mono ?_
    rintro ev w2 ⟨rfl, B2⟩
    have B2 := Lib.hid B2
    go_wp2_with fail
    go_ret
    exact ⟨rfl, B2.out⟩
  | true =>
    rw [hl] at CL hbi
    generalize hrn : runP wordC s.data.toList = rn at *
    by_cases hr : rn = s.size
    · have hr1 : ((rn : Int) == (s.size : Int)) = true := by simp; omega
      have hr2 : ((s.size : Int) == (s.size : Int)) = true := by simp
      rw [hr, decide_eq_true rfl, Bool.true_and, Bool.true_and] at hbi
      cases hk : isWord s with
      | true =>
        rw [hk] at hbi CK
        have HI : inT 34 s = V := by rw [hV, quoteT_in]; rw [hbi]; simp
        rw [HI] at CI
        have CI := Lib.hid CI
        have CL := Lib.hid CL
        have CR := Lib.hid CR
        have CK := Lib.hid CK
        clear hV HI hl hbi hne hk hrn hr
        go_enter Tryz.func15, Tryz.ntmps15
        go_wp2_with fail
        refine (CL.out _).mono ?_
        rintro ev w1 ⟨rfl, rfl⟩
        go_wp2_with fail
        refine (CR.out _).mono ?_
        rintro ev w1 ⟨rfl, rfl⟩
        go_wp2_with fail
        refine (CK.out _).mono ?_
        rintro ev w3 ⟨rfl, B1⟩
        have B1 := Lib.hid B1
        go_wp2_with fail
        refine (CI.out _).mono ?_
        rintro ev w2 ⟨rfl, B2⟩
        have B2 := Lib.hid (B1.out.trans (B2.mono B1.out.size))
        go_wp2_with fail
        go_ret
        exact ⟨rfl, B2.out⟩
      | false =>
        rw [hk] at hbi CK
        have HI : Hid (V = s) := Lib.hid (by rw [hV, quoteT_bare]; rw [hbi]; rfl)
        have CL := Lib.hid CL
        have CR := Lib.hid CR
        have CK := Lib.hid CK
        clear hV hl hbi hne hk hrn hr CI
        go_enter Tryz.func15, Tryz.ntmps15
        go_wp2_with fail
        refine (CL.out _).mono ?_
        rintro ev w1 ⟨rfl, rfl⟩
        go_wp2_with fail
        refine (CR.out _).mono ?_
        rintro ev w1 ⟨rfl, rfl⟩
        go_wp2_with fail
        refine (CK.out _).mono ?_
        rintro ev w3 ⟨rfl, B1⟩
        have B1 := Lib.hid B1
        go_wp2_with fail
        go_ret
        exact ⟨by rw [HI.out]; rfl, B1.out⟩
    · have hr1 : ((rn : Int) == (s.size : Int)) = false := by simp; omega
      rw [decide_eq_false hr] at hbi
      have HI : inT 34 s = V := by rw [hV, quoteT_in]; rw [hbi]; simp
      rw [HI] at CI
      have CI := Lib.hid CI
      have CL := Lib.hid CL
      have CR := Lib.hid CR
      clear hV HI hl hbi CK hne hrn hr
      go_enter Tryz.func15, Tryz.ntmps15
      go_wp2_with fail
      refine (CL.out _).mono ?_
      rintro ev w1 ⟨rfl, rfl⟩
      go_wp2_with fail
      refine (CR.out _).mono ?_
      rintro ev w1 ⟨rfl, rfl⟩
      go_wp2_with fail
      refine (CI.out _).mono ?_
      rintro ev w2 ⟨rfl, B2⟩
      have B2 := Lib.hid B2
      go_wp2_with fail
      go_ret
      exact ⟨rfl, B2.out⟩
set_option maxRecDepth 100000 in
set_option maxHeartbeats 400000 in
theorem r12_Quote (s : ByteArray) (hs : s.size ≤ 140737488355327) (w : World) :
    Calls Tryz.prog 16 #[.string s] w fun ev w' => ev = .returned (.string (quoteT s)) ∧ Below w.heap.size w w' := by
  have CI := fun W => r12_within 34 (by decide) s hs W
  obtain ⟨V, hV⟩ : ∃ V, V = quoteT s := ⟨_, rfl⟩
  rw [← hV]
  by_cases h0 : 0 < s.size
  case neg =>
    have h0' : s.data.toList = [] := List.length_eq_zero_iff.1 (show s.data.toList.length = 0 from by show s.size = 0; omega)
    have he : s.toList.isEmpty = true := by rw [list_isEmpty]; simpa using h0'
    have HI : inT 34 s = V := by rw [hV, quoteT_in]; rw [h0']; decide
    rw [HI] at CI
    have CI := Lib.hid CI
    clear h0 hV h0' HI
    go_enter Tryz.func16, Tryz.ntmps16
    go_wp2_with fail
    refine (CI.out _).mono ?_
    rintro ev w2 ⟨rfl, B2⟩
    have B2 := Lib.hid B2
    go_wp2_with fail
    go_ret
    exact ⟨rfl, B2.out⟩
  have hne : ¬ s.data.toList = [] := fun e => by have : s.data.toList.length = 0 := by rw [e]; rfl
                                                 have : s.size = 0 := this
                                                 omega
  have he : s.toList.isEmpty = false := by rw [list_isEmpty]; simpa using hne
  have hbi := bare_is h0
  have CL := fun W => r12_letter s[0] W
  have CR := fun W => r12_row s 0 (by omega) (by omega) W
  have CK := fun W => r12_Key s (by omega) W
  rw [List.drop_zero, Nat.zero_add] at CR
  obtain ⟨cn, hcn⟩ : ∃ cn : Nat, s[0].toNat = cn := ⟨_, rfl⟩
  rw [hcn] at CL
  cases hl : letterC s[0] with
  | false =>
    rw [hl] at CL hbi
    have HI : inT 34 s = V := by rw [hV, quoteT_in]; rw [hbi]; simp
    rw [HI] at CI
    have CI := Lib.hid CI
    have CL := Lib.hid CL
    clear hV HI hl hbi CR CK hne
    go_enter Tryz.func16, Tryz.ntmps16
    go_wp2_with fail
    refine (CL.out _).mono ?_
    rintro ev w1 ⟨rfl, rfl⟩
    go_wp2_with fail
    refine (CI.out _).mono ?_
    rintro ev w2 ⟨rfl, B2⟩
    have B2 := Lib.hid B2
    go_wp2_with fail
    go_ret
    exact ⟨rfl, B2.out⟩
  | true =>
    rw [hl] at CL hbi
    generalize hrn : runP wordC s.data.toList = rn at *
    by_cases hr : rn = s.size
    · have hr1 : ((rn : Int) == (s.size : Int)) = true := by simp; omega
      have hr2 : ((s.size : Int) == (s.size : Int)) = true := by simp
      rw [hr, decide_eq_true rfl, Bool.true_and, Bool.true_and] at hbi
      cases hk : isWord s with
      | true =>
        rw [hk] at hbi CK
        have HI : inT 34 s = V := by rw [hV, quoteT_in]; rw [hbi]; simp
        rw [HI] at CI
        have CI := Lib.hid CI
        have CL := Lib.hid CL
        have CR := Lib.hid CR
        have CK := Lib.hid CK
        clear hV HI hl hbi hne hk hrn hr
        go_enter Tryz.func16, Tryz.ntmps16
        go_wp2_with fail
        refine (CL.out _).mono ?_
        rintro ev w1 ⟨rfl, rfl⟩
        go_wp2_with fail
        refine (CR.out _).mono ?_
        rintro ev w1 ⟨rfl, rfl⟩
        go_wp2_with fail
        refine (CK.out _).mono ?_
        rintro ev w3 ⟨rfl, B1⟩
        have B1 := Lib.hid B1
        go_wp2_with fail
        refine (CI.out _).mono ?_
        rintro ev w2 ⟨rfl, B2⟩
        have B2 := Lib.hid (B1.out.trans (B2.mono B1.out.size))
        go_wp2_with fail
        go_ret
        exact ⟨rfl, B2.out⟩
      | false =>
        rw [hk] at hbi CK
        have HI : Hid (V = s) := Lib.hid (by rw [hV, quoteT_bare]; rw [hbi]; rfl)
        have CL := Lib.hid CL
        have CR := Lib.hid CR
        have CK := Lib.hid CK
        clear hV hl hbi hne hk hrn hr CI
        go_enter Tryz.func16, Tryz.ntmps16
        go_wp2_with fail
        refine (CL.out _).mono ?_
        rintro ev w1 ⟨rfl, rfl⟩
        go_wp2_with fail
        refine (CR.out _).mono ?_
        rintro ev w1 ⟨rfl, rfl⟩
        go_wp2_with fail
        refine (CK.out _).mono ?_
        rintro ev w3 ⟨rfl, B1⟩
        have B1 := Lib.hid B1
        go_wp2_with fail
        go_ret
        exact ⟨by rw [HI.out]; rfl, B1.out⟩
    · have hr1 : ((rn : Int) == (s.size : Int)) = false := by simp; omega
      rw [decide_eq_false hr] at hbi
      have HI : inT 34 s = V := by rw [hV, quoteT_in]; rw [hbi]; simp
      rw [HI] at CI
      have CI := Lib.hid CI
      have CL := Lib.hid CL
      have CR := Lib.hid CR
      clear hV HI hl hbi CK hne hrn hr
      go_enter Tryz.func16, Tryz.ntmps16
      go_wp2_with fail
      refine (CL.out _).mono ?_
      rintro ev w1 ⟨rfl, rfl⟩
      go_wp2_with fail
      refine (CR.out _).mono ?_
      rintro ev w1 ⟨rfl, rfl⟩
      go_wp2_with fail
      refine (CI.out _).mono ?_
      rintro ev w2 ⟨rfl, B2⟩
      have B2 := Lib.hid B2
      go_wp2_with fail
      go_ret
      exact ⟨rfl, B2.out⟩
set_option maxRecDepth 100000 in
set_option maxHeartbeats 2000000 in
theorem r12_Text (s : ByteArray) (hs : s.size ≤ 140737488355327) (w : World) :
    Calls Tryz.prog 18 #[.string s] w fun ev w' => ev = .returned (.string (inT 39 s)) ∧ Below w.heap.size w w' := by
  have C := Lib.hid (r12_within 39 (by decide) s hs w)
  generalize inT 39 s = V at *
  go_enter Tryz.func18, Tryz.ntmps18
  go_wp2_with fail
  refine C.out.mono ?_
  rintro ev w2 ⟨rfl, B2⟩
  have B2 := Lib.hid B2
  go_wp2_with fail
  go_ret
  exact ⟨rfl, B2.out⟩
end Go.Proofs.YtmooibnedokllaaGreatDoor
