/- key.special, key.Unescape: what a key's or a text's escaped form says. -/
import Derived.Test.YtnodjijgeifejaaGreatDoorBuild
import Derived.Test.YtnodjijgeifejaaGreatDoorFault
import Derived.Test.YtnodjijgeifejaaGreatDoorUnescLaw
namespace Go.Proofs.YtnodjijgeifejaaGreatDoor
open Go.RowKit
set_option linter.unusedSimpArgs false
set_option linter.unusedVariables false

theorem sp4_int (c : UInt8) : sp4 c = (((c.toNat : Int) == 44) || ((c.toNat : Int) == 32) || ((c.toNat : Int) == 61) || ((c.toNat : Int) == 92)) := by
  unfold sp4
  have h : ∀ d : UInt8, (c == d) = ((c.toNat : Int) == (d.toNat : Int)) := fun d => by
    by_cases e : c = d
    · subst e; exact (beq_self_eq_true _).trans (beq_self_eq_true _).symm
    · have e' : ¬ (c.toNat = d.toNat) := fun q => e (UInt8.toNat_inj.1 q)
      have : ¬ ((c.toNat : Int) = (d.toNat : Int)) := by omega
      rw [beq_eq_false_iff_ne.2 e, beq_eq_false_iff_ne.2 this]
  rw [h 44, h 32, h 61, h 92]
  rfl
set_option maxRecDepth 100000 in
set_option maxHeartbeats 800000 in
theorem key_special (c : UInt8) (w : World) : Calls Tryz.prog 80 #[.int .u8 (c.toNat : Int)] w fun ev w' => ev = .returned (.bool (sp4 c)) ∧ w = w' := by
  rw [sp4_int]
  generalize (c.toNat : Int) = z
  rcases (show z = 44 ∨ z = 32 ∨ z = 61 ∨ z = 92 ∨ (z ≠ 44 ∧ z ≠ 32 ∧ z ≠ 61 ∧ z ≠ 92) by omega) with rfl | rfl | rfl | rfl | ⟨h1, h2, h3, h4⟩
  · go_enter Tryz.func80, Tryz.ntmps80
    go_wp2
    go_ret
    exact ⟨rfl, rfl⟩
  · go_enter Tryz.func80, Tryz.ntmps80
    go_wp2
    go_ret
    exact ⟨rfl, rfl⟩
  · go_enter Tryz.func80, Tryz.ntmps80
    go_wp2
    go_ret
    exact ⟨rfl, rfl⟩
  · go_enter Tryz.func80, Tryz.ntmps80
    go_wp2
    go_ret
    exact ⟨rfl, rfl⟩
  · have a1 : (z == 44) = false := by simpa using h1
    have a2 : (z == 32) = false := by simpa using h2
    have a3 : (z == 61) = false := by simpa using h3
    have a4 : (z == 92) = false := by simpa using h4
    rw [a1, a2, a3, a4]
    clear h1 h2 h3 h4
    go_enter Tryz.func80, Tryz.ntmps80
    go_wp2
    go_ret
    exact ⟨rfl, rfl⟩
set_option maxRecDepth 100000 in
set_option maxHeartbeats 800000 in
theorem ref_special (c : UInt8) (w : World) : Calls Tryz.prog 83 #[.int .u8 (c.toNat : Int)] w fun ev w' => ev = .returned (.bool (sp4 c)) ∧ w = w' := by
  rw [sp4_int]
  generalize (c.toNat : Int) = z
  rcases (show z = 44 ∨ z = 32 ∨ z = 61 ∨ z = 92 ∨ (z ≠ 44 ∧ z ≠ 32 ∧ z ≠ 61 ∧ z ≠ 92) by omega) with rfl | rfl | rfl | rfl | ⟨h1, h2, h3, h4⟩
  · go_enter Tryz.func83, Tryz.ntmps83
    go_wp2
    go_ret
    exact ⟨rfl, rfl⟩
  · go_enter Tryz.func83, Tryz.ntmps83
    go_wp2
    go_ret
    exact ⟨rfl, rfl⟩
  · go_enter Tryz.func83, Tryz.ntmps83
    go_wp2
    go_ret
    exact ⟨rfl, rfl⟩
  · go_enter Tryz.func83, Tryz.ntmps83
    go_wp2
    go_ret
    exact ⟨rfl, rfl⟩
  · have a1 : (z == 44) = false := by simpa using h1
    have a2 : (z == 32) = false := by simpa using h2
    have a3 : (z == 61) = false := by simpa using h3
    have a4 : (z == 92) = false := by simpa using h4
    rw [a1, a2, a3, a4]
    clear h1 h2 h3 h4
    go_enter Tryz.func83, Tryz.ntmps83
    go_wp2
    go_ret
    exact ⟨rfl, rfl⟩
/-- What key.Unescape answers: the text, how many bytes, the error. -/
def unescA : Sum (List UInt8 × Nat) Nat → ByteArray × Int × Option Er
  | .inl (t, n) => (⟨t.toArray⟩, (n : Int), none)
  | .inr e => (⟨#[]⟩, 0, mkAt e 53)
set_option maxRecDepth 100000 in
set_option maxHeartbeats 800000 in
theorem key_Unescape (s : ByteArray) (hs : s.size ≤ 140737488355327) (w : World) :
    Calls Tryz.prog 116 #[.string s] w fun ev w' =>
      ev = .returned (.tuple #[.string (unescA (unesc s.data.toList)).1, .int .i64 (unescA (unesc s.data.toList)).2.1, encE (unescA (unesc s.data.toList)).2.2]) ∧ Below w.heap.size w w' := by
  generalize hR : unesc s.data.toList = R
  have hR0 := Lib.hid hR
  have hl : s.data.toList.length = s.size := rfl
  obtain ⟨V, hV⟩ : ∃ V, V = Value.tuple #[.string (unescA R).1, .int .i64 (unescA R).2.1, encE (unescA R).2.2] := ⟨_, rfl⟩
  rw [← hV]
  have HV := Lib.hid hV
  clear hR hV
  have hf := Bld.fresh w
  go_enter Tryz.func116, Tryz.ntmps116
  go_wp2
  go_loopg [6] s.size (fun n v wr => ∃ (i : Nat) (acc : List UInt8), v = .int .i64 i ∧ i + n = s.size ∧ acc.length ≤ i ∧ Bld w.heap.size acc wr ∧ Below w.heap.size w wr ∧ R = comb acc i (unesc (s.data.toList.drop i)))
  case atStart => exact ⟨0, [], rfl, by omega, Nat.le_refl _, hf, (Below.refl _ _).alloc (Nat.le_refl _) _, by rw [comb_zero, List.drop_zero]; exact hR0.out.symm⟩
  case round =>
    obtain ⟨i, acc, rfl, hn, hal, hbd, hbe, hk⟩ := hrel
    have hlen : acc.length + 1 ≤ 140737488355328 := by omega
    have stop : R = .inl (acc, i) → V = .tuple #[.string ⟨acc.toArray⟩, .int .i64 i, .nilIface] := fun e => by rw [HV.out, e]; rfl
    have fail_ : R = .inr i → V = .tuple #[.string ⟨#[]⟩, .int .i64 0, encE (mkAt i 53)] := fun e => by rw [HV.out, e]; rfl
    by_cases hi : i < s.size
    · have hb : s.data.toList[i]'hi = s[i] := rfl
      by_cases hc : s[i] = 92
      · have hc' : (s[i].toNat : Int) = 92 := by rw [hc]; rfl
        have hq : ((s[i].toNat : Int) == 92) = true := by rw [hc']; rfl
        by_cases hi1 : i + 1 < s.size
        · have hm : ((i : Int) + 1 == (s.size : Int)) = false := by simp; omega
          by_cases hd : sp4 s[i + 1] = true
          · have hu := unesc_pair (l := s.data.toList) hi1 (hb.trans hc) hd
            rw [hu, comb_comb] at hk
            have HK := Lib.hid hk
            have SP := Lib.hid (fun w => key_special s[i + 1] w)
            have WB := Lib.hid (fun wr h => write_byte w.heap.size acc s[i + 1] wr h hlen)
            rw [hd] at SP
            clear hk hu stop fail_ hc hd hb hf hc'
            go_wp2_with fail
            refine (SP.out _).mono ?_
            rintro ev w' ⟨rfl, rfl⟩
            go_wp2_with fail
            refine (WB.out _ hbd).mono ?_
            rintro ev w' ⟨rfl, hbd', hB⟩
            go_wp2
            go_roundg (gk - 2)
            case measure => omega
            case rel => exact ⟨i + 2, acc ++ [s[i + 1]], rfl, by omega, by simp; omega, hbd', hbe.trans hB, HK.out⟩
          · have hu := unesc_wrong (l := s.data.toList) hi1 (hb.trans hc) (Bool.eq_false_iff.2 hd)
            rw [hu] at hk
            have hV := fail_ (by simpa [comb] using hk)
            have hd' : sp4 s[i + 1] = false := by simpa using hd
            have SP := Lib.hid (fun w => key_special s[i + 1] w)
            rw [hd'] at SP
            have HF := Lib.hid hV
            clear hk hu stop fail_ hc hd hb hf hc' hV HV hd'
            go_wp2_with fail
            refine (SP.out _).mono ?_
            rintro ev w' ⟨rfl, rfl⟩
            go_wp2_with fail
            refine (fault_At i 53 _).mono ?_
            rintro ev w' ⟨rfl, hB⟩
            go_wp2
            go_ret3
            exact ⟨by rw [HF.out]; rfl, hbe.trans (hB.mono hbe.size)⟩
        · have hm : ((i : Int) + 1 == (s.size : Int)) = true := by simp; omega
          have hu := unesc_last (l := s.data.toList) hi (hb.trans hc) (by omega)
          rw [hu] at hk
          have hV := fail_ (by simpa [comb] using hk)
          have HF := Lib.hid hV
          clear hk hu stop fail_ hc hb hf hc' hV HV
          go_wp2_with fail
          refine (fault_At i 53 _).mono ?_
          rintro ev w' ⟨rfl, hB⟩
          go_wp2
          go_ret3
          exact ⟨by rw [HF.out]; rfl, hbe.trans (hB.mono hbe.size)⟩
      · have hc' : ¬ (s[i].toNat : Int) = 92 := fun e => hc (UInt8.toNat_inj.1 (by show s[i].toNat = 92; omega))
        have hq : ((s[i].toNat : Int) == 92) = false := by simpa using hc'
        have SP := Lib.hid (fun w => key_special s[i] w)
        by_cases hd : sp4 s[i] = true
        · have hu := unesc_stop (l := s.data.toList) hi (fun e => hc (hb.symm.trans e)) hd
          rw [hu] at hk
          have hV := stop (by simpa [comb] using hk)
          have HF := Lib.hid hV
          rw [hd] at SP
          clear hk hu stop fail_ hc hb hf hc' hV HV hd
          go_wp2_with fail
          refine (SP.out _).mono ?_
          rintro ev w' ⟨rfl, rfl⟩
          go_wp2_with fail
          refine (build_string w.heap.size acc _ hbd).mono ?_
          rintro ev w' ⟨rfl, hB⟩
          go_wp2
          go_ret3
          exact ⟨by rw [HF.out]; rfl, hbe.trans hB⟩
        · have hd' : sp4 s[i] = false := by simpa using hd
          have hu := unesc_bare (l := s.data.toList) hi (fun e => hc (hb.symm.trans e)) hd'
          rw [hu, comb_comb] at hk
          have HK := Lib.hid hk
          rw [hd'] at SP
          have WB := Lib.hid (fun wr h => write_byte w.heap.size acc s[i] wr h hlen)
          clear hk hu stop fail_ hc hb hf hc' hd hd'
          go_wp2_with fail
          refine (SP.out _).mono ?_
          rintro ev w' ⟨rfl, rfl⟩
          go_wp2_with fail
          refine (WB.out _ hbd).mono ?_
          rintro ev w' ⟨rfl, hbd', hB⟩
          go_wp2
          go_roundg (gk - 1)
          case measure => omega
          case rel => exact ⟨i + 1, acc ++ [s[i]], rfl, by omega, by simp; omega, hbd', hbe.trans hB, HK.out⟩
    · have hu := unesc_end (l := s.data.toList) (i := i) (by omega)
      rw [hu] at hk
      have hV := stop (by simpa [comb] using hk)
      have HF := Lib.hid hV
      clear hk hu stop fail_ hf hV HV
      go_wp2_with fail
      refine (build_string w.heap.size acc _ hbd).mono ?_
      rintro ev w' ⟨rfl, hB⟩
      go_wp2
      go_ret3
      exact ⟨by rw [HF.out]; rfl, hbe.trans hB⟩
end Go.Proofs.YtnodjijgeifejaaGreatDoor
