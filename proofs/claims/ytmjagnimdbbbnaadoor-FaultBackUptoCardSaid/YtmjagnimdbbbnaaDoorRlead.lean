/- weirref01.digits and weirref01.lead, by contracts. -/
import Derived.Test.YtmjagnimdbbbnaaDoorFlead
namespace Go.Proofs.YtmjagnimdbbbnaaDoor
open Go.RowKit
set_option linter.unusedSimpArgs false
set_option linter.unusedVariables false

theorem digitsP_step (l : List UInt8) (i : Nat) (h : i < l.length) : runD (l.drop i) = if isD l[i] = true then runD (l.drop (i + 1)) + 1 else 0 := by
  rw [List.drop_eq_getElem_cons h]
  rfl
theorem runD_le : ∀ l : List UInt8, runD l ≤ l.length
  | [] => Nat.le_refl _
  | c :: r => by
    show (if isD c = true then runD r + 1 else 0) ≤ r.length + 1
    have := runD_le r
    split <;> omega
theorem digitsP_le (l : List UInt8) : digitsP l ≤ l.length := by
  cases l with
  | nil => exact Nat.le_refl _
  | cons c r =>
    show (if isD c = true ∨ c = 45 then runD r + 1 else 0) ≤ r.length + 1
    have := runD_le r
    split <;> omega
theorem digitsP_cons {l : List UInt8} (h : 0 < l.length) : digitsP l = if isD l[0] = true ∨ l[0] = 45 then runD (l.drop 1) + 1 else 0 := by
  cases l with
  | nil => simp at h
  | cons c r => rfl

set_option maxRecDepth 100000 in
set_option maxHeartbeats 1000000 in
theorem ref_digits (s : ByteArray) (hs : s.size ≤ 4294967281) (w : World) :
    Calls Tryd.prog 49 #[.string s] w fun ev w' => ev = .returned (.int .i64 (digitsP s.data.toList)) ∧ w = w' := by
  go_enter Tryd.func49, Tryd.ntmps49
  go_wp2
  go_loopg [3] s.size (fun n v wr => ∃ i : Nat, v = .int .i64 i ∧ i + n = s.size ∧ wr = w ∧ (i = 0 ∨ (0 < i ∧ i + runD (s.data.toList.drop i) = digitsP s.data.toList)))
  case atStart => exact ⟨0, rfl, by omega, rfl, Or.inl rfl⟩
  case round =>
    obtain ⟨i, rfl, hn, rfl, hk⟩ := hrel
    have hb : ∀ h : i < s.size, s.data.toList[i]'h = s[i] := fun h => rfl
    by_cases hi : i < s.size
    · rcases hk with rfl | ⟨hi0, hk⟩
      · have hc := digitsP_cons (l := s.data.toList) hi
        rw [hb hi] at hc
        have HC := Lib.hid hc
        have HD := Lib.hid (show isD s[0] = (decide (48 ≤ s[0].toNat) && decide (s[0].toNat ≤ 57)) from rfl)
        have HE := Lib.hid (show s[0] = 45 ↔ s[0].toNat = 45 from ⟨fun e => by rw [e]; rfl, fun e => UInt8.toNat_inj.1 (by rw [e]; rfl)⟩)
        have hs0 : s.size = gk := by omega
        clear hc hb
        rcases (show (48 ≤ s[0].toNat ∧ s[0].toNat ≤ 57) ∨ s[0].toNat = 45 ∨ (s[0].toNat < 48 ∧ s[0].toNat ≠ 45) ∨ 57 < s[0].toNat by omega) with ⟨q1, q2⟩ | q1 | ⟨q1, q2⟩ | q1
        · have hr : digitsP s.data.toList = runD (s.data.toList.drop 1) + 1 := by rw [HC.out, if_pos (Or.inl (by rw [HD.out]; simp [q1, q2]))]
          have HR := Lib.hid hr
          have a1 : (48 : Int) ≤ (s[0].toNat : Int) := by omega
          have a2 : (s[0].toNat : Int) ≤ 57 := by omega
          clear hr HC HD HE q1 q2 hs0
          go_wp2
          go_roundg (gk - 1)
          case measure => omega
          case rel => exact ⟨1, rfl, by omega, rfl, Or.inr ⟨by omega, by rw [HR.out]; omega⟩⟩
        · have hr : digitsP s.data.toList = runD (s.data.toList.drop 1) + 1 := by rw [HC.out, if_pos (Or.inr (HE.out.2 q1))]
          have HR := Lib.hid hr
          have a1 : (s[0].toNat : Int) < 48 := by omega
          have a2 : ((s[0].toNat : Int) == 45) = true := by simp; omega
          clear hr HC HD HE q1 hs0
          go_wp2
          go_roundg (gk - 1)
          case measure => omega
          case rel => exact ⟨1, rfl, by omega, rfl, Or.inr ⟨by omega, by rw [HR.out]; omega⟩⟩
        · have hr : digitsP s.data.toList = 0 := by
            rw [HC.out, if_neg]
            rintro (h | h)
            · rw [HD.out] at h; simp at h; omega
            · exact q2 (HE.out.1 h)
          have HR := Lib.hid hr
          have a1 : (s[0].toNat : Int) < 48 := by omega
          have a2 : ((s[0].toNat : Int) == 45) = false := by simp; omega
          clear hr HC HD HE q1 q2 hs0
          go_wp2
          go_ret
          exact ⟨by rw [HR.out]; rfl, rfl⟩
        · have hr : digitsP s.data.toList = 0 := by
            rw [HC.out, if_neg]
            rintro (h | h)
            · rw [HD.out] at h; simp at h; omega
            · have := HE.out.1 h
              omega
          have HR := Lib.hid hr
          have a1 : (57 : Int) < (s[0].toNat : Int) := by omega
          have a0 : (48 : Int) ≤ (s[0].toNat : Int) := by omega
          have a2 : ((s[0].toNat : Int) == 45) = false := by simp; omega
          clear hr HC HD HE q1 hs0
          go_wp2
          go_ret
          exact ⟨by rw [HR.out]; rfl, rfl⟩
      · have hc := digitsP_step s.data.toList i hi
        rw [hb hi] at hc
        have HD := Lib.hid (show isD s[i] = (decide (48 ≤ s[i].toNat) && decide (s[i].toNat ≤ 57)) from rfl)
        have a9 : ((i : Int) == 0) = false := by simp; omega
        have HC := Lib.hid hc
        have HK := Lib.hid hk
        clear hc hb hk
        rcases (show (48 ≤ s[i].toNat ∧ s[i].toNat ≤ 57) ∨ s[i].toNat < 48 ∨ 57 < s[i].toNat by omega) with ⟨q1, q2⟩ | q1 | q1
        · have hr : runD (s.data.toList.drop i) = runD (s.data.toList.drop (i + 1)) + 1 := by rw [HC.out, if_pos (by rw [HD.out]; simp [q1, q2])]
          have HR := Lib.hid hr
          have a1 : (48 : Int) ≤ (s[i].toNat : Int) := by omega
          have a2 : (s[i].toNat : Int) ≤ 57 := by omega
          clear hr HC HD q1 q2
          go_wp2
          go_roundg (gk - 1)
          case measure => omega
          case rel => exact ⟨i + 1, rfl, by omega, rfl, Or.inr ⟨by omega, by rw [← HK.out, HR.out]; omega⟩⟩
        · have hr : runD (s.data.toList.drop i) = 0 := by rw [HC.out, if_neg (by rw [HD.out]; simp; omega)]
          have HR := Lib.hid (show digitsP s.data.toList = i by rw [← HK.out, hr]; rfl)
          have a1 : (s[i].toNat : Int) < 48 := by omega
          clear hr HC HD HK q1
          go_wp2
          go_ret
          exact ⟨by rw [HR.out]; rfl, rfl⟩
        · have hr : runD (s.data.toList.drop i) = 0 := by rw [HC.out, if_neg (by rw [HD.out]; simp; omega)]
          have HR := Lib.hid (show digitsP s.data.toList = i by rw [← HK.out, hr]; rfl)
          have a1 : (57 : Int) < (s[i].toNat : Int) := by omega
          have a0 : (48 : Int) ≤ (s[i].toNat : Int) := by omega
          clear hr HC HD HK q1
          go_wp2
          go_ret
          exact ⟨by rw [HR.out]; rfl, rfl⟩
    · have hr : digitsP s.data.toList = i := by
        have hl : s.data.toList.length = s.size := rfl
        rcases hk with rfl | ⟨_, hk⟩
        · have := digitsP_le s.data.toList
          omega
        · rw [List.drop_of_length_le (by omega)] at hk
          exact hk.symm
      have HR := Lib.hid hr
      have hi' : i = s.size := by omega
      clear hr hk hb hi
      subst hi'
      go_wp2
      go_ret
      exact ⟨by rw [HR.out]; rfl, rfl⟩
end Go.Proofs.YtmjagnimdbbbnaaDoor
