/- weirref01.lead, by contracts. -/
import Derived.Test.YtmjagnimdbbbnaaDoorRlead
import Derived.Test.YtmjagnimdbbbnaaDoorFparse
namespace Go.Proofs.YtmjagnimdbbbnaaDoor
open Go.RowKit
set_option linter.unusedSimpArgs false
set_option linter.unusedVariables false

def tailOf (s p : ByteArray) : ByteArray := s.extract p.size s.size
def runOf (s p : ByteArray) : Nat := digitsP (tailOf s p).data.toList
def restR (s p : ByteArray) : ByteArray := s.extract (p.size + runOf s p) s.size
def numR (s p : ByteArray) : ByteArray := s.extract p.size (p.size + runOf s p)
theorem tailOf_data (s p : ByteArray) : (tailOf s p).data.toList = s.data.toList.drop p.size := by
  unfold tailOf
  rw [Lib.extract_data]
  apply List.take_of_length_le
  rw [List.length_drop]
  exact Nat.le_refl _
theorem restR_data (s p : ByteArray) : (restR s p).data.toList = (s.data.toList.drop p.size).drop (runOf s p) := by
  unfold restR
  rw [Lib.extract_data, List.drop_drop]
  apply List.take_of_length_le
  rw [List.length_drop]
  exact Nat.le_refl _
theorem numR_data (s p : ByteArray) : (numR s p).data.toList = (s.data.toList.drop p.size).take (runOf s p) := by
  unfold numR
  rw [Lib.extract_data]
  congr 1
  omega
theorem prefix_iff (s p : ByteArray) : Lib.hasPrefix s.data.toList p.data.toList = true ↔ p.size ≤ s.size ∧ s.extract 0 p.size = p := by
  rw [← Lib.hasPrefix_of_take]
  have e : (s.extract 0 p.size).data.toList = s.data.toList.take p.data.toList.length := by
    rw [Lib.extract_data]; rfl
  constructor
  · intro h
    simp only [Bool.and_eq_true, decide_eq_true_eq, beq_iff_eq] at h
    exact ⟨h.1, bytes_ext (e.trans h.2)⟩
  · rintro ⟨h1, h2⟩
    simp only [Bool.and_eq_true, decide_eq_true_eq, beq_iff_eq]
    exact ⟨h1, by rw [← e, h2]⟩
theorem leadR_eq (s p : ByteArray) : leadR s p =
    if p.size ≤ s.size ∧ s.extract 0 p.size = p then
      if runOf s p = 0 ∨ ¬ (2 ≤ (restR s p).size ∧ (restR s p).extract 0 2 = colonWord) then none else some ((atoiV (numR s p)).1, (restR s p).extract 2 (restR s p).size)
    else none := by
  unfold leadR
  have hr : runOf s p = digitsP (s.data.toList.drop p.size) := by unfold runOf; rw [tailOf_data]
  have hn : numR s p = ⟨((s.data.toList.drop p.size).take (digitsP (s.data.toList.drop p.size))).toArray⟩ := bytes_ext (by rw [numR_data, hr])
  have hx : (restR s p).extract 2 (restR s p).size = ⟨(((s.data.toList.drop p.size).drop (digitsP (s.data.toList.drop p.size))).drop 2).toArray⟩ := by
    apply bytes_ext
    rw [Lib.extract_data, restR_data, hr]
    apply List.take_of_length_le
    rw [List.length_drop]
    show _ ≤ (restR s p).data.toList.length - 2
    rw [restR_data, hr]
    exact Nat.le_refl _
  by_cases h1 : p.size ≤ s.size ∧ s.extract 0 p.size = p
  · rw [if_pos h1, if_pos ((prefix_iff s p).2 h1)]
    have h2 : Lib.hasPrefix ((s.data.toList.drop p.size).drop (digitsP (s.data.toList.drop p.size))) [58, 32] = true ↔ (2 ≤ (restR s p).size ∧ (restR s p).extract 0 2 = colonWord) := by
      rw [← hr, ← restR_data]
      exact prefix_iff (restR s p) colonWord
    rw [← hr] at h2 ⊢
    rw [hn, hx, ← hr]
    by_cases h3 : 2 ≤ (restR s p).size ∧ (restR s p).extract 0 2 = colonWord
    · have h4 := h2.2 h3
      by_cases h5 : runOf s p = 0
      · rw [if_pos (Or.inl h5), if_pos (Or.inl h5)]
      · rw [if_neg (fun h => by rcases h with h | h <;> first | exact h5 h | (rw [h4] at h; cases h)), if_neg (fun h => by rcases h with h | h <;> first | exact h5 h | exact h h3)]
    · have h4 : Lib.hasPrefix ((s.data.toList.drop p.size).drop (runOf s p)) [58, 32] = false := by
        cases hh : Lib.hasPrefix ((s.data.toList.drop p.size).drop (runOf s p)) [58, 32] with
        | false => rfl
        | true => exact absurd (h2.1 hh) h3
      rw [if_pos (Or.inr h4), if_pos (Or.inr h3)]
  · rw [if_neg h1, if_neg (fun h => h1 ((prefix_iff s p).1 h))]

theorem leadR_at (s p : ByteArray) (n : Nat) (hn : n = runOf s p) : leadR s p =
    if p.size ≤ s.size ∧ s.extract 0 p.size = p then
      if n = 0 ∨ ¬ (2 ≤ (s.extract (p.size + n) s.size).size ∧ (s.extract (p.size + n) s.size).extract 0 2 = colonWord) then none
      else some ((atoiV (s.extract p.size (p.size + n))).1, (s.extract (p.size + n) s.size).extract 2 (s.extract (p.size + n) s.size).size)
    else none := by
  subst hn
  exact leadR_eq s p
theorem runOf_le (s p : ByteArray) : runOf s p ≤ s.size - p.size := by
  have hle := digitsP_le (tailOf s p).data.toList
  have hz : (tailOf s p).data.toList.length = s.size - p.size := by rw [tailOf_data, List.length_drop]; rfl
  rw [hz] at hle
  exact hle

set_option maxRecDepth 100000 in
set_option maxHeartbeats 600000 in
theorem ref_lead (s p : ByteArray) (hs : s.size < 4294967281) (hp : p.size ≤ 100) (w : World) (L : LayS w) :
    Calls Tryd.prog 39 #[.string s, .string p] w fun ev w' => ev = .returned (leadV s (leadR s p)) ∧ Below w.heap.size w w' := by
  obtain ⟨n, hn⟩ : ∃ n, n = runOf s p := ⟨_, rfl⟩
  have hle := runOf_le s p
  rw [← hn] at hle
  have DG : ∀ w, Calls Tryd.prog 49 #[.string (s.extract p.size s.size)] w fun ev w' => ev = .returned (.int .i64 n) ∧ w = w' := by
    intro w
    rw [hn]
    exact ref_digits (tailOf s p) (by unfold tailOf; simp; omega) w
  have st := Sq.start L
  clear L
  generalize hV : leadV s (leadR s p) = V
  rw [leadR_at s p n hn] at hV
  clear hn
  have HV := Lib.hid hV
  have HD := Lib.hid DG
  clear hV DG
  by_cases h1 : p.size ≤ s.size
  · by_cases h2 : s.extract 0 p.size = p
    · have hq : ((s.extract 0 p.size).toList == p.toList) = true := str_same h2
      have H2 := Lib.hid (And.intro h1 h2)
      clear h2
      have hle2 : p.size + n ≤ s.size := by omega
      have hle3 : (p.size : Int) + (n : Int) ≤ (s.size : Int) := by omega
      have hX : (s.extract p.size (p.size + n)).size ≤ 281474976710656 := by simp; omega
      have AT := Lib.hid (fun w L => strconv_Atoi (s.extract p.size (p.size + n)) hX w L)
      clear hX
      have hz : (s.extract (p.size + n) s.size).size = s.size - (p.size + n) := by simp
      have HZ := Lib.hid hz
      clear hz
      by_cases m0 : n = 0
      · have hF : V = leadV s none := by rw [← HV.out, if_pos H2.out, if_pos (Or.inl m0)]
        have HF := Lib.hid hF
        clear HV AT hF
        subst m0
        go_enter Tryd.func39, Tryd.ntmps39
        go_wp2_with fail
        refine (HD.out _).mono ?_
        rintro ev w' ⟨rfl, rfl⟩
        go_wp2
        go_ret3
        exact ⟨by rw [HF.out]; rfl, st.B⟩
      have m0' : ((n : Int) == 0) = false := by simp; omega
      by_cases m2 : 2 ≤ s.size - (p.size + n)
      · by_cases mx : (s.extract (p.size + n) s.size).extract 0 2 = colonWord
        · have hF : V = leadV s (some ((atoiV (s.extract p.size (p.size + n))).1, (s.extract (p.size + n) s.size).extract 2 (s.extract (p.size + n) s.size).size)) := by
            rw [← HV.out, if_pos H2.out, if_neg]
            rintro (h | h)
            · exact m0 h
            · exact h ⟨by rw [HZ.out]; exact m2, mx⟩
          rw [HZ.out] at hF
          have HF := Lib.hid hF
          clear hF HV
          have mx' : (((s.extract (p.size + n) s.size).extract 0 2).toList == [58, 32]) = true := by rw [mx]; simp [colonWord, Lib.toList_data]
          clear mx
          generalize atoiV (s.extract p.size (p.size + n)) = P at AT HF
          have hsl : ∀ w, (Instr.slice 9 (.string s) (some (.int .i64 (p.size : Int))) (some (.int .i64 ((p.size : Int) + (n : Int)))) none).run Tryd.prog w = .ok (.string (s.extract p.size (p.size + n))) w := fun w => by
            have h := run_slice_string (P := Tryd.prog) (w := w) 9 s .i64 .i64 (p.size : Int) ((p.size : Int) + (n : Int)) Tryd.underlying9 (by omega) (by omega) hle3
            rw [show ((p.size : Int) + (n : Int)).toNat = p.size + n by omega, show ((p.size : Int)).toNat = p.size by omega] at h
            exact h
          obtain ⟨v, vb⟩ := P
          go_enter Tryd.func39, Tryd.ntmps39
          go_wp2_with fail
          refine (HD.out _).mono ?_
          rintro ev w' ⟨rfl, rfl⟩
          go_wp2_with fail
          refine (AT.out _ st.L).mono ?_
          rintro ev w' ⟨e, rfl, -, hB⟩
          replace st := st.next hB
          clear hB AT
          go_wp2_with fail
          clear hq hsl h1 hle hle2 mx'
          go_region
          go_wp2
          go_ret3
          exact ⟨by rw [HF.out]; rfl, by first | exact st.B | exact st.drew.B⟩
        · have hF : V = leadV s none := by rw [← HV.out, if_pos H2.out, if_pos (Or.inr (fun h => mx h.2))]
          have HF := Lib.hid hF
          have mx' : (((s.extract (p.size + n) s.size).extract 0 2).toList == [58, 32]) = false := by have := str_other mx; simpa [colonWord, Lib.toList_data] using this
          clear HV AT hF mx
          go_enter Tryd.func39, Tryd.ntmps39
          go_wp2_with fail
          refine (HD.out _).mono ?_
          rintro ev w' ⟨rfl, rfl⟩
          go_wp2
          go_ret3
          exact ⟨by rw [HF.out]; rfl, st.B⟩
      · have hF : V = leadV s none := by rw [← HV.out, if_pos H2.out, if_pos (Or.inr (fun h => m2 (by rw [← HZ.out]; exact h.1)))]
        have HF := Lib.hid hF
        have m2' : ((s.size - (p.size + n) : Nat) : Int) < 2 := by omega
        clear HV AT hF
        go_enter Tryd.func39, Tryd.ntmps39
        go_wp2_with fail
        refine (HD.out _).mono ?_
        rintro ev w' ⟨rfl, rfl⟩
        go_wp2
        go_ret3
        exact ⟨by rw [HF.out]; rfl, st.B⟩
    · have hF : V = leadV s none := by rw [← HV.out, if_neg (fun h => h2 h.2)]
      have HF := Lib.hid hF
      have hq : ((s.extract 0 p.size).toList == p.toList) = false := str_other h2
      clear HV hF h2
      go_enter Tryd.func39, Tryd.ntmps39
      go_wp2
      go_ret3
      exact ⟨by rw [HF.out]; rfl, st.B⟩
  · have hF : V = leadV s none := by rw [← HV.out, if_neg (fun h => h1 h.1)]
    have HF := Lib.hid hF
    have hq : s.size < p.size := by omega
    clear HV hF h1
    go_enter Tryd.func39, Tryd.ntmps39
    go_wp2
    go_ret3
    exact ⟨by rw [HF.out]; rfl, st.B⟩
end Go.Proofs.YtmjagnimdbbbnaaDoor
