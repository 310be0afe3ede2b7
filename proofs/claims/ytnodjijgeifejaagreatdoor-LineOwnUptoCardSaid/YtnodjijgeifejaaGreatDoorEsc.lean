/- key.Escape; line.plain: what each answers. -/
import Derived.Test.YtnodjijgeifejaaGreatDoorEscLaw
import Derived.Test.YtnodjijgeifejaaGreatDoorUnesc
import Derived.Test.YtnodjijgeifejaaGreatDoorPst
import Derived.Test.YtnodjijgeifejaaGreatDoorLib2
namespace Go.Proofs.YtnodjijgeifejaaGreatDoor
open Go.RowKit
set_option linter.unusedSimpArgs false
set_option linter.unusedVariables false

theorem Bld.next {b : Nat} {l : List UInt8} {w w' : World} (h : Bld b l w) (hB : Below w.heap.size w w') : Bld b l w' := by
  rcases h with h | h
  · obtain ⟨h0, v, hb, hown, hne⟩ := h
    exact .inl ⟨h0, v, below_blk hB (blk_lt' hb) hb, hown.kept (grown_of_below hB (Nat.le_refl _) none) (by cases v.ownBlock <;> simp), hne⟩
  · obtain ⟨h0, v, hb, hown, hne⟩ := h
    exact .inr ⟨h0, v, below_blk hB (blk_lt' hb) hb, hown.kept (grown_of_below hB (Nat.le_refl _) none) (by cases v.ownBlock <;> simp), hne⟩
set_option maxRecDepth 100000 in
set_option maxHeartbeats 800000 in
theorem key_Escape (s : ByteArray) (hs : s.size ≤ 35184372088832) (w : World) :
    Calls Tryz.prog 29 #[.string s] w fun ev w' => ev = .returned (.string (escS s)) ∧ Below w.heap.size w w' := by
  unfold escS
  obtain ⟨R, hR⟩ : ∃ R, R = escL s.data.toList := ⟨_, rfl⟩
  rw [← hR]
  have HR := Lib.hid hR
  clear hR
  have hl : s.data.toList.length = s.size := rfl
  have hf := Bld.fresh w
  go_enter Tryz.func29, Tryz.ntmps29
  go_wp2
  go_loopg [4, 7] s.size (fun n v4 v7 wr => ∃ (i : Nat), v7 = .int .i64 i ∧ i + n = s.size ∧ Bld w.heap.size (escL (s.data.toList.take i)) wr ∧ Below w.heap.size w wr)
  case atStart => exact ⟨0, rfl, by omega, hf, (Below.refl _ _).alloc (Nat.le_refl _) _⟩
  case round =>
    clear hf
    obtain ⟨i, rfl, hn, hbd, hbe⟩ := hrel
    by_cases hi : i < s.size
    · have ht := escL_take (l := s.data.toList) (i := i) hi
      have hb : s.data.toList[i]'hi = s[i] := rfl
      rw [hb] at ht
      have hal : (escL (s.data.toList.take i)).length ≤ 2 * i := Nat.le_trans (escL_len _) (by rw [List.length_take]; omega)
      generalize escL (s.data.toList.take i) = acc at hbd ht hal
      have SP := Lib.hid (fun w => key_special s[i] w)
      by_cases hd : sp4 s[i] = true
      · rw [hd] at SP
        rw [if_pos hd] at ht
        have HT := Lib.hid ht
        have W1 := Lib.hid (fun wr h => write_byte w.heap.size acc 92 wr h (by omega))
        have W2 := Lib.hid (fun wr h => write_byte w.heap.size (acc ++ [92]) s[i] wr h (by simp; omega))
        clear ht hd hb hal
        go_wp2_with fail
        refine (SP.out _).mono ?_
        rintro ev w' ⟨rfl, rfl⟩
        go_wp2_with fail
        refine (W1.out _ hbd).mono ?_
        rintro ev w' ⟨rfl, hbd1, hB1⟩
        go_wp2_with fail
        refine (W2.out _ hbd1).mono ?_
        rintro ev w' ⟨rfl, hbd2, hB2⟩
        go_wp2
        go_roundg (gk - 1)
        case measure => omega
        case rel => exact ⟨i + 1, by go_num, by omega, by rw [HT.out]; simpa using hbd2, (hbe.trans hB1).trans hB2⟩
      · have hd' : sp4 s[i] = false := by simpa using hd
        rw [hd'] at SP
        rw [if_neg hd] at ht
        have HT := Lib.hid ht
        have W2 := Lib.hid (fun wr h => write_byte w.heap.size acc s[i] wr h (by omega))
        clear ht hd hb hal hd'
        go_wp2_with fail
        refine (SP.out _).mono ?_
        rintro ev w' ⟨rfl, rfl⟩
        go_wp2_with fail
        refine (W2.out _ hbd).mono ?_
        rintro ev w' ⟨rfl, hbd2, hB2⟩
        go_wp2
        go_roundg (gk - 1)
        case measure => omega
        case rel => exact ⟨i + 1, by go_num, by omega, by rw [HT.out]; exact hbd2, hbe.trans hB2⟩
    · have ht : s.data.toList.take i = s.data.toList := List.take_of_length_le (by rw [hl]; omega)
      rw [ht, ← HR.out] at hbd
      clear ht
      go_wp2_with fail
      refine (build_string w.heap.size R _ hbd).mono ?_
      rintro ev w' ⟨rfl, hB⟩
      go_wp2
      go_ret
      exact ⟨rfl, hbe.trans hB⟩
set_option maxRecDepth 100000 in
set_option maxHeartbeats 800000 in
theorem line_plain (s : ByteArray) (w : World) :
    Calls Tryz.prog 78 #[.string s] w fun ev w' => ev = .returned (.bool (plainP s)) ∧ w = w' := by
  have hc : decide (0 ≤ Lib.indexByte s.data.toList 10) = decide (10 ∈ s.data.toList) := by
    rcases nl_index s with ⟨h1, h2⟩ | ⟨i, h1, h2⟩
    · have : ¬ (10 ∈ s.data.toList) := by unfold nlP at h1; split at h1 <;> simp_all
      simp [this]; omega
    · have : 10 ∈ s.data.toList := by unfold nlP at h1; split at h1 <;> simp_all
      simp [this]; omega
  have SC := fun w => strings_Contains_one s 10 w
  rw [hc] at SC
  obtain ⟨V, hV⟩ : ∃ V, V = plainP s := ⟨_, rfl⟩
  rw [← hV]
  have HV := Lib.hid hV
  have SC := Lib.hid SC
  clear hV hc
  by_cases h0 : s = ⟨#[]⟩
  · have hx : s.toList.isEmpty = true := by subst h0; simp
    have HF := Lib.hid (show V = false by rw [HV.out, h0]; rfl)
    clear h0
    go_enter Tryz.func78, Tryz.ntmps78
    go_wp2
    go_ret
    have e := HF.out
    subst e
    exact ⟨rfl, rfl⟩
  · have hx := str_ne h0
    have hs : s.data.toList ≠ [] := fun e => h0 (bytes_ext e)
    have HF := Lib.hid (show V = !decide (10 ∈ s.data.toList) by rw [HV.out]; unfold plainP; cases hq : s.data.toList with | nil => exact absurd hq hs | cons a b => simp)
    generalize decide (10 ∈ s.data.toList) = q at SC HF
    clear h0 hs
    go_enter Tryz.func78, Tryz.ntmps78
    go_wp2_with fail
    refine (SC.out _).mono ?_
    rintro ev w' ⟨rfl, rfl⟩
    go_wp2
    all_goals go_ret
    all_goals (have e := HF.out; subst e)
    all_goals exact ⟨rfl, rfl⟩
end Go.Proofs.YtnodjijgeifejaaGreatDoor
