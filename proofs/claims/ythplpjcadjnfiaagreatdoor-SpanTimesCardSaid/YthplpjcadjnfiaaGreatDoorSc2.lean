/- The document's clock: sign, fraction, zone. -/
import Derived.Test.YthplpjcadjnfiaaGreatDoorSc1
namespace Go.Proofs.YthplpjcadjnfiaaGreatDoor
open Go.RowKit
set_option linter.unusedSimpArgs false
set_option linter.unusedVariables false

theorem sig_get {s : ByteArray} {a : Nat} (hi : a < s.size) (c : UInt8) : sigS s.data.toList a c = (((s[a]'hi).toNat : Int) == (c.toNat : Int)) := by
  unfold sigS
  rw [List.getElem?_eq_getElem (show a < s.data.toList.length from hi)]
  rw [show s.data.toList[a]'hi = s[a]'hi from rfl]
  rw [Bool.eq_iff_iff]
  simp only [beq_iff_eq, Option.some.injEq]
  constructor
  · rintro rfl; rfl
  · intro h
    exact UInt8.toNat_inj.1 (by omega)
theorem sig_end {s : ByteArray} {a : Nat} (hi : ¬ a < s.size) (c : UInt8) : sigS s.data.toList a c = false := by
  unfold sigS
  rw [List.getElem?_eq_none (by rw [show s.data.toList.length = s.size from rfl]; omega)]
  rfl
theorem CkAt.drewN {c : Nat} {s : ByteArray} {st : CSt} {w : World} (h : CkAt c s st w) (n : Nat) : CkAt c s st (w.drewN n) := h
set_option maxRecDepth 100000 in
set_option maxHeartbeats 1000000 in
theorem ck_sign (c : Nat) (s : ByteArray) (st : CSt) (ch : UInt8) (z : Int) (hz : z = (ch.toNat : Int)) (ha : st.1 ≤ s.size) (hs : s.size ≤ 140737488355328) (w : World) (h : CkAt c s st w) :
    Calls Tryz.prog 67 #[.pointer (some ⟨c, 0, none⟩), .int .u8 z] w fun ev w' => ev = .returned (.tuple #[]) ∧ CkAt c s (sigC s.data.toList ch st) w' ∧ w.grownBy w' (some c) := by
  obtain ⟨a, b⟩ := st
  replace ha : a ≤ s.size := ha
  have h' := h
  unfold CkAt at h'
  cases b with
  | some p =>
    rw [sigC_bad]
    simp only [kC, kB, kP] at h'
    have k2 := blk_cell' h' 2
    clear hz
    go_enter Tryz.func67, Tryz.ntmps67
    go_wp2
    first | go_end0 | refine bodyPost_ret (results_none rfl _ _ _) rfl ?_
    exact ⟨rfl, h, gr_refl _ _⟩
  | none =>
    simp only [kC, kB, kP] at h'
    have k0 := blk_cell' h' 0
    have k1 := blk_cell' h' 1
    have k2 := blk_cell' h' 2
    have f1 := blk_free' h' 1
    have CW := Lib.hid (fun W hW => ck_wrong c s a ha W hW)
    by_cases hi : a < s.size
    · have hg := sig_get hi ch
      rw [← hz] at hg
      have kl : decide ((s.size : Int) ≤ (a : Int)) = false := by simp; omega
      have kl2 : ¬ s.size ≤ a := by omega
      clear hz
      by_cases hq : sigS s.data.toList a ch = true
      · rw [sigC_yes hq]
        rw [hq] at hg
        replace hg := hg.symm
        have hfin := h.at (a + 1)
        clear hq h' CW
        go_enter Tryz.func67, Tryz.ntmps67
        go_wp2_with fail
        go_quiet (fail)
        go_wp2_with fail
        first | go_end0 | refine bodyPost_ret (results_none rfl _ _ _) rfl ?_
        exact ⟨rfl, hfin, grown_set (grown_of_below (below_drewN (Below.refl _ _) _) (Nat.le_refl _) _) 1 _⟩
      · rw [sigC_no hq]
        rw [Bool.not_eq_true] at hq
        rw [hq] at hg
        replace hg := hg.symm
        clear hq h'
        go_enter Tryz.func67, Tryz.ntmps67
        go_wp2_with fail
        go_quiet (fail)
        go_wp2_with fail
        refine (CW.out _ (h.drewN _)).mono ?_
        rintro e w2 ⟨rfl, h2, hg⟩
        go_wp2
        first | go_end0 | refine bodyPost_ret (results_none rfl _ _ _) rfl ?_
        exact ⟨rfl, h2, grown_after (below_drewN (Below.refl _ _) _) hg⟩
    · have kl : decide ((s.size : Int) ≤ (a : Int)) = true := by simp; omega
      have kl2 : s.size ≤ a := by omega
      rw [sigC_no (by rw [sig_end hi]; decide)]
      clear hz hi h'
      go_enter Tryz.func67, Tryz.ntmps67
      go_wp2_with fail
      go_quiet (fail)
      go_wp2_with fail
      refine (CW.out _ (h.drewN _)).mono ?_
      rintro e w2 ⟨rfl, h2, hg⟩
      go_wp2
      first | go_end0 | refine bodyPost_ret (results_none rfl _ _ _) rfl ?_
      exact ⟨rfl, h2, grown_after (below_drewN (Below.refl _ _) _) hg⟩
theorem numC_bd {l : List UInt8} {n : Nat} {lo hi : Int} {st : CSt} (hlo : 0 ≤ lo) (hhi : 0 ≤ hi) : 0 ≤ (numC l n lo hi st).1 ∧ (numC l n lo hi st).1 ≤ hi := by
  obtain ⟨a, b⟩ := st
  cases b with
  | some p => exact ⟨Int.le_refl _, hhi⟩
  | none =>
    cases hv : numS l a n lo hi with
    | none => rw [numC_no hv]; exact ⟨Int.le_refl _, hhi⟩
    | some v => rw [numC_yes hv]; have := numS_bd hv; exact ⟨by show 0 ≤ v; omega, this.2⟩
set_option maxRecDepth 100000 in
set_option maxHeartbeats 1000000 in
theorem ck_zone (c : Nat) (s : ByteArray) (st : CSt) (ha : st.1 ≤ s.size) (hs : s.size ≤ 140737488355328) (w : World) (h : CkAt c s st w) :
    Calls Tryz.prog 70 #[.pointer (some ⟨c, 0, none⟩)] w (CkPost c s (.int .i64) w (zoneC s.data.toList st)) := by
  obtain ⟨a, b⟩ := st
  replace ha : a ≤ s.size := ha
  have h' := h
  unfold CkAt at h'
  cases b with
  | some p =>
    rw [zoneC_bad]
    simp only [kC, kB, kP] at h'
    have k2 := blk_cell' h' 2
    go_enter Tryz.func70, Tryz.ntmps70
    go_wp2
    go_ret
    exact ⟨rfl, h, gr_refl _ _⟩
  | none =>
    simp only [kC, kB, kP] at h'
    have k0 := blk_cell' h' 0
    have k1 := blk_cell' h' 1
    have k2 := blk_cell' h' 2
    have f1 := blk_free' h' 1
    have CW := Lib.hid (fun W hW => ck_wrong c s a ha W hW)
    by_cases hi : a < s.size
    case neg =>
      have kl : decide ((s.size : Int) ≤ (a : Int)) = true := by simp; omega
      have kl2 : s.size ≤ a := by omega
      have hR : zoneC s.data.toList (a, none) = (0, (a, some a)) := by
        unfold zoneC
        simp only [sig_end hi, Bool.false_eq_true, if_false, or_self]
      rw [hR]
      clear hi h' hR
      go_enter Tryz.func70, Tryz.ntmps70
      go_wp2_with fail
      go_quiet (fail)
      go_wp2_with fail
      refine (CW.out _ (h.drewN _)).mono ?_
      rintro e w2 ⟨rfl, h2, hg⟩
      go_wp2
      go_ret
      exact ⟨rfl, h2, grown_after (below_drewN (Below.refl _ _) _) hg⟩
    have g90 := sig_get hi 90
    have g43 := sig_get hi 43
    have g45 := sig_get hi 45
    have kl : decide ((s.size : Int) ≤ (a : Int)) = false := by simp; omega
    have kl2 : ¬ s.size ≤ a := by omega
    by_cases h90 : sigS s.data.toList a 90 = true
    · have hR : zoneC s.data.toList (a, none) = (0, (a + 1, none)) := by
        unfold zoneC
        simp only [h90, if_true]
      rw [hR]
      rw [h90] at g90
      have hc : ((s[a]'hi).toNat : Int) = 90 := by simpa using g90.symm
      have kA : (((s[a]'hi).toNat : Int) == 90) = true := by simpa using hc
      have kAx : (((s[a]'hi).toNat : Int) != 90) = false := by rw [bne, kA]; rfl
      have hfin := h.at (a + 1)
      clear g90 g43 g45 h90 hR h' CW hc
      go_enter Tryz.func70, Tryz.ntmps70
      go_wp2_with fail
      go_quiet (fail)
      go_wp2_with fail
      go_quiet (fail)
      go_wp2_with fail
      go_ret
      exact ⟨rfl, hfin, grown_set (grown_of_below (below_drewN (Below.refl _ _) _) (Nat.le_refl _) _) 1 _⟩
    have n90 : (((s[a]'hi).toNat : Int) == 90) = false := by rw [Bool.not_eq_true] at h90; rw [h90] at g90; exact g90.symm
    have n90x : (((s[a]'hi).toNat : Int) != 90) = true := by rw [bne, n90]; rfl
    by_cases hpm : sigS s.data.toList a 43 = true ∨ sigS s.data.toList a 45 = true
    case neg =>
      have hR : zoneC s.data.toList (a, none) = (0, (a, some a)) := by
        unfold zoneC
        simp only [h90, hpm, if_false, Bool.false_eq_true]
      rw [hR]
      have s43 : sigS s.data.toList a 43 = false := by rw [← Bool.not_eq_true]; exact fun q => hpm (Or.inl q)
      have s45 : sigS s.data.toList a 45 = false := by rw [← Bool.not_eq_true]; exact fun q => hpm (Or.inr q)
      rw [s43] at g43
      rw [s45] at g45
      have n43 : (((s[a]'hi).toNat : Int) == 43) = false := g43.symm
      have n43x : (((s[a]'hi).toNat : Int) != 43) = true := by rw [bne, n43]; rfl
      have n45 : (((s[a]'hi).toNat : Int) == 45) = false := g45.symm
      have n45x : (((s[a]'hi).toNat : Int) != 45) = true := by rw [bne, n45]; rfl
      clear g90 g43 g45 h90 hR h' hpm s43 s45
      go_enter Tryz.func70, Tryz.ntmps70
      go_wp2_with fail
      go_quiet (fail)
      go_wp2_with fail
      refine (CW.out _ (h.drewN _)).mono ?_
      rintro e w2 ⟨rfl, h2, hg⟩
      go_wp2
      go_ret
      exact ⟨rfl, h2, grown_after (below_drewN (Below.refl _ _) _) hg⟩
    have hR : zoneC s.data.toList (a, none) = (if sigS s.data.toList a 45 = true then -(60 * (numC s.data.toList 2 0 23 (a + 1, none)).1 + (numC s.data.toList 2 0 59 (sigC s.data.toList 58 (numC s.data.toList 2 0 23 (a + 1, none)).2)).1)
       else 60 * (numC s.data.toList 2 0 23 (a + 1, none)).1 + (numC s.data.toList 2 0 59 (sigC s.data.toList 58 (numC s.data.toList 2 0 23 (a + 1, none)).2)).1,
       (numC s.data.toList 2 0 59 (sigC s.data.toList 58 (numC s.data.toList 2 0 23 (a + 1, none)).2)).2) := by
      unfold zoneC
      simp only [h90, hpm, if_false, if_true, Bool.false_eq_true]
    rw [hR]
    have C1 := fun W hW => ck_number c s (a + 1, none) 2 0 23 hs (by show a + 1 ≤ s.size; omega) (by omega) W hW
    have l1 : (numC s.data.toList 2 0 23 (a + 1, none)).2.1 ≤ s.size := numC_le (show a + 1 ≤ s.data.toList.length from hi)
    have b1 := numC_bd (l := s.data.toList) (n := 2) (lo := 0) (hi := 23) (st := (a + 1, none)) (by omega) (by omega)
    generalize numC s.data.toList 2 0 23 (a + 1, none) = M1 at *
    have C2 := fun W hW => ck_sign c s M1.2 58 58 rfl l1 hs W hW
    have l2 : (sigC s.data.toList 58 M1.2).1 ≤ s.size := sigC_le l1
    generalize sigC s.data.toList 58 M1.2 = M2 at *
    have C3 := fun W hW => ck_number c s M2 2 0 59 hs l2 (by omega) W hW
    have b3 := numC_bd (l := s.data.toList) (n := 2) (lo := 0) (hi := 59) (st := M2) (by omega) (by omega)
    generalize numC s.data.toList 2 0 59 M2 = M3 at *
    obtain ⟨v1, s1⟩ := M1
    obtain ⟨v3, s3⟩ := M3
    replace b1 : 0 ≤ v1 ∧ v1 ≤ 23 := b1
    replace b3 : 0 ≤ v3 ∧ v3 ≤ 59 := b3
    obtain ⟨b10, b11⟩ := b1
    obtain ⟨b30, b31⟩ := b3
    have hat := Lib.hid (h.at (a + 1))
    have C1 := Lib.hid C1
    have C2 := Lib.hid C2
    have C3 := Lib.hid C3
    clear hR l1 l2 CW
    by_cases h45 : sigS s.data.toList a 45 = true
    · have kA : (((s[a]'hi).toNat : Int) == 45) = true := by rw [h45] at g45; exact g45.symm
      have kB : (((s[a]'hi).toNat : Int) == 43) = false := by
        have : ((s[a]'hi).toNat : Int) = 45 := by simpa using kA
        rw [this]; rfl
      have kBx : (((s[a]'hi).toNat : Int) != 43) = true := by rw [bne, kB]; rfl
      simp only [h45, if_true]
      clear g90 g43 g45 h90 h' hpm h45
      go_enter Tryz.func70, Tryz.ntmps70
      go_wp2_with fail
      go_quiet (fail)
      go_wp2_with fail
      go_quiet (fail)
      go_wp2_with fail
      refine (C1.out _ (by exact hat.out)).mono ?_
      rintro ev w1 ⟨rfl, h1, hg1⟩
      clear k0 k1 k2 f1
      go_wp2_with fail
      refine (C2.out _ h1).mono ?_
      rintro ev w2 ⟨rfl, h2, hg2⟩
      go_wp2_with fail
      refine (C3.out _ h2).mono ?_
      rintro ev w3 ⟨rfl, h3, hg3⟩
      go_wp2
      go_ret
      exact ⟨rfl, h3, gr_trans (gr_trans (gr_trans (grown_set (grown_of_below (below_drewN (Below.refl _ _) _) (Nat.le_refl _) _) 1 _) hg1) hg2) hg3⟩
    · have kA : (((s[a]'hi).toNat : Int) == 45) = false := by rw [Bool.not_eq_true] at h45; rw [h45] at g45; exact g45.symm
      have kB : (((s[a]'hi).toNat : Int) == 43) = true := by
        have : sigS s.data.toList a 43 = true := hpm.resolve_right h45
        rw [this] at g43; exact g43.symm
      have kBx : (((s[a]'hi).toNat : Int) != 43) = false := by rw [bne, kB]; rfl
      simp only [h45, if_false, Bool.false_eq_true]
      clear g90 g43 g45 h90 h' hpm h45
      go_enter Tryz.func70, Tryz.ntmps70
      go_wp2_with fail
      go_quiet (fail)
      go_wp2_with fail
      go_quiet (fail)
      go_wp2_with fail
      refine (C1.out _ (by exact hat.out)).mono ?_
      rintro ev w1 ⟨rfl, h1, hg1⟩
      clear k0 k1 k2 f1
      go_wp2_with fail
      refine (C2.out _ h1).mono ?_
      rintro ev w2 ⟨rfl, h2, hg2⟩
      go_wp2_with fail
      refine (C3.out _ h2).mono ?_
      rintro ev w3 ⟨rfl, h3, hg3⟩
      go_wp2
      go_ret
      exact ⟨rfl, h3, gr_trans (gr_trans (gr_trans (grown_set (grown_of_below (below_drewN (Below.refl _ _) _) (Nat.le_refl _) _) 1 _) hg1) hg2) hg3⟩
end Go.Proofs.YthplpjcadjnfiaaGreatDoor
