/- LineParses: every text: the points of its lines, or the error, its place and the line's number. -/
import Derived.Test.YtnodjijgeifejaaGreatDoorRlns
import Derived.Test.YtnodjijgeifejaaGreatDoorLive
namespace Go.Proofs.YtnodjijgeifejaaGreatDoor
open Go.RowKit
set_option linter.unusedSimpArgs false
set_option linter.unusedVariables false

theorem same_parse (R : Sum (List Pt) (Nat × Option Nat)) : same (parseE R) (parseBad R) = true := by
  rcases R with l | ⟨k, _ | e⟩
  · rfl
  · simp [same, parseE, parseBad, oneE, oneBad, mkIn, mkE, refIn, refNew, Er.code?, Er.at?, Er.in?, atPos, inPos]
  · simp [same, parseE, parseBad, oneE, oneBad, mkIn, refIn, refAt, mkAt, Er.code?, Er.at?, Er.in?, atPos, inPos]
set_option maxRecDepth 100000 in
set_option maxHeartbeats 2000000 in
theorem parses_true (s : ByteArray) (hs : s.size < 4294967281) (w : World) (L : LayM w) :
    Calls Tryz.prog 4 #[.string s] w fun ev w' => ev = .returned (.bool true) ∧ Below w.heap.size w w' := by
  have hub := Tryz.underlying35
  obtain ⟨X, hX⟩ : ∃ X, X = parseS s := ⟨_, rfl⟩
  have C1 := fun w L => line_Parse s hs w L
  have C2 := fun w L => ref_Parse s hs w L
  rw [← hX] at C1 C2
  have hS := same_parse X
  have CS := fun w hg => weirboth_Same (parseE X) (parseBad X) w hg
  rw [hS] at CS
  clear hX hS
  generalize parseE X = E at *
  generalize parseBad X = Bd at *
  generalize parseD X = D at *
  clear X
  obtain ⟨V, hV⟩ : ∃ V, V = encE E := ⟨_, rfl⟩
  rw [← hV] at C1 CS
  obtain ⟨bc, bp, bi, bpl, bnu⟩ := Bd
  simp only [Bad.enc] at C2 CS
  have C1 := Lib.hid C1
  have C2 := Lib.hid C2
  have CS := Lib.hid CS
  have LV := Lib.hid (fun w L => live_true w L)
  clear hV
  go_enter Tryz.func4, Tryz.ntmps4
  go_wp2_with fail
  refine (LV.out _ L.S).mono ?_
  rintro ev w1 ⟨rfl, B1⟩
  have L1 := L.below B1
  go_wp2_with fail
  refine (C1.out _ L1).mono ?_
  rintro ev w2 ⟨v2, q2, rfl, hq2, P2, hB⟩
  have B2 := B1.trans (hB.mono B1.size)
  have L2 := L.below B2
  obtain ⟨A2, c2, hv, hp2⟩ := P2.at
  rw [hq2] at hp2
  rw [show q2.length = D.length from by rw [← hq2, List.length_map]] at hv
  subst hv
  clear hB B1 L1 P2
  go_wp2_with fail
  refine (C2.out _ L2.S).mono ?_
  rintro ev w3 ⟨v3, q3, rfl, hq3, P3, hB⟩
  have B3 := B2.trans (hB.mono B2.size)
  obtain ⟨A3, c3, hv, hp3⟩ := P3.at
  rw [hq3] at hp3
  rw [show q3.length = D.length from by rw [← hq3, List.length_map]] at hv
  subst hv
  have hp2 := hp2.next hB
  clear hB B2 L2 P3
  have L3 := L.below B3
  go_wp2_with fail
  refine (CS.out _ (L3.S.L.hg.alloc _)).mono ?_
  rintro ev w4 ⟨rfl, hB⟩
  have hB' : Below w3.heap.size w3 w4 := ((Below.refl _ _).alloc (Nat.le_refl _) _).trans (hB.mono (by simp))
  have B4 := B3.trans (hB'.mono B3.size)
  have hp2 := hp2.next hB'
  have hp3 := hp3.next hB'
  have SX := Lib.hid (SamePoints_eq A2 A3 c2 c3 D w4 hp2 hp3)
  clear hB hB' B3 L3 hp2 hp3
  go_wp2_with fail
  refine SX.out.mono ?_
  rintro ev w5 ⟨rfl, m, rfl⟩
  go_wp2_with fail
  go_ret
  exact ⟨rfl, B4.trans ((below_drewN0 _ m).mono B4.size)⟩
end Go.Proofs.YtnodjijgeifejaaGreatDoor
