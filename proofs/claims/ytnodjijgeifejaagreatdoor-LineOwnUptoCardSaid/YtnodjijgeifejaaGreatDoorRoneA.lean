/- weirref06.One, where the text is no line at once: too long, an end of line in it, a mark at its front. -/
import Derived.Test.YtnodjijgeifejaaGreatDoorQst
import Derived.Test.YtnodjijgeifejaaGreatDoorOne
namespace Go.Proofs.YtnodjijgeifejaaGreatDoor
open Go.RowKit
set_option linter.unusedSimpArgs false
set_option linter.unusedVariables false

def oneBad : Sum Pt (Option Nat) → Bad
  | .inl _ => Bad.nil
  | .inr none => refNew 6
  | .inr (some e) => refAt e 60
theorem two_ends {w : World} (q : Nat) (v0 v1 v2 v3 b0 b1 b2 b3 b4 : Value) (hq : w.heap[q]? = some ptZ) (hz : w.heap[q + 1]? = some badZ) :
    (((((((((w.setCell ⟨q, 0, none⟩ v0).setCell ⟨q, 1, none⟩ v1).setCell ⟨q, 2, none⟩ v2).setCell ⟨q, 3, none⟩ v3).setCell ⟨q + 1, 0, none⟩ b0).setCell ⟨q + 1, 1, none⟩ b1).setCell ⟨q + 1, 2, none⟩ b2).setCell ⟨q + 1, 3, none⟩ b3).setCell ⟨q + 1, 4, none⟩ b4).heap[q]? = some (.cells #[v0, v1, v2, v3] 32 (0, 0)) ∧
    (((((((((w.setCell ⟨q, 0, none⟩ v0).setCell ⟨q, 1, none⟩ v1).setCell ⟨q, 2, none⟩ v2).setCell ⟨q, 3, none⟩ v3).setCell ⟨q + 1, 0, none⟩ b0).setCell ⟨q + 1, 1, none⟩ b1).setCell ⟨q + 1, 2, none⟩ b2).setCell ⟨q + 1, 3, none⟩ b3).setCell ⟨q + 1, 4, none⟩ b4).heap[q + 1]? = some (.cells #[b0, b1, b2, b3, b4] 35 (0, 0)) ∧
    (∀ B : Nat, B ≤ q → Below B w (((((((((w.setCell ⟨q, 0, none⟩ v0).setCell ⟨q, 1, none⟩ v1).setCell ⟨q, 2, none⟩ v2).setCell ⟨q, 3, none⟩ v3).setCell ⟨q + 1, 0, none⟩ b0).setCell ⟨q + 1, 1, none⟩ b1).setCell ⟨q + 1, 2, none⟩ b2).setCell ⟨q + 1, 3, none⟩ b3).setCell ⟨q + 1, 4, none⟩ b4)) := by
  have hne : q + 1 ≠ q := by omega
  have hz1 := blk_far' (blk_far' (blk_far' (blk_far' hz hne 0 v0) hne 1 v1) hne 2 v2) hne 3 v3
  refine ⟨bad_far (pt_blk hq v0 v1 v2 v3) (fun e => hne e.symm) b0 b1 b2 b3 b4, bad_blk hz1 b0 b1 b2 b3 b4, fun B hB => ?_⟩
  exact below_bad (((((Below.refl B w).setCell (p := ⟨q, 0, none⟩) hB _).setCell (p := ⟨q, 1, none⟩) hB _).setCell (p := ⟨q, 2, none⟩) hB _).setCell (p := ⟨q, 3, none⟩) hB _) (by omega) b0 b1 b2 b3 b4
set_option maxRecDepth 100000 in
set_option maxHeartbeats 2000000 in
theorem ref_One_long (s : ByteArray) (w : World) (L : LayS w) (h8 : 8192 < s.size) :
    Calls Tryz.prog 41 #[.string s] w fun ev w' => ∃ v, ev = .returned (.tuple #[v, (oneBad (oneP s)).enc]) ∧ PtIn w.heap.size v (oneD (oneP s)) w' ∧ Below w.heap.size w w' := by
  rw [← one_eq]
  obtain ⟨X, hX⟩ : ∃ X, oneR s = X := ⟨_, rfl⟩
  rw [hX]
  obtain ⟨E, hE⟩ : ∃ E, E = (oneBad X).enc := ⟨_, rfl⟩
  obtain ⟨D, hD⟩ : ∃ D, D = oneD X := ⟨_, rfl⟩
  rw [← hE, ← hD]
  have HE := Lib.hid hE
  have HD := Lib.hid hD
  clear hE hD
  unfold oneR at hX
  have B2 : Below w.heap.size w ((w.alloc ptZ).alloc badZ) := ((Below.refl _ _).alloc (Nat.le_refl _) _).alloc (by first | (simp; done) | (simp; omega)) _
  have q2 : ((w.alloc ptZ).alloc badZ).heap[w.heap.size]? = some ptZ := heap_old' _ _ _ (by first | (simp; done) | (simp; omega)) (heap_alloc_new w ptZ)
  have z2 : ((w.alloc ptZ).alloc badZ).heap[w.heap.size + 1]? = some badZ := heap_new' _ _ _ (by first | (simp; done) | (simp; omega))
  have L2 := L.below B2
  rw [if_pos h8] at hX
  have h8' : (8192 : Int) < (s.size : Int) := by omega
  have HE := Lib.hid (show E = .agg #[.int .i64 6, .int .i64 0, .int .i64 0, .bool false, .bool false] by rw [HE.out, ← hX]; rfl)
  have HD := Lib.hid (show D = .zero by rw [HD.out, ← hX]; rfl)
  clear hX
  have FN : ∀ w, Calls Tryz.prog 33 #[.int .i64 6] w fun ev w' => ev = .returned (.agg #[.int .i64 6, .int .i64 0, .int .i64 0, .bool false, .bool false]) ∧ Below w.heap.size w w' := fun w => weirref01_New 6 w
  have FN := Lib.hid FN
  go_enter Tryz.func41, Tryz.ntmps41
  go_wp2_with fail
  refine (FN.out _).mono ?_
  rintro ev w3 ⟨rfl, hB⟩
  have q3 := below_blk hB (blk_lt' q2) q2
  have z3 := below_blk hB (blk_lt' z2) z2
  have ck0 := blk_cell' (q3) 0
  have cf0 := blk_free' (q3) 0
  have ck1 := blk_cell' (q3) 1
  have cf1 := blk_free' (q3) 1
  have ck2 := blk_cell' (q3) 2
  have cf2 := blk_free' (q3) 2
  have ck3 := blk_cell' (q3) 3
  have cf3 := blk_free' (q3) 3
  have dk0 := blk_cell' (z3) 0
  have df0 := blk_free' (z3) 0
  have dk1 := blk_cell' (z3) 1
  have df1 := blk_free' (z3) 1
  have dk2 := blk_cell' (z3) 2
  have df2 := blk_free' (z3) 2
  have dk3 := blk_cell' (z3) 3
  have df3 := blk_free' (z3) 3
  have dk4 := blk_cell' (z3) 4
  have df4 := blk_free' (z3) 4
  go_wp2
  obtain ⟨u1, u2, u3⟩ := two_ends w.heap.size (.string ⟨#[]⟩) (.slice none 0 0) (.slice none 0 0) (.int .i64 0) (.int .i64 6) (.int .i64 0) (.int .i64 0) (.bool false) (.bool false) q3 z3
  refine bodyPost_ret (results_two (v0 := .agg #[.string ⟨#[]⟩, .slice none 0 0, .slice none 0 0, .int .i64 0]) (v1 := .agg #[.int .i64 6, .int .i64 0, .int .i64 0, .bool false, .bool false]) Tryz.results41 (res_cell (b := w.heap.size) (T' := 32) (fr := (0, 0)) rfl u1 Tryz.underlying32 rfl (by kernel_rfl)) (res_cell (b := w.heap.size + 1) (T' := 35) (fr := (0, 0)) rfl u2 Tryz.underlying35 rfl (by kernel_rfl))) rfl ?_
  exact ⟨_, by rw [HE.out], by rw [HD.out]; exact PtIn.zero _ _, (B2.trans (hB.mono B2.size)).trans (u3 _ (Nat.le_refl _))⟩
set_option maxRecDepth 100000 in
set_option maxHeartbeats 2000000 in
theorem ref_One_nl (s : ByteArray) (w : World) (L : LayS w) (h8 : ¬ 8192 < s.size) (p : Nat) (hp : p < s.size) (hp10 : s[p] = 10) (hno : ∀ j (hj : j < p), s[j] ≠ 10) :
    Calls Tryz.prog 41 #[.string s] w fun ev w' => ∃ v, ev = .returned (.tuple #[v, (oneBad (oneP s)).enc]) ∧ PtIn w.heap.size v (oneD (oneP s)) w' ∧ Below w.heap.size w w' := by
  rw [← one_eq]
  obtain ⟨X, hX⟩ : ∃ X, oneR s = X := ⟨_, rfl⟩
  rw [hX]
  obtain ⟨E, hE⟩ : ∃ E, E = (oneBad X).enc := ⟨_, rfl⟩
  obtain ⟨D, hD⟩ : ∃ D, D = oneD X := ⟨_, rfl⟩
  rw [← hE, ← hD]
  have HE := Lib.hid hE
  have HD := Lib.hid hD
  clear hE hD
  unfold oneR at hX
  have B2 : Below w.heap.size w ((w.alloc ptZ).alloc badZ) := ((Below.refl _ _).alloc (Nat.le_refl _) _).alloc (by first | (simp; done) | (simp; omega)) _
  have q2 : ((w.alloc ptZ).alloc badZ).heap[w.heap.size]? = some ptZ := heap_old' _ _ _ (by first | (simp; done) | (simp; omega)) (heap_alloc_new w ptZ)
  have z2 : ((w.alloc ptZ).alloc badZ).heap[w.heap.size + 1]? = some badZ := heap_new' _ _ _ (by first | (simp; done) | (simp; omega))
  have L2 := L.below B2
  have h8' : ¬ (8192 : Int) < (s.size : Int) := by omega
  rw [if_neg h8, nl_some hp hno hp10] at hX
  have HE := Lib.hid (show E = .agg #[.int .i64 60, .int .i64 p, .int .i64 0, .bool true, .bool false] by rw [HE.out, ← hX]; rfl)
  have HD := Lib.hid (show D = .zero by rw [HD.out, ← hX]; rfl)
  clear hX
  have FA : ∀ (e : Int) w, Calls Tryz.prog 90 #[.int .i64 e, .int .i64 60] w fun ev w' => ev = .returned (.agg #[.int .i64 60, .int .i64 e, .int .i64 0, .bool true, .bool false]) ∧ Below w.heap.size w w' := fun e w => weirref01_At e 60 w
  have FA := Lib.hid FA
  go_enter Tryz.func41, Tryz.ntmps41
  go_wp2
  go_loopg [4] s.size (fun n v wr => ∃ i : Nat, v = .int .i64 i ∧ i + n = s.size ∧ (w.alloc ptZ).alloc badZ = wr ∧ i ≤ p)
  case atStart => exact ⟨0, rfl, by omega, rfl, Nat.zero_le _⟩
  case round =>
    obtain ⟨i, rfl, hn, rfl, hip⟩ := hrel
    have hi : i < s.size := by omega
    by_cases h10 : i = p
    · subst h10
      have hq : ((s[i].toNat : Int) == 10) = true := by rw [hp10]; rfl
      clear hno hp10 hip
      go_wp2_with fail
      refine (FA.out i _).mono ?_
      rintro ev w3 ⟨rfl, hB⟩
      have q3 := below_blk hB (blk_lt' q2) q2
      have z3 := below_blk hB (blk_lt' z2) z2
      have ck0 := blk_cell' (q3) 0
      have cf0 := blk_free' (q3) 0
      have ck1 := blk_cell' (q3) 1
      have cf1 := blk_free' (q3) 1
      have ck2 := blk_cell' (q3) 2
      have cf2 := blk_free' (q3) 2
      have ck3 := blk_cell' (q3) 3
      have cf3 := blk_free' (q3) 3
      have dk0 := blk_cell' (z3) 0
      have df0 := blk_free' (z3) 0
      have dk1 := blk_cell' (z3) 1
      have df1 := blk_free' (z3) 1
      have dk2 := blk_cell' (z3) 2
      have df2 := blk_free' (z3) 2
      have dk3 := blk_cell' (z3) 3
      have df3 := blk_free' (z3) 3
      have dk4 := blk_cell' (z3) 4
      have df4 := blk_free' (z3) 4
      go_wp2
      obtain ⟨u1, u2, u3⟩ := two_ends w.heap.size (.string ⟨#[]⟩) (.slice none 0 0) (.slice none 0 0) (.int .i64 0) (.int .i64 60) (.int .i64 i) (.int .i64 0) (.bool true) (.bool false) q3 z3
      refine bodyPost_ret (results_two (v0 := .agg #[.string ⟨#[]⟩, .slice none 0 0, .slice none 0 0, .int .i64 0]) (v1 := .agg #[.int .i64 60, .int .i64 i, .int .i64 0, .bool true, .bool false]) Tryz.results41 (res_cell (b := w.heap.size) (T' := 32) (fr := (0, 0)) rfl u1 Tryz.underlying32 rfl (by kernel_rfl)) (res_cell (b := w.heap.size + 1) (T' := 35) (fr := (0, 0)) rfl u2 Tryz.underlying35 rfl (by kernel_rfl))) rfl ?_
      exact ⟨_, by rw [HE.out], by rw [HD.out]; exact PtIn.zero _ _, (B2.trans (hB.mono B2.size)).trans (u3 _ (Nat.le_refl _))⟩
    · have hq : ((s[i].toNat : Int) == 10) = false := by
        have : ¬ (s[i].toNat : Int) = 10 := fun e => hno i (by omega) (UInt8.toNat_inj.1 (by show s[i].toNat = 10; omega))
        simpa using this
      have hip2 : i + 1 ≤ p := by omega
      clear hno h10 hp10 hip
      go_wp2
      go_roundg (gk - 1)
      case measure => omega
      case rel => exact ⟨i + 1, rfl, by omega, rfl, hip2⟩
set_option maxRecDepth 100000 in
set_option maxHeartbeats 2000000 in
theorem ref_One_hash (s : ByteArray) (w : World) (L : LayS w) (h8 : ¬ 8192 < s.size) (hno : ∀ j (hj : j < s.size), s[j] ≠ 10) (hsh : isP s 35 0 = true) :
    Calls Tryz.prog 41 #[.string s] w fun ev w' => ∃ v, ev = .returned (.tuple #[v, (oneBad (oneP s)).enc]) ∧ PtIn w.heap.size v (oneD (oneP s)) w' ∧ Below w.heap.size w w' := by
  rw [← one_eq]
  obtain ⟨X, hX⟩ : ∃ X, oneR s = X := ⟨_, rfl⟩
  rw [hX]
  obtain ⟨E, hE⟩ : ∃ E, E = (oneBad X).enc := ⟨_, rfl⟩
  obtain ⟨D, hD⟩ : ∃ D, D = oneD X := ⟨_, rfl⟩
  rw [← hE, ← hD]
  have HE := Lib.hid hE
  have HD := Lib.hid hD
  clear hE hD
  unfold oneR at hX
  have B2 : Below w.heap.size w ((w.alloc ptZ).alloc badZ) := ((Below.refl _ _).alloc (Nat.le_refl _) _).alloc (by first | (simp; done) | (simp; omega)) _
  have q2 : ((w.alloc ptZ).alloc badZ).heap[w.heap.size]? = some ptZ := heap_old' _ _ _ (by first | (simp; done) | (simp; omega)) (heap_alloc_new w ptZ)
  have z2 : ((w.alloc ptZ).alloc badZ).heap[w.heap.size + 1]? = some badZ := heap_new' _ _ _ (by first | (simp; done) | (simp; omega))
  have L2 := L.below B2
  have h8' : ¬ (8192 : Int) < (s.size : Int) := by omega
  rw [if_neg h8, nl_none hno] at hX
  simp only at hX
  rw [if_pos hsh] at hX
  have hlt := isP_lt' hsh
  have hq0 := isP_lt 35 hlt
  rw [hsh] at hq0
  replace hq0 : ((s[0].toNat : Int) == 35) = true := hq0.symm
  have HE := Lib.hid (show E = .agg #[.int .i64 60, .int .i64 0, .int .i64 0, .bool true, .bool false] by rw [HE.out, ← hX]; rfl)
  have HD := Lib.hid (show D = .zero by rw [HD.out, ← hX]; rfl)
  have HNO := Lib.hid hno
  clear hX hsh hno
  have FA : ∀ (e : Int) w, Calls Tryz.prog 90 #[.int .i64 e, .int .i64 60] w fun ev w' => ev = .returned (.agg #[.int .i64 60, .int .i64 e, .int .i64 0, .bool true, .bool false]) ∧ Below w.heap.size w w' := fun e w => weirref01_At e 60 w
  have FA := Lib.hid FA
  go_enter Tryz.func41, Tryz.ntmps41
  go_wp2
  go_loopg [4] s.size (fun n v wr => ∃ i : Nat, v = .int .i64 i ∧ i + n = s.size ∧ (w.alloc ptZ).alloc badZ = wr)
  case atStart => exact ⟨0, rfl, by omega, rfl⟩
  case round =>
    obtain ⟨i, rfl, hn, rfl⟩ := hrel
    by_cases hi : i < s.size
    · have hq : ((s[i].toNat : Int) == 10) = false := by
        have : ¬ (s[i].toNat : Int) = 10 := fun e => HNO.out i hi (UInt8.toNat_inj.1 (by show s[i].toNat = 10; omega))
        simpa using this
      go_wp2
      go_roundg (gk - 1)
      case measure => omega
      case rel => exact ⟨i + 1, rfl, by omega, rfl⟩
    · go_wp2_with fail
      refine (FA.out 0 _).mono ?_
      rintro ev w3 ⟨rfl, hB⟩
      have q3 := below_blk hB (blk_lt' q2) q2
      have z3 := below_blk hB (blk_lt' z2) z2
      have ck0 := blk_cell' (q3) 0
      have cf0 := blk_free' (q3) 0
      have ck1 := blk_cell' (q3) 1
      have cf1 := blk_free' (q3) 1
      have ck2 := blk_cell' (q3) 2
      have cf2 := blk_free' (q3) 2
      have ck3 := blk_cell' (q3) 3
      have cf3 := blk_free' (q3) 3
      have dk0 := blk_cell' (z3) 0
      have df0 := blk_free' (z3) 0
      have dk1 := blk_cell' (z3) 1
      have df1 := blk_free' (z3) 1
      have dk2 := blk_cell' (z3) 2
      have df2 := blk_free' (z3) 2
      have dk3 := blk_cell' (z3) 3
      have df3 := blk_free' (z3) 3
      have dk4 := blk_cell' (z3) 4
      have df4 := blk_free' (z3) 4
      go_wp2
      obtain ⟨u1, u2, u3⟩ := two_ends w.heap.size (.string ⟨#[]⟩) (.slice none 0 0) (.slice none 0 0) (.int .i64 0) (.int .i64 60) (.int .i64 0) (.int .i64 0) (.bool true) (.bool false) q3 z3
      refine bodyPost_ret (results_two (v0 := .agg #[.string ⟨#[]⟩, .slice none 0 0, .slice none 0 0, .int .i64 0]) (v1 := .agg #[.int .i64 60, .int .i64 0, .int .i64 0, .bool true, .bool false]) Tryz.results41 (res_cell (b := w.heap.size) (T' := 32) (fr := (0, 0)) rfl u1 Tryz.underlying32 rfl (by kernel_rfl)) (res_cell (b := w.heap.size + 1) (T' := 35) (fr := (0, 0)) rfl u2 Tryz.underlying35 rfl (by kernel_rfl))) rfl ?_
      exact ⟨_, by rw [HE.out], by rw [HD.out]; exact PtIn.zero _ _, (B2.trans (hB.mono B2.size)).trans (u3 _ (Nat.le_refl _))⟩
end Go.Proofs.YtnodjijgeifejaaGreatDoor
