/- weirmem: copies with marked room, and whether they are kept: Tags, Fields. -/
import Derived.Test.YtnodjijgeifejaaGreatDoorFill
import Derived.Test.YtnodjijgeifejaaGreatDoorSamePts
import Derived.Deep.RegionHeld3
import Derived.Deep.DeepCutAuto
import Derived.Deep.CutBlock
namespace Go.Proofs.YtnodjijgeifejaaGreatDoor
open Go.RowKit
set_option linter.unusedSimpArgs false
set_option linter.unusedVariables false

attribute [local go_sem high] eq_fld eq_tag
theorem info_HTags : (Tryz.prog.info? 98).map (fun i => (i.zero, i.size, i.bytes)) = some (some (.agg #[.string ⟨#[]⟩, .string ⟨#[]⟩]), 2, 32) := by kernel_rfl
/-- What HandTags lays. -/
def handTags (n : Nat) (v0 : Nat → ByteArray) (v1 : Nat → ByteArray) (j : Nat) : Value := if j / 2 < n then (if j % 2 = 0 then .string (v0 (j / 2)) else .string (v1 (j / 2))) else (if j % 2 = 0 then .string (markT (700 + (j / 2 - n))) else .string ⟨#[]⟩)
theorem handTags_o0 (n : Nat) (v0 : Nat → ByteArray) (v1 : Nat → ByteArray) (i : Nat) (h : i < n) : handTags n v0 v1 (i * 2) = .string (v0 i) := by
  unfold handTags
  have h1 : (i * 2) / 2 = i := by omega
  have h2 : (i * 2) % 2 = 0 := by omega
  rw [h1, if_pos h, h2]
  rfl
theorem handTags_m0 (n : Nat) (v0 : Nat → ByteArray) (v1 : Nat → ByteArray) (r : Nat) : handTags n v0 v1 ((n + r) * 2) = .string (markT (700 + r)) := by
  unfold handTags
  have h1 : ((n + r) * 2) / 2 = n + r := by omega
  have h2 : ((n + r) * 2) % 2 = 0 := by omega
  have h3 : n + r - n = r := by omega
  rw [h1, if_neg (by omega), h2]
  first | rfl | (rw [h3]; rfl) | simp [h3]
theorem handTags_o1 (n : Nat) (v0 : Nat → ByteArray) (v1 : Nat → ByteArray) (i : Nat) (h : i < n) : handTags n v0 v1 (i * 2 + 1) = .string (v1 i) := by
  unfold handTags
  have h1 : (i * 2 + 1) / 2 = i := by omega
  have h2 : (i * 2 + 1) % 2 = 1 := by omega
  rw [h1, if_pos h, h2]
  rfl
theorem handTags_m1 (n : Nat) (v0 : Nat → ByteArray) (v1 : Nat → ByteArray) (r : Nat) : handTags n v0 v1 ((n + r) * 2 + 1) = .string ⟨#[]⟩ := by
  unfold handTags
  have h1 : ((n + r) * 2 + 1) / 2 = n + r := by omega
  have h2 : ((n + r) * 2 + 1) % 2 = 1 := by omega
  have h3 : n + r - n = r := by omega
  rw [h1, if_neg (by omega), h2]
  rfl
set_option maxRecDepth 100000 in
set_option maxHeartbeats 1000000 in
theorem mem_HandTags (A : Option Addr) (c n : Nat) (v0 : Nat → ByteArray) (v1 : Nat → ByteArray) (w : World) (hT : TwoAt w A n fun j => (.string (v0 j), .string (v1 j))) (hn : n ≤ 100000000) :
    Calls Tryz.prog 24 #[.slice A n c] w fun ev w' => ∃ g, ev = .returned (.slice (some ⟨g, 0, none⟩) n (n + 9)) ∧ w.heap.size ≤ g ∧ HandR w' g ((n + 9) * 2) (handTags n v0 v1) ∧ Below w.heap.size w w' := by
  have hu := Tryz.underlying98
  have HT := Lib.hid hT
  obtain ⟨N, hN⟩ : ∃ N, n + 9 = N := ⟨_, rfl⟩
  rw [hN]
  have mk : ∀ W : World, (Instr.makeSlice 29 (.int .i64 ((n : Int) + 9)) (.int .i64 ((n : Int) + 9))).run Tryz.prog W = .ok (.slice (some ⟨W.heap.size, 0, none⟩) N N) (W.alloc (.cells (madeCells #[.string ⟨#[]⟩, .string ⟨#[]⟩] (N * 2)) 98)) := fun W => make_rows Tryz.underlying29 info_HTags n N _ (by omega) (by omega) (by omega) W
  have F0 := Lib.hid (Fill.start w 98 (N * 2) (handTags n v0 v1) (madeCells #[.string ⟨#[]⟩, .string ⟨#[]⟩] (N * 2)) (size_madeCells _ _))
  have ho := fun i (h : i < n) => And.intro (handTags_o0 n v0 v1 i h) (handTags_o1 n v0 v1 i h)
  have hm := fun r => And.intro (handTags_m0 n v0 v1 r) (handTags_m1 n v0 v1 r)
  generalize handTags n v0 v1 = F at *
  have HO := Lib.hid ho
  have HM := Lib.hid hm
  clear hT ho hm
  go_enter Tryz.func24, Tryz.ntmps24
  go_upto_block 0 with (fail)
  clear mk
  generalize w.alloc (.cells (madeCells #[.string ⟨#[]⟩, .string ⟨#[]⟩] (N * 2)) 98) = W0 at *
  obtain ⟨g, hg⟩ : ∃ g, w.heap.size = g := ⟨_, rfl⟩
  have F0 : Hid (Fill g 98 (N * 2) F 0 w W0) := Lib.hid (by rw [← hg]; exact F0.out)
  have HG := Lib.hid hg
  rw [hg]
  clear hg
  go_cut [4] (fun v4 wd => Hid (Fill g 98 (N * 2) F (n * 2) w wd))
  case first =>
    go_wp2_with fail
    go_loopg [4] n (fun m v4 wr => ∃ i : Nat, v4 = .int .i64 (i : Int) ∧ i + m = n ∧ Hid (Fill g 98 (N * 2) F (i * 2) w wr))
    case atStart => exact ⟨0, rfl, by omega, by simpa using F0⟩
    case round =>
      clear F0
      obtain ⟨i, rfl, hm, SA⟩ := hrel
      by_cases hi : i < n
      · have kl : decide ((i : Int) < (n : Int)) = true := by rw [decide_eq_true_iff]; omega
        obtain ⟨a0, rfl, C⟩ := (HT.out.next SA.out.B).cells (by omega)
        obtain ⟨x0, x1⟩ := C i hi
        obtain ⟨y0, t0⟩ := SA.out.any (j := i * 2) (by omega)
        have f0 := SA.out.free (i * 2)
        obtain ⟨y1, t1⟩ := SA.out.any (j := i * 2 + 1) (by omega)
        have f1 := SA.out.free (i * 2 + 1)
        have S2 := Lib.hid ((SA.out.set (by omega) _ (HO.out i hi).1.symm).set (by omega) _ (HO.out i hi).2.symm)
        clear C SA
        generalize v0 i = u0 at *
        generalize v1 i = u1 at *
        go_wp2_with fail
        go_roundg (gk - 1)
        case measure => omega
        case rel => exact ⟨i + 1, by go_num, by omega, Lib.hid (by rw [show (i + 1) * 2 = i * 2 + 2 from by omega]; exact S2.out)⟩
      · have kl : decide ((i : Int) < (n : Int)) = false := by rw [decide_eq_false_iff_not]; omega
        obtain rfl : i = n := by omega
        go_wp2_with fail
        go_meet
        case rel => exact SA
  case rest =>
    clear F0
    have F1 := hcut
    clear hcut
    have hz1 : (N : Int) = (n : Int) + 9 := by omega
    go_wp2_with fail
    go_loopg [5] 9 (fun m v5 wr => ∃ r : Nat, v5 = .int .i64 ((n : Int) + (r : Int)) ∧ r + m = 9 ∧ Hid (Fill g 98 (N * 2) F ((n + r) * 2) w wr))
    case atStart => exact ⟨0, by simp, by omega, F1⟩
    case round =>
      clear F1
      obtain ⟨r, rfl, hm, SA⟩ := hrel
      by_cases hr : r < 9
      · have kl : decide ((n : Int) + (r : Int) < (N : Int)) = true := by rw [decide_eq_true_iff]; omega
        have TX : Hid (∀ w, Calls Tryz.prog 77 #[.int .i64 (700 + ((n : Int) + (r : Int)) - (n : Int))] w fun ev w' => ev = .returned (.string (markT (700 + r))) ∧ Below w.heap.size w w') := Lib.hid (by rw [show (700 + ((n : Int) + (r : Int)) - (n : Int)) = ((700 + r : Nat) : Int) from by omega]; exact fun w => mem_text (700 + r) (by omega) w)
        obtain ⟨q, hq⟩ : ∃ q : Nat, n + r = q := ⟨_, rfl⟩
        have hq1 : (n : Int) + (r : Int) = (q : Int) := by omega
        have hqN : q < N := by omega
        have m0 := (HM.out r).1
        rw [hq] at m0
        have m1 := (HM.out r).2
        rw [hq] at m1
        rw [hq] at SA
        rw [hq1] at kl ⊢
        rw [hq1] at TX
        go_wp2_with fail
        refine (TX.out _).mono ?_
        rintro ev w2 ⟨rfl, hB⟩
        have SA2 := SA.out.next hB
        obtain ⟨y0, t0⟩ := SA2.any (j := q * 2) (by omega)
        have f0 := SA2.free (q * 2)
        obtain ⟨y1, t1⟩ := SA2.any (j := q * 2 + 1) (by omega)
        have f1 := SA2.free (q * 2 + 1)
        have S2 := Lib.hid ((SA2.set (by omega) _ m0.symm).set (by omega) _ m1.symm)
        clear SA SA2 hB TX
        clear m0 m1
        generalize markT (700 + r) = M at *
        go_wp2_with fail
        go_roundg (gk - 1)
        case measure => omega
        case rel => exact ⟨r + 1, by rw [← hq1]; go_num, by omega, Lib.hid (by rw [show (n + (r + 1)) * 2 = q * 2 + 2 from by omega]; exact S2.out)⟩
      · have kl : decide ((n : Int) + (r : Int) < (N : Int)) = false := by rw [decide_eq_false_iff_not]; omega
        have hr9 : r = 9 := by omega
        have S2 : Hid (Fill g 98 (N * 2) F (N * 2) w wr) := Lib.hid (by have h := SA.out; rw [hr9, hN] at h; exact h)
        have hn0 : n ≤ N := by omega
        clear SA hr9
        go_wp2_with fail
        go_ret
        exact ⟨g, rfl, S2.out.g0, S2.out.done, S2.out.B⟩
theorem handTags_at (g n : Nat) (v0 : Nat → ByteArray) (v1 : Nat → ByteArray) (w : World) (h : HandR w g ((n + 9) * 2) (handTags n v0 v1)) (hn : n ≤ 100000000) : TwoAt w (some ⟨g, 0, none⟩) n fun j => (.string (v0 j), .string (v1 j)) := by
  refine ⟨by omega, fun _ => ⟨_, rfl, fun j hj => ?_⟩⟩
  rw [addF]
  have h0 := h (j * 2) (by omega)
  rw [handTags_o0 n v0 v1 j hj] at h0
  have h1 := h (j * 2 + 1) (by omega)
  rw [handTags_o1 n v0 v1 j hj] at h1
  exact ⟨h0, h1⟩
set_option maxRecDepth 100000 in
set_option maxHeartbeats 1000000 in
theorem mem_KeptTags (g : Nat) (A1 : Option Addr) (c1 n : Nat) (v0 : Nat → ByteArray) (v1 : Nat → ByteArray) (w : World) (hH : HandR w g ((n + 9) * 2) (handTags n v0 v1)) (h1 : TwoAt w A1 n fun j => (.string (v0 j), .string (v1 j))) (hn : n ≤ 100000000) :
    Calls Tryz.prog 38 #[.slice (some ⟨g, 0, none⟩) n (n + 9), .slice A1 n c1] w fun ev w' => ev = .returned (.bool true) ∧ Below w.heap.size w w' := by
  have hu := Tryz.underlying98
  have h0 : TwoAt w (some ⟨g, 0, none⟩) n fun j => (.string (v0 j), .string (v1 j)) := handTags_at g n v0 v1 w hH hn
  have CS := Lib.hid (SameTags_eq (some ⟨g, 0, none⟩) A1 (n + 9) c1 n v0 v1 w h0 h1)
  have HH := Lib.hid hH
  have hm := fun r => And.intro (handTags_m0 n v0 v1 r) (handTags_m1 n v0 v1 r)
  generalize handTags n v0 v1 = F at *
  have HM := Lib.hid hm
  clear hH h0 h1 hm
  obtain ⟨N, hN⟩ : ∃ N, n + 9 = N := ⟨_, rfl⟩
  rw [hN] at HH CS ⊢
  have hsl : ∀ W : World, (Instr.slice 29 (.slice (some ⟨g, 0, none⟩) n N) none (some (.int .i64 ((n : Int) + 9))) none).run Tryz.prog W = .ok (.slice (some ⟨g, 0, none⟩) N N) W := fun W => reslice_end (s := 2) Tryz.underlying29 (by kernel_rfl) (by kernel_rfl) g n N _ (by omega) W
  go_enter Tryz.func38, Tryz.ntmps38
  go_wp2_with fail
  refine (CS.out).mono ?_
  rintro ev w1 ⟨rfl, m, rfl⟩
  have B1 := Lib.hid (below_drewN (Below.refl w.heap.size w) m)
  generalize w.drewN m = W1 at *
  go_wp2_with fail
  clear hsl CS
  go_loopg [6] 9 (fun m v6 wr => ∃ r : Nat, v6 = .int .i64 ((n : Int) + (r : Int)) ∧ r + m = 9 ∧ Hid (Below w.heap.size w wr))
  case atStart => exact ⟨0, by simp, by omega, B1⟩
  case round =>
    clear B1
    obtain ⟨r, rfl, hm, SA⟩ := hrel
    by_cases hr : r < 9
    · have kl : decide ((n : Int) + (r : Int) < (N : Int)) = true := by rw [decide_eq_true_iff]; omega
      have TX : Hid (∀ w, Calls Tryz.prog 77 #[.int .i64 (700 + ((n : Int) + (r : Int)) - (n : Int))] w fun ev w' => ev = .returned (.string (markT (700 + r))) ∧ Below w.heap.size w w') := Lib.hid (by rw [show (700 + ((n : Int) + (r : Int)) - (n : Int)) = ((700 + r : Nat) : Int) from by omega]; exact fun w => mem_text (700 + r) (by omega) w)
      obtain ⟨q, hq⟩ : ∃ q : Nat, n + r = q := ⟨_, rfl⟩
      have hq1 : (n : Int) + (r : Int) = (q : Int) := by omega
      have hqN : q < N := by omega
      have p0 : (0 : Int) ≤ (q : Int) := by omega
      have p1 : (q : Int) < (N : Int) := by omega
      have m0 := (HM.out r).1
      rw [hq] at m0
      have t0 := (HH.out.next SA.out) (q * 2) (by omega)
      rw [m0] at t0
      have m1 := (HM.out r).2
      rw [hq] at m1
      have t1 := (HH.out.next SA.out) (q * 2 + 1) (by omega)
      rw [m1] at t1
      rw [hq1] at kl ⊢
      clear m0 m1
      obtain ⟨M0, hM0⟩ : ∃ v : Value, v = .string (markT (700 + r)) := ⟨_, rfl⟩
      rw [← hM0] at t0
      obtain ⟨M1, hM1⟩ : ∃ v : Value, v = .string ⟨#[]⟩ := ⟨_, rfl⟩
      rw [← hM1] at t1
      rw [hq1] at TX
      have w1 : IntKind.i64.wrap (700 + (q : Int)) = 700 + (q : Int) := by rw [IntKind.wrap_i64]; omega
      have w2 : IntKind.i64.wrap (700 + (q : Int) - (n : Int)) = 700 + (q : Int) - (n : Int) := by rw [IntKind.wrap_i64]; omega
      have KC : Hid (∀ W2, Below wr.heap.size wr W2 → W2.cell? ⟨g, q * 2, none⟩ = some (M0) ∧ W2.cell? ⟨g, q * 2 + 1, none⟩ = some (M1)) := Lib.hid (fun W2 hB => ⟨(hB.cell (World.block_lt_of_cell? wr _ t0)).trans t0, (hB.cell (World.block_lt_of_cell? wr _ t1)).trans t1⟩)
      have d0 := KC.out _ (Below.refl _ _).drew
      clear t0 t1
      subst hM0 hM1
      generalize markT (700 + r) = M at *
      go_upto_region 7 with (fail)
      go_region_held3 (fun w' => w'.cell? ⟨g, q * 2, none⟩ = some (.string (M)) ∧ w'.cell? ⟨g, q * 2 + 1, none⟩ = some (.string ⟨#[]⟩))
        (first | (with_reducible exact d0) | (with_reducible exact d1) | fail)
        (first | (go_at_call 77; (with_reducible refine (TX.out _).mono ?_); rintro ev w2 ⟨rfl, hB⟩; have d1 := KC.out _ ((Below.refl _ _).drew.trans hB); have SB := Lib.hid (SA.out.trans (((Below.refl wr.heap.size wr).drew.trans hB).mono SA.out.size))) | fail)
      clear d0 d1 KC SA
      go_wp2_with fail
      go_roundg (gk - 1)
      case measure => omega
      case rel => exact ⟨r + 1, by rw [← hq1]; go_num, by omega, SB⟩
    · have kl : decide ((n : Int) + (r : Int) < (N : Int)) = false := by rw [decide_eq_false_iff_not]; omega
      go_wp2_with fail
      go_ret
      exact ⟨rfl, SA.out⟩
theorem info_HFields : (Tryz.prog.info? 86).map (fun i => (i.zero, i.size, i.bytes)) = some (some (.agg #[.string ⟨#[]⟩, .int .i64 0]), 2, 24) := by kernel_rfl
/-- What HandFields lays. -/
def handFields (n : Nat) (v0 : Nat → ByteArray) (v1 : Nat → Int) (j : Nat) : Value := if j / 2 < n then (if j % 2 = 0 then .string (v0 (j / 2)) else .int .i64 (v1 (j / 2))) else (if j % 2 = 0 then .string (markT (700 + (j / 2 - n))) else .int .i64 0)
theorem handFields_o0 (n : Nat) (v0 : Nat → ByteArray) (v1 : Nat → Int) (i : Nat) (h : i < n) : handFields n v0 v1 (i * 2) = .string (v0 i) := by
  unfold handFields
  have h1 : (i * 2) / 2 = i := by omega
  have h2 : (i * 2) % 2 = 0 := by omega
  rw [h1, if_pos h, h2]
  rfl
theorem handFields_m0 (n : Nat) (v0 : Nat → ByteArray) (v1 : Nat → Int) (r : Nat) : handFields n v0 v1 ((n + r) * 2) = .string (markT (700 + r)) := by
  unfold handFields
  have h1 : ((n + r) * 2) / 2 = n + r := by omega
  have h2 : ((n + r) * 2) % 2 = 0 := by omega
  have h3 : n + r - n = r := by omega
  rw [h1, if_neg (by omega), h2]
  first | rfl | (rw [h3]; rfl) | simp [h3]
theorem handFields_o1 (n : Nat) (v0 : Nat → ByteArray) (v1 : Nat → Int) (i : Nat) (h : i < n) : handFields n v0 v1 (i * 2 + 1) = .int .i64 (v1 i) := by
  unfold handFields
  have h1 : (i * 2 + 1) / 2 = i := by omega
  have h2 : (i * 2 + 1) % 2 = 1 := by omega
  rw [h1, if_pos h, h2]
  rfl
theorem handFields_m1 (n : Nat) (v0 : Nat → ByteArray) (v1 : Nat → Int) (r : Nat) : handFields n v0 v1 ((n + r) * 2 + 1) = .int .i64 0 := by
  unfold handFields
  have h1 : ((n + r) * 2 + 1) / 2 = n + r := by omega
  have h2 : ((n + r) * 2 + 1) % 2 = 1 := by omega
  have h3 : n + r - n = r := by omega
  rw [h1, if_neg (by omega), h2]
  rfl
set_option maxRecDepth 100000 in
set_option maxHeartbeats 1000000 in
theorem mem_HandFields (A : Option Addr) (c n : Nat) (v0 : Nat → ByteArray) (v1 : Nat → Int) (w : World) (hT : TwoAt w A n fun j => (.string (v0 j), .int .i64 (v1 j))) (hn : n ≤ 100000000) :
    Calls Tryz.prog 25 #[.slice A n c] w fun ev w' => ∃ g, ev = .returned (.slice (some ⟨g, 0, none⟩) n (n + 9)) ∧ w.heap.size ≤ g ∧ HandR w' g ((n + 9) * 2) (handFields n v0 v1) ∧ Below w.heap.size w w' := by
  have hu := Tryz.underlying86
  have HT := Lib.hid hT
  obtain ⟨N, hN⟩ : ∃ N, n + 9 = N := ⟨_, rfl⟩
  rw [hN]
  have mk : ∀ W : World, (Instr.makeSlice 30 (.int .i64 ((n : Int) + 9)) (.int .i64 ((n : Int) + 9))).run Tryz.prog W = .ok (.slice (some ⟨W.heap.size, 0, none⟩) N N) (W.alloc (.cells (madeCells #[.string ⟨#[]⟩, .int .i64 0] (N * 2)) 86)) := fun W => make_rows Tryz.underlying30 info_HFields n N _ (by omega) (by omega) (by omega) W
  have F0 := Lib.hid (Fill.start w 86 (N * 2) (handFields n v0 v1) (madeCells #[.string ⟨#[]⟩, .int .i64 0] (N * 2)) (size_madeCells _ _))
  have ho := fun i (h : i < n) => And.intro (handFields_o0 n v0 v1 i h) (handFields_o1 n v0 v1 i h)
  have hm := fun r => And.intro (handFields_m0 n v0 v1 r) (handFields_m1 n v0 v1 r)
  generalize handFields n v0 v1 = F at *
  have HO := Lib.hid ho
  have HM := Lib.hid hm
  clear hT ho hm
  go_enter Tryz.func25, Tryz.ntmps25
  go_upto_block 0 with (fail)
  clear mk
  generalize w.alloc (.cells (madeCells #[.string ⟨#[]⟩, .int .i64 0] (N * 2)) 86) = W0 at *
  obtain ⟨g, hg⟩ : ∃ g, w.heap.size = g := ⟨_, rfl⟩
  have F0 : Hid (Fill g 86 (N * 2) F 0 w W0) := Lib.hid (by rw [← hg]; exact F0.out)
  have HG := Lib.hid hg
  rw [hg]
  clear hg
  go_cut [4] (fun v4 wd => Hid (Fill g 86 (N * 2) F (n * 2) w wd))
  case first =>
    go_wp2_with fail
    go_loopg [4] n (fun m v4 wr => ∃ i : Nat, v4 = .int .i64 (i : Int) ∧ i + m = n ∧ Hid (Fill g 86 (N * 2) F (i * 2) w wr))
    case atStart => exact ⟨0, rfl, by omega, by simpa using F0⟩
    case round =>
      clear F0
      obtain ⟨i, rfl, hm, SA⟩ := hrel
      by_cases hi : i < n
      · have kl : decide ((i : Int) < (n : Int)) = true := by rw [decide_eq_true_iff]; omega
        obtain ⟨a0, rfl, C⟩ := (HT.out.next SA.out.B).cells (by omega)
        obtain ⟨x0, x1⟩ := C i hi
        obtain ⟨y0, t0⟩ := SA.out.any (j := i * 2) (by omega)
        have f0 := SA.out.free (i * 2)
        obtain ⟨y1, t1⟩ := SA.out.any (j := i * 2 + 1) (by omega)
        have f1 := SA.out.free (i * 2 + 1)
        have S2 := Lib.hid ((SA.out.set (by omega) _ (HO.out i hi).1.symm).set (by omega) _ (HO.out i hi).2.symm)
        clear C SA
        generalize v0 i = u0 at *
        generalize v1 i = u1 at *
        go_wp2_with fail
        go_roundg (gk - 1)
        case measure => omega
        case rel => exact ⟨i + 1, by go_num, by omega, Lib.hid (by rw [show (i + 1) * 2 = i * 2 + 2 from by omega]; exact S2.out)⟩
      · have kl : decide ((i : Int) < (n : Int)) = false := by rw [decide_eq_false_iff_not]; omega
        obtain rfl : i = n := by omega
        go_wp2_with fail
        go_meet
        case rel => exact SA
  case rest =>
    clear F0
    have F1 := hcut
    clear hcut
    have hz1 : (N : Int) = (n : Int) + 9 := by omega
    go_wp2_with fail
    go_loopg [5] 9 (fun m v5 wr => ∃ r : Nat, v5 = .int .i64 ((n : Int) + (r : Int)) ∧ r + m = 9 ∧ Hid (Fill g 86 (N * 2) F ((n + r) * 2) w wr))
    case atStart => exact ⟨0, by simp, by omega, F1⟩
    case round =>
      clear F1
      obtain ⟨r, rfl, hm, SA⟩ := hrel
      by_cases hr : r < 9
      · have kl : decide ((n : Int) + (r : Int) < (N : Int)) = true := by rw [decide_eq_true_iff]; omega
        have TX : Hid (∀ w, Calls Tryz.prog 77 #[.int .i64 (700 + ((n : Int) + (r : Int)) - (n : Int))] w fun ev w' => ev = .returned (.string (markT (700 + r))) ∧ Below w.heap.size w w') := Lib.hid (by rw [show (700 + ((n : Int) + (r : Int)) - (n : Int)) = ((700 + r : Nat) : Int) from by omega]; exact fun w => mem_text (700 + r) (by omega) w)
        obtain ⟨q, hq⟩ : ∃ q : Nat, n + r = q := ⟨_, rfl⟩
        have hq1 : (n : Int) + (r : Int) = (q : Int) := by omega
        have hqN : q < N := by omega
        have m0 := (HM.out r).1
        rw [hq] at m0
        have m1 := (HM.out r).2
        rw [hq] at m1
        rw [hq] at SA
        rw [hq1] at kl ⊢
        rw [hq1] at TX
        go_wp2_with fail
        refine (TX.out _).mono ?_
        rintro ev w2 ⟨rfl, hB⟩
        have SA2 := SA.out.next hB
        obtain ⟨y0, t0⟩ := SA2.any (j := q * 2) (by omega)
        have f0 := SA2.free (q * 2)
        obtain ⟨y1, t1⟩ := SA2.any (j := q * 2 + 1) (by omega)
        have f1 := SA2.free (q * 2 + 1)
        have S2 := Lib.hid ((SA2.set (by omega) _ m0.symm).set (by omega) _ m1.symm)
        clear SA SA2 hB TX
        clear m0 m1
        generalize markT (700 + r) = M at *
        go_wp2_with fail
        go_roundg (gk - 1)
        case measure => omega
        case rel => exact ⟨r + 1, by rw [← hq1]; go_num, by omega, Lib.hid (by rw [show (n + (r + 1)) * 2 = q * 2 + 2 from by omega]; exact S2.out)⟩
      · have kl : decide ((n : Int) + (r : Int) < (N : Int)) = false := by rw [decide_eq_false_iff_not]; omega
        have hr9 : r = 9 := by omega
        have S2 : Hid (Fill g 86 (N * 2) F (N * 2) w wr) := Lib.hid (by have h := SA.out; rw [hr9, hN] at h; exact h)
        have hn0 : n ≤ N := by omega
        clear SA hr9
        go_wp2_with fail
        go_ret
        exact ⟨g, rfl, S2.out.g0, S2.out.done, S2.out.B⟩
theorem handFields_at (g n : Nat) (v0 : Nat → ByteArray) (v1 : Nat → Int) (w : World) (h : HandR w g ((n + 9) * 2) (handFields n v0 v1)) (hn : n ≤ 100000000) : TwoAt w (some ⟨g, 0, none⟩) n fun j => (.string (v0 j), .int .i64 (v1 j)) := by
  refine ⟨by omega, fun _ => ⟨_, rfl, fun j hj => ?_⟩⟩
  rw [addF]
  have h0 := h (j * 2) (by omega)
  rw [handFields_o0 n v0 v1 j hj] at h0
  have h1 := h (j * 2 + 1) (by omega)
  rw [handFields_o1 n v0 v1 j hj] at h1
  exact ⟨h0, h1⟩
set_option maxRecDepth 100000 in
set_option maxHeartbeats 1000000 in
theorem mem_KeptFields (g : Nat) (A1 : Option Addr) (c1 n : Nat) (v0 : Nat → ByteArray) (v1 : Nat → Int) (w : World) (hH : HandR w g ((n + 9) * 2) (handFields n v0 v1)) (h1 : TwoAt w A1 n fun j => (.string (v0 j), .int .i64 (v1 j))) (hn : n ≤ 100000000) :
    Calls Tryz.prog 39 #[.slice (some ⟨g, 0, none⟩) n (n + 9), .slice A1 n c1] w fun ev w' => ev = .returned (.bool true) ∧ Below w.heap.size w w' := by
  have hu := Tryz.underlying86
  have h0 : TwoAt w (some ⟨g, 0, none⟩) n fun j => (.string (v0 j), .int .i64 (v1 j)) := handFields_at g n v0 v1 w hH hn
  have CS := Lib.hid (SameFields_eq (some ⟨g, 0, none⟩) A1 (n + 9) c1 n v0 v1 w h0 h1)
  have HH := Lib.hid hH
  have hm := fun r => And.intro (handFields_m0 n v0 v1 r) (handFields_m1 n v0 v1 r)
  generalize handFields n v0 v1 = F at *
  have HM := Lib.hid hm
  clear hH h0 h1 hm
  obtain ⟨N, hN⟩ : ∃ N, n + 9 = N := ⟨_, rfl⟩
  rw [hN] at HH CS ⊢
  have hsl : ∀ W : World, (Instr.slice 30 (.slice (some ⟨g, 0, none⟩) n N) none (some (.int .i64 ((n : Int) + 9))) none).run Tryz.prog W = .ok (.slice (some ⟨g, 0, none⟩) N N) W := fun W => reslice_end (s := 2) Tryz.underlying30 (by kernel_rfl) (by kernel_rfl) g n N _ (by omega) W
  go_enter Tryz.func39, Tryz.ntmps39
  go_wp2_with fail
  refine (CS.out).mono ?_
  rintro ev w1 ⟨rfl, m, rfl⟩
  have B1 := Lib.hid (below_drewN (Below.refl w.heap.size w) m)
  generalize w.drewN m = W1 at *
  go_wp2_with fail
  clear hsl CS
  go_loopg [6] 9 (fun m v6 wr => ∃ r : Nat, v6 = .int .i64 ((n : Int) + (r : Int)) ∧ r + m = 9 ∧ Hid (Below w.heap.size w wr))
  case atStart => exact ⟨0, by simp, by omega, B1⟩
  case round =>
    clear B1
    obtain ⟨r, rfl, hm, SA⟩ := hrel
    by_cases hr : r < 9
    · have kl : decide ((n : Int) + (r : Int) < (N : Int)) = true := by rw [decide_eq_true_iff]; omega
      have TX : Hid (∀ w, Calls Tryz.prog 77 #[.int .i64 (700 + ((n : Int) + (r : Int)) - (n : Int))] w fun ev w' => ev = .returned (.string (markT (700 + r))) ∧ Below w.heap.size w w') := Lib.hid (by rw [show (700 + ((n : Int) + (r : Int)) - (n : Int)) = ((700 + r : Nat) : Int) from by omega]; exact fun w => mem_text (700 + r) (by omega) w)
      obtain ⟨q, hq⟩ : ∃ q : Nat, n + r = q := ⟨_, rfl⟩
      have hq1 : (n : Int) + (r : Int) = (q : Int) := by omega
      have hqN : q < N := by omega
      have p0 : (0 : Int) ≤ (q : Int) := by omega
      have p1 : (q : Int) < (N : Int) := by omega
      have m0 := (HM.out r).1
      rw [hq] at m0
      have t0 := (HH.out.next SA.out) (q * 2) (by omega)
      rw [m0] at t0
      have m1 := (HM.out r).2
      rw [hq] at m1
      have t1 := (HH.out.next SA.out) (q * 2 + 1) (by omega)
      rw [m1] at t1
      rw [hq1] at kl ⊢
      clear m0 m1
      obtain ⟨M0, hM0⟩ : ∃ v : Value, v = .string (markT (700 + r)) := ⟨_, rfl⟩
      rw [← hM0] at t0
      obtain ⟨M1, hM1⟩ : ∃ v : Value, v = .int .i64 0 := ⟨_, rfl⟩
      rw [← hM1] at t1
      rw [hq1] at TX
      have w1 : IntKind.i64.wrap (700 + (q : Int)) = 700 + (q : Int) := by rw [IntKind.wrap_i64]; omega
      have w2 : IntKind.i64.wrap (700 + (q : Int) - (n : Int)) = 700 + (q : Int) - (n : Int) := by rw [IntKind.wrap_i64]; omega
      have KC : Hid (∀ W2, Below wr.heap.size wr W2 → W2.cell? ⟨g, q * 2, none⟩ = some (M0) ∧ W2.cell? ⟨g, q * 2 + 1, none⟩ = some (M1)) := Lib.hid (fun W2 hB => ⟨(hB.cell (World.block_lt_of_cell? wr _ t0)).trans t0, (hB.cell (World.block_lt_of_cell? wr _ t1)).trans t1⟩)
      have d0 := KC.out _ (Below.refl _ _).drew
      clear t0 t1
      subst hM0 hM1
      generalize markT (700 + r) = M at *
      go_upto_region 7 with (fail)
      go_region_held3 (fun w' => w'.cell? ⟨g, q * 2, none⟩ = some (.string (M)) ∧ w'.cell? ⟨g, q * 2 + 1, none⟩ = some (.int .i64 0))
        (first | (with_reducible exact d0) | (with_reducible exact d1) | fail)
        (first | (go_at_call 77; (with_reducible refine (TX.out _).mono ?_); rintro ev w2 ⟨rfl, hB⟩; have d1 := KC.out _ ((Below.refl _ _).drew.trans hB); have SB := Lib.hid (SA.out.trans (((Below.refl wr.heap.size wr).drew.trans hB).mono SA.out.size))) | fail)
      clear d0 d1 KC SA
      go_wp2_with fail
      go_roundg (gk - 1)
      case measure => omega
      case rel => exact ⟨r + 1, by rw [← hq1]; go_num, by omega, SB⟩
    · have kl : decide ((n : Int) + (r : Int) < (N : Int)) = false := by rw [decide_eq_false_iff_not]; omega
      go_wp2_with fail
      go_ret
      exact ⟨rfl, SA.out⟩
end Go.Proofs.YtnodjijgeifejaaGreatDoor
