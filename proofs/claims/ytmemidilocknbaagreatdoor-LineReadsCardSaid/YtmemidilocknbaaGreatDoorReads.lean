/- LineReads: every text: the point that it says, or the error and its place. -/
import Derived.Test.YtmemidilocknbaaGreatDoorLive
import Derived.Test.YtmemidilocknbaaGreatDoorRoneB
namespace Go.Proofs.YtmemidilocknbaaGreatDoor
open Go.RowKit
set_option linter.unusedSimpArgs false
set_option linter.unusedVariables false

theorem same_one (X : Sum Pt (Option Nat)) : same (oneE X) (oneBad X) = true := by
  rcases X with p | _ | e
  · rfl
  · rfl
  · simp [same, oneE, oneBad, refAt, mkAt, Er.code?, Er.at?, Er.in?, atPos, inPos]
/-- Three variables in memory: two points, an error. -/
structure Vars (b1 b2 b3 : Nat) (o1 o2 o3 : Obj) (w0 w : World) : Prop where
  a : w.heap[b1]? = some o1
  b : w.heap[b2]? = some o2
  c : w.heap[b3]? = some o3
  B : Below w0.heap.size w0 w
theorem Vars.next {b1 b2 b3 : Nat} {o1 o2 o3 : Obj} {w0 w w' : World} (h : Vars b1 b2 b3 o1 o2 o3 w0 w) (hB : Below w.heap.size w w') : Vars b1 b2 b3 o1 o2 o3 w0 w' :=
  ⟨below_blk hB (blk_lt' h.a) h.a, below_blk hB (blk_lt' h.b) h.b, below_blk hB (blk_lt' h.c) h.c, h.B.trans (hB.mono h.B.size)⟩
abbrev Cells13 (b1 b2 b3 : Nat) (x0 x1 x2 x3 y0 y1 y2 y3 z0 z1 z2 z3 z4 : Value) (w : World) : Prop := w.cell? ⟨b1, 0, none⟩ = some x0 ∧ w.cell? ⟨b1, 1, none⟩ = some x1 ∧ w.cell? ⟨b1, 2, none⟩ = some x2 ∧ w.cell? ⟨b1, 3, none⟩ = some x3 ∧ w.cell? ⟨b2, 0, none⟩ = some y0 ∧ w.cell? ⟨b2, 1, none⟩ = some y1 ∧ w.cell? ⟨b2, 2, none⟩ = some y2 ∧ w.cell? ⟨b2, 3, none⟩ = some y3 ∧ w.cell? ⟨b3, 0, none⟩ = some z0 ∧ w.cell? ⟨b3, 1, none⟩ = some z1 ∧ w.cell? ⟨b3, 2, none⟩ = some z2 ∧ w.cell? ⟨b3, 3, none⟩ = some z3 ∧ w.cell? ⟨b3, 4, none⟩ = some z4
theorem vars_cells {b1 b2 b3 : Nat} {x0 x1 x2 x3 y0 y1 y2 y3 z0 z1 z2 z3 z4 : Value} {T1 T2 T3 : TypeId} {w0 w : World} (h : Vars b1 b2 b3 (.cells #[x0, x1, x2, x3] T1 (0, 0)) (.cells #[y0, y1, y2, y3] T2 (0, 0)) (.cells #[z0, z1, z2, z3, z4] T3 (0, 0)) w0 w) : Cells13 b1 b2 b3 x0 x1 x2 x3 y0 y1 y2 y3 z0 z1 z2 z3 z4 w :=
  ⟨blk_cell' h.a 0, blk_cell' h.a 1, blk_cell' h.a 2, blk_cell' h.a 3, blk_cell' h.b 0, blk_cell' h.b 1, blk_cell' h.b 2, blk_cell' h.b 3, blk_cell' h.c 0, blk_cell' h.c 1, blk_cell' h.c 2, blk_cell' h.c 3, blk_cell' h.c 4⟩
set_option maxRecDepth 100000 in
set_option maxHeartbeats 2000000 in
theorem reads_true (s : ByteArray) (w : World) (L : LayS w) :
    Calls Tryz.prog 3 #[.string s] w fun ev w' => ev = .returned (.bool true) ∧ Below w.heap.size w w' := by
  have hup := Tryz.underlying26
  have hub := Tryz.underlying33
  obtain ⟨X, hX⟩ : ∃ X, X = oneP s := ⟨_, rfl⟩
  have C1 := fun w L => line_One s w L
  have C2 := fun w L => ref_One s w L
  rw [← hX] at C1 C2
  have hS := same_one X
  have CS := fun w hg => weirboth_Same (oneE X) (oneBad X) w hg
  rw [hS] at CS
  clear hX hS
  generalize oneE X = E at *
  generalize oneBad X = Bd at *
  generalize oneD X = D at *
  clear X
  obtain ⟨V, hV⟩ : ∃ V, V = encE E := ⟨_, rfl⟩
  rw [← hV] at C1 CS
  obtain ⟨bc, bp, bi, bpl, bnu⟩ := Bd
  simp only [Bad.enc] at C2 CS
  have C1 := Lib.hid C1
  have C2 := Lib.hid C2
  have CS := Lib.hid CS
  have LV := Lib.hid (fun w L => live_true w L)
  clear hV
  go_enter Tryz.func3, Tryz.ntmps3
  go_wp2_with fail
  refine (LV.out _ L).mono ?_
  rintro ev w1 ⟨rfl, B1⟩
  have L1 := L.below B1
  go_wp2_with fail
  refine (C1.out _ L1).mono ?_
  rintro ev w2 ⟨v, rfl, hP, hB⟩
  obtain ⟨At, ct, Af, cf, rfl, hp⟩ := hP.val
  obtain ⟨o1, ho1⟩ : ∃ o, o = Obj.cells #[.string D.m, .slice At D.tags.length ct, .slice Af D.fields.length cf, .int .i64 D.time] 26 (0, 0) := ⟨_, rfl⟩
  have q1 := heap_alloc_new w2 o1
  have B2 : Below w.heap.size w (w2.alloc o1) := (B1.trans (hB.mono B1.size)).alloc (B1.trans (hB.mono B1.size)).size o1
  have hp2 := hp.next ((Below.refl _ _).alloc (Nat.le_refl _) o1)
  rw [ho1] at q1 B2 hp2
  clear hP hB hp B1 L1
  have L2 := L.below B2
  go_wp2_with fail
  refine (C2.out _ L2).mono ?_
  rintro ev w3 ⟨v, rfl, hP, hB⟩
  obtain ⟨Bt, dt, Bf, df, rfl, hr⟩ := hP.val
  have q2 := below_blk hB (blk_lt' q1) q1
  have hp3 := hp2.next hB
  have B3 := B2.trans (hB.mono B2.size)
  have T : Vars w2.heap.size w3.heap.size (w3.heap.size + 1) (.cells #[.string D.m, .slice At D.tags.length ct, .slice Af D.fields.length cf, .int .i64 D.time] 26 (0, 0)) (.cells #[.string D.m, .slice Bt D.tags.length dt, .slice Bf D.fields.length df, .int .i64 D.time] 26 (0, 0)) (.cells #[.int .i64 bc, .int .i64 bp, .int .i64 bi, .bool bpl, .bool bnu] 33 (0, 0)) w ((w3.alloc (.cells #[.string D.m, .slice Bt D.tags.length dt, .slice Bf D.fields.length df, .int .i64 D.time] 26 (0, 0))).alloc (.cells #[.int .i64 bc, .int .i64 bp, .int .i64 bi, .bool bpl, .bool bnu] 33 (0, 0))) :=
    ⟨heap_old' _ _ _ (by have := blk_lt' q2; simp; omega) (heap_old' _ _ _ (blk_lt' q2) q2), heap_old' _ _ _ (by simp) (heap_alloc_new w3 _), heap_new' _ _ _ (by simp), (B3.alloc B3.size _).alloc (by have := B3.size; simp; omega) _⟩
  have hp4 := hp3.next (((Below.refl _ _).alloc (Nat.le_refl _) (.cells #[.string D.m, .slice Bt D.tags.length dt, .slice Bf D.fields.length df, .int .i64 D.time] 26 (0, 0))).alloc (by simp) (.cells #[.int .i64 bc, .int .i64 bp, .int .i64 bi, .bool bpl, .bool bnu] 33 (0, 0)))
  have hr4 := hr.next (((Below.refl _ _).alloc (Nat.le_refl _) (.cells #[.string D.m, .slice Bt D.tags.length dt, .slice Bf D.fields.length df, .int .i64 D.time] 26 (0, 0))).alloc (by simp) (.cells #[.int .i64 bc, .int .i64 bp, .int .i64 bi, .bool bpl, .bool bnu] 33 (0, 0)))
  clear hP hB hp2 q1 B2 L2 q2 hp3 B3 hr
  go_upto_region 5 with (fail)
  obtain ⟨g1, hg1⟩ : ∃ g, w2.heap.size = g := ⟨_, rfl⟩
  obtain ⟨g2, hg2⟩ : ∃ g, w3.heap.size = g := ⟨_, rfl⟩
  obtain ⟨W, hW⟩ : ∃ W, (w3.alloc (.cells #[.string D.m, .slice Bt D.tags.length dt, .slice Bf D.fields.length df, .int .i64 D.time] 26 (0, 0))).alloc (.cells #[.int .i64 bc, .int .i64 bp, .int .i64 bi, .bool bpl, .bool bnu] 33 (0, 0)) = W := ⟨_, rfl⟩
  rw [hW] at T hp4 hr4 ⊢
  rw [hg1, hg2] at T ⊢
  obtain ⟨g3, hg3⟩ : ∃ g, g2 + 1 = g := ⟨_, rfl⟩
  rw [hg3] at T ⊢
  clear hg1 hg2 hg3 hW
  replace T := T.next (Below.refl _ _).drew
  have hp5 : PtVal W.drew D At ct Af cf := hp4.next (Below.refl _ _).drew
  have hr5 : PtVal W.drew D Bt dt Bf df := hr4.next (Below.refl _ _).drew
  have LW := L.below T.B
  clear hp4 hr4
  have t0 := vars_cells T
  have SX : ∀ A0 A1 w, PtsAt w A0 [D] → PtsAt w A1 [D] → Calls Tryz.prog 12 #[.slice A0 1 1, .slice A1 1 1] w fun e w' => e = .returned (.bool true) ∧ ∃ m, w' = w.drewN m := fun A0 A1 w h0 h1 => SamePoints_eq A0 A1 1 1 [D] w h0 h1
  have SX := Lib.hid SX
  go_region_held3 (fun w' => w'.cell? ⟨g1, 0, none⟩ = some (.string D.m) ∧ w'.cell? ⟨g1, 1, none⟩ = some (.slice At D.tags.length ct) ∧ w'.cell? ⟨g1, 2, none⟩ = some (.slice Af D.fields.length cf) ∧ w'.cell? ⟨g1, 3, none⟩ = some (.int .i64 D.time) ∧ w'.cell? ⟨g2, 0, none⟩ = some (.string D.m) ∧ w'.cell? ⟨g2, 1, none⟩ = some (.slice Bt D.tags.length dt) ∧ w'.cell? ⟨g2, 2, none⟩ = some (.slice Bf D.fields.length df) ∧ w'.cell? ⟨g2, 3, none⟩ = some (.int .i64 D.time) ∧ w'.cell? ⟨g3, 0, none⟩ = some (.int .i64 bc) ∧ w'.cell? ⟨g3, 1, none⟩ = some (.int .i64 bp) ∧ w'.cell? ⟨g3, 2, none⟩ = some (.int .i64 bi) ∧ w'.cell? ⟨g3, 3, none⟩ = some (.bool bpl) ∧ w'.cell? ⟨g3, 4, none⟩ = some (.bool bnu))
    (first | (with_reducible exact t0) | (with_reducible exact t1) | (with_reducible exact t2) | (with_reducible exact t3) | (with_reducible exact t4) | fail)
    (first
      | (go_at_call 11; (with_reducible refine (CS.out _ LW.L.hg).mono ?_); rintro ev w4 ⟨rfl, hB1⟩; have T1 := Vars.next T hB1; have t1 := vars_cells T1; have hp6 := hp5.next hB1; have hr6 := hr5.next hB1)
      | (go_at_call 13; (with_reducible refine (law_one D At ct Af cf _ hp6).mono ?_); rintro ev w5 ⟨rfl, hl1, hB2⟩; have T2 := Vars.next T1 hB2; have t2 := vars_cells T2; have hr7 := hr6.next hB2)
      | (go_at_call 13; (with_reducible refine (law_one D Bt dt Bf df _ hr7).mono ?_); rintro ev w6 ⟨rfl, hl2, hB3⟩; have T3 := Vars.next T2 hB3; have t3 := vars_cells T3)
      | (go_at_call 12; (with_reducible refine (SX.out _ _ _ (hl1.next hB3) hl2).mono ?_); rintro ev w7 ⟨rfl, m, rfl⟩; have T4 := Vars.next T3 (below_drewN0 _ m); have t4 := vars_cells T4)
      | fail)
  go_wp2
  go_ret
  exact ⟨rfl, T4.B⟩
end Go.Proofs.YtmemidilocknbaaGreatDoor
