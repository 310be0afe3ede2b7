/- weirlaw06.live is true; a list of one point. -/
import Derived.Test.YtnodjijgeifejaaGreatDoorLiveLaw
import Derived.Test.YtnodjijgeifejaaGreatDoorLprint
import Derived.Test.YtnodjijgeifejaaGreatDoorOne
import Derived.Test.YtnodjijgeifejaaGreatDoorIs
namespace Go.Proofs.YtnodjijgeifejaaGreatDoor
open Go.RowKit
set_option linter.unusedSimpArgs false
set_option linter.unusedVariables false

theorem add_at (g j : Nat) : (⟨g, 0, none⟩ : Addr).add j = ⟨g, j, none⟩ := by unfold Addr.add; split <;> simp_all
theorem tags_two {B : Nat} {v : Value} {l : List (ByteArray × ByteArray)} {w : World} (h : TagsIn B v l w) : ∃ A c, v = .slice A l.length c ∧ TwoAt w A l.length fun j => (.string (tagK l j), .string (tagV l j)) := by
  have hl : ∀ j, j < l.length → (tagCells l)[j * 2]? = some (.string (tagK l j)) ∧ (tagCells l)[j * 2 + 1]? = some (.string (tagV l j)) := by
    clear h
    induction l with
    | nil => intro j hj; simp at hj
    | cons t r ih =>
      intro j hj
      cases j with
      | zero => simp [tagCells, tagK, tagV]
      | succ j =>
        have := ih j (by simpa using hj)
        have e : tagCells (t :: r) = .string t.1 :: .string t.2 :: tagCells r := by simp [tagCells]
        rw [e, show (j + 1) * 2 = j * 2 + 1 + 1 from by omega]
        simpa [tagK, tagV] using this
  have hle : l.length ≤ 9223372036854775807 := by
    rcases h.2 with ⟨_, h0⟩ | ⟨g, cap, cur, _, _, _, h1, h2, _⟩
    · omega
    · unfold maxLen at h2; omega
  rcases Nat.eq_zero_or_pos l.length with h0 | h0
  · obtain ⟨ao, n, c, rfl⟩ := own_form h
    rcases h.2 with ⟨hv, _⟩ | ⟨g, cap, cur, hv, _⟩
    · injection hv with e1 e2 e3; subst e1; subst e2; subst e3
      exact ⟨none, 0, by rw [h0], hle, fun hp => by omega⟩
    · injection hv with e1 e2 e3; subst e1; subst e2; subst e3
      exact ⟨_, _, rfl, hle, fun hp => by omega⟩
  · obtain ⟨n, hn⟩ : ∃ n, l.length = n + 1 := ⟨l.length - 1, by omega⟩
    have hv : ∃ g cap, v = .slice (some ⟨g, 0, none⟩) l.length cap := by
      rcases h.2 with ⟨_, h0'⟩ | ⟨g, cap, cur, hv, _⟩
      · omega
      · exact ⟨g, cap, hv⟩
    obtain ⟨g, cap, rfl⟩ := hv
    refine ⟨_, _, rfl, hle, fun _ => ⟨_, rfl, fun j hj => ?_⟩⟩
    have c1 := h.cells (g := g) rfl (j * 2) _ (hl j hj).1
    have c2 := h.cells (g := g) rfl (j * 2 + 1) _ (hl j hj).2
    rw [add_at] at c1 c2 ⊢
    exact ⟨c1, c2⟩
theorem fields_two {B : Nat} {v : Value} {l : List (ByteArray × Int)} {w : World} (h : FieldsIn B v l w) : ∃ A c, v = .slice A l.length c ∧ TwoAt w A l.length fun j => (.string (fldK l j), .int .i64 (fldV l j)) := by
  have hl : ∀ j, j < l.length → (fieldCells l)[j * 2]? = some (.string (fldK l j)) ∧ (fieldCells l)[j * 2 + 1]? = some (.int .i64 (fldV l j)) := by
    clear h
    induction l with
    | nil => intro j hj; simp at hj
    | cons t r ih =>
      intro j hj
      cases j with
      | zero => simp [fieldCells, fldK, fldV]
      | succ j =>
        have := ih j (by simpa using hj)
        have e : fieldCells (t :: r) = .string t.1 :: .int .i64 t.2 :: fieldCells r := by simp [fieldCells]
        rw [e, show (j + 1) * 2 = j * 2 + 1 + 1 from by omega]
        simpa [fldK, fldV] using this
  have hle : l.length ≤ 9223372036854775807 := by
    rcases h.2 with ⟨_, h0⟩ | ⟨g, cap, cur, _, _, _, h1, h2, _⟩
    · omega
    · unfold maxLen at h2; omega
  rcases Nat.eq_zero_or_pos l.length with h0 | h0
  · obtain ⟨ao, n, c, rfl⟩ := own_form h
    rcases h.2 with ⟨hv, _⟩ | ⟨g, cap, cur, hv, _⟩
    · injection hv with e1 e2 e3; subst e1; subst e2; subst e3
      exact ⟨none, 0, by rw [h0], hle, fun hp => by omega⟩
    · injection hv with e1 e2 e3; subst e1; subst e2; subst e3
      exact ⟨_, _, rfl, hle, fun hp => by omega⟩
  · have hv : ∃ g cap, v = .slice (some ⟨g, 0, none⟩) l.length cap := by
      rcases h.2 with ⟨_, h0'⟩ | ⟨g, cap, cur, hv, _⟩
      · omega
      · exact ⟨g, cap, hv⟩
    obtain ⟨g, cap, rfl⟩ := hv
    refine ⟨_, _, rfl, hle, fun _ => ⟨_, rfl, fun j hj => ?_⟩⟩
    have c1 := h.cells (g := g) rfl (j * 2) _ (hl j hj).1
    have c2 := h.cells (g := g) rfl (j * 2 + 1) _ (hl j hj).2
    rw [add_at] at c1 c2 ⊢
    exact ⟨c1, c2⟩
/-- A point in memory, by values. -/
theorem PtIn.val {B : Nat} {v : Value} {p : Pt} {w : World} (h : PtIn B v p w) : ∃ At ct Af cf, v = .agg #[.string p.m, .slice At p.tags.length ct, .slice Af p.fields.length cf, .int .i64 p.time] ∧ PtVal w p At ct Af cf := by
  obtain ⟨tv, fv, rfl, h1, h2⟩ := h
  obtain ⟨At, ct, rfl, k1⟩ := tags_two h1
  obtain ⟨Af, cf, rfl, k2⟩ := fields_two h2
  exact ⟨At, ct, Af, cf, rfl, k1, k2⟩
set_option maxRecDepth 100000 in
set_option maxHeartbeats 1000000 in
theorem law_one (p : Pt) (At : Option Addr) (ct : Nat) (Af : Option Addr) (cf : Nat) (w : World) (hp : PtVal w p At ct Af cf) :
    Calls Tryz.prog 20 #[.agg #[.string p.m, .slice At p.tags.length ct, .slice Af p.fields.length cf, .int .i64 p.time]] w fun ev w' => ev = .returned (.slice (some ⟨w.heap.size + 1, 0, none⟩) 1 1) ∧ PtsAt w' (some ⟨w.heap.size + 1, 0, none⟩) [p] ∧ Below w.heap.size w w' := by
  have hup := Tryz.underlying32
  have hp2 := hp.next (((Below.refl _ _).alloc (Nat.le_refl _) (.cells #[.string p.m, .slice At p.tags.length ct, .slice Af p.fields.length cf, .int .i64 p.time] 32 (0, 0))).alloc (by simp) (.cells #[.string p.m, .slice At p.tags.length ct, .slice Af p.fields.length cf, .int .i64 p.time] 32 (0, 0)))
  have hB := ((Below.refl w.heap.size w).alloc (Nat.le_refl _) (.cells #[.string p.m, .slice At p.tags.length ct, .slice Af p.fields.length cf, .int .i64 p.time] 32 (0, 0))).alloc (by simp) (.cells #[.string p.m, .slice At p.tags.length ct, .slice Af p.fields.length cf, .int .i64 p.time] 32 (0, 0))
  have hb := heap_new' (w.alloc (.cells #[.string p.m, .slice At p.tags.length ct, .slice Af p.fields.length cf, .int .i64 p.time] 32 (0, 0))) (.cells #[.string p.m, .slice At p.tags.length ct, .slice Af p.fields.length cf, .int .i64 p.time] 32 (0, 0)) (w.heap.size + 1) (by simp)
  have hc : PtsAt ((w.alloc (.cells #[.string p.m, .slice At p.tags.length ct, .slice Af p.fields.length cf, .int .i64 p.time] 32 (0, 0))).alloc (.cells #[.string p.m, .slice At p.tags.length ct, .slice Af p.fields.length cf, .int .i64 p.time] 32 (0, 0))) (some ⟨w.heap.size + 1, 0, none⟩) [p] := by
    refine ⟨by simp, fun _ => ⟨_, rfl, fun j hj => ?_⟩⟩
    obtain rfl : j = 0 := by simpa using hj
    exact ⟨At, ct, Af, cf, blk_cell' hb 0, blk_cell' hb 1, blk_cell' hb 2, blk_cell' hb 3, hp2.ts, hp2.fs⟩
  have HC := Lib.hid hc
  clear hc hb hp hp2
  go_enter Tryz.func20, Tryz.ntmps20
  go_wp2
  go_ret
  exact ⟨rfl, HC.out, hB⟩
set_option maxRecDepth 100000 in
set_option maxHeartbeats 2000000 in
theorem live_true (w : World) (L : LayS w) :
    Calls Tryz.prog 7 #[] w fun ev w' => ev = .returned (.bool true) ∧ Below w.heap.size w w' := by
  have hup := Tryz.underlying32
  have C1 : ∀ w, LayS w → Calls Tryz.prog 18 #[.string lv1] w fun ev w' => ∃ v, ev = .returned (.tuple #[v, .nilIface]) ∧ PtIn w.heap.size v lvP w' ∧ Below w.heap.size w w' := fun w L => by
    have h := line_One lv1 w L
    rw [live_one] at h
    exact h
  have C1 := Lib.hid C1
  obtain ⟨tt, tv, he⟩ : ∃ t v, encE (mkAt 7 60) = .iface t v := ⟨_, _, rfl⟩
  have C2 : ∀ w, LayS w → Calls Tryz.prog 18 #[.string lv2] w fun ev w' => ∃ v, ev = .returned (.tuple #[v, .iface tt tv]) ∧ PtIn w.heap.size v .zero w' ∧ Below w.heap.size w w' := fun w L => by
    have h := line_One lv2 w L
    rw [live_two] at h
    rw [← he]
    exact h
  have C2 := Lib.hid C2
  have CI : ∀ w, HG w → Calls Tryz.prog 23 #[.iface tt tv, .int .i64 60] w fun ev w' => ev = .returned (.bool true) ∧ Below w.heap.size w w' := fun w hg => by
    have h := both_Is (mkAt 7 60) 60 (by decide) w hg
    rw [he] at h
    exact h
  have CI := Lib.hid CI
  clear he
  go_enter Tryz.func7, Tryz.ntmps7
  go_wp2_with fail
  refine (C1.out _ L).mono ?_
  rintro ev w1 ⟨v, rfl, hP, hB⟩
  obtain ⟨At, ct, Af, cf, rfl, hp⟩ := hP.val
  clear hP
  have L1 := L.below hB
  have hp1 := hp.next ((Below.refl _ _).alloc (Nat.le_refl _) (.cells #[.string ⟨#[99, 112, 117]⟩, .slice At 1 ct, .slice Af 1 cf, .int .i64 10] 32 (0, 0)))
  have q1 := heap_alloc_new w1 (.cells #[.string ⟨#[99, 112, 117]⟩, .slice At 1 ct, .slice Af 1 cf, .int .i64 10] 32 (0, 0))
  have B1 := hB.alloc hB.size (.cells #[.string ⟨#[99, 112, 117]⟩, .slice At 1 ct, .slice Af 1 cf, .int .i64 10] 32 (0, 0))
  clear hp hB
  go_wp2_with fail
  refine (C2.out _ (L1.below ((Below.refl _ _).alloc (Nat.le_refl _) _))).mono ?_
  rintro ev w2 ⟨v2, rfl, hP, hB⟩
  obtain ⟨At2, ct2, Af2, cf2, hv, -⟩ := hP.val
  obtain rfl : v2 = .agg #[.string ⟨#[]⟩, .slice At2 0 ct2, .slice Af2 0 cf2, .int .i64 0] := hv
  clear hP
  have q2 := below_blk hB (blk_lt' q1) q1
  have hp2 := hp1.next hB
  have B2 := B1.trans (hB.mono B1.size)
  have L2 := L.below B2
  clear q1 hp1 B1 hB L1
  have B3 : Below w.heap.size w (w2.alloc (.cells #[.string ⟨#[]⟩, .slice At2 0 ct2, .slice Af2 0 cf2, .int .i64 0] 32 (0, 0))) := B2.alloc B2.size _
  have q3 := heap_old' w2 (.cells #[.string ⟨#[]⟩, .slice At2 0 ct2, .slice Af2 0 cf2, .int .i64 0] 32 (0, 0)) w1.heap.size (blk_lt' q2) q2
  have hp3 := hp2.next ((Below.refl _ _).alloc (Nat.le_refl _) (.cells #[.string ⟨#[]⟩, .slice At2 0 ct2, .slice Af2 0 cf2, .int .i64 0] 32 (0, 0)))
  have L3 := L.below B3
  clear q2 hp2 B2
  have pk0 := blk_cell' (q3) 0
  have pf0 := blk_free' (q3) 0
  have pk1 := blk_cell' (q3) 1
  have pf1 := blk_free' (q3) 1
  have pk2 := blk_cell' (q3) 2
  have pf2 := blk_free' (q3) 2
  have pk3 := blk_cell' (q3) 3
  have pf3 := blk_free' (q3) 3
  have CP : ∀ w, Lay w → PtVal w lvP At ct Af cf → Calls Tryz.prog 9 #[.agg #[.string ⟨#[99, 112, 117]⟩, .slice At 1 ct, .slice Af 1 cf, .int .i64 10]] w fun ev w' => ev = .returned (.tuple #[.string lv1, .nilIface]) ∧ Below w.heap.size w w' := fun w L h => by
    have h := line_Print_yes lvP At ct Af cf w L h ⟨by unfold I64; decide, by unfold I64; decide⟩ live_plain (by have h : (lineL lvP).length = 18 := (by kernel_rfl); omega)
    rw [live_print] at h
    exact h
  have CP := Lib.hid CP
  go_wp2_with fail
  refine (CP.out _ L3.L hp3).mono ?_
  rintro ev w4 ⟨rfl, hB4⟩
  have q4 := below_blk hB4 (blk_lt' q3) q3
  have hp4 := hp3.next hB4
  have B4 := B3.trans (hB4.mono B3.size)
  have L4 := L.below B4
  clear pk0 pk1 pk2 pk3 pf0 pf1 pf2 pf3 q3 hp3 B3 hB4 L3 L2
  obtain ⟨a0, rfl, C⟩ := hp4.fs.cells (by decide)
  obtain ⟨x0, x1⟩ := C 0 (by decide)
  have x1' : w4.cell? ⟨a0.block, a0.off + 1, none⟩ = some (.int .i64 4) := by
    have e : (a0.add (0 * 2)) = a0 := by simp [Addr.add]
    rw [e] at x1
    exact x1
  clear C x0 x1
  have pk0 := blk_cell' (q4) 0
  have pf0 := blk_free' (q4) 0
  have pk1 := blk_cell' (q4) 1
  have pf1 := blk_free' (q4) 1
  have pk2 := blk_cell' (q4) 2
  have pf2 := blk_free' (q4) 2
  have pk3 := blk_cell' (q4) 3
  have pf3 := blk_free' (q4) 3
  go_wp2_with fail
  refine (CI.out _ L4.L.hg).mono ?_
  rintro ev w5 ⟨rfl, hB5⟩
  go_wp2
  go_ret
  exact ⟨rfl, B4.trans (hB5.mono B4.size)⟩
end Go.Proofs.YtnodjijgeifejaaGreatDoor
