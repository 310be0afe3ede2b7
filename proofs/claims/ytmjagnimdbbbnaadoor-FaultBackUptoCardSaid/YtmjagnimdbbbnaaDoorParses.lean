/- FaultParses: for every text the call returns true. -/
import Derived.Test.YtmjagnimdbbbnaaDoorRparse
namespace Go.Proofs.YtmjagnimdbbbnaaDoor
open Go.RowKit
set_option linter.unusedSimpArgs false
set_option linter.unusedVariables false

theorem same_told (b : Bad) (h : b.code ≠ 0) : same (toldOf b) b = true := by
  obtain ⟨c, a, i, p, n⟩ := b
  simp only at h
  cases p <;> cases n <;> simp [same, toldOf, mkE, mkAt, mkIn, h, Er.code?, Er.at?, Er.in?, atPos, inPos]
theorem parseR_code {s : ByteArray} {b : Bad} (h : parseR s = some b) : b.code ≠ 0 := by
  unfold parseR at h
  split at h
  · rename_i hc
    obtain rfl := Option.some.inj h
    exact hc.1.2
  · cases h
theorem same_parsed (s : ByteArray) : same (ansF s).1 (ansR s).1 = true ∧ same (ansF s).2 (ansR s).2 = true := by
  unfold ansF ansR
  by_cases h0 : s = okW
  · rw [if_pos h0, if_pos h0]
    exact ⟨rfl, rfl⟩
  · rw [if_neg h0, if_neg h0, parse_eq]
    cases h : parseR s with
    | none => exact ⟨rfl, rfl⟩
    | some b => exact ⟨same_told b (parseR_code h), rfl⟩

set_option maxRecDepth 100000 in
set_option maxHeartbeats 600000 in
theorem parses_true (s : ByteArray) (w : World) (L : LayM w) (hs : s.size < 4294967281) : Calls Tryd.prog 8 #[.string s] w fun ev w' => ev = .returned (.bool true) ∧ Below w.heap.size w w' := by
  have C1 := Lib.hid (fun w L => fault_Parse s hs w L)
  have C2 := Lib.hid (fun w L => ref_Parse s hs w L)
  have C3 := Lib.hid (fun w hg => weirboth_Same (ansF s).2 (ansR s).2 w hg)
  have C4 := Lib.hid (fun w hg => weirboth_Same (ansF s).1 (ansR s).1 w hg)
  rw [(same_parsed s).2] at C3
  rw [(same_parsed s).1] at C4
  generalize encE (ansF s).1 = E1 at C1 C4
  generalize encE (ansF s).2 = E2 at C1 C3
  generalize (ansR s).1 = B1 at C2 C4
  generalize (ansR s).2 = B2 at C2 C3
  obtain ⟨c, a, i, p, n⟩ := B1
  obtain ⟨c', a', i', p', n'⟩ := B2
  simp only [Bad.enc] at C2 C3 C4
  have st := Sq.start L
  clear L
  go_enter Tryd.func8, Tryd.ntmps8
  go_wp2_with fail
  refine (C1.out _ st.L).mono ?_
  rintro ev w1 ⟨rfl, hB⟩
  replace st := st.next hB
  clear hB
  go_wp2_with fail
  refine (C2.out _ st.L.S).mono ?_
  rintro ev w2 ⟨rfl, hB⟩
  replace st := st.next hB
  clear hB C1 C2
  go_wp2_with fail
  have tw : Two w2.heap.size (w2.heap.size + 1) (.cells #[.int .i64 c, .int .i64 a, .int .i64 i, .bool p, .bool n] 29 (0, 0)) (.cells #[.int .i64 c', .int .i64 a', .int .i64 i', .bool p', .bool n'] 29 (0, 0)) w ((w2.alloc (.cells #[.int .i64 c, .int .i64 a, .int .i64 i, .bool p, .bool n] 29)).alloc (.cells #[.int .i64 c', .int .i64 a', .int .i64 i', .bool p', .bool n'] 29)) :=
    ⟨⟨((st.alloc _).alloc _).B, ((st.alloc _).alloc _).L.S.L⟩, heap_old' _ _ _ (by rw [alloc_sz]; omega) (heap_alloc_new w2 _), heap_new' _ _ _ (by rw [alloc_sz])⟩
  clear st
  refine (live_true _ tw.s.L.hg).mono ?_
  rintro ev w3 ⟨rfl, hB⟩
  replace tw := tw.next hB
  clear hB
  have k00 := blk_cell' tw.b0 0
  have k01 := blk_cell' tw.b0 1
  have k02 := blk_cell' tw.b0 2
  have k03 := blk_cell' tw.b0 3
  have k04 := blk_cell' tw.b0 4
  have k10 := blk_cell' tw.b1 0
  have k11 := blk_cell' tw.b1 1
  have k12 := blk_cell' tw.b1 2
  have k13 := blk_cell' tw.b1 3
  have k14 := blk_cell' tw.b1 4
  go_wp2_with fail
  refine (C3.out _ tw.s.L.hg).mono ?_
  rintro ev w4 ⟨rfl, hB⟩
  replace tw := tw.next hB
  clear hB k00 k01 k02 k03 k04 k10 k11 k12 k13 k14
  have k00 := blk_cell' tw.b0 0
  have k01 := blk_cell' tw.b0 1
  have k02 := blk_cell' tw.b0 2
  have k03 := blk_cell' tw.b0 3
  have k04 := blk_cell' tw.b0 4
  have k10 := blk_cell' tw.b1 0
  have k11 := blk_cell' tw.b1 1
  have k12 := blk_cell' tw.b1 2
  have k13 := blk_cell' tw.b1 3
  have k14 := blk_cell' tw.b1 4
  go_wp2_with fail
  refine (C4.out _ tw.s.L.hg).mono ?_
  rintro ev w5 ⟨rfl, hB⟩
  replace tw := tw.next hB
  clear hB k00 k01 k02 k03 k04 k10 k11 k12 k13 k14
  go_wp2
  go_ret
  exact ⟨by simp, tw.s.B⟩
end Go.Proofs.YtmjagnimdbbbnaaDoor
