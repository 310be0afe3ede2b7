/- weirlaw04.SpanParses is true. -/
import Derived.Test.YthplpjcadjnfiaaGreatDoorSlive
import Derived.Test.YthplpjcadjnfiaaGreatDoorSw15
namespace Go.Proofs.YthplpjcadjnfiaaGreatDoor
open Go.RowKit
set_option linter.unusedSimpArgs false
set_option linter.unusedVariables false

theorem same_mk (n : Int) : same (mkE n) (refNew n) = true := by
  by_cases h : n = 0
  · subst h; rfl
  · simp [same, mkE, refNew, h, Er.code?, Er.at?, Er.in?]
set_option maxRecDepth 100000 in
set_option maxHeartbeats 1000000 in
theorem parses_true (s : ByteArray) (w : World) (hL : LayU w) (hs : s.size ≤ 140737488355328) :
    Calls Tryz.prog 3 #[.string s] w fun e w' => e = .returned (.bool true) ∧ Below w.heap.size w w' := by
  have st := Sq.start hL
  have C0 := fun W hW => span_live W hW
  have C1 := fun W hW => span_Parse s hs W hW
  have C2 := fun W => ref_Parse s hs W
  have C3 := fun W hW => weirboth_Same (mkE (parseP s.data.toList).2) (refNew (parseP s.data.toList).2) W hW
  rw [same_mk] at C3
  rw [refNew_enc] at C2 C3
  have D1 := fun W hW => span_Scan s hs W hW
  have D2 := fun W => ref_Scan s hs W
  have D3 := fun W hW => weirboth_Same (mkE (scanP s.data.toList).2.2) (refNew (scanP s.data.toList).2.2) W hW
  rw [same_mk] at D3
  rw [refNew_enc] at D2 D3
  generalize hev : encE (mkE (parseP s.data.toList).2) = ev at *
  generalize hew : encE (mkE (scanP s.data.toList).2.2) = ew at *
  clear hev hew
  generalize (parseP s.data.toList).1 = v at *
  generalize (parseP s.data.toList).2 = c at *
  generalize (scanP s.data.toList).1 = v2 at *
  generalize (scanP s.data.toList).2.1 = k2 at *
  generalize (scanP s.data.toList).2.2 = c2 at *
  go_enter Tryz.func3, Tryz.ntmps3
  go_wp2_with fail
  refine (C0 _ st.L).mono ?_
  rintro e w1 ⟨rfl, hB⟩
  replace st := st.next hB
  clear hB C0
  go_wp2_with fail
  refine (C1 _ st.L).mono ?_
  rintro e w2 ⟨rfl, hB⟩
  replace st := st.next hB
  clear hB C1
  go_wp2_with fail
  refine (C2 _).mono ?_
  rintro e w3 ⟨rfl, hB⟩
  replace st := st.next hB
  have hb := st.B.size
  have m1 := heap_alloc_new w3 (.cells #[.int .i64 c, .int .i64 0, .int .i64 0, .bool false, .bool false] 29 (0, 0))
  replace st := st.alloc (.cells #[.int .i64 c, .int .i64 0, .int .i64 0, .bool false, .bool false] 29 (0, 0))
  clear hB C2
  go_wp2_with fail
  refine (C3 _ st.L.S.L.hg).mono ?_
  rintro e w4 ⟨rfl, hB⟩
  replace st := st.next hB
  replace m1 := below_blk hB (blk_lt' m1) m1
  clear hB C3
  go_wp2_with fail
  refine (D1 _ st.L).mono ?_
  rintro e w5 ⟨rfl, hB⟩
  replace st := st.next hB
  replace m1 := below_blk hB (blk_lt' m1) m1
  clear hB D1
  go_wp2_with fail
  refine (D2 _).mono ?_
  rintro e w6 ⟨rfl, hB⟩
  replace st := st.next hB
  replace m1 := below_blk hB (blk_lt' m1) m1
  clear hB D2
  generalize w3.heap.size = g at *
  have HT := bad_blk m1 (.int .i64 c2) (.int .i64 0) (.int .i64 0) (.bool false) (.bool false)
  have BB := below_bad st.B hb (.int .i64 c2) (.int .i64 0) (.int .i64 0) (.bool false) (.bool false)
  have LL := hL.below BB
  have D3 := Lib.hid D3
  have qk0 := blk_cell' (m1) 0
  have qf0 := blk_free' (m1) 0
  have qk1 := blk_cell' (m1) 1
  have qf1 := blk_free' (m1) 1
  have qk2 := blk_cell' (m1) 2
  have qf2 := blk_free' (m1) 2
  have qk3 := blk_cell' (m1) 3
  have qf3 := blk_free' (m1) 3
  have qk4 := blk_cell' (m1) 4
  have qf4 := blk_free' (m1) 4
  have rk0 := blk_cell' (HT) 0
  have rf0 := blk_free' (HT) 0
  have rk1 := blk_cell' (HT) 1
  have rf1 := blk_free' (HT) 1
  have rk2 := blk_cell' (HT) 2
  have rf2 := blk_free' (HT) 2
  have rk3 := blk_cell' (HT) 3
  have rf3 := blk_free' (HT) 3
  have rk4 := blk_cell' (HT) 4
  have rf4 := blk_free' (HT) 4
  clear m1 HT st hb
  go_wp2_with fail
  first
    | (refine (D3.out _ LL.S.L.hg).mono ?_; rintro e w7 ⟨rfl, hB⟩)
    | skip
  go_wp2
  all_goals go_ret
  all_goals exact ⟨ret_b (by simp), BB.trans (hB.mono BB.size)⟩
end Go.Proofs.YthplpjcadjnfiaaGreatDoor
