/- weirlaw04.SpanDays is true. -/
import Derived.Test.YthplpjcadjnfiaaGreatDoorSback
import Derived.Test.YthplpjcadjnfiaaGreatDoorSw13
import Derived.Test.YthplpjcadjnfiaaGreatDoorSw14
namespace Go.Proofs.YthplpjcadjnfiaaGreatDoor
open Go.RowKit
set_option linter.unusedSimpArgs false
set_option linter.unusedVariables false

theorem same_day (n : Int) : same (mkE n) (refNew n) = true := by
  by_cases h : n = 0
  · subst h; rfl
  · simp [same, mkE, refNew, h, Er.code?, Er.at?, Er.in?]
structure Dk (b : Nat) (y m d n : Int) (w0 w : World) : Prop where
  s : Sq LayU w0 w
  blk : w.heap[b]? = some (.cells #[.int .i64 y, .int .i64 m, .int .i64 d, .int .i64 n] 41 (0, 0))
theorem Dk.next {b : Nat} {y m d n : Int} {w0 w w' : World} (s : Dk b y m d n w0 w) (h : Below w.heap.size w w') : Dk b y m d n w0 w' := ⟨s.s.next h, below_blk h (blk_lt' s.blk) s.blk⟩
theorem Dk.cells {b : Nat} {y m d n : Int} {w0 w : World} (s : Dk b y m d n w0 w) :
    w.cell? ⟨b, 0, none⟩ = some (.int .i64 y) ∧ w.cell? ⟨b, 1, none⟩ = some (.int .i64 m) ∧ w.cell? ⟨b, 2, none⟩ = some (.int .i64 d) ∧ w.cell? ⟨b, 3, none⟩ = some (.int .i64 n) :=
  ⟨blk_cell' s.blk 0, blk_cell' s.blk 1, blk_cell' s.blk 2, blk_cell' s.blk 3⟩
set_option maxRecDepth 100000 in
set_option maxHeartbeats 1000000 in
theorem days_true (y m d n : Int) (w : World) (hL : LayU w) (d0 : -9223372036854775808 ≤ d) (d1 : d ≤ 9223372036854775807) (n0 : -9223372036854775808 ≤ n) (n1 : n ≤ 9223372036854775807) :
    Calls Tryz.prog 7 #[.agg #[.int .i64 y, .int .i64 m, .int .i64 d, .int .i64 n]] w fun e w' => e = .returned (.bool true) ∧ Below w.heap.size w w' := by
  have C0 := fun W hW => span_live W hW
  have C1 := fun W => span_Day y m d d0 d1 W
  have C2 := fun W => ref_Day y m d d0 d1 W
  have C3 := fun W => span_Date n n0 n1 W
  have C4 := fun W => ref_Date n n0 n1 W
  have C5 := fun W hW => weirboth_Same (mkE (dayP y m d).2) (refNew (dayP y m d).2) W hW
  rw [same_day] at C5
  rw [refNew_enc'] at C2 C5
  generalize (dayP y m d).1 = k at *
  generalize hev : encE (mkE (dayP y m d).2) = ev at *
  clear hev
  generalize (dayP y m d).2 = c at *
  generalize (dateP n).1 = y' at *
  generalize (dateP n).2.1 = m' at *
  generalize (dateP n).2.2 = d' at *
  have st0 : Dk w.heap.size y m d n w (w.alloc (.cells #[.int .i64 y, .int .i64 m, .int .i64 d, .int .i64 n] 41)) := ⟨(Sq.start hL).alloc _, heap_alloc_new w _⟩
  clear d0 d1 n0 n1
  go_enter Tryz.func7, Tryz.ntmps7
  obtain ⟨a0, a1, a2, a3⟩ := st0.cells
  go_wp2_with (first | (go_at_call 13; refine (C0 _ st0.s.L).mono ?_; rintro e w1 ⟨rfl, hB⟩; have st1 := st0.next hB; clear hB st0 a0 a1 a2 a3; obtain ⟨a0, a1, a2, a3⟩ := st1.cells) | (go_at_call 25; refine (C1 _).mono ?_; rintro e w2 ⟨rfl, rfl⟩) | (go_at_call 26; refine (C2 _).mono ?_; rintro e w3 ⟨rfl, hB⟩; have st2 := st1.next hB; clear hB) | (go_at_call 16; refine (C5 _ (st2.s.alloc _).L.S.L.hg).mono ?_; rintro e w4 ⟨rfl, hB⟩; have st4 := (st2.s.alloc _).next hB; clear hB) | (go_at_call 27; refine (C3 _).mono ?_; rintro e w2 ⟨rfl, rfl⟩) | (go_at_call 28; refine (C4 _).mono ?_; rintro e w2 ⟨rfl, rfl⟩))
  go_ret
  exact ⟨ret_b (by simp), st4.B⟩
end Go.Proofs.YthplpjcadjnfiaaGreatDoor
