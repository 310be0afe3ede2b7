/- Package line: One's deferred function: it catches the reader's panic. -/
import Derived.Test.YtnodjijgeifejaaGreatDoorPointw
import Derived.Defers
import Derived.Recover
import Derived.Laws.Pointers
namespace Go.Proofs.YtnodjijgeifejaaGreatDoor
open Go.RowKit
set_option linter.unusedSimpArgs false
set_option linter.unusedVariables false

/-- The deferred function, where the frame below panics with a line's error. -/
theorem errV (e : Int) : encE (mkAt e 60) = .iface 104 (.agg #[.int .i64 e, .iface 33 (.int .i64 60)]) := rfl
theorem ta_stop (v : Value) (w : World) : (Instr.typeAssert (.iface 121 v) 20 121 false).run Tryz.prog w = .ok v w := by
  simp [Instr.typeAssert, run_underlying Tryz.underlying121]
theorem fld_stop (t : TypeId) (v : Value) (w : World) : (Instr.field 121 (.agg #[.iface t v]) 0).run Tryz.prog w = .ok (.iface t v) w := by
  simp [Instr.field, asAgg, part, go_sem]
set_option maxRecDepth 100000 in
set_option maxHeartbeats 1000000 in
theorem catch_stop (pb eb : Nat) (e : Int) (x0 x1 x2 x3 y : Value) (hpe : pb ≠ eb) (w : World) (hp : w.heap[pb]? = some (.cells #[x0, x1, x2, x3] 32 (0, 0))) (he : w.heap[eb]? = some (.cells #[y] 26 (0, 0))) :
    CallsD Tryz.prog 44 #[.pointer (some ⟨pb, 0, none⟩), .pointer (some ⟨eb, 0, none⟩)] (.panicking [{ v := stopV e, recovered := false }]) w fun ev u' w' =>
      ev = .returned (.tuple #[]) ∧ u' = .panicking [{ v := stopV e, recovered := true }] ∧ w'.heap[pb]? = some ptZ ∧ w'.heap[eb]? = some (.cells #[encE (mkAt e 60)] 26 (0, 0)) ∧ Below (min pb eb) w w' := by
  unfold stopV
  rw [errV]
  have pk0 := blk_cell' (hp) 0
  have pf0 := blk_free' (hp) 0
  have pk1 := blk_cell' (hp) 1
  have pf1 := blk_free' (hp) 1
  have pk2 := blk_cell' (hp) 2
  have pf2 := blk_free' (hp) 2
  have pk3 := blk_cell' (hp) 3
  have pf3 := blk_free' (hp) 3
  have ek0 := blk_cell' (he) 0
  have ef0 := blk_free' (he) 0
  refine callsD_of_wpS Tryz.func44 rfl fun c₀ cs hu => ?_
  apply wpS_seq
  apply wpS_region
  simp [wpOpsS, go_sem, recoverD, hu, Tryz.ntmps44, Exit.thenS]
  refine wpS_of_wp ?_
  have hta := ta_stop
  have hfl := fld_stop
  simp only [Array.replicate_succ, Array.replicate_zero, List.push_toArray, List.append_toArray, List.nil_append, List.cons_append, List.setIfInBounds_toArray, List.set_cons_zero, List.set_cons_succ]
  go_wp2
  go_region
  go_wp2
  have q1 := blk_far' (pt_blk hp (.string ⟨#[]⟩) (.slice none 0 0) (.slice none 0 0) (.int .i64 0)) hpe 0 (encE (mkAt e 60))
  have q2 := blk_set' (grown_blk (pt_grown (w := w) pb (.string ⟨#[]⟩) (.slice none 0 0) (.slice none 0 0) (.int .i64 0)) he (fun h => hpe (Option.some.inj h).symm)) 0 (encE (mkAt e 60))
  have q3 : Below (min pb eb) w (((((w.setCell ⟨pb, 0, none⟩ (.string ⟨#[]⟩)).setCell ⟨pb, 1, none⟩ (.slice none 0 0)).setCell ⟨pb, 2, none⟩ (.slice none 0 0)).setCell ⟨pb, 3, none⟩ (.int .i64 0)).setCell ⟨eb, 0, none⟩ (encE (mkAt e 60))) :=
    (((((Below.refl _ w).setCell (p := ⟨pb, 0, none⟩) (Nat.min_le_left _ _) _).setCell (p := ⟨pb, 1, none⟩) (Nat.min_le_left _ _) _).setCell (p := ⟨pb, 2, none⟩) (Nat.min_le_left _ _) _).setCell (p := ⟨pb, 3, none⟩) (Nat.min_le_left _ _) _).setCell (p := ⟨eb, 0, none⟩) (Nat.min_le_right _ _) _
  exact ⟨rfl, _, rfl, .tuple #[], by simp [results, Tryz.results44], rfl, rfl, q1, q2, q3.drew⟩
/-- .. where the frame below returns. -/
theorem catch_idle (pb eb : Nat) (w : World) :
    CallsD Tryz.prog 44 #[.pointer (some ⟨pb, 0, none⟩), .pointer (some ⟨eb, 0, none⟩)] .returning w fun ev u' w' => ev = .returned (.tuple #[]) ∧ u' = .returning ∧ w' = w := by
  refine callsD_of_wpS Tryz.func44 rfl fun c₀ cs hu => ?_
  apply wpS_seq
  apply wpS_region
  simp [wpOpsS, go_sem, recoverD, hu, Tryz.ntmps44, Exit.thenS]
  refine wpS_of_wp ?_
  simp only [Array.replicate_succ, Array.replicate_zero, List.push_toArray, List.append_toArray, List.nil_append, List.cons_append, List.setIfInBounds_toArray, List.set_cons_zero, List.set_cons_succ]
  go_wp2
  exact ⟨rfl, .returning, by rw [← hu], .tuple #[], by simp [results, Tryz.results44], rfl, rfl, rfl⟩
end Go.Proofs.YtnodjijgeifejaaGreatDoor
