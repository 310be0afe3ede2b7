/- What a function hands back, out of temporaries and out of structs in memory: small laws. -/
import Derived.Test.YtnodjijgeifejaaGreatDoorBase
namespace Go.Proofs.YtnodjijgeifejaaGreatDoor
open Go.RowKit
set_option linter.unusedSimpArgs false
set_option linter.unusedVariables false

theorem heap_ite (w : World) (o : Obj) (n : Nat) : (w.alloc o).heap[n]? = if n = w.heap.size then some o else w.heap[n]? := by
  by_cases h : n = w.heap.size
  · rw [if_pos h]; exact heap_new' w o n h
  · rw [if_neg h]
    show (w.heap.push o)[n]? = _
    rw [Array.getElem?_push, if_neg h]
/-! ### What a function hands back, out of temporaries and out of structs in memory -/
def resSem (tmps : Array Value) : ResultVar → Sem Value := fun
  | .tmp t => pure (tmps.getD t undef)
  | .cell a t => do loadVar t (← asAddr (tmps.getD a undef))
def ResIs (P : Program) (w : World) (tmps : Array Value) (r : ResultVar) (v : Value) : Prop := (resSem tmps r).run P w = .ok v w
theorem res_tmp {P : Program} {w : World} {tmps : Array Value} {t : Tmp} {v : Value} (h : tmps.getD t undef = v) : ResIs P w tmps (.tmp t) v := by subst h; rfl
theorem res_cell {P : Program} {w : World} {tmps : Array Value} {p : Tmp} {T T' : TypeId} {b : Nat} {cs : Array Value} {fr : Nat × Nat} {d : TypeDesc} (hp : tmps.getD p undef = .pointer (some ⟨b, 0, none⟩))
    (hg : w.heap[b]? = some (.cells cs T' fr)) (hu : P.underlying T = some d) (hd : (match d with | .struct _ | .array _ _ => true | _ => false) = true) (hi : (P.info? T).map (·.size) = some cs.size) :
    ResIs P w tmps (.cell p T) (.agg cs) := by
  unfold ResIs resSem
  simp only [hp, Sem.run_bind]
  have ha : (asAddr (.pointer (some ⟨b, 0, none⟩))).run P w = .ok ⟨b, 0, none⟩ w := rfl
  rw [ha]
  exact run_loadVar_row w b T' T cs fr d hg hu hd hi
theorem results_one {P : Program} {w : World} {fn : Func} {tmps : Array Value} {r : ResultVar} {v : Value} (h : fn.results = #[r]) (h0 : ResIs P w tmps r v) : (results fn tmps).run P w = .ok v w := by
  have e : results fn tmps = (do let vs ← fn.results.mapM (resSem tmps); pure (if h : vs.size = 1 then vs[0] else .tuple vs)) := rfl
  unfold ResIs at h0
  rw [e, h]
  simp [h0, Result.andThen]
theorem results_two {P : Program} {w : World} {fn : Func} {tmps : Array Value} {r0 r1 : ResultVar} {v0 v1 : Value} (h : fn.results = #[r0, r1]) (h0 : ResIs P w tmps r0 v0) (h1 : ResIs P w tmps r1 v1) :
    (results fn tmps).run P w = .ok (.tuple #[v0, v1]) w := by
  have e : results fn tmps = (do let vs ← fn.results.mapM (resSem tmps); pure (if h : vs.size = 1 then vs[0] else .tuple vs)) := rfl
  unfold ResIs at h0 h1
  rw [e, h]
  simp [h0, h1, Result.andThen]
theorem results_three {P : Program} {w : World} {fn : Func} {tmps : Array Value} {r0 r1 r2 : ResultVar} {v0 v1 v2 : Value} (h : fn.results = #[r0, r1, r2]) (h0 : ResIs P w tmps r0 v0) (h1 : ResIs P w tmps r1 v1) (h2 : ResIs P w tmps r2 v2) :
    (results fn tmps).run P w = .ok (.tuple #[v0, v1, v2]) w := by
  have e : results fn tmps = (do let vs ← fn.results.mapM (resSem tmps); pure (if h : vs.size = 1 then vs[0] else .tuple vs)) := rfl
  unfold ResIs at h0 h1 h2
  rw [e, h]
  simp [h0, h1, h2, Result.andThen]
theorem bad_blk {w : World} {b : Nat} {x0 x1 x2 x3 x4 : Value} {T : TypeId} {fr : Nat × Nat} (h : w.heap[b]? = some (.cells #[x0, x1, x2, x3, x4] T fr)) (v0 v1 v2 v3 v4 : Value) :
    (((((w.setCell ⟨b, 0, none⟩ v0).setCell ⟨b, 1, none⟩ v1).setCell ⟨b, 2, none⟩ v2).setCell ⟨b, 3, none⟩ v3).setCell ⟨b, 4, none⟩ v4).heap[b]? = some (.cells #[v0, v1, v2, v3, v4] T fr) := by
  have := blk_set' (blk_set' (blk_set' (blk_set' (blk_set' h 0 v0) 1 v1) 2 v2) 3 v3) 4 v4
  simpa using this
theorem below_bad {B b : Nat} {w0 w : World} (h : Below B w0 w) (hb : B ≤ b) (v0 v1 v2 v3 v4 : Value) :
    Below B w0 (((((w.setCell ⟨b, 0, none⟩ v0).setCell ⟨b, 1, none⟩ v1).setCell ⟨b, 2, none⟩ v2).setCell ⟨b, 3, none⟩ v3).setCell ⟨b, 4, none⟩ v4) :=
  ((((h.setCell hb _).setCell hb _).setCell hb _).setCell hb _).setCell hb _
/-- One block is kept. -/
structure K1 (b : Nat) (o : Obj) (w0 w : World) : Prop where
  B : Below w0.heap.size w0 w
  blk : w.heap[b]? = some o
theorem K1.next {b : Nat} {o : Obj} {w0 w w' : World} (s : K1 b o w0 w) (h : Below w.heap.size w w') : K1 b o w0 w' := ⟨s.B.trans (h.mono s.B.size), below_blk h (blk_lt' s.blk) s.blk⟩
theorem K1.first (o : Obj) (w : World) : K1 w.heap.size o w (w.alloc o) := ⟨(Below.refl _ _).alloc (Nat.le_refl _) _, heap_alloc_new w o⟩
end Go.Proofs.YtnodjijgeifejaaGreatDoor
