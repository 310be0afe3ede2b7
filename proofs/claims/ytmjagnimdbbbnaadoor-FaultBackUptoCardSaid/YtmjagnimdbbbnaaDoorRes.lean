/- What a function hands back, out of temporaries and out of structs in memory: small laws. -/
import Derived.Test.YtmjagnimdbbbnaaDoorBase
namespace Go.Proofs.YtmjagnimdbbbnaaDoor
open Go.RowKit
set_option linter.unusedSimpArgs false
set_option linter.unusedVariables false

theorem heap_ite (w : World) (o : Obj) (n : Nat) : (w.alloc o).heap[n]? = if n = w.heap.size then some o else w.heap[n]? := by
  by_cases h : n = w.heap.size
  · rw [if_pos h]; exact heap_new' w o n h
  · rw [if_neg h]
    show (w.heap.push o)[n]? = _
    rw [Array.getElem?_push, if_neg h]
/-! ### What a function hands back, out of temporaries and out of structs in memory -/
def resSem (tmps : Array Value) : ResultVar → Sem Value := fun
  | .tmp t => pure (tmps.getD t undef)
  | .cell a t => do loadVar t (← asAddr (tmps.getD a undef))
def ResIs (P : Program) (w : World) (tmps : Array Value) (r : ResultVar) (v : Value) : Prop := (resSem tmps r).run P w = .ok v w
theorem res_tmp {P : Program} {w : World} {tmps : Array Value} {t : Tmp} {v : Value} (h : tmps.getD t undef = v) : ResIs P w tmps (.tmp t) v := by subst h; rfl
theorem res_cell {P : Program} {w : World} {tmps : Array Value} {p : Tmp} {T T' : TypeId} {b : Nat} {cs : Array Value} {fr : Nat × Nat} {d : TypeDesc} (hp : tmps.getD p undef = .pointer (some ⟨b, 0, none⟩))
    (hg : w.heap[b]? = some (.cells cs T' fr)) (hu : P.underlying T = some d) (hd : (match d with | .struct _ | .array _ _ => true | _ => false) = true) (hi : (P.info? T).map (·.size) = some cs.size) :
    ResIs P w tmps (.cell p T) (.agg cs) := by
  unfold ResIs resSem
  simp only [hp, Sem.run_bind]
  have ha : (asAddr (.pointer (some ⟨b, 0, none⟩))).run P w = .ok ⟨b, 0, none⟩ w := rfl
  rw [ha]
  exact run_loadVar_row w b T' T cs fr d hg hu hd hi
theorem results_one {P : Program} {w : World} {fn : Func} {tmps : Array Value} {r : ResultVar} {v : Value} (h : fn.results = #[r]) (h0 : ResIs P w tmps r v) : (results fn tmps).run P w = .ok v w := by
  have e : results fn tmps = (do let vs ← fn.results.mapM (resSem tmps); pure (if h : vs.size = 1 then vs[0] else .tuple vs)) := rfl
  unfold ResIs at h0
  rw [e, h]
  simp [h0, Result.andThen]
theorem results_two {P : Program} {w : World} {fn : Func} {tmps : Array Value} {r0 r1 : ResultVar} {v0 v1 : Value} (h : fn.results = #[r0, r1]) (h0 : ResIs P w tmps r0 v0) (h1 : ResIs P w tmps r1 v1) :
    (results fn tmps).run P w = .ok (.tuple #[v0, v1]) w := by
  have e : results fn tmps = (do let vs ← fn.results.mapM (resSem tmps); pure (if h : vs.size = 1 then vs[0] else .tuple vs)) := rfl
  unfold ResIs at h0 h1
  rw [e, h]
  simp [h0, h1, Result.andThen]
theorem results_three {P : Program} {w : World} {fn : Func} {tmps : Array Value} {r0 r1 r2 : ResultVar} {v0 v1 v2 : Value} (h : fn.results = #[r0, r1, r2]) (h0 : ResIs P w tmps r0 v0) (h1 : ResIs P w tmps r1 v1) (h2 : ResIs P w tmps r2 v2) :
    (results fn tmps).run P w = .ok (.tuple #[v0, v1, v2]) w := by
  have e : results fn tmps = (do let vs ← fn.results.mapM (resSem tmps); pure (if h : vs.size = 1 then vs[0] else .tuple vs)) := rfl
  unfold ResIs at h0 h1 h2
  rw [e, h]
  simp [h0, h1, h2, Result.andThen]
end Go.Proofs.YtmjagnimdbbbnaaDoor
