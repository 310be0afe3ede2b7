/- FaultNames: for every number the call returns true. -/
import Derived.Test.YtmjagnimdbbbnaaDoorFound
import Derived.Test.YtmjagnimdbbbnaaDoorMakes
namespace Go.Proofs.YtmjagnimdbbbnaaDoor
open Go.RowKit
set_option linter.unusedSimpArgs false
set_option linter.unusedVariables false

set_option maxRecDepth 100000 in
set_option maxHeartbeats 4000000 in
theorem names_true (e : Int) (w : World) (L : LayS w) (h : I64 e) : Calls Tryd.prog 6 #[.int .i64 e] w fun ev w' => ev = .returned (.bool true) ∧ Below w.heap.size w w' := by
  have st := Sq.start L
  have hz : (nameP e).size ≤ 281474976710656 := Nat.le_trans (nameP_size e h) (by omega)
  have C1 := Lib.hid (fun w L => fault_Find (nameP e) hz w L)
  have hf := find_name e h
  have hE : findE (nameP e) = none := by unfold findE; rw [hf]; rfl
  rw [hf, hE, show encE none = .nilIface from rfl] at C1
  have N1 := Lib.hid (fun w L => fault_Name e h.1 h.2 w L)
  have N2 := Lib.hid (fun w L => ref_Name e h.1 h.2 w L)
  generalize nameP e = nm at C1 N1 N2
  clear hf hE hz L h
  go_enter Tryd.func6, Tryd.ntmps6
  go_wp2_with fail
  refine (N1.out _ st.L.L).mono ?_
  rintro ev w' ⟨rfl, hB⟩
  replace st := st.next hB
  clear hB
  go_wp2_with fail
  refine (C1.out _ st.L).mono ?_
  rintro ev w' ⟨rfl, hB⟩
  replace st := st.next hB
  clear hB
  go_wp2_with fail
  refine (live_true _ st.L.L.hg).mono ?_
  rintro ev w' ⟨rfl, hB⟩
  replace st := st.next hB
  clear hB
  go_wp2_with fail
  refine (N2.out _ st.L.L).mono ?_
  rintro ev w' ⟨rfl, hB⟩
  replace st := st.next hB
  clear hB
  go_wp2

  go_ret
  exact ⟨by simp, st.B⟩
end Go.Proofs.YtmjagnimdbbbnaaDoor
