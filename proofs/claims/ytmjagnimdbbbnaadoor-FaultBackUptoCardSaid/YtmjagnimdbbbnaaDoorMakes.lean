/- FaultMakes: for every number, place and index the call returns true. -/
import Derived.Test.YtmjagnimdbbbnaaDoorSame
import Derived.Test.YtmjagnimdbbbnaaDoorNames
namespace Go.Proofs.YtmjagnimdbbbnaaDoor
open Go.RowKit
set_option linter.unusedSimpArgs false
set_option linter.unusedVariables false

theorem print_nil (w : World) : Calls Tryd.prog 15 #[.nilIface] w fun ev w' => ev = .returned (.string ⟨#[111, 107]⟩) ∧ Below w.heap.size w w' := by
  go_enter Tryd.func15, Tryd.ntmps15
  go_wp2_with (go_at_call 24; refine (fault_Name_known 0 ⟨#[111, 107]⟩ (by decide) _).mono ?_; rintro ev w' ⟨rfl, hB⟩)
  go_ret
  exact ⟨rfl, hB⟩

set_option maxRecDepth 100000 in
set_option maxHeartbeats 1000000 in
theorem live_true (w : World) (hg : HG w) : Calls Tryd.prog 13 #[] w fun ev w' => ev = .returned (.bool true) ∧ Below w.heap.size w w' := by
  go_enter Tryd.func13, Tryd.ntmps13
  go_wp2_with fail
  refine (fault_At 7 140 _).mono ?_
  rintro ev w1 ⟨rfl, hB1⟩
  have hg1 := hg.below hB1
  go_wp2_with fail
  refine (weirref01_At 7 140 _).mono ?_
  rintro ev w2 ⟨rfl, hB2⟩
  have hg2 := hg1.below hB2
  go_wp2_with fail
  refine (weirboth_Same _ _ _ hg2).mono ?_
  rintro ev w3 ⟨rfl, hB3⟩
  have hg3 := hg2.below hB3
  have hs : same (mkAt 7 140) (refAt 7 140) = true := by decide
  rw [hs]
  clear hs
  have hB3' : Below w.heap.size w w3 := hB1.trans ((hB2.mono hB1.size).trans (hB3.mono (Nat.le_trans hB1.size hB2.size)))
  have H3 := Lib.hid hB3'
  have G3 := Lib.hid hg3
  clear hB1 hB2 hB3 hg hg1 hg2 hg3 hB3'
  go_wp2_with fail
  refine (fault_New 3 _).mono ?_
  rintro ev w4 ⟨rfl, rfl⟩
  go_wp2_with fail
  refine (fault_Code _ _ G3.out).mono ?_
  rintro ev w5 ⟨rfl, hB5⟩
  have hc : codeOf (mkE 3) = 3 := by decide
  rw [hc]
  clear hc
  have H5 := Lib.hid (H3.out.trans (hB5.mono H3.out.size))
  clear hB5
  go_wp2_with fail
  refine (print_nil _).mono ?_
  rintro ev w6 ⟨rfl, hB6⟩
  have H6 := Lib.hid (H5.out.trans (hB6.mono H5.out.size))
  clear hB6
  go_wp2
  go_ret
  exact ⟨rfl, H6.out⟩
theorem same_refl_New (e : Int) : same (mkE e) (refNew e) = true := by
  by_cases h : e = 0 <;> simp [same, mkE, refNew, h, Er.code?, Er.at?, Er.in?]
theorem same_refl_At (p e : Int) : same (mkAt p e) (refAt p e) = true := by
  by_cases h : e = 0 <;> simp [same, mkAt, refAt, Bad.nil, h, Er.code?, Er.at?, Er.in?, atPos]
theorem same_refl_InNew (i e : Int) : same (mkIn i (mkE e)) (refIn i (refNew e)) = true := by
  by_cases h : e = 0 <;> simp [same, mkIn, mkE, refIn, refNew, Bad.nil, h, Er.code?, Er.at?, Er.in?, inPos]
theorem same_refl_InAt (i p e : Int) : same (mkIn i (mkAt p e)) (refIn i (refAt p e)) = true := by
  by_cases h : e = 0 <;> simp [same, mkIn, mkAt, refIn, refAt, Bad.nil, h, Er.code?, Er.at?, Er.in?, inPos, atPos]
theorem same_refl_InIn (i p e : Int) : same (mkIn i (mkIn p (mkE e))) (refIn i (refNew e)) = true := by
  by_cases h : e = 0 <;> simp [same, mkIn, mkE, refIn, refNew, Bad.nil, h, Er.code?, Er.at?, Er.in?, inPos]

set_option maxRecDepth 100000 in
set_option maxHeartbeats 400000 in
theorem makes_true (e pos index : Int) (w : World) (hg : HG w) : Calls Tryd.prog 5 #[.int .i64 e, .int .i64 pos, .int .i64 index] w fun ev w' => ev = .returned (.bool true) ∧ Below w.heap.size w w' := by
  have st : St w w := .start hg
  have s1 := same_refl_New e
  have s2 := same_refl_At pos e
  have s3 := same_refl_InNew index e
  have s4 := same_refl_InAt index pos e
  have s5 := same_refl_InIn index pos e
  have s6 : ∀ i, encE (mkIn i none) = .nilIface := fun _ => rfl
  clear hg
  go_enter Tryd.func5, Tryd.ntmps5
  go_wp2_with fail
  refine (live_true _ st.G).mono ?_
  rintro ev w' ⟨rfl, hB⟩
  replace st := st.next hB
  clear hB
  go_wp2_with fail
  refine (fault_New e _).mono ?_
  rintro ev w' ⟨rfl, rfl⟩
  go_wp2_with fail
  refine (weirref01_New e _).mono ?_
  rintro ev w' ⟨rfl, hB⟩
  replace st := st.next hB
  clear hB
  go_wp2_with fail
  refine (weirboth_Same (mkE e) (refNew e) _ st.G).mono ?_
  rintro ev w' ⟨rfl, hB⟩
  replace st := st.next hB
  clear hB
  go_wp2_with fail
  refine (fault_At pos e _).mono ?_
  rintro ev w' ⟨rfl, hB⟩
  replace st := st.next hB
  clear hB
  go_wp2_with fail
  refine (weirref01_At pos e _).mono ?_
  rintro ev w' ⟨rfl, hB⟩
  replace st := st.next hB
  clear hB
  go_wp2_with fail
  refine (weirboth_Same (mkAt pos e) (refAt pos e) _ st.G).mono ?_
  rintro ev w' ⟨rfl, hB⟩
  replace st := st.next hB
  clear hB
  go_wp2_with fail
  refine (fault_New e _).mono ?_
  rintro ev w' ⟨rfl, rfl⟩
  go_wp2_with fail
  refine (fault_In index (mkE e) _).mono ?_
  rintro ev w' ⟨rfl, hB⟩
  replace st := st.next hB
  clear hB
  go_wp2_with fail
  refine (weirref01_New e _).mono ?_
  rintro ev w' ⟨rfl, hB⟩
  replace st := st.next hB
  clear hB
  go_wp2_with fail
  refine (weirref01_In index (refNew e) _).mono ?_
  rintro ev w' ⟨rfl, hB⟩
  replace st := st.next hB
  clear hB
  go_wp2_with fail
  refine (weirboth_Same (mkIn index (mkE e)) (refIn index (refNew e)) _ st.G).mono ?_
  rintro ev w' ⟨rfl, hB⟩
  replace st := st.next hB
  clear hB
  go_wp2_with fail
  refine (fault_At pos e _).mono ?_
  rintro ev w' ⟨rfl, hB⟩
  replace st := st.next hB
  clear hB
  go_wp2_with fail
  refine (fault_In index (mkAt pos e) _).mono ?_
  rintro ev w' ⟨rfl, hB⟩
  replace st := st.next hB
  clear hB
  go_wp2_with fail
  refine (weirref01_At pos e _).mono ?_
  rintro ev w' ⟨rfl, hB⟩
  replace st := st.next hB
  clear hB
  go_wp2_with fail
  refine (weirref01_In index (refAt pos e) _).mono ?_
  rintro ev w' ⟨rfl, hB⟩
  replace st := st.next hB
  clear hB
  go_wp2_with fail
  refine (weirboth_Same (mkIn index (mkAt pos e)) (refIn index (refAt pos e)) _ st.G).mono ?_
  rintro ev w' ⟨rfl, hB⟩
  replace st := st.next hB
  clear hB
  go_wp2_with fail
  refine (fault_New e _).mono ?_
  rintro ev w' ⟨rfl, rfl⟩
  go_wp2_with fail
  refine (fault_In pos (mkE e) _).mono ?_
  rintro ev w' ⟨rfl, hB⟩
  replace st := st.next hB
  clear hB
  go_wp2_with fail
  refine (fault_In index (mkIn pos (mkE e)) _).mono ?_
  rintro ev w' ⟨rfl, hB⟩
  replace st := st.next hB
  clear hB
  go_wp2_with fail
  refine (weirref01_New e _).mono ?_
  rintro ev w' ⟨rfl, hB⟩
  replace st := st.next hB
  clear hB
  go_wp2_with fail
  refine (weirref01_In index (refNew e) _).mono ?_
  rintro ev w' ⟨rfl, hB⟩
  replace st := st.next hB
  clear hB
  go_wp2_with fail
  refine (weirboth_Same (mkIn index (mkIn pos (mkE e))) (refIn index (refNew e)) _ st.G).mono ?_
  rintro ev w' ⟨rfl, hB⟩
  replace st := st.next hB
  clear hB
  go_wp2_with fail
  refine (fault_In index none _).mono ?_
  rintro ev w' ⟨rfl, hB⟩
  replace st := st.next hB
  clear hB
  go_wp2
  go_ret
  exact ⟨rfl, st.B⟩
end Go.Proofs.YtmjagnimdbbbnaaDoor
