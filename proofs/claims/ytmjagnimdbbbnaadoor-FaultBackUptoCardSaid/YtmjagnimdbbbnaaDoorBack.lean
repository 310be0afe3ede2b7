/- FaultBack: what was made and printed is read, what is read is printed so: the call returns true (for a text below a size). -/
import Derived.Test.YtmjagnimdbbbnaaDoorParses
namespace Go.Proofs.YtmjagnimdbbbnaaDoor
open Go.RowKit
set_option linter.unusedSimpArgs false
set_option linter.unusedVariables false

def printO : Option Er → ByteArray
  | none => okW
  | some e => lineP (indexOf (some e)).2 (placeOf (some e)).2 (indexOf (some e)).1 (placeOf (some e)).1 (codeOf (some e))
structure FitO (o : Option Er) : Prop where
  c : I64 (codeOf o)
  a : I64 (placeOf o).1
  i : I64 (indexOf o).1
theorem told_says (b : Bad) (v : Valid b) : codeOf (toldOf b) = b.code ∧ placeOf (toldOf b) = (b.at_, b.placed) ∧ indexOf (toldOf b) = (b.in_, b.numbered) := by
  obtain ⟨c, a, i, p, n⟩ := b
  have h := v.code
  have h1 := v.a0
  have h2 := v.i0
  simp only at h h1 h2
  cases p <;> cases n <;> simp_all [toldOf, mkE, mkAt, mkIn, codeOf, placeOf, indexOf, Er.code?, Er.at?, Er.in?, atPos, inPos]
theorem told_some (b : Bad) (h : b.code ≠ 0) : ∃ e, toldOf b = some e := by
  obtain ⟨c, a, i, p, n⟩ := b
  simp only at h
  cases p <;> cases n <;> simp [toldOf, mkE, mkAt, mkIn, h]
theorem print_told (b : Bad) (v : Valid b) : printO (toldOf b) = lineOf b := by
  obtain ⟨e, he⟩ := told_some b v.code
  obtain ⟨h1, h2, h3⟩ := told_says b v
  rw [he] at h1 h2 h3 ⊢
  simp only [printO, h1, h2, h3]
  rfl
theorem fit_told (b : Bad) (v : Valid b) : FitO (toldOf b) := by
  obtain ⟨h1, h2, h3⟩ := told_says b v
  exact ⟨by rw [h1]; exact v.c, by rw [h2]; exact v.a, by rw [h3]; exact v.i⟩
theorem line_ne_ok (b : Bad) (v : Valid b) : lineOf b ≠ okW := by
  intro h
  have hb := back_by lawF b v
  rw [h] at hb
  have h2 := hb.2
  revert h2
  decide
theorem ans_line (b : Bad) (v : Valid b) : ansF (lineOf b) = (toldOf b, none) := by
  have hb := back_by lawF b v
  rw [ansF, if_neg (line_ne_ok b v)]
  have e : parseF (lineOf b) = some b := by rw [parseF, if_pos hb.2, hb.1]
  rw [e]
theorem line_size (b : Bad) (v : Valid b) : (lineOf b).size ≤ 100 := by
  have s0 := nameP_size _ v.c
  have s1 := itoa_size _ v.a.1 v.a.2
  have s2 := itoa_size _ v.i.1 v.i.2
  have n1 : numWord.size = 7 := rfl
  have n2 : atWord.size = 3 := rfl
  have n3 : colonWord.size = 2 := rfl
  have n4 : (⟨#[]⟩ : ByteArray).size = 0 := rfl
  have n5 : unknownWord.size = 7 := rfl
  unfold lineOf lineP leadP numP
  repeat' split
  all_goals simp only [ByteArray.size_append]
  all_goals omega
/-- What is made of a number, a place, an index. -/
def backE (e pos : Int) : Option Er := mkIn pos (mkAt pos e)
theorem back_valid {e pos : Int} (he : I64 e) (hp : I64 pos) (h0 : e ≠ 0) : Valid ⟨e, pos, pos, true, true⟩ := ⟨h0, he, hp, hp, fun h => (by cases h), fun h => (by cases h)⟩
theorem backE_zero (pos : Int) : backE 0 pos = none := rfl
theorem backE_told {e pos : Int} (h0 : e ≠ 0) : backE e pos = toldOf ⟨e, pos, pos, true, true⟩ := rfl
theorem back_made {e pos : Int} (he : I64 e) (hp : I64 pos) : ansF (printO (backE e pos)) = (backE e pos, none) ∧ (printO (backE e pos)).size ≤ 100 ∧ FitO (backE e pos) ∧ codeOf (backE e pos) = e ∧ placeOf (backE e pos) = (if e = 0 then (0, false) else (pos, true)) ∧ indexOf (backE e pos) = (if e = 0 then (0, false) else (pos, true)) := by
  by_cases h0 : e = 0
  · subst h0
    rw [backE_zero]
    exact ⟨by rw [printO, ansF, if_pos rfl], by decide, ⟨by simp [I64, codeOf], by simp [I64, placeOf], by simp [I64, indexOf]⟩, rfl, rfl, rfl⟩
  · have v := back_valid he hp h0
    rw [backE_told h0, print_told _ v, if_neg h0]
    exact ⟨ans_line _ v, line_size _ v, fit_told _ v, told_says _ v⟩
/-- What a text says is printed so. -/
theorem ans_back (s : ByteArray) : FitO (ansF s).1 ∧ ((ansF s).2 = none ∧ printO (ansF s).1 = s ∨ (ansF s).2 = mkE 31) := by
  unfold ansF
  have f0 : FitO none := ⟨by simp [I64, codeOf], by simp [I64, placeOf], by simp [I64, indexOf]⟩
  by_cases h0 : s = okW
  · rw [if_pos h0]
    exact ⟨f0, .inl ⟨rfl, h0.symm⟩⟩
  · rw [if_neg h0]
    by_cases h : okBy leadF s
    · have e : parseF s = some (badBy leadF s) := if_pos h
      have v := valid_by lawF h
      rw [e]
      exact ⟨fit_told _ v, .inl ⟨rfl, (print_told _ v).trans (line_back h)⟩⟩
    · have e : parseF s = none := if_neg h
      rw [e]
      exact ⟨f0, .inr rfl⟩

set_option maxHeartbeats 800000 in
theorem print_o (o : Option Er) (f : FitO o) (w : World) (L : Lay w) :
    Calls Tryd.prog 15 #[encE o] w fun ev w' => ev = .returned (.string (printO o)) ∧ Below w.heap.size w w' := by
  cases o with
  | some e => exact fault_Print e w L f.c f.a f.i
  | none =>
    have hN := fault_Name 0 (by omega) (by omega)
    rw [nameP_zero] at hN
    have HN := Lib.hid hN
    clear hN
    have st : Sl w w := Sq.start L
    clear L f
    unfold printO
    rw [show encE none = .nilIface from rfl]
    go_enter Tryd.func15, Tryd.ntmps15
    go_wp2_with fail
    refine (HN.out _ st.L).mono ?_
    rintro ev w' ⟨rfl, hB⟩
    replace st := st.next hB
    clear hB HN
    go_wp2
    go_ret
    exact ⟨rfl, st.B⟩

/-- The walk of FaultBack, over what its calls answer. -/
structure BackCalls (e pos : Int) (s : ByteArray) (E0 E1 X B : Value) (S1 : ByteArray) (p : Int) (b : Bool) : Prop where
  c1 : Hid (∀ w, Calls Tryd.prog 20 #[.int .i64 pos, .int .i64 e] w fun ev w' => ev = .returned E0 ∧ Below w.heap.size w w')
  c2 : Hid (∀ w, Calls Tryd.prog 22 #[.int .i64 pos, E0] w fun ev w' => ev = .returned E1 ∧ Below w.heap.size w w')
  c3 : Hid (∀ w, Lay w → Calls Tryd.prog 15 #[E1] w fun ev w' => ev = .returned (.string S1) ∧ Below w.heap.size w w')
  c4 : Hid (∀ w, LayM w → Calls Tryd.prog 28 #[.string S1] w fun ev w' => ev = .returned (.tuple #[E1, .nilIface]) ∧ Below w.heap.size w w')
  c5 : Hid (∀ w, HG w → Calls Tryd.prog 11 #[E1] w fun ev w' => ev = .returned (.tuple #[.int .i64 p, .bool b]) ∧ Below w.heap.size w w')
  c6 : Hid (∀ w, HG w → Calls Tryd.prog 12 #[E1] w fun ev w' => ev = .returned (.tuple #[.int .i64 p, .bool b]) ∧ Below w.heap.size w w')
  c7 : Hid (∀ w, HG w → Calls Tryd.prog 14 #[E1] w fun ev w' => ev = .returned (.int .i64 e) ∧ Below w.heap.size w w')
  c8 : Hid (∀ w, LayM w → Calls Tryd.prog 28 #[.string s] w fun ev w' => ev = .returned (.tuple #[X, B]) ∧ Below w.heap.size w w')
  c9 : Hid (B = .nilIface → ∀ w, Lay w → Calls Tryd.prog 15 #[X] w fun ev w' => ev = .returned (.string s) ∧ Below w.heap.size w w')
  bad : B = .nilIface ∨ B = .iface 22 (.int .i64 31)
theorem back_calls (e pos : Int) (s : ByteArray) (he : I64 e) (hp : I64 pos) (hs : s.size < 4294967281) :
    BackCalls e pos s (encE (mkAt pos e)) (encE (backE e pos)) (encE (ansF s).1) (encE (ansF s).2) (printO (backE e pos)) (if e = 0 then (0, false) else (pos, true) : Int × Bool).1 (if e = 0 then (0, false) else (pos, true) : Int × Bool).2 := by
  obtain ⟨m1, m2, m3, m4, m5, m6⟩ := back_made he hp
  obtain ⟨x1, x2⟩ := ans_back s
  refine ⟨fun w => fault_At pos e w, fun w => fault_In pos (mkAt pos e) w, fun w L => print_o _ m3 w L, fun w L => ?_, fun w L => ?_, fun w L => ?_, fun w L => ?_, fun w L => fault_Parse s hs w L, fun hB w L => ?_, ?_⟩
  · have h := fault_Parse (printO (backE e pos)) (by omega) w L
    rw [m1] at h
    exact h
  · have h := fault_Place (backE e pos) w L
    rw [m5] at h
    exact h
  · have h := fault_Index (backE e pos) w L
    rw [m6] at h
    exact h
  · have h := fault_Code (backE e pos) w L
    rw [m4] at h
    exact h
  · rcases x2 with ⟨h, hx⟩ | h
    · have h := print_o _ x1 w L
      rw [hx] at h
      exact h
    · rw [h] at hB
      cases hB
  · rcases x2 with ⟨h, _⟩ | h
    · exact .inl (by rw [h]; rfl)
    · exact .inr (by rw [h]; rfl)

set_option maxRecDepth 100000 in
set_option maxHeartbeats 800000 in
theorem back_walk_zero (pos : Int) (s : ByteArray) (E0 E1 X B : Value) (S1 : ByteArray) (C : BackCalls 0 pos s E0 E1 X B S1 0 false) (w : World) (L : LayM w) :
    Calls Tryd.prog 9 #[.int .i64 0, .int .i64 pos, .string s] w fun ev w' => ev = .returned (.bool true) ∧ Below w.heap.size w w' := by
  obtain ⟨C1, C2, C3, C4, C5, C6, C7, C8, C9, bad⟩ := C
  have st := Sq.start L
  clear L
  go_enter Tryd.func9, Tryd.ntmps9
  go_wp2_with fail
  refine (C1.out _).mono ?_
  rintro ev w1 ⟨rfl, hB⟩
  replace st := st.next hB
  clear hB C1
  go_wp2_with fail
  refine (C2.out _).mono ?_
  rintro ev w2 ⟨rfl, hB⟩
  replace st := st.next hB
  clear hB C2
  go_wp2_with fail
  refine (C3.out _ st.L.S.L).mono ?_
  rintro ev w3 ⟨rfl, hB⟩
  replace st := st.next hB
  clear hB C3
  go_wp2_with fail
  refine (C4.out _ st.L).mono ?_
  rintro ev w4 ⟨rfl, hB⟩
  replace st := st.next hB
  clear hB C4
  go_wp2_with fail
  refine (C5.out _ st.L.S.L.hg).mono ?_
  rintro ev w5 ⟨rfl, hB⟩
  replace st := st.next hB
  clear hB C5
  go_wp2_with fail
  refine (C6.out _ st.L.S.L.hg).mono ?_
  rintro ev w6 ⟨rfl, hB⟩
  replace st := st.next hB
  clear hB C6
  go_wp2_with fail
  refine (C7.out _ st.L.S.L.hg).mono ?_
  rintro ev w7 ⟨rfl, hB⟩
  replace st := st.next hB
  clear hB C7
  go_wp2_with fail
  refine (C8.out _ st.L).mono ?_
  rintro ev w8 ⟨rfl, hB⟩
  replace st := st.next hB
  clear hB C8
  go_wp2_with fail
  refine (live_true _ st.L.S.L.hg).mono ?_
  rintro ev w9 ⟨rfl, hB⟩
  replace st := st.next hB
  clear hB
  rcases bad with hb | hb
  · have C10 := Lib.hid (C9.out hb)
    clear C9
    subst hb
    go_wp2_with fail
    refine (C10.out _ st.L.S.L).mono ?_
    rintro ev w10 ⟨rfl, hB⟩
    replace st := st.next hB
    clear hB C10
    go_wp2
    go_ret
    exact ⟨by simp, st.B⟩
  · clear C9
    subst hb
    go_wp2
    go_ret
    exact ⟨by simp, st.B⟩
set_option maxRecDepth 100000 in
set_option maxHeartbeats 800000 in
theorem back_walk_some (e pos : Int) (s : ByteArray) (E0 E1 X B : Value) (S1 : ByteArray) (h0 : (e != 0) = true) (C : BackCalls e pos s E0 E1 X B S1 pos true) (w : World) (L : LayM w) :
    Calls Tryd.prog 9 #[.int .i64 e, .int .i64 pos, .string s] w fun ev w' => ev = .returned (.bool true) ∧ Below w.heap.size w w' := by
  obtain ⟨C1, C2, C3, C4, C5, C6, C7, C8, C9, bad⟩ := C
  have st := Sq.start L
  clear L
  go_enter Tryd.func9, Tryd.ntmps9
  go_wp2_with fail
  refine (C1.out _).mono ?_
  rintro ev w1 ⟨rfl, hB⟩
  replace st := st.next hB
  clear hB C1
  go_wp2_with fail
  refine (C2.out _).mono ?_
  rintro ev w2 ⟨rfl, hB⟩
  replace st := st.next hB
  clear hB C2
  go_wp2_with fail
  refine (C3.out _ st.L.S.L).mono ?_
  rintro ev w3 ⟨rfl, hB⟩
  replace st := st.next hB
  clear hB C3
  go_wp2_with fail
  refine (C4.out _ st.L).mono ?_
  rintro ev w4 ⟨rfl, hB⟩
  replace st := st.next hB
  clear hB C4
  go_wp2_with fail
  refine (C5.out _ st.L.S.L.hg).mono ?_
  rintro ev w5 ⟨rfl, hB⟩
  replace st := st.next hB
  clear hB C5
  go_wp2_with fail
  refine (C6.out _ st.L.S.L.hg).mono ?_
  rintro ev w6 ⟨rfl, hB⟩
  replace st := st.next hB
  clear hB C6
  go_wp2_with fail
  refine (C7.out _ st.L.S.L.hg).mono ?_
  rintro ev w7 ⟨rfl, hB⟩
  replace st := st.next hB
  clear hB C7
  go_wp2_with fail
  refine (C8.out _ st.L).mono ?_
  rintro ev w8 ⟨rfl, hB⟩
  replace st := st.next hB
  clear hB C8
  go_wp2_with fail
  refine (live_true _ st.L.S.L.hg).mono ?_
  rintro ev w9 ⟨rfl, hB⟩
  replace st := st.next hB
  clear hB
  rcases bad with hb | hb
  · have C10 := Lib.hid (C9.out hb)
    clear C9
    subst hb
    go_wp2_with fail
    refine (C10.out _ st.L.S.L).mono ?_
    rintro ev w10 ⟨rfl, hB⟩
    replace st := st.next hB
    clear hB C10
    go_wp2
    go_ret
    exact ⟨by simp, st.B⟩
  · clear C9
    subst hb
    go_wp2
    go_ret
    exact ⟨by simp, st.B⟩
theorem back_true (e pos : Int) (s : ByteArray) (w : World) (L : LayM w) (he : I64 e) (hp : I64 pos) (hs : s.size < 4294967281) :
    Calls Tryd.prog 9 #[.int .i64 e, .int .i64 pos, .string s] w fun ev w' => ev = .returned (.bool true) ∧ Below w.heap.size w w' := by
  have C := back_calls e pos s he hp hs
  by_cases h0 : e = 0
  · subst h0
    exact back_walk_zero pos s _ _ _ _ _ C w L
  · rw [if_neg h0] at C
    exact back_walk_some e pos s _ _ _ _ _ (by simpa using h0) C w L
end Go.Proofs.YtmjagnimdbbbnaaDoor
