/- fault.Parse, by contracts. -/
import Derived.Test.YtmjagnimdbbbnaaDoorFlead
namespace Go.Proofs.YtmjagnimdbbbnaaDoor
open Go.RowKit
set_option linter.unusedSimpArgs false
set_option linter.unusedVariables false

theorem leadV_eq (s : ByteArray) (l : Option (Int × ByteArray)) : leadV s l = .tuple #[.int .i64 (num1 l), .string (rest1 s l), .bool l.isSome] := by cases l <;> rfl
theorem rest1_size (s p : ByteArray) : (rest1 s (leadF s p)).size ≤ s.size := by
  cases h : leadF s p with
  | none => exact Nat.le_refl _
  | some q =>
    have := (lead_back (v := q.1) (r := q.2) h).2
    show q.2.size ≤ s.size
    rw [this]
    simp only [ByteArray.size_append]
    omega
def toldOf (b : Bad) : Option Er := if b.numbered = true then mkIn b.in_ (if b.placed = true then mkAt b.at_ b.code else mkE b.code) else (if b.placed = true then mkAt b.at_ b.code else mkE b.code)
def ansP (F : Int × Bool) (p i : Int) (pl nb : Bool) : Option Er × Option Er := if F.2 = true ∧ F.1 ≠ 0 then (toldOf ⟨F.1, p, i, pl, nb⟩, none) else (none, mkE 31)
def ansF (s : ByteArray) : Option Er × Option Er := if s = okW then (none, none) else match parseF s with | some b => (toldOf b, none) | none => (none, mkE 31)
theorem ansF_eq {s : ByteArray} (h : ¬ s = okW) : ansF s = ansP (findP (tailBy leadF s)) (num1 (leadF (rest1 s (leadF s numWord)) atWord)) (num1 (leadF s numWord)) (leadF (rest1 s (leadF s numWord)) atWord).isSome (leadF s numWord).isSome := by
  unfold ansF ansP
  rw [if_neg h]
  by_cases hc : (findP (tailBy leadF s)).2 = true ∧ (findP (tailBy leadF s)).1 ≠ 0
  · have e : parseF s = some (badBy leadF s) := if_pos (show okBy leadF s from hc)
    rw [e, if_pos hc]
    rfl
  · have e : parseF s = none := if_neg (show ¬ okBy leadF s from hc)
    rw [e, if_neg hc]

set_option maxRecDepth 100000 in
set_option maxHeartbeats 1000000 in
theorem fault_Parse (s : ByteArray) (hs : s.size < 4294967281) (w : World) (L : LayM w) :
    Calls Tryd.prog 28 #[.string s] w fun ev w' => ev = .returned (.tuple #[encE (ansF s).1, encE (ansF s).2]) ∧ Below w.heap.size w w' := by
  have st := Sq.start L
  clear L
  have hN := fault_Name 0 (by omega) (by omega)
  rw [nameP_zero] at hN
  have HN := Lib.hid hN
  clear hN
  by_cases h0 : s = okW
  · have e : ansF s = (none, none) := by rw [ansF, if_pos h0]
    rw [e]
    have hq : (s.toList == [111, 107]) = true := by rw [h0]; simp [okW, Lib.toList_data]
    clear e h0
    go_enter Tryd.func28, Tryd.ntmps28
    go_wp2_with fail
    refine (HN.out _ st.L.S.L).mono ?_
    rintro ev w' ⟨rfl, hB⟩
    replace st := st.next hB
    clear hB HN
    go_wp2
    go_ret2
    exact ⟨rfl, st.B⟩
  have hA := ansF_eq h0
  have hq : (s.toList == [111, 107]) = false := by have := str_other h0; simpa [okW, Lib.toList_data] using this
  generalize ansF s = A at hA ⊢
  have e1 : leadV s (leadF s (numberW ++ spW)) = .tuple #[.int .i64 (num1 (leadF s numWord)), .string (rest1 s (leadF s numWord)), .bool (leadF s numWord).isSome] := leadV_eq _ _
  have e2 : leadV (rest1 s (leadF s numWord)) (leadF (rest1 s (leadF s numWord)) (atW ++ spW)) = .tuple #[.int .i64 (num1 (leadF (rest1 s (leadF s numWord)) atWord)), .string (tailBy leadF s), .bool (leadF (rest1 s (leadF s numWord)) atWord).isSome] := leadV_eq _ _
  have z1 := rest1_size s numWord
  have z2 : (tailBy leadF s).size ≤ (rest1 s (leadF s numWord)).size := rest1_size _ _
  have L1 := fun w L => fault_lead s numberW hs (by decide) w L
  have L2 := fun w L => fault_lead (rest1 s (leadF s numWord)) atW (by omega) (by decide) w L
  have FD := fun w L => fault_Find (tailBy leadF s) (by omega) w L
  rw [e1] at L1
  rw [e2] at L2
  have e3 : findE (tailBy leadF s) = if (findP (tailBy leadF s)).2 = true then none else mkE 4 := rfl
  rw [e3] at FD
  clear e1 e2 e3 z1 z2 h0
  generalize findP (tailBy leadF s) = F at hA FD
  generalize tailBy leadF s = r2 at L2 FD
  generalize num1 (leadF (rest1 s (leadF s numWord)) atWord) = p at hA L2
  generalize (leadF (rest1 s (leadF s numWord)) atWord).isSome = pl at hA L2
  generalize rest1 s (leadF s numWord) = r1 at L1 L2
  generalize num1 (leadF s numWord) = i at hA L1
  generalize (leadF s numWord).isSome = nb at hA L1
  obtain ⟨c, fb⟩ := F
  simp only at FD
  generalize hE1 : encE A.1 = E1
  generalize hE2 : encE A.2 = E2
  rw [hA] at hE1 hE2
  have H1 := Lib.hid hE1
  have H2 := Lib.hid hE2
  have HL1 := Lib.hid L1
  have HL2 := Lib.hid L2
  have HFD := Lib.hid FD
  clear hE1 hE2 L1 L2 FD hA
  unfold numberW at HL1
  unfold atW at HL2
  go_enter Tryd.func28, Tryd.ntmps28
  go_wp2_with fail
  refine (HN.out _ st.L.S.L).mono ?_
  rintro ev w' ⟨rfl, hB⟩
  replace st := st.next hB
  clear hB HN
  go_wp2_with fail
  refine (HL1.out _ st.L).mono ?_
  rintro ev w' ⟨rfl, hB⟩
  replace st := st.next hB
  clear hB HL1
  go_wp2_with fail
  refine (HL2.out _ st.L).mono ?_
  rintro ev w' ⟨rfl, hB⟩
  replace st := st.next hB
  clear hB HL2
  go_wp2_with fail
  refine (HFD.out _ st.L.S).mono ?_
  rintro ev w' ⟨rfl, hB⟩
  replace st := st.next hB
  clear hB HFD
  cases fb with
  | false =>
    rw [show encE (if false = true then none else mkE 4) = .iface 22 (.int .i64 4) from rfl]
    go_wp2_with fail
    refine (fault_New 31 _).mono ?_
    rintro ev w' ⟨rfl, rfl⟩
    go_wp2
    go_ret2
    exact ⟨by rw [← H1.out, ← H2.out, ansP, if_neg (fun h => by cases h.1)]; rfl, st.B⟩
  | true =>
    rw [show encE (if true = true then none else mkE 4) = .nilIface from rfl]
    by_cases hc : c = 0
    · subst hc
      go_wp2_with fail
      refine (fault_New 31 _).mono ?_
      rintro ev w' ⟨rfl, rfl⟩
      go_wp2
      go_ret2
      exact ⟨by rw [← H1.out, ← H2.out, ansP, if_neg (fun h => h.2 rfl)]; rfl, st.B⟩
    · have hc' : (c == 0) = false := by simpa using hc
      have HCC := Lib.hid hc
      clear hc
      go_wp2_with fail
      refine (fault_New c _).mono ?_
      rintro ev w' ⟨rfl, rfl⟩
      cases pl with
      | false =>
        cases nb with
        | false =>
          go_wp2
          go_ret2
          exact ⟨by rw [← H1.out, ← H2.out, ansP, if_pos ⟨rfl, HCC.out⟩]; rfl, st.B⟩
        | true =>
          go_wp2_with fail
          refine (fault_In i (mkE c) _).mono ?_
          rintro ev w' ⟨rfl, hB⟩
          replace st := st.next hB
          clear hB
          go_wp2
          go_ret2
          exact ⟨by rw [← H1.out, ← H2.out, ansP, if_pos ⟨rfl, HCC.out⟩]; rfl, st.B⟩
      | true =>
        go_wp2_with fail
        refine (fault_At p c _).mono ?_
        rintro ev w' ⟨rfl, hB⟩
        replace st := st.next hB
        clear hB
        cases nb with
        | false =>
          go_wp2
          go_ret2
          exact ⟨by rw [← H1.out, ← H2.out, ansP, if_pos ⟨rfl, HCC.out⟩]; rfl, st.B⟩
        | true =>
          go_wp2_with fail
          refine (fault_In i (mkAt p c) _).mono ?_
          rintro ev w' ⟨rfl, hB⟩
          replace st := st.next hB
          clear hB
          go_wp2
          go_ret2
          exact ⟨by rw [← H1.out, ← H2.out, ansP, if_pos ⟨rfl, HCC.out⟩]; rfl, st.B⟩
end Go.Proofs.YtmjagnimdbbbnaaDoor
