/- fault.lead and fault.Parse, by contracts. -/
import Derived.Test.YtmjagnimdbbbnaaDoorParsed
namespace Go.Proofs.YtmjagnimdbbbnaaDoor
open Go.RowKit
set_option linter.unusedSimpArgs false
set_option linter.unusedVariables false

/-- What a call of lead hands back. -/
def leadV (s : ByteArray) (l : Option (Int × ByteArray)) : Value := match l with | some q => .tuple #[.int .i64 q.1, .string q.2, .bool true] | none => .tuple #[.int .i64 0, .string s, .bool false]

set_option maxRecDepth 100000 in
set_option maxHeartbeats 1000000 in
theorem fault_lead (s wd : ByteArray) (hs : s.size < 4294967281) (hw : wd.size ≤ 100) (w : World) (L : LayM w) :
    Calls Tryd.prog 38 #[.string s, .string wd] w fun ev w' => ev = .returned (leadV s (leadF s (wd ++ spW))) ∧ Below w.heap.size w w' := by
  have st := Sq.start L
  clear L
  generalize hV : leadV s (leadF s (wd ++ spW)) = V
  have h1 : spW.size = 1 := rfl
  have CP : ∀ w, Calls Tryd.prog 35 #[.string s, .string (wd ++ ⟨#[32]⟩)] w fun ev w' => ev = .returned (.tuple #[.string ⟨(Lib.trimPrefix s.data.toList (wd ++ spW).data.toList).toArray⟩, .bool (Lib.hasPrefix s.data.toList (wd ++ spW).data.toList)]) ∧ w = w' := strings_CutPrefix s (wd ++ spW)
  have ht : (⟨(Lib.trimPrefix s.data.toList (wd ++ spW).data.toList).toArray⟩ : ByteArray).size ≤ s.size := by
    show (Lib.trimPrefix s.data.toList (wd ++ spW).data.toList).length ≤ s.data.toList.length
    unfold Lib.trimPrefix
    split
    · rw [List.length_drop]; omega
    · exact Nat.le_refl _
  unfold leadF at hV
  generalize hT : (⟨(Lib.trimPrefix s.data.toList (wd ++ spW).data.toList).toArray⟩ : ByteArray) = T at CP ht
  have hT' : Lib.trimPrefix s.data.toList (wd ++ spW).data.toList = T.data.toList := by rw [← hT]
  rw [hT'] at hV
  generalize Lib.hasPrefix s.data.toList (wd ++ spW).data.toList = hp at hV CP
  have CC : ∀ w, LayM w → Calls Tryd.prog 48 #[.string T, .string ⟨#[58, 32]⟩] w _ := fun w L => strings_Cut T colonWord (by omega) w L
  have hcl : (⟨(Lib.cut T.data.toList [58, 32]).1.toArray⟩ : ByteArray).size ≤ T.size := by
    show (Lib.cut T.data.toList [58, 32]).1.length ≤ T.data.toList.length
    unfold Lib.cut
    split
    · show (List.take _ _).length ≤ _
      rw [List.length_take]; omega
    · exact Nat.le_refl _
  have CC' : ∀ w, LayM w → Calls Tryd.prog 48 #[.string T, .string ⟨#[58, 32]⟩] w fun ev w' => ev = .returned (.tuple #[.string ⟨(Lib.cut T.data.toList [58, 32]).1.toArray⟩, .string ⟨(Lib.cut T.data.toList [58, 32]).2.1.toArray⟩, .bool (Lib.cut T.data.toList [58, 32]).2.2]) ∧ Below w.heap.size w w' := CC
  clear CC
  generalize (⟨(Lib.cut T.data.toList [58, 32]).1.toArray⟩ : ByteArray) = d at hV hcl CC'
  generalize (⟨(Lib.cut T.data.toList [58, 32]).2.1.toArray⟩ : ByteArray) = r at hV CC'
  generalize (Lib.cut T.data.toList [58, 32]).2.2 = ok at hV CC'
  have AT := fun w L => strconv_Atoi d (by omega) w L
  have hvI := atoiV_all d
  generalize atoiV d = P at hV AT hvI
  obtain ⟨v, vb⟩ := P
  simp only at hV hvI
  have HV := Lib.hid hV
  have HC := Lib.hid CC'
  have HA := Lib.hid AT
  have HI := Lib.hid hvI
  have hsz := itoa_size v hvI.1 hvI.2
  clear hV CC' AT hvI hT hT' ht hcl
  go_enter Tryd.func38, Tryd.ntmps38
  go_wp2_with fail
  refine (CP _).mono ?_
  rintro ev w' ⟨rfl, rfl⟩
  clear CP
  cases hp with
  | false =>
    go_wp2
    go_ret3
    exact ⟨by rw [← HV.out]; rfl, st.B⟩
  | true =>
    go_wp2_with fail
    refine (HC.out _ st.L).mono ?_
    rintro ev w' ⟨rfl, hB⟩
    replace st := st.next hB
    clear hB
    go_wp2_with fail
    refine (HA.out _ st.L.S).mono ?_
    rintro ev w' ⟨e, rfl, he, hB⟩
    replace st := st.next hB
    clear hB
    cases ok with
    | false =>
      have he' : e = .nilIface ∨ ∃ q, e = .iface 123 q := by
        cases vb
        · exact Or.inr (by simpa using he)
        · exact Or.inl (by simpa using he)
      clear he
      rcases he' with rfl | ⟨q, rfl⟩
      · go_wp2
        go_ret3
        exact ⟨by rw [← HV.out]; simp [leadV], st.B⟩
      · go_wp2
        go_ret3
        exact ⟨by rw [← HV.out]; simp [leadV], st.B⟩
    | true =>
      cases vb with
      | false =>
        obtain ⟨q, rfl⟩ : ∃ q, e = .iface 123 q := by simpa using he
        clear he
        go_wp2
        go_ret3
        exact ⟨by rw [← HV.out]; simp [leadV], st.B⟩
      | true =>
        obtain rfl : e = .nilIface := by simpa using he
        clear he
        go_wp2_with fail
        refine (strconv_Itoa v HI.out.1 HI.out.2 _ st.L.S.L).mono ?_
        rintro ev w' ⟨rfl, hB⟩
        replace st := st.next hB
        clear hB
        by_cases hq : itoa v = d
        · have HQ := Lib.hid hq
          have hq' : ((itoa v).toList == d.toList) = true := str_same hq
          clear hq
          go_wp2
          go_ret3
          exact ⟨by rw [← HV.out]; simp [leadV, HQ.out], st.B⟩
        · have HQ := Lib.hid hq
          have hq' : ((itoa v).toList == d.toList) = false := str_other hq
          clear hq
          go_wp2
          go_ret3
          exact ⟨by rw [← HV.out]; simp [leadV, HQ.out], st.B⟩
end Go.Proofs.YtmjagnimdbbbnaaDoor
