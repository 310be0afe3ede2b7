/- fault.Print and weirref01.Print: an error's line. -/
import Derived.Test.YtmjagnimdbbbnaaDoorRname
namespace Go.Proofs.YtmjagnimdbbbnaaDoor
open Go.RowKit
set_option linter.unusedSimpArgs false
set_option linter.unusedVariables false

def numWord : ByteArray := ⟨#[110, 117, 109, 98, 101, 114, 32]⟩
def atWord : ByteArray := ⟨#[97, 116, 32]⟩
def colonWord : ByteArray := ⟨#[58, 32]⟩
def unknownWord : ByteArray := ⟨#[117, 110, 107, 110, 111, 119, 110]⟩
/-- What stands ahead of the name. -/
def numP (b : Bool) (i : Int) : ByteArray := if b then ⟨#[]⟩ ++ (numWord ++ itoa i ++ colonWord) else ⟨#[]⟩
def leadP (b p : Bool) (i a : Int) : ByteArray := if p then numP b i ++ (atWord ++ itoa a ++ colonWord) else numP b i
def lineP (b p : Bool) (i a c : Int) : ByteArray := if c = 0 then leadP b p i a ++ unknownWord else leadP b p i a ++ nameP c
def I64 (k : Int) : Prop := -9223372036854775808 ≤ k ∧ k ≤ 9223372036854775807

theorem names_short : nameList.all (fun p => decide (p.2.size ≤ 27)) = true := by kernel_rfl
theorem nameP_size (k : Int) (h : I64 k) : (nameP k).size ≤ 27 := by
  unfold nameP
  cases hq : nameIn k nameList with
  | some s => simpa using List.all_eq_true.1 names_short _ (nameIn_mem k s _ hq)
  | none =>
    have := itoa_size k h.1 h.2
    have h6 : errnoWord.size = 6 := rfl
    simp only [ByteArray.size_append]
    omega

set_option maxRecDepth 100000 in
set_option maxHeartbeats 4000000 in
theorem fault_Print (e : Er) (w : World) (L : Lay w) (hc : I64 (codeOf (some e))) (ha : I64 (placeOf (some e)).1) (hi : I64 (indexOf (some e)).1) :
    Calls Tryd.prog 15 #[encE (some e)] w fun ev w' => ev = .returned (.string (lineP (indexOf (some e)).2 (placeOf (some e)).2 (indexOf (some e)).1 (placeOf (some e)).1 (codeOf (some e)))) ∧ Below w.heap.size w w' := by
  have C1 := Lib.hid (fault_Code (some e))
  have C2 := Lib.hid (fault_Place (some e))
  have C3 := Lib.hid (fault_Index (some e))
  have hn := nameP_size _ hc
  have NM := Lib.hid (fun w L => fault_Name (codeOf (some e)) hc.1 hc.2 w L)
  have s1 := itoa_size _ ha.1 ha.2
  have s2 := itoa_size _ hi.1 hi.2
  have I1 := Lib.hid (fun w L => strconv_Itoa (indexOf (some e)).1 hi.1 hi.2 w L)
  have I2 := Lib.hid (fun w L => strconv_Itoa (placeOf (some e)).1 ha.1 ha.2 w L)
  obtain ⟨tt, tv, he⟩ := e.enc_iface
  have he' : encE (some e) = .iface tt tv := he
  rw [he'] at C1 C2 C3 ⊢
  clear he he'
  generalize codeOf (some e) = c at *
  generalize placeOf (some e) = P at *
  generalize indexOf (some e) = X at *
  obtain ⟨a, p⟩ := P
  obtain ⟨i, b⟩ := X
  simp only at *
  have st : Sl w w := Sq.start L
  clear L hc ha hi
  unfold lineP leadP numP numWord atWord colonWord unknownWord
  generalize nameP c = nm at *
  generalize itoa i = ti at *
  generalize itoa a = ta at *
  go_enter Tryd.func15, Tryd.ntmps15
  go_wp2_with fail
  refine (C3.out _ st.L.hg).mono ?_
  rintro ev w' ⟨rfl, hB⟩
  replace st := st.next hB
  clear hB
  cases b with
  | false =>
    go_wp2_with fail
    refine (C2.out _ st.L.hg).mono ?_
    rintro ev w' ⟨rfl, hB⟩
    replace st := st.next hB
    clear hB
    cases p with
    | false =>
      go_wp2_with fail
      refine (C1.out _ st.L.hg).mono ?_
      rintro ev w' ⟨rfl, hB⟩
      replace st := st.next hB
      clear hB
      by_cases hz : c = 0
      · have HZ := Lib.hid hz
        have hz' : (c != 0) = false := by simpa using hz
        clear hz NM
        go_wp2
        go_ret
        exact ⟨by first | rfl | (rw [if_pos HZ.out]; rfl), st.B⟩
      · have HZ := Lib.hid hz
        have hz' : (c != 0) = true := by simpa using hz
        clear hz
        go_wp2_with fail
        refine (NM.out _ st.L).mono ?_
        rintro ev w' ⟨rfl, hB⟩
        replace st := st.next hB
        clear hB
        go_wp2
        go_ret
        exact ⟨by first | rfl | (rw [if_neg HZ.out]; rfl), st.B⟩
    | true =>
      go_wp2_with fail
      refine (I2.out _ st.L).mono ?_
      rintro ev w' ⟨rfl, hB⟩
      replace st := st.next hB
      clear hB
      go_wp2_with fail
      refine (C1.out _ st.L.hg).mono ?_
      rintro ev w' ⟨rfl, hB⟩
      replace st := st.next hB
      clear hB
      by_cases hz : c = 0
      · have HZ := Lib.hid hz
        have hz' : (c != 0) = false := by simpa using hz
        clear hz NM
        go_wp2
        go_ret
        exact ⟨by first | rfl | (rw [if_pos HZ.out]; rfl), st.B⟩
      · have HZ := Lib.hid hz
        have hz' : (c != 0) = true := by simpa using hz
        clear hz
        go_wp2_with fail
        refine (NM.out _ st.L).mono ?_
        rintro ev w' ⟨rfl, hB⟩
        replace st := st.next hB
        clear hB
        go_wp2
        go_ret
        exact ⟨by first | rfl | (rw [if_neg HZ.out]; rfl), st.B⟩
  | true =>
    go_wp2_with fail
    refine (I1.out _ st.L).mono ?_
    rintro ev w' ⟨rfl, hB⟩
    replace st := st.next hB
    clear hB
    go_wp2_with fail
    refine (C2.out _ st.L.hg).mono ?_
    rintro ev w' ⟨rfl, hB⟩
    replace st := st.next hB
    clear hB
    cases p with
    | false =>
      go_wp2_with fail
      refine (C1.out _ st.L.hg).mono ?_
      rintro ev w' ⟨rfl, hB⟩
      replace st := st.next hB
      clear hB
      by_cases hz : c = 0
      · have HZ := Lib.hid hz
        have hz' : (c != 0) = false := by simpa using hz
        clear hz NM
        go_wp2
        go_ret
        exact ⟨by first | rfl | (rw [if_pos HZ.out]; rfl), st.B⟩
      · have HZ := Lib.hid hz
        have hz' : (c != 0) = true := by simpa using hz
        clear hz
        go_wp2_with fail
        refine (NM.out _ st.L).mono ?_
        rintro ev w' ⟨rfl, hB⟩
        replace st := st.next hB
        clear hB
        go_wp2
        go_ret
        exact ⟨by first | rfl | (rw [if_neg HZ.out]; rfl), st.B⟩
    | true =>
      go_wp2_with fail
      refine (I2.out _ st.L).mono ?_
      rintro ev w' ⟨rfl, hB⟩
      replace st := st.next hB
      clear hB
      go_wp2_with fail
      refine (C1.out _ st.L.hg).mono ?_
      rintro ev w' ⟨rfl, hB⟩
      replace st := st.next hB
      clear hB
      by_cases hz : c = 0
      · have HZ := Lib.hid hz
        have hz' : (c != 0) = false := by simpa using hz
        clear hz NM
        go_wp2
        go_ret
        exact ⟨by first | rfl | (rw [if_pos HZ.out]; rfl), st.B⟩
      · have HZ := Lib.hid hz
        have hz' : (c != 0) = true := by simpa using hz
        clear hz
        go_wp2_with fail
        refine (NM.out _ st.L).mono ?_
        rintro ev w' ⟨rfl, hB⟩
        replace st := st.next hB
        clear hB
        go_wp2
        go_ret
        exact ⟨by first | rfl | (rw [if_neg HZ.out]; rfl), st.B⟩
end Go.Proofs.YtmjagnimdbbbnaaDoor
