/- weirref01.Name: a number's name by the document: the same. -/
import Derived.Test.YtmjagnimdbbbnaaDoorKnown
namespace Go.Proofs.YtmjagnimdbbbnaaDoor
open Go.RowKit
set_option linter.unusedSimpArgs false
set_option linter.unusedVariables false

theorem str_ne {s : ByteArray} (h : ¬ s = ⟨#[]⟩) : s.toList.isEmpty = false := by
  rw [Lib.toList_data]
  cases s with
  | mk d =>
    cases d with
    | mk l =>
      cases l with
      | nil => exact absurd rfl h
      | cons a l => rfl
theorem str_same {s t : ByteArray} (h : s = t) : (s.toList == t.toList) = true := by subst h; simp
theorem str_other {s t : ByteArray} (h : ¬ s = t) : (s.toList == t.toList) = false := by
  rw [Lib.toList_data, Lib.toList_data]
  apply beq_eq_false_iff_ne.2
  exact fun e => h (ByteArray.ext (Array.toList_inj.1 e))
theorem nameIn_app (k : Int) : ∀ (l r : List (Int × ByteArray)), nameIn k (l ++ r) = (nameIn k l).or (nameIn k r)
  | [], r => rfl
  | p :: l, r => by
    by_cases h : p.1 = k
    · simp [nameIn, h]
    · simp [nameIn, h, nameIn_app k l r]
theorem nameIn_mem (k : Int) (s : ByteArray) : ∀ l : List (Int × ByteArray), nameIn k l = some s → (k, s) ∈ l
  | [], h => by simp [nameIn] at h
  | p :: l, h => by
    by_cases hp : p.1 = k
    · simp [nameIn, hp] at h
      subst hp; subst h; simp
    · simp [nameIn, hp] at h
      exact List.mem_cons_of_mem _ (nameIn_mem k s l h)
theorem zeros_none (k : Int) (hk : k ≠ 0) : ∀ n : Nat, nameIn k (List.replicate n (0, ⟨#[]⟩)) = none
  | 0 => rfl
  | n + 1 => by rw [List.replicate_succ]; simp [nameIn, Ne.symm hk, zeros_none k hk n]
theorem names_full : (nameList.drop 1).all (fun p => decide (0 < p.2.size)) = true := by kernel_rfl
theorem names_head : nameList = (0, ⟨#[111, 107]⟩) :: nameList.drop 1 := by kernel_rfl
theorem knownP_is (k : Int) (hk : k ≠ 0) : knownP k = (nameIn k (nameList.drop 1)).getD ⟨#[]⟩ := by
  unfold knownP pairs
  rw [nameIn_app, zeros_none k hk]
  cases nameIn k (nameList.drop 1) <;> rfl
theorem nameP_zero : nameP 0 = ⟨#[111, 107]⟩ := by rw [nameP, names_head]; rfl
theorem nameP_not0 (k : Int) (hk : k ≠ 0) : nameP k = match nameIn k (nameList.drop 1) with | some s => s | none => errnoWord ++ itoa k := by
  have h : nameIn k nameList = nameIn k (nameList.drop 1) := by
    conv => lhs; rw [names_head]
    simp only [nameIn, Ne.symm hk, if_false]
  rw [nameP, h]
  rfl
theorem nameP_known (k : Int) (hk : k ≠ 0) (h : ¬ knownP k = ⟨#[]⟩) : nameP k = knownP k := by
  rw [knownP_is k hk] at h ⊢
  rw [nameP_not0 k hk]
  cases hq : nameIn k (nameList.drop 1) with
  | none => rw [hq] at h; simp at h
  | some s => rfl
theorem nameP_other (k : Int) (hk : k ≠ 0) (h : knownP k = ⟨#[]⟩) : nameP k = errnoWord ++ itoa k := by
  rw [knownP_is k hk] at h
  rw [nameP_not0 k hk]
  cases hq : nameIn k (nameList.drop 1) with
  | none => rfl
  | some s =>
    rw [hq] at h
    have hm := nameIn_mem k s _ hq
    have := List.all_eq_true.1 names_full _ hm
    simp only [Option.getD_some] at h
    subst h
    simp only [decide_eq_true_eq] at this
    exact absurd this (Nat.lt_irrefl 0)

set_option maxRecDepth 100000 in
theorem ref_Name (k : Int) (h0 : -9223372036854775808 ≤ k) (h1 : k ≤ 9223372036854775807) (w : World) (L : Lay w) :
    Calls Tryd.prog 26 #[.int .i64 k] w fun ev w' => ev = .returned (.string (nameP k)) ∧ Below w.heap.size w w' := by
  by_cases hz : k = 0
  · subst hz
    rw [nameP_zero]
    clear h0 h1 L
    go_enter Tryd.func26, Tryd.ntmps26
    go_wp2
    go_ret
    exact ⟨rfl, Below.refl _ _⟩
  have hz' : (k == 0) = false := by simpa using hz
  by_cases hk : knownP k = ⟨#[]⟩
  · rw [nameP_other k hz hk]
    have HK := Lib.hid hk
    clear hz hk
    have st : Sl w w := Sq.start L
    clear L
    unfold errnoWord
    go_enter Tryd.func26, Tryd.ntmps26
    go_wp2_with fail
    refine (ref_known k _ st.L).mono ?_
    rintro ev w' ⟨rfl, hB⟩
    replace st := st.next hB
    rw [HK.out]
    clear hB HK
    go_wp2_with fail
    have hs := itoa_size k h0 h1
    refine (strconv_Itoa k h0 h1 _ st.L).mono ?_
    rintro ev w' ⟨rfl, hB⟩
    replace st := st.next hB
    clear hB
    have h6 : errnoWord.size = 6 := rfl
    go_wp2
    go_ret
    exact ⟨rfl, st.B⟩
  · rw [nameP_known k hz hk]
    clear hz
    have HC := Lib.hid (ref_known k)
    generalize knownP k = s at hk HC ⊢
    replace hk := str_ne hk
    have st : Sl w w := Sq.start L
    clear L
    go_enter Tryd.func26, Tryd.ntmps26
    go_wp2_with fail
    refine (HC.out _ st.L).mono ?_
    rintro ev w' ⟨rfl, hB⟩
    replace st := st.next hB
    clear hB
    go_wp2
    go_ret
    exact ⟨rfl, st.B⟩
end Go.Proofs.YtmjagnimdbbbnaaDoor
