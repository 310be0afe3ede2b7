/- Chapter 6, the plain law: points that are printed, all, are read as these points. -/
import Derived.Test.YtnodjijgeifejaaGreatDoorBackLaw
import Derived.Test.YtnodjijgeifejaaGreatDoorLnsL
namespace Go.Proofs.YtnodjijgeifejaaGreatDoor
open Go.RowKit
set_option linter.unusedSimpArgs false
set_option linter.unusedVariables false

/-- Points as lines. -/
def allL (l : List Pt) : List UInt8 := l.flatMap fun p => lineL p ++ [10]
/-- What All answers: the text, or the point's number and its error. -/
def allQ : Nat → List Pt → List UInt8 → Sum (List UInt8) (Nat × Int)
  | _, [], acc => .inl acc
  | k, p :: r, acc => match printP p with | .inl t => allQ (k + 1) r (acc ++ (t.data.toList ++ [10])) | .inr c => .inr (k, c)
/-- A point that is printed. -/
structure Good (p : Pt) : Prop where
  pl : isPlainP p = true
  le : (lineL p).length ≤ 8192
theorem print_inl {p : Pt} {t : ByteArray} (h : printP p = .inl t) : Good p ∧ t.data.toList = lineL p := by
  unfold printP at h
  by_cases h1 : isPlainP p = true
  · rw [if_pos h1] at h
    by_cases h2 : 8192 < (lineL p).length
    · rw [if_pos h2] at h; cases h
    · rw [if_neg h2] at h
      cases h
      exact ⟨⟨h1, by omega⟩, rfl⟩
  · rw [if_neg h1] at h; cases h
theorem allQ_inl : ∀ (l : List Pt) (k : Nat) (acc x : List UInt8), allQ k l acc = .inl x → x = acc ++ allL l ∧ ∀ p ∈ l, Good p
  | [], k, acc, x, h => by
    cases h
    exact ⟨by simp [allL], fun p hp => by cases hp⟩
  | p :: r, k, acc, x, h => by
    unfold allQ at h
    cases hp : printP p with
    | inr c => rw [hp] at h; cases h
    | inl t =>
      rw [hp] at h
      obtain ⟨h1, h2⟩ := allQ_inl r (k + 1) _ x h
      obtain ⟨g, e⟩ := print_inl hp
      refine ⟨by rw [h1, e]; simp [allL], fun y hy => ?_⟩
      rcases List.mem_cons.1 hy with rfl | hy
      · exact g
      · exact h2 y hy
theorem allL_len : ∀ l : List Pt, (∀ p ∈ l, Good p) → (allL l).length ≤ l.length * 8193
  | [], _ => by simp [allL]
  | p :: r, h => by
    have h1 := allL_len r (fun y hy => h y (List.mem_cons_of_mem _ hy))
    have h2 := (h p (List.mem_cons_self ..)).le
    have e : allL (p :: r) = (lineL p ++ [10]) ++ allL r := rfl
    rw [e, List.length_append, List.length_append, List.length_cons]
    simp only [List.length_cons, List.length_nil]
    omega
theorem tags_noNl : ∀ l : List (ByteArray × ByteArray), (∀ t ∈ l, plainP t.1 = true ∧ plainP t.2 = true) → 10 ∉ tagsL l
  | [], _ => by simp [tagsL]
  | t :: l, h => by
    have ih := tags_noNl l (fun x hx => h x (List.mem_cons_of_mem _ hx))
    obtain ⟨h1, h2⟩ := h t (List.mem_cons_self ..)
    have e : tagsL (t :: l) = 44 :: (escL t.1.data.toList ++ 61 :: escL t.2.data.toList) ++ tagsL l := rfl
    rw [e]
    simp only [List.mem_append, List.mem_cons, not_or]
    exact ⟨⟨by decide, escL_noNl (plain_ne h1).2, by decide, escL_noNl (plain_ne h2).2⟩, ih⟩
theorem fields_noNl : ∀ (l : List (ByteArray × Int)) (sep : UInt8), sep ≠ 10 → (∀ t ∈ l, plainP t.1 = true) → 10 ∉ fieldsL sep l
  | [], _, _, _ => by simp [fieldsL]
  | t :: l, sep, hs, h => by
    have ih := fields_noNl l 44 (by decide) (fun x hx => h x (List.mem_cons_of_mem _ hx))
    have h1 := h t (List.mem_cons_self ..)
    have e : fieldsL sep (t :: l) = sep :: (escL t.1.data.toList ++ 61 :: ((itoa t.2).data.toList ++ [105])) ++ fieldsL 44 l := rfl
    rw [e]
    simp only [List.mem_append, List.mem_cons, not_or, List.mem_nil_iff, not_false_eq_true, and_true]
    exact ⟨⟨fun q => hs q.symm, escL_noNl (plain_ne h1).2, by decide, fun q => (itoa_no t.2 10 q).2.2.2.2.1 rfl, by decide⟩, ih⟩
theorem plain_parts {p : Pt} (h : isPlainP p = true) : plainP p.m = true ∧ isP p.m 35 0 = false ∧ (∀ t ∈ p.tags, plainP t.1 = true ∧ plainP t.2 = true) ∧ ∀ f ∈ p.fields, plainP f.1 = true := by
  unfold isPlainP at h
  simp only [Bool.and_eq_true, Bool.not_eq_true', List.all_eq_true] at h
  exact ⟨h.1.1.1.1, h.1.1.1.2, h.1.2, h.2⟩
theorem line_noNl {p : Pt} (h : isPlainP p = true) : 10 ∉ lineL p := by
  obtain ⟨h1, h2, h3, h4⟩ := plain_parts h
  unfold lineL
  simp only [List.mem_append, List.mem_cons, not_or]
  exact ⟨escL_noNl (plain_ne h1).2, tags_noNl _ h3, fields_noNl _ 32 (by decide) h4, by decide, fun q => (itoa_no p.time 10 q).2.2.2.2.1 rfl⟩
theorem line_skip {p : Pt} (h : isPlainP p = true) : skipL (lineL p) = false := by
  obtain ⟨h1, h2, h3, h4⟩ := plain_parts h
  have hne := (plain_ne h1).1
  obtain ⟨c, r, hm⟩ : ∃ c r, p.m.data.toList = c :: r := by
    cases hq : p.m.data.toList with
    | nil => exact absurd hq hne
    | cons c r => exact ⟨c, r, rfl⟩
  have hc : c ≠ 35 := by
    rintro rfl
    have : isP p.m 35 0 = true := by unfold isP; rw [hm]; rfl
    rw [this] at h2
    cases h2
  unfold lineL
  rw [hm, escL_cons]
  unfold escC
  split
  · rfl
  · show (c == 35) = false
    simpa using hc
theorem line_first {p : Pt} (h : isPlainP p = true) (r : List UInt8) : ln1 (lineL p ++ 10 :: r) = lineL p ∧ ln2 (lineL p ++ 10 :: r) = r := by
  have hn := line_noNl h
  have h1 : (lineL p ++ 10 :: r)[(lineL p).length]? = some 10 := by simp
  have h2 : ∀ j : Nat, j < (lineL p).length → (lineL p ++ 10 :: r)[j]? ≠ some 10 := by
    intro j hj e
    rw [List.getElem?_append_left hj, List.getElem?_eq_getElem hj] at e
    exact hn (by rw [← Option.some.inj e]; exact List.getElem_mem hj)
  obtain ⟨e1, e2⟩ := ln_at h1 h2
  refine ⟨by rw [e1, List.take_left], ?_⟩
  rw [e2, ← List.drop_drop, List.drop_left]
  rfl
structure Fit (p : Pt) : Prop where
  t : I64 p.time
  f : ∀ f ∈ p.fields, I64 f.2
theorem one_back {p : Pt} (h : Good p) (hf : Fit p) : oneP ⟨(lineL p).toArray⟩ = .inl p :=
  line_one h.pl rfl (by show (lineL p).length ≤ 8192; exact h.le) hf.t hf.f
theorem lines_all : ∀ (l : List Pt) (f k : Nat) (acc : List Pt), (∀ p ∈ l, Good p ∧ Fit p) → (allL l).length < f → linesS f k (allL l) acc = .inl (acc ++ l)
  | [], f, k, acc, _, _ => by
    rw [show allL [] = [] from rfl, linesS_nil, List.append_nil]
  | p :: r, 0, k, acc, _, hf => by omega
  | p :: r, f + 1, k, acc, h, hf => by
    obtain ⟨g, ft⟩ := h p (List.mem_cons_self ..)
    have e : allL (p :: r) = lineL p ++ 10 :: allL r := by simp [allL]
    rw [e] at hf ⊢
    obtain ⟨l1, l2⟩ := line_first g.pl (allL r)
    unfold linesS
    rw [if_neg (by intro q; have := congrArg List.length q; simp at this), l1, lineS_ok (line_skip g.pl) (one_back g ft)]
    simp only [l2]
    rw [lines_all r f (k + 1) (acc ++ [p]) (fun y hy => h y (List.mem_cons_of_mem _ hy)) (by simp at hf; omega), List.append_assoc]
    rfl
theorem parse_all (l : List Pt) (h : ∀ p ∈ l, Good p ∧ Fit p) : parseS ⟨(allL l).toArray⟩ = .inl l := by
  unfold parseS
  exact lines_all l _ 0 [] h (Nat.lt_succ_self _)
end Go.Proofs.YtnodjijgeifejaaGreatDoor
