/- Chapter 6, plain laws: what is read as a point is printed as what was read; cut ahead of its last blank it is no line; a plain point printed is read. -/
import Derived.Test.YtnodjijgeifejaaGreatDoorEscLaw
namespace Go.Proofs.YtnodjijgeifejaaGreatDoor
open Go.RowKit
set_option linter.unusedSimpArgs false
set_option linter.unusedVariables false

/-- What is read stands there, escaped. -/
theorem unesc_esc : ∀ (l t : List UInt8) (n : Nat), unesc l = .inl (t, n) → l = escL t ++ l.drop n
  | [], t, n, h => by
    rw [show unesc [] = .inl ([], 0) from rfl] at h
    cases h; rfl
  | [c], t, n, h => by
    rw [unesc_cons] at h
    by_cases h1 : c = 92
    · rw [if_pos h1] at h; cases h
    · rw [if_neg h1] at h
      by_cases h2 : sp4 c = true
      · rw [if_pos h2] at h; cases h; rfl
      · rw [if_neg h2] at h
        rw [show unesc [] = .inl ([], 0) from rfl] at h
        cases h
        simp [escL, escC, h2]
  | c :: d :: q, t, n, h => by
    rw [unesc_cons] at h
    by_cases h1 : c = 92
    · rw [if_pos h1] at h
      simp only at h
      by_cases h2 : sp4 d = true
      · rw [if_pos h2] at h
        cases hq : unesc q with
        | inr e => rw [hq] at h; cases h
        | inl p =>
          obtain ⟨t', n'⟩ := p
          rw [hq] at h
          have ih := unesc_esc q t' n' hq
          cases h
          rw [escL_cons, h1]
          simp only [escC, h2, if_true, List.drop_succ_cons, List.cons_append, List.nil_append]
          rw [← ih]
      · rw [if_neg h2] at h; cases h
    · rw [if_neg h1] at h
      by_cases h2 : sp4 c = true
      · rw [if_pos h2] at h; cases h; rfl
      · rw [if_neg h2] at h
        cases hq : unesc (d :: q) with
        | inr e => rw [hq] at h; cases h
        | inl p =>
          obtain ⟨t', n'⟩ := p
          rw [hq] at h
          have ih := unesc_esc (d :: q) t' n' hq
          cases h
          rw [escL_cons]
          simp only [escC, h2, if_false, List.drop_succ_cons, List.cons_append, List.nil_append]
          simp only [Bool.false_eq_true, if_false, List.cons_append, List.nil_append]
          rw [← ih]
  termination_by l => l.length
theorem mem_escL {c : UInt8} : ∀ {l : List UInt8}, c ∈ l → c ∈ escL l
  | [], h => by cases h
  | d :: r, h => by
    rw [escL_cons]
    rcases List.mem_cons.1 h with rfl | h
    · exact List.mem_append_left _ (by unfold escC; split <;> simp)
    · exact List.mem_append_right _ (mem_escL h)
theorem sz_list (s : ByteArray) : s.data.toList.length = s.size := rfl
/-- A piece that is read. -/
theorem piece_ok {s t : ByteArray} {a b : Nat} (h : pieceP s a = .ok t b) : s.data.toList.drop a = escL t.data.toList ++ s.data.toList.drop b ∧ a < b ∧ t.data.toList ≠ [] ∧ b ≤ s.size := by
  unfold pieceP at h
  cases hq : unesc (s.data.toList.drop a) with
  | inr e => rw [hq] at h; cases h
  | inl p =>
    obtain ⟨t', n⟩ := p
    rw [hq] at h
    simp only at h
    by_cases hn : n = 0
    · rw [if_pos hn] at h; cases h
    · rw [if_neg hn] at h
      have e := unesc_esc _ _ _ hq
      have le := unesc_le (s.data.toList.drop a)
      rw [hq] at le
      simp only [List.length_drop, sz_list] at le
      cases h
      rw [List.drop_drop] at e
      refine ⟨by simpa using e, by omega, ?_, by omega⟩
      simp only
      intro e0
      exact hn (le.2.2.1 e0)
theorem isP_get {s : ByteArray} {c : UInt8} {a : Nat} (h : isP s c a = true) : s.data.toList.drop a = c :: s.data.toList.drop (a + 1) ∧ a < s.size := by
  unfold isP at h
  have h1 : s.data.toList[a]? = some c := by simpa using h
  obtain ⟨hl, e⟩ := List.getElem?_eq_some_iff.1 h1
  exact ⟨by rw [List.drop_eq_getElem_cons hl, e], hl⟩
theorem sign_ok {s : ByteArray} {c : UInt8} {a b : Nat} {u : Unit} (h : signP s c a = .ok u b) : s.data.toList.drop a = c :: s.data.toList.drop b ∧ b = a + 1 ∧ b ≤ s.size := by
  unfold signP at h
  by_cases hc : isP s c a = true
  · rw [if_pos hc] at h
    cases h
    obtain ⟨h1, h2⟩ := isP_get hc
    exact ⟨h1, rfl, h2⟩
  · rw [if_neg hc] at h; cases h
theorem number_ok {s : ByteArray} {a b : Nat} {n : Int} (ha : a ≤ s.size) (h : numberP s a = .ok n b) : s.data.toList.drop a = (itoa n).data.toList ++ s.data.toList.drop b ∧ a ≤ b ∧ b ≤ s.size ∧ I64 n := by
  unfold numberP at h
  by_cases hc : (atoiV (s.extract a (endP s a))).2 = true ∧ itoa (atoiV (s.extract a (endP s a))).1 = s.extract a (endP s a)
  · rw [if_pos hc] at h
    have hi := atoiV_I64 _ hc.1
    have e := hc.2
    have hle := digitsP_le (s.data.toList.drop a)
    rw [List.length_drop, sz_list] at hle
    cases h
    rw [e]
    unfold endP at *
    have ex : (s.extract a (a + digitsP (s.data.toList.drop a))).data.toList = (s.data.toList.drop a).take (digitsP (s.data.toList.drop a)) := by
      simp [ByteArray.data_extract, Array.toList_extract, List.extract_eq_take_drop]
    refine ⟨?_, by omega, by omega, hi⟩
    rw [ex, ← List.drop_drop, List.take_append_drop]
  · rw [if_neg hc] at h; cases h
theorem plain_of {s t : ByteArray} {a b : Nat} (h : s.data.toList.drop a = escL t.data.toList ++ s.data.toList.drop b) (hne : t.data.toList ≠ []) (hn : 10 ∉ s.data.toList) : plainP t = true := by
  unfold plainP
  have h1 : 10 ∉ t.data.toList := fun hm => hn (List.mem_of_mem_drop (by rw [h]; exact List.mem_append_left _ (mem_escL hm)))
  cases ht : t.data.toList with
  | nil => exact absurd ht hne
  | cons c r => rw [ht] at h1; simp only [List.isEmpty_cons, h1]; rfl
theorem tags_ok {s : ByteArray} (hn : 10 ∉ s.data.toList) : ∀ (f a b : Nat) (acc tags : List (ByteArray × ByteArray)), tagsP s f a acc = .ok tags b → a ≤ s.size →
    ∃ new, tags = acc ++ new ∧ s.data.toList.drop a = tagsL new ++ s.data.toList.drop b ∧ (∀ t ∈ new, plainP t.1 = true ∧ plainP t.2 = true) ∧ b ≤ s.size
  | 0, a, b, acc, tags, h, ha => by
    unfold tagsP at h; cases h
    exact ⟨[], by simp, by simp [tagsL], by simp, ha⟩
  | f + 1, a, b, acc, tags, h, ha => by
    unfold tagsP at h
    by_cases hc : isP s 44 a = true
    · rw [if_pos hc] at h
      obtain ⟨g0, _⟩ := isP_get hc
      cases h1 : pieceP s (a + 1) with
      | no e => rw [h1] at h; cases h
      | ok k a1 =>
        rw [h1] at h; simp only at h
        obtain ⟨g1, _, n1, _⟩ := piece_ok h1
        cases h2 : signP s 61 a1 with
        | no e => rw [h2] at h; cases h
        | ok u a2 =>
          rw [h2] at h; simp only at h
          obtain ⟨g2, _, _⟩ := sign_ok h2
          cases h3 : pieceP s a2 with
          | no e => rw [h3] at h; cases h
          | ok v a3 =>
            rw [h3] at h; simp only at h
            obtain ⟨g3, _, n3, l3⟩ := piece_ok h3
            obtain ⟨new, e1, e2, e3, e4⟩ := tags_ok hn f a3 b _ tags h l3
            refine ⟨(k, v) :: new, by rw [e1]; simp, ?_, ?_, e4⟩
            · rw [g0, g1, g2, g3, e2]; simp [tagsL]
            · intro t ht
              rcases List.mem_cons.1 ht with rfl | ht
              · exact ⟨plain_of g1 n1 hn, plain_of g3 n3 hn⟩
              · exact e3 t ht
    · rw [if_neg hc] at h; cases h
      exact ⟨[], by simp, by simp [tagsL], by simp, ha⟩
theorem fields_ok {s : ByteArray} (hn : 10 ∉ s.data.toList) : ∀ (f a b : Nat) (acc fs : List (ByteArray × Int)) (sep : UInt8), fieldsP s f a acc = .ok fs b → a ≤ s.size → s.size - a < f →
    ∃ new, fs = acc ++ new ∧ new ≠ [] ∧ sep :: s.data.toList.drop a = fieldsL sep new ++ s.data.toList.drop b ∧ (∀ t ∈ new, plainP t.1 = true ∧ I64 t.2) ∧ b ≤ s.size
  | 0, a, b, acc, fs, sep, h, ha, hf => by omega
  | f + 1, a, b, acc, fs, sep, h, ha, hf => by
    unfold fieldsP at h
    cases h1 : pieceP s a with
    | no e => rw [h1] at h; cases h
    | ok k a1 =>
      rw [h1] at h; simp only at h
      obtain ⟨g1, m1, n1, _⟩ := piece_ok h1
      cases h2 : signP s 61 a1 with
      | no e => rw [h2] at h; cases h
      | ok u a2 =>
        rw [h2] at h; simp only at h
        obtain ⟨g2, m2, l2⟩ := sign_ok h2
        cases h3 : numberP s a2 with
        | no e => rw [h3] at h; cases h
        | ok n a3 =>
          rw [h3] at h; simp only at h
          obtain ⟨g3, m3, l3, i3⟩ := number_ok l2 h3
          cases h4 : signP s 105 a3 with
          | no e => rw [h4] at h; cases h
          | ok u a4 =>
            rw [h4] at h; simp only at h
            obtain ⟨g4, m4, l4⟩ := sign_ok h4
            have head : s.data.toList.drop a = escL k.data.toList ++ 61 :: ((itoa n).data.toList ++ 105 :: s.data.toList.drop a4) := by rw [g1, g2, g3, g4]
            by_cases hc : isP s 44 a4 = true
            · rw [if_pos hc] at h
              obtain ⟨g5, l5⟩ := isP_get hc
              obtain ⟨new, e1, e0, e2, e3, e4⟩ := fields_ok hn f (a4 + 1) b _ fs 44 h l5 (by omega)
              refine ⟨(k, n) :: new, by rw [e1]; simp, by simp, ?_, ?_, e4⟩
              · rw [head, g5, e2]; simp [fieldsL, fieldL]
              · intro t ht
                rcases List.mem_cons.1 ht with rfl | ht
                · exact ⟨plain_of g1 n1 hn, i3⟩
                · exact e3 t ht
            · rw [if_neg hc] at h; cases h
              refine ⟨[(k, n)], rfl, by simp, ?_, ?_, l4⟩
              · rw [head]; simp [fieldsL, fieldL]
              · intro t ht
                obtain rfl := List.mem_singleton.1 ht
                exact ⟨plain_of g1 n1 hn, i3⟩
theorem nl_no {s : ByteArray} (h : nlP s = none) : 10 ∉ s.data.toList := by
  unfold nlP at h
  split at h
  · cases h
  · assumption
/-- What is read as a point is, printed, what was read. -/
theorem one_line {s : ByteArray} {p : Pt} (h : oneP s = .inl p) : s.data.toList = lineL p ∧ isPlainP p = true ∧ s.size ≤ 8192 ∧ I64 p.time ∧ ∀ f ∈ p.fields, I64 f.2 := by
  unfold oneP at h
  by_cases h8 : 8192 < s.size
  · rw [if_pos h8] at h; cases h
  rw [if_neg h8] at h
  unfold pointP at h
  cases hN : nlP s with
  | some i => rw [hN] at h; cases h
  | none =>
    rw [hN] at h
    have hn := nl_no hN
    simp only at h
    by_cases hh : isP s 35 0 = true
    · rw [if_pos hh] at h; cases h
    rw [if_neg hh] at h
    cases h1 : pieceP s 0 with
    | no e => rw [h1] at h; cases h
    | ok m a0 =>
      rw [h1] at h; simp only at h
      obtain ⟨g1, _, n1, l1⟩ := piece_ok h1
      cases h2 : tagsP s (s.size + 1) a0 [] with
      | no e => rw [h2] at h; cases h
      | ok tags a1 =>
        rw [h2] at h; simp only at h
        obtain ⟨tn, e1, g2, p2, l2⟩ := tags_ok hn _ _ _ _ _ h2 l1
        rw [List.nil_append] at e1
        subst e1
        unfold restP at h
        cases h3 : signP s 32 a1 with
        | no e => rw [h3] at h; cases h
        | ok u a2 =>
          rw [h3] at h; simp only at h
          obtain ⟨g3, _, l3⟩ := sign_ok h3
          cases h4 : fieldsP s (s.size + 1) a2 [] with
          | no e => rw [h4] at h; cases h
          | ok fs a3 =>
            rw [h4] at h; simp only at h
            obtain ⟨fn, e2, ne, g4, p4, l4⟩ := fields_ok hn _ _ _ _ _ 32 h4 l3 (by omega)
            rw [List.nil_append] at e2
            subst e2
            unfold timeP at h
            cases h5 : signP s 32 a3 with
            | no e => rw [h5] at h; cases h
            | ok u a4 =>
              rw [h5] at h; simp only at h
              obtain ⟨g5, _, l5⟩ := sign_ok h5
              cases h6 : numberP s a4 with
              | no e => rw [h6] at h; cases h
              | ok t a5 =>
                rw [h6] at h; simp only at h
                obtain ⟨g6, _, l6, i6⟩ := number_ok l5 h6
                by_cases h7 : a5 < s.size
                · rw [if_pos h7] at h; cases h
                rw [if_neg h7] at h
                have e7 : s.data.toList.drop a5 = [] := List.drop_eq_nil_of_le (by rw [sz_list]; omega)
                have hp := Sum.inl.inj h
                clear h
                subst hp
                rw [List.drop_zero] at g1
                have hl : s.data.toList = escL m.data.toList ++ (tagsL tags ++ (fieldsL 32 fs ++ 32 :: (itoa t).data.toList)) := by
                  rw [g1, g2, g3, g4, g5, g6, e7, List.append_nil]
                refine ⟨hl, ?_, by omega, i6, fun f hf => (p4 f hf).2⟩
                have pm := plain_of (a := 0) (b := a0) (by rw [List.drop_zero]; exact g1) n1 hn
                have ph : isP m 35 0 = false := by
                  cases hq : isP m 35 0 with
                  | false => rfl
                  | true =>
                    obtain ⟨q1, _⟩ := isP_get hq
                    rw [List.drop_zero] at q1
                    rw [q1, escL_cons] at hl
                    have : isP s 35 0 = true := by unfold isP; rw [hl]; rfl
                    exact absurd this hh
                have pf : fs.isEmpty = false := by cases fs with
                  | nil => exact absurd rfl ne
                  | cons a b => rfl
                unfold isPlainP
                simp only [pm, ph, pf, Bool.not_false, Bool.true_and, Bool.and_true, Bool.and_eq_true, List.all_eq_true]
                exact ⟨fun t ht => p2 t ht, fun f hf => (p4 f hf).1⟩

/-- How many bare blanks a text has. -/
def bareB : List UInt8 → Nat
  | [] => 0
  | [c] => if c = 32 then 1 else 0
  | c :: d :: r => if c = 92 then bareB r else (if c = 32 then 1 else 0) + bareB (d :: r)
theorem bareB_plain {c : UInt8} (h : c ≠ 92) (r : List UInt8) : bareB (c :: r) = (if c = 32 then 1 else 0) + bareB r := by
  cases r with
  | nil => rfl
  | cons d r => rw [bareB, if_neg h]
theorem bareB_pair (c : UInt8) (r : List UInt8) : bareB (92 :: c :: r) = bareB r := by rw [bareB, if_pos rfl]
theorem bareB_esc : ∀ (t r : List UInt8), bareB (escL t ++ r) = bareB r
  | [], r => rfl
  | c :: t, r => by
    rw [escL_cons, List.append_assoc]
    unfold escC
    by_cases h : sp4 c = true
    · rw [if_pos h]; show bareB (92 :: c :: (escL t ++ r)) = _; rw [bareB_pair, bareB_esc t r]
    · rw [if_neg h]
      have h1 : c ≠ 92 := fun e => h (by rw [e]; rfl)
      have h2 : c ≠ 32 := fun e => h (by rw [e]; rfl)
      show bareB (c :: (escL t ++ r)) = _
      rw [bareB_plain h1, if_neg h2, bareB_esc t r, Nat.zero_add]
theorem bareB_no : ∀ (t r : List UInt8), (∀ c ∈ t, c ≠ 92 ∧ c ≠ 32) → bareB (t ++ r) = bareB r
  | [], r, _ => rfl
  | c :: t, r, h => by
    have hc := h c (List.mem_cons_self ..)
    show bareB (c :: (t ++ r)) = _
    rw [bareB_plain hc.1, if_neg hc.2, bareB_no t r (fun x hx => h x (List.mem_cons_of_mem _ hx)), Nat.zero_add]
theorem itoa_no (n : Int) : ∀ c ∈ (itoa n).data.toList, c ≠ 92 ∧ c ≠ 32 ∧ c ≠ 44 ∧ c ≠ 61 ∧ c ≠ 10 ∧ c ≠ 105 := by
  intro c hc
  have hc' : c ∈ Lib.itoa n := by simpa [itoa] using hc
  have key : c = 45 ∨ (48 ≤ c.toNat ∧ c.toNat ≤ 57) := by
    unfold Lib.itoa at hc'
    split at hc'
    · rcases List.mem_cons.1 hc' with rfl | h
      · left; rfl
      · right; exact digits_no _ c h
    · right; exact digits_no _ c hc'
  rcases key with rfl | ⟨h1, h2⟩
  · decide
  · refine ⟨?_, ?_, ?_, ?_, ?_, ?_⟩ <;> (rintro rfl; revert h1 h2; decide)
theorem bareB_tags : ∀ (l : List (ByteArray × ByteArray)) (r : List UInt8), bareB (tagsL l ++ r) = bareB r
  | [], r => rfl
  | t :: l, r => by
    have e : tagsL (t :: l) ++ r = 44 :: (escL t.1.data.toList ++ (61 :: (escL t.2.data.toList ++ (tagsL l ++ r)))) := by simp [tagsL]
    rw [e, bareB_plain (by decide), if_neg (by decide), bareB_esc, bareB_plain (by decide), if_neg (by decide), bareB_esc, bareB_tags l r]
    omega
theorem bareB_fields : ∀ (l : List (ByteArray × Int)) (sep : UInt8) (r : List UInt8), sep ≠ 92 → l ≠ [] → bareB (fieldsL sep l ++ r) = (if sep = 32 then 1 else 0) + bareB r
  | [], _, _, _, h => absurd rfl h
  | [f], sep, r, hs, _ => by
    have e : fieldsL sep [f] ++ r = sep :: (escL f.1.data.toList ++ (61 :: ((itoa f.2).data.toList ++ (105 :: r)))) := by simp [fieldsL, fieldL]
    rw [e, bareB_plain hs, bareB_esc, bareB_plain (c := 61) (by decide), if_neg (show ¬ (61 : UInt8) = 32 by decide), bareB_no _ _ (fun c hc => ⟨(itoa_no _ c hc).1, (itoa_no _ c hc).2.1⟩), bareB_plain (c := 105) (by decide), if_neg (show ¬ (105 : UInt8) = 32 by decide)]
    omega
  | f :: g :: l, sep, r, hs, _ => by
    have e : fieldsL sep (f :: g :: l) ++ r = sep :: (escL f.1.data.toList ++ (61 :: ((itoa f.2).data.toList ++ (105 :: (fieldsL 44 (g :: l) ++ r))))) := by simp [fieldsL, fieldL]
    rw [e, bareB_plain hs, bareB_esc, bareB_plain (c := 61) (by decide), if_neg (show ¬ (61 : UInt8) = 32 by decide), bareB_no _ _ (fun c hc => ⟨(itoa_no _ c hc).1, (itoa_no _ c hc).2.1⟩), bareB_plain (c := 105) (by decide), if_neg (show ¬ (105 : UInt8) = 32 by decide), bareB_fields (g :: l) 44 r (by decide) (by simp), if_neg (show ¬ (44 : UInt8) = 32 by decide)]
    omega
theorem bareB_take : ∀ (l : List UInt8) (n : Nat), bareB (l.take n) ≤ bareB l
  | l, 0 => by simp [bareB]
  | [], n + 1 => by simp
  | [c], n + 1 => by simp
  | c :: d :: r, 1 => by
    simp only [List.take_succ_cons, List.take_zero]
    by_cases h : c = 92
    · subst h; rw [bareB_pair]; simp [bareB]
    · rw [bareB_plain h, bareB_plain h]; simp [bareB]
  | c :: d :: r, n + 2 => by
    simp only [List.take_succ_cons]
    by_cases h : c = 92
    · subst h; rw [bareB_pair, bareB_pair]; exact bareB_take r n
    · rw [bareB_plain h, bareB_plain h]
      have := bareB_take (d :: r) (n + 1)
      simp only [List.take_succ_cons] at this
      omega
  termination_by l => l.length
theorem bareB_line (p : Pt) (h : p.fields ≠ []) : bareB (lineL p) = 2 := by
  unfold lineL
  rw [bareB_esc, bareB_tags, bareB_fields _ _ _ (by decide) h, if_pos rfl, bareB_plain (by decide), if_pos rfl]
  have := bareB_no (itoa p.time).data.toList [] (fun c hc => ⟨(itoa_no _ c hc).1, (itoa_no _ c hc).2.1⟩)
  rw [List.append_nil] at this
  rw [this]
  rfl
def headL (p : Pt) : List UInt8 := escL p.m.data.toList ++ (tagsL p.tags ++ fieldsL 32 p.fields)
theorem line_head (p : Pt) : lineL p = headL p ++ 32 :: (itoa p.time).data.toList := by unfold lineL headL; simp
theorem plain_fields {p : Pt} (h : isPlainP p = true) : p.fields ≠ [] := by
  intro e
  unfold isPlainP at h
  rw [e] at h
  simp at h
/-- Cut ahead of its last blank it is no line. -/
theorem one_cut {s : ByteArray} {p : Pt} (h : oneP s = .inl p) (k : Nat) (hk : k ≤ (headL p).length) : ∃ e, oneP (s.extract 0 k) = .inr (some e) := by
  obtain ⟨h1, h2, h3, _⟩ := one_line h
  have hz : (s.extract 0 k).size ≤ 8192 := by simp; omega
  cases hq : oneP (s.extract 0 k) with
  | inl q =>
    obtain ⟨g1, g2, _⟩ := one_line hq
    have e1 : (s.extract 0 k).data.toList = s.data.toList.take k := by simp [ByteArray.data_extract, Array.toList_extract, List.extract_eq_take_drop]
    have b1 := bareB_line q (plain_fields g2)
    rw [← g1, e1, h1, line_head, List.take_append_of_le_length hk] at b1
    have b2 := bareB_take (headL p) k
    have b3 : bareB (headL p) = 1 := by
      unfold headL
      have := bareB_fields p.fields 32 [] (by decide) (plain_fields h2)
      rw [List.append_nil, if_pos rfl] at this
      rw [bareB_esc, bareB_tags, this]; rfl
    omega
  | inr o =>
    cases o with
    | some e => exact ⟨e, rfl⟩
    | none =>
      unfold oneP at hq
      rw [if_neg (by omega)] at hq
      split at hq <;> cases hq
/-- Where the last blank stands. -/
theorem last_blank {s : ByteArray} {p : Pt} (h : oneP s = .inl p) : (headL p).length < s.size ∧ s.data.toList[(headL p).length]? = some 32 ∧ ∀ j, (headL p).length < j → s.data.toList[j]? ≠ some 32 := by
  obtain ⟨h1, _⟩ := one_line h
  rw [line_head] at h1
  refine ⟨?_, ?_, ?_⟩
  · rw [← sz_list, h1]; simp
  · rw [h1, List.getElem?_append_right (Nat.le_refl _), Nat.sub_self]; rfl
  · intro j hj e
    rw [h1, List.getElem?_append_right (by omega)] at e
    obtain ⟨i, hi⟩ : ∃ i, j - (headL p).length = i + 1 := ⟨j - (headL p).length - 1, by omega⟩
    rw [hi, List.getElem?_cons_succ] at e
    have := List.mem_of_getElem? e
    exact (itoa_no _ _ this).2.1 rfl
end Go.Proofs.YtnodjijgeifejaaGreatDoor
