/- Chapter 6, plain law: a plain point that is printed is read as that point. -/
import Derived.Test.YtnodjijgeifejaaGreatDoorOnlyLaw
namespace Go.Proofs.YtnodjijgeifejaaGreatDoor
open Go.RowKit
set_option linter.unusedSimpArgs false
set_option linter.unusedVariables false

/-- A name or text ends there. -/
def stopAt : List UInt8 → Bool
  | [] => true
  | c :: _ => sp4 c && !(c == 92)
theorem unesc_back : ∀ (t r : List UInt8), stopAt r = true → unesc (escL t ++ r) = .inl (t, (escL t).length)
  | [], [], _ => rfl
  | [], c :: r, h => by
    simp only [stopAt, Bool.and_eq_true, Bool.not_eq_true', beq_eq_false_iff_ne] at h
    show unesc (c :: r) = _
    rw [unesc_cons, if_neg h.2, if_pos h.1]; rfl
  | c :: t, r, h => by
    have ih := unesc_back t r h
    rw [escL_cons, List.append_assoc]
    unfold escC
    by_cases h2 : sp4 c = true
    · rw [if_pos h2]
      show unesc (92 :: c :: (escL t ++ r)) = _
      rw [unesc_cons, if_pos rfl]
      simp only
      rw [if_pos h2, ih]
      simp
    · rw [if_neg h2]
      have h1 : c ≠ 92 := fun e => h2 (by rw [e]; rfl)
      show unesc (c :: (escL t ++ r)) = _
      rw [unesc_cons, if_neg h1, if_neg h2, ih]
      simp [Nat.add_comm]
theorem piece_back {s t : ByteArray} {a : Nat} {r : List UInt8} (h : s.data.toList.drop a = escL t.data.toList ++ r) (hne : t.data.toList ≠ []) (hr : stopAt r = true) :
    pieceP s a = .ok t (a + (escL t.data.toList).length) := by
  unfold pieceP
  rw [h, unesc_back _ _ hr]
  have hz : ¬ (escL t.data.toList).length = 0 := by
    have := escL_ge t.data.toList
    have := List.length_pos_iff.2 hne
    omega
  simp only
  rw [if_neg hz]
theorem sign_back {s : ByteArray} {c : UInt8} {a : Nat} {r : List UInt8} (h : s.data.toList.drop a = c :: r) : isP s c a = true ∧ signP s c a = .ok () (a + 1) ∧ s.data.toList.drop (a + 1) = r := by
  have e : s.data.toList[a]? = some c := by
    have := List.getElem?_drop (xs := s.data.toList) (i := a) (j := 0)
    rw [h] at this
    simpa using this.symm
  have hp : isP s c a = true := by unfold isP; rw [e]; simp
  refine ⟨hp, by unfold signP; rw [if_pos hp], ?_⟩
  rw [← List.drop_drop, h]; rfl
theorem sign_not {s : ByteArray} {c : UInt8} {a : Nat} {r : List UInt8} (h : s.data.toList.drop a = r) (hr : r.head? ≠ some c) : isP s c a = false := by
  have e : s.data.toList[a]? = r.head? := by
    have := List.getElem?_drop (xs := s.data.toList) (i := a) (j := 0)
    rw [h] at this
    simp only [Nat.add_zero] at this
    rw [← this]
    cases r <;> rfl
  unfold isP
  rw [e]
  cases hq : r.head? with
  | none => rfl
  | some d =>
    have : d ≠ c := fun e => hr (by rw [hq, e])
    simp [this]
theorem runD_more (d x : List UInt8) (h : ∀ c ∈ d, isD c = true) (hx : ∀ c, x.head? = some c → isD c = false) : runD (d ++ x) = d.length := by
  induction d with
  | nil =>
    cases x with
    | nil => rfl
    | cons c r => have := hx c rfl; simp [runD, this]
  | cons c d ih =>
    have hc := h c (List.mem_cons_self ..)
    show (if isD c = true then runD (d ++ x) + 1 else 0) = _
    rw [if_pos hc, ih (fun y hy => h y (List.mem_cons_of_mem _ hy))]
    rfl
theorem digits_more (v : Int) (x : List UInt8) (hx : ∀ c, x.head? = some c → isD c = false) : digitsP ((itoa v).data.toList ++ x) = (itoa v).data.toList.length := by
  show digitsP (Lib.itoa v ++ x) = (Lib.itoa v).length
  unfold Lib.itoa
  split
  · show (if isD 45 = true ∨ (45 : UInt8) = 45 then runD (Lib.decDigits v.natAbs ++ x) + 1 else 0) = _
    rw [if_pos (Or.inr rfl), runD_more _ _ (digits_isD _) hx]
    rfl
  · have hd := digits_isD v.toNat
    obtain ⟨c, r, e, _, _⟩ := digits_head v.toNat
    rw [e] at hd ⊢
    show (if isD c = true ∨ c = 45 then runD (r ++ x) + 1 else 0) = _
    rw [if_pos (Or.inl (hd c (List.mem_cons_self ..))), runD_more _ _ (fun y hy => hd y (List.mem_cons_of_mem _ hy)) hx]
    rfl
theorem number_back {s : ByteArray} {a : Nat} {n : Int} {r : List UInt8} (hn : I64 n) (h : s.data.toList.drop a = (itoa n).data.toList ++ r) (hr : ∀ c, r.head? = some c → isD c = false) :
    numberP s a = .ok n (a + (itoa n).data.toList.length) ∧ s.data.toList.drop (a + (itoa n).data.toList.length) = r := by
  have e1 : endP s a = a + (itoa n).data.toList.length := by unfold endP; rw [h, digits_more n r hr]
  have e2 : s.extract a (a + (itoa n).data.toList.length) = itoa n := by
    apply bytes_ext
    have : (s.extract a (a + (itoa n).data.toList.length)).data.toList = (s.data.toList.drop a).take (itoa n).data.toList.length := by
      simp [ByteArray.data_extract, Array.toList_extract, List.extract_eq_take_drop]
    rw [this, h, List.take_left' rfl]
  refine ⟨?_, by rw [← List.drop_drop, h, List.drop_left' rfl]⟩
  unfold numberP
  rw [e1, e2, atoiV_itoa n hn]
  simp
theorem drop_esc {s : ByteArray} {a : Nat} {x r : List UInt8} (h : s.data.toList.drop a = x ++ r) : s.data.toList.drop (a + x.length) = r := by
  rw [← List.drop_drop, h, List.drop_left' rfl]
theorem plain_ne {t : ByteArray} (h : plainP t = true) : t.data.toList ≠ [] ∧ 10 ∉ t.data.toList := by
  unfold plainP at h
  simp only [Bool.and_eq_true, Bool.not_eq_true', List.isEmpty_eq_false_iff, decide_eq_false_iff_not] at h
  exact h
theorem tags_back {s : ByteArray} : ∀ (l : List (ByteArray × ByteArray)) (f a : Nat) (acc : List (ByteArray × ByteArray)) (r : List UInt8), s.data.toList.drop a = tagsL l ++ r → (∀ t ∈ l, plainP t.1 = true ∧ plainP t.2 = true) → stopAt r = true → r.head? ≠ some 44 → l.length < f →
    tagsP s f a acc = .ok (acc ++ l) (a + (tagsL l).length) ∧ s.data.toList.drop (a + (tagsL l).length) = r
  | [], f + 1, a, acc, r, h, _, _, hr, _ => by
    rw [show tagsL [] ++ r = r from rfl] at h
    unfold tagsP
    rw [sign_not h hr]
    simp [tagsL, h]
  | t :: l, f + 1, a, acc, r, h, hp, hs, hr, hf => by
    obtain ⟨k, v⟩ := t
    obtain ⟨pk, pv⟩ := hp _ (List.mem_cons_self ..)
    have e : tagsL ((k, v) :: l) = 44 :: (escL k.data.toList ++ 61 :: (escL v.data.toList ++ tagsL l)) := by simp [tagsL]
    rw [e] at h ⊢
    have h0 : s.data.toList.drop a = 44 :: (escL k.data.toList ++ (61 :: (escL v.data.toList ++ (tagsL l ++ r)))) := by rw [h]; simp
    obtain ⟨g0, _, h1⟩ := sign_back h0
    have g1 := piece_back h1 (plain_ne pk).1 (by rfl)
    have h2 := drop_esc h1
    obtain ⟨_, g2, h3⟩ := sign_back h2
    have hst : stopAt (tagsL l ++ r) = true := by
      cases l with
      | nil => exact hs
      | cons t l => simp [tagsL]; rfl
    have g3 := piece_back h3 (plain_ne pv).1 hst
    have h4 := drop_esc h3
    obtain ⟨i1, i2⟩ := tags_back l f _ (acc ++ [(k, v)]) r h4 (fun t ht => hp t (List.mem_cons_of_mem _ ht)) hs hr (by simp at hf; omega)
    unfold tagsP
    rw [if_pos g0, g1]
    simp only
    rw [g2]
    simp only
    rw [g3]
    simp only
    rw [i1]
    refine ⟨?_, ?_⟩
    · simp; omega
    · rw [← i2]; congr 1; simp; omega
theorem fields_back {s : ByteArray} : ∀ (l : List (ByteArray × Int)) (f a : Nat) (acc : List (ByteArray × Int)) (r : List UInt8) (sep : UInt8), sep :: s.data.toList.drop a = fieldsL sep l ++ r → l ≠ [] → (∀ t ∈ l, plainP t.1 = true ∧ I64 t.2) → r.head? ≠ some 44 → l.length < f →
    fieldsP s f a acc = .ok (acc ++ l) (a + (fieldsL sep l).length - 1) ∧ s.data.toList.drop (a + (fieldsL sep l).length - 1) = r
  | [], _, _, _, _, _, _, h, _, _, _ => absurd rfl h
  | t :: l, f + 1, a, acc, r, sep, h, _, hp, hr, hf => by
    obtain ⟨k, n⟩ := t
    obtain ⟨pk, pn⟩ := hp _ (List.mem_cons_self ..)
    have e : fieldsL sep ((k, n) :: l) = sep :: (escL k.data.toList ++ 61 :: ((itoa n).data.toList ++ 105 :: fieldsL 44 l)) := by simp [fieldsL, fieldL]
    rw [e] at h ⊢
    have h0 : s.data.toList.drop a = escL k.data.toList ++ (61 :: ((itoa n).data.toList ++ (105 :: (fieldsL 44 l ++ r)))) := by
      have := (List.cons.inj h).2
      rw [this]; simp
    have g1 := piece_back h0 (plain_ne pk).1 (by rfl)
    have h2 := drop_esc h0
    obtain ⟨_, g2, h3⟩ := sign_back h2
    obtain ⟨g3, h4⟩ := number_back pn h3 (by rintro c ⟨rfl⟩; decide)
    obtain ⟨_, g4, h5⟩ := sign_back h4
    unfold fieldsP
    rw [g1]
    simp only
    rw [g2]
    simp only
    rw [g3]
    simp only
    rw [g4]
    simp only
    cases l with
    | nil =>
      have h6 : s.data.toList.drop (a + (escL k.data.toList).length + 1 + (itoa n).data.toList.length + 1) = r := h5
      rw [sign_not h6 hr]
      simp only [Bool.false_eq_true, if_false]
      refine ⟨?_, ?_⟩
      · simp [fieldsL]; omega
      · rw [← h6]; congr 1; simp [fieldsL]; omega
    | cons t l =>
      have e5 : fieldsL 44 (t :: l) ++ r = 44 :: ((fieldsL 44 (t :: l)).tail ++ r) := by simp [fieldsL, fieldL]
      have h6 : s.data.toList.drop (a + (escL k.data.toList).length + 1 + (itoa n).data.toList.length + 1) = 44 :: ((fieldsL 44 (t :: l)).tail ++ r) := by rw [h5, e5]
      obtain ⟨g5, _, h7⟩ := sign_back h6
      obtain ⟨i1, i2⟩ := fields_back (t :: l) f (a + (escL k.data.toList).length + 1 + (itoa n).data.toList.length + 1 + 1) (acc ++ [(k, n)]) r 44 (by rw [h7, e5]) (by simp) (fun t ht => hp t (List.mem_cons_of_mem _ ht)) hr (by simp at hf ⊢; omega)
      rw [if_pos g5, i1]
      refine ⟨?_, ?_⟩
      · simp; omega
      · rw [← i2]; congr 1; simp; omega
theorem len_tags (l : List (ByteArray × ByteArray)) : l.length ≤ (tagsL l).length := by
  induction l with
  | nil => exact Nat.zero_le _
  | cons t l ih => simp [tagsL] at ih ⊢; omega
theorem len_fields (l : List (ByteArray × Int)) : ∀ sep, l.length ≤ (fieldsL sep l).length := by
  induction l with
  | nil => intro sep; exact Nat.zero_le _
  | cons t l ih => intro sep; have := ih 44; simp [fieldsL, fieldL]; omega
theorem escL_noNl {t : List UInt8} (h : 10 ∉ t) : 10 ∉ escL t := by
  induction t with
  | nil => simp [escL]
  | cons c t ih =>
    rw [escL_cons]
    simp only [List.mem_cons, not_or] at h
    intro hm
    rcases List.mem_append.1 hm with h1 | h1
    · unfold escC at h1
      split at h1
      · rcases List.mem_cons.1 h1 with h2 | h2
        · exact absurd h2 (by decide)
        · exact h.1 (List.mem_singleton.1 h2)
      · exact h.1 (List.mem_singleton.1 h1)
    · exact ih h.2 h1
/-- A plain point, printed, is read as that point. -/
theorem line_one {s : ByteArray} {p : Pt} (h : isPlainP p = true) (hl : s.data.toList = lineL p) (h8 : s.size ≤ 8192) (ht : I64 p.time) (hf : ∀ f ∈ p.fields, I64 f.2) : oneP s = .inl p := by
  have hfne := plain_fields h
  unfold isPlainP at h
  simp only [Bool.and_eq_true, Bool.not_eq_true', List.all_eq_true] at h
  obtain ⟨⟨⟨⟨pm, ph⟩, _⟩, pt⟩, pf⟩ := h
  obtain ⟨mne, mnl⟩ := plain_ne pm
  have hN : nlP s = none := by
    unfold nlP
    rw [if_neg]
    rw [hl]
    unfold lineL
    intro hm
    have ht : 10 ∉ tagsL p.tags := by
      intro hm
      unfold tagsL at hm
      obtain ⟨t, h1, h2⟩ := List.mem_flatMap.1 hm
      rcases List.mem_cons.1 h2 with h3 | h3
      · exact absurd h3 (by decide)
      · rcases List.mem_append.1 h3 with h4 | h4
        · exact escL_noNl (plain_ne (pt t h1).1).2 h4
        · rcases List.mem_cons.1 h4 with h5 | h5
          · exact absurd h5 (by decide)
          · exact escL_noNl (plain_ne (pt t h1).2).2 h5
    have hfl : ∀ (l : List (ByteArray × Int)) sep, sep ≠ 10 → (∀ f ∈ l, plainP f.1 = true) → 10 ∉ fieldsL sep l := by
      intro l
      induction l with
      | nil => intro sep _ _ hm; cases hm
      | cons f l ih =>
        intro sep hs hp hm
        unfold fieldsL at hm
        rcases List.mem_append.1 hm with h1 | h1
        · unfold fieldL at h1
          rcases List.mem_cons.1 h1 with h2 | h2
          · exact hs h2.symm
          · rcases List.mem_append.1 h2 with h3 | h3
            · exact escL_noNl (plain_ne (hp f (List.mem_cons_self ..))).2 h3
            · rcases List.mem_cons.1 h3 with h4 | h4
              · exact absurd h4 (by decide)
              · rcases List.mem_append.1 h4 with h5 | h5
                · exact (itoa_no _ _ h5).2.2.2.2.1 rfl
                · exact absurd (List.mem_singleton.1 h5) (by decide)
        · exact ih 44 (by decide) (fun f hf => hp f (List.mem_cons_of_mem _ hf)) h1
    rcases List.mem_append.1 hm with h1 | h1
    · exact escL_noNl mnl h1
    · rcases List.mem_append.1 h1 with h2 | h2
      · exact ht h2
      · rcases List.mem_append.1 h2 with h3 | h3
        · exact hfl _ 32 (by decide) (fun f hf => pf f hf) h3
        · rcases List.mem_cons.1 h3 with h4 | h4
          · exact absurd h4 (by decide)
          · exact (itoa_no _ _ h4).2.2.2.2.1 rfl
  have hH : isP s 35 0 = false := by
    refine sign_not (r := s.data.toList) (by simp) ?_
    rw [hl]
    unfold lineL
    cases hm : p.m.data.toList with
    | nil => exact absurd hm mne
    | cons c r =>
      have hc : c ≠ 35 := by
        rintro rfl
        have : isP p.m 35 0 = true := by unfold isP; rw [hm]; rfl
        rw [this] at ph; cases ph
      rw [escL_cons]
      unfold escC
      split
      · simp
      · simpa using hc
  have hsz : s.size = (lineL p).length := by rw [← hl]; rfl
  have hlen : p.tags.length < s.size + 1 ∧ p.fields.length < s.size + 1 := by
    have h1 := len_tags p.tags
    have h2 := len_fields p.fields 32
    have h3 : (lineL p).length = (escL p.m.data.toList).length + ((tagsL p.tags).length + ((fieldsL 32 p.fields).length + ((itoa p.time).data.toList.length + 1))) := by unfold lineL; simp
    omega
  have h0 : s.data.toList.drop 0 = escL p.m.data.toList ++ (tagsL p.tags ++ (fieldsL 32 p.fields ++ 32 :: (itoa p.time).data.toList)) := by rw [List.drop_zero, hl]; rfl
  have hfhead : ∃ r, fieldsL 32 p.fields ++ 32 :: (itoa p.time).data.toList = 32 :: r ∧ 32 :: r = fieldsL 32 p.fields ++ 32 :: (itoa p.time).data.toList := by
    cases hp : p.fields with
    | nil => exact absurd hp hfne
    | cons f l => exact ⟨_, by simp [fieldsL, fieldL]; rfl, by simp [fieldsL, fieldL]⟩
  obtain ⟨r, hr, hr'⟩ := hfhead
  have hst : stopAt (tagsL p.tags ++ (fieldsL 32 p.fields ++ 32 :: (itoa p.time).data.toList)) = true := by
    rw [hr]
    cases p.tags with
    | nil => rfl
    | cons t l => simp [tagsL]; rfl
  have g1 := piece_back h0 mne hst
  have h1 := drop_esc h0
  obtain ⟨g2, h2⟩ := tags_back p.tags (s.size + 1) _ [] (fieldsL 32 p.fields ++ 32 :: (itoa p.time).data.toList) h1 (fun t ht => by have := pt t ht; simpa using this) (by rw [hr]; rfl) (by rw [hr]; simp) hlen.1
  rw [hr] at h2
  obtain ⟨_, g3, h3⟩ := sign_back h2
  obtain ⟨g4, h4⟩ := fields_back p.fields (s.size + 1) _ [] (32 :: (itoa p.time).data.toList) 32 (by rw [h3]; exact hr') hfne (fun f hf' => ⟨pf f hf', hf f hf'⟩) (by simp) hlen.2
  obtain ⟨_, g5, h5⟩ := sign_back h4
  obtain ⟨g6, h6⟩ := number_back (r := []) ht (by rw [h5, List.append_nil]) (by simp)
  unfold oneP
  rw [if_neg (by omega)]
  unfold pointP
  rw [hN]
  simp only
  rw [hH]
  simp only [Bool.false_eq_true, if_false]
  rw [g1]
  simp only
  rw [g2]
  simp only
  unfold restP
  rw [g3]
  simp only
  rw [g4]
  simp only
  unfold timeP
  rw [g5]
  simp only
  rw [g6]
  simp only
  have hend := List.drop_eq_nil_iff.1 h6
  rw [sz_list] at hend
  rw [if_neg (by omega)]
  rfl
end Go.Proofs.YtnodjijgeifejaaGreatDoor
