/- Chapter 6, the plain law: what a text says as a line; and the sticky reader of the document's own answer. -/
import Derived.Test.YtnodjijgeifejaaGreatDoorPlain
namespace Go.Proofs.YtnodjijgeifejaaGreatDoor
open Go.RowKit
set_option linter.unusedSimpArgs false
set_option linter.unusedVariables false

/-- What stands at a place, or where it goes wrong. -/
inductive Rd (α : Type) where
  | ok (a : α) (at_ : Nat)
  | no (at_ : Nat)
def sp4 (c : UInt8) : Bool := c == 44 || c == 32 || c == 61 || c == 92
/-- Key and text: what is read, how many bytes; or where it goes wrong. -/
def unesc : List UInt8 → Sum (List UInt8 × Nat) Nat
  | [] => .inl ([], 0)
  | c :: r =>
    if c = 92 then
      match r with
      | [] => .inr 0
      | d :: q => if sp4 d then (match unesc q with | .inl (t, n) => .inl (d :: t, n + 2) | .inr e => .inr (e + 2)) else .inr 0
    else if sp4 c then .inl ([], 0)
    else match unesc r with | .inl (t, n) => .inl (c :: t, n + 1) | .inr e => .inr (e + 1)
structure Pt where
  m : ByteArray
  tags : List (ByteArray × ByteArray)
  fields : List (ByteArray × Int)
  time : Int
def Pt.zero : Pt := ⟨⟨#[]⟩, [], [], 0⟩
def isP (s : ByteArray) (c : UInt8) (a : Nat) : Bool := s.data.toList[a]? == some c
def pieceP (s : ByteArray) (a : Nat) : Rd ByteArray :=
  match unesc (s.data.toList.drop a) with
  | .inl (t, n) => if n = 0 then .no a else .ok ⟨t.toArray⟩ (a + n)
  | .inr e => .no (a + e)
def signP (s : ByteArray) (c : UInt8) (a : Nat) : Rd Unit := if isP s c a then .ok () (a + 1) else .no a
def endP (s : ByteArray) (a : Nat) : Nat := a + digitsP (s.data.toList.drop a)
def numberP (s : ByteArray) (a : Nat) : Rd Int :=
  if (atoiV (s.extract a (endP s a))).2 = true ∧ itoa (atoiV (s.extract a (endP s a))).1 = s.extract a (endP s a) then .ok (atoiV (s.extract a (endP s a))).1 (endP s a) else .no a
def tagsP (s : ByteArray) : Nat → Nat → List (ByteArray × ByteArray) → Rd (List (ByteArray × ByteArray))
  | 0, a, acc => .ok acc a
  | f + 1, a, acc =>
    if isP s 44 a then
      match pieceP s (a + 1) with
      | .no e => .no e
      | .ok k a1 =>
        match signP s 61 a1 with
        | .no e => .no e
        | .ok _ a2 =>
          match pieceP s a2 with
          | .no e => .no e
          | .ok v a3 => tagsP s f a3 (acc ++ [(k, v)])
    else .ok acc a
def fieldsP (s : ByteArray) : Nat → Nat → List (ByteArray × Int) → Rd (List (ByteArray × Int))
  | 0, a, acc => .ok acc a
  | f + 1, a, acc =>
    match pieceP s a with
    | .no e => .no e
    | .ok k a1 =>
      match signP s 61 a1 with
      | .no e => .no e
      | .ok _ a2 =>
        match numberP s a2 with
        | .no e => .no e
        | .ok n a3 =>
          match signP s 105 a3 with
          | .no e => .no e
          | .ok _ a4 => if isP s 44 a4 then fieldsP s f (a4 + 1) (acc ++ [(k, n)]) else .ok (acc ++ [(k, n)]) a4
def nlP (s : ByteArray) : Option Nat := if 10 ∈ s.data.toList then some (s.data.toList.findIdx (· == 10)) else none
def timeP (s : ByteArray) (m : ByteArray) (tags : List (ByteArray × ByteArray)) (fs : List (ByteArray × Int)) (a : Nat) : Rd Pt :=
  match signP s 32 a with
  | .no e => .no e
  | .ok _ a4 =>
    match numberP s a4 with
    | .no e => .no e
    | .ok t a5 => if a5 < s.size then .no a5 else .ok ⟨m, tags, fs, t⟩ a5
def restP (s : ByteArray) (m : ByteArray) (tags : List (ByteArray × ByteArray)) (a : Nat) : Rd Pt :=
  match signP s 32 a with
  | .no e => .no e
  | .ok _ a2 =>
    match fieldsP s (s.size + 1) a2 [] with
    | .no e => .no e
    | .ok fs a3 => timeP s m tags fs a3
def pointP (s : ByteArray) : Rd Pt :=
  match nlP s with
  | some i => .no i
  | none =>
    if isP s 35 0 then .no 0 else
    match pieceP s 0 with
    | .no e => .no e
    | .ok m a0 =>
      match tagsP s (s.size + 1) a0 [] with
      | .no e => .no e
      | .ok tags a1 => restP s m tags a1
/-- What a text says: a point, or the error (too long: no place; or a place). -/
def oneP (s : ByteArray) : Sum Pt (Option Nat) :=
  if 8192 < s.size then .inr none else match pointP s with | .ok p _ => .inl p | .no e => .inr (some e)

/-! The sticky reader. -/
abbrev RSt := Nat × Option Nat
def isR (s : ByteArray) (c : UInt8) (st : RSt) : Bool := st.2.isNone && isP s c st.1
def pieceR (s : ByteArray) (st : RSt) : ByteArray × RSt :=
  match st.2 with
  | some _ => (⟨#[]⟩, st)
  | none => match pieceP s st.1 with | .ok t a => (t, (a, none)) | .no e => (⟨#[]⟩, (st.1, some e))
def mustR (s : ByteArray) (c : UInt8) (st : RSt) : RSt :=
  match st.2 with
  | some _ => st
  | none => match signP s c st.1 with | .ok _ a => (a, none) | .no e => (st.1, some e)
def numberR (s : ByteArray) (st : RSt) : Int × RSt :=
  match st.2 with
  | some _ => (0, st)
  | none => match numberP s st.1 with | .ok n a => (n, (a, none)) | .no e => (0, (st.1, some e))
def tagsR (s : ByteArray) : Nat → RSt → List (ByteArray × ByteArray) → List (ByteArray × ByteArray) × RSt
  | 0, st, acc => (acc, st)
  | f + 1, st, acc =>
    if isR s 44 st then
      tagsR s f (pieceR s (mustR s 61 (pieceR s (st.1 + 1, st.2)).2)).2 (acc ++ [((pieceR s (st.1 + 1, st.2)).1, (pieceR s (mustR s 61 (pieceR s (st.1 + 1, st.2)).2)).1)])
    else (acc, st)
def fieldR (s : ByteArray) (st : RSt) : (ByteArray × Int) × RSt :=
  (((pieceR s st).1, (numberR s (mustR s 61 (pieceR s st).2)).1), mustR s 105 (numberR s (mustR s 61 (pieceR s st).2)).2)
def fieldsR (s : ByteArray) : Nat → RSt → List (ByteArray × Int) → List (ByteArray × Int) × RSt
  | 0, st, acc => (acc, st)
  | f + 1, st, acc =>
    if st.2.isSome then (acc, st)
    else if isR s 44 (fieldR s st).2 then fieldsR s f ((fieldR s st).2.1 + 1, (fieldR s st).2.2) (acc ++ [(fieldR s st).1])
    else (acc ++ [(fieldR s st).1], (fieldR s st).2)
def endR (s : ByteArray) (st : RSt) : RSt := if st.2.isNone ∧ st.1 < s.size then (st.1, some st.1) else st
def pointR (s : ByteArray) : Pt × Option Nat :=
  let m := pieceR s (0, none)
  let t := tagsR s (s.size + 1) m.2 []
  let f := fieldsR s (s.size + 1) (mustR s 32 t.2) []
  let n := numberR s (mustR s 32 f.2)
  (⟨m.1, t.1, f.1, n.1⟩, (endR s n.2).2)
def oneR (s : ByteArray) : Sum Pt (Option Nat) :=
  if 8192 < s.size then .inr none else
  match nlP s with
  | some i => .inr (some i)
  | none => if isP s 35 0 then .inr (some 0) else match (pointR s).2 with | some e => .inr (some e) | none => .inl (pointR s).1

theorem pieceR_bad (s : ByteArray) (a e : Nat) : pieceR s (a, some e) = (⟨#[]⟩, (a, some e)) := rfl
theorem mustR_bad (s : ByteArray) (c : UInt8) (a e : Nat) : mustR s c (a, some e) = (a, some e) := rfl
theorem numberR_bad (s : ByteArray) (a e : Nat) : numberR s (a, some e) = (0, (a, some e)) := rfl
theorem isR_bad (s : ByteArray) (c : UInt8) (a e : Nat) : isR s c (a, some e) = false := rfl
theorem isR_good (s : ByteArray) (c : UInt8) (a : Nat) : isR s c (a, none) = isP s c a := by simp [isR]
theorem pieceR_ok {s : ByteArray} {a b : Nat} {t : ByteArray} (h : pieceP s a = .ok t b) : pieceR s (a, none) = (t, (b, none)) := by simp [pieceR, h]
theorem pieceR_no {s : ByteArray} {a e : Nat} (h : pieceP s a = .no e) : pieceR s (a, none) = (⟨#[]⟩, (a, some e)) := by simp [pieceR, h]
theorem mustR_ok {s : ByteArray} {c : UInt8} {a b : Nat} {u : Unit} (h : signP s c a = .ok u b) : mustR s c (a, none) = (b, none) := by simp [mustR, h]
theorem mustR_no {s : ByteArray} {c : UInt8} {a e : Nat} (h : signP s c a = .no e) : mustR s c (a, none) = (a, some e) := by simp [mustR, h]
theorem numberR_ok {s : ByteArray} {a b : Nat} {n : Int} (h : numberP s a = .ok n b) : numberR s (a, none) = (n, (b, none)) := by simp [numberR, h]
theorem numberR_no {s : ByteArray} {a e : Nat} (h : numberP s a = .no e) : numberR s (a, none) = (0, (a, some e)) := by simp [numberR, h]
theorem tagsR_bad (s : ByteArray) (f a e : Nat) (acc) : tagsR s f (a, some e) acc = (acc, (a, some e)) := by
  cases f with
  | zero => rfl
  | succ f => simp [tagsR, isR_bad]
/-- What the strict reader reads the sticky reader reads, and where the strict one goes wrong the sticky one does. -/
def Agree {α : Type} (r : Rd α) (q : α × RSt) : Prop :=
  match r with
  | .ok a b => q = (a, (b, none))
  | .no e => q.2.2 = some e
theorem tags_agree (s : ByteArray) : ∀ (f a : Nat) (acc : List (ByteArray × ByteArray)), Agree (tagsP s f a acc) (tagsR s f (a, none) acc)
  | 0, a, acc => by simp [Agree, tagsP, tagsR]
  | f + 1, a, acc => by
    by_cases h : isP s 44 a = true
    · cases h1 : pieceP s (a + 1) with
      | no e => simp [Agree, tagsP, tagsR, isR_good, h, h1, pieceR_no h1, mustR_bad, pieceR_bad, tagsR_bad]
      | ok k a1 =>
        cases h2 : signP s 61 a1 with
        | no e => simp [Agree, tagsP, tagsR, isR_good, h, h1, h2, pieceR_ok h1, mustR_no h2, pieceR_bad, tagsR_bad]
        | ok u a2 =>
          cases h3 : pieceP s a2 with
          | no e => simp [Agree, tagsP, tagsR, isR_good, h, h1, h2, h3, pieceR_ok h1, mustR_ok h2, pieceR_no h3, tagsR_bad]
          | ok v a3 =>
            have ih := tags_agree s f a3 (acc ++ [(k, v)])
            simpa [tagsP, tagsR, isR_good, h, h1, h2, h3, pieceR_ok h1, mustR_ok h2, pieceR_ok h3] using ih
    · simp [Agree, tagsP, tagsR, isR_good, h]
theorem fields_agree (s : ByteArray) : ∀ (f a : Nat) (acc : List (ByteArray × Int)), Agree (fieldsP s f a acc) (fieldsR s f (a, none) acc)
  | 0, a, acc => by simp [Agree, fieldsP, fieldsR]
  | f + 1, a, acc => by
    cases h1 : pieceP s a with
    | no e => simp [Agree, fieldsP, fieldsR, fieldR, h1, pieceR_no h1, mustR_bad, numberR_bad, isR_bad]
    | ok k a1 =>
      cases h2 : signP s 61 a1 with
      | no e => simp [Agree, fieldsP, fieldsR, fieldR, h1, h2, pieceR_ok h1, mustR_no h2, mustR_bad, numberR_bad, isR_bad]
      | ok u a2 =>
        cases h3 : numberP s a2 with
        | no e => simp [Agree, fieldsP, fieldsR, fieldR, h1, h2, h3, pieceR_ok h1, mustR_ok h2, numberR_no h3, mustR_bad, isR_bad]
        | ok n a3 =>
          cases h4 : signP s 105 a3 with
          | no e => simp [Agree, fieldsP, fieldsR, fieldR, h1, h2, h3, h4, pieceR_ok h1, mustR_ok h2, numberR_ok h3, mustR_no h4, isR_bad]
          | ok u a4 =>
            by_cases h5 : isP s 44 a4 = true
            · have ih := fields_agree s f (a4 + 1) (acc ++ [(k, n)])
              simpa [fieldsP, fieldsR, fieldR, h1, h2, h3, h4, h5, pieceR_ok h1, mustR_ok h2, numberR_ok h3, mustR_ok h4, isR_good] using ih
            · simp [Agree, fieldsP, fieldsR, fieldR, h1, h2, h3, h4, h5, pieceR_ok h1, mustR_ok h2, numberR_ok h3, mustR_ok h4, isR_good]
theorem fieldsR_bad (s : ByteArray) (f a e : Nat) (acc) : fieldsR s f (a, some e) acc = (acc, (a, some e)) := by
  cases f with
  | zero => rfl
  | succ f => simp [fieldsR]
theorem one_eq (s : ByteArray) : oneR s = oneP s := by
  by_cases h0 : 8192 < s.size
  · simp [oneR, oneP, h0]
  cases h1 : nlP s with
  | some i => simp [oneR, oneP, pointP, h0, h1]
  | none =>
    by_cases h2 : isP s 35 0 = true
    · simp [oneR, oneP, pointP, h0, h1, h2]
    cases h3 : pieceP s 0 with
    | no e => simp [oneR, oneP, pointP, pointR, h0, h1, h2, h3, pieceR_no h3, tagsR_bad, mustR_bad, fieldsR_bad, numberR_bad, endR]
    | ok m a0 =>
      have ht := tags_agree s (s.size + 1) a0 []
      generalize hT : tagsR s (s.size + 1) (a0, none) [] = T at ht
      cases h4 : tagsP s (s.size + 1) a0 [] with
      | no e =>
        rw [h4] at ht
        obtain ⟨t, a, b⟩ := T
        have hb : b = some e := ht
        subst hb
        simp [oneR, oneP, pointP, pointR, h0, h1, h2, h3, h4, hT, pieceR_ok h3, mustR_bad, fieldsR_bad, numberR_bad, endR]
      | ok tags a1 =>
        rw [h4] at ht
        have hT' : T = (tags, (a1, none)) := ht
        subst hT'
        cases h5 : signP s 32 a1 with
        | no e => simp [oneR, oneP, pointP, pointR, restP, h0, h1, h2, h3, h4, h5, hT, pieceR_ok h3, mustR_no h5, mustR_bad, fieldsR_bad, numberR_bad, endR]
        | ok u a2 =>
          have hf := fields_agree s (s.size + 1) a2 []
          generalize hF : fieldsR s (s.size + 1) (a2, none) [] = F at hf
          cases h6 : fieldsP s (s.size + 1) a2 [] with
          | no e =>
            rw [h6] at hf
            obtain ⟨t, a, b⟩ := F
            have hb : b = some e := hf
            subst hb
            simp [oneR, oneP, pointP, pointR, restP, h0, h1, h2, h3, h4, h5, h6, hT, hF, pieceR_ok h3, mustR_ok h5, mustR_bad, numberR_bad, endR]
          | ok fs a3 =>
            rw [h6] at hf
            have hF' : F = (fs, (a3, none)) := hf
            subst hF'
            cases h7 : signP s 32 a3 with
            | no e => simp [oneR, oneP, pointP, pointR, restP, timeP, h0, h1, h2, h3, h4, h5, h6, h7, hT, hF, pieceR_ok h3, mustR_ok h5, mustR_no h7, numberR_bad, endR]
            | ok u a4 =>
              cases h8 : numberP s a4 with
              | no e => simp [oneR, oneP, pointP, pointR, restP, timeP, h0, h1, h2, h3, h4, h5, h6, h7, h8, hT, hF, pieceR_ok h3, mustR_ok h5, mustR_ok h7, numberR_no h8, endR]
              | ok n a5 =>
                by_cases h9 : a5 < s.size <;>
                simp [oneR, oneP, pointP, pointR, restP, timeP, h0, h1, h2, h3, h4, h5, h6, h7, h8, h9, hT, hF, pieceR_ok h3, mustR_ok h5, mustR_ok h7, numberR_ok h8, endR]
end Go.Proofs.YtnodjijgeifejaaGreatDoor
