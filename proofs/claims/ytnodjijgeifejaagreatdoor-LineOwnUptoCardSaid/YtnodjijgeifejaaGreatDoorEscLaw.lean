/- Key and line, the plain law of writing: a text as it stands in a key or a line; which points can be a line; a point as a line. -/
import Derived.Test.YtnodjijgeifejaaGreatDoorUnescLaw
import Derived.Test.YtnodjijgeifejaaGreatDoorPoint
namespace Go.Proofs.YtnodjijgeifejaaGreatDoor
open Go.RowKit
set_option linter.unusedSimpArgs false
set_option linter.unusedVariables false

def escC (c : UInt8) : List UInt8 := if sp4 c then [92, c] else [c]
def escL (l : List UInt8) : List UInt8 := l.flatMap escC
theorem escC_len (c : UInt8) : (escC c).length ≤ 2 := by unfold escC; split <;> simp
theorem escL_cons (c : UInt8) (r : List UInt8) : escL (c :: r) = escC c ++ escL r := by simp [escL]
theorem escL_len : ∀ l : List UInt8, (escL l).length ≤ 2 * l.length
  | [] => by simp [escL]
  | c :: r => by
    have := escL_len r
    have := escC_len c
    rw [escL_cons, List.length_append, List.length_cons]
    omega
theorem escL_ge : ∀ l : List UInt8, l.length ≤ (escL l).length
  | [] => by simp
  | c :: r => by
    have := escL_ge r
    rw [escL_cons, List.length_append, List.length_cons]
    have : 1 ≤ (escC c).length := by unfold escC; split <;> simp
    omega
theorem escL_app (a b : List UInt8) : escL (a ++ b) = escL a ++ escL b := by simp [escL]
theorem escL_one (c : UInt8) : escL [c] = if sp4 c then [92, c] else [c] := by simp [escL, escC]
theorem escL_take {l : List UInt8} {i : Nat} (h : i < l.length) : escL (l.take (i + 1)) = escL (l.take i) ++ (if sp4 l[i] then [92, l[i]] else [l[i]]) := by
  rw [List.take_succ_eq_append_getElem h, escL_app, escL_one]
def plainP (s : ByteArray) : Bool := !s.data.toList.isEmpty && !decide (10 ∈ s.data.toList)
def isPlainP (p : Pt) : Bool := plainP p.m && !isP p.m 35 0 && !p.fields.isEmpty && p.tags.all (fun t => plainP t.1 && plainP t.2) && p.fields.all (fun f => plainP f.1)
def tagsL (l : List (ByteArray × ByteArray)) : List UInt8 := l.flatMap fun t => 44 :: (escL t.1.data.toList ++ 61 :: escL t.2.data.toList)
def fieldL (sep : UInt8) (f : ByteArray × Int) : List UInt8 := sep :: (escL f.1.data.toList ++ 61 :: ((itoa f.2).data.toList ++ [105]))
def fieldsL : UInt8 → List (ByteArray × Int) → List UInt8
  | _, [] => []
  | sep, f :: r => fieldL sep f ++ fieldsL 44 r
def lineL (p : Pt) : List UInt8 := escL p.m.data.toList ++ (tagsL p.tags ++ (fieldsL 32 p.fields ++ 32 :: (itoa p.time).data.toList))
/-- What a point is as a line, or the number of the error. -/
def printP (p : Pt) : Sum ByteArray Int := if isPlainP p then (if 8192 < (lineL p).length then .inr 6 else .inl ⟨(lineL p).toArray⟩) else .inr 60
theorem tagsL_app (a b : List (ByteArray × ByteArray)) : tagsL (a ++ b) = tagsL a ++ tagsL b := by simp [tagsL]
theorem fieldsL_snoc : ∀ (sep : UInt8) (a : List (ByteArray × Int)) (f : ByteArray × Int), fieldsL sep (a ++ [f]) = fieldsL sep a ++ fieldL (if a.isEmpty then sep else 44) f
  | sep, [], f => by simp [fieldsL]
  | sep, g :: r, f => by
    have := fieldsL_snoc 44 r f
    simp only [List.cons_append, fieldsL, this]
    cases r <;> simp [List.append_assoc]
theorem tagsL_take (l : List (ByteArray × ByteArray)) (i : Nat) : (tagsL (l.take i)).length ≤ (tagsL l).length := by
  have h := tagsL_app (l.take i) (l.drop i)
  rw [List.take_append_drop] at h
  rw [h, List.length_append]
  omega
theorem tagsL_step (l : List (ByteArray × ByteArray)) (i : Nat) (h : i < l.length) : tagsL (l.take (i + 1)) = tagsL (l.take i) ++ (44 :: (escL l[i].1.data.toList ++ 61 :: escL l[i].2.data.toList)) := by
  rw [List.take_succ_eq_append_getElem h, tagsL_app]
  simp [tagsL]
theorem fieldsL_app : ∀ (sep : UInt8) (a b : List (ByteArray × Int)), fieldsL sep (a ++ b) = fieldsL sep a ++ fieldsL (if a.isEmpty then sep else 44) b
  | sep, [], b => by simp [fieldsL]
  | sep, g :: r, b => by
    have := fieldsL_app 44 r b
    simp only [List.cons_append, fieldsL, this]
    cases r <;> simp [List.append_assoc]
theorem fieldsL_take (sep : UInt8) (l : List (ByteArray × Int)) (i : Nat) : (fieldsL sep (l.take i)).length ≤ (fieldsL sep l).length := by
  have h := fieldsL_app sep (l.take i) (l.drop i)
  rw [List.take_append_drop] at h
  rw [h, List.length_append]
  omega
theorem fieldsL_step (sep : UInt8) (l : List (ByteArray × Int)) (i : Nat) (h : i < l.length) : fieldsL sep (l.take (i + 1)) = fieldsL sep (l.take i) ++ fieldL (if i = 0 then sep else 44) l[i] := by
  rw [List.take_succ_eq_append_getElem h, fieldsL_snoc]
  congr 2
  cases i with
  | zero => simp
  | succ i => simp; intro e; rw [e] at h; simp at h
/-- A text as it stands in a key or a line. -/
def escS (s : ByteArray) : ByteArray := ⟨(escL s.data.toList).toArray⟩
theorem escS_data (s : ByteArray) : (escS s).data.toList = escL s.data.toList := by simp [escS]
theorem escS_size (s : ByteArray) : (escS s).size = (escL s.data.toList).length := by simp [escS, ByteArray.size]
theorem tag_len (l : List (ByteArray × ByteArray)) (i : Nat) (h : i < l.length) : (escL l[i].1.data.toList).length + (escL l[i].2.data.toList).length + 2 + (tagsL (l.take i)).length ≤ (tagsL l).length := by
  have h1 := tagsL_take l (i + 1)
  rw [tagsL_step l i h] at h1
  simp at h1
  omega
theorem fld_len (sep : UInt8) (l : List (ByteArray × Int)) (i : Nat) (h : i < l.length) : (escL l[i].1.data.toList).length + (itoa l[i].2).data.toList.length + 3 + (fieldsL sep (l.take i)).length ≤ (fieldsL sep l).length := by
  have h1 := fieldsL_take sep l (i + 1)
  rw [fieldsL_step sep l i h] at h1
  simp [fieldL] at h1
  simp
  omega
end Go.Proofs.YtnodjijgeifejaaGreatDoor
