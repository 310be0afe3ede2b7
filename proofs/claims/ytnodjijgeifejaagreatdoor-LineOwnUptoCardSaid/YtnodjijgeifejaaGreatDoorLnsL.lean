/- Chapter 6, the plain law: the lines of a text, and what they say together. -/
import Derived.Test.YtnodjijgeifejaaGreatDoorPoint
import Derived.Lib.IndexMore
namespace Go.Proofs.YtnodjijgeifejaaGreatDoor
open Go.RowKit
set_option linter.unusedSimpArgs false
set_option linter.unusedVariables false

/-- The first line, and what stands behind it. -/
def ln1 (l : List UInt8) : List UInt8 := (Lib.cut l [10]).1
def ln2 (l : List UInt8) : List UInt8 := (Lib.cut l [10]).2.1
theorem nl_idx (l : List UInt8) : (Lib.indexByte l 10 = -1 ∧ ∀ j : Nat, l[j]? ≠ some 10) ∨ ∃ i : Nat, Lib.indexByte l 10 = i ∧ l[i]? = some 10 ∧ ∀ j : Nat, j < i → l[j]? ≠ some 10 := by
  induction l with
  | nil => exact .inl ⟨by decide, fun j => by simp⟩
  | cons b l ih =>
    by_cases h : b = 10
    · subst h
      exact .inr ⟨0, by simp [Lib.indexByte], by simp, fun j hj => by omega⟩
    · have hb : (b == 10) = false := by simpa using h
      rcases ih with ⟨h1, h2⟩ | ⟨i, h1, h2, h3⟩
      · refine .inl ⟨by simp [Lib.indexByte, hb, h1], fun j => ?_⟩
        cases j with
        | zero => simpa using h
        | succ j => simpa using h2 j
      · refine .inr ⟨i + 1, ?_, by simpa using h2, fun j hj => ?_⟩
        · have e : ¬ ((i : Nat) : Int) = -1 := by omega
          simp [Lib.indexByte, hb, h1, e]
        · cases j with
          | zero => simpa using h
          | succ j => simpa using h3 j (by omega)
theorem ln_none {l : List UInt8} (h : ∀ j : Nat, l[j]? ≠ some 10) : ln1 l = l ∧ ln2 l = [] := by
  rcases nl_idx l with ⟨h1, _⟩ | ⟨i, _, h2, _⟩
  · unfold ln1 ln2 Lib.cut
    rw [Lib.index_one, h1]
    exact ⟨rfl, rfl⟩
  · exact absurd h2 (h i)
theorem ln_at {l : List UInt8} {k : Nat} (hk : l[k]? = some 10) (h : ∀ j : Nat, j < k → l[j]? ≠ some 10) : ln1 l = l.take k ∧ ln2 l = l.drop (k + 1) := by
  rcases nl_idx l with ⟨_, h1⟩ | ⟨i, h1, h2, h3⟩
  · exact absurd hk (h1 k)
  · have e : i = k := by
      rcases Nat.lt_trichotomy i k with q | q | q
      · exact absurd h2 (h i q)
      · exact q
      · exact absurd hk (h3 k q)
    subst e
    unfold ln1 ln2 Lib.cut
    rw [Lib.index_one, h1, if_pos (by omega)]
    exact ⟨by simp, by simp⟩
theorem ln2_lt {l : List UInt8} (h : l ≠ []) : (ln2 l).length < l.length := by
  have hp : 0 < l.length := List.length_pos_iff.2 h
  rcases nl_idx l with ⟨_, h1⟩ | ⟨i, _, h2, h3⟩
  · rw [(ln_none h1).2]; simpa using hp
  · rw [(ln_at h2 h3).2, List.length_drop]; omega
theorem ln1_le (l : List UInt8) : (ln1 l).length ≤ l.length := by
  rcases nl_idx l with ⟨_, h1⟩ | ⟨i, _, h2, h3⟩
  · rw [(ln_none h1).1]; exact Nat.le_refl _
  · rw [(ln_at h2 h3).1, List.length_take]; omega
/-- A line that says nothing. -/
def skipL : List UInt8 → Bool
  | [] => true
  | c :: _ => c == 35
/-- One line more. -/
def lineS (k : Nat) (l : List UInt8) (acc : List Pt) : Sum (List Pt) (Nat × Option Nat) :=
  if skipL l = true then .inl acc else match oneP ⟨l.toArray⟩ with | .inl p => .inl (acc ++ [p]) | .inr e => .inr (k, e)
def linesS : Nat → Nat → List UInt8 → List Pt → Sum (List Pt) (Nat × Option Nat)
  | 0, _, _, acc => .inl acc
  | f + 1, k, l, acc => if l = [] then .inl acc else match lineS k (ln1 l) acc with | .inl acc' => linesS f (k + 1) (ln2 l) acc' | .inr e => .inr e
/-- What the lines of a text say: the points, or the line's number and its error. -/
def parseS (s : ByteArray) : Sum (List Pt) (Nat × Option Nat) := linesS (s.size + 1) 0 s.data.toList []
theorem linesS_nil (f k : Nat) (acc : List Pt) : linesS f k [] acc = .inl acc := by
  cases f with
  | zero => rfl
  | succ f => simp [linesS]
theorem linesS_go {f k : Nat} {l : List UInt8} {acc acc' : List Pt} {R} (h : linesS f k l acc = R) (hf : l.length < f) (hl : l ≠ []) (hs : lineS k (ln1 l) acc = .inl acc') : linesS (f - 1) (k + 1) (ln2 l) acc' = R ∧ (ln2 l).length < f - 1 := by
  obtain ⟨g, rfl⟩ : ∃ g, f = g + 1 := ⟨f - 1, by omega⟩
  unfold linesS at h
  rw [if_neg hl, hs] at h
  have := ln2_lt hl
  exact ⟨h, by omega⟩
theorem linesS_bad {f k : Nat} {l : List UInt8} {acc : List Pt} {R} {e : Nat × Option Nat} (h : linesS f k l acc = R) (hf : l.length < f) (hl : l ≠ []) (hs : lineS k (ln1 l) acc = .inr e) : R = .inr e := by
  obtain ⟨g, rfl⟩ : ∃ g, f = g + 1 := ⟨f - 1, by omega⟩
  unfold linesS at h
  rw [if_neg hl, hs] at h
  exact h.symm
theorem lineS_skip {k : Nat} {l : List UInt8} {acc : List Pt} (h : skipL l = true) : lineS k l acc = .inl acc := by unfold lineS; rw [if_pos h]
theorem lineS_ok {k : Nat} {l : List UInt8} {acc : List Pt} {p : Pt} (h : skipL l = false) (hp : oneP ⟨l.toArray⟩ = .inl p) : lineS k l acc = .inl (acc ++ [p]) := by
  unfold lineS
  rw [h, hp]
  rfl
theorem lineS_no {k : Nat} {l : List UInt8} {acc : List Pt} {e : Option Nat} (h : skipL l = false) (hp : oneP ⟨l.toArray⟩ = .inr e) : lineS k l acc = .inr (k, e) := by
  unfold lineS
  rw [h, hp]
  rfl
/-- The lines by places: the line from a to i. -/
theorem ln_cut {s : ByteArray} {a i : Nat} (hai : a ≤ i) (hi : i < s.size) (hc : s[i] = 10) (hno : ∀ j (hj : j < s.size), a ≤ j → j < i → s[j] ≠ 10) :
    (⟨(ln1 (s.data.toList.drop a)).toArray⟩ : ByteArray) = s.extract a i ∧ ln2 (s.data.toList.drop a) = s.data.toList.drop (i + 1) := by
  have hl : i < s.data.toList.length := hi
  have h1 : (s.data.toList.drop a)[i - a]? = some 10 := by
    rw [List.getElem?_drop, show a + (i - a) = i from by omega, List.getElem?_eq_getElem hl]
    exact congrArg some hc
  have h2 : ∀ j : Nat, j < i - a → (s.data.toList.drop a)[j]? ≠ some 10 := by
    intro j hj
    have hj' : a + j < s.data.toList.length := by omega
    rw [List.getElem?_drop, List.getElem?_eq_getElem hj']
    intro e
    exact hno (a + j) (by show a + j < s.data.toList.length; omega) (by omega) (by omega) (Option.some.inj e)
  have h3 := ln_at h1 h2
  refine ⟨?_, ?_⟩
  · rw [h3.1]
    apply ByteArray.ext
    apply Array.ext'
    simp [List.extract_eq_take_drop]
  · rw [h3.2, List.drop_drop]
    congr 1
    omega
theorem ln_end {s : ByteArray} {a : Nat} (ha : a ≤ s.size) (hno : ∀ j (hj : j < s.size), a ≤ j → s[j] ≠ 10) :
    (⟨(ln1 (s.data.toList.drop a)).toArray⟩ : ByteArray) = s.extract a s.size ∧ ln2 (s.data.toList.drop a) = [] := by
  have h2 : ∀ j : Nat, (s.data.toList.drop a)[j]? ≠ some 10 := by
    intro j e
    rw [List.getElem?_drop] at e
    obtain ⟨hj, e'⟩ := List.getElem?_eq_some_iff.1 e
    exact hno (a + j) hj (by omega) e'
  have h3 := ln_none h2
  refine ⟨?_, h3.2⟩
  rw [h3.1]
  apply ByteArray.ext
  apply Array.ext'
  have hs : s.size = s.data.toList.length := rfl
  simp only [Array.toList_extract, ByteArray.data_extract, List.extract_eq_take_drop]
  rw [List.take_of_length_le (by rw [List.length_drop, hs]; exact Nat.le_refl _)]
theorem skip_extract {s : ByteArray} {a i : Nat} (hai : a < i) (hi : i ≤ s.size) : skipL (s.extract a i).data.toList = (s.data.toList[a]? == some 35) := by
  have hl : a < s.data.toList.length := by show a < s.size; omega
  have e : (s.extract a i).data.toList = s.data.toList[a] :: ((s.data.toList.drop (a + 1)).take (i - a - 1)) := by
    have h1 : (s.extract a i).data.toList = (s.data.toList.drop a).take (i - a) := by simp [List.extract_eq_take_drop]
    rw [h1, List.drop_eq_getElem_cons hl, show i - a = (i - a - 1) + 1 from by omega, List.take_succ_cons]
    simp
  rw [e, List.getElem?_eq_getElem hl]
  rfl
/-- One line of the walk by places. -/
theorem ref_step {s : ByteArray} {a i f k : Nat} {acc : List Pt} {R : Sum (List Pt) (Nat × Option Nat)} (hai : a ≤ i) (hi : i ≤ s.size) (hno : ∀ j (hj : j < s.size), a ≤ j → j < i → s[j] ≠ 10) (hend : i = s.size ∨ ∃ h : i < s.size, s[i] = 10)
    (h : linesS f k (s.data.toList.drop a) acc = R) (hf : (s.data.toList.drop a).length < f) :
    (∀ acc', lineS k (s.extract a i).data.toList acc = .inl acc' → ∃ f', linesS f' (k + 1) (s.data.toList.drop (i + 1)) acc' = R ∧ (s.data.toList.drop (i + 1)).length < f') ∧ (∀ e, lineS k (s.extract a i).data.toList acc = .inr e → R = .inr e) := by
  have hsz : s.size = s.data.toList.length := rfl
  by_cases h0 : s.data.toList.drop a = []
  · have ha : s.size ≤ a := by rw [hsz]; exact List.drop_eq_nil_iff.1 h0
    have e : (s.extract a i).data.toList = [] := by
      have : (s.extract a i).size = 0 := by rw [ByteArray.size_extract]; omega
      exact List.length_eq_zero_iff.1 this
    rw [h0, linesS_nil] at h
    rw [e, lineS_skip rfl]
    have e2 : s.data.toList.drop (i + 1) = [] := List.drop_eq_nil_iff.2 (by omega)
    refine ⟨fun acc' hacc => ?_, fun e' he => by cases he⟩
    obtain rfl := Sum.inl.inj hacc
    exact ⟨1, by rw [e2, linesS_nil]; exact h, by rw [e2]; decide⟩
  · have hx : (⟨(ln1 (s.data.toList.drop a)).toArray⟩ : ByteArray) = s.extract a i ∧ ln2 (s.data.toList.drop a) = s.data.toList.drop (i + 1) := by
      rcases hend with rfl | ⟨hlt, h10⟩
      · obtain ⟨h1, h2⟩ := ln_end hai (fun j hj hja => hno j hj hja hj)
        exact ⟨h1, by rw [h2]; exact (List.drop_eq_nil_iff.2 (by omega)).symm⟩
      · exact ln_cut hai hlt h10 (fun j hj h1 h2 => hno j hj h1 h2)
    have e : (s.extract a i).data.toList = ln1 (s.data.toList.drop a) := by rw [← hx.1]
    rw [e]
    refine ⟨fun acc' hacc => ?_, fun e' he => linesS_bad h hf h0 he⟩
    obtain ⟨h1, h2⟩ := linesS_go h hf h0 hacc
    rw [hx.2] at h1 h2
    exact ⟨_, h1, h2⟩
end Go.Proofs.YtnodjijgeifejaaGreatDoor
