/- Chapter 12, plain: what a text says at a place, token by token. Numbers without zeros ahead, plain: their digits are their numeral. Chapter 12, plain: a text as a name, as a text; and back. Chapter 12, plain: the tokens of a text; their places. Chapter 12, plain: the tokens of two texts. strings.Replacer's answer, plain: how long a text in quotes is. Chapter 12, plain: the tokens, each as it stands, a blank between, are the same tokens again. -/
import Derived.Test.YtmooibnedokllaaGreatDoorSpanL
import Derived.Test.YtmooibnedokllaaGreatDoorPad
namespace Go.Proofs.YtmooibnedokllaaGreatDoor
open Go.RowKit
set_option linter.unusedSimpArgs false
set_option linter.unusedVariables false
section

def blankC (c : UInt8) : Bool := c == 32 || c == 9 || c == 10 || c == 13
def letterC (c : UInt8) : Bool := (decide (97 ≤ c.toNat) && decide (c.toNat ≤ 122)) || (decide (65 ≤ c.toNat) && decide (c.toNat ≤ 90)) || c == 95
def wordC (c : UInt8) : Bool := letterC c || isD c
/-- How many bytes at the front are of a kind. -/
def runP (p : UInt8 → Bool) : List UInt8 → Nat
  | [] => 0
  | c :: r => if p c = true then runP p r + 1 else 0
theorem runP_le (p : UInt8 → Bool) : ∀ l, runP p l ≤ l.length
  | [] => Nat.le_refl _
  | c :: r => by
    show (if p c = true then runP p r + 1 else 0) ≤ r.length + 1
    have := runP_le p r
    split <;> omega
theorem runP_step (p : UInt8 → Bool) (l : List UInt8) (i : Nat) (h : i < l.length) : runP p (l.drop i) = if p l[i] = true then runP p (l.drop (i + 1)) + 1 else 0 := by
  rw [List.drop_eq_getElem_cons h]; rfl
theorem runP_end (p : UInt8 → Bool) {l : List UInt8} {i : Nat} (h : l.length ≤ i) : runP p (l.drop i) = 0 := by
  rw [List.drop_eq_nil_of_le h]; rfl
structure Tok where
  kind : Int
  text : ByteArray
  n : Int
  pos : Int
def Tok.zero : Tok := ⟨0, ⟨#[]⟩, 0, 0⟩
/-- What stands in quotes: the text and how many bytes with the closing quote; or where it goes wrong (nowhere: it is not closed). -/
def qL (q : UInt8) : List UInt8 → Sum (List UInt8 × Nat) (Option Nat)
  | [] => .inr none
  | c :: r =>
    if c = q then .inl ([], 1)
    else if c = 92 then
      match r with
      | [] => .inr (some 0)
      | d :: r' => if d = q ∨ d = 92 then (match qL q r' with | .inl (t, n) => .inl (d :: t, n + 2) | .inr none => .inr none | .inr (some e) => .inr (some (e + 2))) else .inr (some 0)
    else match qL q r with | .inl (t, n) => .inl (c :: t, n + 1) | .inr none => .inr none | .inr (some e) => .inr (some (e + 1))
/-- How many bytes a sign has; 0: there is none. -/
def signN (c : UInt8) (d : Option UInt8) : Nat :=
  if c = 33 then (if d = some 61 then 2 else 0)
  else if c = 60 ∨ c = 62 then (if d = some 61 then 2 else 1)
  else if c = 44 ∨ c = 40 ∨ c = 41 ∨ c = 43 ∨ c = 45 ∨ c = 42 ∨ c = 47 ∨ c = 37 ∨ c = 61 then 1 else 0
/-- A token and where it ends; or the error's number and place. -/
abbrev NextR := Sum (Tok × Nat) (Int × Option Nat)
def numberT (s : ByteArray) (a e : Nat) : NextR :=
  if runD ((s.extract a e).data.toList) = (s.extract a e).size then
    if decN (s.extract a e).data.toList ≤ 9223372036854775807 then .inl (⟨4, s.extract a e, (decN (s.extract a e).data.toList : Int), a⟩, e) else .inr (122, some a)
  else if (parseP (s.extract a e).data.toList).2 = 0 then .inl (⟨5, s.extract a e, (parseP (s.extract a e).data.toList).1, a⟩, e) else .inr (122, some a)
def quotedT (s : ByteArray) (a : Nat) (q : UInt8) : NextR :=
  match qL q (s.data.toList.drop (a + 1)) with
  | .inl (t, n) => .inl (⟨if q = 39 then 3 else 2, ⟨t.toArray⟩, 0, a⟩, a + 1 + n)
  | .inr none => .inr (121, some a)
  | .inr (some e) => .inr (121, some (a + 1 + e))
def tokAt (s : ByteArray) (a : Nat) : NextR :=
  match s.data.toList[a]? with
  | none => .inl (⟨0, ⟨#[]⟩, 0, a⟩, a)
  | some c =>
    if letterC c = true then .inl (⟨1, s.extract a (a + runP wordC (s.data.toList.drop a)), 0, a⟩, a + runP wordC (s.data.toList.drop a))
    else if isD c = true then numberT s a (a + runP wordC (s.data.toList.drop a))
    else if c = 34 ∨ c = 39 then quotedT s a c
    else if signN c s.data.toList[a + 1]? = 0 then .inr (120, some a)
    else .inl (⟨6, s.extract a (a + signN c s.data.toList[a + 1]?), 0, a⟩, a + signN c s.data.toList[a + 1]?)
/-- Next. -/
def nextP (s : ByteArray) (at_ : Int) : NextR :=
  if 0 ≤ at_ ∧ at_ ≤ s.size then tokAt s (at_.toNat + runP blankC (s.data.toList.drop at_.toNat)) else .inr (2, none)
def combQ (acc : List UInt8) (i : Nat) : Sum (List UInt8 × Nat) (Option Nat) → Sum (List UInt8 × Nat) (Option Nat)
  | .inl (t, n) => .inl (acc ++ t, i + n)
  | .inr none => .inr none
  | .inr (some e) => .inr (some (i + e))
theorem combQ_zero (r) : combQ [] 0 r = r := by
  rcases r with ⟨t, n⟩ | _ | e <;> simp [combQ]
theorem combQ_combQ (a b : List UInt8) (i j : Nat) (r) : combQ a i (combQ b j r) = combQ (a ++ b) (i + j) r := by
  rcases r with ⟨t, n⟩ | _ | e <;> simp [combQ, Nat.add_assoc]
theorem qL_cons (q c : UInt8) (r : List UInt8) : qL q (c :: r) =
    if c = q then .inl ([], 1)
    else if c = 92 then
      match r with
      | [] => .inr (some 0)
      | d :: r' => if d = q ∨ d = 92 then (match qL q r' with | .inl (t, n) => .inl (d :: t, n + 2) | .inr none => .inr none | .inr (some e) => .inr (some (e + 2))) else .inr (some 0)
    else match qL q r with | .inl (t, n) => .inl (c :: t, n + 1) | .inr none => .inr none | .inr (some e) => .inr (some (e + 1)) := by rw [qL.eq_def]
theorem qL_end (q : UInt8) {l : List UInt8} {i : Nat} (h : l.length ≤ i) : qL q (l.drop i) = .inr none := by rw [List.drop_eq_nil_of_le h]; rfl
theorem qL_close (q : UInt8) {l : List UInt8} {i : Nat} (h : i < l.length) (h1 : l[i] = q) : qL q (l.drop i) = .inl ([], 1) := by
  rw [List.drop_eq_getElem_cons h, qL_cons, if_pos h1]
theorem qL_plain (q : UInt8) {l : List UInt8} {i : Nat} (h : i < l.length) (h1 : ¬ l[i] = q) (h2 : ¬ l[i] = 92) : qL q (l.drop i) = combQ [l[i]] 1 (qL q (l.drop (i + 1))) := by
  rw [List.drop_eq_getElem_cons h, qL_cons, if_neg h1, if_neg h2]
  rcases qL q (l.drop (i + 1)) with ⟨t, n⟩ | _ | e <;> simp [combQ, Nat.add_comm]
theorem qL_last (q : UInt8) {l : List UInt8} {i : Nat} (h : i < l.length) (h1 : ¬ l[i] = q) (h2 : l[i] = 92) (h3 : l.length ≤ i + 1) : qL q (l.drop i) = .inr (some 0) := by
  rw [List.drop_eq_getElem_cons h, List.drop_eq_nil_of_le h3, qL_cons, if_neg h1, if_pos h2]
theorem qL_wrong (q : UInt8) {l : List UInt8} {i : Nat} (h : i + 1 < l.length) (h1 : ¬ l[i] = q) (h2 : l[i] = 92) (h3 : ¬ (l[i + 1] = q ∨ l[i + 1] = 92)) : qL q (l.drop i) = .inr (some 0) := by
  rw [List.drop_eq_getElem_cons (by omega), List.drop_eq_getElem_cons h, qL_cons, if_neg h1, if_pos h2]
  simp only []
  rw [if_neg h3]
theorem qL_pair (q : UInt8) {l : List UInt8} {i : Nat} (h : i + 1 < l.length) (h1 : ¬ l[i] = q) (h2 : l[i] = 92) (h3 : l[i + 1] = q ∨ l[i + 1] = 92) : qL q (l.drop i) = combQ [l[i + 1]] 2 (qL q (l.drop (i + 2))) := by
  rw [List.drop_eq_getElem_cons (by omega), List.drop_eq_getElem_cons h, qL_cons, if_neg h1, if_pos h2]
  simp only []
  rw [if_pos h3]
  rcases qL q (l.drop (i + 1 + 1)) with ⟨t, n⟩ | _ | e <;> simp [combQ, Nat.add_comm]
theorem qL_le (q : UInt8) : ∀ (l : List UInt8), match qL q l with | .inl (t, n) => t.length + 1 ≤ n ∧ n ≤ l.length | .inr (some e) => e < l.length | .inr none => True
  | [] => by simp [qL]
  | [c] => by
    rw [qL_cons]
    by_cases h1 : c = q
    · simp [h1]
    · by_cases h2 : c = 92
      · simp [h1, h2]
        split <;> simp_all
      · simp [h1, h2, qL]
  | c :: d :: r => by
    rw [qL_cons]
    by_cases h1 : c = q
    · simp [h1]
    · by_cases h2 : c = 92
      · have ih := qL_le q r
        by_cases h3 : d = q ∨ d = 92
        · rw [if_neg h1, if_pos h2]
          simp only []
          rw [if_pos h3]
          rcases hq : qL q r with ⟨t, n⟩ | _ | e
          · rw [hq] at ih; simp only [List.length_cons] at ih ⊢; omega
          · trivial
          · rw [hq] at ih; simp only [List.length_cons] at ih ⊢; omega
        · rw [if_neg h1, if_pos h2]
          simp only []
          rw [if_neg h3]
          simp
      · have ih := qL_le q (d :: r)
        rw [if_neg h1, if_neg h2]
        rcases hq : qL q (d :: r) with ⟨t, n⟩ | _ | e
        · rw [hq] at ih; simp only [List.length_cons] at ih ⊢; omega
        · trivial
        · rw [hq] at ih; simp only [List.length_cons] at ih ⊢; omega
  termination_by l => l.length
end
section

theorem decN_pos : ∀ (d : List UInt8), (∀ c ∈ d, isD c = true) → d ≠ [] → d.head? ≠ some 48 → 1 ≤ decN d := by
  intro d hd hne h0
  cases d with
  | nil => exact absurd rfl hne
  | cons c r =>
    have hc := isD_iff.1 (hd c (List.mem_cons_self ..))
    have hc0 : c.toNat ≠ 48 := fun e => h0 (by rw [show c = 48 from UInt8.toNat_inj.1 e]; rfl)
    show 1 ≤ decF 0 (c :: r)
    rw [decF_cons]
    have := decF_ge r (10 * 0 + (c.toNat - 48))
    omega
theorem bare_dec (d : List UInt8) (hd : ∀ c ∈ d, isD c = true) (hne : d ≠ []) (h0 : d.length = 1 ∨ d.head? ≠ some 48) : Lib.decDigits (decN d) = d := by
  refine rev_ind (P := fun d => (∀ c ∈ d, isD c = true) → d ≠ [] → (d.length = 1 ∨ d.head? ≠ some 48) → Lib.decDigits (decN d) = d) (fun _ h => absurd rfl h) ?_ d hd hne h0
  intro d c ih hd _ h0
  have hc := isD_iff.1 (hd c (List.mem_append_right _ (List.mem_singleton.2 rfl)))
  have hd' : ∀ x ∈ d, isD x = true := fun x hx => hd x (List.mem_append_left _ hx)
  have e : decN (d ++ [c]) = 10 * decN d + (c.toNat - 48) := decF_snoc 0 d c
  have hcc : UInt8.ofNat (48 + (c.toNat - 48)) = c := by
    rw [show 48 + (c.toNat - 48) = c.toNat by omega]; simp
  rw [e]
  cases d with
  | nil =>
    have e0 : decN ([] : List UInt8) = 0 := rfl
    rw [e0, Lib.decDigits, dif_pos (by omega)]
    simp only [Nat.mul_zero, Nat.zero_add, List.nil_append]
    rw [hcc]
  | cons x r =>
    have h1 : (x :: r).head? ≠ some 48 := by
      rcases h0 with h | h
      · simp at h
      · simpa using h
    have hp := decN_pos (x :: r) hd' (by simp) h1
    have hi := ih hd' (by simp) (.inr h1)
    rw [Lib.decDigits, dif_neg (by omega), show (10 * decN (x :: r) + (c.toNat - 48)) / 10 = decN (x :: r) by omega, show (10 * decN (x :: r) + (c.toNat - 48)) % 10 = c.toNat - 48 by omega, hi, hcc]
/-- Without the zeros ahead, but for the last digit. -/
def bareD : List UInt8 → List UInt8
  | 48 :: d :: r => bareD (d :: r)
  | l => l
theorem bareD_dec : ∀ l : List UInt8, decN (bareD l) = decN l ∧ (∀ c ∈ bareD l, c ∈ l) ∧ (l ≠ [] → bareD l ≠ []) ∧ (bareD l = [] ∨ (bareD l).length = 1 ∨ (bareD l).head? ≠ some 48)
  | [] => ⟨rfl, fun _ h => h, fun h => absurd rfl h, .inl rfl⟩
  | [c] => by
    have e : bareD [c] = [c] := by unfold bareD; split <;> simp_all
    rw [e]; exact ⟨rfl, fun _ h => h, fun _ => by simp, .inr (.inl rfl)⟩
  | c :: d :: r => by
    by_cases h : c = 48
    · subst h
      obtain ⟨i1, i2, i3, i4⟩ := bareD_dec (d :: r)
      have e : bareD (48 :: d :: r) = bareD (d :: r) := rfl
      rw [e]
      refine ⟨?_, fun x hx => List.mem_cons_of_mem _ (i2 x hx), fun _ => i3 (by simp), i4⟩
      rw [i1]
      show decF 0 (d :: r) = decF 0 (48 :: d :: r)
      rw [decF_cons 0 48]
      rfl
    · have e : bareD (c :: d :: r) = c :: d :: r := by
        unfold bareD
        split
        · rename_i heq; exact absurd (List.cons.inj heq).1 h
        · rfl
      rw [e]
      exact ⟨rfl, fun _ h => h, fun h => h, .inr (.inr (by simpa using h))⟩
/-- A number of digits fits just where its numeral is its digits. -/
theorem bare_fits (T : ByteArray) (hd : ∀ c ∈ T.data.toList, isD c = true) (hne : T.data.toList ≠ []) (B : ByteArray) (hB : B.data.toList = bareD T.data.toList) :
    (decN T.data.toList ≤ 9223372036854775807 → atoiV B = ((decN T.data.toList : Int), true) ∧ itoa (decN T.data.toList : Int) = B) ∧
    (¬ decN T.data.toList ≤ 9223372036854775807 → atoiV B = (9223372036854775807, false) ∧ ¬ itoa 9223372036854775807 = B) := by
  obtain ⟨i1, i2, i3, i4⟩ := bareD_dec T.data.toList
  have hb : ∀ c ∈ B.data.toList, isD c = true := fun c hc => hd c (i2 c (by rw [← hB]; exact hc))
  have hbn : B.data.toList ≠ [] := by rw [hB]; exact i3 hne
  have hA := atoiV_digits B hbn hb
  have hv : decN B.data.toList = decN T.data.toList := by rw [hB]; exact i1
  have hdec := bare_dec B.data.toList hb hbn (by
    rcases i4 with h | h | h
    · rw [← hB] at h; exact absurd h hbn
    · left; rw [hB]; exact h
    · right; rw [hB]; exact h)
  rw [hv] at hA hdec
  constructor
  · intro h
    rw [if_pos h] at hA
    refine ⟨hA, ?_⟩
    apply bytes_ext
    show (Lib.itoa (decN T.data.toList : Int)).toArray.toList = _
    unfold Lib.itoa
    rw [if_neg (by omega)]
    simpa using hdec
  · intro h
    rw [if_neg h] at hA
    refine ⟨hA, fun e => ?_⟩
    have e2 : (itoa 9223372036854775807).data.toList = B.data.toList := by rw [e]
    have e3 : (itoa 9223372036854775807).data.toList = Lib.decDigits 9223372036854775807 := by
      show (Lib.itoa 9223372036854775807).toArray.toList = _
      unfold Lib.itoa
      rw [if_neg (by omega)]
      rfl
    rw [e3, ← hdec] at e2
    have e4 : ∀ v, decN (Lib.decDigits v) = v := by
      intro v
      induction v using Nat.strongRecOn with
      | ind v ih =>
        rw [Lib.decDigits]
        split
        · rename_i h; show decF 0 _ = _; rw [decF_cons, decF_nil, digit_toNat v h]; omega
        · rename_i h; show decF 0 _ = _; rw [decF_snoc, digit_toNat _ (by omega)]; have := ih (v / 10) (by omega); show 10 * decN _ + _ = _; rw [this]; omega
    have := congrArg decN e2
    rw [e4, e4] at this
    omega
theorem bareD_zero {B : ByteArray} (h1 : 1 < B.size) (hz : (B[0]'(by omega)).toNat = 48) : bareD (B.data.toList.drop 1) = bareD B.data.toList := by
  have e : B.data.toList.length = B.size := rfl
  have h0 : B.data.toList[0]'(by rw [e]; omega) = 48 := UInt8.toNat_inj.1 hz
  cases hl : B.data.toList with
  | nil => rw [hl] at e; simp at e; omega
  | cons c r =>
    have hc : c = 48 := by simp only [hl] at h0; exact h0
    cases r with
    | nil => rw [hl] at e; simp at e; omega
    | cons d r => rw [hc]; rfl
theorem bareD_else {B : ByteArray} (hz : ∀ h : 0 < B.size, ¬ (B[0]'h).toNat = 48) : bareD B.data.toList = B.data.toList := by
  have e : B.data.toList.length = B.size := rfl
  cases hl : B.data.toList with
  | nil => rfl
  | cons c r =>
    have hp : 0 < B.size := by rw [← e, hl]; simp
    have h0 := hz hp
    have hc : c ≠ 48 := by
      rintro rfl
      apply h0
      have : B.data.toList[0]'(by rw [e]; exact hp) = 48 := by simp only [hl]; rfl
      show (B.data.toList[0]'(by rw [e]; exact hp)).toNat = 48
      rw [this]; rfl
    unfold bareD
    split
    · rename_i heq; exact absurd (List.cons.inj heq).1 hc
    · rfl
theorem bareD_short {B : ByteArray} (h1 : ¬ 1 < B.size) : bareD B.data.toList = B.data.toList := by
  have e : B.data.toList.length = B.size := rfl
  cases hl : B.data.toList with
  | nil => rfl
  | cons c r =>
    cases r with
    | nil => unfold bareD; split <;> simp_all
    | cons d r => rw [hl] at e; simp at e; omega
end
section

def withinC (q c : UInt8) : List UInt8 := if c = q ∨ c = 92 then [92, c] else [c]
def withinL (q : UInt8) (l : List UInt8) : List UInt8 := l.flatMap (withinC q)
theorem withinL_cons (q c : UInt8) (r : List UInt8) : withinL q (c :: r) = withinC q c ++ withinL q r := by simp [withinL]
theorem withinL_app (q : UInt8) (a b : List UInt8) : withinL q (a ++ b) = withinL q a ++ withinL q b := by simp [withinL]
def inQ (q : UInt8) (l : List UInt8) : List UInt8 := q :: (withinL q l ++ [q])
def lowC (c : UInt8) : UInt8 := if 65 ≤ c.toNat ∧ c.toNat ≤ 90 then c + 32 else c
def lowL (l : List UInt8) : List UInt8 := l.map lowC
/-- "select" "as" "into" "from" "where" "group" "by" "time" "fill" "and" "or" "not" "in" "true" "false" -/
def keyWords : List (List UInt8) := [[115, 101, 108, 101, 99, 116], [97, 115], [105, 110, 116, 111], [102, 114, 111, 109], [119, 104, 101, 114, 101], [103, 114, 111, 117, 112], [98, 121], [116, 105, 109, 101], [102, 105, 108, 108], [97, 110, 100], [111, 114], [110, 111, 116], [105, 110], [116, 114, 117, 101], [102, 97, 108, 115, 101]]
def keyP (l : List UInt8) : Bool := keyWords.contains (lowL l)
/-- It may stand bare. -/
def bareW (l : List UInt8) : Bool := (match l with | [] => false | c :: _ => letterC c) && runP wordC l == l.length && !keyP l
def quoteL (l : List UInt8) : List UInt8 := if bareW l = true then l else inQ 34 l
theorem qL_back (q : UInt8) (hq : q ≠ 92) : ∀ (t r : List UInt8), qL q (withinL q t ++ q :: r) = .inl (t, (withinL q t).length + 1)
  | [], r => by
    show qL q (q :: r) = _
    rw [qL_cons, if_pos rfl]; rfl
  | c :: t, r => by
    have ih := qL_back q hq t r
    rw [withinL_cons, List.append_assoc]
    unfold withinC
    by_cases h : c = q ∨ c = 92
    · rw [if_pos h]
      show qL q (92 :: c :: (withinL q t ++ q :: r)) = _
      rw [qL_cons, if_neg (fun e => hq e.symm), if_pos rfl]
      simp only
      rw [if_pos h, ih]
      simp
    · rw [if_neg h]
      have h1 : c ≠ q := fun e => h (.inl e)
      have h2 : c ≠ 92 := fun e => h (.inr e)
      show qL q (c :: (withinL q t ++ q :: r)) = _
      rw [qL_cons, if_neg h1, if_neg h2, ih]
      simp [Nat.add_comm]
theorem runP_all (p : UInt8 → Bool) (d r : List UInt8) (hd : runP p d = d.length) (hr : ∀ c, r.head? = some c → p c = false) : runP p (d ++ r) = d.length := by
  induction d with
  | nil =>
    cases r with
    | nil => rfl
    | cons c r => have := hr c rfl; simp [runP, this]
  | cons c d ih =>
    by_cases hc : p c = true
    · have h2 : runP p d = d.length := by simpa [runP, hc] using hd
      show (if p c = true then runP p (d ++ r) + 1 else 0) = _
      rw [if_pos hc, ih h2]; rfl
    · simp [runP, hc] at hd
theorem letter_noblank (c : UInt8) (h : letterC c = true) : blankC c = false := by
  unfold letterC at h
  unfold blankC
  simp only [Bool.or_eq_true, Bool.and_eq_true, decide_eq_true_eq, beq_iff_eq] at h
  rw [← Bool.not_eq_true]
  intro e
  simp only [Bool.or_eq_true, beq_iff_eq] at e
  rcases e with ((rfl | rfl) | rfl) | rfl <;> revert h <;> decide
/-- A text as a name, with anything behind it that goes on with no letter and no digit: a word or a name that says it. -/
theorem next_quote (s b : ByteArray) (hb : ∀ c, b.data.toList.head? = some c → wordC c = false) :
    ∃ k, nextP (⟨(quoteL s.data.toList).toArray⟩ ++ b) 0 = .inl (⟨k, s, 0, 0⟩, (quoteL s.data.toList).length) ∧ ((k = 1 ∧ keyP s.data.toList = false) ∨ k = 2) := by
  have hd : ((⟨(quoteL s.data.toList).toArray⟩ : ByteArray) ++ b).data.toList = quoteL s.data.toList ++ b.data.toList := by simp
  have hsz : (0 : Int) ≤ (((⟨(quoteL s.data.toList).toArray⟩ : ByteArray) ++ b).size : Int) := by omega
  generalize hS : (⟨(quoteL s.data.toList).toArray⟩ : ByteArray) ++ b = S at *
  unfold nextP
  rw [if_pos ⟨Int.le_refl _, hsz⟩, show (0 : Int).toNat = 0 from rfl, List.drop_zero, hd, Nat.zero_add]
  unfold quoteL at *
  by_cases hw : bareW s.data.toList = true
  · rw [if_pos hw] at hd hS ⊢
    unfold bareW at hw
    simp only [Bool.and_eq_true, Bool.not_eq_true', beq_iff_eq] at hw
    obtain ⟨⟨h1, h2⟩, h3⟩ := hw
    cases hl : s.data.toList with
    | nil => rw [hl] at h1; cases h1
    | cons c r =>
      rw [hl] at h1 h2 h3 hd
      have hbl := letter_noblank c h1
      have hrb : runP blankC (c :: r ++ b.data.toList) = 0 := by simp [runP, hbl]
      have hrw : runP wordC (S.data.toList.drop 0) = (c :: r).length := by
        rw [List.drop_zero, hd]
        exact runP_all wordC (c :: r) b.data.toList h2 hb
      refine ⟨1, ?_, .inl ⟨rfl, h3⟩⟩
      rw [hrb]
      unfold tokAt
      have hg : S.data.toList[0]? = some c := by rw [hd]; rfl
      rw [hg]
      simp only
      rw [if_pos h1, hrw, Nat.zero_add]
      congr 2
      congr 1
      apply bytes_ext
      rw [show S.extract 0 (c :: r).length = S.extract 0 (0 + (c :: r).length) by rw [Nat.zero_add]]
      have := show (S.extract 0 (0 + (c :: r).length)).data.toList = (S.data.toList.drop 0).take (c :: r).length by
        simp [ByteArray.data_extract, Array.toList_extract, List.extract_eq_take_drop]
      rw [this, List.drop_zero, hd, List.take_left' rfl, hl]
  · rw [if_neg hw] at hd hS ⊢
    refine ⟨2, ?_, .inr rfl⟩
    have hrb : runP blankC (inQ 34 s.data.toList ++ b.data.toList) = 0 := by simp [runP, inQ, blankC]
    rw [hrb]
    unfold tokAt
    have hg : S.data.toList[0]? = some 34 := by rw [hd]; rfl
    rw [hg]
    simp only
    rw [if_neg (by decide), if_neg (by decide), if_pos (by decide)]
    unfold quotedT
    have hq : S.data.toList.drop (0 + 1) = withinL 34 s.data.toList ++ 34 :: b.data.toList := by rw [hd]; simp [inQ]
    rw [hq, qL_back 34 (by decide)]
    simp only
    rw [if_neg (by decide)]
    simp [inQ]
    omega
theorem next_text (s b : ByteArray) :
    nextP (⟨(inQ 39 s.data.toList).toArray⟩ ++ b) 0 = .inl (⟨3, s, 0, 0⟩, (inQ 39 s.data.toList).length) := by
  have hd : ((⟨(inQ 39 s.data.toList).toArray⟩ : ByteArray) ++ b).data.toList = inQ 39 s.data.toList ++ b.data.toList := by simp
  have hsz : (0 : Int) ≤ (((⟨(inQ 39 s.data.toList).toArray⟩ : ByteArray) ++ b).size : Int) := by omega
  generalize (⟨(inQ 39 s.data.toList).toArray⟩ : ByteArray) ++ b = S at *
  unfold nextP
  rw [if_pos ⟨Int.le_refl _, hsz⟩, show (0 : Int).toNat = 0 from rfl, List.drop_zero, hd, Nat.zero_add]
  have hrb : runP blankC (inQ 39 s.data.toList ++ b.data.toList) = 0 := by simp [runP, inQ, blankC]
  rw [hrb]
  unfold tokAt
  have hg : S.data.toList[0]? = some 39 := by rw [hd]; rfl
  rw [hg]
  simp only
  rw [if_neg (by decide), if_neg (by decide), if_pos (by decide)]
  unfold quotedT
  have hq : S.data.toList.drop (0 + 1) = withinL 39 s.data.toList ++ 39 :: b.data.toList := by rw [hd]; simp [inQ]
  rw [hq, qL_back 39 (by decide)]
  simp only
  rw [if_pos trivial]
  simp [inQ]
  omega
end
section

abbrev AllR := Sum (List Tok) (Int × Option Nat)
def allN (s : ByteArray) : Nat → Nat → AllR
  | 0, _ => .inl []
  | n + 1, a => match nextP s a with
    | .inr e => .inr e
    | .inl (t, e) => if t.kind = 0 then .inl [t] else match allN s n e with
      | .inl l => .inl (t :: l)
      | .inr x => .inr x
/-- All. -/
def allP (s : ByteArray) : AllR := if 4000 < s.size then .inr (6, none) else allN s (s.size + 1) 0
def combA (acc : List Tok) : AllR → AllR
  | .inl l => .inl (acc ++ l)
  | .inr e => .inr e
theorem combA_nil (r : AllR) : combA [] r = r := by rcases r with l | e <;> rfl
theorem allN_err {s : ByteArray} {n a : Nat} {e} (h : nextP s a = .inr e) : allN s (n + 1) a = .inr e := by
  show (match nextP s a with | .inr e => _ | .inl (t, e) => _) = _
  rw [h]
theorem allN_end {s : ByteArray} {n a : Nat} {t : Tok} {e : Nat} (h : nextP s a = .inl (t, e)) (hk : t.kind = 0) : allN s (n + 1) a = .inl [t] := by
  show (match nextP s a with | .inr e => _ | .inl (t, e) => _) = _
  rw [h]
  simp only
  rw [if_pos hk]
theorem allN_go {s : ByteArray} {n a : Nat} {t : Tok} {e : Nat} (h : nextP s a = .inl (t, e)) (hk : ¬ t.kind = 0) : allN s (n + 1) a = combA [t] (allN s n e) := by
  show (match nextP s a with | .inr e => _ | .inl (t, e) => _) = _
  rw [h]
  simp only
  rw [if_neg hk]
  rcases allN s n e with l | x <;> rfl
theorem combA_combA (a b : List Tok) (r : AllR) : combA a (combA b r) = combA (a ++ b) r := by
  rcases r with l | e
  · simp [combA]
  · rfl
theorem allN_length (s : ByteArray) : ∀ n a l, allN s n a = .inl l → l.length ≤ n
  | 0, a, l, h => by cases h; simp
  | n + 1, a, l, h => by
    rcases hx : nextP s a with ⟨t, e⟩ | e
    · by_cases hk : t.kind = 0
      · rw [allN_end hx hk] at h; cases h; simp
      · rw [allN_go hx hk] at h
        rcases hr : allN s n e with l' | e'
        · rw [hr] at h; cases h
          have := allN_length s n e l' hr
          simpa using this
        · rw [hr] at h; cases h
    · rw [allN_err hx] at h; cases h
theorem allN_cons {s : ByteArray} {n a : Nat} {t : Tok} {r : List Tok} (h : allN s n a = .inl (t :: r)) :
    ∃ m e, n = m + 1 ∧ nextP s a = .inl (t, e) ∧ ((t.kind = 0 ∧ r = []) ∨ (¬ t.kind = 0 ∧ allN s m e = .inl r)) := by
  cases n with
  | zero => cases h
  | succ m =>
    rcases hx : nextP s a with ⟨t', e⟩ | e
    · by_cases hk : t'.kind = 0
      · rw [allN_end hx hk] at h; cases h
        exact ⟨m, e, rfl, rfl, .inl ⟨hk, rfl⟩⟩
      · rw [allN_go hx hk] at h
        rcases hr : allN s m e with l' | e'
        · rw [hr] at h; cases h
          exact ⟨m, e, rfl, rfl, .inr ⟨hk, hr⟩⟩
        · rw [hr] at h; cases h
    · rw [allN_err hx] at h; cases h
theorem runP_true (p : UInt8 → Bool) : ∀ (l : List UInt8) (k : Nat) (h : k < l.length), k < runP p l → p l[k] = true
  | [], k, h, _ => absurd h (Nat.not_lt_zero _)
  | c :: r, k, h, hk => by
    by_cases hc : p c = true
    · cases k with
      | zero => exact hc
      | succ k =>
        have : runP p (c :: r) = runP p r + 1 := by show (if p c = true then _ else _) = _; rw [if_pos hc]
        rw [this] at hk
        exact runP_true p r k (by simpa using h) (by omega)
    · have : runP p (c :: r) = 0 := by show (if p c = true then _ else _) = _; rw [if_neg hc]
      omega
theorem runP_stop (p : UInt8 → Bool) : ∀ (l : List UInt8) (h : runP p l < l.length), p l[runP p l] = false
  | [], h => absurd h (Nat.not_lt_zero _)
  | c :: r, h => by
    by_cases hc : p c = true
    · have e : runP p (c :: r) = runP p r + 1 := by show (if p c = true then _ else _) = _; rw [if_pos hc]
      simp only [e, List.length_cons] at h ⊢
      simpa using runP_stop p r (by omega)
    · have e : runP p (c :: r) = 0 := by show (if p c = true then _ else _) = _; rw [if_neg hc]
      simp only [e]
      simpa using hc
theorem runP_head (p : UInt8 → Bool) (l : List UInt8) (i : Nat) (h : i < l.length) (hp : p l[i] = true) : 1 ≤ runP p (l.drop i) := by
  rw [runP_step p l i h, if_pos hp]; omega
theorem tok_end {s : ByteArray} {a : Nat} (h : s.size ≤ a) : tokAt s a = .inl (⟨0, ⟨#[]⟩, 0, a⟩, a) := by
  unfold tokAt; rw [List.getElem?_eq_none (show s.data.toList.length ≤ a from h)]
theorem tok_at {s : ByteArray} {a : Nat} {c : UInt8} (h : s.data.toList[a]? = some c) : tokAt s a =
    if letterC c = true then .inl (⟨1, s.extract a (a + runP wordC (s.data.toList.drop a)), 0, a⟩, a + runP wordC (s.data.toList.drop a))
    else if isD c = true then numberT s a (a + runP wordC (s.data.toList.drop a))
    else if c = 34 ∨ c = 39 then quotedT s a c
    else if signN c s.data.toList[a + 1]? = 0 then .inr (120, some a)
    else .inl (⟨6, s.extract a (a + signN c s.data.toList[a + 1]?), 0, a⟩, a + signN c s.data.toList[a + 1]?) := by
  unfold tokAt; rw [h]
theorem sign_le (c : UInt8) (d : Option UInt8) : signN c d ≤ 2 ∧ (d = none → signN c d ≤ 1) := by
  unfold signN
  repeat' split
  all_goals simp_all
theorem number_got {s : ByteArray} {a e : Nat} {t : Tok} {k : Nat} (h : numberT s a e = .inl (t, k)) : k = e ∧ t.pos = a ∧ t.text = s.extract a e ∧ (t.kind = 4 ∨ t.kind = 5) := by
  unfold numberT at h
  split at h
  · split at h
    · cases h; exact ⟨rfl, rfl, rfl, .inl rfl⟩
    · cases h
  · split at h
    · cases h; exact ⟨rfl, rfl, rfl, .inr rfl⟩
    · cases h
theorem quoted_got {s : ByteArray} {a : Nat} {q : UInt8} {t : Tok} {k : Nat} (h : quotedT s a q = .inl (t, k)) : ∃ x n, qL q (s.data.toList.drop (a + 1)) = .inl (x, n) ∧ t = ⟨if q = 39 then 3 else 2, ⟨x.toArray⟩, 0, a⟩ ∧ k = a + 1 + n := by
  unfold quotedT at h
  split at h
  · rename_i x n hx; cases h; exact ⟨x, n, hx, rfl, rfl⟩
  · cases h
  · cases h
/-- A token: where it lies. -/
theorem tok_facts {s : ByteArray} {a : Nat} {t : Tok} {e : Nat} (ha : a ≤ s.size) (h : tokAt s a = .inl (t, e)) :
    t.pos = a ∧ a ≤ e ∧ e ≤ s.size ∧ (e = a ↔ t.kind = 0) ∧ (t.kind = 0 → a = s.size ∧ t = ⟨0, ⟨#[]⟩, 0, a⟩) ∧ 0 ≤ t.kind ∧ t.kind ≤ 6 := by
  have hl : s.data.toList.length = s.size := rfl
  by_cases he : s.size ≤ a
  · rw [tok_end he] at h; cases h
    exact ⟨rfl, Nat.le_refl _, ha, by simp, fun _ => ⟨by omega, rfl⟩, by simp, by simp⟩
  · have hlt : a < s.data.toList.length := by omega
    rw [tok_at (List.getElem?_eq_getElem hlt)] at h
    have hrl := runP_le wordC (s.data.toList.drop a)
    rw [List.length_drop] at hrl
    split at h
    · rename_i hc
      have h1 := runP_head wordC s.data.toList a hlt (by unfold wordC; rw [hc]; rfl)
      cases h
      refine ⟨rfl, by omega, by omega, ?_, fun h => absurd h (by simp), by simp, by simp⟩
      constructor
      · intro h; omega
      · intro h; simp at h
    · split at h
      · rename_i hc
        have h1 := runP_head wordC s.data.toList a hlt (by unfold wordC; rw [hc]; simp)
        obtain ⟨rfl, i2, i3, i4⟩ := number_got h
        refine ⟨i2, by omega, by omega, ?_, fun h => by omega, by omega, by omega⟩
        constructor <;> intro h <;> omega
      · split at h
        · obtain ⟨x, n, i1, i2, i3⟩ := quoted_got h
          have := qL_le s.data.toList[a] (s.data.toList.drop (a + 1))
          rw [i1] at this
          simp only [List.length_drop] at this
          have hk : t.kind = 3 ∨ t.kind = 2 := by rw [i2]; simp only; split <;> simp
          refine ⟨by rw [i2], by omega, by omega, ?_, fun h => by omega, by omega, by omega⟩
          constructor <;> intro h <;> omega
        · split at h
          · cases h
          · rename_i hn
            have hs := sign_le s.data.toList[a] s.data.toList[a + 1]?
            have h2 : a + signN s.data.toList[a] s.data.toList[a + 1]? ≤ s.size := by
              by_cases hx : a + 1 < s.data.toList.length
              · omega
              · have := hs.2 (List.getElem?_eq_none (by omega)); omega
            cases h
            refine ⟨rfl, by omega, h2, ?_, fun h => absurd h (by simp), by simp, by simp⟩
            constructor
            · intro h; omega
            · intro h; simp at h
theorem nextP_nat {s : ByteArray} {a : Nat} (ha : a ≤ s.size) : nextP s a = tokAt s (a + runP blankC (s.data.toList.drop a)) := by
  unfold nextP
  rw [if_pos ⟨by omega, by omega⟩, Int.toNat_natCast]
/-- A token: blanks ahead of it, and what stands at its place. -/
theorem next_places {s : ByteArray} {a : Nat} {t : Tok} {e : Nat} (ha : a ≤ s.size) (h : nextP s a = .inl (t, e)) :
    ∃ p : Nat, t.pos = p ∧ a ≤ p ∧ p ≤ s.size ∧ (∀ k (hk : k < s.data.toList.length), a ≤ k → k < p → blankC s.data.toList[k] = true) ∧
      nextP s p = .inl (t, e) ∧ p ≤ e ∧ e ≤ s.size ∧ (e = p ↔ t.kind = 0) ∧ (t.kind = 0 → p = s.size) := by
  have hl : s.data.toList.length = s.size := rfl
  rw [nextP_nat ha] at h
  have hr := runP_le blankC (s.data.toList.drop a)
  rw [List.length_drop] at hr
  obtain ⟨p, hp⟩ : ∃ p, p = a + runP blankC (s.data.toList.drop a) := ⟨_, rfl⟩
  rw [← hp] at h
  obtain ⟨f1, f2, f3, f4, f5, f6, f7⟩ := tok_facts (by omega) h
  refine ⟨p, f1, by omega, by omega, fun k hk h1 h2 => ?_, ?_, f2, f3, f4, fun hk => (f5 hk).1⟩
  · have := runP_true blankC (s.data.toList.drop a) (k - a) (by rw [List.length_drop]; omega) (by omega)
    rw [List.getElem_drop] at this
    simpa [show a + (k - a) = k by omega] using this
  · rw [nextP_nat (by omega)]
    have : runP blankC (s.data.toList.drop p) = 0 := by
      by_cases hx : p < s.data.toList.length
      · have h3 := runP_stop blankC (s.data.toList.drop a) (by rw [List.length_drop]; omega)
        rw [List.getElem_drop] at h3
        rw [runP_step blankC s.data.toList p hx]
        have h4 : blankC s.data.toList[p] = false := by simpa [← hp] using h3
        rw [h4]; rfl
      · exact runP_end blankC (by omega)
    rw [this]
    exact h
theorem nextP_code {s : ByteArray} {i c : Int} {p : Option Nat} (h : nextP s i = .inr (c, p)) : ¬ c = 0 := by
  unfold nextP at h
  split at h
  · generalize i.toNat + runP blankC (s.data.toList.drop i.toNat) = a at h
    rcases hx : s.data.toList[a]? with _ | d
    · unfold tokAt at h; rw [hx] at h; cases h
    · rw [tok_at hx] at h
      split at h
      · cases h
      · split at h
        · unfold numberT at h
          split at h
          · split at h <;> cases h; decide
          · split at h <;> cases h; decide
        · split at h
          · unfold quotedT at h
            split at h
            · cases h
            · cases h; decide
            · cases h; decide
          · split at h
            · cases h; decide
            · cases h
  · cases h; decide
end
section

abbrev live1 : ByteArray := ⟨#[97, 32, 60, 61, 32, 49, 104]⟩
abbrev live2 : ByteArray := ⟨#[97, 32, 33, 32, 98]⟩
theorem live_span : parseP [49, 104] = (3600000000000, 0) := by
  have p1 : partL [49, 104] = some (2, 2, 1) := by decide
  have p3 : partL [] = none := by decide
  have s : scanG 0 [49, 104] = (2, 3600000000000) := by
    rw [scanG_go p1 (by omega)]
    show (2 + (scanG 3 []).1, 1 * unitV 2 + (scanG 3 []).2) = _
    rw [scanG_none p3]
    rfl
  have b : bareL [49, 104] = [49, 104] := by decide
  unfold parseP
  rw [b, s]
  decide
def liveToks : List Tok := [⟨1, ⟨#[97]⟩, 0, 0⟩, ⟨6, ⟨#[60, 61]⟩, 0, 2⟩, ⟨5, ⟨#[49, 104]⟩, 3600000000000, 5⟩, ⟨0, ⟨#[]⟩, 0, 7⟩]
theorem live_all1 : allP live1 = .inl liveToks := by
  have n1 : nextP live1 0 = .inl (⟨1, ⟨#[97]⟩, 0, 0⟩, 1) := by rfl
  have n2 : nextP live1 1 = .inl (⟨6, ⟨#[60, 61]⟩, 0, 2⟩, 4) := by rfl
  have n3 : nextP live1 4 = .inl (⟨5, ⟨#[49, 104]⟩, 3600000000000, 5⟩, 7) := by
    have h : nextP live1 4 = numberT live1 5 7 := by rfl
    rw [h]
    unfold numberT
    rw [show live1.extract 5 7 = ⟨#[49, 104]⟩ from rfl]
    rw [if_neg (by decide), show (⟨#[49, 104]⟩ : ByteArray).data.toList = [49, 104] from rfl, live_span]
    rfl
  have n4 : nextP live1 7 = .inl (⟨0, ⟨#[]⟩, 0, 7⟩, 7) := by rfl
  have hs : ¬ 4000 < live1.size := by decide
  have e : live1.size + 1 = 4 + 1 + 1 + 1 + 1 := rfl
  unfold allP
  rw [if_neg hs, e, allN_go n1 (by decide), allN_go n2 (by decide), allN_go n3 (by decide), allN_end n4 rfl]
  rfl
theorem live_all2 : allP live2 = .inr (120, some 2) := by
  have n1 : nextP live2 0 = .inl (⟨1, ⟨#[97]⟩, 0, 0⟩, 1) := by rfl
  have n2 : nextP live2 1 = .inr (120, some 2) := by rfl
  have hs : ¬ 4000 < live2.size := by decide
  have e : live2.size + 1 = 4 + 1 + 1 := rfl
  unfold allP
  rw [if_neg hs, e, allN_go n1 (by decide), allN_err n2]
  rfl
theorem live_quote : quoteL [116, 105, 109, 101] = [34, 116, 105, 109, 101, 34] := by rfl
theorem live_key : keyP [83, 69, 76, 69, 67, 84] = true := by rfl
end
section

theorem within_length (q : UInt8) (hq : ¬ q = 92) (l : List UInt8) : (withinL q l).length = l.length + l.count q + l.count 92 := by
  induction l with
  | nil => rfl
  | cons c r ih =>
    rw [withinL_cons, List.length_append, ih, List.count_cons, List.count_cons, List.length_cons]
    unfold withinC
    by_cases h1 : c = q
    · subst h1
      have : (c == 92) = false := by simpa using hq
      simp [this]; omega
    · by_cases h2 : c = 92
      · subst h2
        have : ((92 : UInt8) == q) = false := by simpa using h1
        simp [this]; omega
      · have e1 : (c == q) = false := by simpa using h1
        have e2 : (c == 92) = false := by simpa using h2
        simp [h1, h2, e1, e2]; omega
theorem within_same (q : UInt8) (l : List UInt8) (h1 : l.count q = 0) (h2 : l.count 92 = 0) : withinL q l = l := by
  induction l with
  | nil => rfl
  | cons c r ih =>
    rw [List.count_cons] at h1 h2
    have hc : ¬ (c = q ∨ c = 92) := by
      rintro (rfl | rfl) <;> simp at h1 h2
    rw [withinL_cons, ih (by omega) (by omega)]
    unfold withinC
    rw [if_neg hc]; rfl
theorem within_step (q : UInt8) (l : List UInt8) (i : Nat) (h : i < l.length) : withinL q (l.take (i + 1)) = withinL q (l.take i) ++ withinC q l[i] := by
  rw [List.take_succ_eq_append_getElem h, withinL_app]
  simp [withinL]
theorem within_part (q : UInt8) (l : List UInt8) (i : Nat) (h : i < l.length) : (withinL q (l.take i)).length + (withinC q l[i]).length ≤ (withinL q l).length := by
  have e : withinL q l = withinL q (l.take (i + 1)) ++ withinL q (l.drop (i + 1)) := by rw [← withinL_app, List.take_append_drop]
  rw [e, within_step q l i h]
  simp only [List.length_append]; omega
theorem within_double (q : UInt8) (l : List UInt8) : l.length ≤ (withinL q l).length ∧ (withinL q l).length ≤ 2 * l.length := by
  induction l with
  | nil => exact ⟨Nat.le_refl _, Nat.le_refl _⟩
  | cons c r ih =>
    rw [withinL_cons, List.length_append, List.length_cons]
    unfold withinC
    split
    · simp only [List.length_cons, List.length_nil]; omega
    · simp only [List.length_cons, List.length_nil]; omega
theorem count_take (c : UInt8) (l : List UInt8) (i : Nat) (h : i < l.length) : (l.take (i + 1)).count c = (l.take i).count c + (if l[i] = c then 1 else 0) := by
  rw [List.take_succ_eq_append_getElem h, List.count_append, List.count_singleton]
  by_cases e : l[i] = c <;> simp [e]
end
section

def shownL (t : Tok) : List UInt8 := if t.kind = 2 then inQ 34 t.text.data.toList else if t.kind = 3 then inQ 39 t.text.data.toList else t.text.data.toList
def joinL (l : List Tok) : List UInt8 := l.flatMap (fun t => shownL t ++ [32])
theorem joinL_cons (t : Tok) (l : List Tok) : joinL (t :: l) = shownL t ++ 32 :: joinL l := by simp [joinL]
theorem joinL_app (a b : List Tok) : joinL (a ++ b) = joinL a ++ joinL b := by simp [joinL]
def Tok.core (t : Tok) : Int × ByteArray × Int := (t.kind, t.text, t.n)
theorem part_list (s : ByteArray) (a b : Nat) : (s.extract a b).data.toList = (s.data.toList.drop a).take (b - a) := by
  simp [ByteArray.data_extract, Array.toList_extract, List.extract_eq_take_drop]
theorem runP_take (p : UInt8 → Bool) (l : List UInt8) : runP p (l.take (runP p l)) = runP p l ∧ (l.take (runP p l)).length = runP p l := by
  induction l with
  | nil => exact ⟨rfl, rfl⟩
  | cons c r ih =>
    by_cases hc : p c = true
    · have e : runP p (c :: r) = runP p r + 1 := by show (if p c = true then _ else _) = _; rw [if_pos hc]
      rw [e, List.take_succ_cons]
      constructor
      · show (if p c = true then _ else _) = _
        rw [if_pos hc, ih.1]
      · simp [ih.2]
    · have e : runP p (c :: r) = 0 := by show (if p c = true then _ else _) = _; rw [if_neg hc]
      rw [e]; exact ⟨rfl, rfl⟩
theorem sign_shown (c : UInt8) (d : Option UInt8) (h : ¬ signN c d = 0) : blankC c = false ∧ ((signN c d = 1 ∧ signN c (some 32) = 1) ∨ (signN c d = 2 ∧ d = some 61 ∧ signN c (some 61) = 2)) := by
  unfold signN at h ⊢
  by_cases h1 : c = 33
  · subst h1
    by_cases h2 : d = some 61 <;> simp_all [blankC]
  · by_cases h3 : c = 60 ∨ c = 62
    · rw [if_neg h1, if_pos h3] at h ⊢
      rcases h3 with rfl | rfl <;> by_cases h2 : d = some 61 <;> simp_all [blankC]
    · rw [if_neg h1, if_neg h3] at h
      split at h
      · rename_i h4
        rw [if_neg h1, if_neg h3, if_pos h4]
        rcases h4 with rfl | rfl | rfl | rfl | rfl | rfl | rfl | rfl | rfl <;> simp_all [blankC]
      · exact absurd rfl h
theorem digit_noblank (c : UInt8) (h : isD c = true) : blankC c = false := by
  have := isD_iff.1 h
  unfold blankC
  simp only [Bool.or_eq_false_iff, beq_eq_false_iff_ne, ne_eq]
  refine ⟨⟨⟨?_, ?_⟩, ?_⟩, ?_⟩ <;> rintro rfl <;> simp at this
theorem number_same {s S : ByteArray} {a e p : Nat} {t : Tok} {k : Nat} (h : numberT s a e = .inl (t, k)) {E : Nat} (hx : S.extract p E = s.extract a e) : numberT S p E = .inl (⟨t.kind, t.text, t.n, p⟩, E) := by
  unfold numberT at h ⊢
  rw [hx]
  split at h
  · rename_i h1
    rw [if_pos h1]
    split at h
    · rename_i h2
      rw [if_pos h2]
      cases h; rfl
    · cases h
  · rename_i h1
    rw [if_neg h1]
    split at h
    · rename_i h2
      rw [if_pos h2]
      cases h; rfl
    · cases h
/-- A token as it stands, a blank behind it: the same token. -/
theorem shown_next {s : ByteArray} {a : Nat} {t : Tok} {e : Nat} (ha : a ≤ s.size) (h : tokAt s a = .inl (t, e)) (hk : ¬ t.kind = 0) (S : ByteArray) (pre rest : List UInt8) (hS : S.data.toList = pre ++ (shownL t ++ 32 :: rest)) :
    tokAt S pre.length = .inl (⟨t.kind, t.text, t.n, pre.length⟩, pre.length + (shownL t).length) ∧ ∃ c r, shownL t = c :: r ∧ blankC c = false := by
  have hl : s.data.toList.length = s.size := rfl
  by_cases he : s.size ≤ a
  · rw [tok_end he] at h; cases h
    exact absurd rfl hk
  · have hlt : a < s.data.toList.length := by omega
    have hdr : S.data.toList.drop pre.length = shownL t ++ 32 :: rest := by rw [hS, List.drop_left' rfl]
    have h32 : ∀ c, (32 :: rest).head? = some c → wordC c = false := by
      intro c hc
      have : c = 32 := by simpa using hc.symm
      subst this; decide
    rw [tok_at (List.getElem?_eq_getElem hlt)] at h
    obtain ⟨c, hc0⟩ : ∃ c, c = s.data.toList[a] := ⟨_, rfl⟩
    rw [← hc0] at h
    have hd0 : s.data.toList.drop a = c :: s.data.toList.drop (a + 1) := by rw [List.drop_eq_getElem_cons hlt, ← hc0]
    have hR := runP_take wordC (s.data.toList.drop a)
    -- the head of what is shown stands at its place
    have hat : ∀ x r, shownL t = x :: r → S.data.toList[pre.length]? = some x := by
      intro x r hx
      rw [hS, hx, List.getElem?_append_right (Nat.le_refl _), Nat.sub_self]; rfl
    have hext : (shownL t = t.text.data.toList) → S.extract pre.length (pre.length + (shownL t).length) = t.text := by
      intro hx
      apply bytes_ext
      rw [part_list, hdr, Nat.add_sub_cancel_left, List.take_left' rfl, hx]
    split at h
    · rename_i hc
      have h1 := runP_head wordC s.data.toList a hlt (by rw [← hc0]; unfold wordC; rw [hc]; rfl)
      obtain ⟨R, hRR⟩ : ∃ R, R = runP wordC (s.data.toList.drop a) := ⟨_, rfl⟩
      rw [← hRR] at h h1 hR
      cases h
      have hT : (s.extract a (a + R)).data.toList = (s.data.toList.drop a).take R := by rw [part_list, Nat.add_sub_cancel_left]
      have hsh : shownL ⟨1, s.extract a (a + R), 0, a⟩ = (s.data.toList.drop a).take R := by
        unfold shownL
        rw [if_neg (show ¬ (_ : Int) = 2 by simp), if_neg (show ¬ (_ : Int) = 3 by simp)]; exact hT
      have hcr : (s.data.toList.drop a).take R = c :: (s.data.toList.drop (a + 1)).take (R - 1) := by
        obtain ⟨R', rfl⟩ : ∃ R', R = R' + 1 := ⟨R - 1, by omega⟩
        rw [hd0, List.take_succ_cons]; rfl
      refine ⟨?_, c, _, hsh.trans hcr, letter_noblank c hc⟩
      rw [tok_at (hat c _ (hsh.trans hcr)), if_pos hc, hdr, hsh, runP_all wordC _ _ (by rw [hR.1, hR.2]) h32]
      rw [hsh] at hext
      rw [hext hT.symm]
    · split at h
      · rename_i hnl hc
        have h1 := runP_head wordC s.data.toList a hlt (by rw [← hc0]; unfold wordC; rw [hc]; simp)
        obtain ⟨R, hRR⟩ : ∃ R, R = runP wordC (s.data.toList.drop a) := ⟨_, rfl⟩
        rw [← hRR] at h h1 hR
        obtain ⟨rfl, i2, i3, i4⟩ := number_got h
        have hT : t.text.data.toList = (s.data.toList.drop a).take R := by rw [i3, part_list, Nat.add_sub_cancel_left]
        have hsh : shownL t = (s.data.toList.drop a).take R := by
          unfold shownL
          rw [if_neg (by omega), if_neg (by omega)]; exact hT
        have hcr : (s.data.toList.drop a).take R = c :: (s.data.toList.drop (a + 1)).take (R - 1) := by
          obtain ⟨R', rfl⟩ : ∃ R', R = R' + 1 := ⟨R - 1, by omega⟩
          rw [hd0, List.take_succ_cons]; rfl
        refine ⟨?_, c, _, hsh.trans hcr, digit_noblank c hc⟩
        rw [tok_at (hat c _ (hsh.trans hcr)), if_neg hnl, if_pos hc, hdr, hsh, runP_all wordC _ _ (by rw [hR.1, hR.2]) h32]
        rw [hsh] at hext
        exact number_same h ((hext hT.symm).trans i3)
      · split at h
        · rename_i hnl hnd hq
          obtain ⟨x, n, i1, i2, i3⟩ := quoted_got h
          have hsh : shownL t = inQ c x := by
            rw [i2]; unfold shownL
            rcases hq with rfl | rfl <;> simp
          refine ⟨?_, c, withinL c x ++ [c], hsh, by rcases hq with rfl | rfl <;> decide⟩
          rw [tok_at (hat c _ hsh), if_neg hnl, if_neg hnd, if_pos hq]
          unfold quotedT
          have hd1 : S.data.toList.drop (pre.length + 1) = withinL c x ++ c :: 32 :: rest := by
            rw [← List.drop_drop, hdr, hsh]; simp [inQ]
          rw [hd1, qL_back c (by rcases hq with rfl | rfl <;> decide)]
          simp only
          rw [hsh, i2]
          simp [inQ]
          omega
        · split at h
          · cases h
          · rename_i hnl hnd hnq hn
            obtain ⟨hb, hs⟩ := sign_shown c s.data.toList[a + 1]? hn
            cases h
            obtain ⟨N, hN⟩ : ∃ N, N = signN c s.data.toList[a + 1]? := ⟨_, rfl⟩
            rw [← hN] at hn hs hext hdr hat hS ⊢
            have hT : (s.extract a (a + N)).data.toList = (s.data.toList.drop a).take N := by rw [part_list, Nat.add_sub_cancel_left]
            have hsh : shownL ⟨6, s.extract a (a + N), 0, a⟩ = (s.data.toList.drop a).take N := by
              unfold shownL
              rw [if_neg (show ¬ (_ : Int) = 2 by simp), if_neg (show ¬ (_ : Int) = 3 by simp)]; exact hT
            rcases hs with ⟨rfl, h2⟩ | ⟨rfl, h2, h3⟩
            · have hcr : (s.data.toList.drop a).take 1 = [c] := by rw [hd0]; rfl
              refine ⟨?_, c, [], hsh.trans hcr, hb⟩
              have hnx : S.data.toList[pre.length + 1]? = some 32 := by
                rw [hS, hsh, hcr, List.getElem?_append_right (by omega), show pre.length + 1 - pre.length = 1 by omega]; rfl
              rw [tok_at (hat c _ (hsh.trans hcr)), if_neg hnl, if_neg hnd, if_neg hnq, hnx, h2, if_neg (by omega)]
              rw [hsh, hcr] at hext
              rw [hsh, hcr]
              rw [show pre.length + 1 = pre.length + [c].length from rfl, hext (hcr.symm.trans hT.symm)]
            · have ha1 : a + 1 < s.data.toList.length := by
                rcases Nat.lt_or_ge (a + 1) s.data.toList.length with h | h
                · exact h
                · rw [List.getElem?_eq_none h] at h2; cases h2
              have hcr : (s.data.toList.drop a).take 2 = [c, 61] := by
                rw [hd0, List.drop_eq_getElem_cons ha1]
                rw [List.getElem?_eq_getElem ha1] at h2
                rw [Option.some.inj h2]; rfl
              refine ⟨?_, c, [61], hsh.trans hcr, hb⟩
              have hnx : S.data.toList[pre.length + 1]? = some 61 := by
                rw [hS, hsh, hcr, List.getElem?_append_right (by omega), show pre.length + 1 - pre.length = 1 by omega]; rfl
              rw [tok_at (hat c _ (hsh.trans hcr)), if_neg hnl, if_neg hnd, if_neg hnq, hnx, h3, if_neg (by omega)]
              rw [hsh, hcr] at hext
              rw [hsh, hcr]
              rw [show pre.length + 2 = pre.length + [c, 61].length from rfl, hext (hcr.symm.trans hT.symm)]
theorem runP_blanks (b r : List UInt8) (hb : ∀ c ∈ b, blankC c = true) : runP blankC (b ++ r) = b.length + runP blankC r := by
  induction b with
  | nil => simp
  | cons c b ih =>
    show (if blankC c = true then runP blankC (b ++ r) + 1 else 0) = _
    rw [if_pos (hb c (List.mem_cons_self ..)), ih (fun x hx => hb x (List.mem_cons_of_mem _ hx))]
    simp; omega
/-- The tokens of a text, each as it stands, a blank between, are the same tokens. -/
theorem again_all (s : ByteArray) : ∀ (l : List Tok) (n a : Nat), a ≤ s.size → s.size + 1 ≤ n + a → allN s n a = .inl l →
    ∀ (S : ByteArray) (pre b : List UInt8) (m : Nat), (∀ c ∈ b, blankC c = true) → S.data.toList = pre ++ (b ++ joinL l) → l.length ≤ m →
      ∃ l', allN S m pre.length = .inl l' ∧ l'.map Tok.core = l.map Tok.core
  | [], n, a, ha, hn, h, S, pre, b, m, hb, hS, hm => by
    exfalso
    cases n with
    | zero => omega
    | succ n =>
      rcases hx : nextP s a with ⟨t, e⟩ | e
      · by_cases hk : t.kind = 0
        · rw [allN_end hx hk] at h; cases h
        · rw [allN_go hx hk] at h
          rcases hr : allN s n e with l' | e'
          · rw [hr] at h; cases h
          · rw [hr] at h; cases h
      · rw [allN_err hx] at h; cases h
  | t :: r, n, a, ha, hn, h, S, pre, b, m, hb, hS, hm => by
    obtain ⟨k, e, rfl, hx, hor⟩ := allN_cons h
    obtain ⟨p, f1, f2, f3, f4, f5, f6, f7, f8, f9⟩ := next_places ha hx
    have hSl : S.data.toList.length = S.size := rfl
    have hpre : pre.length ≤ S.size := by rw [← hSl, hS]; simp
    have hdr : S.data.toList.drop pre.length = b ++ joinL (t :: r) := by rw [hS, List.drop_left' rfl]
    obtain ⟨M, rfl⟩ : ∃ M, m = M + 1 := ⟨m - 1, by simp at hm; omega⟩
    have htk : tokAt s (a + runP blankC (s.data.toList.drop a)) = .inl (t, e) := by rw [← nextP_nat ha]; exact hx
    have hrl := runP_le blankC (s.data.toList.drop a)
    rw [List.length_drop] at hrl
    have hl : s.data.toList.length = s.size := rfl
    rcases hor with ⟨hk, rfl⟩ | ⟨hk, hr⟩
    · obtain ⟨-, -, -, -, g5, -, -⟩ := tok_facts (by omega) htk
      obtain ⟨-, ht⟩ := g5 hk
      have hj : joinL [t] = [32] := by rw [ht]; simp [joinL, shownL]
      rw [hj] at hdr hS
      have hrun : runP blankC (S.data.toList.drop pre.length) = b.length + 1 := by rw [hdr, runP_blanks b _ hb]; rfl
      have hend : S.size ≤ pre.length + (b.length + 1) := by rw [← hSl, hS]; simp
      have hnx : nextP S pre.length = .inl (⟨0, ⟨#[]⟩, 0, (pre.length + (b.length + 1) : Nat)⟩, pre.length + (b.length + 1)) := by
        rw [nextP_nat hpre, hrun, tok_end hend]
      refine ⟨_, allN_end hnx rfl, ?_⟩
      rw [ht]; rfl
    · have hS2 : S.data.toList = (pre ++ b) ++ (shownL t ++ 32 :: joinL r) := by rw [hS, joinL_cons, List.append_assoc]
      obtain ⟨hn1, c, x, hsh, hbl⟩ := shown_next (by omega) htk hk S (pre ++ b) (joinL r) hS2
      have hrun : runP blankC (S.data.toList.drop pre.length) = b.length := by
        rw [hdr, runP_blanks b _ hb, joinL_cons, hsh]
        show b.length + (if blankC c = true then _ else _) = _
        rw [if_neg (by rw [hbl]; decide)]; rfl
      have hnx : nextP S pre.length = .inl (⟨t.kind, t.text, t.n, ((pre ++ b).length : Nat)⟩, (pre ++ b).length + (shownL t).length) := by
        rw [nextP_nat hpre, hrun, ← List.length_append, hn1]
      have hkk : ¬ (⟨t.kind, t.text, t.n, ((pre ++ b).length : Nat)⟩ : Tok).kind = 0 := hk
      have hS3 : S.data.toList = (pre ++ b ++ shownL t) ++ ([32] ++ joinL r) := by rw [hS2]; simp
      obtain ⟨l', q1, q2⟩ := again_all s r k e (by omega) (by have : ¬ e = p := fun h => hk (f8.1 h); omega) hr S (pre ++ b ++ shownL t) [32] M (by intro c hc; simp at hc; subst hc; decide) hS3 (by simp at hm; omega)
      rw [List.length_append] at q1
      refine ⟨⟨t.kind, t.text, t.n, ((pre ++ b).length : Nat)⟩ :: l', ?_, ?_⟩
      · rw [allN_go hnx hkk, q1]; rfl
      · rw [List.map_cons, List.map_cons, q2]; rfl
theorem joinL_length (l : List Tok) : l.length ≤ (joinL l).length := by
  induction l with
  | nil => simp [joinL]
  | cons t r ih => rw [joinL_cons]; simp; omega
/-- LexAgain. -/
theorem again_same {s : ByteArray} {l : List Tok} (h : allP s = .inl l) (S : ByteArray) (hS : S.data.toList = joinL l) :
    (4000 < S.size → allP S = .inr (6, none)) ∧ (¬ 4000 < S.size → ∃ l', allP S = .inl l' ∧ l'.length = l.length ∧ l'.map Tok.core = l.map Tok.core) := by
  unfold allP at h ⊢
  split at h
  · cases h
  · constructor
    · intro h; rw [if_pos h]
    · intro hs
      rw [if_neg hs]
      obtain ⟨l', q1, q2⟩ := again_all s l (s.size + 1) 0 (by omega) (by omega) h S [] [] (S.size + 1) (by simp) (by simpa using hS) (by
        have := joinL_length l
        rw [← hS] at this
        have e : S.data.toList.length = S.size := rfl
        omega)
      exact ⟨l', q1, by simpa using congrArg List.length q2, q2⟩
end
end Go.Proofs.YtmooibnedokllaaGreatDoor
