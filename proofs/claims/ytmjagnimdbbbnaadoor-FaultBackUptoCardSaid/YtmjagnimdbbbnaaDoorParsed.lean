/- Lines read, second part: the program and the document read the same; what is read was written so. -/
import Derived.Test.YtmjagnimdbbbnaaDoorLead
namespace Go.Proofs.YtmjagnimdbbbnaaDoor
open Go.RowKit

def isD (c : UInt8) : Bool := decide (48 ≤ c.toNat) && decide (c.toNat ≤ 57)
def runD : List UInt8 → Nat
  | [] => 0
  | c :: r => if isD c = true then runD r + 1 else 0
/-- weirref01.digits. -/
def digitsP : List UInt8 → Nat
  | [] => 0
  | c :: r => if isD c = true ∨ c = 45 then runD r + 1 else 0
theorem runD_app (d x : List UInt8) (h : ∀ c ∈ d, isD c = true) : runD (d ++ 58 :: x) = d.length := by
  induction d with
  | nil => rfl
  | cons c d ih =>
    have hc := h c (List.mem_cons_self ..)
    show (if isD c = true then runD (d ++ 58 :: x) + 1 else 0) = _
    rw [if_pos hc, ih (fun y hy => h y (List.mem_cons_of_mem _ hy))]
    rfl
theorem digits_isD (u : Nat) : ∀ c ∈ Lib.decDigits u, isD c = true := fun c hc => by
  have := digits_no u c hc
  simp [isD, this.1, this.2]
theorem digitsP_itoa (v : Int) (x : List UInt8) : digitsP ((itoa v).data.toList ++ 58 :: x) = (itoa v).data.toList.length ∧ 0 < (itoa v).data.toList.length := by
  show digitsP (Lib.itoa v ++ 58 :: x) = (Lib.itoa v).length ∧ 0 < (Lib.itoa v).length
  unfold Lib.itoa
  split
  · refine ⟨?_, by simp⟩
    show (if isD 45 = true ∨ (45 : UInt8) = 45 then runD (Lib.decDigits v.natAbs ++ 58 :: x) + 1 else 0) = _
    rw [if_pos (Or.inr rfl), runD_app _ _ (digits_isD _)]
    rfl
  · have hd := digits_isD v.toNat
    obtain ⟨c, r, e, _, _⟩ := digits_head v.toNat
    rw [e] at hd ⊢
    refine ⟨?_, by simp⟩
    show (if isD c = true ∨ c = 45 then runD (r ++ 58 :: x) + 1 else 0) = _
    rw [if_pos (Or.inl (hd c (List.mem_cons_self ..))), runD_app _ _ (fun y hy => hd y (List.mem_cons_of_mem _ hy))]
    rfl
/-- weirref01.lead. -/
def leadR (s p : ByteArray) : Option (Int × ByteArray) :=
  if Lib.hasPrefix s.data.toList p.data.toList = true then
    if digitsP (s.data.toList.drop p.size) = 0 ∨ Lib.hasPrefix ((s.data.toList.drop p.size).drop (digitsP (s.data.toList.drop p.size))) [58, 32] = false then none
    else some ((atoiV ⟨((s.data.toList.drop p.size).take (digitsP (s.data.toList.drop p.size))).toArray⟩).1, ⟨(((s.data.toList.drop p.size).drop (digitsP (s.data.toList.drop p.size))).drop 2).toArray⟩)
  else none
structure LeadLaw (lead : ByteArray → ByteArray → Option (Int × ByteArray)) : Prop where
  some_ : ∀ {s p r : ByteArray} {v : Int}, I64 v → s = p ++ (itoa v ++ (colonWord ++ r)) → lead s p = some (v, r)
  none_ : ∀ {s p : ByteArray}, Lib.hasPrefix s.data.toList p.data.toList = false → lead s p = none
  fit : ∀ {s p r : ByteArray} {v : Int}, lead s p = some (v, r) → I64 v
theorem lawF : LeadLaw leadF := ⟨lead_some, lead_none, fun h => (lead_back h).1⟩
theorem lawR : LeadLaw leadR where
  some_ {s p r v} hv hs := by
    have hl : s.data.toList = p.data.toList ++ ((itoa v).data.toList ++ 58 :: 32 :: r.data.toList) := by
      rw [hs, data_app, data_app, data_app]
      rfl
    obtain ⟨h1, h2⟩ := trim_app p.data.toList ((itoa v).data.toList ++ 58 :: 32 :: r.data.toList)
    obtain ⟨h3, h4⟩ := digitsP_itoa v (32 :: r.data.toList)
    have hd : s.data.toList.drop p.size = (itoa v).data.toList ++ 58 :: 32 :: r.data.toList := by
      rw [hl]
      exact List.drop_left' rfl
    unfold leadR
    rw [hd, h3, hl, if_pos h1, List.drop_left' rfl, List.take_left' rfl]
    have hc : Lib.hasPrefix (58 :: 32 :: r.data.toList) [58, 32] = true := by simp [Lib.hasPrefix, List.isPrefixOf]
    rw [if_neg (fun h => by rcases h with h | h <;> first | omega | (rw [hc] at h; cases h))]
    simp only [Array.toArray_toList, List.drop_succ_cons, List.drop_zero]
    rw [show (⟨(itoa v).data⟩ : ByteArray) = itoa v from rfl, atoiV_itoa v hv]
  none_ h := by
    unfold leadR
    rw [if_neg (by rw [h]; decide)]
  fit h := by
    unfold leadR at h
    split at h
    · split at h
      · cases h
      · obtain ⟨rfl, -⟩ := Prod.mk.inj (Option.some.inj h)
        exact atoiV_all _
    · cases h

def num1 (l : Option (Int × ByteArray)) : Int := match l with | some q => q.1 | none => 0
def rest1 (s : ByteArray) (l : Option (Int × ByteArray)) : ByteArray := match l with | some q => q.2 | none => s
def tailBy (lead : ByteArray → ByteArray → Option (Int × ByteArray)) (s : ByteArray) : ByteArray := rest1 (rest1 s (lead s numWord)) (lead (rest1 s (lead s numWord)) atWord)
def badBy (lead : ByteArray → ByteArray → Option (Int × ByteArray)) (s : ByteArray) : Bad :=
  ⟨(findP (tailBy lead s)).1, num1 (lead (rest1 s (lead s numWord)) atWord), num1 (lead s numWord), (lead (rest1 s (lead s numWord)) atWord).isSome, (lead s numWord).isSome⟩
def okBy (lead : ByteArray → ByteArray → Option (Int × ByteArray)) (s : ByteArray) : Prop := (findP (tailBy lead s)).2 = true ∧ (findP (tailBy lead s)).1 ≠ 0
instance (lead : ByteArray → ByteArray → Option (Int × ByteArray)) (s : ByteArray) : Decidable (okBy lead s) := by unfold okBy; exact inferInstance
def lineOf (b : Bad) : ByteArray := lineP b.numbered b.placed b.in_ b.at_ b.code
structure Valid (b : Bad) : Prop where
  code : b.code ≠ 0
  c : I64 b.code
  a : I64 b.at_
  i : I64 b.in_
  a0 : b.placed = false → b.at_ = 0
  i0 : b.numbered = false → b.in_ = 0

theorem names_lead : nameList.all (fun p => !Lib.hasPrefix p.2.data.toList numWord.data.toList && !Lib.hasPrefix p.2.data.toList atWord.data.toList) = true := by kernel_rfl
theorem name_lead (c : Int) : Lib.hasPrefix (nameP c).data.toList numWord.data.toList = false ∧ Lib.hasPrefix (nameP c).data.toList atWord.data.toList = false := by
  cases hq : nameIn c nameList with
  | some s =>
    have hn : nameP c = s := by rw [nameP, hq]
    have := List.all_eq_true.1 names_lead _ (nameIn_mem c s _ hq)
    rw [hn]
    simpa using this
  | none =>
    have hn : nameP c = errnoWord ++ itoa c := by rw [nameP, hq]
    rw [hn, data_app]
    exact ⟨rfl, rfl⟩
theorem names_keys : nameList.all (fun p => decide (nameIn p.1 nameList = some p.2)) = true := by kernel_rfl
theorem found_name {s : ByteArray} (h : (findP s).2 = true) : nameP (findP s).1 = s ∧ I64 (findP s).1 := by
  unfold findP at h ⊢
  cases hq : numIn s nameList with
  | some k =>
    have hm := numIn_mem s k _ hq
    have h1 := List.all_eq_true.1 names_keys _ hm
    have h2 := List.all_eq_true.1 names_fit _ hm
    simp only [decide_eq_true_eq] at h2
    have h1' : nameIn k nameList = some s := of_decide_eq_true h1
    simp only []
    exact ⟨by rw [nameP, h1'], ⟨by omega, by omega⟩⟩
  | none =>
    rw [hq] at h
    simp only [] at h ⊢
    split at h
    · rename_i hc
      rw [if_pos hc]
      exact ⟨hc.2.2, atoiV_all _⟩
    · cases h
theorem empty_app (x : ByteArray) : (⟨#[]⟩ : ByteArray) ++ x = x := bytes_ext (by rw [data_app]; rfl)
theorem app_assoc (a b c : ByteArray) : a ++ b ++ c = a ++ (b ++ c) := bytes_ext (by simp only [data_app, List.append_assoc])
theorem at_not_num (x : ByteArray) : Lib.hasPrefix (atWord ++ x).data.toList numWord.data.toList = false := by rw [data_app]; rfl
/-- What is written is read. -/
theorem back_by {lead : ByteArray → ByteArray → Option (Int × ByteArray)} (H : LeadLaw lead) (b : Bad) (v : Valid b) : badBy lead (lineOf b) = b ∧ okBy lead (lineOf b) := by
  obtain ⟨c, a, i, p, n⟩ := b
  obtain ⟨hc, c1, a1, i1, a0, i0⟩ := v
  simp only at hc c1 a1 i1 a0 i0
  have hf := find_name c c1
  have hl := name_lead c
  cases p <;> cases n
  · obtain rfl := a0 rfl
    obtain rfl := i0 rfl
    have e : lineOf ⟨c, 0, 0, false, false⟩ = nameP c := by simp only [lineOf, lineP, if_neg hc, leadP, numP, Bool.false_eq_true, if_false]; exact empty_app _
    rw [e]
    have l1 := H.none_ hl.1
    have l2 := H.none_ hl.2
    have ht : tailBy lead (nameP c) = nameP c := by simp only [tailBy, l1, rest1, l2]
    refine ⟨?_, by unfold okBy; rw [ht, hf]; exact ⟨rfl, hc⟩⟩
    unfold badBy
    rw [ht, hf]
    simp only [l1, rest1]
    simp only [l2, num1, Option.isSome]
  · obtain rfl := a0 rfl
    have e : lineOf ⟨c, 0, i, false, true⟩ = numWord ++ (itoa i ++ (colonWord ++ nameP c)) := by
      simp only [lineOf, lineP, if_neg hc, leadP, numP, Bool.false_eq_true, if_false, if_true]
      simp only [empty_app, app_assoc]
    have l1 := H.some_ i1 e
    have l2 := H.none_ hl.2
    have ht : tailBy lead (lineOf ⟨c, 0, i, false, true⟩) = nameP c := by simp only [tailBy, l1, rest1, l2]
    refine ⟨?_, by unfold okBy; rw [ht, hf]; exact ⟨rfl, hc⟩⟩
    unfold badBy
    rw [ht, hf]
    simp only [l1, rest1]
    simp only [l2, num1, Option.isSome]
  · obtain rfl := i0 rfl
    have e : lineOf ⟨c, a, 0, true, false⟩ = atWord ++ (itoa a ++ (colonWord ++ nameP c)) := by
      simp only [lineOf, lineP, if_neg hc, leadP, numP, Bool.false_eq_true, if_false, if_true]
      simp only [empty_app, app_assoc]
    have l1 : lead (lineOf ⟨c, a, 0, true, false⟩) numWord = none := H.none_ (by rw [e]; exact at_not_num _)
    have l2 := H.some_ a1 e
    have ht : tailBy lead (lineOf ⟨c, a, 0, true, false⟩) = nameP c := by simp only [tailBy, l1, rest1, l2]
    refine ⟨?_, by unfold okBy; rw [ht, hf]; exact ⟨rfl, hc⟩⟩
    unfold badBy
    rw [ht, hf]
    simp only [l1, rest1]
    simp only [l2, num1, Option.isSome]
  · have e : lineOf ⟨c, a, i, true, true⟩ = numWord ++ (itoa i ++ (colonWord ++ (atWord ++ (itoa a ++ (colonWord ++ nameP c))))) := by
      simp only [lineOf, lineP, if_neg hc, leadP, numP, if_true]
      simp only [empty_app, app_assoc]
    have l1 := H.some_ i1 e
    have l2 := H.some_ (s := atWord ++ (itoa a ++ (colonWord ++ nameP c))) a1 rfl
    have ht : tailBy lead (lineOf ⟨c, a, i, true, true⟩) = nameP c := by simp only [tailBy, l1, rest1, l2]
    refine ⟨?_, by unfold okBy; rw [ht, hf]; exact ⟨rfl, hc⟩⟩
    unfold badBy
    rw [ht, hf]
    simp only [l1, rest1]
    simp only [l2, num1, Option.isSome]
theorem num1_fit {lead : ByteArray → ByteArray → Option (Int × ByteArray)} (H : LeadLaw lead) (s p : ByteArray) : I64 (num1 (lead s p)) := by
  cases h : lead s p with
  | none => exact zero_I64
  | some q => exact H.fit (v := q.1) (r := q.2) h
theorem valid_by {lead : ByteArray → ByteArray → Option (Int × ByteArray)} (H : LeadLaw lead) {s : ByteArray} (h : okBy lead s) : Valid (badBy lead s) where
  code := h.2
  c := (found_name h.1).2
  a := num1_fit H _ _
  i := num1_fit H _ _
  a0 e := by
    unfold badBy at e ⊢
    simp only at e ⊢
    cases hq : lead (rest1 s (lead s numWord)) atWord with
    | none => rfl
    | some q => rw [hq] at e; cases e
  i0 e := by
    unfold badBy at e ⊢
    simp only at e ⊢
    cases hq : lead s numWord with
    | none => rfl
    | some q => rw [hq] at e; cases e
/-- What is read was written so. -/
theorem line_back {s : ByteArray} (h : okBy leadF s) : lineOf (badBy leadF s) = s := by
  have hn := (found_name h.1).1
  have hc := h.2
  simp only [lineOf, lineP, badBy, if_neg hc, hn]
  clear hn hc h
  unfold tailBy
  cases h1 : leadF s numWord with
  | none =>
    simp only [rest1, num1, Option.isSome]
    cases h2 : leadF s atWord with
    | none => simp only [leadP, numP, Bool.false_eq_true, if_false]; exact empty_app _
    | some q =>
      have := (lead_back (v := q.1) (r := q.2) h2).2
      simp only [leadP, numP, Bool.false_eq_true, if_false, if_true]
      simp only [empty_app, app_assoc]
      exact this.symm
  | some q =>
    have e1 := (lead_back (v := q.1) (r := q.2) h1).2
    simp only [rest1, num1, Option.isSome]
    cases h2 : leadF q.2 atWord with
    | none =>
      simp only [leadP, numP, Bool.false_eq_true, if_false, if_true]
      simp only [empty_app, app_assoc]
      exact e1.symm
    | some q2 =>
      have e2 := (lead_back (v := q2.1) (r := q2.2) h2).2
      simp only [leadP, numP, if_true]
      simp only [empty_app, app_assoc]
      rw [← e2]
      exact e1.symm
def parseF (s : ByteArray) : Option Bad := if okBy leadF s then some (badBy leadF s) else none
def parseR (s : ByteArray) : Option Bad := if okBy leadR s ∧ printB (badBy leadR s) = s then some (badBy leadR s) else none
theorem print_line {b : Bad} (h : b.code ≠ 0) : printB b = lineOf b := by
  unfold printB lineOf
  rw [if_neg (fun e => h e.1)]
theorem parse_eq (s : ByteArray) : parseF s = parseR s := by
  unfold parseF parseR
  by_cases h : okBy leadF s
  · have hv := valid_by lawF h
    have hb := back_by lawR _ hv
    rw [line_back h] at hb
    rw [if_pos h, hb.1, if_pos ⟨hb.2, (print_line hv.code).trans (line_back h)⟩]
  · rw [if_neg h]
    by_cases h2 : okBy leadR s ∧ printB (badBy leadR s) = s
    · have hv := valid_by lawR h2.1
      have hb := back_by lawF _ hv
      rw [← print_line hv.code, h2.2] at hb
      exact absurd hb.2 h
    · rw [if_neg h2]
end Go.Proofs.YtmjagnimdbbbnaaDoor
