/- Lines read: the plain law. What is read is what was written, by the program and by the document. -/
import Derived.Test.YtmjagnimdbbbnaaDoorBoth
import Derived.Test.YtmjagnimdbbbnaaDoorPrints
namespace Go.Proofs.YtmjagnimdbbbnaaDoor
open Go.RowKit

theorem index_at : ∀ (d r : List UInt8), 58 ∉ d → Lib.index (d ++ 58 :: 32 :: r) [58, 32] = d.length
  | [], r, _ => by
    show Lib.index (58 :: 32 :: r) [58, 32] = 0
    unfold Lib.index
    rw [if_pos (by simp [List.isPrefixOf])]
  | b :: d, r, h => by
    have hb : b ≠ 58 := fun e => h (by rw [e]; exact List.mem_cons_self ..)
    have ih := index_at d r (fun hm => h (List.mem_cons_of_mem _ hm))
    show Lib.index (b :: (d ++ 58 :: 32 :: r)) [58, 32] = _
    unfold Lib.index
    have hp : List.isPrefixOf [58, 32] (b :: (d ++ 58 :: 32 :: r)) = false := by
      simp [List.isPrefixOf, Ne.symm hb]
    rw [if_neg (by rw [hp]; decide), ih]
    have hn : ((d.length : Int) == -1) = false := by simp
    rw [if_neg (by rw [hn]; decide)]
    simp
theorem cut_at (d r : List UInt8) (h : 58 ∉ d) : Lib.cut (d ++ 58 :: 32 :: r) [58, 32] = (d, r, true) := by
  unfold Lib.cut
  rw [index_at d r h, if_pos (by omega)]
  simp
theorem index_split (sub : List UInt8) : ∀ l : List UInt8, 0 ≤ Lib.index l sub → l = l.take (Lib.index l sub).toNat ++ sub ++ l.drop ((Lib.index l sub).toNat + sub.length)
  | [], h => by
    unfold Lib.index at h ⊢
    split at h
    · rename_i he
      simp at he
      subst he
      simp
    · exact absurd h (by decide)
  | b :: l, h => by
    unfold Lib.index at h ⊢
    by_cases h1 : sub.isPrefixOf (b :: l) = true
    · rw [if_pos h1]
      obtain ⟨t, ht⟩ := List.isPrefixOf_iff_prefix.1 h1
      rw [← ht]
      simp
    · rw [if_neg h1] at h ⊢
      by_cases h2 : (Lib.index l sub == -1) = true
      · rw [if_pos h2] at h
        exact absurd h (by decide)
      · rw [if_neg h2] at h ⊢
        have hg := Lib.index_ge l sub
        have h2' : ¬ Lib.index l sub = -1 := by simpa using h2
        have ih := index_split sub l (by omega)
        have e : (Lib.index l sub + 1).toNat = (Lib.index l sub).toNat + 1 := by omega
        rw [e, show (Lib.index l sub).toNat + 1 + sub.length = ((Lib.index l sub).toNat + sub.length) + 1 by omega]
        simp only [List.take_succ_cons, List.drop_succ_cons, List.cons_append]
        exact congrArg (b :: ·) ih
theorem cut_back {l : List UInt8} (h : (Lib.cut l [58, 32]).2.2 = true) : l = (Lib.cut l [58, 32]).1 ++ 58 :: 32 :: (Lib.cut l [58, 32]).2.1 := by
  unfold Lib.cut at h ⊢
  split at h
  · rename_i h0
    rw [if_pos h0]
    have := index_split [58, 32] l h0
    simpa using this
  · cases h
theorem digits_no (u : Nat) : ∀ c ∈ Lib.decDigits u, 48 ≤ c.toNat ∧ c.toNat ≤ 57 := by
  induction u using Nat.strongRecOn with
  | ind u ih =>
    intro c hc
    rw [Lib.decDigits] at hc
    split at hc
    · rename_i h
      simp only [List.mem_singleton] at hc
      subst hc
      rw [digit_toNat u h]
      omega
    · rename_i h
      rcases List.mem_append.1 hc with h1 | h1
      · exact ih (u / 10) (by omega) c h1
      · simp only [List.mem_singleton] at h1
        subst h1
        rw [digit_toNat _ (by omega)]
        omega
theorem itoa_no (n : Int) : (58 : UInt8) ∉ (itoa n).data.toList := by
  show (58 : UInt8) ∉ Lib.itoa n
  unfold Lib.itoa
  split
  · intro h
    rcases List.mem_cons.1 h with h | h
    · exact absurd h (by decide)
    · have := digits_no _ _ h
      exact absurd this (by decide)
  · intro h
    have := digits_no _ _ h
    exact absurd this (by decide)

def spW : ByteArray := ⟨#[32]⟩
def numberW : ByteArray := ⟨#[110, 117, 109, 98, 101, 114]⟩
def atW : ByteArray := ⟨#[97, 116]⟩
/-- fault.lead: a word, a number, a colon and a blank at the front. -/
def leadF (s p : ByteArray) : Option (Int × ByteArray) :=
  if Lib.hasPrefix s.data.toList p.data.toList = true then
    if (Lib.cut (Lib.trimPrefix s.data.toList p.data.toList) [58, 32]).2.2 = true ∧ (atoiV ⟨(Lib.cut (Lib.trimPrefix s.data.toList p.data.toList) [58, 32]).1.toArray⟩).2 = true ∧
        itoa (atoiV ⟨(Lib.cut (Lib.trimPrefix s.data.toList p.data.toList) [58, 32]).1.toArray⟩).1 = ⟨(Lib.cut (Lib.trimPrefix s.data.toList p.data.toList) [58, 32]).1.toArray⟩
    then some ((atoiV ⟨(Lib.cut (Lib.trimPrefix s.data.toList p.data.toList) [58, 32]).1.toArray⟩).1, ⟨(Lib.cut (Lib.trimPrefix s.data.toList p.data.toList) [58, 32]).2.1.toArray⟩) else none
  else none
theorem trim_app (p l : List UInt8) : Lib.hasPrefix (p ++ l) p = true ∧ Lib.trimPrefix (p ++ l) p = l := by
  have h : Lib.hasPrefix (p ++ l) p = true := List.isPrefixOf_iff_prefix.2 (List.prefix_append _ _)
  refine ⟨h, ?_⟩
  unfold Lib.trimPrefix
  rw [if_pos h]
  simp
theorem lead_some {s p r : ByteArray} {v : Int} (hv : I64 v) (hs : s = p ++ (itoa v ++ (colonWord ++ r))) : leadF s p = some (v, r) := by
  have hl : s.data.toList = p.data.toList ++ ((itoa v).data.toList ++ 58 :: 32 :: r.data.toList) := by
    rw [hs, data_app, data_app, data_app]
    rfl
  obtain ⟨h1, h2⟩ := trim_app p.data.toList ((itoa v).data.toList ++ 58 :: 32 :: r.data.toList)
  unfold leadF
  rw [hl, if_pos h1, h2, cut_at _ _ (itoa_no v)]
  simp only [Array.toArray_toList]
  rw [show (⟨(itoa v).data⟩ : ByteArray) = itoa v from rfl, atoiV_itoa v hv]
  rw [if_pos (by simp)]
theorem lead_back {s p r : ByteArray} {v : Int} (h : leadF s p = some (v, r)) : I64 v ∧ s = p ++ (itoa v ++ (colonWord ++ r)) := by
  unfold leadF at h
  split at h
  · rename_i hp
    split at h
    · rename_i hc
      obtain ⟨c1, c2, c3⟩ := hc
      have hb := cut_back c1
      generalize (Lib.cut (Lib.trimPrefix s.data.toList p.data.toList) [58, 32]).1 = d at *
      generalize (Lib.cut (Lib.trimPrefix s.data.toList p.data.toList) [58, 32]).2.1 = t at *
      obtain ⟨rfl, rfl⟩ := Prod.mk.inj (Option.some.inj h)
      refine ⟨atoiV_all _, ?_⟩
      rw [c3]
      apply bytes_ext
      rw [data_app, data_app, data_app]
      unfold Lib.trimPrefix at hb
      rw [if_pos hp] at hb
      unfold Lib.hasPrefix at hp
      obtain ⟨q, hq⟩ := List.isPrefixOf_iff_prefix.1 hp
      rw [← hq] at hb ⊢
      simp only [List.drop_left] at hb
      rw [hb]
      rfl
    · cases h
  · cases h
theorem lead_none {s p : ByteArray} (h : Lib.hasPrefix s.data.toList p.data.toList = false) : leadF s p = none := by
  unfold leadF
  rw [if_neg (by rw [h]; decide)]
end Go.Proofs.YtmjagnimdbbbnaaDoor
