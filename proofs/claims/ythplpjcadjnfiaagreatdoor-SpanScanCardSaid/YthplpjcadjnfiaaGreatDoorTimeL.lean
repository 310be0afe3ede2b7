/- Package span: times as texts, and read: plain laws, no program in sight. -/
import Derived.Test.YthplpjcadjnfiaaGreatDoorPad
import Derived.Test.YthplpjcadjnfiaaGreatDoorCal
namespace Go.Proofs.YthplpjcadjnfiaaGreatDoor
open Go.RowKit
set_option linter.unusedSimpArgs false
set_option linter.unusedVariables false

/-- A number of n digits at a place, from least to most. -/
def numS (l : List UInt8) (a n : Nat) (lo hi : Int) : Option Int :=
  if n ≤ runD (l.drop a) ∧ lo ≤ (decN ((l.drop a).take n) : Int) ∧ (decN ((l.drop a).take n) : Int) ≤ hi then some (decN ((l.drop a).take n) : Int) else none
def sigS (l : List UInt8) (a : Nat) (c : UInt8) : Bool := l[a]? == some c
/-- The fraction of a second: nanoseconds, and where it ends. -/
def fracS (l : List UInt8) (a : Nat) : Option (Int × Nat) :=
  if sigS l a 46 = true then
    if 1 ≤ runD (l.drop (a + 1)) ∧ runD (l.drop (a + 1)) ≤ 9 then some ((decN ((l.drop (a + 1)).take (runD (l.drop (a + 1)))) * 10 ^ (9 - runD (l.drop (a + 1))) : Nat), a + 1 + runD (l.drop (a + 1))) else none
  else some (0, a)
/-- How far the clock is ahead: minutes, and where it ends; or where it goes wrong. -/
def zoneS (l : List UInt8) (a : Nat) : Except Nat (Int × Nat) :=
  if sigS l a 90 = true then .ok (0, a + 1) else
  if sigS l a 43 = true ∨ sigS l a 45 = true then
    match numS l (a + 1) 2 0 23 with
    | none => .error (a + 1)
    | some h => if sigS l (a + 3) 58 = true then
        match numS l (a + 4) 2 0 59 with
        | none => .error (a + 4)
        | some m => .ok (if sigS l a 45 = true then -(60 * h + m) else 60 * h + m, a + 6)
      else .error (a + 3)
  else .error a
inductive TimeR where
  | at_ (p : Nat)
  | over
  | ok (t : Int)
def nsec (y mo d h mi sec ns z : Int) : Int := ((dayN y mo d * 1440 + 60 * h + mi - z) * 60 + sec) * 1000000000 + ns
def saidP (v : Int) : TimeR := if -9223372036854775808 ≤ v ∧ v ≤ 9223372036854775807 then .ok v else .over
def timeP (l : List UInt8) : TimeR :=
  match numS l 0 4 0 9999 with
  | none => .at_ 0
  | some y => if sigS l 4 45 = true then
    match numS l 5 2 1 12 with
    | none => .at_ 5
    | some mo => if sigS l 7 45 = true then
      match numS l 8 2 1 (daysM y mo) with
      | none => .at_ 8
      | some d => if sigS l 10 84 = true then
        match numS l 11 2 0 23 with
        | none => .at_ 11
        | some h => if sigS l 13 58 = true then
          match numS l 14 2 0 59 with
          | none => .at_ 14
          | some mi => if sigS l 16 58 = true then
            match numS l 17 2 0 59 with
            | none => .at_ 17
            | some sec =>
              match fracS l 19 with
              | none => .at_ 19
              | some (ns, a) =>
                match zoneS l a with
                | .error p => .at_ p
                | .ok (z, b) => if b < l.length then .at_ b else saidP (nsec y mo d h mi sec ns z)
          else .at_ 16
        else .at_ 13
      else .at_ 10
    else .at_ 7
  else .at_ 4

def fracL (n : Int) : List UInt8 := if 0 < n then 46 :: trimZ (padL 9 n.toNat) else []
/-- A time as a text. -/
noncomputable def textL (t : Int) : List UInt8 :=
  padL 4 (dateP (t / 1000000000 / 86400)).1.toNat ++ 45 :: (padL 2 (dateP (t / 1000000000 / 86400)).2.1.toNat ++ 45 :: (padL 2 (dateP (t / 1000000000 / 86400)).2.2.toNat ++ 84 ::
    (padL 2 (t / 1000000000 % 86400 / 3600).toNat ++ 58 :: (padL 2 (t / 1000000000 % 86400 / 60 % 60).toNat ++ 58 :: (padL 2 (t / 1000000000 % 86400 % 60).toNat ++ (fracL (t % 1000000000) ++ [90]))))))

theorem runD_ge (d r : List UInt8) (hd : ∀ c ∈ d, isD c = true) : d.length ≤ runD (d ++ r) := by
  induction d with
  | nil => exact Nat.zero_le _
  | cons c d ih =>
    have hc := hd c (List.mem_cons_self ..)
    have := ih (fun x hx => hd x (List.mem_cons_of_mem _ hx))
    show _ ≤ (if isD c = true then runD (d ++ r) + 1 else 0)
    rw [if_pos hc, List.length_cons]
    omega
theorem numS_pad {l r : List UInt8} {a n : Nat} {lo hi v : Int} (h : l.drop a = padL n v.toNat ++ r) (h0 : 0 ≤ v) (hv : v.toNat < 10 ^ n) (h1 : lo ≤ v) (h2 : v ≤ hi) :
    numS l a n lo hi = some v ∧ l.drop (a + n) = r := by
  have hl := padL_len n v.toNat
  have e1 : (l.drop a).take n = padL n v.toNat := by rw [h, List.take_left' hl]
  have e2 : n ≤ runD (l.drop a) := by rw [h]; have := runD_ge (padL n v.toNat) r (padL_isD n _); rw [hl] at this; exact this
  have e3 : ((decN (padL n v.toNat) : Nat) : Int) = v := by rw [padL_decN n _ hv]; omega
  refine ⟨?_, ?_⟩
  · unfold numS
    rw [e1, e3, if_pos ⟨e2, h1, h2⟩]
  · rw [← List.drop_drop, h, List.drop_left' hl]
theorem sigS_at {l r : List UInt8} {a : Nat} {c : UInt8} (h : l.drop a = c :: r) : (∀ x, sigS l a x = (c == x)) ∧ l.drop (a + 1) = r := by
  have e : l[a]? = some c := by
    have := List.getElem?_drop (xs := l) (i := a) (j := 0)
    rw [h] at this
    simpa using this.symm
  refine ⟨fun x => by unfold sigS; rw [e]; cases hx : c == x with
    | true => have := eq_of_beq hx; subst this; simp
    | false => simp at hx; simp [hx], ?_⟩
  rw [← List.drop_drop, h]
  rfl
/-- What is written of a fraction is read as it. -/
theorem frac_back {l : List UInt8} {a : Nat} {n : Int} (h : l.drop a = fracL n ++ [90]) (h0 : 0 ≤ n) (h1 : n < 1000000000) :
    ∃ b, fracS l a = some (n, b) ∧ l.drop b = [90] := by
  unfold fracL at h
  by_cases hn : 0 < n
  · rw [if_pos hn] at h
    obtain ⟨hs, hr⟩ := sigS_at h
    replace hr : l.drop (a + 1) = trimZ (padL 9 n.toNat) ++ [90] := hr
    obtain ⟨k, hk, hkn⟩ := trimZ_back (padL 9 n.toNat)
    rw [padL_len] at hkn
    have hd : ∀ c ∈ trimZ (padL 9 n.toNat), isD c = true := by
      intro c hc
      refine padL_isD 9 n.toNat c ?_
      rw [hk]
      exact List.mem_append_left _ hc
    have hrun : runD (l.drop (a + 1)) = (trimZ (padL 9 n.toNat)).length := by
      rw [hr]
      refine runD_of _ _ hd ?_
      rintro c ⟨rfl⟩
      decide
    have hne : trimZ (padL 9 n.toNat) ≠ [] := by
      apply trimZ_ne
      refine Decidable.byContradiction fun hno => ?_
      have hall : ∀ c ∈ padL 9 n.toNat, c = 48 := fun c hc => Decidable.byContradiction fun e => hno ⟨c, hc, e⟩
      have e : padL 9 n.toNat = List.replicate 9 48 := List.eq_replicate_iff.2 ⟨padL_len _ _, hall⟩
      have e2 := padL_decN 9 n.toNat (by omega)
      rw [e] at e2
      have : decN (List.replicate 9 48) = 0 := by decide
      omega
    have hpos : 1 ≤ (trimZ (padL 9 n.toNat)).length := List.length_pos_iff.2 hne
    have hval : decN (trimZ (padL 9 n.toNat)) * 10 ^ (9 - (trimZ (padL 9 n.toNat)).length) = n.toNat := by
      have e2 := padL_decN 9 n.toNat (by omega)
      rw [hk] at e2
      have e3 : ∀ j v, decF v (List.replicate j 48) = v * 10 ^ j := by
        intro j
        induction j with
        | zero => intro v; simp [decF_nil]
        | succ j ih => intro v; rw [List.replicate_succ, decF_cons, ih, Nat.pow_succ]; have : (48 : UInt8).toNat - 48 = 0 := by decide
                       rw [this, Nat.add_zero, Nat.mul_comm 10 v, Nat.mul_assoc, Nat.mul_comm 10]
      have e4 : decN (trimZ (padL 9 n.toNat) ++ List.replicate k 48) = decN (trimZ (padL 9 n.toNat)) * 10 ^ k := by
        show decF 0 _ = _
        rw [decF_app, e3]
      rw [show 9 - (trimZ (padL 9 n.toNat)).length = k by omega, ← e4]
      exact e2
    refine ⟨a + 1 + (trimZ (padL 9 n.toNat)).length, ?_, ?_⟩
    · unfold fracS
      rw [if_pos (by rw [hs]; rfl), hrun, if_pos ⟨hpos, by omega⟩, hr, List.take_left' rfl, hval]
      congr 2; omega
    · rw [← List.drop_drop, hr, List.drop_left' rfl]
  · rw [if_neg hn, List.nil_append] at h
    obtain rfl : n = 0 := by omega
    obtain ⟨hs, _⟩ := sigS_at h
    refine ⟨a, ?_, h⟩
    unfold fracS
    rw [if_neg (by rw [hs]; decide)]
/-- A time as a text, read, is that time. -/
theorem time_text (t : Int) (h0 : -9223372036854775808 ≤ t) (h1 : t ≤ 9223372036854775807) : timeP (textL t) = .ok t := by
  obtain ⟨hv, hn⟩ := dateP_yes (n := t / 1000000000 / 86400) ⟨by omega, by omega⟩
  have hl : textL t = textL t := rfl
  conv at hl => rhs; unfold textL
  generalize (dateP (t / 1000000000 / 86400)).1 = y at *
  generalize (dateP (t / 1000000000 / 86400)).2.1 = m at *
  generalize (dateP (t / 1000000000 / 86400)).2.2 = d at *
  obtain ⟨y0, y1, m0, m1, d0, d1⟩ := validD_iff.1 hv
  have d2 := daysM_bd y m
  generalize textL t = l at *
  obtain ⟨a1, l1⟩ := numS_pad (l := l) (a := 0) (n := 4) (lo := 0) (hi := 9999) (by rw [List.drop_zero]; exact hl) y0 (by omega) y0 y1
  obtain ⟨b1, l2⟩ := sigS_at l1
  obtain ⟨a2, l3⟩ := numS_pad (lo := 1) (hi := 12) l2 (by omega) (by omega) m0 m1
  obtain ⟨b2, l4⟩ := sigS_at l3
  obtain ⟨a3, l5⟩ := numS_pad (lo := 1) (hi := daysM y m) l4 (by omega) (by omega) d0 d1
  obtain ⟨b3, l6⟩ := sigS_at l5
  obtain ⟨a4, l7⟩ := numS_pad (lo := 0) (hi := 23) l6 (by omega) (by omega) (by omega) (by omega)
  obtain ⟨b4, l8⟩ := sigS_at l7
  obtain ⟨a5, l9⟩ := numS_pad (lo := 0) (hi := 59) l8 (by omega) (by omega) (by omega) (by omega)
  obtain ⟨b5, l10⟩ := sigS_at l9
  obtain ⟨a6, l11⟩ := numS_pad (lo := 0) (hi := 59) l10 (by omega) (by omega) (by omega) (by omega)
  obtain ⟨b, a7, l12⟩ := frac_back l11 (by omega) (by omega)
  obtain ⟨b6, l13⟩ := sigS_at l12
  have hz : zoneS l b = .ok (0, b + 1) := by unfold zoneS; rw [if_pos (by rw [b6]; rfl)]
  have hlen : ¬ b + 1 < l.length := by have := List.drop_eq_nil_iff.1 l13; omega
  have e : nsec y m d (t / 1000000000 % 86400 / 3600) (t / 1000000000 % 86400 / 60 % 60) (t / 1000000000 % 86400 % 60) (t % 1000000000) 0 = t := by
    unfold nsec; rw [hn]; omega
  unfold timeP
  simp only [Nat.reduceAdd] at *
  simp only [a1, a2, a3, a4, a5, a6, a7, hz, b1, b2, b3, b4, b5, beq_self_eq_true, if_true, hlen, if_false, e]
  unfold saidP
  rw [if_pos ⟨h0, h1⟩]
end Go.Proofs.YthplpjcadjnfiaaGreatDoor
