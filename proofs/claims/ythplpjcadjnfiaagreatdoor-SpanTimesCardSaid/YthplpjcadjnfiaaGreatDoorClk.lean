/- Reading a time by the document's clock, part by part: plain laws, no program in sight. -/
import Derived.Test.YthplpjcadjnfiaaGreatDoorTimeL
namespace Go.Proofs.YthplpjcadjnfiaaGreatDoor
open Go.RowKit
set_option linter.unusedSimpArgs false
set_option linter.unusedVariables false

/-- The clock: where it stands, where it went wrong. -/
abbrev CSt := Nat × Option Nat
def numC (l : List UInt8) (n : Nat) (lo hi : Int) (st : CSt) : Int × CSt :=
  match st.2 with
  | some _ => (0, st)
  | none => match numS l st.1 n lo hi with
    | some v => (v, (st.1 + n, none))
    | none => (0, (st.1, some st.1))
def sigC (l : List UInt8) (c : UInt8) (st : CSt) : CSt :=
  match st.2 with
  | some _ => st
  | none => if sigS l st.1 c = true then (st.1 + 1, none) else (st.1, some st.1)
def fracC (l : List UInt8) (st : CSt) : Int × CSt :=
  match st.2 with
  | some _ => (0, st)
  | none => match fracS l st.1 with
    | some (v, a) => (v, (a, none))
    | none => (0, (st.1, some st.1))
def zoneC (l : List UInt8) (st : CSt) : Int × CSt :=
  match st.2 with
  | some _ => (0, st)
  | none =>
    if sigS l st.1 90 = true then (0, (st.1 + 1, none)) else
    if sigS l st.1 43 = true ∨ sigS l st.1 45 = true then
      (if sigS l st.1 45 = true then -(60 * (numC l 2 0 23 (st.1 + 1, none)).1 + (numC l 2 0 59 (sigC l 58 (numC l 2 0 23 (st.1 + 1, none)).2)).1)
       else 60 * (numC l 2 0 23 (st.1 + 1, none)).1 + (numC l 2 0 59 (sigC l 58 (numC l 2 0 23 (st.1 + 1, none)).2)).1,
       (numC l 2 0 59 (sigC l 58 (numC l 2 0 23 (st.1 + 1, none)).2)).2)
    else (0, (st.1, some st.1))
/-- How many days a month has; 0: there is none. -/
def monthP (y m : Int) : Int := if 1 ≤ m ∧ m ≤ 12 then daysM y m else 0
structure CT where
  y : Int
  mo : Int
  d : Int
  h : Int
  mi : Int
  sec : Int
  ns : Int
  z : Int
  st : CSt
def cY (l : List UInt8) := numC l 4 0 9999 (0, none)
def cMO (l : List UInt8) := numC l 2 1 12 (sigC l 45 (cY l).2)
def cD (l : List UInt8) := numC l 2 1 (monthP (cY l).1 (cMO l).1) (sigC l 45 (cMO l).2)
def cH (l : List UInt8) := numC l 2 0 23 (sigC l 84 (cD l).2)
def cMI (l : List UInt8) := numC l 2 0 59 (sigC l 58 (cH l).2)
def cSEC (l : List UInt8) := numC l 2 0 59 (sigC l 58 (cMI l).2)
def cF (l : List UInt8) := fracC l (cSEC l).2
def cZ (l : List UInt8) := zoneC l (cF l).2

theorem numC_bad (l : List UInt8) (n : Nat) (lo hi : Int) (a p : Nat) : numC l n lo hi (a, some p) = (0, (a, some p)) := rfl
theorem numC_yes {l : List UInt8} {n a : Nat} {lo hi v : Int} (h : numS l a n lo hi = some v) : numC l n lo hi (a, none) = (v, (a + n, none)) := by simp [numC, h]
theorem numC_no {l : List UInt8} {n a : Nat} {lo hi : Int} (h : numS l a n lo hi = none) : numC l n lo hi (a, none) = (0, (a, some a)) := by simp [numC, h]
theorem sigC_bad (l : List UInt8) (c : UInt8) (a p : Nat) : sigC l c (a, some p) = (a, some p) := rfl
theorem sigC_yes {l : List UInt8} {c : UInt8} {a : Nat} (h : sigS l a c = true) : sigC l c (a, none) = (a + 1, none) := by simp [sigC, h]
theorem sigC_no {l : List UInt8} {c : UInt8} {a : Nat} (h : ¬ sigS l a c = true) : sigC l c (a, none) = (a, some a) := by simp [sigC, h]
theorem fracC_bad (l : List UInt8) (a p : Nat) : fracC l (a, some p) = (0, (a, some p)) := rfl
theorem zoneC_bad (l : List UInt8) (a p : Nat) : zoneC l (a, some p) = (0, (a, some p)) := rfl
theorem numS_bd {l : List UInt8} {a n : Nat} {lo hi v : Int} (h : numS l a n lo hi = some v) : lo ≤ v ∧ v ≤ hi := by
  unfold numS at h
  split at h
  · rename_i hc; have := Option.some.inj h; omega
  · cases h
/-- The zone by the clock's parts is the zone. -/
theorem zoneC_is (l : List UInt8) (a : Nat) : (∀ p, zoneS l a = .error p → (zoneC l (a, none)).2 = (p, some p)) ∧ (∀ z b, zoneS l a = .ok (z, b) → zoneC l (a, none) = (z, (b, none)) ∧ -1439 ≤ z ∧ z ≤ 1439) := by
  unfold zoneS zoneC
  simp only
  by_cases h0 : sigS l a 90 = true
  · rw [if_pos h0, if_pos h0]
    exact ⟨fun p h => (by cases h), fun z b h => (by cases h; exact ⟨rfl, by omega, by omega⟩)⟩
  rw [if_neg h0, if_neg h0]
  by_cases h1 : sigS l a 43 = true ∨ sigS l a 45 = true
  · rw [if_pos h1, if_pos h1]
    cases h2 : numS l (a + 1) 2 0 23 with
    | none =>
      rw [numC_no h2, sigC_bad, numC_bad]
      exact ⟨fun p h => (by cases h; rfl), fun z b h => (by cases h)⟩
    | some H =>
      rw [numC_yes h2]
      simp only
      by_cases h3 : sigS l (a + 3) 58 = true
      · rw [if_pos h3, sigC_yes (show sigS l (a + 1 + 2) 58 = true from h3)]
        cases h4 : numS l (a + 4) 2 0 59 with
        | none =>
          rw [numC_no (show numS l (a + 1 + 2 + 1) 2 0 59 = none from h4)]
          exact ⟨fun p h => (by cases h; rfl), fun z b h => (by cases h)⟩
        | some M =>
          rw [numC_yes (show numS l (a + 1 + 2 + 1) 2 0 59 = some M from h4)]
          have b2 := numS_bd h2
          have b4 := numS_bd h4
          refine ⟨fun p h => (by cases h), fun z b h => ?_⟩
          cases h
          refine ⟨rfl, ?_⟩
          split <;> omega
      · rw [if_neg h3, sigC_no (show ¬ sigS l (a + 1 + 2) 58 = true from h3), numC_bad]
        exact ⟨fun p h => (by cases h; rfl), fun z b h => (by cases h)⟩
  · rw [if_neg h1, if_neg h1]
    exact ⟨fun p h => (by cases h; rfl), fun z b h => (by cases h)⟩
theorem frac_bd {l : List UInt8} {a b : Nat} {v : Int} (h : fracS l a = some (v, b)) (hl : ∀ (k : Nat), k ≤ 9 → ∀ r : List UInt8, runD r = k → decN (r.take k) < 10 ^ k) : 0 ≤ v ∧ v ≤ 999999999 := by
  unfold fracS at h
  split at h
  · split at h
    · rename_i hc hd
      have h1 := hl _ hd.2 (l.drop (a + 1)) rfl
      generalize runD (l.drop (a + 1)) = k at *
      cases h
      generalize decN ((l.drop (a + 1)).take k) = v at *
      have hk : k = 1 ∨ k = 2 ∨ k = 3 ∨ k = 4 ∨ k = 5 ∨ k = 6 ∨ k = 7 ∨ k = 8 ∨ k = 9 := by omega
      rcases hk with rfl | rfl | rfl | rfl | rfl | rfl | rfl | rfl | rfl <;> omega
    · cases h
  · cases h; omega
theorem decN_lt' (l : List UInt8) (h : ∀ c ∈ l, isD c = true) : decN l < 10 ^ l.length := by
  have : ∀ v, decF v l < (v + 1) * 10 ^ l.length := by
    induction l with
    | nil => intro v; rw [decF_nil]; simp
    | cons c l ih =>
      intro v
      rw [decF_cons]
      have h1 := ih (fun x hx => h x (List.mem_cons_of_mem _ hx)) (10 * v + (c.toNat - 48))
      have h2 := isD_iff.1 (h c (List.mem_cons_self ..))
      rw [List.length_cons, Nat.pow_succ]
      have h3 : (10 * v + (c.toNat - 48) + 1) * 10 ^ l.length ≤ (10 * (v + 1)) * 10 ^ l.length := Nat.mul_le_mul_right _ (by omega)
      have h4 : (10 * (v + 1)) * 10 ^ l.length = (v + 1) * (10 ^ l.length * 10) := by
        rw [Nat.mul_comm 10 (v + 1), Nat.mul_assoc, Nat.mul_comm 10]
      omega
  have h0 := this 0
  simpa using h0
theorem frac_bd' {l : List UInt8} {a b : Nat} {v : Int} (h : fracS l a = some (v, b)) : 0 ≤ v ∧ v ≤ 999999999 := by
  refine frac_bd h (fun k hk r hr => ?_)
  have h1 := decN_lt' (r.take k) (fun c hc => by rw [← hr] at hc; exact runD_take r c hc)
  have h2 : (r.take k).length ≤ k := List.length_take_le _ _
  exact Nat.lt_of_lt_of_le h1 (Nat.pow_le_pow_right (by omega) h2)
/-- What the clock tells at the end. -/
def endC (l : List UInt8) : TimeR :=
  match (cZ l).2 with
  | (_, some p) => .at_ p
  | (a, none) => if a < l.length then .at_ a else saidP (nsec (cY l).1 (cMO l).1 (cD l).1 (cH l).1 (cMI l).1 (cSEC l).1 (cF l).1 (cZ l).1)
structure CGood (l : List UInt8) : Prop where
  y0 : 0 ≤ (cY l).1
  y1 : (cY l).1 ≤ 9999
  m0 : 1 ≤ (cMO l).1
  m1 : (cMO l).1 ≤ 12
  d0 : 1 ≤ (cD l).1
  d1 : (cD l).1 ≤ daysM (cY l).1 (cMO l).1
  h0 : 0 ≤ (cH l).1
  h1 : (cH l).1 ≤ 23
  i0 : 0 ≤ (cMI l).1
  i1 : (cMI l).1 ≤ 59
  s0 : 0 ≤ (cSEC l).1
  s1 : (cSEC l).1 ≤ 59
  n0 : 0 ≤ (cF l).1
  n1 : (cF l).1 ≤ 999999999
  z0 : -1439 ≤ (cZ l).1
  z1 : (cZ l).1 ≤ 1439
/-- The clock's parts, one behind the other, are the time; what went well lies in its bounds. -/
theorem clock_time (l : List UInt8) : endC l = timeP l ∧ ((cZ l).2.2 = none → CGood l) := by
  unfold endC timeP
  cases a1 : numS l 0 4 0 9999 with
  | none =>
    have e1 : cY l = (0, (0, some 0)) := numC_no a1
    have e2 : cMO l = (0, (0, some 0)) := by unfold cMO; rw [e1]; rfl
    have e3 : cD l = (0, (0, some 0)) := by unfold cD; rw [e2]; rfl
    have e4 : cH l = (0, (0, some 0)) := by unfold cH; rw [e3]; rfl
    have e5 : cMI l = (0, (0, some 0)) := by unfold cMI; rw [e4]; rfl
    have e6 : cSEC l = (0, (0, some 0)) := by unfold cSEC; rw [e5]; rfl
    have e7 : cF l = (0, (0, some 0)) := by unfold cF; rw [e6]; rfl
    have e8 : cZ l = (0, (0, some 0)) := by unfold cZ; rw [e7]; rfl
    rw [e8]; exact ⟨rfl, fun h => by cases h⟩
  | some y =>
  have e1 : cY l = (y, (4, none)) := numC_yes a1
  simp only
  by_cases b1 : sigS l 4 45 = true
  case neg =>
    rw [if_neg b1]
    have e2 : cMO l = (0, (4, some 4)) := by unfold cMO; rw [e1, sigC_no b1]; rfl
    have e3 : cD l = (0, (4, some 4)) := by unfold cD; rw [e2]; rfl
    have e4 : cH l = (0, (4, some 4)) := by unfold cH; rw [e3]; rfl
    have e5 : cMI l = (0, (4, some 4)) := by unfold cMI; rw [e4]; rfl
    have e6 : cSEC l = (0, (4, some 4)) := by unfold cSEC; rw [e5]; rfl
    have e7 : cF l = (0, (4, some 4)) := by unfold cF; rw [e6]; rfl
    have e8 : cZ l = (0, (4, some 4)) := by unfold cZ; rw [e7]; rfl
    rw [e8]; exact ⟨rfl, fun h => by cases h⟩
  rw [if_pos b1]
  cases a2 : numS l 5 2 1 12 with
  | none =>
    have e2 : cMO l = (0, (5, some 5)) := by unfold cMO; rw [e1, sigC_yes b1]; exact numC_no a2
    have e3 : cD l = (0, (5, some 5)) := by unfold cD; rw [e2]; rfl
    have e4 : cH l = (0, (5, some 5)) := by unfold cH; rw [e3]; rfl
    have e5 : cMI l = (0, (5, some 5)) := by unfold cMI; rw [e4]; rfl
    have e6 : cSEC l = (0, (5, some 5)) := by unfold cSEC; rw [e5]; rfl
    have e7 : cF l = (0, (5, some 5)) := by unfold cF; rw [e6]; rfl
    have e8 : cZ l = (0, (5, some 5)) := by unfold cZ; rw [e7]; rfl
    rw [e8]; exact ⟨rfl, fun h => by cases h⟩
  | some mo =>
  have e2 : cMO l = (mo, (7, none)) := by unfold cMO; rw [e1, sigC_yes b1]; exact numC_yes a2
  have m2 := numS_bd a2
  have hmo : monthP y mo = daysM y mo := if_pos m2
  simp only
  by_cases b2 : sigS l 7 45 = true
  case neg =>
    rw [if_neg b2]
    have e3 : cD l = (0, (7, some 7)) := by unfold cD; rw [e2, sigC_no b2]; rfl
    have e4 : cH l = (0, (7, some 7)) := by unfold cH; rw [e3]; rfl
    have e5 : cMI l = (0, (7, some 7)) := by unfold cMI; rw [e4]; rfl
    have e6 : cSEC l = (0, (7, some 7)) := by unfold cSEC; rw [e5]; rfl
    have e7 : cF l = (0, (7, some 7)) := by unfold cF; rw [e6]; rfl
    have e8 : cZ l = (0, (7, some 7)) := by unfold cZ; rw [e7]; rfl
    rw [e8]; exact ⟨rfl, fun h => by cases h⟩
  rw [if_pos b2]
  cases a3 : numS l 8 2 1 (daysM y mo) with
  | none =>
    have e3 : cD l = (0, (8, some 8)) := by unfold cD; rw [e1, e2, sigC_yes b2]; show numC l 2 1 (monthP y mo) (8, none) = _; rw [hmo]; exact numC_no a3
    have e4 : cH l = (0, (8, some 8)) := by unfold cH; rw [e3]; rfl
    have e5 : cMI l = (0, (8, some 8)) := by unfold cMI; rw [e4]; rfl
    have e6 : cSEC l = (0, (8, some 8)) := by unfold cSEC; rw [e5]; rfl
    have e7 : cF l = (0, (8, some 8)) := by unfold cF; rw [e6]; rfl
    have e8 : cZ l = (0, (8, some 8)) := by unfold cZ; rw [e7]; rfl
    rw [e8]; exact ⟨rfl, fun h => by cases h⟩
  | some d =>
  have e3 : cD l = (d, (10, none)) := by unfold cD; rw [e1, e2, sigC_yes b2]; show numC l 2 1 (monthP y mo) (8, none) = _; rw [hmo]; exact numC_yes a3
  simp only
  by_cases b3 : sigS l 10 84 = true
  case neg =>
    rw [if_neg b3]
    have e4 : cH l = (0, (10, some 10)) := by unfold cH; rw [e3, sigC_no b3]; rfl
    have e5 : cMI l = (0, (10, some 10)) := by unfold cMI; rw [e4]; rfl
    have e6 : cSEC l = (0, (10, some 10)) := by unfold cSEC; rw [e5]; rfl
    have e7 : cF l = (0, (10, some 10)) := by unfold cF; rw [e6]; rfl
    have e8 : cZ l = (0, (10, some 10)) := by unfold cZ; rw [e7]; rfl
    rw [e8]; exact ⟨rfl, fun h => by cases h⟩
  rw [if_pos b3]
  cases a4 : numS l 11 2 0 23 with
  | none =>
    have e4 : cH l = (0, (11, some 11)) := by unfold cH; rw [e3, sigC_yes b3]; exact numC_no a4
    have e5 : cMI l = (0, (11, some 11)) := by unfold cMI; rw [e4]; rfl
    have e6 : cSEC l = (0, (11, some 11)) := by unfold cSEC; rw [e5]; rfl
    have e7 : cF l = (0, (11, some 11)) := by unfold cF; rw [e6]; rfl
    have e8 : cZ l = (0, (11, some 11)) := by unfold cZ; rw [e7]; rfl
    rw [e8]; exact ⟨rfl, fun h => by cases h⟩
  | some h =>
  have e4 : cH l = (h, (13, none)) := by unfold cH; rw [e3, sigC_yes b3]; exact numC_yes a4
  simp only
  by_cases b4 : sigS l 13 58 = true
  case neg =>
    rw [if_neg b4]
    have e5 : cMI l = (0, (13, some 13)) := by unfold cMI; rw [e4, sigC_no b4]; rfl
    have e6 : cSEC l = (0, (13, some 13)) := by unfold cSEC; rw [e5]; rfl
    have e7 : cF l = (0, (13, some 13)) := by unfold cF; rw [e6]; rfl
    have e8 : cZ l = (0, (13, some 13)) := by unfold cZ; rw [e7]; rfl
    rw [e8]; exact ⟨rfl, fun h => by cases h⟩
  rw [if_pos b4]
  cases a5 : numS l 14 2 0 59 with
  | none =>
    have e5 : cMI l = (0, (14, some 14)) := by unfold cMI; rw [e4, sigC_yes b4]; exact numC_no a5
    have e6 : cSEC l = (0, (14, some 14)) := by unfold cSEC; rw [e5]; rfl
    have e7 : cF l = (0, (14, some 14)) := by unfold cF; rw [e6]; rfl
    have e8 : cZ l = (0, (14, some 14)) := by unfold cZ; rw [e7]; rfl
    rw [e8]; exact ⟨rfl, fun h => by cases h⟩
  | some mi =>
  have e5 : cMI l = (mi, (16, none)) := by unfold cMI; rw [e4, sigC_yes b4]; exact numC_yes a5
  simp only
  by_cases b5 : sigS l 16 58 = true
  case neg =>
    rw [if_neg b5]
    have e6 : cSEC l = (0, (16, some 16)) := by unfold cSEC; rw [e5, sigC_no b5]; rfl
    have e7 : cF l = (0, (16, some 16)) := by unfold cF; rw [e6]; rfl
    have e8 : cZ l = (0, (16, some 16)) := by unfold cZ; rw [e7]; rfl
    rw [e8]; exact ⟨rfl, fun h => by cases h⟩
  rw [if_pos b5]
  cases a6 : numS l 17 2 0 59 with
  | none =>
    have e6 : cSEC l = (0, (17, some 17)) := by unfold cSEC; rw [e5, sigC_yes b5]; exact numC_no a6
    have e7 : cF l = (0, (17, some 17)) := by unfold cF; rw [e6]; rfl
    have e8 : cZ l = (0, (17, some 17)) := by unfold cZ; rw [e7]; rfl
    rw [e8]; exact ⟨rfl, fun h => by cases h⟩
  | some sec =>
  have e6 : cSEC l = (sec, (19, none)) := by unfold cSEC; rw [e5, sigC_yes b5]; exact numC_yes a6
  simp only
  cases a7 : fracS l 19 with
  | none =>
    have e7 : cF l = (0, (19, some 19)) := by unfold cF; rw [e6]; simp [fracC, a7]
    have e8 : cZ l = (0, (19, some 19)) := by unfold cZ; rw [e7]; rfl
    rw [e8]; exact ⟨rfl, fun h => by cases h⟩
  | some p =>
  obtain ⟨ns, a⟩ := p
  have e7 : cF l = (ns, (a, none)) := by unfold cF; rw [e6]; simp [fracC, a7]
  simp only
  obtain ⟨z1, z2⟩ := zoneC_is l a
  cases a8 : zoneS l a with
  | error p =>
    have e8 : (cZ l).2 = (p, some p) := by unfold cZ; rw [e7]; exact z1 p a8
    rw [e8]; exact ⟨rfl, fun h => by cases h⟩
  | ok p =>
  obtain ⟨z, b⟩ := p
  obtain ⟨z3, z4, z5⟩ := z2 z b a8
  have e8 : cZ l = (z, (b, none)) := by unfold cZ; rw [e7]; exact z3
  rw [e8, e1, e2, e3, e4, e5, e6, e7]
  refine ⟨rfl, fun _ => ?_⟩
  have n1 := numS_bd a1
  have n3 := numS_bd a3
  have n4 := numS_bd a4
  have n5 := numS_bd a5
  have n6 := numS_bd a6
  have n7 := frac_bd' a7
  constructor
  all_goals simp only [e1, e2, e3, e4, e5, e6, e7, e8]
  all_goals omega
end Go.Proofs.YthplpjcadjnfiaaGreatDoor
