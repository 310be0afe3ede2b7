/- Package lex and its reference: kinds of bytes; where a row of letters and digits ends. The reference of package lex: what stands in quotes. The reference of package lex: how many bytes a sign has. The reference of package lex: a token that begins with a digit. Chapter 12, plain: a token at a place. -/
import Derived.Test.YtmooibnedokllaaGreatDoorLexP
import Derived.Test.YtmooibnedokllaaGreatDoorSw1
import Derived.Deep.QuietTactic
import Derived.BigQuiet
import Derived.Deep.LoopGhost
import Derived.Test.YtmooibnedokllaaGreatDoorSw4
import Derived.Deep.DeepCutAuto
import Derived.Deep.CutBlock
import Derived.Test.YtmooibnedokllaaGreatDoorSw15
namespace Go.Proofs.YtmooibnedokllaaGreatDoor
open Go.RowKit
set_option linter.unusedSimpArgs false
set_option linter.unusedVariables false
section

theorem u8_eq (c : UInt8) (k : UInt8) (n : Int) (h : n = (k.toNat : Int)) : (c == k) = ((c.toNat : Int) == n) := by
  subst h
  rw [Bool.eq_iff_iff]
  simp only [beq_iff_eq]
  constructor
  · rintro rfl; rfl
  · intro h; exact UInt8.toNat_inj.1 (by omega)
theorem blank_int (c : UInt8) : blankC c = (((c.toNat : Int) == 32) || ((c.toNat : Int) == 9) || ((c.toNat : Int) == 10) || ((c.toNat : Int) == 13)) := by
  unfold blankC; rw [u8_eq c 32 32 rfl, u8_eq c 9 9 rfl, u8_eq c 10 10 rfl, u8_eq c 13 13 rfl]
theorem letter_int (c : UInt8) : letterC c = ((decide (97 ≤ (c.toNat : Int)) && decide ((c.toNat : Int) ≤ 122)) || (decide (65 ≤ (c.toNat : Int)) && decide ((c.toNat : Int) ≤ 90)) || ((c.toNat : Int) == 95)) := by
  unfold letterC; rw [u8_eq c 95 95 rfl]
  rw [Bool.eq_iff_iff]; simp; omega
theorem digit_int (c : UInt8) : isD c = (decide (48 ≤ (c.toNat : Int)) && decide ((c.toNat : Int) ≤ 57)) := by
  unfold isD; rw [Bool.eq_iff_iff]; simp; omega

set_option maxRecDepth 100000 in
set_option maxHeartbeats 1000000 in
theorem lex_blank (c : UInt8) (w : World) :
    Calls Tryz.prog 28 #[.int .u8 c.toNat] w fun e w' => e = .returned (.bool (blankC c)) ∧ w' = w := by
  have hb : (c.toNat : Int) < 256 := by have := c.toNat_lt; omega
  obtain ⟨B, hB⟩ : ∃ B, B = blankC c := ⟨_, rfl⟩
  rw [← hB]
  rw [blank_int] at hB
  generalize (c.toNat : Int) = n at *
  have HB := Lib.hid hB
  clear hB
  go_enter Tryz.func28, Tryz.ntmps28
  go_wp2
  all_goals go_ret
  all_goals exact ⟨ret_b (by have hh := HB.out; clear HB; first | rfl | (rw [hh]; done) | (rw [hh, Bool.eq_iff_iff]; simp at *; omega) | (rw [hh]; simp_all; done) | (rw [hh]; simp_all; omega)), rfl⟩

set_option maxRecDepth 100000 in
set_option maxHeartbeats 1000000 in
theorem lex_letter (c : UInt8) (w : World) :
    Calls Tryz.prog 29 #[.int .u8 c.toNat] w fun e w' => e = .returned (.bool (letterC c)) ∧ w' = w := by
  have hb : (c.toNat : Int) < 256 := by have := c.toNat_lt; omega
  obtain ⟨B, hB⟩ : ∃ B, B = letterC c := ⟨_, rfl⟩
  rw [← hB]
  rw [letter_int] at hB
  generalize (c.toNat : Int) = n at *
  have HB := Lib.hid hB
  clear hB
  go_enter Tryz.func29, Tryz.ntmps29
  go_wp2
  all_goals go_ret
  all_goals exact ⟨ret_b (by have hh := HB.out; clear HB; first | rfl | (rw [hh]; done) | (rw [hh, Bool.eq_iff_iff]; simp at *; omega) | (rw [hh]; simp_all; done) | (rw [hh]; simp_all; omega)), rfl⟩

set_option maxRecDepth 100000 in
set_option maxHeartbeats 1000000 in
theorem lex_digit (c : UInt8) (w : World) :
    Calls Tryz.prog 31 #[.int .u8 c.toNat] w fun e w' => e = .returned (.bool (isD c)) ∧ w' = w := by
  have hb : (c.toNat : Int) < 256 := by have := c.toNat_lt; omega
  obtain ⟨B, hB⟩ : ∃ B, B = isD c := ⟨_, rfl⟩
  rw [← hB]
  rw [digit_int] at hB
  generalize (c.toNat : Int) = n at *
  have HB := Lib.hid hB
  clear hB
  go_enter Tryz.func31, Tryz.ntmps31
  go_wp2
  all_goals go_ret
  all_goals exact ⟨ret_b (by have hh := HB.out; clear HB; first | rfl | (rw [hh]; done) | (rw [hh, Bool.eq_iff_iff]; simp at *; omega) | (rw [hh]; simp_all; done) | (rw [hh]; simp_all; omega)), rfl⟩

set_option maxRecDepth 100000 in
set_option maxHeartbeats 1000000 in
theorem lex_row (s : ByteArray) (a : Nat) (hs : s.size ≤ 140737488355328) (ha : a ≤ s.size) (w : World) :
    Calls Tryz.prog 30 #[.string s, .int .i64 (a : Int)] w fun e w' => e = .returned (.int .i64 ((a + runP wordC (s.data.toList.drop a) : Nat) : Int)) ∧ w' = w := by
  obtain ⟨E, hE⟩ : ∃ E, E = a + runP wordC (s.data.toList.drop a) := ⟨_, rfl⟩
  rw [← hE]
  have HE := Lib.hid hE.symm
  clear hE
  go_enter Tryz.func30, Tryz.ntmps30
  go_wp2
  go_loopg [1] (s.size - a) (fun m v wr => ∃ k : Nat, v = .int .i64 (k : Int) ∧ k + m = s.size ∧ Hid (k + runP wordC (s.data.toList.drop k) = E) ∧ w = wr)
  case atStart => exact ⟨a, rfl, by omega, HE, rfl⟩
  case round =>
    obtain ⟨k, rfl, hm, HK, rfl⟩ := hrel
    by_cases hk : k < s.size
    · have hst := runP_step wordC s.data.toList k hk
      rw [show s.data.toList[k] = s[k] from rfl] at hst
      have hl : decide ((k : Int) < (s.size : Int)) = true := by rw [decide_eq_true_iff]; omega
      have CL := fun W => lex_letter s[k] W
      have CD := fun W => lex_digit s[k] W
      have hw : wordC s[k] = (letterC s[k] || isD s[k]) := rfl
      generalize letterC s[k] = x at *
      generalize isD s[k] = y at *
      obtain ⟨ch, hc⟩ : ∃ ch : Nat, s[k].toNat = ch := ⟨_, rfl⟩
      rw [hc] at CL CD
      have HW := Lib.hid hw
      have HST := Lib.hid hst
      clear hw hst
      cases x with
      | true =>
        have HK2 : Hid (k + 1 + runP wordC (s.data.toList.drop (k + 1)) = E) := Lib.hid (by rw [← HK.out, HST.out, HW.out]; simp; omega)
        clear HW HST HK
        go_wp2_with (first | (go_at_call 29; (with_reducible refine (CL _).mono ?_); rintro e w' ⟨rfl, rfl⟩) | (go_at_call 31; (with_reducible refine (CD _).mono ?_); rintro e w' ⟨rfl, rfl⟩))
        go_roundg (gk - 1)
        case measure => omega
        case rel => exact ⟨k + 1, by go_num, by omega, HK2, rfl⟩
      | false =>
        cases y with
        | true =>
          have HK2 : Hid (k + 1 + runP wordC (s.data.toList.drop (k + 1)) = E) := Lib.hid (by rw [← HK.out, HST.out, HW.out]; simp; omega)
          clear HW HST HK
          go_wp2_with (first | (go_at_call 29; (with_reducible refine (CL _).mono ?_); rintro e w' ⟨rfl, rfl⟩) | (go_at_call 31; (with_reducible refine (CD _).mono ?_); rintro e w' ⟨rfl, rfl⟩))
          go_roundg (gk - 1)
          case measure => omega
          case rel => exact ⟨k + 1, by go_num, by omega, HK2, rfl⟩
        | false =>
          have HK2 : Hid (E = k) := Lib.hid (by rw [← HK.out, HST.out, HW.out]; simp)
          clear HW HST HK
          go_wp2_with (first | (go_at_call 29; (with_reducible refine (CL _).mono ?_); rintro e w' ⟨rfl, rfl⟩) | (go_at_call 31; (with_reducible refine (CD _).mono ?_); rintro e w' ⟨rfl, rfl⟩))
          go_ret
          exact ⟨by rw [HK2.out]; rfl, rfl⟩
    · have hl : decide ((k : Int) < (s.size : Int)) = false := by rw [decide_eq_false_iff_not]; omega
      have HK2 : Hid (E = k) := Lib.hid (by rw [← HK.out, runP_end wordC (by show s.size ≤ k; omega)]; rfl)
      clear HK
      go_wp2
      go_ret
      exact ⟨by rw [HK2.out]; rfl, rfl⟩

set_option maxRecDepth 100000 in
set_option maxHeartbeats 1000000 in
theorem r12_blank (c : UInt8) (w : World) :
    Calls Tryz.prog 44 #[.int .u8 c.toNat] w fun e w' => e = .returned (.bool (blankC c)) ∧ w' = w := by
  have hb : (c.toNat : Int) < 256 := by have := c.toNat_lt; omega
  obtain ⟨B, hB⟩ : ∃ B, B = blankC c := ⟨_, rfl⟩
  rw [← hB]
  rw [blank_int] at hB
  generalize (c.toNat : Int) = n at *
  have HB := Lib.hid hB
  clear hB
  go_enter Tryz.func44, Tryz.ntmps44
  go_wp2
  all_goals go_ret
  all_goals exact ⟨ret_b (by have hh := HB.out; clear HB; first | rfl | (rw [hh]; done) | (rw [hh, Bool.eq_iff_iff]; simp at *; omega) | (rw [hh]; simp_all; done) | (rw [hh]; simp_all; omega)), rfl⟩

set_option maxRecDepth 100000 in
set_option maxHeartbeats 1000000 in
theorem r12_letter (c : UInt8) (w : World) :
    Calls Tryz.prog 38 #[.int .u8 c.toNat] w fun e w' => e = .returned (.bool (letterC c)) ∧ w' = w := by
  have hb : (c.toNat : Int) < 256 := by have := c.toNat_lt; omega
  obtain ⟨B, hB⟩ : ∃ B, B = letterC c := ⟨_, rfl⟩
  rw [← hB]
  rw [letter_int] at hB
  generalize (c.toNat : Int) = n at *
  have HB := Lib.hid hB
  clear hB
  go_enter Tryz.func38, Tryz.ntmps38
  go_wp2
  all_goals go_ret
  all_goals exact ⟨ret_b (by have hh := HB.out; clear HB; first | rfl | (rw [hh]; done) | (rw [hh, Bool.eq_iff_iff]; simp at *; omega) | (rw [hh]; simp_all; done) | (rw [hh]; simp_all; omega)), rfl⟩

set_option maxRecDepth 100000 in
set_option maxHeartbeats 1000000 in
theorem r12_digit (c : UInt8) (w : World) :
    Calls Tryz.prog 45 #[.int .u8 c.toNat] w fun e w' => e = .returned (.bool (isD c)) ∧ w' = w := by
  have hb : (c.toNat : Int) < 256 := by have := c.toNat_lt; omega
  obtain ⟨B, hB⟩ : ∃ B, B = isD c := ⟨_, rfl⟩
  rw [← hB]
  rw [digit_int] at hB
  generalize (c.toNat : Int) = n at *
  have HB := Lib.hid hB
  clear hB
  go_enter Tryz.func45, Tryz.ntmps45
  go_wp2
  all_goals go_ret
  all_goals exact ⟨ret_b (by have hh := HB.out; clear HB; first | rfl | (rw [hh]; done) | (rw [hh, Bool.eq_iff_iff]; simp at *; omega) | (rw [hh]; simp_all; done) | (rw [hh]; simp_all; omega)), rfl⟩

set_option maxRecDepth 100000 in
set_option maxHeartbeats 1000000 in
theorem r12_row (s : ByteArray) (a : Nat) (hs : s.size ≤ 140737488355328) (ha : a ≤ s.size) (w : World) :
    Calls Tryz.prog 39 #[.string s, .int .i64 (a : Int)] w fun e w' => e = .returned (.int .i64 ((a + runP wordC (s.data.toList.drop a) : Nat) : Int)) ∧ w' = w := by
  obtain ⟨E, hE⟩ : ∃ E, E = a + runP wordC (s.data.toList.drop a) := ⟨_, rfl⟩
  rw [← hE]
  have HE := Lib.hid hE.symm
  clear hE
  go_enter Tryz.func39, Tryz.ntmps39
  go_wp2
  go_loopg [1] (s.size - a) (fun m v wr => ∃ k : Nat, v = .int .i64 (k : Int) ∧ k + m = s.size ∧ Hid (k + runP wordC (s.data.toList.drop k) = E) ∧ w = wr)
  case atStart => exact ⟨a, rfl, by omega, HE, rfl⟩
  case round =>
    obtain ⟨k, rfl, hm, HK, rfl⟩ := hrel
    by_cases hk : k < s.size
    · have hst := runP_step wordC s.data.toList k hk
      rw [show s.data.toList[k] = s[k] from rfl] at hst
      have hl : decide ((k : Int) < (s.size : Int)) = true := by rw [decide_eq_true_iff]; omega
      have CL := fun W => r12_letter s[k] W
      have CD := fun W => r12_digit s[k] W
      have hw : wordC s[k] = (letterC s[k] || isD s[k]) := rfl
      generalize letterC s[k] = x at *
      generalize isD s[k] = y at *
      obtain ⟨ch, hc⟩ : ∃ ch : Nat, s[k].toNat = ch := ⟨_, rfl⟩
      rw [hc] at CL CD
      have HW := Lib.hid hw
      have HST := Lib.hid hst
      clear hw hst
      cases x with
      | true =>
        have HK2 : Hid (k + 1 + runP wordC (s.data.toList.drop (k + 1)) = E) := Lib.hid (by rw [← HK.out, HST.out, HW.out]; simp; omega)
        clear HW HST HK
        go_wp2_with (first | (go_at_call 38; (with_reducible refine (CL _).mono ?_); rintro e w' ⟨rfl, rfl⟩) | (go_at_call 45; (with_reducible refine (CD _).mono ?_); rintro e w' ⟨rfl, rfl⟩))
        go_roundg (gk - 1)
        case measure => omega
        case rel => exact ⟨k + 1, by go_num, by omega, HK2, rfl⟩
      | false =>
        cases y with
        | true =>
          have HK2 : Hid (k + 1 + runP wordC (s.data.toList.drop (k + 1)) = E) := Lib.hid (by rw [← HK.out, HST.out, HW.out]; simp; omega)
          clear HW HST HK
          go_wp2_with (first | (go_at_call 38; (with_reducible refine (CL _).mono ?_); rintro e w' ⟨rfl, rfl⟩) | (go_at_call 45; (with_reducible refine (CD _).mono ?_); rintro e w' ⟨rfl, rfl⟩))
          go_roundg (gk - 1)
          case measure => omega
          case rel => exact ⟨k + 1, by go_num, by omega, HK2, rfl⟩
        | false =>
          have HK2 : Hid (E = k) := Lib.hid (by rw [← HK.out, HST.out, HW.out]; simp)
          clear HW HST HK
          go_wp2_with (first | (go_at_call 38; (with_reducible refine (CL _).mono ?_); rintro e w' ⟨rfl, rfl⟩) | (go_at_call 45; (with_reducible refine (CD _).mono ?_); rintro e w' ⟨rfl, rfl⟩))
          go_ret
          exact ⟨by rw [HK2.out]; rfl, rfl⟩
    · have hl : decide ((k : Int) < (s.size : Int)) = false := by rw [decide_eq_false_iff_not]; omega
      have HK2 : Hid (E = k) := Lib.hid (by rw [← HK.out, runP_end wordC (by show s.size ≤ k; omega)]; rfl)
      clear HK
      go_wp2
      go_ret
      exact ⟨by rw [HK2.out]; rfl, rfl⟩

end
section

def nTok : NextR → Tok
  | .inl (t, _) => t
  | .inr _ => Tok.zero
def nEnd : NextR → Int
  | .inl (_, e) => (e : Int)
  | .inr _ => 0
def nBad : NextR → Bad
  | .inl _ => ⟨0, 0, 0, false, false⟩
  | .inr (c, none) => ⟨c, 0, 0, false, false⟩
  | .inr (c, some p) => ⟨c, (p : Int), 0, true, false⟩
def nErr : NextR → Option Er
  | .inl _ => none
  | .inr (c, none) => mkE c
  | .inr (c, some p) => mkAt (p : Int) c
def Tok.enc (t : Tok) : Value := .agg #[.int .u8 t.kind, .string t.text, .int .i64 t.n, .int .i64 t.pos]
abbrev tokO : Obj := .cells #[.int .u8 0, .string ⟨#[]⟩, .int .i64 0, .int .i64 0] 30 (0, 0)
abbrev badOO : Obj := .cells #[.int .i64 0, .int .i64 0, .int .i64 0, .bool false, .bool false] 40 (0, 0)
theorem four_blk {w : World} {b : Nat} {x0 x1 x2 x3 : Value} {T : TypeId} {fr : Nat × Nat} (h : w.heap[b]? = some (.cells #[x0, x1, x2, x3] T fr)) (v0 v1 v2 v3 : Value) :
    ((((w.setCell ⟨b, 0, none⟩ v0).setCell ⟨b, 1, none⟩ v1).setCell ⟨b, 2, none⟩ v2).setCell ⟨b, 3, none⟩ v3).heap[b]? = some (.cells #[v0, v1, v2, v3] T fr) := by
  have := blk_set' (blk_set' (blk_set' (blk_set' h 0 v0) 1 v1) 2 v2) 3 v3
  simpa using this
/-- A token and an error in the blocks of the results. -/
theorem tok_ends {w : World} (q : Nat) {x0 x1 x2 x3 y0 y1 y2 y3 y4 : Value} (v0 v1 v2 v3 b0 b1 b2 b3 b4 : Value) (hq : w.heap[q]? = some (.cells #[x0, x1, x2, x3] 30 (0, 0))) (hz : w.heap[q + 1]? = some (.cells #[y0, y1, y2, y3, y4] 40 (0, 0))) :
    (((((((((w.setCell ⟨q, 0, none⟩ v0).setCell ⟨q, 1, none⟩ v1).setCell ⟨q, 2, none⟩ v2).setCell ⟨q, 3, none⟩ v3).setCell ⟨q + 1, 0, none⟩ b0).setCell ⟨q + 1, 1, none⟩ b1).setCell ⟨q + 1, 2, none⟩ b2).setCell ⟨q + 1, 3, none⟩ b3).setCell ⟨q + 1, 4, none⟩ b4).heap[q]? = some (.cells #[v0, v1, v2, v3] 30 (0, 0)) ∧
    (((((((((w.setCell ⟨q, 0, none⟩ v0).setCell ⟨q, 1, none⟩ v1).setCell ⟨q, 2, none⟩ v2).setCell ⟨q, 3, none⟩ v3).setCell ⟨q + 1, 0, none⟩ b0).setCell ⟨q + 1, 1, none⟩ b1).setCell ⟨q + 1, 2, none⟩ b2).setCell ⟨q + 1, 3, none⟩ b3).setCell ⟨q + 1, 4, none⟩ b4).heap[q + 1]? = some (.cells #[b0, b1, b2, b3, b4] 40 (0, 0)) ∧
    (∀ B : Nat, B ≤ q → Below B w (((((((((w.setCell ⟨q, 0, none⟩ v0).setCell ⟨q, 1, none⟩ v1).setCell ⟨q, 2, none⟩ v2).setCell ⟨q, 3, none⟩ v3).setCell ⟨q + 1, 0, none⟩ b0).setCell ⟨q + 1, 1, none⟩ b1).setCell ⟨q + 1, 2, none⟩ b2).setCell ⟨q + 1, 3, none⟩ b3).setCell ⟨q + 1, 4, none⟩ b4)) := by
  have hne : q + 1 ≠ q := by omega
  have hne' : q ≠ q + 1 := by omega
  have hz1 := blk_far' (blk_far' (blk_far' (blk_far' hz hne 0 v0) hne 1 v1) hne 2 v2) hne 3 v3
  have hq1 := four_blk hq v0 v1 v2 v3
  refine ⟨blk_far' (blk_far' (blk_far' (blk_far' (blk_far' hq1 hne' 0 b0) hne' 1 b1) hne' 2 b2) hne' 3 b3) hne' 4 b4, bad_blk hz1 b0 b1 b2 b3 b4, fun B hB => ?_⟩
  exact below_bad (((((Below.refl B w).setCell (p := ⟨q, 0, none⟩) hB _).setCell (p := ⟨q, 1, none⟩) hB _).setCell (p := ⟨q, 2, none⟩) hB _).setCell (p := ⟨q, 3, none⟩) hB _) (by omega) b0 b1 b2 b3 b4
structure Rq (w0 w : World) : Prop where
  B : Below w0.heap.size w0 w
  hr : w.heap[w0.heap.size]? = some badOO
theorem Rq.sz {w0 w : World} (t : Rq w0 w) : w0.heap.size < w.heap.size := blk_lt' t.hr
theorem Rq.next {w0 w w' : World} (t : Rq w0 w) (h : Below w.heap.size w w') : Rq w0 w' := ⟨t.B.trans (h.mono (by have := t.sz; omega)), below_blk h (blk_lt' t.hr) t.hr⟩
abbrev QR := Sum (List UInt8 × Nat) (Option Nat)
def qText : QR → ByteArray
  | .inl (t, _) => ⟨t.toArray⟩
  | .inr _ => ⟨#[]⟩
def qEnd (a : Nat) : QR → Int
  | .inl (_, n) => ((a + 1 + n : Nat) : Int)
  | .inr _ => 0
def qBad (a : Nat) : QR → Bad
  | .inl _ => ⟨0, 0, 0, false, false⟩
  | .inr none => ⟨121, (a : Int), 0, true, false⟩
  | .inr (some e) => ⟨121, ((a + 1 + e : Nat) : Int), 0, true, false⟩
theorem At121 (p : Nat) : (refAt (p : Int) 121).enc = .agg #[.int .i64 121, .int .i64 (p : Int), .int .i64 0, .bool true, .bool false] := rfl
theorem ext_one (s : ByteArray) (i : Nat) (h : i < s.size) : s.extract i (i + 1) = ⟨#[s[i]]⟩ := by
  apply bytes_ext
  rw [ext_take, List.take_one, List.head?_drop, List.getElem?_eq_getElem (show i < s.data.toList.length from h)]
  rfl
theorem slice_one (s : ByteArray) (i : Nat) (h : i < s.size) (W : World) :
    (Instr.slice 9 (.string s) (some (.int .i64 (i : Int))) (some (.int .i64 ((i : Int) + 1))) none).run Tryz.prog W = .ok (.string ⟨#[s[i]]⟩) W := by
  have := slice_mid s i 1 (by omega) W
  rw [ext_one s i h] at this
  exact this
theorem slice_one1 (s : ByteArray) (i : Nat) (h : i + 1 < s.size) (W : World) :
    (Instr.slice 9 (.string s) (some (.int .i64 ((i : Int) + 1))) (some (.int .i64 ((i : Int) + 1 + 1))) none).run Tryz.prog W = .ok (.string ⟨#[s[i + 1]]⟩) W := by
  have := slice_one s (i + 1) h W
  exact this
theorem add_one (acc : List UInt8) (c : UInt8) : (⟨acc.toArray⟩ : ByteArray) ++ ⟨#[c]⟩ = ⟨(acc ++ [c]).toArray⟩ := by
  apply bytes_ext
  rw [data_app]
set_option maxRecDepth 100000 in
set_option maxHeartbeats 2000000 in
theorem r12_quoted (s : ByteArray) (a : Nat) (hs : s.size ≤ 140737488355328) (ha : a < s.size) (hq : s[a] = 34 ∨ s[a] = 39) (w : World) :
    Calls Tryz.prog 47 #[.string s, .int .i64 (a : Int)] w fun e w' =>
      e = .returned (.tuple #[.string (qText (qL s[a] (s.data.toList.drop (a + 1)))), .int .i64 (qEnd a (qL s[a] (s.data.toList.drop (a + 1)))), (qBad a (qL s[a] (s.data.toList.drop (a + 1)))).enc]) ∧ Below w.heap.size w w' := by
  obtain ⟨q, hqq⟩ : ∃ q, q = s[a] := ⟨_, rfl⟩
  have hqn : (s[a].toNat : Int) = (q.toNat : Int) := by rw [hqq]
  have hq92 : ¬ q = 92 := by rw [hqq]; rcases hq with h | h <;> rw [h] <;> decide
  rw [← hqq]
  obtain ⟨R, hR⟩ : ∃ R, R = qL q (s.data.toList.drop (a + 1)) := ⟨_, rfl⟩
  rw [← hR]
  obtain ⟨V1, hV1⟩ : ∃ V, V = qText R := ⟨_, rfl⟩
  obtain ⟨V2, hV2⟩ : ∃ V, V = qEnd a R := ⟨_, rfl⟩
  obtain ⟨V3, hV3⟩ : ∃ V, V = qBad a R := ⟨_, rfl⟩
  rw [← hV1, ← hV2, ← hV3]
  obtain ⟨b0, b1, b2, b3, b4⟩ := V3
  simp only [Bad.enc]
  have HV := Lib.hid (And.intro hV1 (And.intro hV2 hV3))
  have HR := Lib.hid hR
  have HQ := Lib.hid hqn
  clear hV1 hV2 hV3 hR hq hqq
  obtain ⟨qn, hqv⟩ : ∃ qn : Nat, q.toNat = qn := ⟨_, rfl⟩
  obtain ⟨W0, hW0⟩ : ∃ W0, W0 = w.alloc (.cells #[.int .i64 0, .int .i64 0, .int .i64 0, .bool false, .bool false] 40 (0, 0)) := ⟨_, rfl⟩
  have T0 : Rq w W0 := by rw [hW0]; exact ⟨by go_grown, heap_new' _ _ _ rfl⟩
  have HW0 := Lib.hid hW0
  clear hW0
  rw [hqv] at hqn
  go_enter Tryz.func47, Tryz.ntmps47
  go_wp2_with fail
  go_loopg [8, 9] (s.size - (a + 1)) (fun m v8 v9 wr => ∃ (i : Nat) (acc : List UInt8), v8 = .string ⟨acc.toArray⟩ ∧ v9 = .int .i64 (i : Int) ∧ i + m = s.size ∧ a + 1 ≤ i ∧ acc.length ≤ i ∧ Hid (R = combQ acc (i - (a + 1)) (qL q (s.data.toList.drop i))) ∧ Hid (W0 = wr))
  case atStart => exact ⟨a + 1, [], rfl, by go_num, by omega, Nat.le_refl _, by simp, Lib.hid (by rw [Nat.sub_self, combQ_zero]; exact HR.out), HW0⟩
  case round =>
    obtain ⟨i, acc, rfl, rfl, hm, hai, hal, HK, hWr⟩ := hrel
    obtain rfl : wr = W0 := hWr.out.symm
    clear hWr
    have hz : (⟨acc.toArray⟩ : ByteArray).size = acc.length := by show acc.toArray.size = _; simp
    by_cases hi : i < s.size
    · have hb : s.data.toList[i]'hi = s[i] := rfl
      by_cases h1 : s[i] = q
      · have k1 : ((s[i].toNat : Int) == (qn : Int)) = true := by rw [h1, hqv]; simp
        obtain rfl : R = .inl (acc, i - (a + 1) + 1) := by rw [HK.out, qL_close q hi (hb.trans h1)]; simp [combQ]
        have e1 : ((a + 1 + (i - (a + 1) + 1) : Nat) : Int) = (i : Int) + 1 := by omega
        obtain ⟨rfl, rfl, hbb⟩ : V1 = ⟨acc.toArray⟩ ∧ V2 = (i : Int) + 1 ∧ (⟨b0, b1, b2, b3, b4⟩ : Bad) = ⟨0, 0, 0, false, false⟩ := ⟨HV.out.1, HV.out.2.1.trans e1, HV.out.2.2⟩
        simp only [Bad.mk.injEq] at hbb
        obtain ⟨rfl, rfl, rfl, rfl, rfl⟩ := hbb
        have m1 := T0.hr
        have HT := fun v0 v1 v2 v3 v4 => bad_blk m1 v0 v1 v2 v3 v4
        have HB0 := Lib.hid T0.B
        have qk0 := blk_cell' (m1) 0
        have qf0 := blk_free' (m1) 0
        have qk1 := blk_cell' (m1) 1
        have qf1 := blk_free' (m1) 1
        have qk2 := blk_cell' (m1) 2
        have qf2 := blk_free' (m1) 2
        have qk3 := blk_cell' (m1) 3
        have qf3 := blk_free' (m1) 3
        have qk4 := blk_cell' (m1) 4
        have qf4 := blk_free' (m1) 4
        clear m1 HV HK HR HQ h1 e1 T0
        go_wp2
        exact bodyPost_ret (results_three Tryz.results47 (res_tmp rfl) (res_tmp rfl) (res_cell (T' := 40) (fr := (0, 0)) rfl (HT _ _ _ _ _) Tryz.underlying40 rfl (by kernel_rfl))) rfl ⟨rfl, below_bad HB0.out (Nat.le_refl _) _ _ _ _ _⟩
      · have k1 : ((s[i].toNat : Int) == (qn : Int)) = false := by
          rw [← hqv]
          simp only [beq_eq_false_iff_ne, ne_eq]
          exact fun e => h1 (UInt8.toNat_inj.1 (by omega))
        by_cases h2 : s[i] = 92
        · have k2 : ((s[i].toNat : Int) == 92) = true := by rw [h2]; rfl
          by_cases hi1 : i + 1 < s.size
          · have hb1 : s.data.toList[i + 1]'hi1 = s[i + 1] := rfl
            have k3 : decide ((s.size : Int) ≤ (i : Int) + 1) = false := by rw [decide_eq_false_iff_not]; omega
            by_cases h3 : s[i + 1] = q ∨ s[i + 1] = 92
            · have HK2 : Hid (R = combQ (acc ++ [s[i + 1]]) (i + 2 - (a + 1)) (qL q (s.data.toList.drop (i + 2)))) := Lib.hid (by
                rw [HK.out, qL_pair q hi1 (fun e => h1 (hb.symm.trans e)) (hb.trans h2) h3, combQ_combQ]
                congr 1
                omega)
              have hsl := slice_one1 s i hi1
              have HA := Lib.hid (add_one acc s[i + 1])
              obtain ⟨ch, hch⟩ : ∃ ch : Nat, s[i + 1].toNat = ch := ⟨_, rfl⟩
              have hz1 : (⟨#[s[i + 1]]⟩ : ByteArray).size = 1 := rfl
              rcases (show s[i + 1] = 92 ∨ (¬ s[i + 1] = 92 ∧ s[i + 1] = q) from if e : s[i + 1] = 92 then .inl e else .inr ⟨e, h3.resolve_right e⟩) with h4 | ⟨h4, h5⟩
              · have k4 : ((ch : Int) == 92) = true := by rw [← hch, h4]; rfl
                have k4x : ((ch : Int) != 92) = false := by rw [bne, k4]; rfl
                generalize (⟨#[s[i + 1]]⟩ : ByteArray) = C1 at *
                clear HV HK h1 h2 h3 h4
                go_wp2_with fail
                go_roundg (gk - 2)
                case measure => omega
                case rel => exact ⟨i + 2, _, by rw [HA.out], by go_num, by omega, by omega, by simp; omega, HK2, Lib.hid rfl⟩
              · have k4 : ((ch : Int) == 92) = false := by
                  rw [← hch]; simp only [beq_eq_false_iff_ne, ne_eq]; exact fun e => h4 (UInt8.toNat_inj.1 (by show _ = 92; omega))
                have k4x : ((ch : Int) != 92) = true := by rw [bne, k4]; rfl
                have k5 : ((ch : Int) == (qn : Int)) = true := by rw [← hch, h5, hqv]; simp
                have k5x : ((ch : Int) != (qn : Int)) = false := by rw [bne, k5]; rfl
                generalize (⟨#[s[i + 1]]⟩ : ByteArray) = C1 at *
                clear HV HK h1 h2 h3 h4 h5
                go_wp2_with fail
                go_roundg (gk - 2)
                case measure => omega
                case rel => exact ⟨i + 2, _, by rw [HA.out], by go_num, by omega, by omega, by simp; omega, HK2, Lib.hid rfl⟩
            · have k4 : ((s[i + 1].toNat : Int) == 92) = false := by
                simp only [beq_eq_false_iff_ne, ne_eq]; exact fun e => h3 (.inr (UInt8.toNat_inj.1 (by show _ = 92; omega)))
              have k4x : ((s[i + 1].toNat : Int) != 92) = true := by rw [bne, k4]; rfl
              have k5 : ((s[i + 1].toNat : Int) == (qn : Int)) = false := by
                rw [← hqv]; simp only [beq_eq_false_iff_ne, ne_eq]; exact fun e => h3 (.inl (UInt8.toNat_inj.1 (by omega)))
              have k5x : ((s[i + 1].toNat : Int) != (qn : Int)) = true := by rw [bne, k5]; rfl
              obtain rfl : R = .inr (some (i - (a + 1))) := by rw [HK.out, qL_wrong q hi1 (fun e => h1 (hb.symm.trans e)) (hb.trans h2) h3]; simp [combQ]
              have e1 : ((a + 1 + (i - (a + 1)) : Nat) : Int) = (i : Int) := by omega
              obtain ⟨rfl, rfl, hbb⟩ : V1 = ⟨#[]⟩ ∧ V2 = 0 ∧ (⟨b0, b1, b2, b3, b4⟩ : Bad) = ⟨121, (i : Int), 0, true, false⟩ := ⟨HV.out.1, HV.out.2.1, HV.out.2.2.trans (by show (⟨121, ((a + 1 + (i - (a + 1)) : Nat) : Int), 0, true, false⟩ : Bad) = _; rw [e1])⟩
              simp only [Bad.mk.injEq] at hbb
              obtain ⟨rfl, rfl, rfl, rfl, rfl⟩ := hbb
              clear h1 h2 h3 e1
              have A := Lib.hid (fun W => weirref01_At (i) 121 W)
              clear HV HK HR HQ
              go_wp2_with fail
              refine (A.out _).mono ?_
              rintro ev w1 ⟨rfl, hB⟩
              have t1 := T0.next hB
              have m1 := t1.hr
              have HT := fun v0 v1 v2 v3 v4 => bad_blk m1 v0 v1 v2 v3 v4
              have HB0 := Lib.hid t1.B
              have qk0 := blk_cell' (m1) 0
              have qf0 := blk_free' (m1) 0
              have qk1 := blk_cell' (m1) 1
              have qf1 := blk_free' (m1) 1
              have qk2 := blk_cell' (m1) 2
              have qf2 := blk_free' (m1) 2
              have qk3 := blk_cell' (m1) 3
              have qf3 := blk_free' (m1) 3
              have qk4 := blk_cell' (m1) 4
              have qf4 := blk_free' (m1) 4
              clear m1 t1 hB
              rw [At121]
              go_wp2
              exact bodyPost_ret (results_three Tryz.results47 (res_tmp rfl) (res_tmp rfl) (res_cell (T' := 40) (fr := (0, 0)) rfl (HT _ _ _ _ _) Tryz.underlying40 rfl (by kernel_rfl))) rfl ⟨rfl, below_bad HB0.out (Nat.le_refl _) _ _ _ _ _⟩
          · have k3 : decide ((s.size : Int) ≤ (i : Int) + 1) = true := by rw [decide_eq_true_iff]; omega
            obtain rfl : R = .inr (some (i - (a + 1))) := by rw [HK.out, qL_last q hi (fun e => h1 (hb.symm.trans e)) (hb.trans h2) (by show s.size ≤ i + 1; omega)]; simp [combQ]
            have e1 : ((a + 1 + (i - (a + 1)) : Nat) : Int) = (i : Int) := by omega
            obtain ⟨rfl, rfl, hbb⟩ : V1 = ⟨#[]⟩ ∧ V2 = 0 ∧ (⟨b0, b1, b2, b3, b4⟩ : Bad) = ⟨121, (i : Int), 0, true, false⟩ := ⟨HV.out.1, HV.out.2.1, HV.out.2.2.trans (by show (⟨121, ((a + 1 + (i - (a + 1)) : Nat) : Int), 0, true, false⟩ : Bad) = _; rw [e1])⟩
            simp only [Bad.mk.injEq] at hbb
            obtain ⟨rfl, rfl, rfl, rfl, rfl⟩ := hbb
            clear h1 h2 e1
            have A := Lib.hid (fun W => weirref01_At (i) 121 W)
            clear HV HK HR HQ
            go_wp2_with fail
            refine (A.out _).mono ?_
            rintro ev w1 ⟨rfl, hB⟩
            have t1 := T0.next hB
            have m1 := t1.hr
            have HT := fun v0 v1 v2 v3 v4 => bad_blk m1 v0 v1 v2 v3 v4
            have HB0 := Lib.hid t1.B
            have qk0 := blk_cell' (m1) 0
            have qf0 := blk_free' (m1) 0
            have qk1 := blk_cell' (m1) 1
            have qf1 := blk_free' (m1) 1
            have qk2 := blk_cell' (m1) 2
            have qf2 := blk_free' (m1) 2
            have qk3 := blk_cell' (m1) 3
            have qf3 := blk_free' (m1) 3
            have qk4 := blk_cell' (m1) 4
            have qf4 := blk_free' (m1) 4
            clear m1 t1 hB
            rw [At121]
            go_wp2
            exact bodyPost_ret (results_three Tryz.results47 (res_tmp rfl) (res_tmp rfl) (res_cell (T' := 40) (fr := (0, 0)) rfl (HT _ _ _ _ _) Tryz.underlying40 rfl (by kernel_rfl))) rfl ⟨rfl, below_bad HB0.out (Nat.le_refl _) _ _ _ _ _⟩
        · have k2 : ((s[i].toNat : Int) == 92) = false := by
            simp only [beq_eq_false_iff_ne, ne_eq]; exact fun e => h2 (UInt8.toNat_inj.1 (by show _ = 92; omega))
          have HK2 : Hid (R = combQ (acc ++ [s[i]]) (i + 1 - (a + 1)) (qL q (s.data.toList.drop (i + 1)))) := Lib.hid (by
            rw [HK.out, qL_plain q hi (fun e => h1 (hb.symm.trans e)) (fun e => h2 (hb.symm.trans e)), combQ_combQ]
            congr 1
            omega)
          have hsl := slice_one s i hi
          have HA := Lib.hid (add_one acc s[i])
          have hz1 : (⟨#[s[i]]⟩ : ByteArray).size = 1 := rfl
          generalize (⟨#[s[i]]⟩ : ByteArray) = C1 at *
          clear HV HK h1 h2
          go_wp2_with fail
          go_roundg (gk - 1)
          case measure => omega
          case rel => exact ⟨i + 1, _, by rw [HA.out], by go_num, by omega, by omega, by simp; omega, HK2, Lib.hid rfl⟩
    · have hi2 : i = s.size := by omega
      have k3 : decide ((s.size : Int) ≤ (i : Int)) = true := by rw [decide_eq_true_iff]; omega
      have k0 : decide ((i : Int) < (s.size : Int)) = false := by rw [decide_eq_false_iff_not]; omega
      obtain rfl : R = .inr none := by rw [HK.out, qL_end q (by show s.size ≤ i; omega)]; rfl
      obtain ⟨rfl, rfl, hbb⟩ : V1 = ⟨#[]⟩ ∧ V2 = 0 ∧ (⟨b0, b1, b2, b3, b4⟩ : Bad) = ⟨121, (a : Int), 0, true, false⟩ := HV.out
      simp only [Bad.mk.injEq] at hbb
      obtain ⟨rfl, rfl, rfl, rfl, rfl⟩ := hbb
      clear hi2
      have A := Lib.hid (fun W => weirref01_At (a) 121 W)
      clear HV HK HR HQ
      go_wp2_with fail
      refine (A.out _).mono ?_
      rintro ev w1 ⟨rfl, hB⟩
      have t1 := T0.next hB
      have m1 := t1.hr
      have HT := fun v0 v1 v2 v3 v4 => bad_blk m1 v0 v1 v2 v3 v4
      have HB0 := Lib.hid t1.B
      have qk0 := blk_cell' (m1) 0
      have qf0 := blk_free' (m1) 0
      have qk1 := blk_cell' (m1) 1
      have qf1 := blk_free' (m1) 1
      have qk2 := blk_cell' (m1) 2
      have qf2 := blk_free' (m1) 2
      have qk3 := blk_cell' (m1) 3
      have qf3 := blk_free' (m1) 3
      have qk4 := blk_cell' (m1) 4
      have qf4 := blk_free' (m1) 4
      clear m1 t1 hB
      rw [At121]
      go_wp2
      exact bodyPost_ret (results_three Tryz.results47 (res_tmp rfl) (res_tmp rfl) (res_cell (T' := 40) (fr := (0, 0)) rfl (HT _ _ _ _ _) Tryz.underlying40 rfl (by kernel_rfl))) rfl ⟨rfl, below_bad HB0.out (Nat.le_refl _) _ _ _ _ _⟩
end
section

theorem two_eq {S : ByteArray} {x y : UInt8} (h : S.data.toList = [x, y]) (u v : UInt8) : (S.toList == [u, v]) = (x == u && y == v) := by
  rw [Lib.toList_data, h]; simp
theorem ext_two (s : ByteArray) (a : Nat) (h : a + 1 < s.size) : (s.extract a (a + 2)).data.toList = [s[a], s[a + 1]] := by
  rw [ext_take, List.drop_eq_getElem_cons (show a < s.data.toList.length by show a < s.size; omega), List.drop_eq_getElem_cons (show a + 1 < s.data.toList.length from h)]
  rfl
theorem slice_two (s : ByteArray) (a : Nat) (h : a + 1 < s.size) (W : World) :
    (Instr.slice 9 (.string s) (some (.int .i64 (a : Int))) (some (.int .i64 ((a : Int) + 2))) none).run Tryz.prog W = .ok (.string (s.extract a (a + 2))) W := slice_mid s a 2 (by omega) W
set_option maxRecDepth 100000 in
set_option maxHeartbeats 4000000 in
theorem r12_sign (s : ByteArray) (a : Nat) (hs : s.size ≤ 140737488355328) (ha : a < s.size) (w : World) :
    Calls Tryz.prog 48 #[.string s, .int .i64 (a : Int)] w fun e w' => e = .returned (.int .i64 (signN s[a] s.data.toList[a + 1]? : Nat)) ∧ w' = w := by
  obtain ⟨R, hR⟩ : ∃ R, R = signN s[a] s.data.toList[a + 1]? := ⟨_, rfl⟩
  rw [← hR]
  have HR := Lib.hid hR
  clear hR
  obtain ⟨cn, hcn⟩ : ∃ cn : Nat, s[a].toNat = cn := ⟨_, rfl⟩
  by_cases hx : s[a] = 33
  · have hcc : cn = 33 := by rw [← hcn, hx]; rfl
    subst hcc
    by_cases h2 : a + 1 < s.size
    · have hS := ext_two s a h2
      have hsl := slice_two s a h2
      have hg : s.data.toList[a + 1]? = some s[a + 1] := List.getElem?_eq_getElem (show a + 1 < s.data.toList.length from h2)
      have kl : decide ((a : Int) + 2 ≤ (s.size : Int)) = true := by rw [decide_eq_true_iff]; omega
      by_cases hd : s[a + 1] = 61
      · obtain rfl : R = 2 := by rw [HR.out, hg, hx]; simp [signN, hd]
        have t33 : ((s.extract a (a + 2)).toList == [33, 61]) = true := by rw [two_eq hS]; simp [hx, hd]
        have t60 : ((s.extract a (a + 2)).toList == [60, 61]) = false := by rw [two_eq hS]; simp [hx, hd]
        have t62 : ((s.extract a (a + 2)).toList == [62, 61]) = false := by rw [two_eq hS]; simp [hx, hd]
        generalize s.extract a (a + 2) = S2 at *
        clear HR hS hg hd hx
        go_enter Tryz.func48, Tryz.ntmps48
        go_wp2
        go_ret
        exact ⟨rfl, rfl⟩
      · obtain rfl : R = 0 := by rw [HR.out, hg, hx]; simp [signN, hd]
        have t33 : ((s.extract a (a + 2)).toList == [33, 61]) = false := by rw [two_eq hS]; simp [hx, hd]
        have t60 : ((s.extract a (a + 2)).toList == [60, 61]) = false := by rw [two_eq hS]; simp [hx, hd]
        have t62 : ((s.extract a (a + 2)).toList == [62, 61]) = false := by rw [two_eq hS]; simp [hx, hd]
        generalize s.extract a (a + 2) = S2 at *
        clear HR hS hg hd hx
        go_enter Tryz.func48, Tryz.ntmps48
        go_wp2
        go_ret
        exact ⟨rfl, rfl⟩
    · have hg : s.data.toList[a + 1]? = none := List.getElem?_eq_none (by show s.size ≤ a + 1; omega)
      have kl : decide ((a : Int) + 2 ≤ (s.size : Int)) = false := by rw [decide_eq_false_iff_not]; omega
      obtain rfl : R = 0 := by rw [HR.out, hg, hx]; simp [signN]
      clear HR hg hx
      go_enter Tryz.func48, Tryz.ntmps48
      go_wp2
      go_ret
      exact ⟨rfl, rfl⟩
  have n33 := hx
  clear hx
  by_cases hx : s[a] = 60
  · have hcc : cn = 60 := by rw [← hcn, hx]; rfl
    subst hcc
    by_cases h2 : a + 1 < s.size
    · have hS := ext_two s a h2
      have hsl := slice_two s a h2
      have hg : s.data.toList[a + 1]? = some s[a + 1] := List.getElem?_eq_getElem (show a + 1 < s.data.toList.length from h2)
      have kl : decide ((a : Int) + 2 ≤ (s.size : Int)) = true := by rw [decide_eq_true_iff]; omega
      by_cases hd : s[a + 1] = 61
      · obtain rfl : R = 2 := by rw [HR.out, hg, hx]; simp [signN, hd]
        have t33 : ((s.extract a (a + 2)).toList == [33, 61]) = false := by rw [two_eq hS]; simp [hx, hd]
        have t60 : ((s.extract a (a + 2)).toList == [60, 61]) = true := by rw [two_eq hS]; simp [hx, hd]
        have t62 : ((s.extract a (a + 2)).toList == [62, 61]) = false := by rw [two_eq hS]; simp [hx, hd]
        generalize s.extract a (a + 2) = S2 at *
        clear HR hS hg hd hx
        go_enter Tryz.func48, Tryz.ntmps48
        go_wp2
        go_ret
        exact ⟨rfl, rfl⟩
      · obtain rfl : R = 1 := by rw [HR.out, hg, hx]; simp [signN, hd]
        have t33 : ((s.extract a (a + 2)).toList == [33, 61]) = false := by rw [two_eq hS]; simp [hx, hd]
        have t60 : ((s.extract a (a + 2)).toList == [60, 61]) = false := by rw [two_eq hS]; simp [hx, hd]
        have t62 : ((s.extract a (a + 2)).toList == [62, 61]) = false := by rw [two_eq hS]; simp [hx, hd]
        generalize s.extract a (a + 2) = S2 at *
        clear HR hS hg hd hx
        go_enter Tryz.func48, Tryz.ntmps48
        go_wp2
        go_ret
        exact ⟨rfl, rfl⟩
    · have hg : s.data.toList[a + 1]? = none := List.getElem?_eq_none (by show s.size ≤ a + 1; omega)
      have kl : decide ((a : Int) + 2 ≤ (s.size : Int)) = false := by rw [decide_eq_false_iff_not]; omega
      obtain rfl : R = 1 := by rw [HR.out, hg, hx]; simp [signN]
      clear HR hg hx
      go_enter Tryz.func48, Tryz.ntmps48
      go_wp2
      go_ret
      exact ⟨rfl, rfl⟩
  have n60 := hx
  clear hx
  by_cases hx : s[a] = 62
  · have hcc : cn = 62 := by rw [← hcn, hx]; rfl
    subst hcc
    by_cases h2 : a + 1 < s.size
    · have hS := ext_two s a h2
      have hsl := slice_two s a h2
      have hg : s.data.toList[a + 1]? = some s[a + 1] := List.getElem?_eq_getElem (show a + 1 < s.data.toList.length from h2)
      have kl : decide ((a : Int) + 2 ≤ (s.size : Int)) = true := by rw [decide_eq_true_iff]; omega
      by_cases hd : s[a + 1] = 61
      · obtain rfl : R = 2 := by rw [HR.out, hg, hx]; simp [signN, hd]
        have t33 : ((s.extract a (a + 2)).toList == [33, 61]) = false := by rw [two_eq hS]; simp [hx, hd]
        have t60 : ((s.extract a (a + 2)).toList == [60, 61]) = false := by rw [two_eq hS]; simp [hx, hd]
        have t62 : ((s.extract a (a + 2)).toList == [62, 61]) = true := by rw [two_eq hS]; simp [hx, hd]
        generalize s.extract a (a + 2) = S2 at *
        clear HR hS hg hd hx
        go_enter Tryz.func48, Tryz.ntmps48
        go_wp2
        go_ret
        exact ⟨rfl, rfl⟩
      · obtain rfl : R = 1 := by rw [HR.out, hg, hx]; simp [signN, hd]
        have t33 : ((s.extract a (a + 2)).toList == [33, 61]) = false := by rw [two_eq hS]; simp [hx, hd]
        have t60 : ((s.extract a (a + 2)).toList == [60, 61]) = false := by rw [two_eq hS]; simp [hx, hd]
        have t62 : ((s.extract a (a + 2)).toList == [62, 61]) = false := by rw [two_eq hS]; simp [hx, hd]
        generalize s.extract a (a + 2) = S2 at *
        clear HR hS hg hd hx
        go_enter Tryz.func48, Tryz.ntmps48
        go_wp2
        go_ret
        exact ⟨rfl, rfl⟩
    · have hg : s.data.toList[a + 1]? = none := List.getElem?_eq_none (by show s.size ≤ a + 1; omega)
      have kl : decide ((a : Int) + 2 ≤ (s.size : Int)) = false := by rw [decide_eq_false_iff_not]; omega
      obtain rfl : R = 1 := by rw [HR.out, hg, hx]; simp [signN]
      clear HR hg hx
      go_enter Tryz.func48, Tryz.ntmps48
      go_wp2
      go_ret
      exact ⟨rfl, rfl⟩
  have n62 := hx
  clear hx
  by_cases hx : s[a] = 44
  · have hcc : cn = 44 := by rw [← hcn, hx]; rfl
    subst hcc
    by_cases h2 : a + 1 < s.size
    · have hS := ext_two s a h2
      have hsl := slice_two s a h2
      have hg : s.data.toList[a + 1]? = some s[a + 1] := List.getElem?_eq_getElem (show a + 1 < s.data.toList.length from h2)
      have kl : decide ((a : Int) + 2 ≤ (s.size : Int)) = true := by rw [decide_eq_true_iff]; omega
      by_cases hd : s[a + 1] = 61
      · obtain rfl : R = 1 := by rw [HR.out, hg, hx]; simp [signN, hd]
        have t33 : ((s.extract a (a + 2)).toList == [33, 61]) = false := by rw [two_eq hS]; simp [hx, hd]
        have t60 : ((s.extract a (a + 2)).toList == [60, 61]) = false := by rw [two_eq hS]; simp [hx, hd]
        have t62 : ((s.extract a (a + 2)).toList == [62, 61]) = false := by rw [two_eq hS]; simp [hx, hd]
        generalize s.extract a (a + 2) = S2 at *
        clear HR hS hg hd hx
        go_enter Tryz.func48, Tryz.ntmps48
        go_wp2
        go_ret
        exact ⟨rfl, rfl⟩
      · obtain rfl : R = 1 := by rw [HR.out, hg, hx]; simp [signN, hd]
        have t33 : ((s.extract a (a + 2)).toList == [33, 61]) = false := by rw [two_eq hS]; simp [hx, hd]
        have t60 : ((s.extract a (a + 2)).toList == [60, 61]) = false := by rw [two_eq hS]; simp [hx, hd]
        have t62 : ((s.extract a (a + 2)).toList == [62, 61]) = false := by rw [two_eq hS]; simp [hx, hd]
        generalize s.extract a (a + 2) = S2 at *
        clear HR hS hg hd hx
        go_enter Tryz.func48, Tryz.ntmps48
        go_wp2
        go_ret
        exact ⟨rfl, rfl⟩
    · have hg : s.data.toList[a + 1]? = none := List.getElem?_eq_none (by show s.size ≤ a + 1; omega)
      have kl : decide ((a : Int) + 2 ≤ (s.size : Int)) = false := by rw [decide_eq_false_iff_not]; omega
      obtain rfl : R = 1 := by rw [HR.out, hg, hx]; simp [signN]
      clear HR hg hx
      go_enter Tryz.func48, Tryz.ntmps48
      go_wp2
      go_ret
      exact ⟨rfl, rfl⟩
  have n44 := hx
  clear hx
  by_cases hx : s[a] = 40
  · have hcc : cn = 40 := by rw [← hcn, hx]; rfl
    subst hcc
    by_cases h2 : a + 1 < s.size
    · have hS := ext_two s a h2
      have hsl := slice_two s a h2
      have hg : s.data.toList[a + 1]? = some s[a + 1] := List.getElem?_eq_getElem (show a + 1 < s.data.toList.length from h2)
      have kl : decide ((a : Int) + 2 ≤ (s.size : Int)) = true := by rw [decide_eq_true_iff]; omega
      by_cases hd : s[a + 1] = 61
      · obtain rfl : R = 1 := by rw [HR.out, hg, hx]; simp [signN, hd]
        have t33 : ((s.extract a (a + 2)).toList == [33, 61]) = false := by rw [two_eq hS]; simp [hx, hd]
        have t60 : ((s.extract a (a + 2)).toList == [60, 61]) = false := by rw [two_eq hS]; simp [hx, hd]
        have t62 : ((s.extract a (a + 2)).toList == [62, 61]) = false := by rw [two_eq hS]; simp [hx, hd]
        generalize s.extract a (a + 2) = S2 at *
        clear HR hS hg hd hx
        go_enter Tryz.func48, Tryz.ntmps48
        go_wp2
        go_ret
        exact ⟨rfl, rfl⟩
      · obtain rfl : R = 1 := by rw [HR.out, hg, hx]; simp [signN, hd]
        have t33 : ((s.extract a (a + 2)).toList == [33, 61]) = false := by rw [two_eq hS]; simp [hx, hd]
        have t60 : ((s.extract a (a + 2)).toList == [60, 61]) = false := by rw [two_eq hS]; simp [hx, hd]
        have t62 : ((s.extract a (a + 2)).toList == [62, 61]) = false := by rw [two_eq hS]; simp [hx, hd]
        generalize s.extract a (a + 2) = S2 at *
        clear HR hS hg hd hx
        go_enter Tryz.func48, Tryz.ntmps48
        go_wp2
        go_ret
        exact ⟨rfl, rfl⟩
    · have hg : s.data.toList[a + 1]? = none := List.getElem?_eq_none (by show s.size ≤ a + 1; omega)
      have kl : decide ((a : Int) + 2 ≤ (s.size : Int)) = false := by rw [decide_eq_false_iff_not]; omega
      obtain rfl : R = 1 := by rw [HR.out, hg, hx]; simp [signN]
      clear HR hg hx
      go_enter Tryz.func48, Tryz.ntmps48
      go_wp2
      go_ret
      exact ⟨rfl, rfl⟩
  have n40 := hx
  clear hx
  by_cases hx : s[a] = 41
  · have hcc : cn = 41 := by rw [← hcn, hx]; rfl
    subst hcc
    by_cases h2 : a + 1 < s.size
    · have hS := ext_two s a h2
      have hsl := slice_two s a h2
      have hg : s.data.toList[a + 1]? = some s[a + 1] := List.getElem?_eq_getElem (show a + 1 < s.data.toList.length from h2)
      have kl : decide ((a : Int) + 2 ≤ (s.size : Int)) = true := by rw [decide_eq_true_iff]; omega
      by_cases hd : s[a + 1] = 61
      · obtain rfl : R = 1 := by rw [HR.out, hg, hx]; simp [signN, hd]
        have t33 : ((s.extract a (a + 2)).toList == [33, 61]) = false := by rw [two_eq hS]; simp [hx, hd]
        have t60 : ((s.extract a (a + 2)).toList == [60, 61]) = false := by rw [two_eq hS]; simp [hx, hd]
        have t62 : ((s.extract a (a + 2)).toList == [62, 61]) = false := by rw [two_eq hS]; simp [hx, hd]
        generalize s.extract a (a + 2) = S2 at *
        clear HR hS hg hd hx
        go_enter Tryz.func48, Tryz.ntmps48
        go_wp2
        go_ret
        exact ⟨rfl, rfl⟩
      · obtain rfl : R = 1 := by rw [HR.out, hg, hx]; simp [signN, hd]
        have t33 : ((s.extract a (a + 2)).toList == [33, 61]) = false := by rw [two_eq hS]; simp [hx, hd]
        have t60 : ((s.extract a (a + 2)).toList == [60, 61]) = false := by rw [two_eq hS]; simp [hx, hd]
        have t62 : ((s.extract a (a + 2)).toList == [62, 61]) = false := by rw [two_eq hS]; simp [hx, hd]
        generalize s.extract a (a + 2) = S2 at *
        clear HR hS hg hd hx
        go_enter Tryz.func48, Tryz.ntmps48
        go_wp2
        go_ret
        exact ⟨rfl, rfl⟩
    · have hg : s.data.toList[a + 1]? = none := List.getElem?_eq_none (by show s.size ≤ a + 1; omega)
      have kl : decide ((a : Int) + 2 ≤ (s.size : Int)) = false := by rw [decide_eq_false_iff_not]; omega
      obtain rfl : R = 1 := by rw [HR.out, hg, hx]; simp [signN]
      clear HR hg hx
      go_enter Tryz.func48, Tryz.ntmps48
      go_wp2
      go_ret
      exact ⟨rfl, rfl⟩
  have n41 := hx
  clear hx
  by_cases hx : s[a] = 43
  · have hcc : cn = 43 := by rw [← hcn, hx]; rfl
    subst hcc
    by_cases h2 : a + 1 < s.size
    · have hS := ext_two s a h2
      have hsl := slice_two s a h2
      have hg : s.data.toList[a + 1]? = some s[a + 1] := List.getElem?_eq_getElem (show a + 1 < s.data.toList.length from h2)
      have kl : decide ((a : Int) + 2 ≤ (s.size : Int)) = true := by rw [decide_eq_true_iff]; omega
      by_cases hd : s[a + 1] = 61
      · obtain rfl : R = 1 := by rw [HR.out, hg, hx]; simp [signN, hd]
        have t33 : ((s.extract a (a + 2)).toList == [33, 61]) = false := by rw [two_eq hS]; simp [hx, hd]
        have t60 : ((s.extract a (a + 2)).toList == [60, 61]) = false := by rw [two_eq hS]; simp [hx, hd]
        have t62 : ((s.extract a (a + 2)).toList == [62, 61]) = false := by rw [two_eq hS]; simp [hx, hd]
        generalize s.extract a (a + 2) = S2 at *
        clear HR hS hg hd hx
        go_enter Tryz.func48, Tryz.ntmps48
        go_wp2
        go_ret
        exact ⟨rfl, rfl⟩
      · obtain rfl : R = 1 := by rw [HR.out, hg, hx]; simp [signN, hd]
        have t33 : ((s.extract a (a + 2)).toList == [33, 61]) = false := by rw [two_eq hS]; simp [hx, hd]
        have t60 : ((s.extract a (a + 2)).toList == [60, 61]) = false := by rw [two_eq hS]; simp [hx, hd]
        have t62 : ((s.extract a (a + 2)).toList == [62, 61]) = false := by rw [two_eq hS]; simp [hx, hd]
        generalize s.extract a (a + 2) = S2 at *
        clear HR hS hg hd hx
        go_enter Tryz.func48, Tryz.ntmps48
        go_wp2
        go_ret
        exact ⟨rfl, rfl⟩
    · have hg : s.data.toList[a + 1]? = none := List.getElem?_eq_none (by show s.size ≤ a + 1; omega)
      have kl : decide ((a : Int) + 2 ≤ (s.size : Int)) = false := by rw [decide_eq_false_iff_not]; omega
      obtain rfl : R = 1 := by rw [HR.out, hg, hx]; simp [signN]
      clear HR hg hx
      go_enter Tryz.func48, Tryz.ntmps48
      go_wp2
      go_ret
      exact ⟨rfl, rfl⟩
  have n43 := hx
  clear hx
  by_cases hx : s[a] = 45
  · have hcc : cn = 45 := by rw [← hcn, hx]; rfl
    subst hcc
    by_cases h2 : a + 1 < s.size
    · have hS := ext_two s a h2
      have hsl := slice_two s a h2
      have hg : s.data.toList[a + 1]? = some s[a + 1] := List.getElem?_eq_getElem (show a + 1 < s.data.toList.length from h2)
      have kl : decide ((a : Int) + 2 ≤ (s.size : Int)) = true := by rw [decide_eq_true_iff]; omega
      by_cases hd : s[a + 1] = 61
      · obtain rfl : R = 1 := by rw [HR.out, hg, hx]; simp [signN, hd]
        have t33 : ((s.extract a (a + 2)).toList == [33, 61]) = false := by rw [two_eq hS]; simp [hx, hd]
        have t60 : ((s.extract a (a + 2)).toList == [60, 61]) = false := by rw [two_eq hS]; simp [hx, hd]
        have t62 : ((s.extract a (a + 2)).toList == [62, 61]) = false := by rw [two_eq hS]; simp [hx, hd]
        generalize s.extract a (a + 2) = S2 at *
        clear HR hS hg hd hx
        go_enter Tryz.func48, Tryz.ntmps48
        go_wp2
        go_ret
        exact ⟨rfl, rfl⟩
      · obtain rfl : R = 1 := by rw [HR.out, hg, hx]; simp [signN, hd]
        have t33 : ((s.extract a (a + 2)).toList == [33, 61]) = false := by rw [two_eq hS]; simp [hx, hd]
        have t60 : ((s.extract a (a + 2)).toList == [60, 61]) = false := by rw [two_eq hS]; simp [hx, hd]
        have t62 : ((s.extract a (a + 2)).toList == [62, 61]) = false := by rw [two_eq hS]; simp [hx, hd]
        generalize s.extract a (a + 2) = S2 at *
        clear HR hS hg hd hx
        go_enter Tryz.func48, Tryz.ntmps48
        go_wp2
        go_ret
        exact ⟨rfl, rfl⟩
    · have hg : s.data.toList[a + 1]? = none := List.getElem?_eq_none (by show s.size ≤ a + 1; omega)
      have kl : decide ((a : Int) + 2 ≤ (s.size : Int)) = false := by rw [decide_eq_false_iff_not]; omega
      obtain rfl : R = 1 := by rw [HR.out, hg, hx]; simp [signN]
      clear HR hg hx
      go_enter Tryz.func48, Tryz.ntmps48
      go_wp2
      go_ret
      exact ⟨rfl, rfl⟩
  have n45 := hx
  clear hx
  by_cases hx : s[a] = 42
  · have hcc : cn = 42 := by rw [← hcn, hx]; rfl
    subst hcc
    by_cases h2 : a + 1 < s.size
    · have hS := ext_two s a h2
      have hsl := slice_two s a h2
      have hg : s.data.toList[a + 1]? = some s[a + 1] := List.getElem?_eq_getElem (show a + 1 < s.data.toList.length from h2)
      have kl : decide ((a : Int) + 2 ≤ (s.size : Int)) = true := by rw [decide_eq_true_iff]; omega
      by_cases hd : s[a + 1] = 61
      · obtain rfl : R = 1 := by rw [HR.out, hg, hx]; simp [signN, hd]
        have t33 : ((s.extract a (a + 2)).toList == [33, 61]) = false := by rw [two_eq hS]; simp [hx, hd]
        have t60 : ((s.extract a (a + 2)).toList == [60, 61]) = false := by rw [two_eq hS]; simp [hx, hd]
        have t62 : ((s.extract a (a + 2)).toList == [62, 61]) = false := by rw [two_eq hS]; simp [hx, hd]
        generalize s.extract a (a + 2) = S2 at *
        clear HR hS hg hd hx
        go_enter Tryz.func48, Tryz.ntmps48
        go_wp2
        go_ret
        exact ⟨rfl, rfl⟩
      · obtain rfl : R = 1 := by rw [HR.out, hg, hx]; simp [signN, hd]
        have t33 : ((s.extract a (a + 2)).toList == [33, 61]) = false := by rw [two_eq hS]; simp [hx, hd]
        have t60 : ((s.extract a (a + 2)).toList == [60, 61]) = false := by rw [two_eq hS]; simp [hx, hd]
        have t62 : ((s.extract a (a + 2)).toList == [62, 61]) = false := by rw [two_eq hS]; simp [hx, hd]
        generalize s.extract a (a + 2) = S2 at *
        clear HR hS hg hd hx
        go_enter Tryz.func48, Tryz.ntmps48
        go_wp2
        go_ret
        exact ⟨rfl, rfl⟩
    · have hg : s.data.toList[a + 1]? = none := List.getElem?_eq_none (by show s.size ≤ a + 1; omega)
      have kl : decide ((a : Int) + 2 ≤ (s.size : Int)) = false := by rw [decide_eq_false_iff_not]; omega
      obtain rfl : R = 1 := by rw [HR.out, hg, hx]; simp [signN]
      clear HR hg hx
      go_enter Tryz.func48, Tryz.ntmps48
      go_wp2
      go_ret
      exact ⟨rfl, rfl⟩
  have n42 := hx
  clear hx
  by_cases hx : s[a] = 47
  · have hcc : cn = 47 := by rw [← hcn, hx]; rfl
    subst hcc
    by_cases h2 : a + 1 < s.size
    · have hS := ext_two s a h2
      have hsl := slice_two s a h2
      have hg : s.data.toList[a + 1]? = some s[a + 1] := List.getElem?_eq_getElem (show a + 1 < s.data.toList.length from h2)
      have kl : decide ((a : Int) + 2 ≤ (s.size : Int)) = true := by rw [decide_eq_true_iff]; omega
      by_cases hd : s[a + 1] = 61
      · obtain rfl : R = 1 := by rw [HR.out, hg, hx]; simp [signN, hd]
        have t33 : ((s.extract a (a + 2)).toList == [33, 61]) = false := by rw [two_eq hS]; simp [hx, hd]
        have t60 : ((s.extract a (a + 2)).toList == [60, 61]) = false := by rw [two_eq hS]; simp [hx, hd]
        have t62 : ((s.extract a (a + 2)).toList == [62, 61]) = false := by rw [two_eq hS]; simp [hx, hd]
        generalize s.extract a (a + 2) = S2 at *
        clear HR hS hg hd hx
        go_enter Tryz.func48, Tryz.ntmps48
        go_wp2
        go_ret
        exact ⟨rfl, rfl⟩
      · obtain rfl : R = 1 := by rw [HR.out, hg, hx]; simp [signN, hd]
        have t33 : ((s.extract a (a + 2)).toList == [33, 61]) = false := by rw [two_eq hS]; simp [hx, hd]
        have t60 : ((s.extract a (a + 2)).toList == [60, 61]) = false := by rw [two_eq hS]; simp [hx, hd]
        have t62 : ((s.extract a (a + 2)).toList == [62, 61]) = false := by rw [two_eq hS]; simp [hx, hd]
        generalize s.extract a (a + 2) = S2 at *
        clear HR hS hg hd hx
        go_enter Tryz.func48, Tryz.ntmps48
        go_wp2
        go_ret
        exact ⟨rfl, rfl⟩
    · have hg : s.data.toList[a + 1]? = none := List.getElem?_eq_none (by show s.size ≤ a + 1; omega)
      have kl : decide ((a : Int) + 2 ≤ (s.size : Int)) = false := by rw [decide_eq_false_iff_not]; omega
      obtain rfl : R = 1 := by rw [HR.out, hg, hx]; simp [signN]
      clear HR hg hx
      go_enter Tryz.func48, Tryz.ntmps48
      go_wp2
      go_ret
      exact ⟨rfl, rfl⟩
  have n47 := hx
  clear hx
  by_cases hx : s[a] = 37
  · have hcc : cn = 37 := by rw [← hcn, hx]; rfl
    subst hcc
    by_cases h2 : a + 1 < s.size
    · have hS := ext_two s a h2
      have hsl := slice_two s a h2
      have hg : s.data.toList[a + 1]? = some s[a + 1] := List.getElem?_eq_getElem (show a + 1 < s.data.toList.length from h2)
      have kl : decide ((a : Int) + 2 ≤ (s.size : Int)) = true := by rw [decide_eq_true_iff]; omega
      by_cases hd : s[a + 1] = 61
      · obtain rfl : R = 1 := by rw [HR.out, hg, hx]; simp [signN, hd]
        have t33 : ((s.extract a (a + 2)).toList == [33, 61]) = false := by rw [two_eq hS]; simp [hx, hd]
        have t60 : ((s.extract a (a + 2)).toList == [60, 61]) = false := by rw [two_eq hS]; simp [hx, hd]
        have t62 : ((s.extract a (a + 2)).toList == [62, 61]) = false := by rw [two_eq hS]; simp [hx, hd]
        generalize s.extract a (a + 2) = S2 at *
        clear HR hS hg hd hx
        go_enter Tryz.func48, Tryz.ntmps48
        go_wp2
        go_ret
        exact ⟨rfl, rfl⟩
      · obtain rfl : R = 1 := by rw [HR.out, hg, hx]; simp [signN, hd]
        have t33 : ((s.extract a (a + 2)).toList == [33, 61]) = false := by rw [two_eq hS]; simp [hx, hd]
        have t60 : ((s.extract a (a + 2)).toList == [60, 61]) = false := by rw [two_eq hS]; simp [hx, hd]
        have t62 : ((s.extract a (a + 2)).toList == [62, 61]) = false := by rw [two_eq hS]; simp [hx, hd]
        generalize s.extract a (a + 2) = S2 at *
        clear HR hS hg hd hx
        go_enter Tryz.func48, Tryz.ntmps48
        go_wp2
        go_ret
        exact ⟨rfl, rfl⟩
    · have hg : s.data.toList[a + 1]? = none := List.getElem?_eq_none (by show s.size ≤ a + 1; omega)
      have kl : decide ((a : Int) + 2 ≤ (s.size : Int)) = false := by rw [decide_eq_false_iff_not]; omega
      obtain rfl : R = 1 := by rw [HR.out, hg, hx]; simp [signN]
      clear HR hg hx
      go_enter Tryz.func48, Tryz.ntmps48
      go_wp2
      go_ret
      exact ⟨rfl, rfl⟩
  have n37 := hx
  clear hx
  by_cases hx : s[a] = 61
  · have hcc : cn = 61 := by rw [← hcn, hx]; rfl
    subst hcc
    by_cases h2 : a + 1 < s.size
    · have hS := ext_two s a h2
      have hsl := slice_two s a h2
      have hg : s.data.toList[a + 1]? = some s[a + 1] := List.getElem?_eq_getElem (show a + 1 < s.data.toList.length from h2)
      have kl : decide ((a : Int) + 2 ≤ (s.size : Int)) = true := by rw [decide_eq_true_iff]; omega
      by_cases hd : s[a + 1] = 61
      · obtain rfl : R = 1 := by rw [HR.out, hg, hx]; simp [signN, hd]
        have t33 : ((s.extract a (a + 2)).toList == [33, 61]) = false := by rw [two_eq hS]; simp [hx, hd]
        have t60 : ((s.extract a (a + 2)).toList == [60, 61]) = false := by rw [two_eq hS]; simp [hx, hd]
        have t62 : ((s.extract a (a + 2)).toList == [62, 61]) = false := by rw [two_eq hS]; simp [hx, hd]
        generalize s.extract a (a + 2) = S2 at *
        clear HR hS hg hd hx
        go_enter Tryz.func48, Tryz.ntmps48
        go_wp2
        go_ret
        exact ⟨rfl, rfl⟩
      · obtain rfl : R = 1 := by rw [HR.out, hg, hx]; simp [signN, hd]
        have t33 : ((s.extract a (a + 2)).toList == [33, 61]) = false := by rw [two_eq hS]; simp [hx, hd]
        have t60 : ((s.extract a (a + 2)).toList == [60, 61]) = false := by rw [two_eq hS]; simp [hx, hd]
        have t62 : ((s.extract a (a + 2)).toList == [62, 61]) = false := by rw [two_eq hS]; simp [hx, hd]
        generalize s.extract a (a + 2) = S2 at *
        clear HR hS hg hd hx
        go_enter Tryz.func48, Tryz.ntmps48
        go_wp2
        go_ret
        exact ⟨rfl, rfl⟩
    · have hg : s.data.toList[a + 1]? = none := List.getElem?_eq_none (by show s.size ≤ a + 1; omega)
      have kl : decide ((a : Int) + 2 ≤ (s.size : Int)) = false := by rw [decide_eq_false_iff_not]; omega
      obtain rfl : R = 1 := by rw [HR.out, hg, hx]; simp [signN]
      clear HR hg hx
      go_enter Tryz.func48, Tryz.ntmps48
      go_wp2
      go_ret
      exact ⟨rfl, rfl⟩
  have n61 := hx
  clear hx
  have hno := And.intro n33 (And.intro n60 (And.intro n62 (And.intro n44 (And.intro n40 (And.intro n41 (And.intro n43 (And.intro n45 (And.intro n42 (And.intro n47 (And.intro n37 n61))))))))))
  have q44 : ((cn : Int) == 44) = false := by rw [← hcn]; simp only [beq_eq_false_iff_ne, ne_eq]; exact fun e => n44 (UInt8.toNat_inj.1 (by show _ = 44; omega))
  have q40 : ((cn : Int) == 40) = false := by rw [← hcn]; simp only [beq_eq_false_iff_ne, ne_eq]; exact fun e => n40 (UInt8.toNat_inj.1 (by show _ = 40; omega))
  have q41 : ((cn : Int) == 41) = false := by rw [← hcn]; simp only [beq_eq_false_iff_ne, ne_eq]; exact fun e => n41 (UInt8.toNat_inj.1 (by show _ = 41; omega))
  have q43 : ((cn : Int) == 43) = false := by rw [← hcn]; simp only [beq_eq_false_iff_ne, ne_eq]; exact fun e => n43 (UInt8.toNat_inj.1 (by show _ = 43; omega))
  have q45 : ((cn : Int) == 45) = false := by rw [← hcn]; simp only [beq_eq_false_iff_ne, ne_eq]; exact fun e => n45 (UInt8.toNat_inj.1 (by show _ = 45; omega))
  have q42 : ((cn : Int) == 42) = false := by rw [← hcn]; simp only [beq_eq_false_iff_ne, ne_eq]; exact fun e => n42 (UInt8.toNat_inj.1 (by show _ = 42; omega))
  have q47 : ((cn : Int) == 47) = false := by rw [← hcn]; simp only [beq_eq_false_iff_ne, ne_eq]; exact fun e => n47 (UInt8.toNat_inj.1 (by show _ = 47; omega))
  have q37 : ((cn : Int) == 37) = false := by rw [← hcn]; simp only [beq_eq_false_iff_ne, ne_eq]; exact fun e => n37 (UInt8.toNat_inj.1 (by show _ = 37; omega))
  have q61 : ((cn : Int) == 61) = false := by rw [← hcn]; simp only [beq_eq_false_iff_ne, ne_eq]; exact fun e => n61 (UInt8.toNat_inj.1 (by show _ = 61; omega))
  have q60 : ((cn : Int) == 60) = false := by rw [← hcn]; simp only [beq_eq_false_iff_ne, ne_eq]; exact fun e => n60 (UInt8.toNat_inj.1 (by show _ = 60; omega))
  have q62 : ((cn : Int) == 62) = false := by rw [← hcn]; simp only [beq_eq_false_iff_ne, ne_eq]; exact fun e => n62 (UInt8.toNat_inj.1 (by show _ = 62; omega))
  clear n33 n60 n62 n44 n40 n41 n43 n45 n42 n47 n37 n61
  by_cases h2 : a + 1 < s.size
  · have hS := ext_two s a h2
    have hsl := slice_two s a h2
    have hg : s.data.toList[a + 1]? = some s[a + 1] := List.getElem?_eq_getElem (show a + 1 < s.data.toList.length from h2)
    have kl : decide ((a : Int) + 2 ≤ (s.size : Int)) = true := by rw [decide_eq_true_iff]; omega
    by_cases hd : s[a + 1] = 61
    · obtain rfl : R = 0 := by rw [HR.out]; simp [signN, hno]
      have t33 : ((s.extract a (a + 2)).toList == [33, 61]) = false := by rw [two_eq hS]; simp [hno]
      have t60 : ((s.extract a (a + 2)).toList == [60, 61]) = false := by rw [two_eq hS]; simp [hno]
      have t62 : ((s.extract a (a + 2)).toList == [62, 61]) = false := by rw [two_eq hS]; simp [hno]
      generalize s.extract a (a + 2) = S2 at *
      clear HR hS hg hd hno
      go_enter Tryz.func48, Tryz.ntmps48
      go_wp2
      go_ret
      exact ⟨rfl, rfl⟩
    · obtain rfl : R = 0 := by rw [HR.out]; simp [signN, hno]
      have t33 : ((s.extract a (a + 2)).toList == [33, 61]) = false := by rw [two_eq hS]; simp [hno]
      have t60 : ((s.extract a (a + 2)).toList == [60, 61]) = false := by rw [two_eq hS]; simp [hno]
      have t62 : ((s.extract a (a + 2)).toList == [62, 61]) = false := by rw [two_eq hS]; simp [hno]
      generalize s.extract a (a + 2) = S2 at *
      clear HR hS hg hd hno
      go_enter Tryz.func48, Tryz.ntmps48
      go_wp2
      go_ret
      exact ⟨rfl, rfl⟩
  · have hg : s.data.toList[a + 1]? = none := List.getElem?_eq_none (by show s.size ≤ a + 1; omega)
    have kl : decide ((a : Int) + 2 ≤ (s.size : Int)) = false := by rw [decide_eq_false_iff_not]; omega
    obtain rfl : R = 0 := by rw [HR.out, hg]; simp [signN, hno]
    clear HR hg hno
    go_enter Tryz.func48, Tryz.ntmps48
    go_wp2
    go_ret
    exact ⟨rfl, rfl⟩
end
section

/-- The blocks of a walk through counted: the results' token and error, the token t. -/
structure Cb (g : Nat) (x0 x1 x2 x3 : Value) (w0 w : World) : Prop where
  B : Below w0.heap.size w0 w
  ht : w.heap[w0.heap.size]? = some tokO
  hb : w.heap[w0.heap.size + 1]? = some badOO
  lo : w0.heap.size + 1 < g
  tk : w.heap[g]? = some (.cells #[x0, x1, x2, x3] 30 (0, 0))
theorem Cb.next {g : Nat} {x0 x1 x2 x3 : Value} {w0 w w' : World} (t : Cb g x0 x1 x2 x3 w0 w) (h : Below w.heap.size w w') : Cb g x0 x1 x2 x3 w0 w' :=
  ⟨t.B.trans (h.mono t.B.size), below_blk h (blk_lt' t.ht) t.ht, below_blk h (blk_lt' t.hb) t.hb, t.lo, below_blk h (blk_lt' t.tk) t.tk⟩
theorem Cb.set0 {g : Nat} {x0 x1 x2 x3 : Value} {w0 w : World} (t : Cb g x0 x1 x2 x3 w0 w) (v : Value) : Cb g v x1 x2 x3 w0 (w.setCell ⟨g, 0, none⟩ v) :=
  ⟨t.B.setCell (p := ⟨g, 0, none⟩) (by have := t.lo; show w0.heap.size ≤ g; omega) v, blk_far' t.ht (by have := t.lo; omega) _ _, blk_far' t.hb (by have := t.lo; omega) _ _, t.lo, by have := blk_set' t.tk 0 v; exact this⟩
theorem Cb.set2 {g : Nat} {x0 x1 x2 x3 : Value} {w0 w : World} (t : Cb g x0 x1 x2 x3 w0 w) (v : Value) : Cb g x0 x1 v x3 w0 (w.setCell ⟨g, 2, none⟩ v) :=
  ⟨t.B.setCell (p := ⟨g, 2, none⟩) (by have := t.lo; show w0.heap.size ≤ g; omega) v, blk_far' t.ht (by have := t.lo; omega) _ _, blk_far' t.hb (by have := t.lo; omega) _ _, t.lo, by have := blk_set' t.tk 2 v; exact this⟩
theorem slice_to (s : ByteArray) (a e : Nat) (h : a ≤ e) (he : e ≤ s.size) (W : World) :
    (Instr.slice 9 (.string s) (some (.int .i64 (a : Int))) (some (.int .i64 (e : Int))) none).run Tryz.prog W = .ok (.string (s.extract a e)) W := by
  rw [run_slice_string W 9 s .i64 .i64 (a : Int) (e : Int) Tryz.underlying9 (by omega) (by omega) (by omega)]
  rfl
theorem runD_size {l : List UInt8} (h : runD l = l.length) : ∀ c ∈ l, isD c = true := fun c hc => by
  have := runD_take l c
  rw [h, List.take_length] at this
  exact this hc
set_option maxRecDepth 100000 in
set_option maxHeartbeats 2000000 in
theorem r12_counted (s : ByteArray) (a : Nat) (hs : s.size ≤ 140737488355328) (ha : a < s.size) (hd0 : isD s[a] = true) (w : World) (hL : LayS w) :
    Calls Tryz.prog 46 #[.string s, .int .i64 (a : Int)] w fun e w' =>
      e = .returned (.tuple #[(nTok (numberT s a (a + runP wordC (s.data.toList.drop a)))).enc, .int .i64 (nEnd (numberT s a (a + runP wordC (s.data.toList.drop a)))), (nBad (numberT s a (a + runP wordC (s.data.toList.drop a)))).enc]) ∧ Below w.heap.size w w' := by
  have hrl := runP_le wordC (s.data.toList.drop a)
  rw [List.length_drop, show s.data.toList.length = s.size from rfl] at hrl
  have hr1 : 1 ≤ runP wordC (s.data.toList.drop a) := by
    rw [runP_step wordC s.data.toList a ha]
    have : wordC s.data.toList[a] = true := by show (letterC s[a] || isD s[a]) = true; rw [hd0]; simp
    rw [if_pos this]; omega
  have CR := Lib.hid (fun W => r12_row s a hs (Nat.le_of_lt ha) W)
  obtain ⟨e, he⟩ : ∃ e, e = a + runP wordC (s.data.toList.drop a) := ⟨_, rfl⟩
  rw [← he] at CR ⊢
  have hae : a < e := by omega
  have hes : e ≤ s.size := by omega
  clear he hrl hr1
  obtain ⟨T, hT⟩ : ∃ T, T = s.extract a e := ⟨_, rfl⟩
  have hTs : T.size = e - a := by rw [hT, ByteArray.size_extract]; omega
  have hTg : ∀ k (hk : k < T.size), T[k]'hk = s[a + k]'(by omega) := fun k hk => by subst hT; simp [ByteArray.getElem_extract]
  obtain ⟨R, hR⟩ : ∃ R, R = numberT s a e := ⟨_, rfl⟩
  rw [← hR]
  unfold numberT at hR
  rw [← hT] at hR
  have HR := Lib.hid hR
  have hsl := slice_to s a e (by omega) hes
  rw [← hT] at hsl
  have HTG := Lib.hid hTg
  clear hR hT hd0 hTg
  obtain ⟨V0, hV0⟩ : ∃ V, V = nTok R := ⟨_, rfl⟩
  obtain ⟨V1, hV1⟩ : ∃ V, V = nEnd R := ⟨_, rfl⟩
  obtain ⟨V2, hV2⟩ : ∃ V, V = nBad R := ⟨_, rfl⟩
  rw [← hV0, ← hV1, ← hV2]
  have HV := Lib.hid (And.intro hV0 (And.intro hV1 hV2))
  clear hV0 hV1 hV2
  obtain ⟨v0, v1, v2, v3⟩ := V0
  obtain ⟨b0, b1, b2, b3, b4⟩ := V2
  simp only [Tok.enc, Bad.enc]
  go_enter Tryz.func46, Tryz.ntmps46
  go_wp2_with fail
  refine (CR.out _).mono ?_
  rintro ev w' ⟨rfl, rfl⟩
  go_upto_block 0 with (fail)
  have t : Cb (w.heap.size + 1 + 1) (.int .u8 0) (.string T) (.int .i64 0) (.int .i64 (a : Int)) w (((w.alloc tokO).alloc badOO).alloc (.cells #[.int .u8 0, .string T, .int .i64 0, .int .i64 (a : Int)] 30 (0, 0))) := ⟨by go_grown, (heap_old' _ _ _ (by first | omega | (simp only [World.size_alloc, World.size_setCell, World.size_drew, size_drewN'] <;> omega)) (heap_old' _ _ _ (by first | omega | (simp only [World.size_alloc, World.size_setCell, World.size_drew, size_drewN'] <;> omega)) (heap_new' _ _ _ (by first | omega | (simp only [World.size_alloc, World.size_setCell, World.size_drew, size_drewN'] <;> omega))))), (heap_old' _ _ _ (by first | omega | (simp only [World.size_alloc, World.size_setCell, World.size_drew, size_drewN'] <;> omega)) (heap_new' _ _ _ (by first | omega | (simp only [World.size_alloc, World.size_setCell, World.size_drew, size_drewN'] <;> omega)))), by omega, (heap_new' _ _ _ (by first | omega | (simp only [World.size_alloc, World.size_setCell, World.size_drew, size_drewN'] <;> omega)))⟩
  obtain ⟨W0, hW0⟩ : ∃ W0, W0 = ((w.alloc tokO).alloc badOO).alloc (.cells #[.int .u8 0, .string T, .int .i64 0, .int .i64 (a : Int)] 30 (0, 0)) := ⟨_, rfl⟩
  rw [← hW0] at t
  have HW0 := Lib.hid hW0
  clear hW0
  have hlist : T.data.toList.length = T.size := rfl
  have hrT := runD_le T.data.toList
  rw [hlist] at hrT
  go_cut [9] (fun v9 wc => v9 = .bool (decide (runD T.data.toList = T.size)) ∧ W0 = wc)
  case first =>
    clear HR HV t CR
    go_wp2_with fail
    go_loopg [9, 10] (e - a) (fun m v9 v10 wr => ∃ k : Nat, v10 = .int .i64 ((a : Int) + (k : Int)) ∧ k + m = e - a ∧ v9 = .bool (decide (k ≤ runD T.data.toList)) ∧ Hid (W0 = wr))
    case atStart => exact ⟨0, by rw [show ((a : Int) + ((0 : Nat) : Int)) = a by omega], by omega, by simp, HW0⟩
    case round =>
      obtain ⟨k, rfl, hm, rfl, hWr⟩ := hrel
      by_cases hk : k < T.size
      · have hl : decide ((a : Int) + (k : Int) < (e : Int)) = true := by rw [decide_eq_true_iff]; omega
        have hi : a + k < s.size := by omega
        have hg := HTG.out k hk
        have e3 : ((a : Int) + (k : Int)).toNat = a + k := by omega
        by_cases hb : k ≤ runD T.data.toList
        · have hst := digitsP_step T.data.toList k hk
          rw [show T.data.toList[k] = T[k] from rfl, hg] at hst
          have CD := fun W => r12_digit (s[a + k]'hi) W
          have hd1 : decide (k ≤ runD T.data.toList) = true := by simpa using hb
          have hkey : decide (k + 1 ≤ runD T.data.toList) = isD (s[a + k]'hi) := by
            cases hd : isD (s[a + k]'hi) with
            | true =>
              rw [decide_eq_true_iff]
              rcases Nat.lt_or_ge k (runD T.data.toList) with h | h
              · exact h
              · exfalso
                have hlen : runD T.data.toList < T.data.toList.length := by rw [hlist]; omega
                have h2 := runD_next T.data.toList hlen
                have hkk : runD T.data.toList = k := by omega
                have e5 : T.data.toList[runD T.data.toList]? = some (s[a + k]'hi) := by
                  rw [hkk, List.getElem?_eq_getElem (show k < T.data.toList.length from hk), show T.data.toList[k]'hk = T[k] from rfl, hg]
                rw [List.getElem?_eq_getElem hlen] at e5
                rw [Option.some.inj e5, hd] at h2; cases h2
            | false =>
              rw [decide_eq_false_iff_not]
              intro h
              obtain ⟨hk1, h2⟩ := runD_lt (show k < runD T.data.toList from h)
              rw [show T.data.toList[k]'hk1 = T[k] from rfl, hg, hd] at h2; cases h2
          have HKEY := Lib.hid hkey
          generalize isD (s[a + k]'hi) = x at *
          obtain ⟨ch, hc⟩ : ∃ ch : Nat, (s[a + k]'hi).toNat = ch := ⟨_, rfl⟩
          rw [hc] at CD
          rw [hd1]
          clear hst hkey hd1 hg hb
          go_wp2_with (go_at_call 45; (with_reducible refine (CD _).mono ?_); rintro e w' ⟨rfl, rfl⟩)
          go_roundg (gk - 1)
          case measure => omega
          case rel => exact ⟨k + 1, by go_num, by omega, by rw [HKEY.out], hWr⟩
        · have hd1 : decide (k ≤ runD T.data.toList) = false := by simpa using hb
          have HKEY : Hid (decide (k + 1 ≤ runD T.data.toList) = false) := Lib.hid (by rw [decide_eq_false_iff_not]; omega)
          rw [hd1]
          clear hd1 hg hb
          go_wp2_with fail
          go_roundg (gk - 1)
          case measure => omega
          case rel => exact ⟨k + 1, by go_num, by omega, by rw [HKEY.out], hWr⟩
      · have hl : decide ((a : Int) + (k : Int) < (e : Int)) = false := by rw [decide_eq_false_iff_not]; omega
        have HK : Hid (decide (k ≤ runD T.data.toList) = decide (runD T.data.toList = T.size)) := Lib.hid (by rw [decide_eq_decide]; omega)
        go_wp2_with fail
        go_meet
        case rel => exact ⟨by rw [HK.out], hWr.out⟩
  case rest =>
    clear HW0 CR HTG
    obtain ⟨rfl, rfl⟩ := hcut
    by_cases hall : runD T.data.toList = T.size
    case pos =>
      have kd : decide (runD T.data.toList = T.size) = true := by simpa using hall
      have hd := runD_size (l := T.data.toList) hall
      have hne : T.data.toList ≠ [] := fun e0 => by have : T.size = 0 := hlist.symm.trans (congrArg List.length e0); omega
      have HBF := Lib.hid (fun B hB => bare_fits T hd hne B hB)
      have hR2 := HR.out
      rw [if_pos hall] at hR2
      have HR := Lib.hid hR2
      rw [kd]
      clear hR2 hall hd hne hrT kd
      obtain ⟨D, hD⟩ : ∃ D, D = decN T.data.toList := ⟨_, rfl⟩
      rw [← hD] at HR HBF
      clear hD
      have m3 := t.tk
      have fk0 := blk_cell' (m3) 0
      have ff0 := blk_free' (m3) 0
      have fk1 := blk_cell' (m3) 1
      have ff1 := blk_free' (m3) 1
      have fk2 := blk_cell' (m3) 2
      have ff2 := blk_free' (m3) 2
      have fk3 := blk_cell' (m3) 3
      have ff3 := blk_free' (m3) 3
      clear m3
      go_upto_block 2 with (fail)
      go_cut [13] (fun v13 wc => ∃ B : ByteArray, v13 = .string B ∧ Hid (B.data.toList = bareD T.data.toList) ∧ B.size ≤ T.size ∧ W0 = wc)
      case first =>
        clear HR HV HBF t fk0 fk1 fk2 fk3 ff0 ff1 ff2 ff3
        go_wp2_with fail
        go_loopg [13] T.size (fun m v wr => ∃ B : ByteArray, v = .string B ∧ B.size = m ∧ m ≤ T.size ∧ Hid (bareD B.data.toList = bareD T.data.toList) ∧ Hid (W0 = wr))
        case atStart => exact ⟨T, rfl, rfl, Nat.le_refl _, Lib.hid rfl, Lib.hid rfl⟩
        case round =>
          obtain ⟨B, rfl, hBs, hm, HBB, hWr⟩ := hrel
          by_cases h1 : 1 < B.size
          · have k1 : decide ((1 : Int) < (B.size : Int)) = true := by rw [decide_eq_true_iff]; omega
            have hp : 0 < B.size := by omega
            by_cases hz : (B[0]'hp).toNat = 48
            · have k2 : (((B[0]'hp).toNat : Int) == 48) = true := by rw [hz]; rfl
              have hsl : ∀ W, (Instr.slice 9 (.string B) (some (.int .i64 1)) none none).run Tryz.prog W = .ok (.string (B.extract 1 B.size)) W := fun W => by rw [run_slice_string_l W 9 B Tryz.underlying9 .i64 1 (by omega) (by omega)]; rfl
              have HB2 : Hid (bareD (B.extract 1 B.size).data.toList = bareD T.data.toList) := Lib.hid (by rw [ext_drop, ← HBB.out, bareD_zero h1 hz])
              have hs2 : (B.extract 1 B.size).size = B.size - 1 := by rw [ByteArray.size_extract]; omega
              generalize B.extract 1 B.size = B2 at *
              clear HBB hz
              go_wp2_with fail
              go_roundg (gk - 1)
              case measure => omega
              case rel => exact ⟨B2, rfl, by omega, by omega, HB2, hWr⟩
            · have k2 : (((B[0]'hp).toNat : Int) == 48) = false := by simp only [beq_eq_false_iff_ne, ne_eq]; omega
              have HB2 : Hid (B.data.toList = bareD T.data.toList) := Lib.hid (by rw [← HBB.out, bareD_else (fun _ => hz)])
              clear HBB hz
              go_wp2_with fail
              go_meet
              case rel => exact ⟨B, rfl, HB2, by omega, hWr.out⟩
          · have k1 : decide ((1 : Int) < (B.size : Int)) = false := by rw [decide_eq_false_iff_not]; omega
            have HB2 : Hid (B.data.toList = bareD T.data.toList) := Lib.hid (by rw [← HBB.out, bareD_short h1])
            clear HBB
            go_wp2_with fail
            go_meet
            case rel => exact ⟨B, rfl, HB2, by omega, hWr.out⟩
      case rest =>
        obtain ⟨B, rfl, HBB, hBs, rfl⟩ := hcut
        have hBF := HBF.out B HBB.out
        clear HBB HBF
        have CP := fun W hW => strconv_ParseInt B (by omega) W hW
        have N3 := Lib.hid (show ∀ W, Calls Tryz.prog 49 #[.int .i64 (a : Int), .int .i64 122] W fun ev w' => ev = .returned (.agg #[.int .i64 122, .int .i64 (a : Int), .int .i64 0, .bool true, .bool false]) ∧ Below W.heap.size W w' from fun W => weirref01_At a 122 W)
        by_cases hfit : D ≤ 9223372036854775807
        · obtain ⟨hA, hI⟩ := hBF.1 hfit
          obtain rfl : R = .inl (⟨4, T, (D : Int), (a : Int)⟩, e) := by rw [HR.out]; exact if_pos hfit
          obtain ⟨hv, rfl, hb⟩ : (⟨v0, v1, v2, v3⟩ : Tok) = ⟨4, T, (D : Int), (a : Int)⟩ ∧ V1 = (e : Int) ∧ (⟨b0, b1, b2, b3, b4⟩ : Bad) = ⟨0, 0, 0, false, false⟩ := HV.out
          simp only [Tok.mk.injEq, Bad.mk.injEq, Tok.zero] at hv hb
          obtain ⟨hv0, hv1, hv2, hv3⟩ := hv
          replace hv0 := hv0.symm
          replace hv1 := hv1.symm
          replace hv2 := hv2.symm
          replace hv3 := hv3.symm
          subst hv0 hv1 hv2 hv3
          obtain ⟨rfl, rfl, rfl, rfl, rfl⟩ := hb
          clear HV HR
          rw [hA] at CP
          have CF := fun W hW => strconv_FormatInt (D : Int) (by omega) (by omega) W hW
          have kq : ((itoa (D : Int)).toList == B.toList) = true := str_same hI
          have kqx : ((itoa (D : Int)).toList != B.toList) = false := by rw [bne, kq]; rfl
          generalize itoa (D : Int) = IV at *
          obtain ⟨MX, hMX⟩ : ∃ MX : Int, MX = (D : Int) := ⟨_, rfl⟩
          rw [← hMX] at CP CF
          have HMX := Lib.hid hMX
          clear hMX
          clear hA hI hfit hBF
          go_wp2_with fail
          refine (CP _ (hL.below t.B)).mono ?_
          rintro ev w' ⟨er, rfl, her, hB⟩
          replace t := t.next hB
          clear hB her CP
          go_wp2_with fail
          refine (CF _ (hL.below t.B).L).mono ?_
          rintro ev w' ⟨rfl, hB⟩
          replace t := t.next hB
          clear hB CF fk0 fk1 fk2 fk3 ff0 ff1 ff2 ff3
          have m3 := t.tk
          have fk0 := blk_cell' (m3) 0
          have ff0 := blk_free' (m3) 0
          have fk1 := blk_cell' (m3) 1
          have ff1 := blk_free' (m3) 1
          have fk2 := blk_cell' (m3) 2
          have ff2 := blk_free' (m3) 2
          have fk3 := blk_cell' (m3) 3
          have ff3 := blk_free' (m3) 3
          clear m3
          go_upto_region 23 with (fail)
          replace t := (t.set0 (.int .u8 4)).set2 (.int .i64 MX)
          clear fk0 fk1 fk2 fk3 ff0 ff1 ff2 ff3 N3
          have m1 := t.ht
          have m2 := t.hb
          have m3 := t.tk
          have HB0 := Lib.hid t.B
          obtain ⟨u1, u2, u3⟩ := tok_ends w.heap.size (.int .u8 4) (.string T) (.int .i64 MX) (.int .i64 (a : Int)) (.int .i64 0) (.int .i64 0) (.int .i64 0) (.bool false) (.bool false) m1 m2
          have HU := Lib.hid (And.intro u1 (And.intro u2 u3))
          have ck0 := blk_cell' (m1) 0
          have cf0 := blk_free' (m1) 0
          have ck1 := blk_cell' (m1) 1
          have cf1 := blk_free' (m1) 1
          have ck2 := blk_cell' (m1) 2
          have cf2 := blk_free' (m1) 2
          have ck3 := blk_cell' (m1) 3
          have cf3 := blk_free' (m1) 3
          have dk0 := blk_cell' (m2) 0
          have df0 := blk_free' (m2) 0
          have dk1 := blk_cell' (m2) 1
          have df1 := blk_free' (m2) 1
          have dk2 := blk_cell' (m2) 2
          have df2 := blk_free' (m2) 2
          have dk3 := blk_cell' (m2) 3
          have df3 := blk_free' (m2) 3
          have dk4 := blk_cell' (m2) 4
          have df4 := blk_free' (m2) 4
          have fk0 := blk_cell' (m3) 0
          have ff0 := blk_free' (m3) 0
          have fk1 := blk_cell' (m3) 1
          have ff1 := blk_free' (m3) 1
          have fk2 := blk_cell' (m3) 2
          have ff2 := blk_free' (m3) 2
          have fk3 := blk_cell' (m3) 3
          have ff3 := blk_free' (m3) 3
          clear m1 m2 m3 u1 u2 u3 t
          go_wp2
          exact bodyPost_ret (results_three Tryz.results46 (res_cell (b := w.heap.size) (T' := 30) (fr := (0, 0)) rfl HU.out.1 Tryz.underlying30 rfl (by kernel_rfl)) (res_tmp rfl) (res_cell (b := w.heap.size + 1) (T' := 40) (fr := (0, 0)) rfl HU.out.2.1 Tryz.underlying40 rfl (by kernel_rfl))) rfl ⟨(by first | rfl | (rw [← HMX.out]; rfl)), HB0.out.trans (HU.out.2.2 _ (Nat.le_refl _))⟩
        · obtain ⟨hA, hI⟩ := hBF.2 hfit
          obtain rfl : R = .inr (122, some a) := by rw [HR.out]; exact if_neg hfit
          obtain ⟨hv, rfl, hb⟩ : (⟨v0, v1, v2, v3⟩ : Tok) = Tok.zero ∧ V1 = 0 ∧ (⟨b0, b1, b2, b3, b4⟩ : Bad) = ⟨122, (a : Int), 0, true, false⟩ := HV.out
          simp only [Tok.mk.injEq, Bad.mk.injEq, Tok.zero] at hv hb
          obtain ⟨hv0, hv1, hv2, hv3⟩ := hv
          replace hv0 := hv0.symm
          replace hv1 := hv1.symm
          replace hv2 := hv2.symm
          replace hv3 := hv3.symm
          subst hv0 hv1 hv2 hv3
          obtain ⟨rfl, rfl, rfl, rfl, rfl⟩ := hb
          clear HV HR
          rw [hA] at CP
          have CF := fun W hW => strconv_FormatInt 9223372036854775807 (by omega) (by omega) W hW
          have kq : ((itoa 9223372036854775807).toList == B.toList) = false := str_other hI
          have kqx : ((itoa 9223372036854775807).toList != B.toList) = true := by rw [bne, kq]; rfl
          generalize itoa 9223372036854775807 = IV at *
          obtain ⟨MX, hMX⟩ : ∃ MX : Int, MX = 9223372036854775807 := ⟨_, rfl⟩
          rw [← hMX] at CP CF
          clear hMX
          clear hA hI hfit hBF
          go_wp2_with fail
          refine (CP _ (hL.below t.B)).mono ?_
          rintro ev w' ⟨er, rfl, her, hB⟩
          replace t := t.next hB
          clear hB her CP
          go_wp2_with fail
          refine (CF _ (hL.below t.B).L).mono ?_
          rintro ev w' ⟨rfl, hB⟩
          replace t := t.next hB
          clear hB CF fk0 fk1 fk2 fk3 ff0 ff1 ff2 ff3
          go_wp2_with fail
          refine (N3.out _).mono ?_
          rintro ev w' ⟨rfl, hB⟩
          replace t := t.next hB
          clear hB
          have m1 := t.ht
          have m2 := t.hb
          have m3 := t.tk
          have HB0 := Lib.hid t.B
          obtain ⟨u1, u2, u3⟩ := tok_ends w.heap.size (.int .u8 0) (.string ⟨#[]⟩) (.int .i64 0) (.int .i64 0) (.int .i64 122) (.int .i64 (a : Int)) (.int .i64 0) (.bool true) (.bool false) m1 m2
          have HU := Lib.hid (And.intro u1 (And.intro u2 u3))
          have ck0 := blk_cell' (m1) 0
          have cf0 := blk_free' (m1) 0
          have ck1 := blk_cell' (m1) 1
          have cf1 := blk_free' (m1) 1
          have ck2 := blk_cell' (m1) 2
          have cf2 := blk_free' (m1) 2
          have ck3 := blk_cell' (m1) 3
          have cf3 := blk_free' (m1) 3
          have dk0 := blk_cell' (m2) 0
          have df0 := blk_free' (m2) 0
          have dk1 := blk_cell' (m2) 1
          have df1 := blk_free' (m2) 1
          have dk2 := blk_cell' (m2) 2
          have df2 := blk_free' (m2) 2
          have dk3 := blk_cell' (m2) 3
          have df3 := blk_free' (m2) 3
          have dk4 := blk_cell' (m2) 4
          have df4 := blk_free' (m2) 4
          have fk0 := blk_cell' (m3) 0
          have ff0 := blk_free' (m3) 0
          have fk1 := blk_cell' (m3) 1
          have ff1 := blk_free' (m3) 1
          have fk2 := blk_cell' (m3) 2
          have ff2 := blk_free' (m3) 2
          have fk3 := blk_cell' (m3) 3
          have ff3 := blk_free' (m3) 3
          clear m1 m2 m3 u1 u2 u3 t
          go_wp2
          exact bodyPost_ret (results_three Tryz.results46 (res_cell (b := w.heap.size) (T' := 30) (fr := (0, 0)) rfl HU.out.1 Tryz.underlying30 rfl (by kernel_rfl)) (res_tmp rfl) (res_cell (b := w.heap.size + 1) (T' := 40) (fr := (0, 0)) rfl HU.out.2.1 Tryz.underlying40 rfl (by kernel_rfl))) rfl ⟨(by first | rfl | (rw [← HMX.out]; rfl)), HB0.out.trans (HU.out.2.2 _ (Nat.le_refl _))⟩
    case neg =>
      have kd : decide (runD T.data.toList = T.size) = false := by simpa using hall
      have hR2 := HR.out
      rw [if_neg hall] at hR2
      have HR := Lib.hid hR2
      rw [kd]
      clear hR2 hall hrT kd
      have CP := fun W => ref_Parse T (by omega) W
      rw [refNew_enc] at CP
      obtain ⟨PP, hPP⟩ : ∃ PP, PP = parseP T.data.toList := ⟨_, rfl⟩
      rw [← hPP] at CP HR
      clear hPP
      obtain ⟨pv, pc⟩ := PP
      simp only at CP
      have m3 := t.tk
      have fk0 := blk_cell' (m3) 0
      have ff0 := blk_free' (m3) 0
      have fk1 := blk_cell' (m3) 1
      have ff1 := blk_free' (m3) 1
      have fk2 := blk_cell' (m3) 2
      have ff2 := blk_free' (m3) 2
      have fk3 := blk_cell' (m3) 3
      have ff3 := blk_free' (m3) 3
      clear m3
      have N3 := Lib.hid (show ∀ W, Calls Tryz.prog 49 #[.int .i64 (a : Int), .int .i64 122] W fun ev w' => ev = .returned (.agg #[.int .i64 122, .int .i64 (a : Int), .int .i64 0, .bool true, .bool false]) ∧ Below W.heap.size W w' from fun W => weirref01_At a 122 W)
      by_cases hc : pc = 0
      · have kc : (pc == 0) = true := by simpa using hc
        have kcx : (pc != 0) = false := by rw [bne, kc]; rfl
        obtain rfl : R = .inl (⟨5, T, pv, (a : Int)⟩, e) := by rw [HR.out]; exact if_pos hc
        obtain ⟨hv, rfl, hb⟩ : (⟨v0, v1, v2, v3⟩ : Tok) = ⟨5, T, pv, (a : Int)⟩ ∧ V1 = (e : Int) ∧ (⟨b0, b1, b2, b3, b4⟩ : Bad) = ⟨0, 0, 0, false, false⟩ := HV.out
        simp only [Tok.mk.injEq, Bad.mk.injEq, Tok.zero] at hv hb
        obtain ⟨hv0, hv1, hv2, hv3⟩ := hv
        replace hv0 := hv0.symm
        replace hv1 := hv1.symm
        replace hv2 := hv2.symm
        replace hv3 := hv3.symm
        subst hv0 hv1 hv2 hv3
        obtain ⟨rfl, rfl, rfl, rfl, rfl⟩ := hb
        clear HV HR
        clear hc
        go_wp2_with fail
        refine (CP _).mono ?_
        rintro ev w' ⟨rfl, hB⟩
        have m4 := heap_alloc_new w' (.cells #[.int .i64 pc, .int .i64 0, .int .i64 0, .bool false, .bool false] 40 (0, 0))
        replace t := (t.next hB).next ((Below.refl _ _).alloc (Nat.le_refl _) (.cells #[.int .i64 pc, .int .i64 0, .int .i64 0, .bool false, .bool false] 40 (0, 0)))
        clear hB CP fk0 fk1 fk2 fk3 ff0 ff1 ff2 ff3
        go_upto_region 10 with (fail)
        generalize w'.alloc _ = W at *
        generalize w'.heap.size = h at *
        have ek0 := blk_cell' (m4) 0
        have ef0 := blk_free' (m4) 0
        have ek1 := blk_cell' (m4) 1
        have ef1 := blk_free' (m4) 1
        have ek2 := blk_cell' (m4) 2
        have ef2 := blk_free' (m4) 2
        have ek3 := blk_cell' (m4) 3
        have ef3 := blk_free' (m4) 3
        have ek4 := blk_cell' (m4) 4
        have ef4 := blk_free' (m4) 4
        clear m4
        have m3 := t.tk
        have fk0 := blk_cell' (m3) 0
        have ff0 := blk_free' (m3) 0
        have fk1 := blk_cell' (m3) 1
        have ff1 := blk_free' (m3) 1
        have fk2 := blk_cell' (m3) 2
        have ff2 := blk_free' (m3) 2
        have fk3 := blk_cell' (m3) 3
        have ff3 := blk_free' (m3) 3
        clear m3
        go_upto_region 14 with (fail)
        replace t := (t.set0 (.int .u8 5)).set2 (.int .i64 pv)
        clear fk0 fk1 fk2 fk3 ff0 ff1 ff2 ff3 N3
        have m1 := t.ht
        have m2 := t.hb
        have m3 := t.tk
        have HB0 := Lib.hid t.B
        obtain ⟨u1, u2, u3⟩ := tok_ends w.heap.size (.int .u8 5) (.string T) (.int .i64 pv) (.int .i64 (a : Int)) (.int .i64 0) (.int .i64 0) (.int .i64 0) (.bool false) (.bool false) m1 m2
        have HU := Lib.hid (And.intro u1 (And.intro u2 u3))
        have ck0 := blk_cell' (m1) 0
        have cf0 := blk_free' (m1) 0
        have ck1 := blk_cell' (m1) 1
        have cf1 := blk_free' (m1) 1
        have ck2 := blk_cell' (m1) 2
        have cf2 := blk_free' (m1) 2
        have ck3 := blk_cell' (m1) 3
        have cf3 := blk_free' (m1) 3
        have dk0 := blk_cell' (m2) 0
        have df0 := blk_free' (m2) 0
        have dk1 := blk_cell' (m2) 1
        have df1 := blk_free' (m2) 1
        have dk2 := blk_cell' (m2) 2
        have df2 := blk_free' (m2) 2
        have dk3 := blk_cell' (m2) 3
        have df3 := blk_free' (m2) 3
        have dk4 := blk_cell' (m2) 4
        have df4 := blk_free' (m2) 4
        have fk0 := blk_cell' (m3) 0
        have ff0 := blk_free' (m3) 0
        have fk1 := blk_cell' (m3) 1
        have ff1 := blk_free' (m3) 1
        have fk2 := blk_cell' (m3) 2
        have ff2 := blk_free' (m3) 2
        have fk3 := blk_cell' (m3) 3
        have ff3 := blk_free' (m3) 3
        clear m1 m2 m3 u1 u2 u3 t
        go_wp2
        exact bodyPost_ret (results_three Tryz.results46 (res_cell (b := w.heap.size) (T' := 30) (fr := (0, 0)) rfl HU.out.1 Tryz.underlying30 rfl (by kernel_rfl)) (res_tmp rfl) (res_cell (b := w.heap.size + 1) (T' := 40) (fr := (0, 0)) rfl HU.out.2.1 Tryz.underlying40 rfl (by kernel_rfl))) rfl ⟨(by first | rfl | (rw [← HMX.out]; rfl)), HB0.out.trans (HU.out.2.2 _ (Nat.le_refl _))⟩
      · have kc : (pc == 0) = false := by simpa using hc
        have kcx : (pc != 0) = true := by rw [bne, kc]; rfl
        obtain rfl : R = .inr (122, some a) := by rw [HR.out]; exact if_neg hc
        obtain ⟨hv, rfl, hb⟩ : (⟨v0, v1, v2, v3⟩ : Tok) = Tok.zero ∧ V1 = 0 ∧ (⟨b0, b1, b2, b3, b4⟩ : Bad) = ⟨122, (a : Int), 0, true, false⟩ := HV.out
        simp only [Tok.mk.injEq, Bad.mk.injEq, Tok.zero] at hv hb
        obtain ⟨hv0, hv1, hv2, hv3⟩ := hv
        replace hv0 := hv0.symm
        replace hv1 := hv1.symm
        replace hv2 := hv2.symm
        replace hv3 := hv3.symm
        subst hv0 hv1 hv2 hv3
        obtain ⟨rfl, rfl, rfl, rfl, rfl⟩ := hb
        clear HV HR
        clear hc
        go_wp2_with fail
        refine (CP _).mono ?_
        rintro ev w' ⟨rfl, hB⟩
        have m4 := heap_alloc_new w' (.cells #[.int .i64 pc, .int .i64 0, .int .i64 0, .bool false, .bool false] 40 (0, 0))
        replace t := (t.next hB).next ((Below.refl _ _).alloc (Nat.le_refl _) (.cells #[.int .i64 pc, .int .i64 0, .int .i64 0, .bool false, .bool false] 40 (0, 0)))
        clear hB CP fk0 fk1 fk2 fk3 ff0 ff1 ff2 ff3
        go_upto_region 10 with (fail)
        generalize w'.alloc _ = W at *
        generalize w'.heap.size = h at *
        have ek0 := blk_cell' (m4) 0
        have ef0 := blk_free' (m4) 0
        have ek1 := blk_cell' (m4) 1
        have ef1 := blk_free' (m4) 1
        have ek2 := blk_cell' (m4) 2
        have ef2 := blk_free' (m4) 2
        have ek3 := blk_cell' (m4) 3
        have ef3 := blk_free' (m4) 3
        have ek4 := blk_cell' (m4) 4
        have ef4 := blk_free' (m4) 4
        clear m4
        go_wp2_with fail
        refine (N3.out _).mono ?_
        rintro ev w' ⟨rfl, hB⟩
        replace t := t.next hB
        clear hB
        have m1 := t.ht
        have m2 := t.hb
        have m3 := t.tk
        have HB0 := Lib.hid t.B
        obtain ⟨u1, u2, u3⟩ := tok_ends w.heap.size (.int .u8 0) (.string ⟨#[]⟩) (.int .i64 0) (.int .i64 0) (.int .i64 122) (.int .i64 (a : Int)) (.int .i64 0) (.bool true) (.bool false) m1 m2
        have HU := Lib.hid (And.intro u1 (And.intro u2 u3))
        have ck0 := blk_cell' (m1) 0
        have cf0 := blk_free' (m1) 0
        have ck1 := blk_cell' (m1) 1
        have cf1 := blk_free' (m1) 1
        have ck2 := blk_cell' (m1) 2
        have cf2 := blk_free' (m1) 2
        have ck3 := blk_cell' (m1) 3
        have cf3 := blk_free' (m1) 3
        have dk0 := blk_cell' (m2) 0
        have df0 := blk_free' (m2) 0
        have dk1 := blk_cell' (m2) 1
        have df1 := blk_free' (m2) 1
        have dk2 := blk_cell' (m2) 2
        have df2 := blk_free' (m2) 2
        have dk3 := blk_cell' (m2) 3
        have df3 := blk_free' (m2) 3
        have dk4 := blk_cell' (m2) 4
        have df4 := blk_free' (m2) 4
        have fk0 := blk_cell' (m3) 0
        have ff0 := blk_free' (m3) 0
        have fk1 := blk_cell' (m3) 1
        have ff1 := blk_free' (m3) 1
        have fk2 := blk_cell' (m3) 2
        have ff2 := blk_free' (m3) 2
        have fk3 := blk_cell' (m3) 3
        have ff3 := blk_free' (m3) 3
        clear m1 m2 m3 u1 u2 u3 t
        go_wp2
        exact bodyPost_ret (results_three Tryz.results46 (res_cell (b := w.heap.size) (T' := 30) (fr := (0, 0)) rfl HU.out.1 Tryz.underlying30 rfl (by kernel_rfl)) (res_tmp rfl) (res_cell (b := w.heap.size + 1) (T' := 40) (fr := (0, 0)) rfl HU.out.2.1 Tryz.underlying40 rfl (by kernel_rfl))) rfl ⟨(by first | rfl | (rw [← HMX.out]; rfl)), HB0.out.trans (HU.out.2.2 _ (Nat.le_refl _))⟩
end
section

theorem tokAt_end {s : ByteArray} {a : Nat} (h : s.size ≤ a) : tokAt s a = .inl (⟨0, ⟨#[]⟩, 0, a⟩, a) := by
  unfold tokAt; rw [List.getElem?_eq_none (show s.data.toList.length ≤ a from h)]
theorem tokAt_at {s : ByteArray} {a : Nat} (h : a < s.size) : tokAt s a =
    if letterC s[a] = true then .inl (⟨1, s.extract a (a + runP wordC (s.data.toList.drop a)), 0, a⟩, a + runP wordC (s.data.toList.drop a))
    else if isD s[a] = true then numberT s a (a + runP wordC (s.data.toList.drop a))
    else if s[a] = 34 ∨ s[a] = 39 then quotedT s a s[a]
    else if signN s[a] s.data.toList[a + 1]? = 0 then .inr (120, some a)
    else .inl (⟨6, s.extract a (a + signN s[a] s.data.toList[a + 1]?), 0, a⟩, a + signN s[a] s.data.toList[a + 1]?) := by
  unfold tokAt; rw [List.getElem?_eq_getElem (show a < s.data.toList.length from h)]; rfl
theorem quoted_parts (s : ByteArray) (a : Nat) (q : UInt8) :
    nTok (quotedT s a q) = (match qL q (s.data.toList.drop (a + 1)) with | .inl (t, _) => ⟨if q = 39 then 3 else 2, ⟨t.toArray⟩, 0, a⟩ | .inr _ => Tok.zero) ∧
    nEnd (quotedT s a q) = qEnd a (qL q (s.data.toList.drop (a + 1))) ∧ nBad (quotedT s a q) = qBad a (qL q (s.data.toList.drop (a + 1))) := by
  unfold quotedT
  rcases qL q (s.data.toList.drop (a + 1)) with ⟨t, n⟩ | _ | e <;> exact ⟨rfl, rfl, rfl⟩
theorem signN_le (c : UInt8) (d : Option UInt8) : signN c d ≤ 2 ∧ (d = none → signN c d ≤ 1) := by
  unfold signN
  repeat' split
  all_goals simp_all
end
end Go.Proofs.YtmooibnedokllaaGreatDoor
