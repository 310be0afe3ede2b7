/- Package num: sums, products, quotients of int64: what each answers. -/
import Derived.Test.YtmooibnedokllaaGreatDoorLib2
import Derived.Test.YtmooibnedokllaaGreatDoorSw1
import Derived.Test.YtmooibnedokllaaGreatDoorStEq
import Derived.Deep.QuietTactic
import Derived.BigQuiet
import Derived.Deep.RegionHeld3
import Derived.Laws.Bits64
import Derived.Laws.BitsLemmas
import Derived.Laws.MathBits
namespace Go.Proofs.YtmooibnedokllaaGreatDoor
open Go.RowKit
set_option linter.unusedSimpArgs false
set_option linter.unusedVariables false

/-- A number, if it lies within int64; else the error's number. -/
def fitP (v : Int) : Int × Int := if -9223372036854775808 ≤ v ∧ v ≤ 9223372036854775807 then (v, 0) else (0, 20)
theorem fitP_yes {v : Int} (h0 : -9223372036854775808 ≤ v) (h1 : v ≤ 9223372036854775807) : fitP v = (v, 0) := if_pos ⟨h0, h1⟩
theorem fitP_no {v : Int} (h : ¬ (-9223372036854775808 ≤ v ∧ v ≤ 9223372036854775807)) : fitP v = (0, 20) := if_neg h
theorem encE_mkE0 : encE (mkE 0) = .nilIface := rfl
set_option maxRecDepth 100000 in
set_option maxHeartbeats 2000000 in
theorem num_Add (a b : Int) (ha0 : -9223372036854775808 ≤ a) (ha1 : a ≤ 9223372036854775807) (hb0 : -9223372036854775808 ≤ b) (hb1 : b ≤ 9223372036854775807) (w : World) :
    Calls Tryz.prog 126 #[.int .i64 a, .int .i64 b] w fun e w' => e = .returned (.tuple #[.int .i64 (fitP (a + b)).1, encE (mkE (fitP (a + b)).2)]) ∧ w = w' := by
  by_cases hr : -9223372036854775808 ≤ a + b ∧ a + b ≤ 9223372036854775807
  · have E := Lib.hid (fitP_yes hr.1 hr.2)
    rw [E.out]
    obtain ⟨r0, r1⟩ := hr
    by_cases hb : 0 < b
    · have hc : decide (a < a + b) = true := by simp; omega
      have hb' : decide (0 < b) = true := by simp; omega
      go_enter Tryz.func126, Tryz.ntmps126
      go_wp2
      go_ret2
      exact ⟨rfl, rfl⟩
    · have hc : decide (a < a + b) = false := by simp; omega
      have hb' : decide (0 < b) = false := by simp; omega
      go_enter Tryz.func126, Tryz.ntmps126
      go_wp2
      go_ret2
      exact ⟨rfl, rfl⟩
  · have E := Lib.hid (fitP_no hr)
    rw [E.out]
    by_cases hb : 0 < b
    · have hw : wrap64 (a + b) < a := by unfold wrap64; omega
      have hc : decide (a < wrap64 (a + b)) = false := by simp; omega
      have hb' : decide (0 < b) = true := by simp; omega
      clear hw hr
      go_enter Tryz.func126, Tryz.ntmps126
      go_wp2_with (go_at_call 27; refine (fault_New _ _).mono ?_; rintro e w' ⟨rfl, rfl⟩)
      go_ret2
      exact ⟨rfl, rfl⟩
    · have hw : a < wrap64 (a + b) := by unfold wrap64; omega
      have hc : decide (a < wrap64 (a + b)) = true := by simp; omega
      have hb' : decide (0 < b) = false := by simp; omega
      clear hw hr
      go_enter Tryz.func126, Tryz.ntmps126
      go_wp2_with (go_at_call 27; refine (fault_New _ _).mono ?_; rintro e w' ⟨rfl, rfl⟩)
      go_ret2
      exact ⟨rfl, rfl⟩
theorem tdiv_neg {a b : Int} (h : ¬ 0 ≤ a) (hb : 0 < b) : (a % b = 0 → a.tdiv b = a / b ∧ a.tmod b = 0) ∧ (¬ a % b = 0 → a.tdiv b = a / b + 1 ∧ a.tmod b = a % b - b ∧ a.tmod b ≠ 0) := by
  have e1 := Int.tdiv_eq_ediv (a := a) (b := b)
  have e2 := Int.tmod_eq_emod (a := a) (b := b)
  have hl := Int.emod_lt_of_pos a hb
  have hn : (b.natAbs : Int) = b := by omega
  refine ⟨fun h0 => ?_, fun h0 => ?_⟩
  · have hd : 0 ≤ a ∨ b ∣ a := Or.inr (Int.dvd_of_emod_eq_zero h0)
    rw [if_pos hd] at e1 e2
    exact ⟨by omega, by omega⟩
  · have hd : ¬ (0 ≤ a ∨ b ∣ a) := fun hc => hc.elim h (fun hc => h0 (Int.emod_eq_zero_of_dvd hc))
    rw [if_neg hd] at e1 e2
    rw [Int.sign_eq_one_of_pos hb] at e1
    exact ⟨e1, by omega, by omega⟩
theorem div_lo {a b : Int} (ha : -9223372036854775808 ≤ a) (hb : 1 < b) : -9223372036854775808 ≤ a / b := by
  have h := Int.mul_ediv_self_le (x := a) (k := b) (by omega)
  have h2 := Int.emod_add_mul_ediv a b
  have h3 := Int.emod_lt_of_pos a (show 0 < b by omega)
  by_cases hq : 0 ≤ a / b
  · omega
  · rcases Int.lt_or_le (a / b) (-9223372036854775808) with hlt | hge
    · exfalso
      have : b * (a / b) ≤ 2 * (a / b) := Int.mul_le_mul_of_nonpos_right (by omega) (by omega)
      have : b * (a / b) ≤ b * -9223372036854775809 := Int.mul_le_mul_of_nonneg_left (by omega) (by omega)
      omega
    · exact hge
/-- The low 64 bits as an int64. -/
def lowI (lo : Int) : Int := if lo < 9223372036854775808 then lo else lo - 18446744073709551616
def signI (n : Int) : Int := if n < 0 then -1 else 0
def smallV (hi lo : Int) : Int × Int := if hi = signI (lowI lo) then (lowI lo, 0) else (0, 20)
/-- A sum of 128 bits that says a number. -/
theorem small_fit (v hi lo : Int) (h0 : 0 ≤ lo) (h1 : lo < 18446744073709551616) (hv : v = hi * 18446744073709551616 + lo) : smallV hi lo = fitP v := by
  unfold smallV fitP signI lowI
  repeat' split
  all_goals first | rfl | omega | (congr 1; omega)
set_option maxRecDepth 100000 in
set_option maxHeartbeats 2000000 in
theorem num_sum (n : Int) (h0 : -9223372036854775808 ≤ n) (h1 : n ≤ 9223372036854775807) (w : World) :
    Calls Tryz.prog 167 #[.int .i64 n] w fun e w' => e = .returned (.agg #[.int .i64 (signI n), .int .u64 (n % 18446744073709551616)]) ∧ Below w.heap.size w w' := by
  go_enter Tryz.func167, Tryz.ntmps167
  go_wp2
  have e0 : n / 9223372036854775808 = signI n := by unfold signI; split <;> omega
  have e1 : IntKind.u64.wrap n = n % 18446744073709551616 := rfl
  exact bodyPost_ret (v := .agg #[.int .i64 (n / 9223372036854775808), .int .u64 (IntKind.u64.wrap n)]) (by simp [results, Tryz.results167, go_sem]) rfl ⟨by rw [e0, e1], by go_grown⟩
def eqS (a b c e : Int) : Bool := a == c && b == e
theorem eq_sum (d : Nat) (w : World) (a b c e : Int) :
    (Op.equalIn (d + 2) 166 (.agg #[.int .i64 a, .int .u64 b]) (.agg #[.int .i64 c, .int .u64 e])).run Tryz.prog w = .ok (eqS a b c e) w := by
  unfold eqS
  refine st_eq Tryz.underlying166 (by kernel_rfl) ?_
  refine st_cons (by rfl) (by go_simp; rfl) (by go_simp; rfl) (by go_simp) ?_
  exact st_last (by rfl) (by go_simp; rfl) (by go_simp; rfl) (by go_simp)
attribute [local go_sem high] eq_sum
theorem cell2 {w w1 : World} {b : Nat} {x y : Value} {T : TypeId} (h : w.heap[b]? = some (.cells #[x, y] T (0, 0))) (hB : Below w.heap.size w w1) :
    w1.cell? ⟨b, 0, none⟩ = some x ∧ w1.cell? ⟨b, 1, none⟩ = some y :=
  ⟨blk_cell' (below_blk hB (blk_lt' h) h) 0, blk_cell' (below_blk hB (blk_lt' h) h) 1⟩
set_option maxRecDepth 100000 in
set_option maxHeartbeats 2000000 in
theorem num_Small (hi lo : Int) (h0 : 0 ≤ lo) (h1 : lo < 18446744073709551616) (w : World) :
    Calls Tryz.prog 149 #[.agg #[.int .i64 hi, .int .u64 lo]] w fun e w' => e = .returned (.tuple #[.int .i64 (smallV hi lo).1, encE (mkE (smallV hi lo).2)]) ∧ Below w.heap.size w w' := by
  have hw : IntKind.i64.wrap lo = lowI lo := by rw [IntKind.wrap_i64]; unfold lowI; split <;> omega
  have l0 : -9223372036854775808 ≤ lowI lo := by unfold lowI; split <;> omega
  have l1 : lowI lo ≤ 9223372036854775807 := by unfold lowI; split <;> omega
  have l2 : lowI lo % 18446744073709551616 = lo := by unfold lowI; split <;> omega
  have L2 := Lib.hid l2
  clear l2
  by_cases he : hi = signI (lowI lo)
  · have q0 : eqS hi lo (signI (lowI lo)) (lowI lo % 18446744073709551616) = true := by unfold eqS; rw [L2.out]; simpa using he
    have E : Hid (smallV hi lo = (lowI lo, 0)) := Lib.hid (if_pos he)
    clear he
    rw [E.out]
    go_enter Tryz.func149, Tryz.ntmps149
    go_wp2_with fail
    have hb : (w.alloc (.cells #[.int .i64 hi, .int .u64 lo] 166 (0, 0))).heap[w.heap.size]? = some (.cells #[.int .i64 hi, .int .u64 lo] 166 (0, 0)) := heap_new' _ _ _ rfl
    have hb0 : Below w.heap.size w (w.alloc (.cells #[.int .i64 hi, .int .u64 lo] 166 (0, 0))) := by go_grown
    generalize w.alloc (.cells #[.int .i64 hi, .int .u64 lo] 166 (0, 0)) = W at *
    have hz : w.heap.size ≤ W.heap.size := hb0.size
    have t0 := cell2 hb (Below.refl _ _)
    have t0d := cell2 (w1 := W.drew) hb (Below.refl _ _).drew
    have HB0 := Lib.hid hb0
    have HB := Lib.hid hb
    clear hb0 hb
    go_region_held3 (fun w' => w'.cell? ⟨w.heap.size, 0, none⟩ = some (.int .i64 hi) ∧ w'.cell? ⟨w.heap.size, 1, none⟩ = some (.int .u64 lo)) (first | (with_reducible exact t0) | (with_reducible exact t0d) | (with_reducible exact t1)) (first | (go_at_call 167; (with_reducible refine (num_sum (lowI lo) l0 l1 _).mono ?_); rintro ev w2 ⟨rfl, hB⟩; have t1 := cell2 HB.out (show Below W.heap.size W w2 from (Below.refl _ _).drew.trans hB)))
    have HB1 : Hid (Below w.heap.size w w2) := Lib.hid (HB0.out.trans ((show Below W.heap.size W w2 from (Below.refl _ _).drew.trans hB).mono hz))
    obtain ⟨c0, c1⟩ := t1
    clear t0 t0d hB
    go_wp2
    go_ret2
    exact ⟨rfl, HB1.out⟩
  · have q0 : eqS hi lo (signI (lowI lo)) (lowI lo % 18446744073709551616) = false := by unfold eqS; rw [L2.out]; simpa using he
    have E : Hid (smallV hi lo = (0, 20)) := Lib.hid (if_neg he)
    clear he
    rw [E.out]
    go_enter Tryz.func149, Tryz.ntmps149
    go_wp2_with fail
    have hb : (w.alloc (.cells #[.int .i64 hi, .int .u64 lo] 166 (0, 0))).heap[w.heap.size]? = some (.cells #[.int .i64 hi, .int .u64 lo] 166 (0, 0)) := heap_new' _ _ _ rfl
    have hb0 : Below w.heap.size w (w.alloc (.cells #[.int .i64 hi, .int .u64 lo] 166 (0, 0))) := by go_grown
    generalize w.alloc (.cells #[.int .i64 hi, .int .u64 lo] 166 (0, 0)) = W at *
    have hz : w.heap.size ≤ W.heap.size := hb0.size
    have t0 := cell2 hb (Below.refl _ _)
    have t0d := cell2 (w1 := W.drew) hb (Below.refl _ _).drew
    have HB0 := Lib.hid hb0
    have HB := Lib.hid hb
    clear hb0 hb
    go_region_held3 (fun w' => w'.cell? ⟨w.heap.size, 0, none⟩ = some (.int .i64 hi) ∧ w'.cell? ⟨w.heap.size, 1, none⟩ = some (.int .u64 lo)) (first | (with_reducible exact t0) | (with_reducible exact t0d) | (with_reducible exact t1)) (first | (go_at_call 167; (with_reducible refine (num_sum (lowI lo) l0 l1 _).mono ?_); rintro ev w2 ⟨rfl, hB⟩; have t1 := cell2 HB.out (show Below W.heap.size W w2 from (Below.refl _ _).drew.trans hB)))
    have HB1 : Hid (Below w.heap.size w w2) := Lib.hid (HB0.out.trans ((show Below W.heap.size W w2 from (Below.refl _ _).drew.trans hB).mono hz))
    obtain ⟨c0, c1⟩ := t1
    clear t0 t0d hB
    go_wp2_with (go_at_call 27; refine (fault_New _ _).mono ?_; rintro e w' ⟨rfl, rfl⟩)
    go_ret2
    exact ⟨rfl, HB1.out⟩
/-- What the product of two numbers is, by the halves of their product as uint64. -/
theorem mul_halves (a : Int) (y : Nat) (ha0 : -9223372036854775808 ≤ a) (ha1 : a ≤ 9223372036854775807) (hy : (y : Int) ≤ 9223372036854775807) :
    ∃ X H L : Nat, IntKind.u64.wrap a = (X : Int) ∧ X < 18446744073709551616 ∧ X * y / 18446744073709551616 = H ∧ X * y % 18446744073709551616 = L ∧ (L : Int) < 18446744073709551616 ∧
      IntKind.i64.wrap (H : Int) = (H : Int) ∧ IntKind.i64.wrap (IntKind.u64.wrap ((H : Int) - y)) = (H : Int) - y ∧ smallV (if a < 0 then (H : Int) - y else H) L = fitP (a * y) := by
  by_cases ha : a < 0
  · obtain ⟨x, rfl⟩ : ∃ x : Nat, a = -(x : Int) := ⟨(-a).toNat, by omega⟩
    obtain ⟨X, hX⟩ : ∃ X : Nat, (X : Int) = 18446744073709551616 - x := ⟨(18446744073709551616 - (x : Int)).toNat, by omega⟩
    have e0 : (-(x : Int)) * y = -((x * y : Nat) : Int) := by rw [Int.natCast_mul, Int.neg_mul]
    have hxy : ((x * y : Nat) : Int) ≤ 9223372036854775808 * 9223372036854775807 := by
      rw [Int.natCast_mul]; exact Int.mul_le_mul (by omega) (by omega) (by omega) (by omega)
    have hpq : ((X * y : Nat) : Int) + ((x * y : Nat) : Int) = 18446744073709551616 * y := by
      rw [Int.natCast_mul, Int.natCast_mul, ← Int.add_mul, hX]; congr 1; omega
    rw [e0]
    generalize x * y = P at *
    generalize hQ : X * y = Q at *
    refine ⟨X, Q / 18446744073709551616, Q % 18446744073709551616, by rw [IntKind.wrap_u64]; omega, by omega, by rw [hQ], by rw [hQ], by omega, by rw [IntKind.wrap_i64]; omega, by rw [IntKind.wrap_i64, IntKind.wrap_u64]; omega, ?_⟩
    rw [if_pos ha]
    exact small_fit _ _ _ (by omega) (by omega) (by omega)
  · obtain ⟨x, rfl⟩ : ∃ x : Nat, a = x := ⟨a.toNat, by omega⟩
    have e0 : (x : Int) * y = ((x * y : Nat) : Int) := by rw [Int.natCast_mul]
    have hxy : ((x * y : Nat) : Int) ≤ 9223372036854775807 * 9223372036854775807 := by
      rw [Int.natCast_mul]; exact Int.mul_le_mul (by omega) (by omega) (by omega) (by omega)
    rw [e0]
    generalize hP : x * y = P at *
    refine ⟨x, P / 18446744073709551616, P % 18446744073709551616, by rw [IntKind.wrap_u64]; omega, by omega, by rw [hP], by rw [hP], by omega, by rw [IntKind.wrap_i64]; omega, by rw [IntKind.wrap_i64, IntKind.wrap_u64]; omega, ?_⟩
    rw [if_neg ha]
    exact small_fit _ _ _ (by omega) (by omega) (by omega)
set_option maxRecDepth 100000 in
set_option maxHeartbeats 400000 in
theorem num_Mul (a b : Int) (ha0 : -9223372036854775808 ≤ a) (ha1 : a ≤ 9223372036854775807) (hb0 : 0 ≤ b) (hb1 : b ≤ 9223372036854775807) (w : World) :
    Calls Tryz.prog 125 #[.int .i64 a, .int .i64 b] w fun e w' => e = .returned (.tuple #[.int .i64 (fitP (a * b)).1, encE (mkE (fitP (a * b)).2)]) ∧ Below w.heap.size w w' := by
  have hbb : decide (b < 0) = false := by simp; omega
  have wb : IntKind.u64.wrap b = b := by rw [IntKind.wrap_u64]; omega
  obtain ⟨y, rfl⟩ : ∃ y : Nat, b = y := ⟨b.toNat, by omega⟩
  obtain ⟨X, H, L, wa, hX, eH, eL, l1, wh, wm, hv⟩ := mul_halves a y ha0 ha1 hb1
  have C := fun W => Tryz.bits_Mul64 X y hX (by omega) W
  rw [eH, eL] at C
  have l0 : (0 : Int) ≤ L := by omega
  clear eH eL hX
  by_cases ha : a < 0
  · have hab : decide (a < 0) = true := by simp; omega
    rw [if_pos ha] at hv
    obtain ⟨h, hh⟩ : ∃ h : Int, h = (H : Int) - y := ⟨_, rfl⟩
    rw [← hh] at hv
    have wk : IntKind.i64.wrap (IntKind.u64.wrap ((H : Int) - y)) = h := wm.trans hh.symm
    have CS := fun W => num_Small h L l0 l1 W
    rw [hv] at CS
    generalize (fitP (a * y)).1 = rn at *
    generalize encE (mkE (fitP (a * y)).2) = rv at *
    clear ha wh hv wm hh
    go_enter Tryz.func125, Tryz.ntmps125
    go_wp2_with (first | (go_at_call 148; refine (C _).mono ?_; rintro e w' ⟨rfl, rfl⟩) | (go_at_call 149; refine (CS _).mono ?_; rintro e w' ⟨rfl, hB⟩))
    go_ret2
    exact ⟨rfl, hB⟩
  · have hab : decide (a < 0) = false := by simp; omega
    rw [if_neg ha] at hv
    obtain ⟨h, hh⟩ : ∃ h : Int, h = H := ⟨_, rfl⟩
    rw [← hh] at hv
    have wk : IntKind.i64.wrap (H : Int) = h := wh.trans hh.symm
    have CS := fun W => num_Small h L l0 l1 W
    rw [hv] at CS
    generalize (fitP (a * y)).1 = rn at *
    generalize encE (mkE (fitP (a * y)).2) = rv at *
    clear ha wm wh hh hv
    go_enter Tryz.func125, Tryz.ntmps125
    go_wp2_with (first | (go_at_call 148; refine (C _).mono ?_; rintro e w' ⟨rfl, rfl⟩) | (go_at_call 149; refine (CS _).mono ?_; rintro e w' ⟨rfl, hB⟩))
    go_ret2
    exact ⟨rfl, hB⟩
end Go.Proofs.YtmooibnedokllaaGreatDoor
