/- The document's answer: a sum and a number (Plus), seconds as nanoseconds (scaled), quotients (Div, Mod), numbers in so many digits (two). -/
import Derived.Test.YthplpjcadjnfiaaGreatDoorSw11
import Derived.Test.YthplpjcadjnfiaaGreatDoorSw6
import Derived.Test.YthplpjcadjnfiaaGreatDoorPad

namespace Go.Proofs.YthplpjcadjnfiaaGreatDoor
open Go.RowKit
set_option linter.unusedSimpArgs false
set_option linter.unusedVariables false

def hiI (V : Int) : Int := V / 18446744073709551616
def loI (V : Int) : Int := V % 18446744073709551616
theorem loI_bd (V : Int) : 0 ≤ loI V ∧ loI V < 18446744073709551616 := by unfold loI; omega
theorem hiI_bd {V : Int} (h0 : -1000000000000000000000000000000 ≤ V) (h1 : V ≤ 1000000000000000000000000000000) : -100000000000 ≤ hiI V ∧ hiI V ≤ 100000000000 := by unfold hiI; omega
theorem plus_parts (V n : Int) (n0 : -9223372036854775808 ≤ n) (n1 : n ≤ 9223372036854775807) :
    ∃ N L : Int, IntKind.u64.wrap n = N ∧ IntKind.u64.wrap (loI V + N) = L ∧ L = loI (V + n) ∧ 0 ≤ N ∧ N < 18446744073709551616 ∧ 0 ≤ L ∧ L < 18446744073709551616 ∧ hiI (V + n) = hiI V + (if L < loI V then 1 else 0) - (if n < 0 then 1 else 0) := by
  refine ⟨n % 18446744073709551616, loI (V + n), by rw [IntKind.wrap_u64], ?_, rfl, by omega, by omega, (loI_bd _).1, (loI_bd _).2, ?_⟩
  · rw [IntKind.wrap_u64]; unfold loI; omega
  · unfold hiI loI
    by_cases hn : n < 0
    · rw [if_pos hn]
      split <;> omega
    · rw [if_neg hn]
      split <;> omega
set_option maxRecDepth 100000 in
set_option maxHeartbeats 2000000 in
theorem ref_Plus (V n : Int) (h0 : -1000000000000000000000000000000 ≤ V) (h1 : V ≤ 1000000000000000000000000000000) (n0 : -9223372036854775808 ≤ n) (n1 : n ≤ 9223372036854775807) (w : World) :
    Calls Tryz.prog 72 #[.agg #[.int .i64 (hiI V), .int .u64 (loI V)], .int .i64 n] w fun e w' => e = .returned (.agg #[.int .i64 (hiI (V + n)), .int .u64 (loI (V + n))]) ∧ Below w.heap.size w w' := by
  obtain ⟨N, L, e1, e2, eL, b0, b1, b2, b3, eH⟩ := plus_parts V n n0 n1
  rw [← eL]
  obtain ⟨a0, a1⟩ := hiI_bd h0 h1
  obtain ⟨c0, c1⟩ := loI_bd V
  generalize hiI (V + n) = R at *
  generalize hiI V = H at *
  generalize loI V = l at *
  clear eL h0 h1
  by_cases hc : L < l
  · rw [if_pos hc] at eH
    have kc : decide (L < l) = true := by simpa using hc
    by_cases hn : n < 0
    · rw [if_pos hn] at eH
      have kn : decide (n < 0) = true := by simpa using hn
      obtain rfl : R = H := by omega
      have e9 : R + 1 - 1 = R := by omega
      clear hc hn eH
      go_enter Tryz.func72, Tryz.ntmps72
      go_wp2
      exact bodyPost_ret (results_one Tryz.results72 (res_cell (T' := 57) (fr := (0, 0)) rfl (heap_old' _ _ _ (by first | omega | (simp only [World.size_alloc, World.size_setCell, World.size_drew, size_drewN'] <;> omega)) (heap_new' _ _ _ (by first | omega | (simp only [World.size_alloc, World.size_setCell, World.size_drew, size_drewN'] <;> omega)))) Tryz.underlying57 rfl (by kernel_rfl))) rfl ⟨rfl, by go_grown⟩
    · rw [if_neg hn] at eH
      have kn : decide (n < 0) = false := by simpa using hn
      obtain rfl : R = H + 1 := by omega
      clear hc hn eH
      go_enter Tryz.func72, Tryz.ntmps72
      go_wp2
      exact bodyPost_ret (results_one Tryz.results72 (res_cell (T' := 57) (fr := (0, 0)) rfl (heap_old' _ _ _ (by first | omega | (simp only [World.size_alloc, World.size_setCell, World.size_drew, size_drewN'] <;> omega)) (heap_new' _ _ _ (by first | omega | (simp only [World.size_alloc, World.size_setCell, World.size_drew, size_drewN'] <;> omega)))) Tryz.underlying57 rfl (by kernel_rfl))) rfl ⟨rfl, by go_grown⟩
  · rw [if_neg hc] at eH
    have kc : decide (L < l) = false := by simpa using hc
    by_cases hn : n < 0
    · rw [if_pos hn] at eH
      have kn : decide (n < 0) = true := by simpa using hn
      obtain rfl : R = H - 1 := by omega
      clear hc hn eH
      go_enter Tryz.func72, Tryz.ntmps72
      go_wp2
      exact bodyPost_ret (results_one Tryz.results72 (res_cell (T' := 57) (fr := (0, 0)) rfl (heap_old' _ _ _ (by first | omega | (simp only [World.size_alloc, World.size_setCell, World.size_drew, size_drewN'] <;> omega)) (heap_new' _ _ _ (by first | omega | (simp only [World.size_alloc, World.size_setCell, World.size_drew, size_drewN'] <;> omega)))) Tryz.underlying57 rfl (by kernel_rfl))) rfl ⟨rfl, by go_grown⟩
    · rw [if_neg hn] at eH
      have kn : decide (n < 0) = false := by simpa using hn
      obtain rfl : R = H := by omega
      clear hc hn eH
      go_enter Tryz.func72, Tryz.ntmps72
      go_wp2
      exact bodyPost_ret (results_one Tryz.results72 (res_cell (T' := 57) (fr := (0, 0)) rfl (heap_old' _ _ _ (by first | omega | (simp only [World.size_alloc, World.size_setCell, World.size_drew, size_drewN'] <;> omega)) (heap_new' _ _ _ (by first | omega | (simp only [World.size_alloc, World.size_setCell, World.size_drew, size_drewN'] <;> omega)))) Tryz.underlying57 rfl (by kernel_rfl))) rfl ⟨rfl, by go_grown⟩
def badZV : Value := .agg #[.int .i64 0, .int .i64 0, .int .i64 0, .bool false, .bool false]
set_option maxRecDepth 100000 in
set_option maxHeartbeats 1000000 in
theorem ref_Div (a b : Int) (ha0 : -9223372036854775808 ≤ a) (ha1 : a ≤ 9223372036854775807) (hb0 : 1 < b) (hb1 : b ≤ 9223372036854775807) (w : World) :
    Calls Tryz.prog 79 #[.int .i64 a, .int .i64 b] w fun e w' => e = .returned (.tuple #[.int .i64 (a / b), badZV]) ∧ Below w.heap.size w w' := by
  unfold badZV
  have hz : (b == 0) = false := by simp; omega
  have hm : (b == -1) = false := by simp; omega
  have hl' : decide (b < 0) = false := by simp; omega
  obtain ⟨q0, hq0⟩ : ∃ q0, (a == -9223372036854775808) = q0 := ⟨_, rfl⟩
  by_cases h : 0 ≤ a
  · have hl : decide (a < 0) = false := by simp; omega
    have e1 : a.tdiv b = a / b := Int.tdiv_eq_ediv_of_nonneg h
    have E : Hid (a.tdiv b = a / b) := Lib.hid e1
    clear e1
    cases q0
    all_goals
     go_enter Tryz.func79, Tryz.ntmps79
     go_wp2
     all_goals exact bodyPost_ret (results_two (v0 := .int .i64 (a / b)) (v1 := badZV) Tryz.results79 (res_tmp (by first | rfl | (simp only [E.out]; rfl))) (res_cell (T' := 29) (fr := (0, 0)) rfl (by repeat (first | exact heap_new' _ _ _ (by first | omega | (simp only [World.size_alloc, World.size_setCell, World.size_drew, size_drewN'] <;> omega)) | refine heap_old' _ _ _ (by first | omega | (simp only [World.size_alloc, World.size_setCell, World.size_drew, size_drewN'] <;> omega)) ?_)) Tryz.underlying29 rfl (by kernel_rfl))) rfl ⟨rfl, by go_grown⟩
  · have hl : decide (a < 0) = true := by simp; omega
    have ht := tdiv_neg h (show 0 < b by omega)
    have hlo := div_lo ha0 hb0
    have hup : a / b < 0 := Int.ediv_neg_of_neg_of_pos (by omega) (by omega)
    by_cases h0 : a % b = 0
    · have e1 := (ht.1 h0).1
      have e2 : (a.tmod b != 0) = false := by rw [(ht.1 h0).2]; rfl
      have E : Hid (a.tdiv b = a / b) := Lib.hid e1
      clear ht h0 e1 hlo hup
      cases q0
      all_goals
       go_enter Tryz.func79, Tryz.ntmps79
       go_wp2
       all_goals exact bodyPost_ret (results_two (v0 := .int .i64 (a / b)) (v1 := badZV) Tryz.results79 (res_tmp (by first | rfl | (simp only [E.out]; rfl))) (res_cell (T' := 29) (fr := (0, 0)) rfl (by repeat (first | exact heap_new' _ _ _ (by first | omega | (simp only [World.size_alloc, World.size_setCell, World.size_drew, size_drewN'] <;> omega)) | refine heap_old' _ _ _ (by first | omega | (simp only [World.size_alloc, World.size_setCell, World.size_drew, size_drewN'] <;> omega)) ?_)) Tryz.underlying29 rfl (by kernel_rfl))) rfl ⟨rfl, by go_grown⟩
    · have e1 := (ht.2 h0).1
      have e2 : (a.tmod b != 0) = true := by simpa using (ht.2 h0).2.2
      have E : Hid (a.tdiv b = a / b + 1) := Lib.hid e1
      have EW : Hid (wrap64 (a / b + 1 - 1) = a / b) := Lib.hid (by unfold wrap64; omega)
      clear ht h0 e1 hlo hup
      cases q0
      all_goals
       go_enter Tryz.func79, Tryz.ntmps79
       go_wp2
       all_goals exact bodyPost_ret (results_two (v0 := .int .i64 (a / b)) (v1 := badZV) Tryz.results79 (res_tmp (by first | rfl | (simp only [E.out, EW.out]; rfl))) (res_cell (T' := 29) (fr := (0, 0)) rfl (by repeat (first | exact heap_new' _ _ _ (by first | omega | (simp only [World.size_alloc, World.size_setCell, World.size_drew, size_drewN'] <;> omega)) | refine heap_old' _ _ _ (by first | omega | (simp only [World.size_alloc, World.size_setCell, World.size_drew, size_drewN'] <;> omega)) ?_)) Tryz.underlying29 rfl (by kernel_rfl))) rfl ⟨rfl, by go_grown⟩
set_option maxRecDepth 100000 in
set_option maxHeartbeats 1000000 in
theorem ref_Mod (a b : Int) (ha0 : -9223372036854775808 ≤ a) (ha1 : a ≤ 9223372036854775807) (hb0 : 1 < b) (hb1 : b ≤ 9223372036854775807) (w : World) :
    Calls Tryz.prog 80 #[.int .i64 a, .int .i64 b] w fun e w' => e = .returned (.tuple #[.int .i64 (a % b), badZV]) ∧ Below w.heap.size w w' := by
  unfold badZV
  have hz : (b == 0) = false := by simp; omega
  have hm : (b == -1) = false := by simp; omega
  have hb' : 0 < b := by omega
  have hl' : decide (b < 0) = false := by simp; omega
  have hr0 := Int.emod_nonneg a (show b ≠ 0 by omega)
  have hr1 := Int.emod_lt_of_pos a hb'
  by_cases h : 0 ≤ a
  · have hl : decide (a % b < 0) = false := by simp; omega
    have E : Hid (a.tmod b = a % b) := Lib.hid (Int.tmod_eq_emod_of_nonneg h)
    go_enter Tryz.func80, Tryz.ntmps80
    go_wp2
    all_goals exact bodyPost_ret (results_two (v0 := .int .i64 (a % b)) (v1 := badZV) Tryz.results80 (res_tmp (by first | rfl | (simp only [E.out]; rfl) | (rw [show a % b = 0 by assumption]; rfl))) (res_cell (T' := 29) (fr := (0, 0)) rfl (by repeat (first | exact heap_new' _ _ _ (by first | omega | (simp only [World.size_alloc, World.size_setCell, World.size_drew, size_drewN'] <;> omega)) | refine heap_old' _ _ _ (by first | omega | (simp only [World.size_alloc, World.size_setCell, World.size_drew, size_drewN'] <;> omega)) ?_)) Tryz.underlying29 rfl (by kernel_rfl))) rfl ⟨rfl, by go_grown⟩
  · have ht := tdiv_neg h hb'
    by_cases h0 : a % b = 0
    · have e2 : (a.tmod b != 0) = false := by rw [(ht.1 h0).2]; rfl
      have E : Hid (a.tmod b = a % b) := Lib.hid (by rw [(ht.1 h0).2, h0])
      clear ht h0 hr0 hr1
      go_enter Tryz.func80, Tryz.ntmps80
      go_wp2
      all_goals exact bodyPost_ret (results_two (v0 := .int .i64 (a % b)) (v1 := badZV) Tryz.results80 (res_tmp (by first | rfl | (simp only [E.out]; rfl))) (res_cell (T' := 29) (fr := (0, 0)) rfl (by repeat (first | exact heap_new' _ _ _ (by first | omega | (simp only [World.size_alloc, World.size_setCell, World.size_drew, size_drewN'] <;> omega)) | refine heap_old' _ _ _ (by first | omega | (simp only [World.size_alloc, World.size_setCell, World.size_drew, size_drewN'] <;> omega)) ?_)) Tryz.underlying29 rfl (by kernel_rfl))) rfl ⟨rfl, by go_grown⟩
    · have e2 : (a.tmod b != 0) = true := by simpa using (ht.2 h0).2.2
      have hl : decide (a.tmod b < 0) = true := by rw [(ht.2 h0).2.1]; simp; omega
      have EW : Hid (wrap64 (a.tmod b + b) = a % b) := Lib.hid (by rw [(ht.2 h0).2.1]; unfold wrap64; omega)
      clear ht h0 hr0 hr1 h
      go_enter Tryz.func80, Tryz.ntmps80
      go_wp2
      all_goals exact bodyPost_ret (results_two (v0 := .int .i64 (a % b)) (v1 := badZV) Tryz.results80 (res_tmp (by first | rfl | (simp only [EW.out]; rfl))) (res_cell (T' := 29) (fr := (0, 0)) rfl (by repeat (first | exact heap_new' _ _ _ (by first | omega | (simp only [World.size_alloc, World.size_setCell, World.size_drew, size_drewN'] <;> omega)) | refine heap_old' _ _ _ (by first | omega | (simp only [World.size_alloc, World.size_setCell, World.size_drew, size_drewN'] <;> omega)) ?_)) Tryz.underlying29 rfl (by kernel_rfl))) rfl ⟨rfl, by go_grown⟩
/-- The block of a sum that grows. -/
structure Sg (w0 w : World) (b : Nat) (V : Int) : Prop where
  B : Below w0.heap.size w0 w
  lo : w0.heap.size ≤ b
  hs : w.heap[b]? = some (.cells #[.int .i64 (hiI V), .int .u64 (loI V)] 57 (0, 0))
theorem Sg.next {w0 w w' : World} {b : Nat} {V : Int} (t : Sg w0 w b V) (h : Below w.heap.size w w') : Sg w0 w' b V := ⟨t.B.trans (h.mono t.B.size), t.lo, below_blk h (blk_lt' t.hs) t.hs⟩
theorem Sg.set {w0 w : World} {b : Nat} {V : Int} (t : Sg w0 w b V) (V' : Int) : Sg w0 ((w.setCell ⟨b, 0, none⟩ (.int .i64 (hiI V'))).setCell ⟨b, 1, none⟩ (.int .u64 (loI V'))) b V' := ⟨below_two t.B t.lo _ _, t.lo, two_blk t.hs _ _⟩
set_option maxRecDepth 100000 in
set_option maxHeartbeats 1000000 in
theorem ref_scaled (n : Int) (n0 : -1000000000000 ≤ n) (n1 : n ≤ 1000000000000) (w : World) :
    Calls Tryz.prog 73 #[.int .i64 n] w fun e w' => e = .returned (.agg #[.int .i64 (hiI (n * 1000000000)), .int .u64 (loI (n * 1000000000))]) ∧ Below w.heap.size w w' := by
  obtain ⟨Q, R, hQ, hR, hQR, q0, q1, r0, r1⟩ : ∃ Q R : Int, Q = n.tdiv 1000 ∧ R = n.tmod 1000 ∧ n = 1000 * Q + R ∧ -1000000000 ≤ Q ∧ Q ≤ 1000000000 ∧ -1000 ≤ R ∧ R ≤ 1000 := by
    refine ⟨_, _, rfl, rfl, (Int.mul_tdiv_add_tmod n 1000).symm, ?_⟩
    by_cases h : 0 ≤ n
    · rw [Int.tdiv_eq_ediv_of_nonneg h, Int.tmod_eq_emod_of_nonneg h]; omega
    · have e1 := Int.neg_tdiv n 1000
      have e2 := Int.neg_tmod n 1000
      rw [Int.tdiv_eq_ediv_of_nonneg (a := -n) (by omega)] at e1
      rw [Int.tmod_eq_emod_of_nonneg (a := -n) (by omega)] at e2
      generalize n.tdiv 1000 = Q at *
      generalize n.tmod 1000 = R at *
      omega
  have wQ : IntKind.i64.wrap (n.tdiv 1000) = Q := by rw [← hQ, IntKind.wrap_i64]; omega
  have wQ' : wrap64 (n.tdiv 1000) = Q := by rw [← hQ]; unfold wrap64; omega
  have eQ : n.tdiv 1000 = Q := hQ.symm
  have eR : n.tmod 1000 = R := hR.symm
  have wQQ : IntKind.i64.wrap (Q * 1000000000) = Q * 1000000000 := by rw [IntKind.wrap_i64]; omega
  have wRR : IntKind.i64.wrap (R * 1000000000) = R * 1000000000 := by rw [IntKind.wrap_i64]; omega
  have HN : Hid (n * 1000000000 = 1000 * (Q * 1000000000) + R * 1000000000) := Lib.hid (by omega)
  rw [HN.out]
  clear hQ hR hQR HN
  have CR := fun W => ref_Plus (1000 * (Q * 1000000000)) (R * 1000000000) (by omega) (by omega) (by omega) (by omega) W
  have CQ := fun (k : Nat) (hk : k ≤ 1000) W => ref_Plus ((k : Int) * (Q * 1000000000)) (Q * 1000000000) (by
    have h1 : (k : Int) * (Q * 1000000000) ≥ (k : Int) * (-1000000000 * 1000000000) := Int.mul_le_mul_of_nonneg_left (by omega) (by omega)
    omega) (by
    have h1 : (k : Int) * (Q * 1000000000) ≤ (k : Int) * (1000000000 * 1000000000) := Int.mul_le_mul_of_nonneg_left (by omega) (by omega)
    omega) (by omega) (by omega) W
  clear n0 n1
  have hs0 : hiI 0 = 0 ∧ loI 0 = 0 := by decide
  go_enter Tryz.func73, Tryz.ntmps73
  go_wp2_with fail
  have T0 : Sg w ((w.alloc (.cells #[.int .i64 0, .int .u64 0] 57 (0, 0))).alloc (.cells #[.int .i64 0, .int .u64 0] 57 (0, 0))) (w.heap.size + 1) 0 := by
    refine ⟨by go_grown, by omega, ?_⟩
    rw [hs0.1, hs0.2]
    exact (heap_new' _ _ _ (by first | omega | (simp only [World.size_alloc, World.size_setCell, World.size_drew, size_drewN'] <;> omega)))
  have HZ : ((w.alloc (.cells #[.int .i64 0, .int .u64 0] 57 (0, 0))).alloc (.cells #[.int .i64 0, .int .u64 0] 57 (0, 0))).heap[w.heap.size]? = some (.cells #[.int .i64 0, .int .u64 0] 57 (0, 0)) := (heap_old' _ _ _ (by first | omega | (simp only [World.size_alloc, World.size_setCell, World.size_drew, size_drewN'] <;> omega)) (heap_new' _ _ _ (by first | omega | (simp only [World.size_alloc, World.size_setCell, World.size_drew, size_drewN'] <;> omega))))
  have HZ := Lib.hid HZ
  clear hs0
  go_loopg [6] 1000 (fun m v6 wr => ∃ k : Nat, v6 = .int .i64 (k : Int) ∧ k + m = 1000 ∧ Sg w wr (w.heap.size + 1) ((k : Int) * (Q * 1000000000)) ∧ wr.heap[w.heap.size]? = some (.cells #[.int .i64 0, .int .u64 0] 57 (0, 0)))
  case atStart => exact ⟨0, rfl, rfl, by rw [show ((0 : Nat) : Int) * (Q * 1000000000) = 0 by simp]; exact T0, HZ.out⟩
  case round =>
    clear T0 HZ
    obtain ⟨k, rfl, hk, t, hz⟩ := hrel
    have sz := blk_lt' t.hs
    have m1 := t.hs
    by_cases hlt : k < 1000
    · have kl : decide ((k : Int) < 1000) = true := by simp; omega
      have C := CQ k (by omega)
      have HX : Hid ((k : Int) * (Q * 1000000000) + Q * 1000000000 = ((k + 1 : Nat) : Int) * (Q * 1000000000)) := Lib.hid (by rw [show ((k + 1 : Nat) : Int) = (k : Int) + 1 by omega, Int.add_mul, Int.one_mul])
      rw [HX.out] at C
      obtain ⟨V', hV'⟩ : ∃ V', V' = ((k + 1 : Nat) : Int) * (Q * 1000000000) := ⟨_, rfl⟩
      have HV' := Lib.hid hV'
      rw [← hV'] at C
      clear hV' HX
      generalize (k : Int) * (Q * 1000000000) = V at *
      have pk0 := blk_cell' (m1) 0
      have pf0 := blk_free' (m1) 0
      have pk1 := blk_cell' (m1) 1
      have pf1 := blk_free' (m1) 1
      clear m1
      go_wp2_with fail
      (with_reducible refine (C _).mono ?_)
      rintro e w1 ⟨rfl, hB⟩
      have t1 := t.next hB
      have hz1 := below_blk hB (blk_lt' hz) hz
      have m1 := t1.hs
      have qk0 := blk_cell' (m1) 0
      have qf0 := blk_free' (m1) 0
      have qk1 := blk_cell' (m1) 1
      have qf1 := blk_free' (m1) 1
      have hz2 := blk_far' (k := w.heap.size + 1) (blk_far' (k := w.heap.size + 1) hz1 (by omega) 0 (.int .i64 (hiI V'))) (by omega) 1 (.int .u64 (loI V'))
      have t2 := t1.set V'
      clear m1 t1 hB hz1 pk0 pk1 pf0 pf1
      go_wp2_with fail
      go_roundg (gk - 1)
      case measure => omega
      case rel => exact ⟨k + 1, by go_num, by omega, by rw [← HV'.out]; exact t2, hz2⟩
    · obtain rfl : k = 1000 := by omega
      have kl : decide (((1000 : Nat) : Int) < 1000) = false := by decide
      rw [show ((1000 : Nat) : Int) = 1000 from rfl] at t m1
      obtain ⟨VY, hVY⟩ : ∃ VY, VY = 1000 * (Q * 1000000000) + R * 1000000000 := ⟨_, rfl⟩
      have HVY := Lib.hid hVY
      rw [← hVY] at CR
      clear hVY
      have pk0 := blk_cell' (m1) 0
      have pf0 := blk_free' (m1) 0
      have pk1 := blk_cell' (m1) 1
      have pf1 := blk_free' (m1) 1
      clear m1 CQ
      go_wp2_with fail
      (with_reducible refine (CR _).mono ?_)
      rintro e w1 ⟨rfl, hB⟩
      have hz1 := below_blk hB (blk_lt' hz) hz
      have HB := Lib.hid (t.next hB).B
      have rk0 := blk_cell' (hz1) 0
      have rf0 := blk_free' (hz1) 0
      have rk1 := blk_cell' (hz1) 1
      have rf1 := blk_free' (hz1) 1
      have HT := fun v0 v1 => two_blk hz1 v0 v1
      clear hB pk0 pk1 pf0 pf1 t hz hz1
      go_wp2
      exact bodyPost_ret (results_one Tryz.results73 (res_cell (T' := 57) (fr := (0, 0)) rfl (HT _ _) Tryz.underlying57 rfl (by kernel_rfl))) rfl ⟨by rw [HVY.out], below_two HB.out (Nat.le_refl _) _ _⟩
theorem two_step (n v : Nat) (j : Nat) (h : (Lib.decDigits v).length + j < n) (hv : v < 10 ^ n) (h0 : 0 < n) : (⟨#[48]⟩ : ByteArray) ++ ⟨(List.replicate j 48 ++ Lib.decDigits v).toArray⟩ = ⟨(List.replicate (j + 1) 48 ++ Lib.decDigits v).toArray⟩ := by
  apply bytes_ext
  rw [data_app]
  simp [List.replicate_succ]
set_option maxRecDepth 100000 in
set_option maxHeartbeats 1000000 in
theorem ref_two (v : Int) (n : Nat) (h0 : 0 ≤ v) (h1 : v.toNat < 10 ^ n) (hn : 0 < n) (hn9 : n ≤ 9) (w : World) (hL : LayS w) :
    Calls Tryz.prog 81 #[.int .i64 v, .int .i64 (n : Int)] w fun e w' => e = .returned (.string ⟨(padL n v.toNat).toArray⟩) ∧ Below w.heap.size w w' := by
  have hp9 : 10 ^ n ≤ 10 ^ 9 := Nat.pow_le_pow_right (by omega) hn9
  have CI := fun W hW => strconv_Itoa v (by omega) (by omega) W hW
  have hd := dec_len n v.toNat h1 hn
  have hp := pad_dec n v.toNat h1 hn
  have hi : itoa v = ⟨(List.replicate 0 48 ++ Lib.decDigits v.toNat).toArray⟩ := by
    apply bytes_ext
    rw [itoa_nat v h0]
    simp
  rw [hp]
  rw [hi] at CI
  generalize Lib.decDigits v.toNat = l at *
  have HS : Hid (∀ j, (⟨#[48]⟩ : ByteArray) ++ ⟨(List.replicate j 48 ++ l).toArray⟩ = ⟨(List.replicate (j + 1) 48 ++ l).toArray⟩) := Lib.hid (fun j => by
    apply bytes_ext
    rw [data_app]
    simp [List.replicate_succ])
  have HL : Hid (∀ j, (⟨(List.replicate j 48 ++ l).toArray⟩ : ByteArray).size = j + l.length) := Lib.hid (fun j => by show (List.replicate j 48 ++ l).toArray.size = _; simp)
  clear hp hi h1 hp9
  go_enter Tryz.func81, Tryz.ntmps81
  go_wp2_with fail
  refine (CI _ hL.L).mono ?_
  rintro e w1 ⟨rfl, hB⟩
  go_wp2_with fail
  go_loopg [5] (n - l.length) (fun m v5 wr => ∃ j : Nat, v5 = .string ⟨(List.replicate j 48 ++ l).toArray⟩ ∧ j + m = n - l.length ∧ w1 = wr)
  case atStart => exact ⟨0, rfl, by omega, rfl⟩
  case round =>
    obtain ⟨j, rfl, hj, rfl⟩ := hrel
    have hz := HL.out j
    have hst := HS.out j
    obtain ⟨S, hS⟩ : ∃ S, S = (⟨(List.replicate j 48 ++ l).toArray⟩ : ByteArray) := ⟨_, rfl⟩
    rw [← hS] at hz hst ⊢
    have HSS := Lib.hid hS
    clear hS
    have HST := Lib.hid hst
    clear hst
    by_cases hlt : j + l.length < n
    · have kl : decide ((S.size : Int) < (n : Int)) = true := by rw [decide_eq_true_iff]; omega
      have kl2 : S.size < n := by omega
      clear hlt
      go_wp2_with fail
      go_roundg (gk - 1)
      case measure => omega
      case rel => exact ⟨j + 1, by rw [← HST.out], by omega, rfl⟩
    · have kl : decide ((S.size : Int) < (n : Int)) = false := by rw [decide_eq_false_iff_not]; omega
      have kl2 : ¬ S.size < n := by omega
      have HJ : Hid (j = n - l.length) := Lib.hid (by omega)
      clear hlt
      go_wp2_with fail
      go_ret
      exact ⟨by rw [HSS.out, HJ.out]; rfl, hB⟩
end Go.Proofs.YthplpjcadjnfiaaGreatDoor
