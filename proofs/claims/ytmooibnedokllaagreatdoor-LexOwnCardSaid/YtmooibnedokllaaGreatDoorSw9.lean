/- The reference's times: a sum so many times. -/
import Derived.Test.YtmooibnedokllaaGreatDoorSw8
namespace Go.Proofs.YtmooibnedokllaaGreatDoor
open Go.RowKit
set_option linter.unusedSimpArgs false
set_option linter.unusedVariables false

theorem sat_id {x : Nat} (h : x ≤ 20282409603651670423947251286016) : satM x = x := if_neg (by omega)
theorem sat_add (a b : Nat) : satM (satM a + b) = satM (a + b) := by
  unfold satM
  repeat' split
  all_goals omega
theorem sat_mul (a b j : Nat) : satM (a + satM b * j) = satM (a + b * j) := by
  by_cases hb : 20282409603651670423947251286016 < b
  · have e : satM b = 20282409603651670423947251286016 := if_pos hb
    rw [e]
    rcases Nat.eq_zero_or_pos j with rfl | hj
    · rfl
    · have h1 : 20282409603651670423947251286016 * 1 ≤ 20282409603651670423947251286016 * j := Nat.mul_le_mul_left _ hj
      have h2 : b * 1 ≤ b * j := Nat.mul_le_mul_left _ hj
      generalize 20282409603651670423947251286016 * j = X at *
      generalize b * j = Y at *
      unfold satM
      split <;> split <;> omega
  · rw [sat_id (x := b) (by omega)]
theorem ref_plusU (x y : Nat) (hx : x ≤ 20282409603651670423947251286016) (hy : y ≤ 20282409603651670423947251286016) (w : World) :
    Calls Tryz.prog 132 #[.agg #[.int .i64 (sumH x), .int .u64 (sumL x)], .agg #[.int .i64 (sumH y), .int .u64 (sumL y)]] w fun e w' => e = .returned (.agg #[.int .i64 (sumH (satM (x + y))), .int .u64 (sumL (satM (x + y)))]) ∧ Below w.heap.size w w' := ref_plus x y hx hy w
/-- The blocks of a walk through times. -/
structure Tm (w0 w : World) (p q : Nat) : Prop where
  B : Below w0.heap.size w0 w
  hp : w.heap[w0.heap.size]? = some (.cells #[.int .i64 (sumH p), .int .u64 (sumL p)] 166 (0, 0))
  hr : w.heap[w0.heap.size + 1]? = some (.cells #[.int .i64 0, .int .u64 0] 166 (0, 0))
  hq : w.heap[w0.heap.size + 1 + 1]? = some (.cells #[.int .i64 (sumH q), .int .u64 (sumL q)] 166 (0, 0))
theorem Tm.sz {w0 w : World} {p q : Nat} (t : Tm w0 w p q) : w0.heap.size + 1 + 1 < w.heap.size := blk_lt' t.hq
theorem Tm.next {w0 w w' : World} {p q : Nat} (t : Tm w0 w p q) (h : Below w.heap.size w w') : Tm w0 w' p q :=
  ⟨t.B.trans (h.mono (by have := t.sz; omega)), below_blk h (blk_lt' t.hp) t.hp, below_blk h (blk_lt' t.hr) t.hr, below_blk h (blk_lt' t.hq) t.hq⟩
theorem Tm.setp {w0 w : World} {p q : Nat} (t : Tm w0 w p q) (p' : Nat) : Tm w0 ((w.setCell ⟨w0.heap.size, 0, none⟩ (.int .i64 (sumH p'))).setCell ⟨w0.heap.size, 1, none⟩ (.int .u64 (sumL p'))) p' q :=
  ⟨below_two t.B (Nat.le_refl _) _ _, two_blk t.hp _ _, blk_far' (blk_far' t.hr (by omega) _ _) (by omega) _ _, blk_far' (blk_far' t.hq (by omega) _ _) (by omega) _ _⟩
theorem Tm.setq {w0 w : World} {p q : Nat} (t : Tm w0 w p q) (q' : Nat) : Tm w0 ((w.setCell ⟨w0.heap.size + 1 + 1, 0, none⟩ (.int .i64 (sumH q'))).setCell ⟨w0.heap.size + 1 + 1, 1, none⟩ (.int .u64 (sumL q'))) p q' :=
  ⟨below_two t.B (by omega) _ _, blk_far' (blk_far' t.hp (by omega) _ _) (by omega) _ _, blk_far' (blk_far' t.hr (by omega) _ _) (by omega) _ _, two_blk t.hq _ _⟩
theorem Tm.cells {w0 w : World} {p q : Nat} (t : Tm w0 w p q) : w.cell? ⟨w0.heap.size, 0, none⟩ = some (.int .i64 (sumH p)) ∧ w.cell? ⟨w0.heap.size, 1, none⟩ = some (.int .u64 (sumL p)) ∧ w.cell? ⟨w0.heap.size + 1 + 1, 0, none⟩ = some (.int .i64 (sumH q)) ∧ w.cell? ⟨w0.heap.size + 1 + 1, 1, none⟩ = some (.int .u64 (sumL q)) ∧
    w.frozen? ⟨w0.heap.size, 0, none⟩ = false ∧ w.frozen? ⟨w0.heap.size, 1, none⟩ = false ∧ w.frozen? ⟨w0.heap.size + 1 + 1, 0, none⟩ = false ∧ w.frozen? ⟨w0.heap.size + 1 + 1, 1, none⟩ = false :=
  ⟨blk_cell' t.hp 0, blk_cell' t.hp 1, blk_cell' t.hq 0, blk_cell' t.hq 1, blk_free' t.hp 0, blk_free' t.hp 1, blk_free' t.hq 0, blk_free' t.hq 1⟩
theorem sum_0 : sumH 0 = 0 ∧ sumL 0 = 0 := by decide
set_option maxRecDepth 100000 in
set_option maxHeartbeats 2000000 in
theorem ref_times (x n : Nat) (hx : x ≤ 20282409603651670423947251286016) (hn : n ≤ 9223372036854775807) (w : World) :
    Calls Tryz.prog 134 #[.agg #[.int .i64 (sumH x), .int .u64 (sumL x)], .int .i64 (n : Int)] w fun e w' =>
      e = .returned (.agg #[.int .i64 (sumH (satM (x * n))), .int .u64 (sumL (satM (x * n)))]) ∧ Below w.heap.size w w' := by
  generalize hR : satM (x * n) = R
  have HR := Lib.hid hR.symm
  clear hR
  go_enter Tryz.func134, Tryz.ntmps134
  go_wp2_with fail
  have T0 : Tm w (((w.alloc (.cells #[.int .i64 (sumH x), .int .u64 (sumL x)] 166 (0, 0))).alloc (.cells #[.int .i64 0, .int .u64 0] 166 (0, 0))).alloc (.cells #[.int .i64 0, .int .u64 0] 166 (0, 0))) x 0 := by
    refine ⟨by go_grown, (heap_old' _ _ _ (by first | omega | (simp only [World.size_alloc, World.size_setCell, World.size_drew, size_drewN'] <;> omega)) (heap_old' _ _ _ (by first | omega | (simp only [World.size_alloc, World.size_setCell, World.size_drew, size_drewN'] <;> omega)) (heap_new' _ _ _ (by first | omega | (simp only [World.size_alloc, World.size_setCell, World.size_drew, size_drewN'] <;> omega))))), (heap_old' _ _ _ (by first | omega | (simp only [World.size_alloc, World.size_setCell, World.size_drew, size_drewN'] <;> omega)) (heap_new' _ _ _ (by first | omega | (simp only [World.size_alloc, World.size_setCell, World.size_drew, size_drewN'] <;> omega)))), ?_⟩
    rw [sum_0.1, sum_0.2]
    exact (heap_new' _ _ _ (by first | omega | (simp only [World.size_alloc, World.size_setCell, World.size_drew, size_drewN'] <;> omega)))
  go_loopg [1] n (fun m v1 wr => ∃ p q : Nat, v1 = .int .i64 (m : Int) ∧ m ≤ n ∧ p ≤ 20282409603651670423947251286016 ∧ q ≤ 20282409603651670423947251286016 ∧ Hid (R = satM (q + p * m)) ∧ Tm w wr p q)
  case atStart => exact ⟨x, 0, rfl, Nat.le_refl _, hx, by omega, Lib.hid (by rw [Nat.zero_add]; exact HR.out), T0⟩
  case round =>
    obtain ⟨p, q, rfl, hm, hp, hq, HS, t⟩ := hrel
    by_cases h0 : gk = 0
    · subst h0
      obtain rfl : R = q := by rw [HS.out, Nat.mul_zero, Nat.add_zero, sat_id hq]
      have m1 := t.hr
      have m2 := t.hq
      have hB := t.B
      have HT := fun v0 v1 => two_blk m1 v0 v1
      have qk0 := blk_cell' (m1) 0
      have qf0 := blk_free' (m1) 0
      have qk1 := blk_cell' (m1) 1
      have qf1 := blk_free' (m1) 1
      have rk0 := blk_cell' (m2) 0
      have rf0 := blk_free' (m2) 0
      have rk1 := blk_cell' (m2) 1
      have rf1 := blk_free' (m2) 1
      clear m1 m2 T0 t HS HR
      go_wp2
      exact bodyPost_ret (results_one Tryz.results134 (res_cell (T' := 166) (fr := (0, 0)) rfl (HT _ _) Tryz.underlying166 rfl (by kernel_rfl))) rfl ⟨rfl, below_two hB (by omega) _ _⟩
    · have hpos : decide ((0 : Int) < (gk : Int)) = true := by simp; omega
      have hposN : 0 < gk := by omega
      have h2 : ((gk : Int) / 2) = ((gk / 2 : Nat) : Int) := by omega
      have C2 := fun W => ref_plusU p p hp hp W
      have sz := t.sz
      by_cases hodd : gk % 2 = 1
      · have ho : (((gk : Int) % 2) == 1) = true := by simp; omega
        have C1 := fun W => ref_plusU q p hq hp W
        have HS' : Hid (R = satM (satM (q + p) + satM (p + p) * (gk / 2))) := Lib.hid (by
          rw [HS.out, sat_mul, sat_add]
          congr 1
          have e : gk = 2 * (gk / 2) + 1 := by omega
          generalize gk / 2 = j at e
          subst e
          rw [Nat.mul_add, Nat.add_mul, Nat.mul_one, ← Nat.mul_assoc, Nat.mul_comm p 2, Nat.two_mul, Nat.add_mul]
          omega)
        obtain ⟨k0, k1, k2, k3, f0, f1, f2, f3⟩ := t.cells
        clear T0 h0 h2 hodd HR HS
        go_wp2_with (first
          | (go_at_call 132; (with_reducible refine (C1 _).mono ?_); rintro e w1 ⟨rfl, hB1⟩; have t1 := t.next hB1; have t2 := t1.setq (satM (q + p)); obtain ⟨k0, k1, k2, k3, f0, f1, f2, f3⟩ := t1.cells; obtain ⟨l0, l1, l2, l3, g0, g1, g2, g3⟩ := t2.cells)
          | (go_at_call 132; (with_reducible refine (C2 _).mono ?_); rintro e w2 ⟨rfl, hB2⟩; have t3 := t2.next hB2; obtain ⟨k0, k1, k2, k3, f0, f1, f2, f3⟩ := t3.cells))
        have t4 := t3.setp (satM (p + p))
        go_roundg (gk / 2)
        case measure => omega
        case rel => exact ⟨_, _, by go_num, by omega, satM_le _, satM_le _, HS', t4⟩
      · have ho : (((gk : Int) % 2) == 1) = false := by simp; omega
        have HS' : Hid (R = satM (q + satM (p + p) * (gk / 2))) := Lib.hid (by
          rw [HS.out, sat_mul]
          congr 1
          have e : gk = 2 * (gk / 2) := by omega
          generalize gk / 2 = j at e
          subst e
          rw [← Nat.mul_assoc, Nat.mul_comm p 2, Nat.two_mul])
        obtain ⟨k0, k1, k2, k3, f0, f1, f2, f3⟩ := t.cells
        clear T0 h0 h2 hodd HR HS
        go_wp2_with (first
          | (go_at_call 132; (with_reducible refine (C2 _).mono ?_); rintro e w2 ⟨rfl, hB2⟩; have t3 := t.next hB2; obtain ⟨k0, k1, k2, k3, f0, f1, f2, f3⟩ := t3.cells))
        have t4 := t3.setp (satM (p + p))
        go_roundg (gk / 2)
        case measure => omega
        case rel => exact ⟨_, _, by go_num, by omega, satM_le _, hq, HS', t4⟩
end Go.Proofs.YtmooibnedokllaaGreatDoor
