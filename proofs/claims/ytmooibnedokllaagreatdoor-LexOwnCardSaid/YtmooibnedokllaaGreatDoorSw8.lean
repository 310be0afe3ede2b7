/- The reference's sums of 128 bits: which is smaller, plus, times. -/
import Derived.Test.YtmooibnedokllaaGreatDoorSw7
namespace Go.Proofs.YtmooibnedokllaaGreatDoor
open Go.RowKit
set_option linter.unusedSimpArgs false
set_option linter.unusedVariables false

/-- A number as a sum of 128 bits. -/
def sumH (x : Nat) : Int := ((x / 18446744073709551616 : Nat) : Int)
def sumL (x : Nat) : Int := ((x % 18446744073709551616 : Nat) : Int)
def encS (x : Nat) : Value := .agg #[.int .i64 (sumH x), .int .u64 (sumL x)]
/-- What is far outside int64 stays there. -/
def satM (x : Nat) : Nat := if 20282409603651670423947251286016 < x then 20282409603651670423947251286016 else x
theorem satM_le (x : Nat) : satM x ≤ 20282409603651670423947251286016 := by unfold satM; split <;> omega
theorem sum_bd {x : Nat} (h : x ≤ 20282409603651670423947251286016) : 0 ≤ sumH x ∧ sumH x ≤ 1099511627776 ∧ 0 ≤ sumL x ∧ sumL x < 18446744073709551616 := by unfold sumH sumL; omega
theorem sum_much : sumH 20282409603651670423947251286016 = 1099511627776 ∧ sumL 20282409603651670423947251286016 = 0 := by decide
/-- Two sums together: the halves. -/
theorem plus_halves {x y : Nat} (hx : x ≤ 20282409603651670423947251286016) (hy : y ≤ 20282409603651670423947251286016) :
    ∃ h l : Int, IntKind.u64.wrap (sumL x + sumL y) = l ∧ h = sumH x + sumH y + (if l < sumL x then 1 else 0) ∧ h = sumH (x + y) ∧ l = sumL (x + y) ∧ 0 ≤ h ∧ h ≤ 2199023255553 ∧ 0 ≤ l ∧ l < 18446744073709551616 ∧
      (satM (x + y) = if 1099511627776 < h ∨ h = 1099511627776 ∧ 0 < l then 20282409603651670423947251286016 else x + y) := by
  refine ⟨sumH (x + y), sumL (x + y), ?_, ?_, rfl, rfl, ?_, ?_, ?_, ?_, ?_⟩
  · rw [IntKind.wrap_u64]; unfold sumL; omega
  · unfold sumH sumL; split <;> omega
  · unfold sumH; omega
  · unfold sumH; omega
  · unfold sumL; omega
  · unfold sumL; omega
  · unfold satM sumH sumL
    by_cases h : 20282409603651670423947251286016 < x + y
    · rw [if_pos h, if_pos (by omega)]
    · rw [if_neg h, if_neg (by omega)]
def cmpI (a b c d : Int) : Int := if a < c then -1 else if c < a then 1 else if b < d then -1 else if d < b then 1 else 0
set_option maxRecDepth 100000 in
set_option maxHeartbeats 1000000 in
theorem ref_Compare (a b c d : Int) (w : World) :
    Calls Tryz.prog 156 #[.agg #[.int .i64 a, .int .u64 b], .agg #[.int .i64 c, .int .u64 d]] w fun e w' => e = .returned (.int .i64 (cmpI a b c d)) ∧ Below w.heap.size w w' := by
  unfold cmpI
  by_cases h1 : a < c
  · rw [if_pos h1]
    have k1 : decide (a < c) = true := by simpa using h1
    clear h1
    go_enter Tryz.func156, Tryz.ntmps156
    go_wp2
    go_ret
    exact ⟨rfl, by go_grown⟩
  rw [if_neg h1]
  have k1 : decide (a < c) = false := by simpa using h1
  by_cases h2 : c < a
  · rw [if_pos h2]
    have k2 : decide (c < a) = true := by simpa using h2
    clear h1 h2
    go_enter Tryz.func156, Tryz.ntmps156
    go_wp2
    go_ret
    exact ⟨rfl, by go_grown⟩
  rw [if_neg h2]
  have k2 : decide (c < a) = false := by simpa using h2
  by_cases h3 : b < d
  · rw [if_pos h3]
    have k3 : decide (b < d) = true := by simpa using h3
    clear h1 h2 h3
    go_enter Tryz.func156, Tryz.ntmps156
    go_wp2
    go_ret
    exact ⟨rfl, by go_grown⟩
  rw [if_neg h3]
  have k3 : decide (b < d) = false := by simpa using h3
  by_cases h4 : d < b
  · rw [if_pos h4]
    have k4 : decide (d < b) = true := by simpa using h4
    clear h1 h2 h3 h4
    go_enter Tryz.func156, Tryz.ntmps156
    go_wp2
    go_ret
    exact ⟨rfl, by go_grown⟩
  rw [if_neg h4]
  have k4 : decide (d < b) = false := by simpa using h4
  clear h1 h2 h3 h4
  go_enter Tryz.func156, Tryz.ntmps156
  go_wp2
  go_ret
  exact ⟨rfl, by go_grown⟩
theorem cmp_pos (a b : Int) (hb : 0 ≤ b) : decide (0 < cmpI a b 1099511627776 0) = decide (1099511627776 < a ∨ a = 1099511627776 ∧ 0 < b) := by
  rw [decide_eq_decide]
  unfold cmpI
  repeat' split
  all_goals omega
theorem two_blk {w : World} {b : Nat} {x0 x1 : Value} {T : TypeId} {fr : Nat × Nat} (h : w.heap[b]? = some (.cells #[x0, x1] T fr)) (v0 v1 : Value) :
    ((w.setCell ⟨b, 0, none⟩ v0).setCell ⟨b, 1, none⟩ v1).heap[b]? = some (.cells #[v0, v1] T fr) := by
  have := blk_set' (blk_set' h 0 v0) 1 v1
  simpa using this
theorem below_two {B b : Nat} {w0 w : World} (h : Below B w0 w) (hb : B ≤ b) (v0 v1 : Value) : Below B w0 ((w.setCell ⟨b, 0, none⟩ v0).setCell ⟨b, 1, none⟩ v1) := (h.setCell hb _).setCell hb _
set_option maxRecDepth 100000 in
set_option maxHeartbeats 2000000 in
theorem ref_plus (x y : Nat) (hx : x ≤ 20282409603651670423947251286016) (hy : y ≤ 20282409603651670423947251286016) (w : World) :
    Calls Tryz.prog 132 #[encS x, encS y] w fun e w' => e = .returned (encS (satM (x + y))) ∧ Below w.heap.size w w' := by
  obtain ⟨h, l, hl, hh, eh, el, b0, b1, b2, b3, hs⟩ := plus_halves hx hy
  obtain ⟨x0, x1, x2, x3⟩ := sum_bd hx
  obtain ⟨y0, y1, y2, y3⟩ := sum_bd hy
  have cp := cmp_pos h l b2
  have hq : encS (satM (x + y)) = if 1099511627776 < h ∨ h = 1099511627776 ∧ 0 < l then .agg #[.int .i64 1099511627776, .int .u64 0] else .agg #[.int .i64 h, .int .u64 l] := by
    rw [hs]
    by_cases hc : 1099511627776 < h ∨ h = 1099511627776 ∧ 0 < l
    · rw [if_pos hc, if_pos hc]; unfold encS; rw [sum_much.1, sum_much.2]
    · rw [if_neg hc, if_neg hc]; unfold encS; rw [eh, el]
  rw [hq]
  unfold encS
  have C := fun W => ref_Compare h l 1099511627776 0 W
  generalize sumH x = a at *
  generalize sumL x = b at *
  generalize sumH y = c at *
  generalize sumL y = d at *
  generalize cmpI h l 1099511627776 0 = r at *
  clear hq eh el hs hx hy
  by_cases hc : 1099511627776 < h ∨ h = 1099511627776 ∧ 0 < l
  all_goals
    first | rw [if_pos hc] | rw [if_neg hc]
    have kr : decide (0 < r) = decide (1099511627776 < h ∨ h = 1099511627776 ∧ 0 < l) := cp
    first | (have kr2 : decide (0 < r) = true := by rw [kr]; simpa using hc) | (have kr2 : decide (0 < r) = false := by rw [kr]; exact decide_eq_false hc)
    clear kr cp hc
    by_cases hcar : l < b
    all_goals
      first | rw [if_pos hcar] at hh | rw [if_neg hcar] at hh
      first | (have kc : decide (l < b) = true := by simpa using hcar) | (have kc : decide (l < b) = false := by simpa using hcar)
      first | obtain rfl : h = a + c + 1 := hh | obtain rfl : h = a + c := by omega
      clear hcar
      try clear hh
      go_enter Tryz.func132, Tryz.ntmps132
      go_wp2_with fail
      refine (C _).mono ?_
      rintro e w1 ⟨rfl, hB⟩
      have m2 := below_blk hB (b := w.heap.size + 1 + 1) (by first | omega | (simp only [World.size_alloc, World.size_setCell, World.size_drew, size_drewN'] <;> omega)) (o := .cells #[.int .i64 0, .int .u64 0] 166 (0, 0)) (by repeat (first | exact heap_new' _ _ _ (by first | omega | (simp only [World.size_alloc, World.size_setCell, World.size_drew, size_drewN'] <;> omega)) | refine heap_old' _ _ _ (by first | omega | (simp only [World.size_alloc, World.size_setCell, World.size_drew, size_drewN'] <;> omega)) ?_))
      have m3 := below_blk hB (b := w.heap.size + 1 + 1 + 1) (by first | omega | (simp only [World.size_alloc, World.size_setCell, World.size_drew, size_drewN'] <;> omega)) (o := .cells #[.int .i64 1099511627776, .int .u64 0] 166 (0, 0)) (by repeat (first | exact heap_new' _ _ _ (by first | omega | (simp only [World.size_alloc, World.size_setCell, World.size_drew, size_drewN'] <;> omega)) | refine heap_old' _ _ _ (by first | omega | (simp only [World.size_alloc, World.size_setCell, World.size_drew, size_drewN'] <;> omega)) ?_))
      have m4 := below_blk hB (b := w.heap.size + 1 + 1 + 1 + 1) (by first | omega | (simp only [World.size_alloc, World.size_setCell, World.size_drew, size_drewN'] <;> omega)) (by repeat (first | exact heap_new' _ _ _ (by first | omega | (simp only [World.size_alloc, World.size_setCell, World.size_drew, size_drewN'] <;> omega)) | refine heap_old' _ _ _ (by first | omega | (simp only [World.size_alloc, World.size_setCell, World.size_drew, size_drewN'] <;> omega)) ?_))
      have hz := hB.size
      simp only [World.size_alloc] at hz
      have HB := Lib.hid (show Below w.heap.size w w1 from Below.trans (by go_grown) (hB.mono (by first | omega | (simp only [World.size_alloc, World.size_setCell, World.size_drew, size_drewN'] <;> omega))))
      have pk0 := blk_cell' (m2) 0
      have pf0 := blk_free' (m2) 0
      have pk1 := blk_cell' (m2) 1
      have pf1 := blk_free' (m2) 1
      have qk0 := blk_cell' (m3) 0
      have qf0 := blk_free' (m3) 0
      have qk1 := blk_cell' (m3) 1
      have qf1 := blk_free' (m3) 1
      have rk0 := blk_cell' (m4) 0
      have rf0 := blk_free' (m4) 0
      have rk1 := blk_cell' (m4) 1
      have rf1 := blk_free' (m4) 1
      have HT := fun v0 v1 => two_blk m2 v0 v1
      clear m2 m3 m4 hB
      go_wp2
      exact bodyPost_ret (results_one Tryz.results132 (res_cell (T' := 166) (fr := (0, 0)) rfl (HT _ _) Tryz.underlying166 rfl (by kernel_rfl))) rfl ⟨rfl, below_two HB.out (by omega) _ _⟩
end Go.Proofs.YtmooibnedokllaaGreatDoor
