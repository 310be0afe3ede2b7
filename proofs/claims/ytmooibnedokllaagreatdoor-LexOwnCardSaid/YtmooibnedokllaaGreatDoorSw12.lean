/- The reference's Scan of a span. -/
import Derived.Test.YtmooibnedokllaaGreatDoorSw10
import Derived.Test.YtmooibnedokllaaGreatDoorSw11
namespace Go.Proofs.YtmooibnedokllaaGreatDoor
open Go.RowKit
set_option linter.unusedSimpArgs false
set_option linter.unusedVariables false

theorem part_none {s : ByteArray} (hs : s.size ≤ 140737488355328) (h : partL s.data.toList = none) (w : World) :
    Calls Tryz.prog 110 #[.string s] w fun e w' => ∃ x : Nat, e = .returned (.tuple #[.int .i64 0, .int .i64 0, .agg #[.int .i64 (sumH x), .int .u64 (sumL x)], .bool false]) ∧ Below w.heap.size w w' := by
  refine (ref_part s hs w).mono ?_
  rintro e w' ⟨hB, ⟨_, x, rfl⟩ | ⟨u, n, v, h', _⟩⟩
  · exact ⟨x, rfl, hB⟩
  · rw [h] at h'; cases h'
theorem part_some {s : ByteArray} (hs : s.size ≤ 140737488355328) {u n v : Nat} (h : partL s.data.toList = some (u, n, v)) (w : World) :
    Calls Tryz.prog 110 #[.string s] w fun e w' => e = .returned (.tuple #[.int .i64 (unitV u), .int .i64 n, .agg #[.int .i64 (sumH (satM v)), .int .u64 (sumL (satM v))], .bool true]) ∧ Below w.heap.size w w' := by
  refine (ref_part s hs w).mono ?_
  rintro e w' ⟨hB, ⟨h', _⟩ | ⟨u', n', v', h', rfl⟩⟩
  · rw [h] at h'; cases h'
  · rw [h] at h'
    have h2 := Option.some.inj h'
    clear h'
    obtain ⟨rfl, h3⟩ := Prod.mk.inj h2
    obtain ⟨rfl, rfl⟩ := Prod.mk.inj h3
    exact ⟨rfl, hB⟩
def lastV : Nat → Int
  | 0 => 4611686018427387904
  | k + 1 => unitV k
theorem last_iff (lo u : Nat) (hu : u ≤ 7) (hl : lo ≤ 8) : lastV lo ≤ (unitV u : Int) ↔ u < lo := by
  cases lo with
  | zero => have := unitV_le u; simp [lastV]; omega
  | succ k =>
    have := unitV_iff k u (by omega) hu
    simp only [lastV]
    omega
/-- The blocks of a walk through Scan: the error's, the sum's. -/
structure Ra (w0 w : World) (p : Nat) : Prop where
  B : Below w0.heap.size w0 w
  hr : w.heap[w0.heap.size]? = some (.cells #[.int .i64 0, .int .i64 0, .int .i64 0, .bool false, .bool false] 40 (0, 0))
  hv : w.heap[w0.heap.size + 1]? = some (.cells #[.int .i64 (sumH p), .int .u64 (sumL p)] 166 (0, 0))
theorem Ra.sz {w0 w : World} {p : Nat} (t : Ra w0 w p) : w0.heap.size + 1 < w.heap.size := blk_lt' t.hv
theorem Ra.next {w0 w w' : World} {p : Nat} (t : Ra w0 w p) (h : Below w.heap.size w w') : Ra w0 w' p :=
  ⟨t.B.trans (h.mono (by have := t.sz; omega)), below_blk h (blk_lt' t.hr) t.hr, below_blk h (blk_lt' t.hv) t.hv⟩
theorem Ra.setv {w0 w : World} {p : Nat} (t : Ra w0 w p) (p' : Nat) : Ra w0 ((w.setCell ⟨w0.heap.size + 1, 0, none⟩ (.int .i64 (sumH p'))).setCell ⟨w0.heap.size + 1, 1, none⟩ (.int .u64 (sumL p'))) p' :=
  ⟨below_two t.B (by omega) _ _, blk_far' (blk_far' t.hr (by omega) _ _) (by omega) _ _, two_blk t.hv _ _⟩
theorem Ra.cells {w0 w : World} {p : Nat} (t : Ra w0 w p) : w.cell? ⟨w0.heap.size + 1, 0, none⟩ = some (.int .i64 (sumH p)) ∧ w.cell? ⟨w0.heap.size + 1, 1, none⟩ = some (.int .u64 (sumL p)) ∧
    w.frozen? ⟨w0.heap.size + 1, 0, none⟩ = false ∧ w.frozen? ⟨w0.heap.size + 1, 1, none⟩ = false :=
  ⟨blk_cell' t.hv 0, blk_cell' t.hv 1, blk_free' t.hv 0, blk_free' t.hv 1⟩
theorem small_sat (V : Nat) : smallV (sumH (satM V)) (sumL (satM V)) = if V ≤ 9223372036854775807 then ((V : Int), 0) else (0, 20) := by
  have hb := sum_bd (satM_le V)
  rw [small_fit ((satM V : Nat) : Int) _ _ hb.2.2.1 hb.2.2.2 (by unfold sumH sumL; omega)]
  unfold fitP
  by_cases h : V ≤ 9223372036854775807
  · rw [sat_id (show V ≤ 20282409603651670423947251286016 by omega), if_pos (by omega), if_pos h]
  · have : 9223372036854775807 < satM V := by unfold satM; split <;> omega
    rw [if_neg h, if_neg (by omega)]
theorem refNew_enc (n : Int) : (refNew n).enc = .agg #[.int .i64 n, .int .i64 0, .int .i64 0, .bool false, .bool false] := rfl
set_option maxRecDepth 100000 in
set_option maxHeartbeats 20000000 in
theorem ref_Scan (s : ByteArray) (hs : s.size ≤ 140737488355328) (w : World) :
    Calls Tryz.prog 111 #[.string s] w fun e w' => e = .returned (.tuple #[.int .i64 (scanP s.data.toList).1, .int .i64 (scanP s.data.toList).2.1, (refNew (scanP s.data.toList).2.2).enc]) ∧ Below w.heap.size w w' := by
  have hsz : s.data.toList.length = s.size := rfl
  have HPP : Hid (scanP s.data.toList = if (scanG 0 s.data.toList).1 = 0 then (0, 0, 40) else if 9223372036854775807 < (scanG 0 s.data.toList).2 then (0, 0, 20) else (((scanG 0 s.data.toList).2 : Int), ((scanG 0 s.data.toList).1 : Int), 0)) := Lib.hid rfl
  rw [refNew_enc]
  generalize scanP s.data.toList = PP at *
  go_enter Tryz.func111, Tryz.ntmps111
  go_wp2_with fail
  have T0 : Ra w ((w.alloc (.cells #[.int .i64 0, .int .i64 0, .int .i64 0, .bool false, .bool false] 40 (0, 0))).alloc (.cells #[.int .i64 0, .int .u64 0] 166 (0, 0))) (satM 0) := by
    refine ⟨by go_grown, (heap_old' _ _ _ (by first | omega | (simp only [World.size_alloc, World.size_setCell, World.size_drew, size_drewN'] <;> omega)) (heap_new' _ _ _ (by first | omega | (simp only [World.size_alloc, World.size_setCell, World.size_drew, size_drewN'] <;> omega)))), ?_⟩
    rw [sat_id (Nat.zero_le _), sum_0.1, sum_0.2]
    exact (heap_new' _ _ _ (by first | omega | (simp only [World.size_alloc, World.size_setCell, World.size_drew, size_drewN'] <;> omega)))
  go_loopg [5, 7] 9 (fun n v5 v7 wr => ∃ (lo a V : Nat), v5 = .int .i64 a ∧ v7 = .int .i64 (lastV lo) ∧ a ≤ s.size ∧ lo + n = 9 ∧ lo ≤ 8 ∧
    Hid ((scanG 0 s.data.toList).1 = a + (scanG lo (s.data.toList.drop a)).1) ∧ Hid ((scanG 0 s.data.toList).2 = V + (scanG lo (s.data.toList.drop a)).2) ∧ Ra w wr (satM V))
  case atStart => exact ⟨0, 0, 0, rfl, rfl, Nat.zero_le _, rfl, by omega, Lib.hid (by simp), Lib.hid (by simp), T0⟩
  case round =>
    clear T0
    obtain ⟨lo, a, V, rfl, rfl, ha, hn, hlo, HS1, HS2, t⟩ := hrel
    have HN := Lib.hid hn
    clear hn
    have hT : (s.extract a s.size).data.toList = s.data.toList.drop a := ext_drop s a
    have hTs : (s.extract a s.size).size ≤ 140737488355328 := by simp; omega
    have sz := t.sz
    cases hp : partL (s.data.toList.drop a) with
    | none =>
      have hz0 : (scanG lo (s.data.toList.drop a)) = (0, 0) := scanG_none hp
      have HE1 : Hid ((scanG 0 s.data.toList).1 = a) := Lib.hid (by rw [HS1.out, hz0]; rfl)
      have HE2 : Hid ((scanG 0 s.data.toList).2 = V) := Lib.hid (by rw [HS2.out, hz0]; rfl)
      have CP := fun W => part_none hTs (by rw [hT]; exact hp) W
      clear hz0 hp hT hTs
      have tx := fun o => (show ∀ w1, Ra w w1 (satM V) → Ra w (World.alloc w1 o) (satM V) from fun w1 t1 => t1.next ((Below.refl _ _).alloc (Nat.le_refl _) _))
      by_cases hz : a = 0
      · have ha0 : ((a : Int) == 0) = true := by simp [hz]
        obtain rfl : PP = (0, 0, 40) := by rw [HPP.out, if_pos (by rw [HE1.out]; exact hz)]
        clear hz HPP HS1 HS2 HE1 HE2
        go_wp2_with (go_at_call 110; refine (CP _).mono ?_; rintro e w1 ⟨xq, rfl, hB1⟩; have t1 := t.next hB1; obtain ⟨k0, k1, f0, f1⟩ := t1.cells; have sz1 := t1.sz)
        have t2 := tx (.cells #[.int .i64 (sumH xq), .int .u64 (sumL xq)] 166 (0, 0)) _ t1
        refine (weirref01_New 40 _).mono ?_
        rintro e w2 ⟨rfl, hB2⟩
        have t3 := t2.next hB2
        have m1 := t3.hr
        have HT := fun v0 v1 v2 v3 v4 => bad_blk m1 v0 v1 v2 v3 v4
        have hB := t3.B
        rw [refNew_enc]
        have qk0 := blk_cell' (m1) 0
        have qf0 := blk_free' (m1) 0
        have qk1 := blk_cell' (m1) 1
        have qf1 := blk_free' (m1) 1
        have qk2 := blk_cell' (m1) 2
        have qf2 := blk_free' (m1) 2
        have qk3 := blk_cell' (m1) 3
        have qf3 := blk_free' (m1) 3
        have qk4 := blk_cell' (m1) 4
        have qf4 := blk_free' (m1) 4
        have sz3 := t3.sz
        clear m1 tx t3 t2 hB2
        go_wp2
        exact bodyPost_ret (results_three Tryz.results111 (res_tmp rfl) (res_tmp rfl) (res_cell (T' := 40) (fr := (0, 0)) rfl (HT _ _ _ _ _) Tryz.underlying40 rfl (by kernel_rfl))) rfl ⟨rfl, below_bad hB (Nat.le_refl _) _ _ _ _ _⟩
      have ha0 : ((a : Int) == 0) = false := by simpa using hz
      have hb := sum_bd (satM_le V)
      have CS := fun W => ref_Small (sumH (satM V)) (sumL (satM V)) hb.2.2.1 hb.2.2.2 W
      rw [small_sat] at CS
      by_cases hv : V ≤ 9223372036854775807
      case neg =>
        obtain rfl : PP = (0, 0, 20) := by rw [HPP.out, if_neg (by rw [HE1.out]; exact hz), if_pos (by rw [HE2.out]; omega)]
        rw [if_neg hv, refNew_enc] at CS
        clear hz hv HPP HS1 HS2 HE1 HE2 hb
        go_wp2_with (go_at_call 110; refine (CP _).mono ?_; rintro e w1 ⟨xq, rfl, hB1⟩; have t1 := t.next hB1; obtain ⟨k0, k1, f0, f1⟩ := t1.cells; have sz1 := t1.sz)
        have t2 := tx (.cells #[.int .i64 (sumH xq), .int .u64 (sumL xq)] 166 (0, 0)) _ t1
        refine (CS _).mono ?_
        rintro e w2 ⟨rfl, hB2⟩
        have t3 := t2.next hB2
        have t4 := tx (.cells #[.int .i64 20, .int .i64 0, .int .i64 0, .bool false, .bool false] 40 (0, 0)) _ t3
        have m1 := t4.hr
        have HT := fun v0 v1 v2 v3 v4 => bad_blk m1 v0 v1 v2 v3 v4
        have hB := t4.B
        have qk0 := blk_cell' (m1) 0
        have qf0 := blk_free' (m1) 0
        have qk1 := blk_cell' (m1) 1
        have qf1 := blk_free' (m1) 1
        have qk2 := blk_cell' (m1) 2
        have qf2 := blk_free' (m1) 2
        have qk3 := blk_cell' (m1) 3
        have qf3 := blk_free' (m1) 3
        have qk4 := blk_cell' (m1) 4
        have qf4 := blk_free' (m1) 4
        have sz3 := t3.sz
        clear m1 tx t4 t3 t2 hB2
        go_wp2
        go_region
        all_goals (try go_wp2)
        all_goals exact bodyPost_ret (results_three Tryz.results111 (res_tmp rfl) (res_tmp rfl) (res_cell (T' := 40) (fr := (0, 0)) rfl (HT _ _ _ _ _) Tryz.underlying40 rfl (by kernel_rfl))) rfl ⟨rfl, (by first | exact below_bad hB (Nat.le_refl _) _ _ _ _ _ | exact (below_bad hB (Nat.le_refl _) _ _ _ _ _).drew)⟩
      case pos =>
        obtain rfl : PP = ((V : Int), (a : Int), 0) := by rw [HPP.out, if_neg (by rw [HE1.out]; exact hz), if_neg (by rw [HE2.out]; omega), HE2.out, HE1.out]
        rw [if_pos hv, refNew_enc] at CS
        clear hz hv HPP HS1 HS2 HE1 HE2 hb
        go_wp2_with (go_at_call 110; refine (CP _).mono ?_; rintro e w1 ⟨xq, rfl, hB1⟩; have t1 := t.next hB1; obtain ⟨k0, k1, f0, f1⟩ := t1.cells; have sz1 := t1.sz)
        have t2 := tx (.cells #[.int .i64 (sumH xq), .int .u64 (sumL xq)] 166 (0, 0)) _ t1
        refine (CS _).mono ?_
        rintro e w2 ⟨rfl, hB2⟩
        have t3 := t2.next hB2
        have t4 := tx (.cells #[.int .i64 0, .int .i64 0, .int .i64 0, .bool false, .bool false] 40 (0, 0)) _ t3
        have m1 := t4.hr
        have HT := fun v0 v1 v2 v3 v4 => bad_blk m1 v0 v1 v2 v3 v4
        have hB := t4.B
        have qk0 := blk_cell' (m1) 0
        have qf0 := blk_free' (m1) 0
        have qk1 := blk_cell' (m1) 1
        have qf1 := blk_free' (m1) 1
        have qk2 := blk_cell' (m1) 2
        have qf2 := blk_free' (m1) 2
        have qk3 := blk_cell' (m1) 3
        have qf3 := blk_free' (m1) 3
        have qk4 := blk_cell' (m1) 4
        have qf4 := blk_free' (m1) 4
        have sz3 := t3.sz
        clear m1 tx t4 t3 t2 hB2
        go_wp2
        exact bodyPost_ret (results_three Tryz.results111 (res_tmp rfl) (res_tmp rfl) (res_cell (T' := 40) (fr := (0, 0)) rfl (HT _ _ _ _ _) Tryz.underlying40 rfl (by kernel_rfl))) rfl ⟨rfl, (by first | exact below_bad hB (Nat.le_refl _) _ _ _ _ _ | exact (below_bad hB (Nat.le_refl _) _ _ _ _ _).drew)⟩
    | some pr =>
      obtain ⟨u, n, v⟩ := pr
      have hpb := partL_some hp
      have CP := fun W => part_some hTs (by rw [hT]; exact hp) W
      have hli := last_iff lo u hpb.1 hlo
      by_cases hul : u < lo
      · have hz0 : (scanG lo (s.data.toList.drop a)) = (0, 0) := scanG_stop hp hul
        have HE1 : Hid ((scanG 0 s.data.toList).1 = a) := Lib.hid (by rw [HS1.out, hz0]; rfl)
        have HE2 : Hid ((scanG 0 s.data.toList).2 = V) := Lib.hid (by rw [HS2.out, hz0]; rfl)
        have hge : decide (lastV lo ≤ (unitV u : Int)) = true := by rw [decide_eq_true_iff]; exact hli.2 hul
        clear hz0 hp hT hTs hli hul hpb
        have tx := fun o => (show ∀ w1, Ra w w1 (satM V) → Ra w (World.alloc w1 o) (satM V) from fun w1 t1 => t1.next ((Below.refl _ _).alloc (Nat.le_refl _) _))
        by_cases hz : a = 0
        · have ha0 : ((a : Int) == 0) = true := by simp [hz]
          obtain rfl : PP = (0, 0, 40) := by rw [HPP.out, if_pos (by rw [HE1.out]; exact hz)]
          clear hz HPP HS1 HS2 HE1 HE2
          go_wp2_with (go_at_call 110; refine (CP _).mono ?_; rintro e w1 ⟨rfl, hB1⟩; have t1 := t.next hB1; obtain ⟨k0, k1, f0, f1⟩ := t1.cells; have sz1 := t1.sz)
          have t2 := tx (.cells #[.int .i64 (sumH (satM v)), .int .u64 (sumL (satM v))] 166 (0, 0)) _ t1
          refine (weirref01_New 40 _).mono ?_
          rintro e w2 ⟨rfl, hB2⟩
          have t3 := t2.next hB2
          have m1 := t3.hr
          have HT := fun v0 v1 v2 v3 v4 => bad_blk m1 v0 v1 v2 v3 v4
          have hB := t3.B
          rw [refNew_enc]
          have qk0 := blk_cell' (m1) 0
          have qf0 := blk_free' (m1) 0
          have qk1 := blk_cell' (m1) 1
          have qf1 := blk_free' (m1) 1
          have qk2 := blk_cell' (m1) 2
          have qf2 := blk_free' (m1) 2
          have qk3 := blk_cell' (m1) 3
          have qf3 := blk_free' (m1) 3
          have qk4 := blk_cell' (m1) 4
          have qf4 := blk_free' (m1) 4
          have sz3 := t3.sz
          clear m1 tx t3 t2 hB2
          go_wp2
          exact bodyPost_ret (results_three Tryz.results111 (res_tmp rfl) (res_tmp rfl) (res_cell (T' := 40) (fr := (0, 0)) rfl (HT _ _ _ _ _) Tryz.underlying40 rfl (by kernel_rfl))) rfl ⟨rfl, below_bad hB (Nat.le_refl _) _ _ _ _ _⟩
        have ha0 : ((a : Int) == 0) = false := by simpa using hz
        have hb := sum_bd (satM_le V)
        have CS := fun W => ref_Small (sumH (satM V)) (sumL (satM V)) hb.2.2.1 hb.2.2.2 W
        rw [small_sat] at CS
        by_cases hv : V ≤ 9223372036854775807
        case neg =>
          obtain rfl : PP = (0, 0, 20) := by rw [HPP.out, if_neg (by rw [HE1.out]; exact hz), if_pos (by rw [HE2.out]; omega)]
          rw [if_neg hv, refNew_enc] at CS
          clear hz hv HPP HS1 HS2 HE1 HE2 hb
          go_wp2_with (go_at_call 110; refine (CP _).mono ?_; rintro e w1 ⟨rfl, hB1⟩; have t1 := t.next hB1; obtain ⟨k0, k1, f0, f1⟩ := t1.cells; have sz1 := t1.sz)
          have t2 := tx (.cells #[.int .i64 (sumH (satM v)), .int .u64 (sumL (satM v))] 166 (0, 0)) _ t1
          refine (CS _).mono ?_
          rintro e w2 ⟨rfl, hB2⟩
          have t3 := t2.next hB2
          have t4 := tx (.cells #[.int .i64 20, .int .i64 0, .int .i64 0, .bool false, .bool false] 40 (0, 0)) _ t3
          have m1 := t4.hr
          have HT := fun v0 v1 v2 v3 v4 => bad_blk m1 v0 v1 v2 v3 v4
          have hB := t4.B
          have qk0 := blk_cell' (m1) 0
          have qf0 := blk_free' (m1) 0
          have qk1 := blk_cell' (m1) 1
          have qf1 := blk_free' (m1) 1
          have qk2 := blk_cell' (m1) 2
          have qf2 := blk_free' (m1) 2
          have qk3 := blk_cell' (m1) 3
          have qf3 := blk_free' (m1) 3
          have qk4 := blk_cell' (m1) 4
          have qf4 := blk_free' (m1) 4
          have sz3 := t3.sz
          clear m1 tx t4 t3 t2 hB2
          go_wp2
          go_region
          all_goals (try go_wp2)
          all_goals exact bodyPost_ret (results_three Tryz.results111 (res_tmp rfl) (res_tmp rfl) (res_cell (T' := 40) (fr := (0, 0)) rfl (HT _ _ _ _ _) Tryz.underlying40 rfl (by kernel_rfl))) rfl ⟨rfl, (by first | exact below_bad hB (Nat.le_refl _) _ _ _ _ _ | exact (below_bad hB (Nat.le_refl _) _ _ _ _ _).drew)⟩
        case pos =>
          obtain rfl : PP = ((V : Int), (a : Int), 0) := by rw [HPP.out, if_neg (by rw [HE1.out]; exact hz), if_neg (by rw [HE2.out]; omega), HE2.out, HE1.out]
          rw [if_pos hv, refNew_enc] at CS
          clear hz hv HPP HS1 HS2 HE1 HE2 hb
          go_wp2_with (go_at_call 110; refine (CP _).mono ?_; rintro e w1 ⟨rfl, hB1⟩; have t1 := t.next hB1; obtain ⟨k0, k1, f0, f1⟩ := t1.cells; have sz1 := t1.sz)
          have t2 := tx (.cells #[.int .i64 (sumH (satM v)), .int .u64 (sumL (satM v))] 166 (0, 0)) _ t1
          refine (CS _).mono ?_
          rintro e w2 ⟨rfl, hB2⟩
          have t3 := t2.next hB2
          have t4 := tx (.cells #[.int .i64 0, .int .i64 0, .int .i64 0, .bool false, .bool false] 40 (0, 0)) _ t3
          have m1 := t4.hr
          have HT := fun v0 v1 v2 v3 v4 => bad_blk m1 v0 v1 v2 v3 v4
          have hB := t4.B
          have qk0 := blk_cell' (m1) 0
          have qf0 := blk_free' (m1) 0
          have qk1 := blk_cell' (m1) 1
          have qf1 := blk_free' (m1) 1
          have qk2 := blk_cell' (m1) 2
          have qf2 := blk_free' (m1) 2
          have qk3 := blk_cell' (m1) 3
          have qf3 := blk_free' (m1) 3
          have qk4 := blk_cell' (m1) 4
          have qf4 := blk_free' (m1) 4
          have sz3 := t3.sz
          clear m1 tx t4 t3 t2 hB2
          go_wp2
          exact bodyPost_ret (results_three Tryz.results111 (res_tmp rfl) (res_tmp rfl) (res_cell (T' := 40) (fr := (0, 0)) rfl (HT _ _ _ _ _) Tryz.underlying40 rfl (by kernel_rfl))) rfl ⟨rfl, (by first | exact below_bad hB (Nat.le_refl _) _ _ _ _ _ | exact (below_bad hB (Nat.le_refl _) _ _ _ _ _).drew)⟩
      · have hge : decide (lastV lo ≤ (unitV u : Int)) = false := by rw [decide_eq_false_iff_not]; exact fun h => hul (hli.1 h)
        have hgo := scanG_go hp (show lo ≤ u by omega)
        rw [List.drop_drop] at hgo
        have hpl := hpb.2.2
        rw [List.length_drop, hsz] at hpl
        have HG : Hid ((scanG 0 s.data.toList).1 = (a + n) + (scanG (u + 1) (s.data.toList.drop (a + n))).1 ∧ (scanG 0 s.data.toList).2 = (V + v * unitV u) + (scanG (u + 1) (s.data.toList.drop (a + n))).2) := Lib.hid ⟨by rw [HS1.out, hgo]; show a + (_ + _) = _; omega, by rw [HS2.out, hgo]; show V + (_ + _) = _; omega⟩
        have hlu : lo ≤ u := by omega
        have hu7 := hpb.1
        have CT := fun W => ref_times (satM v) (unitV u) (satM_le _) (by have := unitV_le u; omega) W
        have CA := fun W => ref_plusU (satM V) (satM (satM v * unitV u)) (satM_le _) (satM_le _) W
        have HQ : Hid (satM (satM V + satM (satM v * unitV u)) = satM (V + v * unitV u)) := Lib.hid (by rw [sat_add, Nat.add_comm V, sat_add, Nat.add_comm _ V]; exact sat_mul V v (unitV u))
        generalize satM (satM V + satM (satM v * unitV u)) = R at *
        generalize satM (satM v * unitV u) = Q at *
        have hK : lastV (u + 1) = (unitV u : Int) := rfl
        have HK := Lib.hid hK
        generalize (unitV u : Int) = K at *
        clear hgo hp hT hTs hli hul hpb HS1 HS2 HPP hK
        go_wp2_with (go_at_call 110; refine (CP _).mono ?_; rintro e w1 ⟨rfl, hB1⟩; have t1 := t.next hB1; obtain ⟨k0, k1, f0, f1⟩ := t1.cells; have sz1 := t1.sz)
        have t2 : Ra w (w1.alloc (.cells #[.int .i64 (sumH (satM v)), .int .u64 (sumL (satM v))] 166 (0, 0))) (satM V) := t1.next ((Below.refl _ _).alloc (Nat.le_refl _) _)
        have hb2 : (w1.alloc (.cells #[.int .i64 (sumH (satM v)), .int .u64 (sumL (satM v))] 166 (0, 0))).heap[w1.heap.size]? = some (.cells #[.int .i64 (sumH (satM v)), .int .u64 (sumL (satM v))] 166 (0, 0)) := heap_new' _ _ _ rfl
        generalize w1.alloc (.cells #[.int .i64 (sumH (satM v)), .int .u64 (sumL (satM v))] 166 (0, 0)) = W at *
        have t2d : Ra w W.drew (satM V) := t2.next (Below.refl _ _).drew
        obtain ⟨c0, c1⟩ := cell2 hb2 (Below.refl _ _)
        obtain ⟨d0, d1⟩ := cell2 (w1 := W.drew) hb2 (Below.refl _ _).drew
        clear k0 k1 f0 f1
        obtain ⟨k0, k1, f0, f1⟩ := t2d.cells
        have sz2 := t2d.sz
        go_region_with (first | (go_at_call 134; (with_reducible refine (CT _).mono ?_); rintro e w2 ⟨rfl, hB2⟩; have t3 := t2d.next hB2; obtain ⟨k0, k1, f0, f1⟩ := t3.cells; have sz3 := t3.sz) | (go_at_call 132; (with_reducible refine (CA _).mono ?_); rintro e w3 ⟨rfl, hB3⟩; have t4 := t3.next hB3; obtain ⟨k0, k1, f0, f1⟩ := t4.cells; have sz4 := t4.sz))
        all_goals
          have t5 := t4.setv R
          go_wp2
          have HN' := HN.out
          go_roundg (gk - (u + 1 - lo))
          case measure => omega
          case rel => exact ⟨u + 1, a + n, V + v * unitV u, by go_num, by rw [HK.out], by omega, by omega, by omega, HG.out.1 |> Lib.hid, HG.out.2 |> Lib.hid, by rw [← HQ.out]; exact t5⟩
end Go.Proofs.YtmooibnedokllaaGreatDoor
