/- The reference's Parse of a span. -/
import Derived.Test.YtmooibnedokllaaGreatDoorSw12
import Derived.Test.YtmooibnedokllaaGreatDoorSw5
import Derived.Deep.DeepCutAuto
import Derived.Deep.CutBlock
namespace Go.Proofs.YtmooibnedokllaaGreatDoor
open Go.RowKit
set_option linter.unusedSimpArgs false
set_option linter.unusedVariables false

/-- The error's block of a walk through Parse. -/
structure Rb (w0 w : World) : Prop where
  B : Below w0.heap.size w0 w
  hr : w.heap[w0.heap.size]? = some (.cells #[.int .i64 0, .int .i64 0, .int .i64 0, .bool false, .bool false] 40 (0, 0))
theorem Rb.sz {w0 w : World} (t : Rb w0 w) : w0.heap.size < w.heap.size := blk_lt' t.hr
theorem Rb.next {w0 w w' : World} (t : Rb w0 w) (h : Below w.heap.size w w') : Rb w0 w' := ⟨t.B.trans (h.mono (by have := t.sz; omega)), below_blk h (blk_lt' t.hr) t.hr⟩
theorem Rb.alloc {w0 w : World} (t : Rb w0 w) (o : Obj) : Rb w0 (w.alloc o) := t.next ((Below.refl _ _).alloc (Nat.le_refl _) _)
theorem blk_drewn {w : World} {b : Nat} {o : Obj} (h : w.heap[b]? = some o) : w.drew.heap[b]? = some o := h
set_option maxRecDepth 100000 in
set_option maxHeartbeats 1000000 in
theorem ref_Parse (s : ByteArray) (hs : s.size ≤ 140737488355328) (w : World) :
    Calls Tryz.prog 89 #[.string s] w fun e w' => e = .returned (.tuple #[.int .i64 (parseP s.data.toList).1, (refNew (parseP s.data.toList).2).enc]) ∧ Below w.heap.size w w' := by
  rw [refNew_enc]
  have HQ : Hid (parseP s.data.toList = if (scanG 0 (bareL s.data.toList)).1 = 0 ∨ (scanG 0 (bareL s.data.toList)).1 ≠ (bareL s.data.toList).length then (0, 40) else if 9223372036854775807 < (scanG 0 (bareL s.data.toList)).2 then (0, 20) else (if belowL s.data.toList = true then -((scanG 0 (bareL s.data.toList)).2 : Int) else (scanG 0 (bareL s.data.toList)).2, 0)) := Lib.hid rfl
  generalize parseP s.data.toList = PP at *
  obtain ⟨BL, hBL⟩ : ∃ BL, BL = belowL s.data.toList := ⟨_, rfl⟩
  have HBL := Lib.hid hBL
  rw [← hBL] at HQ
  clear hBL
  have hnil : ∀ W, Rb W (W.alloc (.cells #[.int .i64 0, .int .i64 0, .int .i64 0, .bool false, .bool false] 40 (0, 0))) := fun W => ⟨by go_grown, heap_new' _ _ _ rfl⟩
  have T0 := Lib.hid (hnil w)
  clear hnil
  go_enter Tryz.func89, Tryz.ntmps89
  obtain ⟨W0, hW0⟩ : ∃ W0, W0 = w.alloc (.cells #[.int .i64 0, .int .i64 0, .int .i64 0, .bool false, .bool false] 40 (0, 0)) := ⟨_, rfl⟩
  have HW0 := Lib.hid hW0
  rw [← hW0] at T0
  clear hW0
  have HBT : Hid (BL = true → ∃ hp : 0 < s.size, bareL s.data.toList = (s.extract 1 s.size).data.toList) := Lib.hid (fun h => by
    by_cases hp : 0 < s.size
    · by_cases hc : (s[0]'hp).toNat = 45
      · exact ⟨hp, (bare_below hp hc).1⟩
      · have := (bare_above (s := s) (fun _ => hc)).2
        rw [← HBL.out, h] at this; cases this
    · have := (bare_above (s := s) (fun h => absurd h hp)).2
      rw [← HBL.out, h] at this; cases this)
  have HBF : Hid (BL = false → bareL s.data.toList = s.data.toList) := Lib.hid (fun h => by
    by_cases hp : 0 < s.size
    · by_cases hc : (s[0]'hp).toNat = 45
      · have := (bare_below hp hc).2
        rw [← HBL.out, h] at this; cases this
      · exact (bare_above (s := s) (fun _ => hc)).1
    · exact (bare_above (s := s) (fun h => absurd h hp)).1)
  go_upto_region 1 with (fail)
  go_cut [4] (fun v4 wc => v4 = .bool BL ∧ W0 = wc)
  case first =>
    by_cases hp : 0 < s.size
    · have hpd : decide ((0 : Int) < (s.size : Int)) = true := by simpa using hp
      by_cases hc : (s[0]'hp).toNat = 45
      · have hc' : (((s[0]'hp).toNat : Int) == 45) = true := by rw [hc]; rfl
        have hba := Lib.hid (bare_below hp hc)
        clear hc
        go_wp2_with fail
        go_meet
        case rel => exact ⟨by rw [HBL.out, hba.out.2], HW0.out⟩
      · have hc' : (((s[0]'hp).toNat : Int) == 45) = false := by simp; omega
        have hba := Lib.hid (bare_above (s := s) (fun _ => hc))
        clear hc
        go_wp2_with fail
        go_meet
        case rel => exact ⟨by rw [HBL.out, hba.out.2], HW0.out⟩
    · have hpd : decide ((0 : Int) < (s.size : Int)) = false := by simpa using hp
      have hba := Lib.hid (bare_above (s := s) (fun h => absurd h hp))
      go_wp2_with fail
      go_meet
      case rel => exact ⟨by rw [HBL.out, hba.out.2], HW0.out⟩
  case rest =>
    clear HW0 HBL
    obtain ⟨rfl, rfl⟩ := hcut
    go_upto_if 24 with (fail)
    go_cut [5] (fun v5 wc => ∃ T : ByteArray, v5 = .string T ∧ Hid (T.data.toList = bareL s.data.toList) ∧ T.size ≤ 140737488355328 ∧ Rb w wc)
    case first =>
      cases BL with
      | true =>
        obtain ⟨hp, hb⟩ := HBT.out rfl
        have HB := Lib.hid hb.symm
        clear hb HBT HBF
        go_wp2_with fail
        go_meet
        case rel => exact ⟨s.extract 1 s.size, rfl, HB, by simp; omega, T0.out⟩
      | false =>
        have HB := Lib.hid (HBF.out rfl).symm
        clear HBT HBF
        go_wp2_with fail
        go_meet
        case rel => exact ⟨s, rfl, HB, hs, T0.out⟩
    case rest =>
    clear T0 HBT HBF
    obtain ⟨T, rfl, HT, hT, t0⟩ := hcut
    have HQT : Hid (PP = if (scanG 0 T.data.toList).1 = 0 ∨ (scanG 0 T.data.toList).1 ≠ T.size then (0, 40) else if 9223372036854775807 < (scanG 0 T.data.toList).2 then (0, 20) else (if BL = true then -((scanG 0 T.data.toList).2 : Int) else ((scanG 0 T.data.toList).2 : Int), 0)) := Lib.hid (by rw [HQ.out, ← HT.out]; rfl)
    clear HQ HT
    go_upto_block 0 with (fail)
    go_cut [6] (fun v6 wc => v6 = .int .i64 ((scanG 0 T.data.toList).1 : Int) ∧ Rb w wc)
    case first =>
      clear HQT
      go_wp2_with fail
      go_loopg [6, 7] 9 (fun n v6 v7 wr => ∃ (lo a : Nat), v6 = .int .i64 (a : Int) ∧ v7 = .int .i64 (lastV lo) ∧ a ≤ T.size ∧ lo + n = 9 ∧ lo ≤ 8 ∧ Hid ((scanG 0 T.data.toList).1 = a + (scanG lo (T.data.toList.drop a)).1) ∧ Rb w wr)
      case atStart => exact ⟨0, 0, rfl, rfl, Nat.zero_le _, rfl, by omega, Lib.hid (by simp), t0⟩
      case round =>
        clear t0
        obtain ⟨lo, a, rfl, rfl, ha, hn, hlo, HS1, t⟩ := hrel
        have HN := Lib.hid hn
        clear hn
        have sz := t.sz
        by_cases hend : a = T.size
        · have hz0 : (scanG lo (T.data.toList.drop a)) = (0, 0) := by rw [List.drop_eq_nil_of_le (show T.data.toList.length ≤ a from Nat.le_of_eq hend.symm)]; exact scanG_none rfl
          have HE1 : Hid ((scanG 0 T.data.toList).1 = a) := Lib.hid (by rw [HS1.out, hz0]; rfl)
          have hlt : decide ((a : Int) < (T.size : Int)) = false := by rw [decide_eq_false_iff_not]; omega
          have hlt2 : ¬ a < T.size := by omega
          clear hz0 HS1 hend
          go_wp2_with fail
          go_meet
          case rel => exact ⟨by rw [HE1.out], t⟩
        · have hlt : decide ((a : Int) < (T.size : Int)) = true := by rw [decide_eq_true_iff]; omega
          have hlt2 : a < T.size := by omega
          have hTT : (T.extract a T.size).data.toList = T.data.toList.drop a := ext_drop _ a
          have hTs : (T.extract a T.size).size ≤ 140737488355328 := by simp; omega
          cases hp : partL (T.data.toList.drop a) with
          | none =>
            have hz0 : (scanG lo (T.data.toList.drop a)) = (0, 0) := scanG_none hp
            have HE1 : Hid ((scanG 0 T.data.toList).1 = a) := Lib.hid (by rw [HS1.out, hz0]; rfl)
            have CP := fun W => part_none hTs (by rw [hTT]; exact hp) W
            clear hz0 hp hTT hTs HS1 hend
            go_wp2_with (go_at_call 110; (with_reducible refine (CP _).mono ?_); rintro e w1 ⟨xq, rfl, hB1⟩; have t1 := t.next hB1; have sz1 := t1.sz)
            go_meet
            case rel => exact ⟨by rw [HE1.out], by first | exact t1.alloc _ | exact t1⟩
          | some pr =>
            obtain ⟨u, n, v⟩ := pr
            have hpb := partL_some hp
            have CP := fun W => part_some hTs (by rw [hTT]; exact hp) W
            have hli := last_iff lo u hpb.1 hlo
            by_cases hul : u < lo
            · have hz0 : (scanG lo (T.data.toList.drop a)) = (0, 0) := scanG_stop hp hul
              have HE1 : Hid ((scanG 0 T.data.toList).1 = a) := Lib.hid (by rw [HS1.out, hz0]; rfl)
              have hge : decide (lastV lo ≤ (unitV u : Int)) = true := by rw [decide_eq_true_iff]; exact hli.2 hul
              clear hz0 hp hTT hTs hli hul hpb HS1 hend
              go_wp2_with (go_at_call 110; (with_reducible refine (CP _).mono ?_); rintro e w1 ⟨rfl, hB1⟩; have t1 := t.next hB1; have sz1 := t1.sz)
              go_meet
              case rel => exact ⟨by rw [HE1.out], by first | exact t1.alloc _ | exact t1⟩
            · have hge : decide (lastV lo ≤ (unitV u : Int)) = false := by rw [decide_eq_false_iff_not]; exact fun h => hul (hli.1 h)
              have hgo := scanG_go hp (show lo ≤ u by omega)
              rw [List.drop_drop] at hgo
              have hpl := hpb.2.2
              rw [List.length_drop] at hpl
              have hpl2 : n ≤ T.size - a := hpl
              have HG : Hid ((scanG 0 T.data.toList).1 = (a + n) + (scanG (u + 1) (T.data.toList.drop (a + n))).1) := Lib.hid (by rw [HS1.out, hgo]; show a + (_ + _) = _; omega)
              have hlu : lo ≤ u := by omega
              have hu7 := hpb.1
              have hK : lastV (u + 1) = (unitV u : Int) := rfl
              have HK := Lib.hid hK
              generalize (unitV u : Int) = K at *
              clear hgo hp hTT hTs hli hul hpb HS1 hK hpl hend
              go_wp2_with (go_at_call 110; (with_reducible refine (CP _).mono ?_); rintro e w1 ⟨rfl, hB1⟩; have t1 := t.next hB1; have sz1 := t1.sz)
              have t2 := t1.alloc (.cells #[.int .i64 (sumH (satM v)), .int .u64 (sumL (satM v))] 166 (0, 0))
              have HN' := HN.out
              go_roundg (gk - (u + 1 - lo))
              case measure => omega
              case rel => exact ⟨u + 1, a + n, by go_num, by rw [HK.out], by omega, by omega, by omega, HG, t2⟩
    case rest =>
      clear t0
      obtain ⟨rfl, t⟩ := hcut
      have CS := fun W => ref_Scan T hT W
      have hsp : scanP T.data.toList = if (scanG 0 T.data.toList).1 = 0 then (0, 0, 40) else if 9223372036854775807 < (scanG 0 T.data.toList).2 then (0, 0, 20) else (((scanG 0 T.data.toList).2 : Int), ((scanG 0 T.data.toList).1 : Int), 0) := rfl
      have hle := scanG_len 0 T.data.toList
      rw [show T.data.toList.length = T.size from rfl] at hle
      generalize (scanG 0 T.data.toList).1 = N at *
      generalize (scanG 0 T.data.toList).2 = r2 at *
      have sz := t.sz
      by_cases hz : N = 0 ∨ N ≠ T.size
      · obtain rfl : PP = (0, 40) := by rw [HQT.out, if_pos hz]
        clear CS hsp HQT
        by_cases hz0 : N = 0
        · subst hz0
          clear hz hle
          go_wp2_with fail
          refine (weirref01_New 40 _).mono ?_
          rintro e w2 ⟨rfl, hB2⟩
          have t3 := t.next hB2
          have m1 := t3.hr
          have HT := fun v0 v1 v2 v3 v4 => bad_blk m1 v0 v1 v2 v3 v4
          have hB := t3.B
          rw [refNew_enc]
          have qk0 := blk_cell' (m1) 0
          have qf0 := blk_free' (m1) 0
          have qk1 := blk_cell' (m1) 1
          have qf1 := blk_free' (m1) 1
          have qk2 := blk_cell' (m1) 2
          have qf2 := blk_free' (m1) 2
          have qk3 := blk_cell' (m1) 3
          have qf3 := blk_free' (m1) 3
          have qk4 := blk_cell' (m1) 4
          have qf4 := blk_free' (m1) 4
          have sz3 := t3.sz
          clear m1 t3 t hB2
          go_wp2
          exact bodyPost_ret (results_two Tryz.results89 (res_tmp rfl) (res_cell (T' := 40) (fr := (0, 0)) rfl (HT _ _ _ _ _) Tryz.underlying40 rfl (by kernel_rfl))) rfl ⟨rfl, below_bad hB (Nat.le_refl _) _ _ _ _ _⟩
        · have ha0 : ((N : Int) == 0) = false := by simpa using hz0
          have ha2 : N < T.size := by rcases hz with h | h; exact absurd h hz0; omega
          have ha1 : decide ((N : Int) < (T.size : Int)) = true := by rw [decide_eq_true_iff]; omega
          clear hz hz0
          go_wp2_with fail
          refine (weirref01_New 40 _).mono ?_
          rintro e w2 ⟨rfl, hB2⟩
          have t3 := t.next hB2
          have m1 := t3.hr
          have HT := fun v0 v1 v2 v3 v4 => bad_blk m1 v0 v1 v2 v3 v4
          have hB := t3.B
          rw [refNew_enc]
          have qk0 := blk_cell' (m1) 0
          have qf0 := blk_free' (m1) 0
          have qk1 := blk_cell' (m1) 1
          have qf1 := blk_free' (m1) 1
          have qk2 := blk_cell' (m1) 2
          have qf2 := blk_free' (m1) 2
          have qk3 := blk_cell' (m1) 3
          have qf3 := blk_free' (m1) 3
          have qk4 := blk_cell' (m1) 4
          have qf4 := blk_free' (m1) 4
          have sz3 := t3.sz
          clear m1 t3 t hB2
          go_wp2
          exact bodyPost_ret (results_two Tryz.results89 (res_tmp rfl) (res_cell (T' := 40) (fr := (0, 0)) rfl (HT _ _ _ _ _) Tryz.underlying40 rfl (by kernel_rfl))) rfl ⟨rfl, below_bad hB (Nat.le_refl _) _ _ _ _ _⟩
      · have ez : ¬ N = 0 := fun h => hz (Or.inl h)
        have ea : N = T.size := by omega
        have ha0 : ((N : Int) == 0) = false := by simpa using ez
        have ha1 : decide ((N : Int) < (T.size : Int)) = false := by rw [ea]; simp
        have ha2 : ¬ N < T.size := by omega
        rw [if_neg ez] at hsp
        rw [hsp] at CS
        have HQ2 : Hid (PP = if 9223372036854775807 < r2 then (0, 20) else (if BL = true then -(r2 : Int) else (r2 : Int), 0)) := Lib.hid (by rw [HQT.out, if_neg hz])
        clear hz ez ea hsp HQT
        by_cases hv : 9223372036854775807 < r2
        · rw [if_pos hv, refNew_enc] at CS
          obtain rfl : PP = (0, 20) := by rw [HQ2.out, if_pos hv]
          clear hv HQ2
          go_wp2_with fail
          refine (CS _).mono ?_
          rintro e w2 ⟨rfl, hB2⟩
          have t3 := t.next hB2
          go_upto_region 15 with (fail)
          have m2 := heap_alloc_new w2 (.cells #[.int .i64 20, .int .i64 0, .int .i64 0, .bool false, .bool false] 40 (0, 0))
          have t4 := t3.alloc (.cells #[.int .i64 20, .int .i64 0, .int .i64 0, .bool false, .bool false] 40 (0, 0))
          have hne : w.heap.size ≠ w2.heap.size := Nat.ne_of_lt t3.sz
          clear t3 hB2 t
          generalize w2.alloc (.cells #[.int .i64 20, .int .i64 0, .int .i64 0, .bool false, .bool false] 40 (0, 0)) = W at *
          generalize w2.heap.size = g at *
          have m1 := t4.hr
          have HT := fun v0 v1 v2 v3 v4 => bad_blk m1 v0 v1 v2 v3 v4
          have HB := Lib.hid t4.B
          have qk0 := blk_cell' (m1) 0
          have qf0 := blk_free' (m1) 0
          have qk1 := blk_cell' (m1) 1
          have qf1 := blk_free' (m1) 1
          have qk2 := blk_cell' (m1) 2
          have qf2 := blk_free' (m1) 2
          have qk3 := blk_cell' (m1) 3
          have qf3 := blk_free' (m1) 3
          have qk4 := blk_cell' (m1) 4
          have qf4 := blk_free' (m1) 4
          have pk0 := blk_cell' (m2) 0
          have pf0 := blk_free' (m2) 0
          have pk1 := blk_cell' (m2) 1
          have pf1 := blk_free' (m2) 1
          have pk2 := blk_cell' (m2) 2
          have pf2 := blk_free' (m2) 2
          have pk3 := blk_cell' (m2) 3
          have pf3 := blk_free' (m2) 3
          have pk4 := blk_cell' (m2) 4
          have pf4 := blk_free' (m2) 4
          clear m1 m2 t4
          go_wp2_with fail
          go_region
          all_goals (try go_wp2)
          all_goals exact bodyPost_ret (results_two Tryz.results89 (res_tmp rfl) (res_cell (T' := 40) (fr := (0, 0)) rfl (blk_drewn (HT _ _ _ _ _)) Tryz.underlying40 rfl (by kernel_rfl))) rfl ⟨rfl, (below_bad HB.out (Nat.le_refl _) _ _ _ _ _).drew⟩
        · rw [if_neg hv, refNew_enc] at CS
          have hr2 : (r2 : Int) ≤ 9223372036854775807 := by omega
          cases BL with
          | true =>
            obtain rfl : PP = (-(r2 : Int), 0) := by rw [HQ2.out, if_neg hv, if_pos rfl]
            have hwr : wrap64 (-(r2 : Int)) = -(r2 : Int) := by unfold wrap64; omega
            clear hv HQ2
            go_wp2_with fail
            refine (CS _).mono ?_
            rintro e w2 ⟨rfl, hB2⟩
            have t3 := t.next hB2
            go_upto_region 15 with (fail)
            have m2 := heap_alloc_new w2 (.cells #[.int .i64 0, .int .i64 0, .int .i64 0, .bool false, .bool false] 40 (0, 0))
            have t4 := t3.alloc (.cells #[.int .i64 0, .int .i64 0, .int .i64 0, .bool false, .bool false] 40 (0, 0))
            have hne : w.heap.size ≠ w2.heap.size := Nat.ne_of_lt t3.sz
            clear t3 hB2 t
            generalize w2.alloc (.cells #[.int .i64 0, .int .i64 0, .int .i64 0, .bool false, .bool false] 40 (0, 0)) = W at *
            generalize w2.heap.size = g at *
            have m1 := t4.hr
            have HT := fun v0 v1 v2 v3 v4 => bad_blk m1 v0 v1 v2 v3 v4
            have HB := Lib.hid t4.B
            have qk0 := blk_cell' (m1) 0
            have qf0 := blk_free' (m1) 0
            have qk1 := blk_cell' (m1) 1
            have qf1 := blk_free' (m1) 1
            have qk2 := blk_cell' (m1) 2
            have qf2 := blk_free' (m1) 2
            have qk3 := blk_cell' (m1) 3
            have qf3 := blk_free' (m1) 3
            have qk4 := blk_cell' (m1) 4
            have qf4 := blk_free' (m1) 4
            have pk0 := blk_cell' (m2) 0
            have pf0 := blk_free' (m2) 0
            have pk1 := blk_cell' (m2) 1
            have pf1 := blk_free' (m2) 1
            have pk2 := blk_cell' (m2) 2
            have pf2 := blk_free' (m2) 2
            have pk3 := blk_cell' (m2) 3
            have pf3 := blk_free' (m2) 3
            have pk4 := blk_cell' (m2) 4
            have pf4 := blk_free' (m2) 4
            clear m1 m2 t4
            go_wp2
            exact bodyPost_ret (results_two Tryz.results89 (res_tmp rfl) (res_cell (T' := 40) (fr := (0, 0)) rfl (HT _ _ _ _ _) Tryz.underlying40 rfl (by kernel_rfl))) rfl ⟨rfl, below_bad HB.out (Nat.le_refl _) _ _ _ _ _⟩
          | false =>
            obtain rfl : PP = ((r2 : Int), 0) := by rw [HQ2.out, if_neg hv, if_neg (by decide)]
            clear hv HQ2
            go_wp2_with fail
            refine (CS _).mono ?_
            rintro e w2 ⟨rfl, hB2⟩
            have t3 := t.next hB2
            go_upto_region 15 with (fail)
            have m2 := heap_alloc_new w2 (.cells #[.int .i64 0, .int .i64 0, .int .i64 0, .bool false, .bool false] 40 (0, 0))
            have t4 := t3.alloc (.cells #[.int .i64 0, .int .i64 0, .int .i64 0, .bool false, .bool false] 40 (0, 0))
            have hne : w.heap.size ≠ w2.heap.size := Nat.ne_of_lt t3.sz
            clear t3 hB2 t
            generalize w2.alloc (.cells #[.int .i64 0, .int .i64 0, .int .i64 0, .bool false, .bool false] 40 (0, 0)) = W at *
            generalize w2.heap.size = g at *
            have m1 := t4.hr
            have HT := fun v0 v1 v2 v3 v4 => bad_blk m1 v0 v1 v2 v3 v4
            have HB := Lib.hid t4.B
            have qk0 := blk_cell' (m1) 0
            have qf0 := blk_free' (m1) 0
            have qk1 := blk_cell' (m1) 1
            have qf1 := blk_free' (m1) 1
            have qk2 := blk_cell' (m1) 2
            have qf2 := blk_free' (m1) 2
            have qk3 := blk_cell' (m1) 3
            have qf3 := blk_free' (m1) 3
            have qk4 := blk_cell' (m1) 4
            have qf4 := blk_free' (m1) 4
            have pk0 := blk_cell' (m2) 0
            have pf0 := blk_free' (m2) 0
            have pk1 := blk_cell' (m2) 1
            have pf1 := blk_free' (m2) 1
            have pk2 := blk_cell' (m2) 2
            have pf2 := blk_free' (m2) 2
            have pk3 := blk_cell' (m2) 3
            have pf3 := blk_free' (m2) 3
            have pk4 := blk_cell' (m2) 4
            have pf4 := blk_free' (m2) 4
            clear m1 m2 t4
            go_wp2
            exact bodyPost_ret (results_two Tryz.results89 (res_tmp rfl) (res_cell (T' := 40) (fr := (0, 0)) rfl (HT _ _ _ _ _) Tryz.underlying40 rfl (by kernel_rfl))) rfl ⟨rfl, below_bad HB.out (Nat.le_refl _) _ _ _ _ _⟩
end Go.Proofs.YtmooibnedokllaaGreatDoor
