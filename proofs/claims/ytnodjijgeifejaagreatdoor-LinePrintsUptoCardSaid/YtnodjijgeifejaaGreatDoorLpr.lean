/- LinePrints: every points: each as a line, all as lines, or the error; what is handed in stays. (weirref06.All first.) -/
import Derived.Test.YtnodjijgeifejaaGreatDoorRpr
import Derived.Test.YtnodjijgeifejaaGreatDoorHandQ
import Derived.Test.YtnodjijgeifejaaGreatDoorLbk
namespace Go.Proofs.YtnodjijgeifejaaGreatDoor
open Go.RowKit
set_option linter.unusedSimpArgs false
set_option linter.unusedVariables false

def allB : Sum (List UInt8) (Nat × Int) → Bad
  | .inl _ => .nil
  | .inr (k, c) => refIn k (refNew c)
set_option maxRecDepth 100000 in
set_option maxHeartbeats 2000000 in
theorem ref_All (l : List Pt) (A : Option Addr) (c : Nat) (w : World) (L : Lay w) (hp : PtsAt w A l) (hok : ∀ p ∈ l, PtOk p) (hn : l.length ≤ 262144) :
    Calls Tryz.prog 13 #[.slice A l.length c] w fun ev w' => ev = .returned (.tuple #[.string (allS (allQ 0 l [])), (allB (allQ 0 l [])).enc]) ∧ Below w.heap.size w w' := by
  have hup := Tryz.underlying32
  have hub := Tryz.underlying35
  obtain ⟨R, hR⟩ : ∃ R, R = allQ 0 l [] := ⟨_, rfl⟩
  rw [← hR]
  have HR : Hid (allQ 0 (l.drop 0) [] = R) := Lib.hid hR.symm
  obtain ⟨V, hV⟩ : ∃ V, V = allS R := ⟨_, rfl⟩
  obtain ⟨E, hE⟩ : ∃ E, E = (allB R).enc := ⟨_, rfl⟩
  rw [← hV, ← hE]
  have HV := Lib.hid hV
  have HE := Lib.hid hE
  have HP := Lib.hid hp
  have HO := Lib.hid hok
  obtain ⟨n, hnl⟩ : ∃ n, l.length = n := ⟨_, rfl⟩
  have HN := Lib.hid hnl
  rw [hnl] at hn ⊢
  have K0 := Lib.hid (K1.first (.cells #[.int .i64 0, .int .i64 0, .int .i64 0, .bool false, .bool false] 35 (0, 0)) w)
  clear hR hV hE hp hok hnl
  go_enter Tryz.func13, Tryz.ntmps13
  go_wp2_with fail
  go_loopg [4, 5] n (fun g v4 v5 wr => ∃ (i : Nat) (t : ByteArray), v4 = .string t ∧ v5 = .int .i64 (i : Int) ∧ i + g = n ∧ t.size ≤ i * 8193 ∧ Hid (allQ i (l.drop i) t.data.toList = R) ∧ Hid (K1 w.heap.size (.cells #[.int .i64 0, .int .i64 0, .int .i64 0, .bool false, .bool false] 35 (0, 0)) w wr))
  case atStart => exact ⟨0, _, rfl, rfl, by omega, Nat.le_refl 0, HR, K0⟩
  case round =>
    clear K0 HR
    obtain ⟨i, t, rfl, rfl, hg, hts, HQ, KK⟩ := hrel
    by_cases hi : i < n
    · have kl : decide ((i : Int) < (n : Int)) = true := by rw [decide_eq_true_iff]; omega
      have hil : i < l.length := by rw [HN.out]; exact hi
      have hst := allQ_step hil t.data.toList
      rw [HQ.out] at hst
      have hpo := HO.out _ (List.getElem_mem hil)
      obtain ⟨a0, rfl, C⟩ := (HP.out.next KK.out.B).cells (by rw [HN.out]; omega)
      obtain ⟨At, ct, Af, cf, x⟩ := C i hil
      have CPr := fun w L h => ref_Print (l[i]'hil) At ct Af cf w L h hpo
      have hpc := printP_three l[i]
      generalize l[i] = p at x hst CPr hpc
      have X := Lib.hid x
      obtain ⟨x0, x1, x2, x3, -, -⟩ := x
      have LW := Lib.hid (L.below KK.out.B)
      rcases hpc with ⟨u, hu, hus⟩ | hbad
      · have CPr2 : Hid (Calls Tryz.prog 10 #[.agg #[.string p.m, .slice At p.tags.length ct, .slice Af p.fields.length cf, .int .i64 p.time]] wr fun ev w' => ev = .returned (.tuple #[.string u, .agg #[.int .i64 0, .int .i64 0, .int .i64 0, .bool false, .bool false]]) ∧ Below wr.heap.size wr w') := Lib.hid (by
          have h := CPr wr LW.out X.out.val
          rw [hu] at h
          exact h)
        rw [hu] at hst
        simp only at hst
        have h10 : (⟨#[10]⟩ : ByteArray).size = 1 := rfl
        have HST : Hid (allQ (i + 1) (l.drop (i + 1)) (t ++ (u ++ ⟨#[10]⟩)).data.toList = R) := Lib.hid (by
          rw [hst, data_app, data_app])
        have y1 : ¬ 9223372036854775807 < u.size + 1 := by omega
        have y2 : ¬ 9223372036854775807 < t.size + (u.size + 1) := by omega
        clear hst hu CPr HQ C
        go_wp2_with fail
        refine (CPr2.out).mono ?_
        rintro ev w2 ⟨rfl, hB⟩
        have K2 := Lib.hid (KK.out.next (hB.alloc hB.size (.cells #[.int .i64 0, .int .i64 0, .int .i64 0, .bool false, .bool false] 35 (0, 0))))
        have q := heap_alloc_new w2 (.cells #[.int .i64 0, .int .i64 0, .int .i64 0, .bool false, .bool false] 35 (0, 0))
        clear hB KK LW X CPr2 x0 x1 x2 x3
        have qk0 := blk_cell' (q) 0
        have qf0 := blk_free' (q) 0
        have qk1 := blk_cell' (q) 1
        have qf1 := blk_free' (q) 1
        have qk2 := blk_cell' (q) 2
        have qf2 := blk_free' (q) 2
        have qk3 := blk_cell' (q) 3
        have qf3 := blk_free' (q) 3
        have qk4 := blk_cell' (q) 4
        have qf4 := blk_free' (q) 4
        go_wp2_with fail
        go_roundg (gk - 1)
        case measure => omega
        case rel => exact ⟨i + 1, _, rfl, by go_num, by omega, by rw [ByteArray.size_append, ByteArray.size_append, h10]; omega, HST, K2⟩
      · obtain ⟨cc, hcc, hcn⟩ : ∃ cc : Int, printP p = .inr cc ∧ (cc != 0) = true := by
          rcases hbad with ⟨h, _⟩ | ⟨h, _⟩
          · exact ⟨6, h, rfl⟩
          · exact ⟨60, h, rfl⟩
        have hcn2 : (cc == 0) = false := by simpa using hcn
        have CPr2 : Hid (Calls Tryz.prog 10 #[.agg #[.string p.m, .slice At p.tags.length ct, .slice Af p.fields.length cf, .int .i64 p.time]] wr fun ev w' => ev = .returned (.tuple #[.string ⟨#[]⟩, .agg #[.int .i64 cc, .int .i64 0, .int .i64 0, .bool false, .bool false]]) ∧ Below wr.heap.size wr w') := Lib.hid (by
          have h := CPr wr LW.out X.out.val
          rw [hcc] at h
          exact h)
        rw [hcc] at hst
        simp only at hst
        have HV2 := Lib.hid (show V = ⟨#[]⟩ by rw [HV.out, hst]; rfl)
        have CI : Hid (∀ w, Calls Tryz.prog 37 #[.int .i64 (i : Int), .agg #[.int .i64 cc, .int .i64 0, .int .i64 0, .bool false, .bool false]] w fun ev w' => ev = .returned E ∧ Below w.heap.size w w') := Lib.hid (fun w => by
          have h := weirref01_In (i : Int) (refNew cc) w
          have e : E = (refIn (i : Int) (refNew cc)).enc := by rw [HE.out, hst]; rfl
          rw [← e] at h
          exact h)
        obtain ⟨e0, e1, e2, e3, e4, hE2⟩ : ∃ (e0 e1 e2 : Int) (e3 e4 : Bool), E = .agg #[.int .i64 e0, .int .i64 e1, .int .i64 e2, .bool e3, .bool e4] := ⟨_, _, _, _, _, by rw [HE.out]; rfl⟩
        subst hE2
        clear hst hcc CPr HQ C hbad HE
        go_wp2_with fail
        refine (CPr2.out).mono ?_
        rintro ev w2 ⟨rfl, hB⟩
        have K2 := Lib.hid (KK.out.next (hB.alloc hB.size (.cells #[.int .i64 cc, .int .i64 0, .int .i64 0, .bool false, .bool false] 35 (0, 0))))
        have q := heap_alloc_new w2 (.cells #[.int .i64 cc, .int .i64 0, .int .i64 0, .bool false, .bool false] 35 (0, 0))
        clear hB KK LW X CPr2 x0 x1 x2 x3
        have qk0 := blk_cell' (q) 0
        have qf0 := blk_free' (q) 0
        have qk1 := blk_cell' (q) 1
        have qf1 := blk_free' (q) 1
        have qk2 := blk_cell' (q) 2
        have qf2 := blk_free' (q) 2
        have qk3 := blk_cell' (q) 3
        have qf3 := blk_free' (q) 3
        have qk4 := blk_cell' (q) 4
        have qf4 := blk_free' (q) 4
        go_wp2_with fail
        refine (CI.out _).mono ?_
        rintro ev w3 ⟨rfl, hB⟩
        have K3 := Lib.hid (K2.out.next hB)
        clear hB K2 q qk0 qk1 qk2 qk3 qk4 qf0 qf1 qf2 qf3 qf4
        have rk0 := blk_cell' (K3.out.blk) 0
        have rf0 := blk_free' (K3.out.blk) 0
        have rk1 := blk_cell' (K3.out.blk) 1
        have rf1 := blk_free' (K3.out.blk) 1
        have rk2 := blk_cell' (K3.out.blk) 2
        have rf2 := blk_free' (K3.out.blk) 2
        have rk3 := blk_cell' (K3.out.blk) 3
        have rf3 := blk_free' (K3.out.blk) 3
        have rk4 := blk_cell' (K3.out.blk) 4
        have rf4 := blk_free' (K3.out.blk) 4
        go_wp2_with fail
        refine bodyPost_ret (results_two Tryz.results13 (res_tmp rfl) (res_cell (b := w.heap.size) (T' := 35) (fr := (0, 0)) rfl (bad_blk K3.out.blk _ _ _ _ _) Tryz.underlying35 rfl (by kernel_rfl))) rfl ?_
        exact ⟨by rw [HV2.out]; rfl, below_bad K3.out.B (Nat.le_refl _) _ _ _ _ _⟩
    · have kl : decide ((i : Int) < (n : Int)) = false := by rw [decide_eq_false_iff_not]; omega
      have hd : l.drop i = [] := List.drop_eq_nil_iff.2 (by rw [HN.out]; omega)
      have hq := HQ.out
      rw [hd] at hq
      have hR2 : R = .inl t.data.toList := hq.symm
      have HV2 := Lib.hid (show V = t by rw [HV.out, hR2]; exact bytes_ext rfl)
      have HE2 := Lib.hid (show E = .agg #[.int .i64 0, .int .i64 0, .int .i64 0, .bool false, .bool false] by rw [HE.out, hR2]; rfl)
      clear hd hq hR2
      have rk0 := blk_cell' (KK.out.blk) 0
      have rf0 := blk_free' (KK.out.blk) 0
      have rk1 := blk_cell' (KK.out.blk) 1
      have rf1 := blk_free' (KK.out.blk) 1
      have rk2 := blk_cell' (KK.out.blk) 2
      have rf2 := blk_free' (KK.out.blk) 2
      have rk3 := blk_cell' (KK.out.blk) 3
      have rf3 := blk_free' (KK.out.blk) 3
      have rk4 := blk_cell' (KK.out.blk) 4
      have rf4 := blk_free' (KK.out.blk) 4
      go_wp2_with fail
      refine bodyPost_ret (results_two Tryz.results13 (res_tmp rfl) (res_cell (b := w.heap.size) (T' := 35) (fr := (0, 0)) rfl (bad_blk KK.out.blk _ _ _ _ _) Tryz.underlying35 rfl (by kernel_rfl))) rfl ?_
      exact ⟨by rw [HV2.out, HE2.out]; rfl, below_bad KK.out.B (Nat.le_refl _) _ _ _ _ _⟩
theorem same_print (X : Sum ByteArray Int) : same (printE X) (printB X) = true := by
  rcases X with t | c
  · rfl
  · by_cases h : c = 0
    · subst h; rfl
    · simp [same, printE, printB, mkE, refNew, h, Er.code?, Er.at?, Er.in?, atPos, inPos]
theorem same_all (X : Sum (List UInt8) (Nat × Int)) : same (allE X) (allB X) = true := by
  rcases X with t | ⟨k, c⟩
  · rfl
  · by_cases h : c = 0
    · subst h; rfl
    · simp [same, allE, allB, mkIn, mkE, refIn, refNew, h, Er.code?, Er.at?, Er.in?, atPos, inPos]
set_option maxRecDepth 100000 in
set_option maxHeartbeats 2000000 in
theorem prints_true (l : List Pt) (A : Option Addr) (c : Nat) (w : World) (L : LayM w) (hp : PtsAt w A l) (hok : ∀ p ∈ l, PtOk p) (hn : l.length ≤ 209716) :
    Calls Tryz.prog 3 #[.slice A l.length c] w fun ev w' => ev = .returned (.bool true) ∧ Below w.heap.size w w' := by
  have hup := Tryz.underlying32
  have hub := Tryz.underlying35
  obtain ⟨R, hR⟩ : ∃ R, R = allQ 0 l [] := ⟨_, rfl⟩
  have hbk : ∀ p ∈ l, ptBulk p ≤ 1048576 := fun p h => (hok p h).bulk
  have CH := mem_HandPoints A c l
  have CA := fun B d w L h => line_All l B d w L h hok (by omega)
  have CB := fun w L h => ref_All l A c w L h hok (by omega)
  have CK := fun g d w h h1 => mem_KeptPoints g A d l w h h1 (by omega) hbk
  have CS := fun w h => weirboth_Same (allE R) (allB R) w h
  rw [same_all R] at CS
  rw [← hR] at CA CB
  have LV := Lib.hid (fun w L => live_true w L)
  have HP := Lib.hid hp
  have HO := Lib.hid hok
  have HK := Lib.hid hbk
  obtain ⟨n, hnl⟩ : ∃ n, l.length = n := ⟨_, rfl⟩
  have HN := Lib.hid hnl
  rw [hnl] at hn CA CB CK ⊢
  have CH : Hid (∀ w, PtsAt w A l → Calls Tryz.prog 8 #[.slice A n c] w fun ev w' => ∃ g, ev = .returned (.slice (some ⟨g, 0, none⟩) n (n + 9)) ∧ w.heap.size ≤ g ∧ HandPts w' g l ∧ Below w.heap.size w w') := Lib.hid (fun w h => by
    have h := CH w h (by omega) hbk
    rw [hnl] at h
    exact h)
  have CA := Lib.hid CA
  have CB := Lib.hid CB
  have CK := Lib.hid CK
  obtain ⟨V, hV⟩ : ∃ V, V = encE (allE R) := ⟨_, rfl⟩
  obtain ⟨bc, bp, bi, bpl, bnu, hbd⟩ : ∃ bc bp bi bpl bnu, allB R = ⟨bc, bp, bi, bpl, bnu⟩ := ⟨_, _, _, _, _, rfl⟩
  have CA : Hid (∀ B d w, Lay w → PtsAt w B l → Calls Tryz.prog 12 #[.slice B n d] w fun ev w' => ev = .returned (.tuple #[.string (allS R), V]) ∧ Below w.heap.size w w') := Lib.hid (by rw [hV]; exact CA.out)
  have CB : Hid (∀ w, Lay w → PtsAt w A l → Calls Tryz.prog 13 #[.slice A n c] w fun ev w' => ev = .returned (.tuple #[.string (allS R), .agg #[.int .i64 bc, .int .i64 bp, .int .i64 bi, .bool bpl, .bool bnu]]) ∧ Below w.heap.size w w') := Lib.hid (fun w L h => by
    have h := CB.out w L h
    rw [hbd] at h
    exact h)
  have CS : Hid (∀ w, HG w → Calls Tryz.prog 11 #[V, .agg #[.int .i64 bc, .int .i64 bp, .int .i64 bi, .bool bpl, .bool bnu]] w fun ev w' => ev = .returned (.bool true) ∧ Below w.heap.size w w') := Lib.hid (fun w hg => by
    have h := CS w hg
    rw [hbd, ← hV] at h
    exact h)
  obtain ⟨T, hT⟩ : ∃ T, T = allS R := ⟨_, rfl⟩
  rw [← hT] at CA CB
  clear hR hp hok hnl hbk hV hbd hT
  go_enter Tryz.func3, Tryz.ntmps3
  go_wp2_with fail
  refine (LV.out _ L.S).mono ?_
  rintro ev w1 ⟨rfl, B1⟩
  have HB1 := Lib.hid B1
  have HP1 := Lib.hid (HP.out.next B1)
  clear B1 LV
  go_wp2_with fail
  refine (CH.out _ HP1.out).mono ?_
  rintro ev w2 ⟨g, rfl, hg0, hH, hB⟩
  have HB2 := Lib.hid (HB1.out.trans (hB.mono HB1.out.size))
  have HH := Lib.hid hH
  have G0 := Lib.hid (show w.heap.size ≤ g from Nat.le_trans HB1.out.size hg0)
  clear hH hB hg0 HB1 HP1 CH
  obtain ⟨N, hN⟩ : ∃ N, n + 9 = N := ⟨_, rfl⟩
  rw [hN]
  have CK : Hid (∀ d w, HandPts w g l → PtsAt w A l → Calls Tryz.prog 14 #[.slice (some ⟨g, 0, none⟩) n N, .slice A n d] w fun ev w' => ev = .returned (.bool true) ∧ Below w.heap.size w w') := Lib.hid (by rw [← hN]; exact fun d w h h1 => CK.out g d w h h1)
  clear hN
  go_upto_block 0 with (fail)
  go_cut [4] (fun v4 wc => Hid (Below w2.heap.size w2 wc))
  case first =>
    go_wp2_with fail
    go_loopg [4] n (fun g v4 wr => ∃ i : Nat, v4 = .int .i64 (i : Int) ∧ i + g = n ∧ Hid (Below w2.heap.size w2 wr))
    case atStart => exact ⟨0, rfl, by omega, Lib.hid (Below.refl _ _)⟩
    case round =>
      obtain ⟨i, rfl, hg, HB⟩ := hrel
      by_cases hi : i < n
      · have kl : decide ((i : Int) < (n : Int)) = true := by rw [decide_eq_true_iff]; omega
        have hil : i < l.length := by rw [HN.out]; exact hi
        have hpo := HO.out _ (List.getElem_mem hil)
        have HBW := Lib.hid (HB2.out.trans (HB.out.mono HB2.out.size))
        obtain ⟨a0, rfl, C⟩ := (HP.out.next HBW.out).cells (by rw [HN.out]; omega)
        obtain ⟨At, ct, Af, cf, x⟩ := C i hil
        obtain ⟨a1, ha1, D⟩ := ((HH.out.next HB.out).at (by have := HN.out; omega) HK.out).cells (by rw [HN.out]; omega)
        obtain rfl : (⟨g, 0, none⟩ : Addr) = a1 := Option.some.inj ha1
        obtain ⟨Bt, dt, Bf, df, y⟩ := D i hil
        rw [addF] at y
        have CPr := fun w L h => line_Print (l[i]'hil) Bt dt Bf df w L h hpo.fit (lineL_bulk hpo.fit hpo.bulk)
        have CRr := fun w L h => ref_Print (l[i]'hil) At ct Af cf w L h hpo
        generalize l[i] = p at x y CPr CRr
        obtain ⟨X, hX⟩ : ∃ X, X = printP p := ⟨_, rfl⟩
        rw [← hX] at CPr CRr
        have CSp := fun w h => weirboth_Same (printE X) (printB X) w h
        rw [same_print X] at CSp
        clear hX
        generalize printE X = pe at *
        generalize printS X = ps at *
        obtain ⟨pb, hpb⟩ : ∃ pb, pb = printB X := ⟨_, rfl⟩
        rw [← hpb] at CRr CSp
        clear hpb
        obtain ⟨PE, hPE⟩ : ∃ v, v = encE pe := ⟨_, rfl⟩
        rw [← hPE] at CPr CSp
        clear hPE
        obtain ⟨pc, pp, pi, ppl, pnu⟩ := pb
        simp only [Bad.enc] at CRr CSp
        have CPr := Lib.hid CPr
        have CRr := Lib.hid CRr
        have CSp := Lib.hid CSp
        have HX := Lib.hid x
        have HY := Lib.hid y
        obtain ⟨y0, y1, y2, y3, -, -⟩ := y
        have hiN : (i : Int) < (N : Int) ∨ True := .inr trivial
        have LW := Lib.hid (L.below HBW.out)
        have p0 : (0 : Int) ≤ (i : Int) := by omega
        have p1 : (i : Int) < (n : Int) := by omega
        clear C D x hpo hiN
        go_wp2_with fail
        refine (CPr.out _ LW.out.S.L HY.out.val).mono ?_
        rintro ev w3 ⟨rfl, hB⟩
        have HX3 := Lib.hid (HX.out.next hB)
        have HB3 := Lib.hid (HB.out.trans (hB.mono HB.out.size))
        have LW3 := Lib.hid (L.below (HB2.out.trans (HB3.out.mono HB2.out.size)))
        obtain ⟨x0, x1, x2, x3, -, -⟩ := HX3.out
        clear hB HX HB LW HY HBW CPr y0 y1 y2 y3
        go_wp2_with fail
        refine (CRr.out _ LW3.out.S.L HX3.out.val).mono ?_
        rintro ev w4 ⟨rfl, hB⟩
        have HB4 := Lib.hid (HB3.out.trans ((hB.alloc hB.size (.cells #[.int .i64 pc, .int .i64 pp, .int .i64 pi, .bool ppl, .bool pnu] 35 (0, 0))).mono HB3.out.size))
        have LW4 := Lib.hid (L.below (HB2.out.trans (HB4.out.mono HB2.out.size)))
        have q := heap_alloc_new w4 (.cells #[.int .i64 pc, .int .i64 pp, .int .i64 pi, .bool ppl, .bool pnu] 35 (0, 0))
        clear hB HX3 HB3 LW3 CRr x0 x1 x2 x3
        have qk0 := blk_cell' (q) 0
        have qf0 := blk_free' (q) 0
        have qk1 := blk_cell' (q) 1
        have qf1 := blk_free' (q) 1
        have qk2 := blk_cell' (q) 2
        have qf2 := blk_free' (q) 2
        have qk3 := blk_cell' (q) 3
        have qf3 := blk_free' (q) 3
        have qk4 := blk_cell' (q) 4
        have qf4 := blk_free' (q) 4
        go_wp2_with fail
        refine (CSp.out _ LW4.out.S.L.hg).mono ?_
        rintro ev w5 ⟨rfl, hB⟩
        have HB5 := Lib.hid (HB4.out.trans (hB.mono HB4.out.size))
        clear hB HB4 LW4 q qk0 qk1 qk2 qk3 qk4 qf0 qf1 qf2 qf3 qf4 CSp
        go_wp2_with fail
        go_roundg (gk - 1)
        case measure => omega
        case rel => exact ⟨i + 1, by go_num, by omega, HB5⟩
      · have kl : decide ((i : Int) < (n : Int)) = false := by rw [decide_eq_false_iff_not]; omega
        go_wp2_with fail
        go_meet
        case rel => exact HB
  case rest =>
    have HB := hcut
    clear hcut
    have HBW := Lib.hid (HB2.out.trans (HB.out.mono HB2.out.size))
    have LW := Lib.hid (L.below HBW.out)
    have HA := Lib.hid ((HH.out.next HB.out).at (by have := HN.out; omega) HK.out)
    go_wp2_with fail
    refine (CA.out _ _ _ LW.out.S.L HA.out).mono ?_
    rintro ev w3 ⟨rfl, hB⟩
    have HB3 := Lib.hid (HB.out.trans (hB.mono HB.out.size))
    have HBW3 := Lib.hid (HB2.out.trans (HB3.out.mono HB2.out.size))
    have LW3 := Lib.hid (L.below HBW3.out)
    have HP3 := Lib.hid (HP.out.next HBW3.out)
    clear hB HB HBW LW HA CA
    go_wp2_with fail
    refine (CB.out _ LW3.out.S.L HP3.out).mono ?_
    rintro ev w4 ⟨rfl, hB⟩
    have HB4 := Lib.hid (HB3.out.trans ((hB.alloc hB.size (.cells #[.int .i64 bc, .int .i64 bp, .int .i64 bi, .bool bpl, .bool bnu] 35 (0, 0))).mono HB3.out.size))
    have LW4 := Lib.hid (L.below (HB2.out.trans (HB4.out.mono HB2.out.size)))
    have q := heap_alloc_new w4 (.cells #[.int .i64 bc, .int .i64 bp, .int .i64 bi, .bool bpl, .bool bnu] 35 (0, 0))
    clear hB HP3 HB3 LW3 HBW3 CB
    have qk0 := blk_cell' (q) 0
    have qf0 := blk_free' (q) 0
    have qk1 := blk_cell' (q) 1
    have qf1 := blk_free' (q) 1
    have qk2 := blk_cell' (q) 2
    have qf2 := blk_free' (q) 2
    have qk3 := blk_cell' (q) 3
    have qf3 := blk_free' (q) 3
    have qk4 := blk_cell' (q) 4
    have qf4 := blk_free' (q) 4
    go_wp2_with fail
    refine (CS.out _ LW4.out.S.L.hg).mono ?_
    rintro ev w5 ⟨rfl, hB⟩
    have HB5 := Lib.hid (HB4.out.trans (hB.mono HB4.out.size))
    have HBW5 := Lib.hid (HB2.out.trans (HB5.out.mono HB2.out.size))
    have HP5 := Lib.hid (HP.out.next HBW5.out)
    have HH5 := Lib.hid (HH.out.next HB5.out)
    clear hB HB4 LW4 q qk0 qk1 qk2 qk3 qk4 qf0 qf1 qf2 qf3 qf4 CS
    go_wp2_with fail
    refine (CK.out _ _ HH5.out HP5.out).mono ?_
    rintro ev w6 ⟨rfl, hB⟩
    go_wp2_with fail
    go_ret
    exact ⟨rfl, HBW5.out.trans (hB.mono HBW5.out.size)⟩
end Go.Proofs.YtnodjijgeifejaaGreatDoor
