/- weirref05.Escape; weirref06.Print, All: a point as a line, points as lines, by definition. -/
import Derived.Test.YtnodjijgeifejaaGreatDoorRpl
import Derived.Test.YtnodjijgeifejaaGreatDoorRunesc
import Derived.Test.YtnodjijgeifejaaGreatDoorLall
namespace Go.Proofs.YtnodjijgeifejaaGreatDoor
open Go.RowKit
set_option linter.unusedSimpArgs false
set_option linter.unusedVariables false

theorem ext_one' (s : ByteArray) (i : Nat) (h : i < s.size) : s.extract i (i + 1) = ⟨#[s[i]]⟩ := by
  apply bytes_ext
  have h2 := snoc_data (o := ⟨#[]⟩) (acc := []) rfl s i h
  simpa using h2
theorem escL_step (l : List UInt8) (i : Nat) (h : i < l.length) : escL (l.take (i + 1)) = escL (l.take i) ++ escC l[i] := by
  unfold escL
  rw [List.take_succ_eq_append_getElem h, List.flatMap_append]
  simp
set_option maxRecDepth 100000 in
set_option maxHeartbeats 1000000 in
theorem ref_Escape (s : ByteArray) (hs : s.size ≤ 1099511627776) (w : World) :
    Calls Tryz.prog 34 #[.string s] w fun ev w' => ev = .returned (.string (escS s)) ∧ w = w' := by
  obtain ⟨V, hV⟩ : ∃ V, V = escS s := ⟨_, rfl⟩
  rw [← hV]
  have HV := Lib.hid hV
  clear hV
  go_enter Tryz.func34, Tryz.ntmps34
  go_wp2_with fail
  go_loopg [3, 4] s.size (fun m v3 v4 wr => ∃ (i : Nat) (t : ByteArray), v3 = .string t ∧ v4 = .int .i64 (i : Int) ∧ i + m = s.size ∧ Hid (t.data.toList = escL (s.data.toList.take i)) ∧ t.size ≤ 2 * i ∧ w = wr)
  case atStart => exact ⟨0, _, rfl, rfl, by omega, Lib.hid (by simp [escL]), Nat.le_refl 0, rfl⟩
  case round =>
    obtain ⟨i, t, rfl, rfl, hm, HT, hts, rfl⟩ := hrel
    by_cases hi : i < s.size
    · have kl : decide ((i : Int) < (s.size : Int)) = true := by rw [decide_eq_true_iff]; omega
      have hst := escL_step s.data.toList i hi
      have hb : s.data.toList[i]'hi = s[i] := rfl
      rw [hb] at hst
      have hsl := ext_one' s i hi
      obtain ⟨C1, hC1⟩ : ∃ C1 : ByteArray, C1 = ⟨#[s[i]]⟩ := ⟨_, rfl⟩
      have hc1 : C1.size = 1 := by rw [hC1]; rfl
      rw [← hC1] at hsl
      have hsw : ∀ W : World, (Instr.slice 9 (.string s) (some (.int .i64 (i : Int))) (some (.int .i64 ((i : Int) + 1))) none).run Tryz.prog W = .ok (.string C1) W := fun W => by rw [← hsl]; exact slice_one s i (i : Int) rfl hi (by omega) W
      clear hsl
      have HC1 := Lib.hid hC1
      have SP := Lib.hid (fun w => ref_special s[i] w)
      have h92 : (⟨#[92]⟩ : ByteArray).size = 1 := rfl
      cases hsp : sp4 s[i] with
      | true =>
        rw [hsp] at SP
        have HT2 : Hid ((t ++ ⟨#[92]⟩ ++ C1).data.toList = escL (s.data.toList.take (i + 1))) := Lib.hid (by
          rw [hst, escC, if_pos hsp, data_app, data_app, HT.out, HC1.out]
          simp)
        clear hst hb hC1 HT hsp
        go_wp2_with fail
        refine (SP.out _).mono ?_
        rintro ev w' ⟨rfl, rfl⟩
        go_wp2_with fail
        go_roundg (gk - 1)
        case measure => omega
        case rel => exact ⟨i + 1, _, rfl, by go_num, by omega, HT2, by rw [ByteArray.size_append, ByteArray.size_append, hc1, h92]; omega, rfl⟩
      | false =>
        rw [hsp] at SP
        have HT2 : Hid ((t ++ C1).data.toList = escL (s.data.toList.take (i + 1))) := Lib.hid (by
          rw [hst, escC, if_neg (by rw [hsp]; decide), data_app, HT.out, HC1.out])
        clear hst hb hC1 HT hsp
        go_wp2_with fail
        refine (SP.out _).mono ?_
        rintro ev w' ⟨rfl, rfl⟩
        go_wp2_with fail
        go_roundg (gk - 1)
        case measure => omega
        case rel => exact ⟨i + 1, _, rfl, by go_num, by omega, HT2, by rw [ByteArray.size_append, hc1]; omega, rfl⟩
    · have kl : decide ((i : Int) < (s.size : Int)) = false := by rw [decide_eq_false_iff_not]; omega
      have hF : V = t := by
        rw [HV.out]
        apply bytes_ext
        rw [escS_data, HT.out, List.take_of_length_le (show s.data.toList.length ≤ i from by show s.size ≤ i; omega)]
      have HF := Lib.hid hF
      clear hF
      go_wp2_with fail
      go_ret
      exact ⟨by rw [HF.out]; rfl, rfl⟩
/-- What Print answers of the error. -/
def printB : Sum ByteArray Int → Bad
  | .inl _ => .nil
  | .inr c => refNew c
structure RPt (o ob : Obj) (w0 w : World) : Prop where
  p : w.heap[w0.heap.size]? = some o
  b : w.heap[w0.heap.size + 1]? = some ob
  B : Below w0.heap.size w0 w
theorem RPt.next {o ob : Obj} {w0 w w' : World} (h : RPt o ob w0 w) (hB : Below w.heap.size w w') : RPt o ob w0 w' := ⟨below_blk hB (blk_lt' h.p) h.p, below_blk hB (blk_lt' h.b) h.b, h.B.trans (hB.mono h.B.size)⟩
theorem fin_two {w w0 : World} {x0 x1 x2 x3 x4 : Value} {o : Obj} (h : RPt o (.cells #[x0, x1, x2, x3, x4] 35 (0, 0)) w0 w) (v0 v1 v2 v3 v4 : Value) :
    (((((w.setCell ⟨w0.heap.size + 1, 0, none⟩ v0).setCell ⟨w0.heap.size + 1, 1, none⟩ v1).setCell ⟨w0.heap.size + 1, 2, none⟩ v2).setCell ⟨w0.heap.size + 1, 3, none⟩ v3).setCell ⟨w0.heap.size + 1, 4, none⟩ v4).heap[w0.heap.size + 1]? = some (.cells #[v0, v1, v2, v3, v4] 35 (0, 0)) ∧
    Below w0.heap.size w0 (((((w.setCell ⟨w0.heap.size + 1, 0, none⟩ v0).setCell ⟨w0.heap.size + 1, 1, none⟩ v1).setCell ⟨w0.heap.size + 1, 2, none⟩ v2).setCell ⟨w0.heap.size + 1, 3, none⟩ v3).setCell ⟨w0.heap.size + 1, 4, none⟩ v4) :=
  ⟨bad_blk h.b v0 v1 v2 v3 v4, below_bad h.B (Nat.le_succ _) v0 v1 v2 v3 v4⟩
set_option maxRecDepth 100000 in
set_option maxHeartbeats 4000000 in
theorem ref_Print (p : Pt) (At : Option Addr) (ct : Nat) (Af : Option Addr) (cf : Nat) (w : World) (L : Lay w) (hp : PtVal w p At ct Af cf) (hok : PtOk p) :
    Calls Tryz.prog 10 #[.agg #[.string p.m, .slice At p.tags.length ct, .slice Af p.fields.length cf, .int .i64 p.time]] w fun ev w' => ev = .returned (.tuple #[.string (printS (printP p)), (printB (printP p)).enc]) ∧ Below w.heap.size w w' := by
  have hup := Tryz.underlying32
  have hut := Tryz.underlying98
  have huf := Tryz.underlying86
  have hub := Tryz.underlying35
  have hsz := lineL_bulk hok.fit hok.bulk
  obtain ⟨X, hX⟩ : ∃ X, X = printP p := ⟨_, rfl⟩
  rw [← hX]
  obtain ⟨V, hV⟩ : ∃ V, V = printS X := ⟨_, rfl⟩
  obtain ⟨E, hE⟩ : ∃ E, E = (printB X).enc := ⟨_, rfl⟩
  rw [← hV, ← hE]
  have HX := Lib.hid hX
  have HV := Lib.hid hV
  have HE := Lib.hid hE
  have CP := fun w h => ref_Plain p At ct Af cf w h (small_of hok.bulk)
  obtain ⟨n, hn⟩ : ∃ n, p.tags.length = n := ⟨_, rfl⟩
  obtain ⟨k, hk⟩ : ∃ k, p.fields.length = k := ⟨_, rfl⟩
  have HT := Lib.hid (show TwoAt w At n fun j => (.string (tagK p.tags j), .string (tagV p.tags j)) from hn ▸ hp.ts)
  have HF := Lib.hid (show TwoAt w Af k fun j => (.string (fldK p.fields j), .int .i64 (fldV p.fields j)) from hk ▸ hp.fs)
  have hle := HT.out.le
  have hle2 := HF.out.le
  have HPV := Lib.hid hp
  rw [hn, hk] at CP ⊢
  have CP := Lib.hid CP
  have HN := Lib.hid hn
  have HK := Lib.hid hk
  have CN : Hid (∀ c w, Calls Tryz.prog 33 #[.int .i64 c] w fun ev w' => ev = .returned (.agg #[.int .i64 c, .int .i64 0, .int .i64 0, .bool false, .bool false]) ∧ Below w.heap.size w w') := Lib.hid (fun c w => weirref01_New c w)
  have hms : p.m.size ≤ 1099511627776 := by have := hok.bulk; unfold ptBulk at this; omega
  have EM := Lib.hid (fun w => ref_Escape p.m hms w)
  have hft := hok.fit.t
  have hff := Lib.hid hok.fit.f
  have hlen : (escL p.m.data.toList).length + (tagsL p.tags).length + (fieldsL 32 p.fields).length + (itoa p.time).data.toList.length + 1 ≤ 1099511627776 := by
    unfold lineL at hsz; simp only [List.length_append, List.length_cons] at hsz; omega
  have hline : printP p = if isPlainP p then (if 8192 < (lineL p).length then .inr 6 else .inl ⟨(lineL p).toArray⟩) else .inr 60 := rfl
  have HL := Lib.hid hline
  obtain ⟨o, ho⟩ : ∃ o, o = Obj.cells #[.string p.m, .slice At n ct, .slice Af k cf, .int .i64 p.time] 32 (0, 0) := ⟨_, rfl⟩
  obtain ⟨ob, hob⟩ : ∃ o, o = Obj.cells #[.int .i64 0, .int .i64 0, .int .i64 0, .bool false, .bool false] 35 (0, 0) := ⟨_, rfl⟩
  have R0 : RPt o ob w ((w.alloc o).alloc ob) := ⟨heap_old' _ _ _ (by simp) (heap_alloc_new w o), heap_new' _ _ _ (by simp), ((Below.refl _ _).alloc (Nat.le_refl _) _).alloc (by simp) _⟩
  rw [ho, hob] at R0
  clear hX hV hE hp hn hk ho hob hline hsz hok
  go_enter Tryz.func10, Tryz.ntmps10
  go_upto_region 1 with (fail)
  generalize ((w.alloc (.cells #[.string p.m, .slice At n ct, .slice Af k cf, .int .i64 p.time] 32 (0, 0))).alloc (.cells #[.int .i64 0, .int .i64 0, .int .i64 0, .bool false, .bool false] 35 (0, 0))) = W at R0 ⊢
  have R0 := Lib.hid R0
  have PV0 := Lib.hid (HPV.out.next R0.out.B)
  have pk0 := blk_cell' (R0.out.p) 0
  have pf0 := blk_free' (R0.out.p) 0
  have pk1 := blk_cell' (R0.out.p) 1
  have pf1 := blk_free' (R0.out.p) 1
  have pk2 := blk_cell' (R0.out.p) 2
  have pf2 := blk_free' (R0.out.p) 2
  have pk3 := blk_cell' (R0.out.p) 3
  have pf3 := blk_free' (R0.out.p) 3
  cases hy : isPlainP p with
  | false =>
    rw [hy] at CP
    have hXX : X = .inr 60 := by rw [HX.out, HL.out, hy]; rfl
    have HV2 := Lib.hid (show V = ⟨#[]⟩ by rw [HV.out, hXX]; rfl)
    have HE2 := Lib.hid (show E = .agg #[.int .i64 60, .int .i64 0, .int .i64 0, .bool false, .bool false] by rw [HE.out, hXX]; rfl)
    clear hXX hy HL HX HV HE
    go_wp2_with fail
    refine (CP.out _ PV0.out).mono ?_
    rintro ev w1 ⟨rfl, hB⟩
    have R1 := Lib.hid (R0.out.next hB)
    clear hB R0 PV0 pk0 pk1 pk2 pk3 pf0 pf1 pf2 pf3
    go_wp2_with fail
    refine (CN.out _ _).mono ?_
    rintro ev w2 ⟨rfl, hB⟩
    have R2 := Lib.hid (R1.out.next hB)
    clear hB R1
    have qk0 := blk_cell' (R2.out.b) 0
    have qf0 := blk_free' (R2.out.b) 0
    have qk1 := blk_cell' (R2.out.b) 1
    have qf1 := blk_free' (R2.out.b) 1
    have qk2 := blk_cell' (R2.out.b) 2
    have qf2 := blk_free' (R2.out.b) 2
    have qk3 := blk_cell' (R2.out.b) 3
    have qf3 := blk_free' (R2.out.b) 3
    have qk4 := blk_cell' (R2.out.b) 4
    have qf4 := blk_free' (R2.out.b) 4
    go_wp2_with fail
    refine bodyPost_ret (results_two Tryz.results10 (res_tmp rfl) (res_cell (b := w.heap.size + 1) (T' := 35) (fr := (0, 0)) rfl (fin_two R2.out _ _ _ _ _).1 Tryz.underlying35 rfl (by kernel_rfl))) rfl ?_
    exact ⟨by rw [HV2.out, HE2.out]; rfl, (fin_two R2.out _ _ _ _ _).2⟩
  | true =>
    rw [hy] at CP
    have hXX : X = if 8192 < (lineL p).length then .inr 6 else .inl ⟨(lineL p).toArray⟩ := by rw [HX.out, HL.out, hy]; rfl
    have HX := Lib.hid hXX
    clear hXX hy HL
    go_wp2_with fail
    refine (CP.out _ PV0.out).mono ?_
    rintro ev w1 ⟨rfl, hB⟩
    have R1 := Lib.hid (R0.out.next hB)
    clear hB R0 PV0 pk0 pk1 pk2 pk3 pf0 pf1 pf2 pf3
    have pk0 := blk_cell' (R1.out.p) 0
    have pf0 := blk_free' (R1.out.p) 0
    have pk1 := blk_cell' (R1.out.p) 1
    have pf1 := blk_free' (R1.out.p) 1
    have pk2 := blk_cell' (R1.out.p) 2
    have pf2 := blk_free' (R1.out.p) 2
    have pk3 := blk_cell' (R1.out.p) 3
    have pf3 := blk_free' (R1.out.p) 3
    go_wp2_with fail
    refine (EM.out _).mono ?_
    rintro ev w2 ⟨rfl, rfl⟩
    clear EM CP pk0 pk1 pk2 pk3 pf0 pf1 pf2 pf3
    go_upto_block 0 with (fail)
    go_cut [4, 5] (fun v4 v5 wd => ∃ t : ByteArray, v4 = .string t ∧ t.data.toList = escL p.m.data.toList ++ tagsL p.tags ∧ RPt (.cells #[.string p.m, .slice At n ct, .slice Af k cf, .int .i64 p.time] 32 (0, 0)) (.cells #[.int .i64 0, .int .i64 0, .int .i64 0, .bool false, .bool false] 35 (0, 0)) w wd)
    case first =>
      have q1 := R1.out.p
      have pk1 := blk_cell' q1 1
      clear q1
      go_wp2_with fail
      go_loopg [4, 5] n (fun g v4 v5 wr => ∃ (i : Nat) (t : ByteArray), v4 = .string t ∧ v5 = .int .i64 (i : Int) ∧ i + g = n ∧ Hid (t.data.toList = escL p.m.data.toList ++ tagsL (p.tags.take i)) ∧ Hid (RPt (.cells #[.string p.m, .slice At n ct, .slice Af k cf, .int .i64 p.time] 32 (0, 0)) (.cells #[.int .i64 0, .int .i64 0, .int .i64 0, .bool false, .bool false] 35 (0, 0)) w wr))
      case atStart => exact ⟨0, _, rfl, rfl, by omega, Lib.hid (by rw [escS_data]; simp [tagsL]), R1⟩
      case round =>
        clear pk1 R1
        obtain ⟨i, t, rfl, rfl, hg, HTT, R1⟩ := hrel
        have pk1 := blk_cell' R1.out.p 1
        by_cases hi : i < n
        · have kl : decide ((i : Int) < (n : Int)) = true := by rw [decide_eq_true_iff]; omega
          have hil : i < p.tags.length := by rw [HN.out]; exact hi
          have ht := tagsL_step p.tags i hil
          have hl := tag_len p.tags i hil
          have e1 : p.tags[i].1 = tagK p.tags i := by simp [tagK, hil]
          have e2 : p.tags[i].2 = tagV p.tags i := by simp [tagV, hil]
          rw [e1, e2] at ht hl
          obtain ⟨a0, rfl, C⟩ := (HT.out.next R1.out.B).cells (by omega)
          obtain ⟨x0, x1⟩ := C i hi
          have hts : t.size = (escL p.m.data.toList).length + (tagsL (p.tags.take i)).length := by
            have h := congrArg List.length HTT.out
            rw [List.length_append] at h
            exact h
          have k1 := escL_ge (tagK p.tags i).data.toList
          have k2 := escL_ge (tagV p.tags i).data.toList
          have z1 : (tagK p.tags i).data.toList.length = (tagK p.tags i).size := rfl
          have z2 : (tagV p.tags i).data.toList.length = (tagV p.tags i).size := rfl
          have z3 := escS_size (tagK p.tags i)
          have z4 := escS_size (tagV p.tags i)
          have E1 := Lib.hid (fun w => ref_Escape (tagK p.tags i) (by omega) w)
          have E2 := Lib.hid (fun w => ref_Escape (tagV p.tags i) (by omega) w)
          have d1 := escS_data (tagK p.tags i)
          have d2 := escS_data (tagV p.tags i)
          rw [← d1, ← d2] at ht
          rw [← z3, ← z4] at hl
          have hb5 : t.size + ((escS (tagK p.tags i)).size + (escS (tagV p.tags i)).size + 2) ≤ 1099511627776 := by omega
          clear k1 k2 z1 z2 z3 z4 hl d1 d2 e1 e2 C hil hts
          generalize tagK p.tags i = K at *
          generalize tagV p.tags i = U at *
          generalize escS K = eK at *
          generalize escS U = eU at *
          have HT2 : Hid ((t ++ (⟨#[44]⟩ ++ eK ++ ⟨#[61]⟩ ++ eU)).data.toList = escL p.m.data.toList ++ tagsL (p.tags.take (i + 1))) := Lib.hid (by
            rw [ht, data_app, HTT.out]
            simp)
          clear ht HTT
          have p0 : (0 : Int) ≤ (i : Int) := by omega
          have p1 : (i : Int) < (n : Int) := by omega
          have y1 : ¬ 9223372036854775807 < 1 + eK.size := by omega
          have y2 : ¬ 9223372036854775807 < 1 + eK.size + 1 := by omega
          have y3 : ¬ 9223372036854775807 < 1 + eK.size + 1 + eU.size := by omega
          have y4 : ¬ 9223372036854775807 < t.size + (1 + eK.size + 1 + eU.size) := by omega
          have hs0 : (⟨#[44]⟩ : ByteArray).size = 1 := rfl
          have hs1 : (⟨#[61]⟩ : ByteArray).size = 1 := rfl
          go_upto_region 7 with (fail)
          have t0 : wr.drew.cell? ⟨w.heap.size, 1, none⟩ = some (.slice (some a0) n ct) ∧ wr.drew.cell? (a0.add (i * 2)) = some (.string K) ∧ wr.drew.cell? ⟨(a0.add (i * 2)).block, (a0.add (i * 2)).off + 1, none⟩ = some (.string U) := ⟨pk1, x0, x1⟩
          go_region_held3 (fun w' => w'.cell? ⟨w.heap.size, 1, none⟩ = some (.slice (some a0) n ct) ∧ w'.cell? (a0.add (i * 2)) = some (.string K) ∧ w'.cell? ⟨(a0.add (i * 2)).block, (a0.add (i * 2)).off + 1, none⟩ = some (.string U))
            (first | (with_reducible exact t0) | fail)
            (first
              | (go_at_call 34; (with_reducible refine (E1.out _).mono ?_); rintro ev w1 ⟨rfl, rfl⟩)
              | (go_at_call 34; (with_reducible refine (E2.out _).mono ?_); rintro ev w1 ⟨rfl, rfl⟩)
              | fail)
          clear t0
          clear pk1 x0 x1
          go_wp2_with fail
          go_roundg (gk - 1)
          case measure => omega
          case rel => exact ⟨i + 1, _, rfl, by go_num, by omega, HT2, Lib.hid (R1.out.next (Below.refl _ _).drew)⟩
        · have kl : decide ((i : Int) < (n : Int)) = false := by rw [decide_eq_false_iff_not]; omega
          have ht : p.tags.take i = p.tags := List.take_of_length_le (by rw [HN.out]; omega)
          have h2 := HTT.out
          rw [ht] at h2
          have HTT := Lib.hid h2
          clear ht h2
          go_wp2_with fail
          go_meet
          case rel => exact ⟨t, rfl, HTT.out, R1.out⟩
    case rest =>
      clear R1
      obtain ⟨t, rfl, hTT, hR⟩ := hcut
      have HTT := Lib.hid hTT
      have R1 := Lib.hid hR
      clear hTT hR
      go_upto_block 2 with (fail)
      go_cut [4, 6] (fun v4 v6 wd => ∃ t : ByteArray, v4 = .string t ∧ t.data.toList = escL p.m.data.toList ++ tagsL p.tags ++ fieldsL 32 p.fields ∧ RPt (.cells #[.string p.m, .slice At n ct, .slice Af k cf, .int .i64 p.time] 32 (0, 0)) (.cells #[.int .i64 0, .int .i64 0, .int .i64 0, .bool false, .bool false] 35 (0, 0)) w wd)
      case first =>
        have pk2 := blk_cell' R1.out.p 2
        go_wp2_with fail
        go_loopg [4, 6] k (fun g v4 v6 wr => ∃ (i : Nat) (t : ByteArray), v4 = .string t ∧ v6 = .int .i64 (i : Int) ∧ i + g = k ∧ Hid (t.data.toList = escL p.m.data.toList ++ tagsL p.tags ++ fieldsL 32 (p.fields.take i)) ∧ Hid (RPt (.cells #[.string p.m, .slice At n ct, .slice Af k cf, .int .i64 p.time] 32 (0, 0)) (.cells #[.int .i64 0, .int .i64 0, .int .i64 0, .bool false, .bool false] 35 (0, 0)) w wr))
        case atStart => exact ⟨0, _, rfl, rfl, by omega, Lib.hid (by rw [HTT.out]; simp [fieldsL]), R1⟩
        case round =>
          clear pk2 R1 HTT
          obtain ⟨i, t, rfl, rfl, hg, HTT, R1⟩ := hrel
          have pk2 := blk_cell' R1.out.p 2
          by_cases hi : i < k
          · have kl : decide ((i : Int) < (k : Int)) = true := by rw [decide_eq_true_iff]; omega
            have hil : i < p.fields.length := by rw [HK.out]; exact hi
            have ht := fieldsL_step 32 p.fields i hil
            have hl := fld_len 32 p.fields i hil
            have hf1 := hff.out _ (List.getElem_mem hil)
            have e1 : p.fields[i].1 = fldK p.fields i := by simp [fldK, hil]
            have e2 : p.fields[i].2 = fldV p.fields i := by simp [fldV, hil]
            have ef : p.fields[i] = (fldK p.fields i, fldV p.fields i) := by rw [← e1, ← e2]
            rw [ef] at ht hl hf1
            simp only at hl hf1
            obtain ⟨a0, rfl, C⟩ := (HF.out.next R1.out.B).cells (by omega)
            obtain ⟨x0, x1⟩ := C i hi
            have hts : t.size = (escL p.m.data.toList).length + (tagsL p.tags).length + (fieldsL 32 (p.fields.take i)).length := by
              have h := congrArg List.length HTT.out
              rw [List.length_append, List.length_append] at h
              exact h
            have hz : (itoa (fldV p.fields i)).data.toList.length = (itoa (fldV p.fields i)).size := rfl
            have k1 := escL_ge (fldK p.fields i).data.toList
            have z1 : (fldK p.fields i).data.toList.length = (fldK p.fields i).size := rfl
            have z3 := escS_size (fldK p.fields i)
            have E1 := Lib.hid (fun w => ref_Escape (fldK p.fields i) (by omega) w)
            have E2 := Lib.hid (fun w L => strconv_FormatInt (fldV p.fields i) hf1.1 hf1.2 w L)
            have d1 := escS_data (fldK p.fields i)
            unfold fieldL at ht
            simp only at ht
            rw [← d1] at ht
            rw [← z3] at hl
            have hb5 : t.size + ((escS (fldK p.fields i)).size + (itoa (fldV p.fields i)).size + 3) ≤ 1099511627776 := by omega
            clear k1 z1 z3 hl d1 e1 e2 ef C hil hts hz hf1
            generalize fldK p.fields i = K at *
            generalize fldV p.fields i = U at *
            generalize escS K = eK at *
            generalize itoa U = eU at *
            have p0 : (0 : Int) ≤ (i : Int) := by omega
            have p1 : (i : Int) < (k : Int) := by omega
            obtain ⟨c0, hc0, hq0⟩ : ∃ c0 : ByteArray, c0 = ⟨#[if i = 0 then 32 else 44]⟩ ∧ c0.size = 1 := ⟨_, rfl, rfl⟩
            have HT2 : Hid ((t ++ c0 ++ (eK ++ ⟨#[61]⟩ ++ eU ++ ⟨#[105]⟩)).data.toList = escL p.m.data.toList ++ tagsL p.tags ++ fieldsL 32 (p.fields.take (i + 1))) := Lib.hid (by
              rw [ht, hc0, data_app, data_app, HTT.out]
              simp)
            have y0 : ¬ 9223372036854775807 < t.size + 1 := by omega
            have y1 : ¬ 9223372036854775807 < eK.size + 1 := by omega
            have y2 : ¬ 9223372036854775807 < eK.size + 1 + eU.size := by omega
            have y3 : ¬ 9223372036854775807 < eK.size + 1 + eU.size + 1 := by omega
            have y4 : ¬ 9223372036854775807 < t.size + 1 + (eK.size + 1 + eU.size + 1) := by omega
            have hs1 : (⟨#[61]⟩ : ByteArray).size = 1 := rfl
            have hs2 : (⟨#[105]⟩ : ByteArray).size = 1 := rfl
            have R2 := Lib.hid (R1.out.next (Below.refl _ _).drew)
            have t0 : wr.drew.cell? ⟨w.heap.size, 2, none⟩ = some (.slice (some a0) k cf) ∧ wr.drew.cell? (a0.add (i * 2)) = some (.string K) ∧ wr.drew.cell? ⟨(a0.add (i * 2)).block, (a0.add (i * 2)).off + 1, none⟩ = some (.int .i64 U) := ⟨pk2, x0, x1⟩
            have TT : Hid (∀ W', Below wr.drew.heap.size wr.drew W' → W'.cell? ⟨w.heap.size, 2, none⟩ = some (.slice (some a0) k cf) ∧ W'.cell? (a0.add (i * 2)) = some (.string K) ∧ W'.cell? ⟨(a0.add (i * 2)).block, (a0.add (i * 2)).off + 1, none⟩ = some (.int .i64 U)) := Lib.hid (fun W' hB => ⟨(hB.cell (World.block_lt_of_cell? _ _ t0.1)).trans t0.1, (hB.cell (World.block_lt_of_cell? _ _ t0.2.1)).trans t0.2.1, (hB.cell (World.block_lt_of_cell? _ _ t0.2.2)).trans t0.2.2⟩)
            have LD := Lib.hid (L.below R2.out.B)
            clear ht HTT
            rcases Nat.eq_zero_or_pos i with h0 | h0
            · have k0 : ((i : Int) == 0) = true := by rw [h0]; rfl
              have hc1 : c0 = ⟨#[32]⟩ := by rw [hc0, if_pos h0]
              rw [hc1] at HT2
              clear h0 hc0 hc1 hq0
              go_upto_region 14 with (fail)
              clear x0 x1 pk2
              go_region_held3 (fun w' => w'.cell? ⟨w.heap.size, 2, none⟩ = some (.slice (some a0) k cf) ∧ w'.cell? (a0.add (i * 2)) = some (.string K) ∧ w'.cell? ⟨(a0.add (i * 2)).block, (a0.add (i * 2)).off + 1, none⟩ = some (.int .i64 U))
                (first | (with_reducible exact t0) | (with_reducible exact t2) | fail)
                (first
                  | (go_at_call 34; (with_reducible refine (E1.out _).mono ?_); rintro ev w1 ⟨rfl, rfl⟩)
                  | (go_at_call 30; (with_reducible refine (E2.out _ LD.out).mono ?_); rintro ev w2 ⟨rfl, hB2⟩; have t2 := TT.out _ hB2; have R3 := Lib.hid (R2.out.next hB2))
                  | fail)
              clear t0 t2 TT
              go_wp2_with fail
              go_roundg (gk - 1)
              case measure => omega
              case rel => exact ⟨i + 1, _, rfl, by go_num, by omega, HT2, R3⟩
            · have k0 : ((i : Int) == 0) = false := by
                have : ¬ (i : Int) = 0 := by omega
                simpa using this
              have hc1 : c0 = ⟨#[44]⟩ := by rw [hc0, if_neg (by omega)]
              rw [hc1] at HT2
              clear h0 hc0 hc1 hq0
              go_upto_region 14 with (fail)
              clear x0 x1 pk2
              go_region_held3 (fun w' => w'.cell? ⟨w.heap.size, 2, none⟩ = some (.slice (some a0) k cf) ∧ w'.cell? (a0.add (i * 2)) = some (.string K) ∧ w'.cell? ⟨(a0.add (i * 2)).block, (a0.add (i * 2)).off + 1, none⟩ = some (.int .i64 U))
                (first | (with_reducible exact t0) | (with_reducible exact t2) | fail)
                (first
                  | (go_at_call 34; (with_reducible refine (E1.out _).mono ?_); rintro ev w1 ⟨rfl, rfl⟩)
                  | (go_at_call 30; (with_reducible refine (E2.out _ LD.out).mono ?_); rintro ev w2 ⟨rfl, hB2⟩; have t2 := TT.out _ hB2; have R3 := Lib.hid (R2.out.next hB2))
                  | fail)
              clear t0 t2 TT
              go_wp2_with fail
              go_roundg (gk - 1)
              case measure => omega
              case rel => exact ⟨i + 1, _, rfl, by go_num, by omega, HT2, R3⟩
          · have kl : decide ((i : Int) < (k : Int)) = false := by rw [decide_eq_false_iff_not]; omega
            have ht : p.fields.take i = p.fields := List.take_of_length_le (by rw [HK.out]; omega)
            have h2 := HTT.out
            rw [ht] at h2
            have HTT := Lib.hid h2
            clear ht h2
            go_wp2_with fail
            go_meet
            case rel => exact ⟨t, rfl, HTT.out, R1.out⟩
      case rest =>
        clear R1 HTT
        obtain ⟨t, rfl, hTT, hR⟩ := hcut
        have R1 := Lib.hid hR
        have hts : t.size = (escL p.m.data.toList).length + (tagsL p.tags).length + (fieldsL 32 p.fields).length := by
          have h := congrArg List.length hTT
          rw [List.length_append, List.length_append] at h
          exact h
        have hz : (itoa p.time).data.toList.length = (itoa p.time).size := rfl
        have ET := Lib.hid (fun w L => strconv_FormatInt p.time hft.1 hft.2 w L)
        have hall : (t ++ (⟨#[32]⟩ ++ itoa p.time)).data.toList = lineL p := by
          rw [data_app, hTT]
          unfold lineL
          simp
        obtain ⟨eU, hU⟩ : ∃ eU, itoa p.time = eU := ⟨_, rfl⟩
        rw [hU] at hall hz hlen ET
        have pk3 := blk_cell' R1.out.p 3
        have y1 : ¬ 9223372036854775807 < 1 + eU.size := by omega
        have y2 : ¬ 9223372036854775807 < t.size + (1 + eU.size) := by omega
        have hs0 : (⟨#[32]⟩ : ByteArray).size = 1 := rfl
        have hsum : (t ++ (⟨#[32]⟩ ++ eU)).size = (lineL p).length := congrArg List.length hall
        have LD := Lib.hid (L.below R1.out.B)
        have HAL := Lib.hid hall
        clear hR hTT hU hts hz hall
        go_upto_region 16 with (refine (ET.out _ LD.out).mono ?_; rintro ev w2 ⟨rfl, hB2⟩; have R2 := Lib.hid (R1.out.next hB2))
        clear pk3 R1 hB2
        obtain ⟨T, hT⟩ : ∃ T, t ++ (⟨#[32]⟩ ++ eU) = T := ⟨_, rfl⟩
        rw [hT] at hsum HAL ⊢
        clear hT
        by_cases h8 : 8192 < (lineL p).length
        · have k8 : (8192 : Int) < (T.size : Int) := by rw [hsum]; omega
          have hXX : X = .inr 6 := by rw [HX.out, if_pos h8]
          have HV2 := Lib.hid (show V = ⟨#[]⟩ by rw [HV.out, hXX]; rfl)
          have HE2 := Lib.hid (show E = .agg #[.int .i64 6, .int .i64 0, .int .i64 0, .bool false, .bool false] by rw [HE.out, hXX]; rfl)
          clear hXX h8 hsum HX HV HE
          go_wp2_with fail
          refine (CN.out _ _).mono ?_
          rintro ev w3 ⟨rfl, hB⟩
          have R3 := Lib.hid (R2.out.next hB)
          clear hB R2
          have qk0 := blk_cell' (R3.out.b) 0
          have qf0 := blk_free' (R3.out.b) 0
          have qk1 := blk_cell' (R3.out.b) 1
          have qf1 := blk_free' (R3.out.b) 1
          have qk2 := blk_cell' (R3.out.b) 2
          have qf2 := blk_free' (R3.out.b) 2
          have qk3 := blk_cell' (R3.out.b) 3
          have qf3 := blk_free' (R3.out.b) 3
          have qk4 := blk_cell' (R3.out.b) 4
          have qf4 := blk_free' (R3.out.b) 4
          go_wp2_with fail
          refine bodyPost_ret (results_two Tryz.results10 (res_tmp rfl) (res_cell (b := w.heap.size + 1) (T' := 35) (fr := (0, 0)) rfl (fin_two R3.out _ _ _ _ _).1 Tryz.underlying35 rfl (by kernel_rfl))) rfl ?_
          exact ⟨by rw [HV2.out, HE2.out]; rfl, (fin_two R3.out _ _ _ _ _).2⟩
        · have k8 : ¬ (8192 : Int) < (T.size : Int) := by rw [hsum]; omega
          have hXX : X = .inl ⟨(lineL p).toArray⟩ := by rw [HX.out, if_neg h8]
          have HV2 := Lib.hid (show V = T by rw [HV.out, hXX]; exact bytes_ext (by rw [HAL.out]; rfl))
          have HE2 := Lib.hid (show E = .agg #[.int .i64 0, .int .i64 0, .int .i64 0, .bool false, .bool false] by rw [HE.out, hXX]; rfl)
          clear hXX h8 hsum HX HV HE HAL
          have qk0 := blk_cell' (R2.out.b) 0
          have qf0 := blk_free' (R2.out.b) 0
          have qk1 := blk_cell' (R2.out.b) 1
          have qf1 := blk_free' (R2.out.b) 1
          have qk2 := blk_cell' (R2.out.b) 2
          have qf2 := blk_free' (R2.out.b) 2
          have qk3 := blk_cell' (R2.out.b) 3
          have qf3 := blk_free' (R2.out.b) 3
          have qk4 := blk_cell' (R2.out.b) 4
          have qf4 := blk_free' (R2.out.b) 4
          go_wp2_with fail
          refine bodyPost_ret (results_two Tryz.results10 (res_tmp rfl) (res_cell (b := w.heap.size + 1) (T' := 35) (fr := (0, 0)) rfl (fin_two R2.out _ _ _ _ _).1 Tryz.underlying35 rfl (by kernel_rfl))) rfl ?_
          exact ⟨by rw [HV2.out, HE2.out]; rfl, (fin_two R2.out _ _ _ _ _).2⟩
end Go.Proofs.YtnodjijgeifejaaGreatDoor
