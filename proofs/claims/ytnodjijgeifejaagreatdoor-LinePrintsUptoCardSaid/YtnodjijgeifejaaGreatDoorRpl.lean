/- weirref06.bare, weirref06.Plain: may a text stand in a line; is a point plain? And line.Print, for every point. -/
import Derived.Test.YtnodjijgeifejaaGreatDoorLprint
namespace Go.Proofs.YtnodjijgeifejaaGreatDoor
open Go.RowKit
set_option linter.unusedSimpArgs false
set_option linter.unusedVariables false

set_option maxRecDepth 100000 in
set_option maxHeartbeats 1000000 in
theorem line_Print_no (p : Pt) (At : Option Addr) (ct : Nat) (Af : Option Addr) (cf : Nat) (w : World) (hp : PtVal w p At ct Af cf) (hy : isPlainP p = false) :
    Calls Tryz.prog 9 #[.agg #[.string p.m, .slice At p.tags.length ct, .slice Af p.fields.length cf, .int .i64 p.time]] w fun ev w' => ev = .returned (.tuple #[.string (printS (printP p)), encE (printE (printP p))]) ∧ Below w.heap.size w w' := by
  have hP : printP p = .inr 60 := by unfold printP; rw [hy]; rfl
  rw [hP]
  show Calls Tryz.prog 9 _ w fun ev w' => ev = .returned (.tuple #[.string ⟨#[]⟩, .iface 33 (.int .i64 60)]) ∧ Below w.heap.size w w'
  have hup := Tryz.underlying32
  have IP := fun w h => line_isPlain p At ct Af cf w h
  rw [hy] at IP
  have B1 : Below w.heap.size w (w.alloc (ptO p At ct Af cf)) := (Below.refl _ _).alloc (Nat.le_refl _) _
  have q := heap_alloc_new w (ptO p At ct Af cf)
  have IP := Lib.hid (IP (w.alloc (ptO p At ct Af cf)) (hp.next ((Below.refl _ _).alloc (Nat.le_refl _) _)))
  have FN : ∀ w, Calls Tryz.prog 27 #[.int .i64 60] w fun ev w' => ev = .returned (.iface 33 (.int .i64 60)) ∧ w = w' := fun w => fault_New 60 w
  have FN := Lib.hid FN
  clear hP hp hy
  go_enter Tryz.func9, Tryz.ntmps9
  have pk0 := blk_cell' (q) 0
  have pf0 := blk_free' (q) 0
  have pk1 := blk_cell' (q) 1
  have pf1 := blk_free' (q) 1
  have pk2 := blk_cell' (q) 2
  have pf2 := blk_free' (q) 2
  have pk3 := blk_cell' (q) 3
  have pf3 := blk_free' (q) 3
  go_wp2_with fail
  refine (IP.out).mono ?_
  rintro ev w1 ⟨rfl, hB⟩
  have B2 := B1.trans (hB.mono B1.size)
  go_wp2_with fail
  refine (FN.out _).mono ?_
  rintro ev w2 ⟨rfl, rfl⟩
  go_wp2_with fail
  go_ret2
  exact ⟨rfl, B2⟩
theorem line_Print (p : Pt) (At : Option Addr) (ct : Nat) (Af : Option Addr) (cf : Nat) (w : World) (L : Lay w) (hp : PtVal w p At ct Af cf) (hf : PtFit p) (hsz : (lineL p).length ≤ 1099511627776) :
    Calls Tryz.prog 9 #[.agg #[.string p.m, .slice At p.tags.length ct, .slice Af p.fields.length cf, .int .i64 p.time]] w fun ev w' => ev = .returned (.tuple #[.string (printS (printP p)), encE (printE (printP p))]) ∧ Below w.heap.size w w' := by
  cases hy : isPlainP p with
  | true => exact line_Print_yes p At ct Af cf w L hp hf hy hsz
  | false => exact line_Print_no p At ct Af cf w hp hy
set_option maxRecDepth 100000 in
set_option maxHeartbeats 1000000 in
theorem ref_bare (s : ByteArray) (hs : s.size ≤ 9223372036854775806) (w : World) :
    Calls Tryz.prog 76 #[.string s] w fun ev w' => ev = .returned (.bool (!plainP s)) ∧ w = w' := by
  obtain ⟨V, hV⟩ : ∃ V, V = !plainP s := ⟨_, rfl⟩
  rw [← hV]
  have HV := Lib.hid hV
  clear hV
  go_enter Tryz.func76, Tryz.ntmps76
  go_wp2_with fail
  go_loopg [3] s.size (fun m v3 wr => ∃ i : Nat, v3 = .int .i64 (i : Int) ∧ i + m = s.size ∧ w = wr ∧ Hid (∀ j (hj : j < s.size), j < i → s[j] ≠ 10))
  case atStart => exact ⟨0, rfl, by omega, rfl, Lib.hid (fun j _ h => by omega)⟩
  case round =>
    obtain ⟨i, rfl, hm, rfl, HN⟩ := hrel
    by_cases hi : i < s.size
    · by_cases h10 : s[i] = 10
      · have hq : ((s[i].toNat : Int) == 10) = true := by rw [h10]; rfl
        have HF := Lib.hid (show V = true by
          have h1 : 10 ∈ s.data.toList := by rw [← h10]; exact List.getElem_mem hi
          rw [HV.out]
          simp [plainP, h1])
        clear h10
        go_wp2_with fail
        go_ret
        exact ⟨by rw [HF.out]; rfl, rfl⟩
      · have hq : ((s[i].toNat : Int) == 10) = false := by
          have : ¬ (s[i].toNat : Int) = 10 := fun e => h10 (UInt8.toNat_inj.1 (by show s[i].toNat = 10; omega))
          simpa using this
        have HN2 : Hid (∀ j (hj : j < s.size), j < i + 1 → s[j] ≠ 10) := Lib.hid (fun j hj h => by
          rcases Nat.lt_or_ge j i with q | q
          · exact HN.out j hj q
          · obtain rfl : j = i := by omega
            exact h10)
        clear h10 HN
        go_wp2_with fail
        go_roundg (gk - 1)
        case measure => omega
        case rel => exact ⟨i + 1, rfl, by omega, rfl, HN2⟩
    · have h1 : 10 ∉ s.data.toList := by
        intro h
        obtain ⟨j, hj, e⟩ := List.mem_iff_getElem.1 h
        exact HN.out j hj (by have : j < s.size := hj; omega) e
      have HF := Lib.hid (show V = s.data.toList.isEmpty by rw [HV.out]; simp [plainP, h1])
      have hE : s.toList.isEmpty = s.data.toList.isEmpty := by rw [Lib.toList_data]
      clear h1 HN
      generalize s.data.toList.isEmpty = b at hE HF
      cases b with
      | true =>
        go_wp2_with fail
        go_ret
        exact ⟨by rw [HF.out]; rfl, rfl⟩
      | false =>
        go_wp2_with fail
        go_ret
        exact ⟨by rw [HF.out]; rfl, rfl⟩
/-- Every text of a point is short enough to be gone through. -/
structure Small (p : Pt) : Prop where
  m : p.m.size ≤ 9223372036854775806
  t : ∀ t ∈ p.tags, t.1.size ≤ 9223372036854775806 ∧ t.2.size ≤ 9223372036854775806
  f : ∀ f ∈ p.fields, f.1.size ≤ 9223372036854775806
set_option maxRecDepth 100000 in
set_option maxHeartbeats 2000000 in
theorem ref_Plain (p : Pt) (At : Option Addr) (ct : Nat) (Af : Option Addr) (cf : Nat) (w : World) (hp : PtVal w p At ct Af cf) (hsm : Small p) :
    Calls Tryz.prog 22 #[.agg #[.string p.m, .slice At p.tags.length ct, .slice Af p.fields.length cf, .int .i64 p.time]] w fun ev w' => ev = .returned (.bool (isPlainP p)) ∧ Below w.heap.size w w' := by
  have hut := Tryz.underlying98
  have huf := Tryz.underlying86
  have hup := Tryz.underlying32
  obtain ⟨m, tags, fields, time⟩ := p
  obtain ⟨V, hV⟩ : ∃ V, V = isPlainP ⟨m, tags, fields, time⟩ := ⟨_, rfl⟩
  rw [← hV]
  have hV : V = ((plainP m && !isP m 35 0 && !fields.isEmpty) && tags.all (fun t => plainP t.1 && plainP t.2) && fields.all (fun f => plainP f.1)) := hV
  have HV := Lib.hid hV
  have hsm1 : m.size ≤ 9223372036854775806 := hsm.m
  have HS := Lib.hid hsm
  simp only
  obtain ⟨n, hn⟩ : ∃ n, tags.length = n := ⟨_, rfl⟩
  obtain ⟨k, hk⟩ : ∃ k, fields.length = k := ⟨_, rfl⟩
  have HT := Lib.hid (show TwoAt w At n fun j => (.string (tagK tags j), .string (tagV tags j)) from hn ▸ hp.ts)
  have HF := Lib.hid (show TwoAt w Af k fun j => (.string (fldK fields j), .int .i64 (fldV fields j)) from hk ▸ hp.fs)
  have hle := HT.out.le
  have hle2 := HF.out.le
  rw [hn, hk]
  have hfe : fields.isEmpty = decide (k = 0) := by rw [← hk]; cases fields <;> simp
  have HN := Lib.hid hn
  have HK := Lib.hid hk
  have SP := Lib.hid (fun w => ref_bare m hsm1 w)
  obtain ⟨W, hW⟩ : ∃ W, w.alloc (.cells #[.string m, .slice At n ct, .slice Af k cf, .int .i64 time] 32) = W := ⟨_, rfl⟩
  have q : W.heap[w.heap.size]? = some (.cells #[.string m, .slice At n ct, .slice Af k cf, .int .i64 time] 32 (0, 0)) := by rw [← hW]; exact heap_alloc_new w _
  have B1 : Below w.heap.size w W := by rw [← hW]; exact (Below.refl _ _).alloc (Nat.le_refl _) _
  have HQ := Lib.hid q
  have HB := Lib.hid B1
  clear hV hn hk hp q B1 hsm
  go_enter Tryz.func22, Tryz.ntmps22
  go_upto_region 1 with (fail)
  clear hW
  have pk0 := blk_cell' HQ.out 0
  have pk1 := blk_cell' HQ.out 1
  have pk2 := blk_cell' HQ.out 2
  cases hm : plainP m with
  | false =>
    rw [hm] at SP
    have HG := Lib.hid (show V = false by rw [HV.out, hm]; rfl)
    clear hm
    go_wp2_with fail
    refine (SP.out _).mono ?_
    rintro ev w' ⟨rfl, rfl⟩
    go_wp2_with fail
    go_ret
    exact ⟨by rw [HG.out]; rfl, HB.out⟩
  | true =>
    have h0 : 0 < m.size := by
      rcases Nat.eq_zero_or_pos m.size with h | h
      · have : m.data.toList = [] := List.length_eq_zero_iff.1 h
        unfold plainP at hm
        rw [this] at hm
        simp at hm
      · exact h
    have hq0 := isP_lt 35 h0
    rw [hm] at SP
    cases hs : isP m 35 0 with
    | true =>
      have hq1 : ((m[0].toNat : Int) == 35) = true := hq0.symm.trans hs
      have HG := Lib.hid (show V = false by rw [HV.out, hm, hs]; rfl)
      clear hm hs hq0
      go_wp2_with fail
      refine (SP.out _).mono ?_
      rintro ev w' ⟨rfl, rfl⟩
      go_wp2_with fail
      go_ret
      exact ⟨by rw [HG.out]; rfl, HB.out⟩
    | false =>
      have hq1 : ((m[0].toNat : Int) == 35) = false := hq0.symm.trans hs
      by_cases hk0 : k = 0
      · have hkq : ((k : Int) == 0) = true := by rw [hk0]; rfl
        have HG := Lib.hid (show V = false by rw [HV.out, hm, hs, hfe, hk0]; rfl)
        clear hm hs hq0 hfe hk0
        go_wp2_with fail
        refine (SP.out _).mono ?_
        rintro ev w' ⟨rfl, rfl⟩
        go_wp2_with fail
        go_ret
        exact ⟨by rw [HG.out]; rfl, HB.out⟩
      · have hkq : ((k : Int) == 0) = false := by
          have : ¬ (k : Int) = 0 := by omega
          simpa using this
        have HG := Lib.hid (show V = (tags.all (fun t => plainP t.1 && plainP t.2) && fields.all (fun f => plainP f.1)) by rw [HV.out, hm, hs, hfe, decide_eq_false hk0]; rfl)
        clear hm hs hq0 hfe hk0 HV
        go_wp2_with fail
        refine (SP.out _).mono ?_
        rintro ev w' ⟨rfl, rfl⟩
        go_upto_block 0 with (fail)
        go_cut [3] (fun v3 wd => W = wd ∧ tags.all (fun t => plainP t.1 && plainP t.2) = true)
        case first =>
          go_wp2_with fail
          go_loopg [3] n (fun g v3 wr => ∃ i : Nat, v3 = .int .i64 i ∧ i + g = n ∧ W = wr ∧ Hid ((tags.take i).all (fun t => plainP t.1 && plainP t.2) = true))
          case atStart => exact ⟨0, rfl, by omega, rfl, Lib.hid (by simp)⟩
          case round =>
            obtain ⟨i, rfl, hn, rfl, HA⟩ := hrel
            by_cases hi : i < n
            · have hil : i < tags.length := by rw [HN.out]; exact hi
              have ht := all_take (fun t : ByteArray × ByteArray => plainP t.1 && plainP t.2) tags i hil
              rw [HA.out, Bool.true_and] at ht
              have hmem : tags[i] ∈ tags := List.getElem_mem hil
              have hbad : (plainP tags[i].1 && plainP tags[i].2) = false → V = false := fun h => by
                rw [HG.out]
                have : tags.all (fun t => plainP t.1 && plainP t.2) = false := by
                  rw [List.all_eq_false]
                  exact ⟨tags[i], hmem, by rw [h]; decide⟩
                rw [this]
                rfl
              have hsz := HS.out.t _ hmem
              have e1 : tags[i].1 = tagK tags i := by simp [tagK, hil]
              have e2 : tags[i].2 = tagV tags i := by simp [tagV, hil]
              rw [e1, e2] at ht hbad hsz
              obtain ⟨a0, rfl, C⟩ := (HT.out.next HB.out).cells (by omega)
              obtain ⟨x0, x1⟩ := C i hi
              have S1 := fun w => ref_bare (tagK tags i) hsz.1 w
              have S2 := fun w => ref_bare (tagV tags i) hsz.2 w
              generalize tagK tags i = K at *
              generalize tagV tags i = Lx at *
              have S1 := Lib.hid S1
              have S2 := Lib.hid S2
              have HTt := Lib.hid ht
              clear ht e1 e2 C hil hmem hsz HA
              cases h1 : plainP K with
              | false =>
                rw [h1] at S1
                have HBad := Lib.hid (hbad (by rw [h1]; rfl))
                clear h1 hbad
                go_wp2_with fail
                refine (S1.out _).mono ?_
                rintro ev w' ⟨rfl, rfl⟩
                go_wp2_with fail
                go_ret
                exact ⟨by rw [HBad.out]; rfl, HB.out⟩
              | true =>
                rw [h1] at S1
                cases h2 : plainP Lx with
                | false =>
                  rw [h2] at S2
                  have HBad := Lib.hid (hbad (by rw [h2, Bool.and_false]))
                  clear h1 h2 hbad
                  go_wp2_with fail
                  refine (S1.out _).mono ?_
                  rintro ev w' ⟨rfl, rfl⟩
                  go_wp2_with fail
                  refine (S2.out _).mono ?_
                  rintro ev w' ⟨rfl, rfl⟩
                  go_wp2_with fail
                  go_ret
                  exact ⟨by rw [HBad.out]; rfl, HB.out⟩
                | true =>
                  rw [h2] at S2
                  have HA2 := Lib.hid (show (tags.take (i + 1)).all (fun t => plainP t.1 && plainP t.2) = true by rw [HTt.out, h1, h2]; rfl)
                  clear h1 h2 hbad
                  go_wp2_with fail
                  refine (S1.out _).mono ?_
                  rintro ev w' ⟨rfl, rfl⟩
                  go_wp2_with fail
                  refine (S2.out _).mono ?_
                  rintro ev w' ⟨rfl, rfl⟩
                  go_wp2_with fail
                  go_roundg (gk - 1)
                  case measure => omega
                  case rel => exact ⟨i + 1, by go_num, by omega, rfl, HA2⟩
            · have ht : tags.take i = tags := List.take_of_length_le (by rw [HN.out]; omega)
              have HA2 := HA.out
              rw [ht] at HA2
              have HA2 := Lib.hid HA2
              clear ht HA
              go_wp2_with fail
              go_meet
              case rel => exact ⟨rfl, HA2.out⟩
        case rest =>
          obtain ⟨rfl, hta⟩ := hcut
          have hGf : V = fields.all (fun f => plainP f.1) := by rw [HG.out, hta, Bool.true_and]
          have HG := Lib.hid hGf
          clear hta hGf
          go_wp2_with fail
          go_loopg [4] k (fun g v4 wr => ∃ i : Nat, v4 = .int .i64 i ∧ i + g = k ∧ W = wr ∧ Hid ((fields.take i).all (fun t => plainP t.1) = true))
          case atStart => exact ⟨0, rfl, by omega, rfl, Lib.hid (by simp)⟩
          case round =>
            obtain ⟨i, rfl, hn, rfl, HA⟩ := hrel
            by_cases hi : i < k
            · have hil : i < fields.length := by rw [HK.out]; exact hi
              have ht := all_take (fun t : ByteArray × Int => plainP t.1) fields i hil
              rw [HA.out, Bool.true_and] at ht
              have hmem : fields[i] ∈ fields := List.getElem_mem hil
              have hbad : plainP fields[i].1 = false → V = false := fun h => by
                rw [HG.out, List.all_eq_false]
                exact ⟨fields[i], hmem, by rw [h]; decide⟩
              have hsz := HS.out.f _ hmem
              have e1 : fields[i].1 = fldK fields i := by simp [fldK, hil]
              rw [e1] at ht hbad hsz
              obtain ⟨a0, rfl, C⟩ := (HF.out.next HB.out).cells (by omega)
              obtain ⟨x0, x1⟩ := C i hi
              have S1 := fun w => ref_bare (fldK fields i) hsz w
              generalize fldK fields i = K at *
              generalize fldV fields i = Lx at *
              have S1 := Lib.hid S1
              have HTt := Lib.hid ht
              clear ht e1 C hil hmem hsz HA
              cases h1 : plainP K with
              | false =>
                rw [h1] at S1
                have HBad := Lib.hid (hbad h1)
                clear h1 hbad
                go_wp2_with fail
                refine (S1.out _).mono ?_
                rintro ev w' ⟨rfl, rfl⟩
                go_wp2_with fail
                go_ret
                exact ⟨by rw [HBad.out]; rfl, HB.out⟩
              | true =>
                rw [h1] at S1
                have HA2 := Lib.hid (show (fields.take (i + 1)).all (fun t => plainP t.1) = true by rw [HTt.out, h1])
                clear h1 hbad
                go_wp2_with fail
                refine (S1.out _).mono ?_
                rintro ev w' ⟨rfl, rfl⟩
                go_wp2_with fail
                go_roundg (gk - 1)
                case measure => omega
                case rel => exact ⟨i + 1, by go_num, by omega, rfl, HA2⟩
            · have ht : fields.take i = fields := List.take_of_length_le (by rw [HK.out]; omega)
              have HA2 := HA.out
              rw [ht, ← HG.out] at HA2
              have HA2 := Lib.hid HA2
              clear ht HA
              go_wp2_with fail
              go_ret
              exact ⟨by rw [HA2.out]; rfl, HB.out⟩
end Go.Proofs.YtnodjijgeifejaaGreatDoor
