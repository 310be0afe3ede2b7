/- line.isPlain: which points can be a line. -/
import Derived.Test.YtnodjijgeifejaaGreatDoorEsc
import Derived.Test.YtnodjijgeifejaaGreatDoorSamePts
import Derived.Deep.DeepCutAuto
import Derived.Deep.CutBlock
namespace Go.Proofs.YtnodjijgeifejaaGreatDoor
open Go.RowKit
set_option linter.unusedSimpArgs false
set_option linter.unusedVariables false

/-- A point as a value, its lists as they read. -/
structure PtVal (w : World) (p : Pt) (At : Option Addr) (ct : Nat) (Af : Option Addr) (cf : Nat) : Prop where
  ts : TwoAt w At p.tags.length fun j => (.string (tagK p.tags j), .string (tagV p.tags j))
  fs : TwoAt w Af p.fields.length fun j => (.string (fldK p.fields j), .int .i64 (fldV p.fields j))
theorem PtVal.next {w w' : World} {p : Pt} {At : Option Addr} {ct : Nat} {Af : Option Addr} {cf : Nat} (h : PtVal w p At ct Af cf) (hB : Below w.heap.size w w') : PtVal w' p At ct Af cf := ⟨h.ts.next hB, h.fs.next hB⟩
abbrev ptO (p : Pt) (At : Option Addr) (ct : Nat) (Af : Option Addr) (cf : Nat) : Obj := .cells #[.string p.m, .slice At p.tags.length ct, .slice Af p.fields.length cf, .int .i64 p.time] 32 (0, 0)
theorem all_take {α : Type} (f : α → Bool) (l : List α) (i : Nat) (h : i < l.length) : (l.take (i + 1)).all f = ((l.take i).all f && f l[i]) := by
  rw [List.take_succ_eq_append_getElem h, List.all_append]
  simp
set_option maxRecDepth 100000 in
set_option maxHeartbeats 1600000 in
theorem line_isPlain (p : Pt) (At : Option Addr) (ct : Nat) (Af : Option Addr) (cf : Nat) (w : World) (hp : PtVal w p At ct Af cf) :
    Calls Tryz.prog 26 #[.agg #[.string p.m, .slice At p.tags.length ct, .slice Af p.fields.length cf, .int .i64 p.time]] w fun ev w' => ev = .returned (.bool (isPlainP p)) ∧ Below w.heap.size w w' := by
  have hut := Tryz.underlying98
  have huf := Tryz.underlying86
  have hup := Tryz.underlying32
  obtain ⟨m, tags, fields, time⟩ := p
  obtain ⟨V, hV⟩ : ∃ V, V = isPlainP ⟨m, tags, fields, time⟩ := ⟨_, rfl⟩
  rw [← hV]
  simp only
  obtain ⟨G, hG⟩ : ∃ G, G = (plainP m && !isP m 35 0 && !fields.isEmpty) := ⟨_, rfl⟩
  have hV : V = (G && tags.all (fun t => plainP t.1 && plainP t.2) && fields.all (fun f => plainP f.1)) := by rw [hV, hG]; rfl
  have HV := Lib.hid hV
  obtain ⟨n, hn⟩ : ∃ n, tags.length = n := ⟨_, rfl⟩
  obtain ⟨k, hk⟩ : ∃ k, fields.length = k := ⟨_, rfl⟩
  have HT := Lib.hid (show TwoAt w At n fun j => (.string (tagK tags j), .string (tagV tags j)) from hn ▸ hp.ts)
  have HF := Lib.hid (show TwoAt w Af k fun j => (.string (fldK fields j), .int .i64 (fldV fields j)) from hk ▸ hp.fs)
  have hle := HT.out.le
  have hle2 := HF.out.le
  rw [hn, hk]
  have hfe : fields.isEmpty = decide (k = 0) := by rw [← hk]; cases fields <;> simp
  rw [hfe] at hG
  have HN := Lib.hid hn
  have HK := Lib.hid hk
  have SP := Lib.hid (fun w => line_plain m w)
  have q : (w.alloc (.cells #[.string m, .slice At n ct, .slice Af k cf, .int .i64 time] 32)).heap[w.heap.size]? = some (.cells #[.string m, .slice At n ct, .slice Af k cf, .int .i64 time] 32 (0, 0)) := heap_alloc_new w _
  have B1 : Below w.heap.size w (w.alloc (.cells #[.string m, .slice At n ct, .slice Af k cf, .int .i64 time] 32)) := (Below.refl _ _).alloc (Nat.le_refl _) _
  have HQ := Lib.hid q
  have HB := Lib.hid B1
  clear hV hn hk hp hfe q B1
  go_enter Tryz.func26, Tryz.ntmps26
  go_upto_region 1 with (fail)
  go_cut [3] (fun v3 wc => v3 = .bool G ∧ wc.heap[w.heap.size]? = some (.cells #[.string m, .slice At n ct, .slice Af k cf, .int .i64 time] 32 (0, 0)) ∧ Below w.heap.size w wc)
  case first =>
    cases hm : plainP m with
    | false =>
      rw [hm] at SP hG
      have HG := Lib.hid hG
      clear hG hm
      go_wp2_with fail
      refine (SP.out _).mono ?_
      rintro ev w' ⟨rfl, rfl⟩
      go_wp2_with fail
      go_meet
      case rel => exact ⟨by rw [HG.out]; rfl, HQ.out, HB.out⟩
    | true =>
      have h0 : 0 < m.size := by
        rcases Nat.eq_zero_or_pos m.size with h | h
        · have : m.data.toList = [] := List.length_eq_zero_iff.1 h
          unfold plainP at hm
          rw [this] at hm
          simp at hm
        · exact h
      have hq0 := isP_lt 35 h0
      rw [hm] at SP hG
      cases hs : isP m 35 0 with
      | true =>
        have hq1 : ((m[0].toNat : Int) == 35) = true := hq0.symm.trans hs
        have hq2 : ((m[0].toNat : Int) != 35) = false := by rw [bne, hq1]; rfl
        rw [hs] at hG
        have HG := Lib.hid hG
        clear hG hm hs hq0
        go_wp2_with fail
        refine (SP.out _).mono ?_
        rintro ev w' ⟨rfl, rfl⟩
        go_wp2_with fail
        go_meet
        case rel => exact ⟨by rw [HG.out]; simp, HQ.out, HB.out⟩
      | false =>
        have hq1 : ((m[0].toNat : Int) == 35) = false := hq0.symm.trans hs
        have hq2 : ((m[0].toNat : Int) != 35) = true := by rw [bne, hq1]; rfl
        rw [hs] at hG
        have HG := Lib.hid (show G = decide (0 < k) by rw [hG]; by_cases h : k = 0 <;> simp [h]; omega)
        clear hG hm hs hq0
        go_wp2_with fail
        refine (SP.out _).mono ?_
        rintro ev w' ⟨rfl, rfl⟩
        go_wp2_with fail
        go_meet
        case rel => exact ⟨by rw [HG.out], HQ.out, HB.out⟩
  case rest =>
    clear SP hG HQ HB
    obtain ⟨rfl, q, hB⟩ := hcut
    have p1 := blk_cell' q 1
    go_upto_block 0 with (fail)
    go_cut [3] (fun v3 wd => v3 = .bool (G && tags.all (fun t => plainP t.1 && plainP t.2)) ∧ wd.heap[w.heap.size]? = some (.cells #[.string m, .slice At n ct, .slice Af k cf, .int .i64 time] 32 (0, 0)) ∧ Below w.heap.size w wd)
    case first =>
      go_wp2
      go_loopg [3, 26] n (fun g v3 v26 wr => ∃ i : Nat, v26 = .int .i64 i ∧ i + g = n ∧ v3 = .bool (G && (tags.take i).all (fun t => plainP t.1 && plainP t.2)) ∧ wr.heap[w.heap.size]? = some (.cells #[.string m, .slice At n ct, .slice Af k cf, .int .i64 time] 32 (0, 0)) ∧ Below w.heap.size w wr)
      case atStart => exact ⟨0, rfl, by omega, by simp, q, hB⟩
      case round =>
        clear p1 q hB
        obtain ⟨i, rfl, hn, rfl, q, hB⟩ := hrel
        by_cases hi : i < n
        · have hil : i < tags.length := by rw [HN.out]; exact hi
          have ht : (G && (tags.take (i + 1)).all (fun t => plainP t.1 && plainP t.2)) = ((G && (tags.take i).all (fun t => plainP t.1 && plainP t.2)) && (plainP tags[i].1 && plainP tags[i].2)) := by rw [all_take (fun t : ByteArray × ByteArray => plainP t.1 && plainP t.2) tags i hil, Bool.and_assoc]
          have e1 : tags[i].1 = tagK tags i := by simp [tagK, hil]
          have e2 : tags[i].2 = tagV tags i := by simp [tagV, hil]
          rw [e1, e2] at ht
          obtain ⟨a0, rfl, C⟩ := (HT.out.next hB).cells (by omega)
          obtain ⟨x0, x1⟩ := C i hi
          have S1 := fun w => line_plain (tagK tags i) w
          have S2 := fun w => line_plain (tagV tags i) w
          generalize tagK tags i = K at *
          generalize tagV tags i = L at *
          generalize (G && (tags.take i).all (fun t => plainP t.1 && plainP t.2)) = A at *
          have S1 := Lib.hid S1
          have S2 := Lib.hid S2
          have HTt := Lib.hid ht
          have q2 := heap_old' wr (.cells #[.string K, .string L] 98 (0, 0)) w.heap.size (blk_lt' q) q
          have B2 : Below w.heap.size w (wr.alloc (.cells #[.string K, .string L] 98 (0, 0))) := hB.alloc hB.size _
          clear ht e1 e2 C hil q hB
          cases A with
          | false =>
            go_wp2
            go_roundg (gk - 1)
            case measure => omega
            case rel => exact ⟨i + 1, by go_num, by omega, by rw [HTt.out]; simp, q2, B2⟩
          | true =>
            cases h1 : plainP K with
            | false =>
              rw [h1] at S1 HTt
              clear h1
              go_wp2_with fail
              refine (S1.out _).mono ?_
              rintro ev w' ⟨rfl, rfl⟩
              go_wp2
              go_roundg (gk - 1)
              case measure => omega
              case rel => exact ⟨i + 1, by go_num, by omega, by rw [HTt.out]; simp, q2, B2⟩
            | true =>
              rw [h1] at S1 HTt
              clear h1
              go_wp2_with fail
              refine (S1.out _).mono ?_
              rintro ev w' ⟨rfl, rfl⟩
              go_wp2_with fail
              refine (S2.out _).mono ?_
              rintro ev w' ⟨rfl, rfl⟩
              go_wp2
              go_roundg (gk - 1)
              case measure => omega
              case rel => exact ⟨i + 1, by go_num, by omega, by rw [HTt.out]; simp, q2, B2⟩
        · have ht : tags.take i = tags := List.take_of_length_le (by rw [HN.out]; omega)
          rw [ht]
          clear ht
          go_wp2_with fail
          go_meet
          case rel => exact ⟨rfl, q, hB⟩
    case rest =>
      clear p1 q hB
      obtain ⟨rfl, q, hB⟩ := hcut
      have hV := HV.out
      generalize (G && tags.all (fun t => plainP t.1 && plainP t.2)) = G at hV
      have HV := Lib.hid hV
      clear hV
      have p1 := blk_cell' q 2
      go_wp2
      go_loopg [3, 45] k (fun g v3 v45 wr => ∃ i : Nat, v45 = .int .i64 i ∧ i + g = k ∧ v3 = .bool (G && (fields.take i).all (fun t => plainP t.1)) ∧ Below w.heap.size w wr)
      case atStart => exact ⟨0, rfl, by omega, by simp, hB⟩
      case round =>
        clear p1 q hB
        obtain ⟨i, rfl, hn, rfl, hB⟩ := hrel
        by_cases hi : i < k
        · have hil : i < fields.length := by rw [HK.out]; exact hi
          have ht : (G && (fields.take (i + 1)).all (fun t => plainP t.1)) = ((G && (fields.take i).all (fun t => plainP t.1)) && plainP fields[i].1) := by rw [all_take (fun t : ByteArray × Int => plainP t.1) fields i hil, Bool.and_assoc]
          have e1 : fields[i].1 = fldK fields i := by simp [fldK, hil]
          rw [e1] at ht
          obtain ⟨a0, rfl, C⟩ := (HF.out.next hB).cells (by omega)
          obtain ⟨x0, x1⟩ := C i hi
          have S1 := fun w => line_plain (fldK fields i) w
          generalize fldK fields i = K at *
          generalize fldV fields i = L at *
          generalize (G && (fields.take i).all (fun t => plainP t.1)) = A at *
          have S1 := Lib.hid S1
          have HTt := Lib.hid ht
          have B2 : Below w.heap.size w (wr.alloc (.cells #[.string K, .int .i64 L] 86 (0, 0))) := hB.alloc hB.size _
          clear ht e1 C hil hB
          cases A with
          | false =>
            go_wp2
            go_roundg (gk - 1)
            case measure => omega
            case rel => exact ⟨i + 1, by go_num, by omega, by rw [HTt.out]; simp, B2⟩
          | true =>
            cases h1 : plainP K with
            | false =>
              rw [h1] at S1 HTt
              clear h1
              go_wp2_with fail
              refine (S1.out _).mono ?_
              rintro ev w' ⟨rfl, rfl⟩
              go_wp2
              go_roundg (gk - 1)
              case measure => omega
              case rel => exact ⟨i + 1, by go_num, by omega, by rw [HTt.out]; simp, B2⟩
            | true =>
              rw [h1] at S1 HTt
              clear h1
              go_wp2_with fail
              refine (S1.out _).mono ?_
              rintro ev w' ⟨rfl, rfl⟩
              go_wp2
              go_roundg (gk - 1)
              case measure => omega
              case rel => exact ⟨i + 1, by go_num, by omega, by rw [HTt.out]; simp, B2⟩
        · have ht : fields.take i = fields := List.take_of_length_le (by rw [HK.out]; omega)
          rw [ht, ← HV.out]
          clear ht
          go_wp2
          go_ret
          exact ⟨rfl, hB⟩
end Go.Proofs.YtnodjijgeifejaaGreatDoor
