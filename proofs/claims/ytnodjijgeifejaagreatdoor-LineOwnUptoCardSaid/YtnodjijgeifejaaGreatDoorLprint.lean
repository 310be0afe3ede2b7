/- line.Print: a point as a line, or the error. -/
import Derived.Test.YtnodjijgeifejaaGreatDoorIsPlain
import Derived.Deep.RegionHeld3
namespace Go.Proofs.YtnodjijgeifejaaGreatDoor
open Go.RowKit
set_option linter.unusedSimpArgs false
set_option linter.unusedVariables false

/-- A point as a value whose numbers fit. -/
structure PtFit (p : Pt) : Prop where
  t : I64 p.time
  f : ∀ x ∈ p.fields, I64 x.2
def printS : Sum ByteArray Int → ByteArray
  | .inl s => s
  | .inr _ => ⟨#[]⟩
def printE : Sum ByteArray Int → Option Er
  | .inl _ => none
  | .inr n => mkE n
theorem blk_drew' {w : World} {b : Nat} {o : Obj} (h : w.heap[b]? = some o) : w.drew.heap[b]? = some o := h
theorem sz4 (eK eU : ByteArray) : (⟨#[44]⟩ ++ eK ++ ⟨#[61]⟩ ++ eU : ByteArray).size = 1 + eK.size + 1 + eU.size := by
  rw [ByteArray.size_append, ByteArray.size_append, ByteArray.size_append]; rfl
theorem sz5 (sc : UInt8) (eK eU : ByteArray) : (⟨#[sc]⟩ ++ eK ++ ⟨#[61]⟩ ++ eU ++ ⟨#[105]⟩ : ByteArray).size = 1 + eK.size + 1 + eU.size + 1 := by
  rw [ByteArray.size_append, ByteArray.size_append, ByteArray.size_append, ByteArray.size_append]; rfl
theorem sz2 (eU : ByteArray) : (⟨#[32]⟩ ++ eU : ByteArray).size = 1 + eU.size := by
  rw [ByteArray.size_append]; rfl
theorem bytes_mk (l : List UInt8) : (⟨l.toArray⟩ : ByteArray).data.toList = l := by simp
theorem size_mk (l : List UInt8) : (⟨l.toArray⟩ : ByteArray).size = l.length := by simp [ByteArray.size]
/-- Two cells in one block, and a builder. -/
structure Two1 (g : Nat) (x y : Value) (T : TypeId) (b : Nat) (acc : List UInt8) (w0 w : World) : Prop where
  o : w.heap[g]? = some (.cells #[x, y] T (0, 0))
  bl : Bld b acc w
  B : Below w0.heap.size w0 w
  ne : g ≠ b
  tn : T ≠ tU
  le : w0.heap.size < b
theorem Two1.x {g : Nat} {x y : Value} {T : TypeId} {b : Nat} {acc : List UInt8} {w0 w : World} (h : Two1 g x y T b acc w0 w) : w.cell? ⟨g, 0, none⟩ = some x := blk_cell' h.o 0
theorem Two1.y {g : Nat} {x y : Value} {T : TypeId} {b : Nat} {acc : List UInt8} {w0 w : World} (h : Two1 g x y T b acc w0 w) : w.cell? ⟨g, 1, none⟩ = some y := blk_cell' h.o 1
theorem Two1.call {g : Nat} {x y : Value} {T : TypeId} {b : Nat} {acc : List UInt8} {w0 w w' : World} (h : Two1 g x y T b acc w0 w) (hB : Below w.heap.size w w') : Two1 g x y T b acc w0 w' :=
  ⟨below_blk hB (blk_lt' h.o) h.o, h.bl.next hB, h.B.trans (hB.mono h.B.size), h.ne, h.tn, h.le⟩
theorem Two1.drew {g : Nat} {x y : Value} {T : TypeId} {b : Nat} {acc : List UInt8} {w0 w : World} (h : Two1 g x y T b acc w0 w) : Two1 g x y T b acc w0 w.drew := h.call (Below.refl _ _).drew
theorem Two1.write {g : Nat} {x y : Value} {T : TypeId} {b : Nat} {acc acc' : List UInt8} {w0 w w' : World} (h : Two1 g x y T b acc w0 w) (hb : Bld b acc' w') (hB : Below b w w') (hF : ∀ g cs T fr, g ≠ b → T ≠ tU → w.heap[g]? = some (.cells cs T fr) → w'.heap[g]? = some (.cells cs T fr)) : Two1 g x y T b acc' w0 w' :=
  ⟨hF _ _ _ _ h.ne h.tn h.o, hb, h.B.trans (hB.mono (Nat.le_of_lt h.le)), h.ne, h.tn, h.le⟩
set_option maxRecDepth 100000 in
set_option maxHeartbeats 4000000 in
theorem line_Print_yes (p : Pt) (At : Option Addr) (ct : Nat) (Af : Option Addr) (cf : Nat) (w : World) (L : Lay w) (hp : PtVal w p At ct Af cf) (hf : PtFit p) (hy : isPlainP p = true) (hsz : (lineL p).length ≤ 1099511627776) :
    Calls Tryz.prog 9 #[.agg #[.string p.m, .slice At p.tags.length ct, .slice Af p.fields.length cf, .int .i64 p.time]] w fun ev w' => ev = .returned (.tuple #[.string (printS (printP p)), encE (printE (printP p))]) ∧ Below w.heap.size w w' := by
  have hut := Tryz.underlying98
  have huf := Tryz.underlying86
  have hup := Tryz.underlying32
  obtain ⟨V, hV⟩ : ∃ V, V = printS (printP p) := ⟨_, rfl⟩
  obtain ⟨E, hE⟩ : ∃ E, E = encE (printE (printP p)) := ⟨_, rfl⟩
  rw [← hV, ← hE]
  have hP : printP p = if 8192 < (lineL p).length then .inr 6 else .inl ⟨(lineL p).toArray⟩ := by unfold printP; rw [if_pos hy]
  rw [hP] at hV hE
  have HV := Lib.hid hV
  have HE := Lib.hid hE
  obtain ⟨n, hn⟩ : ∃ n, p.tags.length = n := ⟨_, rfl⟩
  obtain ⟨k, hk⟩ : ∃ k, p.fields.length = k := ⟨_, rfl⟩
  have HT := Lib.hid (show TwoAt w At n fun j => (.string (tagK p.tags j), .string (tagV p.tags j)) from hn ▸ hp.ts)
  have HF := Lib.hid (show TwoAt w Af k fun j => (.string (fldK p.fields j), .int .i64 (fldV p.fields j)) from hk ▸ hp.fs)
  have hle := HT.out.le
  have hle2 := HF.out.le
  have IP := fun w h => line_isPlain p At ct Af cf w h
  rw [hy] at IP
  have IP := Lib.hid (IP (w.alloc (.cells #[.string p.m, .slice At p.tags.length ct, .slice Af p.fields.length cf, .int .i64 p.time] 32 (0, 0))) (hp.next ((Below.refl _ _).alloc (Nat.le_refl _) _)))
  rw [hn, hk] at IP ⊢
  have HN := Lib.hid hn
  have HK := Lib.hid hk
  obtain ⟨o, ho⟩ : ∃ o, o = Obj.cells #[.string p.m, .slice At n ct, .slice Af k cf, .int .i64 p.time] 32 (0, 0) := ⟨_, rfl⟩
  have q : (w.alloc o).heap[w.heap.size]? = some o := heap_alloc_new w _
  have B1 : Below w.heap.size w (w.alloc o) := (Below.refl _ _).alloc (Nat.le_refl _) _
  have hlen : (escL p.m.data.toList).length ≤ 1099511627776 ∧ ∀ i, (escL p.m.data.toList ++ tagsL (p.tags.take i)).length ≤ 1099511627776 := by
    unfold lineL at hsz
    simp only [List.length_append] at hsz
    exact ⟨by omega, fun i => by have := tagsL_take p.tags i; rw [List.length_append]; omega⟩
  have hms : p.m.size ≤ 1099511627776 := Nat.le_trans (escL_ge p.m.data.toList) hlen.1
  have hes : (escS p.m).size ≤ 1099511627776 := by rw [escS_size]; exact hlen.1
  have EM := Lib.hid (fun w => key_Escape p.m (by omega) w)
  rw [ho] at q B1
  have HL := Lib.hid hlen
  clear hV hE hP hn hk hp hy ho hlen
  go_enter Tryz.func9, Tryz.ntmps9
  have pk0 := blk_cell' (q) 0
  have pf0 := blk_free' (q) 0
  have pk1 := blk_cell' (q) 1
  have pf1 := blk_free' (q) 1
  have pk2 := blk_cell' (q) 2
  have pf2 := blk_free' (q) 2
  have pk3 := blk_cell' (q) 3
  have pf3 := blk_free' (q) 3
  go_wp2_with fail
  refine (IP.out).mono ?_
  rintro ev w1 ⟨rfl, hB⟩
  have q1 := below_blk hB (blk_lt' q) q
  have B2 := B1.trans (hB.mono B1.size)
  clear pk0 pk1 pk2 pk3 pf0 pf1 pf2 pf3 q B1 hB IP
  have bd := Bld.fresh w1
  have q2 := heap_old' w1 (.cells #[.pointer none, .slice none 0 0] tB) w.heap.size (blk_lt' q1) q1
  have B3 := B2.alloc B2.size (.cells #[.pointer none, .slice none 0 0] tB)
  have pk0 := blk_cell' q2 0
  go_wp2_with fail
  refine (EM.out _).mono ?_
  rintro ev w2 ⟨rfl, hB⟩
  replace bd := bd.next hB
  have q3 := below_blk hB (blk_lt' q2) q2
  replace B3 := B3.trans (hB.mono B3.size)
  clear q2 hB pk0
  have hbw : w.heap.size < w1.heap.size := blk_lt' q1
  generalize w1.heap.size = b at bd hbw ⊢
  clear q1 B2
  have WM := Lib.hid (write_string b [] (escS p.m) w2 bd (by simp; omega))
  go_wp2_with fail
  refine (WM.out).mono ?_
  rintro ev w3 ⟨rfl, bd3, hB⟩
  replace bd := bd3
  rw [List.nil_append, escS_data] at bd
  have q4 := below_blk hB hbw q3
  replace B3 := B3.trans (hB.mono (Nat.le_of_lt hbw))
  clear q3 bd3 hB WM EM hes
  have pk1 := blk_cell' q4 1
  go_upto_block 0 with (fail)
  go_cut [21] (fun v21 wd => Bld b (escL p.m.data.toList ++ tagsL p.tags) wd ∧ wd.heap[w.heap.size]? = some (.cells #[.string p.m, .slice At n ct, .slice Af k cf, .int .i64 p.time] 32 (0, 0)) ∧ Below w.heap.size w wd)
  case first =>
    go_wp2
    go_loopg [21] n (fun g v21 wr => ∃ i : Nat, v21 = .int .i64 i ∧ i + g = n ∧ Bld b (escL p.m.data.toList ++ tagsL (p.tags.take i)) wr ∧ wr.heap[w.heap.size]? = some (.cells #[.string p.m, .slice At n ct, .slice Af k cf, .int .i64 p.time] 32 (0, 0)) ∧ Below w.heap.size w wr)
    case atStart => exact ⟨0, rfl, by omega, by simpa [tagsL] using bd, q4, B3⟩
    case round =>
      clear pk1 q4 B3 bd
      obtain ⟨i, rfl, hn, bd, q, hB⟩ := hrel
      by_cases hi : i < n
      · have hil : i < p.tags.length := by rw [HN.out]; exact hi
        have ht := tagsL_step p.tags i hil
        have hl := tag_len p.tags i hil
        have e1 : p.tags[i].1 = tagK p.tags i := by simp [tagK, hil]
        have e2 : p.tags[i].2 = tagV p.tags i := by simp [tagV, hil]
        rw [e1, e2] at ht hl
        obtain ⟨a0, rfl, C⟩ := (HT.out.next hB).cells (by omega)
        obtain ⟨x0, x1⟩ := C i hi
        have hsz2 : (escL p.m.data.toList).length + (tagsL p.tags).length ≤ 1099511627776 := by unfold lineL at hsz; simp only [List.length_append] at hsz; omega
        have HS : (tagK p.tags i).size ≤ 1099511627776 ∧ (tagV p.tags i).size ≤ 1099511627776 ∧ (escS (tagK p.tags i)).size ≤ 1099511627776 ∧ (escS (tagV p.tags i)).size ≤ 1099511627776 ∧ (escL p.m.data.toList ++ tagsL (p.tags.take i)).length + ((escS (tagK p.tags i)).size + (escS (tagV p.tags i)).size + 2) ≤ 1099511627776 := by
          rw [escS_size, escS_size]
          have k1 := escL_ge (tagK p.tags i).data.toList
          have k2 := escL_ge (tagV p.tags i).data.toList
          have z1 : (tagK p.tags i).data.toList.length = (tagK p.tags i).size := rfl
          have z2 : (tagV p.tags i).data.toList.length = (tagV p.tags i).size := rfl
          rw [List.length_append]
          omega
        obtain ⟨s1, s2, s3, s4, s5⟩ := HS
        have E1 := Lib.hid (fun w => key_Escape (tagK p.tags i) (by omega) w)
        have E2 := Lib.hid (fun w => key_Escape (tagV p.tags i) (by omega) w)
        have d1 := escS_data (tagK p.tags i)
        have d2 := escS_data (tagV p.tags i)
        rw [← d1, ← d2] at ht
        generalize tagK p.tags i = K at *
        generalize tagV p.tags i = U at *
        generalize escS K = eK at *
        generalize escS U = eU at *
        have hfin : escL p.m.data.toList ++ tagsL (p.tags.take (i + 1)) = escL p.m.data.toList ++ tagsL (p.tags.take i) ++ (⟨#[44]⟩ ++ eK ++ ⟨#[61]⟩ ++ eU : ByteArray).data.toList := by rw [ht]; simp
        generalize escL p.m.data.toList ++ tagsL (p.tags.take i) = acc at *
        have HFI := Lib.hid hfin
        clear ht hl e1 e2 C hil d1 d2 hfin hsz2
        have T : Two1 wr.heap.size (.string K) (.string U) 98 b acc w (wr.alloc (.cells #[.string K, .string U] 98 (0, 0))) :=
          ⟨heap_alloc_new wr _, bd.next ((Below.refl _ _).alloc (Nat.le_refl _) _), hB.alloc hB.size _, (Nat.ne_of_lt bd.lt).symm, by decide, hbw⟩
        have q2 := heap_old' wr (.cells #[.string K, .string U] 98 (0, 0)) w.heap.size (blk_lt' q) q
        go_upto_region 8 with (fail)
        generalize wr.alloc (.cells #[.string K, .string U] 98 (0, 0)) = W at T q2 ⊢
        clear hB bd q x0 x1
        generalize wr.heap.size = g at T ⊢
        replace T := T.drew
        have WS := Lib.hid (fun w h => write_string_far b acc (⟨#[44]⟩ ++ eK ++ ⟨#[61]⟩ ++ eU) w h (by rw [sz4]; omega))
        have y1 : ¬ 9223372036854775807 < 1 + eK.size := by omega
        have y2 : ¬ 9223372036854775807 < 1 + eK.size + 1 := by omega
        have y3 : ¬ 9223372036854775807 < 1 + eK.size + 1 + eU.size := by omega
        have QW : ∀ w1 w2 w3 : World, Below W.drew.heap.size W.drew w1 → Below w1.heap.size w1 w2 → Below b w2 w3 → w3.heap[w.heap.size]? = some (.cells #[.string p.m, .slice (some a0) n ct, .slice Af k cf, .int .i64 p.time] 32 (0, 0)) := fun w1 w2 w3 h1 h2 h3 =>
          have e1 := below_blk h1 (blk_lt' (blk_drew' q2)) (blk_drew' q2)
          have e2 := below_blk h2 (blk_lt' e1) e1
          below_blk h3 hbw e2
        have QW := Lib.hid QW
        clear q2
        have t0 := T.x
        have t1 := T.y
        go_region_held3 (fun w' => w'.cell? ⟨g, 0, none⟩ = some (.string K) ∧ w'.cell? ⟨g, 1, none⟩ = some (.string U))
          (first | (with_reducible exact ⟨t0, t1⟩) | (with_reducible exact ⟨T3.x, T3.y⟩) | (with_reducible exact ⟨T2.x, T2.y⟩) | (with_reducible exact ⟨T1.x, T1.y⟩) | fail)
          (first
            | (go_at_call 29; (with_reducible refine (E1.out _).mono ?_); rintro ev w1 ⟨rfl, hB1⟩; have T1 := Two1.call T hB1)
            | (go_at_call 29; (with_reducible refine (E2.out _).mono ?_); rintro ev w2 ⟨rfl, hB2⟩; have T2 := Two1.call T1 hB2)
            | (go_at_call 28; (with_reducible refine (WS.out _ T2.bl).mono ?_); rintro ev w3 ⟨rfl, bd3, hB3, hF3⟩; have T3 := Two1.write T2 bd3 hB3 hF3; have QQ := QW.out _ _ _ hB1 hB2 hB3; clear hF3)
            | fail)
        go_wp2
        go_roundg (gk - 1)
        case measure => omega
        case rel => exact ⟨i + 1, by go_num, by omega, by rw [HFI.out]; exact T3.bl, QQ, T3.B⟩
      · have ht : p.tags.take i = p.tags := List.take_of_length_le (by rw [HN.out]; omega)
        rw [ht] at bd
        clear ht
        go_wp2_with fail
        go_meet
        case rel => exact ⟨bd, q, hB⟩
  case rest =>
    clear pk1 q4 B3 bd
    obtain ⟨bd, q, hB⟩ := hcut
    have hal : (escL p.m.data.toList ++ tagsL p.tags).length + (fieldsL 32 p.fields).length + (itoa p.time).data.toList.length + 1 ≤ 1099511627776 := by
      unfold lineL at hsz; simp only [List.length_append, List.length_cons] at hsz ⊢; omega
    have hline : lineL p = (escL p.m.data.toList ++ tagsL p.tags) ++ (fieldsL 32 p.fields ++ 32 :: (itoa p.time).data.toList) := by unfold lineL; simp
    rw [hline] at HV HE
    clear hline hsz HL
    generalize escL p.m.data.toList ++ tagsL p.tags = acc0 at bd hal HV HE
    have HVX := Lib.hid HV
    have HEX := Lib.hid HE
    clear HV HE
    have pk1 := blk_cell' q 2
    go_upto_block 2 with (fail)
    go_cut [39] (fun v39 wd => Bld b (acc0 ++ fieldsL 32 p.fields) wd ∧ wd.heap[w.heap.size]? = some (.cells #[.string p.m, .slice At n ct, .slice Af k cf, .int .i64 p.time] 32 (0, 0)) ∧ Below w.heap.size w wd)
    case first =>
      go_wp2
      go_loopg [7, 39] k (fun g v7 v39 wr => ∃ i : Nat, v39 = .int .i64 i ∧ v7 = .string ⟨#[if i = 0 then 32 else 44]⟩ ∧ i + g = k ∧ Bld b (acc0 ++ fieldsL 32 (p.fields.take i)) wr ∧ wr.heap[w.heap.size]? = some (.cells #[.string p.m, .slice At n ct, .slice Af k cf, .int .i64 p.time] 32 (0, 0)) ∧ Below w.heap.size w wr)
      case atStart => exact ⟨0, rfl, rfl, by omega, by simpa [fieldsL] using bd, q, hB⟩
      case round =>
        clear pk1 q bd hB
        obtain ⟨i, rfl, rfl, hn, bd, q, hB⟩ := hrel
        by_cases hi : i < k
        · have hil : i < p.fields.length := by rw [HK.out]; exact hi
          have ht := fieldsL_step 32 p.fields i hil
          have hl := fld_len 32 p.fields i hil
          have hf1 := hf.f _ (List.getElem_mem hil)
          have e1 : p.fields[i].1 = fldK p.fields i := by simp [fldK, hil]
          have e2 : p.fields[i].2 = fldV p.fields i := by simp [fldV, hil]
          have ef : p.fields[i] = (fldK p.fields i, fldV p.fields i) := by rw [← e1, ← e2]
          rw [ef] at ht hl hf1
          simp only at hl hf1
          obtain ⟨a0, rfl, C⟩ := (HF.out.next hB).cells (by omega)
          obtain ⟨x0, x1⟩ := C i hi
          have hz : (itoa (fldV p.fields i)).data.toList.length = (itoa (fldV p.fields i)).size := rfl
          have HS : (fldK p.fields i).size ≤ 1099511627776 ∧ (escS (fldK p.fields i)).size ≤ 1099511627776 ∧ (itoa (fldV p.fields i)).size ≤ 1099511627776 ∧ (acc0 ++ fieldsL 32 (p.fields.take i)).length + ((escS (fldK p.fields i)).size + (itoa (fldV p.fields i)).size + 3) ≤ 1099511627776 := by
            rw [escS_size]
            have k1 := escL_ge (fldK p.fields i).data.toList
            have z1 : (fldK p.fields i).data.toList.length = (fldK p.fields i).size := rfl
            rw [List.length_append]
            omega
          obtain ⟨s1, s2, s3, s5⟩ := HS
          have E1 := Lib.hid (fun w => key_Escape (fldK p.fields i) (by omega) w)
          have E2 := Lib.hid (fun w L => strconv_FormatInt (fldV p.fields i) hf1.1 hf1.2 w L)
          have d1 := escS_data (fldK p.fields i)
          unfold fieldL at ht
          simp only at ht
          rw [← d1] at ht
          generalize fldK p.fields i = K at *
          generalize fldV p.fields i = U at *
          generalize escS K = eK at *
          generalize itoa U = eU at *
          obtain ⟨sc, hsc⟩ : ∃ sc : UInt8, (if i = 0 then 32 else 44) = sc := ⟨_, rfl⟩
          rw [hsc] at ht ⊢
          have hsz1 : (⟨#[sc]⟩ : ByteArray).size = 1 := rfl
          have hfin : acc0 ++ fieldsL 32 (p.fields.take (i + 1)) = acc0 ++ fieldsL 32 (p.fields.take i) ++ (⟨#[sc]⟩ ++ eK ++ ⟨#[61]⟩ ++ eU ++ ⟨#[105]⟩ : ByteArray).data.toList := by rw [ht]; simp
          generalize acc0 ++ fieldsL 32 (p.fields.take i) = acc at *
          have HFI := Lib.hid hfin
          clear ht hl e1 e2 ef C hil d1 hfin hsc hz hf1
          have T : Two1 wr.heap.size (.string K) (.int .i64 U) 86 b acc w (wr.alloc (.cells #[.string K, .int .i64 U] 86 (0, 0))) :=
            ⟨heap_alloc_new wr _, bd.next ((Below.refl _ _).alloc (Nat.le_refl _) _), hB.alloc hB.size _, (Nat.ne_of_lt bd.lt).symm, by decide, hbw⟩
          have q2 := heap_old' wr (.cells #[.string K, .int .i64 U] 86 (0, 0)) w.heap.size (blk_lt' q) q
          go_upto_region 14 with (fail)
          generalize wr.alloc (.cells #[.string K, .int .i64 U] 86 (0, 0)) = W at T q2 ⊢
          clear hB bd q x0 x1
          generalize wr.heap.size = g at T ⊢
          replace T := T.drew
          have WS := Lib.hid (fun w h => write_string_far b acc (⟨#[sc]⟩ ++ eK ++ ⟨#[61]⟩ ++ eU ++ ⟨#[105]⟩) w h (by rw [sz5]; omega))
          have y1 : ¬ 9223372036854775807 < 1 + eK.size := by omega
          have y2 : ¬ 9223372036854775807 < 1 + eK.size + 1 := by omega
          have y3 : ¬ 9223372036854775807 < 1 + eK.size + 1 + eU.size := by omega
          have y4 : ¬ 9223372036854775807 < 1 + eK.size + 1 + eU.size + 1 := by omega
          have QW : ∀ w1 w2 w3 : World, Below W.drew.heap.size W.drew w1 → Below w1.heap.size w1 w2 → Below b w2 w3 → w3.heap[w.heap.size]? = some (.cells #[.string p.m, .slice At n ct, .slice (some a0) k cf, .int .i64 p.time] 32 (0, 0)) := fun w1 w2 w3 h1 h2 h3 =>
            have e1 := below_blk h1 (blk_lt' (blk_drew' q2)) (blk_drew' q2)
            have e2 := below_blk h2 (blk_lt' e1) e1
            below_blk h3 hbw e2
          have QW := Lib.hid QW
          clear q2
          have t0 := T.x
          have t1 := T.y
          go_region_held3 (fun w' => w'.cell? ⟨g, 0, none⟩ = some (.string K) ∧ w'.cell? ⟨g, 1, none⟩ = some (.int .i64 U))
            (first | (with_reducible exact ⟨t0, t1⟩) | (with_reducible exact ⟨T3.x, T3.y⟩) | (with_reducible exact ⟨T2.x, T2.y⟩) | (with_reducible exact ⟨T1.x, T1.y⟩) | fail)
            (first
              | (go_at_call 29; (with_reducible refine (E1.out _).mono ?_); rintro ev w1 ⟨rfl, hB1⟩; have T1 := Two1.call T hB1)
              | (go_at_call 30; (with_reducible refine (E2.out _ (L.below T1.B)).mono ?_); rintro ev w2 ⟨rfl, hB2⟩; have T2 := Two1.call T1 hB2)
              | (go_at_call 28; (with_reducible refine (WS.out _ T2.bl).mono ?_); rintro ev w3 ⟨rfl, bd3, hB3, hF3⟩; have T3 := Two1.write T2 bd3 hB3 hF3; have QQ := QW.out _ _ _ hB1 hB2 hB3; clear hF3)
              | fail)
          go_wp2
          go_roundg (gk - 1)
          case measure => omega
          case rel => exact ⟨i + 1, by go_num, by simp, by omega, by rw [HFI.out]; exact T3.bl, QQ, T3.B⟩
        · have ht : p.fields.take i = p.fields := List.take_of_length_le (by rw [HK.out]; omega)
          rw [ht] at bd
          clear ht
          generalize (if i = 0 then (32 : UInt8) else 44) = sc
          go_wp2_with fail
          go_meet
          case rel => exact ⟨bd, q, hB⟩
    case rest =>
      clear pk1 q bd hB
      obtain ⟨bd, q, hB⟩ := hcut
      have hz : (itoa p.time).data.toList.length = (itoa p.time).size := rfl
      have E2 := Lib.hid (fun w L => strconv_FormatInt p.time hf.t.1 hf.t.2 w L)
      rw [hz] at hal
      have hal2 : (acc0 ++ fieldsL 32 p.fields).length + (itoa p.time).size + 1 ≤ 1099511627776 := by rw [List.length_append]; omega
      have hlen2 : (acc0 ++ (fieldsL 32 p.fields ++ 32 :: (itoa p.time).data.toList)) = (acc0 ++ fieldsL 32 p.fields) ++ (⟨#[32]⟩ ++ itoa p.time : ByteArray).data.toList := by simp
      have HV := HVX.out
      have HE := HEX.out
      rw [hlen2] at HV HE
      generalize acc0 ++ fieldsL 32 p.fields = acc at *
      generalize itoa p.time = eU at *
      clear hlen2 hal hz
      have HVX := Lib.hid HV
      have HEX := Lib.hid HE
      clear HV HE
      have pk3 := blk_cell' q 3
      go_wp2_with fail
      refine (E2.out _ (L.below hB)).mono ?_
      rintro ev w4 ⟨rfl, hB4⟩
      replace bd := bd.next hB4
      replace hB := hB.trans (hB4.mono hB.size)
      have WS := Lib.hid (write_string b acc (⟨#[32]⟩ ++ eU) w4 bd (by rw [sz2]; omega))
      have y1 : ¬ 9223372036854775807 < 1 + eU.size := by omega
      clear pk3 q hB4
      go_wp2_with fail
      refine (WS.out).mono ?_
      rintro ev w5 ⟨rfl, bd5, hB5⟩
      replace hB := hB.trans (hB5.mono (Nat.le_of_lt hbw))
      clear hB5 WS
      generalize hR : acc ++ (⟨#[32]⟩ ++ eU : ByteArray).data.toList = R at bd5 HVX HEX
      go_wp2_with fail
      refine (build_len b R _ bd5).mono ?_
      rintro ev w6 ⟨rfl, rfl⟩
      by_cases h8 : 8192 < R.length
      · have h8' : (8192 : Int) < (R.length : Int) := by omega
        have HV := Lib.hid (show V = ⟨#[]⟩ by rw [HVX.out, if_pos h8]; rfl)
        have HE := Lib.hid (show E = .iface 33 (.int .i64 6) by rw [HEX.out, if_pos h8]; rfl)
        have FN : ∀ w, Calls Tryz.prog 27 #[.int .i64 6] w fun ev w' => ev = .returned (.iface 33 (.int .i64 6)) ∧ w = w' := fun w => fault_New 6 w
        have FN := Lib.hid FN
        clear h8 hR
        go_wp2_with fail
        refine (FN.out _).mono ?_
        rintro ev w7 ⟨rfl, rfl⟩
        go_wp2
        go_ret2
        exact ⟨by rw [HV.out, HE.out]; rfl, hB⟩
      · have h8' : ¬ (8192 : Int) < (R.length : Int) := by omega
        have HV := Lib.hid (show V = ⟨R.toArray⟩ by rw [HVX.out, if_neg h8]; rfl)
        have HE := Lib.hid (show E = .nilIface by rw [HEX.out, if_neg h8]; rfl)
        clear h8 hR
        go_wp2_with fail
        refine (build_string b R _ bd5).mono ?_
        rintro ev w7 ⟨rfl, hB7⟩
        go_wp2
        go_ret2
        exact ⟨by rw [HV.out, HE.out]; rfl, hB.trans (hB7.mono (Nat.le_of_lt hbw))⟩
end Go.Proofs.YtnodjijgeifejaaGreatDoor
