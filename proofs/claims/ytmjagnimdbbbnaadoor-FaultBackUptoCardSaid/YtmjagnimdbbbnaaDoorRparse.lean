/- weirref01.Parse, by contracts. -/
import Derived.Test.YtmjagnimdbbbnaaDoorRlead2
namespace Go.Proofs.YtmjagnimdbbbnaaDoor
open Go.RowKit
set_option linter.unusedSimpArgs false
set_option linter.unusedVariables false

def ansR (s : ByteArray) : Bad × Bad := if s = okW then (Bad.nil, Bad.nil) else match parseR s with | some b => (b, Bad.nil) | none => (Bad.nil, refNew 31)
abbrev zeroB : Obj := .cells #[.int .i64 0, .int .i64 0, .int .i64 0, .bool false, .bool false] 29 (0, 0)
/-- A walk of Parse: its two results and what it reads lie in three blocks of its own. -/
structure S3 (c a i : Int) (p n : Bool) (w0 w : World) : Prop where
  B : Below w0.heap.size w0 w
  k0 : w.heap[w0.heap.size]? = some zeroB
  k1 : w.heap[w0.heap.size + 1]? = some zeroB
  k2 : w.heap[w0.heap.size + 1 + 1]? = some (.cells #[.int .i64 c, .int .i64 a, .int .i64 i, .bool p, .bool n] 29 (0, 0))
theorem S3.next {c a i : Int} {p n : Bool} {w0 w w' : World} (s : S3 c a i p n w0 w) (h : Below w.heap.size w w') : S3 c a i p n w0 w' :=
  ⟨s.B.trans (h.mono s.B.size), below_blk h (blk_lt' s.k0) s.k0, below_blk h (blk_lt' s.k1) s.k1, below_blk h (blk_lt' s.k2) s.k2⟩
theorem S3.setIn {c a i : Int} {p n : Bool} {w0 w : World} (s : S3 c a i p n w0 w) (i' : Int) (n' : Bool) :
    S3 c a i' p n' w0 ((w.setCell ⟨w0.heap.size + 1 + 1, 2, none⟩ (.int .i64 i')).setCell ⟨w0.heap.size + 1 + 1, 4, none⟩ (.bool n')) :=
  ⟨(s.B.setCell (by simp <;> omega) _).setCell (by simp <;> omega) _, blk_far' (blk_far' s.k0 (by omega) _ _) (by omega) _ _, blk_far' (blk_far' s.k1 (by omega) _ _) (by omega) _ _, by
    have := blk_set' (blk_set' s.k2 2 (.int .i64 i')) 4 (.bool n')
    simpa using this⟩
theorem S3.setAt {c a i : Int} {p n : Bool} {w0 w : World} (s : S3 c a i p n w0 w) (a' : Int) (p' : Bool) :
    S3 c a' i p' n w0 ((w.setCell ⟨w0.heap.size + 1 + 1, 1, none⟩ (.int .i64 a')).setCell ⟨w0.heap.size + 1 + 1, 3, none⟩ (.bool p')) :=
  ⟨(s.B.setCell (by simp <;> omega) _).setCell (by simp <;> omega) _, blk_far' (blk_far' s.k0 (by omega) _ _) (by omega) _ _, blk_far' (blk_far' s.k1 (by omega) _ _) (by omega) _ _, by
    have := blk_set' (blk_set' s.k2 1 (.int .i64 a')) 3 (.bool p')
    simpa using this⟩
theorem S3.setCode {c a i : Int} {p n : Bool} {w0 w : World} (s : S3 c a i p n w0 w) (c' : Int) :
    S3 c' a i p n w0 (w.setCell ⟨w0.heap.size + 1 + 1, 0, none⟩ (.int .i64 c')) :=
  ⟨s.B.setCell (by simp <;> omega) _, blk_far' s.k0 (by omega) _ _, blk_far' s.k1 (by omega) _ _, by
    have := blk_set' s.k2 0 (.int .i64 c')
    simpa using this⟩

theorem rest1R_size (s p : ByteArray) : (rest1 s (leadR s p)).size ≤ s.size := by
  unfold leadR
  split
  · split
    · exact Nat.le_refl _
    · show (List.drop 2 (List.drop _ (List.drop _ s.data.toList))).length ≤ s.data.toList.length
      simp only [List.length_drop]
      omega
  · exact Nat.le_refl _
def ansQ (F : Int × Bool) (b : Bad) (s : ByteArray) : Bad × Bad := if (F.2 = true ∧ F.1 ≠ 0) ∧ printB b = s then (b, Bad.nil) else (Bad.nil, refNew 31)
theorem ansR_eq {s : ByteArray} (h : ¬ s = okW) : ansR s = ansQ (findP (tailBy leadR s)) ⟨(findP (tailBy leadR s)).1, num1 (leadR (rest1 s (leadR s numWord)) atWord), num1 (leadR s numWord), (leadR (rest1 s (leadR s numWord)) atWord).isSome, (leadR s numWord).isSome⟩ s := by
  unfold ansR ansQ
  rw [if_neg h]
  by_cases hc : ((findP (tailBy leadR s)).2 = true ∧ (findP (tailBy leadR s)).1 ≠ 0) ∧ printB (badBy leadR s) = s
  · have e : parseR s = some (badBy leadR s) := if_pos (show okBy leadR s ∧ printB (badBy leadR s) = s from hc)
    rw [e]
    exact (if_pos hc).symm
  · have e : parseR s = none := if_neg (show ¬ (okBy leadR s ∧ printB (badBy leadR s) = s) from hc)
    rw [e]
    exact (if_neg hc).symm
/-- Five cells of a block written. -/
theorem far_bad {w : World} {b k : Nat} {o : Obj} (h : w.heap[b]? = some o) (hne : b ≠ k) (v0 v1 v2 v3 v4 : Value) :
    (((((w.setCell ⟨k, 0, none⟩ v0).setCell ⟨k, 1, none⟩ v1).setCell ⟨k, 2, none⟩ v2).setCell ⟨k, 3, none⟩ v3).setCell ⟨k, 4, none⟩ v4).heap[b]? = some o :=
  blk_far' (blk_far' (blk_far' (blk_far' (blk_far' h hne _ _) hne _ _) hne _ _) hne _ _) hne _ _
theorem alloc_sz (w : World) (o : Obj) : (w.alloc o).heap.size = w.heap.size + 1 := Array.size_push ..

set_option maxRecDepth 100000 in
set_option maxHeartbeats 600000 in
theorem ref_Parse (s : ByteArray) (hs : s.size < 4294967281) (w : World) (L : LayS w) :
    Calls Tryd.prog 29 #[.string s] w fun ev w' => ev = .returned (.tuple #[(ansR s).1.enc, (ansR s).2.enc]) ∧ Below w.heap.size w w' := by
  have LL := Lib.hid L
  clear L
  have s3 : S3 0 0 0 false false w (((w.alloc zeroB).alloc zeroB).alloc zeroB) :=
    ⟨(((Below.refl _ _).alloc (Nat.le_refl _) _).alloc (by rw [alloc_sz]; omega) _).alloc (by rw [alloc_sz, alloc_sz]; omega) _,
     heap_old' _ _ _ (by rw [alloc_sz, alloc_sz]; omega) (heap_old' _ _ _ (by rw [alloc_sz]; omega) (heap_alloc_new w _)),
     heap_old' _ _ _ (by rw [alloc_sz, alloc_sz]; omega) (heap_new' _ _ _ (by rw [alloc_sz])),
     heap_new' _ _ _ (by rw [alloc_sz, alloc_sz])⟩
  go_enter Tryd.func29, Tryd.ntmps29
  go_wp2_with fail
  refine (ref_lead s numWord hs (by decide) _ (LL.out.below s3.B)).mono ?_
  rintro ev w1 ⟨rfl, hB⟩
  replace s3 := s3.next hB
  clear hB
  rw [leadV_eq]
  have z1 := rest1R_size s numWord
  have z2 : (tailBy leadR s).size ≤ (rest1 s (leadR s numWord)).size := rest1R_size _ _
  have e2 : leadV (rest1 s (leadR s numWord)) (leadR (rest1 s (leadR s numWord)) atWord) = .tuple #[.int .i64 (num1 (leadR (rest1 s (leadR s numWord)) atWord)), .string (tailBy leadR s), .bool (leadR (rest1 s (leadR s numWord)) atWord).isSome] := leadV_eq _ _
  have L2 := fun w L => ref_lead (rest1 s (leadR s numWord)) atWord (by omega) (by decide) w L
  rw [e2] at L2
  have FD := fun w L => ref_Find (tailBy leadR s) (by omega) w L
  rw [refF_eq] at FD
  have e3 : refE (tailBy leadR s) = if (findP (tailBy leadR s)).2 = true then Bad.nil else refNew 4 := by unfold refE; rw [refF_eq]
  rw [e3] at FD
  have hAn : ¬ s = okW → ansR s = _ := fun h => ansR_eq h
  have hA0 : s = okW → ansR s = (Bad.nil, Bad.nil) := fun h => by rw [ansR, if_pos h]
  have hcI : (findP (tailBy leadR s)).2 = true → I64 (findP (tailBy leadR s)).1 := fun h => (found_name h).2
  have haI := num1_fit lawR (rest1 s (leadR s numWord)) atWord
  have hiI := num1_fit lawR s numWord
  clear e2 e3 z1 z2
  generalize findP (tailBy leadR s) = F at FD hAn hcI
  generalize tailBy leadR s = r2 at L2 FD
  generalize num1 (leadR (rest1 s (leadR s numWord)) atWord) = a at L2 hAn haI
  generalize (leadR (rest1 s (leadR s numWord)) atWord).isSome = pl at L2 hAn
  generalize rest1 s (leadR s numWord) = r1 at L2 ⊢
  generalize num1 (leadR s numWord) = i at hAn hiI ⊢
  generalize (leadR s numWord).isSome = nb at hAn ⊢
  obtain ⟨c, fb⟩ := F
  simp only at FD hcI
  have HL2 := Lib.hid L2
  have HFD := Lib.hid FD
  have HAn := Lib.hid hAn
  have HA0 := Lib.hid hA0
  have HI := Lib.hid (And.intro hcI (And.intro haI hiI))
  clear L2 FD hAn hA0 hcI haI hiI
  unfold atWord at HL2
  have c2 := blk_cell' s3.k2 2
  have f2 := blk_free' s3.k2 2
  have c4 := blk_cell' s3.k2 4
  have f4 := blk_free' s3.k2 4
  go_wp2_with fail
  replace s3 := s3.setIn i nb
  clear c2 f2 c4 f4
  refine (HL2.out _ (LL.out.below s3.B)).mono ?_
  rintro ev w2 ⟨rfl, hB⟩
  replace s3 := s3.next hB
  clear hB
  have c1 := blk_cell' s3.k2 1
  have f1 := blk_free' s3.k2 1
  have c3 := blk_cell' s3.k2 3
  have f3 := blk_free' s3.k2 3
  go_wp2_with fail
  replace s3 := s3.setAt a pl
  clear c1 f1 c3 f3
  refine (HFD.out _ (LL.out.below s3.B)).mono ?_
  rintro ev w3 ⟨rfl, hB⟩
  replace s3 := s3.next hB
  clear hB HL2 HFD
  obtain ⟨x, hx, hxe⟩ : ∃ x : Int, (if fb = true then Bad.nil else refNew 4) = ⟨x, 0, 0, false, false⟩ ∧ (x = if fb = true then 0 else 4) := by
    cases fb
    · exact ⟨4, rfl, rfl⟩
    · exact ⟨0, rfl, rfl⟩
  rw [hx]
  simp only [Bad.enc]
  have HX := Lib.hid hxe
  clear hx hxe
  have hsz : (w3.setCell ⟨w.heap.size + 1 + 1, 0, none⟩ (.int .i64 c)).heap.size = w3.heap.size := by simp
  have s5 := (s3.setCode c).next ((Below.refl _ _).alloc (Nat.le_refl _) (.cells #[.int .i64 x, .int .i64 0, .int .i64 0, .bool false, .bool false] 29))
  have b7 : ((w3.setCell ⟨w.heap.size + 1 + 1, 0, none⟩ (.int .i64 c)).alloc (.cells #[.int .i64 x, .int .i64 0, .int .i64 0, .bool false, .bool false] 29)).heap[w3.heap.size]? = some (.cells #[.int .i64 x, .int .i64 0, .int .i64 0, .bool false, .bool false] 29 (0, 0)) := heap_new' _ _ _ hsz.symm
  have s4 := s3.next ((Below.refl w3.heap.size w3).alloc (Nat.le_refl _) (.cells #[.int .i64 x, .int .i64 0, .int .i64 0, .bool false, .bool false] 29))
  have hn7 : w.heap.size + 1 + 1 < w3.heap.size := blk_lt' s3.k2
  have c0 := blk_cell' s4.k2 0
  have f0 := blk_free' s4.k2 0
  have B7 := Lib.hid b7
  clear b7 s3 s4 hsz
  have d00 := blk_cell' s5.k0 0
  have g00 := blk_free' s5.k0 0
  have d01 := blk_cell' s5.k0 1
  have g01 := blk_free' s5.k0 1
  have d02 := blk_cell' s5.k0 2
  have g02 := blk_free' s5.k0 2
  have d03 := blk_cell' s5.k0 3
  have g03 := blk_free' s5.k0 3
  have d04 := blk_cell' s5.k0 4
  have g04 := blk_free' s5.k0 4
  have d10 := blk_cell' s5.k1 0
  have g10 := blk_free' s5.k1 0
  have d11 := blk_cell' s5.k1 1
  have g11 := blk_free' s5.k1 1
  have d12 := blk_cell' s5.k1 2
  have g12 := blk_free' s5.k1 2
  have d13 := blk_cell' s5.k1 3
  have g13 := blk_free' s5.k1 3
  have d14 := blk_cell' s5.k1 4
  have g14 := blk_free' s5.k1 4
  by_cases h0 : s = okW
  · have hA := HA0.out h0
    have hq : (s.toList == [111, 107]) = true := by rw [h0]; simp [okW, Lib.toList_data]
    have HA := Lib.hid hA
    clear hA h0
    go_wp2_with fail
    generalize (w3.setCell ⟨w.heap.size + 1 + 1, 0, none⟩ (.int .i64 c)).alloc (.cells #[.int .i64 x, .int .i64 0, .int .i64 0, .bool false, .bool false] 29) = W5 at s5 ⊢
    refine bodyPost_ret (results_two (v0 := .agg #[.int .i64 0, .int .i64 0, .int .i64 0, .bool false, .bool false]) (v1 := .agg #[.int .i64 0, .int .i64 0, .int .i64 0, .bool false, .bool false]) Tryd.results29
      (res_cell (b := w.heap.size) (T' := 29) (fr := (0, 0)) rfl (far_bad (bad_blk s5.k0 _ _ _ _ _) (by omega) _ _ _ _ _) Tryd.underlying29 rfl (by kernel_rfl))
      (res_cell (b := w.heap.size + 1) (T' := 29) (fr := (0, 0)) rfl (bad_blk (far_bad s5.k1 (by omega) _ _ _ _ _) _ _ _ _ _) Tryd.underlying29 rfl (by kernel_rfl))) rfl ?_
    exact ⟨by rw [HA.out]; rfl, below_bad (below_bad s5.B (Nat.le_refl _) _ _ _ _ _) (by omega) _ _ _ _ _⟩
  · have hA := HAn.out h0
    have hq : (s.toList == [111, 107]) = false := by have := str_other h0; simpa [okW, Lib.toList_data] using this
    have HA := Lib.hid hA
    have e0 := blk_cell' B7.out 0
    have m0 := blk_cell' s5.k2 0
    have m1 := blk_cell' s5.k2 1
    have m2 := blk_cell' s5.k2 2
    have m3 := blk_cell' s5.k2 3
    have m4 := blk_cell' s5.k2 4
    clear hA h0
    cases fb with
    | false =>
      obtain rfl : x = 4 := HX.out
      go_wp2_with fail
      refine (weirref01_New 31 _).mono ?_
      rintro ev w6 ⟨rfl, hB⟩
      have s6 := s5.next hB
      clear hB d00 g00 d01 g01 d02 g02 d03 g03 d04 g04 d10 g10 d11 g11 d12 g12 d13 g13 d14 g14
      rw [show (refNew 31).enc = .agg #[.int .i64 31, .int .i64 0, .int .i64 0, .bool false, .bool false] from rfl]
      have d00 := blk_cell' s6.k0 0
      have g00 := blk_free' s6.k0 0
      have d01 := blk_cell' s6.k0 1
      have g01 := blk_free' s6.k0 1
      have d02 := blk_cell' s6.k0 2
      have g02 := blk_free' s6.k0 2
      have d03 := blk_cell' s6.k0 3
      have g03 := blk_free' s6.k0 3
      have d04 := blk_cell' s6.k0 4
      have g04 := blk_free' s6.k0 4
      have d10 := blk_cell' s6.k1 0
      have g10 := blk_free' s6.k1 0
      have d11 := blk_cell' s6.k1 1
      have g11 := blk_free' s6.k1 1
      have d12 := blk_cell' s6.k1 2
      have g12 := blk_free' s6.k1 2
      have d13 := blk_cell' s6.k1 3
      have g13 := blk_free' s6.k1 3
      have d14 := blk_cell' s6.k1 4
      have g14 := blk_free' s6.k1 4
      go_wp2_with fail
      refine bodyPost_ret (results_two (v0 := .agg #[.int .i64 0, .int .i64 0, .int .i64 0, .bool false, .bool false]) (v1 := .agg #[.int .i64 31, .int .i64 0, .int .i64 0, .bool false, .bool false]) Tryd.results29
        (res_cell (b := w.heap.size) (T' := 29) (fr := (0, 0)) rfl (far_bad (bad_blk s6.k0 _ _ _ _ _) (by omega) _ _ _ _ _) Tryd.underlying29 rfl (by kernel_rfl))
        (res_cell (b := w.heap.size + 1) (T' := 29) (fr := (0, 0)) rfl (bad_blk (far_bad s6.k1 (by omega) _ _ _ _ _) _ _ _ _ _) Tryd.underlying29 rfl (by kernel_rfl))) rfl ?_
      exact ⟨by rw [HA.out, ansQ, if_neg (fun h => by cases h.1.1)]; rfl, below_bad (below_bad s6.B (Nat.le_refl _) _ _ _ _ _) (by omega) _ _ _ _ _⟩
    | true =>
      obtain rfl : x = 0 := HX.out
      by_cases hc : c = 0
      · subst hc
        go_wp2_with fail
        refine (weirref01_New 31 _).mono ?_
        rintro ev w6 ⟨rfl, hB⟩
        have s6 := s5.next hB
        clear hB d00 g00 d01 g01 d02 g02 d03 g03 d04 g04 d10 g10 d11 g11 d12 g12 d13 g13 d14 g14
        rw [show (refNew 31).enc = .agg #[.int .i64 31, .int .i64 0, .int .i64 0, .bool false, .bool false] from rfl]
        have d00 := blk_cell' s6.k0 0
        have g00 := blk_free' s6.k0 0
        have d01 := blk_cell' s6.k0 1
        have g01 := blk_free' s6.k0 1
        have d02 := blk_cell' s6.k0 2
        have g02 := blk_free' s6.k0 2
        have d03 := blk_cell' s6.k0 3
        have g03 := blk_free' s6.k0 3
        have d04 := blk_cell' s6.k0 4
        have g04 := blk_free' s6.k0 4
        have d10 := blk_cell' s6.k1 0
        have g10 := blk_free' s6.k1 0
        have d11 := blk_cell' s6.k1 1
        have g11 := blk_free' s6.k1 1
        have d12 := blk_cell' s6.k1 2
        have g12 := blk_free' s6.k1 2
        have d13 := blk_cell' s6.k1 3
        have g13 := blk_free' s6.k1 3
        have d14 := blk_cell' s6.k1 4
        have g14 := blk_free' s6.k1 4
        go_wp2_with fail
        refine bodyPost_ret (results_two (v0 := .agg #[.int .i64 0, .int .i64 0, .int .i64 0, .bool false, .bool false]) (v1 := .agg #[.int .i64 31, .int .i64 0, .int .i64 0, .bool false, .bool false]) Tryd.results29
          (res_cell (b := w.heap.size) (T' := 29) (fr := (0, 0)) rfl (far_bad (bad_blk s6.k0 _ _ _ _ _) (by omega) _ _ _ _ _) Tryd.underlying29 rfl (by kernel_rfl))
          (res_cell (b := w.heap.size + 1) (T' := 29) (fr := (0, 0)) rfl (bad_blk (far_bad s6.k1 (by omega) _ _ _ _ _) _ _ _ _ _) Tryd.underlying29 rfl (by kernel_rfl))) rfl ?_
        exact ⟨by rw [HA.out, ansQ, if_neg (fun h => h.1.2 rfl)]; rfl, below_bad (below_bad s6.B (Nat.le_refl _) _ _ _ _ _) (by omega) _ _ _ _ _⟩
      · have hc' : (c == 0) = false := by simpa using hc
        have HC := Lib.hid hc
        clear hc
        go_wp2_with fail
        refine (ref_Print ⟨c, a, i, pl, nb⟩ _ (LL.out.below s5.B).L (HI.out.1 (by simp)) HI.out.2.1 HI.out.2.2).mono ?_
        rintro ev w5 ⟨rfl, hB⟩
        replace s5 := s5.next hB
        clear hB e0 m0 m1 m2 m3 m4 c0 f0 d00 g00 d01 g01 d02 g02 d03 g03 d04 g04 d10 g10 d11 g11 d12 g12 d13 g13 d14 g14
        by_cases hp : printB ⟨c, a, i, pl, nb⟩ = s
        · have HP := Lib.hid hp
          have hp' : ((printB ⟨c, a, i, pl, nb⟩).toList == s.toList) = true := str_same hp
          clear hp
          have m0 := blk_cell' s5.k2 0
          have m1 := blk_cell' s5.k2 1
          have m2 := blk_cell' s5.k2 2
          have m3 := blk_cell' s5.k2 3
          have m4 := blk_cell' s5.k2 4
          have d00 := blk_cell' s5.k0 0
          have g00 := blk_free' s5.k0 0
          have d01 := blk_cell' s5.k0 1
          have g01 := blk_free' s5.k0 1
          have d02 := blk_cell' s5.k0 2
          have g02 := blk_free' s5.k0 2
          have d03 := blk_cell' s5.k0 3
          have g03 := blk_free' s5.k0 3
          have d04 := blk_cell' s5.k0 4
          have g04 := blk_free' s5.k0 4
          have d10 := blk_cell' s5.k1 0
          have g10 := blk_free' s5.k1 0
          have d11 := blk_cell' s5.k1 1
          have g11 := blk_free' s5.k1 1
          have d12 := blk_cell' s5.k1 2
          have g12 := blk_free' s5.k1 2
          have d13 := blk_cell' s5.k1 3
          have g13 := blk_free' s5.k1 3
          have d14 := blk_cell' s5.k1 4
          have g14 := blk_free' s5.k1 4
          go_wp2_with fail
          refine bodyPost_ret (results_two (v0 := .agg #[.int .i64 c, .int .i64 a, .int .i64 i, .bool pl, .bool nb]) (v1 := .agg #[.int .i64 0, .int .i64 0, .int .i64 0, .bool false, .bool false]) Tryd.results29
            (res_cell (b := w.heap.size) (T' := 29) (fr := (0, 0)) rfl (far_bad (bad_blk s5.k0 _ _ _ _ _) (by omega) _ _ _ _ _) Tryd.underlying29 rfl (by kernel_rfl))
            (res_cell (b := w.heap.size + 1) (T' := 29) (fr := (0, 0)) rfl (bad_blk (far_bad s5.k1 (by omega) _ _ _ _ _) _ _ _ _ _) Tryd.underlying29 rfl (by kernel_rfl))) rfl ?_
          exact ⟨by rw [HA.out, ansQ, if_pos ⟨⟨rfl, HC.out⟩, HP.out⟩]; rfl, below_bad (below_bad s5.B (Nat.le_refl _) _ _ _ _ _) (by omega) _ _ _ _ _⟩
        · have HP := Lib.hid hp
          have hp' : ((printB ⟨c, a, i, pl, nb⟩).toList == s.toList) = false := str_other hp
          clear hp
          go_wp2_with fail
          refine (weirref01_New 31 _).mono ?_
          rintro ev w6 ⟨rfl, hB⟩
          have s6 := s5.next hB
          clear hB 
          rw [show (refNew 31).enc = .agg #[.int .i64 31, .int .i64 0, .int .i64 0, .bool false, .bool false] from rfl]
          have d00 := blk_cell' s6.k0 0
          have g00 := blk_free' s6.k0 0
          have d01 := blk_cell' s6.k0 1
          have g01 := blk_free' s6.k0 1
          have d02 := blk_cell' s6.k0 2
          have g02 := blk_free' s6.k0 2
          have d03 := blk_cell' s6.k0 3
          have g03 := blk_free' s6.k0 3
          have d04 := blk_cell' s6.k0 4
          have g04 := blk_free' s6.k0 4
          have d10 := blk_cell' s6.k1 0
          have g10 := blk_free' s6.k1 0
          have d11 := blk_cell' s6.k1 1
          have g11 := blk_free' s6.k1 1
          have d12 := blk_cell' s6.k1 2
          have g12 := blk_free' s6.k1 2
          have d13 := blk_cell' s6.k1 3
          have g13 := blk_free' s6.k1 3
          have d14 := blk_cell' s6.k1 4
          have g14 := blk_free' s6.k1 4
          go_wp2_with fail
          refine bodyPost_ret (results_two (v0 := .agg #[.int .i64 0, .int .i64 0, .int .i64 0, .bool false, .bool false]) (v1 := .agg #[.int .i64 31, .int .i64 0, .int .i64 0, .bool false, .bool false]) Tryd.results29
            (res_cell (b := w.heap.size) (T' := 29) (fr := (0, 0)) rfl (far_bad (bad_blk s6.k0 _ _ _ _ _) (by omega) _ _ _ _ _) Tryd.underlying29 rfl (by kernel_rfl))
            (res_cell (b := w.heap.size + 1) (T' := 29) (fr := (0, 0)) rfl (bad_blk (far_bad s6.k1 (by omega) _ _ _ _ _) _ _ _ _ _) Tryd.underlying29 rfl (by kernel_rfl))) rfl ?_
          exact ⟨by rw [HA.out, ansQ, if_neg (fun h => HP.out h.2)]; rfl, below_bad (below_bad s6.B (Nat.le_refl _) _ _ _ _ _) (by omega) _ _ _ _ _⟩
end Go.Proofs.YtmjagnimdbbbnaaDoor
