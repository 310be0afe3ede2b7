/- The document's answer: Time. -/
import Derived.Test.YthplpjcadjnfiaaGreatDoorSc2f
import Derived.Test.YthplpjcadjnfiaaGreatDoorSc3
import Derived.Test.YthplpjcadjnfiaaGreatDoorSw14
import Derived.Test.YthplpjcadjnfiaaGreatDoorTimeR
import Derived.Deep.DeepCutAuto
import Derived.Deep.CutBlock
namespace Go.Proofs.YthplpjcadjnfiaaGreatDoor
open Go.RowKit
set_option linter.unusedSimpArgs false
set_option linter.unusedVariables false

/-- What the document's Time answers: the number, the error. -/
def timeBad : TimeR → Bad
  | .at_ p => ⟨41, p, 0, true, false⟩
  | .over => ⟨20, 0, 0, false, false⟩
  | .ok _ => ⟨0, 0, 0, false, false⟩
def timeNum : TimeR → Int
  | .ok v => v
  | _ => 0
theorem ref_monthP (y m : Int) (h0 : 0 ≤ y) (h1 : y ≤ 20000) (w : World) :
    Calls Tryz.prog 68 #[.int .i64 y, .int .i64 m] w fun e w' => e = .returned (.int .i64 (monthP y m)) ∧ w = w' := by
  unfold monthP
  by_cases h : 1 ≤ m ∧ m ≤ 12
  · rw [if_pos h]; exact ref_month y m h0 h1 h.1 h.2 w
  · rw [if_neg h]; exact ref_month0 y m (by omega) w
theorem blk_drewn' {w : World} {b : Nat} {o : Obj} (h : w.heap[b]? = some o) : w.drew.heap[b]? = some o := h
abbrev badO : Obj := .cells #[.int .i64 0, .int .i64 0, .int .i64 0, .bool false, .bool false] 29 (0, 0)
abbrev ckO (s : ByteArray) : Obj := .cells #[.string s, .int .i64 0, .int .i64 0, .int .i64 0, .int .i64 0, .bool false, .bool false] 92 (0, 0)
/-- The blocks of a walk through Time: the error's, the clock. -/
structure Ct (w0 : World) (s : ByteArray) (st : CSt) (w : World) : Prop where
  B : Below w0.heap.size w0 w
  hr : w.heap[w0.heap.size]? = some badO
  ck : CkAt (w0.heap.size + 1) s st w
theorem Ct.start (w : World) (s : ByteArray) : Ct w s (0, none) ((w.alloc badO).alloc (ckO s)) := ⟨by go_grown, (heap_old' _ _ _ (by first | omega | (simp only [World.size_alloc, World.size_setCell, World.size_drew, size_drewN'] <;> omega)) (heap_new' _ _ _ (by first | omega | (simp only [World.size_alloc, World.size_setCell, World.size_drew, size_drewN'] <;> omega)))), (heap_new' _ _ _ (by first | omega | (simp only [World.size_alloc, World.size_setCell, World.size_drew, size_drewN'] <;> omega)))⟩
theorem Ct.read {w0 w w' : World} {s : ByteArray} {st st' : CSt} (t : Ct w0 s st w) (h : CkAt (w0.heap.size + 1) s st' w') (hg : w.grownBy w' (some (w0.heap.size + 1))) : Ct w0 s st' w' :=
  ⟨t.B.trans (below_grown1 hg (by omega) t.B.size), grown_blk hg t.hr (by simp), h⟩
theorem Ct.next {w0 w w' : World} {s : ByteArray} {st : CSt} (t : Ct w0 s st w) (h : Below w.heap.size w w') : Ct w0 s st w' :=
  ⟨t.B.trans (h.mono t.B.size), below_blk h (blk_lt' t.hr) t.hr, t.ck.next h⟩
theorem sigC_le_aux {s : ByteArray} {a : Nat} {c : UInt8} (h : sigS s.data.toList a c = true) : a + 1 ≤ s.size := by
  unfold sigS at h
  have h1 : s.data.toList[a]? = some c := by simpa using h
  obtain ⟨hl, _⟩ := List.getElem?_eq_some_iff.1 h1
  exact hl
theorem fracC_le {s : ByteArray} {st : CSt} (h : st.1 ≤ s.size) : (fracC s.data.toList st).2.1 ≤ s.size := by
  obtain ⟨a, b⟩ := st
  cases b with
  | some p => exact h
  | none =>
    unfold fracC
    simp only
    cases hf : fracS s.data.toList a with
    | none => exact h
    | some p =>
      obtain ⟨v, b⟩ := p
      simp only
      unfold fracS at hf
      split at hf
      · split at hf
        · have := runD_le (s.data.toList.drop (a + 1))
          rw [List.length_drop, show s.data.toList.length = s.size from rfl] at this
          rename_i hs _
          have hlt : a + 1 ≤ s.size := sigC_le_aux hs
          cases hf
          omega
        · cases hf
      · cases hf; exact h
theorem zoneC_le {s : ByteArray} {st : CSt} (h : st.1 ≤ s.size) : (zoneC s.data.toList st).2.1 ≤ s.size := by
  obtain ⟨a, b⟩ := st
  cases b with
  | some p => exact h
  | none =>
    unfold zoneC
    simp only
    split
    · rename_i hs; exact sigC_le_aux hs
    · split
      · rename_i hs
        have hlt : a + 1 ≤ s.size := hs.elim sigC_le_aux sigC_le_aux
        exact numC_le (sigC_le (numC_le (show a + 1 ≤ s.data.toList.length from hlt)))
      · exact h
/-- What the clock leaves of a text; bounds of what it read. -/
structure CBd (Y MO D H MI SEC F Z : Int) : Prop where
  v : validD Y MO D = true
  h0 : 0 ≤ H
  h1 : H ≤ 23
  i0 : 0 ≤ MI
  i1 : MI ≤ 59
  s0 : 0 ≤ SEC
  s1 : SEC ≤ 59
  n0 : 0 ≤ F
  n1 : F ≤ 999999999
  z0 : -1439 ≤ Z
  z1 : Z ≤ 1439
set_option maxRecDepth 100000 in
set_option maxHeartbeats 2000000 in
theorem ref_Time (s : ByteArray) (hs : s.size ≤ 140737488355328) (w : World) :
    Calls Tryz.prog 22 #[.string s] w fun e w' => e = .returned (.tuple #[.int .i64 (timeNum (timeP s.data.toList)), (timeBad (timeP s.data.toList)).enc]) ∧ Below w.heap.size w w' := by
  obtain ⟨hT, hG⟩ := clock_time s.data.toList
  obtain ⟨c, hc⟩ : ∃ c, c = w.heap.size + 1 := ⟨_, rfl⟩
  have hz0 : ((0, none) : CSt).1 ≤ s.size := Nat.zero_le _
  have C1 : ∀ W, CkAt c s (0, none) W → Calls Tryz.prog 66 #[.pointer (some ⟨c, 0, none⟩), .int .i64 4, .int .i64 0, .int .i64 9999] W (CkPost c s (.int .i64) W (cY s.data.toList)) := fun W hW => ck_number c s (0, none) 4 0 9999 hs hz0 (by omega) W hW
  have l1 : (cY s.data.toList).2.1 ≤ s.size := numC_le hz0
  have yb := numC_bd (l := s.data.toList) (n := 4) (lo := 0) (hi := 9999) (st := (0, none)) (by omega) (by omega)
  replace yb : 0 ≤ (cY s.data.toList).1 ∧ (cY s.data.toList).1 ≤ 9999 := yb
  have G1 := fun W hW => ck_sign c s (cY s.data.toList).2 45 45 rfl l1 hs W hW
  have m1 : (sigC s.data.toList 45 (cY s.data.toList).2).1 ≤ s.size := sigC_le l1
  have C2 : ∀ W, CkAt c s (sigC s.data.toList 45 (cY s.data.toList).2) W → Calls Tryz.prog 66 #[.pointer (some ⟨c, 0, none⟩), .int .i64 2, .int .i64 1, .int .i64 12] W (CkPost c s (.int .i64) W (cMO s.data.toList)) := fun W hW => ck_number c s _ 2 1 12 hs m1 (by omega) W hW
  have l2 : (cMO s.data.toList).2.1 ≤ s.size := numC_le m1
  have G2 := fun W hW => ck_sign c s (cMO s.data.toList).2 45 45 rfl l2 hs W hW
  have m2 : (sigC s.data.toList 45 (cMO s.data.toList).2).1 ≤ s.size := sigC_le l2
  have CM := fun W => ref_monthP (cY s.data.toList).1 (cMO s.data.toList).1 yb.1 (by omega) W
  have C3 : ∀ W, CkAt c s (sigC s.data.toList 45 (cMO s.data.toList).2) W → Calls Tryz.prog 66 #[.pointer (some ⟨c, 0, none⟩), .int .i64 2, .int .i64 1, .int .i64 (monthP (cY s.data.toList).1 (cMO s.data.toList).1)] W (CkPost c s (.int .i64) W (cD s.data.toList)) := fun W hW => ck_number c s _ 2 1 _ hs m2 (by omega) W hW
  have l3 : (cD s.data.toList).2.1 ≤ s.size := numC_le m2
  have G3 := fun W hW => ck_sign c s (cD s.data.toList).2 84 84 rfl l3 hs W hW
  have m3 : (sigC s.data.toList 84 (cD s.data.toList).2).1 ≤ s.size := sigC_le l3
  have C4 : ∀ W, CkAt c s (sigC s.data.toList 84 (cD s.data.toList).2) W → Calls Tryz.prog 66 #[.pointer (some ⟨c, 0, none⟩), .int .i64 2, .int .i64 0, .int .i64 23] W (CkPost c s (.int .i64) W (cH s.data.toList)) := fun W hW => ck_number c s _ 2 0 23 hs m3 (by omega) W hW
  have l4 : (cH s.data.toList).2.1 ≤ s.size := numC_le m3
  have G4 := fun W hW => ck_sign c s (cH s.data.toList).2 58 58 rfl l4 hs W hW
  have m4 : (sigC s.data.toList 58 (cH s.data.toList).2).1 ≤ s.size := sigC_le l4
  have C5 : ∀ W, CkAt c s (sigC s.data.toList 58 (cH s.data.toList).2) W → Calls Tryz.prog 66 #[.pointer (some ⟨c, 0, none⟩), .int .i64 2, .int .i64 0, .int .i64 59] W (CkPost c s (.int .i64) W (cMI s.data.toList)) := fun W hW => ck_number c s _ 2 0 59 hs m4 (by omega) W hW
  have l5 : (cMI s.data.toList).2.1 ≤ s.size := numC_le m4
  have G5 := fun W hW => ck_sign c s (cMI s.data.toList).2 58 58 rfl l5 hs W hW
  have m5 : (sigC s.data.toList 58 (cMI s.data.toList).2).1 ≤ s.size := sigC_le l5
  have C6 : ∀ W, CkAt c s (sigC s.data.toList 58 (cMI s.data.toList).2) W → Calls Tryz.prog 66 #[.pointer (some ⟨c, 0, none⟩), .int .i64 2, .int .i64 0, .int .i64 59] W (CkPost c s (.int .i64) W (cSEC s.data.toList)) := fun W hW => ck_number c s _ 2 0 59 hs m5 (by omega) W hW
  have l6 : (cSEC s.data.toList).2.1 ≤ s.size := numC_le m5
  have C7 : ∀ W, CkAt c s (cSEC s.data.toList).2 W → Calls Tryz.prog 69 #[.pointer (some ⟨c, 0, none⟩)] W (CkPost c s (.int .i64) W (cF s.data.toList)) := fun W hW => ck_fraction c s _ l6 hs W hW
  have l7 : (cF s.data.toList).2.1 ≤ s.size := fracC_le l6
  have C8 : ∀ W, CkAt c s (cF s.data.toList).2 W → Calls Tryz.prog 70 #[.pointer (some ⟨c, 0, none⟩)] W (CkPost c s (.int .i64) W (cZ s.data.toList)) := fun W hW => ck_zone c s _ l7 hs W hW
  have l8 : (cZ s.data.toList).2.1 ≤ s.size := zoneC_le l7
  have hB : (cZ s.data.toList).2.2 = none → CBd (cY s.data.toList).1 (cMO s.data.toList).1 (cD s.data.toList).1 (cH s.data.toList).1 (cMI s.data.toList).1 (cSEC s.data.toList).1 (cF s.data.toList).1 (cZ s.data.toList).1 := fun h => by
    have g := hG h
    exact ⟨validD_iff.2 ⟨g.y0, g.y1, g.m0, g.m1, g.d0, g.d1⟩, g.h0, g.h1, g.i0, g.i1, g.s0, g.s1, g.n0, g.n1, g.z0, g.z1⟩
  have hE : timeP s.data.toList = match (cZ s.data.toList).2 with
    | (_, some p) => .at_ p
    | (a, none) => if a < s.size then .at_ a else saidP (nsec (cY s.data.toList).1 (cMO s.data.toList).1 (cD s.data.toList).1 (cH s.data.toList).1 (cMI s.data.toList).1 (cSEC s.data.toList).1 (cF s.data.toList).1 (cZ s.data.toList).1) := hT.symm
  clear hT hG l1 m1 l2 m2 l3 m3 l4 m4 l5 m5 l6 l7 yb
  generalize timeP s.data.toList = TM at *
  generalize sigC s.data.toList 45 (cY s.data.toList).2 = S1 at *
  generalize sigC s.data.toList 45 (cMO s.data.toList).2 = S2 at *
  generalize sigC s.data.toList 84 (cD s.data.toList).2 = S3 at *
  generalize sigC s.data.toList 58 (cH s.data.toList).2 = S4 at *
  generalize sigC s.data.toList 58 (cMI s.data.toList).2 = S5 at *
  generalize cY s.data.toList = Y at *
  generalize cMO s.data.toList = MO at *
  generalize cD s.data.toList = D at *
  generalize cH s.data.toList = H at *
  generalize cMI s.data.toList = MI at *
  generalize cSEC s.data.toList = SEC at *
  generalize cF s.data.toList = F at *
  generalize cZ s.data.toList = Z at *
  obtain ⟨Yv, Ys⟩ := Y
  obtain ⟨MOv, MOs⟩ := MO
  obtain ⟨Dv, Ds⟩ := D
  obtain ⟨Hv, Hs⟩ := H
  obtain ⟨MIv, MIs⟩ := MI
  obtain ⟨SECv, SECs⟩ := SEC
  obtain ⟨Fv, Fs⟩ := F
  obtain ⟨Zv, Za, Zb⟩ := Z
  simp only at CM C3 hB hE l8
  generalize monthP Yv MOv = DM at *
  have C1 := Lib.hid C1
  have G1 := Lib.hid G1
  have C2 := Lib.hid C2
  have G2 := Lib.hid G2
  have CM := Lib.hid CM
  have C3 := Lib.hid C3
  have G3 := Lib.hid G3
  have C4 := Lib.hid C4
  have G4 := Lib.hid G4
  have C5 := Lib.hid C5
  have G5 := Lib.hid G5
  have C6 := Lib.hid C6
  have C7 := Lib.hid C7
  have C8 := Lib.hid C8
  have HB := Lib.hid hB
  have HE := Lib.hid hE
  subst hc
  clear hz0 hB hE
  obtain ⟨VN, hVN⟩ : ∃ VN, VN = timeNum TM := ⟨_, rfl⟩
  obtain ⟨VB, hVB⟩ : ∃ VB, VB = timeBad TM := ⟨_, rfl⟩
  rw [← hVN, ← hVB]
  have HVN := Lib.hid hVN
  have HVB := Lib.hid hVB
  clear hVN hVB
  obtain ⟨b0, b1, b2, b3, b4⟩ := VB
  simp only [Bad.enc]
  have t := Ct.start w s
  go_enter Tryz.func22, Tryz.ntmps22
  go_wp2_with fail
  refine (C1.out _ t.ck).mono ?_
  rintro ev w' ⟨rfl, h1, hg⟩
  replace t := t.read h1 hg
  clear C1 h1 hg
  go_wp2_with fail
  refine (G1.out _ t.ck).mono ?_
  rintro ev w' ⟨rfl, h1, hg⟩
  replace t := t.read h1 hg
  clear G1 h1 hg
  go_wp2_with fail
  refine (C2.out _ t.ck).mono ?_
  rintro ev w' ⟨rfl, h1, hg⟩
  replace t := t.read h1 hg
  clear C2 h1 hg
  go_wp2_with fail
  refine (G2.out _ t.ck).mono ?_
  rintro ev w' ⟨rfl, h1, hg⟩
  replace t := t.read h1 hg
  clear G2 h1 hg
  go_wp2_with fail
  refine (CM.out _).mono ?_
  rintro ev w' ⟨rfl, rfl⟩
  go_wp2_with fail
  refine (C3.out _ t.ck).mono ?_
  rintro ev w' ⟨rfl, h1, hg⟩
  replace t := t.read h1 hg
  clear C3 h1 hg
  go_wp2_with fail
  refine (G3.out _ t.ck).mono ?_
  rintro ev w' ⟨rfl, h1, hg⟩
  replace t := t.read h1 hg
  clear G3 h1 hg
  go_wp2_with fail
  refine (C4.out _ t.ck).mono ?_
  rintro ev w' ⟨rfl, h1, hg⟩
  replace t := t.read h1 hg
  clear C4 h1 hg
  go_wp2_with fail
  refine (G4.out _ t.ck).mono ?_
  rintro ev w' ⟨rfl, h1, hg⟩
  replace t := t.read h1 hg
  clear G4 h1 hg
  go_wp2_with fail
  refine (C5.out _ t.ck).mono ?_
  rintro ev w' ⟨rfl, h1, hg⟩
  replace t := t.read h1 hg
  clear C5 h1 hg
  go_wp2_with fail
  refine (G5.out _ t.ck).mono ?_
  rintro ev w' ⟨rfl, h1, hg⟩
  replace t := t.read h1 hg
  clear G5 h1 hg
  go_wp2_with fail
  refine (C6.out _ t.ck).mono ?_
  rintro ev w' ⟨rfl, h1, hg⟩
  replace t := t.read h1 hg
  clear C6 h1 hg
  go_wp2_with fail
  refine (C7.out _ t.ck).mono ?_
  rintro ev w' ⟨rfl, h1, hg⟩
  replace t := t.read h1 hg
  clear C7 h1 hg
  go_wp2_with fail
  refine (C8.out _ t.ck).mono ?_
  rintro ev w' ⟨rfl, h1, hg⟩
  replace t := t.read h1 hg
  clear C8 h1 hg
  cases Zb with
  | some p =>
    obtain rfl : TM = .at_ p := HE.out
    obtain ⟨rfl, rfl, rfl, rfl, rfl⟩ : b0 = 41 ∧ b1 = ((p : Nat) : Int) ∧ b2 = 0 ∧ b3 = true ∧ b4 = false := by
      have := HVB.out
      simp only [timeBad, Bad.mk.injEq] at this
      exact this
    obtain rfl : VN = 0 := HVN.out
    clear HVB HVN HE HB
    have hck := t.ck
    unfold CkAt at hck
    simp only [kC, kB, kP] at hck
    have m1 := t.hr
    have HT := fun v0 v1 v2 v3 v4 => bad_blk m1 v0 v1 v2 v3 v4
    have HB0 := Lib.hid t.B
    have kk0 := blk_cell' (hck) 0
    have kf0 := blk_free' (hck) 0
    have kk1 := blk_cell' (hck) 1
    have kf1 := blk_free' (hck) 1
    have kk2 := blk_cell' (hck) 2
    have kf2 := blk_free' (hck) 2
    have kk3 := blk_cell' (hck) 3
    have kf3 := blk_free' (hck) 3
    have kk4 := blk_cell' (hck) 4
    have kf4 := blk_free' (hck) 4
    have kk5 := blk_cell' (hck) 5
    have kf5 := blk_free' (hck) 5
    have kk6 := blk_cell' (hck) 6
    have kf6 := blk_free' (hck) 6
    have qk0 := blk_cell' (m1) 0
    have qf0 := blk_free' (m1) 0
    have qk1 := blk_cell' (m1) 1
    have qf1 := blk_free' (m1) 1
    have qk2 := blk_cell' (m1) 2
    have qf2 := blk_free' (m1) 2
    have qk3 := blk_cell' (m1) 3
    have qf3 := blk_free' (m1) 3
    have qk4 := blk_cell' (m1) 4
    have qf4 := blk_free' (m1) 4
    clear hck m1 t
    go_wp2_with fail
    go_region
    all_goals (try go_wp2)
    all_goals first | exact bodyPost_ret (results_two Tryz.results22 (res_tmp rfl) (res_cell (T' := 29) (fr := (0, 0)) rfl (blk_drewn' (HT _ _ _ _ _)) Tryz.underlying29 rfl (by kernel_rfl))) rfl ⟨rfl, (below_bad HB0.out (Nat.le_refl _) _ _ _ _ _).drew⟩ | exact bodyPost_ret (results_two Tryz.results22 (res_tmp rfl) (res_cell (T' := 29) (fr := (0, 0)) rfl (HT _ _ _ _ _) Tryz.underlying29 rfl (by kernel_rfl))) rfl ⟨rfl, below_bad HB0.out (Nat.le_refl _) _ _ _ _ _⟩
  | none =>
    by_cases hlt : Za < s.size
    · obtain rfl : TM = .at_ Za := by rw [HE.out]; exact if_pos hlt
      obtain ⟨rfl, rfl, rfl, rfl, rfl⟩ : b0 = 41 ∧ b1 = ((Za : Nat) : Int) ∧ b2 = 0 ∧ b3 = true ∧ b4 = false := by
        have := HVB.out
        simp only [timeBad, Bad.mk.injEq] at this
        exact this
      obtain rfl : VN = 0 := HVN.out
      clear HVB HVN HE HB
      have kl : decide ((Za : Int) < (s.size : Int)) = true := by rw [decide_eq_true_iff]; omega
      have CW := Lib.hid (fun W hW => ck_wrong (w.heap.size + 1) s Za l8 W hW)
      have hck := t.ck
      unfold CkAt at hck
      simp only [kC, kB, kP] at hck
      have k1 := blk_cell' hck 1
      have k2 := blk_cell' hck 2
      clear hck
      go_wp2_with fail
      refine (CW.out _ t.ck).mono ?_
      rintro ev w' ⟨rfl, h1, hg⟩
      replace t := t.read h1 hg
      clear k1 k2 h1 hg CW
      have hck := t.ck
      unfold CkAt at hck
      simp only [kC, kB, kP] at hck
      have m1 := t.hr
      have HT := fun v0 v1 v2 v3 v4 => bad_blk m1 v0 v1 v2 v3 v4
      have HB0 := Lib.hid t.B
      have kk0 := blk_cell' (hck) 0
      have kf0 := blk_free' (hck) 0
      have kk1 := blk_cell' (hck) 1
      have kf1 := blk_free' (hck) 1
      have kk2 := blk_cell' (hck) 2
      have kf2 := blk_free' (hck) 2
      have kk3 := blk_cell' (hck) 3
      have kf3 := blk_free' (hck) 3
      have kk4 := blk_cell' (hck) 4
      have kf4 := blk_free' (hck) 4
      have kk5 := blk_cell' (hck) 5
      have kf5 := blk_free' (hck) 5
      have kk6 := blk_cell' (hck) 6
      have kf6 := blk_free' (hck) 6
      have qk0 := blk_cell' (m1) 0
      have qf0 := blk_free' (m1) 0
      have qk1 := blk_cell' (m1) 1
      have qf1 := blk_free' (m1) 1
      have qk2 := blk_cell' (m1) 2
      have qf2 := blk_free' (m1) 2
      have qk3 := blk_cell' (m1) 3
      have qf3 := blk_free' (m1) 3
      have qk4 := blk_cell' (m1) 4
      have qf4 := blk_free' (m1) 4
      clear hck m1 t
      go_wp2_with fail
      go_region
      all_goals (try go_wp2)
      all_goals first | exact bodyPost_ret (results_two Tryz.results22 (res_tmp rfl) (res_cell (T' := 29) (fr := (0, 0)) rfl (blk_drewn' (HT _ _ _ _ _)) Tryz.underlying29 rfl (by kernel_rfl))) rfl ⟨rfl, (below_bad HB0.out (Nat.le_refl _) _ _ _ _ _).drew⟩ | exact bodyPost_ret (results_two Tryz.results22 (res_tmp rfl) (res_cell (T' := 29) (fr := (0, 0)) rfl (HT _ _ _ _ _) Tryz.underlying29 rfl (by kernel_rfl))) rfl ⟨rfl, below_bad HB0.out (Nat.le_refl _) _ _ _ _ _⟩
    · obtain rfl : TM = saidP (nsec Yv MOv Dv Hv MIv SECv Fv Zv) := by rw [HE.out]; exact if_neg hlt
      have kl : decide ((Za : Int) < (s.size : Int)) = false := by rw [decide_eq_false_iff_not]; omega
      obtain ⟨hv, h0, h1, i0, i1, s0, s1, n0, n1, z0, z1⟩ := HB.out rfl
      have hd31 := daysM_bd Yv MOv
      have hvv := validD_iff.1 hv
      have CD := fun W => ref_Day Yv MOv Dv (by omega) (by omega) W
      have hdp : dayP Yv MOv Dv = (dayN Yv MOv Dv, 0) := if_pos hv
      rw [hdp, refNew_enc'] at CD
      obtain ⟨hb0, hb1⟩ := day_bd hv
      obtain ⟨N, hN⟩ : ∃ N, N = dayN Yv MOv Dv := ⟨_, rfl⟩
      rw [← hN] at hb0 hb1 CD
      obtain ⟨X, hX⟩ : ∃ X, X = nsec Yv MOv Dv Hv MIv SECv Fv Zv := ⟨_, rfl⟩
      have hXe : X = ((N * 1440 + (60 * Hv + MIv - Zv)) * 60 + SECv) * 1000000000 + Fv := by rw [hX, hN]; unfold nsec; omega
      rw [← hX] at HVB HVN
      clear hX hN hdp hvv hv hd31 HE HB
      have CS := fun W => ref_scaled ((N * 1440 + (60 * Hv + MIv - Zv)) * 60 + SECv) (by omega) (by omega) W
      have CP := fun W => ref_Plus (((N * 1440 + (60 * Hv + MIv - Zv)) * 60 + SECv) * 1000000000) Fv (by omega) (by omega) (by omega) (by omega) W
      rw [← hXe] at CP
      have CL := fun W => ref_Small (hiI X) (loI X) (loI_bd X).1 (loI_bd X).2 W
      rw [small_fit X (hiI X) (loI X) (loI_bd X).1 (loI_bd X).2 (by unfold hiI loI; omega)] at CL
      have CD := Lib.hid CD
      have CS := Lib.hid CS
      have CP := Lib.hid CP
      clear hXe
      have hck := t.ck
      unfold CkAt at hck
      simp only [kC, kB, kP] at hck
      have k1 := blk_cell' hck 1
      have k2 := blk_cell' hck 2
      clear hck
      go_wp2_with fail
      refine (CD.out _).mono ?_
      rintro ev w2 ⟨rfl, hB2⟩
      replace t := (t.next hB2).next ((Below.refl _ _).alloc (Nat.le_refl _) badO)
      clear k1 k2 hB2 CD
      go_upto_region 20 with (fail)
      generalize w2.alloc _ = W at *
      go_wp2_with fail
      refine (CS.out _).mono ?_
      rintro ev w3 ⟨rfl, hB3⟩
      replace t := t.next hB3
      clear hB3 CS
      go_wp2_with fail
      refine (CP.out _).mono ?_
      rintro ev w4 ⟨rfl, hB4⟩
      replace t := (t.next hB4).next ((Below.refl _ _).alloc (Nat.le_refl _) (.cells #[.int .i64 (hiI X), .int .u64 (loI X)] 57 (0, 0)))
      clear hB4 CP
      go_wp2_with fail
      by_cases hfit : -9223372036854775808 ≤ X ∧ X ≤ 9223372036854775807
      · rw [fitP_yes hfit.1 hfit.2] at CL
        rw [refNew_enc'] at CL
        have CL := Lib.hid CL
        have hsd : saidP X = .ok X := if_pos hfit
        rw [hsd] at HVB HVN
        obtain ⟨rfl, rfl, rfl, rfl, rfl⟩ : b0 = 0 ∧ b1 = 0 ∧ b2 = 0 ∧ b3 = false ∧ b4 = false := by
          have := HVB.out
          simp only [timeBad, Bad.mk.injEq] at this
          exact this
        obtain rfl : VN = X := HVN.out
        clear HVB HVN hsd hfit
        refine (CL.out _).mono ?_
        rintro ev w5 ⟨rfl, hB5⟩
        replace t := t.next hB5
        clear hB5 CL
        go_upto_region 24 with (fail)
        have m2 := heap_alloc_new w5 (.cells #[.int .i64 0, .int .i64 0, .int .i64 0, .bool false, .bool false] 29 (0, 0))
        replace t := t.next ((Below.refl _ _).alloc (Nat.le_refl _) (.cells #[.int .i64 0, .int .i64 0, .int .i64 0, .bool false, .bool false] 29 (0, 0)))
        generalize w5.alloc (.cells #[.int .i64 0, .int .i64 0, .int .i64 0, .bool false, .bool false] 29 (0, 0)) = W5 at *
        generalize w5.heap.size = g at *
        have m1 := t.hr
        have HT := fun v0 v1 v2 v3 v4 => bad_blk m1 v0 v1 v2 v3 v4
        have HB0 := Lib.hid t.B
        have qk0 := blk_cell' (m1) 0
        have qf0 := blk_free' (m1) 0
        have qk1 := blk_cell' (m1) 1
        have qf1 := blk_free' (m1) 1
        have qk2 := blk_cell' (m1) 2
        have qf2 := blk_free' (m1) 2
        have qk3 := blk_cell' (m1) 3
        have qf3 := blk_free' (m1) 3
        have qk4 := blk_cell' (m1) 4
        have qf4 := blk_free' (m1) 4
        have pk0 := blk_cell' (m2) 0
        have pf0 := blk_free' (m2) 0
        have pk1 := blk_cell' (m2) 1
        have pf1 := blk_free' (m2) 1
        have pk2 := blk_cell' (m2) 2
        have pf2 := blk_free' (m2) 2
        have pk3 := blk_cell' (m2) 3
        have pf3 := blk_free' (m2) 3
        have pk4 := blk_cell' (m2) 4
        have pf4 := blk_free' (m2) 4
        clear m1 m2 t
        go_wp2
        exact bodyPost_ret (results_two Tryz.results22 (res_tmp rfl) (res_cell (T' := 29) (fr := (0, 0)) rfl (HT _ _ _ _ _) Tryz.underlying29 rfl (by kernel_rfl))) rfl ⟨rfl, below_bad HB0.out (Nat.le_refl _) _ _ _ _ _⟩
      · rw [fitP_no hfit] at CL
        rw [refNew_enc'] at CL
        have CL := Lib.hid CL
        have hsd : saidP X = .over := if_neg hfit
        rw [hsd] at HVB HVN
        obtain ⟨rfl, rfl, rfl, rfl, rfl⟩ : b0 = 20 ∧ b1 = 0 ∧ b2 = 0 ∧ b3 = false ∧ b4 = false := by
          have := HVB.out
          simp only [timeBad, Bad.mk.injEq] at this
          exact this
        obtain rfl : VN = 0 := HVN.out
        clear HVB HVN hsd hfit
        refine (CL.out _).mono ?_
        rintro ev w5 ⟨rfl, hB5⟩
        replace t := t.next hB5
        clear hB5 CL
        go_upto_region 24 with (fail)
        have m2 := heap_alloc_new w5 (.cells #[.int .i64 20, .int .i64 0, .int .i64 0, .bool false, .bool false] 29 (0, 0))
        replace t := t.next ((Below.refl _ _).alloc (Nat.le_refl _) (.cells #[.int .i64 20, .int .i64 0, .int .i64 0, .bool false, .bool false] 29 (0, 0)))
        generalize w5.alloc (.cells #[.int .i64 20, .int .i64 0, .int .i64 0, .bool false, .bool false] 29 (0, 0)) = W5 at *
        generalize w5.heap.size = g at *
        have m1 := t.hr
        have HT := fun v0 v1 v2 v3 v4 => bad_blk m1 v0 v1 v2 v3 v4
        have HB0 := Lib.hid t.B
        have qk0 := blk_cell' (m1) 0
        have qf0 := blk_free' (m1) 0
        have qk1 := blk_cell' (m1) 1
        have qf1 := blk_free' (m1) 1
        have qk2 := blk_cell' (m1) 2
        have qf2 := blk_free' (m1) 2
        have qk3 := blk_cell' (m1) 3
        have qf3 := blk_free' (m1) 3
        have qk4 := blk_cell' (m1) 4
        have qf4 := blk_free' (m1) 4
        have pk0 := blk_cell' (m2) 0
        have pf0 := blk_free' (m2) 0
        have pk1 := blk_cell' (m2) 1
        have pf1 := blk_free' (m2) 1
        have pk2 := blk_cell' (m2) 2
        have pf2 := blk_free' (m2) 2
        have pk3 := blk_cell' (m2) 3
        have pf3 := blk_free' (m2) 3
        have pk4 := blk_cell' (m2) 4
        have pf4 := blk_free' (m2) 4
        clear m1 m2 t
        go_wp2_with fail
        go_region
        all_goals (try go_wp2)
        all_goals exact bodyPost_ret (results_two Tryz.results22 (res_tmp rfl) (res_cell (T' := 29) (fr := (0, 0)) rfl (blk_drewn' (HT _ _ _ _ _)) Tryz.underlying29 rfl (by kernel_rfl))) rfl ⟨rfl, (below_bad HB0.out (Nat.le_refl _) _ _ _ _ _).drew⟩
end Go.Proofs.YthplpjcadjnfiaaGreatDoor
