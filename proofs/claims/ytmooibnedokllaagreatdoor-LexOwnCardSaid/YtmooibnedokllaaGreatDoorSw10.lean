/- The reference's part: the unit, the length and the number of the part at the front. -/
import Derived.Test.YtmooibnedokllaaGreatDoorSw9
namespace Go.Proofs.YtmooibnedokllaaGreatDoor
open Go.RowKit
set_option linter.unusedSimpArgs false
set_option linter.unusedVariables false

theorem results_four {P : Program} {w : World} {fn : Func} {tmps : Array Value} {r0 r1 r2 r3 : ResultVar} {v0 v1 v2 v3 : Value} (h : fn.results = #[r0, r1, r2, r3]) (h0 : ResIs P w tmps r0 v0) (h1 : ResIs P w tmps r1 v1) (h2 : ResIs P w tmps r2 v2) (h3 : ResIs P w tmps r3 v3) :
    (results fn tmps).run P w = .ok (.tuple #[v0, v1, v2, v3]) w := by
  have e : results fn tmps = (do let vs ← fn.results.mapM (resSem tmps); pure (if h : vs.size = 1 then vs[0] else .tuple vs)) := rfl
  unfold ResIs at h0 h1 h2 h3
  rw [e, h]
  simp [h0, h1, h2, h3, Result.andThen]
/-- The unit at the front, by two letters, then by one. -/
theorem unit_letters (r : List UInt8) :
    (2 ≤ r.length → 0 < unitBy (r.take 2) → ∃ u : Nat, unitL r = u ∧ (unitV u : Int) = unitBy (r.take 2) ∧ (unitN u).length = 2) ∧
    ((2 ≤ r.length → ¬ 0 < unitBy (r.take 2)) → 1 ≤ r.length → 0 < unitBy (r.take 1) → ∃ u : Nat, unitL r = u ∧ (unitV u : Int) = unitBy (r.take 1) ∧ (unitN u).length = 1) ∧
    ((2 ≤ r.length → ¬ 0 < unitBy (r.take 2)) → (1 ≤ r.length → ¬ 0 < unitBy (r.take 1)) → unitL r = -1) := by
  rcases r with _ | ⟨a, _ | ⟨b, r⟩⟩
  · exact ⟨fun h => by simp at h, fun _ h => by simp at h, fun _ _ => rfl⟩
  · refine ⟨fun h => by simp at h, fun _ _ h => ?_, fun _ h => ?_⟩
    · have h' : 0 < unitBy [a] := h
      show ∃ u : Nat, unitL [a] = u ∧ (unitV u : Int) = unitBy [a] ∧ _
      unfold unitBy at h' ⊢
      simp only [List.cons.injEq, reduceCtorEq, and_false, and_true, if_false] at h' ⊢
      by_cases e4 : a = 115
      · subst e4; exact ⟨4, rfl, rfl, rfl⟩
      rw [if_neg e4] at h' ⊢
      by_cases e3 : a = 109
      · subst e3; exact ⟨3, rfl, rfl, rfl⟩
      rw [if_neg e3] at h' ⊢
      by_cases e2 : a = 104
      · subst e2; exact ⟨2, rfl, rfl, rfl⟩
      rw [if_neg e2] at h' ⊢
      by_cases e1 : a = 100
      · subst e1; exact ⟨1, rfl, rfl, rfl⟩
      rw [if_neg e1] at h' ⊢
      by_cases e0 : a = 119
      · subst e0; exact ⟨0, rfl, rfl, rfl⟩
      rw [if_neg e0] at h'
      exact absurd h' (by decide)
    · have h' : ¬ 0 < unitBy [a] := h (by simp)
      unfold unitBy at h'
      simp only [List.cons.injEq, reduceCtorEq, and_false, and_true, if_false] at h'
      simp only [unitL, List.take_nil]
      repeat' split at h'
      all_goals first | exact absurd (show (0 : Int) < _ by decide) h' | skip
      simp_all
  · have t1 : (a :: b :: r).take 1 = [a] := rfl
    have t2 : (a :: b :: r).take 2 = [a, b] := rfl
    rw [t1, t2]
    have two : 0 < unitBy [a, b] ↔ b = 115 ∧ (a = 110 ∨ a = 117 ∨ a = 109) := by
      unfold unitBy
      simp only [List.cons.injEq, reduceCtorEq, and_false, and_true, if_false]
      repeat' split
      all_goals first | (rename_i h; simp [h]) | skip
      all_goals grind
    have one : 0 < unitBy [a] ↔ (a = 115 ∨ a = 109 ∨ a = 104 ∨ a = 100 ∨ a = 119) := by
      unfold unitBy
      simp only [List.cons.injEq, reduceCtorEq, and_false, and_true, if_false]
      repeat' split
      all_goals first | (rename_i h; simp [h]) | skip
      all_goals simp_all
    refine ⟨fun _ h => ?_, fun h2 _ h => ?_, fun h2 h1 => ?_⟩
    · obtain ⟨rfl, rfl | rfl | rfl⟩ := two.1 h
      · exact ⟨7, rfl, rfl, rfl⟩
      · exact ⟨6, rfl, rfl, rfl⟩
      · exact ⟨5, rfl, rfl, rfl⟩
    · have h3 := h2 (by simp)
      rw [two] at h3
      rcases one.1 h with rfl | rfl | rfl | rfl | rfl
      · exact ⟨4, rfl, rfl, rfl⟩
      · have hb : b ≠ 115 := fun e => h3 ⟨e, Or.inr (Or.inr rfl)⟩
        refine ⟨3, ?_, rfl, rfl⟩
        simp [unitL, hb]
      · exact ⟨2, rfl, rfl, rfl⟩
      · exact ⟨1, rfl, rfl, rfl⟩
      · exact ⟨0, rfl, rfl, rfl⟩
    · have h3 := h2 (by simp)
      have h4 := h1 (by simp)
      rw [two] at h3
      rw [one] at h4
      have e1 : a ≠ 115 := fun e => h4 (Or.inl e)
      have e2 : a ≠ 109 := fun e => h4 (Or.inr (Or.inl e))
      have e3 : a ≠ 104 := fun e => h4 (Or.inr (Or.inr (Or.inl e)))
      have e4 : a ≠ 100 := fun e => h4 (Or.inr (Or.inr (Or.inr (Or.inl e))))
      have e5 : a ≠ 119 := fun e => h4 (Or.inr (Or.inr (Or.inr (Or.inr e))))
      by_cases hb : b = 115
      · have e6 : a ≠ 110 := fun e => h3 ⟨hb, Or.inl e⟩
        have e7 : a ≠ 117 := fun e => h3 ⟨hb, Or.inr (Or.inl e)⟩
        simp [unitL, e1, e2, e3, e4, e5, e6, e7]
      · simp [unitL, e1, e2, e3, e4, e5, hb]

/-- The blocks of a walk through part. -/
structure Pa (w0 w : World) (p : Nat) : Prop where
  B : Below w0.heap.size w0 w
  hr : w.heap[w0.heap.size]? = some (.cells #[.int .i64 0, .int .u64 0] 166 (0, 0))
  hv : w.heap[w0.heap.size + 1]? = some (.cells #[.int .i64 (sumH p), .int .u64 (sumL p)] 166 (0, 0))
theorem Pa.sz {w0 w : World} {p : Nat} (t : Pa w0 w p) : w0.heap.size + 1 < w.heap.size := blk_lt' t.hv
theorem Pa.next {w0 w w' : World} {p : Nat} (t : Pa w0 w p) (h : Below w.heap.size w w') : Pa w0 w' p :=
  ⟨t.B.trans (h.mono (by have := t.sz; omega)), below_blk h (blk_lt' t.hr) t.hr, below_blk h (blk_lt' t.hv) t.hv⟩
theorem Pa.setv {w0 w : World} {p : Nat} (t : Pa w0 w p) (p' : Nat) : Pa w0 ((w.setCell ⟨w0.heap.size + 1, 0, none⟩ (.int .i64 (sumH p'))).setCell ⟨w0.heap.size + 1, 1, none⟩ (.int .u64 (sumL p'))) p' :=
  ⟨below_two t.B (by omega) _ _, blk_far' (blk_far' t.hr (by omega) _ _) (by omega) _ _, two_blk t.hv _ _⟩
theorem Pa.cells {w0 w : World} {p : Nat} (t : Pa w0 w p) : w.cell? ⟨w0.heap.size + 1, 0, none⟩ = some (.int .i64 (sumH p)) ∧ w.cell? ⟨w0.heap.size + 1, 1, none⟩ = some (.int .u64 (sumL p)) ∧
    w.frozen? ⟨w0.heap.size + 1, 0, none⟩ = false ∧ w.frozen? ⟨w0.heap.size + 1, 1, none⟩ = false :=
  ⟨blk_cell' t.hv 0, blk_cell' t.hv 1, blk_free' t.hv 0, blk_free' t.hv 1⟩
theorem Pa.rcells {w0 w : World} {p : Nat} (t : Pa w0 w p) : w.cell? ⟨w0.heap.size, 0, none⟩ = some (.int .i64 0) ∧ w.cell? ⟨w0.heap.size, 1, none⟩ = some (.int .u64 0) ∧
    w.frozen? ⟨w0.heap.size, 0, none⟩ = false ∧ w.frozen? ⟨w0.heap.size, 1, none⟩ = false :=
  ⟨blk_cell' t.hr 0, blk_cell' t.hr 1, blk_free' t.hr 0, blk_free' t.hr 1⟩
/-- The same with the copy of the number. -/
structure Pb (w0 w : World) (p q b : Nat) : Prop where
  A : Pa w0 w p
  lo : w0.heap.size + 1 < b
  hw : w.heap[b]? = some (.cells #[.int .i64 (sumH q), .int .u64 (sumL q)] 166 (0, 0))
theorem Pb.next {w0 w w' : World} {p q b : Nat} (t : Pb w0 w p q b) (h : Below w.heap.size w w') : Pb w0 w' p q b := ⟨t.A.next h, t.lo, below_blk h (blk_lt' t.hw) t.hw⟩
theorem Pb.setv {w0 w : World} {p q b : Nat} (t : Pb w0 w p q b) (p' : Nat) : Pb w0 ((w.setCell ⟨w0.heap.size + 1, 0, none⟩ (.int .i64 (sumH p'))).setCell ⟨w0.heap.size + 1, 1, none⟩ (.int .u64 (sumL p'))) p' q b :=
  ⟨t.A.setv p', t.lo, blk_far' (blk_far' t.hw (by have := t.lo; omega) _ _) (by have := t.lo; omega) _ _⟩
theorem Pb.cells {w0 w : World} {p q b : Nat} (t : Pb w0 w p q b) : w.cell? ⟨b, 0, none⟩ = some (.int .i64 (sumH q)) ∧ w.cell? ⟨b, 1, none⟩ = some (.int .u64 (sumL q)) := ⟨blk_cell' t.hw 0, blk_cell' t.hw 1⟩
/-- What a call of part leaves. -/
def PartPost (l : List UInt8) (w0 : World) (e : Ending) (w' : World) : Prop :=
  Below w0.heap.size w0 w' ∧ ((partL l = none ∧ ∃ x : Nat, e = .returned (.tuple #[.int .i64 0, .int .i64 0, .agg #[.int .i64 (sumH x), .int .u64 (sumL x)], .bool false])) ∨
    ∃ u n v : Nat, partL l = some (u, n, v) ∧ e = .returned (.tuple #[.int .i64 (unitV u), .int .i64 n, .agg #[.int .i64 (sumH (satM v)), .int .u64 (sumL (satM v))], .bool true]))
theorem sum_small (d : Nat) (h : d < 18446744073709551616) : sumH d = 0 ∧ sumL d = (d : Int) := by unfold sumH sumL; omega
set_option maxRecDepth 100000 in
set_option maxHeartbeats 4000000 in
theorem ref_part (s : ByteArray) (hs : s.size ≤ 140737488355328) (w : World) :
    Calls Tryz.prog 110 #[.string s] w (PartPost s.data.toList w) := by
  have hl : runD s.data.toList ≤ s.size := runD_le s.data.toList
  go_enter Tryz.func110, Tryz.ntmps110
  go_wp2_with fail
  have T0 : Pa w ((w.alloc (.cells #[.int .i64 0, .int .u64 0] 166 (0, 0))).alloc (.cells #[.int .i64 0, .int .u64 0] 166 (0, 0))) 0 := by
    refine ⟨by go_grown, (heap_old' _ _ _ (by first | omega | (simp only [World.size_alloc, World.size_setCell, World.size_drew, size_drewN'] <;> omega)) (heap_new' _ _ _ (by first | omega | (simp only [World.size_alloc, World.size_setCell, World.size_drew, size_drewN'] <;> omega)))), ?_⟩
    rw [sum_0.1, sum_0.2]
    exact (heap_new' _ _ _ (by first | omega | (simp only [World.size_alloc, World.size_setCell, World.size_drew, size_drewN'] <;> omega)))
  go_loopg [6] s.size (fun m v6 wr => ∃ i : Nat, v6 = .int .i64 (i : Int) ∧ i + m = s.size ∧ i ≤ runD s.data.toList ∧ Pa w wr (satM (decN (s.data.toList.take i))))
  case atStart => exact ⟨0, rfl, by omega, Nat.zero_le _, T0⟩
  case round =>
    clear T0
    obtain ⟨i, rfl, hm, hi, t⟩ := hrel
    by_cases hlt : i < runD s.data.toList
    · obtain ⟨hk1, hd⟩ := runD_lt hlt
      have hk2 : i < s.size := hk1
      have hd1 : isD s[i] = true := hd
      have hd2 := isD_iff.1 hd1
      have hsn : decN (s.data.toList.take (i + 1)) = 10 * decN (s.data.toList.take i) + (s[i].toNat - 48) := by
        rw [List.take_succ_eq_append_getElem hk1]
        exact decF_snoc 0 _ _
      have CD := fun W => ref_digit s[i] W
      rw [hd1] at CD
      generalize decN (s.data.toList.take i) = V at *
      obtain ⟨c, hc⟩ : ∃ c : Nat, s[i].toNat = c := ⟨_, rfl⟩
      rw [hc] at hd2 CD hsn
      have HSN := Lib.hid hsn
      have ht := t
      obtain ⟨k0, k1, f0, f1⟩ := t.cells
      have sz := t.sz
      clear hd hd1 hk1 hsn
      go_wp2_with (go_at_call 131; refine (CD _).mono ?_; rintro e w' ⟨rfl, rfl⟩)
      have hp := satM_le V
      have HV : Hid (∀ d, satM (satM (satM V * 10) + d) = satM (10 * V + d)) := Lib.hid (fun d => by rw [sat_add, Nat.add_comm, show satM V * 10 = satM V * 10 from rfl, sat_mul]; congr 1; omega)
      have T1 : Pb w (wr.alloc (.cells #[.int .i64 (sumH (satM V)), .int .u64 (sumL (satM V))] 166 (0, 0))) (satM V) (satM V) wr.heap.size := ⟨t.next ((Below.refl _ _).alloc (Nat.le_refl _) _), sz, (heap_new' _ _ _ (by first | omega | (simp only [World.size_alloc, World.size_setCell, World.size_drew, size_drewN'] <;> omega)))⟩
      obtain ⟨wo, hwo⟩ : ∃ wo : Nat, wo = wr.heap.size := ⟨_, rfl⟩
      generalize satM V = p at *
      clear t ht k0 k1 f0 f1
      go_loopg [9] 9 (fun m v9 wi => ∃ k : Nat, v9 = .int .i64 (k : Int) ∧ k + m = 9 ∧ Pb w wi (satM (p * (k + 1))) p wr.heap.size)
      case atStart => exact ⟨0, rfl, rfl, by rw [Nat.zero_add, Nat.mul_one, sat_id hp]; exact T1⟩
      case round =>
        clear T1
        obtain ⟨k, rfl, hk, t1⟩ := hrel
        obtain ⟨k0, k1, f0, f1⟩ := t1.A.cells
        obtain ⟨k2, k3⟩ := t1.cells
        have sz1 := t1.A.sz
        by_cases hk9 : k < 9
        · have C1 := fun W => ref_plusU (satM (p * (k + 1))) p (satM_le _) hp W
          have HE : Hid (satM (satM (p * (k + 1)) + p) = satM (p * (k + 1 + 1))) := Lib.hid (by rw [sat_add, Nat.mul_add p (k + 1) 1, Nat.mul_one])
          go_wp2_with (go_at_call 132; (with_reducible refine (C1 _).mono ?_); rintro e w1 ⟨rfl, hB1⟩; have t2 := t1.next hB1; obtain ⟨k0, k1, f0, f1⟩ := t2.A.cells)
          have t3 := t2.setv (satM (p * (k + 1 + 1)))
          rw [HE.out]
          go_roundg (9 - (k + 1))
          case measure => omega
          case rel => exact ⟨k + 1, by go_num, by omega, t3⟩
        · obtain rfl : k = 9 := by omega
          go_wp2_with fail
          obtain ⟨d, hd⟩ : ∃ d : Nat, c = d + 48 := ⟨c - 48, by omega⟩
          have e1 : IntKind.u8.wrap ((c : Int) - 48) = (d : Int) := by rw [IntKind.wrap_u8]; omega
          have e2 : IntKind.u64.wrap (d : Int) = (d : Int) := by rw [IntKind.wrap_u64]; omega
          have hV' : Hid (∀ q, q = satM (p * (9 + 1)) → satM (q + d) = satM (decN (s.data.toList.take (i + 1)))) := Lib.hid (fun q hq => by rw [hq, HSN.out, ← HV.out (c - 48), hd]; rfl)
          obtain ⟨q, hq⟩ : ∃ q, q = satM (p * (9 + 1)) := ⟨_, rfl⟩
          have hqM : q ≤ 20282409603651670423947251286016 := by rw [hq]; exact satM_le _
          have HQ := Lib.hid (hV'.out q hq)
          rw [← hq] at t1 k0 k1
          have C9 := fun W => ref_plusU q d hqM (by omega) W
          rw [(sum_small d (by omega)).1, (sum_small d (by omega)).2, HQ.out] at C9
          obtain ⟨R, hR⟩ : ∃ R, R = satM (decN (s.data.toList.take (i + 1))) := ⟨_, rfl⟩
          have HRR := Lib.hid hR
          rw [← hR] at C9
          clear hR
          have kd0 : wr.drew.cell? ⟨w.heap.size + 1, 0, none⟩ = some (.int .i64 (sumH q)) ∧ wr.drew.cell? ⟨w.heap.size + 1, 1, none⟩ = some (.int .u64 (sumL q)) := ⟨k0, k1⟩
          have kk : wr.cell? ⟨w.heap.size + 1, 0, none⟩ = some (.int .i64 (sumH q)) ∧ wr.cell? ⟨w.heap.size + 1, 1, none⟩ = some (.int .u64 (sumL q)) := ⟨k0, k1⟩
          have td : Pb w wr.drew q p _ := t1.next (Below.refl _ _).drew
          clear hq hd k2 k3 hV' HQ HV
          obtain ⟨kd, kd1⟩ := kd0
          have sz2 := td.A.sz
          go_region_with (go_at_call 132; (with_reducible refine (C9 _).mono ?_); rintro ev w2 ⟨rfl, hB⟩; have t2 := td.next hB; obtain ⟨k5, k6, f0, f1⟩ := t2.A.cells)
          all_goals
            have t3 := t2.A.setv R
            go_wp2
            go_roundg (s.size - (i + 1))
            case measure => omega
            case rel => exact ⟨i + 1, by go_num, by omega, by omega, by rw [← HRR.out]; exact t3⟩
    · obtain rfl : runD s.data.toList = i := by omega
      obtain ⟨k0, k1, f0, f1⟩ := t.cells
      obtain ⟨r0, r1, g0, g1⟩ := t.rcells
      have sz := t.sz
      have HT := fun v0 v1 => two_blk t.hr v0 v1
      have hB := t.B
      have hle := runD_le s.data.toList
      have HP : Hid (partL s.data.toList = if runD s.data.toList = 0 ∨ unitL (s.data.toList.drop (runD s.data.toList)) < 0 then none else some ((unitL (s.data.toList.drop (runD s.data.toList))).toNat, runD s.data.toList + (unitN (unitL (s.data.toList.drop (runD s.data.toList))).toNat).length, decN (s.data.toList.take (runD s.data.toList)))) := Lib.hid rfl
      have HU := Lib.hid (unit_letters (s.data.toList.drop (runD s.data.toList)))
      have hdl : (s.data.toList.drop (runD s.data.toList)).length = s.size - runD s.data.toList := by rw [List.length_drop]; rfl
      have C2 := fun W => ref_unit (s.extract (runD s.data.toList) (runD s.data.toList + 2)) W
      have C1 := fun W => ref_unit (s.extract (runD s.data.toList) (runD s.data.toList + 1)) W
      rw [ext_take] at C2 C1
      have S2 := fun h W => slice_mid s (runD s.data.toList) 2 h W
      have S1 := fun h W => slice_mid s (runD s.data.toList) 1 h W
      rw [hdl] at HU
      generalize hv : decN (s.data.toList.take (runD s.data.toList)) = V at *
      generalize unitBy ((s.data.toList.drop (runD s.data.toList)).take 2) = U2 at *
      generalize unitBy ((s.data.toList.drop (runD s.data.toList)).take 1) = U1 at *
      generalize unitL (s.data.toList.drop (runD s.data.toList)) = U at *
      generalize hD : runD s.data.toList = D at *
      -- how the reading of the digits ended
      have hend : (∃ h : D < s.size, isD (s[D]'h) = false) ∨ D = s.size := by
        rcases Nat.lt_or_ge D s.size with h | h
        · have := runD_next s.data.toList (by rw [hD]; exact h)
          simp only [hD] at this
          exact Or.inl ⟨h, this⟩
        · exact Or.inr (by omega)
      -- LEAVES
      rcases hend with ⟨hlt2, hnd⟩ | rfl
      · have CD := fun W => ref_digit (s[D]'hlt2) W
        rw [hnd] at CD
        by_cases hD0 : D = 0
        · skip
          have hD0' : ((D : Int) == 0) = true := by simp [hD0]
          have hpn : Hid (partL s.data.toList = none) := Lib.hid (by rw [HP.out, if_pos (by first | exact Or.inl hD0 | exact Or.inr (by rw [hUn]; decide))])
          clear HP HU hdl hv hD hle hlt hD0
          go_wp2_with (first | (go_at_call 131; refine (CD _).mono ?_; rintro e w' ⟨rfl, rfl⟩) | (go_at_call 133; (with_reducible refine (C2 _).mono ?_); rintro e w' ⟨rfl, rfl⟩) | (go_at_call 133; (with_reducible refine (C1 _).mono ?_); rintro e w' ⟨rfl, rfl⟩))
          go_region
          all_goals (try go_wp2)
          all_goals exact bodyPost_ret (results_four Tryz.results110 (res_tmp rfl) (res_tmp rfl) (res_cell (T' := 166) (fr := (0, 0)) rfl (HT _ _) Tryz.underlying166 rfl (by kernel_rfl)) (res_tmp rfl)) rfl ⟨(by first | exact below_two hB (Nat.le_refl _) _ _ | exact (below_two hB (Nat.le_refl _) _ _).drew), Or.inl ⟨hpn.out, _, rfl⟩⟩
        by_cases hl2 : D + 2 ≤ s.size
        · by_cases hU2 : 0 < U2
          · have hx := HU.out.1 (by omega) hU2
            have hD0' : ((D : Int) == 0) = false := by simpa using hD0
            have hl2' : decide ((D : Int) + 2 ≤ (s.size : Int)) = true := by simp; omega
            have S2' : ∀ W, (Instr.slice 9 (.string s) (some (.int .i64 (D : Int))) (some (.int .i64 ((D : Int) + 2))) none).run Tryz.prog W = .ok (.string (s.extract D (D + 2))) W := fun W => S2 (by omega) W
            obtain ⟨u, rfl, hu2, hu3⟩ := hx
            have hps : Hid (partL s.data.toList = some (u, D + 2, V)) := Lib.hid (by rw [HP.out, if_neg (by omega)]; show some (u, D + (unitN u).length, V) = _; rw [hu3])
            rw [← hu2] at C2
            have hup : decide ((0 : Int) < (unitV u : Int)) = true := by simp; exact unitV_pos u
            have hup2 : 0 < unitV u := unitV_pos u
            clear hu2 hu3
            clear HP HU hdl hv hD hle hlt hD0
            go_wp2_with (first | (go_at_call 131; refine (CD _).mono ?_; rintro e w' ⟨rfl, rfl⟩) | (go_at_call 133; (with_reducible refine (C2 _).mono ?_); rintro e w' ⟨rfl, rfl⟩) | (go_at_call 133; (with_reducible refine (C1 _).mono ?_); rintro e w' ⟨rfl, rfl⟩))
            have ww : IntKind.i64.wrap ((D : Int) + 2) = (D : Int) + 2 := by rw [IntKind.wrap_i64]; omega
            go_region_with (first | (go_at_call 131; refine (CD _).mono ?_; rintro e w' ⟨rfl, rfl⟩) | (go_at_call 133; (with_reducible refine (C2 _).mono ?_); rintro e w' ⟨rfl, rfl⟩) | (go_at_call 133; (with_reducible refine (C1 _).mono ?_); rintro e w' ⟨rfl, rfl⟩))
            all_goals (try go_wp2)
            all_goals exact bodyPost_ret (results_four Tryz.results110 (res_tmp rfl) (res_tmp rfl) (res_cell (T' := 166) (fr := (0, 0)) rfl (HT _ _) Tryz.underlying166 rfl (by kernel_rfl)) (res_tmp rfl)) rfl ⟨(by first | exact below_two hB (Nat.le_refl _) _ _ | exact (below_two hB (Nat.le_refl _) _ _).drew), Or.inr ⟨u, _, V, hps.out, rfl⟩⟩
          by_cases hU1 : 0 < U1
          · have hx := HU.out.2.1 (fun _ => hU2) (by omega) hU1
            have hD0' : ((D : Int) == 0) = false := by simpa using hD0
            have hl2' : decide ((D : Int) + 2 ≤ (s.size : Int)) = true := by simp; omega
            have S2' : ∀ W, (Instr.slice 9 (.string s) (some (.int .i64 (D : Int))) (some (.int .i64 ((D : Int) + 2))) none).run Tryz.prog W = .ok (.string (s.extract D (D + 2))) W := fun W => S2 (by omega) W
            have hu2' : decide (0 < U2) = false := by simpa using hU2
            have hl1' : decide ((D : Int) + 1 ≤ (s.size : Int)) = true := by simp; omega
            have S1' : ∀ W, (Instr.slice 9 (.string s) (some (.int .i64 (D : Int))) (some (.int .i64 ((D : Int) + 1))) none).run Tryz.prog W = .ok (.string (s.extract D (D + 1))) W := fun W => S1 (by omega) W
            obtain ⟨u, rfl, hu2, hu3⟩ := hx
            have hps : Hid (partL s.data.toList = some (u, D + 1, V)) := Lib.hid (by rw [HP.out, if_neg (by omega)]; show some (u, D + (unitN u).length, V) = _; rw [hu3])
            rw [← hu2] at C1
            have hup : decide ((0 : Int) < (unitV u : Int)) = true := by simp; exact unitV_pos u
            have hup2 : 0 < unitV u := unitV_pos u
            clear hu2 hu3
            clear HP HU hdl hv hD hle hlt hD0
            go_wp2_with (first | (go_at_call 131; refine (CD _).mono ?_; rintro e w' ⟨rfl, rfl⟩) | (go_at_call 133; (with_reducible refine (C2 _).mono ?_); rintro e w' ⟨rfl, rfl⟩) | (go_at_call 133; (with_reducible refine (C1 _).mono ?_); rintro e w' ⟨rfl, rfl⟩))
            have ww : IntKind.i64.wrap ((D : Int) + 1) = (D : Int) + 1 := by rw [IntKind.wrap_i64]; omega
            go_region_with (first | (go_at_call 131; refine (CD _).mono ?_; rintro e w' ⟨rfl, rfl⟩) | (go_at_call 133; (with_reducible refine (C2 _).mono ?_); rintro e w' ⟨rfl, rfl⟩) | (go_at_call 133; (with_reducible refine (C1 _).mono ?_); rintro e w' ⟨rfl, rfl⟩))
            all_goals (try go_wp2)
            all_goals exact bodyPost_ret (results_four Tryz.results110 (res_tmp rfl) (res_tmp rfl) (res_cell (T' := 166) (fr := (0, 0)) rfl (HT _ _) Tryz.underlying166 rfl (by kernel_rfl)) (res_tmp rfl)) rfl ⟨(by first | exact below_two hB (Nat.le_refl _) _ _ | exact (below_two hB (Nat.le_refl _) _ _).drew), Or.inr ⟨u, _, V, hps.out, rfl⟩⟩
          · have hUn := HU.out.2.2 (fun _ => hU2) (fun _ => hU1)
            have hD0' : ((D : Int) == 0) = false := by simpa using hD0
            have hl2' : decide ((D : Int) + 2 ≤ (s.size : Int)) = true := by simp; omega
            have S2' : ∀ W, (Instr.slice 9 (.string s) (some (.int .i64 (D : Int))) (some (.int .i64 ((D : Int) + 2))) none).run Tryz.prog W = .ok (.string (s.extract D (D + 2))) W := fun W => S2 (by omega) W
            have hu2' : decide (0 < U2) = false := by simpa using hU2
            have hl1' : decide ((D : Int) + 1 ≤ (s.size : Int)) = true := by simp; omega
            have S1' : ∀ W, (Instr.slice 9 (.string s) (some (.int .i64 (D : Int))) (some (.int .i64 ((D : Int) + 1))) none).run Tryz.prog W = .ok (.string (s.extract D (D + 1))) W := fun W => S1 (by omega) W
            have hu1' : decide (0 < U1) = false := by simpa using hU1
            have hpn : Hid (partL s.data.toList = none) := Lib.hid (by rw [HP.out, if_pos (by first | exact Or.inl hD0 | exact Or.inr (by rw [hUn]; decide))])
            clear HP HU hdl hv hD hle hlt hD0
            go_wp2_with (first | (go_at_call 131; refine (CD _).mono ?_; rintro e w' ⟨rfl, rfl⟩) | (go_at_call 133; (with_reducible refine (C2 _).mono ?_); rintro e w' ⟨rfl, rfl⟩) | (go_at_call 133; (with_reducible refine (C1 _).mono ?_); rintro e w' ⟨rfl, rfl⟩))
            go_region
            all_goals (try go_wp2)
            all_goals exact bodyPost_ret (results_four Tryz.results110 (res_tmp rfl) (res_tmp rfl) (res_cell (T' := 166) (fr := (0, 0)) rfl (HT _ _) Tryz.underlying166 rfl (by kernel_rfl)) (res_tmp rfl)) rfl ⟨(by first | exact below_two hB (Nat.le_refl _) _ _ | exact (below_two hB (Nat.le_refl _) _ _).drew), Or.inl ⟨hpn.out, _, rfl⟩⟩
        · by_cases hU1 : 0 < U1
          · have hx := HU.out.2.1 (fun h => by omega) (by omega) hU1
            have hD0' : ((D : Int) == 0) = false := by simpa using hD0
            have hl2' : decide ((D : Int) + 2 ≤ (s.size : Int)) = false := by simp; omega
            have hl1' : decide ((D : Int) + 1 ≤ (s.size : Int)) = true := by simp; omega
            have S1' : ∀ W, (Instr.slice 9 (.string s) (some (.int .i64 (D : Int))) (some (.int .i64 ((D : Int) + 1))) none).run Tryz.prog W = .ok (.string (s.extract D (D + 1))) W := fun W => S1 (by omega) W
            obtain ⟨u, rfl, hu2, hu3⟩ := hx
            have hps : Hid (partL s.data.toList = some (u, D + 1, V)) := Lib.hid (by rw [HP.out, if_neg (by omega)]; show some (u, D + (unitN u).length, V) = _; rw [hu3])
            rw [← hu2] at C1
            have hup : decide ((0 : Int) < (unitV u : Int)) = true := by simp; exact unitV_pos u
            have hup2 : 0 < unitV u := unitV_pos u
            clear hu2 hu3
            clear HP HU hdl hv hD hle hlt hD0
            go_wp2_with (first | (go_at_call 131; refine (CD _).mono ?_; rintro e w' ⟨rfl, rfl⟩) | (go_at_call 133; (with_reducible refine (C2 _).mono ?_); rintro e w' ⟨rfl, rfl⟩) | (go_at_call 133; (with_reducible refine (C1 _).mono ?_); rintro e w' ⟨rfl, rfl⟩))
            have ww : IntKind.i64.wrap ((D : Int) + 1) = (D : Int) + 1 := by rw [IntKind.wrap_i64]; omega
            go_region_with (first | (go_at_call 131; refine (CD _).mono ?_; rintro e w' ⟨rfl, rfl⟩) | (go_at_call 133; (with_reducible refine (C2 _).mono ?_); rintro e w' ⟨rfl, rfl⟩) | (go_at_call 133; (with_reducible refine (C1 _).mono ?_); rintro e w' ⟨rfl, rfl⟩))
            all_goals (try go_wp2)
            all_goals exact bodyPost_ret (results_four Tryz.results110 (res_tmp rfl) (res_tmp rfl) (res_cell (T' := 166) (fr := (0, 0)) rfl (HT _ _) Tryz.underlying166 rfl (by kernel_rfl)) (res_tmp rfl)) rfl ⟨(by first | exact below_two hB (Nat.le_refl _) _ _ | exact (below_two hB (Nat.le_refl _) _ _).drew), Or.inr ⟨u, _, V, hps.out, rfl⟩⟩
          · have hUn := HU.out.2.2 (fun h => by omega) (fun _ => hU1)
            have hD0' : ((D : Int) == 0) = false := by simpa using hD0
            have hl2' : decide ((D : Int) + 2 ≤ (s.size : Int)) = false := by simp; omega
            have hl1' : decide ((D : Int) + 1 ≤ (s.size : Int)) = true := by simp; omega
            have S1' : ∀ W, (Instr.slice 9 (.string s) (some (.int .i64 (D : Int))) (some (.int .i64 ((D : Int) + 1))) none).run Tryz.prog W = .ok (.string (s.extract D (D + 1))) W := fun W => S1 (by omega) W
            have hu1' : decide (0 < U1) = false := by simpa using hU1
            have hpn : Hid (partL s.data.toList = none) := Lib.hid (by rw [HP.out, if_pos (by first | exact Or.inl hD0 | exact Or.inr (by rw [hUn]; decide))])
            clear HP HU hdl hv hD hle hlt hD0
            go_wp2_with (first | (go_at_call 131; refine (CD _).mono ?_; rintro e w' ⟨rfl, rfl⟩) | (go_at_call 133; (with_reducible refine (C2 _).mono ?_); rintro e w' ⟨rfl, rfl⟩) | (go_at_call 133; (with_reducible refine (C1 _).mono ?_); rintro e w' ⟨rfl, rfl⟩))
            go_region
            all_goals (try go_wp2)
            all_goals exact bodyPost_ret (results_four Tryz.results110 (res_tmp rfl) (res_tmp rfl) (res_cell (T' := 166) (fr := (0, 0)) rfl (HT _ _) Tryz.underlying166 rfl (by kernel_rfl)) (res_tmp rfl)) rfl ⟨(by first | exact below_two hB (Nat.le_refl _) _ _ | exact (below_two hB (Nat.le_refl _) _ _).drew), Or.inl ⟨hpn.out, _, rfl⟩⟩
      · by_cases hD0 : s.size = 0
        · skip
          have hD0' : ((s.size : Int) == 0) = true := by simp [hD0]
          have hpn : Hid (partL s.data.toList = none) := Lib.hid (by rw [HP.out, if_pos (by first | exact Or.inl hD0 | exact Or.inr (by rw [hUn]; decide))])
          clear HP HU hdl hv hD hle hlt hD0
          go_wp2_with (first | (go_at_call 131; refine (CD _).mono ?_; rintro e w' ⟨rfl, rfl⟩) | (go_at_call 133; (with_reducible refine (C2 _).mono ?_); rintro e w' ⟨rfl, rfl⟩) | (go_at_call 133; (with_reducible refine (C1 _).mono ?_); rintro e w' ⟨rfl, rfl⟩))
          go_region
          all_goals (try go_wp2)
          all_goals exact bodyPost_ret (results_four Tryz.results110 (res_tmp rfl) (res_tmp rfl) (res_cell (T' := 166) (fr := (0, 0)) rfl (HT _ _) Tryz.underlying166 rfl (by kernel_rfl)) (res_tmp rfl)) rfl ⟨(by first | exact below_two hB (Nat.le_refl _) _ _ | exact (below_two hB (Nat.le_refl _) _ _).drew), Or.inl ⟨hpn.out, _, rfl⟩⟩
        · have hUn := HU.out.2.2 (fun h => by omega) (fun h => by omega)
          have hD0' : ((s.size : Int) == 0) = false := by simpa using hD0
          have hl2' : decide ((s.size : Int) + 2 ≤ (s.size : Int)) = false := by simp; omega
          have hl1' : decide ((s.size : Int) + 1 ≤ (s.size : Int)) = false := by simp; omega
          have hpn : Hid (partL s.data.toList = none) := Lib.hid (by rw [HP.out, if_pos (by first | exact Or.inl hD0 | exact Or.inr (by rw [hUn]; decide))])
          clear HP HU hdl hv hD hle hlt hD0
          go_wp2_with (first | (go_at_call 131; refine (CD _).mono ?_; rintro e w' ⟨rfl, rfl⟩) | (go_at_call 133; (with_reducible refine (C2 _).mono ?_); rintro e w' ⟨rfl, rfl⟩) | (go_at_call 133; (with_reducible refine (C1 _).mono ?_); rintro e w' ⟨rfl, rfl⟩))
          go_region
          all_goals (try go_wp2)
          all_goals exact bodyPost_ret (results_four Tryz.results110 (res_tmp rfl) (res_tmp rfl) (res_cell (T' := 166) (fr := (0, 0)) rfl (HT _ _) Tryz.underlying166 rfl (by kernel_rfl)) (res_tmp rfl)) rfl ⟨(by first | exact below_two hB (Nat.le_refl _) _ _ | exact (below_two hB (Nat.le_refl _) _ _).drew), Or.inl ⟨hpn.out, _, rfl⟩⟩
end Go.Proofs.YtmooibnedokllaaGreatDoor
