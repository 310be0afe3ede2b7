/- Package lex: a token in quotes. -/
import Derived.Test.YtmooibnedokllaaGreatDoorLxa
import Derived.Test.YtmooibnedokllaaGreatDoorBuild
import Derived.Deep.QuietTactic
import Derived.BigQuiet
import Derived.Deep.LoopGhost
import Derived.Deep.DeepCutAuto
import Derived.Deep.CutBlock
namespace Go.Proofs.YtmooibnedokllaaGreatDoor
open Go.RowKit
set_option linter.unusedSimpArgs false
set_option linter.unusedVariables false

/-- The blocks of a walk through quoted: the result's token, the token t, the builder. -/
structure Qb (k : Int) (a : Nat) (acc : List UInt8) (w0 w : World) : Prop where
  B : Below w0.heap.size w0 w
  ht : w.heap[w0.heap.size]? = some tokO
  tk : w.heap[w0.heap.size + 1]? = some (.cells #[.int .u8 k, .string ⟨#[]⟩, .int .i64 0, .int .i64 (a : Int)] 30 (0, 0))
  bd : Bld (w0.heap.size + 1 + 1) acc w
theorem Qb.write {k : Int} {a : Nat} {acc acc' : List UInt8} {w0 w w' : World} (t : Qb k a acc w0 w) (h : Below (w0.heap.size + 1 + 1) w w') (b : Bld (w0.heap.size + 1 + 1) acc' w') : Qb k a acc' w0 w' :=
  ⟨t.B.trans (h.mono (by omega)), below_blk h (by omega) t.ht, below_blk h (by omega) t.tk, b⟩
theorem Qb.drewN {k : Int} {a : Nat} {acc : List UInt8} {w0 w : World} (t : Qb k a acc w0 w) (n : Nat) : Qb k a acc w0 (w.drewN n) :=
  ⟨below_drewN t.B n, t.ht, t.tk, t.bd⟩
theorem Qb.sz {k : Int} {a : Nat} {acc : List UInt8} {w0 w : World} (t : Qb k a acc w0 w) : w0.heap.size + 1 + 1 < w.heap.size := t.bd.lt
theorem below_four {B b : Nat} {w0 w : World} (h : Below B w0 w) (hb : B ≤ b) (v0 v1 v2 v3 : Value) : Below B w0 ((((w.setCell ⟨b, 0, none⟩ v0).setCell ⟨b, 1, none⟩ v1).setCell ⟨b, 2, none⟩ v2).setCell ⟨b, 3, none⟩ v3) :=
  (((h.setCell (p := ⟨b, 0, none⟩) hb _).setCell (p := ⟨b, 1, none⟩) hb _).setCell (p := ⟨b, 2, none⟩) hb _).setCell (p := ⟨b, 3, none⟩) hb _
def quotedR (a : Nat) (K : Int) : QR → NextR
  | .inl (t, n) => .inl (⟨K, ⟨t.toArray⟩, 0, a⟩, a + 1 + n)
  | .inr none => .inr (121, some a)
  | .inr (some e) => .inr (121, some (a + 1 + e))
theorem quotedT_is (s : ByteArray) (a : Nat) (q : UInt8) : quotedT s a q = quotedR a (if q = 39 then 3 else 2) (qL q (s.data.toList.drop (a + 1))) := by
  unfold quotedT
  rcases qL q (s.data.toList.drop (a + 1)) with ⟨t, n⟩ | _ | e <;> rfl
set_option maxRecDepth 100000 in
set_option maxHeartbeats 4000000 in
theorem lex_quoted (s : ByteArray) (a : Nat) (hs : s.size ≤ 140737488355327) (ha : a < s.size) (hq : s[a] = 34 ∨ s[a] = 39) (w : World) :
    Calls Tryz.prog 33 #[.string s, .int .i64 (a : Int)] w fun e w' =>
      e = .returned (.tuple #[(nTok (quotedT s a s[a])).enc, .int .i64 (nEnd (quotedT s a s[a])), encE (nErr (quotedT s a s[a]))]) ∧ Below w.heap.size w w' := by
  obtain ⟨q, hqq⟩ : ∃ q, q = s[a] := ⟨_, rfl⟩
  have hqn : s[a].toNat = q.toNat := by rw [hqq]
  have hq92 : ¬ q = 92 := by rw [hqq]; rcases hq with h | h <;> rw [h] <;> decide
  rw [← hqq]
  rw [quotedT_is]
  obtain ⟨Q, hQ⟩ : ∃ Q, Q = qL q (s.data.toList.drop (a + 1)) := ⟨_, rfl⟩
  rw [← hQ]
  obtain ⟨K, hK⟩ : ∃ K : Int, K = if q = 39 then 3 else 2 := ⟨_, rfl⟩
  rw [← hK]
  obtain ⟨V0, hV0⟩ : ∃ V, V = nTok (quotedR a K Q) := ⟨_, rfl⟩
  obtain ⟨V1, hV1⟩ : ∃ V, V = nEnd (quotedR a K Q) := ⟨_, rfl⟩
  obtain ⟨V2, hV2⟩ : ∃ V, V = encE (nErr (quotedR a K Q)) := ⟨_, rfl⟩
  rw [← hV0, ← hV1, ← hV2]
  have HV := Lib.hid (And.intro hV0 (And.intro hV1 hV2))
  have HQ := Lib.hid hQ
  clear hV0 hV1 hV2 hQ
  obtain ⟨v0, v1, v2, v3⟩ := V0
  simp only [Tok.enc]
  obtain ⟨qn, hqv⟩ : ∃ qn : Nat, q.toNat = qn := ⟨_, rfl⟩
  rw [hqv] at hqn
  have k39 : ((qn : Int) == 39) = true ∧ K = 3 ∨ ((qn : Int) == 39) = false ∧ K = 2 := by
    rcases hq with h | h
    · right; subst hqv; rw [hK, hqq, h]; exact ⟨rfl, rfl⟩
    · left; subst hqv; rw [hK, hqq, h]; exact ⟨rfl, rfl⟩
  have HQQ := Lib.hid hqq
  clear hq hqq hK
  rcases k39 with ⟨k39, rfl⟩ | ⟨k39, rfl⟩
  · go_enter Tryz.func33, Tryz.ntmps33
    go_upto_region 5 with (fail)
    obtain ⟨W0, hW0⟩ : ∃ W0, W0 = (((w.alloc tokO).alloc (.cells #[.int .u8 3, .string ⟨#[]⟩, .int .i64 0, .int .i64 (a : Int)] 30 (0, 0))).alloc (.cells #[.pointer none, .slice none 0 0] tB)) := ⟨_, rfl⟩
    have T0 : Qb 3 a [] w W0 := by
      rw [hW0]
      have hb := Bld.fresh ((w.alloc tokO).alloc (.cells #[.int .u8 3, .string ⟨#[]⟩, .int .i64 0, .int .i64 (a : Int)] 30 (0, 0)))
      rw [show ((w.alloc tokO).alloc (.cells #[.int .u8 3, .string ⟨#[]⟩, .int .i64 0, .int .i64 (a : Int)] 30 (0, 0))).heap.size = w.heap.size + 1 + 1 by simp] at hb
      exact ⟨by go_grown, (heap_old' _ _ _ (by first | omega | (simp only [World.size_alloc, World.size_setCell, World.size_drew, size_drewN'] <;> omega)) (heap_old' _ _ _ (by first | omega | (simp only [World.size_alloc, World.size_setCell, World.size_drew, size_drewN'] <;> omega)) (heap_new' _ _ _ (by first | omega | (simp only [World.size_alloc, World.size_setCell, World.size_drew, size_drewN'] <;> omega))))), (heap_old' _ _ _ (by first | omega | (simp only [World.size_alloc, World.size_setCell, World.size_drew, size_drewN'] <;> omega)) (heap_new' _ _ _ (by first | omega | (simp only [World.size_alloc, World.size_setCell, World.size_drew, size_drewN'] <;> omega)))), hb⟩
    rw [show (((w.alloc tokO).alloc (.cells #[.int .u8 3, .string ⟨#[]⟩, .int .i64 0, .int .i64 (a : Int)] 30 (0, 0))).alloc (.cells #[.pointer none, .slice none 0 0] tB)) = W0 from hW0.symm]
    clear hW0
    go_wp2_with fail
    go_loopg [9] (s.size - (a + 1)) (fun m v wr => ∃ (i : Nat) (acc : List UInt8), v = .int .i64 (i : Int) ∧ i + m = s.size ∧ a + 1 ≤ i ∧ acc.length ≤ i ∧ Hid (Q = combQ acc (i - (a + 1)) (qL q (s.data.toList.drop i))) ∧ Hid (Qb 3 a acc w wr))
    case atStart => exact ⟨a + 1, [], by go_num, by omega, Nat.le_refl _, by simp, Lib.hid (by rw [Nat.sub_self, combQ_zero]; exact HQ.out), Lib.hid T0⟩
    case round =>
      clear T0
      obtain ⟨i, acc, rfl, hm, hai, hal, HK, T⟩ := hrel
      by_cases hi : i < s.size
      · have hb : s.data.toList[i]'hi = s[i] := rfl
        have kl : decide ((i : Int) < (s.size : Int)) = true := by rw [decide_eq_true_iff]; omega
        obtain ⟨ci, hci⟩ : ∃ ci : Nat, s[i].toNat = ci := ⟨_, rfl⟩
        by_cases h1 : s[i] = q
        · have k1 : ((ci : Int) == (qn : Int)) = true := by rw [← hci, h1, hqv]; simp
          obtain rfl : Q = .inl (acc, i - (a + 1) + 1) := by rw [HK.out, qL_close q hi (hb.trans h1)]; simp [combQ]
          have e1 : ((a + 1 + (i - (a + 1) + 1) : Nat) : Int) = (i : Int) + 1 := by omega
          obtain ⟨txt, htx⟩ : ∃ txt, txt = (⟨acc.toArray⟩ : ByteArray) := ⟨_, rfl⟩
          have CB := fun W (h : Bld (w.heap.size + 1 + 1) acc W) => build_string (w.heap.size + 1 + 1) acc W h
          rw [← htx] at CB
          obtain ⟨hvt, rfl, rfl⟩ : (⟨v0, v1, v2, v3⟩ : Tok) = ⟨3, ⟨acc.toArray⟩, 0, a⟩ ∧ V1 = (i : Int) + 1 ∧ V2 = .nilIface := ⟨HV.out.1, HV.out.2.1.trans e1, HV.out.2.2⟩
          rw [← htx] at hvt
          have CB := Lib.hid CB
          clear htx
          simp only [Tok.mk.injEq] at hvt
          obtain ⟨rfl, rfl, rfl, rfl⟩ := hvt
          clear HV HK HQ h1 e1 HQQ
          have t := T.out
          go_wp2_with fail
          refine (CB.out _ t.bd).mono ?_
          rintro ev w1 ⟨rfl, hB⟩
          have m0 := below_blk hB (by omega) t.ht
          have m1 := below_blk hB (by omega) t.tk
          have hB0 : Below w.heap.size w w1 := t.B.trans (hB.mono (by omega))
          clear t T hB CB
          have f1 := blk_free' m1 1
          have g1 := blk_cell' m1 1
          go_upto_region 12 with (fail)
          have p0 := blk_far' m0 (show w.heap.size ≠ w.heap.size + 1 by omega) 1 (.string v1)
          have p1 : (w1.setCell ⟨w.heap.size + 1, 1, none⟩ (.string v1)).heap[w.heap.size + 1]? = some (.cells #[.int .u8 3, .string v1, .int .i64 0, .int .i64 (a : Int)] 30 (0, 0)) := by simpa using blk_set' m1 1 (.string v1)
          have HB0 := Lib.hid (hB0.setCell (p := ⟨w.heap.size + 1, 1, none⟩) (Nat.le_succ _) (.string v1))
          generalize w1.setCell ⟨w.heap.size + 1, 1, none⟩ (.string v1) = w2 at *
          have HT := fun v0 v1 v2 v3 => four_blk p0 v0 v1 v2 v3
          have xk0 := blk_cell' (p0) 0
          have xf0 := blk_free' (p0) 0
          have xk1 := blk_cell' (p0) 1
          have xf1 := blk_free' (p0) 1
          have xk2 := blk_cell' (p0) 2
          have xf2 := blk_free' (p0) 2
          have xk3 := blk_cell' (p0) 3
          have xf3 := blk_free' (p0) 3
          have yk0 := blk_cell' (p1) 0
          have yf0 := blk_free' (p1) 0
          have yk1 := blk_cell' (p1) 1
          have yf1 := blk_free' (p1) 1
          have yk2 := blk_cell' (p1) 2
          have yf2 := blk_free' (p1) 2
          have yk3 := blk_cell' (p1) 3
          have yf3 := blk_free' (p1) 3
          clear m0 m1 f1 g1 p0 p1 hB0
          go_wp2
          exact bodyPost_ret (results_three Tryz.results33 (res_cell (T' := 30) (fr := (0, 0)) rfl (HT _ _ _ _) Tryz.underlying30 rfl (by kernel_rfl)) (res_tmp rfl) (res_tmp rfl)) rfl ⟨rfl, below_four HB0.out (Nat.le_refl _) _ _ _ _⟩
        · have k1 : ((ci : Int) == (qn : Int)) = false := by
            rw [← hqv, ← hci]
            simp only [beq_eq_false_iff_ne, ne_eq]
            exact fun e => h1 (UInt8.toNat_inj.1 (by omega))
          by_cases h2 : s[i] = 92
          · have k2 : ((ci : Int) == 92) = true := by rw [← hci, h2]; rfl
            by_cases hi1 : i + 1 < s.size
            · have hb1 : s.data.toList[i + 1]'hi1 = s[i + 1] := rfl
              have k3 : decide ((i : Int) + 1 < (s.size : Int)) = true := by rw [decide_eq_true_iff]; omega
              obtain ⟨ch, hch⟩ : ∃ ch : Nat, s[i + 1].toNat = ch := ⟨_, rfl⟩
              by_cases h3 : s[i + 1] = q ∨ s[i + 1] = 92
              · have HK2 : Hid (Q = combQ (acc ++ [s[i + 1]]) (i + 2 - (a + 1)) (qL q (s.data.toList.drop (i + 2)))) := Lib.hid (by
                  rw [HK.out, qL_pair q hi1 (fun e => h1 (hb.symm.trans e)) (hb.trans h2) h3, combQ_combQ]
                  congr 1
                  omega)
                rcases (show s[i + 1] = q ∨ (¬ s[i + 1] = q ∧ s[i + 1] = 92) from if e : s[i + 1] = q then .inl e else .inr ⟨e, h3.resolve_left e⟩) with h4 | ⟨h4, h5⟩
                · have k4 : ((ch : Int) == (qn : Int)) = true := by rw [← hch, h4, hqv]; simp
                  clear HV HK h1 h2 h3 h4 HQQ
                  go_upto_region 13 with (fail)
                  go_quiet (fail)
                  have TD := T.out.drewN nq
                  generalize wr.drewN nq = wD at *
                  have CW := fun W (h : Bld (w.heap.size + 1 + 1) acc W) => write_byte (w.heap.size + 1 + 1) acc s[i + 1] W h (by omega)
                  rw [hch] at CW
                  have CW := Lib.hid CW
                  clear T
                  go_wp2_with fail
                  refine (CW.out _ TD.bd).mono ?_
                  rintro ev w1 ⟨rfl, hb, hB⟩
                  have T2 := Lib.hid (TD.write hB hb)
                  clear TD hb hB
                  go_wp2_with fail
                  go_roundg (gk - 2)
                  case measure => omega
                  case rel => exact ⟨i + 2, _, by go_num, by omega, by omega, by simp; omega, HK2, T2⟩
                · have k4 : ((ch : Int) == (qn : Int)) = false := by
                    rw [← hch, ← hqv]; simp only [beq_eq_false_iff_ne, ne_eq]; exact fun e => h4 (UInt8.toNat_inj.1 (by omega))
                  have k5 : ((ch : Int) == 92) = true := by rw [← hch, h5]; rfl
                  clear HV HK h1 h2 h3 h4 h5 HQQ
                  go_upto_region 13 with (fail)
                  go_quiet (fail)
                  have TD := T.out.drewN nq
                  generalize wr.drewN nq = wD at *
                  have CW := fun W (h : Bld (w.heap.size + 1 + 1) acc W) => write_byte (w.heap.size + 1 + 1) acc s[i + 1] W h (by omega)
                  rw [hch] at CW
                  have CW := Lib.hid CW
                  clear T
                  go_wp2_with fail
                  refine (CW.out _ TD.bd).mono ?_
                  rintro ev w1 ⟨rfl, hb, hB⟩
                  have T2 := Lib.hid (TD.write hB hb)
                  clear TD hb hB
                  go_wp2_with fail
                  go_roundg (gk - 2)
                  case measure => omega
                  case rel => exact ⟨i + 2, _, by go_num, by omega, by omega, by simp; omega, HK2, T2⟩
              · have k4 : ((ch : Int) == (qn : Int)) = false := by
                  rw [← hch, ← hqv]; simp only [beq_eq_false_iff_ne, ne_eq]; exact fun e => h3 (.inl (UInt8.toNat_inj.1 (by omega)))
                have k5 : ((ch : Int) == 92) = false := by
                  rw [← hch]; simp only [beq_eq_false_iff_ne, ne_eq]; exact fun e => h3 (.inr (UInt8.toNat_inj.1 (by show _ = 92; omega)))
                obtain rfl : Q = .inr (some (i - (a + 1))) := by rw [HK.out, qL_wrong q hi1 (fun e => h1 (hb.symm.trans e)) (hb.trans h2) h3]; simp [combQ]
                have e1 : ((a + 1 + (i - (a + 1)) : Nat) : Int) = (i : Int) := by omega
                obtain ⟨hvt, rfl, rfl⟩ : (⟨v0, v1, v2, v3⟩ : Tok) = Tok.zero ∧ V1 = 0 ∧ V2 = encE (mkAt (i : Int) 121) := ⟨HV.out.1, HV.out.2.1, HV.out.2.2.trans (by show encE (mkAt ((a + 1 + (i - (a + 1)) : Nat) : Int) 121) = _; rw [e1])⟩
                simp only [Tok.zero, Tok.mk.injEq] at hvt
                obtain ⟨rfl, rfl, rfl, rfl⟩ := hvt
                clear h1 h2 h3 e1 HK HQ HQQ
                go_upto_region 13 with (fail)
                go_quiet (fail)
                have TD := T.out.drewN nq
                generalize wr.drewN nq = wD at *
                have A := Lib.hid (fun W => fault_At (i : Int) 121 W)
                clear HV T
                go_wp2_with fail
                refine (A.out _).mono ?_
                rintro ev w1 ⟨rfl, hB⟩
                obtain ⟨X, hX⟩ : ∃ X, X = encE (mkAt (i : Int) 121) := ⟨_, rfl⟩
                rw [← hX]
                have HX := Lib.hid hX
                have m0 := below_blk hB (by have := TD.sz; omega) TD.ht
                have HB0 := Lib.hid (TD.B.trans (hB.mono (by have := TD.sz; omega)))
                have HT := fun v0 v1 v2 v3 => four_blk m0 v0 v1 v2 v3
                have qk0 := blk_cell' (m0) 0
                have qf0 := blk_free' (m0) 0
                have qk1 := blk_cell' (m0) 1
                have qf1 := blk_free' (m0) 1
                have qk2 := blk_cell' (m0) 2
                have qf2 := blk_free' (m0) 2
                have qk3 := blk_cell' (m0) 3
                have qf3 := blk_free' (m0) 3
                clear m0 A hB hX
                go_wp2
                exact bodyPost_ret (results_three Tryz.results33 (res_cell (T' := 30) (fr := (0, 0)) rfl (HT _ _ _ _) Tryz.underlying30 rfl (by kernel_rfl)) (res_tmp rfl) (res_tmp rfl)) rfl ⟨by rw [← HX.out]; rfl, below_four HB0.out (Nat.le_refl _) _ _ _ _⟩
            · have k3 : decide ((i : Int) + 1 < (s.size : Int)) = false := by rw [decide_eq_false_iff_not]; omega
              obtain rfl : Q = .inr (some (i - (a + 1))) := by rw [HK.out, qL_last q hi (fun e => h1 (hb.symm.trans e)) (hb.trans h2) (by show s.size ≤ i + 1; omega)]; simp [combQ]
              have e1 : ((a + 1 + (i - (a + 1)) : Nat) : Int) = (i : Int) := by omega
              obtain ⟨hvt, rfl, rfl⟩ : (⟨v0, v1, v2, v3⟩ : Tok) = Tok.zero ∧ V1 = 0 ∧ V2 = encE (mkAt (i : Int) 121) := ⟨HV.out.1, HV.out.2.1, HV.out.2.2.trans (by show encE (mkAt ((a + 1 + (i - (a + 1)) : Nat) : Int) 121) = _; rw [e1])⟩
              simp only [Tok.zero, Tok.mk.injEq] at hvt
              obtain ⟨rfl, rfl, rfl, rfl⟩ := hvt
              clear h1 h2 e1 HK HQ HQQ
              go_upto_region 13 with (fail)
              go_quiet (fail)
              have TD := T.out.drewN nq
              generalize wr.drewN nq = wD at *
              have A := Lib.hid (fun W => fault_At (i : Int) 121 W)
              clear HV T
              go_wp2_with fail
              refine (A.out _).mono ?_
              rintro ev w1 ⟨rfl, hB⟩
              obtain ⟨X, hX⟩ : ∃ X, X = encE (mkAt (i : Int) 121) := ⟨_, rfl⟩
              rw [← hX]
              have HX := Lib.hid hX
              have m0 := below_blk hB (by have := TD.sz; omega) TD.ht
              have HB0 := Lib.hid (TD.B.trans (hB.mono (by have := TD.sz; omega)))
              have HT := fun v0 v1 v2 v3 => four_blk m0 v0 v1 v2 v3
              have qk0 := blk_cell' (m0) 0
              have qf0 := blk_free' (m0) 0
              have qk1 := blk_cell' (m0) 1
              have qf1 := blk_free' (m0) 1
              have qk2 := blk_cell' (m0) 2
              have qf2 := blk_free' (m0) 2
              have qk3 := blk_cell' (m0) 3
              have qf3 := blk_free' (m0) 3
              clear m0 A hB hX
              go_wp2
              exact bodyPost_ret (results_three Tryz.results33 (res_cell (T' := 30) (fr := (0, 0)) rfl (HT _ _ _ _) Tryz.underlying30 rfl (by kernel_rfl)) (res_tmp rfl) (res_tmp rfl)) rfl ⟨by rw [← HX.out]; rfl, below_four HB0.out (Nat.le_refl _) _ _ _ _⟩
          · have k2 : ((ci : Int) == 92) = false := by
              rw [← hci]; simp only [beq_eq_false_iff_ne, ne_eq]; exact fun e => h2 (UInt8.toNat_inj.1 (by show _ = 92; omega))
            have HK2 : Hid (Q = combQ (acc ++ [s[i]]) (i + 1 - (a + 1)) (qL q (s.data.toList.drop (i + 1)))) := Lib.hid (by
              rw [HK.out, qL_plain q hi (fun e => h1 (hb.symm.trans e)) (fun e => h2 (hb.symm.trans e)), combQ_combQ]
              congr 1
              omega)
            clear HV HK h1 h2 HQQ
            go_upto_region 13 with (fail)
            go_quiet (fail)
            have TD := T.out.drewN nq
            generalize wr.drewN nq = wD at *
            have CW := fun W (h : Bld (w.heap.size + 1 + 1) acc W) => write_byte (w.heap.size + 1 + 1) acc s[i] W h (by omega)
            rw [hci] at CW
            have CW := Lib.hid CW
            clear T
            go_wp2_with fail
            refine (CW.out _ TD.bd).mono ?_
            rintro ev w1 ⟨rfl, hb, hB⟩
            have T2 := Lib.hid (TD.write hB hb)
            clear TD hb hB
            go_wp2_with fail
            go_roundg (gk - 1)
            case measure => omega
            case rel => exact ⟨i + 1, _, by go_num, by omega, by omega, by simp; omega, HK2, T2⟩
      · have hi2 : i = s.size := by omega
        have kl : decide ((i : Int) < (s.size : Int)) = false := by rw [decide_eq_false_iff_not]; omega
        obtain rfl : Q = .inr none := by rw [HK.out, qL_end q (by show s.size ≤ i; omega)]; rfl
        obtain ⟨hvt, rfl, rfl⟩ : (⟨v0, v1, v2, v3⟩ : Tok) = Tok.zero ∧ V1 = 0 ∧ V2 = encE (mkAt (a : Int) 121) := ⟨HV.out.1, HV.out.2.1, HV.out.2.2.trans (by show encE (mkAt (a : Int) 121) = _; rfl)⟩
        simp only [Tok.zero, Tok.mk.injEq] at hvt
        obtain ⟨rfl, rfl, rfl, rfl⟩ := hvt
        clear hi2 HK HQ HQQ
        have A := Lib.hid (fun W => fault_At (a : Int) 121 W)
        clear HV 
        go_wp2_with fail
        refine (A.out _).mono ?_
        rintro ev w1 ⟨rfl, hB⟩
        obtain ⟨X, hX⟩ : ∃ X, X = encE (mkAt (a : Int) 121) := ⟨_, rfl⟩
        rw [← hX]
        have HX := Lib.hid hX
        have m0 := below_blk hB (by have := T.out.sz; omega) T.out.ht
        have HB0 := Lib.hid (T.out.B.trans (hB.mono (by have := T.out.sz; omega)))
        have HT := fun v0 v1 v2 v3 => four_blk m0 v0 v1 v2 v3
        have qk0 := blk_cell' (m0) 0
        have qf0 := blk_free' (m0) 0
        have qk1 := blk_cell' (m0) 1
        have qf1 := blk_free' (m0) 1
        have qk2 := blk_cell' (m0) 2
        have qf2 := blk_free' (m0) 2
        have qk3 := blk_cell' (m0) 3
        have qf3 := blk_free' (m0) 3
        clear m0 A hB hX
        go_wp2
        exact bodyPost_ret (results_three Tryz.results33 (res_cell (T' := 30) (fr := (0, 0)) rfl (HT _ _ _ _) Tryz.underlying30 rfl (by kernel_rfl)) (res_tmp rfl) (res_tmp rfl)) rfl ⟨by rw [← HX.out]; rfl, below_four HB0.out (Nat.le_refl _) _ _ _ _⟩
  · go_enter Tryz.func33, Tryz.ntmps33
    go_upto_region 5 with (fail)
    obtain ⟨W0, hW0⟩ : ∃ W0, W0 = (((w.alloc tokO).alloc (.cells #[.int .u8 2, .string ⟨#[]⟩, .int .i64 0, .int .i64 (a : Int)] 30 (0, 0))).alloc (.cells #[.pointer none, .slice none 0 0] tB)) := ⟨_, rfl⟩
    have T0 : Qb 2 a [] w W0 := by
      rw [hW0]
      have hb := Bld.fresh ((w.alloc tokO).alloc (.cells #[.int .u8 2, .string ⟨#[]⟩, .int .i64 0, .int .i64 (a : Int)] 30 (0, 0)))
      rw [show ((w.alloc tokO).alloc (.cells #[.int .u8 2, .string ⟨#[]⟩, .int .i64 0, .int .i64 (a : Int)] 30 (0, 0))).heap.size = w.heap.size + 1 + 1 by simp] at hb
      exact ⟨by go_grown, (heap_old' _ _ _ (by first | omega | (simp only [World.size_alloc, World.size_setCell, World.size_drew, size_drewN'] <;> omega)) (heap_old' _ _ _ (by first | omega | (simp only [World.size_alloc, World.size_setCell, World.size_drew, size_drewN'] <;> omega)) (heap_new' _ _ _ (by first | omega | (simp only [World.size_alloc, World.size_setCell, World.size_drew, size_drewN'] <;> omega))))), (heap_old' _ _ _ (by first | omega | (simp only [World.size_alloc, World.size_setCell, World.size_drew, size_drewN'] <;> omega)) (heap_new' _ _ _ (by first | omega | (simp only [World.size_alloc, World.size_setCell, World.size_drew, size_drewN'] <;> omega)))), hb⟩
    rw [show (((w.alloc tokO).alloc (.cells #[.int .u8 2, .string ⟨#[]⟩, .int .i64 0, .int .i64 (a : Int)] 30 (0, 0))).alloc (.cells #[.pointer none, .slice none 0 0] tB)) = W0 from hW0.symm]
    clear hW0
    go_wp2_with fail
    go_loopg [9] (s.size - (a + 1)) (fun m v wr => ∃ (i : Nat) (acc : List UInt8), v = .int .i64 (i : Int) ∧ i + m = s.size ∧ a + 1 ≤ i ∧ acc.length ≤ i ∧ Hid (Q = combQ acc (i - (a + 1)) (qL q (s.data.toList.drop i))) ∧ Hid (Qb 2 a acc w wr))
    case atStart => exact ⟨a + 1, [], by go_num, by omega, Nat.le_refl _, by simp, Lib.hid (by rw [Nat.sub_self, combQ_zero]; exact HQ.out), Lib.hid T0⟩
    case round =>
      clear T0
      obtain ⟨i, acc, rfl, hm, hai, hal, HK, T⟩ := hrel
      by_cases hi : i < s.size
      · have hb : s.data.toList[i]'hi = s[i] := rfl
        have kl : decide ((i : Int) < (s.size : Int)) = true := by rw [decide_eq_true_iff]; omega
        obtain ⟨ci, hci⟩ : ∃ ci : Nat, s[i].toNat = ci := ⟨_, rfl⟩
        by_cases h1 : s[i] = q
        · have k1 : ((ci : Int) == (qn : Int)) = true := by rw [← hci, h1, hqv]; simp
          obtain rfl : Q = .inl (acc, i - (a + 1) + 1) := by rw [HK.out, qL_close q hi (hb.trans h1)]; simp [combQ]
          have e1 : ((a + 1 + (i - (a + 1) + 1) : Nat) : Int) = (i : Int) + 1 := by omega
          obtain ⟨txt, htx⟩ : ∃ txt, txt = (⟨acc.toArray⟩ : ByteArray) := ⟨_, rfl⟩
          have CB := fun W (h : Bld (w.heap.size + 1 + 1) acc W) => build_string (w.heap.size + 1 + 1) acc W h
          rw [← htx] at CB
          obtain ⟨hvt, rfl, rfl⟩ : (⟨v0, v1, v2, v3⟩ : Tok) = ⟨2, ⟨acc.toArray⟩, 0, a⟩ ∧ V1 = (i : Int) + 1 ∧ V2 = .nilIface := ⟨HV.out.1, HV.out.2.1.trans e1, HV.out.2.2⟩
          rw [← htx] at hvt
          have CB := Lib.hid CB
          clear htx
          simp only [Tok.mk.injEq] at hvt
          obtain ⟨rfl, rfl, rfl, rfl⟩ := hvt
          clear HV HK HQ h1 e1 HQQ
          have t := T.out
          go_wp2_with fail
          refine (CB.out _ t.bd).mono ?_
          rintro ev w1 ⟨rfl, hB⟩
          have m0 := below_blk hB (by omega) t.ht
          have m1 := below_blk hB (by omega) t.tk
          have hB0 : Below w.heap.size w w1 := t.B.trans (hB.mono (by omega))
          clear t T hB CB
          have f1 := blk_free' m1 1
          have g1 := blk_cell' m1 1
          go_upto_region 12 with (fail)
          have p0 := blk_far' m0 (show w.heap.size ≠ w.heap.size + 1 by omega) 1 (.string v1)
          have p1 : (w1.setCell ⟨w.heap.size + 1, 1, none⟩ (.string v1)).heap[w.heap.size + 1]? = some (.cells #[.int .u8 2, .string v1, .int .i64 0, .int .i64 (a : Int)] 30 (0, 0)) := by simpa using blk_set' m1 1 (.string v1)
          have HB0 := Lib.hid (hB0.setCell (p := ⟨w.heap.size + 1, 1, none⟩) (Nat.le_succ _) (.string v1))
          generalize w1.setCell ⟨w.heap.size + 1, 1, none⟩ (.string v1) = w2 at *
          have HT := fun v0 v1 v2 v3 => four_blk p0 v0 v1 v2 v3
          have xk0 := blk_cell' (p0) 0
          have xf0 := blk_free' (p0) 0
          have xk1 := blk_cell' (p0) 1
          have xf1 := blk_free' (p0) 1
          have xk2 := blk_cell' (p0) 2
          have xf2 := blk_free' (p0) 2
          have xk3 := blk_cell' (p0) 3
          have xf3 := blk_free' (p0) 3
          have yk0 := blk_cell' (p1) 0
          have yf0 := blk_free' (p1) 0
          have yk1 := blk_cell' (p1) 1
          have yf1 := blk_free' (p1) 1
          have yk2 := blk_cell' (p1) 2
          have yf2 := blk_free' (p1) 2
          have yk3 := blk_cell' (p1) 3
          have yf3 := blk_free' (p1) 3
          clear m0 m1 f1 g1 p0 p1 hB0
          go_wp2
          exact bodyPost_ret (results_three Tryz.results33 (res_cell (T' := 30) (fr := (0, 0)) rfl (HT _ _ _ _) Tryz.underlying30 rfl (by kernel_rfl)) (res_tmp rfl) (res_tmp rfl)) rfl ⟨rfl, below_four HB0.out (Nat.le_refl _) _ _ _ _⟩
        · have k1 : ((ci : Int) == (qn : Int)) = false := by
            rw [← hqv, ← hci]
            simp only [beq_eq_false_iff_ne, ne_eq]
            exact fun e => h1 (UInt8.toNat_inj.1 (by omega))
          by_cases h2 : s[i] = 92
          · have k2 : ((ci : Int) == 92) = true := by rw [← hci, h2]; rfl
            by_cases hi1 : i + 1 < s.size
            · have hb1 : s.data.toList[i + 1]'hi1 = s[i + 1] := rfl
              have k3 : decide ((i : Int) + 1 < (s.size : Int)) = true := by rw [decide_eq_true_iff]; omega
              obtain ⟨ch, hch⟩ : ∃ ch : Nat, s[i + 1].toNat = ch := ⟨_, rfl⟩
              by_cases h3 : s[i + 1] = q ∨ s[i + 1] = 92
              · have HK2 : Hid (Q = combQ (acc ++ [s[i + 1]]) (i + 2 - (a + 1)) (qL q (s.data.toList.drop (i + 2)))) := Lib.hid (by
                  rw [HK.out, qL_pair q hi1 (fun e => h1 (hb.symm.trans e)) (hb.trans h2) h3, combQ_combQ]
                  congr 1
                  omega)
                rcases (show s[i + 1] = q ∨ (¬ s[i + 1] = q ∧ s[i + 1] = 92) from if e : s[i + 1] = q then .inl e else .inr ⟨e, h3.resolve_left e⟩) with h4 | ⟨h4, h5⟩
                · have k4 : ((ch : Int) == (qn : Int)) = true := by rw [← hch, h4, hqv]; simp
                  clear HV HK h1 h2 h3 h4 HQQ
                  go_upto_region 13 with (fail)
                  go_quiet (fail)
                  have TD := T.out.drewN nq
                  generalize wr.drewN nq = wD at *
                  have CW := fun W (h : Bld (w.heap.size + 1 + 1) acc W) => write_byte (w.heap.size + 1 + 1) acc s[i + 1] W h (by omega)
                  rw [hch] at CW
                  have CW := Lib.hid CW
                  clear T
                  go_wp2_with fail
                  refine (CW.out _ TD.bd).mono ?_
                  rintro ev w1 ⟨rfl, hb, hB⟩
                  have T2 := Lib.hid (TD.write hB hb)
                  clear TD hb hB
                  go_wp2_with fail
                  go_roundg (gk - 2)
                  case measure => omega
                  case rel => exact ⟨i + 2, _, by go_num, by omega, by omega, by simp; omega, HK2, T2⟩
                · have k4 : ((ch : Int) == (qn : Int)) = false := by
                    rw [← hch, ← hqv]; simp only [beq_eq_false_iff_ne, ne_eq]; exact fun e => h4 (UInt8.toNat_inj.1 (by omega))
                  have k5 : ((ch : Int) == 92) = true := by rw [← hch, h5]; rfl
                  clear HV HK h1 h2 h3 h4 h5 HQQ
                  go_upto_region 13 with (fail)
                  go_quiet (fail)
                  have TD := T.out.drewN nq
                  generalize wr.drewN nq = wD at *
                  have CW := fun W (h : Bld (w.heap.size + 1 + 1) acc W) => write_byte (w.heap.size + 1 + 1) acc s[i + 1] W h (by omega)
                  rw [hch] at CW
                  have CW := Lib.hid CW
                  clear T
                  go_wp2_with fail
                  refine (CW.out _ TD.bd).mono ?_
                  rintro ev w1 ⟨rfl, hb, hB⟩
                  have T2 := Lib.hid (TD.write hB hb)
                  clear TD hb hB
                  go_wp2_with fail
                  go_roundg (gk - 2)
                  case measure => omega
                  case rel => exact ⟨i + 2, _, by go_num, by omega, by omega, by simp; omega, HK2, T2⟩
              · have k4 : ((ch : Int) == (qn : Int)) = false := by
                  rw [← hch, ← hqv]; simp only [beq_eq_false_iff_ne, ne_eq]; exact fun e => h3 (.inl (UInt8.toNat_inj.1 (by omega)))
                have k5 : ((ch : Int) == 92) = false := by
                  rw [← hch]; simp only [beq_eq_false_iff_ne, ne_eq]; exact fun e => h3 (.inr (UInt8.toNat_inj.1 (by show _ = 92; omega)))
                obtain rfl : Q = .inr (some (i - (a + 1))) := by rw [HK.out, qL_wrong q hi1 (fun e => h1 (hb.symm.trans e)) (hb.trans h2) h3]; simp [combQ]
                have e1 : ((a + 1 + (i - (a + 1)) : Nat) : Int) = (i : Int) := by omega
                obtain ⟨hvt, rfl, rfl⟩ : (⟨v0, v1, v2, v3⟩ : Tok) = Tok.zero ∧ V1 = 0 ∧ V2 = encE (mkAt (i : Int) 121) := ⟨HV.out.1, HV.out.2.1, HV.out.2.2.trans (by show encE (mkAt ((a + 1 + (i - (a + 1)) : Nat) : Int) 121) = _; rw [e1])⟩
                simp only [Tok.zero, Tok.mk.injEq] at hvt
                obtain ⟨rfl, rfl, rfl, rfl⟩ := hvt
                clear h1 h2 h3 e1 HK HQ HQQ
                go_upto_region 13 with (fail)
                go_quiet (fail)
                have TD := T.out.drewN nq
                generalize wr.drewN nq = wD at *
                have A := Lib.hid (fun W => fault_At (i : Int) 121 W)
                clear HV T
                go_wp2_with fail
                refine (A.out _).mono ?_
                rintro ev w1 ⟨rfl, hB⟩
                obtain ⟨X, hX⟩ : ∃ X, X = encE (mkAt (i : Int) 121) := ⟨_, rfl⟩
                rw [← hX]
                have HX := Lib.hid hX
                have m0 := below_blk hB (by have := TD.sz; omega) TD.ht
                have HB0 := Lib.hid (TD.B.trans (hB.mono (by have := TD.sz; omega)))
                have HT := fun v0 v1 v2 v3 => four_blk m0 v0 v1 v2 v3
                have qk0 := blk_cell' (m0) 0
                have qf0 := blk_free' (m0) 0
                have qk1 := blk_cell' (m0) 1
                have qf1 := blk_free' (m0) 1
                have qk2 := blk_cell' (m0) 2
                have qf2 := blk_free' (m0) 2
                have qk3 := blk_cell' (m0) 3
                have qf3 := blk_free' (m0) 3
                clear m0 A hB hX
                go_wp2
                exact bodyPost_ret (results_three Tryz.results33 (res_cell (T' := 30) (fr := (0, 0)) rfl (HT _ _ _ _) Tryz.underlying30 rfl (by kernel_rfl)) (res_tmp rfl) (res_tmp rfl)) rfl ⟨by rw [← HX.out]; rfl, below_four HB0.out (Nat.le_refl _) _ _ _ _⟩
            · have k3 : decide ((i : Int) + 1 < (s.size : Int)) = false := by rw [decide_eq_false_iff_not]; omega
              obtain rfl : Q = .inr (some (i - (a + 1))) := by rw [HK.out, qL_last q hi (fun e => h1 (hb.symm.trans e)) (hb.trans h2) (by show s.size ≤ i + 1; omega)]; simp [combQ]
              have e1 : ((a + 1 + (i - (a + 1)) : Nat) : Int) = (i : Int) := by omega
              obtain ⟨hvt, rfl, rfl⟩ : (⟨v0, v1, v2, v3⟩ : Tok) = Tok.zero ∧ V1 = 0 ∧ V2 = encE (mkAt (i : Int) 121) := ⟨HV.out.1, HV.out.2.1, HV.out.2.2.trans (by show encE (mkAt ((a + 1 + (i - (a + 1)) : Nat) : Int) 121) = _; rw [e1])⟩
              simp only [Tok.zero, Tok.mk.injEq] at hvt
              obtain ⟨rfl, rfl, rfl, rfl⟩ := hvt
              clear h1 h2 e1 HK HQ HQQ
              go_upto_region 13 with (fail)
              go_quiet (fail)
              have TD := T.out.drewN nq
              generalize wr.drewN nq = wD at *
              have A := Lib.hid (fun W => fault_At (i : Int) 121 W)
              clear HV T
              go_wp2_with fail
              refine (A.out _).mono ?_
              rintro ev w1 ⟨rfl, hB⟩
              obtain ⟨X, hX⟩ : ∃ X, X = encE (mkAt (i : Int) 121) := ⟨_, rfl⟩
              rw [← hX]
              have HX := Lib.hid hX
              have m0 := below_blk hB (by have := TD.sz; omega) TD.ht
              have HB0 := Lib.hid (TD.B.trans (hB.mono (by have := TD.sz; omega)))
              have HT := fun v0 v1 v2 v3 => four_blk m0 v0 v1 v2 v3
              have qk0 := blk_cell' (m0) 0
              have qf0 := blk_free' (m0) 0
              have qk1 := blk_cell' (m0) 1
              have qf1 := blk_free' (m0) 1
              have qk2 := blk_cell' (m0) 2
              have qf2 := blk_free' (m0) 2
              have qk3 := blk_cell' (m0) 3
              have qf3 := blk_free' (m0) 3
              clear m0 A hB hX
              go_wp2
              exact bodyPost_ret (results_three Tryz.results33 (res_cell (T' := 30) (fr := (0, 0)) rfl (HT _ _ _ _) Tryz.underlying30 rfl (by kernel_rfl)) (res_tmp rfl) (res_tmp rfl)) rfl ⟨by rw [← HX.out]; rfl, below_four HB0.out (Nat.le_refl _) _ _ _ _⟩
          · have k2 : ((ci : Int) == 92) = false := by
              rw [← hci]; simp only [beq_eq_false_iff_ne, ne_eq]; exact fun e => h2 (UInt8.toNat_inj.1 (by show _ = 92; omega))
            have HK2 : Hid (Q = combQ (acc ++ [s[i]]) (i + 1 - (a + 1)) (qL q (s.data.toList.drop (i + 1)))) := Lib.hid (by
              rw [HK.out, qL_plain q hi (fun e => h1 (hb.symm.trans e)) (fun e => h2 (hb.symm.trans e)), combQ_combQ]
              congr 1
              omega)
            clear HV HK h1 h2 HQQ
            go_upto_region 13 with (fail)
            go_quiet (fail)
            have TD := T.out.drewN nq
            generalize wr.drewN nq = wD at *
            have CW := fun W (h : Bld (w.heap.size + 1 + 1) acc W) => write_byte (w.heap.size + 1 + 1) acc s[i] W h (by omega)
            rw [hci] at CW
            have CW := Lib.hid CW
            clear T
            go_wp2_with fail
            refine (CW.out _ TD.bd).mono ?_
            rintro ev w1 ⟨rfl, hb, hB⟩
            have T2 := Lib.hid (TD.write hB hb)
            clear TD hb hB
            go_wp2_with fail
            go_roundg (gk - 1)
            case measure => omega
            case rel => exact ⟨i + 1, _, by go_num, by omega, by omega, by simp; omega, HK2, T2⟩
      · have hi2 : i = s.size := by omega
        have kl : decide ((i : Int) < (s.size : Int)) = false := by rw [decide_eq_false_iff_not]; omega
        obtain rfl : Q = .inr none := by rw [HK.out, qL_end q (by show s.size ≤ i; omega)]; rfl
        obtain ⟨hvt, rfl, rfl⟩ : (⟨v0, v1, v2, v3⟩ : Tok) = Tok.zero ∧ V1 = 0 ∧ V2 = encE (mkAt (a : Int) 121) := ⟨HV.out.1, HV.out.2.1, HV.out.2.2.trans (by show encE (mkAt (a : Int) 121) = _; rfl)⟩
        simp only [Tok.zero, Tok.mk.injEq] at hvt
        obtain ⟨rfl, rfl, rfl, rfl⟩ := hvt
        clear hi2 HK HQ HQQ
        have A := Lib.hid (fun W => fault_At (a : Int) 121 W)
        clear HV 
        go_wp2_with fail
        refine (A.out _).mono ?_
        rintro ev w1 ⟨rfl, hB⟩
        obtain ⟨X, hX⟩ : ∃ X, X = encE (mkAt (a : Int) 121) := ⟨_, rfl⟩
        rw [← hX]
        have HX := Lib.hid hX
        have m0 := below_blk hB (by have := T.out.sz; omega) T.out.ht
        have HB0 := Lib.hid (T.out.B.trans (hB.mono (by have := T.out.sz; omega)))
        have HT := fun v0 v1 v2 v3 => four_blk m0 v0 v1 v2 v3
        have qk0 := blk_cell' (m0) 0
        have qf0 := blk_free' (m0) 0
        have qk1 := blk_cell' (m0) 1
        have qf1 := blk_free' (m0) 1
        have qk2 := blk_cell' (m0) 2
        have qf2 := blk_free' (m0) 2
        have qk3 := blk_cell' (m0) 3
        have qf3 := blk_free' (m0) 3
        clear m0 A hB hX
        go_wp2
        exact bodyPost_ret (results_three Tryz.results33 (res_cell (T' := 30) (fr := (0, 0)) rfl (HT _ _ _ _) Tryz.underlying30 rfl (by kernel_rfl)) (res_tmp rfl) (res_tmp rfl)) rfl ⟨by rw [← HX.out]; rfl, below_four HB0.out (Nat.le_refl _) _ _ _ _⟩
end Go.Proofs.YtmooibnedokllaaGreatDoor
