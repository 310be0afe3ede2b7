/- LexNexts, LexCuts, LexBack are true. -/
import Derived.Test.YtmooibnedokllaaGreatDoorLlv
namespace Go.Proofs.YtmooibnedokllaaGreatDoor
open Go.RowKit
set_option linter.unusedSimpArgs false
set_option linter.unusedVariables false

attribute [local go_sem high] eq_tok
theorem same_next {R : NextR} (h : ∀ c p, R = .inr (c, p) → ¬ c = 0) : same (nErr R) (nBad R) = true := by
  rcases R with ⟨t, e⟩ | ⟨c, p⟩
  · rfl
  · have hc := h c p rfl
    cases p with
    | none => show same (mkE c) (refNew c) = true; simp [same, mkE, refNew, hc, Er.code?, Er.at?, Er.in?]
    | some p => show same (mkAt (p : Int) c) ⟨c, (p : Int), 0, true, false⟩ = true; simp [same, mkAt, hc, Er.code?, Er.at?, Er.in?, atPos]
set_option maxRecDepth 100000 in
set_option maxHeartbeats 1000000 in
theorem nexts_true (s : ByteArray) (a : Int) (hs : s.size ≤ 140737488355327) (w : World) (hL : LayU w) :
    Calls Tryz.prog 8 #[.string s, .int .i64 a] w fun e w' => e = .returned (.bool true) ∧ Below w.heap.size w w' := by
  have CL := Lib.hid (fun W hW => lex_live W hW)
  have C1 := fun W hW => lex_Next s a hs W hW
  have C2 := fun W hW => r12_Next s a (by omega) W hW
  have CS := fun W hW => weirboth_Same (nErr (nextP s a)) (nBad (nextP s a)) W hW
  rw [same_next (fun c p h => nextP_code h)] at CS
  generalize encE (nErr (nextP s a)) = E at *
  generalize nEnd (nextP s a) = N at *
  generalize nBad (nextP s a) = bd at *
  generalize nTok (nextP s a) = tk at *
  obtain ⟨b0, b1, b2, b3, b4⟩ := bd
  obtain ⟨v0, v1, v2, v3⟩ := tk
  simp only [Bad.enc, Tok.enc] at C1 C2 CS
  have C1 := Lib.hid C1
  have C2 := Lib.hid C2
  have CS := Lib.hid CS
  have st := Lib.hid (Sq.start hL)
  go_enter Tryz.func8, Tryz.ntmps8
  go_wp2_with fail
  refine (CL.out _ st.out.L).mono ?_
  rintro ev w1 ⟨rfl, hB⟩
  have st1 := Lib.hid (st.out.next hB)
  clear hB
  go_wp2_with fail
  refine (C1.out _ st1.out.L).mono ?_
  rintro ev w2 ⟨rfl, hB⟩
  have st2 := Lib.hid ((st1.out.next hB).next ((Below.refl _ _).alloc (Nat.le_refl _) (.cells #[.int .u8 v0, .string v1, .int .i64 v2, .int .i64 v3] 30 (0, 0))))
  have q2 := heap_alloc_new w2 (.cells #[.int .u8 v0, .string v1, .int .i64 v2, .int .i64 v3] 30 (0, 0))
  clear hB
  go_upto_region 4 with (fail)
  generalize w2.alloc (.cells #[.int .u8 v0, .string v1, .int .i64 v2, .int .i64 v3] 30 (0, 0)) = w3 at *
  generalize w2.heap.size = n2 at *
  have HQ := Lib.hid q2
  clear q2
  go_wp2_with fail
  refine (C2.out _ st2.out.L.S).mono ?_
  rintro ev w4 ⟨rfl, hB⟩
  have st4 := st2.out.next hB
  have A1 := (Below.refl w4.heap.size w4).alloc (Nat.le_refl _) (.cells #[.int .u8 v0, .string v1, .int .i64 v2, .int .i64 v3] 30 (0, 0))
  have A2 := A1.alloc A1.size (.cells #[.int .i64 b0, .int .i64 b1, .int .i64 b2, .bool b3, .bool b4] 40 (0, 0))
  have q2 := below_blk A2 (blk_lt' (below_blk hB (blk_lt' HQ.out) HQ.out)) (below_blk hB (blk_lt' HQ.out) HQ.out)
  have st5 := Lib.hid (st4.next A2)
  have q4 : ((w4.alloc (.cells #[.int .u8 v0, .string v1, .int .i64 v2, .int .i64 v3] 30 (0, 0))).alloc (.cells #[.int .i64 b0, .int .i64 b1, .int .i64 b2, .bool b3, .bool b4] 40 (0, 0))).heap[w4.heap.size]? = some (.cells #[.int .u8 v0, .string v1, .int .i64 v2, .int .i64 v3] 30 (0, 0)) := heap_old' _ _ _ (by simp) (heap_new' _ _ _ rfl)
  have q5 : ((w4.alloc (.cells #[.int .u8 v0, .string v1, .int .i64 v2, .int .i64 v3] 30 (0, 0))).alloc (.cells #[.int .i64 b0, .int .i64 b1, .int .i64 b2, .bool b3, .bool b4] 40 (0, 0))).heap[w4.heap.size + 1]? = some (.cells #[.int .i64 b0, .int .i64 b1, .int .i64 b2, .bool b3, .bool b4] 40 (0, 0)) := heap_new' _ _ _ (by simp)
  clear hB st4 A1 A2
  go_upto_region 5 with (fail)
  generalize (w4.alloc (.cells #[.int .u8 v0, .string v1, .int .i64 v2, .int .i64 v3] 30 (0, 0))).alloc (.cells #[.int .i64 b0, .int .i64 b1, .int .i64 b2, .bool b3, .bool b4] 40 (0, 0)) = w5 at *
  generalize w4.heap.size = n4 at *
  have xk0 := blk_cell' (q2) 0
  have xf0 := blk_free' (q2) 0
  have xk1 := blk_cell' (q2) 1
  have xf1 := blk_free' (q2) 1
  have xk2 := blk_cell' (q2) 2
  have xf2 := blk_free' (q2) 2
  have xk3 := blk_cell' (q2) 3
  have xf3 := blk_free' (q2) 3
  have yk0 := blk_cell' (q4) 0
  have yf0 := blk_free' (q4) 0
  have yk1 := blk_cell' (q4) 1
  have yf1 := blk_free' (q4) 1
  have yk2 := blk_cell' (q4) 2
  have yf2 := blk_free' (q4) 2
  have yk3 := blk_cell' (q4) 3
  have yf3 := blk_free' (q4) 3
  have zk0 := blk_cell' (q5) 0
  have zf0 := blk_free' (q5) 0
  have zk1 := blk_cell' (q5) 1
  have zf1 := blk_free' (q5) 1
  have zk2 := blk_cell' (q5) 2
  have zf2 := blk_free' (q5) 2
  have zk3 := blk_cell' (q5) 3
  have zf3 := blk_free' (q5) 3
  have zk4 := blk_cell' (q5) 4
  have zf4 := blk_free' (q5) 4
  clear q2 q4 q5
  go_wp2_with fail
  refine (CS.out _ st5.out.L.S.L.hg).mono ?_
  rintro ev w6 ⟨rfl, hB⟩
  have st6 := Lib.hid (st5.out.next hB)
  clear hB
  go_wp2_with fail
  go_ret
  exact ⟨rfl, st6.out.B⟩
theorem allN_code {s : ByteArray} {c : Int} {p : Option Nat} : ∀ n a, allN s n a = .inr (c, p) → ¬ c = 0
  | 0, a, h => by cases h
  | n + 1, a, h => by
    rcases hx : nextP s a with ⟨t, e⟩ | e
    · by_cases hk : t.kind = 0
      · rw [allN_end hx hk] at h; cases h
      · rw [allN_go hx hk] at h
        rcases hr : allN s n e with l' | e'
        · rw [hr] at h; cases h
        · rw [hr] at h; cases h
          exact allN_code n e hr
    · rw [allN_err hx] at h; cases h
      exact nextP_code hx
theorem allP_code {s : ByteArray} {c : Int} {p : Option Nat} (h : allP s = .inr (c, p)) : ¬ c = 0 := by
  unfold allP at h
  split at h
  · cases h; decide
  · exact allN_code _ _ h
theorem toks_none (w : World) : ToksAt w none [] := ⟨by decide, fun h => absurd h (by decide)⟩
set_option maxRecDepth 100000 in
set_option maxHeartbeats 1000000 in
theorem cuts_true (s : ByteArray) (w : World) (hL : LayU w) :
    Calls Tryz.prog 7 #[.string s] w fun e w' => e = .returned (.bool true) ∧ Below w.heap.size w w' := by
  have CL := Lib.hid (fun W hW => lex_live W hW)
  have C1 := fun W hW => lex_All s W hW
  have C2 := fun W hW => r12_All s W hW
  have hcode : ∀ c p, allP s = .inr (c, p) → ¬ c = 0 := fun c p h => allP_code h
  generalize allP s = R at *
  rcases R with l | ⟨c, p⟩
  · have C1 := Lib.hid C1
    have C2 := Lib.hid C2
    have CS := fun W hW => weirboth_Same none Bad.nil W hW
    rw [show same none Bad.nil = true from rfl] at CS
    simp only [Bad.enc, Bad.nil, encE] at CS
    have CS := Lib.hid CS
    have st := Lib.hid (Sq.start hL)
    go_enter Tryz.func7, Tryz.ntmps7
    go_wp2_with fail
    refine (CL.out _ st.out.L).mono ?_
    rintro ev w1 ⟨rfl, hB⟩
    have st1 := Lib.hid (st.out.next hB)
    clear hB
    go_wp2_with fail
    refine (C1.out _ st1.out.L).mono ?_
    rintro ev w2 ⟨v, rfl, T, hB⟩
    have st2 := Lib.hid (st1.out.next hB)
    obtain ⟨A0, c0, rfl, h0⟩ := toks_at T
    have H0 := Lib.hid h0
    clear hB T h0
    go_wp2_with fail
    refine (C2.out _ st2.out.L.S).mono ?_
    rintro ev w3 ⟨v, rfl, T, hB⟩
    obtain ⟨A1, c1, rfl, h1⟩ := toks_at T
    have AB := (Below.refl w3.heap.size w3).alloc (Nat.le_refl _) badOO
    have st3 := Lib.hid ((st2.out.next hB).next AB)
    have H0' := Lib.hid ((H0.out.next hB).next AB)
    have H1 := Lib.hid (h1.next AB)
    have q2 := heap_alloc_new w3 badOO
    clear hB T h1 AB H0
    simp only [Bad.enc, Bad.nil]
    go_upto_region 5 with (fail)
    generalize w3.alloc badOO = w4 at *
    generalize w3.heap.size = n3 at *
    have xk0 := blk_cell' (q2) 0
    have xf0 := blk_free' (q2) 0
    have xk1 := blk_cell' (q2) 1
    have xf1 := blk_free' (q2) 1
    have xk2 := blk_cell' (q2) 2
    have xf2 := blk_free' (q2) 2
    have xk3 := blk_cell' (q2) 3
    have xf3 := blk_free' (q2) 3
    have xk4 := blk_cell' (q2) 4
    have xf4 := blk_free' (q2) 4
    clear q2
    go_wp2_with fail
    refine (CS.out _ st3.out.L.S.L.hg).mono ?_
    rintro ev w5 ⟨rfl, hB⟩
    have st4 := Lib.hid (st3.out.next hB)
    have CT := Lib.hid (SameTokens_eq A0 A1 c0 c1 l w5 (H0'.out.next hB) (H1.out.next hB))
    clear hB
    go_wp2_with fail
    refine CT.out.mono ?_
    rintro ev w6 ⟨rfl, m, rfl⟩
    go_wp2_with fail
    go_ret
    exact ⟨rfl, below_drewN st4.out.B m⟩
  · have hc := hcode c p rfl
    have CS := fun W hW => weirboth_Same (nErr (.inr (c, p))) (nBad (.inr (c, p))) W hW
    rw [same_next (fun c' p' h => by cases h; exact hc)] at CS
    have hP : ∀ W ev w', AllPost W (.inr (c, p)) ev w' ↔ (ev = .returned (.tuple #[.slice none 0 0, encE (nErr (.inr (c, p)))]) ∧ Below W.heap.size W w') := fun _ _ _ => Iff.rfl
    have hR : ∀ W ev w', RefAll W (.inr (c, p)) ev w' ↔ (ev = .returned (.tuple #[.slice none 0 0, (nBad (.inr (c, p))).enc]) ∧ Below W.heap.size W w') := fun _ _ _ => Iff.rfl
    have C1' : ∀ W, LayU W → Calls Tryz.prog 11 #[.string s] W fun ev w' => ev = .returned (.tuple #[.slice none 0 0, encE (nErr (.inr (c, p)))]) ∧ Below W.heap.size W w' := C1
    have C2' : ∀ W, LayS W → Calls Tryz.prog 21 #[.string s] W fun ev w' => ev = .returned (.tuple #[.slice none 0 0, (nBad (.inr (c, p))).enc]) ∧ Below W.heap.size W w' := C2
    clear C1 C2 hP hR hcode hc
    generalize encE (nErr (.inr (c, p))) = E at *
    generalize nBad (.inr (c, p)) = bd at *
    obtain ⟨b0, b1, b2, b3, b4⟩ := bd
    simp only [Bad.enc] at C2' CS
    have C1 := Lib.hid C1'
    have C2 := Lib.hid C2'
    have CS := Lib.hid CS
    clear C1' C2'
    have st := Lib.hid (Sq.start hL)
    go_enter Tryz.func7, Tryz.ntmps7
    go_wp2_with fail
    refine (CL.out _ st.out.L).mono ?_
    rintro ev w1 ⟨rfl, hB⟩
    have st1 := Lib.hid (st.out.next hB)
    clear hB
    go_wp2_with fail
    refine (C1.out _ st1.out.L).mono ?_
    rintro ev w2 ⟨rfl, hB⟩
    have st2 := Lib.hid (st1.out.next hB)
    clear hB
    go_wp2_with fail
    refine (C2.out _ st2.out.L.S).mono ?_
    rintro ev w3 ⟨rfl, hB⟩
    have AB := (Below.refl w3.heap.size w3).alloc (Nat.le_refl _) (.cells #[.int .i64 b0, .int .i64 b1, .int .i64 b2, .bool b3, .bool b4] 40 (0, 0))
    have st3 := Lib.hid ((st2.out.next hB).next AB)
    have q2 := heap_alloc_new w3 (.cells #[.int .i64 b0, .int .i64 b1, .int .i64 b2, .bool b3, .bool b4] 40 (0, 0))
    clear hB AB
    go_upto_region 5 with (fail)
    generalize w3.alloc (.cells #[.int .i64 b0, .int .i64 b1, .int .i64 b2, .bool b3, .bool b4] 40 (0, 0)) = w4 at *
    generalize w3.heap.size = n3 at *
    have xk0 := blk_cell' (q2) 0
    have xf0 := blk_free' (q2) 0
    have xk1 := blk_cell' (q2) 1
    have xf1 := blk_free' (q2) 1
    have xk2 := blk_cell' (q2) 2
    have xf2 := blk_free' (q2) 2
    have xk3 := blk_cell' (q2) 3
    have xf3 := blk_free' (q2) 3
    have xk4 := blk_cell' (q2) 4
    have xf4 := blk_free' (q2) 4
    clear q2
    go_wp2_with fail
    refine (CS.out _ st3.out.L.S.L.hg).mono ?_
    rintro ev w5 ⟨rfl, hB⟩
    have st4 := Lib.hid (st3.out.next hB)
    have CT := Lib.hid (SameTokens_eq none none 0 0 [] w5 (toks_none _) (toks_none _))
    clear hB
    go_wp2_with fail
    refine CT.out.mono ?_
    rintro ev w6 ⟨rfl, m, rfl⟩
    go_wp2_with fail
    go_ret
    exact ⟨rfl, below_drewN st4.out.B m⟩
end Go.Proofs.YtmooibnedokllaaGreatDoor
