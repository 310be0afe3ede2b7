/- LexPlaces is true. -/
import Derived.Test.YtmooibnedokllaaGreatDoorLlv
namespace Go.Proofs.YtmooibnedokllaaGreatDoor
open Go.RowKit
set_option linter.unusedSimpArgs false
set_option linter.unusedVariables false

attribute [local go_sem high] eq_tok
theorem allP_nonempty {s : ByteArray} {l : List Tok} (h : allP s = .inl l) : s.size ≤ 4000 ∧ allN s (s.size + 1) 0 = .inl l ∧ 0 < l.length := by
  unfold allP at h
  split at h
  · cases h
  · refine ⟨by omega, h, ?_⟩
    cases l with
    | nil =>
      rcases hx : nextP s ((0 : Nat) : Int) with ⟨t, e⟩ | e
      · by_cases hk : t.kind = 0
        · rw [allN_end hx hk] at h; cases h
        · rw [allN_go hx hk] at h
          rcases hr : allN s s.size e with l' | e'
          · rw [hr] at h; cases h
          · rw [hr] at h; cases h
      · rw [allN_err hx] at h; cases h
    | cons t r => simp
theorem tokG_drop {l : List Tok} {i : Nat} (h : i < l.length) : l.drop i = tokG l i :: l.drop (i + 1) := by
  rw [List.drop_eq_getElem_cons h]
  simp [tokG, List.getD, List.getElem?_eq_getElem h]
theorem allN_code {s : ByteArray} {c : Int} {p : Option Nat} : ∀ n a, allN s n a = .inr (c, p) → ¬ c = 0
  | 0, a, h => by cases h
  | n + 1, a, h => by
    rcases hx : nextP s a with ⟨t, e⟩ | e
    · by_cases hk : t.kind = 0
      · rw [allN_end hx hk] at h; cases h
      · rw [allN_go hx hk] at h
        rcases hr : allN s n e with l' | e'
        · rw [hr] at h; cases h
        · rw [hr] at h; cases h
          exact allN_code n e hr
    · rw [allN_err hx] at h; cases h
      exact nextP_code hx
theorem allP_code {s : ByteArray} {c : Int} {p : Option Nat} (h : allP s = .inr (c, p)) : ¬ c = 0 := by
  unfold allP at h
  split at h
  · cases h; decide
  · exact allN_code _ _ h
/-- Where the walk through the tokens stands. -/
def AtTok (s : ByteArray) (l : List Tok) (i a : Nat) : Prop :=
  (i < l.length ∧ ∃ n, s.size + 1 ≤ n + a ∧ allN s n a = .inl (l.drop i)) ∨ (i = l.length ∧ a = s.size ∧ (tokG l (l.length - 1)).kind = 0 ∧ (tokG l (l.length - 1)).pos = (s.size : Int))
theorem atTok_step {s : ByteArray} {l : List Tok} {i a : Nat} (ha : a ≤ s.size) (hi : i < l.length) (h : AtTok s l i a) :
    ∃ (p e : Nat), (tokG l i).pos = p ∧ a ≤ p ∧ p ≤ s.size ∧ (∀ k (hk : k < s.data.toList.length), a ≤ k → k < p → blankC s.data.toList[k] = true) ∧ nextP s a = .inl (tokG l i, e) ∧ nextP s p = .inl (tokG l i, e) ∧ p ≤ e ∧ e ≤ s.size ∧ (e = p ↔ (tokG l i).kind = 0) ∧ AtTok s l (i + 1) e := by
  rcases h with ⟨-, n, hn, hall⟩ | ⟨h, -⟩
  · rw [tokG_drop hi] at hall
    obtain ⟨m, e, rfl, hx, hor⟩ := allN_cons hall
    obtain ⟨p, f1, f2, f3, f4, f5, f6, f7, f8, f9⟩ := next_places ha hx
    refine ⟨p, e, f1, f2, f3, f4, hx, f5, f6, f7, f8, ?_⟩
    rcases hor with ⟨hk, hr⟩ | ⟨hk, hr⟩
    · right
      have hlen : i + 1 = l.length := by
        have := congrArg List.length hr
        simp at this; omega
      have hi2 : l.length - 1 = i := by omega
      exact ⟨hlen, by rw [f8.2 hk, f9 hk], by rw [hi2]; exact hk, by rw [hi2, f1, f9 hk]⟩
    · left
      have he : a < e := by have : ¬ e = p := fun h => hk (f8.1 h); omega
      refine ⟨?_, m, by omega, hr⟩
      rcases Nat.lt_or_ge (i + 1) l.length with h | h
      · exact h
      · rw [List.drop_eq_nil_of_le h] at hr
        exfalso
        cases m with
        | zero => omega
        | succ m =>
          rcases hx2 : nextP s (e : Int) with ⟨t2, e2⟩ | e2
          · by_cases hk2 : t2.kind = 0
            · rw [allN_end hx2 hk2] at hr; cases hr
            · rw [allN_go hx2 hk2] at hr
              rcases hr3 : allN s m e2 with l' | e'
              · rw [hr3] at hr; cases hr
              · rw [hr3] at hr; cases hr
          · rw [allN_err hx2] at hr; cases hr
  · omega
theorem blank_four {c : UInt8} (h : blankC c = true) : c.toNat = 32 ∨ c.toNat = 9 ∨ c.toNat = 10 ∨ c.toNat = 13 := by
  rw [blank_int] at h
  simp only [Bool.or_eq_true, beq_iff_eq] at h
  omega
set_option maxRecDepth 100000 in
set_option maxHeartbeats 4000000 in
theorem places_true (s : ByteArray) (hs : s.size ≤ 140737488355327) (w : World) (hL : LayU w) :
    Calls Tryz.prog 3 #[.string s] w fun e w' => e = .returned (.bool true) ∧ Below w.heap.size w w' := by
  have CL := Lib.hid (fun W hW => lex_live W hW)
  have C1 := fun W hW => lex_All s W hW
  obtain ⟨R, hR⟩ : ∃ R, R = allP s := ⟨_, rfl⟩
  rw [← hR] at C1
  have st := Lib.hid (Sq.start hL)
  rcases R with l | ⟨c, p⟩
  · obtain ⟨hs4, hall, hl0⟩ := allP_nonempty hR.symm
    have H0 : Hid (AtTok s l 0 0) := Lib.hid (.inl ⟨hl0, s.size + 1, by omega, hall⟩)
    have CN := Lib.hid (fun (i : Int) W hW => lex_Next s i hs W hW)
    have C1 := Lib.hid C1
    have hlen := allN_length s _ _ _ hall
    have hll : l.length ≤ 4001 := by omega
    have kl0 : decide ((0 : Int) < (l.length : Int)) = true := by rw [decide_eq_true_iff]; omega
    clear hR hall hlen
    go_enter Tryz.func3, Tryz.ntmps3
    go_wp2_with fail
    refine (CL.out _ st.out.L).mono ?_
    rintro ev w1 ⟨rfl, hB⟩
    have st1 := Lib.hid (st.out.next hB)
    clear hB
    go_wp2_with fail
    refine (C1.out _ st1.out.L).mono ?_
    rintro ev w2 ⟨v, rfl, T, hB⟩
    have st2 := Lib.hid (st1.out.next hB)
    obtain ⟨A0, c0, rfl, h0⟩ := toks_at T
    obtain ⟨g, rfl, -, -⟩ := h0.cells hl0
    have HT := Lib.hid h0
    clear hB T h0 C1
    go_wp2_with fail
    go_loopg [5, 6] l.length (fun m v5 v6 wr => ∃ i a : Nat, v5 = .int .i64 (a : Int) ∧ v6 = .int .i64 (i : Int) ∧ i + m = l.length ∧ a ≤ s.size ∧ Hid (AtTok s l i a) ∧ Hid (ToksAt wr (some ⟨g, 0, none⟩) l) ∧ Hid (Sq LayU w wr))
    case atStart => exact ⟨0, 0, rfl, rfl, by omega, Nat.zero_le _, H0, HT, st2⟩
    case round =>
      clear HT H0
      obtain ⟨i, a, rfl, rfl, hm, ha, HA, HT, sw⟩ := hrel
      by_cases hi : i < l.length
      · have kl : decide ((i : Int) < (l.length : Int)) = true := by rw [decide_eq_true_iff]; omega
        have hstep := atTok_step ha hi HA.out
        obtain ⟨p, e, f1, f2, f3, f4, f5, f6, f7, f8, f9, f10⟩ := hstep
        obtain ⟨g', hg', hg, hc⟩ := HT.out.cells hl0
        obtain rfl : g = g' := by injection hg' with h; injection h
        obtain ⟨x0, x1, x2, x3⟩ := hc i hi
        generalize tokG l i = t at *
        obtain ⟨v0, v1, v2, v3⟩ := t
        obtain rfl : v3 = (p : Int) := f1
        have k1 : decide ((p : Int) < (a : Int)) = false := by rw [decide_eq_false_iff_not]; omega
        have k2 : decide ((s.size : Int) < (p : Int)) = false := by rw [decide_eq_false_iff_not]; omega
        have k1n : decide (p < a) = false := by rw [decide_eq_false_iff_not]; omega
        have k2n : decide (s.size < p) = false := by rw [decide_eq_false_iff_not]; omega
        have F4 := Lib.hid f4
        have F10 := Lib.hid f10
        have F9 := Lib.hid f9
        have HX := Lib.hid (And.intro x0 (And.intro x1 (And.intro x2 x3)))
        have hgs : g < wr.heap.size := hg
        clear hc f4 f10 f9 HA
        go_upto_block 2 with (fail)
        go_cut [7] (fun v7 wc => wr = wc)
        case first =>
          clear CN CL st st1 st2
          go_wp2_with fail
          go_loopg [7] (p - a) (fun m v7 wr2 => ∃ k : Nat, v7 = .int .i64 (k : Int) ∧ k + m = p ∧ a ≤ k ∧ Hid (wr = wr2))
          case atStart => exact ⟨a, rfl, by omega, Nat.le_refl _, Lib.hid rfl⟩
          case round =>
            obtain ⟨k, rfl, hm2, hak, hwr⟩ := hrel
            obtain rfl := hwr.out
            by_cases hk : k < p
            · have kk : decide ((k : Int) < (p : Int)) = true := by rw [decide_eq_true_iff]; omega
              have hks : k < s.size := by omega
              have hb4 := blank_four (F4.out k hks hak hk)
              have hb4' : s[k].toNat = 32 ∨ s[k].toNat = 9 ∨ s[k].toNat = 10 ∨ s[k].toNat = 13 := hb4
              clear hb4
              rcases hb4' with hc | hc | hc | hc
              all_goals go_wp2_with fail
              all_goals go_roundg (gk - 1)
              all_goals first | (case measure => omega) | skip
              all_goals exact ⟨k + 1, by go_num, by omega, by omega, Lib.hid rfl⟩
            · have kk : decide ((k : Int) < (p : Int)) = false := by rw [decide_eq_false_iff_not]; omega
              go_wp2_with fail
              go_meet
              case rel => rfl
        case rest =>
          obtain rfl := hcut
          have N1 := fun W hW => CN.out (a : Int) W hW
          have N2 := fun W hW => CN.out (p : Int) W hW
          rw [f5] at N1
          rw [f6] at N2
          simp only [nTok, nEnd, nErr, encE, Tok.enc] at N1 N2
          have N1 := Lib.hid N1
          have N2 := Lib.hid N2
          clear f5 f6
          go_wp2_with fail
          refine (N1.out _ sw.out.L).mono ?_
          rintro ev w4 ⟨rfl, hB⟩
          have AB := (Below.refl w4.heap.size w4).alloc (Nat.le_refl _) (.cells #[.int .u8 v0, .string v1, .int .i64 v2, .int .i64 (p : Int)] 30 (0, 0))
          have sw4 := Lib.hid ((sw.out.next hB).next AB)
          have HT4 := Lib.hid ((HT.out.next hB).next AB)
          have q := heap_alloc_new w4 (.cells #[.int .u8 v0, .string v1, .int .i64 v2, .int .i64 (p : Int)] 30 (0, 0))
          have y0 := (AB.cell (p := ⟨g, i * 4, none⟩) (Nat.lt_of_lt_of_le hgs hB.size)).trans ((hB.cell (p := ⟨g, i * 4, none⟩) hgs).trans x0)
          have y1 := (AB.cell (p := ⟨g, i * 4 + 1, none⟩) (Nat.lt_of_lt_of_le hgs hB.size)).trans ((hB.cell (p := ⟨g, i * 4 + 1, none⟩) hgs).trans x1)
          have y2 := (AB.cell (p := ⟨g, i * 4 + 2, none⟩) (Nat.lt_of_lt_of_le hgs hB.size)).trans ((hB.cell (p := ⟨g, i * 4 + 2, none⟩) hgs).trans x2)
          have y3 := (AB.cell (p := ⟨g, i * 4 + 3, none⟩) (Nat.lt_of_lt_of_le hgs hB.size)).trans ((hB.cell (p := ⟨g, i * 4 + 3, none⟩) hgs).trans x3)
          have hg4 : g < (w4.alloc (.cells #[.int .u8 v0, .string v1, .int .i64 v2, .int .i64 (p : Int)] 30 (0, 0))).heap.size := by have := hB.size; simp; omega
          clear hB AB x0 x1 x2 x3 HX HT sw hgs
          go_upto_region 18 with (fail)
          generalize w4.alloc (.cells #[.int .u8 v0, .string v1, .int .i64 v2, .int .i64 (p : Int)] 30 (0, 0)) = w5 at *
          generalize w4.heap.size = n4 at *
          have HQ := Lib.hid q
          clear q
          go_wp2_with fail
          refine (N2.out _ sw4.out.L).mono ?_
          rintro ev w6 ⟨rfl, hB⟩
          have AB := (Below.refl w6.heap.size w6).alloc (Nat.le_refl _) (.cells #[.int .u8 v0, .string v1, .int .i64 v2, .int .i64 (p : Int)] 30 (0, 0))
          have sw6 := Lib.hid ((sw4.out.next hB).next AB)
          have HT6 := Lib.hid ((HT4.out.next hB).next AB)
          have q6 := heap_alloc_new w6 (.cells #[.int .u8 v0, .string v1, .int .i64 v2, .int .i64 (p : Int)] 30 (0, 0))
          have q5 := below_blk AB (blk_lt' (below_blk hB (blk_lt' HQ.out) HQ.out)) (below_blk hB (blk_lt' HQ.out) HQ.out)
          have x0 := (AB.cell (p := ⟨g, i * 4, none⟩) (Nat.lt_of_lt_of_le hg4 hB.size)).trans ((hB.cell (p := ⟨g, i * 4, none⟩) hg4).trans y0)
          have x1 := (AB.cell (p := ⟨g, i * 4 + 1, none⟩) (Nat.lt_of_lt_of_le hg4 hB.size)).trans ((hB.cell (p := ⟨g, i * 4 + 1, none⟩) hg4).trans y1)
          have x2 := (AB.cell (p := ⟨g, i * 4 + 2, none⟩) (Nat.lt_of_lt_of_le hg4 hB.size)).trans ((hB.cell (p := ⟨g, i * 4 + 2, none⟩) hg4).trans y2)
          have x3 := (AB.cell (p := ⟨g, i * 4 + 3, none⟩) (Nat.lt_of_lt_of_le hg4 hB.size)).trans ((hB.cell (p := ⟨g, i * 4 + 3, none⟩) hg4).trans y3)
          clear hB AB y0 y1 y2 y3 HT4 sw4 hg4 HQ
          go_upto_region 19 with (fail)
          generalize w6.alloc (.cells #[.int .u8 v0, .string v1, .int .i64 v2, .int .i64 (p : Int)] 30 (0, 0)) = w7 at *
          generalize w6.heap.size = n6 at *
          have yk0 := blk_cell' (q5) 0
          have yf0 := blk_free' (q5) 0
          have yk1 := blk_cell' (q5) 1
          have yf1 := blk_free' (q5) 1
          have yk2 := blk_cell' (q5) 2
          have yf2 := blk_free' (q5) 2
          have yk3 := blk_cell' (q5) 3
          have yf3 := blk_free' (q5) 3
          have zk0 := blk_cell' (q6) 0
          have zf0 := blk_free' (q6) 0
          have zk1 := blk_cell' (q6) 1
          have zf1 := blk_free' (q6) 1
          have zk2 := blk_cell' (q6) 2
          have zf2 := blk_free' (q6) 2
          have zk3 := blk_cell' (q6) 3
          have zf3 := blk_free' (q6) 3
          clear q5 q6 yf0 yf1 yf2 yf3 zf0 zf1 zf2 zf3
          have e1 : decide ((e : Int) < (p : Int)) = false := by rw [decide_eq_false_iff_not]; omega
          have e1n : decide (e < p) = false := by rw [decide_eq_false_iff_not]; omega
          obtain ⟨bz, hbz⟩ : ∃ bz : Bool, bz = decide (v0 = 0) := ⟨_, rfl⟩
          have e2 : ((e : Int) == (p : Int)) = bz := by
            rw [hbz, Bool.eq_iff_iff]; simp only [beq_iff_eq, decide_eq_true_eq, Int.natCast_inj]; exact F9.out
          have e3 : (v0 == 0) = bz := by rw [hbz, Bool.eq_iff_iff]; simp
          clear hbz
          go_quiet (fail)
          have sw8 := Lib.hid (sw6.out.next (below_drewN (Below.refl _ _) nq))
          have HT8 := Lib.hid (HT6.out.next (below_drewN (Below.refl _ _) nq))
          clear sw6 HT6 x0 x1 x2 x3 yk0 yk1 yk2 yk3 zk0 zk1 zk2 zk3
          go_wp2_with fail
          go_roundg (gk - 1)
          case measure => omega
          case rel => exact ⟨i + 1, e, rfl, by go_num, by omega, f8, F10, HT8, sw8⟩
      · obtain rfl : i = l.length := by omega
        have kl : decide ((l.length : Int) < (l.length : Int)) = false := by simp
        obtain ⟨ha2, hk, hp⟩ : a = s.size ∧ (tokG l (l.length - 1)).kind = 0 ∧ (tokG l (l.length - 1)).pos = (s.size : Int) := by
          rcases HA.out with ⟨h, -⟩ | ⟨-, h⟩
          · omega
          · exact h
        subst ha2
        obtain ⟨g', hg', hg, hc⟩ := HT.out.cells hl0
        obtain rfl : g = g' := by injection hg' with h; injection h
        obtain ⟨x0, x1, x2, x3⟩ := hc (l.length - 1) (by omega)
        rw [hk] at x0
        rw [hp] at x3
        clear hc HA hk hp
        go_wp2_with fail
        go_ret
        exact ⟨rfl, sw.out.B⟩
  · have hc := allP_code hR.symm
    obtain ⟨tp, tv, hE⟩ := nErr_iface (p := p) hc
    have C1' : ∀ W, LayU W → Calls Tryz.prog 11 #[.string s] W fun ev w' => ev = .returned (.tuple #[.slice none 0 0, .iface tp tv]) ∧ Below W.heap.size W w' := by rw [← hE]; exact C1
    have C1 := Lib.hid C1'
    clear C1' hE hc hR
    go_enter Tryz.func3, Tryz.ntmps3
    go_wp2_with fail
    refine (CL.out _ st.out.L).mono ?_
    rintro ev w1 ⟨rfl, hB⟩
    have st1 := Lib.hid (st.out.next hB)
    clear hB
    go_wp2_with fail
    refine (C1.out _ st1.out.L).mono ?_
    rintro ev w2 ⟨rfl, hB⟩
    have st2 := Lib.hid (st1.out.next hB)
    clear hB
    go_wp2_with fail
    go_ret
    exact ⟨rfl, st2.out.B⟩
end Go.Proofs.YtmooibnedokllaaGreatDoor
