/- LexBack is true. -/
import Derived.Test.YtmooibnedokllaaGreatDoorLlv
namespace Go.Proofs.YtmooibnedokllaaGreatDoor
open Go.RowKit
set_option linter.unusedSimpArgs false
set_option linter.unusedVariables false

def headW (b : ByteArray) : Bool := match b.data.toList.head? with | some c => wordC c | none => false
theorem headW_at {b : ByteArray} (h : 0 < b.size) : headW b = wordC b[0] := by
  have hl : b.data.toList.length = b.size := rfl
  have h0 : b.data.toList[0]'(by omega) = b[0] := rfl
  unfold headW
  rw [List.head?_eq_getElem?, List.getElem?_eq_getElem (by omega), h0]
theorem headW_nil {b : ByteArray} (h : ¬ 0 < b.size) : headW b = false := by
  have : b.data.toList = [] := List.length_eq_zero_iff.1 (show b.data.toList.length = 0 from by show b.size = 0; omega)
  unfold headW
  rw [this]; rfl
theorem headW_not {b : ByteArray} (h : headW b = false) : ∀ c, b.data.toList.head? = some c → wordC c = false := by
  intro c hc
  unfold headW at h
  rw [hc] at h; exact h
theorem word_int (c : UInt8) : wordC c = (((c.toNat : Int) == 95) || (decide (48 ≤ (c.toNat : Int)) && decide ((c.toNat : Int) ≤ 57)) || (decide (97 ≤ (c.toNat : Int)) && decide ((c.toNat : Int) ≤ 122)) || (decide (65 ≤ (c.toNat : Int)) && decide ((c.toNat : Int) ≤ 90))) := by
  unfold wordC
  rw [letter_int, digit_int, Bool.eq_iff_iff]
  simp only [Bool.or_eq_true, Bool.and_eq_true]
  constructor
  · rintro (((h | h) | h) | h)
    · exact .inl (.inr h)
    · exact .inr h
    · exact .inl (.inl (.inl h))
    · exact .inl (.inl (.inr h))
  · rintro (((h | h) | h) | h)
    · exact .inl (.inr h)
    · exact .inr h
    · exact .inl (.inl (.inl h))
    · exact .inl (.inl (.inr h))
theorem quoteT_size (s : ByteArray) : (quoteT s).size ≤ 2 * s.size + 2 := by
  have hd := (within_double 34 s.data.toList).2
  have hl : s.data.toList.length = s.size := rfl
  show (quoteL s.data.toList).length ≤ _
  unfold quoteL
  split
  · omega
  · simp only [inQ, List.length_cons, List.length_append, List.length_nil]; omega
theorem inT_size (q : UInt8) (s : ByteArray) : (inT q s).size ≤ 2 * s.size + 2 := by
  have hd := (within_double q s.data.toList).2
  have hl : s.data.toList.length = s.size := rfl
  show (inQ q s.data.toList).length ≤ _
  simp only [inQ, List.length_cons, List.length_append, List.length_nil]; omega
theorem ret_v {a b : Bool} (h : a = b) : Value.bool a = Value.bool b := by rw [h]
set_option maxRecDepth 100000 in
set_option maxHeartbeats 2000000 in
theorem back_true (s b : ByteArray) (hs : s.size ≤ 1048576) (hb : b.size ≤ 1048576) (w : World) (hL : LayU w) :
    Calls Tryz.prog 5 #[.string s, .string b] w fun e w' => e = .returned (.bool true) ∧ Below w.heap.size w w' := by
  have CL := Lib.hid (fun W hW => lex_live W hW)
  obtain ⟨bw, hbw⟩ : ∃ bw, bw = headW b := ⟨_, rfl⟩
  have HBW := Lib.hid hbw
  clear hbw
  have st := Lib.hid (Sq.start hL)
  go_enter Tryz.func5, Tryz.ntmps5
  go_wp2_with fail
  refine (CL.out _ st.out.L).mono ?_
  rintro ev w1 ⟨rfl, hB⟩
  have st1 := Lib.hid (st.out.next hB)
  clear hB
  go_upto_region 3 with (fail)
  go_cut [48] (fun v48 wc => v48 = .bool bw ∧ w1 = wc)
  case first =>
    by_cases hb0 : 0 < b.size
    · rw [headW_at hb0, word_int] at HBW
      have k0 : decide ((0 : Int) < (b.size : Int)) = true := by rw [decide_eq_true_iff]; omega
      obtain ⟨n, hn⟩ : ∃ n : Nat, b[0].toNat = n := ⟨_, rfl⟩
      rw [hn] at HBW
      clear CL st1
      go_wp2_with fail
      all_goals go_meet
      all_goals exact ⟨ret_v (by have hh := HBW.out; clear HBW; first | rfl | (rw [hh]; done) | (rw [hh, Bool.eq_iff_iff]; simp at *; omega) | (rw [hh]; simp_all; done) | (rw [hh]; simp_all; omega)), rfl⟩
    · rw [headW_nil hb0] at HBW
      have k0 : decide ((0 : Int) < (b.size : Int)) = false := by rw [decide_eq_false_iff_not]; omega
      clear CL st1
      go_wp2_with fail
      go_meet
      case rel => exact ⟨by rw [HBW.out], rfl⟩
  case rest =>
    obtain ⟨rfl, rfl⟩ := hcut
    cases bw with
    | true =>
      go_wp2_with fail
      go_ret
      exact ⟨rfl, st1.out.B⟩
    | false =>
      have hw := headW_not HBW.out.symm
      obtain ⟨k, hn, hk⟩ := next_quote s b hw
      have ht := next_text s b
      have CQ := Lib.hid (fun W => lex_Quote s (by omega) W)
      have CT := Lib.hid (fun W => lex_Text s (by omega) W)
      have CK := Lib.hid (fun W => lex_Key s (by omega) W)
      have z1 := quoteT_size s
      have z2 := inT_size 39 s
      have CN1 := fun W hW => lex_Next (quoteT s ++ b) 0 (by rw [ByteArray.size_append]; omega) W hW
      have CN2 := fun W hW => lex_Next (inT 39 s ++ b) 0 (by rw [ByteArray.size_append]; omega) W hW
      rw [show nextP (quoteT s ++ b) 0 = .inl (⟨k, s, 0, 0⟩, (quoteT s).size) from hn] at CN1
      rw [show nextP (inT 39 s ++ b) 0 = .inl (⟨3, s, 0, 0⟩, (inT 39 s).size) from ht] at CN2
      simp only [nTok, nEnd, nErr, encE, Tok.enc] at CN1 CN2
      generalize quoteT s = Q at *
      generalize inT 39 s = T at *
      have CN1 := Lib.hid CN1
      have CN2 := Lib.hid CN2
      have HK := Lib.hid hk
      clear hn ht hw hk HBW
      have ss : (s.toList == s.toList) = true := by simp
      go_wp2_with fail
      refine (CQ.out _).mono ?_
      rintro ev w2 ⟨rfl, hB⟩
      have st2 := Lib.hid (st1.out.next hB)
      clear hB
      go_wp2_with fail
      refine (CN1.out _ st2.out.L).mono ?_
      rintro ev w3 ⟨rfl, hB⟩
      have AB := (Below.refl w3.heap.size w3).alloc (Nat.le_refl _) (.cells #[.int .u8 k, .string s, .int .i64 0, .int .i64 0] 30 (0, 0))
      have st4 := Lib.hid ((st2.out.next hB).next AB)
      have hn3 : w.heap.size ≤ w3.heap.size := (st2.out.next hB).B.size
      have q := heap_alloc_new w3 (.cells #[.int .u8 k, .string s, .int .i64 0, .int .i64 0] 30 (0, 0))
      clear hB AB
      go_upto_region 7 with (fail)
      generalize w3.alloc (.cells #[.int .u8 k, .string s, .int .i64 0, .int .i64 0] 30 (0, 0)) = w4 at *
      generalize w3.heap.size = n3 at *
      have HQ := Lib.hid q
      have xk0 := blk_cell' (q) 0
      have xf0 := blk_free' (q) 0
      have xk1 := blk_cell' (q) 1
      have xf1 := blk_free' (q) 1
      have xk2 := blk_cell' (q) 2
      have xf2 := blk_free' (q) 2
      have xk3 := blk_cell' (q) 3
      have xf3 := blk_free' (q) 3
      clear q
      rcases HK.out with ⟨rfl, hk⟩ | rfl
      · have CK' : Hid (∀ W, Calls Tryz.prog 13 #[.string s] W fun ev w' => ev = .returned (.bool false) ∧ Below W.heap.size W w') := Lib.hid (fun W => by have h := CK.out W; rw [show isWord s = false from hk] at h; exact h)
        clear hk HK CK
        go_wp2_with fail
        refine (CK'.out _).mono ?_
        rintro ev w5 ⟨rfl, hB⟩
        have st5 := Lib.hid (st4.out.next hB)
        have HQ := Lib.hid (below_blk hB (blk_lt' HQ.out) HQ.out)
        clear hB xk0 xf0 xk1 xf1 xk2 xf2 xk3 xf3
        go_wp2_with fail
        refine (CT.out _).mono ?_
        rintro ev w6 ⟨rfl, hB⟩
        have st6 := Lib.hid (st5.out.next hB)
        have HQ := Lib.hid (below_blk hB (blk_lt' HQ.out) HQ.out)
        clear hB
        go_wp2_with fail
        refine (CN2.out _ st6.out.L).mono ?_
        rintro ev w7 ⟨rfl, hB⟩
        have st7 := Lib.hid (st6.out.next hB)
        have q := below_blk hB (blk_lt' HQ.out) HQ.out
        have q7 := four_blk q (.int .u8 3) (.string s) (.int .i64 0) (.int .i64 0)
        have xk0 := blk_cell' (q) 0
        have xf0 := blk_free' (q) 0
        have xk1 := blk_cell' (q) 1
        have xf1 := blk_free' (q) 1
        have xk2 := blk_cell' (q) 2
        have xf2 := blk_free' (q) 2
        have xk3 := blk_cell' (q) 3
        have xf3 := blk_free' (q) 3
        have yk0 := blk_cell' (q7) 0
        have yf0 := blk_free' (q7) 0
        have yk1 := blk_cell' (q7) 1
        have yf1 := blk_free' (q7) 1
        have yk2 := blk_cell' (q7) 2
        have yf2 := blk_free' (q7) 2
        have yk3 := blk_cell' (q7) 3
        have yf3 := blk_free' (q7) 3
        clear hB q q7
        go_wp2_with fail
        go_ret
        exact ⟨rfl, below_four st7.out.B hn3 _ _ _ _⟩
      · clear HK CK
        go_wp2_with fail
        refine (CT.out _).mono ?_
        rintro ev w6 ⟨rfl, hB⟩
        have st6 := Lib.hid (st4.out.next hB)
        have HQ := Lib.hid (below_blk hB (blk_lt' HQ.out) HQ.out)
        clear hB xk0 xf0 xk1 xf1 xk2 xf2 xk3 xf3
        go_wp2_with fail
        refine (CN2.out _ st6.out.L).mono ?_
        rintro ev w7 ⟨rfl, hB⟩
        have st7 := Lib.hid (st6.out.next hB)
        have q := below_blk hB (blk_lt' HQ.out) HQ.out
        have q7 := four_blk q (.int .u8 3) (.string s) (.int .i64 0) (.int .i64 0)
        have xk0 := blk_cell' (q) 0
        have xf0 := blk_free' (q) 0
        have xk1 := blk_cell' (q) 1
        have xf1 := blk_free' (q) 1
        have xk2 := blk_cell' (q) 2
        have xf2 := blk_free' (q) 2
        have xk3 := blk_cell' (q) 3
        have xf3 := blk_free' (q) 3
        have yk0 := blk_cell' (q7) 0
        have yf0 := blk_free' (q7) 0
        have yk1 := blk_cell' (q7) 1
        have yf1 := blk_free' (q7) 1
        have yk2 := blk_cell' (q7) 2
        have yf2 := blk_free' (q7) 2
        have yk3 := blk_cell' (q7) 3
        have yf3 := blk_free' (q7) 3
        clear hB q q7
        go_wp2_with fail
        go_ret
        exact ⟨rfl, below_four st7.out.B hn3 _ _ _ _⟩
end Go.Proofs.YtmooibnedokllaaGreatDoor
