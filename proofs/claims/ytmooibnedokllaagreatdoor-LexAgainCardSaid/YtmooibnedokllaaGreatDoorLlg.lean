/- LexAgain is true. -/
import Derived.Test.YtmooibnedokllaaGreatDoorLlp
namespace Go.Proofs.YtmooibnedokllaaGreatDoor
open Go.RowKit
set_option linter.unusedSimpArgs false
set_option linter.unusedVariables false

set_option maxRecDepth 100000 in
set_option maxHeartbeats 1000000 in
theorem law_named (s : ByteArray) (hs : s.size ≤ 140737488355327) (w : World) :
    Calls Tryz.prog 41 #[.string s] w fun ev w' => ev = .returned (.string (withinT 34 s)) ∧ w' = w := by
  obtain ⟨I, hII⟩ : ∃ I, I = withinT 34 s := ⟨_, rfl⟩
  rw [← hII]
  have HI := Lib.hid hII
  clear hII
  go_enter Tryz.func41, Tryz.ntmps41
  go_wp2_with fail
  go_loopg [3, 4] s.size (fun m v5 v6 wr => ∃ (i : Nat) (t : ByteArray), v5 = .string t ∧ v6 = .int .i64 (i : Int) ∧ i + m = s.size ∧ Hid (t = ⟨(withinL 34 (s.data.toList.take i)).toArray⟩) ∧ t.size ≤ 2 * i ∧ Hid (wr = w))
  case atStart => exact ⟨0, _, rfl, rfl, by omega, Lib.hid (by simp [withinL]), by decide, Lib.hid rfl⟩
  case round =>
    obtain ⟨i, t, rfl, rfl, hm, HT, hts, hw⟩ := hrel
    by_cases hi : i < s.size
    · have kl : decide ((i : Int) < (s.size : Int)) = true := by rw [decide_eq_true_iff]; omega
      have hb : s.data.toList[i]'hi = s[i] := rfl
      have hst := within_step 34 s.data.toList i hi
      rw [hb] at hst
      have hsl := ext_one s i hi
      obtain ⟨cn, hcn⟩ : ∃ cn : Nat, s[i].toNat = cn := ⟨_, rfl⟩
      have hcl : cn < 256 := by rw [← hcn]; exact s[i].toNat_lt
      obtain ⟨C1, hC1⟩ : ∃ C1 : ByteArray, C1 = ⟨#[s[i]]⟩ := ⟨_, rfl⟩
      have hc1 : C1.size = 1 := by rw [hC1]; rfl
      have h92 : (⟨#[92]⟩ : ByteArray).size = 1 := rfl
      rw [← hC1] at hsl
      by_cases h1 : s[i] = 34 ∨ s[i] = 92
      · have HT2 : Hid (t ++ ⟨#[92]⟩ ++ C1 = ⟨(withinL 34 (s.data.toList.take (i + 1))).toArray⟩) := Lib.hid (by
          rw [HT.out, hst, show withinC 34 s[i] = [92, s[i]] from if_pos h1, hC1]
          apply bytes_ext; simp only [data_app]; simp)
        rcases (show s[i] = 34 ∨ (¬ s[i] = 34 ∧ s[i] = 92) from if e : s[i] = 34 then .inl e else .inr ⟨e, h1.resolve_left e⟩) with h2 | ⟨h2, h3⟩
        · have k1 : ((cn : Int) == 34) = true := by rw [← hcn, h2]; rfl
          clear h1 h2 hst hb hC1 HT
          go_wp2_with fail
          go_roundg (gk - 1)
          case measure => omega
          case rel => exact ⟨i + 1, _, rfl, by go_num, by omega, HT2, by rw [ByteArray.size_append, ByteArray.size_append, hc1, h92]; omega, hw⟩
        · have k1 : ((cn : Int) == 34) = false := by
            rw [← hcn]; simp only [beq_eq_false_iff_ne, ne_eq]; exact fun e => h2 (UInt8.toNat_inj.1 (by show _ = 34; omega))
          have k2 : ((cn : Int) == 92) = true := by rw [← hcn, h3]; rfl
          clear h1 h2 h3 hst hb hC1 HT
          go_wp2_with fail
          go_roundg (gk - 1)
          case measure => omega
          case rel => exact ⟨i + 1, _, rfl, by go_num, by omega, HT2, by rw [ByteArray.size_append, ByteArray.size_append, hc1, h92]; omega, hw⟩
      · have k1 : ((cn : Int) == 34) = false := by
          rw [← hcn]; simp only [beq_eq_false_iff_ne, ne_eq]; exact fun e => h1 (.inl (UInt8.toNat_inj.1 (by show _ = 34; omega)))
        have k2 : ((cn : Int) == 92) = false := by
          rw [← hcn]; simp only [beq_eq_false_iff_ne, ne_eq]; exact fun e => h1 (.inr (UInt8.toNat_inj.1 (by show _ = 92; omega)))
        have HT2 : Hid (t ++ C1 = ⟨(withinL 34 (s.data.toList.take (i + 1))).toArray⟩) := Lib.hid (by
          rw [HT.out, hst, show withinC 34 s[i] = [s[i]] from if_neg h1, hC1]
          apply bytes_ext; simp only [data_app]; first | done | simp)
        clear h1 hst hb hC1 HT
        go_wp2_with fail
        go_roundg (gk - 1)
        case measure => omega
        case rel => exact ⟨i + 1, _, rfl, by go_num, by omega, HT2, by rw [ByteArray.size_append, hc1]; omega, hw⟩
    · have kl : decide ((i : Int) < (s.size : Int)) = false := by rw [decide_eq_false_iff_not]; omega
      have HE : Hid (t = I) := Lib.hid (by
        rw [HI.out, HT.out, List.take_of_length_le (show s.data.toList.length ≤ i from by show s.size ≤ i; omega)]; first | done | rfl)
      obtain rfl := hw.out
      go_wp2_with fail
      go_ret
      exact ⟨by rw [← HE.out]; rfl, rfl⟩
def shownT (t : Tok) : ByteArray := ⟨(shownL t).toArray⟩
set_option maxRecDepth 100000 in
set_option maxHeartbeats 1000000 in
theorem law_shown (t : Tok) (hs : t.text.size ≤ 140737488355327) (w : World) :
    Calls Tryz.prog 19 #[t.enc] w fun ev w' => ev = .returned (.string (shownT t)) ∧ Below w.heap.size w w' := by
  obtain ⟨V, hV⟩ : ∃ V, V = shownT t := ⟨_, rfl⟩
  rw [← hV]
  obtain ⟨k, x, n, p⟩ := t
  simp only [Tok.enc]
  simp only at hs
  have z1 := withinT_size 34 x
  have hq := heap_alloc_new w (.cells #[.int .u8 k, .string x, .int .i64 n, .int .i64 p] 30 (0, 0))
  have hb := (Below.refl w.heap.size w).alloc (Nat.le_refl _) (.cells #[.int .u8 k, .string x, .int .i64 n, .int .i64 p] 30 (0, 0))
  by_cases h2 : k = 2
  · subst h2
    have HI : Hid ((⟨#[34]⟩ : ByteArray) ++ withinT 34 x ++ ⟨#[34]⟩ = V) := Lib.hid (by rw [hV, inT_is]; unfold shownT shownL inT; rw [if_pos rfl])
    have CN := Lib.hid (fun W => law_named x hs W)
    generalize withinT 34 x = T at *
    have hz1 : (⟨#[34]⟩ : ByteArray).size = 1 := rfl
    have hb := Lib.hid hb
    clear hV
    go_enter Tryz.func19, Tryz.ntmps19
    go_wp2_with fail
    refine (CN.out _).mono ?_
    rintro ev w2 ⟨rfl, rfl⟩
    go_wp2_with fail
    go_ret
    exact ⟨by rw [← HI.out]; rfl, hb.out⟩
  · have k2 : (k == 2) = false := by simpa using h2
    by_cases h3 : k = 3
    · subst h3
      have CT := fun W => lex_Text x hs W
      rw [show inT 39 x = V from by rw [hV]; unfold shownT shownL inT; rw [if_neg (show ¬ (3 : Int) = 2 by decide), if_pos rfl]] at CT
      have CT := Lib.hid CT
      have hb := Lib.hid hb
      clear hV
      go_enter Tryz.func19, Tryz.ntmps19
      go_wp2_with fail
      refine (CT.out _).mono ?_
      rintro ev w2 ⟨rfl, hB⟩
      have B2 := Lib.hid (hb.out.trans (hB.mono hb.out.size))
      clear hB
      go_wp2_with fail
      go_ret
      exact ⟨rfl, B2.out⟩
    · have k3 : (k == 3) = false := by simpa using h3
      have HV : Hid (x = V) := Lib.hid (by rw [hV]; unfold shownT shownL; rw [if_neg h2, if_neg h3])
      have hb := Lib.hid hb
      clear hV h2 h3
      go_enter Tryz.func19, Tryz.ntmps19
      go_wp2_with fail
      go_ret
      exact ⟨by rw [← HV.out]; rfl, hb.out⟩
theorem tok_text {s : ByteArray} {a : Nat} {t : Tok} {e : Nat} (ha : a ≤ s.size) (h : tokAt s a = .inl (t, e)) : t.text.size ≤ s.size := by
  have hl : s.data.toList.length = s.size := rfl
  have hx : ∀ b, (s.extract a b).size ≤ s.size := fun b => by rw [ByteArray.size_extract]; omega
  by_cases he : s.size ≤ a
  · rw [tok_end he] at h; cases h; exact Nat.zero_le _
  · have hlt : a < s.data.toList.length := by omega
    rw [tok_at (List.getElem?_eq_getElem hlt)] at h
    split at h
    · cases h; exact hx _
    · split at h
      · obtain ⟨-, -, i3, -⟩ := number_got h
        rw [i3]; exact hx _
      · split at h
        · obtain ⟨x, n, i1, i2, i3⟩ := quoted_got h
          have := qL_le s.data.toList[a] (s.data.toList.drop (a + 1))
          rw [i1] at this
          simp only [List.length_drop] at this
          rw [i2]
          show x.length ≤ _
          omega
        · split at h
          · cases h
          · cases h; exact hx _
theorem all_text {s : ByteArray} : ∀ (n a : Nat) (l : List Tok), a ≤ s.size → allN s n a = .inl l → ∀ t ∈ l, t.text.size ≤ s.size
  | n, a, [], _, _, t, ht => by simp at ht
  | n, a, u :: r, ha, h, t, ht => by
    obtain ⟨m, e, rfl, hx, hor⟩ := allN_cons h
    obtain ⟨p, -, -, -, -, -, -, f7, -, -⟩ := next_places ha hx
    have hrl := runP_le blankC (s.data.toList.drop a)
    rw [List.length_drop, show s.data.toList.length = s.size from rfl] at hrl
    rcases List.mem_cons.1 ht with rfl | ht
    · rw [nextP_nat ha] at hx
      exact tok_text (by omega) hx
    · rcases hor with ⟨-, rfl⟩ | ⟨-, hr⟩
      · simp at ht
      · exact all_text m e r f7 hr t ht
theorem shownL_len (t : Tok) : (shownL t).length ≤ 2 * t.text.size + 2 := by
  have h1 := (within_double 34 t.text.data.toList).2
  have h2 := (within_double 39 t.text.data.toList).2
  have hl : t.text.data.toList.length = t.text.size := rfl
  unfold shownL
  split
  · simp only [inQ, List.length_cons, List.length_append, List.length_nil]; omega
  · split
    · simp only [inQ, List.length_cons, List.length_append, List.length_nil]; omega
    · omega
theorem join_len (M : Nat) : ∀ l : List Tok, (∀ t ∈ l, t.text.size ≤ M) → (joinL l).length ≤ l.length * (2 * M + 3)
  | [], _ => by simp [joinL]
  | t :: r, h => by
    have h1 := shownL_len t
    have h2 := h t (List.mem_cons_self ..)
    have h3 := join_len M r (fun x hx => h x (List.mem_cons_of_mem _ hx))
    rw [joinL_cons, List.length_append, List.length_cons, List.length_cons, Nat.add_mul]
    omega
theorem tokG_mem {l : List Tok} {i : Nat} (h : i < l.length) : tokG l i ∈ l := by
  unfold tokG
  rw [List.getD, List.getElem?_eq_getElem h]
  exact List.getElem_mem h
theorem take_tok {l : List Tok} {i : Nat} (h : i < l.length) : l.take (i + 1) = l.take i ++ [tokG l i] := by
  rw [List.take_succ_eq_append_getElem h]
  simp [tokG, List.getD, List.getElem?_eq_getElem h]
theorem core_at {l l' : List Tok} (h : l'.map Tok.core = l.map Tok.core) (i : Nat) (hi : i < l.length) : (tokG l' i).kind = (tokG l i).kind ∧ (tokG l' i).text = (tokG l i).text ∧ (tokG l' i).n = (tokG l i).n := by
  have hlen : l'.length = l.length := by simpa using congrArg List.length h
  have h2 : (l'.map Tok.core)[i]? = (l.map Tok.core)[i]? := by rw [h]
  rw [List.getElem?_map, List.getElem?_map, List.getElem?_eq_getElem (by omega), List.getElem?_eq_getElem hi] at h2
  have e1 : tokG l' i = l'[i]'(by omega) := by simp [tokG, List.getD, List.getElem?_eq_getElem (show i < l'.length by omega)]
  have e2 : tokG l i = l[i] := by simp [tokG, List.getD, List.getElem?_eq_getElem hi]
  rw [e1, e2]
  simp only [Option.map_some, Option.some.injEq, Tok.core, Prod.mk.injEq] at h2
  exact ⟨h2.1, h2.2.1, h2.2.2⟩
set_option maxRecDepth 100000 in
set_option maxHeartbeats 4000000 in
theorem again_true (s : ByteArray) (hs : s.size ≤ 140737488355327) (w : World) (hL : LayU w) :
    Calls Tryz.prog 6 #[.string s] w fun e w' => e = .returned (.bool true) ∧ Below w.heap.size w w' := by
  have CL := Lib.hid (fun W hW => lex_live W hW)
  have C1 := fun W hW => lex_All s W hW
  obtain ⟨R, hR⟩ : ∃ R, R = allP s := ⟨_, rfl⟩
  rw [← hR] at C1
  have st := Lib.hid (Sq.start hL)
  rcases R with l | ⟨c, p⟩
  · obtain ⟨hs4, hall, hl0⟩ := allP_nonempty hR.symm
    have C1 := Lib.hid C1
    have hlen := allN_length s _ _ _ hall
    have hll : l.length ≤ 4001 := by omega
    have htx : ∀ t ∈ l, t.text.size ≤ 4000 := fun t ht => Nat.le_trans (all_text _ _ _ (Nat.zero_le _) hall t ht) hs4
    have HJ : Hid (∀ i, i ≤ l.length → (joinL (l.take i)).length ≤ i * 8003) := Lib.hid (fun i hi => by
      have := join_len 4000 (l.take i) (fun t ht => htx t (List.mem_of_mem_take ht))
      rw [List.length_take, Nat.min_eq_left hi] at this
      exact this)
    have HTX : Hid (∀ i, i < l.length → (tokG l i).text.size ≤ 4000) := Lib.hid (fun i hi => htx _ (tokG_mem hi))
    obtain ⟨S, hS⟩ : ∃ S : ByteArray, S = ⟨(joinL l).toArray⟩ := ⟨_, rfl⟩
    have hag := again_same hR.symm S (by rw [hS])
    have HAG := Lib.hid hag
    have HSS := Lib.hid hS
    have CA := Lib.hid (fun W hW => lex_All S W hW)
    clear hR hall hlen htx hag hS
    go_enter Tryz.func6, Tryz.ntmps6
    go_wp2_with fail
    refine (CL.out _ st.out.L).mono ?_
    rintro ev w1 ⟨rfl, hB⟩
    have st1 := Lib.hid (st.out.next hB)
    clear hB
    go_wp2_with fail
    refine (C1.out _ st1.out.L).mono ?_
    rintro ev w2 ⟨v, rfl, T, hB⟩
    have st2 := Lib.hid (st1.out.next hB)
    obtain ⟨A0, c0, rfl, h0⟩ := toks_at T
    obtain ⟨g, rfl, -, -⟩ := h0.cells hl0
    have HT := Lib.hid h0
    clear hB T h0 C1
    go_wp2_with fail
    go_loopg [5, 6] l.length (fun m v5 v6 wr => ∃ (i : Nat) (t : ByteArray), v5 = .string t ∧ v6 = .int .i64 (i : Int) ∧ i + m = l.length ∧ t.size ≤ i * 8003 ∧ Hid (t = ⟨(joinL (l.take i)).toArray⟩) ∧ Hid (ToksAt wr (some ⟨g, 0, none⟩) l) ∧ Hid (Sq LayU w wr))
    case atStart => exact ⟨0, _, rfl, rfl, by omega, by decide, Lib.hid (by simp [joinL]), HT, st2⟩
    case round =>
      clear HT
      obtain ⟨i, t, rfl, rfl, hm, hts, HTT, HT, sw⟩ := hrel
      by_cases hi : i < l.length
      · have kl : decide ((i : Int) < (l.length : Int)) = true := by rw [decide_eq_true_iff]; omega
        obtain ⟨g', hg', hg, hc⟩ := HT.out.cells hl0
        obtain rfl : g = g' := by injection hg' with h; injection h
        obtain ⟨x0, x1, x2, x3⟩ := hc i hi
        have hz := HTX.out i hi
        have hstep := take_tok hi
        generalize htt : tokG l i = tk at *
        have CS := fun W => law_shown tk (by omega) W
        have hsz : (shownT tk).size ≤ 8002 := by have := shownL_len tk; show (shownL tk).length ≤ _; omega
        have HT2 : Hid (t ++ (shownT tk ++ ⟨#[32]⟩) = ⟨(joinL (l.take (i + 1))).toArray⟩) := Lib.hid (by
          rw [HTT.out, hstep, joinL_app]
          apply bytes_ext; simp only [data_app]; simp [shownT, joinL])
        generalize shownT tk = V at *
        obtain ⟨v0, v1, v2, v3⟩ := tk
        simp only [Tok.enc] at CS
        have CS := Lib.hid CS
        have h32 : (⟨#[32]⟩ : ByteArray).size = 1 := rfl
        clear hc hstep HTT hz htt
        go_wp2_with fail
        refine (CS.out _).mono ?_
        rintro ev w3 ⟨rfl, hB⟩
        have sw3 := Lib.hid (sw.out.next hB)
        have HT3 := Lib.hid (HT.out.next hB)
        clear hB x0 x1 x2 x3 sw HT
        have hV2 : (V ++ ⟨#[32]⟩).size = V.size + 1 := by rw [ByteArray.size_append, h32]
        go_wp2_with fail
        go_roundg (gk - 1)
        case measure => omega
        case rel => exact ⟨i + 1, _, rfl, by go_num, by omega, by rw [ByteArray.size_append, hV2]; omega, HT2, HT3, sw3⟩
      · obtain rfl : i = l.length := by omega
        have kl : decide ((l.length : Int) < (l.length : Int)) = false := by simp
        obtain rfl : t = S := by rw [HTT.out, HSS.out, List.take_of_length_le (Nat.le_refl _)]
        clear HTT HSS HTX HJ
        by_cases h4 : 4000 < t.size
        · have k4 : decide ((4000 : Int) < (t.size : Int)) = true := by rw [decide_eq_true_iff]; omega
          have k4n : decide (4000 < t.size) = true := by rw [decide_eq_true_iff]; omega
          have hA := HAG.out.1 h4
          rw [hA] at CA
          have CA' : Hid (∀ W, LayU W → Calls Tryz.prog 11 #[.string t] W fun ev w' => ev = .returned (.tuple #[.slice none 0 0, encE (mkE 6)]) ∧ Below W.heap.size W w') := CA
          have C4 := fun W hW => both_Is (mkE 6) 6 (by decide) W hW
          rw [show isE (mkE 6) 6 = true by decide] at C4
          generalize encE (mkE 6) = E at *
          have C4 := Lib.hid C4
          clear hA CA HAG h4
          go_wp2_with fail
          refine (CA'.out _ sw.out.L).mono ?_
          rintro ev w3 ⟨rfl, hB⟩
          have sw3 := Lib.hid (sw.out.next hB)
          clear hB
          go_wp2_with fail
          refine (C4.out _ sw3.out.L.S.L.hg).mono ?_
          rintro ev w4 ⟨rfl, hB⟩
          have sw4 := Lib.hid (sw3.out.next hB)
          clear hB
          go_wp2_with fail
          go_ret
          exact ⟨rfl, sw4.out.B⟩
        · have k4 : decide ((4000 : Int) < (t.size : Int)) = false := by rw [decide_eq_false_iff_not]; omega
          have k4n : decide (4000 < t.size) = false := by rw [decide_eq_false_iff_not]; omega
          obtain ⟨l', hA, hll', hcore⟩ := HAG.out.2 h4
          rw [hA] at CA
          have HCO := Lib.hid hcore
          clear hA hcore HAG h4
          go_wp2_with fail
          refine (CA.out _ sw.out.L).mono ?_
          rintro ev w3 ⟨v, rfl, T, hB⟩
          have sw3 := Lib.hid (sw.out.next hB)
          have HT3 := Lib.hid (HT.out.next hB)
          obtain ⟨A1, c1, rfl, h1⟩ := toks_at T
          obtain ⟨g1, rfl, -, -⟩ := h1.cells (by omega)
          have H1 := Lib.hid h1
          clear hB T h1 sw HT CA
          rw [hll']
          have hl1 : ((l.length : Int) != (l.length : Int)) = false := by simp
          go_wp2_with fail
          go_loopg [8] l.length (fun m v8 wr2 => ∃ i : Nat, v8 = .int .i64 (i : Int) ∧ i + m = l.length ∧ Hid (ToksAt wr2 (some ⟨g, 0, none⟩) l) ∧ Hid (ToksAt wr2 (some ⟨g1, 0, none⟩) l') ∧ Hid (Sq LayU w wr2))
          case atStart => exact ⟨0, rfl, by omega, HT3, H1, sw3⟩
          case round =>
            clear HT3 H1 sw3
            obtain ⟨i, rfl, hm2, HT3, H1, sw3⟩ := hrel
            by_cases hi2 : i < l.length
            · have kl2 : decide ((i : Int) < (l.length : Int)) = true := by rw [decide_eq_true_iff]; omega
              obtain ⟨g', hg', hg, hc⟩ := HT3.out.cells hl0
              obtain rfl : g = g' := by injection hg' with h; injection h
              obtain ⟨x0, x1, x2, x3⟩ := hc i hi2
              obtain ⟨g'', hg'', hg2, hc2⟩ := H1.out.cells (by omega)
              obtain rfl : g1 = g'' := by injection hg'' with h; injection h
              obtain ⟨y0, y1, y2, y3⟩ := hc2 i (by omega)
              obtain ⟨e0, e1, e2⟩ := core_at HCO.out i hi2
              rw [e0] at y0
              rw [e1] at y1
              rw [e2] at y2
              clear hc hc2 e0 e1 e2 x3 y3
              generalize (tokG l i).kind = z0 at *
              generalize (tokG l i).text = z1 at *
              generalize (tokG l i).n = z2 at *
              have hz0 : (z0 != z0) = false := by simp
              have hz2 : (z2 != z2) = false := by simp
              go_upto_region 19 with (fail)
              go_quiet (fail)
              have sw4 := Lib.hid (sw3.out.next (below_drewN (Below.refl _ _) nq))
              have HT4 := Lib.hid (HT3.out.next (below_drewN (Below.refl _ _) nq))
              have H4 := Lib.hid (H1.out.next (below_drewN (Below.refl _ _) nq))
              clear x0 x1 x2 y0 y1 y2 sw3 HT3 H1
              go_wp2_with fail
              go_roundg (gk - 1)
              case measure => omega
              case rel => exact ⟨i + 1, by go_num, by omega, HT4, H4, sw4⟩
            · have kl2 : decide ((i : Int) < (l.length : Int)) = false := by rw [decide_eq_false_iff_not]; omega
              go_wp2_with fail
              go_ret
              exact ⟨rfl, sw3.out.B⟩
  · have hc := allP_code hR.symm
    obtain ⟨tp, tv, hE⟩ := nErr_iface (p := p) hc
    have C1' : ∀ W, LayU W → Calls Tryz.prog 11 #[.string s] W fun ev w' => ev = .returned (.tuple #[.slice none 0 0, .iface tp tv]) ∧ Below W.heap.size W w' := by rw [← hE]; exact C1
    have C1 := Lib.hid C1'
    clear C1' hE hc hR
    go_enter Tryz.func6, Tryz.ntmps6
    go_wp2_with fail
    refine (CL.out _ st.out.L).mono ?_
    rintro ev w1 ⟨rfl, hB⟩
    have st1 := Lib.hid (st.out.next hB)
    clear hB
    go_wp2_with fail
    refine (C1.out _ st1.out.L).mono ?_
    rintro ev w2 ⟨rfl, hB⟩
    have st2 := Lib.hid (st1.out.next hB)
    clear hB
    go_wp2_with fail
    go_ret
    exact ⟨rfl, st2.out.B⟩
end Go.Proofs.YtmooibnedokllaaGreatDoor
