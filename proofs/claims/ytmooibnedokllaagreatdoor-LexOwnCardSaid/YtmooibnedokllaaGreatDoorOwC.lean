/- LexOwn: lists that were told, kept in a book. LexOwn is true. -/
import Derived.Test.YtmooibnedokllaaGreatDoorOw5
import Derived.Test.YtmooibnedokllaaGreatDoorLlv
import Derived.Test.YtmooibnedokllaaGreatDoorLlw
namespace Go.Proofs.YtmooibnedokllaaGreatDoor
open Go.RowKit
set_option linter.unusedSimpArgs false
set_option linter.unusedVariables false
section

/-- All, whatever it tells: a list in memory of its own. -/
theorem lex_All_any (s : ByteArray) (w : World) (hL : LayU w) :
    Calls Tryz.prog 11 #[.string s] w fun ev w' => ∃ ao n cap E f, ev = .returned (.tuple #[.slice ao n cap, E]) ∧ n ≤ 5000 ∧ Tk w.heap.size (.slice ao n cap) n f w' ∧ Below w.heap.size w w' := by
  refine (lex_All s w hL).mono fun ev w' h => ?_
  have hlen : ∀ l, allP s = .inl l → l.length ≤ 4001 := fun l h => by
    unfold allP at h
    split at h
    · cases h
    · have := allN_length s _ _ _ h; omega
  generalize allP s = R at *
  rcases R with l | x
  · obtain ⟨v, rfl, hT, hB⟩ := h
    have hk := Tk.of hT
    obtain ⟨ao, cap, rfl⟩ := hk.form
    exact ⟨ao, l.length, cap, _, _, rfl, by have := hlen l rfl; omega, hk, hB⟩
  · obtain ⟨rfl, hB⟩ := h
    exact ⟨none, 0, 0, _, fun _ => Tok.zero, rfl, by omega, .inl ⟨rfl, rfl⟩, hB⟩
def vAt (xs : List Value) (j : Nat) : Value := xs.getD j nilV
/-- The book holds the lists xs; the lists ps wait. -/
structure Hd (B b : Nat) (xs ps : List Value) (w : World) : Prop where
  t : ∃ tv, w.heap[b]? = some (bookO tv) ∧ w.ownsRow B tToks 1 tv xs.length xs
  l : ∃ (ns : Nat → Nat) (fs : Nat → Nat → Tok), ∀ j, j < (xs ++ ps).length → Tk B (vAt (xs ++ ps) j) (ns j) (fs j) w ∧ ns j ≤ 5000
  d : ∀ j, j < (xs ++ ps).length → ∀ k, k < (xs ++ ps).length → j ≠ k → ∀ g, (vAt (xs ++ ps) j).ownBlock = some g → (vAt (xs ++ ps) k).ownBlock ≠ some g
  hb : B ≤ b
  hw : B ≤ w.heap.size
variable {B b : Nat} {xs ps : List Value} {w w' : World}
theorem Hd.start (w : World) : Hd w.heap.size w.heap.size [] [] (w.alloc (bookO nilV)) :=
  ⟨⟨nilV, heap_alloc_new w _, World.ownsRow_nil ..⟩, ⟨fun _ => 0, fun _ _ => Tok.zero, fun j hj => absurd hj (Nat.not_lt_zero _)⟩, fun j hj => absurd hj (Nat.not_lt_zero _), Nat.le_refl _, by simp⟩
theorem Hd.next (h : Hd B b xs ps w) (hB : Below w.heap.size w w') : Hd B b xs ps w' := by
  obtain ⟨tv, h1, h2⟩ := h.t
  obtain ⟨ns, fs, h3⟩ := h.l
  exact ⟨⟨tv, below_blk hB (blk_lt' h1) h1, h2.kept (grown_of_below hB (Nat.le_refl _) none) (by cases hv : tv.ownBlock <;> simp)⟩, ⟨ns, fs, fun j hj => ⟨(h3 j hj).1.next hB, (h3 j hj).2⟩⟩, h.d, h.hb, Nat.le_trans h.hw hB.size⟩
theorem vAt_old {l : List Value} {v : Value} {j : Nat} (h : j < l.length) : vAt (l ++ [v]) j = vAt l j := by
  unfold vAt; rw [List.getD, List.getD, List.getElem?_append_left h]
theorem vAt_new {l : List Value} {v : Value} : vAt (l ++ [v]) l.length = v := by
  unfold vAt; rw [List.getD, List.getElem?_append_right (Nat.le_refl _), Nat.sub_self]; rfl
/-- A new list. -/
theorem Hd.new {v : Value} {n : Nat} {f : Nat → Tok} (h : Hd B b xs ps w) (hB : Below w.heap.size w w') (hn : n ≤ 5000) (ht : Tk w.heap.size v n f w') : Hd B b xs (ps ++ [v]) w' := by
  have h' := h.next hB
  obtain ⟨ns0, fs0, h30⟩ := h.l
  obtain ⟨ns, fs, h3⟩ := h'.l
  have hl : ((xs ++ ps) ++ [v]).length = (xs ++ ps).length + 1 := by simp only [List.length_append, List.length_cons, List.length_nil]
  have ha : xs ++ (ps ++ [v]) = (xs ++ ps) ++ [v] := by simp
  refine ⟨h'.t, ⟨fun j => if j = (xs ++ ps).length then n else ns j, fun j => if j = (xs ++ ps).length then f else fs j, fun j hj => ?_⟩, fun j hj k hk hne g hg e => ?_, h.hb, h'.hw⟩
  · rw [ha] at hj ⊢
    rw [hl] at hj
    by_cases e : j = (xs ++ ps).length
    · subst e
      rw [vAt_new]
      simp only [if_pos]
      exact ⟨ht.mono h.hw, hn⟩
    · rw [vAt_old (by omega)]
      simp only [if_neg e]
      exact h3 j (by omega)
  · rw [ha] at hj hk hg e
    rw [hl] at hj hk
    by_cases e1 : j = (xs ++ ps).length
    · subst e1
      rw [vAt_new] at hg
      rw [vAt_old (by omega)] at e
      have := (ht.lt hg).1
      have := ((h30 k (by omega)).1.lt e).2
      omega
    · rw [vAt_old (by omega)] at hg
      by_cases e2 : k = (xs ++ ps).length
      · subst e2
        rw [vAt_new] at e
        have := (ht.lt e).1
        have := ((h30 j (by omega)).1.lt hg).2
        omega
      · rw [vAt_old (by omega)] at e
        exact h.d j (by omega) k (by omega) hne g hg e
/-- A list is taken. -/
theorem Hd.take {v tv tv' : Value} {w1 : World} (h : Hd B b xs (v :: ps) w) (h1 : w.heap[b]? = some (bookO tv)) (hr : w.ownsRow B tToks 1 tv xs.length xs) (hb : w'.heap[b]? = some (bookO tv')) (ho : w'.ownsRow B tToks 1 tv' (xs.length + 1) (xs ++ [v])) (g1 : w.grownBy w1 tv.ownBlock) (g2 : w1.grownBy w' (some b)) : Hd B b (xs ++ [v]) ps w' := by
  obtain ⟨ns, fs, h3⟩ := h.l
  have ha : (xs ++ [v]) ++ ps = xs ++ (v :: ps) := by simp
  have ht : ∀ {v n f}, Tk B v n f w → Tk B v n f w' := fun {v n f} ht => by
    have k1 : Tk B v n f w1 := ht.grow g1 (fun g hv => by
      obtain ⟨C, hC⟩ := ht.type hv
      exact own_apart' hr hC (by decide))
    refine k1.grow g2 (fun g hv e => ?_)
    have e := Option.some.inj e
    subst e
    obtain ⟨C, hC⟩ := ht.type hv
    rw [h1] at hC
    simp only [Option.some.injEq, Obj.cells.injEq] at hC
    exact absurd hC.2.1 (by decide)
  refine ⟨⟨tv', hb, by simpa using ho⟩, ⟨ns, fs, fun j hj => ?_⟩, fun j hj k hk => ?_, h.hb, Nat.le_trans h.hw (Nat.le_trans g1.size g2.size)⟩
  · rw [ha] at hj ⊢
    exact ⟨ht (h3 j hj).1, (h3 j hj).2⟩
  · rw [ha] at hj hk ⊢
    exact h.d j hj k hk
/-- The book stands alone. -/
theorem Hd.alone (h : Hd B b xs [] w) (hx0 : 0 < xs.length) (hx : xs.length ≤ 20) :
    Calls Tryz.prog 26 #[.pointer (some ⟨b, 0, none⟩)] w fun e w' => e = .returned (.bool true) ∧ Below B w w' := by
  obtain ⟨tv, h1, h2⟩ := h.t
  obtain ⟨ns, fs, h3⟩ := h.l
  have hd := h.d
  rw [List.append_nil] at h3 hd
  rcases h2.2 with ⟨_, h0⟩ | ⟨rg, rc, cur, rfl, hbg, hr, hnc, hcm, hcs, htk⟩
  · omega
  have hat : ∀ j, j < xs.length → cur[j]? = some (vAt xs j) := fun j hj => by
    have e : xs[j]? = cur.toList[j]? := by rw [← htk, List.getElem?_take, if_pos (by omega)]
    rw [← Array.getElem?_toList, ← e, List.getElem?_eq_getElem hj]
    unfold vAt
    rw [List.getD, List.getElem?_eq_getElem hj]; rfl
  let x : Bx := ⟨B, w, b, rg, xs.length, bookO (.slice (some ⟨rg, 0, none⟩) xs.length rc), .cells cur tToks (0, 0), vAt xs, ns⟩
  have hg : x.Good := ⟨fun C e => by
      have e2 : (78 : TypeId) = tTok := by injection e
      exact absurd e2 (by decide), fun C e => by
      have e2 : tToks = tTok := by injection e
      exact absurd e2 (by decide), blk_lt' h1, blk_lt' hr, h.hw, fun j hj k hk => hd j hj k hk, fun j hj => (h3 j hj).2⟩
  exact book_Alone x hg fs rc hx hx0 rfl h.hb (fun W hW j hj => by rw [blk_cell' hW]; exact hat j hj) (fun j hj => (h3 j hj).1) h1 hr
end
section

def outL : AllR → List Tok
  | .inl l => l
  | .inr _ => []
def outE : AllR → Option Er
  | .inl _ => none
  | .inr x => nErr (.inr x)
def outB : AllR → Bad
  | .inl _ => Bad.nil
  | .inr x => nBad (.inr x)
theorem out_all {w w' : World} {R : AllR} {ev : Ending} (h : AllPost w R ev w') : ∃ A c, ev = .returned (.tuple #[.slice A (outL R).length c, encE (outE R)]) ∧ ToksAt w' A (outL R) ∧ Below w.heap.size w w' := by
  rcases R with l | x
  · obtain ⟨v, rfl, hT, hB⟩ := h
    obtain ⟨A, c, rfl, ht⟩ := toks_at hT
    exact ⟨A, c, rfl, ht, hB⟩
  · obtain ⟨rfl, hB⟩ := h
    exact ⟨none, 0, rfl, toks_none _, hB⟩
theorem out_ref {w w' : World} {R : AllR} {ev : Ending} (h : RefAll w R ev w') : ∃ A c, ev = .returned (.tuple #[.slice A (outL R).length c, (outB R).enc]) ∧ ToksAt w' A (outL R) ∧ Below w.heap.size w w' := by
  rcases R with l | x
  · obtain ⟨v, rfl, hT, hB⟩ := h
    obtain ⟨A, c, rfl, ht⟩ := toks_at hT
    exact ⟨A, c, rfl, ht, hB⟩
  · obtain ⟨rfl, hB⟩ := h
    exact ⟨none, 0, rfl, toks_none _, hB⟩
theorem out_same {s : ByteArray} {R : AllR} (h : allP s = R) : same (outE R) (outB R) = true := by
  rcases R with l | ⟨c, p⟩
  · rfl
  · exact same_next (fun c' p' e => by cases e; exact allP_code h)
theorem below_take {A B b : Nat} {w0 w w1 w' : World} {tv : Value} {xs : List Value} (h0 : Below A w0 w) (hA : A ≤ B) (hW : B ≤ w.heap.size) (hb : B ≤ b) (hr : w.ownsRow B tToks 1 tv xs.length xs) (g1 : w.grownBy w1 tv.ownBlock) (g2 : w1.grownBy w' (some b)) : Below A w0 w' :=
  h0.trans ((below_of_grown g1 (fun j e => Nat.le_trans hA (hr.lt j e).1) (Nat.le_trans hA hW)).trans (below_of_grown g2 (fun j e => by cases e; exact Nat.le_trans hA hb) (Nat.le_trans hA (Nat.le_trans hW g1.size))))
set_option maxRecDepth 100000 in
set_option maxHeartbeats 2000000 in
theorem own_true (s t : ByteArray) (w : World) (hL : LayU w) :
    Calls Tryz.prog 9 #[.string s, .string t] w fun e w' => e = .returned (.bool true) ∧ Below w.heap.size w w' := by
  have CL := Lib.hid (fun W hW => lex_live W hW)
  have CA := Lib.hid (fun W hW => lex_All_any s W hW)
  have CT := Lib.hid (fun W hW => lex_All_any t W hW)
  obtain ⟨R, hR⟩ : ∃ R, allP s = R := ⟨_, rfl⟩
  have C1 : Hid (∀ W, LayU W → Calls Tryz.prog 11 #[.string s] W fun ev w' => ∃ A c, ev = .returned (.tuple #[.slice A (outL R).length c, encE (outE R)]) ∧ ToksAt w' A (outL R) ∧ Below W.heap.size W w') := Lib.hid (fun W hW => (lex_All s W hW).mono fun ev w' h => out_all (by rw [← hR]; exact h))
  have C2 : Hid (∀ W, LayS W → Calls Tryz.prog 21 #[.string s] W fun ev w' => ∃ A c, ev = .returned (.tuple #[.slice A (outL R).length c, (outB R).enc]) ∧ ToksAt w' A (outL R) ∧ Below W.heap.size W w') := Lib.hid (fun W hW => (r12_All s W hW).mono fun ev w' h => out_ref (by rw [← hR]; exact h))
  have CS := fun W hW => weirboth_Same (outE R) (outB R) W hW
  rw [out_same hR] at CS
  generalize encE (outE R) = E at *
  generalize outB R = bd at *
  obtain ⟨b0, b1, b2, b3, b4⟩ := bd
  simp only [Bad.enc] at C2 CS
  generalize outL R = l at *
  have CS := Lib.hid CS
  have C2' : Hid (∀ W, LayS W → Calls Tryz.prog 21 #[.string s] W fun ev w' => ∃ A c, ev = .returned (.tuple #[.slice A l.length c, .agg #[.int .i64 b0, .int .i64 b1, .int .i64 b2, .bool b3, .bool b4]]) ∧ ToksAt w' A l ∧ Below W.heap.size W w') := C2
  clear C2 hR
  have st := Lib.hid (Sq.start hL)
  go_enter Tryz.func9, Tryz.ntmps9
  go_wp2_with fail
  refine (CL.out _ st.out.L).mono ?_
  rintro ev w1 ⟨rfl, hB⟩
  have st1 := Lib.hid (st.out.next hB)
  clear hB
  have H0 : Hd w1.heap.size w1.heap.size [] [] (w1.alloc (.cells #[.slice none 0 0, .slice none 0 0, .slice none 0 0, .slice none 0 0, .slice none 0 0, .slice none 0 0, .slice none 0 0, .slice none 0 0, .slice none 0 0, .slice none 0 0, .slice none 0 0, .slice none 0 0, .slice none 0 0, .slice none 0 0, .slice none 0 0, .slice none 0 0, .slice none 0 0, .slice none 0 0, .slice none 0 0, .slice none 0 0, .slice none 0 0, .slice none 0 0, .slice none 0 0, .slice none 0 0, .slice none 0 0, .slice none 0 0, .slice none 0 0, .slice none 0 0] 78 (0, 0))) := Hd.start w1
  have st2 : Sq LayU w (w1.alloc (.cells #[.slice none 0 0, .slice none 0 0, .slice none 0 0, .slice none 0 0, .slice none 0 0, .slice none 0 0, .slice none 0 0, .slice none 0 0, .slice none 0 0, .slice none 0 0, .slice none 0 0, .slice none 0 0, .slice none 0 0, .slice none 0 0, .slice none 0 0, .slice none 0 0, .slice none 0 0, .slice none 0 0, .slice none 0 0, .slice none 0 0, .slice none 0 0, .slice none 0 0, .slice none 0 0, .slice none 0 0, .slice none 0 0, .slice none 0 0, .slice none 0 0, .slice none 0 0] 78 (0, 0))) := st1.out.next ((Below.refl _ _).alloc (Nat.le_refl _) _)
  have hBw : w.heap.size ≤ w1.heap.size := st1.out.B.size
  go_upto_block 0 with (fail)
  generalize w1.alloc (.cells #[.slice none 0 0, .slice none 0 0, .slice none 0 0, .slice none 0 0, .slice none 0 0, .slice none 0 0, .slice none 0 0, .slice none 0 0, .slice none 0 0, .slice none 0 0, .slice none 0 0, .slice none 0 0, .slice none 0 0, .slice none 0 0, .slice none 0 0, .slice none 0 0, .slice none 0 0, .slice none 0 0, .slice none 0 0, .slice none 0 0, .slice none 0 0, .slice none 0 0, .slice none 0 0, .slice none 0 0, .slice none 0 0, .slice none 0 0, .slice none 0 0, .slice none 0 0] 78 (0, 0)) = W0 at *
  generalize w1.heap.size = B at *
  have H0 := Lib.hid H0
  have st2 := Lib.hid st2
  clear st st1
  go_wp2_with fail
  go_loopg [6] 2 (fun gk v6 wr => ∃ (i : Nat) (xs : List Value), v6 = .int .i64 (i : Int) ∧ i + gk = 2 ∧ xs.length = 3 * i ∧ Hid (Hd B B xs [] wr) ∧ Hid (Sq LayU w wr))
  case atStart => exact ⟨0, [], rfl, rfl, rfl, H0, st2⟩
  case round =>
    clear H0 st2
    obtain ⟨i, xs, rfl, hi, hxs, H, sq⟩ := hrel
    by_cases hi2 : i < 2
    · have kl : decide ((i : Int) < (2 : Int)) = true := by rw [decide_eq_true_iff]; omega
      go_wp2_with fail
      refine (CA.out _ sq.out.L).mono ?_
      rintro ev wa ⟨ao, na, ca, Ea, fa, rfl, hna, hta, hB⟩
      have Ha : Hid (Hd B B xs [.slice ao na ca] wa) := Lib.hid (H.out.new hB hna hta)
      have sa := Lib.hid (sq.out.next hB)
      clear hB hta H sq
      go_wp2_with fail
      refine (CA.out _ sa.out.L).mono ?_
      rintro ev wb ⟨bo, nb, cb, Eb, fb, rfl, hnb, htb, hB⟩
      have Hb : Hid (Hd B B xs [.slice ao na ca, .slice bo nb cb] wb) := Lib.hid (Ha.out.new hB hnb htb)
      have sb := Lib.hid (sa.out.next hB)
      clear hB htb Ha sa
      go_wp2_with fail
      refine (CT.out _ sb.out.L).mono ?_
      rintro ev wc ⟨co, nc, cc, Ec, fc, rfl, hnc, htc, hB⟩
      have Hc : Hid (Hd B B xs [.slice ao na ca, .slice bo nb cb, .slice co nc cc] wc) := Lib.hid (Hb.out.new hB hnc htc)
      have sc := Lib.hid (sb.out.next hB)
      clear hB htc Hb sb
      obtain ⟨tv, t1, t2⟩ := Hc.out.t
      have CK := Lib.hid (take_Tokens B B na ca ao tv xs wc t1 t2 Hc.out.hw (by omega))
      have T12 := Lib.hid (And.intro t1 t2)
      clear t1 t2
      go_wp2_with fail
      refine CK.out.mono ?_
      rintro ev wd ⟨rfl, tv1, wd1, k1, k2, k3, k4⟩
      have Hd1 := Hc.out.take T12.out.1 T12.out.2 k1 k2 k3 k4
      have sd := Lib.hid ((Sq.start hL).next (below_take sc.out.B hBw Hc.out.hw (Nat.le_refl _) T12.out.2 k3 k4))
      obtain ⟨tvx, t1, t2⟩ := Hd1.t
      have CK2 := Lib.hid (take_Tokens B B nb cb bo tvx _ wd t1 t2 Hd1.hw (by simp; omega))
      have T12b := Lib.hid (And.intro t1 t2)
      have HD1 := Lib.hid Hd1
      clear t1 t2 k1 k2 k3 k4 CK T12 Hc sc Hd1
      go_wp2_with fail
      refine CK2.out.mono ?_
      rintro ev we ⟨rfl, tv2, we1, k1, k2, k3, k4⟩
      have Hd2 := HD1.out.take T12b.out.1 T12b.out.2 k1 k2 k3 k4
      have se := Lib.hid ((Sq.start hL).next (below_take sd.out.B hBw HD1.out.hw (Nat.le_refl _) T12b.out.2 k3 k4))
      obtain ⟨tvy, t1, t2⟩ := Hd2.t
      have CK3 := Lib.hid (take_Tokens B B nc cc co tvy _ we t1 t2 Hd2.hw (by simp; omega))
      have T12c := Lib.hid (And.intro t1 t2)
      have HD2 := Lib.hid Hd2
      clear t1 t2 k1 k2 k3 k4 CK2 T12b HD1 sd Hd2
      go_wp2_with fail
      refine CK3.out.mono ?_
      rintro ev wf ⟨rfl, tv3, wf1, k1, k2, k3, k4⟩
      have HD3 := Lib.hid (HD2.out.take T12c.out.1 T12c.out.2 k1 k2 k3 k4)
      have sf := Lib.hid ((Sq.start hL).next (below_take se.out.B hBw HD2.out.hw (Nat.le_refl _) T12c.out.2 k3 k4))
      clear k1 k2 k3 k4 CK3 T12c HD2 se
      go_wp2_with fail
      go_roundg (gk - 1)
      case measure => omega
      case rel => exact ⟨i + 1, _, by go_num, by omega, by simp; omega, HD3, sf⟩
    · have kl : decide ((i : Int) < (2 : Int)) = false := by rw [decide_eq_false_iff_not]; omega
      have CB := Lib.hid (H.out.alone (by omega) (by omega))
      go_wp2_with fail
      refine CB.out.mono ?_
      rintro ev wg ⟨rfl, hB⟩
      have sg := Lib.hid ((Sq.start hL).next (sq.out.B.trans (hB.mono hBw)))
      clear hB CB H sq
      go_wp2_with fail
      refine (C1.out _ sg.out.L).mono ?_
      rintro ev w2 ⟨A0, c0, rfl, h0, hB⟩
      have s2 := Lib.hid (sg.out.next hB)
      have H0 := Lib.hid h0
      clear hB h0
      go_wp2_with fail
      refine (C2'.out _ s2.out.L.S).mono ?_
      rintro ev w3 ⟨A1, c1, rfl, h1, hB⟩
      have AB := (Below.refl w3.heap.size w3).alloc (Nat.le_refl _) (.cells #[.int .i64 b0, .int .i64 b1, .int .i64 b2, .bool b3, .bool b4] 40 (0, 0))
      have s3 := Lib.hid ((s2.out.next hB).next AB)
      have H0' := Lib.hid ((H0.out.next hB).next AB)
      have H1 := Lib.hid (h1.next AB)
      have q2 := heap_alloc_new w3 (.cells #[.int .i64 b0, .int .i64 b1, .int .i64 b2, .bool b3, .bool b4] 40 (0, 0))
      clear hB h1 AB H0
      go_upto_region 17 with (fail)
      generalize w3.alloc (.cells #[.int .i64 b0, .int .i64 b1, .int .i64 b2, .bool b3, .bool b4] 40 (0, 0)) = w4 at *
      generalize w3.heap.size = n3 at *
      have xk0 := blk_cell' (q2) 0
      have xf0 := blk_free' (q2) 0
      have xk1 := blk_cell' (q2) 1
      have xf1 := blk_free' (q2) 1
      have xk2 := blk_cell' (q2) 2
      have xf2 := blk_free' (q2) 2
      have xk3 := blk_cell' (q2) 3
      have xf3 := blk_free' (q2) 3
      have xk4 := blk_cell' (q2) 4
      have xf4 := blk_free' (q2) 4
      clear q2
      go_wp2_with fail
      refine (CS.out _ s3.out.L.S.L.hg).mono ?_
      rintro ev w5 ⟨rfl, hB⟩
      have s4 := Lib.hid (s3.out.next hB)
      have CX := Lib.hid (SameTokens_eq A0 A1 c0 c1 l w5 (H0'.out.next hB) (H1.out.next hB))
      clear hB
      go_wp2_with fail
      refine CX.out.mono ?_
      rintro ev w6 ⟨rfl, m, rfl⟩
      go_wp2_with fail
      go_ret
      exact ⟨rfl, below_drewN s4.out.B m⟩
end
end Go.Proofs.YtmooibnedokllaaGreatDoor
