/- Lists of tokens in memory. weirmem.SameTokens: two lists that hold the same are the same. Package lex: All. The reference of package lex: All. -/
import Derived.Test.YtmooibnedokllaaGreatDoorLxa
import Derived.Test.YtmooibnedokllaaGreatDoorLexP
import Derived.Lib.SmallJoins
import Derived.Laws.StructEq
import Derived.Deep.LoopGhost
import Derived.Deep.QuietTactic
import Derived.BigQuiet
import Derived.LoopTactic
import Derived.Test.YtmooibnedokllaaGreatDoorStEq
import Derived.Test.YtmooibnedokllaaGreatDoorLx9
import Derived.Test.YtmooibnedokllaaGreatDoorLx5
namespace Go.Proofs.YtmooibnedokllaaGreatDoor
open Go.RowKit
set_option linter.unusedSimpArgs false
set_option linter.unusedVariables false
section

def tokCells (l : List Tok) : List Value := l.flatMap fun t => [.int .u8 t.kind, .string t.text, .int .i64 t.n, .int .i64 t.pos]
theorem tokCells_snoc (l : List Tok) (t : Tok) : tokCells (l ++ [t]) = tokCells l ++ [.int .u8 t.kind, .string t.text, .int .i64 t.n, .int .i64 t.pos] := by simp [tokCells]
abbrev tTok : TypeId := 30
/-- A list of tokens in memory: laid since there were B blocks. -/
abbrev ToksIn (B : Nat) (v : Value) (l : List Tok) (w : World) : Prop := w.ownsRow B tTok 4 v l.length (tokCells l)
theorem info_K : (Tryz.prog.info? 30).map (fun i => (i.zero, i.size, i.bytes)) = some (some (.agg #[.int .u8 0, .string ⟨#[]⟩, .int .i64 0, .int .i64 0]), 4, 40) := by kernel_rfl
theorem new_four (w : World) (x y z u : Value) (T : TypeId) (n : Nat) (h : n = w.heap.size) : ∀ j v, ([x, y, z, u] : List Value)[j]? = some v → (w.alloc (.cells #[x, y, z, u] T)).cell? ((⟨n, 0, none⟩ : Addr).add j) = some v := by
  intro j v hj
  have hb := heap_new' w (.cells #[x, y, z, u] T) n h
  match j, hj with
  | 0, hj => simp at hj; subst hj; exact blk_cell' hb 0
  | 1, hj => simp at hj; subst hj; exact blk_cell' hb 1
  | 2, hj => simp at hj; subst hj; exact blk_cell' hb 2
  | 3, hj => simp at hj; subst hj; exact blk_cell' hb 3
theorem add_off (g j : Nat) : (⟨g, 0, none⟩ : Addr).add j = ⟨g, j, none⟩ := by unfold Addr.add; split <;> simp_all
def tokG (l : List Tok) (j : Nat) : Tok := l.getD j Tok.zero
/-- A slice of tokens that reads as a list. -/
structure ToksAt (w : World) (A : Option Addr) (l : List Tok) : Prop where
  le : l.length ≤ 9223372036854775807
  cells : 0 < l.length → ∃ g : Nat, A = some ⟨g, 0, none⟩ ∧ g < w.heap.size ∧ ∀ j, j < l.length →
    w.cell? ⟨g, j * 4, none⟩ = some (.int .u8 (tokG l j).kind) ∧ w.cell? ⟨g, j * 4 + 1, none⟩ = some (.string (tokG l j).text) ∧
    w.cell? ⟨g, j * 4 + 2, none⟩ = some (.int .i64 (tokG l j).n) ∧ w.cell? ⟨g, j * 4 + 3, none⟩ = some (.int .i64 (tokG l j).pos)
theorem ToksAt.next {w w' : World} {A : Option Addr} {l : List Tok} (h : ToksAt w A l) (hB : Below w.heap.size w w') : ToksAt w' A l :=
  ⟨h.le, fun hn => by
    obtain ⟨g, e, hg, hc⟩ := h.cells hn
    exact ⟨g, e, Nat.lt_of_lt_of_le hg hB.size, fun j hj => ⟨(hB.cell hg).trans (hc j hj).1, (hB.cell hg).trans (hc j hj).2.1, (hB.cell hg).trans (hc j hj).2.2.1, (hB.cell hg).trans (hc j hj).2.2.2⟩⟩⟩
theorem toks_at {B : Nat} {v : Value} {l : List Tok} {w : World} (h : ToksIn B v l w) : ∃ A c, v = .slice A l.length c ∧ ToksAt w A l := by
  have hl : ∀ j, j < l.length → (tokCells l)[j * 4]? = some (.int .u8 (tokG l j).kind) ∧ (tokCells l)[j * 4 + 1]? = some (.string (tokG l j).text) ∧ (tokCells l)[j * 4 + 2]? = some (.int .i64 (tokG l j).n) ∧ (tokCells l)[j * 4 + 3]? = some (.int .i64 (tokG l j).pos) := by
    clear h
    induction l with
    | nil => intro j hj; simp at hj
    | cons t r ih =>
      intro j hj
      cases j with
      | zero => simp [tokCells, tokG]
      | succ j =>
        have := ih j (by simpa using hj)
        have e : tokCells (t :: r) = .int .u8 t.kind :: .string t.text :: .int .i64 t.n :: .int .i64 t.pos :: tokCells r := by simp [tokCells]
        rw [e, show (j + 1) * 4 = j * 4 + 1 + 1 + 1 + 1 from by omega]
        simpa [tokG] using this
  have hle : l.length ≤ 9223372036854775807 := by
    rcases h.2 with ⟨_, h0⟩ | ⟨g, cap, cur, _, _, _, h1, h2, _⟩
    · omega
    · unfold maxLen at h2; omega
  rcases h.2 with ⟨hv, h0⟩ | ⟨g, cap, cur, hv, hb, hg, _⟩
  · exact ⟨none, 0, by rw [hv, h0], hle, fun hp => by omega⟩
  · refine ⟨_, _, hv, hle, fun _ => ⟨g, rfl, blk_lt' hg, fun j hj => ?_⟩⟩
    have c1 := h.cells (g := g) (by rw [hv]; rfl) (j * 4) _ (hl j hj).1
    have c2 := h.cells (g := g) (by rw [hv]; rfl) (j * 4 + 1) _ (hl j hj).2.1
    have c3 := h.cells (g := g) (by rw [hv]; rfl) (j * 4 + 2) _ (hl j hj).2.2.1
    have c4 := h.cells (g := g) (by rw [hv]; rfl) (j * 4 + 3) _ (hl j hj).2.2.2
    rw [add_off] at c1 c2 c3 c4
    exact ⟨c1, c2, c3, c4⟩
end
section

theorem eq_tok (d : Nat) (w : World) (x0 x2 x3 : Int) (x1 : ByteArray) :
    (Op.equalIn (d + 2) 30 (.agg #[.int .u8 x0, .string x1, .int .i64 x2, .int .i64 x3]) (.agg #[.int .u8 x0, .string x1, .int .i64 x2, .int .i64 x3])).run Tryz.prog w = .ok true w := by
  have h : (Op.equalIn (d + 2) 30 (.agg #[.int .u8 x0, .string x1, .int .i64 x2, .int .i64 x3]) (.agg #[.int .u8 x0, .string x1, .int .i64 x2, .int .i64 x3])).run Tryz.prog w = .ok (x0 == x0 && (x1.toList == x1.toList && (x2 == x2 && (x3 == x3)))) w := by
    refine st_eq Tryz.underlying30 (by kernel_rfl) ?_
    refine st_cons (by rfl) (by go_simp; rfl) (by go_simp; rfl) (by go_simp) ?_
    refine st_cons (by rfl) (by go_simp; rfl) (by go_simp; rfl) (by go_simp) ?_
    refine st_cons (by rfl) (by go_simp; rfl) (by go_simp; rfl) (by go_simp) ?_
    exact st_last (by rfl) (by go_simp; rfl) (by go_simp; rfl) (by go_simp)
  simpa using h
attribute [local go_sem high] eq_tok
set_option maxRecDepth 100000 in
set_option maxHeartbeats 1000000 in
theorem SameTokens_eq (A0 A1 : Option Addr) (c0 c1 : Nat) (l : List Tok) (w : World) (h0 : ToksAt w A0 l) (h1 : ToksAt w A1 l) :
    Calls Tryz.prog 23 #[.slice A0 l.length c0, .slice A1 l.length c1] w fun e w' => e = .returned (.bool true) ∧ ∃ m, w' = w.drewN m := by
  have hu := Tryz.underlying30
  have hle := h0.le
  have H0 := Lib.hid h0
  have H1 := Lib.hid h1
  clear h0 h1
  obtain ⟨n, hn⟩ : ∃ n, n = l.length := ⟨_, rfl⟩
  rw [← hn] at hle ⊢
  have HN := Lib.hid hn
  clear hn
  go_enter Tryz.func23, Tryz.ntmps23
  go_wp2
  go_loopg [5] n (fun g v5 wr => ∃ i m : Nat, v5 = .int .i64 i ∧ i + g = n ∧ wr = w.drewN m)
  case atStart => exact ⟨0, 0, rfl, by omega, rfl⟩
  case round =>
    obtain ⟨i, m, rfl, hn, rfl⟩ := hrel
    by_cases hi : i < n
    · obtain ⟨a0, rfl, g0, c0⟩ := H0.out.cells (by rw [← HN.out]; omega)
      obtain ⟨a1, rfl, g1, c1⟩ := H1.out.cells (by rw [← HN.out]; omega)
      obtain ⟨x0, x1, x2, x3⟩ := c0 i (by rw [← HN.out]; exact hi)
      obtain ⟨y0, y1, y2, y3⟩ := c1 i (by rw [← HN.out]; exact hi)
      clear c0 c1
      generalize (tokG l i).kind = z0 at *
      generalize (tokG l i).text = z1 at *
      generalize (tokG l i).n = z2 at *
      generalize (tokG l i).pos = z3 at *
      have p0 : (0 : Int) ≤ (i : Int) := by omega
      have p1 : (i : Int) < (n : Int) := by omega
      go_wp2
      go_quiet (fail)
      go_wp2
      go_roundg (gk - 1)
      case measure => omega
      case rel => exact ⟨i + 1, _, rfl, by omega, by first | rfl | exact World.drewN_drewN ..⟩
    · go_wp2
      go_ret
      exact ⟨rfl, _, rfl⟩
end
section

/-- What All tells: the tokens, in memory of their own; or the error. -/
def AllPost (w0 : World) (r : AllR) (ev : Ending) (w' : World) : Prop :=
  match r with
  | .inl l => ∃ v, ev = .returned (.tuple #[v, .nilIface]) ∧ ToksIn w0.heap.size v l w' ∧ Below w0.heap.size w0 w'
  | .inr x => ev = .returned (.tuple #[.slice none 0 0, encE (nErr (.inr x))]) ∧ Below w0.heap.size w0 w'
theorem toks_below {B : Nat} {v : Value} {l : List Tok} {w w' : World} (h : ToksIn B v l w) (hB : Below w.heap.size w w') : ToksIn B v l w' :=
  h.kept (grown_of_below hB (Nat.le_refl _) none) (by cases hv : v.ownBlock <;> simp)
theorem nErr_iface {c : Int} {p : Option Nat} (h : ¬ c = 0) : ∃ t v, encE (nErr (.inr (c, p))) = .iface t v := by
  cases p with
  | none =>
    show ∃ t v, encE (mkE c) = .iface t v
    rw [show mkE c = some (.code c) by simp [mkE, h]]
    exact (Er.code c).enc_iface
  | some p =>
    show ∃ t v, encE (mkAt (p : Int) c) = .iface t v
    rw [show mkAt (p : Int) c = some (.at_ p (.code c)) by simp [mkAt, h]]
    exact (Er.at_ (p : Int) (.code c)).enc_iface
set_option maxRecDepth 100000 in
set_option maxHeartbeats 2000000 in
theorem lex_All (s : ByteArray) (w : World) (hL : LayU w) :
    Calls Tryz.prog 11 #[.string s] w (AllPost w (allP s)) := by
  obtain ⟨P, hP⟩ : ∃ P, P = AllPost w (allP s) := ⟨_, rfl⟩
  rw [← hP]
  have HP := Lib.hid hP
  clear hP
  by_cases h0 : 4000 < s.size
  · have k : decide ((4000 : Int) < (s.size : Int)) = true := by rw [decide_eq_true_iff]; omega
    have kn : decide (4000 < s.size) = true := by rw [decide_eq_true_iff]; omega
    have N := Lib.hid (fun W => fault_New 6 W)
    obtain ⟨V, hV⟩ : ∃ V, V = encE (mkE 6) := ⟨_, rfl⟩
    rw [← hV] at N
    have HV := Lib.hid hV
    clear hV
    go_enter Tryz.func11, Tryz.ntmps11
    go_wp2_with fail
    refine (N.out _).mono ?_
    rintro ev w' ⟨rfl, rfl⟩
    go_wp2_with fail
    rw [HP.out, show allP s = .inr (6, none) from if_pos h0, HV.out]
    exact ⟨rfl, Below.refl _ _⟩
  · have k : decide ((4000 : Int) < (s.size : Int)) = false := by rw [decide_eq_false_iff_not]; omega
    have kn : decide (4000 < s.size) = false := by rw [decide_eq_false_iff_not]; omega
    have HA : Hid (allP s = allN s (s.size + 1) 0) := Lib.hid (if_neg h0)
    have hs : s.size ≤ 4000 := by omega
    clear h0
    go_enter Tryz.func11, Tryz.ntmps11
    go_wp2_with fail
    go_loopg [4, 5] (s.size + 1) (fun m v4 v5 wr => ∃ (a : Nat) (acc : List Tok) (tv : Value), tv = v4 ∧ v5 = .int .i64 (a : Int) ∧ a ≤ s.size ∧ s.size + 1 ≤ m + a ∧ acc.length ≤ a ∧ Hid (allP s = combA acc (allN s m a)) ∧ Hid (ToksIn w.heap.size tv acc wr) ∧ Hid (Below w.heap.size w wr))
    case atStart => exact ⟨0, [], _, rfl, rfl, by omega, by omega, by simp, Lib.hid (by rw [HA.out, combA_nil]), Lib.hid (World.ownsRow_nil ..), Lib.hid (Below.refl _ _)⟩
    case round =>
      obtain ⟨a, acc, tv, rfl, rfl, ha, hm, hal, HK, HT, HB⟩ := hrel
      obtain ⟨m, rfl⟩ : ∃ m, gk = m + 1 := ⟨gk - 1, by omega⟩
      have N := fun W hW => lex_Next s (a : Int) (by omega) W hW
      obtain ⟨R, hR⟩ : ∃ R, R = nextP s (a : Int) := ⟨_, rfl⟩
      rw [← hR] at N
      rcases R with ⟨t, e⟩ | ⟨c, p⟩
      · have hf := next_places ha hR.symm
        obtain ⟨p, f1, f2, f3, -, -, f6, f7, f8, f9⟩ := hf
        obtain ⟨v0, v1, v2, v3⟩ := t
        simp only [nTok, nEnd, nErr, encE, Tok.enc] at N
        have N := Lib.hid N
        obtain ⟨i0, hi, hz0_, hz1_, hz2_⟩ := info_parts info_K
        go_wp2_with fail
        refine (N.out _ (hL.below HB.out)).mono ?_
        rintro ev w1 ⟨rfl, hB⟩
        have T1 := toks_below HT.out hB
        have B1 := HB.out.trans (hB.mono HB.out.size)
        obtain rfl : v3 = (p : Int) := f1
        obtain ⟨tq, htq⟩ : ∃ o : Obj, o = .cells #[.int .u8 v0, .string v1, .int .i64 v2, .int .i64 (p : Int)] tTok (0, 0) := ⟨_, rfl⟩
        have T2 := toks_below (toks_below T1 ((Below.refl _ _).alloc (Nat.le_refl _) tq)) ((Below.refl _ _).alloc (Nat.le_refl _) tq)
        have B2 := (B1.alloc B1.size tq).alloc (by have := B1.size; simp; omega) tq
        have hqb : ((w1.alloc tq).alloc tq).heap[w1.heap.size]? = some tq := heap_old' _ _ _ (by simp) (heap_new' _ _ _ rfl)
        have hqn : Hid (tv.ownBlock ≠ some w1.heap.size) := Lib.hid (fun e => by have := (T1.lt _ e).2; omega)
        rw [htq] at T2 B2 hqb
        have HQB := Lib.hid hqb
        have HB2 := Lib.hid B2
        have HT2 := Lib.hid T2
        have hcl : acc.length + 1 ≤ 4001 := by omega
        clear hB HB HT T1 B1 N HB2 hqb htq
        go_wp2_with (at_builtin; refine wpList_append_own _ rfl _ _ 23 rfl w.heap.size tTok i0 (.agg #[.int .u8 0, .string ⟨#[]⟩, .int .i64 0, .int .i64 0]) 4 40 Tryz.underlying23 hi hz0_ hz1_ hz2_ rfl (by decide) _ _ _ rfl T2 ⟨_, 0, none⟩ 1 1 [.int .u8 v0, .string v1, .int .i64 v2, .int .i64 (p : Int)] rfl rfl ?c1 ?c2 ?c3 ?c4 ?c5 ?_)
        case c1 => exact new_four _ _ _ _ _ _ _ (by simp)
        case c2 => intro u hu; simp at hu; rcases hu with rfl | rfl | rfl | rfl <;> rfl
        case c3 => unfold maxLen; omega
        case c4 => omega
        case c5 => have := B2.size; simp at this ⊢; omega
        intro tv' w9 hown' hgrow _
        have T9 : Hid (ToksIn w.heap.size tv' (acc ++ [⟨v0, v1, v2, p⟩]) w9) := Lib.hid (by
          unfold ToksIn
          rw [tokCells_snoc, List.length_append]
          exact hown')
        have B9 := Lib.hid (B2.trans (below_of_grown hgrow (fun j e => (T2.lt j e).1) B2.size))
        have q9 := grown_blk hgrow HQB.out (fun e => hqn.out e.symm)
        obtain ⟨tg, tcap, rfl⟩ : ∃ g cap, tv' = .slice (some ⟨g, 0, none⟩) (acc.length + 1) cap := by
          rcases hown'.2 with ⟨_, h0⟩ | ⟨g, cap, cur, hv, _⟩
          · omega
          · exact ⟨g, cap, hv⟩
        have zk0 := blk_cell' (q9) 0
        have zf0 := blk_free' (q9) 0
        have zk1 := blk_cell' (q9) 1
        have zf1 := blk_free' (q9) 1
        have zk2 := blk_cell' (q9) 2
        have zf2 := blk_free' (q9) 2
        have zk3 := blk_cell' (q9) 3
        have zf3 := blk_free' (q9) 3
        clear hgrow hown' q9 HQB T2 B2 hqn
        by_cases hk : v0 = 0
        · subst hk
          have HK2 := Lib.hid (HK.out.trans (congrArg (combA acc) (allN_end hR.symm rfl)))
          clear HK HA hR
          go_wp2_with fail
          rw [HP.out, HK2.out]
          exact ⟨_, rfl, T9.out, B9.out⟩
        · have HK2 := Lib.hid (HK.out.trans ((congrArg (combA acc) (allN_go hR.symm hk)).trans (combA_combA _ _ _)))
          have hke : (v0 == 0) = false := by simpa using hk
          have hea : a < e := by have : ¬ e = p := fun h => hk (f8.1 h); omega
          clear HK HA hR f8 f9 hk
          go_wp2_with fail
          go_roundg m
          case measure => omega
          case rel => exact ⟨e, _, _, rfl, rfl, by omega, by omega, by simp; omega, HK2, T9, B9⟩
      · have hc := nextP_code hR.symm
        have HK2 := Lib.hid (HK.out.trans (congrArg (combA acc) (allN_err hR.symm)))
        simp only [nTok, nEnd, Tok.zero, Tok.enc] at N
        obtain ⟨tp, tv, hE⟩ := nErr_iface (p := p) hc
        rw [hE] at N
        have HE := Lib.hid hE
        have N := Lib.hid N
        clear HK HA hR hE hc
        go_wp2_with fail
        refine (N.out _ (hL.below HB.out)).mono ?_
        rintro ev w' ⟨rfl, hB⟩
        have hB2 := Lib.hid (HB.out.trans (hB.mono HB.out.size))
        clear hB HB HT
        go_wp2_with fail
        rw [HP.out, HK2.out]
        exact ⟨by rw [← HE.out]; rfl, hB2.out.alloc hB2.out.size _⟩
end
section

theorem grown_self' (w : World) (row : Option Nat) : w.grownBy w row := ⟨rfl, rfl, rfl, Nat.le_refl _, fun _ _ _ => rfl⟩
theorem toks_mono {B B' : Nat} {v : Value} {l : List Tok} {w : World} (h : ToksIn B v l w) (hb : B' ≤ B) : ToksIn B' v l w := by
  refine ⟨h.1, ?_⟩
  rcases h.2 with h0 | ⟨g, cap, cur, h1, h2, h3⟩
  · exact .inl h0
  · exact .inr ⟨g, cap, cur, h1, by omega, h3⟩
theorem toks_set {B b i : Nat} {v u : Value} {l : List Tok} {w : World} (h : ToksIn B v l w) (hb : b < B) : ToksIn B v l (w.setCell ⟨b, i, none⟩ u) :=
  h.kept (grown_set (grown_self' _ _) i u) (.inr (fun e => by have := (h.lt _ e).1; omega))
/-- What the reference's All tells. -/
def RefAll (w0 : World) (r : AllR) (ev : Ending) (w' : World) : Prop :=
  match r with
  | .inl l => ∃ v, ev = .returned (.tuple #[v, Bad.nil.enc]) ∧ ToksIn w0.heap.size v l w' ∧ Below w0.heap.size w0 w'
  | .inr x => ev = .returned (.tuple #[.slice none 0 0, (nBad (.inr x)).enc]) ∧ Below w0.heap.size w0 w'
set_option maxRecDepth 100000 in
set_option maxHeartbeats 2000000 in
theorem r12_All (s : ByteArray) (w : World) (hL : LayS w) :
    Calls Tryz.prog 21 #[.string s] w (RefAll w (allP s)) := by
  obtain ⟨P, hP⟩ : ∃ P, P = RefAll w (allP s) := ⟨_, rfl⟩
  rw [← hP]
  have HP := Lib.hid hP
  clear hP
  by_cases h0 : 4000 < s.size
  · have k : decide ((4000 : Int) < (s.size : Int)) = true := by rw [decide_eq_true_iff]; omega
    have kn : decide (4000 < s.size) = true := by rw [decide_eq_true_iff]; omega
    have N := Lib.hid (fun W => weirref01_New 6 W)
    go_enter Tryz.func21, Tryz.ntmps21
    go_wp2_with fail
    refine (N.out _).mono ?_
    rintro ev w1 ⟨rfl, hB⟩
    have m0 := below_blk hB (by simp) (heap_alloc_new w badOO)
    have hB0 := Lib.hid (((Below.refl w.heap.size w).alloc (Nat.le_refl _) badOO).trans (hB.mono (by simp)))
    simp only [refNew, Bad.enc]
    have HT := bad_blk m0 (.int .i64 6) (.int .i64 0) (.int .i64 0) (.bool false) (.bool false)
    have ck0 := blk_cell' (m0) 0
    have cf0 := blk_free' (m0) 0
    have ck1 := blk_cell' (m0) 1
    have cf1 := blk_free' (m0) 1
    have ck2 := blk_cell' (m0) 2
    have cf2 := blk_free' (m0) 2
    have ck3 := blk_cell' (m0) 3
    have cf3 := blk_free' (m0) 3
    have ck4 := blk_cell' (m0) 4
    have cf4 := blk_free' (m0) 4
    clear hB m0
    go_wp2
    refine bodyPost_ret (results_two Tryz.results21 (res_tmp rfl) (res_cell (T' := 40) (fr := (0, 0)) rfl HT Tryz.underlying40 rfl (by kernel_rfl))) rfl ?_
    rw [HP.out, show allP s = .inr (6, none) from if_pos h0]
    exact ⟨rfl, below_bad hB0.out (Nat.le_refl _) _ _ _ _ _⟩
  · have k : decide ((4000 : Int) < (s.size : Int)) = false := by rw [decide_eq_false_iff_not]; omega
    have kn : decide (4000 < s.size) = false := by rw [decide_eq_false_iff_not]; omega
    have HA : Hid (allP s = allN s (s.size + 1) 0) := Lib.hid (if_neg h0)
    have hs : s.size ≤ 4000 := by omega
    have M0 := heap_alloc_new w badOO
    have B0 := (Below.refl w.heap.size w).alloc (Nat.le_refl _) badOO
    obtain ⟨W0, hW0⟩ : ∃ W0, W0 = w.alloc badOO := ⟨_, rfl⟩
    rw [← hW0] at M0 B0
    have M0 := Lib.hid M0
    have B0 := Lib.hid B0
    have HW := Lib.hid hW0
    clear h0 hW0
    go_enter Tryz.func21, Tryz.ntmps21
    go_wp2_with fail
    go_loopg [4, 5] (s.size + 1) (fun m v4 v5 wr => ∃ (a : Nat) (acc : List Tok) (tv : Value), tv = v4 ∧ v5 = .int .i64 (a : Int) ∧ a ≤ s.size ∧ s.size + 1 ≤ m + a ∧ acc.length ≤ a ∧ Hid (allP s = combA acc (allN s m a)) ∧ Hid (ToksIn (w.heap.size + 1) tv acc wr) ∧ Hid (wr.heap[w.heap.size]? = some badOO) ∧ Hid (Below w.heap.size w wr))
    case atStart => exact ⟨0, [], _, rfl, rfl, by omega, by omega, by simp, Lib.hid (by rw [HA.out, combA_nil]), Lib.hid (World.ownsRow_nil ..), by rw [← HW.out]; exact M0, by rw [← HW.out]; exact B0⟩
    case round =>
      obtain ⟨a, acc, tv, rfl, rfl, ha, hm, hal, HK, HT, HM, HB⟩ := hrel
      obtain ⟨m, rfl⟩ : ∃ m, gk = m + 1 := ⟨gk - 1, by omega⟩
      have N := fun W hW => r12_Next s (a : Int) (by omega) W hW
      obtain ⟨R, hR⟩ : ∃ R, R = nextP s (a : Int) := ⟨_, rfl⟩
      rw [← hR] at N
      rcases R with ⟨t, e⟩ | ⟨c, p⟩
      · have hf := next_places ha hR.symm
        obtain ⟨p, f1, f2, f3, -, -, f6, f7, f8, f9⟩ := hf
        obtain ⟨v0, v1, v2, v3⟩ := t
        simp only [nTok, nEnd, nBad, Bad.enc, Tok.enc] at N
        have N := Lib.hid N
        obtain ⟨i0, hi, hz0_, hz1_, hz2_⟩ := info_parts info_K
        go_wp2_with fail
        refine (N.out _ (hL.below HB.out)).mono ?_
        rintro ev w1 ⟨rfl, hB⟩
        have T1 := toks_below HT.out hB
        have B1 := HB.out.trans (hB.mono HB.out.size)
        have M1 := below_blk hB (blk_lt' HM.out) HM.out
        obtain rfl : v3 = (p : Int) := f1
        obtain ⟨tq, htq⟩ : ∃ o : Obj, o = .cells #[.int .u8 v0, .string v1, .int .i64 v2, .int .i64 (p : Int)] tTok (0, 0) := ⟨_, rfl⟩
        have A1 := (Below.refl w1.heap.size w1).alloc (Nat.le_refl _) tq
        have A2 := A1.alloc A1.size badOO
        have A3 := A2.alloc A2.size tq
        have T2 := toks_below T1 A3
        have B2 := B1.trans (A3.mono B1.size)
        have M2 := below_blk A3 (blk_lt' M1) M1
        have hqb : (((w1.alloc tq).alloc badOO).alloc tq).heap[w1.heap.size]? = some tq := heap_old' _ _ _ (by simp; omega) (heap_old' _ _ _ (by simp) (heap_new' _ _ _ rfl))
        have hqn : Hid (tv.ownBlock ≠ some w1.heap.size) := Lib.hid (fun e => by have := (T1.lt _ e).2; omega)
        have hlt0 : w.heap.size < w1.heap.size := blk_lt' M1
        rw [htq] at T2 B2 hqb M2
        have HQB := Lib.hid hqb
        have HM2 := Lib.hid M2
        have hcl : acc.length + 1 ≤ 4001 := by omega
        clear hB HB HT T1 B1 N hqb htq A1 A2 A3 M1 HM M2
        go_wp2_with (at_builtin; refine wpList_append_own _ rfl _ _ 23 rfl (w.heap.size + 1) tTok i0 (.agg #[.int .u8 0, .string ⟨#[]⟩, .int .i64 0, .int .i64 0]) 4 40 Tryz.underlying23 hi hz0_ hz1_ hz2_ rfl (by decide) _ _ _ rfl T2 ⟨_, 0, none⟩ 1 1 [.int .u8 v0, .string v1, .int .i64 v2, .int .i64 (p : Int)] rfl rfl ?c1 ?c2 ?c3 ?c4 ?c5 ?_)
        case c1 => exact new_four _ _ _ _ _ _ _ (by simp)
        case c2 => intro u hu; simp at hu; rcases hu with rfl | rfl | rfl | rfl <;> rfl
        case c3 => unfold maxLen; omega
        case c4 => omega
        case c5 => simp; omega
        intro tv' w9 hown' hgrow _
        have T9 : Hid (ToksIn (w.heap.size + 1) tv' (acc ++ [⟨v0, v1, v2, p⟩]) w9) := Lib.hid (by
          unfold ToksIn
          rw [tokCells_snoc, List.length_append]
          exact hown')
        have B9 := Lib.hid (B2.trans (below_of_grown hgrow (fun j e => by have := (T2.lt j e).1; omega) B2.size))
        have q9 := grown_blk hgrow HQB.out (fun e => hqn.out e.symm)
        have M9 := grown_blk hgrow HM2.out (fun e => by have := (T2.lt _ e.symm).1; omega)
        obtain ⟨tg, tcap, rfl⟩ : ∃ g cap, tv' = .slice (some ⟨g, 0, none⟩) (acc.length + 1) cap := by
          rcases hown'.2 with ⟨_, h0⟩ | ⟨g, cap, cur, hv, _⟩
          · omega
          · exact ⟨g, cap, hv⟩
        have zk0 := blk_cell' (q9) 0
        have zf0 := blk_free' (q9) 0
        have zk1 := blk_cell' (q9) 1
        have zf1 := blk_free' (q9) 1
        have zk2 := blk_cell' (q9) 2
        have zf2 := blk_free' (q9) 2
        have zk3 := blk_cell' (q9) 3
        have zf3 := blk_free' (q9) 3
        clear hgrow hown' q9 HQB T2 B2 hqn HM2
        by_cases hk : v0 = 0
        · subst hk
          have HK2 := Lib.hid (HK.out.trans (congrArg (combA acc) (allN_end hR.symm rfl)))
          have HT := bad_blk M9 (.int .i64 0) (.int .i64 0) (.int .i64 0) (.bool false) (.bool false)
          have ck0 := blk_cell' (M9) 0
          have cf0 := blk_free' (M9) 0
          have ck1 := blk_cell' (M9) 1
          have cf1 := blk_free' (M9) 1
          have ck2 := blk_cell' (M9) 2
          have cf2 := blk_free' (M9) 2
          have ck3 := blk_cell' (M9) 3
          have cf3 := blk_free' (M9) 3
          have ck4 := blk_cell' (M9) 4
          have cf4 := blk_free' (M9) 4
          clear HK HA hR M9
          go_wp2
          refine bodyPost_ret (results_two Tryz.results21 (res_tmp rfl) (res_cell (T' := 40) (fr := (0, 0)) rfl HT Tryz.underlying40 rfl (by kernel_rfl))) rfl ?_
          rw [HP.out, HK2.out]
          exact ⟨_, rfl, toks_mono (toks_set (toks_set (toks_set (toks_set (toks_set T9.out (Nat.lt_succ_self _)) (Nat.lt_succ_self _)) (Nat.lt_succ_self _)) (Nat.lt_succ_self _)) (Nat.lt_succ_self _)) (Nat.le_succ _), below_bad B9.out (Nat.le_refl _) _ _ _ _ _⟩
        · have HK2 := Lib.hid (HK.out.trans ((congrArg (combA acc) (allN_go hR.symm hk)).trans (combA_combA _ _ _)))
          have hke : (v0 == 0) = false := by simpa using hk
          have hea : a < e := by have : ¬ e = p := fun h => hk (f8.1 h); omega
          have M9 := Lib.hid M9
          clear HK HA hR f8 f9 hk
          go_wp2_with fail
          go_roundg m
          case measure => omega
          case rel => exact ⟨e, _, _, rfl, rfl, by omega, by omega, by simp; omega, HK2, T9, M9, B9⟩
      · have hc := nextP_code hR.symm
        have HK2 := Lib.hid (HK.out.trans (congrArg (combA acc) (allN_err hR.symm)))
        obtain ⟨bd, hbd⟩ : ∃ bd, bd = nBad (.inr (c, p)) := ⟨_, rfl⟩
        have hbc : bd.code = c := by rw [hbd]; cases p <;> rfl
        rw [← hbd] at N
        have HBD := Lib.hid hbd
        clear hbd
        obtain ⟨b0, b1, b2, b3, b4⟩ := bd
        obtain rfl : b0 = c := hbc
        simp only [nTok, nEnd, Tok.zero, Tok.enc, Bad.enc] at N
        have N := Lib.hid N
        have hcn : (b0 != 0) = true := by simpa using hc
        clear HK HA hR hc
        go_wp2_with fail
        refine (N.out _ (hL.below HB.out)).mono ?_
        rintro ev w1 ⟨rfl, hB⟩
        have B1 := HB.out.trans (hB.mono HB.out.size)
        have M1 := below_blk hB (blk_lt' HM.out) HM.out
        have A1 := (Below.refl w1.heap.size w1).alloc (Nat.le_refl _) tokO
        have A2 := A1.alloc A1.size (.cells #[.int .i64 b0, .int .i64 b1, .int .i64 b2, .bool b3, .bool b4] 40 (0, 0))
        have M2 := below_blk A2 (blk_lt' M1) M1
        have B2 := Lib.hid (B1.trans (A2.mono B1.size))
        clear hB HB HT HM B1 M1 A1 A2
        have mb : ((w1.alloc tokO).alloc (.cells #[.int .i64 b0, .int .i64 b1, .int .i64 b2, .bool b3, .bool b4] 40 (0, 0))).heap[w1.heap.size + 1]? = some (.cells #[.int .i64 b0, .int .i64 b1, .int .i64 b2, .bool b3, .bool b4] 40 (0, 0)) := heap_new' _ _ _ (by simp)
        go_upto_region 7 with (fail)
        generalize (w1.alloc tokO).alloc (.cells #[.int .i64 b0, .int .i64 b1, .int .i64 b2, .bool b3, .bool b4] 40 (0, 0)) = W2 at *
        generalize w1.heap.size = n1 at *
        have HT := bad_blk (w := W2.drew) M2 (.int .i64 b0) (.int .i64 b1) (.int .i64 b2) (.bool b3) (.bool b4)
        have HB := Lib.hid (below_bad (w := W2.drew) (below_drewN B2.out 1) (Nat.le_refl _) (.int .i64 b0) (.int .i64 b1) (.int .i64 b2) (.bool b3) (.bool b4))
        have ck0 := blk_cell' (M2) 0
        have cf0 := blk_free' (M2) 0
        have ck1 := blk_cell' (M2) 1
        have cf1 := blk_free' (M2) 1
        have ck2 := blk_cell' (M2) 2
        have cf2 := blk_free' (M2) 2
        have ck3 := blk_cell' (M2) 3
        have cf3 := blk_free' (M2) 3
        have ck4 := blk_cell' (M2) 4
        have cf4 := blk_free' (M2) 4
        have xk0 := blk_cell' (mb) 0
        have xf0 := blk_free' (mb) 0
        have xk1 := blk_cell' (mb) 1
        have xf1 := blk_free' (mb) 1
        have xk2 := blk_cell' (mb) 2
        have xf2 := blk_free' (mb) 2
        have xk3 := blk_cell' (mb) 3
        have xf3 := blk_free' (mb) 3
        have xk4 := blk_cell' (mb) 4
        have xf4 := blk_free' (mb) 4
        have HT := Lib.hid HT
        clear M2 mb B2
        go_region_with (fail)
        all_goals go_wp2
        all_goals (refine bodyPost_ret (results_two Tryz.results21 (res_tmp rfl) (res_cell (T' := 40) (fr := (0, 0)) rfl HT.out Tryz.underlying40 rfl (by kernel_rfl))) rfl ?_)
        all_goals rw [HP.out, HK2.out]
        all_goals exact ⟨by rw [← HBD.out]; rfl, HB.out⟩
end
end Go.Proofs.YtmooibnedokllaaGreatDoor
