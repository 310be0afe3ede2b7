/- weirmem.Book: lists of tokens stand alone. -/
import Derived.Test.YtmooibnedokllaaGreatDoorOw3
namespace Go.Proofs.YtmooibnedokllaaGreatDoor
open Go.RowKit
set_option linter.unusedSimpArgs false
set_option linter.unusedVariables false

attribute [local go_sem high] eq_tok
theorem info_TS : (Tryz.prog.info? tToks).map (fun i => (i.zero, i.size, i.bytes)) = some (some (.slice none 0 0), 1, 24) := by kernel_rfl
theorem Tk.form {B n : Nat} {v : Value} {f : Nat → Tok} {w : World} (h : Tk B v n f w) : ∃ ao cap, v = .slice ao n cap := by
  rcases h with ⟨h1, h2⟩ | ⟨g, cap, C, h1, _⟩
  · exact ⟨none, 0, by rw [h1, h2]⟩
  · exact ⟨_, _, h1⟩
theorem Tk.ptr {B n cap : Nat} {ao : Option Addr} {f : Nat → Tok} {w : World} (h : Tk B (.slice ao n cap) n f w) (hn : 0 < n) : ∃ g, ao = some ⟨g, 0, none⟩ ∧ B ≤ g := by
  rcases h with ⟨h1, h2⟩ | ⟨g, cap, C, h1, h2, _⟩
  · omega
  · simp only [Value.slice.injEq] at h1
    exact ⟨g, h1.1, h2⟩
/-- The four cells at a place, and that they may be written. -/
theorem Tk.here {B n cap g k : Nat} {f : Nat → Tok} {w : World} (h : Tk B (.slice (some ⟨g, 0, none⟩) n cap) n f w) (hk : k < n) :
    (w.cell? ⟨g, k * 4, none⟩ = some (.int .u8 (f k).kind) ∧ w.cell? ⟨g, k * 4 + 1, none⟩ = some (.string (f k).text) ∧ w.cell? ⟨g, k * 4 + 2, none⟩ = some (.int .i64 (f k).n) ∧ w.cell? ⟨g, k * 4 + 3, none⟩ = some (.int .i64 (f k).pos)) ∧
    (w.frozen? ⟨g, k * 4, none⟩ = false ∧ w.frozen? ⟨g, k * 4 + 1, none⟩ = false ∧ w.frozen? ⟨g, k * 4 + 2, none⟩ = false ∧ w.frozen? ⟨g, k * 4 + 3, none⟩ = false) := by
  obtain ⟨g', cap', hv, -, i1, i2, i3, i4, j1, j2, j3, j4⟩ := h.at hk
  simp only [Value.slice.injEq, Option.some.injEq, Addr.mk.injEq, and_true, true_and] at hv
  obtain ⟨rfl, rfl⟩ := hv
  exact ⟨⟨i1, i2, i3, i4⟩, j1, j2, j3, j4⟩
set_option maxRecDepth 100000 in
set_option maxHeartbeats 4000000 in
theorem alone_Tokens (x : Bx) (hg : x.Good) (fs : Nat → Nat → Tok) (rc : Nat) (hm : x.m ≤ 20) (hm0 : 0 < x.m)
    (c14 : ∀ W : World, W.heap[x.b]? = some x.BO → W.cell? ⟨x.b, 14, none⟩ = some (.slice (some ⟨x.rg, 0, none⟩) x.m rc))
    (crow : ∀ W : World, W.heap[x.rg]? = some x.RO → ∀ j, j < x.m → W.cell? ⟨x.rg, j, none⟩ = some (x.vs j))
    (hT : ∀ j, j < x.m → Tk x.B (x.vs j) (x.ns j) (fs j) x.w) (hb : x.w.heap[x.b]? = some x.BO) (hr : x.w.heap[x.rg]? = some x.RO) :
    Calls Tryz.prog 64 #[.pointer (some ⟨x.b, 0, none⟩)] x.w fun e w' => e = .returned (.bool true) ∧ w'.heap[x.b]? = some x.BO ∧ Below x.B x.w w' := by
  have S0 : Hid (x.A1 fs 0 0 x.w) := Lib.hid ⟨fun j hj => (hT j hj).congr (fun y hy => by rw [if_neg (by omega)]), hb, hr, Below.refl _ _⟩
  have HG := Lib.hid hg
  have H14 := Lib.hid c14
  have HR := Lib.hid crow
  have hn : Hid (∀ j, j < x.m → x.ns j ≤ 5000) := Lib.hid hg.n
  have TX := Lib.hid (fun (i : Nat) (hi : i < 26) W => mem_text i hi W)
  clear hT hb hr c14 crow hg
  obtain ⟨m, hmm⟩ : ∃ m, x.m = m := ⟨_, rfl⟩
  obtain ⟨b, hbb⟩ : ∃ b, x.b = b := ⟨_, rfl⟩
  obtain ⟨rg, hrg⟩ : ∃ rg, x.rg = rg := ⟨_, rfl⟩
  rw [hmm] at hm hm0
  rw [hbb]
  have HM := Lib.hid hmm
  have HBB := Lib.hid hbb
  have HRG := Lib.hid hrg
  have L14 : Hid (∀ W : World, x.Keep W → W.cell? ⟨b, 14, none⟩ = some (.slice (some ⟨rg, 0, none⟩) m rc)) := Lib.hid (fun W h => by rw [← hbb, ← hrg, ← hmm]; exact H14.out W h.b)
  have LR : Hid (∀ W : World, x.Keep W → ∀ j, j < m → W.cell? ⟨rg, j, none⟩ = some (x.vs j)) := Lib.hid (fun W h j hj => by rw [← hrg]; exact HR.out W h.r j (by rw [hmm]; exact hj))
  clear hmm hbb hrg H14 HR
  obtain ⟨w, hw⟩ : ∃ w, x.w = w := ⟨_, rfl⟩
  rw [hw] at S0 ⊢
  have HW := Lib.hid hw
  clear hw
  go_enter Tryz.func64, Tryz.ntmps64
  go_upto_block 0 with (fail)
  go_cut [3] (fun v3 wc => Hid (x.A1 fs m 0 wc))
  case first =>
    go_wp2_with fail
    go_loopg [3] m (fun gk v3 wr => ∃ i : Nat, v3 = .int .i64 (i : Int) ∧ i + gk = m ∧ Hid (x.A1 fs i 0 wr))
    case atStart => exact ⟨0, rfl, by omega, S0⟩
    case round =>
      clear S0
      obtain ⟨i, rfl, hi, SA⟩ := hrel
      have b0 := L14.out _ SA.out.k
      by_cases him : i < m
      · have kl : decide ((i : Int) < (m : Int)) = true := by rw [decide_eq_true_iff]; omega
        have r0 := LR.out _ SA.out.k i him
        have hni := hn.out i (by rw [HM.out]; exact him)
        have hix : i < x.m := by rw [HM.out]; exact him
        obtain ⟨ao, cap, hv⟩ := (SA.out.t i hix).form
        rw [hv] at r0
        have TI : Hid (∀ k W, x.A1 fs i k W → Tk x.B (.slice ao (x.ns i) cap) (x.ns i) (fun y => if i < i ∨ (i = i ∧ y < k) then markK i else fs i y) W) := Lib.hid (fun k W h => by rw [← hv]; exact h.t i hix)
        have HV := Lib.hid hv
        have LRi : Hid (∀ W : World, x.Keep W → W.cell? ⟨rg, i, none⟩ = some (.slice ao (x.ns i) cap)) := Lib.hid (fun W h => by rw [← hv]; exact LR.out W h i him)
        have AT : Hid (x.A1 fs i (x.ns i) = x.A1 fs i (x.ns i)) := Lib.hid rfl
        have TU : Hid (∀ W, x.A1 fs i (x.ns i) W → x.A1 fs (i + 1) 0 W) := Lib.hid (fun W h => h.turn)
        have ST : Hid (∀ k g W, ao = some ⟨g, 0, none⟩ → k < x.ns i → x.A1 fs i k W → x.A1 fs i (k + 1) (tokSet W g k (markK i))) := Lib.hid (fun k g W e hk h => h.set HG.out hix hk (by rw [hv, e]))
        clear hv AT
        generalize x.ns i = n at *
        go_wp2_with fail
        go_loopg [4] n (fun gk2 v4 wr2 => ∃ k : Nat, v4 = .int .i64 (k : Int) ∧ k + gk2 = n ∧ Hid (x.A1 fs i k wr2))
        case atStart => exact ⟨0, rfl, by omega, SA⟩
        case round =>
          clear SA b0 r0
          obtain ⟨k, rfl, hk2, SA⟩ := hrel
          have b0 := L14.out _ SA.out.k
          have r0 := LRi.out _ SA.out.k
          by_cases hk : k < n
          · have kk : decide ((k : Int) < (n : Int)) = true := by rw [decide_eq_true_iff]; omega
            obtain ⟨g, rfl, hBg⟩ := (TI.out k _ SA.out).ptr (by omega)
            have TXi := Lib.hid (TX.out i (by omega))
            go_upto_region 7 with (fail)
            go_region_with (go_at_call 91; refine (TXi.out _).mono ?_; rintro ev w2 ⟨rfl, hB⟩; have SB := Lib.hid (SA.out.next HG.out ((below_drewN (Below.refl _ _) 1).trans hB)); have b1 := L14.out _ SB.out.k; have r1 := LRi.out _ SB.out.k; obtain ⟨⟨z0, z1, z2, z3⟩, y0, y1, y2, y3⟩ := (TI.out k _ SB.out).here hk)
            all_goals (have S2 := Lib.hid (ST.out k g _ rfl hk SB.out); clear b1 r1 z0 z1 z2 z3 y0 y1 y2 y3 hB SB b0 r0 SA)
            all_goals go_wp2_with fail
            all_goals go_roundg (gk - 1)
            all_goals first | (case measure => omega) | skip
            all_goals exact ⟨k + 1, by go_num, by omega, S2⟩
          · have kk : decide ((k : Int) < (n : Int)) = false := by rw [decide_eq_false_iff_not]; omega
            obtain rfl : k = n := by omega
            have S2 := Lib.hid (TU.out _ SA.out)
            go_wp2_with fail
            go_roundg (m - (i + 1))
            case measure => omega
            case rel => exact ⟨i + 1, by go_num, by omega, S2⟩
      · have kl : decide ((i : Int) < (m : Int)) = false := by rw [decide_eq_false_iff_not]; omega
        obtain rfl : i = m := by omega
        go_wp2_with fail
        go_meet
        case rel => exact SA
  case rest =>
    clear S0
    have HD := Lib.hid ((show x.A1 fs x.m 0 wc from by rw [HM.out]; exact hcut.out).done (fun _ => .slice none 0 0))
    go_upto_block 4 with (fail)
    go_cut [5] (fun v5 wc2 => ∃ gs va, va = v5 ∧ Hid (x.A2 gs va m wc2))
    case first =>
      go_wp2_with fail
      go_loopg [5, 6] m (fun gk v5 v6 wr => ∃ (i : Nat) (gs : Nat → Value) (va : Value), va = v5 ∧ v6 = .int .i64 (i : Int) ∧ i + gk = m ∧ Hid (x.A2 gs va i wr))
      case atStart => exact ⟨0, _, _, rfl, rfl, by omega, HD⟩
      case round =>
        clear HD
        obtain ⟨i, gs, va, rfl, rfl, hi, SA⟩ := hrel
        have b0 := L14.out _ SA.out.k
        by_cases him : i < m
        · have kl : decide ((i : Int) < (m : Int)) = true := by rw [decide_eq_true_iff]; omega
          have r0 := LR.out _ SA.out.k i him
          have hni := hn.out i (by rw [HM.out]; exact him)
          have hix : i < x.m := by rw [HM.out]; exact him
          have S3 := Lib.hid (Bx.A3.start SA.out HG.out hix)
          have TXi := Lib.hid (TX.out i (by omega))
          obtain ⟨tq, htq⟩ : ∃ o : Obj, o = .cells #[.int .u8 0, .string (markT i), .int .i64 0, .int .i64 0] tTok (0, 0) := ⟨_, rfl⟩
          have HTQ := Lib.hid htq
          clear htq
          go_wp2_with fail
          go_loopg [7, 8] 20 (fun g2 v7 v8 wr2 => ∃ (k : Nat) (gv : Value), gv = v7 ∧ v8 = .int .i64 (k : Int) ∧ k + g2 = 20 ∧ Hid (x.A3 gs va i k gv wr2))
          case atStart => exact ⟨0, _, rfl, rfl, by omega, S3⟩
          case round =>
            clear S3 SA b0 r0
            obtain ⟨k, gv, rfl, rfl, hk2, S3⟩ := hrel
            by_cases hk : k < 20
            · have kk : decide ((k : Int) < (20 : Int)) = true := by rw [decide_eq_true_iff]; omega
              go_wp2_with fail
              refine (TXi.out _).mono ?_
              rintro ev w2 ⟨rfl, hB⟩
              have S4 := (S3.out.next HG.out hB).next HG.out ((Below.refl _ _).alloc (Nat.le_refl _) tq)
              rw [HTQ.out] at S4
              obtain ⟨g, cap, w9, hr, hkk, hw, hor⟩ := tk_append 23 S4.gt (by have := HG.out.Bl; have := S4.s.k.B.size; omega) (by omega) (markK i) ⟨w2.heap.size, 0, none⟩ 1 (new_four _ _ _ _ _ _ _ rfl)
              have S5 := Lib.hid (S4.app HG.out hix hkk hw hor)
              clear hB S4 hkk hw hor S3
              go_wp2_with (at_builtin; refine wp_tok rfl _ _ rfl _ _ rfl rfl hr ?_)
              go_roundg (gk - 1)
              case measure => omega
              case rel => exact ⟨k + 1, _, rfl, by go_num, by omega, S5⟩
            · have kk : decide ((k : Int) < (20 : Int)) = false := by rw [decide_eq_false_iff_not]; omega
              obtain rfl : k = 20 := by omega
              obtain ⟨ao, cap, rfl⟩ := S3.out.gt.form
              generalize x.ns i + 20 = n20 at *
              have S4 := S3.out.next HG.out ((Below.refl _ _).alloc (Nat.le_refl _) (.cells #[.slice ao n20 cap] tToks (0, 0)))
              obtain ⟨i0, hi_, hz0, hz1, hz2⟩ := info_parts info_TS
              have hown := S4.s.a
              have HS4 := Lib.hid S4
              clear S4 S3
              go_wp2_with (at_builtin; refine wpList_append_own _ rfl _ _ 63 rfl x.w.heap.size tToks i0 (.slice none 0 0) 1 24 Tryz.underlying63 hi_ hz0 hz1 hz2 rfl (by decide) _ _ _ rfl hown ⟨_, 0, none⟩ 1 1 [.slice ao n20 cap] rfl rfl ?c1 ?c2 ?c3 ?c4 ?c5 ?_)
              case c1 =>
                intro j u hj
                match j, hj with
                | 0, hj => simp at hj; subst hj; exact blk_cell' (heap_new' _ _ _ rfl) 0
              case c2 => intro u hu; simp at hu; subst hu; rfl
              case c3 => unfold maxLen; omega
              case c4 => omega
              case c5 => have := HS4.out.s.k.B.size; exact this
              intro va' w9 hown' hgrow _
              have S5 := Lib.hid (HS4.out.turn HG.out hown' hgrow)
              clear hown hown' hgrow HS4
              go_wp2_with fail
              go_roundg (m - (i + 1))
              case measure => omega
              case rel => exact ⟨i + 1, _, _, rfl, by go_num, by omega, S5⟩
        · have kl : decide ((i : Int) < (m : Int)) = false := by rw [decide_eq_false_iff_not]; omega
          obtain rfl : i = m := by omega
          go_wp2_with fail
          go_meet
          case rel => exact ⟨gs, va, rfl, SA⟩
    case rest =>
      clear HD
      obtain ⟨gs, va, rfl, SA⟩ := hcut
      obtain ⟨ag, acap, rfl⟩ : ∃ g cap, va = .slice (some ⟨g, 0, none⟩) m cap := by
        rcases SA.out.a.2 with ⟨_, h0⟩ | ⟨g, cap, cur, hv, _⟩
        · omega
        · exact ⟨g, cap, hv⟩
      have LA : Hid (∀ W, x.A2 gs (.slice (some ⟨ag, 0, none⟩) m acap) m W → ∀ j, j < m → W.cell? ⟨ag, j, none⟩ = some (gs j)) := Lib.hid (fun W h j hj => by
        have := h.a.cells (g := ag) rfl j (gs j) (by simp [hj])
        rw [add_off] at this; exact this)
      go_wp2_with fail
      go_loopg [9] m (fun gk v9 wr => ∃ i : Nat, v9 = .int .i64 (i : Int) ∧ i + gk = m ∧ Hid (x.A2 gs (.slice (some ⟨ag, 0, none⟩) m acap) m wr))
      case atStart => exact ⟨0, rfl, by omega, SA⟩
      case round =>
        clear SA
        obtain ⟨i, rfl, hi, SA⟩ := hrel
        by_cases him : i < m
        · have kl : decide ((i : Int) < (m : Int)) = true := by rw [decide_eq_true_iff]; omega
          have hix : i < x.m := by rw [HM.out]; exact him
          have hni := hn.out i hix
          have TXi := Lib.hid (TX.out i (by omega))
          obtain ⟨ao, cap, hv⟩ := (SA.out.t i hix).form
          obtain ⟨ao1, cap1, hv1⟩ := (SA.out.g i him).form
          have LRi : Hid (∀ W : World, x.Keep W → W.cell? ⟨rg, i, none⟩ = some (.slice ao (x.ns i) cap)) := Lib.hid (fun W h => by rw [← hv]; exact LR.out W h i him)
          have LAi : Hid (∀ W : World, x.A2 gs (.slice (some ⟨ag, 0, none⟩) m acap) m W → W.cell? ⟨ag, i, none⟩ = some (.slice ao1 (x.ns i + 20) cap1)) := Lib.hid (fun W h => by rw [← hv1]; exact LA.out W h i him)
          have T0 : Hid (∀ W, x.A2 gs (.slice (some ⟨ag, 0, none⟩) m acap) m W → Tk x.B (.slice ao (x.ns i) cap) (x.ns i) (fun _ => markK i) W) := Lib.hid (fun W h => by rw [← hv]; exact h.t i hix)
          have T1 : Hid (∀ W, x.A2 gs (.slice (some ⟨ag, 0, none⟩) m acap) m W → Tk x.B (.slice ao1 (x.ns i + 20) cap1) (x.ns i + 20) (fun _ => markK i) W) := Lib.hid (fun W h => by rw [← hv1]; exact h.g i him)
          clear hv hv1
          generalize x.ns i = n at *
          obtain ⟨n1, hn1⟩ : ∃ n1, n + 20 = n1 := ⟨_, rfl⟩
          rw [hn1] at LAi T1
          have hn1' : n1 ≤ 5020 := by omega
          obtain ⟨g1, rfl, -⟩ := (T1.out _ SA.out).ptr (by omega)
          clear hn1
          have r0 := LAi.out _ SA.out
          go_wp2_with fail
          go_loopg [10] n1 (fun gk2 v10 wr2 => ∃ k : Nat, v10 = .int .i64 (k : Int) ∧ k + gk2 = n1 ∧ Hid (x.A2 gs (.slice (some ⟨ag, 0, none⟩) m acap) m wr2))
          case atStart => exact ⟨0, rfl, by omega, SA⟩
          case round =>
            clear SA r0
            obtain ⟨k, rfl, hk2, SA⟩ := hrel
            have r0 := LAi.out _ SA.out
            by_cases hk : k < n1
            · have kk : decide ((k : Int) < (n1 : Int)) = true := by rw [decide_eq_true_iff]; omega
              obtain ⟨⟨z0, z1, z2, z3⟩, -⟩ := (T1.out _ SA.out).here hk
              have AB := (Below.refl wr.heap.size wr).alloc (Nat.le_refl _) (.cells #[.int .u8 0, .string (markT i), .int .i64 0, .int .i64 0] tTok (0, 0))
              have SB := Lib.hid (SA.out.next HG.out AB)
              have q := heap_alloc_new wr (.cells #[.int .u8 0, .string (markT i), .int .i64 0, .int .i64 0] tTok (0, 0))
              simp only [markK] at z0 z1 z2 z3
              clear AB
              go_upto_region 25 with (fail)
              clear SA r0 z0 z1 z2 z3
              generalize wr.alloc (.cells #[.int .u8 0, .string (markT i), .int .i64 0, .int .i64 0] tTok (0, 0)) = w3 at *
              generalize wr.heap.size = n3 at *
              have HQ := Lib.hid q
              have xk0 := blk_cell' (q) 0
              have xf0 := blk_free' (q) 0
              have xk1 := blk_cell' (q) 1
              have xf1 := blk_free' (q) 1
              have xk2 := blk_cell' (q) 2
              have xf2 := blk_free' (q) 2
              have xk3 := blk_cell' (q) 3
              have xf3 := blk_free' (q) 3
              clear q xf0 xf1 xf2 xf3
              go_region_with (go_at_call 91; refine (TXi.out _).mono ?_; rintro ev w2 ⟨rfl, hB⟩; have SC := Lib.hid (SB.out.next HG.out ((below_drewN (Below.refl _ _) 1).trans hB)); have q2 := below_blk ((below_drewN (Below.refl w3.heap.size w3) 1).trans hB) (blk_lt' HQ.out) HQ.out; have y0 := blk_cell' q2 0; have y1 := blk_cell' q2 1; have y2 := blk_cell' q2 2; have y3 := blk_cell' q2 3)
              all_goals clear xk0 xk1 xk2 xk3 y0 y1 y2 y3 q2 hB HQ SB
              all_goals go_wp2_with fail
              all_goals go_roundg (gk - 1)
              all_goals first | (case measure => omega) | skip
              all_goals exact ⟨k + 1, by go_num, by omega, SC⟩
            · have kk : decide ((k : Int) < (n1 : Int)) = false := by rw [decide_eq_false_iff_not]; omega
              have r1 := LRi.out _ SA.out.k
              have b0 := L14.out _ SA.out.k
              go_wp2_with fail
              go_loopg [12] n (fun gk2 v12 wr2 => ∃ k : Nat, v12 = .int .i64 (k : Int) ∧ k + gk2 = n ∧ Hid (x.A2 gs (.slice (some ⟨ag, 0, none⟩) m acap) m wr2))
              case atStart => exact ⟨0, rfl, by omega, SA⟩
              case round =>
                clear SA r0 r1 b0
                obtain ⟨k, rfl, hk2, SA⟩ := hrel
                have r1 := LRi.out _ SA.out.k
                have b0 := L14.out _ SA.out.k
                by_cases hk : k < n
                · have kk : decide ((k : Int) < (n : Int)) = true := by rw [decide_eq_true_iff]; omega
                  obtain ⟨g, rfl, -⟩ := (T0.out _ SA.out).ptr (by omega)
                  obtain ⟨⟨z0, z1, z2, z3⟩, -⟩ := (T0.out _ SA.out).here hk
                  have AB := (Below.refl wr.heap.size wr).alloc (Nat.le_refl _) (.cells #[.int .u8 0, .string (markT i), .int .i64 0, .int .i64 0] tTok (0, 0))
                  have SB := Lib.hid (SA.out.next HG.out AB)
                  have q := heap_alloc_new wr (.cells #[.int .u8 0, .string (markT i), .int .i64 0, .int .i64 0] tTok (0, 0))
                  simp only [markK] at z0 z1 z2 z3
                  clear AB
                  go_upto_region 31 with (fail)
                  clear SA r1 b0 z0 z1 z2 z3
                  generalize wr.alloc (.cells #[.int .u8 0, .string (markT i), .int .i64 0, .int .i64 0] tTok (0, 0)) = w3 at *
                  generalize wr.heap.size = n3 at *
                  have HQ := Lib.hid q
                  have xk0 := blk_cell' (q) 0
                  have xf0 := blk_free' (q) 0
                  have xk1 := blk_cell' (q) 1
                  have xf1 := blk_free' (q) 1
                  have xk2 := blk_cell' (q) 2
                  have xf2 := blk_free' (q) 2
                  have xk3 := blk_cell' (q) 3
                  have xf3 := blk_free' (q) 3
                  clear q xf0 xf1 xf2 xf3
                  go_region_with (go_at_call 91; refine (TXi.out _).mono ?_; rintro ev w2 ⟨rfl, hB⟩; have SC := Lib.hid (SB.out.next HG.out ((below_drewN (Below.refl _ _) 1).trans hB)); have q2 := below_blk ((below_drewN (Below.refl w3.heap.size w3) 1).trans hB) (blk_lt' HQ.out) HQ.out; have y0 := blk_cell' q2 0; have y1 := blk_cell' q2 1; have y2 := blk_cell' q2 2; have y3 := blk_cell' q2 3)
                  all_goals clear xk0 xk1 xk2 xk3 y0 y1 y2 y3 q2 hB HQ SB
                  all_goals go_wp2_with fail
                  all_goals go_roundg (gk - 1)
                  all_goals first | (case measure => omega) | skip
                  all_goals exact ⟨k + 1, by go_num, by omega, SC⟩
                · have kk : decide ((k : Int) < (n : Int)) = false := by rw [decide_eq_false_iff_not]; omega
                  go_wp2_with fail
                  go_roundg (m - (i + 1))
                  case measure => omega
                  case rel => exact ⟨i + 1, by go_num, by omega, SA⟩
        · have kl : decide ((i : Int) < (m : Int)) = false := by rw [decide_eq_false_iff_not]; omega
          go_wp2_with fail
          go_ret
          refine ⟨rfl, by rw [← HBB.out]; exact SA.out.k.b, ?_⟩
          have := SA.out.k.B
          rw [HW.out] at this; exact this
end Go.Proofs.YtmooibnedokllaaGreatDoor
