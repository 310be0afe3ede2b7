/- weirmem.Book: lists of Tags, Fields, Points stand alone. -/
import Derived.Test.YtnodjijgeifejaaGreatDoorOwH
import Derived.Test.YtnodjijgeifejaaGreatDoorSamePts
import Derived.Deep.RegionHeld3
import Derived.Deep.RegionWith
import Derived.Deep.DeepCutAuto
import Derived.Deep.CutBlock
namespace Go.Proofs.YtnodjijgeifejaaGreatDoor
open Go.RowKit
set_option linter.unusedSimpArgs false
set_option linter.unusedVariables false

attribute [local go_sem high] eq_fld eq_tag
/-- Lists of api.Tag. -/
def K_Tags : Kd := ⟨98, 29, 54, 2, 32, .agg #[.string ⟨#[]⟩, .string ⟨#[]⟩], fun i _ cs => cs = [.string (markT i), .string ⟨#[]⟩]⟩
theorem K_Tags_ok : K_Tags.Ok where
  u := Tryz.underlying29
  uu := Tryz.underlying54
  info := by kernel_rfl
  infoR := by kernel_rfl
  z0 := by decide
  zs := rfl
  b := by decide
  er := by decide
  len := by rintro i w cs rfl; rfl
  one := by rintro i w cs rfl u hu; simp at hu; rcases hu with rfl | rfl <;> rfl
  stay := fun i w w' cs row h _ _ => h
theorem K_Tags_here {B n cap g k : Nat} {W : World} {G : Nat → List Value → Prop} (h : Tz K_Tags B (.slice (some ⟨g, 0, none⟩) n cap) n G W) (hk : k < n) : ∃ c0 c1, G k [c0, c1] ∧ (W.cell? ⟨g, k * 2, none⟩ = some c0 ∧ W.cell? ⟨g, k * 2 + 1, none⟩ = some c1) ∧ W.frozen? ⟨g, k * 2, none⟩ = false ∧ W.frozen? ⟨g, k * 2 + 1, none⟩ = false := by
  obtain ⟨cs, hl, hc, hf, hG⟩ := h.here hk
  have hl : cs.length = 2 := hl
  match cs, hl with
  | [c0, c1], _ =>
    exact ⟨c0, c1, hG, ⟨hc 0 (by decide : 0 < 2), hc 1 (by decide : 1 < 2)⟩, ⟨hf _, hf _⟩⟩
set_option maxRecDepth 100000 in
set_option maxHeartbeats 4000000 in
theorem alone_Tags_some (x : Bx) (hg : x.Good) (hK : x.K = K_Tags) (rc : Nat) (hm0 : 0 < x.m)
    (cf : x.w.cell? ⟨x.b, 5, none⟩ = some (.slice (some ⟨x.rg, 0, none⟩) x.m rc))
    (crow : ∀ j, j < x.m → x.w.cell? ⟨x.rg, j, none⟩ = some (x.vs j))
    (hT : ∀ j, j < x.m → Tz x.K x.B (x.vs j) (x.ns j) (fun _ _ => True) x.w) :
    Calls Tryz.prog 53 #[.pointer (some ⟨x.b, 0, none⟩)] x.w fun e w' => e = .returned (.bool true) ∧ x.Keep w' := by
  have S0 : Hid (x.A1 0 0 x.w) := Lib.hid ⟨fun j hj => (hT j hj).imp (fun y cs _ _ hl => absurd hl (by omega)), fun k _ _ => rfl, Below.refl _ _⟩
  have HG := Lib.hid hg
  have HK := Lib.hid hK
  have hm : x.m ≤ 50000000 := hg.m
  have hn : Hid (∀ j, j < x.m → x.ns j ≤ 50000000) := Lib.hid hg.n
  have TX := Lib.hid (fun (i : Nat) (hi : i ≤ 9223372036854775807) W => mem_text i hi W)
  have LF : Hid (∀ W : World, x.Keep W → W.cell? ⟨x.b, 5, none⟩ = some (.slice (some ⟨x.rg, 0, none⟩) x.m rc)) := Lib.hid (fun W h => (cell_same (h.b hg) _).trans cf)
  have LR : Hid (∀ W : World, x.Keep W → ∀ j, j < x.m → W.cell? ⟨x.rg, j, none⟩ = some (x.vs j)) := Lib.hid (fun W h j hj => (cell_same (h.r hg) _).trans (crow j hj))
  -- the memory laws, with the kind written out
  have LT1 : Hid (∀ i k j W, x.A1 i k W → j < x.m → Tz K_Tags x.B (x.vs j) (x.ns j) (fun _ _ => True) W) := Lib.hid (fun i k j W h hj => by
    have h2 := (h.t j hj).imp (G' := fun _ _ => True) (fun _ _ _ _ => trivial)
    rw [hK] at h2; exact h2)
  have ST : Hid (∀ i k g cap W, i < x.m → k < x.ns i → x.vs i = .slice (some ⟨g, 0, none⟩) (x.ns i) cap → x.A1 i k W → x.A1 i (k + 1) ((W.setCell ⟨g, k * 2, none⟩ (.string (markT i))).setCell ⟨g, k * 2 + 1, none⟩ (.string ⟨#[]⟩))) := Lib.hid (fun i k g cap W hi hk hv h => by
    have h2 := h.set hg hi hk hv [.string (markT i), .string ⟨#[]⟩] (by rw [hK]; rfl)
    rw [hK] at h2; exact h2)
  have LT2 : Hid (∀ gs va m j W, x.A2 gs va m W → j < x.m → Tz K_Tags x.B (x.vs j) (x.ns j) (fun _ cs => K_Tags.M j W cs) W) := Lib.hid (fun gs va m j W h hj => by
    have h2 := h.t j hj
    rw [hK] at h2; exact h2)
  have LG2 : Hid (∀ gs va m j W, x.A2 gs va m W → j < m → Tz K_Tags x.B (gs j) (x.ns j + 20) (fun _ cs => K_Tags.M j W cs) W) := Lib.hid (fun gs va m j W h hj => by
    have h2 := h.g j hj
    rw [hK] at h2; exact h2)
  have LA2 : Hid (∀ gs va m W, x.A2 gs va m W → W.ownsRow x.w.heap.size 29 1 va m ((List.range m).map gs)) := Lib.hid (fun gs va m W h => by
    have h2 := h.a
    rw [hK] at h2; exact h2)
  have AP : Hid (∀ gs va i k gv W, i < x.m → k < 20 → x.A3 gs va i k gv W → ∀ (c : Nat) (a : Addr), (∀ j u, ([.string (markT i), .string ⟨#[]⟩] : List Value)[j]? = some u → W.cell? (a.add j) = some u) → ∃ g cap w9, (Builtin.append_ #[29, 29] 29 #[gv, .slice (some a) 1 c]).run Tryz.prog W = .ok (.slice (some ⟨g, 0, none⟩) (x.ns i + k + 1) cap) w9 ∧ x.A3 gs va i (k + 1) (.slice (some ⟨g, 0, none⟩) (x.ns i + k + 1) cap) w9) := Lib.hid (fun gs va i k gv W hi hk h c a hn2 => by
    have hM : x.K.M i W [.string (markT i), .string ⟨#[]⟩] := by rw [hK]; rfl
    obtain ⟨g, cap, w9, hr, hkk, hw, hor⟩ := tz_append (G' := fun _ cs => x.K.M i W cs) hg.K.ap 29 h.gt (Nat.le_trans hg.Bl h.s.k.B.size) (by have := hg.n i hi; omega) [.string (markT i), .string ⟨#[]⟩] (hg.K.len _ _ _ hM) (hg.K.one _ _ _ hM) a c hn2 (fun _ _ _ hm => hm) hM
    rw [hK] at hr
    exact ⟨g, cap, w9, hr, h.app hg hi hkk hw hor⟩)
  have TN : Hid (∀ gs va i gv W w9 va', x.A3 gs va i 20 gv W → w9.ownsRow x.w.heap.size 29 1 va' (i + 1) ((List.range i).map gs ++ [gv]) → W.grownBy w9 va.ownBlock → x.A2 (fun j => if j = i then gv else gs j) va' (i + 1) w9) := Lib.hid (fun gs va i gv W w9 va' h ho hw => h.turn hg (by rw [hK]; exact ho) hw)
  clear hT cf crow hg hK
  obtain ⟨m, hmm⟩ : ∃ m, x.m = m := ⟨_, rfl⟩
  obtain ⟨b, hbb⟩ : ∃ b, x.b = b := ⟨_, rfl⟩
  obtain ⟨rg, hrg⟩ : ∃ rg, x.rg = rg := ⟨_, rfl⟩
  rw [hmm] at hm hm0 LF LR hn LT1 ST LT2 AP
  rw [hbb] at LF ⊢
  rw [hrg] at LF LR
  have HM := Lib.hid hmm
  clear hmm hbb hrg
  obtain ⟨w, hw⟩ : ∃ w, x.w = w := ⟨_, rfl⟩
  rw [hw] at S0 ⊢
  have HW := Lib.hid hw
  clear hw
  go_enter Tryz.func53, Tryz.ntmps53
  go_upto_block 0 with (fail)
  go_cut [3] (fun v3 wc => Hid (x.A1 m 0 wc))
  case first =>
    go_wp2_with fail
    go_loopg [3] m (fun gk v3 wr => ∃ i : Nat, v3 = .int .i64 (i : Int) ∧ i + gk = m ∧ Hid (x.A1 i 0 wr))
    case atStart => exact ⟨0, rfl, by omega, S0⟩
    case round =>
      clear S0
      obtain ⟨i, rfl, hi, SA⟩ := hrel
      have b0 := LF.out _ SA.out.k
      by_cases him : i < m
      · have kl : decide ((i : Int) < (m : Int)) = true := by rw [decide_eq_true_iff]; omega
        have r0 := LR.out _ SA.out.k i him
        have hni := hn.out i him
        obtain ⟨ao, cap, hv⟩ := (LT1.out i 0 i _ SA.out him).form
        rw [hv] at r0
        have TI : Hid (∀ k W, x.A1 i k W → Tz K_Tags x.B (.slice ao (x.ns i) cap) (x.ns i) (fun _ _ => True) W) := Lib.hid (fun k W h => by rw [← hv]; exact LT1.out i k i W h him)
        have LRi : Hid (∀ W : World, x.Keep W → W.cell? ⟨rg, i, none⟩ = some (.slice ao (x.ns i) cap)) := Lib.hid (fun W h => by rw [← hv]; exact LR.out W h i him)
        have TU : Hid (∀ W, x.A1 i (x.ns i) W → x.A1 (i + 1) 0 W) := Lib.hid (fun W h => h.turn)
        have STi : Hid (∀ k g W, ao = some ⟨g, 0, none⟩ → k < x.ns i → x.A1 i k W → x.A1 i (k + 1) ((W.setCell ⟨g, k * 2, none⟩ (.string (markT i))).setCell ⟨g, k * 2 + 1, none⟩ (.string ⟨#[]⟩))) := Lib.hid (fun k g W e hk h => ST.out i k g cap W him hk (by rw [hv, e]) h)
        clear hv
        generalize x.ns i = n at *
        go_wp2_with fail
        go_loopg [4] n (fun gk2 v4 wr2 => ∃ k : Nat, v4 = .int .i64 (k : Int) ∧ k + gk2 = n ∧ Hid (x.A1 i k wr2))
        case atStart => exact ⟨0, rfl, by omega, SA⟩
        case round =>
          clear SA b0 r0
          obtain ⟨k, rfl, hk2, SA⟩ := hrel
          have b0 := LF.out _ SA.out.k
          have r0 := LRi.out _ SA.out.k
          by_cases hk : k < n
          · have kk : decide ((k : Int) < (n : Int)) = true := by rw [decide_eq_true_iff]; omega
            obtain ⟨g, rfl, hBg⟩ := (TI.out k _ SA.out).ptr (by omega)
            have TXi := Lib.hid (TX.out i (by omega))
            go_upto_region 7 with (fail)
            go_region_with (go_at_call 77; refine (TXi.out _).mono ?_; rintro ev w2 ⟨rfl, hB⟩; have SB := Lib.hid (SA.out.next HG.out ((below_drewN (Below.refl _ _) 1).trans hB)); have b1 := LF.out _ SB.out.k; have r1 := LRi.out _ SB.out.k; obtain ⟨c0, c1, -, ⟨z0, z1⟩, y0, y1⟩ := K_Tags_here (TI.out k _ SB.out) hk)
            all_goals (have S2 := Lib.hid (STi.out k g _ rfl hk SB.out); clear b1 r1 z0 z1 y0 y1 hB SB b0 r0 SA)
            all_goals go_wp2_with fail
            all_goals go_roundg (gk - 1)
            all_goals first | (case measure => omega) | skip
            all_goals exact ⟨k + 1, by go_num, by omega, S2⟩
          · have kk : decide ((k : Int) < (n : Int)) = false := by rw [decide_eq_false_iff_not]; omega
            obtain rfl : k = n := by omega
            have S2 := Lib.hid (TU.out _ SA.out)
            go_wp2_with fail
            go_roundg (m - (i + 1))
            case measure => omega
            case rel => exact ⟨i + 1, by go_num, by omega, S2⟩
      · have kl : decide ((i : Int) < (m : Int)) = false := by rw [decide_eq_false_iff_not]; omega
        obtain rfl : i = m := by omega
        go_wp2_with fail
        go_meet
        case rel => exact SA
  case rest =>
    clear S0
    have HD := Lib.hid ((show x.A1 x.m 0 wc from by rw [HM.out]; exact hcut.out).done (fun _ => .slice none 0 0))
    go_upto_block 4 with (fail)
    go_cut [5] (fun v5 wc2 => ∃ gs va, va = v5 ∧ Hid (x.A2 gs va m wc2))
    case first =>
      go_wp2_with fail
      go_loopg [5, 6] m (fun gk v5 v6 wr => ∃ (i : Nat) (gs : Nat → Value) (va : Value), va = v5 ∧ v6 = .int .i64 (i : Int) ∧ i + gk = m ∧ Hid (x.A2 gs va i wr))
      case atStart => exact ⟨0, _, _, rfl, rfl, by omega, HD⟩
      case round =>
        clear HD
        obtain ⟨i, gs, va, rfl, rfl, hi, SA⟩ := hrel
        have b0 := LF.out _ SA.out.k
        by_cases him : i < m
        · have kl : decide ((i : Int) < (m : Int)) = true := by rw [decide_eq_true_iff]; omega
          have r0 := LR.out _ SA.out.k i him
          have hni := hn.out i him
          have S3 := Lib.hid (Bx.A3.start SA.out HG.out (by rw [HM.out]; exact him))
          have TXi := Lib.hid (TX.out i (by omega))
          obtain ⟨tq, htq⟩ : ∃ o : Obj, o = .cells #[.string (markT i), .string ⟨#[]⟩] 98 (0, 0) := ⟨_, rfl⟩
          have HTQ := Lib.hid htq
          clear htq
          have API := Lib.hid (fun k gv W (hk : k < 20) h => AP.out gs va i k gv W him hk h)
          go_wp2_with fail
          go_loopg [7, 8] 20 (fun g2 v7 v8 wr2 => ∃ (k : Nat) (gv : Value), gv = v7 ∧ v8 = .int .i64 (k : Int) ∧ k + g2 = 20 ∧ Hid (x.A3 gs va i k gv wr2))
          case atStart => exact ⟨0, _, rfl, rfl, by omega, S3⟩
          case round =>
            clear S3 SA b0 r0
            obtain ⟨k, gv, rfl, rfl, hk2, S3⟩ := hrel
            by_cases hk : k < 20
            · have kk : decide ((k : Int) < (20 : Int)) = true := by rw [decide_eq_true_iff]; omega
              go_wp2_with fail
              refine (TXi.out _).mono ?_
              rintro ev w2 ⟨rfl, hB⟩
              have S4 := (S3.out.next HG.out hB).next HG.out ((Below.refl _ _).alloc (Nat.le_refl _) tq)
              rw [HTQ.out] at S4
              obtain ⟨g, cap, w9, hr, S5⟩ := API.out k gv _ hk S4 1 ⟨w2.heap.size, 0, none⟩ (new_cells _ _ _ _ rfl)
              have S5 := Lib.hid S5
              clear hB S4 S3
              go_wp2_with (at_builtin; refine wp_tz 29 rfl _ _ rfl _ _ rfl rfl hr ?_)
              go_roundg (gk - 1)
              case measure => omega
              case rel => exact ⟨k + 1, _, rfl, by go_num, by omega, S5⟩
            · have kk : decide ((k : Int) < (20 : Int)) = false := by rw [decide_eq_false_iff_not]; omega
              obtain rfl : k = 20 := by omega
              obtain ⟨ao, cap, rfl⟩ := S3.out.gt.form
              generalize x.ns i + 20 = n20 at *
              have S4 := S3.out.next HG.out ((Below.refl _ _).alloc (Nat.le_refl _) (.cells #[.slice ao n20 cap] 29 (0, 0)))
              obtain ⟨i0, hi_, hz_⟩ := Option.map_eq_some_iff.1 K_Tags_ok.infoR
              simp only [Prod.mk.injEq] at hz_
              obtain ⟨hz0, hz1, hz2⟩ := hz_
              have hown := LA2.out _ _ _ _ S4.s
              have HS4 := Lib.hid S4
              clear S4 S3
              go_wp2_with (at_builtin; refine wpList_append_own _ rfl _ _ 54 rfl x.w.heap.size 29 i0 (.slice none 0 0) 1 24 Tryz.underlying54 hi_ hz0 hz1 hz2 rfl (by decide) _ _ _ rfl hown ⟨_, 0, none⟩ 1 1 [.slice ao n20 cap] rfl rfl ?c1 ?c2 ?c3 ?c4 ?c5 ?_)
              case c1 =>
                intro j u hj
                match j, hj with
                | 0, hj => simp at hj; subst hj; exact blk_cell' (heap_new' _ _ _ rfl) 0
              case c2 => intro u hu; simp at hu; subst hu; rfl
              case c3 => unfold maxLen; omega
              case c4 => omega
              case c5 => have := HS4.out.s.k.B.size; exact this
              intro va' w9 hown' hgrow _
              have S5 := Lib.hid (TN.out _ _ _ _ _ _ _ HS4.out hown' hgrow)
              clear hown hown' hgrow HS4
              go_wp2_with fail
              go_roundg (m - (i + 1))
              case measure => omega
              case rel => exact ⟨i + 1, _, _, rfl, by go_num, by omega, S5⟩
        · have kl : decide ((i : Int) < (m : Int)) = false := by rw [decide_eq_false_iff_not]; omega
          obtain rfl : i = m := by omega
          go_wp2_with fail
          go_meet
          case rel => exact ⟨gs, va, rfl, SA⟩
    case rest =>
      clear HD
      obtain ⟨gs, va, rfl, SA⟩ := hcut
      obtain ⟨ag, acap, rfl⟩ : ∃ g cap, va = .slice (some ⟨g, 0, none⟩) m cap := by
        rcases SA.out.a.2 with ⟨_, h0⟩ | ⟨g, cap, cur, hv, _⟩
        · omega
        · exact ⟨g, cap, hv⟩
      have LA : Hid (∀ W, x.A2 gs (.slice (some ⟨ag, 0, none⟩) m acap) m W → ∀ j, j < m → W.cell? ⟨ag, j, none⟩ = some (gs j)) := Lib.hid (fun W h j hj => by
        have := h.a.cells (g := ag) rfl j (gs j) (by simp [hj])
        rw [addF] at this; exact this)
      go_wp2_with fail
      go_loopg [9] m (fun gk v9 wr => ∃ i : Nat, v9 = .int .i64 (i : Int) ∧ i + gk = m ∧ Hid (x.A2 gs (.slice (some ⟨ag, 0, none⟩) m acap) m wr))
      case atStart => exact ⟨0, rfl, by omega, SA⟩
      case round =>
        clear SA
        obtain ⟨i, rfl, hi, SA⟩ := hrel
        by_cases him : i < m
        · have kl : decide ((i : Int) < (m : Int)) = true := by rw [decide_eq_true_iff]; omega
          have hni := hn.out i him
          have TXi := Lib.hid (TX.out i (by omega))
          obtain ⟨ao, cap, hv⟩ := (LT2.out _ _ _ i _ SA.out him).form
          obtain ⟨ao1, cap1, hv1⟩ := (LG2.out _ _ _ i _ SA.out him).form
          have LRi : Hid (∀ W : World, x.Keep W → W.cell? ⟨rg, i, none⟩ = some (.slice ao (x.ns i) cap)) := Lib.hid (fun W h => by rw [← hv]; exact LR.out W h i him)
          have LAi : Hid (∀ W : World, x.A2 gs (.slice (some ⟨ag, 0, none⟩) m acap) m W → W.cell? ⟨ag, i, none⟩ = some (.slice ao1 (x.ns i + 20) cap1)) := Lib.hid (fun W h => by rw [← hv1]; exact LA.out W h i him)
          have T0 : Hid (∀ W, x.A2 gs (.slice (some ⟨ag, 0, none⟩) m acap) m W → Tz K_Tags x.B (.slice ao (x.ns i) cap) (x.ns i) (fun _ cs => cs = [.string (markT i), .string ⟨#[]⟩]) W) := Lib.hid (fun W h => by rw [← hv]; exact LT2.out _ _ _ i W h him)
          have T1 : Hid (∀ W, x.A2 gs (.slice (some ⟨ag, 0, none⟩) m acap) m W → Tz K_Tags x.B (.slice ao1 (x.ns i + 20) cap1) (x.ns i + 20) (fun _ cs => cs = [.string (markT i), .string ⟨#[]⟩]) W) := Lib.hid (fun W h => by rw [← hv1]; exact LG2.out _ _ _ i W h him)
          clear hv hv1
          generalize x.ns i = n at *
          obtain ⟨n1, hn1⟩ : ∃ n1, n + 20 = n1 := ⟨_, rfl⟩
          rw [hn1] at LAi T1
          have hn1' : n1 ≤ 50000020 := by omega
          obtain ⟨g1, rfl, -⟩ := (T1.out _ SA.out).ptr (by omega)
          clear hn1
          have r0 := LAi.out _ SA.out
          go_wp2_with fail
          go_loopg [10] n1 (fun gk2 v10 wr2 => ∃ k : Nat, v10 = .int .i64 (k : Int) ∧ k + gk2 = n1 ∧ Hid (x.A2 gs (.slice (some ⟨ag, 0, none⟩) m acap) m wr2))
          case atStart => exact ⟨0, rfl, by omega, SA⟩
          case round =>
            clear SA r0
            obtain ⟨k, rfl, hk2, SA⟩ := hrel
            have r0 := LAi.out _ SA.out
            by_cases hk : k < n1
            · have kk : decide ((k : Int) < (n1 : Int)) = true := by rw [decide_eq_true_iff]; omega
              obtain ⟨c0, c1, hcs, ⟨z0, z1⟩, -⟩ := K_Tags_here (T1.out _ SA.out) hk
              simp only [List.cons.injEq, and_true] at hcs
              obtain ⟨rfl, rfl⟩ := hcs
              have SB := Lib.hid (SA.out.next HG.out ((Below.refl wr.heap.size wr).alloc (Nat.le_refl _) (.cells #[.string (markT i), .string ⟨#[]⟩] 98 (0, 0))))
              have q := heap_alloc_new wr (.cells #[.string (markT i), .string ⟨#[]⟩] 98 (0, 0))
              go_upto_region 25 with (fail)
              clear SA r0 z0 z1
              generalize wr.alloc (.cells #[.string (markT i), .string ⟨#[]⟩] 98 (0, 0)) = w3 at *
              generalize wr.heap.size = n3 at *
              have HQ := Lib.hid q
              have xk0 := blk_cell' (q) 0
              have xf0 := blk_free' (q) 0
              have xk1 := blk_cell' (q) 1
              have xf1 := blk_free' (q) 1
              clear q xf0 xf1
              go_region_with (go_at_call 77; refine (TXi.out _).mono ?_; rintro ev w2 ⟨rfl, hB⟩; have SC := Lib.hid (SB.out.next HG.out ((below_drewN (Below.refl _ _) 1).trans hB)); have q2 := below_blk ((below_drewN (Below.refl w3.heap.size w3) 1).trans hB) (blk_lt' HQ.out) HQ.out; have y0 := blk_cell' q2 0; have y1 := blk_cell' q2 1)
              all_goals clear xk0 xk1 y0 y1 q2 hB HQ SB
              all_goals go_wp2_with fail
              all_goals go_roundg (gk - 1)
              all_goals first | (case measure => omega) | skip
              all_goals exact ⟨k + 1, by go_num, by omega, SC⟩
            · have kk : decide ((k : Int) < (n1 : Int)) = false := by rw [decide_eq_false_iff_not]; omega
              have r1 := LRi.out _ SA.out.k
              have b0 := LF.out _ SA.out.k
              go_wp2_with fail
              go_loopg [12] n (fun gk2 v12 wr2 => ∃ k : Nat, v12 = .int .i64 (k : Int) ∧ k + gk2 = n ∧ Hid (x.A2 gs (.slice (some ⟨ag, 0, none⟩) m acap) m wr2))
              case atStart => exact ⟨0, rfl, by omega, SA⟩
              case round =>
                clear SA r0 r1 b0
                obtain ⟨k, rfl, hk2, SA⟩ := hrel
                have r0 := LRi.out _ SA.out.k
                have b0 := LF.out _ SA.out.k
                by_cases hk : k < n
                · have kk : decide ((k : Int) < (n : Int)) = true := by rw [decide_eq_true_iff]; omega
                  obtain ⟨g, rfl, -⟩ := (T0.out _ SA.out).ptr (by omega)
                  obtain ⟨c0, c1, hcs, ⟨z0, z1⟩, -⟩ := K_Tags_here (T0.out _ SA.out) hk
                  simp only [List.cons.injEq, and_true] at hcs
                  obtain ⟨rfl, rfl⟩ := hcs
                  have SB := Lib.hid (SA.out.next HG.out ((Below.refl wr.heap.size wr).alloc (Nat.le_refl _) (.cells #[.string (markT i), .string ⟨#[]⟩] 98 (0, 0))))
                  have q := heap_alloc_new wr (.cells #[.string (markT i), .string ⟨#[]⟩] 98 (0, 0))
                  go_upto_region 31 with (fail)
                  clear SA r0 b0 z0 z1
                  generalize wr.alloc (.cells #[.string (markT i), .string ⟨#[]⟩] 98 (0, 0)) = w3 at *
                  generalize wr.heap.size = n3 at *
                  have HQ := Lib.hid q
                  have xk0 := blk_cell' (q) 0
                  have xf0 := blk_free' (q) 0
                  have xk1 := blk_cell' (q) 1
                  have xf1 := blk_free' (q) 1
                  clear q xf0 xf1
                  go_region_with (go_at_call 77; refine (TXi.out _).mono ?_; rintro ev w2 ⟨rfl, hB⟩; have SC := Lib.hid (SB.out.next HG.out ((below_drewN (Below.refl _ _) 1).trans hB)); have q2 := below_blk ((below_drewN (Below.refl w3.heap.size w3) 1).trans hB) (blk_lt' HQ.out) HQ.out; have y0 := blk_cell' q2 0; have y1 := blk_cell' q2 1)
                  all_goals clear xk0 xk1 y0 y1 q2 hB HQ SB
                  all_goals go_wp2_with fail
                  all_goals go_roundg (gk - 1)
                  all_goals first | (case measure => omega) | skip
                  all_goals exact ⟨k + 1, by go_num, by omega, SC⟩
                · have kk : decide ((k : Int) < (n : Int)) = false := by rw [decide_eq_false_iff_not]; omega
                  go_wp2_with fail
                  go_roundg (m - (i + 1))
                  case measure => omega
                  case rel => exact ⟨i + 1, by go_num, by omega, SA⟩
        · have kl : decide ((i : Int) < (m : Int)) = false := by rw [decide_eq_false_iff_not]; omega
          go_wp2_with fail
          go_ret
          exact ⟨rfl, SA.out.k⟩
/-- Lists of api.Field. -/
def K_Fields : Kd := ⟨86, 30, 55, 2, 24, .agg #[.string ⟨#[]⟩, .int .i64 0], fun i _ cs => cs = [.string (markT i), .int .i64 0]⟩
theorem K_Fields_ok : K_Fields.Ok where
  u := Tryz.underlying30
  uu := Tryz.underlying55
  info := by kernel_rfl
  infoR := by kernel_rfl
  z0 := by decide
  zs := rfl
  b := by decide
  er := by decide
  len := by rintro i w cs rfl; rfl
  one := by rintro i w cs rfl u hu; simp at hu; rcases hu with rfl | rfl <;> rfl
  stay := fun i w w' cs row h _ _ => h
theorem K_Fields_here {B n cap g k : Nat} {W : World} {G : Nat → List Value → Prop} (h : Tz K_Fields B (.slice (some ⟨g, 0, none⟩) n cap) n G W) (hk : k < n) : ∃ c0 c1, G k [c0, c1] ∧ (W.cell? ⟨g, k * 2, none⟩ = some c0 ∧ W.cell? ⟨g, k * 2 + 1, none⟩ = some c1) ∧ W.frozen? ⟨g, k * 2, none⟩ = false ∧ W.frozen? ⟨g, k * 2 + 1, none⟩ = false := by
  obtain ⟨cs, hl, hc, hf, hG⟩ := h.here hk
  have hl : cs.length = 2 := hl
  match cs, hl with
  | [c0, c1], _ =>
    exact ⟨c0, c1, hG, ⟨hc 0 (by decide : 0 < 2), hc 1 (by decide : 1 < 2)⟩, ⟨hf _, hf _⟩⟩
set_option maxRecDepth 100000 in
set_option maxHeartbeats 4000000 in
theorem alone_Fields_some (x : Bx) (hg : x.Good) (hK : x.K = K_Fields) (rc : Nat) (hm0 : 0 < x.m)
    (cf : x.w.cell? ⟨x.b, 6, none⟩ = some (.slice (some ⟨x.rg, 0, none⟩) x.m rc))
    (crow : ∀ j, j < x.m → x.w.cell? ⟨x.rg, j, none⟩ = some (x.vs j))
    (hT : ∀ j, j < x.m → Tz x.K x.B (x.vs j) (x.ns j) (fun _ _ => True) x.w) :
    Calls Tryz.prog 54 #[.pointer (some ⟨x.b, 0, none⟩)] x.w fun e w' => e = .returned (.bool true) ∧ x.Keep w' := by
  have S0 : Hid (x.A1 0 0 x.w) := Lib.hid ⟨fun j hj => (hT j hj).imp (fun y cs _ _ hl => absurd hl (by omega)), fun k _ _ => rfl, Below.refl _ _⟩
  have HG := Lib.hid hg
  have HK := Lib.hid hK
  have hm : x.m ≤ 50000000 := hg.m
  have hn : Hid (∀ j, j < x.m → x.ns j ≤ 50000000) := Lib.hid hg.n
  have TX := Lib.hid (fun (i : Nat) (hi : i ≤ 9223372036854775807) W => mem_text i hi W)
  have LF : Hid (∀ W : World, x.Keep W → W.cell? ⟨x.b, 6, none⟩ = some (.slice (some ⟨x.rg, 0, none⟩) x.m rc)) := Lib.hid (fun W h => (cell_same (h.b hg) _).trans cf)
  have LR : Hid (∀ W : World, x.Keep W → ∀ j, j < x.m → W.cell? ⟨x.rg, j, none⟩ = some (x.vs j)) := Lib.hid (fun W h j hj => (cell_same (h.r hg) _).trans (crow j hj))
  -- the memory laws, with the kind written out
  have LT1 : Hid (∀ i k j W, x.A1 i k W → j < x.m → Tz K_Fields x.B (x.vs j) (x.ns j) (fun _ _ => True) W) := Lib.hid (fun i k j W h hj => by
    have h2 := (h.t j hj).imp (G' := fun _ _ => True) (fun _ _ _ _ => trivial)
    rw [hK] at h2; exact h2)
  have ST : Hid (∀ i k g cap W, i < x.m → k < x.ns i → x.vs i = .slice (some ⟨g, 0, none⟩) (x.ns i) cap → x.A1 i k W → x.A1 i (k + 1) ((W.setCell ⟨g, k * 2, none⟩ (.string (markT i))).setCell ⟨g, k * 2 + 1, none⟩ (.int .i64 0))) := Lib.hid (fun i k g cap W hi hk hv h => by
    have h2 := h.set hg hi hk hv [.string (markT i), .int .i64 0] (by rw [hK]; rfl)
    rw [hK] at h2; exact h2)
  have LT2 : Hid (∀ gs va m j W, x.A2 gs va m W → j < x.m → Tz K_Fields x.B (x.vs j) (x.ns j) (fun _ cs => K_Fields.M j W cs) W) := Lib.hid (fun gs va m j W h hj => by
    have h2 := h.t j hj
    rw [hK] at h2; exact h2)
  have LG2 : Hid (∀ gs va m j W, x.A2 gs va m W → j < m → Tz K_Fields x.B (gs j) (x.ns j + 20) (fun _ cs => K_Fields.M j W cs) W) := Lib.hid (fun gs va m j W h hj => by
    have h2 := h.g j hj
    rw [hK] at h2; exact h2)
  have LA2 : Hid (∀ gs va m W, x.A2 gs va m W → W.ownsRow x.w.heap.size 30 1 va m ((List.range m).map gs)) := Lib.hid (fun gs va m W h => by
    have h2 := h.a
    rw [hK] at h2; exact h2)
  have AP : Hid (∀ gs va i k gv W, i < x.m → k < 20 → x.A3 gs va i k gv W → ∀ (c : Nat) (a : Addr), (∀ j u, ([.string (markT i), .int .i64 0] : List Value)[j]? = some u → W.cell? (a.add j) = some u) → ∃ g cap w9, (Builtin.append_ #[30, 30] 30 #[gv, .slice (some a) 1 c]).run Tryz.prog W = .ok (.slice (some ⟨g, 0, none⟩) (x.ns i + k + 1) cap) w9 ∧ x.A3 gs va i (k + 1) (.slice (some ⟨g, 0, none⟩) (x.ns i + k + 1) cap) w9) := Lib.hid (fun gs va i k gv W hi hk h c a hn2 => by
    have hM : x.K.M i W [.string (markT i), .int .i64 0] := by rw [hK]; rfl
    obtain ⟨g, cap, w9, hr, hkk, hw, hor⟩ := tz_append (G' := fun _ cs => x.K.M i W cs) hg.K.ap 30 h.gt (Nat.le_trans hg.Bl h.s.k.B.size) (by have := hg.n i hi; omega) [.string (markT i), .int .i64 0] (hg.K.len _ _ _ hM) (hg.K.one _ _ _ hM) a c hn2 (fun _ _ _ hm => hm) hM
    rw [hK] at hr
    exact ⟨g, cap, w9, hr, h.app hg hi hkk hw hor⟩)
  have TN : Hid (∀ gs va i gv W w9 va', x.A3 gs va i 20 gv W → w9.ownsRow x.w.heap.size 30 1 va' (i + 1) ((List.range i).map gs ++ [gv]) → W.grownBy w9 va.ownBlock → x.A2 (fun j => if j = i then gv else gs j) va' (i + 1) w9) := Lib.hid (fun gs va i gv W w9 va' h ho hw => h.turn hg (by rw [hK]; exact ho) hw)
  clear hT cf crow hg hK
  obtain ⟨m, hmm⟩ : ∃ m, x.m = m := ⟨_, rfl⟩
  obtain ⟨b, hbb⟩ : ∃ b, x.b = b := ⟨_, rfl⟩
  obtain ⟨rg, hrg⟩ : ∃ rg, x.rg = rg := ⟨_, rfl⟩
  rw [hmm] at hm hm0 LF LR hn LT1 ST LT2 AP
  rw [hbb] at LF ⊢
  rw [hrg] at LF LR
  have HM := Lib.hid hmm
  clear hmm hbb hrg
  obtain ⟨w, hw⟩ : ∃ w, x.w = w := ⟨_, rfl⟩
  rw [hw] at S0 ⊢
  have HW := Lib.hid hw
  clear hw
  go_enter Tryz.func54, Tryz.ntmps54
  go_upto_block 0 with (fail)
  go_cut [3] (fun v3 wc => Hid (x.A1 m 0 wc))
  case first =>
    go_wp2_with fail
    go_loopg [3] m (fun gk v3 wr => ∃ i : Nat, v3 = .int .i64 (i : Int) ∧ i + gk = m ∧ Hid (x.A1 i 0 wr))
    case atStart => exact ⟨0, rfl, by omega, S0⟩
    case round =>
      clear S0
      obtain ⟨i, rfl, hi, SA⟩ := hrel
      have b0 := LF.out _ SA.out.k
      by_cases him : i < m
      · have kl : decide ((i : Int) < (m : Int)) = true := by rw [decide_eq_true_iff]; omega
        have r0 := LR.out _ SA.out.k i him
        have hni := hn.out i him
        obtain ⟨ao, cap, hv⟩ := (LT1.out i 0 i _ SA.out him).form
        rw [hv] at r0
        have TI : Hid (∀ k W, x.A1 i k W → Tz K_Fields x.B (.slice ao (x.ns i) cap) (x.ns i) (fun _ _ => True) W) := Lib.hid (fun k W h => by rw [← hv]; exact LT1.out i k i W h him)
        have LRi : Hid (∀ W : World, x.Keep W → W.cell? ⟨rg, i, none⟩ = some (.slice ao (x.ns i) cap)) := Lib.hid (fun W h => by rw [← hv]; exact LR.out W h i him)
        have TU : Hid (∀ W, x.A1 i (x.ns i) W → x.A1 (i + 1) 0 W) := Lib.hid (fun W h => h.turn)
        have STi : Hid (∀ k g W, ao = some ⟨g, 0, none⟩ → k < x.ns i → x.A1 i k W → x.A1 i (k + 1) ((W.setCell ⟨g, k * 2, none⟩ (.string (markT i))).setCell ⟨g, k * 2 + 1, none⟩ (.int .i64 0))) := Lib.hid (fun k g W e hk h => ST.out i k g cap W him hk (by rw [hv, e]) h)
        clear hv
        generalize x.ns i = n at *
        go_wp2_with fail
        go_loopg [4] n (fun gk2 v4 wr2 => ∃ k : Nat, v4 = .int .i64 (k : Int) ∧ k + gk2 = n ∧ Hid (x.A1 i k wr2))
        case atStart => exact ⟨0, rfl, by omega, SA⟩
        case round =>
          clear SA b0 r0
          obtain ⟨k, rfl, hk2, SA⟩ := hrel
          have b0 := LF.out _ SA.out.k
          have r0 := LRi.out _ SA.out.k
          by_cases hk : k < n
          · have kk : decide ((k : Int) < (n : Int)) = true := by rw [decide_eq_true_iff]; omega
            obtain ⟨g, rfl, hBg⟩ := (TI.out k _ SA.out).ptr (by omega)
            have TXi := Lib.hid (TX.out i (by omega))
            go_upto_region 7 with (fail)
            go_region_with (go_at_call 77; refine (TXi.out _).mono ?_; rintro ev w2 ⟨rfl, hB⟩; have SB := Lib.hid (SA.out.next HG.out ((below_drewN (Below.refl _ _) 1).trans hB)); have b1 := LF.out _ SB.out.k; have r1 := LRi.out _ SB.out.k; obtain ⟨c0, c1, -, ⟨z0, z1⟩, y0, y1⟩ := K_Fields_here (TI.out k _ SB.out) hk)
            all_goals (have S2 := Lib.hid (STi.out k g _ rfl hk SB.out); clear b1 r1 z0 z1 y0 y1 hB SB b0 r0 SA)
            all_goals go_wp2_with fail
            all_goals go_roundg (gk - 1)
            all_goals first | (case measure => omega) | skip
            all_goals exact ⟨k + 1, by go_num, by omega, S2⟩
          · have kk : decide ((k : Int) < (n : Int)) = false := by rw [decide_eq_false_iff_not]; omega
            obtain rfl : k = n := by omega
            have S2 := Lib.hid (TU.out _ SA.out)
            go_wp2_with fail
            go_roundg (m - (i + 1))
            case measure => omega
            case rel => exact ⟨i + 1, by go_num, by omega, S2⟩
      · have kl : decide ((i : Int) < (m : Int)) = false := by rw [decide_eq_false_iff_not]; omega
        obtain rfl : i = m := by omega
        go_wp2_with fail
        go_meet
        case rel => exact SA
  case rest =>
    clear S0
    have HD := Lib.hid ((show x.A1 x.m 0 wc from by rw [HM.out]; exact hcut.out).done (fun _ => .slice none 0 0))
    go_upto_block 4 with (fail)
    go_cut [5] (fun v5 wc2 => ∃ gs va, va = v5 ∧ Hid (x.A2 gs va m wc2))
    case first =>
      go_wp2_with fail
      go_loopg [5, 6] m (fun gk v5 v6 wr => ∃ (i : Nat) (gs : Nat → Value) (va : Value), va = v5 ∧ v6 = .int .i64 (i : Int) ∧ i + gk = m ∧ Hid (x.A2 gs va i wr))
      case atStart => exact ⟨0, _, _, rfl, rfl, by omega, HD⟩
      case round =>
        clear HD
        obtain ⟨i, gs, va, rfl, rfl, hi, SA⟩ := hrel
        have b0 := LF.out _ SA.out.k
        by_cases him : i < m
        · have kl : decide ((i : Int) < (m : Int)) = true := by rw [decide_eq_true_iff]; omega
          have r0 := LR.out _ SA.out.k i him
          have hni := hn.out i him
          have S3 := Lib.hid (Bx.A3.start SA.out HG.out (by rw [HM.out]; exact him))
          have TXi := Lib.hid (TX.out i (by omega))
          obtain ⟨tq, htq⟩ : ∃ o : Obj, o = .cells #[.string (markT i), .int .i64 0] 86 (0, 0) := ⟨_, rfl⟩
          have HTQ := Lib.hid htq
          clear htq
          have API := Lib.hid (fun k gv W (hk : k < 20) h => AP.out gs va i k gv W him hk h)
          go_wp2_with fail
          go_loopg [7, 8] 20 (fun g2 v7 v8 wr2 => ∃ (k : Nat) (gv : Value), gv = v7 ∧ v8 = .int .i64 (k : Int) ∧ k + g2 = 20 ∧ Hid (x.A3 gs va i k gv wr2))
          case atStart => exact ⟨0, _, rfl, rfl, by omega, S3⟩
          case round =>
            clear S3 SA b0 r0
            obtain ⟨k, gv, rfl, rfl, hk2, S3⟩ := hrel
            by_cases hk : k < 20
            · have kk : decide ((k : Int) < (20 : Int)) = true := by rw [decide_eq_true_iff]; omega
              go_wp2_with fail
              refine (TXi.out _).mono ?_
              rintro ev w2 ⟨rfl, hB⟩
              have S4 := (S3.out.next HG.out hB).next HG.out ((Below.refl _ _).alloc (Nat.le_refl _) tq)
              rw [HTQ.out] at S4
              obtain ⟨g, cap, w9, hr, S5⟩ := API.out k gv _ hk S4 1 ⟨w2.heap.size, 0, none⟩ (new_cells _ _ _ _ rfl)
              have S5 := Lib.hid S5
              clear hB S4 S3
              go_wp2_with (at_builtin; refine wp_tz 30 rfl _ _ rfl _ _ rfl rfl hr ?_)
              go_roundg (gk - 1)
              case measure => omega
              case rel => exact ⟨k + 1, _, rfl, by go_num, by omega, S5⟩
            · have kk : decide ((k : Int) < (20 : Int)) = false := by rw [decide_eq_false_iff_not]; omega
              obtain rfl : k = 20 := by omega
              obtain ⟨ao, cap, rfl⟩ := S3.out.gt.form
              generalize x.ns i + 20 = n20 at *
              have S4 := S3.out.next HG.out ((Below.refl _ _).alloc (Nat.le_refl _) (.cells #[.slice ao n20 cap] 30 (0, 0)))
              obtain ⟨i0, hi_, hz_⟩ := Option.map_eq_some_iff.1 K_Fields_ok.infoR
              simp only [Prod.mk.injEq] at hz_
              obtain ⟨hz0, hz1, hz2⟩ := hz_
              have hown := LA2.out _ _ _ _ S4.s
              have HS4 := Lib.hid S4
              clear S4 S3
              go_wp2_with (at_builtin; refine wpList_append_own _ rfl _ _ 55 rfl x.w.heap.size 30 i0 (.slice none 0 0) 1 24 Tryz.underlying55 hi_ hz0 hz1 hz2 rfl (by decide) _ _ _ rfl hown ⟨_, 0, none⟩ 1 1 [.slice ao n20 cap] rfl rfl ?c1 ?c2 ?c3 ?c4 ?c5 ?_)
              case c1 =>
                intro j u hj
                match j, hj with
                | 0, hj => simp at hj; subst hj; exact blk_cell' (heap_new' _ _ _ rfl) 0
              case c2 => intro u hu; simp at hu; subst hu; rfl
              case c3 => unfold maxLen; omega
              case c4 => omega
              case c5 => have := HS4.out.s.k.B.size; exact this
              intro va' w9 hown' hgrow _
              have S5 := Lib.hid (TN.out _ _ _ _ _ _ _ HS4.out hown' hgrow)
              clear hown hown' hgrow HS4
              go_wp2_with fail
              go_roundg (m - (i + 1))
              case measure => omega
              case rel => exact ⟨i + 1, _, _, rfl, by go_num, by omega, S5⟩
        · have kl : decide ((i : Int) < (m : Int)) = false := by rw [decide_eq_false_iff_not]; omega
          obtain rfl : i = m := by omega
          go_wp2_with fail
          go_meet
          case rel => exact ⟨gs, va, rfl, SA⟩
    case rest =>
      clear HD
      obtain ⟨gs, va, rfl, SA⟩ := hcut
      obtain ⟨ag, acap, rfl⟩ : ∃ g cap, va = .slice (some ⟨g, 0, none⟩) m cap := by
        rcases SA.out.a.2 with ⟨_, h0⟩ | ⟨g, cap, cur, hv, _⟩
        · omega
        · exact ⟨g, cap, hv⟩
      have LA : Hid (∀ W, x.A2 gs (.slice (some ⟨ag, 0, none⟩) m acap) m W → ∀ j, j < m → W.cell? ⟨ag, j, none⟩ = some (gs j)) := Lib.hid (fun W h j hj => by
        have := h.a.cells (g := ag) rfl j (gs j) (by simp [hj])
        rw [addF] at this; exact this)
      go_wp2_with fail
      go_loopg [9] m (fun gk v9 wr => ∃ i : Nat, v9 = .int .i64 (i : Int) ∧ i + gk = m ∧ Hid (x.A2 gs (.slice (some ⟨ag, 0, none⟩) m acap) m wr))
      case atStart => exact ⟨0, rfl, by omega, SA⟩
      case round =>
        clear SA
        obtain ⟨i, rfl, hi, SA⟩ := hrel
        by_cases him : i < m
        · have kl : decide ((i : Int) < (m : Int)) = true := by rw [decide_eq_true_iff]; omega
          have hni := hn.out i him
          have TXi := Lib.hid (TX.out i (by omega))
          obtain ⟨ao, cap, hv⟩ := (LT2.out _ _ _ i _ SA.out him).form
          obtain ⟨ao1, cap1, hv1⟩ := (LG2.out _ _ _ i _ SA.out him).form
          have LRi : Hid (∀ W : World, x.Keep W → W.cell? ⟨rg, i, none⟩ = some (.slice ao (x.ns i) cap)) := Lib.hid (fun W h => by rw [← hv]; exact LR.out W h i him)
          have LAi : Hid (∀ W : World, x.A2 gs (.slice (some ⟨ag, 0, none⟩) m acap) m W → W.cell? ⟨ag, i, none⟩ = some (.slice ao1 (x.ns i + 20) cap1)) := Lib.hid (fun W h => by rw [← hv1]; exact LA.out W h i him)
          have T0 : Hid (∀ W, x.A2 gs (.slice (some ⟨ag, 0, none⟩) m acap) m W → Tz K_Fields x.B (.slice ao (x.ns i) cap) (x.ns i) (fun _ cs => cs = [.string (markT i), .int .i64 0]) W) := Lib.hid (fun W h => by rw [← hv]; exact LT2.out _ _ _ i W h him)
          have T1 : Hid (∀ W, x.A2 gs (.slice (some ⟨ag, 0, none⟩) m acap) m W → Tz K_Fields x.B (.slice ao1 (x.ns i + 20) cap1) (x.ns i + 20) (fun _ cs => cs = [.string (markT i), .int .i64 0]) W) := Lib.hid (fun W h => by rw [← hv1]; exact LG2.out _ _ _ i W h him)
          clear hv hv1
          generalize x.ns i = n at *
          obtain ⟨n1, hn1⟩ : ∃ n1, n + 20 = n1 := ⟨_, rfl⟩
          rw [hn1] at LAi T1
          have hn1' : n1 ≤ 50000020 := by omega
          obtain ⟨g1, rfl, -⟩ := (T1.out _ SA.out).ptr (by omega)
          clear hn1
          have r0 := LAi.out _ SA.out
          go_wp2_with fail
          go_loopg [10] n1 (fun gk2 v10 wr2 => ∃ k : Nat, v10 = .int .i64 (k : Int) ∧ k + gk2 = n1 ∧ Hid (x.A2 gs (.slice (some ⟨ag, 0, none⟩) m acap) m wr2))
          case atStart => exact ⟨0, rfl, by omega, SA⟩
          case round =>
            clear SA r0
            obtain ⟨k, rfl, hk2, SA⟩ := hrel
            have r0 := LAi.out _ SA.out
            by_cases hk : k < n1
            · have kk : decide ((k : Int) < (n1 : Int)) = true := by rw [decide_eq_true_iff]; omega
              obtain ⟨c0, c1, hcs, ⟨z0, z1⟩, -⟩ := K_Fields_here (T1.out _ SA.out) hk
              simp only [List.cons.injEq, and_true] at hcs
              obtain ⟨rfl, rfl⟩ := hcs
              have SB := Lib.hid (SA.out.next HG.out ((Below.refl wr.heap.size wr).alloc (Nat.le_refl _) (.cells #[.string (markT i), .int .i64 0] 86 (0, 0))))
              have q := heap_alloc_new wr (.cells #[.string (markT i), .int .i64 0] 86 (0, 0))
              go_upto_region 25 with (fail)
              clear SA r0 z0 z1
              generalize wr.alloc (.cells #[.string (markT i), .int .i64 0] 86 (0, 0)) = w3 at *
              generalize wr.heap.size = n3 at *
              have HQ := Lib.hid q
              have xk0 := blk_cell' (q) 0
              have xf0 := blk_free' (q) 0
              have xk1 := blk_cell' (q) 1
              have xf1 := blk_free' (q) 1
              clear q xf0 xf1
              go_region_with (go_at_call 77; refine (TXi.out _).mono ?_; rintro ev w2 ⟨rfl, hB⟩; have SC := Lib.hid (SB.out.next HG.out ((below_drewN (Below.refl _ _) 1).trans hB)); have q2 := below_blk ((below_drewN (Below.refl w3.heap.size w3) 1).trans hB) (blk_lt' HQ.out) HQ.out; have y0 := blk_cell' q2 0; have y1 := blk_cell' q2 1)
              all_goals clear xk0 xk1 y0 y1 q2 hB HQ SB
              all_goals go_wp2_with fail
              all_goals go_roundg (gk - 1)
              all_goals first | (case measure => omega) | skip
              all_goals exact ⟨k + 1, by go_num, by omega, SC⟩
            · have kk : decide ((k : Int) < (n1 : Int)) = false := by rw [decide_eq_false_iff_not]; omega
              have r1 := LRi.out _ SA.out.k
              have b0 := LF.out _ SA.out.k
              go_wp2_with fail
              go_loopg [12] n (fun gk2 v12 wr2 => ∃ k : Nat, v12 = .int .i64 (k : Int) ∧ k + gk2 = n ∧ Hid (x.A2 gs (.slice (some ⟨ag, 0, none⟩) m acap) m wr2))
              case atStart => exact ⟨0, rfl, by omega, SA⟩
              case round =>
                clear SA r0 r1 b0
                obtain ⟨k, rfl, hk2, SA⟩ := hrel
                have r0 := LRi.out _ SA.out.k
                have b0 := LF.out _ SA.out.k
                by_cases hk : k < n
                · have kk : decide ((k : Int) < (n : Int)) = true := by rw [decide_eq_true_iff]; omega
                  obtain ⟨g, rfl, -⟩ := (T0.out _ SA.out).ptr (by omega)
                  obtain ⟨c0, c1, hcs, ⟨z0, z1⟩, -⟩ := K_Fields_here (T0.out _ SA.out) hk
                  simp only [List.cons.injEq, and_true] at hcs
                  obtain ⟨rfl, rfl⟩ := hcs
                  have SB := Lib.hid (SA.out.next HG.out ((Below.refl wr.heap.size wr).alloc (Nat.le_refl _) (.cells #[.string (markT i), .int .i64 0] 86 (0, 0))))
                  have q := heap_alloc_new wr (.cells #[.string (markT i), .int .i64 0] 86 (0, 0))
                  go_upto_region 31 with (fail)
                  clear SA r0 b0 z0 z1
                  generalize wr.alloc (.cells #[.string (markT i), .int .i64 0] 86 (0, 0)) = w3 at *
                  generalize wr.heap.size = n3 at *
                  have HQ := Lib.hid q
                  have xk0 := blk_cell' (q) 0
                  have xf0 := blk_free' (q) 0
                  have xk1 := blk_cell' (q) 1
                  have xf1 := blk_free' (q) 1
                  clear q xf0 xf1
                  go_region_with (go_at_call 77; refine (TXi.out _).mono ?_; rintro ev w2 ⟨rfl, hB⟩; have SC := Lib.hid (SB.out.next HG.out ((below_drewN (Below.refl _ _) 1).trans hB)); have q2 := below_blk ((below_drewN (Below.refl w3.heap.size w3) 1).trans hB) (blk_lt' HQ.out) HQ.out; have y0 := blk_cell' q2 0; have y1 := blk_cell' q2 1)
                  all_goals clear xk0 xk1 y0 y1 q2 hB HQ SB
                  all_goals go_wp2_with fail
                  all_goals go_roundg (gk - 1)
                  all_goals first | (case measure => omega) | skip
                  all_goals exact ⟨k + 1, by go_num, by omega, SC⟩
                · have kk : decide ((k : Int) < (n : Int)) = false := by rw [decide_eq_false_iff_not]; omega
                  go_wp2_with fail
                  go_roundg (m - (i + 1))
                  case measure => omega
                  case rel => exact ⟨i + 1, by go_num, by omega, SA⟩
        · have kl : decide ((i : Int) < (m : Int)) = false := by rw [decide_eq_false_iff_not]; omega
          go_wp2_with fail
          go_ret
          exact ⟨rfl, SA.out.k⟩
/-- Lists of api.Point. -/
def K_Points : Kd := ⟨32, 22, 66, 4, 72, .agg #[.string ⟨#[]⟩, .slice none 0 0, .slice none 0 0, .int .i64 0], fun i _ cs => cs = [.string (markT i), .slice none 0 0, .slice none 0 0, .int .i64 0]⟩
theorem K_Points_ok : K_Points.Ok where
  u := Tryz.underlying22
  uu := Tryz.underlying66
  info := by kernel_rfl
  infoR := by kernel_rfl
  z0 := by decide
  zs := rfl
  b := by decide
  er := by decide
  len := by rintro i w cs rfl; rfl
  one := by rintro i w cs rfl u hu; simp at hu; rcases hu with rfl | rfl | rfl <;> rfl
  stay := fun i w w' cs row h _ _ => h
theorem K_Points_here {B n cap g k : Nat} {W : World} {G : Nat → List Value → Prop} (h : Tz K_Points B (.slice (some ⟨g, 0, none⟩) n cap) n G W) (hk : k < n) : ∃ c0 c1 c2 c3, G k [c0, c1, c2, c3] ∧ (W.cell? ⟨g, k * 4, none⟩ = some c0 ∧ W.cell? ⟨g, k * 4 + 1, none⟩ = some c1 ∧ W.cell? ⟨g, k * 4 + 2, none⟩ = some c2 ∧ W.cell? ⟨g, k * 4 + 3, none⟩ = some c3) ∧ W.frozen? ⟨g, k * 4, none⟩ = false ∧ W.frozen? ⟨g, k * 4 + 1, none⟩ = false ∧ W.frozen? ⟨g, k * 4 + 2, none⟩ = false ∧ W.frozen? ⟨g, k * 4 + 3, none⟩ = false := by
  obtain ⟨cs, hl, hc, hf, hG⟩ := h.here hk
  have hl : cs.length = 4 := hl
  match cs, hl with
  | [c0, c1, c2, c3], _ =>
    exact ⟨c0, c1, c2, c3, hG, ⟨hc 0 (by decide : 0 < 4), hc 1 (by decide : 1 < 4), hc 2 (by decide : 2 < 4), hc 3 (by decide : 3 < 4)⟩, ⟨hf _, hf _, hf _, hf _⟩⟩
set_option maxRecDepth 100000 in
set_option maxHeartbeats 4000000 in
theorem alone_Points_some (x : Bx) (hg : x.Good) (hK : x.K = K_Points) (rc : Nat) (hm0 : 0 < x.m)
    (cf : x.w.cell? ⟨x.b, 17, none⟩ = some (.slice (some ⟨x.rg, 0, none⟩) x.m rc))
    (crow : ∀ j, j < x.m → x.w.cell? ⟨x.rg, j, none⟩ = some (x.vs j))
    (hT : ∀ j, j < x.m → Tz x.K x.B (x.vs j) (x.ns j) (fun _ _ => True) x.w) :
    Calls Tryz.prog 65 #[.pointer (some ⟨x.b, 0, none⟩)] x.w fun e w' => e = .returned (.bool true) ∧ x.Keep w' := by
  have S0 : Hid (x.A1 0 0 x.w) := Lib.hid ⟨fun j hj => (hT j hj).imp (fun y cs _ _ hl => absurd hl (by omega)), fun k _ _ => rfl, Below.refl _ _⟩
  have HG := Lib.hid hg
  have HK := Lib.hid hK
  have hm : x.m ≤ 50000000 := hg.m
  have hn : Hid (∀ j, j < x.m → x.ns j ≤ 50000000) := Lib.hid hg.n
  have TX := Lib.hid (fun (i : Nat) (hi : i ≤ 9223372036854775807) W => mem_text i hi W)
  have LF : Hid (∀ W : World, x.Keep W → W.cell? ⟨x.b, 17, none⟩ = some (.slice (some ⟨x.rg, 0, none⟩) x.m rc)) := Lib.hid (fun W h => (cell_same (h.b hg) _).trans cf)
  have LR : Hid (∀ W : World, x.Keep W → ∀ j, j < x.m → W.cell? ⟨x.rg, j, none⟩ = some (x.vs j)) := Lib.hid (fun W h j hj => (cell_same (h.r hg) _).trans (crow j hj))
  -- the memory laws, with the kind written out
  have LT1 : Hid (∀ i k j W, x.A1 i k W → j < x.m → Tz K_Points x.B (x.vs j) (x.ns j) (fun _ _ => True) W) := Lib.hid (fun i k j W h hj => by
    have h2 := (h.t j hj).imp (G' := fun _ _ => True) (fun _ _ _ _ => trivial)
    rw [hK] at h2; exact h2)
  have ST : Hid (∀ i k g cap W, i < x.m → k < x.ns i → x.vs i = .slice (some ⟨g, 0, none⟩) (x.ns i) cap → x.A1 i k W → x.A1 i (k + 1) ((((W.setCell ⟨g, k * 4, none⟩ (.string (markT i))).setCell ⟨g, k * 4 + 1, none⟩ (.slice none 0 0)).setCell ⟨g, k * 4 + 2, none⟩ (.slice none 0 0)).setCell ⟨g, k * 4 + 3, none⟩ (.int .i64 0))) := Lib.hid (fun i k g cap W hi hk hv h => by
    have h2 := h.set hg hi hk hv [.string (markT i), .slice none 0 0, .slice none 0 0, .int .i64 0] (by rw [hK]; rfl)
    rw [hK] at h2; exact h2)
  have LT2 : Hid (∀ gs va m j W, x.A2 gs va m W → j < x.m → Tz K_Points x.B (x.vs j) (x.ns j) (fun _ cs => K_Points.M j W cs) W) := Lib.hid (fun gs va m j W h hj => by
    have h2 := h.t j hj
    rw [hK] at h2; exact h2)
  have LG2 : Hid (∀ gs va m j W, x.A2 gs va m W → j < m → Tz K_Points x.B (gs j) (x.ns j + 20) (fun _ cs => K_Points.M j W cs) W) := Lib.hid (fun gs va m j W h hj => by
    have h2 := h.g j hj
    rw [hK] at h2; exact h2)
  have LA2 : Hid (∀ gs va m W, x.A2 gs va m W → W.ownsRow x.w.heap.size 22 1 va m ((List.range m).map gs)) := Lib.hid (fun gs va m W h => by
    have h2 := h.a
    rw [hK] at h2; exact h2)
  have AP : Hid (∀ gs va i k gv W, i < x.m → k < 20 → x.A3 gs va i k gv W → ∀ (c : Nat) (a : Addr), (∀ j u, ([.string (markT i), .slice none 0 0, .slice none 0 0, .int .i64 0] : List Value)[j]? = some u → W.cell? (a.add j) = some u) → ∃ g cap w9, (Builtin.append_ #[22, 22] 22 #[gv, .slice (some a) 1 c]).run Tryz.prog W = .ok (.slice (some ⟨g, 0, none⟩) (x.ns i + k + 1) cap) w9 ∧ x.A3 gs va i (k + 1) (.slice (some ⟨g, 0, none⟩) (x.ns i + k + 1) cap) w9) := Lib.hid (fun gs va i k gv W hi hk h c a hn2 => by
    have hM : x.K.M i W [.string (markT i), .slice none 0 0, .slice none 0 0, .int .i64 0] := by rw [hK]; rfl
    obtain ⟨g, cap, w9, hr, hkk, hw, hor⟩ := tz_append (G' := fun _ cs => x.K.M i W cs) hg.K.ap 22 h.gt (Nat.le_trans hg.Bl h.s.k.B.size) (by have := hg.n i hi; omega) [.string (markT i), .slice none 0 0, .slice none 0 0, .int .i64 0] (hg.K.len _ _ _ hM) (hg.K.one _ _ _ hM) a c hn2 (fun _ _ _ hm => hm) hM
    rw [hK] at hr
    exact ⟨g, cap, w9, hr, h.app hg hi hkk hw hor⟩)
  have TN : Hid (∀ gs va i gv W w9 va', x.A3 gs va i 20 gv W → w9.ownsRow x.w.heap.size 22 1 va' (i + 1) ((List.range i).map gs ++ [gv]) → W.grownBy w9 va.ownBlock → x.A2 (fun j => if j = i then gv else gs j) va' (i + 1) w9) := Lib.hid (fun gs va i gv W w9 va' h ho hw => h.turn hg (by rw [hK]; exact ho) hw)
  clear hT cf crow hg hK
  obtain ⟨m, hmm⟩ : ∃ m, x.m = m := ⟨_, rfl⟩
  obtain ⟨b, hbb⟩ : ∃ b, x.b = b := ⟨_, rfl⟩
  obtain ⟨rg, hrg⟩ : ∃ rg, x.rg = rg := ⟨_, rfl⟩
  rw [hmm] at hm hm0 LF LR hn LT1 ST LT2 AP
  rw [hbb] at LF ⊢
  rw [hrg] at LF LR
  have HM := Lib.hid hmm
  clear hmm hbb hrg
  obtain ⟨w, hw⟩ : ∃ w, x.w = w := ⟨_, rfl⟩
  rw [hw] at S0 ⊢
  have HW := Lib.hid hw
  clear hw
  go_enter Tryz.func65, Tryz.ntmps65
  go_upto_block 0 with (fail)
  go_cut [3] (fun v3 wc => Hid (x.A1 m 0 wc))
  case first =>
    go_wp2_with fail
    go_loopg [3] m (fun gk v3 wr => ∃ i : Nat, v3 = .int .i64 (i : Int) ∧ i + gk = m ∧ Hid (x.A1 i 0 wr))
    case atStart => exact ⟨0, rfl, by omega, S0⟩
    case round =>
      clear S0
      obtain ⟨i, rfl, hi, SA⟩ := hrel
      have b0 := LF.out _ SA.out.k
      by_cases him : i < m
      · have kl : decide ((i : Int) < (m : Int)) = true := by rw [decide_eq_true_iff]; omega
        have r0 := LR.out _ SA.out.k i him
        have hni := hn.out i him
        obtain ⟨ao, cap, hv⟩ := (LT1.out i 0 i _ SA.out him).form
        rw [hv] at r0
        have TI : Hid (∀ k W, x.A1 i k W → Tz K_Points x.B (.slice ao (x.ns i) cap) (x.ns i) (fun _ _ => True) W) := Lib.hid (fun k W h => by rw [← hv]; exact LT1.out i k i W h him)
        have LRi : Hid (∀ W : World, x.Keep W → W.cell? ⟨rg, i, none⟩ = some (.slice ao (x.ns i) cap)) := Lib.hid (fun W h => by rw [← hv]; exact LR.out W h i him)
        have TU : Hid (∀ W, x.A1 i (x.ns i) W → x.A1 (i + 1) 0 W) := Lib.hid (fun W h => h.turn)
        have STi : Hid (∀ k g W, ao = some ⟨g, 0, none⟩ → k < x.ns i → x.A1 i k W → x.A1 i (k + 1) ((((W.setCell ⟨g, k * 4, none⟩ (.string (markT i))).setCell ⟨g, k * 4 + 1, none⟩ (.slice none 0 0)).setCell ⟨g, k * 4 + 2, none⟩ (.slice none 0 0)).setCell ⟨g, k * 4 + 3, none⟩ (.int .i64 0))) := Lib.hid (fun k g W e hk h => ST.out i k g cap W him hk (by rw [hv, e]) h)
        clear hv
        generalize x.ns i = n at *
        go_wp2_with fail
        go_loopg [4] n (fun gk2 v4 wr2 => ∃ k : Nat, v4 = .int .i64 (k : Int) ∧ k + gk2 = n ∧ Hid (x.A1 i k wr2))
        case atStart => exact ⟨0, rfl, by omega, SA⟩
        case round =>
          clear SA b0 r0
          obtain ⟨k, rfl, hk2, SA⟩ := hrel
          have b0 := LF.out _ SA.out.k
          have r0 := LRi.out _ SA.out.k
          by_cases hk : k < n
          · have kk : decide ((k : Int) < (n : Int)) = true := by rw [decide_eq_true_iff]; omega
            obtain ⟨g, rfl, hBg⟩ := (TI.out k _ SA.out).ptr (by omega)
            have TXi := Lib.hid (TX.out i (by omega))
            go_upto_region 7 with (fail)
            go_region_with (go_at_call 77; refine (TXi.out _).mono ?_; rintro ev w2 ⟨rfl, hB⟩; have SB := Lib.hid (SA.out.next HG.out ((below_drewN (Below.refl _ _) 1).trans hB)); have b1 := LF.out _ SB.out.k; have r1 := LRi.out _ SB.out.k; obtain ⟨c0, c1, c2, c3, -, ⟨z0, z1, z2, z3⟩, y0, y1, y2, y3⟩ := K_Points_here (TI.out k _ SB.out) hk)
            all_goals (have S2 := Lib.hid (STi.out k g _ rfl hk SB.out); clear b1 r1 z0 z1 z2 z3 y0 y1 y2 y3 hB SB b0 r0 SA)
            all_goals go_wp2_with fail
            all_goals go_roundg (gk - 1)
            all_goals first | (case measure => omega) | skip
            all_goals exact ⟨k + 1, by go_num, by omega, S2⟩
          · have kk : decide ((k : Int) < (n : Int)) = false := by rw [decide_eq_false_iff_not]; omega
            obtain rfl : k = n := by omega
            have S2 := Lib.hid (TU.out _ SA.out)
            go_wp2_with fail
            go_roundg (m - (i + 1))
            case measure => omega
            case rel => exact ⟨i + 1, by go_num, by omega, S2⟩
      · have kl : decide ((i : Int) < (m : Int)) = false := by rw [decide_eq_false_iff_not]; omega
        obtain rfl : i = m := by omega
        go_wp2_with fail
        go_meet
        case rel => exact SA
  case rest =>
    clear S0
    have HD := Lib.hid ((show x.A1 x.m 0 wc from by rw [HM.out]; exact hcut.out).done (fun _ => .slice none 0 0))
    go_upto_block 4 with (fail)
    go_cut [5] (fun v5 wc2 => ∃ gs va, va = v5 ∧ Hid (x.A2 gs va m wc2))
    case first =>
      go_wp2_with fail
      go_loopg [5, 6] m (fun gk v5 v6 wr => ∃ (i : Nat) (gs : Nat → Value) (va : Value), va = v5 ∧ v6 = .int .i64 (i : Int) ∧ i + gk = m ∧ Hid (x.A2 gs va i wr))
      case atStart => exact ⟨0, _, _, rfl, rfl, by omega, HD⟩
      case round =>
        clear HD
        obtain ⟨i, gs, va, rfl, rfl, hi, SA⟩ := hrel
        have b0 := LF.out _ SA.out.k
        by_cases him : i < m
        · have kl : decide ((i : Int) < (m : Int)) = true := by rw [decide_eq_true_iff]; omega
          have r0 := LR.out _ SA.out.k i him
          have hni := hn.out i him
          have S3 := Lib.hid (Bx.A3.start SA.out HG.out (by rw [HM.out]; exact him))
          have TXi := Lib.hid (TX.out i (by omega))
          obtain ⟨tq, htq⟩ : ∃ o : Obj, o = .cells #[.string (markT i), .slice none 0 0, .slice none 0 0, .int .i64 0] 32 (0, 0) := ⟨_, rfl⟩
          have HTQ := Lib.hid htq
          clear htq
          have API := Lib.hid (fun k gv W (hk : k < 20) h => AP.out gs va i k gv W him hk h)
          go_wp2_with fail
          go_loopg [7, 8] 20 (fun g2 v7 v8 wr2 => ∃ (k : Nat) (gv : Value), gv = v7 ∧ v8 = .int .i64 (k : Int) ∧ k + g2 = 20 ∧ Hid (x.A3 gs va i k gv wr2))
          case atStart => exact ⟨0, _, rfl, rfl, by omega, S3⟩
          case round =>
            clear S3 SA b0 r0
            obtain ⟨k, gv, rfl, rfl, hk2, S3⟩ := hrel
            by_cases hk : k < 20
            · have kk : decide ((k : Int) < (20 : Int)) = true := by rw [decide_eq_true_iff]; omega
              go_wp2_with fail
              refine (TXi.out _).mono ?_
              rintro ev w2 ⟨rfl, hB⟩
              have S4 := (S3.out.next HG.out hB).next HG.out ((Below.refl _ _).alloc (Nat.le_refl _) tq)
              rw [HTQ.out] at S4
              obtain ⟨g, cap, w9, hr, S5⟩ := API.out k gv _ hk S4 1 ⟨w2.heap.size, 0, none⟩ (new_cells _ _ _ _ rfl)
              have S5 := Lib.hid S5
              clear hB S4 S3
              go_wp2_with (at_builtin; refine wp_tz 22 rfl _ _ rfl _ _ rfl rfl hr ?_)
              go_roundg (gk - 1)
              case measure => omega
              case rel => exact ⟨k + 1, _, rfl, by go_num, by omega, S5⟩
            · have kk : decide ((k : Int) < (20 : Int)) = false := by rw [decide_eq_false_iff_not]; omega
              obtain rfl : k = 20 := by omega
              obtain ⟨ao, cap, rfl⟩ := S3.out.gt.form
              generalize x.ns i + 20 = n20 at *
              have S4 := S3.out.next HG.out ((Below.refl _ _).alloc (Nat.le_refl _) (.cells #[.slice ao n20 cap] 22 (0, 0)))
              obtain ⟨i0, hi_, hz_⟩ := Option.map_eq_some_iff.1 K_Points_ok.infoR
              simp only [Prod.mk.injEq] at hz_
              obtain ⟨hz0, hz1, hz2⟩ := hz_
              have hown := LA2.out _ _ _ _ S4.s
              have HS4 := Lib.hid S4
              clear S4 S3
              go_wp2_with (at_builtin; refine wpList_append_own _ rfl _ _ 66 rfl x.w.heap.size 22 i0 (.slice none 0 0) 1 24 Tryz.underlying66 hi_ hz0 hz1 hz2 rfl (by decide) _ _ _ rfl hown ⟨_, 0, none⟩ 1 1 [.slice ao n20 cap] rfl rfl ?c1 ?c2 ?c3 ?c4 ?c5 ?_)
              case c1 =>
                intro j u hj
                match j, hj with
                | 0, hj => simp at hj; subst hj; exact blk_cell' (heap_new' _ _ _ rfl) 0
              case c2 => intro u hu; simp at hu; subst hu; rfl
              case c3 => unfold maxLen; omega
              case c4 => omega
              case c5 => have := HS4.out.s.k.B.size; exact this
              intro va' w9 hown' hgrow _
              have S5 := Lib.hid (TN.out _ _ _ _ _ _ _ HS4.out hown' hgrow)
              clear hown hown' hgrow HS4
              go_wp2_with fail
              go_roundg (m - (i + 1))
              case measure => omega
              case rel => exact ⟨i + 1, _, _, rfl, by go_num, by omega, S5⟩
        · have kl : decide ((i : Int) < (m : Int)) = false := by rw [decide_eq_false_iff_not]; omega
          obtain rfl : i = m := by omega
          go_wp2_with fail
          go_meet
          case rel => exact ⟨gs, va, rfl, SA⟩
    case rest =>
      clear HD
      obtain ⟨gs, va, rfl, SA⟩ := hcut
      obtain ⟨ag, acap, rfl⟩ : ∃ g cap, va = .slice (some ⟨g, 0, none⟩) m cap := by
        rcases SA.out.a.2 with ⟨_, h0⟩ | ⟨g, cap, cur, hv, _⟩
        · omega
        · exact ⟨g, cap, hv⟩
      have LA : Hid (∀ W, x.A2 gs (.slice (some ⟨ag, 0, none⟩) m acap) m W → ∀ j, j < m → W.cell? ⟨ag, j, none⟩ = some (gs j)) := Lib.hid (fun W h j hj => by
        have := h.a.cells (g := ag) rfl j (gs j) (by simp [hj])
        rw [addF] at this; exact this)
      go_wp2_with fail
      go_loopg [9] m (fun gk v9 wr => ∃ i : Nat, v9 = .int .i64 (i : Int) ∧ i + gk = m ∧ Hid (x.A2 gs (.slice (some ⟨ag, 0, none⟩) m acap) m wr))
      case atStart => exact ⟨0, rfl, by omega, SA⟩
      case round =>
        clear SA
        obtain ⟨i, rfl, hi, SA⟩ := hrel
        by_cases him : i < m
        · have kl : decide ((i : Int) < (m : Int)) = true := by rw [decide_eq_true_iff]; omega
          have hni := hn.out i him
          have TXi := Lib.hid (TX.out i (by omega))
          obtain ⟨ao, cap, hv⟩ := (LT2.out _ _ _ i _ SA.out him).form
          obtain ⟨ao1, cap1, hv1⟩ := (LG2.out _ _ _ i _ SA.out him).form
          have LRi : Hid (∀ W : World, x.Keep W → W.cell? ⟨rg, i, none⟩ = some (.slice ao (x.ns i) cap)) := Lib.hid (fun W h => by rw [← hv]; exact LR.out W h i him)
          have LAi : Hid (∀ W : World, x.A2 gs (.slice (some ⟨ag, 0, none⟩) m acap) m W → W.cell? ⟨ag, i, none⟩ = some (.slice ao1 (x.ns i + 20) cap1)) := Lib.hid (fun W h => by rw [← hv1]; exact LA.out W h i him)
          have T0 : Hid (∀ W, x.A2 gs (.slice (some ⟨ag, 0, none⟩) m acap) m W → Tz K_Points x.B (.slice ao (x.ns i) cap) (x.ns i) (fun _ cs => cs = [.string (markT i), .slice none 0 0, .slice none 0 0, .int .i64 0]) W) := Lib.hid (fun W h => by rw [← hv]; exact LT2.out _ _ _ i W h him)
          have T1 : Hid (∀ W, x.A2 gs (.slice (some ⟨ag, 0, none⟩) m acap) m W → Tz K_Points x.B (.slice ao1 (x.ns i + 20) cap1) (x.ns i + 20) (fun _ cs => cs = [.string (markT i), .slice none 0 0, .slice none 0 0, .int .i64 0]) W) := Lib.hid (fun W h => by rw [← hv1]; exact LG2.out _ _ _ i W h him)
          clear hv hv1
          generalize x.ns i = n at *
          obtain ⟨n1, hn1⟩ : ∃ n1, n + 20 = n1 := ⟨_, rfl⟩
          rw [hn1] at LAi T1
          have hn1' : n1 ≤ 50000020 := by omega
          obtain ⟨g1, rfl, -⟩ := (T1.out _ SA.out).ptr (by omega)
          clear hn1
          have r0 := LAi.out _ SA.out
          go_wp2_with fail
          go_loopg [10] n1 (fun gk2 v10 wr2 => ∃ k : Nat, v10 = .int .i64 (k : Int) ∧ k + gk2 = n1 ∧ Hid (x.A2 gs (.slice (some ⟨ag, 0, none⟩) m acap) m wr2))
          case atStart => exact ⟨0, rfl, by omega, SA⟩
          case round =>
            clear SA r0
            obtain ⟨k, rfl, hk2, SA⟩ := hrel
            have r0 := LAi.out _ SA.out
            by_cases hk : k < n1
            · have kk : decide ((k : Int) < (n1 : Int)) = true := by rw [decide_eq_true_iff]; omega
              obtain ⟨c0, c1, c2, c3, hcs, ⟨z0, z1, z2, z3⟩, -⟩ := K_Points_here (T1.out _ SA.out) hk
              simp only [List.cons.injEq, and_true] at hcs
              obtain ⟨rfl, rfl, rfl, rfl⟩ := hcs
              have SB := Lib.hid (SA.out.next HG.out ((Below.refl wr.heap.size wr).alloc (Nat.le_refl _) (.cells #[.string (markT i), .slice none 0 0, .slice none 0 0, .int .i64 0] 32 (0, 0))))
              have q := heap_alloc_new wr (.cells #[.string (markT i), .slice none 0 0, .slice none 0 0, .int .i64 0] 32 (0, 0))
              go_upto_region 25 with (fail)
              clear SA r0 z0 z1 z2 z3
              generalize wr.alloc (.cells #[.string (markT i), .slice none 0 0, .slice none 0 0, .int .i64 0] 32 (0, 0)) = w3 at *
              generalize wr.heap.size = n3 at *
              have HQ := Lib.hid q
              have xk0 := blk_cell' (q) 0
              have xf0 := blk_free' (q) 0
              have xk1 := blk_cell' (q) 1
              have xf1 := blk_free' (q) 1
              have xk2 := blk_cell' (q) 2
              have xf2 := blk_free' (q) 2
              have xk3 := blk_cell' (q) 3
              have xf3 := blk_free' (q) 3
              clear q xf0 xf1 xf2 xf3
              go_region_with (go_at_call 77; refine (TXi.out _).mono ?_; rintro ev w2 ⟨rfl, hB⟩; have SC := Lib.hid (SB.out.next HG.out ((below_drewN (Below.refl _ _) 1).trans hB)); have q2 := below_blk ((below_drewN (Below.refl w3.heap.size w3) 1).trans hB) (blk_lt' HQ.out) HQ.out; have y0 := blk_cell' q2 0)
              all_goals clear xk0 xk1 xk2 xk3 y0 q2 hB HQ SB
              all_goals go_wp2_with fail
              all_goals go_roundg (gk - 1)
              all_goals first | (case measure => omega) | skip
              all_goals exact ⟨k + 1, by go_num, by omega, SC⟩
            · have kk : decide ((k : Int) < (n1 : Int)) = false := by rw [decide_eq_false_iff_not]; omega
              have r1 := LRi.out _ SA.out.k
              have b0 := LF.out _ SA.out.k
              go_wp2_with fail
              go_loopg [12] n (fun gk2 v12 wr2 => ∃ k : Nat, v12 = .int .i64 (k : Int) ∧ k + gk2 = n ∧ Hid (x.A2 gs (.slice (some ⟨ag, 0, none⟩) m acap) m wr2))
              case atStart => exact ⟨0, rfl, by omega, SA⟩
              case round =>
                clear SA r0 r1 b0
                obtain ⟨k, rfl, hk2, SA⟩ := hrel
                have r0 := LRi.out _ SA.out.k
                have b0 := LF.out _ SA.out.k
                by_cases hk : k < n
                · have kk : decide ((k : Int) < (n : Int)) = true := by rw [decide_eq_true_iff]; omega
                  obtain ⟨g, rfl, -⟩ := (T0.out _ SA.out).ptr (by omega)
                  obtain ⟨c0, c1, c2, c3, hcs, ⟨z0, z1, z2, z3⟩, -⟩ := K_Points_here (T0.out _ SA.out) hk
                  simp only [List.cons.injEq, and_true] at hcs
                  obtain ⟨rfl, rfl, rfl, rfl⟩ := hcs
                  have SB := Lib.hid (SA.out.next HG.out ((Below.refl wr.heap.size wr).alloc (Nat.le_refl _) (.cells #[.string (markT i), .slice none 0 0, .slice none 0 0, .int .i64 0] 32 (0, 0))))
                  have q := heap_alloc_new wr (.cells #[.string (markT i), .slice none 0 0, .slice none 0 0, .int .i64 0] 32 (0, 0))
                  go_upto_region 31 with (fail)
                  clear SA r0 b0 z0 z1 z2 z3
                  generalize wr.alloc (.cells #[.string (markT i), .slice none 0 0, .slice none 0 0, .int .i64 0] 32 (0, 0)) = w3 at *
                  generalize wr.heap.size = n3 at *
                  have HQ := Lib.hid q
                  have xk0 := blk_cell' (q) 0
                  have xf0 := blk_free' (q) 0
                  have xk1 := blk_cell' (q) 1
                  have xf1 := blk_free' (q) 1
                  have xk2 := blk_cell' (q) 2
                  have xf2 := blk_free' (q) 2
                  have xk3 := blk_cell' (q) 3
                  have xf3 := blk_free' (q) 3
                  clear q xf0 xf1 xf2 xf3
                  go_region_with (go_at_call 77; refine (TXi.out _).mono ?_; rintro ev w2 ⟨rfl, hB⟩; have SC := Lib.hid (SB.out.next HG.out ((below_drewN (Below.refl _ _) 1).trans hB)); have q2 := below_blk ((below_drewN (Below.refl w3.heap.size w3) 1).trans hB) (blk_lt' HQ.out) HQ.out; have y0 := blk_cell' q2 0)
                  all_goals clear xk0 xk1 xk2 xk3 y0 q2 hB HQ SB
                  all_goals go_wp2_with fail
                  all_goals go_roundg (gk - 1)
                  all_goals first | (case measure => omega) | skip
                  all_goals exact ⟨k + 1, by go_num, by omega, SC⟩
                · have kk : decide ((k : Int) < (n : Int)) = false := by rw [decide_eq_false_iff_not]; omega
                  go_wp2_with fail
                  go_roundg (m - (i + 1))
                  case measure => omega
                  case rel => exact ⟨i + 1, by go_num, by omega, SA⟩
        · have kl : decide ((i : Int) < (m : Int)) = false := by rw [decide_eq_false_iff_not]; omega
          go_wp2_with fail
          go_ret
          exact ⟨rfl, SA.out.k⟩
end Go.Proofs.YtnodjijgeifejaaGreatDoor
