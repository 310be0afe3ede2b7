/- LineOnly: what is read as a point is printed as what was read; cut ahead of its last blank it is no line. -/
import Derived.Test.YtbadmehadbmohaaDoorLive
import Derived.Test.YtbadmehadbmohaaDoorLprint
import Derived.Test.YtbadmehadbmohaaDoorOnlyLaw
import Derived.Deep.QuietTactic
import Derived.BigQuiet
import Derived.Deep.DeepCutAuto
import Derived.Deep.CutBlock
namespace Go.Proofs.YtbadmehadbmohaaDoor
open Go.RowKit
set_option linter.unusedSimpArgs false
set_option linter.unusedVariables false

theorem ret_bo {a b : Bool} (h : a = b) : Ending.returned (.bool a) = .returned (.bool b) := by rw [h]
theorem is_cut (e : Nat) : isE (oneE (.inr (some e))) 60 = true := by simp [isE, oneE, mkAt, Er.code?]
/-- A point's block, and its lists. -/
structure Po (b : Nat) (p : Pt) (At : Option Addr) (ct : Nat) (Af : Option Addr) (cf : Nat) (w0 w : World) : Prop where
  B : Below w0.heap.size w0 w
  b : w.heap[b]? = some (.cells #[.string p.m, .slice At p.tags.length ct, .slice Af p.fields.length cf, .int .i64 p.time] 26 (0, 0))
  v : PtVal w p At ct Af cf
theorem Po.next {b : Nat} {p : Pt} {At : Option Addr} {ct : Nat} {Af : Option Addr} {cf : Nat} {w0 w w' : World} (h : Po b p At ct Af cf w0 w) (hB : Below w.heap.size w w') : Po b p At ct Af cf w0 w' :=
  ⟨h.B.trans (hB.mono h.B.size), below_blk hB (blk_lt' h.b) h.b, h.v.next hB⟩
set_option maxRecDepth 100000 in
set_option maxHeartbeats 1000000 in
theorem only_err (s : ByteArray) (o : Option Nat) (hq : oneP s = .inr o) (cut : Int) (w : World) (L : LayS w) :
    Calls Tryd.prog 3 #[.string s, .int .i64 cut] w fun ev w' => ev = .returned (.bool true) ∧ Below w.heap.size w w' := by
  have hup := Tryd.underlying26
  have C1 := fun w L => line_One s w L
  rw [hq] at C1
  obtain ⟨ev0, hev, hne⟩ : ∃ tp p, encE (oneE (.inr o)) = .iface tp p := by
    cases o with
    | none => exact ⟨_, _, rfl⟩
    | some e => exact ⟨_, _, rfl⟩
  rw [hne] at C1
  have hD : oneD (.inr o) = Pt.zero := by cases o <;> rfl
  rw [hD] at C1
  have C1 := Lib.hid C1
  have LV := Lib.hid (fun w L => live_true w L)
  clear hq hne hD
  go_enter Tryd.func3, Tryd.ntmps3
  go_wp2_with fail
  refine (LV.out _ L).mono ?_
  rintro ev w1 ⟨rfl, B1⟩
  have L1 := L.below B1
  go_wp2_with fail
  refine (C1.out _ L1).mono ?_
  rintro ev w2 ⟨v, rfl, hP, hB⟩
  obtain ⟨At, ct, Af, cf, rfl, hp⟩ := hP.val
  have B2 : Below w.heap.size w w2 := B1.trans (hB.mono B1.size)
  clear hP hB hp B1 L1 L
  have e1 : Pt.zero.m = ⟨#[]⟩ := rfl
  have e2 : Pt.zero.tags.length = 0 := rfl
  have e3 : Pt.zero.fields.length = 0 := rfl
  have e4 : Pt.zero.time = 0 := rfl
  rw [e1, e2, e3, e4]
  go_wp2_with fail
  have q1 := heap_alloc_new w2 (.cells #[.string ⟨#[]⟩, .slice At 0 ct, .slice Af 0 cf, .int .i64 0] 26 (0, 0))
  have B3 : Below w.heap.size w (w2.alloc (.cells #[.string ⟨#[]⟩, .slice At 0 ct, .slice Af 0 cf, .int .i64 0] 26 (0, 0))) := B2.alloc B2.size _
  generalize w2.alloc (.cells #[.string ⟨#[]⟩, .slice At 0 ct, .slice Af 0 cf, .int .i64 0] 26 (0, 0)) = W at *
  generalize w2.heap.size = g at *
  have qk0 := blk_cell' (q1) 0
  have qf0 := blk_free' (q1) 0
  have qk1 := blk_cell' (q1) 1
  have qf1 := blk_free' (q1) 1
  have qk2 := blk_cell' (q1) 2
  have qf2 := blk_free' (q1) 2
  have qk3 := blk_cell' (q1) 3
  have qf3 := blk_free' (q1) 3
  have HB := Lib.hid B3
  clear q1 B2 B3
  first
    | (go_quiet (fail)
       go_wp2
       go_ret
       exact ⟨ret_bo (by simp), below_drewN HB.out _⟩)
    | (go_wp2
       go_ret
       exact ⟨ret_bo (by simp), HB.out⟩)
set_option maxRecDepth 100000 in
set_option maxHeartbeats 2000000 in
theorem only_ok (s : ByteArray) (p : Pt) (hq : oneP s = .inl p) (cut : Int) (c0 : -9223372036854775808 ≤ cut) (c1 : cut ≤ 9223372036854775807) (w : World) (L : LayS w) :
    Calls Tryd.prog 3 #[.string s, .int .i64 cut] w fun ev w' => ev = .returned (.bool true) ∧ Below w.heap.size w w' := by
  have hup := Tryd.underlying26
  obtain ⟨hl, hy, h8, ht, hf⟩ := one_line hq
  obtain ⟨hlt, hsp, hno⟩ := last_blank hq
  have hsz : (lineL p).length = s.size := by rw [← hl]; rfl
  have hPP : printP p = .inl s := by
    unfold printP
    rw [if_pos hy, if_neg (by omega)]
    congr 1
    apply bytes_ext
    rw [hl]
  have C1 := fun w L => line_One s w L
  rw [hq] at C1
  have C1 := Lib.hid C1
  have LV := Lib.hid (fun w L => live_true w L)
  have CP := fun At ct Af cf W (LW : Lay W) (hp : PtVal W p At ct Af cf) => line_Print_yes p At ct Af cf W LW hp ⟨ht, hf⟩ hy (by omega)
  rw [hPP] at CP
  have CP := Lib.hid CP
  -- the cut
  obtain ⟨K, hK⟩ : ∃ K, K = (headL p).length := ⟨_, rfl⟩
  rw [← hK] at hlt hsp hno
  have hCut : ∀ k : Nat, k ≤ K → ∀ W (LW : LayS W), Calls Tryd.prog 5 #[.string (s.extract 0 k)] W fun ev w' => ∃ v x, ev = .returned (.tuple #[v, encE x]) ∧ isE x 60 = true ∧ Below W.heap.size W w' := fun k hk W LW => by
    obtain ⟨e, he⟩ := one_cut hq k (by omega)
    refine (line_One (s.extract 0 k) W LW).mono ?_
    rintro ev w' ⟨v, rfl, _, hB⟩
    rw [he]
    exact ⟨v, _, rfl, is_cut e, hB⟩
  have HCut := Lib.hid hCut
  have hsK : s[K]'hlt = 32 := by
    obtain ⟨hl2, e⟩ := List.getElem?_eq_some_iff.1 hsp
    exact e
  have hnoj : ∀ j (hj : j < s.size), K < j → s[j]'hj ≠ 32 := fun j hj hk e => hno j hk (by
    rw [List.getElem?_eq_getElem (show j < s.data.toList.length from hj)]
    exact congrArg some e)
  have HNJ := Lib.hid hnoj
  have HSK := Lib.hid hsK
  clear hq hl hy ht hf hsz hPP hK hsp hno hCut hsK hnoj
  have key : ((s[K]'hlt).toNat : Int) = 32 := by rw [HSK.out]; rfl
  go_enter Tryd.func3, Tryd.ntmps3
  go_wp2_with fail
  refine (LV.out _ L).mono ?_
  rintro ev w1 ⟨rfl, B1⟩
  have L1 := L.below B1
  go_wp2_with fail
  refine (C1.out _ L1).mono ?_
  rintro ev w2 ⟨v, rfl, hP, hB⟩
  obtain ⟨At, ct, Af, cf, rfl, hp⟩ := hP.val
  replace hp : PtVal w2 p At ct Af cf := hp
  have B2 : Below w.heap.size w w2 := B1.trans (hB.mono B1.size)
  have hE : encE (oneE (.inl p)) = .nilIface := rfl
  rw [hE]
  have hD : oneD (.inl p) = p := rfl
  rw [hD]
  clear hP hB B1 L1 hE hD
  go_upto_region 6 with (fail)
  have q1 := heap_alloc_new w2 (.cells #[.string p.m, .slice At p.tags.length ct, .slice Af p.fields.length cf, .int .i64 p.time] 26 (0, 0))
  have B3 : Below w.heap.size w (w2.alloc (.cells #[.string p.m, .slice At p.tags.length ct, .slice Af p.fields.length cf, .int .i64 p.time] 26 (0, 0))) := B2.alloc B2.size _
  have hp3 := hp.next ((Below.refl _ _).alloc (Nat.le_refl _) (.cells #[.string p.m, .slice At p.tags.length ct, .slice Af p.fields.length cf, .int .i64 p.time] 26 (0, 0)))
  generalize w2.alloc (.cells #[.string p.m, .slice At p.tags.length ct, .slice Af p.fields.length cf, .int .i64 p.time] 26 (0, 0)) = W at *
  generalize w2.heap.size = g at *
  have LW := L.below B3
  have qk0 := blk_cell' (q1) 0
  have qf0 := blk_free' (q1) 0
  have qk1 := blk_cell' (q1) 1
  have qf1 := blk_free' (q1) 1
  have qk2 := blk_cell' (q1) 2
  have qf2 := blk_free' (q1) 2
  have qk3 := blk_cell' (q1) 3
  have qf3 := blk_free' (q1) 3
  clear q1 B2 hp L C1
  have CQ : Hid (Calls Tryd.prog 6 #[.agg #[.string p.m, .slice At p.tags.length ct, .slice Af p.fields.length cf, .int .i64 p.time]] W fun ev w' => ev = .returned (.tuple #[.string s, .nilIface]) ∧ Below W.heap.size W w') := Lib.hid (CP.out At ct Af cf W LW.L hp3)
  clear CP hp3 LV
  go_wp2_with fail
  refine (CQ.out).mono ?_
  rintro ev w4 ⟨rfl, hB⟩
  have B4 : Below w.heap.size w w4 := B3.trans (hB.mono B3.size)
  have L4 := LW.below hB
  clear B3 hB LW CQ qk0 qk1 qk2 qk3 qf0 qf1 qf2 qf3
  have kss : (s.toList == s.toList) = true := by simp
  have kss2 : (s.toList != s.toList) = false := by simp
  go_wp2_with fail
  go_loopg [9] (s.size - 1) (fun m v wr => ∃ j : Nat, v = .int .i64 (j : Int) ∧ K ≤ j ∧ j < s.size ∧ m = j ∧ w4 = wr)
  case atStart => exact ⟨s.size - 1, by rw [show ((s.size - 1 : Nat) : Int) = (s.size : Int) - 1 by omega], by omega, by omega, rfl, rfl⟩
  case round =>
    obtain ⟨j, rfl, hKj, hjs, rfl, rfl⟩ := hrel
    by_cases hj : K = gk
    · subst hj
      have k1 : ((s[K].toNat : Int) == 32) = true := by rw [key]; rfl
      have k1x : ((s[K].toNat : Int) != 32) = false := by rw [bne, k1]; rfl
      by_cases hc : cut < 0 ∨ (K : Int) < cut
      · have CC := Lib.hid (HCut.out K (Nat.le_refl _) w4 L4)
        have hsl : ∀ W, (Instr.slice 9 (.string s) none (some (.int .i64 (K : Int))) none).run Tryd.prog W = .ok (.string (s.extract 0 K)) W := fun W => by
          rw [run_slice_string_h W 9 s Tryd.underlying9 .i64 _ (by omega) (by omega)]; rfl
        clear HCut
        by_cases hc0 : cut < 0
        · have k2 : decide (cut < 0) = true := by simpa using hc0
          clear hc hc0 key
          go_wp2_with fail
          refine (CC.out).mono ?_
          rintro ev w5 ⟨v, x, rfl, hx, hB⟩
          have L5 := L4.below hB
          have CI := both_Is x 60 (by decide) w5 L5.L.hg
          rw [hx] at CI
          have HB := Lib.hid (B4.trans (hB.mono B4.size))
          generalize encE x = X at *
          clear hx hB
          go_wp2_with fail
          refine CI.mono ?_
          rintro ev w6 ⟨rfl, hB⟩
          go_wp2
          go_ret
          exact ⟨rfl, HB.out.trans (hB.mono HB.out.size)⟩
        · have k2 : decide (cut < 0) = false := by simpa using hc0
          have k3 : decide ((K : Int) < cut) = true := by rw [decide_eq_true_iff]; omega
          clear hc hc0 key
          go_wp2_with fail
          refine (CC.out).mono ?_
          rintro ev w5 ⟨v, x, rfl, hx, hB⟩
          have L5 := L4.below hB
          have CI := both_Is x 60 (by decide) w5 L5.L.hg
          rw [hx] at CI
          have HB := Lib.hid (B4.trans (hB.mono B4.size))
          generalize encE x = X at *
          clear hx hB
          go_wp2_with fail
          refine CI.mono ?_
          rintro ev w6 ⟨rfl, hB⟩
          go_wp2
          go_ret
          exact ⟨rfl, HB.out.trans (hB.mono HB.out.size)⟩
      · obtain ⟨c, rfl⟩ : ∃ c : Nat, cut = (c : Int) := ⟨cut.toNat, by omega⟩
        have CC := Lib.hid (HCut.out c (by omega) w4 L4)
        have hsl : ∀ W, (Instr.slice 9 (.string s) none (some (.int .i64 (c : Int))) none).run Tryd.prog W = .ok (.string (s.extract 0 c)) W := fun W => by
          rw [run_slice_string_h W 9 s Tryd.underlying9 .i64 _ (by omega) (by omega)]; rfl
        have k2 : decide ((c : Int) < 0) = false := by rw [decide_eq_false_iff_not]; omega
        have k3 : decide ((K : Int) < (c : Int)) = false := by rw [decide_eq_false_iff_not]; omega
        have k3n : ¬ K < c := by omega
        clear HCut hc key
        go_wp2_with fail
        refine (CC.out).mono ?_
        rintro ev w5 ⟨v, x, rfl, hx, hB⟩
        have L5 := L4.below hB
        have CI := both_Is x 60 (by decide) w5 L5.L.hg
        rw [hx] at CI
        have HB := Lib.hid (B4.trans (hB.mono B4.size))
        generalize encE x = X at *
        clear hx hB
        go_wp2_with fail
        refine CI.mono ?_
        rintro ev w6 ⟨rfl, hB⟩
        go_wp2
        go_ret
        exact ⟨rfl, HB.out.trans (hB.mono HB.out.size)⟩
    · have hx : ¬ ((s[gk].toNat : Int) = 32) := fun e => HNJ.out gk hjs (by omega) (UInt8.toNat_inj.1 (by show s[gk].toNat = 32; omega))
      have k1 : ((s[gk].toNat : Int) == 32) = false := by simpa using hx
      have k1x : ((s[gk].toNat : Int) != 32) = true := by rw [bne, k1]; rfl
      clear hx key
      go_wp2_with fail
      go_roundg (gk - 1)
      case measure => omega
      case rel => exact ⟨gk - 1, by rw [show ((gk - 1 : Nat) : Int) = (gk : Int) - 1 by omega], by omega, by omega, rfl, rfl⟩
set_option maxRecDepth 100000 in
theorem only_true (s : ByteArray) (cut : Int) (w : World) (L : LayS w) (c0 : -9223372036854775808 ≤ cut) (c1 : cut ≤ 9223372036854775807) :
    Calls Tryd.prog 3 #[.string s, .int .i64 cut] w fun ev w' => ev = .returned (.bool true) ∧ Below w.heap.size w w' := by
  cases hq : oneP s with
  | inl p => exact only_ok s p hq cut c0 c1 w L
  | inr o => exact only_err s o hq cut w L
end Go.Proofs.YtbadmehadbmohaaDoor
