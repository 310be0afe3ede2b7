/- LineBack: points that are printed, one by one and all, are read as these points. -/
import Derived.Test.YtnodjijgeifejaaGreatDoorLall
import Derived.Test.YtnodjijgeifejaaGreatDoorLparse
import Derived.Test.YtnodjijgeifejaaGreatDoorIs
namespace Go.Proofs.YtnodjijgeifejaaGreatDoor
open Go.RowKit
set_option linter.unusedSimpArgs false
set_option linter.unusedVariables false

theorem printP_three (p : Pt) : (∃ t : ByteArray, printP p = .inl t ∧ t.size ≤ 8192) ∨ (printP p = .inr 6 ∧ isPlainP p = true) ∨ (printP p = .inr 60 ∧ isPlainP p = false) := by
  unfold printP
  by_cases h1 : isPlainP p = true
  · rw [if_pos h1]
    by_cases h2 : 8192 < (lineL p).length
    · rw [if_pos h2]
      exact .inr (.inl ⟨rfl, h1⟩)
    · rw [if_neg h2]
      exact .inl ⟨_, rfl, by show (lineL p).length ≤ 8192; omega⟩
  · rw [if_neg h1]
    exact .inr (.inr ⟨rfl, by simpa using h1⟩)
theorem allQ_inr : ∀ (l : List Pt) (k : Nat) (acc : List UInt8) (i : Nat) (c : Int), allQ k l acc = .inr (i, c) → mkE c = some (.code c)
  | [], k, acc, i, c, h => by cases h
  | p :: r, k, acc, i, c, h => by
    unfold allQ at h
    rcases printP_three p with ⟨t, ht, _⟩ | ⟨ht, _⟩ | ⟨ht, _⟩
    · rw [ht] at h
      exact allQ_inr r _ _ i c h
    · rw [ht] at h
      cases h
      rfl
    · rw [ht] at h
      cases h
      rfl
theorem print_one {p : Pt} {t : ByteArray} (h : printP p = .inl t) (hf : PtFit p) : oneP t = .inl p := by
  obtain ⟨g, e⟩ := print_inl h
  refine line_one g.pl e ?_ hf.t hf.f
  have : t.data.toList.length = t.size := rfl
  rw [← this, e]
  exact g.le
/-- A point as a variable, and one in a list. -/
structure Vars2 (b : Nat) (o : Obj) (a : Addr) (p : Pt) (At : Option Addr) (ct : Nat) (Af : Option Addr) (cf : Nat) (w0 w : World) : Prop where
  hb : w.heap[b]? = some o
  c : PtCells w a p At ct Af cf
  B : Below w0.heap.size w0 w
theorem Vars2.next {b : Nat} {o : Obj} {a : Addr} {p : Pt} {At : Option Addr} {ct : Nat} {Af : Option Addr} {cf : Nat} {w0 w w' : World} (h : Vars2 b o a p At ct Af cf w0 w) (hB : Below w.heap.size w w') : Vars2 b o a p At ct Af cf w0 w' :=
  ⟨below_blk hB (blk_lt' h.hb) h.hb, h.c.next hB, h.B.trans (hB.mono h.B.size)⟩
theorem vars2_cells {b : Nat} {x0 x1 x2 x3 : Value} {T : TypeId} {a : Addr} {p : Pt} {At : Option Addr} {ct : Nat} {Af : Option Addr} {cf : Nat} {w0 w : World} (h : Vars2 b (.cells #[x0, x1, x2, x3] T (0, 0)) a p At ct Af cf w0 w) :
    w.cell? ⟨b, 0, none⟩ = some x0 ∧ w.cell? ⟨b, 1, none⟩ = some x1 ∧ w.cell? ⟨b, 2, none⟩ = some x2 ∧ w.cell? ⟨b, 3, none⟩ = some x3 ∧ w.cell? a = some (.string p.m) ∧ w.cell? ⟨a.block, a.off + 1, none⟩ = some (.slice At p.tags.length ct) ∧ w.cell? ⟨a.block, a.off + 2, none⟩ = some (.slice Af p.fields.length cf) ∧ w.cell? ⟨a.block, a.off + 3, none⟩ = some (.int .i64 p.time) :=
  ⟨blk_cell' h.hb 0, blk_cell' h.hb 1, blk_cell' h.hb 2, blk_cell' h.hb 3, h.c.m, h.c.t, h.c.f, h.c.n⟩
theorem PtCells.val {w : World} {a : Addr} {p : Pt} {At : Option Addr} {ct : Nat} {Af : Option Addr} {cf : Nat} (h : PtCells w a p At ct Af cf) : PtVal w p At ct Af cf := ⟨h.ts, h.fs⟩
set_option maxRecDepth 100000 in
set_option maxHeartbeats 800000 in
theorem back_true (l : List Pt) (A : Option Addr) (c : Nat) (w : World) (L : LayM w) (hp : PtsAt w A l) (hok : ∀ p ∈ l, PtOk p) (hn : l.length ≤ 209716) :
    Calls Tryz.prog 6 #[.slice A l.length c] w fun ev w' => ev = .returned (.bool true) ∧ Below w.heap.size w w' := by
  have hup := Tryz.underlying32
  obtain ⟨R, hR⟩ : ∃ R, R = allQ 0 l [] := ⟨_, rfl⟩
  have CA := fun w L hp => line_All l A c w L hp hok (by omega)
  rw [← hR] at CA
  have HR := Lib.hid hR
  have CA := Lib.hid CA
  have LV := Lib.hid (fun w L => live_true w L)
  have HP := Lib.hid hp
  have HO := Lib.hid hok
  obtain ⟨n, hnl⟩ : ∃ n, l.length = n := ⟨_, rfl⟩
  have HN := Lib.hid hnl
  have CA : Hid (∀ w, Lay w → PtsAt w A l → Calls Tryz.prog 12 #[.slice A n c] w fun ev w' => ev = .returned (.tuple #[.string (allS R), encE (allE R)]) ∧ Below w.heap.size w w') := Lib.hid (by rw [← hnl]; exact CA.out)
  have CM : Hid (∀ m d w, PtsAt w m l → PtsAt w A l → Calls Tryz.prog 17 #[.slice m n d, .slice A n c] w fun e w' => e = .returned (.bool true) ∧ ∃ m, w' = w.drewN m) := Lib.hid (by rw [← hnl]; exact fun m d w h0 h1 => SamePoints_eq m A d c l w h0 h1)
  rw [hnl] at hn ⊢
  clear hR hp hok hnl
  go_enter Tryz.func6, Tryz.ntmps6
  go_wp2_with fail
  refine (LV.out _ L.S).mono ?_
  rintro ev w1 ⟨rfl, B1⟩
  have HB1 := Lib.hid B1
  clear B1
  go_upto_block 0 with (fail)
  go_cut [3] (fun v3 wc => Hid (Below w.heap.size w wc))
  case first =>
    go_wp2_with fail
    go_loopg [3] n (fun g v3 wr => ∃ i : Nat, v3 = .int .i64 (i : Int) ∧ i + g = n ∧ Hid (Below w.heap.size w wr))
    case atStart => exact ⟨0, rfl, by omega, HB1⟩
    case round =>
      clear HB1
      obtain ⟨i, rfl, hg, HB⟩ := hrel
      by_cases hi : i < n
      · have kl : decide ((i : Int) < (n : Int)) = true := by rw [decide_eq_true_iff]; omega
        have hil : i < l.length := by rw [HN.out]; exact hi
        have hpo := HO.out _ (List.getElem_mem hil)
        obtain ⟨a0, rfl, C⟩ := (HP.out.next HB.out).cells (by rw [HN.out]; omega)
        obtain ⟨At, ct, Af, cf, x⟩ := C i hil
        have CPr := fun w L hp => line_Print (l[i]'hil) At ct Af cf w L hp hpo.fit (lineL_bulk hpo.fit hpo.bulk)
        have CPl := fun w hp => ref_Plain (l[i]'hil) At ct Af cf w hp (small_of hpo.bulk)
        have CO := fun w h => law_one (l[i]'hil) At ct Af cf w h
        have hpc := printP_three l[i]
        have hpr := fun t (h : printP (l[i]'hil) = .inl t) => print_one h hpo.fit
        generalize l[i] = p at x CPr CPl CO hpc hpr
        have X := Lib.hid x
        obtain ⟨x0, x1, x2, x3, x4, x5⟩ := x
        have LW := Lib.hid (L.below HB.out)
        rcases hpc with ⟨t, ht, hts⟩ | ⟨ht, hpl⟩ | ⟨ht, hpl⟩
        · have CPr2 : Hid (Calls Tryz.prog 9 #[.agg #[.string p.m, .slice At p.tags.length ct, .slice Af p.fields.length cf, .int .i64 p.time]] wr fun ev w' => ev = .returned (.tuple #[.string t, .nilIface]) ∧ Below wr.heap.size wr w') := Lib.hid (by
            have h := CPr wr LW.out.S.L X.out.val
            rw [ht] at h
            exact h)
          have CN : Hid (∀ w, LayS w → Calls Tryz.prog 18 #[.string t] w fun ev w' => ∃ v, ev = .returned (.tuple #[v, .nilIface]) ∧ PtIn w.heap.size v p w' ∧ Below w.heap.size w w') := Lib.hid (fun w L => by
            have h := line_One t w L
            rw [hpr t ht] at h
            exact h)
          have CO := Lib.hid CO
          clear CPr CPl hpr ht C x4 x5 hpo
          go_wp2_with fail
          refine (CPr2.out).mono ?_
          rintro ev w2 ⟨rfl, hB⟩
          have X2 := Lib.hid (X.out.next hB)
          have HB2 := Lib.hid (HB.out.trans (hB.mono HB.out.size))
          have LW2 := Lib.hid (L.below HB2.out)
          clear hB X HB LW CPr2 x0 x1 x2 x3
          go_wp2_with fail
          refine (CN.out _ LW2.out.S).mono ?_
          rintro ev w3 ⟨v, rfl, hP, hB⟩
          obtain ⟨Bt, dt, Bf, df, rfl, hr⟩ := hP.val
          obtain ⟨o1, ho1⟩ : ∃ o, o = Obj.cells #[.string p.m, .slice Bt p.tags.length dt, .slice Bf p.fields.length df, .int .i64 p.time] 32 (0, 0) := ⟨_, rfl⟩
          have V3 : Vars2 w3.heap.size o1 (a0.add (i * 4)) p At ct Af cf w (w3.alloc o1) := ⟨heap_alloc_new w3 o1, (X2.out.next hB).next ((Below.refl _ _).alloc (Nat.le_refl _) o1), (HB2.out.trans (hB.mono HB2.out.size)).alloc (HB2.out.trans (hB.mono HB2.out.size)).size o1⟩
          have hr3 := hr.next ((Below.refl _ _).alloc (Nat.le_refl _) o1)
          rw [ho1] at V3 hr3
          clear ho1 hr hP hB X2 HB2 LW2 CN
          go_upto_region 11 with (fail)
          obtain ⟨g1, hg1⟩ : ∃ g, w3.heap.size = g := ⟨_, rfl⟩
          obtain ⟨W, hW⟩ : ∃ W, w3.alloc (.cells #[.string p.m, .slice Bt p.tags.length dt, .slice Bf p.fields.length df, .int .i64 p.time] 32 (0, 0)) = W := ⟨_, rfl⟩
          rw [hW] at V3 hr3 ⊢
          rw [hg1] at V3 ⊢
          clear hW hg1
          have p0 : (0 : Int) ≤ (i : Int) := by omega
          have p1 : (i : Int) < (n : Int) := by omega
          replace V3 := V3.next (Below.refl _ _).drew
          replace hr3 : PtVal W.drew p Bt dt Bf df := hr3.next (Below.refl _ _).drew
          have t0 := vars2_cells V3
          have SX : ∀ A0 A1 w, PtsAt w A0 [p] → PtsAt w A1 [p] → Calls Tryz.prog 17 #[.slice A0 1 1, .slice A1 1 1] w fun e w' => e = .returned (.bool true) ∧ ∃ m, w' = w.drewN m := fun A0 A1 w h0 h1 => SamePoints_eq A0 A1 1 1 [p] w h0 h1
          have SX := Lib.hid SX
          go_region_held3 (fun w' => w'.cell? ⟨g1, 0, none⟩ = some (.string p.m) ∧ w'.cell? ⟨g1, 1, none⟩ = some (.slice Bt p.tags.length dt) ∧ w'.cell? ⟨g1, 2, none⟩ = some (.slice Bf p.fields.length df) ∧ w'.cell? ⟨g1, 3, none⟩ = some (.int .i64 p.time) ∧ w'.cell? (a0.add (i * 4)) = some (.string p.m) ∧ w'.cell? ⟨(a0.add (i * 4)).block, (a0.add (i * 4)).off + 1, none⟩ = some (.slice At p.tags.length ct) ∧ w'.cell? ⟨(a0.add (i * 4)).block, (a0.add (i * 4)).off + 2, none⟩ = some (.slice Af p.fields.length cf) ∧ w'.cell? ⟨(a0.add (i * 4)).block, (a0.add (i * 4)).off + 3, none⟩ = some (.int .i64 p.time))
            (first | (with_reducible exact t0) | (with_reducible exact t1) | (with_reducible exact t2) | (with_reducible exact t3) | fail)
            (first
              | (go_at_call 20; (with_reducible refine (law_one p Bt dt Bf df _ hr3).mono ?_); rintro ev w5 ⟨rfl, hl1, hB2⟩; replace hl1 : PtsAt w5 (some ⟨W.heap.size + 1, 0, none⟩) [p] := hl1; have T1 := Vars2.next V3 hB2; have t1 := vars2_cells T1)
              | (go_at_call 20; (with_reducible refine (CO.out _ T1.c.val).mono ?_); rintro ev w6 ⟨rfl, hl2, hB3⟩; have T2 := Vars2.next T1 hB3; have t2 := vars2_cells T2)
              | (go_at_call 17; (with_reducible refine (SX.out _ _ _ (hl1.next hB3) hl2).mono ?_); rintro ev w7 ⟨rfl, m, rfl⟩; have T3 := Vars2.next T2 (below_drewN0 _ m); have t3 := vars2_cells T3)
              | fail)
          have HB3 := Lib.hid T3.B
          clear t0 t1 t2 t3 T1 T2 T3 V3 hr3 hl1 hl2 hB2 hB3
          go_wp2_with fail
          go_roundg (gk - 1)
          case measure => omega
          case rel => exact ⟨i + 1, by go_num, by omega, HB3⟩
        · have CPr2 : Hid (Calls Tryz.prog 9 #[.agg #[.string p.m, .slice At p.tags.length ct, .slice Af p.fields.length cf, .int .i64 p.time]] wr fun ev w' => ev = .returned (.tuple #[.string ⟨#[]⟩, .iface 33 (.int .i64 6)]) ∧ Below wr.heap.size wr w') := Lib.hid (by
            have h := CPr wr LW.out.S.L X.out.val
            rw [ht] at h
            exact h)
          rw [hpl] at CPl
          have CPl := Lib.hid CPl
          have CI : Hid (∀ w, HG w → Calls Tryz.prog 23 #[.iface 33 (.int .i64 6), .int .i64 6] w fun ev w' => ev = .returned (.bool true) ∧ Below w.heap.size w w') := Lib.hid (fun w h => both_Is (some (.code 6)) 6 (by decide) w h)
          clear CPr hpr ht hpl C CO x4 x5 hpo
          go_wp2_with fail
          refine (CPr2.out).mono ?_
          rintro ev w2 ⟨rfl, hB⟩
          have X2 := X.out.next hB
          have HB2 := Lib.hid (HB.out.trans (hB.mono HB.out.size))
          have HX2 := Lib.hid X2
          obtain ⟨y0, y1, y2, y3, -, -⟩ := X2
          clear hB X HB LW CPr2 x0 x1 x2 x3
          go_wp2_with fail
          refine (CPl.out _ HX2.out.val).mono ?_
          rintro ev w3 ⟨rfl, hB⟩
          have HB3 := Lib.hid (HB2.out.trans (hB.mono HB2.out.size))
          have LW3 := Lib.hid (L.below HB3.out)
          clear hB HX2 HB2 y0 y1 y2 y3
          go_wp2_with fail
          refine (CI.out _ LW3.out.S.L.hg).mono ?_
          rintro ev w4 ⟨rfl, hB⟩
          have HB4 := Lib.hid (HB3.out.trans (hB.mono HB3.out.size))
          clear hB HB3
          go_wp2_with fail
          go_roundg (gk - 1)
          case measure => omega
          case rel => exact ⟨i + 1, by go_num, by omega, HB4⟩
        · have CPr2 : Hid (Calls Tryz.prog 9 #[.agg #[.string p.m, .slice At p.tags.length ct, .slice Af p.fields.length cf, .int .i64 p.time]] wr fun ev w' => ev = .returned (.tuple #[.string ⟨#[]⟩, .iface 33 (.int .i64 60)]) ∧ Below wr.heap.size wr w') := Lib.hid (by
            have h := CPr wr LW.out.S.L X.out.val
            rw [ht] at h
            exact h)
          rw [hpl] at CPl
          have CPl := Lib.hid CPl
          clear CPr hpr ht hpl C CO x4 x5 hpo
          go_wp2_with fail
          refine (CPr2.out).mono ?_
          rintro ev w2 ⟨rfl, hB⟩
          have X2 := X.out.next hB
          have HB2 := Lib.hid (HB.out.trans (hB.mono HB.out.size))
          have HX2 := Lib.hid X2
          obtain ⟨y0, y1, y2, y3, -, -⟩ := X2
          clear hB X HB LW CPr2 x0 x1 x2 x3
          go_wp2_with fail
          refine (CPl.out _ HX2.out.val).mono ?_
          rintro ev w3 ⟨rfl, hB⟩
          have HB3 := Lib.hid (HB2.out.trans (hB.mono HB2.out.size))
          clear hB HX2 HB2 y0 y1 y2 y3
          go_wp2_with fail
          go_roundg (gk - 1)
          case measure => omega
          case rel => exact ⟨i + 1, by go_num, by omega, HB3⟩
      · have kl : decide ((i : Int) < (n : Int)) = false := by rw [decide_eq_false_iff_not]; omega
        go_wp2_with fail
        go_meet
        case rel => exact HB
  case rest =>
    clear HB1
    have HB := hcut
    clear hcut
    have LW := Lib.hid (L.below HB.out)
    have HP2 := Lib.hid (HP.out.next HB.out)
    rcases R with x | ⟨k, c'⟩
    · obtain ⟨hx, hgd⟩ := allQ_inl l 0 [] x HR.out.symm
      have hx : x = allL l := by simpa using hx
      have hps : parseS ⟨x.toArray⟩ = .inl l := by rw [hx]; exact parse_all l (fun p h => ⟨hgd p h, (HO.out p h).fit.t, (HO.out p h).fit.f⟩)
      have hsz : (⟨x.toArray⟩ : ByteArray).size < 4294967281 := by
        have h1 := allL_len l hgd
        have h2 : (⟨x.toArray⟩ : ByteArray).size = x.length := rfl
        rw [h2, hx]
        have h3 := HN.out
        rw [h3] at h1
        omega
      have CA2 : Hid (∀ w, Lay w → PtsAt w A l → Calls Tryz.prog 12 #[.slice A n c] w fun ev w' => ev = .returned (.tuple #[.string ⟨x.toArray⟩, .nilIface]) ∧ Below w.heap.size w w') := Lib.hid CA.out
      have CQ : Hid (∀ w, LayM w → Calls Tryz.prog 15 #[.string ⟨x.toArray⟩] w fun ev w' => ∃ v q, ev = .returned (.tuple #[v, .nilIface]) ∧ q.map (·.1) = l ∧ PtsIn w.heap.size v q w' ∧ Below w.heap.size w w') := Lib.hid (fun w L => by
        have h := line_Parse ⟨x.toArray⟩ hsz w L
        rw [hps] at h
        exact h)
      clear hx hgd hps hsz CA
      generalize (⟨x.toArray⟩ : ByteArray) = X at *
      go_wp2_with fail
      refine (CA2.out _ LW.out.S.L HP2.out).mono ?_
      rintro ev w2 ⟨rfl, hB⟩
      have HB2 := Lib.hid (HB.out.trans (hB.mono HB.out.size))
      have LW2 := Lib.hid (L.below HB2.out)
      have HP3 := Lib.hid (HP2.out.next hB)
      clear hB HB LW HP2 CA2
      go_wp2_with fail
      refine (CQ.out _ LW2.out).mono ?_
      rintro ev w3 ⟨v, q, rfl, hq, P2, hB⟩
      have HB3 := Lib.hid (HB2.out.trans (hB.mono HB2.out.size))
      have HP4 := Lib.hid (HP3.out.next hB)
      obtain ⟨A2, c2, hv, hp2⟩ := P2.at
      rw [hq] at hp2
      rw [show q.length = n from by rw [← HN.out, ← hq, List.length_map]] at hv
      subst hv
      have HP5 := Lib.hid hp2
      clear hB hq P2 hp2 HB2 HP3 LW2 CQ
      go_wp2_with fail
      refine (CM.out _ _ _ HP5.out HP4.out).mono ?_
      rintro ev w4 ⟨rfl, m, rfl⟩
      go_wp2_with fail
      go_ret
      exact ⟨rfl, HB3.out.trans ((below_drewN0 _ m).mono HB3.out.size)⟩
    · have hc := allQ_inr l 0 [] k c' HR.out.symm
      have CA2 : Hid (∀ w, Lay w → PtsAt w A l → Calls Tryz.prog 12 #[.slice A n c] w fun ev w' => ev = .returned (.tuple #[.string ⟨#[]⟩, .iface 106 (.agg #[.int .i64 k, .iface 33 (.int .i64 c')])]) ∧ Below w.heap.size w w') := Lib.hid (fun w L h => by
        have h := CA.out w L h
        simp only [allE, hc] at h
        exact h)
      clear hc CA
      go_wp2_with fail
      refine (CA2.out _ LW.out.S.L HP2.out).mono ?_
      rintro ev w2 ⟨rfl, hB⟩
      have HB2 := Lib.hid (HB.out.trans (hB.mono HB.out.size))
      clear hB HB LW HP2 CA2
      go_wp2_with fail
      go_ret
      exact ⟨rfl, HB2.out⟩
end Go.Proofs.YtnodjijgeifejaaGreatDoor
