/- weirmem.HandPoints, KeptPoints: a copy of points with marked room, and whether it is kept. -/
import Derived.Test.YtnodjijgeifejaaGreatDoorHandP
import Derived.Test.YtnodjijgeifejaaGreatDoorLall
namespace Go.Proofs.YtnodjijgeifejaaGreatDoor
open Go.RowKit
set_option linter.unusedSimpArgs false
set_option linter.unusedVariables false

theorem info_HPts : (Tryz.prog.info? 32).map (fun i => (i.zero, i.size, i.bytes)) = some (some (.agg #[.string ⟨#[]⟩, .slice none 0 0, .slice none 0 0, .int .i64 0]), 4, 72) := by kernel_rfl
theorem Fill.congr {g : Nat} {T : TypeId} {N i : Nat} {F F' : Nat → Value} {w0 w : World} (h : Fill g T N F i w0 w) (hF : ∀ k, k < i → F' k = F k) : Fill g T N F' i w0 w := by
  obtain ⟨C, h1, h2, h3⟩ := h.blk
  exact ⟨⟨C, h1, h2, fun j hj => by rw [hF j hj]; exact h3 j hj⟩, h.B, h.g0⟩
/-- The copy's lists of a point. -/
structure HandPt (w : World) (p : Pt) (gt gf : Nat) : Prop where
  t : HandR w gt ((p.tags.length + 9) * 2) (handTags p.tags.length (tagK p.tags) (tagV p.tags))
  f : HandR w gf ((p.fields.length + 9) * 2) (handFields p.fields.length (fldK p.fields) (fldV p.fields))
theorem HandPt.next {w w' : World} {p : Pt} {gt gf : Nat} (h : HandPt w p gt gf) (hB : Below w.heap.size w w') : HandPt w' p gt gf := ⟨h.t.next hB, h.f.next hB⟩
theorem HandR.far {w w' : World} {g b M : Nat} {F : Nat → Value} (h : HandR w b M F) (hg : w.grownBy w' (some g)) (hne : g < b) : HandR w' b M F := fun j hj => by
  have h1 := h j hj
  have hlt := World.block_lt_of_cell? w _ h1
  have e : w'.heap[b]? = w.heap[b]? := hg.block b hlt (by intro e; have := Option.some.inj e; omega)
  rw [← h1]
  simp only [World.cell?, e]
theorem HandPt.far {w w' : World} {p : Pt} {g gt gf : Nat} (h : HandPt w p gt gf) (hg : w.grownBy w' (some g)) (h1 : g < gt) (h2 : g < gf) : HandPt w' p gt gf := ⟨h.t.far hg h1, h.f.far hg h2⟩
/-- The cells of point j of a copy, and its lists. -/
def HandGood (w : World) (g : Nat) (F : Nat → Value) (j : Nat) (p : Pt) : Prop := ∃ gt gf, g < gt ∧ g < gf ∧ F (j * 4) = .string p.m ∧ F (j * 4 + 1) = .slice (some ⟨gt, 0, none⟩) p.tags.length (p.tags.length + 9) ∧ F (j * 4 + 2) = .slice (some ⟨gf, 0, none⟩) p.fields.length (p.fields.length + 9) ∧ F (j * 4 + 3) = .int .i64 p.time ∧ HandPt w p gt gf
theorem HandGood.next {w w' : World} {g : Nat} {F : Nat → Value} {j : Nat} {p : Pt} (h : HandGood w g F j p) (hB : Below w.heap.size w w') : HandGood w' g F j p := by
  obtain ⟨gt, gf, g1, g2, a, b, c, d, e⟩ := h
  exact ⟨gt, gf, g1, g2, a, b, c, d, e.next hB⟩
theorem HandGood.far {w w' : World} {g : Nat} {F : Nat → Value} {j : Nat} {p : Pt} (h : HandGood w g F j p) (hg : w.grownBy w' (some g)) : HandGood w' g F j p := by
  obtain ⟨gt, gf, g1, g2, a, b, c, d, e⟩ := h
  exact ⟨gt, gf, g1, g2, a, b, c, d, e.far hg g1 g2⟩
theorem HandGood.congr {w : World} {g : Nat} {F F' : Nat → Value} {j : Nat} {p : Pt} (h : HandGood w g F j p) (hF : ∀ k, k < (j + 1) * 4 → F' k = F k) : HandGood w g F' j p := by
  obtain ⟨gt, gf, g1, g2, a, b, c, d, e⟩ := h
  exact ⟨gt, gf, g1, g2, by rw [hF _ (by omega)]; exact a, by rw [hF _ (by omega)]; exact b, by rw [hF _ (by omega)]; exact c, by rw [hF _ (by omega)]; exact d, e⟩
/-- A copy of points with marked room. -/
structure HandPts (w : World) (g : Nat) (l : List Pt) : Prop where
  pts : ∃ F : Nat → Value, (∀ j, j < l.length * 4 → w.cell? ⟨g, j, none⟩ = some (F j)) ∧ ∀ j (hj : j < l.length), HandGood w g F j l[j]
  room : ∀ r, r < 9 → w.cell? ⟨g, (l.length + r) * 4 + 3, none⟩ = some (.int .i64 (-700 - (r : Int)))
theorem HandPts.next {w w' : World} {g : Nat} {l : List Pt} (h : HandPts w g l) (hB : Below w.heap.size w w') : HandPts w' g l := by
  obtain ⟨F, h1, h2⟩ := h.pts
  exact ⟨⟨F, fun j hj => (hB.cell (World.block_lt_of_cell? w _ (h1 j hj))).trans (h1 j hj), fun j hj => (h2 j hj).next hB⟩, fun r hr => (hB.cell (World.block_lt_of_cell? w _ (h.room r hr))).trans (h.room r hr)⟩
theorem HandPts.at {w : World} {g : Nat} {l : List Pt} (h : HandPts w g l) (hn : l.length ≤ 100000000) (hs : ∀ p ∈ l, ptBulk p ≤ 1048576) : PtsAt w (some ⟨g, 0, none⟩) l := by
  refine ⟨by omega, fun _ => ⟨_, rfl, fun j hj => ?_⟩⟩
  obtain ⟨F, h1, h2⟩ := h.pts
  obtain ⟨gt, gf, g1, g2, a, b, c, d, e⟩ := h2 j hj
  have hb := hs _ (List.getElem_mem hj)
  have k1 := len_tagB l[j].tags
  have k2 := len_fldB l[j].fields
  unfold ptBulk at hb
  refine ⟨some ⟨gt, 0, none⟩, l[j].tags.length + 9, some ⟨gf, 0, none⟩, l[j].fields.length + 9, ?_, ?_, ?_, ?_, ?_, ?_⟩
  · rw [addF, h1 (j * 4) (by omega), a]
  · rw [addF]; exact (h1 (j * 4 + 1) (by omega)).trans (by rw [b])
  · rw [addF]; exact (h1 (j * 4 + 2) (by omega)).trans (by rw [c])
  · rw [addF]; exact (h1 (j * 4 + 3) (by omega)).trans (by rw [d])
  · exact handTags_at gt _ _ _ w e.t (by omega)
  · exact handFields_at gf _ _ _ w e.f (by omega)
set_option maxRecDepth 100000 in
set_option maxHeartbeats 2000000 in
theorem mem_HandPoints (A : Option Addr) (c : Nat) (l : List Pt) (w : World) (hp : PtsAt w A l) (hn : l.length ≤ 10000000) (hs : ∀ p ∈ l, ptBulk p ≤ 1048576) :
    Calls Tryz.prog 8 #[.slice A l.length c] w fun ev w' => ∃ g, ev = .returned (.slice (some ⟨g, 0, none⟩) l.length (l.length + 9)) ∧ w.heap.size ≤ g ∧ HandPts w' g l ∧ Below w.heap.size w w' := by
  have hu := Tryz.underlying32
  have HP := Lib.hid hp
  have HS := Lib.hid hs
  obtain ⟨n, hnl⟩ : ∃ n, l.length = n := ⟨_, rfl⟩
  have HN := Lib.hid hnl
  obtain ⟨N, hN⟩ : ∃ N, n + 9 = N := ⟨_, rfl⟩
  have fin : ∀ (g : Nat) (F : Nat → Value) (W : World), Fill g 32 (N * 4) F (n * 4 + 9 * 4) w W → (∀ j (hj : j < l.length), HandGood W g F j l[j]) → (∀ r, r < 9 → F ((n + r) * 4 + 3) = .int .i64 (-700 - (r : Int))) → HandPts W g l := fun g F W h1 h2 h3 =>
    ⟨⟨F, fun j hj => h1.get (by rw [hnl] at hj; omega), h2⟩, fun r hr => by rw [hnl, h1.get (by omega), h3 r hr]⟩
  have FIN := Lib.hid fin
  rw [hnl] at hn ⊢
  rw [hN]
  have mk : ∀ W : World, (Instr.makeSlice 22 (.int .i64 ((n : Int) + 9)) (.int .i64 ((n : Int) + 9))).run Tryz.prog W = .ok (.slice (some ⟨W.heap.size, 0, none⟩) N N) (W.alloc (.cells (madeCells #[.string ⟨#[]⟩, .slice none 0 0, .slice none 0 0, .int .i64 0] (N * 4)) 32)) := fun W => make_rows Tryz.underlying22 info_HPts n N _ (by omega) (by omega) (by omega) W
  have F0 := Lib.hid (Fill.start w 32 (N * 4) (fun _ => .nilIface) (madeCells #[.string ⟨#[]⟩, .slice none 0 0, .slice none 0 0, .int .i64 0] (N * 4)) (size_madeCells _ _))
  clear hp hs hnl fin
  go_enter Tryz.func8, Tryz.ntmps8
  go_upto_block 0 with (fail)
  clear mk
  generalize w.alloc (.cells (madeCells #[.string ⟨#[]⟩, .slice none 0 0, .slice none 0 0, .int .i64 0] (N * 4)) 32) = W0 at *
  obtain ⟨g, hg⟩ : ∃ g, w.heap.size = g := ⟨_, rfl⟩
  have F0 : Hid (Fill g 32 (N * 4) (fun _ => .nilIface) 0 w W0) := Lib.hid (by rw [← hg]; exact F0.out)
  have HG := Lib.hid hg
  rw [hg]
  clear hg
  go_cut [4] (fun v4 wd => ∃ F, Hid (Fill g 32 (N * 4) F (n * 4) w wd ∧ ∀ j (hj : j < l.length), j < n → HandGood wd g F j l[j]))
  case first =>
    go_wp2_with fail
    go_loopg [4] n (fun m v4 wr => ∃ (i : Nat) (F : Nat → Value), v4 = .int .i64 (i : Int) ∧ i + m = n ∧ Hid (Fill g 32 (N * 4) F (i * 4) w wr ∧ ∀ j (hj : j < l.length), j < i → HandGood wr g F j l[j]))
    case atStart => exact ⟨0, _, rfl, by omega, Lib.hid ⟨by simpa using F0.out, fun j hj h => absurd h (Nat.not_lt_zero _)⟩⟩
    case round =>
      clear F0
      obtain ⟨i, F, rfl, hm, SA⟩ := hrel
      by_cases hi : i < n
      · have kl : decide ((i : Int) < (n : Int)) = true := by rw [decide_eq_true_iff]; omega
        have hil : i < l.length := by rw [HN.out]; exact hi
        obtain ⟨a0, rfl, C⟩ := HP.out.cells (by omega)
        obtain ⟨At, ct, Af, cf, x⟩ := C i hil
        have hb := HS.out _ (List.getElem_mem hil)
        have GOOD : Hid (∀ (gt gf : Nat) (F' : Nat → Value) (W : World), g < gt → g < gf → F' (i * 4) = .string l[i].m → F' (i * 4 + 1) = .slice (some ⟨gt, 0, none⟩) l[i].tags.length (l[i].tags.length + 9) → F' (i * 4 + 2) = .slice (some ⟨gf, 0, none⟩) l[i].fields.length (l[i].fields.length + 9) → F' (i * 4 + 3) = .int .i64 l[i].time → HandPt W l[i] gt gf → (∀ k, k < i * 4 → F' k = F k) → wr.grownBy W (some g) → ∀ j (hj : j < l.length), j < i + 1 → HandGood W g F' j l[j]) := Lib.hid (fun gt gf F' W g1 g2 h1 h2 h3 h4 h5 h6 h7 j hj hji => by
          by_cases e : j = i
          · subst e
            exact ⟨gt, gf, g1, g2, h1, h2, h3, h4, h5⟩
          · exact ((SA.out.2 j hj (by omega)).far h7).congr (fun k hk => h6 k (by omega)))
        have SF := Lib.hid SA.out.1
        generalize l[i] = p at x hb GOOD
        have tl : p.tags.length ≤ 100000000 ∧ p.fields.length ≤ 100000000 := by
          have k1 := len_tagB p.tags
          have k2 := len_fldB p.fields
          unfold ptBulk at hb
          omega
        have XW : Hid (∀ W, Below w.heap.size w W → PtCells W (a0.add (i * 4)) p At ct Af cf) := Lib.hid (fun W hB => x.next hB)
        have HT := Lib.hid (fun W (h : PtCells W (a0.add (i * 4)) p At ct Af cf) => mem_HandTags At ct p.tags.length (tagK p.tags) (tagV p.tags) W h.ts tl.1)
        have HF := Lib.hid (fun W (h : PtCells W (a0.add (i * 4)) p At ct Af cf) => mem_HandFields Af cf p.fields.length (fldK p.fields) (fldV p.fields) W h.fs tl.2)
        obtain ⟨F1, hF1⟩ : ∃ F1 : Nat → Value, F1 = fun k => if k < i * 4 then F k else if k = i * 4 then .string p.m else if k = i * 4 + 1 then .slice At p.tags.length ct else if k = i * 4 + 2 then .slice Af p.fields.length cf else .int .i64 p.time := ⟨_, rfl⟩
        have q0 : F1 (i * 4) = .string p.m := by rw [hF1]; show ite _ _ _ = _; rw [if_neg (by omega), if_pos rfl]
        have q1 : F1 (i * 4 + 1) = .slice At p.tags.length ct := by rw [hF1]; show ite _ _ _ = _; rw [if_neg (by omega), if_neg (by omega), if_pos rfl]
        have q2 : F1 (i * 4 + 2) = .slice Af p.fields.length cf := by rw [hF1]; show ite _ _ _ = _; rw [if_neg (by omega), if_neg (by omega), if_neg (by omega), if_pos rfl]
        have q3 : F1 (i * 4 + 3) = .int .i64 p.time := by rw [hF1]; show ite _ _ _ = _; rw [if_neg (by omega), if_neg (by omega), if_neg (by omega), if_neg (by omega)]
        have qq : ∀ k, k < i * 4 → F1 k = F k := fun k hk => by rw [hF1]; simp [hk]
        clear hF1
        obtain ⟨y0, t0⟩ := SF.out.any (j := i * 4) (by omega)
        obtain ⟨y1, t1⟩ := SF.out.any (j := i * 4 + 1) (by omega)
        obtain ⟨y2, t2⟩ := SF.out.any (j := i * 4 + 2) (by omega)
        obtain ⟨y3, t3⟩ := SF.out.any (j := i * 4 + 3) (by omega)
        have f0 := SF.out.free (i * 4)
        have f1 := SF.out.free (i * 4 + 1)
        have f2 := SF.out.free (i * 4 + 2)
        have f3 := SF.out.free (i * 4 + 3)
        have S1 := Lib.hid ((((((SF.out.congr qq).set (by omega) _ q0.symm).set (by omega) _ q1.symm).set (by omega) _ q2.symm).set (by omega) _ q3.symm))
        obtain ⟨x0, x1, x2, x3, -, -⟩ := XW.out wr SF.out.B
        have hBw := Lib.hid SF.out
        clear C x hb SA SF
        have Q0 := Lib.hid q0
        have Q3 := Lib.hid q3
        have QQ := Lib.hid qq
        clear q0 q1 q2 q3 qq
        go_upto_region 6 with (fail)
        clear x0 x1 x2 x3 y0 t0 y1 t1 y2 t2 y3 t3 f0 f1 f2 f3 hBw
        obtain ⟨W1, hW1⟩ : ∃ W1, (((wr.setCell ⟨g, i * 4, none⟩ (.string p.m)).setCell ⟨g, i * 4 + 1, none⟩ (.slice At p.tags.length ct)).setCell ⟨g, i * 4 + 2, none⟩ (.slice Af p.fields.length cf)).setCell ⟨g, i * 4 + 3, none⟩ (.int .i64 p.time) = W1 := ⟨_, rfl⟩
        rw [hW1] at S1 ⊢
        have WB := Lib.hid hW1
        clear hW1
        obtain ⟨x0, x1, x2, x3, -, -⟩ := XW.out W1 S1.out.B
        go_wp2_with fail
        refine (HT.out W1 (XW.out W1 S1.out.B)).mono ?_
        rintro ev w2 ⟨gt, rfl, hgt, hHT, hB⟩
        have S2 := Lib.hid (S1.out.next hB)
        have T2 := Lib.hid hHT
        have GT1 := Lib.hid hgt
        have hB2 := Lib.hid hB
        clear x0 x1 x2 x3 hgt hHT hB
        obtain ⟨y1, t1⟩ := S2.out.any (j := i * 4 + 1) (by omega)
        have f1 := S2.out.free (i * 4 + 1)
        have GT := Lib.hid S2.out.g0
        obtain ⟨F2, hF2⟩ : ∃ F2 : Nat → Value, F2 = fun k => if k = i * 4 + 1 then .slice (some ⟨gt, 0, none⟩) p.tags.length (p.tags.length + 9) else F1 k := ⟨_, rfl⟩
        have S3 := Lib.hid (S2.out.turn (F' := F2) (i * 4 + 1) (by omega) (.slice (some ⟨gt, 0, none⟩) p.tags.length (p.tags.length + 9)) (fun k _ => by rw [hF2]))
        have HF2 := Lib.hid hF2
        clear hF2
        go_upto_region 7 with (fail)
        clear y1 t1 f1
        obtain ⟨W3, hW3⟩ : ∃ W3, w2.setCell ⟨g, i * 4 + 1, none⟩ (.slice (some ⟨gt, 0, none⟩) p.tags.length (p.tags.length + 9)) = W3 := ⟨_, rfl⟩
        rw [hW3] at S3 ⊢
        have WC := Lib.hid hW3
        clear hW3
        obtain ⟨x0, x1, x2, x3, -, -⟩ := XW.out W3 S3.out.B
        go_wp2_with fail
        refine (HF.out W3 (XW.out W3 S3.out.B)).mono ?_
        rintro ev w4 ⟨gf, rfl, hgf, hHF, hB⟩
        have S4 := Lib.hid (S3.out.next hB)
        have T4 := Lib.hid hHF
        have GF1 := Lib.hid hgf
        have hB4 := Lib.hid hB
        clear x0 x1 x2 x3 hgf hHF hB
        obtain ⟨y2, t2⟩ := S4.out.any (j := i * 4 + 2) (by omega)
        have f2 := S4.out.free (i * 4 + 2)
        obtain ⟨F4, hF4⟩ : ∃ F4 : Nat → Value, F4 = fun k => if k = i * 4 + 2 then .slice (some ⟨gf, 0, none⟩) p.fields.length (p.fields.length + 9) else F2 k := ⟨_, rfl⟩
        have S5 := Lib.hid (S4.out.turn (F' := F4) (i * 4 + 2) (by omega) (.slice (some ⟨gf, 0, none⟩) p.fields.length (p.fields.length + 9)) (fun k _ => by rw [hF4]))
        have HF4 := Lib.hid hF4
        clear hF4
        have FIN2 : Hid (∀ W5, w4.setCell ⟨g, i * 4 + 2, none⟩ (.slice (some ⟨gf, 0, none⟩) p.fields.length (p.fields.length + 9)) = W5 → ∀ j (hj : j < l.length), j < i + 1 → HandGood W5 g F4 j l[j]) := Lib.hid (by
          rintro W5 rfl
          have l1 : g < gt := Nat.lt_of_lt_of_le S1.out.lt GT1.out
          have l2 : g < gf := Nat.lt_of_lt_of_le S3.out.lt GF1.out
          have r1 : wr.grownBy W1 (some g) := by
            rw [← WB.out]
            exact grown_set (grown_set (grown_set (grown_set ⟨rfl, rfl, rfl, Nat.le_refl _, fun _ _ _ => rfl⟩ _ _) _ _) _ _) _ _
          have r2 : w2.grownBy W3 (some g) := by
            rw [← WC.out]
            exact grown_set ⟨rfl, rfl, rfl, Nat.le_refl _, fun _ _ _ => rfl⟩ _ _
          have r3 : w4.grownBy (w4.setCell ⟨g, i * 4 + 2, none⟩ (.slice (some ⟨gf, 0, none⟩) p.fields.length (p.fields.length + 9))) (some g) := grown_set ⟨rfl, rfl, rfl, Nat.le_refl _, fun _ _ _ => rfl⟩ _ _
          have r4 := grown_trans (grown_trans (grown_trans (grown_trans r1 (grown_of_below hB2.out (Nat.le_refl _) (some g))) r2) (grown_of_below hB4.out (Nat.le_refl _) (some g))) r3
          refine GOOD.out gt gf F4 _ l1 l2 ?_ ?_ ?_ ?_ ⟨(((T2.out.far r2 l1).next hB4.out).far r3 l1), T4.out.far r3 l2⟩ ?_ r4
          · rw [HF4.out]; show ite _ _ _ = _; rw [if_neg (by omega), HF2.out]; show ite _ _ _ = _; rw [if_neg (by omega)]; exact Q0.out
          · rw [HF4.out]; show ite _ _ _ = _; rw [if_neg (by omega), HF2.out]; show ite _ _ _ = _; rw [if_pos rfl]
          · rw [HF4.out]; show ite _ _ _ = _; rw [if_pos rfl]
          · rw [HF4.out]; show ite _ _ _ = _; rw [if_neg (by omega), HF2.out]; show ite _ _ _ = _; rw [if_neg (by omega)]; exact Q3.out
          · intro k hk
            rw [HF4.out]; show ite _ _ _ = _; rw [if_neg (by omega), HF2.out]; show ite _ _ _ = _; rw [if_neg (by omega)]; exact QQ.out k hk)
        clear HT HF XW GOOD
        go_wp2_with fail
        go_roundg (gk - 1)
        case measure => omega
        case rel => exact ⟨i + 1, F4, by go_num, by omega, Lib.hid ⟨by rw [show (i + 1) * 4 = i * 4 + 1 + 1 + 1 + 1 from by omega]; exact S5.out, FIN2.out _ rfl⟩⟩
      · have kl : decide ((i : Int) < (n : Int)) = false := by rw [decide_eq_false_iff_not]; omega
        obtain rfl : i = n := by omega
        go_wp2_with fail
        go_meet
        case rel => exact ⟨F, SA⟩
  case rest =>
    clear F0
    obtain ⟨F, F1⟩ := hcut
    have hz1 : (N : Int) = (n : Int) + 9 := by omega
    have F1' := Lib.hid F1.out.1
    have GD := Lib.hid F1.out.2
    clear F1
    go_wp2_with fail
    go_loopg [5] 9 (fun m v5 wr => ∃ (r : Nat) (F' : Nat → Value), v5 = .int .i64 ((n : Int) + (r : Int)) ∧ r + m = 9 ∧ Hid (Fill g 32 (N * 4) F' ((n + r) * 4) w wr ∧ (∀ k, k < n * 4 → F' k = F k) ∧ (∀ q, q < r → F' ((n + q) * 4 + 3) = .int .i64 (-700 - (q : Int))) ∧ wc.grownBy wr (some g)))
    case atStart => exact ⟨0, F, by simp, by omega, Lib.hid ⟨F1'.out, fun _ _ => rfl, fun q hq => absurd hq (Nat.not_lt_zero _), ⟨rfl, rfl, rfl, Nat.le_refl _, fun _ _ _ => rfl⟩⟩⟩
    case round =>
      clear F1'
      obtain ⟨r, F', rfl, hm, SA⟩ := hrel
      by_cases hr : r < 9
      · have kl : decide ((n : Int) + (r : Int) < (N : Int)) = true := by rw [decide_eq_true_iff]; omega
        obtain ⟨q, hq⟩ : ∃ q : Nat, n + r = q := ⟨_, rfl⟩
        have hq1 : (n : Int) + (r : Int) = (q : Int) := by omega
        have hqN : q < N := by omega
        have hq2 : -700 - (q : Int) + (n : Int) = -700 - (r : Int) := by omega
        rw [hq] at SA
        rw [hq1] at kl ⊢
        obtain ⟨F1, hF1⟩ : ∃ F1 : Nat → Value, F1 = fun k => if k < q * 4 then F' k else if k = q * 4 then .string ⟨#[]⟩ else if k = q * 4 + 1 then .slice none 0 0 else if k = q * 4 + 2 then .slice none 0 0 else .int .i64 (-700 - (r : Int)) := ⟨_, rfl⟩
        have q0 : F1 (q * 4) = .string ⟨#[]⟩ := by rw [hF1]; show ite _ _ _ = _; rw [if_neg (by omega), if_pos rfl]
        have q1 : F1 (q * 4 + 1) = .slice none 0 0 := by rw [hF1]; show ite _ _ _ = _; rw [if_neg (by omega), if_neg (by omega), if_pos rfl]
        have q2 : F1 (q * 4 + 2) = .slice none 0 0 := by rw [hF1]; show ite _ _ _ = _; rw [if_neg (by omega), if_neg (by omega), if_neg (by omega), if_pos rfl]
        have q3 : F1 (q * 4 + 3) = .int .i64 (-700 - (r : Int)) := by rw [hF1]; show ite _ _ _ = _; rw [if_neg (by omega), if_neg (by omega), if_neg (by omega), if_neg (by omega)]
        have qq : ∀ k, k < q * 4 → F1 k = F' k := fun k hk => by rw [hF1]; show ite _ _ _ = _; rw [if_pos hk]
        clear hF1
        obtain ⟨y0, t0⟩ := SA.out.1.any (j := q * 4) (by omega)
        obtain ⟨y1, t1⟩ := SA.out.1.any (j := q * 4 + 1) (by omega)
        obtain ⟨y2, t2⟩ := SA.out.1.any (j := q * 4 + 2) (by omega)
        obtain ⟨y3, t3⟩ := SA.out.1.any (j := q * 4 + 3) (by omega)
        have f0 := SA.out.1.free (q * 4)
        have f1 := SA.out.1.free (q * 4 + 1)
        have f2 := SA.out.1.free (q * 4 + 2)
        have f3 := SA.out.1.free (q * 4 + 3)
        have S1 := Lib.hid ((((((SA.out.1.congr qq).set (by omega) _ q0.symm).set (by omega) _ q1.symm).set (by omega) _ q2.symm).set (by omega) _ q3.symm))
        have S2 : Hid ((∀ k, k < n * 4 → F1 k = F k) ∧ (∀ q', q' < r + 1 → F1 ((n + q') * 4 + 3) = .int .i64 (-700 - (q' : Int)))) := Lib.hid ⟨fun k hk => by rw [qq k (by omega)]; exact SA.out.2.1 k hk, fun q' hq' => by
          by_cases e : q' = r
          · subst e
            rw [hq]
            exact q3
          · rw [qq _ (by omega)]
            exact SA.out.2.2.1 q' (by omega)⟩
        have S3 := Lib.hid SA.out.2.2.2
        clear SA q0 q1 q2 q3 qq
        go_wp2_with fail
        go_roundg (gk - 1)
        case measure => omega
        case rel => exact ⟨r + 1, F1, by rw [← hq1]; go_num, by omega, Lib.hid ⟨by rw [show (n + (r + 1)) * 4 = q * 4 + 1 + 1 + 1 + 1 from by omega]; exact S1.out, S2.out.1, S2.out.2, grown_set (grown_set (grown_set (grown_set S3.out _ _) _ _) _ _) _ _⟩⟩
      · have kl : decide ((n : Int) + (r : Int) < (N : Int)) = false := by rw [decide_eq_false_iff_not]; omega
        have hr9 : r = 9 := by omega
        have hn0 : n ≤ N := by omega
        have S2 : Hid (HandPts wr g l ∧ w.heap.size ≤ g ∧ Below w.heap.size w wr) := Lib.hid ⟨FIN.out g F' wr (by have h := SA.out.1; rw [hr9, show (n + 9) * 4 = n * 4 + 9 * 4 from by omega] at h; exact h) (fun j hj => ((GD.out j hj (by have := HN.out; omega)).far SA.out.2.2.2).congr (fun k hk => SA.out.2.1 k (by have := HN.out; omega))) (fun q hq => SA.out.2.2.1 q (by omega)), SA.out.1.g0, SA.out.1.B⟩
        clear SA hr9
        go_wp2_with fail
        go_ret
        exact ⟨g, rfl, S2.out.2.1, S2.out.1, S2.out.2.2⟩
theorem reslice_P : (Tryz.prog.info? 32).map (fun i => i.size) = some 4 := by kernel_rfl
set_option maxRecDepth 100000 in
set_option maxHeartbeats 2000000 in
theorem mem_KeptPoints (g : Nat) (A1 : Option Addr) (c1 : Nat) (l : List Pt) (w : World) (hH : HandPts w g l) (h1 : PtsAt w A1 l) (hn : l.length ≤ 10000000) (hs : ∀ p ∈ l, ptBulk p ≤ 1048576) :
    Calls Tryz.prog 14 #[.slice (some ⟨g, 0, none⟩) l.length (l.length + 9), .slice A1 l.length c1] w fun ev w' => ev = .returned (.bool true) ∧ Below w.heap.size w w' := by
  have hu := Tryz.underlying32
  have CS := SamePoints_eq (some ⟨g, 0, none⟩) A1 (l.length + 9) c1 l w (hH.at (by omega) hs) h1
  have HH := Lib.hid hH
  have HP := Lib.hid h1
  have HS := Lib.hid hs
  obtain ⟨n, hnl⟩ : ∃ n, l.length = n := ⟨_, rfl⟩
  have HN := Lib.hid hnl
  obtain ⟨N, hN⟩ : ∃ N, n + 9 = N := ⟨_, rfl⟩
  rw [hnl, hN] at CS
  rw [hnl] at hn ⊢
  rw [hN]
  have CS := Lib.hid CS
  have hsl : ∀ W : World, (Instr.slice 22 (.slice (some ⟨g, 0, none⟩) n N) none (some (.int .i64 ((n : Int) + 9))) none).run Tryz.prog W = .ok (.slice (some ⟨g, 0, none⟩) N N) W := fun W => reslice_end (s := 4) Tryz.underlying22 (by kernel_rfl) reslice_P g n N _ (by omega) W
  clear hH h1 hs hnl
  go_enter Tryz.func14, Tryz.ntmps14
  go_wp2_with fail
  refine (CS.out).mono ?_
  rintro ev w1 ⟨rfl, m, rfl⟩
  have B1 := Lib.hid (below_drewN (Below.refl w.heap.size w) m)
  generalize w.drewN m = W1 at *
  clear CS
  go_upto_block 0 with (fail)
  go_cut [5] (fun v5 wd => Hid (Below w.heap.size w wd))
  case first =>
    go_wp2_with fail
    go_loopg [5] n (fun m v5 wr => ∃ i : Nat, v5 = .int .i64 (i : Int) ∧ i + m = n ∧ Hid (Below w.heap.size w wr))
    case atStart => exact ⟨0, rfl, by omega, B1⟩
    case round =>
      clear B1 hsl
      obtain ⟨i, rfl, hm, SA⟩ := hrel
      by_cases hi : i < n
      · have kl : decide ((i : Int) < (n : Int)) = true := by rw [decide_eq_true_iff]; omega
        have hil : i < l.length := by rw [HN.out]; exact hi
        have hiN : (i : Int) < (N : Int) := by omega
        have p0 : (0 : Int) ≤ (i : Int) := by omega
        have p1 : (i : Int) < (n : Int) := by omega
        have HW := Lib.hid (HP.out.next SA.out)
        obtain ⟨a0, rfl, C⟩ := HW.out.cells (by omega)
        obtain ⟨At, ct, Af, cf, x⟩ := C i hil
        have hb := HS.out _ (List.getElem_mem hil)
        obtain ⟨F, hF1, hF2⟩ := (HH.out.next SA.out).pts
        obtain ⟨gt, gf, g1, g2, e0, e1, e2, e3, e4⟩ := hF2 i hil
        have z1 := (hF1 (i * 4 + 1) (by omega)).trans (congrArg some e1)
        have z2 := (hF1 (i * 4 + 2) (by omega)).trans (congrArg some e2)
        clear hF1 hF2 e0 e1 e2 e3
        generalize l[i] = p at x hb e4 z1 z2
        have tl : p.tags.length ≤ 100000000 ∧ p.fields.length ≤ 100000000 := by
          have k1 := len_tagB p.tags
          have k2 := len_fldB p.fields
          unfold ptBulk at hb
          omega
        have KT := Lib.hid (fun W (hB : Below wr.heap.size wr W) => mem_KeptTags gt At ct p.tags.length (tagK p.tags) (tagV p.tags) W (e4.t.next hB) (x.ts.next hB) tl.1)
        have KF := Lib.hid (fun W (hB : Below wr.heap.size wr W) => mem_KeptFields gf Af cf p.fields.length (fldK p.fields) (fldV p.fields) W (e4.f.next hB) (x.fs.next hB) tl.2)
        have x1 := x.t
        have x2 := x.f
        clear x e4 hb tl C
        generalize p.tags.length = nt at *
        generalize p.fields.length = nf at *
        have TT : Hid (∀ W, Below wr.heap.size wr W → W.cell? ⟨g, i * 4 + 1, none⟩ = some (.slice (some ⟨gt, 0, none⟩) nt (nt + 9)) ∧ W.cell? ⟨g, i * 4 + 2, none⟩ = some (.slice (some ⟨gf, 0, none⟩) nf (nf + 9)) ∧ W.cell? ⟨(a0.add (i * 4)).block, (a0.add (i * 4)).off + 1, none⟩ = some (.slice At nt ct) ∧ W.cell? ⟨(a0.add (i * 4)).block, (a0.add (i * 4)).off + 2, none⟩ = some (.slice Af nf cf)) := Lib.hid (fun W hB =>
          ⟨(hB.cell (World.block_lt_of_cell? wr _ z1)).trans z1, (hB.cell (World.block_lt_of_cell? wr _ z2)).trans z2, (hB.cell (World.block_lt_of_cell? wr _ x1)).trans x1, (hB.cell (World.block_lt_of_cell? wr _ x2)).trans x2⟩)
        have t0 := TT.out _ (Below.refl _ _).drew
        have D0 := Lib.hid (Below.refl wr.heap.size wr).drew
        clear z1 z2 x1 x2
        go_upto_region 6 with (fail)
        go_region_held3 (fun W => W.cell? ⟨g, i * 4 + 1, none⟩ = some (.slice (some ⟨gt, 0, none⟩) nt (nt + 9)) ∧ W.cell? ⟨g, i * 4 + 2, none⟩ = some (.slice (some ⟨gf, 0, none⟩) nf (nf + 9)) ∧ W.cell? ⟨(a0.add (i * 4)).block, (a0.add (i * 4)).off + 1, none⟩ = some (.slice At nt ct) ∧ W.cell? ⟨(a0.add (i * 4)).block, (a0.add (i * 4)).off + 2, none⟩ = some (.slice Af nf cf))
          (first | (with_reducible exact t0) | (with_reducible exact t1) | (with_reducible exact t2) | fail)
          (first
            | (go_at_call 38; (with_reducible refine (KT.out _ D0.out).mono ?_); rintro ev w3 ⟨rfl, hB3⟩; have D1 := Lib.hid (D0.out.trans hB3); have t1 := TT.out _ D1.out)
            | (go_at_call 39; (with_reducible refine (KF.out _ D1.out).mono ?_); rintro ev w4 ⟨rfl, hB4⟩; have D2 := Lib.hid (D1.out.trans (hB4.mono D1.out.size)); have t2 := TT.out _ D2.out)
            | fail)
        have SB := Lib.hid (SA.out.trans (D2.out.mono SA.out.size))
        clear t0 t1 t2 TT
        go_wp2_with fail
        go_roundg (gk - 1)
        case measure => omega
        case rel => exact ⟨i + 1, by go_num, by omega, SB⟩
      · have kl : decide ((i : Int) < (n : Int)) = false := by rw [decide_eq_false_iff_not]; omega
        go_wp2_with fail
        go_meet
        case rel => exact SA
  case rest =>
    clear B1
    have B1 := hcut
    clear hcut
    go_wp2_with fail
    clear hsl
    go_loopg [7] 9 (fun m v7 wr => ∃ r : Nat, v7 = .int .i64 ((n : Int) + (r : Int)) ∧ r + m = 9 ∧ Hid (Below w.heap.size w wr))
    case atStart => exact ⟨0, by simp, by omega, B1⟩
    case round =>
      clear B1
      obtain ⟨r, rfl, hm, SA⟩ := hrel
      by_cases hr : r < 9
      · have kl : decide ((n : Int) + (r : Int) < (N : Int)) = true := by rw [decide_eq_true_iff]; omega
        have t3 := (HH.out.next SA.out).room r hr
        obtain ⟨q, hq⟩ : ∃ q : Nat, n + r = q := ⟨_, rfl⟩
        have hq1 : (n : Int) + (r : Int) = (q : Int) := by omega
        have hqN : q < N := by omega
        have hq2 : -700 - (q : Int) + (n : Int) = -700 - (r : Int) := by omega
        have p0 : (0 : Int) ≤ (q : Int) := by omega
        have p1 : (q : Int) < (N : Int) := by omega
        rw [HN.out, hq] at t3
        rw [hq1] at kl ⊢
        go_wp2_with fail
        go_roundg (gk - 1)
        case measure => omega
        case rel => exact ⟨r + 1, by rw [← hq1]; go_num, by omega, SA⟩
      · have kl : decide ((n : Int) + (r : Int) < (N : Int)) = false := by rw [decide_eq_false_iff_not]; omega
        go_wp2_with fail
        go_ret
        exact ⟨rfl, SA.out⟩
end Go.Proofs.YtnodjijgeifejaaGreatDoor
