/- weirref06.Parse: the lines of a text, by the document's own answer. -/
import Derived.Test.YtnodjijgeifejaaGreatDoorLparse
import Derived.Test.YtnodjijgeifejaaGreatDoorRoneB
import Derived.Deep.LoopGhost
import Derived.Deep.DeepCutAuto
import Derived.Deep.CutBlock
namespace Go.Proofs.YtnodjijgeifejaaGreatDoor
open Go.RowKit
set_option linter.unusedSimpArgs false
set_option linter.unusedVariables false

def parseBad : Sum (List Pt) (Nat × Option Nat) → Bad
  | .inl _ => Bad.nil
  | .inr (k, e) => refIn k (oneBad (.inr e))
set_option maxRecDepth 100000 in
set_option maxHeartbeats 4000000 in
theorem ref_Parse (s : ByteArray) (hs : s.size < 4294967281) (w : World) (L : LayS w) :
    Calls Tryz.prog 16 #[.string s] w fun ev w' => ∃ v q, ev = .returned (.tuple #[v, (parseBad (parseS s)).enc]) ∧ q.map (·.1) = parseD (parseS s) ∧ PtsIn w.heap.size v q w' ∧ Below w.heap.size w w' := by
  obtain ⟨R, hR⟩ : ∃ R, R = parseS s := ⟨_, rfl⟩
  rw [← hR]
  have HR : Hid (linesS (s.size + 1) 0 (s.data.toList.drop 0) [] = R) := Lib.hid hR.symm
  clear hR
  have hub := Tryz.underlying35
  have hup := Tryz.underlying32
  have B0 : Below w.heap.size w (w.alloc badZ) := (Below.refl _ _).alloc (Nat.le_refl _) _
  have z0 := heap_alloc_new w badZ
  obtain ⟨E, hE⟩ : ∃ E, E = (parseBad R).enc := ⟨_, rfl⟩
  rw [← hE]
  have HE := Lib.hid hE
  clear hE
  go_enter Tryz.func16, Tryz.ntmps16
  go_wp2_with fail
  go_loopg [4, 5, 6, 7] (s.size + 1) (fun m v4 v5 v6 v7 wr => ∃ (i k a f : Nat) (q : List P3) (tv : Value), tv = v4 ∧ v5 = .int .i64 (k : Int) ∧ v6 = .int .i64 (a : Int) ∧ v7 = .int .i64 (i : Int) ∧ i + m = s.size + 1 ∧ a ≤ i ∧ (i ≤ s.size ∨ a = i) ∧ k ≤ a ∧ q.length ≤ k ∧ Hid (∀ j (hj : j < s.size), a ≤ j → j < i → s[j] ≠ 10) ∧ Hid (linesS f k (s.data.toList.drop a) (q.map (·.1)) = R) ∧ Hid ((s.data.toList.drop a).length < f) ∧ Hid (PtsIn w.heap.size tv q wr) ∧ Hid (Below w.heap.size w wr) ∧ Hid (wr.heap[w.heap.size]? = some badZ))
  case atStart => exact ⟨0, 0, 0, s.size + 1, [], _, rfl, rfl, rfl, rfl, by omega, Nat.le_refl _, .inl (Nat.zero_le _), Nat.le_refl _, Nat.le_refl _, Lib.hid (fun j _ h1 h2 => by omega), HR, Lib.hid (by show s.size < s.size + 1; omega), Lib.hid (PtsIn.nil _ _), Lib.hid B0, Lib.hid z0⟩
  case round =>
    clear B0 z0
    obtain ⟨i, k, a, f, q, tv, rfl, rfl, rfl, rfl, hm, hai, hia, hka, hqk, HNO, HL, HF, HP, HB, HZ⟩ := hrel
    by_cases his : i ≤ s.size
    · have hle : ((i : Int) ≤ (s.size : Int)) := by omega
      obtain ⟨m, rfl⟩ : ∃ m, gk = m + 1 := ⟨gk - 1, by omega⟩
      obtain ⟨b, hb⟩ : ∃ b : Bool, Hid ((b = true ∧ ∃ h : i < s.size, s[i] ≠ 10) ∨ (b = false ∧ (i = s.size ∨ ∃ h : i < s.size, s[i] = 10))) := by
        by_cases hi : i < s.size
        · by_cases hc : s[i] = 10
          · exact ⟨false, Lib.hid (.inr ⟨rfl, .inr ⟨hi, hc⟩⟩)⟩
          · exact ⟨true, Lib.hid (.inl ⟨rfl, hi, hc⟩)⟩
        · exact ⟨false, Lib.hid (.inr ⟨rfl, .inl (by omega)⟩)⟩
      go_upto_region 7 with (fail)
      go_cut [26] (fun v26 wc => v26 = .bool b ∧ wr = wc)
      case first =>
        rcases hb.out with ⟨rfl, hi, hc⟩ | ⟨rfl, hi | ⟨hi, hc⟩⟩
        · have hq : ((s[i].toNat : Int) == 10) = false := by
            have : ¬ (s[i].toNat : Int) = 10 := fun e => hc (UInt8.toNat_inj.1 (by show s[i].toNat = 10; omega))
            simpa using this
          have hq2 : ((s[i].toNat : Int) != 10) = true := by rw [bne, hq]; rfl
          go_wp2_with fail
          go_meet
          case rel => exact ⟨rfl, rfl⟩
        · have hlt : decide ((i : Int) < (s.size : Int)) = false := by rw [decide_eq_false_iff_not]; omega
          have hlt2 : decide (i < s.size) = false := by rw [decide_eq_false_iff_not]; omega
          clear hi
          go_wp2_with fail
          go_meet
          case rel => exact ⟨rfl, rfl⟩
        · have hq : ((s[i].toNat : Int) == 10) = true := by rw [hc]; rfl
          have hq2 : ((s[i].toNat : Int) != 10) = false := by rw [bne, hq]; rfl
          go_wp2_with fail
          go_meet
          case rel => exact ⟨rfl, rfl⟩
      case rest =>
        obtain ⟨rfl, rfl⟩ := hcut
        rcases hb.out with ⟨rfl, hi, hc⟩ | ⟨rfl, hend⟩
        · have HNO2 : Hid (∀ j (hj : j < s.size), a ≤ j → j < i + 1 → s[j] ≠ 10) := Lib.hid (fun j hj h1 h2 => by
            rcases Nat.lt_or_ge j i with q | q
            · exact HNO.out j hj h1 q
            · obtain rfl : j = i := by omega
              exact hc)
          clear hc HNO hb
          go_wp2_with fail
          go_roundg m
          case measure => omega
          case rel => exact ⟨i + 1, k, a, f, q, _, rfl, rfl, rfl, rfl, by omega, by omega, by omega, hka, hqk, HNO2, HL, HF, HP, HB, HZ⟩
        · obtain ⟨g1, g2⟩ := ref_step hai his HNO.out hend HL.out HF.out
          have HNO2 : Hid (∀ j (hj : j < s.size), i + 1 ≤ j → j < i + 1 → s[j] ≠ 10) := Lib.hid (fun j hj h1 h2 => by omega)
          obtain ⟨T, hT⟩ : ∃ T, s.extract a i = T := ⟨_, rfl⟩
          have hTs : T.size ≤ s.size := by rw [← hT, ByteArray.size_extract]; omega
          rw [hT] at g1 g2
          have G1 := Lib.hid g1
          have G2 := Lib.hid g2
          clear g1 g2 hend hb HNO HL HF
          go_upto_region 9 with (fail)
          clear hT
          have MORE : ∀ acc' : List P3, (T.data.toList = [] ∨ skipL T.data.toList = true) → acc' = q → ∃ f', Hid (linesS f' (k + 1) (s.data.toList.drop (i + 1)) (acc'.map (·.1)) = R) ∧ Hid ((s.data.toList.drop (i + 1)).length < f') := by
            rintro acc' hsk rfl
            obtain ⟨f', h1, h2⟩ := G1.out _ (lineS_skip (by rcases hsk with e | e; · rw [e]; rfl
                                                            · exact e))
            exact ⟨f', Lib.hid h1, Lib.hid h2⟩
          have MORE := Lib.hid MORE
          rcases skip_cases T.data.toList with ⟨hx, hsk⟩ | ⟨c, r, hx, hsk⟩
          · have hE : T.toList.isEmpty = true := by rw [Lib.toList_data, hx]; rfl
            obtain ⟨f', HL2, HF2⟩ := MORE.out q (.inl hx) rfl
            clear hx G1 G2 HE hTs HNO2 MORE
            have HNO2 : Hid (∀ j (hj : j < s.size), i + 1 ≤ j → j < i + 1 → s[j] ≠ 10) := Lib.hid (fun j hj h1 h2 => by omega)
            go_wp2_with fail
            go_roundg m
            case measure => omega
            case rel => exact ⟨i + 1, k + 1, i + 1, f', q, _, rfl, rfl, rfl, rfl, by omega, Nat.le_refl _, .inr rfl, by omega, by omega, HNO2, HL2, HF2, HP, HB, HZ⟩
          · have hE : T.toList.isEmpty = false := by rw [Lib.toList_data, hx]; rfl
            have h0 : 0 < T.size := by show 0 < T.data.toList.length; rw [hx]; exact Nat.zero_lt_succ _
            have hc : T[0] = c := by
              have e : T.data.toList[0]? = some c := by rw [hx]; rfl
              rw [List.getElem?_eq_getElem (show 0 < T.data.toList.length from h0)] at e
              exact Option.some.inj e
            by_cases h35 : c = 35
            · have hq : ((T[0].toNat : Int) == 35) = true := by rw [hc, h35]; rfl
              have hq2 : ((T[0].toNat : Int) != 35) = false := by rw [bne, hq]; rfl
              obtain ⟨f', HL2, HF2⟩ := MORE.out q (.inr (by rw [hsk, h35]; rfl)) rfl
              clear hx hc G1 G2 HE hTs MORE hsk
              go_wp2_with fail
              go_roundg m
              case measure => omega
              case rel => exact ⟨i + 1, k + 1, i + 1, f', q, _, rfl, rfl, rfl, rfl, by omega, Nat.le_refl _, .inr rfl, by omega, by omega, HNO2, HL2, HF2, HP, HB, HZ⟩
            · have hq : ((T[0].toNat : Int) == 35) = false := by
                have : ¬ (T[0].toNat : Int) = 35 := fun e => h35 (by rw [← hc]; exact UInt8.toNat_inj.1 (by show T[0].toNat = 35; omega))
                simpa using this
              have hq2 : ((T[0].toNat : Int) != 35) = true := by rw [bne, hq]; rfl
              have hskf : skipL T.data.toList = false := by rw [hsk]; simpa using h35
              have C1 := ref_One T wr (L.below HB.out)
              cases hp : oneP T with
              | inr e =>
                have hRe := G2.out _ (lineS_no hskf hp)
                rw [hp] at C1
                have hcode : ¬ (oneBad (.inr e)).code = 0 := by
                  rcases e with _ | e
                  · decide
                  · simp [oneBad, refAt]
                have CI := fun w => weirref01_In (k : Int) (oneBad (.inr e)) w
                have hE2 : E = (refIn k (oneBad (.inr e))).enc := by rw [HE.out, hRe]; rfl
                have HD : Hid (parseD R = []) := Lib.hid (by rw [hRe]; rfl)
                generalize refIn k (oneBad (.inr e)) = B2 at CI hE2
                generalize oneBad (.inr e) = B1 at C1 CI hcode
                generalize oneD (.inr e) = D at C1
                obtain ⟨c2, p2, i2, l2, n2⟩ := B2
                obtain ⟨k1, p1, i1, l1, m1⟩ := B1
                have hcb : (k1 == 0) = false := by simpa using hcode
                have hcb2 : (k1 != 0) = true := by rw [bne, hcb]; rfl
                simp only [Bad.enc] at C1 CI hE2
                have C1 := Lib.hid C1
                have CI := Lib.hid CI
                have HE2 := Lib.hid hE2
                clear hRe hp hcode hx hc h35 hsk hskf HE G1 G2 MORE HR hTs hE2
                go_wp2_with fail
                refine C1.out.mono ?_
                rintro ev w1 ⟨v1, rfl, hP, hB⟩
                obtain ⟨tv1, fv1, rfl, ht, hf⟩ := hP
                obtain ⟨ao, n1, c1, rfl⟩ := own_form ht
                obtain ⟨ao', n1', c1', rfl⟩ := own_form hf
                clear ht hf
                have HB1 := Lib.hid (HB.out.trans (hB.mono HB.out.size))
                have HZ1 := Lib.hid (below_blk hB (blk_lt' HZ.out) HZ.out)
                clear hB
                go_wp2_with fail
                refine (CI.out _).mono ?_
                rintro ev w3 ⟨rfl, hB3⟩
                have B2 := (HB1.out.alloc HB1.out.size (.cells #[.string D.m, .slice ao n1 c1, .slice ao' n1' c1', .int .i64 D.time] tPt (0, 0))).alloc (by have := HB1.out.size; simp; omega) (.cells #[.int .i64 k1, .int .i64 p1, .int .i64 i1, .bool l1, .bool m1] 35 (0, 0))
                have B3 := B2.trans (hB3.mono B2.size)
                have z3 := below_blk hB3 (by have := blk_lt' HZ1.out; simp; omega) (heap_old' _ _ _ (by have := blk_lt' HZ1.out; simp; omega) (heap_old' _ _ _ (blk_lt' HZ1.out) HZ1.out))
                have HB3 := Lib.hid B3
                have HZ3 := Lib.hid z3
                have zk0 := blk_cell' (z3) 0
                have zf0 := blk_free' (z3) 0
                have zk1 := blk_cell' (z3) 1
                have zf1 := blk_free' (z3) 1
                have zk2 := blk_cell' (z3) 2
                have zf2 := blk_free' (z3) 2
                have zk3 := blk_cell' (z3) 3
                have zf3 := blk_free' (z3) 3
                have zk4 := blk_cell' (z3) 4
                have zf4 := blk_free' (z3) 4
                clear B2 B3 z3 hB3
                go_wp2_with fail
                have c1 := bad_blk HZ3.out (.int .i64 c2) (.int .i64 p2) (.int .i64 i2) (.bool l2) (.bool n2)
                have B1 := below_bad HB3.out (Nat.le_refl _) (.int .i64 c2) (.int .i64 p2) (.int .i64 i2) (.bool l2) (.bool n2)
                refine bodyPost_ret (results_two Tryz.results16 (res_tmp rfl) (res_cell (b := w.heap.size) (T' := 35) (fr := (0, 0)) rfl c1 Tryz.underlying35 rfl (by kernel_rfl))) rfl ?_
                exact ⟨_, [], by rw [HE2.out]; rfl, HD.out.symm, PtsIn.nil _ _, B1⟩
              | inl p =>
                obtain ⟨f', h1, h2⟩ := G1.out _ (lineS_ok hskf hp)
                have K1 := Lib.hid h1
                have K2 := Lib.hid h2
                rw [hp] at C1
                have C1 := Lib.hid (show Calls Tryz.prog 41 #[.string T] wr fun ev w' => ∃ v, ev = .returned (.tuple #[v, .agg #[.int .i64 0, .int .i64 0, .int .i64 0, .bool false, .bool false]]) ∧ PtIn wr.heap.size v p w' ∧ Below wr.heap.size wr w' from C1)
                obtain ⟨av, an, ac, rfl⟩ := own_form HP.out.own
                obtain ⟨i0, hi, hz0_, hz1_, hz2_⟩ := info_parts info_P
                have hqk2 : q.length + 1 ≤ 4294967281 := by omega
                clear h1 h2 hp hx hc h35 hsk hskf G1 G2 MORE HR hTs
                go_wp2_with fail
                refine C1.out.mono ?_
                rintro ev w1 ⟨v1, rfl, hP, hB⟩
                obtain ⟨tv1, fv1, rfl, ht, hf⟩ := hP
                obtain ⟨ao, n1, c1, rfl⟩ := own_form ht
                obtain ⟨ao', n1', c1', rfl⟩ := own_form hf
                obtain ⟨pq, hpq⟩ : ∃ o : Obj, o = .cells #[.string p.m, .slice ao n1 c1, .slice ao' n1' c1', .int .i64 p.time] tPt (0, 0) := ⟨_, rfl⟩
                have hB2 : Below wr.heap.size wr (((w1.alloc pq).alloc badZ).alloc pq) := ((hB.alloc hB.size pq).alloc (by have := hB.size; simp; omega) badZ).alloc (by have := hB.size; simp; omega) pq
                have hB3 : Below w1.heap.size w1 (((w1.alloc pq).alloc badZ).alloc pq) := (((Below.refl _ _).alloc (Nat.le_refl _) pq).alloc (by simp) badZ).alloc (by simp; omega) pq
                have P2 := HP.out.next hB2
                have ht2 := own_below ht hB3
                have hf2 := own_below hf hB3
                have z2 := below_blk hB2 (blk_lt' HZ.out) HZ.out
                have B2 := HB.out.trans (hB2.mono HB.out.size)
                rw [hpq] at hB2 P2 ht2 hf2 z2 B2
                have HP2 := Lib.hid P2
                have HT2 := Lib.hid ht2
                have HF2 := Lib.hid hf2
                have HB2 := Lib.hid B2
                have HZ2 := Lib.hid z2
                have hown := P2.own
                have hlt := Lib.hid HP.out.lt
                clear hB hB3 ht hf hpq P2 ht2 hf2 z2 hB2 B2
                go_wp2_with (at_builtin; refine wpList_append_own _ rfl _ _ tPts rfl w.heap.size tPt i0 (.agg #[.string ⟨#[]⟩, .slice none 0 0, .slice none 0 0, .int .i64 0]) 4 72 Tryz.underlying22 hi hz0_ hz1_ hz2_ rfl (by decide) _ _ _ rfl hown ⟨_, 0, none⟩ 1 1 [.string p.m, .slice ao n1 c1, .slice ao' n1' c1', .int .i64 p.time] rfl rfl ?c1 ?c2 ?c3 ?c4 ?c5 ?_)
                case c1 => exact new_four _ _ _ _ _ _ _ (by simp)
                case c2 => intro u hu; simp at hu; rcases hu with rfl | rfl | rfl | rfl <;> rfl
                case c3 => unfold maxLen; omega
                case c4 => omega
                case c5 => exact HB2.out.size
                intro v' w9 hown' hgrow _
                have P9 := HP2.out.snoc (x := (p, .slice ao n1 c1, .slice ao' n1' c1')) HT2.out HF2.out HB.out.size hlt.out hown' hgrow
                have z9 := grown_blk hgrow HZ2.out (fun e => own_ne hown HZ2.out (by decide) e.symm)
                have B9 : Below w.heap.size w w9 := HB2.out.trans (below_of_grown hgrow (fun j e => (hown.lt j e).1) HB2.out.size)
                obtain ⟨g, cap, rfl⟩ := own_slice hown'
                have HP9 := Lib.hid P9
                have HZ9 := Lib.hid z9
                have HB9 := Lib.hid B9
                clear hown' hgrow hown P9 z9 B9
                go_wp2_with fail
                go_roundg m
                case measure => omega
                case rel => exact ⟨i + 1, k + 1, i + 1, f', q ++ [(p, .slice ao n1 c1, .slice ao' n1' c1')], _, rfl, rfl, rfl, rfl, by omega, Nat.le_refl _, .inr rfl, by omega, by rw [List.length_append]; show q.length + 1 ≤ k + 1; omega, HNO2, Lib.hid (by rw [List.map_append]; exact K1.out), K2, HP9, HB9, HZ9⟩
    · have hle : decide ((i : Int) ≤ (s.size : Int)) = false := by rw [decide_eq_false_iff_not]; omega
      have hle2 : decide (i ≤ s.size) = false := by rw [decide_eq_false_iff_not]; omega
      have hz : s.data.toList.drop a = [] := List.drop_eq_nil_iff.2 (by show s.size ≤ a; omega)
      have hR2 : R = .inl (q.map (·.1)) := by rw [← HL.out, hz, linesS_nil]
      have HE2 : Hid (E = Bad.nil.enc) := Lib.hid (by rw [HE.out, hR2]; rfl)
      have HD : Hid (q.map (·.1) = parseD R) := Lib.hid (by rw [hR2]; rfl)
      obtain ⟨av, an, ac, rfl⟩ := own_form HP.out.own
      have z1 := HZ.out
      have zk0 := blk_cell' (z1) 0
      have zf0 := blk_free' (z1) 0
      have zk1 := blk_cell' (z1) 1
      have zf1 := blk_free' (z1) 1
      have zk2 := blk_cell' (z1) 2
      have zf2 := blk_free' (z1) 2
      have zk3 := blk_cell' (z1) 3
      have zf3 := blk_free' (z1) 3
      have zk4 := blk_cell' (z1) 4
      have zf4 := blk_free' (z1) 4
      clear hz hR2 HE HL HF z1
      go_wp2_with fail
      have c1 := bad_blk HZ.out (.int .i64 0) (.int .i64 0) (.int .i64 0) (.bool false) (.bool false)
      have B1 := below_bad HB.out (Nat.le_refl _) (.int .i64 0) (.int .i64 0) (.int .i64 0) (.bool false) (.bool false)
      have P1 := HP.out.box (bad_grown w.heap.size (.int .i64 0) (.int .i64 0) (.int .i64 0) (.bool false) (.bool false)) HZ.out (by decide) (by decide) (by decide)
      refine bodyPost_ret (results_two Tryz.results16 (res_tmp rfl) (res_cell (b := w.heap.size) (T' := 35) (fr := (0, 0)) rfl c1 Tryz.underlying35 rfl (by kernel_rfl))) rfl ?_
      exact ⟨_, q, by rw [HE2.out]; rfl, HD.out, P1, B1⟩
end Go.Proofs.YtnodjijgeifejaaGreatDoor
