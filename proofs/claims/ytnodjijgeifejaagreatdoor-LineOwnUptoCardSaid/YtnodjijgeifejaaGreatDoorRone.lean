/- weirref06.One, where the text is read. -/
import Derived.Test.YtnodjijgeifejaaGreatDoorRoneA
import Derived.Deep.DeepCutAuto
import Derived.Deep.CutBlock
namespace Go.Proofs.YtnodjijgeifejaaGreatDoor
open Go.RowKit
set_option linter.unusedSimpArgs false
set_option linter.unusedVariables false

theorem pt_far {w : World} {b rb : Nat} {o : Obj} (h : w.heap[rb]? = some o) (hne : rb ≠ b) (v0 v1 v2 v3 : Value) :
    ((((w.setCell ⟨b, 0, none⟩ v0).setCell ⟨b, 1, none⟩ v1).setCell ⟨b, 2, none⟩ v2).setCell ⟨b, 3, none⟩ v3).heap[rb]? = some o :=
  blk_far' (blk_far' (blk_far' (blk_far' h hne 0 v0) hne 1 v1) hne 2 v2) hne 3 v3
theorem bad_grown {w : World} (b : Nat) (v0 v1 v2 v3 v4 : Value) : w.grownBy (((((w.setCell ⟨b, 0, none⟩ v0).setCell ⟨b, 1, none⟩ v1).setCell ⟨b, 2, none⟩ v2).setCell ⟨b, 3, none⟩ v3).setCell ⟨b, 4, none⟩ v4) (some b) :=
  grown_set (grown_set (grown_set (grown_set (grown_set (grown_refl _ _) 0 _) 1 _) 2 _) 3 _) 4 _
abbrev rdZ (s : ByteArray) : Obj := .cells #[.string s, .int .i64 0, .int .i64 0, .int .i64 0, .int .i64 0, .bool false, .bool false] 150 (0, 0)
theorem rone_start (w : World) (s : ByteArray) : QSt w (w.heap.size + 1 + 1) (w.heap.size + 1 + 1 + 1) s (0, none) ⟨#[]⟩ (.slice none 0 0) (.slice none 0 0) 0 [] [] ((((w.alloc ptZ).alloc badZ).alloc (rdZ s)).alloc ptZ) := by
  have s1 : (w.alloc ptZ).heap.size = w.heap.size + 1 := by simp
  have s2 : ((w.alloc ptZ).alloc badZ).heap.size = w.heap.size + 1 + 1 := by rw [World.size_alloc, s1]
  have s3 : (((w.alloc ptZ).alloc badZ).alloc (rdZ s)).heap.size = w.heap.size + 1 + 1 + 1 := by rw [World.size_alloc, s2]
  have q1 : (w.alloc ptZ).heap[w.heap.size]? = some ptZ := heap_alloc_new w ptZ
  have q2 : ((w.alloc ptZ).alloc badZ).heap[w.heap.size]? = some ptZ := heap_old' (w.alloc ptZ) badZ w.heap.size (by omega) q1
  have q3 : (((w.alloc ptZ).alloc badZ).alloc (rdZ s)).heap[w.heap.size]? = some ptZ := heap_old' ((w.alloc ptZ).alloc badZ) (rdZ s) w.heap.size (by omega) q2
  have q4 : ((((w.alloc ptZ).alloc badZ).alloc (rdZ s)).alloc ptZ).heap[w.heap.size]? = some ptZ := heap_old' (((w.alloc ptZ).alloc badZ).alloc (rdZ s)) ptZ w.heap.size (by omega) q3
  have z2 : ((w.alloc ptZ).alloc badZ).heap[w.heap.size + 1]? = some badZ := heap_new' (w.alloc ptZ) badZ (w.heap.size + 1) s1.symm
  have z3 : (((w.alloc ptZ).alloc badZ).alloc (rdZ s)).heap[w.heap.size + 1]? = some badZ := heap_old' ((w.alloc ptZ).alloc badZ) (rdZ s) (w.heap.size + 1) (by omega) z2
  have z4 : ((((w.alloc ptZ).alloc badZ).alloc (rdZ s)).alloc ptZ).heap[w.heap.size + 1]? = some badZ := heap_old' (((w.alloc ptZ).alloc badZ).alloc (rdZ s)) ptZ (w.heap.size + 1) (by omega) z3
  have r3 : (((w.alloc ptZ).alloc badZ).alloc (rdZ s)).heap[w.heap.size + 1 + 1]? = some (rdZ s) := heap_new' ((w.alloc ptZ).alloc badZ) (rdZ s) (w.heap.size + 1 + 1) s2.symm
  have r4 : ((((w.alloc ptZ).alloc badZ).alloc (rdZ s)).alloc ptZ).heap[w.heap.size + 1 + 1]? = some (rdZ s) := heap_old' (((w.alloc ptZ).alloc badZ).alloc (rdZ s)) ptZ (w.heap.size + 1 + 1) (by omega) r3
  have p4 : ((((w.alloc ptZ).alloc badZ).alloc (rdZ s)).alloc ptZ).heap[w.heap.size + 1 + 1 + 1]? = some ptZ := heap_new' (((w.alloc ptZ).alloc badZ).alloc (rdZ s)) ptZ (w.heap.size + 1 + 1 + 1) s3.symm
  have B4 : Below w.heap.size w ((((w.alloc ptZ).alloc badZ).alloc (rdZ s)).alloc ptZ) := ((((Below.refl _ _).alloc (Nat.le_refl _) _).alloc (by omega) _).alloc (by omega) _).alloc (by omega) _
  exact ⟨B4, r4, p4, World.ownsRow_nil _ _ _ _, World.ownsRow_nil _ _ _ _, q4, z4, rfl, rfl⟩
theorem two_ends_drew {w : World} (q : Nat) (v0 v1 v2 v3 b0 b1 b2 b3 b4 : Value) (hq : w.heap[q]? = some ptZ) (hz : w.heap[q + 1]? = some badZ) :
    ∃ Y : World, (((((((((w.setCell ⟨q, 0, none⟩ v0).setCell ⟨q, 1, none⟩ v1).setCell ⟨q, 2, none⟩ v2).setCell ⟨q, 3, none⟩ v3).setCell ⟨q + 1, 0, none⟩ b0).setCell ⟨q + 1, 1, none⟩ b1).setCell ⟨q + 1, 2, none⟩ b2).setCell ⟨q + 1, 3, none⟩ b3).setCell ⟨q + 1, 4, none⟩ b4).drew = Y ∧ Y.heap[q]? = some (.cells #[v0, v1, v2, v3] 32 (0, 0)) ∧ Y.heap[q + 1]? = some (.cells #[b0, b1, b2, b3, b4] 35 (0, 0)) ∧ ∀ B : Nat, B ≤ q → Below B w Y := by
  obtain ⟨h1, h2, h3⟩ := two_ends q v0 v1 v2 v3 b0 b1 b2 b3 b4 hq hz
  exact ⟨_, rfl, blk_drew h1, blk_drew h2, fun B hB => (h3 B hB).drew⟩
set_option maxRecDepth 100000 in
set_option maxHeartbeats 16000000 in
theorem ref_One_read (s : ByteArray) (w : World) (L : LayS w) (h8 : ¬ 8192 < s.size) (hno : ∀ j (hj : j < s.size), s[j] ≠ 10) (hsh : isP s 35 0 = false) :
    Calls Tryz.prog 41 #[.string s] w fun ev w' => ∃ v, ev = .returned (.tuple #[v, (oneBad (oneP s)).enc]) ∧ PtIn w.heap.size v (oneD (oneP s)) w' ∧ Below w.heap.size w w' := by
  rw [← one_eq]
  obtain ⟨X, hX⟩ : ∃ X, oneR s = X := ⟨_, rfl⟩
  rw [hX]
  obtain ⟨E, hE⟩ : ∃ E, E = (oneBad X).enc := ⟨_, rfl⟩
  obtain ⟨D, hD⟩ : ∃ D, D = oneD X := ⟨_, rfl⟩
  rw [← hE, ← hD]
  have HE := Lib.hid hE
  have HD := Lib.hid hD
  clear hE hD
  unfold oneR at hX
  have B2 : Below w.heap.size w ((w.alloc ptZ).alloc badZ) := ((Below.refl _ _).alloc (Nat.le_refl _) _).alloc (by first | (simp; done) | (simp; omega)) _
  have q2 : ((w.alloc ptZ).alloc badZ).heap[w.heap.size]? = some ptZ := heap_old' _ _ _ (by first | (simp; done) | (simp; omega)) (heap_alloc_new w ptZ)
  have z2 : ((w.alloc ptZ).alloc badZ).heap[w.heap.size + 1]? = some badZ := heap_new' _ _ _ (by first | (simp; done) | (simp; omega))
  have L2 := L.below B2
  have h8' : ¬ (8192 : Int) < (s.size : Int) := by omega
  have hs : s.size ≤ 8192 := by omega
  rw [if_neg h8, nl_none hno] at hX
  simp only at hX
  rw [if_neg (by rw [hsh]; decide)] at hX
  have hq0 : ∀ h : 0 < s.size, ((s[0].toNat : Int) == 35) = false := fun h => by have := isP_lt 35 h; rw [hsh] at this; exact this.symm
  unfold pointR at hX
  simp only at hX
  generalize hM : pieceR s (0, none) = M at hX
  generalize hT : tagsR s (s.size + 1) M.2 [] = T at hX
  generalize hF : fieldsR s (s.size + 1) (mustR s 32 T.2) [] = F at hX
  generalize hN : numberR s (mustR s 32 F.2) = N at hX
  have hMle : M.2.1 ≤ s.size := by rw [← hM]; exact (pieceR_le (st := (0, none)) (Nat.zero_le _)).1
  have HX := Lib.hid hX
  have HM := Lib.hid hM
  have HT := Lib.hid hT
  have HF := Lib.hid hF
  have HN := Lib.hid hN
  have HNO := Lib.hid hno
  clear hX hM hT hF hN hsh hno h8
  go_enter Tryz.func41, Tryz.ntmps41
  go_upto_block 0 with (fail)
  go_cut [4] (fun v4 wc => (w.alloc ptZ).alloc badZ = wc)
  case first =>
    clear hq0
    go_wp2
    go_loopg [4] s.size (fun n v wr => ∃ i : Nat, v = .int .i64 i ∧ i + n = s.size ∧ (w.alloc ptZ).alloc badZ = wr)
    case atStart => exact ⟨0, rfl, by omega, rfl⟩
    case round =>
      obtain ⟨i, rfl, hn, rfl⟩ := hrel
      by_cases hi : i < s.size
      · have hq : ((s[i].toNat : Int) == 10) = false := by
          have : ¬ (s[i].toNat : Int) = 10 := fun e => HNO.out i hi (UInt8.toNat_inj.1 (by show s[i].toNat = 10; omega))
          simpa using this
        go_wp2
        go_roundg (gk - 1)
        case measure => omega
        case rel => exact ⟨i + 1, rfl, by omega, rfl⟩
      · go_wp2_with fail
        go_meet
        case rel => rfl
  case rest =>
    obtain rfl := hcut
    go_upto_region 8 with (fail)
    go_cut [37] (fun v37 wc => v37 = .bool false ∧ (w.alloc ptZ).alloc badZ = wc)
    case first =>
      by_cases h0 : 0 < s.size
      · have hq1 := hq0 h0
        clear hq0
        go_wp2_with fail
        go_meet
        case rel => exact ⟨rfl, rfl⟩
      · have hq1 : decide ((0 : Int) < (s.size : Int)) = false := by simpa using h0
        clear hq0
        go_wp2_with fail
        go_meet
        case rel => exact ⟨rfl, rfl⟩
    case rest =>
      clear hq0
      obtain ⟨rfl, rfl⟩ := hcut
      have st := rone_start w s
      go_wp2_with fail
      have CP := fun x h => ref_piece (w.heap.size + 1 + 1) s (0, none) hs (Nat.zero_le _) x h
      rw [HM.out] at CP
      refine (CP _ st.r).mono ?_
      rintro ev w5 ⟨rfl, h5, hg5⟩
      replace st := st.read hg5 h5
      clear CP h5 hg5
      have pk := blk_cell' st.p 0
      have pf := blk_free' st.p 0
      go_upto_block 2 with (fail)
      replace st := st.set0 M.1
      clear pk pf
      go_cut [7, 8] (fun v7 v8 wc => ∃ tv : Value, QSt w (w.heap.size + 1 + 1) (w.heap.size + 1 + 1 + 1) s T.2 M.1 tv (.slice none 0 0) 0 T.1 [] wc ∧ T.2.1 ≤ s.size)
      case first =>
        go_wp2
        go_loopg [7, 8] (s.size - M.2.1) (fun n v7 v8 wr => ∃ (f : Nat) (rs : RSt) (tv : Value) (tags : List (ByteArray × ByteArray)), rs.1 + n = s.size ∧ n < f ∧ tags.length ≤ rs.1 ∧ QSt w (w.heap.size + 1 + 1) (w.heap.size + 1 + 1 + 1) s rs M.1 tv (.slice none 0 0) 0 tags [] wr ∧ tagsR s f rs tags = T)
        case atStart => exact ⟨s.size + 1, M.2, _, [], by omega, by omega, by simp, st, HT.out⟩
        case round =>
          clear st
          obtain ⟨f, rs, tv, tags, hn, hf, htl, st, hk⟩ := hrel
          obtain ⟨f, rfl⟩ : ∃ g, f = g + 1 := ⟨f - 1, by omega⟩
          unfold tagsR at hk
          have IS := fun x h => ref_is (w.heap.size + 1 + 1) s rs 44 44 rfl x h
          cases hc : isR s 44 rs with
          | true =>
            rw [if_pos hc] at hk
            rw [hc] at IS
            have hlt := (isR_lt hc).1
            have IS := Lib.hid IS
            have CP1 := fun x h => ref_piece (w.heap.size + 1 + 1) s (rs.1 + 1, rs.2) hs (by show rs.1 + 1 ≤ s.size; omega) x h
            have l1 := pieceR_le (s := s) (st := (rs.1 + 1, rs.2)) (by show rs.1 + 1 ≤ s.size; omega)
            generalize pieceR s (rs.1 + 1, rs.2) = P1 at hk CP1 l1
            have CM1 := fun x h => ref_must (w.heap.size + 1 + 1) s P1.2 61 61 rfl hs x h
            have l2 := mustR_le (s := s) (c := 61) (st := P1.2) l1.1
            generalize mustR s 61 P1.2 = M1 at hk CM1 l2
            have CP2 := fun x h => ref_piece (w.heap.size + 1 + 1) s M1 hs l2.1 x h
            have l3 := pieceR_le (s := s) (st := M1) l2.1
            generalize pieceR s M1 = P2 at hk CP2 l3
            obtain ⟨k, P1s⟩ := P1
            obtain ⟨v, P2s⟩ := P2
            simp only at hk l1 l2 l3
            have HK := Lib.hid hk
            have CP1 := Lib.hid CP1
            have CM1 := Lib.hid CM1
            have CP2 := Lib.hid CP2
            clear hk hc
            go_wp2_with fail
            refine (IS.out _ st.r).mono ?_
            rintro ev w6 ⟨rfl, hB6⟩
            replace st := st.next hB6
            have rk := blk_cell' (show w6.heap[w.heap.size + 1 + 1]? = some (.cells _ _ (0, 0)) from st.r) 1
            have rf := blk_free' (show w6.heap[w.heap.size + 1 + 1]? = some (.cells _ _ (0, 0)) from st.r) 1
            go_wp2_with fail
            replace st := st.at (rs.1 + 1)
            clear rk rf hB6 IS
            refine (CP1.out _ st.r).mono ?_
            rintro ev w7 ⟨rfl, h7, hg7⟩
            replace st := st.read hg7 h7
            clear h7 hg7 CP1
            go_wp2_with fail
            refine (CM1.out _ st.r).mono ?_
            rintro ev w8 ⟨rfl, h8, hg8⟩
            replace st := st.read hg8 h8
            clear h8 hg8 CM1
            go_wp2_with fail
            refine (CP2.out _ st.r).mono ?_
            rintro ev w10 ⟨rfl, h10, hg10⟩
            replace st := st.read hg10 h10
            clear h10 hg10 CP2
            have pk := blk_cell' st.p 1
            have pf := blk_free' st.p 1
            obtain ⟨i0, hi, hz0_, hz1_, hz2_⟩ := info_parts info_T
            go_wp2_with (at_builtin; refine wpList_append_own _ rfl _ _ 29 rfl w.heap.size 98 i0 (.agg #[.string ⟨#[]⟩, .string ⟨#[]⟩]) 2 32 Tryz.underlying29 hi hz0_ hz1_ hz2_ rfl (by decide) _ _ _ rfl (st.t.alloc _) ⟨_, 0, none⟩ 1 1 [.string k, .string v] rfl rfl ?c1 ?c2 ?c3 ?c4 ?c5 ?_)
            case c1 => exact new_two _ _ _ _ _ (by simp)
            case c2 => intro u hu; simp at hu; rcases hu with rfl | rfl <;> rfl
            case c3 => unfold maxLen; omega
            case c4 => omega
            case c5 => have := st.B.size; simp at this ⊢; omega
            intro v' w9 hown' hgrow _
            obtain ⟨g, cap, rfl⟩ := own_slice hown'
            have tvA := (st.alloc _).tagAt hgrow
            have hown2 : TagsIn w.heap.size (.slice (some ⟨g, 0, none⟩) (tags.length + 1) cap) (tags ++ [(k, v)]) w9 := by
              unfold TagsIn
              rw [tagCells_snoc, List.length_append]
              exact hown'
            replace st := (st.alloc _).tag hown2 hgrow
            clear pk pf
            have d1 := blk_cell' tvA 1
            have e1 := blk_free' tvA 1
            clear hgrow hown' hown2
            go_wp2
            go_roundg (s.size - P2s.1)
            case measure => omega
            case rel => exact ⟨f, P2s, _, tags ++ [(k, v)], by omega, by omega, by simp; omega, st, HK.out⟩
          | false =>
            rw [if_neg (by rw [hc]; decide)] at hk
            rw [hc] at IS
            have IS := Lib.hid IS
            have hTs : T = (tags, rs) := hk.symm
            subst hTs
            have hrl : rs.1 ≤ s.size := by omega
            clear hk hc HT HF hn hf htl
            go_wp2_with fail
            refine (IS.out _ st.r).mono ?_
            rintro ev w6 ⟨rfl, hB6⟩
            replace st := st.next hB6
            clear hB6 IS
            go_wp2_with fail
            go_meet
            case rel => exact ⟨tv, st, hrl⟩
      case rest =>
        clear st HT HM hMle
        obtain ⟨tv, st, hrl⟩ := hcut
        have CM := fun x h => ref_must (w.heap.size + 1 + 1) s T.2 32 32 rfl hs x h
        have lm := mustR_le (s := s) (c := 32) (st := T.2) hrl
        have hF2 := HF.out
        generalize mustR s 32 T.2 = MM at CM lm hF2
        have CM := Lib.hid CM
        have HF2 := Lib.hid hF2
        clear HF hF2
        go_wp2_with fail
        refine (CM.out _ st.r).mono ?_
        rintro ev w7 ⟨rfl, h7, hg7⟩
        replace st := st.read hg7 h7
        clear h7 hg7 CM hrl
        have lM2 := lm.1
        clear lm
        go_upto_block 4 with (fail)
        go_cut [9, 10, 11] (fun v9 v10 v11 wc => ∃ fv : Value, QSt w (w.heap.size + 1 + 1) (w.heap.size + 1 + 1 + 1) s F.2 M.1 tv fv 0 T.1 F.1 wc ∧ F.2.1 ≤ s.size)
        case first =>
          go_wp2
          go_loopg [9, 10, 11] (2 * (s.size - MM.1) + 1) (fun n v9 v10 v11 wr => ∃ (more : Bool) (f : Nat) (rs : RSt) (fv : Value) (fs : List (ByteArray × Int)), v9 = .bool more ∧ rs.1 ≤ s.size ∧ QSt w (w.heap.size + 1 + 1) (w.heap.size + 1 + 1 + 1) s rs M.1 tv fv 0 T.1 fs wr ∧ ((more = true ∧ n = 2 * (s.size - rs.1) + 1 ∧ s.size - rs.1 < f ∧ fs.length ≤ rs.1 ∧ fieldsR s f rs fs = F) ∨ (more = false ∧ n = 2 * (s.size - rs.1) ∧ (fs, rs) = F)))
          case atStart => exact ⟨true, s.size + 1, MM, _, [], rfl, lM2, st, .inl ⟨rfl, rfl, by omega, by simp, HF2.out⟩⟩
          case round =>
            clear st lM2
            obtain ⟨more, f, rs, fv, fs, rfl, hrl, st, hk⟩ := hrel
            rcases hk with ⟨rfl, hn, hf, hfl, hk⟩ | ⟨rfl, hn, hFs⟩
            · obtain ⟨f, rfl⟩ : ∃ g, f = g + 1 := ⟨f - 1, by omega⟩
              unfold fieldsR at hk
              obtain ⟨ra, rb_⟩ := rs
              cases rb_ with
              | some e0 =>
                replace hk : (fs, ((ra, some e0) : RSt)) = F := by simpa using hk
                have hFs : F = (fs, (ra, some e0)) := hk.symm
                subst hFs
                have rk2 : wr.cell? ⟨w.heap.size + 1 + 1, 2, none⟩ = some (.int .i64 60) := blk_cell' (show wr.heap[w.heap.size + 1 + 1]? = some (.cells _ _ (0, 0)) from st.r) 2
                clear hk
                go_wp2_with fail
                go_meet
                case rel => exact ⟨fv, st, hrl⟩
              | none =>
                rw [if_neg (show ¬ ((ra, none) : RSt).2.isSome = true from fun h => by cases h)] at hk
                unfold fieldR at hk
                have rk2 : wr.cell? ⟨w.heap.size + 1 + 1, 2, none⟩ = some (.int .i64 0) := blk_cell' (show wr.heap[w.heap.size + 1 + 1]? = some (.cells _ _ (0, 0)) from st.r) 2
                have CP1 := fun x h => ref_piece (w.heap.size + 1 + 1) s (ra, none) hs hrl x h
                have l1 := pieceR_le (s := s) (st := (ra, none)) hrl
                generalize pieceR s (ra, none) = P1 at hk CP1 l1
                have CM1 := fun x h => ref_must (w.heap.size + 1 + 1) s P1.2 61 61 rfl hs x h
                have l2 := mustR_le (s := s) (c := 61) (st := P1.2) l1.1
                generalize mustR s 61 P1.2 = M1 at hk CM1 l2
                have CN1 := fun x L h => ref_number (w.heap.size + 1 + 1) s M1 hs l2.1 x L h
                have l3 := numberR_le (s := s) (st := M1) l2.1
                generalize numberR s M1 = N1 at hk CN1 l3
                have CM3 := fun x h => ref_must (w.heap.size + 1 + 1) s N1.2 105 105 rfl hs x h
                have l4 := mustR_le (s := s) (c := 105) (st := N1.2) l3.1
                generalize mustR s 105 N1.2 = M3 at hk CM3 l4
                have CI := fun x h => ref_is (w.heap.size + 1 + 1) s M3 44 44 rfl x h
                obtain ⟨k, P1s⟩ := P1
                obtain ⟨n1, N1s⟩ := N1
                simp only at hk l1 l2 l3 l4 hrl
                have CP1 := Lib.hid CP1
                have CM1 := Lib.hid CM1
                have CN1 := Lib.hid CN1
                have CM3 := Lib.hid CM3
                go_wp2_with fail
                refine (CP1.out _ st.r).mono ?_
                rintro ev w6 ⟨rfl, h6, hg6⟩
                replace st := st.read hg6 h6
                clear h6 hg6 CP1 rk2
                go_wp2_with fail
                refine (CM1.out _ st.r).mono ?_
                rintro ev w7 ⟨rfl, h7, hg7⟩
                replace st := st.read hg7 h7
                clear h7 hg7 CM1
                go_wp2_with fail
                refine (CN1.out _ (L.below st.B) st.r).mono ?_
                rintro ev w8 ⟨rfl, h8, hg8⟩
                replace st := st.read hg8 h8
                clear h8 hg8 CN1
                go_wp2_with fail
                refine (CM3.out _ st.r).mono ?_
                rintro ev w10 ⟨rfl, h10, hg10⟩
                replace st := st.read hg10 h10
                clear h10 hg10 CM3
                have pk := blk_cell' st.p 2
                have pf := blk_free' st.p 2
                obtain ⟨i0, hi, hz0_, hz1_, hz2_⟩ := info_parts info_F
                go_wp2_with (at_builtin; refine wpList_append_own _ rfl _ _ 30 rfl w.heap.size 86 i0 (.agg #[.string ⟨#[]⟩, .int .i64 0]) 2 24 Tryz.underlying30 hi hz0_ hz1_ hz2_ rfl (by decide) _ _ _ rfl (st.f.alloc _) ⟨_, 0, none⟩ 1 1 [.string k, .int .i64 n1] rfl rfl ?c1 ?c2 ?c3 ?c4 ?c5 ?_)
                case c1 => exact new_two _ _ _ _ _ (by simp)
                case c2 => intro u hu; simp at hu; rcases hu with rfl | rfl <;> rfl
                case c3 => unfold maxLen; omega
                case c4 => omega
                case c5 => have := st.B.size; simp at this ⊢; omega
                intro v' w9 hown' hgrow _
                obtain ⟨g, cap, rfl⟩ := own_slice hown'
                have tvA := (st.alloc _).fieldAt hgrow
                have hown2 : FieldsIn w.heap.size (.slice (some ⟨g, 0, none⟩) (fs.length + 1) cap) (fs ++ [(k, n1)]) w9 := by
                  unfold FieldsIn
                  rw [fieldCells_snoc, List.length_append]
                  exact hown'
                replace st := (st.alloc _).field hown2 hgrow
                clear pk pf
                have d1 := blk_cell' tvA 2
                have e1 := blk_free' tvA 2
                clear hgrow hown' hown2
                cases hc : isR s 44 M3 with
                | true =>
                  rw [hc] at CI hk
                  have hlt := (isR_lt hc).1
                  have CI := Lib.hid CI
                  have HK := Lib.hid hk
                  clear hk hc
                  go_wp2_with fail
                  refine (CI.out _ st.r).mono ?_
                  rintro ev w11 ⟨rfl, hB11⟩
                  clear d1 e1 tvA
                  replace st := st.next hB11
                  have rk := blk_cell' (show w11.heap[w.heap.size + 1 + 1]? = some (.cells _ _ (0, 0)) from st.r) 1
                  have rf := blk_free' (show w11.heap[w.heap.size + 1 + 1]? = some (.cells _ _ (0, 0)) from st.r) 1
                  go_wp2
                  go_roundg (2 * (s.size - (M3.1 + 1)) + 1)
                  case measure => omega
                  case rel => exact ⟨true, f, (M3.1 + 1, M3.2), _, fs ++ [(k, n1)], rfl, by show M3.1 + 1 ≤ s.size; omega, st.at (M3.1 + 1), .inl ⟨rfl, rfl, by show s.size - (M3.1 + 1) < f; omega, by simp; omega, HK.out⟩⟩
                | false =>
                  rw [hc] at CI hk
                  have CI := Lib.hid CI
                  have HK := Lib.hid hk
                  clear hk hc
                  go_wp2_with fail
                  refine (CI.out _ st.r).mono ?_
                  rintro ev w11 ⟨rfl, hB11⟩
                  clear d1 e1 tvA
                  replace st := st.next hB11
                  go_wp2
                  go_roundg (2 * (s.size - M3.1))
                  case measure => omega
                  case rel => exact ⟨false, f, M3, _, fs ++ [(k, n1)], rfl, by omega, st, .inr ⟨rfl, rfl, HK.out⟩⟩
            · have HS := Lib.hid hFs
              clear hFs
              go_wp2_with fail
              go_meet
              case rel => (have e := HS.out; subst e; exact ⟨fv, st, hrl⟩)
        case rest =>
          clear st HF2 lM2
          obtain ⟨fv, st, hrl⟩ := hcut
          have CM4 := fun x h => ref_must (w.heap.size + 1 + 1) s F.2 32 32 rfl hs x h
          have l5 := mustR_le (s := s) (c := 32) (st := F.2) hrl
          have hN2 := HN.out
          generalize mustR s 32 F.2 = M4 at CM4 l5 hN2
          have CN4 := fun x L h => ref_number (w.heap.size + 1 + 1) s M4 hs l5.1 x L h
          have l6 := numberR_le (s := s) (st := M4) l5.1
          rw [hN2] at CN4 l6
          have HX2 := HX.out
          clear HN hN2 hrl
          obtain ⟨tm, a5, b5⟩ := N
          simp only at HX2 l6
          have CM4 := Lib.hid CM4
          have CN4 := Lib.hid CN4
          have HX2 := Lib.hid HX2
          clear HX
          go_wp2_with fail
          refine (CM4.out _ st.r).mono ?_
          rintro ev w6 ⟨rfl, h6, hg6⟩
          replace st := st.read hg6 h6
          clear h6 hg6 CM4
          go_wp2_with fail
          refine (CN4.out _ (L.below st.B) st.r).mono ?_
          rintro ev w7 ⟨rfl, h7, hg7⟩
          replace st := st.read hg7 h7
          clear h7 hg7 CN4
          have pk := blk_cell' st.p 3
          have pf := blk_free' st.p 3
          cases b5 with
          | some e1 =>
            have hXe : X = .inr (some e1) := by rw [← HX2.out]; rfl
            have hre : w7.heap[w.heap.size + 1 + 1]? = some (.cells #[.string s, .int .i64 (a5 : Int), .int .i64 60, .int .i64 (e1 : Int), .int .i64 0, .bool true, .bool false] 150 (0, 0)) := st.r
            have rk2 := blk_cell' hre 2
            have HE := Lib.hid (show E = .agg #[.int .i64 60, .int .i64 (e1 : Int), .int .i64 0, .bool true, .bool false] by rw [HE.out, hXe]; rfl)
            have HD := Lib.hid (show D = .zero by rw [HD.out, hXe]; rfl)
            clear hXe HX2 hre
            go_wp2_with fail
            replace st := st.time tm
            clear pk pf rk2
            generalize w7.setCell ⟨w.heap.size + 1 + 1 + 1, 3, none⟩ (.int .i64 tm) = W at st ⊢
            have hre : W.heap[w.heap.size + 1 + 1]? = some (.cells #[.string s, .int .i64 (a5 : Int), .int .i64 60, .int .i64 (e1 : Int), .int .i64 0, .bool true, .bool false] 150 (0, 0)) := st.r
            have rk2 := blk_cell' hre 2
            have rk3 := blk_cell' hre 3
            have rk4 := blk_cell' hre 4
            have rk5 := blk_cell' hre 5
            have rk6 := blk_cell' hre 6
            have qk0 := blk_cell' (st.q) 0
            have qf0 := blk_free' (st.q) 0
            have qk1 := blk_cell' (st.q) 1
            have qf1 := blk_free' (st.q) 1
            have qk2 := blk_cell' (st.q) 2
            have qf2 := blk_free' (st.q) 2
            have qk3 := blk_cell' (st.q) 3
            have qf3 := blk_free' (st.q) 3
            have zk0 := blk_cell' (st.z) 0
            have zf0 := blk_free' (st.z) 0
            have zk1 := blk_cell' (st.z) 1
            have zf1 := blk_free' (st.z) 1
            have zk2 := blk_cell' (st.z) 2
            have zf2 := blk_free' (st.z) 2
            have zk3 := blk_cell' (st.z) 3
            have zf3 := blk_free' (st.z) 3
            have zk4 := blk_cell' (st.z) 4
            have zf4 := blk_free' (st.z) 4
            go_region_held3 (fun w' => w'.cell? ⟨w.heap.size + 1 + 1, 2, none⟩ = some (.int .i64 60) ∧ w'.cell? ⟨w.heap.size + 1 + 1, 3, none⟩ = some (.int .i64 (e1 : Int)) ∧ w'.cell? ⟨w.heap.size + 1 + 1, 4, none⟩ = some (.int .i64 0) ∧ w'.cell? ⟨w.heap.size + 1 + 1, 5, none⟩ = some (.bool true) ∧ w'.cell? ⟨w.heap.size + 1 + 1, 6, none⟩ = some (.bool false))
              (first | (with_reducible exact ⟨rk2, rk3, rk4, rk5, rk6⟩) | (refine ⟨?_, ?_, ?_, ?_, ?_⟩ <;> simp [go_sem, rk2, rk3, rk4, rk5, rk6]; done) | fail)
              (fail)
            go_wp2
            obtain ⟨Y, hY, u1, u2, u3⟩ := two_ends_drew w.heap.size (.string ⟨#[]⟩) (.slice none 0 0) (.slice none 0 0) (.int .i64 0) (.int .i64 60) (.int .i64 (e1 : Int)) (.int .i64 0) (.bool true) (.bool false) st.q st.z
            rw [hY]
            clear hY
            refine bodyPost_ret (results_two (v0 := .agg #[.string ⟨#[]⟩, .slice none 0 0, .slice none 0 0, .int .i64 0]) (v1 := .agg #[.int .i64 60, .int .i64 (e1 : Int), .int .i64 0, .bool true, .bool false]) Tryz.results41 (res_cell (b := w.heap.size) (T' := 32) (fr := (0, 0)) rfl u1 Tryz.underlying32 rfl (by kernel_rfl)) (res_cell (b := w.heap.size + 1) (T' := 35) (fr := (0, 0)) rfl u2 Tryz.underlying35 rfl (by kernel_rfl))) rfl ?_
            exact ⟨_, by rw [HE.out], by rw [HD.out]; exact PtIn.zero _ _, st.B.trans (u3 _ (Nat.le_refl _))⟩
          | none =>
            have hre0 : w7.heap[w.heap.size + 1 + 1]? = some (.cells #[.string s, .int .i64 (a5 : Int), .int .i64 0, .int .i64 0, .int .i64 0, .bool false, .bool false] 150 (0, 0)) := st.r
            have rk1 := blk_cell' hre0 1
            have rk2 := blk_cell' hre0 2
            by_cases h5 : a5 < s.size
            · have hXe : X = .inr (some a5) := by
                rw [← HX2.out]
                unfold endR
                rw [if_pos ⟨rfl, h5⟩]
              go_wp2_with fail
              replace st := st.time tm
              clear pk pf rk1 rk2 hre0
              refine (ref_fail (w.heap.size + 1 + 1) s a5 none a5 (a5 : Int) rfl _ st.r).mono ?_
              rintro ev w8 ⟨rfl, h8, hg8⟩
              replace st := st.read hg8 h8
              clear h8 hg8
              have hre : w8.heap[w.heap.size + 1 + 1]? = some (.cells #[.string s, .int .i64 (a5 : Int), .int .i64 60, .int .i64 (a5 : Int), .int .i64 0, .bool true, .bool false] 150 (0, 0)) := st.r
              have rk2 := blk_cell' hre 2
              have rk3 := blk_cell' hre 3
              have rk4 := blk_cell' hre 4
              have rk5 := blk_cell' hre 5
              have rk6 := blk_cell' hre 6
              have qk0 := blk_cell' (st.q) 0
              have qf0 := blk_free' (st.q) 0
              have qk1 := blk_cell' (st.q) 1
              have qf1 := blk_free' (st.q) 1
              have qk2 := blk_cell' (st.q) 2
              have qf2 := blk_free' (st.q) 2
              have qk3 := blk_cell' (st.q) 3
              have qf3 := blk_free' (st.q) 3
              have zk0 := blk_cell' (st.z) 0
              have zf0 := blk_free' (st.z) 0
              have zk1 := blk_cell' (st.z) 1
              have zf1 := blk_free' (st.z) 1
              have zk2 := blk_cell' (st.z) 2
              have zf2 := blk_free' (st.z) 2
              have zk3 := blk_cell' (st.z) 3
              have zf3 := blk_free' (st.z) 3
              have zk4 := blk_cell' (st.z) 4
              have zf4 := blk_free' (st.z) 4
              have HE := Lib.hid (show E = .agg #[.int .i64 60, .int .i64 (a5 : Int), .int .i64 0, .bool true, .bool false] by rw [HE.out, hXe]; rfl)
              have HD := Lib.hid (show D = .zero by rw [HD.out, hXe]; rfl)
              clear hXe HX2
              go_wp2_with fail
              go_region_held3 (fun w' => w'.cell? ⟨w.heap.size + 1 + 1, 2, none⟩ = some (.int .i64 60) ∧ w'.cell? ⟨w.heap.size + 1 + 1, 3, none⟩ = some (.int .i64 (a5 : Int)) ∧ w'.cell? ⟨w.heap.size + 1 + 1, 4, none⟩ = some (.int .i64 0) ∧ w'.cell? ⟨w.heap.size + 1 + 1, 5, none⟩ = some (.bool true) ∧ w'.cell? ⟨w.heap.size + 1 + 1, 6, none⟩ = some (.bool false))
                (first | (with_reducible exact ⟨rk2, rk3, rk4, rk5, rk6⟩) | (refine ⟨?_, ?_, ?_, ?_, ?_⟩ <;> simp [go_sem, rk2, rk3, rk4, rk5, rk6]; done) | fail)
                (fail)
              go_wp2
              obtain ⟨Y, hY, u1, u2, u3⟩ := two_ends_drew w.heap.size (.string ⟨#[]⟩) (.slice none 0 0) (.slice none 0 0) (.int .i64 0) (.int .i64 60) (.int .i64 (a5 : Int)) (.int .i64 0) (.bool true) (.bool false) st.q st.z
              rw [hY]
              clear hY
              refine bodyPost_ret (results_two (v0 := .agg #[.string ⟨#[]⟩, .slice none 0 0, .slice none 0 0, .int .i64 0]) (v1 := .agg #[.int .i64 60, .int .i64 (a5 : Int), .int .i64 0, .bool true, .bool false]) Tryz.results41 (res_cell (b := w.heap.size) (T' := 32) (fr := (0, 0)) rfl u1 Tryz.underlying32 rfl (by kernel_rfl)) (res_cell (b := w.heap.size + 1) (T' := 35) (fr := (0, 0)) rfl u2 Tryz.underlying35 rfl (by kernel_rfl))) rfl ?_
              exact ⟨_, by rw [HE.out], by rw [HD.out]; exact PtIn.zero _ _, st.B.trans (u3 _ (Nat.le_refl _))⟩
            · have hXe : X = .inl ⟨M.1, T.1, F.1, tm⟩ := by
                rw [← HX2.out]
                unfold endR
                rw [if_neg (fun q => h5 q.2)]
              have HE := Lib.hid (show E = .agg #[.int .i64 0, .int .i64 0, .int .i64 0, .bool false, .bool false] by rw [HE.out, hXe]; rfl)
              have HD := Lib.hid (show D = ⟨M.1, T.1, F.1, tm⟩ by rw [HD.out, hXe]; rfl)
              clear hXe HX2
              obtain ⟨ao, nn, cc, rfl⟩ := own_form st.t
              obtain ⟨ao2, nn2, cc2, rfl⟩ := own_form st.f
              have pk0 := blk_cell' (st.p) 0
              have pf0 := blk_free' (st.p) 0
              have pk1 := blk_cell' (st.p) 1
              have pf1 := blk_free' (st.p) 1
              have pk2 := blk_cell' (st.p) 2
              have pf2 := blk_free' (st.p) 2
              have pk3 := blk_cell' (st.p) 3
              have pf3 := blk_free' (st.p) 3
              have qk0 := blk_cell' (st.q) 0
              have qf0 := blk_free' (st.q) 0
              have qk1 := blk_cell' (st.q) 1
              have qf1 := blk_free' (st.q) 1
              have qk2 := blk_cell' (st.q) 2
              have qf2 := blk_free' (st.q) 2
              have qk3 := blk_cell' (st.q) 3
              have qf3 := blk_free' (st.q) 3
              have zk0 := blk_cell' (st.z) 0
              have zf0 := blk_free' (st.z) 0
              have zk1 := blk_cell' (st.z) 1
              have zf1 := blk_free' (st.z) 1
              have zk2 := blk_cell' (st.z) 2
              have zf2 := blk_free' (st.z) 2
              have zk3 := blk_cell' (st.z) 3
              have zf3 := blk_free' (st.z) 3
              have zk4 := blk_cell' (st.z) 4
              have zf4 := blk_free' (st.z) 4
              clear hre0
              go_wp2
              replace st := st.time tm
              have y1 := st.t.kept (pt_grown w.heap.size (.string M.1) (.slice ao nn cc) (.slice ao2 nn2 cc2) (.int .i64 tm)) (.inr (own_ne st.t st.q (by decide)))
              have y2 := st.f.kept (pt_grown w.heap.size (.string M.1) (.slice ao nn cc) (.slice ao2 nn2 cc2) (.int .i64 tm)) (.inr (own_ne st.f st.q (by decide)))
              have zz := pt_far st.z (show w.heap.size + 1 ≠ w.heap.size by omega) (.string M.1) (.slice ao nn cc) (.slice ao2 nn2 cc2) (.int .i64 tm)
              have y3 := y1.kept (bad_grown (w.heap.size + 1) (.int .i64 0) (.int .i64 0) (.int .i64 0) (.bool false) (.bool false)) (.inr (own_ne y1 zz (by decide)))
              have y4 := y2.kept (bad_grown (w.heap.size + 1) (.int .i64 0) (.int .i64 0) (.int .i64 0) (.bool false) (.bool false)) (.inr (own_ne y2 zz (by decide)))
              obtain ⟨u1, u2, u3⟩ := two_ends w.heap.size (.string M.1) (.slice ao nn cc) (.slice ao2 nn2 cc2) (.int .i64 tm) (.int .i64 0) (.int .i64 0) (.int .i64 0) (.bool false) (.bool false) st.q st.z
              refine bodyPost_ret (results_two (v0 := .agg #[.string M.1, .slice ao nn cc, .slice ao2 nn2 cc2, .int .i64 tm]) (v1 := .agg #[.int .i64 0, .int .i64 0, .int .i64 0, .bool false, .bool false]) Tryz.results41 (res_cell (b := w.heap.size) (T' := 32) (fr := (0, 0)) rfl u1 Tryz.underlying32 rfl (by kernel_rfl)) (res_cell (b := w.heap.size + 1) (T' := 35) (fr := (0, 0)) rfl u2 Tryz.underlying35 rfl (by kernel_rfl))) rfl ?_
              exact ⟨_, by rw [HE.out], by rw [HD.out]; exact ⟨_, _, rfl, y3, y4⟩, st.B.trans (u3 _ (Nat.le_refl _))⟩
end Go.Proofs.YtnodjijgeifejaaGreatDoor
