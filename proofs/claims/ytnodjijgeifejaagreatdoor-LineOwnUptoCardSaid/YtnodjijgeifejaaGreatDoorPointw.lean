/- Package line: reader.point: a line, read. -/
import Derived.Test.YtnodjijgeifejaaGreatDoorPst
import Derived.Test.YtnodjijgeifejaaGreatDoorNumber
import Derived.Test.YtnodjijgeifejaaGreatDoorRes
namespace Go.Proofs.YtnodjijgeifejaaGreatDoor
open Go.RowKit
set_option linter.unusedSimpArgs false
set_option linter.unusedVariables false

theorem pt_blk {w : World} {b : Nat} {x0 x1 x2 x3 : Value} {T : TypeId} {fr : Nat × Nat} (h : w.heap[b]? = some (.cells #[x0, x1, x2, x3] T fr)) (v0 v1 v2 v3 : Value) :
    ((((w.setCell ⟨b, 0, none⟩ v0).setCell ⟨b, 1, none⟩ v1).setCell ⟨b, 2, none⟩ v2).setCell ⟨b, 3, none⟩ v3).heap[b]? = some (.cells #[v0, v1, v2, v3] T fr) := by
  have := blk_set' (blk_set' (blk_set' (blk_set' h 0 v0) 1 v1) 2 v2) 3 v3
  simpa using this
theorem pt_grown {w : World} (b : Nat) (v0 v1 v2 v3 : Value) : w.grownBy ((((w.setCell ⟨b, 0, none⟩ v0).setCell ⟨b, 1, none⟩ v1).setCell ⟨b, 2, none⟩ v2).setCell ⟨b, 3, none⟩ v3) (some b) :=
  grown_set (grown_set (grown_set (grown_set (grown_refl _ _) 0 _) 1 _) 2 _) 3 _

set_option maxRecDepth 100000 in
set_option maxHeartbeats 2000000 in
theorem line_point (rb : Nat) (s : ByteArray) (hs : s.size ≤ 8192) (w : World) (L : LayS w) (B : Nat) (o : Old B) (hB : B ≤ rb) (h : Rdr rb s 0 w) :
    Calls Tryz.prog 45 #[.pointer (some ⟨rb, 0, none⟩)] w fun ev w' => PtPost w rb (pointP s) ev w' := by
  have hrw := h.lt
  have hb : w.heap.size ≤ w.heap.size := Nat.le_refl _
  generalize hR : pointP s = R
  unfold pointP at hR
  have h1 : Rdr rb s 0 (w.alloc ptZ) := h.next ((Below.refl _ _).alloc (Nat.le_refl _) _)
  have hz1 : (w.alloc ptZ).heap[w.heap.size]? = some ptZ := heap_alloc_new w ptZ
  have hg1 : w.grownBy (w.alloc ptZ) (some rb) := grown_of_below ((Below.refl _ _).alloc (Nat.le_refl _) _) (Nat.le_refl _) _
  have hnl := nl_index s
  have IB := Lib.hid (fun w => strings_IndexByte s 10 w)
  rcases hnl with ⟨hn, hi⟩ | ⟨i, hn, hi⟩
  rotate_left
  · rw [hn] at hR
    have HR := Lib.hid hR
    have IB : ∀ w, Calls Tryz.prog 96 #[.string s, .int .u8 10] w fun ev w' => ev = .returned (.int .i64 (i : Int)) ∧ w = w' := fun w => (IB.out w).mono (by rintro ev w' ⟨rfl, rfl⟩; exact ⟨by rw [← hi]; rfl, rfl⟩)
    have IB := Lib.hid IB
    clear hR hn hi
    have k0 := blk_cell' (h1) 0
    have f0 := blk_free' (h1) 0
    have k1 := blk_cell' (h1) 1
    have f1 := blk_free' (h1) 1
    go_enter Tryz.func45, Tryz.ntmps45
    go_wp2_with fail
    refine (IB.out _).mono ?_
    rintro ev w' ⟨rfl, rfl⟩
    go_wp2_with fail
    refine (line_wrong i _).mono ?_
    rintro ev w3 ⟨hp, hB3⟩
    obtain rfl := hp
    go_wp2
    exact ⟨rfl, by rw [← HR.out]; exact ⟨rfl, grown_next hg1 hB3⟩⟩
  · rw [hn] at hR
    simp only at hR
    obtain ⟨z, hz, hz0⟩ : ∃ z : Int, Lib.indexByte s.data.toList 10 = z ∧ z < 0 := ⟨_, rfl, hi⟩
    have IB : ∀ w, Calls Tryz.prog 96 #[.string s, .int .u8 10] w fun ev w' => ev = .returned (.int .i64 z) ∧ w = w' := fun w => (IB.out w).mono (by rintro ev w' ⟨rfl, rfl⟩; exact ⟨by rw [← hz]; rfl, rfl⟩)
    have IB := Lib.hid IB
    clear hn hi hz
    have IS := Lib.hid (fun w h => line_is rb s 0 35 35 rfl w h)
    have k0 := blk_cell' (h1) 0
    have f0 := blk_free' (h1) 0
    have k1 := blk_cell' (h1) 1
    have f1 := blk_free' (h1) 1
    by_cases hsh : isP s 35 0 = true
    · rw [if_pos hsh] at hR
      rw [hsh] at IS
      have HR := Lib.hid hR
      clear hR hsh
      go_enter Tryz.func45, Tryz.ntmps45
      go_wp2_with fail
      refine (IB.out _).mono ?_
      rintro ev w' ⟨rfl, rfl⟩
      go_wp2_with fail
      refine (IS.out _ h1).mono ?_
      rintro ev w2 ⟨rfl, hB2⟩
      go_wp2_with fail
      refine (line_wrong 0 _).mono ?_
      rintro ev w3 ⟨hp, hB3⟩
      obtain rfl := hp
      go_wp2
      exact ⟨rfl, by rw [← HR.out]; exact ⟨rfl, grown_next (grown_next hg1 hB2) hB3⟩⟩
    · rw [if_neg hsh] at hR
      rw [Bool.eq_false_iff.2 hsh] at IS
      have HR := Lib.hid hR
      clear hR hsh
      go_enter Tryz.func45, Tryz.ntmps45
      go_wp2_with fail
      refine (IB.out _).mono ?_
      rintro ev w' ⟨rfl, rfl⟩
      go_wp2_with fail
      refine (IS.out _ h1).mono ?_
      rintro ev w2 ⟨rfl, hB2⟩
      have h2 := h1.next hB2
      have hz2 := below_blk hB2 (blk_lt' hz1) hz1
      have hg2 := grown_next hg1 hB2
      have L2 := L.grown hg2 o hB (Nat.le_trans hB (Nat.le_of_lt hrw))
      clear h1 hz1 hg1 hB2 k0 k1 f0 f1
      go_wp2_with fail
      refine (line_piece rb s 0 hs (Nat.zero_le _) _ L2.L.hg (Nat.lt_of_lt_of_le o.et hB) h2).mono ?_
      cases hp1 : pieceP s 0 with
      | no e =>
        have HR2 := Lib.hid (show R = Rd.no e by rw [← HR.out, hp1])
        rintro ev w3 ⟨hp, hg3⟩
        obtain rfl := hp
        go_wp2
        exact ⟨rfl, by rw [HR2.out]; exact ⟨rfl, grown_trans hg2 hg3⟩⟩
      | ok m a0 =>
        have HR2 := Lib.hid (show R = _ by rw [← HR.out, hp1])
        rintro ev w3 ⟨rfl, h3, hg3⟩
        have ha0 := pieceP_le hp1 (Nat.zero_le _)
        have hz3 := grown_blk hg3 hz2 (fun e => by have := Option.some.inj e; omega)
        have hg30 := grown_trans hg2 hg3
        go_wp2
        have hpB : (w3.alloc (.cells #[.string m, .slice none 0 0, .slice none 0 0, .int .i64 0] 32)).heap[w3.heap.size]? = some (.cells #[.string m, .slice none 0 0, .slice none 0 0, .int .i64 0] 32 (0, 0)) := heap_alloc_new w3 _
        have hal3 : Below w3.heap.size w3 (w3.alloc (.cells #[.string m, .slice none 0 0, .slice none 0 0, .int .i64 0] 32)) := (Below.refl _ _).alloc (Nat.le_refl _) _
        have hsz3 : w.heap.size < w3.heap.size := blk_lt' hz3
        have st : PSt w rb w3.heap.size s a0 m (.slice none 0 0) (.slice none 0 0) 0 [] [] (w3.alloc (.cells #[.string m, .slice none 0 0, .slice none 0 0, .int .i64 0] 32)) :=
          ⟨grown_next hg30 hal3, h3.next hal3, hpB, World.ownsRow_nil _ _ _ _, World.ownsRow_nil _ _ _ _, below_blk hal3 (blk_lt' hz3) hz3, hsz3, hrw⟩
        generalize hT : tagsP s (s.size + 1) a0 [] = T at HR2
        have HT := Lib.hid hT
        clear hT h2 h3 hz2 hz3 hg2 hg3 hg30 hp1 HR hal3 hpB
        go_loopg [5] (s.size - a0) (fun n v wr => ∃ (f a : Nat) (tv : Value) (tags : List (ByteArray × ByteArray)), a + n = s.size ∧ n < f ∧ tags.length ≤ a ∧ PSt w rb w3.heap.size s a m tv (.slice none 0 0) 0 tags [] wr ∧ tagsP s f a tags = T)
        case atStart =>
          exact ⟨s.size + 1, a0, _, [], by omega, by omega, by simp, st, HT.out⟩
        case round =>
          clear st
          obtain ⟨f, a, tv, tags, hn, hf, htl, st, hk⟩ := hrel
          obtain ⟨f, rfl⟩ : ∃ g, f = g + 1 := ⟨f - 1, by omega⟩
          unfold tagsP at hk
          have IS44 := Lib.hid (fun w h => line_is rb s a 44 44 rfl w h)
          by_cases hc : isP s 44 a = true
          · rw [if_pos hc] at hk
            rw [hc] at IS44
            have hlt := isP_lt' hc
            clear hc
            go_wp2_with fail
            refine (IS44.out _ st.r).mono ?_
            rintro ev w4 ⟨rfl, hB4⟩
            replace st := st.next hB4
            have k0 := blk_cell' (st.r) 0
            have f0 := blk_free' (st.r) 0
            have k1 := blk_cell' (st.r) 1
            have f1 := blk_free' (st.r) 1
            go_wp2_with fail
            have tt := TSt.new (st.at (a + 1)) (.string ⟨#[]⟩) (.string ⟨#[]⟩) 98
            simp only [World.size_setCell] at tt
            clear st k0 k1 f0 f1
            have LL := L.grown tt.st.g o hB (Nat.le_trans hB (Nat.le_of_lt hrw))
            refine (line_piece rb s (a + 1) hs (by omega) _ LL.L.hg (Nat.lt_of_lt_of_le o.et hB) tt.st.r).mono ?_
            cases hp1 : pieceP s (a + 1) with
            | no e =>
              have HR3 := Lib.hid (show R = Rd.no e by rw [HR2.out, ← hk, hp1])
              rintro ev w9 ⟨hp, hg9⟩
              obtain rfl := hp
              go_wp2
              exact ⟨rfl, by rw [HR3.out]; exact ⟨rfl, grown_trans tt.st.g hg9⟩⟩
            | ok k a1 =>
              have ha1 := pieceP_le hp1 (by omega)
              simp only [hp1] at hk
              rintro ev w5 ⟨rfl, h5, hg5⟩
              replace tt := tt.read hg5 h5
              clear h5 hg5 hp1 LL
              have qk0 := blk_cell' (tt.q) 0
              have qf0 := blk_free' (tt.q) 0
              have qk1 := blk_cell' (tt.q) 1
              have qf1 := blk_free' (tt.q) 1
              go_wp2_with fail
              replace tt := tt.set0 (.string k)
              clear qk0 qk1 qf0 qf1
              refine (line_sign rb s a1 61 61 rfl hs (by omega) _ tt.st.r).mono ?_
              cases hp2 : signP s 61 a1 with
              | no e =>
                have HR3 := Lib.hid (show R = Rd.no e by rw [HR2.out, ← hk, hp2])
                rintro ev w9 ⟨hp, hg9⟩
                obtain rfl := hp
                go_wp2
                exact ⟨rfl, by rw [HR3.out]; exact ⟨rfl, grown_trans tt.st.g hg9⟩⟩
              | ok u a2 =>
                have ha2 := signP_le hp2
                simp only [hp2] at hk
                rintro ev w6 ⟨rfl, h6, hg6⟩
                replace tt := tt.read hg6 h6
                clear h6 hg6 hp2
                go_wp2_with fail
                have LL := L.grown tt.st.g o hB (Nat.le_trans hB (Nat.le_of_lt hrw))
                refine (line_piece rb s a2 hs (by omega) _ LL.L.hg (Nat.lt_of_lt_of_le o.et hB) tt.st.r).mono ?_
                cases hp3 : pieceP s a2 with
                | no e =>
                  have HR3 := Lib.hid (show R = Rd.no e by rw [HR2.out, ← hk, hp3])
                  rintro ev w9 ⟨hp, hg9⟩
                  obtain rfl := hp
                  go_wp2
                  exact ⟨rfl, by rw [HR3.out]; exact ⟨rfl, grown_trans tt.st.g hg9⟩⟩
                | ok v a3 =>
                  have ha3 := pieceP_le hp3 (by omega)
                  simp only [hp3] at hk
                  rintro ev w7 ⟨rfl, h7, hg7⟩
                  replace tt := tt.read hg7 h7
                  clear h7 hg7 hp3 LL
                  have qk0 := blk_cell' (tt.q) 0
                  have qf0 := blk_free' (tt.q) 0
                  have qk1 := blk_cell' (tt.q) 1
                  have qf1 := blk_free' (tt.q) 1
                  have tu := tt.set1 (.string v)
                  have hu0 := blk_cell' tu.q 0
                  have hu1 := blk_cell' tu.q 1
                  have hp1' := blk_cell' tu.st.p 1
                  have hpf := blk_free' tu.st.p 1
                  obtain ⟨i0, hi, hz0_, hz1_, hz2_⟩ := info_parts info_T
                  go_wp2_with (at_builtin; refine wpList_append_own _ rfl _ _ 29 rfl w.heap.size 98 i0 (.agg #[.string ⟨#[]⟩, .string ⟨#[]⟩]) 2 32 Tryz.underlying29 hi hz0_ hz1_ hz2_ rfl (by decide) _ _ _ rfl (tu.st.t.alloc _) ⟨_, 0, none⟩ 1 1 [.string k, .string v] rfl rfl ?c1 ?c2 ?c3 ?c4 ?c5 ?_)
                  case c1 => exact new_two _ _ _ _ _ (by simp)
                  case c2 => intro u hu; simp at hu; rcases hu with rfl | rfl <;> rfl
                  case c3 => unfold maxLen; omega
                  case c4 => omega
                  case c5 => have := tu.st.g.size; simp at this ⊢; omega
                  intro v' w8 hown' hgrow _
                  obtain ⟨g, cap, rfl⟩ := own_slice hown'
                  have tv' := (tu.st.alloc _).tagAt hgrow
                  have hown2 : TagsIn w.heap.size (.slice (some ⟨g, 0, none⟩) (tags.length + 1) cap) (tags ++ [(k, v)]) w8 := by
                    unfold TagsIn
                    rw [tagCells_snoc, List.length_append]
                    exact hown'
                  have st := (tu.st.alloc _).tag hown2 hgrow
                  clear hu0 hu1 hp1' hpf qk0 qk1 qf0 qf1 tt tu
                  have d1 := blk_cell' tv' 1
                  have e1 := blk_free' tv' 1
                  clear hgrow hown' hown2
                  go_wp2
                  go_roundg (s.size - a3)
                  case measure => omega
                  case rel => exact ⟨f, a3, _, tags ++ [(k, v)], by omega, by omega, by simp; omega, st, hk⟩
          · rw [if_neg hc] at hk
            rw [Bool.eq_false_iff.2 hc] at IS44
            have hR5 : R = restP s m tags a := by rw [HR2.out, ← hk]
            unfold restP at hR5
            have hals : a ≤ s.size := by omega
            clear hk HR2 HT hc hn hf htl
            go_wp2_with fail
            refine (IS44.out _ st.r).mono ?_
            rintro ev w4 ⟨rfl, hB4⟩
            replace st := st.next hB4
            clear hB4 IS44
            go_wp2_with fail
            refine (line_sign rb s a 32 32 rfl hs hals _ st.r).mono ?_
            cases hp5 : signP s 32 a with
            | no e =>
              have HR9 := Lib.hid (show R = Rd.no e by rw [hR5, hp5])
              rintro ev w9 ⟨hp, hg9⟩
              obtain rfl := hp
              go_wp2
              exact ⟨rfl, by rw [HR9.out]; exact ⟨rfl, grown_trans st.g hg9⟩⟩
            | ok u b0 =>
              have hb0 := signP_le hp5
              simp only [hp5] at hR5
              rintro ev w5 ⟨rfl, h5, hg5⟩
              replace st := st.read hg5 h5
              clear h5 hg5 hp5
              generalize hT2 : fieldsP s (s.size + 1) b0 [] = T2 at hR5
              have HR5 := Lib.hid hR5
              have HT2 := Lib.hid hT2
              clear hR5 hT2
              go_wp2
              go_loopg [6] (s.size - b0) (fun n v wr => ∃ (f a : Nat) (fv : Value) (fs : List (ByteArray × Int)), a + n = s.size ∧ n < f ∧ fs.length ≤ a ∧ PSt w rb w3.heap.size s a m tv fv 0 tags fs wr ∧ fieldsP s f a fs = T2)
              case atStart => exact ⟨s.size + 1, b0, _, [], by omega, by omega, by simp, st, HT2.out⟩
              case round =>
                clear st hals hb0
                obtain ⟨f, a, fv, fs, hn, hf, hfl, st, hk⟩ := hrel
                obtain ⟨f, rfl⟩ : ∃ g, f = g + 1 := ⟨f - 1, by omega⟩
                unfold fieldsP at hk
                have tt := TSt.new st (.string ⟨#[]⟩) (.int .i64 0) 86
                clear st
                go_wp2_with fail
                have LL := L.grown tt.st.g o hB (Nat.le_trans hB (Nat.le_of_lt hrw))
                refine (line_piece rb s a hs (by omega) _ LL.L.hg (Nat.lt_of_lt_of_le o.et hB) tt.st.r).mono ?_
                cases hp1 : pieceP s a with
                | no e =>
                  have HR9 := Lib.hid (show R = Rd.no e by rw [HR5.out, ← hk, hp1])
                  rintro ev w9 ⟨hp, hg9⟩
                  obtain rfl := hp
                  go_wp2
                  exact ⟨rfl, by rw [HR9.out]; exact ⟨rfl, grown_trans tt.st.g hg9⟩⟩
                | ok k a1 =>
                  have ha1 := pieceP_le hp1 (by omega)
                  simp only [hp1] at hk
                  rintro ev w5 ⟨rfl, h5, hg5⟩
                  replace tt := tt.read hg5 h5
                  clear h5 hg5 hp1 LL
                  have qk0 := blk_cell' (tt.q) 0
                  have qf0 := blk_free' (tt.q) 0
                  have qk1 := blk_cell' (tt.q) 1
                  have qf1 := blk_free' (tt.q) 1
                  go_wp2_with fail
                  replace tt := tt.set0 (.string k)
                  clear qk0 qk1 qf0 qf1
                  refine (line_sign rb s a1 61 61 rfl hs (by omega) _ tt.st.r).mono ?_
                  cases hp2 : signP s 61 a1 with
                  | no e =>
                    have HR9 := Lib.hid (show R = Rd.no e by rw [HR5.out, ← hk, hp2])
                    rintro ev w9 ⟨hp, hg9⟩
                    obtain rfl := hp
                    go_wp2
                    exact ⟨rfl, by rw [HR9.out]; exact ⟨rfl, grown_trans tt.st.g hg9⟩⟩
                  | ok u a2 =>
                    have ha2 := signP_le hp2
                    simp only [hp2] at hk
                    rintro ev w6 ⟨rfl, h6, hg6⟩
                    replace tt := tt.read hg6 h6
                    clear h6 hg6 hp2
                    go_wp2_with fail
                    have LL := L.grown tt.st.g o hB (Nat.le_trans hB (Nat.le_of_lt hrw))
                    refine (line_number rb s a2 hs (by omega) _ LL B o hB tt.st.r).mono ?_
                    cases hp3 : numberP s a2 with
                    | no e =>
                      have HR9 := Lib.hid (show R = Rd.no e by rw [HR5.out, ← hk, hp3])
                      rintro ev w9 ⟨hp, hg9⟩
                      obtain rfl := hp
                      go_wp2
                      exact ⟨rfl, by rw [HR9.out]; exact ⟨rfl, grown_trans tt.st.g hg9⟩⟩
                    | ok n a3 =>
                      have ha3 := numberP_le hp3 (by omega)
                      simp only [hp3] at hk
                      rintro ev w7 ⟨rfl, h7, hg7⟩
                      replace tt := tt.read hg7 h7
                      clear h7 hg7 hp3 LL
                      have qk0 := blk_cell' (tt.q) 0
                      have qf0 := blk_free' (tt.q) 0
                      have qk1 := blk_cell' (tt.q) 1
                      have qf1 := blk_free' (tt.q) 1
                      go_wp2_with fail
                      have tu := tt.set1 (.int .i64 n)
                      clear qk0 qk1 qf0 qf1 tt
                      refine (line_sign rb s a3 105 105 rfl hs (by omega) _ tu.st.r).mono ?_
                      cases hp4 : signP s 105 a3 with
                      | no e =>
                        have HR9 := Lib.hid (show R = Rd.no e by rw [HR5.out, ← hk, hp4])
                        rintro ev w9 ⟨hp, hg9⟩
                        obtain rfl := hp
                        go_wp2
                        exact ⟨rfl, by rw [HR9.out]; exact ⟨rfl, grown_trans tu.st.g hg9⟩⟩
                      | ok u a4 =>
                        have ha4 := signP_le hp4
                        simp only [hp4] at hk
                        rintro ev w8 ⟨rfl, h8, hg8⟩
                        replace tu := tu.read hg8 h8
                        clear h8 hg8 hp4
                        have hu0 := blk_cell' tu.q 0
                        have hu1 := blk_cell' tu.q 1
                        have hp1' := blk_cell' tu.st.p 2
                        have hpf := blk_free' tu.st.p 2
                        obtain ⟨i0, hi, hz0_, hz1_, hz2_⟩ := info_parts info_F
                        go_wp2_with (at_builtin; refine wpList_append_own _ rfl _ _ 30 rfl w.heap.size 86 i0 (.agg #[.string ⟨#[]⟩, .int .i64 0]) 2 24 Tryz.underlying30 hi hz0_ hz1_ hz2_ rfl (by decide) _ _ _ rfl (tu.st.f.alloc _) ⟨_, 0, none⟩ 1 1 [.string k, .int .i64 n] rfl rfl ?c1 ?c2 ?c3 ?c4 ?c5 ?_)
                        case c1 => exact new_two _ _ _ _ _ (by simp)
                        case c2 => intro u hu; simp at hu; rcases hu with rfl | rfl <;> rfl
                        case c3 => unfold maxLen; omega
                        case c4 => omega
                        case c5 => have := tu.st.g.size; simp at this ⊢; omega
                        intro v' w9 hown' hgrow _
                        obtain ⟨g, cap, rfl⟩ := own_slice hown'
                        have tv' := (tu.st.alloc _).fieldAt hgrow
                        have hown2 : FieldsIn w.heap.size (.slice (some ⟨g, 0, none⟩) (fs.length + 1) cap) (fs ++ [(k, n)]) w9 := by
                          unfold FieldsIn
                          rw [fieldCells_snoc, List.length_append]
                          exact hown'
                        have st := (tu.st.alloc _).field hown2 hgrow
                        clear hu0 hu1 hp1' hpf tu
                        have d1 := blk_cell' tv' 2
                        have e1 := blk_free' tv' 2
                        clear hgrow hown' hown2
                        have IS2 := Lib.hid (fun w h => line_is rb s a4 44 44 rfl w h)
                        by_cases hc2 : isP s 44 a4 = true
                        · rw [if_pos hc2] at hk
                          rw [hc2] at IS2
                          have hlt4 := isP_lt' hc2
                          clear hc2
                          go_wp2_with fail
                          refine (IS2.out _ st.r).mono ?_
                          rintro ev w10 ⟨rfl, hB10⟩
                          clear d1 e1 tv'
                          replace st := st.next hB10
                          have k0 := blk_cell' (st.r) 0
                          have f0 := blk_free' (st.r) 0
                          have k1 := blk_cell' (st.r) 1
                          have f1 := blk_free' (st.r) 1
                          have st' := st.at (a4 + 1)
                          rw [show ((a4 + 1 : Nat) : Int) = (a3 : Int) + 1 + 1 by omega] at st'
                          go_wp2
                          go_roundg (s.size - (a4 + 1))
                          case measure => omega
                          case rel => exact ⟨f, a4 + 1, _, fs ++ [(k, n)], by omega, by omega, by simp; omega, st', hk⟩
                        · rw [if_neg hc2] at hk
                          rw [Bool.eq_false_iff.2 hc2] at IS2
                          have hR6 : R = timeP s m tags (fs ++ [(k, n)]) a4 := by rw [HR5.out, ← hk]
                          unfold timeP at hR6
                          have ha4s : a4 ≤ s.size := by omega
                          clear hk HR5 HT2 hc2 hn hf hfl
                          go_wp2_with fail
                          refine (IS2.out _ st.r).mono ?_
                          rintro ev w10 ⟨rfl, hB10⟩
                          clear d1 e1 tv'
                          replace st := st.next hB10
                          clear hB10 IS2
                          go_wp2_with fail
                          refine (line_sign rb s a4 32 32 rfl hs ha4s _ st.r).mono ?_
                          cases hp5 : signP s 32 a4 with
                        | no e =>
                          have HR9 := Lib.hid (show R = Rd.no e by rw [hR6, hp5])
                          rintro ev w9 ⟨hp, hg9⟩
                          obtain rfl := hp
                          go_wp2
                          exact ⟨rfl, by rw [HR9.out]; exact ⟨rfl, grown_trans st.g hg9⟩⟩
                        | ok u a5 =>
                            have ha5 := signP_le hp5
                            simp only [hp5] at hR6
                            rintro ev w11 ⟨rfl, h11, hg11⟩
                            replace st := st.read hg11 h11
                            clear h11 hg11 hp5
                            go_wp2_with fail
                            have LL := L.grown st.g o hB (Nat.le_trans hB (Nat.le_of_lt hrw))
                            refine (line_number rb s a5 hs (by omega) _ LL B o hB st.r).mono ?_
                            cases hp6 : numberP s a5 with
                          | no e =>
                            have HR9 := Lib.hid (show R = Rd.no e by rw [hR6, hp6])
                            rintro ev w9 ⟨hp, hg9⟩
                            obtain rfl := hp
                            go_wp2
                            exact ⟨rfl, by rw [HR9.out]; exact ⟨rfl, grown_trans st.g hg9⟩⟩
                          | ok tm a6 =>
                              have ha6 := numberP_le hp6 (by omega)
                              simp only [hp6] at hR6
                              rintro ev w12 ⟨rfl, h12, hg12⟩
                              replace st := st.read hg12 h12
                              clear h12 hg12 hp6 LL
                              have pk := blk_cell' st.p 3
                              have pf := blk_free' st.p 3
                              go_wp2
                              have st := st.time tm
                              clear pk pf
                              have k0 := blk_cell' (st.r) 0
                              have f0 := blk_free' (st.r) 0
                              have k1 := blk_cell' (st.r) 1
                              have f1 := blk_free' (st.r) 1
                              by_cases hend : a6 < s.size
                              · rw [if_pos hend] at hR6
                                have HR9 := Lib.hid hR6
                                clear hR6
                                go_region
                                replace st := st.next (Below.refl _ _).drew
                                clear k0 k1 f0 f1
                                have k0 := blk_cell' (st.r) 0
                                have f0 := blk_free' (st.r) 0
                                have k1 := blk_cell' (st.r) 1
                                have f1 := blk_free' (st.r) 1
                                go_wp2_with fail
                                refine (line_wrong a6 _).mono ?_
                                rintro ev w13 ⟨hp, hB13⟩
                                obtain rfl := hp
                                go_wp2
                                exact ⟨rfl, by rw [HR9.out]; exact ⟨rfl, grown_next st.g hB13⟩⟩
                              · rw [if_neg hend] at hR6
                                have HR9 := Lib.hid hR6
                                clear hR6
                                go_region
                                have stA := st
                                replace st := st.next (Below.refl _ _).drew
                                clear k0 k1 f0 f1
                                obtain ⟨ao, nn, cc, rfl⟩ := own_form st.t
                                have pk0 := blk_cell' (st.p) 0
                                have pf0 := blk_free' (st.p) 0
                                have pk1 := blk_cell' (st.p) 1
                                have pf1 := blk_free' (st.p) 1
                                have pk2 := blk_cell' (st.p) 2
                                have pf2 := blk_free' (st.p) 2
                                have pk3 := blk_cell' (st.p) 3
                                have pf3 := blk_free' (st.p) 3
                                have zk0 := blk_cell' (st.q) 0
                                have zf0 := blk_free' (st.q) 0
                                have zk1 := blk_cell' (st.q) 1
                                have zf1 := blk_free' (st.q) 1
                                have zk2 := blk_cell' (st.q) 2
                                have zf2 := blk_free' (st.q) 2
                                have zk3 := blk_cell' (st.q) 3
                                have zf3 := blk_free' (st.q) 3
                                have yk0 := blk_cell' (stA.q) 0
                                have yf0 := blk_free' (stA.q) 0
                                have yk1 := blk_cell' (stA.q) 1
                                have yf1 := blk_free' (stA.q) 1
                                have yk2 := blk_cell' (stA.q) 2
                                have yf2 := blk_free' (stA.q) 2
                                have yk3 := blk_cell' (stA.q) 3
                                have yf3 := blk_free' (stA.q) 3
                                have xk0 := blk_cell' (stA.p) 0
                                have xf0 := blk_free' (stA.p) 0
                                have xk1 := blk_cell' (stA.p) 1
                                have xf1 := blk_free' (stA.p) 1
                                have xk2 := blk_cell' (stA.p) 2
                                have xf2 := blk_free' (stA.p) 2
                                have xk3 := blk_cell' (stA.p) 3
                                have xf3 := blk_free' (stA.p) 3
                                go_wp2
                                obtain ⟨r1, r2, r3⟩ := st.res (pt_grown w.heap.size (.string m) (.slice ao nn cc) (.slice (some ⟨g, 0, none⟩) (fs.length + 1) cap) (.int .i64 tm))
                                refine bodyPost_ret (results_one (v := .agg #[.string m, .slice ao nn cc, .slice (some ⟨g, 0, none⟩) (fs.length + 1) cap, .int .i64 tm]) Tryz.results45 (res_cell (b := w.heap.size) (T' := 32) (fr := (0, 0)) rfl (pt_blk st.q _ _ _ _) Tryz.underlying32 rfl (by kernel_rfl))) rfl ?_
                                rw [HR9.out]
                                exact ⟨_, _, rfl, r1, r2, r3⟩
end Go.Proofs.YtnodjijgeifejaaGreatDoor
