/- weirref06's reader: piece, where the text goes wrong. -/
import Derived.Test.YtnodjijgeifejaaGreatDoorRreader
namespace Go.Proofs.YtnodjijgeifejaaGreatDoor
open Go.RowKit
set_option linter.unusedSimpArgs false
set_option linter.unusedVariables false

set_option maxRecDepth 100000 in
set_option maxHeartbeats 1600000 in
theorem ref_piece_err (rb : Nat) (s : ByteArray) (a : Nat) (hs : s.size ≤ 8192) (ha : a ≤ s.size) (w : World) (h : Rst rb s (a, none) w) (e : Nat) (hU : unesc (s.data.toList.drop a) = .inr e) :
    Calls Tryz.prog 91 #[.pointer (some ⟨rb, 0, none⟩)] w fun ev w' => RsPost rb s .string w (pieceR s (a, none)) ev w' := by
  have CU := fun w => ref_Unescape (s.extract a s.size) (by simp; omega) w
  rw [tail_data] at CU
  have hle := unesc_le (s.data.toList.drop a)
  have hdl : (s.data.toList.drop a).length = s.size - a := by rw [List.length_drop]; rfl
  generalize hR : pieceR s (a, none) = R
  unfold pieceR pieceP at hR
  simp only at hR
  have h' := h
  unfold Rst at h'
  simp only [cOf, bOf, pOf] at h'
  have k0 := blk_cell' (h') 0
  have f0 := blk_free' (h') 0
  have k1 := blk_cell' (h') 1
  have f1 := blk_free' (h') 1
  have k2 := blk_cell' (h') 2
  have f2 := blk_free' (h') 2
  have k3 := blk_cell' (h') 3
  have f3 := blk_free' (h') 3
  have k4 := blk_cell' (h') 4
  have f4 := blk_free' (h') 4
  have k5 := blk_cell' (h') 5
  have f5 := blk_free' (h') 5
  have k6 := blk_cell' (h') 6
  have f6 := blk_free' (h') 6
  rw [hU] at CU hle hR
  have CU : ∀ w, Calls Tryz.prog 112 #[.string (s.extract a s.size)] w fun ev w' => ev = .returned (.tuple #[.string ⟨#[]⟩, .int .i64 0, .agg #[.int .i64 53, .int .i64 (e : Int), .int .i64 0, .bool true, .bool false]]) ∧ Below w.heap.size w w' := CU
  have CU := Lib.hid CU
  simp only at hle hR
  have HR := Lib.hid hR.symm
  clear hU hR
  go_enter Tryz.func91, Tryz.ntmps91
  go_wp2
  have hS : S2 rb (.string s) (.int .i64 (a : Int)) w := ⟨blk_cell' h' 0, blk_cell' h' 1⟩
  have hne := Nat.ne_of_lt (blk_lt' h')
  go_region_held3 (fun w' => w'.cell? ⟨rb, 0, none⟩ = some (.string s) ∧ w'.cell? ⟨rb, 1, none⟩ = some (.int .i64 a))
    (first | with_reducible assumption | with_reducible exact S2.drew hS | with_reducible exact S2.drew (S2.alloc hS _) | with_reducible exact S2.alloc (by with_reducible assumption) _ | with_reducible exact S2.drew (S2.alloc (by with_reducible assumption) _) | with_reducible exact S2.call (S2.drew hS) hB | with_reducible exact S2.call (S2.drew (S2.alloc hS _)) hB | with_reducible exact S2.alloc (S2.call (S2.drew hS) hB) _ | with_reducible exact S2.bad (by with_reducible assumption) hne _ _ _ _ _ | fail)
    (first | (go_at_call 112; (with_reducible refine (CU.out w.drew).mono ?_); rintro ev w1 ⟨rfl, hB⟩) | (go_at_call 112; (with_reducible refine (CU.out (w.alloc (.cells #[.int .i64 0, .int .i64 0, .int .i64 0, .bool false, .bool false] 35)).drew).mono ?_); rintro ev w1 ⟨rfl, hB⟩; have zk0 := blk_cell' (keep4 hB) 0; have zf0 := blk_free' (keep4 hB) 0; have zk1 := blk_cell' (keep4 hB) 1; have zf1 := blk_free' (keep4 hB) 1; have zk2 := blk_cell' (keep4 hB) 2; have zf2 := blk_free' (keep4 hB) 2; have zk3 := blk_cell' (keep4 hB) 3; have zf3 := blk_free' (keep4 hB) 3; have zk4 := blk_cell' (keep4 hB) 4; have zf4 := blk_free' (keep4 hB) 4) | fail)
  clear k0 k1 k2 k3 k4 k5 k6 f0 f1 f2 f3 f4 f5 f6
  · have hz := heap_alloc_new w1 (.cells #[(.int .i64 53), (.int .i64 (e : Int)), .int .i64 0, (.bool true), .bool false] 35)
    have hr := keep2 h' hB (.cells #[(.int .i64 53), (.int .i64 (e : Int)), .int .i64 0, (.bool true), .bool false] 35)
    have hg : w.grownBy (w1.alloc (.cells #[(.int .i64 53), (.int .i64 (e : Int)), .int .i64 0, (.bool true), .bool false] 35)) (some rb) :=
      grown_of_below (((Below.refl _ w).drew.trans hB).alloc ((Below.refl _ w).drew.trans hB).size _) (Nat.le_refl _) _
    have hnb : rb ≠ w1.heap.size := fun e => by have := blk_lt' (keep1 h' hB); omega
    have bk0 := blk_cell' hz 0
    have bk1 := blk_cell' hz 1
    have rk1 := blk_cell' hr 1
    have hwr : IntKind.i64.wrap ((a : Int) + (e : Int)) = (a : Int) + (e : Int) := IntWalk.i64_in _ (by omega)
    have hrd := Rst.drew (st := (a, none)) hr
    have hzd := blk_drew hz
    have hgd := grown_next hg (Below.refl _ _).drew
    go_wp2
    go_region_held3 (fun w' => w'.cell? ⟨rb, 1, none⟩ = some (.int .i64 a) ∧ w'.cell? ⟨w1.heap.size, 1, none⟩ = some (.int .i64 e))
      (first | exact ⟨rk1, bk1⟩ | exact ⟨blk_cell' h2 1, blk_cell' (grown_blk hg2 hzd (fun q => hnb (Option.some.inj q).symm)) 1⟩ | fail)
      (first | (go_at_call 95; (with_reducible refine (ref_fail rb s a none (a + e) ((a : Int) + (e : Int)) (by omega) _ hrd).mono ?_); rintro ev w2 ⟨rfl, h2, hg2⟩) | fail)
    go_wp2
    go_ret
    rw [HR.out]
    exact ⟨rfl, h2, grown_trans hgd hg2⟩
  · have hz := bad_blk (keep4 hB) (.int .i64 53) (.int .i64 (e : Int)) (.int .i64 0) (.bool true) (.bool false)
    have hr := bad_far (keep3 h' hB) hne (.int .i64 53) (.int .i64 (e : Int)) (.int .i64 0) (.bool true) (.bool false)
    have hg : w.grownBy (((((w1.setCell ⟨w.heap.size, 0, none⟩ (.int .i64 53)).setCell ⟨w.heap.size, 1, none⟩ (.int .i64 (e : Int))).setCell ⟨w.heap.size, 2, none⟩ (.int .i64 0)).setCell ⟨w.heap.size, 3, none⟩ (.bool true)).setCell ⟨w.heap.size, 4, none⟩ (.bool false)) (some rb) :=
      grown_of_below (below_bad (((Below.refl _ w).alloc (Nat.le_refl _) _).drew.trans (hB.mono (by simp))) (Nat.le_refl _) _ _ _ _ _) (Nat.le_refl _) _
    have hnb : rb ≠ w.heap.size := hne
    generalize (((((w1.setCell ⟨w.heap.size, 0, none⟩ (.int .i64 53)).setCell ⟨w.heap.size, 1, none⟩ (.int .i64 (e : Int))).setCell ⟨w.heap.size, 2, none⟩ (.int .i64 0)).setCell ⟨w.heap.size, 3, none⟩ (.bool true)).setCell ⟨w.heap.size, 4, none⟩ (.bool false)) = W at hz hr hg ⊢
    clear zk0 zk1 zk2 zk3 zk4 zf0 zf1 zf2 zf3 zf4
    have bk0 := blk_cell' hz 0
    have bk1 := blk_cell' hz 1
    have rk1 := blk_cell' hr 1
    have hwr : IntKind.i64.wrap ((a : Int) + (e : Int)) = (a : Int) + (e : Int) := IntWalk.i64_in _ (by omega)
    have hrd := Rst.drew (st := (a, none)) hr
    have hzd := blk_drew hz
    have hgd := grown_next hg (Below.refl _ _).drew
    go_wp2
    go_region_held3 (fun w' => w'.cell? ⟨rb, 1, none⟩ = some (.int .i64 a) ∧ w'.cell? ⟨w.heap.size, 1, none⟩ = some (.int .i64 e))
      (first | exact ⟨rk1, bk1⟩ | exact ⟨blk_cell' h2 1, blk_cell' (grown_blk hg2 hzd (fun q => hnb (Option.some.inj q).symm)) 1⟩ | fail)
      (first | (go_at_call 95; (with_reducible refine (ref_fail rb s a none (a + e) ((a : Int) + (e : Int)) (by omega) _ hrd).mono ?_); rintro ev w2 ⟨rfl, h2, hg2⟩) | fail)
    go_wp2
    go_ret
    rw [HR.out]
    exact ⟨rfl, h2, grown_trans hgd hg2⟩
end Go.Proofs.YtnodjijgeifejaaGreatDoor
