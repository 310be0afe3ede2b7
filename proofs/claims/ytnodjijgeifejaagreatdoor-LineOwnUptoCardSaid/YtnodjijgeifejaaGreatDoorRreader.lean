/- Package weirref06's reader: fail, is, must, piece: it goes on behind an error, and keeps the first. -/
import Derived.Test.YtnodjijgeifejaaGreatDoorRunesc
import Derived.Test.YtnodjijgeifejaaGreatDoorPst
namespace Go.Proofs.YtnodjijgeifejaaGreatDoor
open Go.RowKit
set_option linter.unusedSimpArgs false
set_option linter.unusedVariables false

def cOf : Option Nat → Int
  | none => 0
  | some _ => 60
def bOf : Option Nat → Int
  | none => 0
  | some e => (e : Int)
def pOf : Option Nat → Bool
  | none => false
  | some _ => true
/-- The sticky reader in block rb. -/
def Rst (rb : Nat) (s : ByteArray) (st : RSt) (w : World) : Prop :=
  w.heap[rb]? = some (.cells #[.string s, .int .i64 (st.1 : Int), .int .i64 (cOf st.2), .int .i64 (bOf st.2), .int .i64 0, .bool (pOf st.2), .bool false] 150 (0, 0))
theorem Rst.next {rb : Nat} {s : ByteArray} {st : RSt} {w w' : World} (h : Rst rb s st w) (hB : Below w.heap.size w w') : Rst rb s st w' := below_blk hB (blk_lt' h) h
theorem Rst.at {rb : Nat} {s : ByteArray} {st : RSt} {w : World} (h : Rst rb s st w) (b : Nat) : Rst rb s (b, st.2) (w.setCell ⟨rb, 1, none⟩ (.int .i64 (b : Int))) := by
  have := blk_set' h 1 (.int .i64 (b : Int))
  exact this
/-- What a reading leaves. -/
def RsPost {α : Type} (rb : Nat) (s : ByteArray) (enc : α → Value) (w : World) (q : α × RSt) (ev : Ending) (w' : World) : Prop :=
  ev = .returned (enc q.1) ∧ Rst rb s q.2 w' ∧ w.grownBy w' (some rb)
theorem fail_blk {w : World} {b : Nat} {x0 x1 x2 x3 x4 x5 x6 : Value} {T : TypeId} {fr : Nat × Nat} (h : w.heap[b]? = some (.cells #[x0, x1, x2, x3, x4, x5, x6] T fr)) (v2 v3 v4 v5 v6 : Value) :
    (((((w.setCell ⟨b, 2, none⟩ v2).setCell ⟨b, 3, none⟩ v3).setCell ⟨b, 4, none⟩ v4).setCell ⟨b, 5, none⟩ v5).setCell ⟨b, 6, none⟩ v6).heap[b]? = some (.cells #[x0, x1, v2, v3, v4, v5, v6] T fr) := by
  have := blk_set' (blk_set' (blk_set' (blk_set' (blk_set' h 2 v2) 3 v3) 4 v4) 5 v5) 6 v6
  simpa using this
set_option maxRecDepth 100000 in
set_option maxHeartbeats 1000000 in
theorem ref_fail (rb : Nat) (s : ByteArray) (a : Nat) (b : Option Nat) (p : Nat) (z : Int) (hz : z = (p : Int)) (w : World) (h : Rst rb s (a, b) w) :
    Calls Tryz.prog 95 #[.pointer (some ⟨rb, 0, none⟩), .int .i64 z] w fun ev w' => ev = .returned (.tuple #[]) ∧ Rst rb s (a, b.or (some p)) w' ∧ w.grownBy w' (some rb) := by
  subst hz
  unfold Rst at h ⊢
  cases b with
  | some e =>
    simp only [cOf, bOf, pOf, Option.or] at h ⊢
    have k0 := blk_cell' (h) 0
    have f0 := blk_free' (h) 0
    have k1 := blk_cell' (h) 1
    have f1 := blk_free' (h) 1
    have k2 := blk_cell' (h) 2
    have f2 := blk_free' (h) 2
    have k3 := blk_cell' (h) 3
    have f3 := blk_free' (h) 3
    have k4 := blk_cell' (h) 4
    have f4 := blk_free' (h) 4
    have k5 := blk_cell' (h) 5
    have f5 := blk_free' (h) 5
    have k6 := blk_cell' (h) 6
    have f6 := blk_free' (h) 6
    go_enter Tryz.func95, Tryz.ntmps95
    go_wp2
    go_end0
    exact ⟨rfl, h, grown_refl _ _⟩
  | none =>
    simp only [cOf, bOf, pOf, Option.or] at h ⊢
    have k0 := blk_cell' (h) 0
    have f0 := blk_free' (h) 0
    have k1 := blk_cell' (h) 1
    have f1 := blk_free' (h) 1
    have k2 := blk_cell' (h) 2
    have f2 := blk_free' (h) 2
    have k3 := blk_cell' (h) 3
    have f3 := blk_free' (h) 3
    have k4 := blk_cell' (h) 4
    have f4 := blk_free' (h) 4
    have k5 := blk_cell' (h) 5
    have f5 := blk_free' (h) 5
    have k6 := blk_cell' (h) 6
    have f6 := blk_free' (h) 6
    have A60 : ∀ (w : World), Calls Tryz.prog 90 #[.int .i64 (p : Int), .int .i64 60] w fun ev w' => ev = .returned (.agg #[.int .i64 60, .int .i64 (p : Int), .int .i64 0, .bool true, .bool false]) ∧ Below w.heap.size w w' := fun w => weirref01_At p 60 w
    have A60 := Lib.hid A60
    go_enter Tryz.func95, Tryz.ntmps95
    go_wp2_with fail
    refine (A60.out _).mono ?_
    rintro ev w1 ⟨rfl, hB⟩
    have h1 := below_blk hB (blk_lt' h) h
    clear k0 k1 k2 k3 k4 k5 k6 f0 f1 f2 f3 f4 f5 f6
    have k0 := blk_cell' (h1) 0
    have f0 := blk_free' (h1) 0
    have k1 := blk_cell' (h1) 1
    have f1 := blk_free' (h1) 1
    have k2 := blk_cell' (h1) 2
    have f2 := blk_free' (h1) 2
    have k3 := blk_cell' (h1) 3
    have f3 := blk_free' (h1) 3
    have k4 := blk_cell' (h1) 4
    have f4 := blk_free' (h1) 4
    have k5 := blk_cell' (h1) 5
    have f5 := blk_free' (h1) 5
    have k6 := blk_cell' (h1) 6
    have f6 := blk_free' (h1) 6
    go_wp2
    go_end0
    exact ⟨rfl, fail_blk h1 _ _ _ _ _, grown_set (grown_set (grown_set (grown_set (grown_set (grown_of_below hB (Nat.le_refl _) _) 2 _) 3 _) 4 _) 5 _) 6 _⟩
set_option maxRecDepth 100000 in
set_option maxHeartbeats 1000000 in
theorem ref_is (rb : Nat) (s : ByteArray) (st : RSt) (c : UInt8) (z : Int) (hz : z = (c.toNat : Int)) (w : World) (h : Rst rb s st w) :
    Calls Tryz.prog 92 #[.pointer (some ⟨rb, 0, none⟩), .int .u8 z] w fun ev w' => ev = .returned (.bool (isR s c st)) ∧ Below w.heap.size w w' := by
  obtain ⟨a, b⟩ := st
  unfold Rst at h
  cases b with
  | some e =>
    rw [isR_bad]
    simp only [cOf, bOf, pOf] at h
    have k0 := blk_cell' (h) 0
    have f0 := blk_free' (h) 0
    have k1 := blk_cell' (h) 1
    have f1 := blk_free' (h) 1
    have k2 := blk_cell' (h) 2
    have f2 := blk_free' (h) 2
    have k3 := blk_cell' (h) 3
    have f3 := blk_free' (h) 3
    have k4 := blk_cell' (h) 4
    have f4 := blk_free' (h) 4
    have k5 := blk_cell' (h) 5
    have f5 := blk_free' (h) 5
    have k6 := blk_cell' (h) 6
    have f6 := blk_free' (h) 6
    clear hz h
    go_enter Tryz.func92, Tryz.ntmps92
    go_wp2
    go_region
    go_wp2
    go_ret
    exact ⟨by simp, by first | exact Below.refl _ _ | exact (Below.refl _ _).drew⟩
  | none =>
    rw [isR_good]
    simp only [cOf, bOf, pOf] at h
    have k0 := blk_cell' (h) 0
    have f0 := blk_free' (h) 0
    have k1 := blk_cell' (h) 1
    have f1 := blk_free' (h) 1
    have k2 := blk_cell' (h) 2
    have f2 := blk_free' (h) 2
    have k3 := blk_cell' (h) 3
    have f3 := blk_free' (h) 3
    have k4 := blk_cell' (h) 4
    have f4 := blk_free' (h) 4
    have k5 := blk_cell' (h) 5
    have f5 := blk_free' (h) 5
    have k6 := blk_cell' (h) 6
    have f6 := blk_free' (h) 6
    by_cases hi : a < s.size
    · have hq := isP_lt c hi
      rw [← hz] at hq
      rw [hq]
      clear hq hz h
      go_enter Tryz.func92, Tryz.ntmps92
      go_wp2
      go_region
      go_wp2
      go_ret
      exact ⟨by simp, by first | exact Below.refl _ _ | exact (Below.refl _ _).drew⟩
    · rw [isP_ge c hi]
      clear hz h
      go_enter Tryz.func92, Tryz.ntmps92
      go_wp2
      go_region
      go_wp2
      go_ret
      exact ⟨by simp, by first | exact Below.refl _ _ | exact (Below.refl _ _).drew⟩
set_option maxRecDepth 100000 in
set_option maxHeartbeats 1000000 in
theorem ref_must (rb : Nat) (s : ByteArray) (st : RSt) (c : UInt8) (z : Int) (hz : z = (c.toNat : Int)) (hs : s.size ≤ 8192) (w : World) (h : Rst rb s st w) :
    Calls Tryz.prog 93 #[.pointer (some ⟨rb, 0, none⟩), .int .u8 z] w fun ev w' => ev = .returned (.tuple #[]) ∧ Rst rb s (mustR s c st) w' ∧ w.grownBy w' (some rb) := by
  have IS := Lib.hid (fun w h => ref_is rb s st c z hz w h)
  obtain ⟨a, b⟩ := st
  cases b with
  | some e =>
    rw [isR_bad] at IS
    rw [mustR_bad]
    have FL := Lib.hid (fun w h => ref_fail rb s a (some e) a (a : Int) rfl w h)
    clear hz
    go_enter Tryz.func93, Tryz.ntmps93
    go_wp2_with fail
    refine (IS.out _ h).mono ?_
    rintro ev w1 ⟨rfl, hB⟩
    have h1 := h.next hB
    have hc := blk_cell' (show w1.heap[rb]? = some (.cells _ _ _) from h1) 1
    go_wp2_with fail
    refine (FL.out _ h1).mono ?_
    rintro ev w2 ⟨rfl, h2, hg⟩
    go_wp2
    first | go_end0 | refine bodyPost_ret (results_none rfl _ _ _) rfl ?_
    exact ⟨rfl, h2, grown_trans (grown_of_below hB (Nat.le_refl _) _) hg⟩
  | none =>
    rw [isR_good] at IS
    have FL := Lib.hid (fun w h => ref_fail rb s a none a (a : Int) rfl w h)
    unfold mustR signP
    cases hq : isP s c a with
    | false =>
      rw [hq] at IS
      simp only [Bool.false_eq_true, if_false]
      clear hz hq
      go_enter Tryz.func93, Tryz.ntmps93
      go_wp2_with fail
      refine (IS.out _ h).mono ?_
      rintro ev w1 ⟨rfl, hB⟩
      have h1 := h.next hB
      have hc := blk_cell' (show w1.heap[rb]? = some (.cells _ _ _) from h1) 1
      go_wp2_with fail
      refine (FL.out _ h1).mono ?_
      rintro ev w2 ⟨rfl, h2, hg⟩
      go_wp2
      first | go_end0 | refine bodyPost_ret (results_none rfl _ _ _) rfl ?_
      exact ⟨rfl, h2, grown_trans (grown_of_below hB (Nat.le_refl _) _) hg⟩
    | true =>
      rw [hq] at IS
      simp only [if_true]
      have hlt := isP_lt' hq
      clear hz hq
      go_enter Tryz.func93, Tryz.ntmps93
      go_wp2_with fail
      refine (IS.out _ h).mono ?_
      rintro ev w1 ⟨rfl, hB⟩
      have h1 := h.next hB
      have hc := blk_cell' (show w1.heap[rb]? = some (.cells _ _ _) from h1) 1
      have hf := blk_free' (show w1.heap[rb]? = some (.cells _ _ (0, 0)) from h1) 1
      go_wp2
      go_end0
      exact ⟨rfl, h1.at (a + 1), grown_set (grown_of_below hB (Nat.le_refl _) _) 1 _⟩
set_option maxRecDepth 100000 in
set_option maxHeartbeats 1000000 in
theorem ref_piece_bad (rb : Nat) (s : ByteArray) (a e : Nat) (w : World) (h : Rst rb s (a, some e) w) :
    Calls Tryz.prog 91 #[.pointer (some ⟨rb, 0, none⟩)] w fun ev w' => RsPost rb s .string w (⟨#[]⟩, (a, some e)) ev w' := by
  have h' := h
  unfold Rst at h'
  simp only [cOf, bOf, pOf] at h'
  have k0 := blk_cell' (h') 0
  have f0 := blk_free' (h') 0
  have k1 := blk_cell' (h') 1
  have f1 := blk_free' (h') 1
  have k2 := blk_cell' (h') 2
  have f2 := blk_free' (h') 2
  have k3 := blk_cell' (h') 3
  have f3 := blk_free' (h') 3
  have k4 := blk_cell' (h') 4
  have f4 := blk_free' (h') 4
  have k5 := blk_cell' (h') 5
  have f5 := blk_free' (h') 5
  have k6 := blk_cell' (h') 6
  have f6 := blk_free' (h') 6
  go_enter Tryz.func91, Tryz.ntmps91
  go_wp2
  go_ret
  exact ⟨rfl, h, grown_refl _ _⟩
theorem keep1 {w w1 : World} {rb : Nat} {o : Obj} (h : w.heap[rb]? = some o) (hB : Below w.drew.heap.size w.drew w1) : w1.heap[rb]? = some o := below_blk ((Below.refl _ w).drew.trans hB) (blk_lt' h) h
theorem keep2 {w w1 : World} {rb : Nat} {o : Obj} (h : w.heap[rb]? = some o) (hB : Below w.drew.heap.size w.drew w1) (o2 : Obj) : (w1.alloc o2).heap[rb]? = some o := heap_old' w1 o2 rb (blk_lt' (keep1 h hB)) (keep1 h hB)
theorem keep3 {w w1 : World} {rb : Nat} {o o2 : Obj} (h : w.heap[rb]? = some o) (hB : Below (w.alloc o2).drew.heap.size (w.alloc o2).drew w1) : w1.heap[rb]? = some o := below_blk hB (blk_lt' (heap_old' w o2 rb (blk_lt' h) h)) (heap_old' w o2 rb (blk_lt' h) h)
theorem keep4 {w w1 : World} {o2 : Obj} (hB : Below (w.alloc o2).drew.heap.size (w.alloc o2).drew w1) : w1.heap[w.heap.size]? = some o2 := below_blk hB (blk_lt' (heap_alloc_new w o2)) (heap_alloc_new w o2)
theorem bad_far {w : World} {b rb : Nat} {o : Obj} (h : w.heap[rb]? = some o) (hne : rb ≠ b) (v0 v1 v2 v3 v4 : Value) :
    (((((w.setCell ⟨b, 0, none⟩ v0).setCell ⟨b, 1, none⟩ v1).setCell ⟨b, 2, none⟩ v2).setCell ⟨b, 3, none⟩ v3).setCell ⟨b, 4, none⟩ v4).heap[rb]? = some o :=
  blk_far' (blk_far' (blk_far' (blk_far' (blk_far' h hne 0 v0) hne 1 v1) hne 2 v2) hne 3 v3) hne 4 v4
theorem Rst.drew {rb : Nat} {s : ByteArray} {st : RSt} {w : World} (h : Rst rb s st w) : Rst rb s st w.drew := h
theorem blk_drew {w : World} {b : Nat} {o : Obj} (h : w.heap[b]? = some o) : w.drew.heap[b]? = some o := h
/-- Two cells of the reader, through what a region does. -/
abbrev S2 (rb : Nat) (x y : Value) (w : World) : Prop := w.cell? ⟨rb, 0, none⟩ = some x ∧ w.cell? ⟨rb, 1, none⟩ = some y
theorem S2.drew {rb : Nat} {x y : Value} {w : World} (h : S2 rb x y w) : S2 rb x y w.drew := h
theorem S2.call {rb : Nat} {x y : Value} {w w' : World} (h : S2 rb x y w) (hB : Below w.heap.size w w') : S2 rb x y w' := ⟨(hB.cell (World.block_lt_of_cell? w _ h.1)).trans h.1, (hB.cell (World.block_lt_of_cell? w _ h.2)).trans h.2⟩
theorem S2.alloc {rb : Nat} {x y : Value} {w : World} (h : S2 rb x y w) (o : Obj) : S2 rb x y (w.alloc o) := h.call ((Below.refl _ _).alloc (Nat.le_refl _) o)
theorem S2.bad {rb b : Nat} {x y : Value} {w : World} (h : S2 rb x y w) (hne : rb ≠ b) (v0 v1 v2 v3 v4 : Value) : S2 rb x y (((((w.setCell ⟨b, 0, none⟩ v0).setCell ⟨b, 1, none⟩ v1).setCell ⟨b, 2, none⟩ v2).setCell ⟨b, 3, none⟩ v3).setCell ⟨b, 4, none⟩ v4) := by
  have hc : ∀ (w : World) (i j : Nat) (v : Value), (w.setCell ⟨b, i, none⟩ v).cell? ⟨rb, j, none⟩ = w.cell? ⟨rb, j, none⟩ := fun w i j v => World.cell?_setCell_other _ _ _ _ (fun e => hne (by cases e; rfl))
  exact ⟨by rw [hc, hc, hc, hc, hc]; exact h.1, by rw [hc, hc, hc, hc, hc]; exact h.2⟩
end Go.Proofs.YtnodjijgeifejaaGreatDoor
