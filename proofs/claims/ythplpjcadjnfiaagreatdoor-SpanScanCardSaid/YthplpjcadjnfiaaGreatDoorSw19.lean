/- Reading a time: each step over the reader's block; the closures of span.Time. -/
import Derived.Test.YthplpjcadjnfiaaGreatDoorSw18
namespace Go.Proofs.YthplpjcadjnfiaaGreatDoor
open Go.RowKit
set_option linter.unusedSimpArgs false
set_option linter.unusedVariables false

/-- What a step leaves. -/
def StepPost (w : World) (b : Nat) (p : Bool × Rv) (e : Ending) (w' : World) : Prop := e = .returned (.bool p.1) ∧ RvAt w' b p.2 ∧ w.grownBy w' (some b)
def numT (n : Nat) (lo hi : Int) (set : Rv → Int → Rv) (r : Rv) : Bool × Rv :=
  match numS r.s.data.toList r.a n lo hi with
  | none => (false, r)
  | some v => (true, { set r v with a := r.a + n })
def sigT (cs : List UInt8) (r : Rv) : Bool × Rv :=
  match r.s.data.toList[r.a]? with
  | none => (false, r)
  | some c => if decide (0 ≤ Lib.indexByte cs c) = true then (true, { r with a := r.a + 1 }) else (false, r)
def pointT (r : Rv) : Bool × Rv :=
  if sigS r.s.data.toList r.a 46 = true then
    match fracS r.s.data.toList r.a with
    | none => (false, r)
    | some (ns, n') => (true, { r with ns := ns, a := n' })
  else (true, r)
theorem numS_some {l : List UInt8} {a n : Nat} {lo hi v : Int} (h : numS l a n lo hi = some v) : n ≤ runD (l.drop a) ∧ lo ≤ v ∧ v ≤ hi := by
  unfold numS at h
  by_cases hc : n ≤ runD (l.drop a) ∧ lo ≤ (decN ((l.drop a).take n) : Int) ∧ (decN ((l.drop a).take n) : Int) ≤ hi
  · rw [if_pos hc] at h
    have := Option.some.inj h
    subst this
    exact hc
  · rw [if_neg hc] at h; cases h
theorem numT_ok (n : Nat) (lo hi : Int) (set : Rv → Int → Rv) (hset : ∀ r v, (set r v).s = r.s) (r : Rv) (ha : r.a ≤ r.s.size) : (numT n lo hi set r).2.s = r.s ∧ (numT n lo hi set r).2.a ≤ r.s.size := by
  unfold numT
  cases h : numS r.s.data.toList r.a n lo hi with
  | none => exact ⟨rfl, ha⟩
  | some v =>
    refine ⟨hset r v, ?_⟩
    have h1 := (numS_some h).1
    have h2 := runD_le (r.s.data.toList.drop r.a)
    rw [List.length_drop] at h2
    have h3 : r.s.data.toList.length = r.s.size := rfl
    show r.a + n ≤ _
    omega
theorem sigT_none {cs : List UInt8} {r : Rv} (h : r.s.data.toList[r.a]? = none) : sigT cs r = (false, r) := by unfold sigT; rw [h]
theorem sigT_yes {cs : List UInt8} {r : Rv} {c : UInt8} (h : r.s.data.toList[r.a]? = some c) (hd : decide (0 ≤ Lib.indexByte cs c) = true) : sigT cs r = (true, { r with a := r.a + 1 }) := by unfold sigT; rw [h]; exact if_pos hd
theorem sigT_no {cs : List UInt8} {r : Rv} {c : UInt8} (h : r.s.data.toList[r.a]? = some c) (hd : decide (0 ≤ Lib.indexByte cs c) = false) : sigT cs r = (false, r) := by unfold sigT; rw [h]; exact if_neg (by rw [hd]; simp)
theorem sigT_ok (cs : List UInt8) (r : Rv) (ha : r.a ≤ r.s.size) : (sigT cs r).2.s = r.s ∧ (sigT cs r).2.a ≤ r.s.size := by
  cases h : r.s.data.toList[r.a]? with
  | none => rw [sigT_none h]; exact ⟨rfl, ha⟩
  | some c =>
    obtain ⟨hl, _⟩ := List.getElem?_eq_some_iff.1 h
    have h3 : r.s.data.toList.length = r.s.size := rfl
    cases hd : decide (0 ≤ Lib.indexByte cs c) with
    | true => rw [sigT_yes h hd]; exact ⟨rfl, by show r.a + 1 ≤ _; omega⟩
    | false => rw [sigT_no h hd]; exact ⟨rfl, ha⟩
theorem pointT_ok (r : Rv) (ha : r.a ≤ r.s.size) : (pointT r).2.s = r.s ∧ (pointT r).2.a ≤ r.s.size := by
  unfold pointT
  split
  · rename_i hs
    cases h : fracS r.s.data.toList r.a with
    | none => exact ⟨rfl, ha⟩
    | some p =>
      obtain ⟨ns, n'⟩ := p
      refine ⟨rfl, ?_⟩
      unfold fracS at h
      rw [if_pos hs] at h
      split at h
      · have e := congrArg Prod.snd (Option.some.inj h)
        have h2 := runD_le (r.s.data.toList.drop (r.a + 1))
        rw [List.length_drop] at h2
        obtain ⟨hl, _⟩ := sigS_lt hs
        have h3 : r.s.data.toList.length = r.s.size := rfl
        show n' ≤ _
        simp only at e
        omega
      · cases h
  · exact ⟨rfl, ha⟩
theorem RvAt.c {w : World} {b : Nat} {r : Rv} (h : RvAt w b r) : w.cell? ⟨b, 0, none⟩ = some (.string r.s) ∧ w.cell? ⟨b, 1, none⟩ = some (.int .i64 (r.a : Int)) ∧ w.cell? ⟨b, 2, none⟩ = some (.int .i64 r.y) ∧ w.cell? ⟨b, 3, none⟩ = some (.int .i64 r.mo) ∧ w.cell? ⟨b, 4, none⟩ = some (.int .i64 r.d) ∧
    w.cell? ⟨b, 5, none⟩ = some (.int .i64 r.h) ∧ w.cell? ⟨b, 6, none⟩ = some (.int .i64 r.mi) ∧ w.cell? ⟨b, 7, none⟩ = some (.int .i64 r.sec) ∧ w.cell? ⟨b, 8, none⟩ = some (.int .i64 r.ns) ∧ w.cell? ⟨b, 9, none⟩ = some (.int .i64 r.z) :=
  ⟨blk_cell' h 0, blk_cell' h 1, blk_cell' h 2, blk_cell' h 3, blk_cell' h 4, blk_cell' h 5, blk_cell' h 6, blk_cell' h 7, blk_cell' h 8, blk_cell' h 9⟩
theorem RvAt.f {w : World} {b : Nat} {r : Rv} (h : RvAt w b r) (i : Nat) : w.frozen? ⟨b, i, none⟩ = false := blk_free' h i
theorem grown_two {w w1 : World} {b : Nat} (h : Below w.heap.size w w1) (i j : Nat) (v v' : Value) : w.grownBy ((w1.setCell ⟨b, i, none⟩ v).setCell ⟨b, j, none⟩ v') (some b) :=
  grown_set (grown_set (grown_of_below h (Nat.le_refl _) _) i v) j v'
theorem grown_one {w w1 : World} {b : Nat} (h : Below w.heap.size w w1) (i : Nat) (v : Value) : w.grownBy (w1.setCell ⟨b, i, none⟩ v) (some b) := grown_set (grown_of_below h (Nat.le_refl _) _) i v
theorem sigT_step (signs : ByteArray) (r : Rv) (b : Nat) (hs : r.s.size ≤ 140737488355328) (w : World) (h : RvAt w b r) :
    Calls Tryz.prog 50 #[.pointer (some ⟨b, 0, none⟩), .string signs] w (StepPost w b (sigT signs.data.toList r)) := by
  cases hg : r.s.data.toList[r.a]? with
  | none =>
    rw [sigT_none hg]
    have hle : r.s.size ≤ r.a := by
      have := List.getElem?_eq_none_iff.1 hg
      exact this
    exact (sign_end r.s signs r.a b hle w h.c.1 h.c.2.1).mono fun e w' ⟨he, hB⟩ => ⟨he, h.next hB, grown_of_below hB (Nat.le_refl _) _⟩
  | some c =>
    obtain ⟨hl, hc⟩ := List.getElem?_eq_some_iff.1 hg
    have hl' : r.a < r.s.size := hl
    have hc' : r.s[r.a] = c := hc
    cases hd : decide (0 ≤ Lib.indexByte signs.data.toList c) with
    | true =>
      rw [sigT_yes hg hd]
      refine (sign_yes r.s signs r.a b hs hl' (by rw [hc']; exact hd) w h.c.1 h.c.2.1 (h.f 1)).mono ?_
      rintro e w' ⟨he, w1, hB, rfl⟩
      refine ⟨he, ?_, grown_one hB 1 _⟩
      have := blk_set' (h.next hB) 1 (.int .i64 ((r.a : Int) + 1))
      simpa [RvAt] using this
    | false =>
      rw [sigT_no hg hd]
      exact (sign_no r.s signs r.a b hs hl' (by rw [hc']; exact hd) w h.c.1 h.c.2.1).mono fun e w' ⟨he, hB⟩ => ⟨he, h.next hB, grown_of_below hB (Nat.le_refl _) _⟩
theorem pointT_step (r : Rv) (b : Nat) (hs : r.s.size ≤ 140737488355328) (ha : r.a ≤ r.s.size) (w : World) (hL : LayS w) (h : RvAt w b r) :
    Calls Tryz.prog 61 #[.pointer (some ⟨b, 0, none⟩)] w (StepPost w b (pointT r)) := by
  unfold pointT
  cases hg : sigS r.s.data.toList r.a 46 with
  | false => exact (point_none r.s r.a b hs ha hg w hL h.c.1 h.c.2.1).mono fun e w' ⟨he, hB⟩ => ⟨he, h.next hB, grown_of_below hB (Nat.le_refl _) _⟩
  | true =>
    rw [if_pos rfl]
    cases hf : fracS r.s.data.toList r.a with
    | none => exact (point_bad r.s r.a b hs ha hg hf w hL h.c.1 h.c.2.1).mono fun e w' ⟨he, hB⟩ => ⟨he, h.next hB, grown_of_below hB (Nat.le_refl _) _⟩
    | some p =>
      obtain ⟨ns, n'⟩ := p
      refine (point_yes r.s r.a b hs ha ns n' hg hf w hL h.c.1 h.c.2.1 (h.f 1) _ h.c.2.2.2.2.2.2.2.2.1 (h.f 8)).mono ?_
      rintro e w' ⟨he, w1, hB, rfl⟩
      refine ⟨he, ?_, grown_two hB 8 1 _ _⟩
      have := blk_set' (blk_set' (h.next hB) 8 (.int .i64 ns)) 1 (.int .i64 (n' : Int))
      simpa [RvAt] using this
theorem numT_step_y (n : Nat) (lo hi : Int) (hn : 1 ≤ n) (hn9 : n ≤ 9) (r : Rv) (b : Nat) (hs : r.s.size ≤ 140737488355328) (ha : r.a ≤ r.s.size) (w : World) (hL : LayS w) (h : RvAt w b r) :
    Calls Tryz.prog 48 #[.pointer (some ⟨b, 0, none⟩), .int .i64 (n : Int), .int .i64 lo, .int .i64 hi, .pointer (some ⟨b, 2, none⟩)] w (StepPost w b (numT n lo hi (fun r v => { r with y := v }) r)) := by
  unfold numT
  cases hv : numS r.s.data.toList r.a n lo hi with
  | none => exact (pair_no r.s r.a n b b 2 lo hi hs ha hn hn9 hv w hL h.c.1 h.c.2.1).mono fun e w' ⟨he, hB⟩ => ⟨he, h.next hB, grown_of_below hB (Nat.le_refl _) _⟩
  | some v =>
    refine (pair_yes r.s r.a n b b 2 lo hi v hs ha hn hn9 hv w hL h.c.1 h.c.2.1 (h.f 1) _ h.c.2.2.1 (h.f 2) (Or.inr (by omega))).mono ?_
    rintro e w' ⟨he, w1, hB, rfl⟩
    refine ⟨he, ?_, grown_two hB 2 1 _ _⟩
    have := blk_set' (blk_set' (h.next hB) 2 (.int .i64 v)) 1 (.int .i64 ((r.a : Int) + (n : Int)))
    simpa [RvAt] using this
theorem numT_step_mo (n : Nat) (lo hi : Int) (hn : 1 ≤ n) (hn9 : n ≤ 9) (r : Rv) (b : Nat) (hs : r.s.size ≤ 140737488355328) (ha : r.a ≤ r.s.size) (w : World) (hL : LayS w) (h : RvAt w b r) :
    Calls Tryz.prog 48 #[.pointer (some ⟨b, 0, none⟩), .int .i64 (n : Int), .int .i64 lo, .int .i64 hi, .pointer (some ⟨b, 3, none⟩)] w (StepPost w b (numT n lo hi (fun r v => { r with mo := v }) r)) := by
  unfold numT
  cases hv : numS r.s.data.toList r.a n lo hi with
  | none => exact (pair_no r.s r.a n b b 3 lo hi hs ha hn hn9 hv w hL h.c.1 h.c.2.1).mono fun e w' ⟨he, hB⟩ => ⟨he, h.next hB, grown_of_below hB (Nat.le_refl _) _⟩
  | some v =>
    refine (pair_yes r.s r.a n b b 3 lo hi v hs ha hn hn9 hv w hL h.c.1 h.c.2.1 (h.f 1) _ h.c.2.2.2.1 (h.f 3) (Or.inr (by omega))).mono ?_
    rintro e w' ⟨he, w1, hB, rfl⟩
    refine ⟨he, ?_, grown_two hB 3 1 _ _⟩
    have := blk_set' (blk_set' (h.next hB) 3 (.int .i64 v)) 1 (.int .i64 ((r.a : Int) + (n : Int)))
    simpa [RvAt] using this
theorem numT_step_d (n : Nat) (lo hi : Int) (hn : 1 ≤ n) (hn9 : n ≤ 9) (r : Rv) (b : Nat) (hs : r.s.size ≤ 140737488355328) (ha : r.a ≤ r.s.size) (w : World) (hL : LayS w) (h : RvAt w b r) :
    Calls Tryz.prog 48 #[.pointer (some ⟨b, 0, none⟩), .int .i64 (n : Int), .int .i64 lo, .int .i64 hi, .pointer (some ⟨b, 4, none⟩)] w (StepPost w b (numT n lo hi (fun r v => { r with d := v }) r)) := by
  unfold numT
  cases hv : numS r.s.data.toList r.a n lo hi with
  | none => exact (pair_no r.s r.a n b b 4 lo hi hs ha hn hn9 hv w hL h.c.1 h.c.2.1).mono fun e w' ⟨he, hB⟩ => ⟨he, h.next hB, grown_of_below hB (Nat.le_refl _) _⟩
  | some v =>
    refine (pair_yes r.s r.a n b b 4 lo hi v hs ha hn hn9 hv w hL h.c.1 h.c.2.1 (h.f 1) _ h.c.2.2.2.2.1 (h.f 4) (Or.inr (by omega))).mono ?_
    rintro e w' ⟨he, w1, hB, rfl⟩
    refine ⟨he, ?_, grown_two hB 4 1 _ _⟩
    have := blk_set' (blk_set' (h.next hB) 4 (.int .i64 v)) 1 (.int .i64 ((r.a : Int) + (n : Int)))
    simpa [RvAt] using this
theorem numT_step_h (n : Nat) (lo hi : Int) (hn : 1 ≤ n) (hn9 : n ≤ 9) (r : Rv) (b : Nat) (hs : r.s.size ≤ 140737488355328) (ha : r.a ≤ r.s.size) (w : World) (hL : LayS w) (h : RvAt w b r) :
    Calls Tryz.prog 48 #[.pointer (some ⟨b, 0, none⟩), .int .i64 (n : Int), .int .i64 lo, .int .i64 hi, .pointer (some ⟨b, 5, none⟩)] w (StepPost w b (numT n lo hi (fun r v => { r with h := v }) r)) := by
  unfold numT
  cases hv : numS r.s.data.toList r.a n lo hi with
  | none => exact (pair_no r.s r.a n b b 5 lo hi hs ha hn hn9 hv w hL h.c.1 h.c.2.1).mono fun e w' ⟨he, hB⟩ => ⟨he, h.next hB, grown_of_below hB (Nat.le_refl _) _⟩
  | some v =>
    refine (pair_yes r.s r.a n b b 5 lo hi v hs ha hn hn9 hv w hL h.c.1 h.c.2.1 (h.f 1) _ h.c.2.2.2.2.2.1 (h.f 5) (Or.inr (by omega))).mono ?_
    rintro e w' ⟨he, w1, hB, rfl⟩
    refine ⟨he, ?_, grown_two hB 5 1 _ _⟩
    have := blk_set' (blk_set' (h.next hB) 5 (.int .i64 v)) 1 (.int .i64 ((r.a : Int) + (n : Int)))
    simpa [RvAt] using this
theorem numT_step_mi (n : Nat) (lo hi : Int) (hn : 1 ≤ n) (hn9 : n ≤ 9) (r : Rv) (b : Nat) (hs : r.s.size ≤ 140737488355328) (ha : r.a ≤ r.s.size) (w : World) (hL : LayS w) (h : RvAt w b r) :
    Calls Tryz.prog 48 #[.pointer (some ⟨b, 0, none⟩), .int .i64 (n : Int), .int .i64 lo, .int .i64 hi, .pointer (some ⟨b, 6, none⟩)] w (StepPost w b (numT n lo hi (fun r v => { r with mi := v }) r)) := by
  unfold numT
  cases hv : numS r.s.data.toList r.a n lo hi with
  | none => exact (pair_no r.s r.a n b b 6 lo hi hs ha hn hn9 hv w hL h.c.1 h.c.2.1).mono fun e w' ⟨he, hB⟩ => ⟨he, h.next hB, grown_of_below hB (Nat.le_refl _) _⟩
  | some v =>
    refine (pair_yes r.s r.a n b b 6 lo hi v hs ha hn hn9 hv w hL h.c.1 h.c.2.1 (h.f 1) _ h.c.2.2.2.2.2.2.1 (h.f 6) (Or.inr (by omega))).mono ?_
    rintro e w' ⟨he, w1, hB, rfl⟩
    refine ⟨he, ?_, grown_two hB 6 1 _ _⟩
    have := blk_set' (blk_set' (h.next hB) 6 (.int .i64 v)) 1 (.int .i64 ((r.a : Int) + (n : Int)))
    simpa [RvAt] using this
theorem numT_step_sec (n : Nat) (lo hi : Int) (hn : 1 ≤ n) (hn9 : n ≤ 9) (r : Rv) (b : Nat) (hs : r.s.size ≤ 140737488355328) (ha : r.a ≤ r.s.size) (w : World) (hL : LayS w) (h : RvAt w b r) :
    Calls Tryz.prog 48 #[.pointer (some ⟨b, 0, none⟩), .int .i64 (n : Int), .int .i64 lo, .int .i64 hi, .pointer (some ⟨b, 7, none⟩)] w (StepPost w b (numT n lo hi (fun r v => { r with sec := v }) r)) := by
  unfold numT
  cases hv : numS r.s.data.toList r.a n lo hi with
  | none => exact (pair_no r.s r.a n b b 7 lo hi hs ha hn hn9 hv w hL h.c.1 h.c.2.1).mono fun e w' ⟨he, hB⟩ => ⟨he, h.next hB, grown_of_below hB (Nat.le_refl _) _⟩
  | some v =>
    refine (pair_yes r.s r.a n b b 7 lo hi v hs ha hn hn9 hv w hL h.c.1 h.c.2.1 (h.f 1) _ h.c.2.2.2.2.2.2.2.1 (h.f 7) (Or.inr (by omega))).mono ?_
    rintro e w' ⟨he, w1, hB, rfl⟩
    refine ⟨he, ?_, grown_two hB 7 1 _ _⟩
    have := blk_set' (blk_set' (h.next hB) 7 (.int .i64 v)) 1 (.int .i64 ((r.a : Int) + (n : Int)))
    simpa [RvAt] using this
set_option maxRecDepth 100000 in
set_option maxHeartbeats 400000 in
theorem time_step1 (r : Rv) (b B : Nat) (hs : r.s.size ≤ 140737488355328) (ha : r.a ≤ r.s.size) (w : World) (hL : LayS w) (h : RvAt w b r) (hbox : w.heap[B]? = some (.cells #[.pointer (some ⟨b, 0, none⟩)] 80 (0, 0))) (hne : B ≠ b) :
    Calls Tryz.prog 47 #[.pointer (some ⟨B, 0, none⟩)] w (StepPost w b (numT 4 0 9999 (fun r v => { r with y := v }) r)) := by
  generalize hp : (numT 4 0 9999 (fun r v => { r with y := v }) r) = p
  have CP : ∀ W, LayS W → RvAt W b r → Calls Tryz.prog 48 #[.pointer (some ⟨b, 0, none⟩), .int .i64 4, .int .i64 0, .int .i64 9999, .pointer (some ⟨b, 2, none⟩)] W (StepPost W b p) := fun W hL h => hp ▸ numT_step_y 4 0 9999 (by omega) (by omega) r b hs ha W hL h
  have c0 : w.cell? ⟨B, 0, none⟩ = some (.pointer (some ⟨b, 0, none⟩)) := blk_cell' hbox 0
  clear hp
  generalize hP : StepPost w b p = Q
  have HQ := Lib.hid hP
  clear hP
  go_enter Tryz.func47, Tryz.ntmps47
  go_wp2_with fail
  have t0 : w.cell? ⟨B, 0, none⟩ = some (.pointer (some ⟨b, 0, none⟩)) := c0
  have t0d : w.drew.cell? ⟨B, 0, none⟩ = some (.pointer (some ⟨b, 0, none⟩)) := c0
  have hLd : LayS w.drew := hL.below (Below.refl _ _).drew
  have hd : RvAt w.drew b r := h
  go_region_held3 (fun w' => w'.cell? ⟨B, 0, none⟩ = some (.pointer (some ⟨b, 0, none⟩))) (first | (with_reducible exact t0) | (with_reducible exact t0d) | (with_reducible exact t1)) (first | (go_at_call 48; (with_reducible refine (CP _ hLd hd).mono ?_); rintro ev w2 ⟨rfl, hR, hG⟩; have t1 : w2.cell? ⟨B, 0, none⟩ = some (.pointer (some ⟨b, 0, none⟩)) := blk_cell' (grown_blk hG hbox (fun e => hne (Option.some.inj e))) 0))
  go_wp2
  rw [← HQ.out]
  exact ⟨rfl, hR, grown_after (Below.refl _ _).drew hG⟩
set_option maxRecDepth 100000 in
set_option maxHeartbeats 400000 in
theorem time_step2 (r : Rv) (b B : Nat) (hs : r.s.size ≤ 140737488355328) (ha : r.a ≤ r.s.size) (w : World) (hL : LayS w) (h : RvAt w b r) (hbox : w.heap[B]? = some (.cells #[.pointer (some ⟨b, 0, none⟩)] 80 (0, 0))) (hne : B ≠ b) :
    Calls Tryz.prog 49 #[.pointer (some ⟨B, 0, none⟩)] w (StepPost w b (sigT [45] r)) := by
  generalize hp : (sigT [45] r) = p
  have CP : ∀ W, LayS W → RvAt W b r → Calls Tryz.prog 50 #[.pointer (some ⟨b, 0, none⟩), .string ⟨#[45]⟩] W (StepPost W b p) := fun W hL h => hp ▸ sigT_step ⟨#[45]⟩ r b hs W h
  have c0 : w.cell? ⟨B, 0, none⟩ = some (.pointer (some ⟨b, 0, none⟩)) := blk_cell' hbox 0
  clear hp
  generalize hP : StepPost w b p = Q
  have HQ := Lib.hid hP
  clear hP
  go_enter Tryz.func49, Tryz.ntmps49
  go_wp2_with fail
  refine (CP _ hL h).mono ?_
  rintro e w2 ⟨rfl, hR, hG⟩
  go_wp2
  rw [← HQ.out]
  exact ⟨rfl, hR, hG⟩
set_option maxRecDepth 100000 in
set_option maxHeartbeats 400000 in
theorem time_step3 (r : Rv) (b B : Nat) (hs : r.s.size ≤ 140737488355328) (ha : r.a ≤ r.s.size) (w : World) (hL : LayS w) (h : RvAt w b r) (hbox : w.heap[B]? = some (.cells #[.pointer (some ⟨b, 0, none⟩)] 80 (0, 0))) (hne : B ≠ b) :
    Calls Tryz.prog 51 #[.pointer (some ⟨B, 0, none⟩)] w (StepPost w b (numT 2 1 12 (fun r v => { r with mo := v }) r)) := by
  generalize hp : (numT 2 1 12 (fun r v => { r with mo := v }) r) = p
  have CP : ∀ W, LayS W → RvAt W b r → Calls Tryz.prog 48 #[.pointer (some ⟨b, 0, none⟩), .int .i64 2, .int .i64 1, .int .i64 12, .pointer (some ⟨b, 3, none⟩)] W (StepPost W b p) := fun W hL h => hp ▸ numT_step_mo 2 1 12 (by omega) (by omega) r b hs ha W hL h
  have c0 : w.cell? ⟨B, 0, none⟩ = some (.pointer (some ⟨b, 0, none⟩)) := blk_cell' hbox 0
  clear hp
  generalize hP : StepPost w b p = Q
  have HQ := Lib.hid hP
  clear hP
  go_enter Tryz.func51, Tryz.ntmps51
  go_wp2_with fail
  have t0 : w.cell? ⟨B, 0, none⟩ = some (.pointer (some ⟨b, 0, none⟩)) := c0
  have t0d : w.drew.cell? ⟨B, 0, none⟩ = some (.pointer (some ⟨b, 0, none⟩)) := c0
  have hLd : LayS w.drew := hL.below (Below.refl _ _).drew
  have hd : RvAt w.drew b r := h
  go_region_held3 (fun w' => w'.cell? ⟨B, 0, none⟩ = some (.pointer (some ⟨b, 0, none⟩))) (first | (with_reducible exact t0) | (with_reducible exact t0d) | (with_reducible exact t1)) (first | (go_at_call 48; (with_reducible refine (CP _ hLd hd).mono ?_); rintro ev w2 ⟨rfl, hR, hG⟩; have t1 : w2.cell? ⟨B, 0, none⟩ = some (.pointer (some ⟨b, 0, none⟩)) := blk_cell' (grown_blk hG hbox (fun e => hne (Option.some.inj e))) 0))
  go_wp2
  rw [← HQ.out]
  exact ⟨rfl, hR, grown_after (Below.refl _ _).drew hG⟩
set_option maxRecDepth 100000 in
set_option maxHeartbeats 400000 in
theorem time_step4 (r : Rv) (b B : Nat) (hs : r.s.size ≤ 140737488355328) (ha : r.a ≤ r.s.size) (w : World) (hL : LayS w) (h : RvAt w b r) (hbox : w.heap[B]? = some (.cells #[.pointer (some ⟨b, 0, none⟩)] 80 (0, 0))) (hne : B ≠ b) :
    Calls Tryz.prog 52 #[.pointer (some ⟨B, 0, none⟩)] w (StepPost w b (sigT [45] r)) := by
  generalize hp : (sigT [45] r) = p
  have CP : ∀ W, LayS W → RvAt W b r → Calls Tryz.prog 50 #[.pointer (some ⟨b, 0, none⟩), .string ⟨#[45]⟩] W (StepPost W b p) := fun W hL h => hp ▸ sigT_step ⟨#[45]⟩ r b hs W h
  have c0 : w.cell? ⟨B, 0, none⟩ = some (.pointer (some ⟨b, 0, none⟩)) := blk_cell' hbox 0
  clear hp
  generalize hP : StepPost w b p = Q
  have HQ := Lib.hid hP
  clear hP
  go_enter Tryz.func52, Tryz.ntmps52
  go_wp2_with fail
  refine (CP _ hL h).mono ?_
  rintro e w2 ⟨rfl, hR, hG⟩
  go_wp2
  rw [← HQ.out]
  exact ⟨rfl, hR, hG⟩
set_option maxRecDepth 100000 in
set_option maxHeartbeats 400000 in
theorem time_step6 (r : Rv) (b B : Nat) (hs : r.s.size ≤ 140737488355328) (ha : r.a ≤ r.s.size) (w : World) (hL : LayS w) (h : RvAt w b r) (hbox : w.heap[B]? = some (.cells #[.pointer (some ⟨b, 0, none⟩)] 80 (0, 0))) (hne : B ≠ b) :
    Calls Tryz.prog 55 #[.pointer (some ⟨B, 0, none⟩)] w (StepPost w b (sigT [84] r)) := by
  generalize hp : (sigT [84] r) = p
  have CP : ∀ W, LayS W → RvAt W b r → Calls Tryz.prog 50 #[.pointer (some ⟨b, 0, none⟩), .string ⟨#[84]⟩] W (StepPost W b p) := fun W hL h => hp ▸ sigT_step ⟨#[84]⟩ r b hs W h
  have c0 : w.cell? ⟨B, 0, none⟩ = some (.pointer (some ⟨b, 0, none⟩)) := blk_cell' hbox 0
  clear hp
  generalize hP : StepPost w b p = Q
  have HQ := Lib.hid hP
  clear hP
  go_enter Tryz.func55, Tryz.ntmps55
  go_wp2_with fail
  refine (CP _ hL h).mono ?_
  rintro e w2 ⟨rfl, hR, hG⟩
  go_wp2
  rw [← HQ.out]
  exact ⟨rfl, hR, hG⟩
set_option maxRecDepth 100000 in
set_option maxHeartbeats 400000 in
theorem time_step7 (r : Rv) (b B : Nat) (hs : r.s.size ≤ 140737488355328) (ha : r.a ≤ r.s.size) (w : World) (hL : LayS w) (h : RvAt w b r) (hbox : w.heap[B]? = some (.cells #[.pointer (some ⟨b, 0, none⟩)] 80 (0, 0))) (hne : B ≠ b) :
    Calls Tryz.prog 56 #[.pointer (some ⟨B, 0, none⟩)] w (StepPost w b (numT 2 0 23 (fun r v => { r with h := v }) r)) := by
  generalize hp : (numT 2 0 23 (fun r v => { r with h := v }) r) = p
  have CP : ∀ W, LayS W → RvAt W b r → Calls Tryz.prog 48 #[.pointer (some ⟨b, 0, none⟩), .int .i64 2, .int .i64 0, .int .i64 23, .pointer (some ⟨b, 5, none⟩)] W (StepPost W b p) := fun W hL h => hp ▸ numT_step_h 2 0 23 (by omega) (by omega) r b hs ha W hL h
  have c0 : w.cell? ⟨B, 0, none⟩ = some (.pointer (some ⟨b, 0, none⟩)) := blk_cell' hbox 0
  clear hp
  generalize hP : StepPost w b p = Q
  have HQ := Lib.hid hP
  clear hP
  go_enter Tryz.func56, Tryz.ntmps56
  go_wp2_with fail
  have t0 : w.cell? ⟨B, 0, none⟩ = some (.pointer (some ⟨b, 0, none⟩)) := c0
  have t0d : w.drew.cell? ⟨B, 0, none⟩ = some (.pointer (some ⟨b, 0, none⟩)) := c0
  have hLd : LayS w.drew := hL.below (Below.refl _ _).drew
  have hd : RvAt w.drew b r := h
  go_region_held3 (fun w' => w'.cell? ⟨B, 0, none⟩ = some (.pointer (some ⟨b, 0, none⟩))) (first | (with_reducible exact t0) | (with_reducible exact t0d) | (with_reducible exact t1)) (first | (go_at_call 48; (with_reducible refine (CP _ hLd hd).mono ?_); rintro ev w2 ⟨rfl, hR, hG⟩; have t1 : w2.cell? ⟨B, 0, none⟩ = some (.pointer (some ⟨b, 0, none⟩)) := blk_cell' (grown_blk hG hbox (fun e => hne (Option.some.inj e))) 0))
  go_wp2
  rw [← HQ.out]
  exact ⟨rfl, hR, grown_after (Below.refl _ _).drew hG⟩
set_option maxRecDepth 100000 in
set_option maxHeartbeats 400000 in
theorem time_step8 (r : Rv) (b B : Nat) (hs : r.s.size ≤ 140737488355328) (ha : r.a ≤ r.s.size) (w : World) (hL : LayS w) (h : RvAt w b r) (hbox : w.heap[B]? = some (.cells #[.pointer (some ⟨b, 0, none⟩)] 80 (0, 0))) (hne : B ≠ b) :
    Calls Tryz.prog 57 #[.pointer (some ⟨B, 0, none⟩)] w (StepPost w b (sigT [58] r)) := by
  generalize hp : (sigT [58] r) = p
  have CP : ∀ W, LayS W → RvAt W b r → Calls Tryz.prog 50 #[.pointer (some ⟨b, 0, none⟩), .string ⟨#[58]⟩] W (StepPost W b p) := fun W hL h => hp ▸ sigT_step ⟨#[58]⟩ r b hs W h
  have c0 : w.cell? ⟨B, 0, none⟩ = some (.pointer (some ⟨b, 0, none⟩)) := blk_cell' hbox 0
  clear hp
  generalize hP : StepPost w b p = Q
  have HQ := Lib.hid hP
  clear hP
  go_enter Tryz.func57, Tryz.ntmps57
  go_wp2_with fail
  refine (CP _ hL h).mono ?_
  rintro e w2 ⟨rfl, hR, hG⟩
  go_wp2
  rw [← HQ.out]
  exact ⟨rfl, hR, hG⟩
set_option maxRecDepth 100000 in
set_option maxHeartbeats 400000 in
theorem time_step9 (r : Rv) (b B : Nat) (hs : r.s.size ≤ 140737488355328) (ha : r.a ≤ r.s.size) (w : World) (hL : LayS w) (h : RvAt w b r) (hbox : w.heap[B]? = some (.cells #[.pointer (some ⟨b, 0, none⟩)] 80 (0, 0))) (hne : B ≠ b) :
    Calls Tryz.prog 58 #[.pointer (some ⟨B, 0, none⟩)] w (StepPost w b (numT 2 0 59 (fun r v => { r with mi := v }) r)) := by
  generalize hp : (numT 2 0 59 (fun r v => { r with mi := v }) r) = p
  have CP : ∀ W, LayS W → RvAt W b r → Calls Tryz.prog 48 #[.pointer (some ⟨b, 0, none⟩), .int .i64 2, .int .i64 0, .int .i64 59, .pointer (some ⟨b, 6, none⟩)] W (StepPost W b p) := fun W hL h => hp ▸ numT_step_mi 2 0 59 (by omega) (by omega) r b hs ha W hL h
  have c0 : w.cell? ⟨B, 0, none⟩ = some (.pointer (some ⟨b, 0, none⟩)) := blk_cell' hbox 0
  clear hp
  generalize hP : StepPost w b p = Q
  have HQ := Lib.hid hP
  clear hP
  go_enter Tryz.func58, Tryz.ntmps58
  go_wp2_with fail
  have t0 : w.cell? ⟨B, 0, none⟩ = some (.pointer (some ⟨b, 0, none⟩)) := c0
  have t0d : w.drew.cell? ⟨B, 0, none⟩ = some (.pointer (some ⟨b, 0, none⟩)) := c0
  have hLd : LayS w.drew := hL.below (Below.refl _ _).drew
  have hd : RvAt w.drew b r := h
  go_region_held3 (fun w' => w'.cell? ⟨B, 0, none⟩ = some (.pointer (some ⟨b, 0, none⟩))) (first | (with_reducible exact t0) | (with_reducible exact t0d) | (with_reducible exact t1)) (first | (go_at_call 48; (with_reducible refine (CP _ hLd hd).mono ?_); rintro ev w2 ⟨rfl, hR, hG⟩; have t1 : w2.cell? ⟨B, 0, none⟩ = some (.pointer (some ⟨b, 0, none⟩)) := blk_cell' (grown_blk hG hbox (fun e => hne (Option.some.inj e))) 0))
  go_wp2
  rw [← HQ.out]
  exact ⟨rfl, hR, grown_after (Below.refl _ _).drew hG⟩
set_option maxRecDepth 100000 in
set_option maxHeartbeats 400000 in
theorem time_step10 (r : Rv) (b B : Nat) (hs : r.s.size ≤ 140737488355328) (ha : r.a ≤ r.s.size) (w : World) (hL : LayS w) (h : RvAt w b r) (hbox : w.heap[B]? = some (.cells #[.pointer (some ⟨b, 0, none⟩)] 80 (0, 0))) (hne : B ≠ b) :
    Calls Tryz.prog 59 #[.pointer (some ⟨B, 0, none⟩)] w (StepPost w b (sigT [58] r)) := by
  generalize hp : (sigT [58] r) = p
  have CP : ∀ W, LayS W → RvAt W b r → Calls Tryz.prog 50 #[.pointer (some ⟨b, 0, none⟩), .string ⟨#[58]⟩] W (StepPost W b p) := fun W hL h => hp ▸ sigT_step ⟨#[58]⟩ r b hs W h
  have c0 : w.cell? ⟨B, 0, none⟩ = some (.pointer (some ⟨b, 0, none⟩)) := blk_cell' hbox 0
  clear hp
  generalize hP : StepPost w b p = Q
  have HQ := Lib.hid hP
  clear hP
  go_enter Tryz.func59, Tryz.ntmps59
  go_wp2_with fail
  refine (CP _ hL h).mono ?_
  rintro e w2 ⟨rfl, hR, hG⟩
  go_wp2
  rw [← HQ.out]
  exact ⟨rfl, hR, hG⟩
set_option maxRecDepth 100000 in
set_option maxHeartbeats 400000 in
theorem time_step11 (r : Rv) (b B : Nat) (hs : r.s.size ≤ 140737488355328) (ha : r.a ≤ r.s.size) (w : World) (hL : LayS w) (h : RvAt w b r) (hbox : w.heap[B]? = some (.cells #[.pointer (some ⟨b, 0, none⟩)] 80 (0, 0))) (hne : B ≠ b) :
    Calls Tryz.prog 60 #[.pointer (some ⟨B, 0, none⟩)] w (StepPost w b (numT 2 0 59 (fun r v => { r with sec := v }) r)) := by
  generalize hp : (numT 2 0 59 (fun r v => { r with sec := v }) r) = p
  have CP : ∀ W, LayS W → RvAt W b r → Calls Tryz.prog 48 #[.pointer (some ⟨b, 0, none⟩), .int .i64 2, .int .i64 0, .int .i64 59, .pointer (some ⟨b, 7, none⟩)] W (StepPost W b p) := fun W hL h => hp ▸ numT_step_sec 2 0 59 (by omega) (by omega) r b hs ha W hL h
  have c0 : w.cell? ⟨B, 0, none⟩ = some (.pointer (some ⟨b, 0, none⟩)) := blk_cell' hbox 0
  clear hp
  generalize hP : StepPost w b p = Q
  have HQ := Lib.hid hP
  clear hP
  go_enter Tryz.func60, Tryz.ntmps60
  go_wp2_with fail
  have t0 : w.cell? ⟨B, 0, none⟩ = some (.pointer (some ⟨b, 0, none⟩)) := c0
  have t0d : w.drew.cell? ⟨B, 0, none⟩ = some (.pointer (some ⟨b, 0, none⟩)) := c0
  have hLd : LayS w.drew := hL.below (Below.refl _ _).drew
  have hd : RvAt w.drew b r := h
  go_region_held3 (fun w' => w'.cell? ⟨B, 0, none⟩ = some (.pointer (some ⟨b, 0, none⟩))) (first | (with_reducible exact t0) | (with_reducible exact t0d) | (with_reducible exact t1)) (first | (go_at_call 48; (with_reducible refine (CP _ hLd hd).mono ?_); rintro ev w2 ⟨rfl, hR, hG⟩; have t1 : w2.cell? ⟨B, 0, none⟩ = some (.pointer (some ⟨b, 0, none⟩)) := blk_cell' (grown_blk hG hbox (fun e => hne (Option.some.inj e))) 0))
  go_wp2
  rw [← HQ.out]
  exact ⟨rfl, hR, grown_after (Below.refl _ _).drew hG⟩
set_option maxRecDepth 100000 in
set_option maxHeartbeats 1000000 in
theorem time_step5 (r : Rv) (b B : Nat) (hs : r.s.size ≤ 140737488355328) (ha : r.a ≤ r.s.size) (y0 : 0 ≤ r.y) (y1 : r.y ≤ 9999) (m0 : 1 ≤ r.mo) (m1 : r.mo ≤ 12) (w : World) (hL : LayS w) (h : RvAt w b r) (hbox : w.heap[B]? = some (.cells #[.pointer (some ⟨b, 0, none⟩)] 80 (0, 0))) (hne : B ≠ b) :
    Calls Tryz.prog 53 #[.pointer (some ⟨B, 0, none⟩)] w (StepPost w b (numT 2 1 (daysM r.y r.mo) (fun r v => { r with d := v }) r)) := by
  generalize hp : numT 2 1 (daysM r.y r.mo) (fun r v => { r with d := v }) r = p
  have CP : ∀ W, LayS W → RvAt W b r → Calls Tryz.prog 48 #[.pointer (some ⟨b, 0, none⟩), .int .i64 2, .int .i64 1, .int .i64 (daysM r.y r.mo), .pointer (some ⟨b, 4, none⟩)] W (StepPost W b p) := fun W hL h => hp ▸ numT_step_d 2 1 (daysM r.y r.mo) (by omega) (by omega) r b hs ha W hL h
  have CM := fun W => span_days r.y r.mo y0 (by omega) m0 m1 W
  have wy : IntKind.i64.wrap r.y = r.y := by rw [IntKind.wrap_i64]; omega
  have wm : IntKind.i64.wrap r.mo = r.mo := by rw [IntKind.wrap_i64]; omega
  have hdm := daysM_bd r.y r.mo
  have wd : IntKind.i64.wrap (daysM r.y r.mo) = daysM r.y r.mo := by rw [IntKind.wrap_i64]; omega
  generalize daysM r.y r.mo = DM at *
  have HY : Hid (p.2.y = r.y ∧ p.2.mo = r.mo) := Lib.hid (by rw [← hp]; unfold numT; split; exact ⟨rfl, rfl⟩; exact ⟨rfl, rfl⟩)
  have c0 : w.cell? ⟨B, 0, none⟩ = some (.pointer (some ⟨b, 0, none⟩)) := blk_cell' hbox 0
  have c2 := h.c.2.2.1
  have c3 := h.c.2.2.2.1
  clear hp
  generalize hP : StepPost w b p = Q
  have HQ := Lib.hid hP
  clear hP
  go_enter Tryz.func53, Tryz.ntmps53
  go_wp2_with fail
  have t0 : w.cell? ⟨B, 0, none⟩ = some (.pointer (some ⟨b, 0, none⟩)) ∧ w.cell? ⟨b, 2, none⟩ = some (.int .i64 r.y) ∧ w.cell? ⟨b, 3, none⟩ = some (.int .i64 r.mo) := ⟨c0, c2, c3⟩
  have t0d : w.drew.cell? ⟨B, 0, none⟩ = some (.pointer (some ⟨b, 0, none⟩)) ∧ w.drew.cell? ⟨b, 2, none⟩ = some (.int .i64 r.y) ∧ w.drew.cell? ⟨b, 3, none⟩ = some (.int .i64 r.mo) := t0
  have hLd : LayS w.drew := hL.below (Below.refl _ _).drew
  have hd : RvAt w.drew b r := h
  go_region_held3 (fun w' => w'.cell? ⟨B, 0, none⟩ = some (.pointer (some ⟨b, 0, none⟩)) ∧ w'.cell? ⟨b, 2, none⟩ = some (.int .i64 r.y) ∧ w'.cell? ⟨b, 3, none⟩ = some (.int .i64 r.mo)) (first | (with_reducible exact t0) | (with_reducible exact t0d) | (with_reducible exact t1)) (first | (go_at_call 54; (with_reducible refine (CM _).mono ?_); rintro ev w2 ⟨rfl, rfl⟩) | (go_at_call 48; (with_reducible refine (CP _ hLd hd).mono ?_); rintro ev w3 ⟨rfl, hR, hG⟩; have t1 : w3.cell? ⟨B, 0, none⟩ = some (.pointer (some ⟨b, 0, none⟩)) ∧ w3.cell? ⟨b, 2, none⟩ = some (.int .i64 r.y) ∧ w3.cell? ⟨b, 3, none⟩ = some (.int .i64 r.mo) := ⟨blk_cell' (grown_blk hG hbox (fun e => hne (Option.some.inj e))) 0, by have := hR.c.2.2.1; rw [HY.out.1] at this; exact this, by have := hR.c.2.2.2.1; rw [HY.out.2] at this; exact this⟩))
  go_wp2
  rw [← HQ.out]
  exact ⟨rfl, hR, grown_after (Below.refl _ _).drew hG⟩
end Go.Proofs.YthplpjcadjnfiaaGreatDoor
