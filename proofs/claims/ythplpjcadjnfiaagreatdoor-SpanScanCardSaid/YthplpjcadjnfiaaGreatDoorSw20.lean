/- Reading a time: how far the clock is ahead (place). -/
import Derived.Test.YthplpjcadjnfiaaGreatDoorSw19
import Derived.LoopN
import Derived.FnLit
namespace Go.Proofs.YthplpjcadjnfiaaGreatDoor
open Go.RowKit
set_option linter.unusedSimpArgs false
set_option linter.unusedVariables false

theorem grown_trans {a c d : World} {b : Nat} (h : a.grownBy c (some b)) (k : c.grownBy d (some b)) : a.grownBy d (some b) :=
  ⟨k.os.trans h.os, k.tape.trans h.tape, k.output.trans h.output, Nat.le_trans h.size k.size, fun i hi hne => (k.block i (Nat.lt_of_lt_of_le hi h.size) hne).trans (h.block i hi hne)⟩
/-- The blocks of a walk through place: the reader's, the box of its address, the hours, the minutes, the steps. -/
structure Pl (w0 w : World) (b hb sb : Nat) (r : Rv) (H M : Int) : Prop where
  G : w0.grownBy w (some b)
  R : RvAt w b r
  lo : b < w0.heap.size
  hi : w0.heap.size < hb
  hs : hb + 1 < sb
  box : w.heap[w0.heap.size]? = some (.cells #[.pointer (some ⟨b, 0, none⟩)] 80 (0, 0))
  hh : w.heap[hb]? = some (.cells #[.int .i64 H] 2 (0, 0))
  hm : w.heap[hb + 1]? = some (.cells #[.int .i64 M] 2 (0, 0))
  st : w.heap[sb]? = some (.cells #[.func (.func 97) #[] #[.pointer (some ⟨w0.heap.size, 0, none⟩)], .func (.func 98) #[] #[.pointer (some ⟨w0.heap.size, 0, none⟩), .pointer (some ⟨hb, 0, none⟩)], .func (.func 99) #[] #[.pointer (some ⟨w0.heap.size, 0, none⟩)], .func (.func 100) #[] #[.pointer (some ⟨w0.heap.size, 0, none⟩), .pointer (some ⟨hb + 1, 0, none⟩)]] 22 (0, 0))
theorem Pl.row {w0 w w' : World} {b hb sb : Nat} {r r' : Rv} {H M : Int} (t : Pl w0 w b hb sb r H M) (hG : w.grownBy w' (some b)) (hR : RvAt w' b r') : Pl w0 w' b hb sb r' H M := by
  have h1 := t.lo
  have h2 := t.hi
  have h3 := t.hs
  refine ⟨grown_trans t.G hG, hR, t.lo, t.hi, t.hs, grown_blk hG t.box ?_, grown_blk hG t.hh ?_, grown_blk hG t.hm ?_, grown_blk hG t.st ?_⟩ <;> (intro e; have := Option.some.inj e; omega)
theorem Pl.below {w0 w w' : World} {b hb sb : Nat} {r : Rv} {H M : Int} (t : Pl w0 w b hb sb r H M) (hB : Below w.heap.size w w') : Pl w0 w' b hb sb r H M := t.row (grown_of_below hB (Nat.le_refl _) _) (t.R.next hB)
theorem rv_one {w : World} {b : Nat} {r : Rv} (h : RvAt w b r) (a : Nat) : RvAt (w.setCell ⟨b, 1, none⟩ (.int .i64 (a : Int))) b { r with a := a } := by
  have := blk_set' h 1 (.int .i64 (a : Int))
  simpa [RvAt] using this
theorem one_blk {w : World} {b : Nat} {x : Value} {T : TypeId} {fr : Nat × Nat} (h : w.heap[b]? = some (.cells #[x] T fr)) (v : Value) : (w.setCell ⟨b, 0, none⟩ v).heap[b]? = some (.cells #[v] T fr) := by
  have := blk_set' h 0 v
  simpa using this
theorem Pl.seth {w0 w w1 : World} {b hb sb : Nat} {r : Rv} {H M : Int} (t : Pl w0 w b hb sb r H M) (hB : Below w.heap.size w w1) (v : Int) (a : Nat) : Pl w0 ((w1.setCell ⟨hb, 0, none⟩ (.int .i64 v)).setCell ⟨b, 1, none⟩ (.int .i64 (a : Int))) b hb sb { r with a := a } v M := by
  have t1 := t.below hB
  have h1 := t.lo
  have h2 := t.hi
  have h3 := t.hs
  have g1 : w0.grownBy (w1.setCell ⟨hb, 0, none⟩ (.int .i64 v)) (some b) := ⟨t1.G.os, t1.G.tape, t1.G.output, by simpa using t1.G.size, fun k hk hne => (Below.heap_setCell _ _ _ _ (by show k ≠ hb; omega)).trans (t1.G.block k hk hne)⟩
  exact ⟨grown_set g1 1 _, rv_one (blk_far' t1.R (by omega) _ _) a, t.lo, t.hi, t.hs, blk_far' (blk_far' t1.box (by omega) _ _) (by omega) _ _, blk_far' (one_blk t1.hh _) (by omega) _ _, blk_far' (blk_far' t1.hm (by omega) _ _) (by omega) _ _, blk_far' (blk_far' t1.st (by omega) _ _) (by omega) _ _⟩
theorem Pl.setm {w0 w w1 : World} {b hb sb : Nat} {r : Rv} {H M : Int} (t : Pl w0 w b hb sb r H M) (hB : Below w.heap.size w w1) (v : Int) (a : Nat) : Pl w0 ((w1.setCell ⟨hb + 1, 0, none⟩ (.int .i64 v)).setCell ⟨b, 1, none⟩ (.int .i64 (a : Int))) b hb sb { r with a := a } H v := by
  have t1 := t.below hB
  have h1 := t.lo
  have h2 := t.hi
  have h3 := t.hs
  have g1 : w0.grownBy (w1.setCell ⟨hb + 1, 0, none⟩ (.int .i64 v)) (some b) := ⟨t1.G.os, t1.G.tape, t1.G.output, by simpa using t1.G.size, fun k hk hne => (Below.heap_setCell _ _ _ _ (by show k ≠ hb + 1; omega)).trans (t1.G.block k hk hne)⟩
  exact ⟨grown_set g1 1 _, rv_one (blk_far' t1.R (by omega) _ _) a, t.lo, t.hi, t.hs, blk_far' (blk_far' t1.box (by omega) _ _) (by omega) _ _, blk_far' (blk_far' t1.hh (by omega) _ _) (by omega) _ _, blk_far' (one_blk t1.hm _) (by omega) _ _, blk_far' (blk_far' t1.st (by omega) _ _) (by omega) _ _⟩
theorem Pl.cells {w0 w : World} {b hb sb : Nat} {r : Rv} {H M : Int} (t : Pl w0 w b hb sb r H M) : w.cell? ⟨w0.heap.size, 0, none⟩ = some (.pointer (some ⟨b, 0, none⟩)) ∧ w.cell? ⟨hb, 0, none⟩ = some (.int .i64 H) ∧ w.cell? ⟨hb + 1, 0, none⟩ = some (.int .i64 M) ∧
    w.cell? ⟨sb, 0, none⟩ = some (.func (.func 97) #[] #[.pointer (some ⟨w0.heap.size, 0, none⟩)]) ∧ w.cell? ⟨sb, 1, none⟩ = some (.func (.func 98) #[] #[.pointer (some ⟨w0.heap.size, 0, none⟩), .pointer (some ⟨hb, 0, none⟩)]) ∧
    w.cell? ⟨sb, 2, none⟩ = some (.func (.func 99) #[] #[.pointer (some ⟨w0.heap.size, 0, none⟩)]) ∧ w.cell? ⟨sb, 3, none⟩ = some (.func (.func 100) #[] #[.pointer (some ⟨w0.heap.size, 0, none⟩), .pointer (some ⟨hb + 1, 0, none⟩)]) ∧
    w.cell? ⟨b, 9, none⟩ = some (.int .i64 r.z) ∧ w.frozen? ⟨b, 9, none⟩ = false ∧ b < w.heap.size :=
  ⟨blk_cell' t.box 0, blk_cell' t.hh 0, blk_cell' t.hm 0, blk_cell' t.st 0, blk_cell' t.st 1, blk_cell' t.st 2, blk_cell' t.st 3, t.R.c.2.2.2.2.2.2.2.2.2, t.R.f 9, t.R.lt⟩
set_option maxRecDepth 100000 in
set_option maxHeartbeats 400000 in
theorem place_step1 (r : Rv) (b B : Nat) (hs : r.s.size ≤ 140737488355328) (w : World) (h : RvAt w b r) (c0 : w.cell? ⟨B, 0, none⟩ = some (.pointer (some ⟨b, 0, none⟩))) :
    Calls Tryz.prog 97 #[.pointer (some ⟨B, 0, none⟩)] w (StepPost w b (sigT [43, 45] r)) := by
  generalize hp : sigT [43, 45] r = p
  have CP : ∀ W, RvAt W b r → Calls Tryz.prog 50 #[.pointer (some ⟨b, 0, none⟩), .string ⟨#[43, 45]⟩] W (StepPost W b p) := fun W h => hp ▸ sigT_step ⟨#[43, 45]⟩ r b hs W h
  clear hp
  generalize hP : StepPost w b p = Q
  have HQ := Lib.hid hP
  clear hP
  go_enter Tryz.func97, Tryz.ntmps97
  go_wp2_with fail
  refine (CP _ h).mono ?_
  rintro e w2 ⟨rfl, hR, hG⟩
  go_wp2
  rw [← HQ.out]
  exact ⟨rfl, hR, hG⟩
set_option maxRecDepth 100000 in
set_option maxHeartbeats 400000 in
theorem place_step3 (r : Rv) (b B : Nat) (hs : r.s.size ≤ 140737488355328) (w : World) (h : RvAt w b r) (c0 : w.cell? ⟨B, 0, none⟩ = some (.pointer (some ⟨b, 0, none⟩))) :
    Calls Tryz.prog 99 #[.pointer (some ⟨B, 0, none⟩)] w (StepPost w b (sigT [58] r)) := by
  generalize hp : sigT [58] r = p
  have CP : ∀ W, RvAt W b r → Calls Tryz.prog 50 #[.pointer (some ⟨b, 0, none⟩), .string ⟨#[58]⟩] W (StepPost W b p) := fun W h => hp ▸ sigT_step ⟨#[58]⟩ r b hs W h
  clear hp
  generalize hP : StepPost w b p = Q
  have HQ := Lib.hid hP
  clear hP
  go_enter Tryz.func99, Tryz.ntmps99
  go_wp2_with fail
  refine (CP _ h).mono ?_
  rintro e w2 ⟨rfl, hR, hG⟩
  go_wp2
  rw [← HQ.out]
  exact ⟨rfl, hR, hG⟩
set_option maxRecDepth 100000 in
set_option maxHeartbeats 400000 in
theorem place_no2 (r : Rv) (b B V : Nat) (hs : r.s.size ≤ 140737488355328) (ha : r.a ≤ r.s.size) (hv : numS r.s.data.toList r.a 2 0 23 = none) (w : World) (hL : LayS w) (h : RvAt w b r) (c0 : w.cell? ⟨B, 0, none⟩ = some (.pointer (some ⟨b, 0, none⟩))) :
    Calls Tryz.prog 98 #[.pointer (some ⟨B, 0, none⟩), .pointer (some ⟨V, 0, none⟩)] w fun e w' => e = .returned (.bool false) ∧ Below w.heap.size w w' := by
  have CP : Calls Tryz.prog 48 #[.pointer (some ⟨b, 0, none⟩), .int .i64 2, .int .i64 0, .int .i64 23, .pointer (some ⟨V, 0, none⟩)] w fun e w' => e = .returned (.bool false) ∧ Below w.heap.size w w' := pair_no r.s r.a 2 b V 0 0 23 hs ha (by omega) (by omega) hv w hL h.c.1 h.c.2.1
  go_enter Tryz.func98, Tryz.ntmps98
  go_wp2_with fail
  refine CP.mono ?_
  rintro e w2 ⟨rfl, hB⟩
  go_wp2
  go_ret
  exact ⟨rfl, hB⟩
set_option maxRecDepth 100000 in
set_option maxHeartbeats 400000 in
theorem place_yes2 (r : Rv) (b B V : Nat) (v H : Int) (hs : r.s.size ≤ 140737488355328) (ha : r.a ≤ r.s.size) (hv : numS r.s.data.toList r.a 2 0 23 = some v) (w : World) (hL : LayS w) (h : RvAt w b r) (c0 : w.cell? ⟨B, 0, none⟩ = some (.pointer (some ⟨b, 0, none⟩)))
    (hV : w.heap[V]? = some (.cells #[.int .i64 H] 2 (0, 0))) (hne : V ≠ b) :
    Calls Tryz.prog 98 #[.pointer (some ⟨B, 0, none⟩), .pointer (some ⟨V, 0, none⟩)] w fun e w' => e = .returned (.bool true) ∧ ∃ w1, Below w.heap.size w w1 ∧ w' = (w1.setCell ⟨V, 0, none⟩ (.int .i64 v)).setCell ⟨b, 1, none⟩ (.int .i64 ((r.a : Int) + 2)) := by
  have CP : Calls Tryz.prog 48 #[.pointer (some ⟨b, 0, none⟩), .int .i64 2, .int .i64 0, .int .i64 23, .pointer (some ⟨V, 0, none⟩)] w fun e w' => e = .returned (.bool true) ∧ ∃ w1, Below w.heap.size w w1 ∧ w' = (w1.setCell ⟨V, 0, none⟩ (.int .i64 v)).setCell ⟨b, 1, none⟩ (.int .i64 ((r.a : Int) + 2)) := pair_yes r.s r.a 2 b V 0 0 23 v hs ha (by omega) (by omega) hv w hL h.c.1 h.c.2.1 (h.f 1) _ (blk_cell' hV 0) (blk_free' hV 0) (Or.inl hne)
  go_enter Tryz.func98, Tryz.ntmps98
  go_wp2_with fail
  refine CP.mono ?_
  rintro e w2 ⟨rfl, hX⟩
  go_wp2
  go_ret
  exact ⟨rfl, hX⟩
set_option maxRecDepth 100000 in
set_option maxHeartbeats 400000 in
theorem place_no4 (r : Rv) (b B V : Nat) (hs : r.s.size ≤ 140737488355328) (ha : r.a ≤ r.s.size) (hv : numS r.s.data.toList r.a 2 0 59 = none) (w : World) (hL : LayS w) (h : RvAt w b r) (c0 : w.cell? ⟨B, 0, none⟩ = some (.pointer (some ⟨b, 0, none⟩))) :
    Calls Tryz.prog 100 #[.pointer (some ⟨B, 0, none⟩), .pointer (some ⟨V, 0, none⟩)] w fun e w' => e = .returned (.bool false) ∧ Below w.heap.size w w' := by
  have CP : Calls Tryz.prog 48 #[.pointer (some ⟨b, 0, none⟩), .int .i64 2, .int .i64 0, .int .i64 59, .pointer (some ⟨V, 0, none⟩)] w fun e w' => e = .returned (.bool false) ∧ Below w.heap.size w w' := pair_no r.s r.a 2 b V 0 0 59 hs ha (by omega) (by omega) hv w hL h.c.1 h.c.2.1
  go_enter Tryz.func100, Tryz.ntmps100
  go_wp2_with fail
  refine CP.mono ?_
  rintro e w2 ⟨rfl, hB⟩
  go_wp2
  go_ret
  exact ⟨rfl, hB⟩
set_option maxRecDepth 100000 in
set_option maxHeartbeats 400000 in
theorem place_yes4 (r : Rv) (b B V : Nat) (v H : Int) (hs : r.s.size ≤ 140737488355328) (ha : r.a ≤ r.s.size) (hv : numS r.s.data.toList r.a 2 0 59 = some v) (w : World) (hL : LayS w) (h : RvAt w b r) (c0 : w.cell? ⟨B, 0, none⟩ = some (.pointer (some ⟨b, 0, none⟩)))
    (hV : w.heap[V]? = some (.cells #[.int .i64 H] 2 (0, 0))) (hne : V ≠ b) :
    Calls Tryz.prog 100 #[.pointer (some ⟨B, 0, none⟩), .pointer (some ⟨V, 0, none⟩)] w fun e w' => e = .returned (.bool true) ∧ ∃ w1, Below w.heap.size w w1 ∧ w' = (w1.setCell ⟨V, 0, none⟩ (.int .i64 v)).setCell ⟨b, 1, none⟩ (.int .i64 ((r.a : Int) + 2)) := by
  have CP : Calls Tryz.prog 48 #[.pointer (some ⟨b, 0, none⟩), .int .i64 2, .int .i64 0, .int .i64 59, .pointer (some ⟨V, 0, none⟩)] w fun e w' => e = .returned (.bool true) ∧ ∃ w1, Below w.heap.size w w1 ∧ w' = (w1.setCell ⟨V, 0, none⟩ (.int .i64 v)).setCell ⟨b, 1, none⟩ (.int .i64 ((r.a : Int) + 2)) := pair_yes r.s r.a 2 b V 0 0 59 v hs ha (by omega) (by omega) hv w hL h.c.1 h.c.2.1 (h.f 1) _ (blk_cell' hV 0) (blk_free' hV 0) (Or.inl hne)
  go_enter Tryz.func100, Tryz.ntmps100
  go_wp2_with fail
  refine CP.mono ?_
  rintro e w2 ⟨rfl, hX⟩
  go_wp2
  go_ret
  exact ⟨rfl, hX⟩
/-- What place leaves. -/
def placeT (r : Rv) : Bool × Rv :=
  if sigS r.s.data.toList r.a 90 = true then (true, { r with a := r.a + 1 }) else
  match zoneS r.s.data.toList r.a with
  | .error p => (false, { r with a := p })
  | .ok (z, a) => (true, { r with z := z, a := a })
theorem idx1 (x c : UInt8) : decide (0 ≤ Lib.indexByte [x] c) = (c == x) := by
  unfold Lib.indexByte
  by_cases h : x = c
  · subst h; simp
  · have : ¬ c = x := fun e => h e.symm
    simp [h, this, Lib.indexByte]
theorem sig1 (x : UInt8) (r : Rv) : sigT [x] r = if sigS r.s.data.toList r.a x = true then (true, { r with a := r.a + 1 }) else (false, r) := by
  cases h : r.s.data.toList[r.a]? with
  | none => rw [sigT_none h, if_neg (by unfold sigS; rw [h]; simp)]
  | some c =>
    cases hd : decide (0 ≤ Lib.indexByte [x] c) with
    | true => rw [sigT_yes h hd, if_pos (by rw [idx1] at hd; unfold sigS; rw [h]; simpa using hd)]
    | false => rw [sigT_no h hd, if_neg (by rw [idx1] at hd; unfold sigS; rw [h]; simpa using hd)]
theorem sig2 (x y : UInt8) (r : Rv) : sigT [x, y] r = if sigS r.s.data.toList r.a x = true ∨ sigS r.s.data.toList r.a y = true then (true, { r with a := r.a + 1 }) else (false, r) := by
  cases h : r.s.data.toList[r.a]? with
  | none => rw [sigT_none h, if_neg (by unfold sigS; rw [h]; simp)]
  | some c =>
    have e : decide (0 ≤ Lib.indexByte [x, y] c) = true ↔ (c = x ∨ c = y) := by
      unfold Lib.indexByte
      by_cases h1 : x = c
      · subst h1; simp
      · by_cases h2 : y = c
        · subst h2; simp [h1, Lib.indexByte]
        · have a1 : ¬ c = x := fun e => h1 e.symm
          have a2 : ¬ c = y := fun e => h2 e.symm
          simp [h1, h2, a1, a2, Lib.indexByte]
    cases hd : decide (0 ≤ Lib.indexByte [x, y] c) with
    | true => rw [sigT_yes h hd, if_pos (by unfold sigS; rw [h]; simpa using e.1 hd)]
    | false => rw [sigT_no h hd, if_neg (by unfold sigS; rw [h]; intro hc; have := e.2 (by simpa using hc); rw [hd] at this; cases this)]
theorem rv_z {w : World} {b : Nat} {r : Rv} (h : RvAt w b r) (z : Int) : RvAt (w.setCell ⟨b, 9, none⟩ (.int .i64 z)) b { r with z := z } := by
  have := blk_set' h 9 (.int .i64 z)
  simpa [RvAt] using this
set_option maxRecDepth 100000 in
set_option maxHeartbeats 4000000 in
theorem place_l1e (r : Rv) (b : Nat) (hs : r.s.size ≤ 140737488355328) (ha : ¬ r.a < r.s.size) (h1 : sigT [43, 45] r = (false, r)) (w : World) (hK : ∀ W, w.grownBy W (some b) → LayS W) (h : RvAt w b r) (hz : sigT [90] r = (false, r)) :
    Calls Tryz.prog 62 #[.pointer (some ⟨b, 0, none⟩)] w (StepPost w b (false, r)) := by
  have kA : decide ((r.a : Int) < (r.s.size : Int)) = false := by simp; omega
  have C1 : ∀ W, RvAt W b r → W.cell? ⟨w.heap.size, 0, none⟩ = some (.pointer (some ⟨b, 0, none⟩)) → Calls Tryz.prog 97 #[.pointer (some ⟨w.heap.size, 0, none⟩)] W (StepPost W b (false, r)) := fun W hR hc => h1 ▸ place_step1 r b w.heap.size hs W hR hc
  have hmf : ∀ (fn : Fn) (first cap : Array Value) (w : World), (Instr.makeFunc fn first cap).run Tryz.prog w = .ok (.func fn first cap) w := fun _ _ _ _ => rfl
  have CZ := fun W hR => sigT_step ⟨#[90]⟩ r b hs W hR
  have e90 : (⟨#[90]⟩ : ByteArray).data.toList = [90] := rfl
  rw [e90, hz] at CZ
  generalize hP : StepPost w b (false, r) = Q
  have HQ := Lib.hid hP
  clear hP
  go_enter Tryz.func62, Tryz.ntmps62
  go_wp2_with fail
  refine (CZ _ (h.next ((Below.refl _ _).alloc (Nat.le_refl _) _))).mono ?_
  rintro e w1 ⟨rfl, hR, hG⟩
  have hbox : w1.heap[w.heap.size]? = some (.cells #[.pointer (some ⟨b, 0, none⟩)] 80 (0, 0)) := grown_blk hG (heap_new' _ _ _ rfl) (fun e => by have := h.lt; have := Option.some.inj e; omega)
  go_wp2_with fail
  have bz : Below w1.heap.size w1 ((w1.alloc (.cells #[.int .i64 0] 2 (0, 0))).alloc (.cells #[.int .i64 0] 2 (0, 0))) := by go_grown
  have hh : ((w1.alloc (.cells #[.int .i64 0] 2 (0, 0))).alloc (.cells #[.int .i64 0] 2 (0, 0))).heap[w1.heap.size]? = some (.cells #[.int .i64 0] 2 (0, 0)) := (heap_old' _ _ _ (by first | omega | (simp only [World.size_alloc, World.size_setCell, World.size_drew, size_drewN'] <;> omega)) (heap_new' _ _ _ (by first | omega | (simp only [World.size_alloc, World.size_setCell, World.size_drew, size_drewN'] <;> omega))))
  have hm : ((w1.alloc (.cells #[.int .i64 0] 2 (0, 0))).alloc (.cells #[.int .i64 0] 2 (0, 0))).heap[w1.heap.size + 1]? = some (.cells #[.int .i64 0] 2 (0, 0)) := (heap_new' _ _ _ (by first | omega | (simp only [World.size_alloc, World.size_setCell, World.size_drew, size_drewN'] <;> omega)))
  have hsz : ((w1.alloc (.cells #[.int .i64 0] 2 (0, 0))).alloc (.cells #[.int .i64 0] 2 (0, 0))).heap.size = w1.heap.size + 1 + 1 := by simp
  generalize (w1.alloc (.cells #[.int .i64 0] 2 (0, 0))).alloc (.cells #[.int .i64 0] 2 (0, 0)) = W at *
  have hi1 : w.heap.size < w1.heap.size := by have := hG.size; simp only [World.size_alloc] at this; omega
  have hRW := hR.next bz
  have hbW := below_blk bz hi1 hbox
  have hGW : w.grownBy W (some b) := grown_after ((Below.refl _ _).alloc (Nat.le_refl _) _) (grown_trans hG (grown_of_below bz (Nat.le_refl _) _))
  have c0 := blk_cell' hbW 0
  have k0 := hRW.c.1
  have k1 := hRW.c.2.1
  have HH := Lib.hid hh
  have HM := Lib.hid hm
  have HSZ := Lib.hid hsz
  have HBW := Lib.hid hbW
  clear hh hm hsz hbW hbox hG hR bz
  go_quiet (fail)
  generalize hWd : W.drewN _ = V at *
  have hV : Below W.heap.size W V := by rw [← hWd]; exact below_drewN (Below.refl _ _) _
  have hVs : V.heap.size = W.heap.size := by rw [← hWd]; rfl
  have HVS := Lib.hid hVs
  clear hWd hVs
  go_wp2_with fail
  have bV : Below V.heap.size V (V.alloc (.cells #[.func (.func 97) #[] #[.pointer (some ⟨w.heap.size, 0, none⟩)], .func (.func 98) #[] #[.pointer (some ⟨w.heap.size, 0, none⟩), .pointer (some ⟨w1.heap.size, 0, none⟩)], .func (.func 99) #[] #[.pointer (some ⟨w.heap.size, 0, none⟩)], .func (.func 100) #[] #[.pointer (some ⟨w.heap.size, 0, none⟩), .pointer (some ⟨w1.heap.size + 1, 0, none⟩)]] 22 (0, 0))) := (Below.refl _ _).alloc (Nat.le_refl _) _
  have bWV := hV.trans (bV.mono hV.size)
  have t0 : Pl w (V.alloc (.cells #[.func (.func 97) #[] #[.pointer (some ⟨w.heap.size, 0, none⟩)], .func (.func 98) #[] #[.pointer (some ⟨w.heap.size, 0, none⟩), .pointer (some ⟨w1.heap.size, 0, none⟩)], .func (.func 99) #[] #[.pointer (some ⟨w.heap.size, 0, none⟩)], .func (.func 100) #[] #[.pointer (some ⟨w.heap.size, 0, none⟩), .pointer (some ⟨w1.heap.size + 1, 0, none⟩)]] 22 (0, 0))) b w1.heap.size V.heap.size r 0 0 := ⟨grown_trans hGW (grown_of_below bWV (Nat.le_refl _) _), hRW.next bWV, h.lt, hi1, by rw [HVS.out, HSZ.out]; omega, below_blk bWV (by rw [HSZ.out]; omega) HBW.out, below_blk bWV (by rw [HSZ.out]; omega) HH.out, below_blk bWV (by rw [HSZ.out]; omega) HM.out, heap_new' _ _ _ rfl⟩
  generalize V.alloc (.cells #[.func (.func 97) #[] #[.pointer (some ⟨w.heap.size, 0, none⟩)], .func (.func 98) #[] #[.pointer (some ⟨w.heap.size, 0, none⟩), .pointer (some ⟨w1.heap.size, 0, none⟩)], .func (.func 99) #[] #[.pointer (some ⟨w.heap.size, 0, none⟩)], .func (.func 100) #[] #[.pointer (some ⟨w.heap.size, 0, none⟩), .pointer (some ⟨w1.heap.size + 1, 0, none⟩)]] 22 (0, 0)) = U at *
  have hUV : V.heap.size < U.heap.size := blk_lt' t0.st
  generalize w1.heap.size = hb at *
  generalize V.heap.size = sb at *
  clear c0 k0 k1
  obtain ⟨c0, ch, cm, s0, s1, s2, s3, c9, f9, hbl⟩ := t0.cells
  clear HH HM HSZ HBW HVS hGW hRW hV bV bWV CZ hi1
  refine wp_loop_rounds 1 ?_
  rw [rounds_succ]
  go_wp2_with (first | (go_at_call 97; (with_reducible refine (C1 _ t0.R c0).mono ?_); rintro e w2 ⟨rfl, hR, hG⟩; have t1 := t0.row hG hR; obtain ⟨c0, ch, cm, s0, s1, s2, s3, c9, f9, hbl⟩ := t1.cells))
  rw [← HQ.out]
  exact ⟨rfl, t1.R, t1.G⟩
set_option maxRecDepth 100000 in
set_option maxHeartbeats 4000000 in
theorem place_l1n (r : Rv) (b : Nat) (hs : r.s.size ≤ 140737488355328) (ha : r.a < r.s.size) (kc : ((r.s[r.a].toNat : Int) == 45) = false) (h1 : sigT [43, 45] r = (false, r)) (w : World) (hK : ∀ W, w.grownBy W (some b) → LayS W) (h : RvAt w b r) (hz : sigT [90] r = (false, r)) :
    Calls Tryz.prog 62 #[.pointer (some ⟨b, 0, none⟩)] w (StepPost w b (false, r)) := by
  have kA : decide ((r.a : Int) < (r.s.size : Int)) = true := by simp; omega
  have C1 : ∀ W, RvAt W b r → W.cell? ⟨w.heap.size, 0, none⟩ = some (.pointer (some ⟨b, 0, none⟩)) → Calls Tryz.prog 97 #[.pointer (some ⟨w.heap.size, 0, none⟩)] W (StepPost W b (false, r)) := fun W hR hc => h1 ▸ place_step1 r b w.heap.size hs W hR hc
  have hmf : ∀ (fn : Fn) (first cap : Array Value) (w : World), (Instr.makeFunc fn first cap).run Tryz.prog w = .ok (.func fn first cap) w := fun _ _ _ _ => rfl
  have CZ := fun W hR => sigT_step ⟨#[90]⟩ r b hs W hR
  have e90 : (⟨#[90]⟩ : ByteArray).data.toList = [90] := rfl
  rw [e90, hz] at CZ
  generalize hP : StepPost w b (false, r) = Q
  have HQ := Lib.hid hP
  clear hP
  go_enter Tryz.func62, Tryz.ntmps62
  go_wp2_with fail
  refine (CZ _ (h.next ((Below.refl _ _).alloc (Nat.le_refl _) _))).mono ?_
  rintro e w1 ⟨rfl, hR, hG⟩
  have hbox : w1.heap[w.heap.size]? = some (.cells #[.pointer (some ⟨b, 0, none⟩)] 80 (0, 0)) := grown_blk hG (heap_new' _ _ _ rfl) (fun e => by have := h.lt; have := Option.some.inj e; omega)
  go_wp2_with fail
  have bz : Below w1.heap.size w1 ((w1.alloc (.cells #[.int .i64 0] 2 (0, 0))).alloc (.cells #[.int .i64 0] 2 (0, 0))) := by go_grown
  have hh : ((w1.alloc (.cells #[.int .i64 0] 2 (0, 0))).alloc (.cells #[.int .i64 0] 2 (0, 0))).heap[w1.heap.size]? = some (.cells #[.int .i64 0] 2 (0, 0)) := (heap_old' _ _ _ (by first | omega | (simp only [World.size_alloc, World.size_setCell, World.size_drew, size_drewN'] <;> omega)) (heap_new' _ _ _ (by first | omega | (simp only [World.size_alloc, World.size_setCell, World.size_drew, size_drewN'] <;> omega))))
  have hm : ((w1.alloc (.cells #[.int .i64 0] 2 (0, 0))).alloc (.cells #[.int .i64 0] 2 (0, 0))).heap[w1.heap.size + 1]? = some (.cells #[.int .i64 0] 2 (0, 0)) := (heap_new' _ _ _ (by first | omega | (simp only [World.size_alloc, World.size_setCell, World.size_drew, size_drewN'] <;> omega)))
  have hsz : ((w1.alloc (.cells #[.int .i64 0] 2 (0, 0))).alloc (.cells #[.int .i64 0] 2 (0, 0))).heap.size = w1.heap.size + 1 + 1 := by simp
  generalize (w1.alloc (.cells #[.int .i64 0] 2 (0, 0))).alloc (.cells #[.int .i64 0] 2 (0, 0)) = W at *
  have hi1 : w.heap.size < w1.heap.size := by have := hG.size; simp only [World.size_alloc] at this; omega
  have hRW := hR.next bz
  have hbW := below_blk bz hi1 hbox
  have hGW : w.grownBy W (some b) := grown_after ((Below.refl _ _).alloc (Nat.le_refl _) _) (grown_trans hG (grown_of_below bz (Nat.le_refl _) _))
  have c0 := blk_cell' hbW 0
  have k0 := hRW.c.1
  have k1 := hRW.c.2.1
  have HH := Lib.hid hh
  have HM := Lib.hid hm
  have HSZ := Lib.hid hsz
  have HBW := Lib.hid hbW
  clear hh hm hsz hbW hbox hG hR bz
  go_quiet (fail)
  generalize hWd : W.drewN _ = V at *
  have hV : Below W.heap.size W V := by rw [← hWd]; exact below_drewN (Below.refl _ _) _
  have hVs : V.heap.size = W.heap.size := by rw [← hWd]; rfl
  have HVS := Lib.hid hVs
  clear hWd hVs
  go_wp2_with fail
  have bV : Below V.heap.size V (V.alloc (.cells #[.func (.func 97) #[] #[.pointer (some ⟨w.heap.size, 0, none⟩)], .func (.func 98) #[] #[.pointer (some ⟨w.heap.size, 0, none⟩), .pointer (some ⟨w1.heap.size, 0, none⟩)], .func (.func 99) #[] #[.pointer (some ⟨w.heap.size, 0, none⟩)], .func (.func 100) #[] #[.pointer (some ⟨w.heap.size, 0, none⟩), .pointer (some ⟨w1.heap.size + 1, 0, none⟩)]] 22 (0, 0))) := (Below.refl _ _).alloc (Nat.le_refl _) _
  have bWV := hV.trans (bV.mono hV.size)
  have t0 : Pl w (V.alloc (.cells #[.func (.func 97) #[] #[.pointer (some ⟨w.heap.size, 0, none⟩)], .func (.func 98) #[] #[.pointer (some ⟨w.heap.size, 0, none⟩), .pointer (some ⟨w1.heap.size, 0, none⟩)], .func (.func 99) #[] #[.pointer (some ⟨w.heap.size, 0, none⟩)], .func (.func 100) #[] #[.pointer (some ⟨w.heap.size, 0, none⟩), .pointer (some ⟨w1.heap.size + 1, 0, none⟩)]] 22 (0, 0))) b w1.heap.size V.heap.size r 0 0 := ⟨grown_trans hGW (grown_of_below bWV (Nat.le_refl _) _), hRW.next bWV, h.lt, hi1, by rw [HVS.out, HSZ.out]; omega, below_blk bWV (by rw [HSZ.out]; omega) HBW.out, below_blk bWV (by rw [HSZ.out]; omega) HH.out, below_blk bWV (by rw [HSZ.out]; omega) HM.out, heap_new' _ _ _ rfl⟩
  generalize V.alloc (.cells #[.func (.func 97) #[] #[.pointer (some ⟨w.heap.size, 0, none⟩)], .func (.func 98) #[] #[.pointer (some ⟨w.heap.size, 0, none⟩), .pointer (some ⟨w1.heap.size, 0, none⟩)], .func (.func 99) #[] #[.pointer (some ⟨w.heap.size, 0, none⟩)], .func (.func 100) #[] #[.pointer (some ⟨w.heap.size, 0, none⟩), .pointer (some ⟨w1.heap.size + 1, 0, none⟩)]] 22 (0, 0)) = U at *
  have hUV : V.heap.size < U.heap.size := blk_lt' t0.st
  generalize w1.heap.size = hb at *
  generalize V.heap.size = sb at *
  clear c0 k0 k1
  obtain ⟨c0, ch, cm, s0, s1, s2, s3, c9, f9, hbl⟩ := t0.cells
  clear HH HM HSZ HBW HVS hGW hRW hV bV bWV CZ hi1
  refine wp_loop_rounds 1 ?_
  rw [rounds_succ]
  go_wp2_with (first | (go_at_call 97; (with_reducible refine (C1 _ t0.R c0).mono ?_); rintro e w2 ⟨rfl, hR, hG⟩; have t1 := t0.row hG hR; obtain ⟨c0, ch, cm, s0, s1, s2, s3, c9, f9, hbl⟩ := t1.cells))
  rw [← HQ.out]
  exact ⟨rfl, t1.R, t1.G⟩
set_option maxRecDepth 100000 in
set_option maxHeartbeats 4000000 in
theorem place_l2p (r : Rv) (b : Nat) (hs : r.s.size ≤ 140737488355328) (ha : r.a < r.s.size) (kc : ((r.s[r.a].toNat : Int) == 45) = false) (a1 : Nat) (h1 : sigT [43, 45] r = (true, { r with a := a1 })) (hle1 : a1 ≤ r.s.size) (h2 : numS r.s.data.toList a1 2 0 23 = none) (w : World) (hK : ∀ W, w.grownBy W (some b) → LayS W) (h : RvAt w b r) (hz : sigT [90] r = (false, r)) :
    Calls Tryz.prog 62 #[.pointer (some ⟨b, 0, none⟩)] w (StepPost w b (false, { r with a := a1 })) := by
  have kA : decide ((r.a : Int) < (r.s.size : Int)) = true := by simp; omega
  have C1 : ∀ W, RvAt W b r → W.cell? ⟨w.heap.size, 0, none⟩ = some (.pointer (some ⟨b, 0, none⟩)) → Calls Tryz.prog 97 #[.pointer (some ⟨w.heap.size, 0, none⟩)] W (StepPost W b (true, { r with a := a1 })) := fun W hR hc => h1 ▸ place_step1 r b w.heap.size hs W hR hc
  have C2 : ∀ W V, LayS W → RvAt W b { r with a := a1 } → W.cell? ⟨w.heap.size, 0, none⟩ = some (.pointer (some ⟨b, 0, none⟩)) → Calls Tryz.prog 98 #[.pointer (some ⟨w.heap.size, 0, none⟩), .pointer (some ⟨V, 0, none⟩)] W fun e w' => e = .returned (.bool false) ∧ Below W.heap.size W w' := fun W V hL hR hc => place_no2 { r with a := a1 } b w.heap.size V hs hle1 h2 W hL hR hc
  have hmf : ∀ (fn : Fn) (first cap : Array Value) (w : World), (Instr.makeFunc fn first cap).run Tryz.prog w = .ok (.func fn first cap) w := fun _ _ _ _ => rfl
  have CZ := fun W hR => sigT_step ⟨#[90]⟩ r b hs W hR
  have e90 : (⟨#[90]⟩ : ByteArray).data.toList = [90] := rfl
  rw [e90, hz] at CZ
  generalize hP : StepPost w b (false, { r with a := a1 }) = Q
  have HQ := Lib.hid hP
  clear hP
  go_enter Tryz.func62, Tryz.ntmps62
  go_wp2_with fail
  refine (CZ _ (h.next ((Below.refl _ _).alloc (Nat.le_refl _) _))).mono ?_
  rintro e w1 ⟨rfl, hR, hG⟩
  have hbox : w1.heap[w.heap.size]? = some (.cells #[.pointer (some ⟨b, 0, none⟩)] 80 (0, 0)) := grown_blk hG (heap_new' _ _ _ rfl) (fun e => by have := h.lt; have := Option.some.inj e; omega)
  go_wp2_with fail
  have bz : Below w1.heap.size w1 ((w1.alloc (.cells #[.int .i64 0] 2 (0, 0))).alloc (.cells #[.int .i64 0] 2 (0, 0))) := by go_grown
  have hh : ((w1.alloc (.cells #[.int .i64 0] 2 (0, 0))).alloc (.cells #[.int .i64 0] 2 (0, 0))).heap[w1.heap.size]? = some (.cells #[.int .i64 0] 2 (0, 0)) := (heap_old' _ _ _ (by first | omega | (simp only [World.size_alloc, World.size_setCell, World.size_drew, size_drewN'] <;> omega)) (heap_new' _ _ _ (by first | omega | (simp only [World.size_alloc, World.size_setCell, World.size_drew, size_drewN'] <;> omega))))
  have hm : ((w1.alloc (.cells #[.int .i64 0] 2 (0, 0))).alloc (.cells #[.int .i64 0] 2 (0, 0))).heap[w1.heap.size + 1]? = some (.cells #[.int .i64 0] 2 (0, 0)) := (heap_new' _ _ _ (by first | omega | (simp only [World.size_alloc, World.size_setCell, World.size_drew, size_drewN'] <;> omega)))
  have hsz : ((w1.alloc (.cells #[.int .i64 0] 2 (0, 0))).alloc (.cells #[.int .i64 0] 2 (0, 0))).heap.size = w1.heap.size + 1 + 1 := by simp
  generalize (w1.alloc (.cells #[.int .i64 0] 2 (0, 0))).alloc (.cells #[.int .i64 0] 2 (0, 0)) = W at *
  have hi1 : w.heap.size < w1.heap.size := by have := hG.size; simp only [World.size_alloc] at this; omega
  have hRW := hR.next bz
  have hbW := below_blk bz hi1 hbox
  have hGW : w.grownBy W (some b) := grown_after ((Below.refl _ _).alloc (Nat.le_refl _) _) (grown_trans hG (grown_of_below bz (Nat.le_refl _) _))
  have c0 := blk_cell' hbW 0
  have k0 := hRW.c.1
  have k1 := hRW.c.2.1
  have HH := Lib.hid hh
  have HM := Lib.hid hm
  have HSZ := Lib.hid hsz
  have HBW := Lib.hid hbW
  clear hh hm hsz hbW hbox hG hR bz
  go_quiet (fail)
  generalize hWd : W.drewN _ = V at *
  have hV : Below W.heap.size W V := by rw [← hWd]; exact below_drewN (Below.refl _ _) _
  have hVs : V.heap.size = W.heap.size := by rw [← hWd]; rfl
  have HVS := Lib.hid hVs
  clear hWd hVs
  go_wp2_with fail
  have bV : Below V.heap.size V (V.alloc (.cells #[.func (.func 97) #[] #[.pointer (some ⟨w.heap.size, 0, none⟩)], .func (.func 98) #[] #[.pointer (some ⟨w.heap.size, 0, none⟩), .pointer (some ⟨w1.heap.size, 0, none⟩)], .func (.func 99) #[] #[.pointer (some ⟨w.heap.size, 0, none⟩)], .func (.func 100) #[] #[.pointer (some ⟨w.heap.size, 0, none⟩), .pointer (some ⟨w1.heap.size + 1, 0, none⟩)]] 22 (0, 0))) := (Below.refl _ _).alloc (Nat.le_refl _) _
  have bWV := hV.trans (bV.mono hV.size)
  have t0 : Pl w (V.alloc (.cells #[.func (.func 97) #[] #[.pointer (some ⟨w.heap.size, 0, none⟩)], .func (.func 98) #[] #[.pointer (some ⟨w.heap.size, 0, none⟩), .pointer (some ⟨w1.heap.size, 0, none⟩)], .func (.func 99) #[] #[.pointer (some ⟨w.heap.size, 0, none⟩)], .func (.func 100) #[] #[.pointer (some ⟨w.heap.size, 0, none⟩), .pointer (some ⟨w1.heap.size + 1, 0, none⟩)]] 22 (0, 0))) b w1.heap.size V.heap.size r 0 0 := ⟨grown_trans hGW (grown_of_below bWV (Nat.le_refl _) _), hRW.next bWV, h.lt, hi1, by rw [HVS.out, HSZ.out]; omega, below_blk bWV (by rw [HSZ.out]; omega) HBW.out, below_blk bWV (by rw [HSZ.out]; omega) HH.out, below_blk bWV (by rw [HSZ.out]; omega) HM.out, heap_new' _ _ _ rfl⟩
  generalize V.alloc (.cells #[.func (.func 97) #[] #[.pointer (some ⟨w.heap.size, 0, none⟩)], .func (.func 98) #[] #[.pointer (some ⟨w.heap.size, 0, none⟩), .pointer (some ⟨w1.heap.size, 0, none⟩)], .func (.func 99) #[] #[.pointer (some ⟨w.heap.size, 0, none⟩)], .func (.func 100) #[] #[.pointer (some ⟨w.heap.size, 0, none⟩), .pointer (some ⟨w1.heap.size + 1, 0, none⟩)]] 22 (0, 0)) = U at *
  have hUV : V.heap.size < U.heap.size := blk_lt' t0.st
  generalize w1.heap.size = hb at *
  generalize V.heap.size = sb at *
  clear c0 k0 k1
  obtain ⟨c0, ch, cm, s0, s1, s2, s3, c9, f9, hbl⟩ := t0.cells
  clear HH HM HSZ HBW HVS hGW hRW hV bV bWV CZ hi1
  refine wp_loop_rounds 2 ?_
  rw [rounds_succ]
  go_wp2_with (first | (go_at_call 97; (with_reducible refine (C1 _ t0.R c0).mono ?_); rintro e w2 ⟨rfl, hR, hG⟩; have t1 := t0.row hG hR; obtain ⟨c0, ch, cm, s0, s1, s2, s3, c9, f9, hbl⟩ := t1.cells) | (go_at_call 98; (with_reducible refine (C2 _ _ (hK _ t1.G) t1.R c0).mono ?_); rintro e w3 ⟨rfl, hB3⟩; have t2 := t1.below hB3))
  rw [rounds_succ]
  go_wp2_with (first | (go_at_call 97; (with_reducible refine (C1 _ t0.R c0).mono ?_); rintro e w2 ⟨rfl, hR, hG⟩; have t1 := t0.row hG hR; obtain ⟨c0, ch, cm, s0, s1, s2, s3, c9, f9, hbl⟩ := t1.cells) | (go_at_call 98; (with_reducible refine (C2 _ _ (hK _ t1.G) t1.R c0).mono ?_); rintro e w3 ⟨rfl, hB3⟩; have t2 := t1.below hB3))
  rw [← HQ.out]
  exact ⟨rfl, t2.R, t2.G⟩
set_option maxRecDepth 100000 in
set_option maxHeartbeats 4000000 in
theorem place_l3p (r : Rv) (b : Nat) (hs : r.s.size ≤ 140737488355328) (ha : r.a < r.s.size) (kc : ((r.s[r.a].toNat : Int) == 45) = false) (a1 : Nat) (h1 : sigT [43, 45] r = (true, { r with a := a1 })) (hle1 : a1 ≤ r.s.size) (hv : Int) (a2 : Nat) (h2 : numS r.s.data.toList a1 2 0 23 = some hv) (e2 : (a1 : Int) + 2 = (a2 : Int)) (h3 : sigT [58] { r with a := a2 } = (false, { r with a := a2 })) (w : World) (hK : ∀ W, w.grownBy W (some b) → LayS W) (h : RvAt w b r) (hz : sigT [90] r = (false, r)) :
    Calls Tryz.prog 62 #[.pointer (some ⟨b, 0, none⟩)] w (StepPost w b (false, { r with a := a2 })) := by
  have kA : decide ((r.a : Int) < (r.s.size : Int)) = true := by simp; omega
  have C1 : ∀ W, RvAt W b r → W.cell? ⟨w.heap.size, 0, none⟩ = some (.pointer (some ⟨b, 0, none⟩)) → Calls Tryz.prog 97 #[.pointer (some ⟨w.heap.size, 0, none⟩)] W (StepPost W b (true, { r with a := a1 })) := fun W hR hc => h1 ▸ place_step1 r b w.heap.size hs W hR hc
  have C2 : ∀ W V, LayS W → RvAt W b { r with a := a1 } → W.cell? ⟨w.heap.size, 0, none⟩ = some (.pointer (some ⟨b, 0, none⟩)) → W.heap[V]? = some (.cells #[.int .i64 0] 2 (0, 0)) → V ≠ b → Calls Tryz.prog 98 #[.pointer (some ⟨w.heap.size, 0, none⟩), .pointer (some ⟨V, 0, none⟩)] W fun e w' => e = .returned (.bool true) ∧ ∃ w1, Below W.heap.size W w1 ∧ w' = (w1.setCell ⟨V, 0, none⟩ (.int .i64 hv)).setCell ⟨b, 1, none⟩ (.int .i64 (a2 : Int)) := fun W V hL hR hc hV hne => by rw [← e2]; exact place_yes2 { r with a := a1 } b w.heap.size V hv 0 hs hle1 h2 W hL hR hc hV hne
  have C3 : ∀ W, RvAt W b { r with a := a2 } → W.cell? ⟨w.heap.size, 0, none⟩ = some (.pointer (some ⟨b, 0, none⟩)) → Calls Tryz.prog 99 #[.pointer (some ⟨w.heap.size, 0, none⟩)] W (StepPost W b (false, { r with a := a2 })) := fun W hR hc => h3 ▸ place_step3 { r with a := a2 } b w.heap.size hs W hR hc
  have hmf : ∀ (fn : Fn) (first cap : Array Value) (w : World), (Instr.makeFunc fn first cap).run Tryz.prog w = .ok (.func fn first cap) w := fun _ _ _ _ => rfl
  have CZ := fun W hR => sigT_step ⟨#[90]⟩ r b hs W hR
  have e90 : (⟨#[90]⟩ : ByteArray).data.toList = [90] := rfl
  rw [e90, hz] at CZ
  generalize hP : StepPost w b (false, { r with a := a2 }) = Q
  have HQ := Lib.hid hP
  clear hP
  go_enter Tryz.func62, Tryz.ntmps62
  go_wp2_with fail
  refine (CZ _ (h.next ((Below.refl _ _).alloc (Nat.le_refl _) _))).mono ?_
  rintro e w1 ⟨rfl, hR, hG⟩
  have hbox : w1.heap[w.heap.size]? = some (.cells #[.pointer (some ⟨b, 0, none⟩)] 80 (0, 0)) := grown_blk hG (heap_new' _ _ _ rfl) (fun e => by have := h.lt; have := Option.some.inj e; omega)
  go_wp2_with fail
  have bz : Below w1.heap.size w1 ((w1.alloc (.cells #[.int .i64 0] 2 (0, 0))).alloc (.cells #[.int .i64 0] 2 (0, 0))) := by go_grown
  have hh : ((w1.alloc (.cells #[.int .i64 0] 2 (0, 0))).alloc (.cells #[.int .i64 0] 2 (0, 0))).heap[w1.heap.size]? = some (.cells #[.int .i64 0] 2 (0, 0)) := (heap_old' _ _ _ (by first | omega | (simp only [World.size_alloc, World.size_setCell, World.size_drew, size_drewN'] <;> omega)) (heap_new' _ _ _ (by first | omega | (simp only [World.size_alloc, World.size_setCell, World.size_drew, size_drewN'] <;> omega))))
  have hm : ((w1.alloc (.cells #[.int .i64 0] 2 (0, 0))).alloc (.cells #[.int .i64 0] 2 (0, 0))).heap[w1.heap.size + 1]? = some (.cells #[.int .i64 0] 2 (0, 0)) := (heap_new' _ _ _ (by first | omega | (simp only [World.size_alloc, World.size_setCell, World.size_drew, size_drewN'] <;> omega)))
  have hsz : ((w1.alloc (.cells #[.int .i64 0] 2 (0, 0))).alloc (.cells #[.int .i64 0] 2 (0, 0))).heap.size = w1.heap.size + 1 + 1 := by simp
  generalize (w1.alloc (.cells #[.int .i64 0] 2 (0, 0))).alloc (.cells #[.int .i64 0] 2 (0, 0)) = W at *
  have hi1 : w.heap.size < w1.heap.size := by have := hG.size; simp only [World.size_alloc] at this; omega
  have hRW := hR.next bz
  have hbW := below_blk bz hi1 hbox
  have hGW : w.grownBy W (some b) := grown_after ((Below.refl _ _).alloc (Nat.le_refl _) _) (grown_trans hG (grown_of_below bz (Nat.le_refl _) _))
  have c0 := blk_cell' hbW 0
  have k0 := hRW.c.1
  have k1 := hRW.c.2.1
  have HH := Lib.hid hh
  have HM := Lib.hid hm
  have HSZ := Lib.hid hsz
  have HBW := Lib.hid hbW
  clear hh hm hsz hbW hbox hG hR bz
  go_quiet (fail)
  generalize hWd : W.drewN _ = V at *
  have hV : Below W.heap.size W V := by rw [← hWd]; exact below_drewN (Below.refl _ _) _
  have hVs : V.heap.size = W.heap.size := by rw [← hWd]; rfl
  have HVS := Lib.hid hVs
  clear hWd hVs
  go_wp2_with fail
  have bV : Below V.heap.size V (V.alloc (.cells #[.func (.func 97) #[] #[.pointer (some ⟨w.heap.size, 0, none⟩)], .func (.func 98) #[] #[.pointer (some ⟨w.heap.size, 0, none⟩), .pointer (some ⟨w1.heap.size, 0, none⟩)], .func (.func 99) #[] #[.pointer (some ⟨w.heap.size, 0, none⟩)], .func (.func 100) #[] #[.pointer (some ⟨w.heap.size, 0, none⟩), .pointer (some ⟨w1.heap.size + 1, 0, none⟩)]] 22 (0, 0))) := (Below.refl _ _).alloc (Nat.le_refl _) _
  have bWV := hV.trans (bV.mono hV.size)
  have t0 : Pl w (V.alloc (.cells #[.func (.func 97) #[] #[.pointer (some ⟨w.heap.size, 0, none⟩)], .func (.func 98) #[] #[.pointer (some ⟨w.heap.size, 0, none⟩), .pointer (some ⟨w1.heap.size, 0, none⟩)], .func (.func 99) #[] #[.pointer (some ⟨w.heap.size, 0, none⟩)], .func (.func 100) #[] #[.pointer (some ⟨w.heap.size, 0, none⟩), .pointer (some ⟨w1.heap.size + 1, 0, none⟩)]] 22 (0, 0))) b w1.heap.size V.heap.size r 0 0 := ⟨grown_trans hGW (grown_of_below bWV (Nat.le_refl _) _), hRW.next bWV, h.lt, hi1, by rw [HVS.out, HSZ.out]; omega, below_blk bWV (by rw [HSZ.out]; omega) HBW.out, below_blk bWV (by rw [HSZ.out]; omega) HH.out, below_blk bWV (by rw [HSZ.out]; omega) HM.out, heap_new' _ _ _ rfl⟩
  generalize V.alloc (.cells #[.func (.func 97) #[] #[.pointer (some ⟨w.heap.size, 0, none⟩)], .func (.func 98) #[] #[.pointer (some ⟨w.heap.size, 0, none⟩), .pointer (some ⟨w1.heap.size, 0, none⟩)], .func (.func 99) #[] #[.pointer (some ⟨w.heap.size, 0, none⟩)], .func (.func 100) #[] #[.pointer (some ⟨w.heap.size, 0, none⟩), .pointer (some ⟨w1.heap.size + 1, 0, none⟩)]] 22 (0, 0)) = U at *
  have hUV : V.heap.size < U.heap.size := blk_lt' t0.st
  generalize w1.heap.size = hb at *
  generalize V.heap.size = sb at *
  clear c0 k0 k1
  obtain ⟨c0, ch, cm, s0, s1, s2, s3, c9, f9, hbl⟩ := t0.cells
  clear HH HM HSZ HBW HVS hGW hRW hV bV bWV CZ hi1
  refine wp_loop_rounds 3 ?_
  rw [rounds_succ]
  go_wp2_with (first | (go_at_call 97; (with_reducible refine (C1 _ t0.R c0).mono ?_); rintro e w2 ⟨rfl, hR, hG⟩; have t1 := t0.row hG hR; obtain ⟨c0, ch, cm, s0, s1, s2, s3, c9, f9, hbl⟩ := t1.cells) | (go_at_call 98; (with_reducible refine (C2 _ _ (hK _ t1.G) t1.R c0 t1.hh (by have := t1.lo; have := t1.hi; omega)).mono ?_); rintro e w3 ⟨rfl, w4, hB3, rfl⟩; have t2 : Pl w _ b hb sb { r with a := a2 } hv 0 := t1.seth hB3 hv a2; obtain ⟨c0, ch, cm, s0, s1, s2, s3, c9, f9, hbl⟩ := t2.cells) | (go_at_call 99; (with_reducible refine (C3 _ t2.R c0).mono ?_); rintro e w5 ⟨rfl, hR, hG⟩; have t3 := t2.row hG hR; obtain ⟨c0, ch, cm, s0, s1, s2, s3, c9, f9, hbl⟩ := t3.cells))
  rw [rounds_succ]
  go_wp2_with (first | (go_at_call 97; (with_reducible refine (C1 _ t0.R c0).mono ?_); rintro e w2 ⟨rfl, hR, hG⟩; have t1 := t0.row hG hR; obtain ⟨c0, ch, cm, s0, s1, s2, s3, c9, f9, hbl⟩ := t1.cells) | (go_at_call 98; (with_reducible refine (C2 _ _ (hK _ t1.G) t1.R c0 t1.hh (by have := t1.lo; have := t1.hi; omega)).mono ?_); rintro e w3 ⟨rfl, w4, hB3, rfl⟩; have t2 : Pl w _ b hb sb { r with a := a2 } hv 0 := t1.seth hB3 hv a2; obtain ⟨c0, ch, cm, s0, s1, s2, s3, c9, f9, hbl⟩ := t2.cells) | (go_at_call 99; (with_reducible refine (C3 _ t2.R c0).mono ?_); rintro e w5 ⟨rfl, hR, hG⟩; have t3 := t2.row hG hR; obtain ⟨c0, ch, cm, s0, s1, s2, s3, c9, f9, hbl⟩ := t3.cells))
  rw [rounds_succ]
  go_wp2_with (first | (go_at_call 97; (with_reducible refine (C1 _ t0.R c0).mono ?_); rintro e w2 ⟨rfl, hR, hG⟩; have t1 := t0.row hG hR; obtain ⟨c0, ch, cm, s0, s1, s2, s3, c9, f9, hbl⟩ := t1.cells) | (go_at_call 98; (with_reducible refine (C2 _ _ (hK _ t1.G) t1.R c0 t1.hh (by have := t1.lo; have := t1.hi; omega)).mono ?_); rintro e w3 ⟨rfl, w4, hB3, rfl⟩; have t2 : Pl w _ b hb sb { r with a := a2 } hv 0 := t1.seth hB3 hv a2; obtain ⟨c0, ch, cm, s0, s1, s2, s3, c9, f9, hbl⟩ := t2.cells) | (go_at_call 99; (with_reducible refine (C3 _ t2.R c0).mono ?_); rintro e w5 ⟨rfl, hR, hG⟩; have t3 := t2.row hG hR; obtain ⟨c0, ch, cm, s0, s1, s2, s3, c9, f9, hbl⟩ := t3.cells))
  rw [← HQ.out]
  exact ⟨rfl, t3.R, t3.G⟩
set_option maxRecDepth 100000 in
set_option maxHeartbeats 4000000 in
theorem place_l4p (r : Rv) (b : Nat) (hs : r.s.size ≤ 140737488355328) (ha : r.a < r.s.size) (kc : ((r.s[r.a].toNat : Int) == 45) = false) (a1 : Nat) (h1 : sigT [43, 45] r = (true, { r with a := a1 })) (hle1 : a1 ≤ r.s.size) (hv : Int) (a2 : Nat) (h2 : numS r.s.data.toList a1 2 0 23 = some hv) (e2 : (a1 : Int) + 2 = (a2 : Int)) (a3 : Nat) (h3 : sigT [58] { r with a := a2 } = (true, { r with a := a3 })) (hle3 : a3 ≤ r.s.size) (h4 : numS r.s.data.toList a3 2 0 59 = none) (w : World) (hK : ∀ W, w.grownBy W (some b) → LayS W) (h : RvAt w b r) (hz : sigT [90] r = (false, r)) :
    Calls Tryz.prog 62 #[.pointer (some ⟨b, 0, none⟩)] w (StepPost w b (false, { r with a := a3 })) := by
  have kA : decide ((r.a : Int) < (r.s.size : Int)) = true := by simp; omega
  have C1 : ∀ W, RvAt W b r → W.cell? ⟨w.heap.size, 0, none⟩ = some (.pointer (some ⟨b, 0, none⟩)) → Calls Tryz.prog 97 #[.pointer (some ⟨w.heap.size, 0, none⟩)] W (StepPost W b (true, { r with a := a1 })) := fun W hR hc => h1 ▸ place_step1 r b w.heap.size hs W hR hc
  have C2 : ∀ W V, LayS W → RvAt W b { r with a := a1 } → W.cell? ⟨w.heap.size, 0, none⟩ = some (.pointer (some ⟨b, 0, none⟩)) → W.heap[V]? = some (.cells #[.int .i64 0] 2 (0, 0)) → V ≠ b → Calls Tryz.prog 98 #[.pointer (some ⟨w.heap.size, 0, none⟩), .pointer (some ⟨V, 0, none⟩)] W fun e w' => e = .returned (.bool true) ∧ ∃ w1, Below W.heap.size W w1 ∧ w' = (w1.setCell ⟨V, 0, none⟩ (.int .i64 hv)).setCell ⟨b, 1, none⟩ (.int .i64 (a2 : Int)) := fun W V hL hR hc hV hne => by rw [← e2]; exact place_yes2 { r with a := a1 } b w.heap.size V hv 0 hs hle1 h2 W hL hR hc hV hne
  have C3 : ∀ W, RvAt W b { r with a := a2 } → W.cell? ⟨w.heap.size, 0, none⟩ = some (.pointer (some ⟨b, 0, none⟩)) → Calls Tryz.prog 99 #[.pointer (some ⟨w.heap.size, 0, none⟩)] W (StepPost W b (true, { r with a := a3 })) := fun W hR hc => h3 ▸ place_step3 { r with a := a2 } b w.heap.size hs W hR hc
  have C4 : ∀ W V, LayS W → RvAt W b { r with a := a3 } → W.cell? ⟨w.heap.size, 0, none⟩ = some (.pointer (some ⟨b, 0, none⟩)) → Calls Tryz.prog 100 #[.pointer (some ⟨w.heap.size, 0, none⟩), .pointer (some ⟨V, 0, none⟩)] W fun e w' => e = .returned (.bool false) ∧ Below W.heap.size W w' := fun W V hL hR hc => place_no4 { r with a := a3 } b w.heap.size V hs hle3 h4 W hL hR hc
  have hmf : ∀ (fn : Fn) (first cap : Array Value) (w : World), (Instr.makeFunc fn first cap).run Tryz.prog w = .ok (.func fn first cap) w := fun _ _ _ _ => rfl
  have CZ := fun W hR => sigT_step ⟨#[90]⟩ r b hs W hR
  have e90 : (⟨#[90]⟩ : ByteArray).data.toList = [90] := rfl
  rw [e90, hz] at CZ
  generalize hP : StepPost w b (false, { r with a := a3 }) = Q
  have HQ := Lib.hid hP
  clear hP
  go_enter Tryz.func62, Tryz.ntmps62
  go_wp2_with fail
  refine (CZ _ (h.next ((Below.refl _ _).alloc (Nat.le_refl _) _))).mono ?_
  rintro e w1 ⟨rfl, hR, hG⟩
  have hbox : w1.heap[w.heap.size]? = some (.cells #[.pointer (some ⟨b, 0, none⟩)] 80 (0, 0)) := grown_blk hG (heap_new' _ _ _ rfl) (fun e => by have := h.lt; have := Option.some.inj e; omega)
  go_wp2_with fail
  have bz : Below w1.heap.size w1 ((w1.alloc (.cells #[.int .i64 0] 2 (0, 0))).alloc (.cells #[.int .i64 0] 2 (0, 0))) := by go_grown
  have hh : ((w1.alloc (.cells #[.int .i64 0] 2 (0, 0))).alloc (.cells #[.int .i64 0] 2 (0, 0))).heap[w1.heap.size]? = some (.cells #[.int .i64 0] 2 (0, 0)) := (heap_old' _ _ _ (by first | omega | (simp only [World.size_alloc, World.size_setCell, World.size_drew, size_drewN'] <;> omega)) (heap_new' _ _ _ (by first | omega | (simp only [World.size_alloc, World.size_setCell, World.size_drew, size_drewN'] <;> omega))))
  have hm : ((w1.alloc (.cells #[.int .i64 0] 2 (0, 0))).alloc (.cells #[.int .i64 0] 2 (0, 0))).heap[w1.heap.size + 1]? = some (.cells #[.int .i64 0] 2 (0, 0)) := (heap_new' _ _ _ (by first | omega | (simp only [World.size_alloc, World.size_setCell, World.size_drew, size_drewN'] <;> omega)))
  have hsz : ((w1.alloc (.cells #[.int .i64 0] 2 (0, 0))).alloc (.cells #[.int .i64 0] 2 (0, 0))).heap.size = w1.heap.size + 1 + 1 := by simp
  generalize (w1.alloc (.cells #[.int .i64 0] 2 (0, 0))).alloc (.cells #[.int .i64 0] 2 (0, 0)) = W at *
  have hi1 : w.heap.size < w1.heap.size := by have := hG.size; simp only [World.size_alloc] at this; omega
  have hRW := hR.next bz
  have hbW := below_blk bz hi1 hbox
  have hGW : w.grownBy W (some b) := grown_after ((Below.refl _ _).alloc (Nat.le_refl _) _) (grown_trans hG (grown_of_below bz (Nat.le_refl _) _))
  have c0 := blk_cell' hbW 0
  have k0 := hRW.c.1
  have k1 := hRW.c.2.1
  have HH := Lib.hid hh
  have HM := Lib.hid hm
  have HSZ := Lib.hid hsz
  have HBW := Lib.hid hbW
  clear hh hm hsz hbW hbox hG hR bz
  go_quiet (fail)
  generalize hWd : W.drewN _ = V at *
  have hV : Below W.heap.size W V := by rw [← hWd]; exact below_drewN (Below.refl _ _) _
  have hVs : V.heap.size = W.heap.size := by rw [← hWd]; rfl
  have HVS := Lib.hid hVs
  clear hWd hVs
  go_wp2_with fail
  have bV : Below V.heap.size V (V.alloc (.cells #[.func (.func 97) #[] #[.pointer (some ⟨w.heap.size, 0, none⟩)], .func (.func 98) #[] #[.pointer (some ⟨w.heap.size, 0, none⟩), .pointer (some ⟨w1.heap.size, 0, none⟩)], .func (.func 99) #[] #[.pointer (some ⟨w.heap.size, 0, none⟩)], .func (.func 100) #[] #[.pointer (some ⟨w.heap.size, 0, none⟩), .pointer (some ⟨w1.heap.size + 1, 0, none⟩)]] 22 (0, 0))) := (Below.refl _ _).alloc (Nat.le_refl _) _
  have bWV := hV.trans (bV.mono hV.size)
  have t0 : Pl w (V.alloc (.cells #[.func (.func 97) #[] #[.pointer (some ⟨w.heap.size, 0, none⟩)], .func (.func 98) #[] #[.pointer (some ⟨w.heap.size, 0, none⟩), .pointer (some ⟨w1.heap.size, 0, none⟩)], .func (.func 99) #[] #[.pointer (some ⟨w.heap.size, 0, none⟩)], .func (.func 100) #[] #[.pointer (some ⟨w.heap.size, 0, none⟩), .pointer (some ⟨w1.heap.size + 1, 0, none⟩)]] 22 (0, 0))) b w1.heap.size V.heap.size r 0 0 := ⟨grown_trans hGW (grown_of_below bWV (Nat.le_refl _) _), hRW.next bWV, h.lt, hi1, by rw [HVS.out, HSZ.out]; omega, below_blk bWV (by rw [HSZ.out]; omega) HBW.out, below_blk bWV (by rw [HSZ.out]; omega) HH.out, below_blk bWV (by rw [HSZ.out]; omega) HM.out, heap_new' _ _ _ rfl⟩
  generalize V.alloc (.cells #[.func (.func 97) #[] #[.pointer (some ⟨w.heap.size, 0, none⟩)], .func (.func 98) #[] #[.pointer (some ⟨w.heap.size, 0, none⟩), .pointer (some ⟨w1.heap.size, 0, none⟩)], .func (.func 99) #[] #[.pointer (some ⟨w.heap.size, 0, none⟩)], .func (.func 100) #[] #[.pointer (some ⟨w.heap.size, 0, none⟩), .pointer (some ⟨w1.heap.size + 1, 0, none⟩)]] 22 (0, 0)) = U at *
  have hUV : V.heap.size < U.heap.size := blk_lt' t0.st
  generalize w1.heap.size = hb at *
  generalize V.heap.size = sb at *
  clear c0 k0 k1
  obtain ⟨c0, ch, cm, s0, s1, s2, s3, c9, f9, hbl⟩ := t0.cells
  clear HH HM HSZ HBW HVS hGW hRW hV bV bWV CZ hi1
  refine wp_loop_rounds 4 ?_
  rw [rounds_succ]
  go_wp2_with (first | (go_at_call 97; (with_reducible refine (C1 _ t0.R c0).mono ?_); rintro e w2 ⟨rfl, hR, hG⟩; have t1 := t0.row hG hR; obtain ⟨c0, ch, cm, s0, s1, s2, s3, c9, f9, hbl⟩ := t1.cells) | (go_at_call 98; (with_reducible refine (C2 _ _ (hK _ t1.G) t1.R c0 t1.hh (by have := t1.lo; have := t1.hi; omega)).mono ?_); rintro e w3 ⟨rfl, w4, hB3, rfl⟩; have t2 : Pl w _ b hb sb { r with a := a2 } hv 0 := t1.seth hB3 hv a2; obtain ⟨c0, ch, cm, s0, s1, s2, s3, c9, f9, hbl⟩ := t2.cells) | (go_at_call 99; (with_reducible refine (C3 _ t2.R c0).mono ?_); rintro e w5 ⟨rfl, hR, hG⟩; have t3 := t2.row hG hR; obtain ⟨c0, ch, cm, s0, s1, s2, s3, c9, f9, hbl⟩ := t3.cells) | (go_at_call 100; (with_reducible refine (C4 _ _ (hK _ t3.G) t3.R c0).mono ?_); rintro e w6 ⟨rfl, hB6⟩; have t4 := t3.below hB6))
  rw [rounds_succ]
  go_wp2_with (first | (go_at_call 97; (with_reducible refine (C1 _ t0.R c0).mono ?_); rintro e w2 ⟨rfl, hR, hG⟩; have t1 := t0.row hG hR; obtain ⟨c0, ch, cm, s0, s1, s2, s3, c9, f9, hbl⟩ := t1.cells) | (go_at_call 98; (with_reducible refine (C2 _ _ (hK _ t1.G) t1.R c0 t1.hh (by have := t1.lo; have := t1.hi; omega)).mono ?_); rintro e w3 ⟨rfl, w4, hB3, rfl⟩; have t2 : Pl w _ b hb sb { r with a := a2 } hv 0 := t1.seth hB3 hv a2; obtain ⟨c0, ch, cm, s0, s1, s2, s3, c9, f9, hbl⟩ := t2.cells) | (go_at_call 99; (with_reducible refine (C3 _ t2.R c0).mono ?_); rintro e w5 ⟨rfl, hR, hG⟩; have t3 := t2.row hG hR; obtain ⟨c0, ch, cm, s0, s1, s2, s3, c9, f9, hbl⟩ := t3.cells) | (go_at_call 100; (with_reducible refine (C4 _ _ (hK _ t3.G) t3.R c0).mono ?_); rintro e w6 ⟨rfl, hB6⟩; have t4 := t3.below hB6))
  rw [rounds_succ]
  go_wp2_with (first | (go_at_call 97; (with_reducible refine (C1 _ t0.R c0).mono ?_); rintro e w2 ⟨rfl, hR, hG⟩; have t1 := t0.row hG hR; obtain ⟨c0, ch, cm, s0, s1, s2, s3, c9, f9, hbl⟩ := t1.cells) | (go_at_call 98; (with_reducible refine (C2 _ _ (hK _ t1.G) t1.R c0 t1.hh (by have := t1.lo; have := t1.hi; omega)).mono ?_); rintro e w3 ⟨rfl, w4, hB3, rfl⟩; have t2 : Pl w _ b hb sb { r with a := a2 } hv 0 := t1.seth hB3 hv a2; obtain ⟨c0, ch, cm, s0, s1, s2, s3, c9, f9, hbl⟩ := t2.cells) | (go_at_call 99; (with_reducible refine (C3 _ t2.R c0).mono ?_); rintro e w5 ⟨rfl, hR, hG⟩; have t3 := t2.row hG hR; obtain ⟨c0, ch, cm, s0, s1, s2, s3, c9, f9, hbl⟩ := t3.cells) | (go_at_call 100; (with_reducible refine (C4 _ _ (hK _ t3.G) t3.R c0).mono ?_); rintro e w6 ⟨rfl, hB6⟩; have t4 := t3.below hB6))
  rw [rounds_succ]
  go_wp2_with (first | (go_at_call 97; (with_reducible refine (C1 _ t0.R c0).mono ?_); rintro e w2 ⟨rfl, hR, hG⟩; have t1 := t0.row hG hR; obtain ⟨c0, ch, cm, s0, s1, s2, s3, c9, f9, hbl⟩ := t1.cells) | (go_at_call 98; (with_reducible refine (C2 _ _ (hK _ t1.G) t1.R c0 t1.hh (by have := t1.lo; have := t1.hi; omega)).mono ?_); rintro e w3 ⟨rfl, w4, hB3, rfl⟩; have t2 : Pl w _ b hb sb { r with a := a2 } hv 0 := t1.seth hB3 hv a2; obtain ⟨c0, ch, cm, s0, s1, s2, s3, c9, f9, hbl⟩ := t2.cells) | (go_at_call 99; (with_reducible refine (C3 _ t2.R c0).mono ?_); rintro e w5 ⟨rfl, hR, hG⟩; have t3 := t2.row hG hR; obtain ⟨c0, ch, cm, s0, s1, s2, s3, c9, f9, hbl⟩ := t3.cells) | (go_at_call 100; (with_reducible refine (C4 _ _ (hK _ t3.G) t3.R c0).mono ?_); rintro e w6 ⟨rfl, hB6⟩; have t4 := t3.below hB6))
  rw [← HQ.out]
  exact ⟨rfl, t4.R, t4.G⟩
set_option maxRecDepth 100000 in
set_option maxHeartbeats 4000000 in
theorem place_l5p (r : Rv) (b : Nat) (hs : r.s.size ≤ 140737488355328) (ha : r.a < r.s.size) (kc : ((r.s[r.a].toNat : Int) == 45) = false) (a1 : Nat) (h1 : sigT [43, 45] r = (true, { r with a := a1 })) (hle1 : a1 ≤ r.s.size) (hv : Int) (a2 : Nat) (h2 : numS r.s.data.toList a1 2 0 23 = some hv) (e2 : (a1 : Int) + 2 = (a2 : Int)) (a3 : Nat) (h3 : sigT [58] { r with a := a2 } = (true, { r with a := a3 })) (hle3 : a3 ≤ r.s.size) (mv : Int) (a4 : Nat) (h4 : numS r.s.data.toList a3 2 0 59 = some mv) (e4 : (a3 : Int) + 2 = (a4 : Int)) (w : World) (hK : ∀ W, w.grownBy W (some b) → LayS W) (h : RvAt w b r) (hz : sigT [90] r = (false, r)) :
    Calls Tryz.prog 62 #[.pointer (some ⟨b, 0, none⟩)] w (StepPost w b (true, { r with z := 60 * hv + mv, a := a4 })) := by
  have kA : decide ((r.a : Int) < (r.s.size : Int)) = true := by simp; omega
  have C1 : ∀ W, RvAt W b r → W.cell? ⟨w.heap.size, 0, none⟩ = some (.pointer (some ⟨b, 0, none⟩)) → Calls Tryz.prog 97 #[.pointer (some ⟨w.heap.size, 0, none⟩)] W (StepPost W b (true, { r with a := a1 })) := fun W hR hc => h1 ▸ place_step1 r b w.heap.size hs W hR hc
  have C2 : ∀ W V, LayS W → RvAt W b { r with a := a1 } → W.cell? ⟨w.heap.size, 0, none⟩ = some (.pointer (some ⟨b, 0, none⟩)) → W.heap[V]? = some (.cells #[.int .i64 0] 2 (0, 0)) → V ≠ b → Calls Tryz.prog 98 #[.pointer (some ⟨w.heap.size, 0, none⟩), .pointer (some ⟨V, 0, none⟩)] W fun e w' => e = .returned (.bool true) ∧ ∃ w1, Below W.heap.size W w1 ∧ w' = (w1.setCell ⟨V, 0, none⟩ (.int .i64 hv)).setCell ⟨b, 1, none⟩ (.int .i64 (a2 : Int)) := fun W V hL hR hc hV hne => by rw [← e2]; exact place_yes2 { r with a := a1 } b w.heap.size V hv 0 hs hle1 h2 W hL hR hc hV hne
  have C3 : ∀ W, RvAt W b { r with a := a2 } → W.cell? ⟨w.heap.size, 0, none⟩ = some (.pointer (some ⟨b, 0, none⟩)) → Calls Tryz.prog 99 #[.pointer (some ⟨w.heap.size, 0, none⟩)] W (StepPost W b (true, { r with a := a3 })) := fun W hR hc => h3 ▸ place_step3 { r with a := a2 } b w.heap.size hs W hR hc
  have C4 : ∀ W V, LayS W → RvAt W b { r with a := a3 } → W.cell? ⟨w.heap.size, 0, none⟩ = some (.pointer (some ⟨b, 0, none⟩)) → W.heap[V]? = some (.cells #[.int .i64 0] 2 (0, 0)) → V ≠ b → Calls Tryz.prog 100 #[.pointer (some ⟨w.heap.size, 0, none⟩), .pointer (some ⟨V, 0, none⟩)] W fun e w' => e = .returned (.bool true) ∧ ∃ w1, Below W.heap.size W w1 ∧ w' = (w1.setCell ⟨V, 0, none⟩ (.int .i64 mv)).setCell ⟨b, 1, none⟩ (.int .i64 (a4 : Int)) := fun W V hL hR hc hV hne => by rw [← e4]; exact place_yes4 { r with a := a3 } b w.heap.size V mv 0 hs hle3 h4 W hL hR hc hV hne
  have hb0 := numS_some h2
  have mb0 := numS_some h4
  obtain ⟨_, hb1, hb2⟩ := hb0
  obtain ⟨_, mb1, mb2⟩ := mb0
  have hmf : ∀ (fn : Fn) (first cap : Array Value) (w : World), (Instr.makeFunc fn first cap).run Tryz.prog w = .ok (.func fn first cap) w := fun _ _ _ _ => rfl
  have CZ := fun W hR => sigT_step ⟨#[90]⟩ r b hs W hR
  have e90 : (⟨#[90]⟩ : ByteArray).data.toList = [90] := rfl
  rw [e90, hz] at CZ
  generalize hP : StepPost w b (true, { r with z := 60 * hv + mv, a := a4 }) = Q
  have HQ := Lib.hid hP
  clear hP
  go_enter Tryz.func62, Tryz.ntmps62
  go_wp2_with fail
  refine (CZ _ (h.next ((Below.refl _ _).alloc (Nat.le_refl _) _))).mono ?_
  rintro e w1 ⟨rfl, hR, hG⟩
  have hbox : w1.heap[w.heap.size]? = some (.cells #[.pointer (some ⟨b, 0, none⟩)] 80 (0, 0)) := grown_blk hG (heap_new' _ _ _ rfl) (fun e => by have := h.lt; have := Option.some.inj e; omega)
  go_wp2_with fail
  have bz : Below w1.heap.size w1 ((w1.alloc (.cells #[.int .i64 0] 2 (0, 0))).alloc (.cells #[.int .i64 0] 2 (0, 0))) := by go_grown
  have hh : ((w1.alloc (.cells #[.int .i64 0] 2 (0, 0))).alloc (.cells #[.int .i64 0] 2 (0, 0))).heap[w1.heap.size]? = some (.cells #[.int .i64 0] 2 (0, 0)) := (heap_old' _ _ _ (by first | omega | (simp only [World.size_alloc, World.size_setCell, World.size_drew, size_drewN'] <;> omega)) (heap_new' _ _ _ (by first | omega | (simp only [World.size_alloc, World.size_setCell, World.size_drew, size_drewN'] <;> omega))))
  have hm : ((w1.alloc (.cells #[.int .i64 0] 2 (0, 0))).alloc (.cells #[.int .i64 0] 2 (0, 0))).heap[w1.heap.size + 1]? = some (.cells #[.int .i64 0] 2 (0, 0)) := (heap_new' _ _ _ (by first | omega | (simp only [World.size_alloc, World.size_setCell, World.size_drew, size_drewN'] <;> omega)))
  have hsz : ((w1.alloc (.cells #[.int .i64 0] 2 (0, 0))).alloc (.cells #[.int .i64 0] 2 (0, 0))).heap.size = w1.heap.size + 1 + 1 := by simp
  generalize (w1.alloc (.cells #[.int .i64 0] 2 (0, 0))).alloc (.cells #[.int .i64 0] 2 (0, 0)) = W at *
  have hi1 : w.heap.size < w1.heap.size := by have := hG.size; simp only [World.size_alloc] at this; omega
  have hRW := hR.next bz
  have hbW := below_blk bz hi1 hbox
  have hGW : w.grownBy W (some b) := grown_after ((Below.refl _ _).alloc (Nat.le_refl _) _) (grown_trans hG (grown_of_below bz (Nat.le_refl _) _))
  have c0 := blk_cell' hbW 0
  have k0 := hRW.c.1
  have k1 := hRW.c.2.1
  have HH := Lib.hid hh
  have HM := Lib.hid hm
  have HSZ := Lib.hid hsz
  have HBW := Lib.hid hbW
  clear hh hm hsz hbW hbox hG hR bz
  go_quiet (fail)
  generalize hWd : W.drewN _ = V at *
  have hV : Below W.heap.size W V := by rw [← hWd]; exact below_drewN (Below.refl _ _) _
  have hVs : V.heap.size = W.heap.size := by rw [← hWd]; rfl
  have HVS := Lib.hid hVs
  clear hWd hVs
  go_wp2_with fail
  have bV : Below V.heap.size V (V.alloc (.cells #[.func (.func 97) #[] #[.pointer (some ⟨w.heap.size, 0, none⟩)], .func (.func 98) #[] #[.pointer (some ⟨w.heap.size, 0, none⟩), .pointer (some ⟨w1.heap.size, 0, none⟩)], .func (.func 99) #[] #[.pointer (some ⟨w.heap.size, 0, none⟩)], .func (.func 100) #[] #[.pointer (some ⟨w.heap.size, 0, none⟩), .pointer (some ⟨w1.heap.size + 1, 0, none⟩)]] 22 (0, 0))) := (Below.refl _ _).alloc (Nat.le_refl _) _
  have bWV := hV.trans (bV.mono hV.size)
  have t0 : Pl w (V.alloc (.cells #[.func (.func 97) #[] #[.pointer (some ⟨w.heap.size, 0, none⟩)], .func (.func 98) #[] #[.pointer (some ⟨w.heap.size, 0, none⟩), .pointer (some ⟨w1.heap.size, 0, none⟩)], .func (.func 99) #[] #[.pointer (some ⟨w.heap.size, 0, none⟩)], .func (.func 100) #[] #[.pointer (some ⟨w.heap.size, 0, none⟩), .pointer (some ⟨w1.heap.size + 1, 0, none⟩)]] 22 (0, 0))) b w1.heap.size V.heap.size r 0 0 := ⟨grown_trans hGW (grown_of_below bWV (Nat.le_refl _) _), hRW.next bWV, h.lt, hi1, by rw [HVS.out, HSZ.out]; omega, below_blk bWV (by rw [HSZ.out]; omega) HBW.out, below_blk bWV (by rw [HSZ.out]; omega) HH.out, below_blk bWV (by rw [HSZ.out]; omega) HM.out, heap_new' _ _ _ rfl⟩
  generalize V.alloc (.cells #[.func (.func 97) #[] #[.pointer (some ⟨w.heap.size, 0, none⟩)], .func (.func 98) #[] #[.pointer (some ⟨w.heap.size, 0, none⟩), .pointer (some ⟨w1.heap.size, 0, none⟩)], .func (.func 99) #[] #[.pointer (some ⟨w.heap.size, 0, none⟩)], .func (.func 100) #[] #[.pointer (some ⟨w.heap.size, 0, none⟩), .pointer (some ⟨w1.heap.size + 1, 0, none⟩)]] 22 (0, 0)) = U at *
  have hUV : V.heap.size < U.heap.size := blk_lt' t0.st
  generalize w1.heap.size = hb at *
  generalize V.heap.size = sb at *
  clear c0 k0 k1
  obtain ⟨c0, ch, cm, s0, s1, s2, s3, c9, f9, hbl⟩ := t0.cells
  clear HH HM HSZ HBW HVS hGW hRW hV bV bWV CZ hi1
  refine wp_loop_rounds 5 ?_
  rw [rounds_succ]
  go_wp2_with (first | (go_at_call 97; (with_reducible refine (C1 _ t0.R c0).mono ?_); rintro e w2 ⟨rfl, hR, hG⟩; have t1 := t0.row hG hR; obtain ⟨c0, ch, cm, s0, s1, s2, s3, c9, f9, hbl⟩ := t1.cells) | (go_at_call 98; (with_reducible refine (C2 _ _ (hK _ t1.G) t1.R c0 t1.hh (by have := t1.lo; have := t1.hi; omega)).mono ?_); rintro e w3 ⟨rfl, w4, hB3, rfl⟩; have t2 : Pl w _ b hb sb { r with a := a2 } hv 0 := t1.seth hB3 hv a2; obtain ⟨c0, ch, cm, s0, s1, s2, s3, c9, f9, hbl⟩ := t2.cells) | (go_at_call 99; (with_reducible refine (C3 _ t2.R c0).mono ?_); rintro e w5 ⟨rfl, hR, hG⟩; have t3 := t2.row hG hR; obtain ⟨c0, ch, cm, s0, s1, s2, s3, c9, f9, hbl⟩ := t3.cells) | (go_at_call 100; (with_reducible refine (C4 _ _ (hK _ t3.G) t3.R c0 t3.hm (by have := t3.lo; have := t3.hi; omega)).mono ?_); rintro e w6 ⟨rfl, w7, hB6, rfl⟩; have t4 : Pl w _ b hb sb { r with a := a4 } hv mv := t3.setm hB6 mv a4; obtain ⟨c0, ch, cm, s0, s1, s2, s3, c9, f9, hbl⟩ := t4.cells))
  rw [rounds_succ]
  go_wp2_with (first | (go_at_call 97; (with_reducible refine (C1 _ t0.R c0).mono ?_); rintro e w2 ⟨rfl, hR, hG⟩; have t1 := t0.row hG hR; obtain ⟨c0, ch, cm, s0, s1, s2, s3, c9, f9, hbl⟩ := t1.cells) | (go_at_call 98; (with_reducible refine (C2 _ _ (hK _ t1.G) t1.R c0 t1.hh (by have := t1.lo; have := t1.hi; omega)).mono ?_); rintro e w3 ⟨rfl, w4, hB3, rfl⟩; have t2 : Pl w _ b hb sb { r with a := a2 } hv 0 := t1.seth hB3 hv a2; obtain ⟨c0, ch, cm, s0, s1, s2, s3, c9, f9, hbl⟩ := t2.cells) | (go_at_call 99; (with_reducible refine (C3 _ t2.R c0).mono ?_); rintro e w5 ⟨rfl, hR, hG⟩; have t3 := t2.row hG hR; obtain ⟨c0, ch, cm, s0, s1, s2, s3, c9, f9, hbl⟩ := t3.cells) | (go_at_call 100; (with_reducible refine (C4 _ _ (hK _ t3.G) t3.R c0 t3.hm (by have := t3.lo; have := t3.hi; omega)).mono ?_); rintro e w6 ⟨rfl, w7, hB6, rfl⟩; have t4 : Pl w _ b hb sb { r with a := a4 } hv mv := t3.setm hB6 mv a4; obtain ⟨c0, ch, cm, s0, s1, s2, s3, c9, f9, hbl⟩ := t4.cells))
  rw [rounds_succ]
  go_wp2_with (first | (go_at_call 97; (with_reducible refine (C1 _ t0.R c0).mono ?_); rintro e w2 ⟨rfl, hR, hG⟩; have t1 := t0.row hG hR; obtain ⟨c0, ch, cm, s0, s1, s2, s3, c9, f9, hbl⟩ := t1.cells) | (go_at_call 98; (with_reducible refine (C2 _ _ (hK _ t1.G) t1.R c0 t1.hh (by have := t1.lo; have := t1.hi; omega)).mono ?_); rintro e w3 ⟨rfl, w4, hB3, rfl⟩; have t2 : Pl w _ b hb sb { r with a := a2 } hv 0 := t1.seth hB3 hv a2; obtain ⟨c0, ch, cm, s0, s1, s2, s3, c9, f9, hbl⟩ := t2.cells) | (go_at_call 99; (with_reducible refine (C3 _ t2.R c0).mono ?_); rintro e w5 ⟨rfl, hR, hG⟩; have t3 := t2.row hG hR; obtain ⟨c0, ch, cm, s0, s1, s2, s3, c9, f9, hbl⟩ := t3.cells) | (go_at_call 100; (with_reducible refine (C4 _ _ (hK _ t3.G) t3.R c0 t3.hm (by have := t3.lo; have := t3.hi; omega)).mono ?_); rintro e w6 ⟨rfl, w7, hB6, rfl⟩; have t4 : Pl w _ b hb sb { r with a := a4 } hv mv := t3.setm hB6 mv a4; obtain ⟨c0, ch, cm, s0, s1, s2, s3, c9, f9, hbl⟩ := t4.cells))
  rw [rounds_succ]
  go_wp2_with (first | (go_at_call 97; (with_reducible refine (C1 _ t0.R c0).mono ?_); rintro e w2 ⟨rfl, hR, hG⟩; have t1 := t0.row hG hR; obtain ⟨c0, ch, cm, s0, s1, s2, s3, c9, f9, hbl⟩ := t1.cells) | (go_at_call 98; (with_reducible refine (C2 _ _ (hK _ t1.G) t1.R c0 t1.hh (by have := t1.lo; have := t1.hi; omega)).mono ?_); rintro e w3 ⟨rfl, w4, hB3, rfl⟩; have t2 : Pl w _ b hb sb { r with a := a2 } hv 0 := t1.seth hB3 hv a2; obtain ⟨c0, ch, cm, s0, s1, s2, s3, c9, f9, hbl⟩ := t2.cells) | (go_at_call 99; (with_reducible refine (C3 _ t2.R c0).mono ?_); rintro e w5 ⟨rfl, hR, hG⟩; have t3 := t2.row hG hR; obtain ⟨c0, ch, cm, s0, s1, s2, s3, c9, f9, hbl⟩ := t3.cells) | (go_at_call 100; (with_reducible refine (C4 _ _ (hK _ t3.G) t3.R c0 t3.hm (by have := t3.lo; have := t3.hi; omega)).mono ?_); rintro e w6 ⟨rfl, w7, hB6, rfl⟩; have t4 : Pl w _ b hb sb { r with a := a4 } hv mv := t3.setm hB6 mv a4; obtain ⟨c0, ch, cm, s0, s1, s2, s3, c9, f9, hbl⟩ := t4.cells))
  rw [rounds_succ]
  go_wp2_with (first | (go_at_call 97; (with_reducible refine (C1 _ t0.R c0).mono ?_); rintro e w2 ⟨rfl, hR, hG⟩; have t1 := t0.row hG hR; obtain ⟨c0, ch, cm, s0, s1, s2, s3, c9, f9, hbl⟩ := t1.cells) | (go_at_call 98; (with_reducible refine (C2 _ _ (hK _ t1.G) t1.R c0 t1.hh (by have := t1.lo; have := t1.hi; omega)).mono ?_); rintro e w3 ⟨rfl, w4, hB3, rfl⟩; have t2 : Pl w _ b hb sb { r with a := a2 } hv 0 := t1.seth hB3 hv a2; obtain ⟨c0, ch, cm, s0, s1, s2, s3, c9, f9, hbl⟩ := t2.cells) | (go_at_call 99; (with_reducible refine (C3 _ t2.R c0).mono ?_); rintro e w5 ⟨rfl, hR, hG⟩; have t3 := t2.row hG hR; obtain ⟨c0, ch, cm, s0, s1, s2, s3, c9, f9, hbl⟩ := t3.cells) | (go_at_call 100; (with_reducible refine (C4 _ _ (hK _ t3.G) t3.R c0 t3.hm (by have := t3.lo; have := t3.hi; omega)).mono ?_); rintro e w6 ⟨rfl, w7, hB6, rfl⟩; have t4 : Pl w _ b hb sb { r with a := a4 } hv mv := t3.setm hB6 mv a4; obtain ⟨c0, ch, cm, s0, s1, s2, s3, c9, f9, hbl⟩ := t4.cells))
  rw [← HQ.out]
  exact ⟨rfl, rv_z t4.R _, grown_set t4.G 9 _⟩
set_option maxRecDepth 100000 in
set_option maxHeartbeats 4000000 in
theorem place_l2m (r : Rv) (b : Nat) (hs : r.s.size ≤ 140737488355328) (ha : r.a < r.s.size) (kc : ((r.s[r.a].toNat : Int) == 45) = true) (a1 : Nat) (h1 : sigT [43, 45] r = (true, { r with a := a1 })) (hle1 : a1 ≤ r.s.size) (h2 : numS r.s.data.toList a1 2 0 23 = none) (w : World) (hK : ∀ W, w.grownBy W (some b) → LayS W) (h : RvAt w b r) (hz : sigT [90] r = (false, r)) :
    Calls Tryz.prog 62 #[.pointer (some ⟨b, 0, none⟩)] w (StepPost w b (false, { r with a := a1 })) := by
  have kA : decide ((r.a : Int) < (r.s.size : Int)) = true := by simp; omega
  have C1 : ∀ W, RvAt W b r → W.cell? ⟨w.heap.size, 0, none⟩ = some (.pointer (some ⟨b, 0, none⟩)) → Calls Tryz.prog 97 #[.pointer (some ⟨w.heap.size, 0, none⟩)] W (StepPost W b (true, { r with a := a1 })) := fun W hR hc => h1 ▸ place_step1 r b w.heap.size hs W hR hc
  have C2 : ∀ W V, LayS W → RvAt W b { r with a := a1 } → W.cell? ⟨w.heap.size, 0, none⟩ = some (.pointer (some ⟨b, 0, none⟩)) → Calls Tryz.prog 98 #[.pointer (some ⟨w.heap.size, 0, none⟩), .pointer (some ⟨V, 0, none⟩)] W fun e w' => e = .returned (.bool false) ∧ Below W.heap.size W w' := fun W V hL hR hc => place_no2 { r with a := a1 } b w.heap.size V hs hle1 h2 W hL hR hc
  have hmf : ∀ (fn : Fn) (first cap : Array Value) (w : World), (Instr.makeFunc fn first cap).run Tryz.prog w = .ok (.func fn first cap) w := fun _ _ _ _ => rfl
  have CZ := fun W hR => sigT_step ⟨#[90]⟩ r b hs W hR
  have e90 : (⟨#[90]⟩ : ByteArray).data.toList = [90] := rfl
  rw [e90, hz] at CZ
  generalize hP : StepPost w b (false, { r with a := a1 }) = Q
  have HQ := Lib.hid hP
  clear hP
  go_enter Tryz.func62, Tryz.ntmps62
  go_wp2_with fail
  refine (CZ _ (h.next ((Below.refl _ _).alloc (Nat.le_refl _) _))).mono ?_
  rintro e w1 ⟨rfl, hR, hG⟩
  have hbox : w1.heap[w.heap.size]? = some (.cells #[.pointer (some ⟨b, 0, none⟩)] 80 (0, 0)) := grown_blk hG (heap_new' _ _ _ rfl) (fun e => by have := h.lt; have := Option.some.inj e; omega)
  go_wp2_with fail
  have bz : Below w1.heap.size w1 ((w1.alloc (.cells #[.int .i64 0] 2 (0, 0))).alloc (.cells #[.int .i64 0] 2 (0, 0))) := by go_grown
  have hh : ((w1.alloc (.cells #[.int .i64 0] 2 (0, 0))).alloc (.cells #[.int .i64 0] 2 (0, 0))).heap[w1.heap.size]? = some (.cells #[.int .i64 0] 2 (0, 0)) := (heap_old' _ _ _ (by first | omega | (simp only [World.size_alloc, World.size_setCell, World.size_drew, size_drewN'] <;> omega)) (heap_new' _ _ _ (by first | omega | (simp only [World.size_alloc, World.size_setCell, World.size_drew, size_drewN'] <;> omega))))
  have hm : ((w1.alloc (.cells #[.int .i64 0] 2 (0, 0))).alloc (.cells #[.int .i64 0] 2 (0, 0))).heap[w1.heap.size + 1]? = some (.cells #[.int .i64 0] 2 (0, 0)) := (heap_new' _ _ _ (by first | omega | (simp only [World.size_alloc, World.size_setCell, World.size_drew, size_drewN'] <;> omega)))
  have hsz : ((w1.alloc (.cells #[.int .i64 0] 2 (0, 0))).alloc (.cells #[.int .i64 0] 2 (0, 0))).heap.size = w1.heap.size + 1 + 1 := by simp
  generalize (w1.alloc (.cells #[.int .i64 0] 2 (0, 0))).alloc (.cells #[.int .i64 0] 2 (0, 0)) = W at *
  have hi1 : w.heap.size < w1.heap.size := by have := hG.size; simp only [World.size_alloc] at this; omega
  have hRW := hR.next bz
  have hbW := below_blk bz hi1 hbox
  have hGW : w.grownBy W (some b) := grown_after ((Below.refl _ _).alloc (Nat.le_refl _) _) (grown_trans hG (grown_of_below bz (Nat.le_refl _) _))
  have c0 := blk_cell' hbW 0
  have k0 := hRW.c.1
  have k1 := hRW.c.2.1
  have HH := Lib.hid hh
  have HM := Lib.hid hm
  have HSZ := Lib.hid hsz
  have HBW := Lib.hid hbW
  clear hh hm hsz hbW hbox hG hR bz
  go_quiet (fail)
  generalize hWd : W.drewN _ = V at *
  have hV : Below W.heap.size W V := by rw [← hWd]; exact below_drewN (Below.refl _ _) _
  have hVs : V.heap.size = W.heap.size := by rw [← hWd]; rfl
  have HVS := Lib.hid hVs
  clear hWd hVs
  go_wp2_with fail
  have bV : Below V.heap.size V (V.alloc (.cells #[.func (.func 97) #[] #[.pointer (some ⟨w.heap.size, 0, none⟩)], .func (.func 98) #[] #[.pointer (some ⟨w.heap.size, 0, none⟩), .pointer (some ⟨w1.heap.size, 0, none⟩)], .func (.func 99) #[] #[.pointer (some ⟨w.heap.size, 0, none⟩)], .func (.func 100) #[] #[.pointer (some ⟨w.heap.size, 0, none⟩), .pointer (some ⟨w1.heap.size + 1, 0, none⟩)]] 22 (0, 0))) := (Below.refl _ _).alloc (Nat.le_refl _) _
  have bWV := hV.trans (bV.mono hV.size)
  have t0 : Pl w (V.alloc (.cells #[.func (.func 97) #[] #[.pointer (some ⟨w.heap.size, 0, none⟩)], .func (.func 98) #[] #[.pointer (some ⟨w.heap.size, 0, none⟩), .pointer (some ⟨w1.heap.size, 0, none⟩)], .func (.func 99) #[] #[.pointer (some ⟨w.heap.size, 0, none⟩)], .func (.func 100) #[] #[.pointer (some ⟨w.heap.size, 0, none⟩), .pointer (some ⟨w1.heap.size + 1, 0, none⟩)]] 22 (0, 0))) b w1.heap.size V.heap.size r 0 0 := ⟨grown_trans hGW (grown_of_below bWV (Nat.le_refl _) _), hRW.next bWV, h.lt, hi1, by rw [HVS.out, HSZ.out]; omega, below_blk bWV (by rw [HSZ.out]; omega) HBW.out, below_blk bWV (by rw [HSZ.out]; omega) HH.out, below_blk bWV (by rw [HSZ.out]; omega) HM.out, heap_new' _ _ _ rfl⟩
  generalize V.alloc (.cells #[.func (.func 97) #[] #[.pointer (some ⟨w.heap.size, 0, none⟩)], .func (.func 98) #[] #[.pointer (some ⟨w.heap.size, 0, none⟩), .pointer (some ⟨w1.heap.size, 0, none⟩)], .func (.func 99) #[] #[.pointer (some ⟨w.heap.size, 0, none⟩)], .func (.func 100) #[] #[.pointer (some ⟨w.heap.size, 0, none⟩), .pointer (some ⟨w1.heap.size + 1, 0, none⟩)]] 22 (0, 0)) = U at *
  have hUV : V.heap.size < U.heap.size := blk_lt' t0.st
  generalize w1.heap.size = hb at *
  generalize V.heap.size = sb at *
  clear c0 k0 k1
  obtain ⟨c0, ch, cm, s0, s1, s2, s3, c9, f9, hbl⟩ := t0.cells
  clear HH HM HSZ HBW HVS hGW hRW hV bV bWV CZ hi1
  refine wp_loop_rounds 2 ?_
  rw [rounds_succ]
  go_wp2_with (first | (go_at_call 97; (with_reducible refine (C1 _ t0.R c0).mono ?_); rintro e w2 ⟨rfl, hR, hG⟩; have t1 := t0.row hG hR; obtain ⟨c0, ch, cm, s0, s1, s2, s3, c9, f9, hbl⟩ := t1.cells) | (go_at_call 98; (with_reducible refine (C2 _ _ (hK _ t1.G) t1.R c0).mono ?_); rintro e w3 ⟨rfl, hB3⟩; have t2 := t1.below hB3))
  rw [rounds_succ]
  go_wp2_with (first | (go_at_call 97; (with_reducible refine (C1 _ t0.R c0).mono ?_); rintro e w2 ⟨rfl, hR, hG⟩; have t1 := t0.row hG hR; obtain ⟨c0, ch, cm, s0, s1, s2, s3, c9, f9, hbl⟩ := t1.cells) | (go_at_call 98; (with_reducible refine (C2 _ _ (hK _ t1.G) t1.R c0).mono ?_); rintro e w3 ⟨rfl, hB3⟩; have t2 := t1.below hB3))
  rw [← HQ.out]
  exact ⟨rfl, t2.R, t2.G⟩
set_option maxRecDepth 100000 in
set_option maxHeartbeats 4000000 in
theorem place_l3m (r : Rv) (b : Nat) (hs : r.s.size ≤ 140737488355328) (ha : r.a < r.s.size) (kc : ((r.s[r.a].toNat : Int) == 45) = true) (a1 : Nat) (h1 : sigT [43, 45] r = (true, { r with a := a1 })) (hle1 : a1 ≤ r.s.size) (hv : Int) (a2 : Nat) (h2 : numS r.s.data.toList a1 2 0 23 = some hv) (e2 : (a1 : Int) + 2 = (a2 : Int)) (h3 : sigT [58] { r with a := a2 } = (false, { r with a := a2 })) (w : World) (hK : ∀ W, w.grownBy W (some b) → LayS W) (h : RvAt w b r) (hz : sigT [90] r = (false, r)) :
    Calls Tryz.prog 62 #[.pointer (some ⟨b, 0, none⟩)] w (StepPost w b (false, { r with a := a2 })) := by
  have kA : decide ((r.a : Int) < (r.s.size : Int)) = true := by simp; omega
  have C1 : ∀ W, RvAt W b r → W.cell? ⟨w.heap.size, 0, none⟩ = some (.pointer (some ⟨b, 0, none⟩)) → Calls Tryz.prog 97 #[.pointer (some ⟨w.heap.size, 0, none⟩)] W (StepPost W b (true, { r with a := a1 })) := fun W hR hc => h1 ▸ place_step1 r b w.heap.size hs W hR hc
  have C2 : ∀ W V, LayS W → RvAt W b { r with a := a1 } → W.cell? ⟨w.heap.size, 0, none⟩ = some (.pointer (some ⟨b, 0, none⟩)) → W.heap[V]? = some (.cells #[.int .i64 0] 2 (0, 0)) → V ≠ b → Calls Tryz.prog 98 #[.pointer (some ⟨w.heap.size, 0, none⟩), .pointer (some ⟨V, 0, none⟩)] W fun e w' => e = .returned (.bool true) ∧ ∃ w1, Below W.heap.size W w1 ∧ w' = (w1.setCell ⟨V, 0, none⟩ (.int .i64 hv)).setCell ⟨b, 1, none⟩ (.int .i64 (a2 : Int)) := fun W V hL hR hc hV hne => by rw [← e2]; exact place_yes2 { r with a := a1 } b w.heap.size V hv 0 hs hle1 h2 W hL hR hc hV hne
  have C3 : ∀ W, RvAt W b { r with a := a2 } → W.cell? ⟨w.heap.size, 0, none⟩ = some (.pointer (some ⟨b, 0, none⟩)) → Calls Tryz.prog 99 #[.pointer (some ⟨w.heap.size, 0, none⟩)] W (StepPost W b (false, { r with a := a2 })) := fun W hR hc => h3 ▸ place_step3 { r with a := a2 } b w.heap.size hs W hR hc
  have hmf : ∀ (fn : Fn) (first cap : Array Value) (w : World), (Instr.makeFunc fn first cap).run Tryz.prog w = .ok (.func fn first cap) w := fun _ _ _ _ => rfl
  have CZ := fun W hR => sigT_step ⟨#[90]⟩ r b hs W hR
  have e90 : (⟨#[90]⟩ : ByteArray).data.toList = [90] := rfl
  rw [e90, hz] at CZ
  generalize hP : StepPost w b (false, { r with a := a2 }) = Q
  have HQ := Lib.hid hP
  clear hP
  go_enter Tryz.func62, Tryz.ntmps62
  go_wp2_with fail
  refine (CZ _ (h.next ((Below.refl _ _).alloc (Nat.le_refl _) _))).mono ?_
  rintro e w1 ⟨rfl, hR, hG⟩
  have hbox : w1.heap[w.heap.size]? = some (.cells #[.pointer (some ⟨b, 0, none⟩)] 80 (0, 0)) := grown_blk hG (heap_new' _ _ _ rfl) (fun e => by have := h.lt; have := Option.some.inj e; omega)
  go_wp2_with fail
  have bz : Below w1.heap.size w1 ((w1.alloc (.cells #[.int .i64 0] 2 (0, 0))).alloc (.cells #[.int .i64 0] 2 (0, 0))) := by go_grown
  have hh : ((w1.alloc (.cells #[.int .i64 0] 2 (0, 0))).alloc (.cells #[.int .i64 0] 2 (0, 0))).heap[w1.heap.size]? = some (.cells #[.int .i64 0] 2 (0, 0)) := (heap_old' _ _ _ (by first | omega | (simp only [World.size_alloc, World.size_setCell, World.size_drew, size_drewN'] <;> omega)) (heap_new' _ _ _ (by first | omega | (simp only [World.size_alloc, World.size_setCell, World.size_drew, size_drewN'] <;> omega))))
  have hm : ((w1.alloc (.cells #[.int .i64 0] 2 (0, 0))).alloc (.cells #[.int .i64 0] 2 (0, 0))).heap[w1.heap.size + 1]? = some (.cells #[.int .i64 0] 2 (0, 0)) := (heap_new' _ _ _ (by first | omega | (simp only [World.size_alloc, World.size_setCell, World.size_drew, size_drewN'] <;> omega)))
  have hsz : ((w1.alloc (.cells #[.int .i64 0] 2 (0, 0))).alloc (.cells #[.int .i64 0] 2 (0, 0))).heap.size = w1.heap.size + 1 + 1 := by simp
  generalize (w1.alloc (.cells #[.int .i64 0] 2 (0, 0))).alloc (.cells #[.int .i64 0] 2 (0, 0)) = W at *
  have hi1 : w.heap.size < w1.heap.size := by have := hG.size; simp only [World.size_alloc] at this; omega
  have hRW := hR.next bz
  have hbW := below_blk bz hi1 hbox
  have hGW : w.grownBy W (some b) := grown_after ((Below.refl _ _).alloc (Nat.le_refl _) _) (grown_trans hG (grown_of_below bz (Nat.le_refl _) _))
  have c0 := blk_cell' hbW 0
  have k0 := hRW.c.1
  have k1 := hRW.c.2.1
  have HH := Lib.hid hh
  have HM := Lib.hid hm
  have HSZ := Lib.hid hsz
  have HBW := Lib.hid hbW
  clear hh hm hsz hbW hbox hG hR bz
  go_quiet (fail)
  generalize hWd : W.drewN _ = V at *
  have hV : Below W.heap.size W V := by rw [← hWd]; exact below_drewN (Below.refl _ _) _
  have hVs : V.heap.size = W.heap.size := by rw [← hWd]; rfl
  have HVS := Lib.hid hVs
  clear hWd hVs
  go_wp2_with fail
  have bV : Below V.heap.size V (V.alloc (.cells #[.func (.func 97) #[] #[.pointer (some ⟨w.heap.size, 0, none⟩)], .func (.func 98) #[] #[.pointer (some ⟨w.heap.size, 0, none⟩), .pointer (some ⟨w1.heap.size, 0, none⟩)], .func (.func 99) #[] #[.pointer (some ⟨w.heap.size, 0, none⟩)], .func (.func 100) #[] #[.pointer (some ⟨w.heap.size, 0, none⟩), .pointer (some ⟨w1.heap.size + 1, 0, none⟩)]] 22 (0, 0))) := (Below.refl _ _).alloc (Nat.le_refl _) _
  have bWV := hV.trans (bV.mono hV.size)
  have t0 : Pl w (V.alloc (.cells #[.func (.func 97) #[] #[.pointer (some ⟨w.heap.size, 0, none⟩)], .func (.func 98) #[] #[.pointer (some ⟨w.heap.size, 0, none⟩), .pointer (some ⟨w1.heap.size, 0, none⟩)], .func (.func 99) #[] #[.pointer (some ⟨w.heap.size, 0, none⟩)], .func (.func 100) #[] #[.pointer (some ⟨w.heap.size, 0, none⟩), .pointer (some ⟨w1.heap.size + 1, 0, none⟩)]] 22 (0, 0))) b w1.heap.size V.heap.size r 0 0 := ⟨grown_trans hGW (grown_of_below bWV (Nat.le_refl _) _), hRW.next bWV, h.lt, hi1, by rw [HVS.out, HSZ.out]; omega, below_blk bWV (by rw [HSZ.out]; omega) HBW.out, below_blk bWV (by rw [HSZ.out]; omega) HH.out, below_blk bWV (by rw [HSZ.out]; omega) HM.out, heap_new' _ _ _ rfl⟩
  generalize V.alloc (.cells #[.func (.func 97) #[] #[.pointer (some ⟨w.heap.size, 0, none⟩)], .func (.func 98) #[] #[.pointer (some ⟨w.heap.size, 0, none⟩), .pointer (some ⟨w1.heap.size, 0, none⟩)], .func (.func 99) #[] #[.pointer (some ⟨w.heap.size, 0, none⟩)], .func (.func 100) #[] #[.pointer (some ⟨w.heap.size, 0, none⟩), .pointer (some ⟨w1.heap.size + 1, 0, none⟩)]] 22 (0, 0)) = U at *
  have hUV : V.heap.size < U.heap.size := blk_lt' t0.st
  generalize w1.heap.size = hb at *
  generalize V.heap.size = sb at *
  clear c0 k0 k1
  obtain ⟨c0, ch, cm, s0, s1, s2, s3, c9, f9, hbl⟩ := t0.cells
  clear HH HM HSZ HBW HVS hGW hRW hV bV bWV CZ hi1
  refine wp_loop_rounds 3 ?_
  rw [rounds_succ]
  go_wp2_with (first | (go_at_call 97; (with_reducible refine (C1 _ t0.R c0).mono ?_); rintro e w2 ⟨rfl, hR, hG⟩; have t1 := t0.row hG hR; obtain ⟨c0, ch, cm, s0, s1, s2, s3, c9, f9, hbl⟩ := t1.cells) | (go_at_call 98; (with_reducible refine (C2 _ _ (hK _ t1.G) t1.R c0 t1.hh (by have := t1.lo; have := t1.hi; omega)).mono ?_); rintro e w3 ⟨rfl, w4, hB3, rfl⟩; have t2 : Pl w _ b hb sb { r with a := a2 } hv 0 := t1.seth hB3 hv a2; obtain ⟨c0, ch, cm, s0, s1, s2, s3, c9, f9, hbl⟩ := t2.cells) | (go_at_call 99; (with_reducible refine (C3 _ t2.R c0).mono ?_); rintro e w5 ⟨rfl, hR, hG⟩; have t3 := t2.row hG hR; obtain ⟨c0, ch, cm, s0, s1, s2, s3, c9, f9, hbl⟩ := t3.cells))
  rw [rounds_succ]
  go_wp2_with (first | (go_at_call 97; (with_reducible refine (C1 _ t0.R c0).mono ?_); rintro e w2 ⟨rfl, hR, hG⟩; have t1 := t0.row hG hR; obtain ⟨c0, ch, cm, s0, s1, s2, s3, c9, f9, hbl⟩ := t1.cells) | (go_at_call 98; (with_reducible refine (C2 _ _ (hK _ t1.G) t1.R c0 t1.hh (by have := t1.lo; have := t1.hi; omega)).mono ?_); rintro e w3 ⟨rfl, w4, hB3, rfl⟩; have t2 : Pl w _ b hb sb { r with a := a2 } hv 0 := t1.seth hB3 hv a2; obtain ⟨c0, ch, cm, s0, s1, s2, s3, c9, f9, hbl⟩ := t2.cells) | (go_at_call 99; (with_reducible refine (C3 _ t2.R c0).mono ?_); rintro e w5 ⟨rfl, hR, hG⟩; have t3 := t2.row hG hR; obtain ⟨c0, ch, cm, s0, s1, s2, s3, c9, f9, hbl⟩ := t3.cells))
  rw [rounds_succ]
  go_wp2_with (first | (go_at_call 97; (with_reducible refine (C1 _ t0.R c0).mono ?_); rintro e w2 ⟨rfl, hR, hG⟩; have t1 := t0.row hG hR; obtain ⟨c0, ch, cm, s0, s1, s2, s3, c9, f9, hbl⟩ := t1.cells) | (go_at_call 98; (with_reducible refine (C2 _ _ (hK _ t1.G) t1.R c0 t1.hh (by have := t1.lo; have := t1.hi; omega)).mono ?_); rintro e w3 ⟨rfl, w4, hB3, rfl⟩; have t2 : Pl w _ b hb sb { r with a := a2 } hv 0 := t1.seth hB3 hv a2; obtain ⟨c0, ch, cm, s0, s1, s2, s3, c9, f9, hbl⟩ := t2.cells) | (go_at_call 99; (with_reducible refine (C3 _ t2.R c0).mono ?_); rintro e w5 ⟨rfl, hR, hG⟩; have t3 := t2.row hG hR; obtain ⟨c0, ch, cm, s0, s1, s2, s3, c9, f9, hbl⟩ := t3.cells))
  rw [← HQ.out]
  exact ⟨rfl, t3.R, t3.G⟩
set_option maxRecDepth 100000 in
set_option maxHeartbeats 4000000 in
theorem place_l4m (r : Rv) (b : Nat) (hs : r.s.size ≤ 140737488355328) (ha : r.a < r.s.size) (kc : ((r.s[r.a].toNat : Int) == 45) = true) (a1 : Nat) (h1 : sigT [43, 45] r = (true, { r with a := a1 })) (hle1 : a1 ≤ r.s.size) (hv : Int) (a2 : Nat) (h2 : numS r.s.data.toList a1 2 0 23 = some hv) (e2 : (a1 : Int) + 2 = (a2 : Int)) (a3 : Nat) (h3 : sigT [58] { r with a := a2 } = (true, { r with a := a3 })) (hle3 : a3 ≤ r.s.size) (h4 : numS r.s.data.toList a3 2 0 59 = none) (w : World) (hK : ∀ W, w.grownBy W (some b) → LayS W) (h : RvAt w b r) (hz : sigT [90] r = (false, r)) :
    Calls Tryz.prog 62 #[.pointer (some ⟨b, 0, none⟩)] w (StepPost w b (false, { r with a := a3 })) := by
  have kA : decide ((r.a : Int) < (r.s.size : Int)) = true := by simp; omega
  have C1 : ∀ W, RvAt W b r → W.cell? ⟨w.heap.size, 0, none⟩ = some (.pointer (some ⟨b, 0, none⟩)) → Calls Tryz.prog 97 #[.pointer (some ⟨w.heap.size, 0, none⟩)] W (StepPost W b (true, { r with a := a1 })) := fun W hR hc => h1 ▸ place_step1 r b w.heap.size hs W hR hc
  have C2 : ∀ W V, LayS W → RvAt W b { r with a := a1 } → W.cell? ⟨w.heap.size, 0, none⟩ = some (.pointer (some ⟨b, 0, none⟩)) → W.heap[V]? = some (.cells #[.int .i64 0] 2 (0, 0)) → V ≠ b → Calls Tryz.prog 98 #[.pointer (some ⟨w.heap.size, 0, none⟩), .pointer (some ⟨V, 0, none⟩)] W fun e w' => e = .returned (.bool true) ∧ ∃ w1, Below W.heap.size W w1 ∧ w' = (w1.setCell ⟨V, 0, none⟩ (.int .i64 hv)).setCell ⟨b, 1, none⟩ (.int .i64 (a2 : Int)) := fun W V hL hR hc hV hne => by rw [← e2]; exact place_yes2 { r with a := a1 } b w.heap.size V hv 0 hs hle1 h2 W hL hR hc hV hne
  have C3 : ∀ W, RvAt W b { r with a := a2 } → W.cell? ⟨w.heap.size, 0, none⟩ = some (.pointer (some ⟨b, 0, none⟩)) → Calls Tryz.prog 99 #[.pointer (some ⟨w.heap.size, 0, none⟩)] W (StepPost W b (true, { r with a := a3 })) := fun W hR hc => h3 ▸ place_step3 { r with a := a2 } b w.heap.size hs W hR hc
  have C4 : ∀ W V, LayS W → RvAt W b { r with a := a3 } → W.cell? ⟨w.heap.size, 0, none⟩ = some (.pointer (some ⟨b, 0, none⟩)) → Calls Tryz.prog 100 #[.pointer (some ⟨w.heap.size, 0, none⟩), .pointer (some ⟨V, 0, none⟩)] W fun e w' => e = .returned (.bool false) ∧ Below W.heap.size W w' := fun W V hL hR hc => place_no4 { r with a := a3 } b w.heap.size V hs hle3 h4 W hL hR hc
  have hmf : ∀ (fn : Fn) (first cap : Array Value) (w : World), (Instr.makeFunc fn first cap).run Tryz.prog w = .ok (.func fn first cap) w := fun _ _ _ _ => rfl
  have CZ := fun W hR => sigT_step ⟨#[90]⟩ r b hs W hR
  have e90 : (⟨#[90]⟩ : ByteArray).data.toList = [90] := rfl
  rw [e90, hz] at CZ
  generalize hP : StepPost w b (false, { r with a := a3 }) = Q
  have HQ := Lib.hid hP
  clear hP
  go_enter Tryz.func62, Tryz.ntmps62
  go_wp2_with fail
  refine (CZ _ (h.next ((Below.refl _ _).alloc (Nat.le_refl _) _))).mono ?_
  rintro e w1 ⟨rfl, hR, hG⟩
  have hbox : w1.heap[w.heap.size]? = some (.cells #[.pointer (some ⟨b, 0, none⟩)] 80 (0, 0)) := grown_blk hG (heap_new' _ _ _ rfl) (fun e => by have := h.lt; have := Option.some.inj e; omega)
  go_wp2_with fail
  have bz : Below w1.heap.size w1 ((w1.alloc (.cells #[.int .i64 0] 2 (0, 0))).alloc (.cells #[.int .i64 0] 2 (0, 0))) := by go_grown
  have hh : ((w1.alloc (.cells #[.int .i64 0] 2 (0, 0))).alloc (.cells #[.int .i64 0] 2 (0, 0))).heap[w1.heap.size]? = some (.cells #[.int .i64 0] 2 (0, 0)) := (heap_old' _ _ _ (by first | omega | (simp only [World.size_alloc, World.size_setCell, World.size_drew, size_drewN'] <;> omega)) (heap_new' _ _ _ (by first | omega | (simp only [World.size_alloc, World.size_setCell, World.size_drew, size_drewN'] <;> omega))))
  have hm : ((w1.alloc (.cells #[.int .i64 0] 2 (0, 0))).alloc (.cells #[.int .i64 0] 2 (0, 0))).heap[w1.heap.size + 1]? = some (.cells #[.int .i64 0] 2 (0, 0)) := (heap_new' _ _ _ (by first | omega | (simp only [World.size_alloc, World.size_setCell, World.size_drew, size_drewN'] <;> omega)))
  have hsz : ((w1.alloc (.cells #[.int .i64 0] 2 (0, 0))).alloc (.cells #[.int .i64 0] 2 (0, 0))).heap.size = w1.heap.size + 1 + 1 := by simp
  generalize (w1.alloc (.cells #[.int .i64 0] 2 (0, 0))).alloc (.cells #[.int .i64 0] 2 (0, 0)) = W at *
  have hi1 : w.heap.size < w1.heap.size := by have := hG.size; simp only [World.size_alloc] at this; omega
  have hRW := hR.next bz
  have hbW := below_blk bz hi1 hbox
  have hGW : w.grownBy W (some b) := grown_after ((Below.refl _ _).alloc (Nat.le_refl _) _) (grown_trans hG (grown_of_below bz (Nat.le_refl _) _))
  have c0 := blk_cell' hbW 0
  have k0 := hRW.c.1
  have k1 := hRW.c.2.1
  have HH := Lib.hid hh
  have HM := Lib.hid hm
  have HSZ := Lib.hid hsz
  have HBW := Lib.hid hbW
  clear hh hm hsz hbW hbox hG hR bz
  go_quiet (fail)
  generalize hWd : W.drewN _ = V at *
  have hV : Below W.heap.size W V := by rw [← hWd]; exact below_drewN (Below.refl _ _) _
  have hVs : V.heap.size = W.heap.size := by rw [← hWd]; rfl
  have HVS := Lib.hid hVs
  clear hWd hVs
  go_wp2_with fail
  have bV : Below V.heap.size V (V.alloc (.cells #[.func (.func 97) #[] #[.pointer (some ⟨w.heap.size, 0, none⟩)], .func (.func 98) #[] #[.pointer (some ⟨w.heap.size, 0, none⟩), .pointer (some ⟨w1.heap.size, 0, none⟩)], .func (.func 99) #[] #[.pointer (some ⟨w.heap.size, 0, none⟩)], .func (.func 100) #[] #[.pointer (some ⟨w.heap.size, 0, none⟩), .pointer (some ⟨w1.heap.size + 1, 0, none⟩)]] 22 (0, 0))) := (Below.refl _ _).alloc (Nat.le_refl _) _
  have bWV := hV.trans (bV.mono hV.size)
  have t0 : Pl w (V.alloc (.cells #[.func (.func 97) #[] #[.pointer (some ⟨w.heap.size, 0, none⟩)], .func (.func 98) #[] #[.pointer (some ⟨w.heap.size, 0, none⟩), .pointer (some ⟨w1.heap.size, 0, none⟩)], .func (.func 99) #[] #[.pointer (some ⟨w.heap.size, 0, none⟩)], .func (.func 100) #[] #[.pointer (some ⟨w.heap.size, 0, none⟩), .pointer (some ⟨w1.heap.size + 1, 0, none⟩)]] 22 (0, 0))) b w1.heap.size V.heap.size r 0 0 := ⟨grown_trans hGW (grown_of_below bWV (Nat.le_refl _) _), hRW.next bWV, h.lt, hi1, by rw [HVS.out, HSZ.out]; omega, below_blk bWV (by rw [HSZ.out]; omega) HBW.out, below_blk bWV (by rw [HSZ.out]; omega) HH.out, below_blk bWV (by rw [HSZ.out]; omega) HM.out, heap_new' _ _ _ rfl⟩
  generalize V.alloc (.cells #[.func (.func 97) #[] #[.pointer (some ⟨w.heap.size, 0, none⟩)], .func (.func 98) #[] #[.pointer (some ⟨w.heap.size, 0, none⟩), .pointer (some ⟨w1.heap.size, 0, none⟩)], .func (.func 99) #[] #[.pointer (some ⟨w.heap.size, 0, none⟩)], .func (.func 100) #[] #[.pointer (some ⟨w.heap.size, 0, none⟩), .pointer (some ⟨w1.heap.size + 1, 0, none⟩)]] 22 (0, 0)) = U at *
  have hUV : V.heap.size < U.heap.size := blk_lt' t0.st
  generalize w1.heap.size = hb at *
  generalize V.heap.size = sb at *
  clear c0 k0 k1
  obtain ⟨c0, ch, cm, s0, s1, s2, s3, c9, f9, hbl⟩ := t0.cells
  clear HH HM HSZ HBW HVS hGW hRW hV bV bWV CZ hi1
  refine wp_loop_rounds 4 ?_
  rw [rounds_succ]
  go_wp2_with (first | (go_at_call 97; (with_reducible refine (C1 _ t0.R c0).mono ?_); rintro e w2 ⟨rfl, hR, hG⟩; have t1 := t0.row hG hR; obtain ⟨c0, ch, cm, s0, s1, s2, s3, c9, f9, hbl⟩ := t1.cells) | (go_at_call 98; (with_reducible refine (C2 _ _ (hK _ t1.G) t1.R c0 t1.hh (by have := t1.lo; have := t1.hi; omega)).mono ?_); rintro e w3 ⟨rfl, w4, hB3, rfl⟩; have t2 : Pl w _ b hb sb { r with a := a2 } hv 0 := t1.seth hB3 hv a2; obtain ⟨c0, ch, cm, s0, s1, s2, s3, c9, f9, hbl⟩ := t2.cells) | (go_at_call 99; (with_reducible refine (C3 _ t2.R c0).mono ?_); rintro e w5 ⟨rfl, hR, hG⟩; have t3 := t2.row hG hR; obtain ⟨c0, ch, cm, s0, s1, s2, s3, c9, f9, hbl⟩ := t3.cells) | (go_at_call 100; (with_reducible refine (C4 _ _ (hK _ t3.G) t3.R c0).mono ?_); rintro e w6 ⟨rfl, hB6⟩; have t4 := t3.below hB6))
  rw [rounds_succ]
  go_wp2_with (first | (go_at_call 97; (with_reducible refine (C1 _ t0.R c0).mono ?_); rintro e w2 ⟨rfl, hR, hG⟩; have t1 := t0.row hG hR; obtain ⟨c0, ch, cm, s0, s1, s2, s3, c9, f9, hbl⟩ := t1.cells) | (go_at_call 98; (with_reducible refine (C2 _ _ (hK _ t1.G) t1.R c0 t1.hh (by have := t1.lo; have := t1.hi; omega)).mono ?_); rintro e w3 ⟨rfl, w4, hB3, rfl⟩; have t2 : Pl w _ b hb sb { r with a := a2 } hv 0 := t1.seth hB3 hv a2; obtain ⟨c0, ch, cm, s0, s1, s2, s3, c9, f9, hbl⟩ := t2.cells) | (go_at_call 99; (with_reducible refine (C3 _ t2.R c0).mono ?_); rintro e w5 ⟨rfl, hR, hG⟩; have t3 := t2.row hG hR; obtain ⟨c0, ch, cm, s0, s1, s2, s3, c9, f9, hbl⟩ := t3.cells) | (go_at_call 100; (with_reducible refine (C4 _ _ (hK _ t3.G) t3.R c0).mono ?_); rintro e w6 ⟨rfl, hB6⟩; have t4 := t3.below hB6))
  rw [rounds_succ]
  go_wp2_with (first | (go_at_call 97; (with_reducible refine (C1 _ t0.R c0).mono ?_); rintro e w2 ⟨rfl, hR, hG⟩; have t1 := t0.row hG hR; obtain ⟨c0, ch, cm, s0, s1, s2, s3, c9, f9, hbl⟩ := t1.cells) | (go_at_call 98; (with_reducible refine (C2 _ _ (hK _ t1.G) t1.R c0 t1.hh (by have := t1.lo; have := t1.hi; omega)).mono ?_); rintro e w3 ⟨rfl, w4, hB3, rfl⟩; have t2 : Pl w _ b hb sb { r with a := a2 } hv 0 := t1.seth hB3 hv a2; obtain ⟨c0, ch, cm, s0, s1, s2, s3, c9, f9, hbl⟩ := t2.cells) | (go_at_call 99; (with_reducible refine (C3 _ t2.R c0).mono ?_); rintro e w5 ⟨rfl, hR, hG⟩; have t3 := t2.row hG hR; obtain ⟨c0, ch, cm, s0, s1, s2, s3, c9, f9, hbl⟩ := t3.cells) | (go_at_call 100; (with_reducible refine (C4 _ _ (hK _ t3.G) t3.R c0).mono ?_); rintro e w6 ⟨rfl, hB6⟩; have t4 := t3.below hB6))
  rw [rounds_succ]
  go_wp2_with (first | (go_at_call 97; (with_reducible refine (C1 _ t0.R c0).mono ?_); rintro e w2 ⟨rfl, hR, hG⟩; have t1 := t0.row hG hR; obtain ⟨c0, ch, cm, s0, s1, s2, s3, c9, f9, hbl⟩ := t1.cells) | (go_at_call 98; (with_reducible refine (C2 _ _ (hK _ t1.G) t1.R c0 t1.hh (by have := t1.lo; have := t1.hi; omega)).mono ?_); rintro e w3 ⟨rfl, w4, hB3, rfl⟩; have t2 : Pl w _ b hb sb { r with a := a2 } hv 0 := t1.seth hB3 hv a2; obtain ⟨c0, ch, cm, s0, s1, s2, s3, c9, f9, hbl⟩ := t2.cells) | (go_at_call 99; (with_reducible refine (C3 _ t2.R c0).mono ?_); rintro e w5 ⟨rfl, hR, hG⟩; have t3 := t2.row hG hR; obtain ⟨c0, ch, cm, s0, s1, s2, s3, c9, f9, hbl⟩ := t3.cells) | (go_at_call 100; (with_reducible refine (C4 _ _ (hK _ t3.G) t3.R c0).mono ?_); rintro e w6 ⟨rfl, hB6⟩; have t4 := t3.below hB6))
  rw [← HQ.out]
  exact ⟨rfl, t4.R, t4.G⟩
set_option maxRecDepth 100000 in
set_option maxHeartbeats 4000000 in
theorem place_l5m (r : Rv) (b : Nat) (hs : r.s.size ≤ 140737488355328) (ha : r.a < r.s.size) (kc : ((r.s[r.a].toNat : Int) == 45) = true) (a1 : Nat) (h1 : sigT [43, 45] r = (true, { r with a := a1 })) (hle1 : a1 ≤ r.s.size) (hv : Int) (a2 : Nat) (h2 : numS r.s.data.toList a1 2 0 23 = some hv) (e2 : (a1 : Int) + 2 = (a2 : Int)) (a3 : Nat) (h3 : sigT [58] { r with a := a2 } = (true, { r with a := a3 })) (hle3 : a3 ≤ r.s.size) (mv : Int) (a4 : Nat) (h4 : numS r.s.data.toList a3 2 0 59 = some mv) (e4 : (a3 : Int) + 2 = (a4 : Int)) (w : World) (hK : ∀ W, w.grownBy W (some b) → LayS W) (h : RvAt w b r) (hz : sigT [90] r = (false, r)) :
    Calls Tryz.prog 62 #[.pointer (some ⟨b, 0, none⟩)] w (StepPost w b (true, { r with z := -(60 * hv + mv), a := a4 })) := by
  have kA : decide ((r.a : Int) < (r.s.size : Int)) = true := by simp; omega
  have C1 : ∀ W, RvAt W b r → W.cell? ⟨w.heap.size, 0, none⟩ = some (.pointer (some ⟨b, 0, none⟩)) → Calls Tryz.prog 97 #[.pointer (some ⟨w.heap.size, 0, none⟩)] W (StepPost W b (true, { r with a := a1 })) := fun W hR hc => h1 ▸ place_step1 r b w.heap.size hs W hR hc
  have C2 : ∀ W V, LayS W → RvAt W b { r with a := a1 } → W.cell? ⟨w.heap.size, 0, none⟩ = some (.pointer (some ⟨b, 0, none⟩)) → W.heap[V]? = some (.cells #[.int .i64 0] 2 (0, 0)) → V ≠ b → Calls Tryz.prog 98 #[.pointer (some ⟨w.heap.size, 0, none⟩), .pointer (some ⟨V, 0, none⟩)] W fun e w' => e = .returned (.bool true) ∧ ∃ w1, Below W.heap.size W w1 ∧ w' = (w1.setCell ⟨V, 0, none⟩ (.int .i64 hv)).setCell ⟨b, 1, none⟩ (.int .i64 (a2 : Int)) := fun W V hL hR hc hV hne => by rw [← e2]; exact place_yes2 { r with a := a1 } b w.heap.size V hv 0 hs hle1 h2 W hL hR hc hV hne
  have C3 : ∀ W, RvAt W b { r with a := a2 } → W.cell? ⟨w.heap.size, 0, none⟩ = some (.pointer (some ⟨b, 0, none⟩)) → Calls Tryz.prog 99 #[.pointer (some ⟨w.heap.size, 0, none⟩)] W (StepPost W b (true, { r with a := a3 })) := fun W hR hc => h3 ▸ place_step3 { r with a := a2 } b w.heap.size hs W hR hc
  have C4 : ∀ W V, LayS W → RvAt W b { r with a := a3 } → W.cell? ⟨w.heap.size, 0, none⟩ = some (.pointer (some ⟨b, 0, none⟩)) → W.heap[V]? = some (.cells #[.int .i64 0] 2 (0, 0)) → V ≠ b → Calls Tryz.prog 100 #[.pointer (some ⟨w.heap.size, 0, none⟩), .pointer (some ⟨V, 0, none⟩)] W fun e w' => e = .returned (.bool true) ∧ ∃ w1, Below W.heap.size W w1 ∧ w' = (w1.setCell ⟨V, 0, none⟩ (.int .i64 mv)).setCell ⟨b, 1, none⟩ (.int .i64 (a4 : Int)) := fun W V hL hR hc hV hne => by rw [← e4]; exact place_yes4 { r with a := a3 } b w.heap.size V mv 0 hs hle3 h4 W hL hR hc hV hne
  have hb0 := numS_some h2
  have mb0 := numS_some h4
  obtain ⟨_, hb1, hb2⟩ := hb0
  obtain ⟨_, mb1, mb2⟩ := mb0
  have hmf : ∀ (fn : Fn) (first cap : Array Value) (w : World), (Instr.makeFunc fn first cap).run Tryz.prog w = .ok (.func fn first cap) w := fun _ _ _ _ => rfl
  have CZ := fun W hR => sigT_step ⟨#[90]⟩ r b hs W hR
  have e90 : (⟨#[90]⟩ : ByteArray).data.toList = [90] := rfl
  rw [e90, hz] at CZ
  generalize hP : StepPost w b (true, { r with z := -(60 * hv + mv), a := a4 }) = Q
  have HQ := Lib.hid hP
  clear hP
  go_enter Tryz.func62, Tryz.ntmps62
  go_wp2_with fail
  refine (CZ _ (h.next ((Below.refl _ _).alloc (Nat.le_refl _) _))).mono ?_
  rintro e w1 ⟨rfl, hR, hG⟩
  have hbox : w1.heap[w.heap.size]? = some (.cells #[.pointer (some ⟨b, 0, none⟩)] 80 (0, 0)) := grown_blk hG (heap_new' _ _ _ rfl) (fun e => by have := h.lt; have := Option.some.inj e; omega)
  go_wp2_with fail
  have bz : Below w1.heap.size w1 ((w1.alloc (.cells #[.int .i64 0] 2 (0, 0))).alloc (.cells #[.int .i64 0] 2 (0, 0))) := by go_grown
  have hh : ((w1.alloc (.cells #[.int .i64 0] 2 (0, 0))).alloc (.cells #[.int .i64 0] 2 (0, 0))).heap[w1.heap.size]? = some (.cells #[.int .i64 0] 2 (0, 0)) := (heap_old' _ _ _ (by first | omega | (simp only [World.size_alloc, World.size_setCell, World.size_drew, size_drewN'] <;> omega)) (heap_new' _ _ _ (by first | omega | (simp only [World.size_alloc, World.size_setCell, World.size_drew, size_drewN'] <;> omega))))
  have hm : ((w1.alloc (.cells #[.int .i64 0] 2 (0, 0))).alloc (.cells #[.int .i64 0] 2 (0, 0))).heap[w1.heap.size + 1]? = some (.cells #[.int .i64 0] 2 (0, 0)) := (heap_new' _ _ _ (by first | omega | (simp only [World.size_alloc, World.size_setCell, World.size_drew, size_drewN'] <;> omega)))
  have hsz : ((w1.alloc (.cells #[.int .i64 0] 2 (0, 0))).alloc (.cells #[.int .i64 0] 2 (0, 0))).heap.size = w1.heap.size + 1 + 1 := by simp
  generalize (w1.alloc (.cells #[.int .i64 0] 2 (0, 0))).alloc (.cells #[.int .i64 0] 2 (0, 0)) = W at *
  have hi1 : w.heap.size < w1.heap.size := by have := hG.size; simp only [World.size_alloc] at this; omega
  have hRW := hR.next bz
  have hbW := below_blk bz hi1 hbox
  have hGW : w.grownBy W (some b) := grown_after ((Below.refl _ _).alloc (Nat.le_refl _) _) (grown_trans hG (grown_of_below bz (Nat.le_refl _) _))
  have c0 := blk_cell' hbW 0
  have k0 := hRW.c.1
  have k1 := hRW.c.2.1
  have HH := Lib.hid hh
  have HM := Lib.hid hm
  have HSZ := Lib.hid hsz
  have HBW := Lib.hid hbW
  clear hh hm hsz hbW hbox hG hR bz
  go_quiet (fail)
  generalize hWd : W.drewN _ = V at *
  have hV : Below W.heap.size W V := by rw [← hWd]; exact below_drewN (Below.refl _ _) _
  have hVs : V.heap.size = W.heap.size := by rw [← hWd]; rfl
  have HVS := Lib.hid hVs
  clear hWd hVs
  go_wp2_with fail
  have bV : Below V.heap.size V (V.alloc (.cells #[.func (.func 97) #[] #[.pointer (some ⟨w.heap.size, 0, none⟩)], .func (.func 98) #[] #[.pointer (some ⟨w.heap.size, 0, none⟩), .pointer (some ⟨w1.heap.size, 0, none⟩)], .func (.func 99) #[] #[.pointer (some ⟨w.heap.size, 0, none⟩)], .func (.func 100) #[] #[.pointer (some ⟨w.heap.size, 0, none⟩), .pointer (some ⟨w1.heap.size + 1, 0, none⟩)]] 22 (0, 0))) := (Below.refl _ _).alloc (Nat.le_refl _) _
  have bWV := hV.trans (bV.mono hV.size)
  have t0 : Pl w (V.alloc (.cells #[.func (.func 97) #[] #[.pointer (some ⟨w.heap.size, 0, none⟩)], .func (.func 98) #[] #[.pointer (some ⟨w.heap.size, 0, none⟩), .pointer (some ⟨w1.heap.size, 0, none⟩)], .func (.func 99) #[] #[.pointer (some ⟨w.heap.size, 0, none⟩)], .func (.func 100) #[] #[.pointer (some ⟨w.heap.size, 0, none⟩), .pointer (some ⟨w1.heap.size + 1, 0, none⟩)]] 22 (0, 0))) b w1.heap.size V.heap.size r 0 0 := ⟨grown_trans hGW (grown_of_below bWV (Nat.le_refl _) _), hRW.next bWV, h.lt, hi1, by rw [HVS.out, HSZ.out]; omega, below_blk bWV (by rw [HSZ.out]; omega) HBW.out, below_blk bWV (by rw [HSZ.out]; omega) HH.out, below_blk bWV (by rw [HSZ.out]; omega) HM.out, heap_new' _ _ _ rfl⟩
  generalize V.alloc (.cells #[.func (.func 97) #[] #[.pointer (some ⟨w.heap.size, 0, none⟩)], .func (.func 98) #[] #[.pointer (some ⟨w.heap.size, 0, none⟩), .pointer (some ⟨w1.heap.size, 0, none⟩)], .func (.func 99) #[] #[.pointer (some ⟨w.heap.size, 0, none⟩)], .func (.func 100) #[] #[.pointer (some ⟨w.heap.size, 0, none⟩), .pointer (some ⟨w1.heap.size + 1, 0, none⟩)]] 22 (0, 0)) = U at *
  have hUV : V.heap.size < U.heap.size := blk_lt' t0.st
  generalize w1.heap.size = hb at *
  generalize V.heap.size = sb at *
  clear c0 k0 k1
  obtain ⟨c0, ch, cm, s0, s1, s2, s3, c9, f9, hbl⟩ := t0.cells
  clear HH HM HSZ HBW HVS hGW hRW hV bV bWV CZ hi1
  refine wp_loop_rounds 5 ?_
  rw [rounds_succ]
  go_wp2_with (first | (go_at_call 97; (with_reducible refine (C1 _ t0.R c0).mono ?_); rintro e w2 ⟨rfl, hR, hG⟩; have t1 := t0.row hG hR; obtain ⟨c0, ch, cm, s0, s1, s2, s3, c9, f9, hbl⟩ := t1.cells) | (go_at_call 98; (with_reducible refine (C2 _ _ (hK _ t1.G) t1.R c0 t1.hh (by have := t1.lo; have := t1.hi; omega)).mono ?_); rintro e w3 ⟨rfl, w4, hB3, rfl⟩; have t2 : Pl w _ b hb sb { r with a := a2 } hv 0 := t1.seth hB3 hv a2; obtain ⟨c0, ch, cm, s0, s1, s2, s3, c9, f9, hbl⟩ := t2.cells) | (go_at_call 99; (with_reducible refine (C3 _ t2.R c0).mono ?_); rintro e w5 ⟨rfl, hR, hG⟩; have t3 := t2.row hG hR; obtain ⟨c0, ch, cm, s0, s1, s2, s3, c9, f9, hbl⟩ := t3.cells) | (go_at_call 100; (with_reducible refine (C4 _ _ (hK _ t3.G) t3.R c0 t3.hm (by have := t3.lo; have := t3.hi; omega)).mono ?_); rintro e w6 ⟨rfl, w7, hB6, rfl⟩; have t4 : Pl w _ b hb sb { r with a := a4 } hv mv := t3.setm hB6 mv a4; obtain ⟨c0, ch, cm, s0, s1, s2, s3, c9, f9, hbl⟩ := t4.cells))
  rw [rounds_succ]
  go_wp2_with (first | (go_at_call 97; (with_reducible refine (C1 _ t0.R c0).mono ?_); rintro e w2 ⟨rfl, hR, hG⟩; have t1 := t0.row hG hR; obtain ⟨c0, ch, cm, s0, s1, s2, s3, c9, f9, hbl⟩ := t1.cells) | (go_at_call 98; (with_reducible refine (C2 _ _ (hK _ t1.G) t1.R c0 t1.hh (by have := t1.lo; have := t1.hi; omega)).mono ?_); rintro e w3 ⟨rfl, w4, hB3, rfl⟩; have t2 : Pl w _ b hb sb { r with a := a2 } hv 0 := t1.seth hB3 hv a2; obtain ⟨c0, ch, cm, s0, s1, s2, s3, c9, f9, hbl⟩ := t2.cells) | (go_at_call 99; (with_reducible refine (C3 _ t2.R c0).mono ?_); rintro e w5 ⟨rfl, hR, hG⟩; have t3 := t2.row hG hR; obtain ⟨c0, ch, cm, s0, s1, s2, s3, c9, f9, hbl⟩ := t3.cells) | (go_at_call 100; (with_reducible refine (C4 _ _ (hK _ t3.G) t3.R c0 t3.hm (by have := t3.lo; have := t3.hi; omega)).mono ?_); rintro e w6 ⟨rfl, w7, hB6, rfl⟩; have t4 : Pl w _ b hb sb { r with a := a4 } hv mv := t3.setm hB6 mv a4; obtain ⟨c0, ch, cm, s0, s1, s2, s3, c9, f9, hbl⟩ := t4.cells))
  rw [rounds_succ]
  go_wp2_with (first | (go_at_call 97; (with_reducible refine (C1 _ t0.R c0).mono ?_); rintro e w2 ⟨rfl, hR, hG⟩; have t1 := t0.row hG hR; obtain ⟨c0, ch, cm, s0, s1, s2, s3, c9, f9, hbl⟩ := t1.cells) | (go_at_call 98; (with_reducible refine (C2 _ _ (hK _ t1.G) t1.R c0 t1.hh (by have := t1.lo; have := t1.hi; omega)).mono ?_); rintro e w3 ⟨rfl, w4, hB3, rfl⟩; have t2 : Pl w _ b hb sb { r with a := a2 } hv 0 := t1.seth hB3 hv a2; obtain ⟨c0, ch, cm, s0, s1, s2, s3, c9, f9, hbl⟩ := t2.cells) | (go_at_call 99; (with_reducible refine (C3 _ t2.R c0).mono ?_); rintro e w5 ⟨rfl, hR, hG⟩; have t3 := t2.row hG hR; obtain ⟨c0, ch, cm, s0, s1, s2, s3, c9, f9, hbl⟩ := t3.cells) | (go_at_call 100; (with_reducible refine (C4 _ _ (hK _ t3.G) t3.R c0 t3.hm (by have := t3.lo; have := t3.hi; omega)).mono ?_); rintro e w6 ⟨rfl, w7, hB6, rfl⟩; have t4 : Pl w _ b hb sb { r with a := a4 } hv mv := t3.setm hB6 mv a4; obtain ⟨c0, ch, cm, s0, s1, s2, s3, c9, f9, hbl⟩ := t4.cells))
  rw [rounds_succ]
  go_wp2_with (first | (go_at_call 97; (with_reducible refine (C1 _ t0.R c0).mono ?_); rintro e w2 ⟨rfl, hR, hG⟩; have t1 := t0.row hG hR; obtain ⟨c0, ch, cm, s0, s1, s2, s3, c9, f9, hbl⟩ := t1.cells) | (go_at_call 98; (with_reducible refine (C2 _ _ (hK _ t1.G) t1.R c0 t1.hh (by have := t1.lo; have := t1.hi; omega)).mono ?_); rintro e w3 ⟨rfl, w4, hB3, rfl⟩; have t2 : Pl w _ b hb sb { r with a := a2 } hv 0 := t1.seth hB3 hv a2; obtain ⟨c0, ch, cm, s0, s1, s2, s3, c9, f9, hbl⟩ := t2.cells) | (go_at_call 99; (with_reducible refine (C3 _ t2.R c0).mono ?_); rintro e w5 ⟨rfl, hR, hG⟩; have t3 := t2.row hG hR; obtain ⟨c0, ch, cm, s0, s1, s2, s3, c9, f9, hbl⟩ := t3.cells) | (go_at_call 100; (with_reducible refine (C4 _ _ (hK _ t3.G) t3.R c0 t3.hm (by have := t3.lo; have := t3.hi; omega)).mono ?_); rintro e w6 ⟨rfl, w7, hB6, rfl⟩; have t4 : Pl w _ b hb sb { r with a := a4 } hv mv := t3.setm hB6 mv a4; obtain ⟨c0, ch, cm, s0, s1, s2, s3, c9, f9, hbl⟩ := t4.cells))
  rw [rounds_succ]
  go_wp2_with (first | (go_at_call 97; (with_reducible refine (C1 _ t0.R c0).mono ?_); rintro e w2 ⟨rfl, hR, hG⟩; have t1 := t0.row hG hR; obtain ⟨c0, ch, cm, s0, s1, s2, s3, c9, f9, hbl⟩ := t1.cells) | (go_at_call 98; (with_reducible refine (C2 _ _ (hK _ t1.G) t1.R c0 t1.hh (by have := t1.lo; have := t1.hi; omega)).mono ?_); rintro e w3 ⟨rfl, w4, hB3, rfl⟩; have t2 : Pl w _ b hb sb { r with a := a2 } hv 0 := t1.seth hB3 hv a2; obtain ⟨c0, ch, cm, s0, s1, s2, s3, c9, f9, hbl⟩ := t2.cells) | (go_at_call 99; (with_reducible refine (C3 _ t2.R c0).mono ?_); rintro e w5 ⟨rfl, hR, hG⟩; have t3 := t2.row hG hR; obtain ⟨c0, ch, cm, s0, s1, s2, s3, c9, f9, hbl⟩ := t3.cells) | (go_at_call 100; (with_reducible refine (C4 _ _ (hK _ t3.G) t3.R c0 t3.hm (by have := t3.lo; have := t3.hi; omega)).mono ?_); rintro e w6 ⟨rfl, w7, hB6, rfl⟩; have t4 : Pl w _ b hb sb { r with a := a4 } hv mv := t3.setm hB6 mv a4; obtain ⟨c0, ch, cm, s0, s1, s2, s3, c9, f9, hbl⟩ := t4.cells))
  rw [← HQ.out]
  exact ⟨rfl, rv_z t4.R _, grown_set t4.G 9 _⟩
end Go.Proofs.YthplpjcadjnfiaaGreatDoor
