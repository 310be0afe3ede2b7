/- Reading a time: the reader's block; a number of so many digits (pair). -/
import Derived.Test.YthplpjcadjnfiaaGreatDoorSw14
import Derived.Test.YthplpjcadjnfiaaGreatDoorSw5
import Derived.Test.YthplpjcadjnfiaaGreatDoorTimeL
import Derived.Deep.RegionWith
namespace Go.Proofs.YthplpjcadjnfiaaGreatDoor
open Go.RowKit
set_option linter.unusedSimpArgs false
set_option linter.unusedVariables false

/-- A reader of a time: the text, the place, what was read. -/
structure Rv where
  s : ByteArray
  a : Nat
  y : Int
  mo : Int
  d : Int
  h : Int
  mi : Int
  sec : Int
  ns : Int
  z : Int
def RvAt (w : World) (b : Nat) (r : Rv) : Prop := w.heap[b]? = some (.cells #[.string r.s, .int .i64 r.a, .int .i64 r.y, .int .i64 r.mo, .int .i64 r.d, .int .i64 r.h, .int .i64 r.mi, .int .i64 r.sec, .int .i64 r.ns, .int .i64 r.z] 82 (0, 0))
theorem RvAt.next {w w' : World} {b : Nat} {r : Rv} (h : RvAt w b r) (hB : Below w.heap.size w w') : RvAt w' b r := below_blk hB (blk_lt' h) h
theorem RvAt.lt {w : World} {b : Nat} {r : Rv} (h : RvAt w b r) : b < w.heap.size := blk_lt' h
theorem digitsQ (s : ByteArray) (hs : s.size ≤ 140737488355328) (w : World) :
    Calls Tryz.prog 36 #[.string s] w fun e w' => e = .returned (.int .i64 (runD s.data.toList)) ∧ w' = w := (span_digits s hs w).mono fun _ _ h => ⟨h.1, h.2.symm⟩
theorem decN_lt (l : List UInt8) (h : ∀ c ∈ l, isD c = true) : decN l < 10 ^ l.length := by
  refine rev_ind (P := fun l => (∀ c ∈ l, isD c = true) → decN l < 10 ^ l.length) (fun _ => by decide) ?_ l h
  intro l c ih h
  have h1 := ih (fun x hx => h x (List.mem_append_left _ hx))
  have h2 := isD_iff.1 (h c (List.mem_append_right _ (List.mem_singleton.2 rfl)))
  show decF 0 (l ++ [c]) < _
  rw [decF_snoc, List.length_append, List.length_singleton, Nat.pow_succ]
  have h3 : decF 0 l < 10 ^ l.length := h1
  omega
/-- What numS says of the digits. -/
theorem num_digits (s : ByteArray) (a n : Nat) (ha : a ≤ s.size) (hn : 1 ≤ n) (hn9 : n ≤ 9) (hD : ¬ runD (s.data.toList.drop a) < n) :
    a + n ≤ s.size ∧ atoiV (s.extract a (a + n)) = ((decN ((s.data.toList.drop a).take n) : Int), true) ∧ decN ((s.data.toList.drop a).take n) ≤ 1000000000 := by
  have hDl : runD (s.data.toList.drop a) ≤ s.size - a := by have := runD_le (s.data.toList.drop a); rw [List.length_drop] at this; exact this
  have hT2 : (s.extract a (a + n)).data.toList = (s.data.toList.drop a).take n := ext_take s a n
  have hlen : ((s.data.toList.drop a).take n).length = n := by
    rw [List.length_take, List.length_drop]
    have h2 : s.data.toList.length = s.size := rfl
    omega
  have hne : (s.data.toList.drop a).take n ≠ [] := by
    intro e
    rw [e] at hlen
    simp at hlen
    omega
  have hall : ∀ c ∈ (s.data.toList.drop a).take n, isD c = true := fun c hc => runD_take _ c (by
    rw [show (s.data.toList.drop a).take n = ((s.data.toList.drop a).take (runD (s.data.toList.drop a))).take n by rw [List.take_take]; congr 1; omega] at hc
    exact List.mem_of_mem_take hc)
  have hA := atoiV_digits (s.extract a (a + n)) (by rw [hT2]; exact hne) (by rw [hT2]; exact hall)
  rw [hT2] at hA
  have hlt := decN_lt _ hall
  rw [hlen] at hlt
  have hp : 10 ^ n ≤ 10 ^ 9 := Nat.pow_le_pow_right (by omega) hn9
  have e9 : (10 : Nat) ^ 9 = 1000000000 := rfl
  rw [if_pos (by omega)] at hA
  exact ⟨by omega, hA, by omega⟩
set_option maxRecDepth 100000 in
set_option maxHeartbeats 2000000 in
theorem pair_no (s : ByteArray) (a n b bt ot : Nat) (lo hi : Int) (hs : s.size ≤ 140737488355328) (ha : a ≤ s.size) (hn : 1 ≤ n) (hn9 : n ≤ 9) (hv : numS s.data.toList a n lo hi = none) (w : World) (hL : LayS w)
    (c0 : w.cell? ⟨b, 0, none⟩ = some (.string s)) (c1 : w.cell? ⟨b, 1, none⟩ = some (.int .i64 (a : Int))) :
    Calls Tryz.prog 48 #[.pointer (some ⟨b, 0, none⟩), .int .i64 (n : Int), .int .i64 lo, .int .i64 hi, .pointer (some ⟨bt, ot, none⟩)] w fun e w' => e = .returned (.bool false) ∧ Below w.heap.size w w' := by
  have hT : (s.extract a s.size).data.toList = s.data.toList.drop a := ext_drop s a
  have CD := fun W => digitsQ (s.extract a s.size) (by simp; omega) W
  have hDl : runD (s.data.toList.drop a) ≤ s.size - a := by have := runD_le (s.data.toList.drop a); rw [List.length_drop] at this; exact this
  rw [hT] at CD
  have hbl := World.block_lt_of_cell? w _ c0
  by_cases hD : runD (s.data.toList.drop a) < n
  · have kD : decide ((runD (s.data.toList.drop a) : Int) < (n : Int)) = true := by simp; omega
    have kD2 : runD (s.data.toList.drop a) < n := hD
    generalize runD (s.data.toList.drop a) = D at *
    clear hv hT hD
    go_enter Tryz.func48, Tryz.ntmps48
    go_wp2_with fail
    go_quiet ((go_at_call 36; exact Calls.quiet_of_same (CD _)))
    go_wp2
    go_ret
    exact ⟨rfl, below_drewN (Below.refl _ _) _⟩
  · have kD : decide ((runD (s.data.toList.drop a) : Int) < (n : Int)) = false := by simp; omega
    have kD2 : ¬ runD (s.data.toList.drop a) < n := hD
    obtain ⟨hle, hA, hv9⟩ := num_digits s a n ha hn hn9 hD
    have CP := fun W hW => strconv_ParseInt (s.extract a (a + n)) (by simp; omega) W hW
    rw [hA] at CP
    have hsl := slice_mid s a n hle
    have hsum : IntKind.i64.wrap ((a : Int) + (n : Int)) = (a : Int) + (n : Int) := by rw [IntKind.wrap_i64]; omega
    have hLD := fun k => hL.below (below_drewN (Below.refl w.heap.size w) k)
    have hout : (decN ((s.data.toList.drop a).take n) : Int) < lo ∨ hi < (decN ((s.data.toList.drop a).take n) : Int) := by
      unfold numS at hv
      by_cases h : n ≤ runD (s.data.toList.drop a) ∧ lo ≤ (decN ((s.data.toList.drop a).take n) : Int) ∧ (decN ((s.data.toList.drop a).take n) : Int) ≤ hi
      · rw [if_pos h] at hv; cases hv
      · omega
    generalize runD (s.data.toList.drop a) = D at *
    generalize decN ((s.data.toList.drop a).take n) = v at *
    by_cases hlo : (v : Int) < lo
    · have kl : decide ((v : Int) < lo) = true := by simpa using hlo
      clear hout hlo
      clear hT hD hA hv
      go_enter Tryz.func48, Tryz.ntmps48
      go_wp2_with fail
      go_quiet ((go_at_call 36; exact Calls.quiet_of_same (CD _)))
      go_wp2_with fail
      generalize hW : w.drewN _ = W at *
      have hb1 : Below w.heap.size w W := by rw [← hW]; exact below_drewN (Below.refl _ _) _
      have hLW : LayS W := hL.below hb1
      have hz : w.heap.size ≤ W.heap.size := hb1.size
      have t0 := (⟨(hb1.cell (p := ⟨b, 0, none⟩) hbl).trans c0, (hb1.cell (p := ⟨b, 1, none⟩) hbl).trans c1⟩ : W.cell? ⟨b, 0, none⟩ = some (.string s) ∧ W.cell? ⟨b, 1, none⟩ = some (.int .i64 (a : Int)))
      have t0d : W.drew.cell? ⟨b, 0, none⟩ = some (.string s) ∧ W.drew.cell? ⟨b, 1, none⟩ = some (.int .i64 (a : Int)) := t0
      have T1 : Hid (∀ w2, Below W.drew.heap.size W.drew w2 → w2.cell? ⟨b, 0, none⟩ = some (.string s) ∧ w2.cell? ⟨b, 1, none⟩ = some (.int .i64 (a : Int))) := Lib.hid (fun w2 h => ⟨(h.cell (p := ⟨b, 0, none⟩) (by show b < W.heap.size; exact Nat.lt_of_lt_of_le hbl hz)).trans t0.1, (h.cell (p := ⟨b, 1, none⟩) (by show b < W.heap.size; exact Nat.lt_of_lt_of_le hbl hz)).trans t0.2⟩)
      have HB1 := Lib.hid hb1
      clear hW hb1 c0 c1
      go_region_held3 (fun w' => w'.cell? ⟨b, 0, none⟩ = some (.string s) ∧ w'.cell? ⟨b, 1, none⟩ = some (.int .i64 (a : Int))) (first | (with_reducible exact t0) | (with_reducible exact t0d) | (with_reducible exact t1)) (first | (go_at_call 38; (with_reducible refine (CP _ (hLW.below (Below.refl _ _).drew)).mono ?_); rintro ev w2 ⟨er, rfl, rfl, hB⟩; have t1 := T1.out w2 hB))
      have HB2 : Hid (Below w.heap.size w w2) := Lib.hid (HB1.out.trans ((show Below W.heap.size W w2 from (Below.refl _ _).drew.trans hB).mono hz))
      obtain ⟨c0, c1⟩ := t1
      go_wp2
      go_ret
      exact ⟨rfl, HB2.out⟩
    · have kl : decide ((v : Int) < lo) = false := by simpa using hlo
      have kh : decide (hi < (v : Int)) = true := by rw [decide_eq_true_iff]; omega
      clear hout hlo
      clear hT hD hA hv
      go_enter Tryz.func48, Tryz.ntmps48
      go_wp2_with fail
      go_quiet ((go_at_call 36; exact Calls.quiet_of_same (CD _)))
      go_wp2_with fail
      generalize hW : w.drewN _ = W at *
      have hb1 : Below w.heap.size w W := by rw [← hW]; exact below_drewN (Below.refl _ _) _
      have hLW : LayS W := hL.below hb1
      have hz : w.heap.size ≤ W.heap.size := hb1.size
      have t0 := (⟨(hb1.cell (p := ⟨b, 0, none⟩) hbl).trans c0, (hb1.cell (p := ⟨b, 1, none⟩) hbl).trans c1⟩ : W.cell? ⟨b, 0, none⟩ = some (.string s) ∧ W.cell? ⟨b, 1, none⟩ = some (.int .i64 (a : Int)))
      have t0d : W.drew.cell? ⟨b, 0, none⟩ = some (.string s) ∧ W.drew.cell? ⟨b, 1, none⟩ = some (.int .i64 (a : Int)) := t0
      have T1 : Hid (∀ w2, Below W.drew.heap.size W.drew w2 → w2.cell? ⟨b, 0, none⟩ = some (.string s) ∧ w2.cell? ⟨b, 1, none⟩ = some (.int .i64 (a : Int))) := Lib.hid (fun w2 h => ⟨(h.cell (p := ⟨b, 0, none⟩) (by show b < W.heap.size; exact Nat.lt_of_lt_of_le hbl hz)).trans t0.1, (h.cell (p := ⟨b, 1, none⟩) (by show b < W.heap.size; exact Nat.lt_of_lt_of_le hbl hz)).trans t0.2⟩)
      have HB1 := Lib.hid hb1
      clear hW hb1 c0 c1
      go_region_held3 (fun w' => w'.cell? ⟨b, 0, none⟩ = some (.string s) ∧ w'.cell? ⟨b, 1, none⟩ = some (.int .i64 (a : Int))) (first | (with_reducible exact t0) | (with_reducible exact t0d) | (with_reducible exact t1)) (first | (go_at_call 38; (with_reducible refine (CP _ (hLW.below (Below.refl _ _).drew)).mono ?_); rintro ev w2 ⟨er, rfl, rfl, hB⟩; have t1 := T1.out w2 hB))
      have HB2 : Hid (Below w.heap.size w w2) := Lib.hid (HB1.out.trans ((show Below W.heap.size W w2 from (Below.refl _ _).drew.trans hB).mono hz))
      obtain ⟨c0, c1⟩ := t1
      go_wp2
      go_ret
      exact ⟨rfl, HB2.out⟩
set_option maxRecDepth 100000 in
set_option maxHeartbeats 2000000 in
theorem pair_yes (s : ByteArray) (a n b bt ot : Nat) (lo hi v : Int) (hs : s.size ≤ 140737488355328) (ha : a ≤ s.size) (hn : 1 ≤ n) (hn9 : n ≤ 9) (hv : numS s.data.toList a n lo hi = some v) (w : World) (hL : LayS w)
    (c0 : w.cell? ⟨b, 0, none⟩ = some (.string s)) (c1 : w.cell? ⟨b, 1, none⟩ = some (.int .i64 (a : Int))) (f1 : w.frozen? ⟨b, 1, none⟩ = false)
    (x0 : Value) (d0 : w.cell? ⟨bt, ot, none⟩ = some x0) (g0 : w.frozen? ⟨bt, ot, none⟩ = false) (hne : bt ≠ b ∨ 2 ≤ ot) :
    Calls Tryz.prog 48 #[.pointer (some ⟨b, 0, none⟩), .int .i64 (n : Int), .int .i64 lo, .int .i64 hi, .pointer (some ⟨bt, ot, none⟩)] w fun e w' => e = .returned (.bool true) ∧ ∃ w1, Below w.heap.size w w1 ∧ w' = (w1.setCell ⟨bt, ot, none⟩ (.int .i64 v)).setCell ⟨b, 1, none⟩ (.int .i64 ((a : Int) + (n : Int))) := by
  have hT : (s.extract a s.size).data.toList = s.data.toList.drop a := ext_drop s a
  have CD := fun W => digitsQ (s.extract a s.size) (by simp; omega) W
  have hDl : runD (s.data.toList.drop a) ≤ s.size - a := by have := runD_le (s.data.toList.drop a); rw [List.length_drop] at this; exact this
  rw [hT] at CD
  have hbl := World.block_lt_of_cell? w _ c0
  have hin : n ≤ runD (s.data.toList.drop a) ∧ lo ≤ (decN ((s.data.toList.drop a).take n) : Int) ∧ (decN ((s.data.toList.drop a).take n) : Int) ≤ hi ∧ v = (decN ((s.data.toList.drop a).take n) : Int) := by
    unfold numS at hv
    by_cases h : n ≤ runD (s.data.toList.drop a) ∧ lo ≤ (decN ((s.data.toList.drop a).take n) : Int) ∧ (decN ((s.data.toList.drop a).take n) : Int) ≤ hi
    · rw [if_pos h] at hv; exact ⟨h.1, h.2.1, h.2.2, (Option.some.inj hv).symm⟩
    · rw [if_neg h] at hv; cases hv
  have hD : ¬ runD (s.data.toList.drop a) < n := by omega
  have kD : decide ((runD (s.data.toList.drop a) : Int) < (n : Int)) = false := by simp; omega
  have kD2 : ¬ runD (s.data.toList.drop a) < n := hD
  obtain ⟨hle, hA, hv9⟩ := num_digits s a n ha hn hn9 hD
  have CP := fun W hW => strconv_ParseInt (s.extract a (a + n)) (by simp; omega) W hW
  rw [hA] at CP
  have hsl := slice_mid s a n hle
  have hsum : IntKind.i64.wrap ((a : Int) + (n : Int)) = (a : Int) + (n : Int) := by rw [IntKind.wrap_i64]; omega
  have hLD := fun k => hL.below (below_drewN (Below.refl w.heap.size w) k)
  obtain ⟨_, h1, h2, rfl⟩ := hin
  have hbt := World.block_lt_of_cell? w _ d0
  have HT : Hid (∀ w2, Below w.heap.size w w2 → w2.cell? ⟨bt, ot, none⟩ = some x0 ∧ w2.frozen? ⟨bt, ot, none⟩ = false ∧ w2.frozen? ⟨b, 1, none⟩ = false) := Lib.hid (fun w2 h => ⟨(h.cell (p := ⟨bt, ot, none⟩) hbt).trans d0, (h.frozen (p := ⟨bt, ot, none⟩) hbt).trans g0, (h.frozen (p := ⟨b, 1, none⟩) hbl).trans f1⟩)
  clear d0 g0 f1
  generalize runD (s.data.toList.drop a) = D at *
  generalize decN ((s.data.toList.drop a).take n) = v at *
  have kl : decide ((v : Int) < lo) = false := by simpa using h1
  have kh : decide (hi < (v : Int)) = false := by simpa using h2
  clear h1 h2
  clear hT hD hA hv
  go_enter Tryz.func48, Tryz.ntmps48
  go_wp2_with fail
  go_quiet ((go_at_call 36; exact Calls.quiet_of_same (CD _)))
  go_wp2_with fail
  generalize hW : w.drewN _ = W at *
  have hb1 : Below w.heap.size w W := by rw [← hW]; exact below_drewN (Below.refl _ _) _
  have hLW : LayS W := hL.below hb1
  have hz : w.heap.size ≤ W.heap.size := hb1.size
  have t0 := (⟨(hb1.cell (p := ⟨b, 0, none⟩) hbl).trans c0, (hb1.cell (p := ⟨b, 1, none⟩) hbl).trans c1⟩ : W.cell? ⟨b, 0, none⟩ = some (.string s) ∧ W.cell? ⟨b, 1, none⟩ = some (.int .i64 (a : Int)))
  have t0d : W.drew.cell? ⟨b, 0, none⟩ = some (.string s) ∧ W.drew.cell? ⟨b, 1, none⟩ = some (.int .i64 (a : Int)) := t0
  have T1 : Hid (∀ w2, Below W.drew.heap.size W.drew w2 → w2.cell? ⟨b, 0, none⟩ = some (.string s) ∧ w2.cell? ⟨b, 1, none⟩ = some (.int .i64 (a : Int))) := Lib.hid (fun w2 h => ⟨(h.cell (p := ⟨b, 0, none⟩) (by show b < W.heap.size; exact Nat.lt_of_lt_of_le hbl hz)).trans t0.1, (h.cell (p := ⟨b, 1, none⟩) (by show b < W.heap.size; exact Nat.lt_of_lt_of_le hbl hz)).trans t0.2⟩)
  have HB1 := Lib.hid hb1
  clear hW hb1 c0 c1
  go_region_held3 (fun w' => w'.cell? ⟨b, 0, none⟩ = some (.string s) ∧ w'.cell? ⟨b, 1, none⟩ = some (.int .i64 (a : Int))) (first | (with_reducible exact t0) | (with_reducible exact t0d) | (with_reducible exact t1)) (first | (go_at_call 38; (with_reducible refine (CP _ (hLW.below (Below.refl _ _).drew)).mono ?_); rintro ev w2 ⟨er, rfl, rfl, hB⟩; have t1 := T1.out w2 hB))
  have HB2 : Hid (Below w.heap.size w w2) := Lib.hid (HB1.out.trans ((show Below W.heap.size W w2 from (Below.refl _ _).drew.trans hB).mono hz))
  obtain ⟨c0, c1⟩ := t1
  obtain ⟨p0, p1, p2⟩ := HT.out w2 HB2.out
  have hnn : (⟨bt, ot, none⟩ : Addr) ≠ ⟨b, 1, none⟩ := by intro e; have e1 := congrArg Addr.block e; have e2 := congrArg Addr.off e; simp at e1 e2; rcases hne with h | h; exact h e1; omega
  have q0 : (w2.setCell ⟨bt, ot, none⟩ (.int .i64 (v : Int))).cell? ⟨b, 1, none⟩ = some (.int .i64 (a : Int)) := by rw [World.cell?_setCell_other (h := hnn)]; exact c1
  have q1 : (w2.setCell ⟨bt, ot, none⟩ (.int .i64 (v : Int))).frozen? ⟨b, 1, none⟩ = false := by rw [World.frozen?_setCell]; exact p2
  go_wp2
  go_ret
  exact ⟨rfl, w2, HB2.out, rfl⟩
end Go.Proofs.YthplpjcadjnfiaaGreatDoor
