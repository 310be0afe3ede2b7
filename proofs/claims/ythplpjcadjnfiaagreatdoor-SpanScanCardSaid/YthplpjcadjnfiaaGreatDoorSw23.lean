/- Reading a time: span.Time. -/
import Derived.Test.YthplpjcadjnfiaaGreatDoorSw22
namespace Go.Proofs.YthplpjcadjnfiaaGreatDoor
open Go.RowKit
set_option linter.unusedSimpArgs false
set_option linter.unusedVariables false

def stepsT : List (Rv → Bool × Rv) := [numT 4 0 9999 (fun r v => { r with y := v }), sigT [45], numT 2 1 12 (fun r v => { r with mo := v }), sigT [45], (fun r => numT 2 1 (daysM r.y r.mo) (fun r v => { r with d := v }) r), sigT [84], numT 2 0 23 (fun r v => { r with h := v }), sigT [58], numT 2 0 59 (fun r v => { r with mi := v }), sigT [58], numT 2 0 59 (fun r v => { r with sec := v }), pointT, placeT]
def runT : List (Rv → Bool × Rv) → Rv → Bool × Rv
  | [], r => (true, r)
  | f :: fs, r => if (f r).1 = true then runT fs (f r).2 else (false, (f r).2)
/-- What is told of how the steps ended. -/
def resT (p : Bool × Rv) : Int × Option Er :=
  if p.1 = true ∧ ¬ p.2.a < p.2.s.size then ((fitP (nsec p.2.y p.2.mo p.2.d p.2.h p.2.mi p.2.sec p.2.ns p.2.z)).1, mkE (fitP (nsec p.2.y p.2.mo p.2.d p.2.h p.2.mi p.2.sec p.2.ns p.2.z)).2) else (0, mkAt (p.2.a : Int) 41)
def rv0 (s : ByteArray) : Rv := ⟨s, 0, 0, 0, 0, 0, 0, 0, 0, 0⟩
/-- What holds ahead of step j. -/
structure Iv (s : ByteArray) (j : Nat) (r : Rv) : Prop where
  s_ : r.s = s
  ha : r.a ≤ s.size
  y0 : 0 ≤ r.y
  y1 : r.y ≤ 9999
  mo : 3 ≤ j → 1 ≤ r.mo ∧ r.mo ≤ 12
  dv : 5 ≤ j → validD r.y r.mo r.d = true
  h0 : 0 ≤ r.h
  h1 : r.h ≤ 23
  m0 : 0 ≤ r.mi
  m1 : r.mi ≤ 59
  c0 : 0 ≤ r.sec
  c1 : r.sec ≤ 59
  n0 : 0 ≤ r.ns
  n1 : r.ns ≤ 999999999
  z0 : -1439 ≤ r.z
  z1 : r.z ≤ 1439
theorem numT_true {n : Nat} {lo hi : Int} {set : Rv → Int → Rv} {r r' : Rv} (h : numT n lo hi set r = (true, r')) : ∃ v, numS r.s.data.toList r.a n lo hi = some v ∧ r' = { set r v with a := r.a + n } := by
  unfold numT at h
  cases hv : numS r.s.data.toList r.a n lo hi with
  | none => rw [hv] at h; cases h
  | some v => rw [hv] at h; exact ⟨v, rfl, (congrArg Prod.snd h).symm⟩
theorem sigT_true {cs : List UInt8} {r r' : Rv} (h : sigT cs r = (true, r')) : r' = { r with a := r.a + 1 } ∧ r.a + 1 ≤ r.s.size := by
  cases hg : r.s.data.toList[r.a]? with
  | none => rw [sigT_none hg] at h; cases h
  | some c =>
    obtain ⟨hl, _⟩ := List.getElem?_eq_some_iff.1 hg
    cases hd : decide (0 ≤ Lib.indexByte cs c) with
    | true => rw [sigT_yes hg hd] at h; exact ⟨(congrArg Prod.snd h).symm, hl⟩
    | false => rw [sigT_no hg hd] at h; cases h
theorem Iv.sig {s : ByteArray} {j : Nat} {r r' : Rv} {cs : List UInt8} (i : Iv s j r) (hj : j ≠ 2) (hj4 : j ≠ 4) (h : sigT cs r = (true, r')) : Iv s (j + 1) r' := by
  obtain ⟨rfl, hle⟩ := sigT_true h
  have hs := i.s_
  exact ⟨i.s_, by rw [← hs]; exact hle, i.y0, i.y1, fun h => i.mo (by omega), fun h => i.dv (by omega), i.h0, i.h1, i.m0, i.m1, i.c0, i.c1, i.n0, i.n1, i.z0, i.z1⟩
theorem Iv.t_y {s : ByteArray} {r r' : Rv} (i : Iv s 0 r) (h : numT 4 0 9999 (fun r v => { r with y := v }) r = (true, r')) : Iv s 1 r' := by
  obtain ⟨v, hv, rfl⟩ := numT_true h
  have hb := numS_some hv
  have hle := num_le hv (by omega)
  have hs := i.s_
  exact ⟨i.s_, by rw [← hs]; exact hle, hb.2.1, hb.2.2, fun h => absurd h (by omega), fun h => absurd h (by omega), i.h0, i.h1, i.m0, i.m1, i.c0, i.c1, i.n0, i.n1, i.z0, i.z1⟩
theorem Iv.t_mo {s : ByteArray} {r r' : Rv} (i : Iv s 2 r) (h : numT 2 1 12 (fun r v => { r with mo := v }) r = (true, r')) : Iv s 3 r' := by
  obtain ⟨v, hv, rfl⟩ := numT_true h
  have hb := numS_some hv
  have hle := num_le hv (by omega)
  have hs := i.s_
  exact ⟨i.s_, by rw [← hs]; exact hle, i.y0, i.y1, fun _ => ⟨hb.2.1, hb.2.2⟩, fun h => absurd h (by omega), i.h0, i.h1, i.m0, i.m1, i.c0, i.c1, i.n0, i.n1, i.z0, i.z1⟩
theorem Iv.t_d {s : ByteArray} {r r' : Rv} (i : Iv s 4 r) (h : numT 2 1 (daysM r.y r.mo) (fun r v => { r with d := v }) r = (true, r')) : Iv s 5 r' := by
  obtain ⟨v, hv, rfl⟩ := numT_true h
  have hb := numS_some hv
  have hle := num_le hv (by omega)
  have hs := i.s_
  exact ⟨i.s_, by rw [← hs]; exact hle, i.y0, i.y1, fun h => i.mo (by omega), fun _ => validD_iff.2 ⟨i.y0, i.y1, (i.mo (by omega)).1, (i.mo (by omega)).2, hb.2.1, hb.2.2⟩, i.h0, i.h1, i.m0, i.m1, i.c0, i.c1, i.n0, i.n1, i.z0, i.z1⟩
theorem Iv.t_h {s : ByteArray} {r r' : Rv} (i : Iv s 6 r) (h : numT 2 0 23 (fun r v => { r with h := v }) r = (true, r')) : Iv s 7 r' := by
  obtain ⟨v, hv, rfl⟩ := numT_true h
  have hb := numS_some hv
  have hle := num_le hv (by omega)
  have hs := i.s_
  exact ⟨i.s_, by rw [← hs]; exact hle, i.y0, i.y1, fun h => i.mo (by omega), fun h => i.dv (by omega), hb.2.1, hb.2.2, i.m0, i.m1, i.c0, i.c1, i.n0, i.n1, i.z0, i.z1⟩
theorem Iv.t_mi {s : ByteArray} {r r' : Rv} (i : Iv s 8 r) (h : numT 2 0 59 (fun r v => { r with mi := v }) r = (true, r')) : Iv s 9 r' := by
  obtain ⟨v, hv, rfl⟩ := numT_true h
  have hb := numS_some hv
  have hle := num_le hv (by omega)
  have hs := i.s_
  exact ⟨i.s_, by rw [← hs]; exact hle, i.y0, i.y1, fun h => i.mo (by omega), fun h => i.dv (by omega), i.h0, i.h1, hb.2.1, hb.2.2, i.c0, i.c1, i.n0, i.n1, i.z0, i.z1⟩
theorem Iv.t_sec {s : ByteArray} {r r' : Rv} (i : Iv s 10 r) (h : numT 2 0 59 (fun r v => { r with sec := v }) r = (true, r')) : Iv s 11 r' := by
  obtain ⟨v, hv, rfl⟩ := numT_true h
  have hb := numS_some hv
  have hle := num_le hv (by omega)
  have hs := i.s_
  exact ⟨i.s_, by rw [← hs]; exact hle, i.y0, i.y1, fun h => i.mo (by omega), fun h => i.dv (by omega), i.h0, i.h1, i.m0, i.m1, hb.2.1, hb.2.2, i.n0, i.n1, i.z0, i.z1⟩
theorem Iv.pt {s : ByteArray} {r r' : Rv} (i : Iv s 11 r) (h : pointT r = (true, r')) : Iv s 12 r' := by
  have hs := i.s_
  have hok := pointT_ok r (by rw [hs]; exact i.ha)
  rw [h] at hok
  unfold pointT at h
  split at h
  · rename_i hsg
    cases hf : fracS r.s.data.toList r.a with
    | none => rw [hf] at h; cases h
    | some p =>
      obtain ⟨ns, n'⟩ := p
      rw [hf] at h
      obtain rfl := congrArg Prod.snd h
      have hns : 0 ≤ ns ∧ ns ≤ 999999999 := by
        unfold fracS at hf
        rw [if_pos hsg] at hf
        split at hf
        · rename_i hc
          have e := congrArg Prod.fst (Option.some.inj hf)
          simp only at e
          obtain ⟨Y, _, _, _, hA⟩ := frac_fill r.s (r.a + 1) _ hc.1 hc.2 (Nat.le_refl _) ⟨#[48, 48, 48, 48, 48, 48, 48, 48]⟩ rfl
          rw [← e]
          refine ⟨by omega, ?_⟩
          have hd : ∀ c ∈ (r.s.data.toList.drop (r.a + 1)).take (runD (r.s.data.toList.drop (r.a + 1))), isD c = true := runD_take _
          have h1 := decN_lt _ hd
          have hlen : ((r.s.data.toList.drop (r.a + 1)).take (runD (r.s.data.toList.drop (r.a + 1)))).length = runD (r.s.data.toList.drop (r.a + 1)) := by rw [List.length_take]; have := runD_le (r.s.data.toList.drop (r.a + 1)); omega
          rw [hlen] at h1
          have h2 : 10 ^ runD (r.s.data.toList.drop (r.a + 1)) * 10 ^ (9 - runD (r.s.data.toList.drop (r.a + 1))) = 1000000000 := by rw [← Nat.pow_add, show runD (r.s.data.toList.drop (r.a + 1)) + (9 - runD (r.s.data.toList.drop (r.a + 1))) = 9 by omega]
          have h3 := Nat.mul_lt_mul_of_pos_right h1 (Nat.pow_pos (n := 9 - runD (r.s.data.toList.drop (r.a + 1))) (show 0 < 10 by omega))
          rw [h2] at h3
          omega
        · cases hf
      exact ⟨i.s_, by rw [← hs]; exact hok.2, i.y0, i.y1, fun _ => i.mo (by omega), fun _ => i.dv (by omega), i.h0, i.h1, i.m0, i.m1, i.c0, i.c1, hns.1, hns.2, i.z0, i.z1⟩
  · obtain rfl := congrArg Prod.snd h
    exact ⟨i.s_, i.ha, i.y0, i.y1, fun _ => i.mo (by omega), fun _ => i.dv (by omega), i.h0, i.h1, i.m0, i.m1, i.c0, i.c1, i.n0, i.n1, i.z0, i.z1⟩
theorem Iv.pl {s : ByteArray} {r r' : Rv} (i : Iv s 12 r) (h : placeT r = (true, r')) : Iv s 13 r' := by
  have hs := i.s_
  unfold placeT at h
  split at h
  · rename_i hz
    obtain rfl := congrArg Prod.snd h
    exact ⟨i.s_, by rw [← hs]; exact sig_le hz, i.y0, i.y1, fun _ => i.mo (by omega), fun _ => i.dv (by omega), i.h0, i.h1, i.m0, i.m1, i.c0, i.c1, i.n0, i.n1, i.z0, i.z1⟩
  · rename_i hz
    cases hzo : zoneS r.s.data.toList r.a with
    | error p => rw [hzo] at h; cases h
    | ok p =>
      obtain ⟨z, a⟩ := p
      rw [hzo] at h
      obtain rfl := congrArg Prod.snd h
      have hb : a ≤ r.s.size ∧ -1439 ≤ z ∧ z ≤ 1439 := by
        unfold zoneS at hzo
        rw [if_neg hz] at hzo
        split at hzo
        · split at hzo
          · cases hzo
          · rename_i hv hh
            split at hzo
            · split at hzo
              · cases hzo
              · rename_i mv hm
                have e := Except.ok.inj hzo
                have e1 := congrArg Prod.fst e
                have e2 := congrArg Prod.snd e
                simp only at e1 e2
                have b1 := numS_some hh
                have b2 := numS_some hm
                have b3 := num_le (r := r) hm (by omega)
                split at e1 <;> omega
            · cases hzo
        · cases hzo
      exact ⟨i.s_, by rw [← hs]; exact hb.1, i.y0, i.y1, fun _ => i.mo (by omega), fun _ => i.dv (by omega), i.h0, i.h1, i.m0, i.m1, i.c0, i.c1, i.n0, i.n1, hb.2.1, hb.2.2⟩
/-- The blocks of a walk through Time. -/
structure Tl (w0 w : World) (r : Rv) : Prop where
  B : Below w0.heap.size w0 w
  R : RvAt w w0.heap.size r
  box : w.heap[w0.heap.size + 1]? = some (.cells #[.pointer (some ⟨w0.heap.size, 0, none⟩)] 80 (0, 0))
  st : w.heap[w0.heap.size + 1 + 1]? = some (.cells #[.func (.func 47) #[] #[.pointer (some ⟨w0.heap.size + 1, 0, none⟩)], .func (.func 49) #[] #[.pointer (some ⟨w0.heap.size + 1, 0, none⟩)], .func (.func 51) #[] #[.pointer (some ⟨w0.heap.size + 1, 0, none⟩)], .func (.func 52) #[] #[.pointer (some ⟨w0.heap.size + 1, 0, none⟩)], .func (.func 53) #[] #[.pointer (some ⟨w0.heap.size + 1, 0, none⟩)], .func (.func 55) #[] #[.pointer (some ⟨w0.heap.size + 1, 0, none⟩)], .func (.func 56) #[] #[.pointer (some ⟨w0.heap.size + 1, 0, none⟩)], .func (.func 57) #[] #[.pointer (some ⟨w0.heap.size + 1, 0, none⟩)], .func (.func 58) #[] #[.pointer (some ⟨w0.heap.size + 1, 0, none⟩)], .func (.func 59) #[] #[.pointer (some ⟨w0.heap.size + 1, 0, none⟩)], .func (.func 60) #[] #[.pointer (some ⟨w0.heap.size + 1, 0, none⟩)], .func (.func 61) #[.pointer (some ⟨w0.heap.size, 0, none⟩)] #[], .func (.func 62) #[.pointer (some ⟨w0.heap.size, 0, none⟩)] #[]] 22 (0, 0))
theorem Tl.row {w0 w w' : World} {r r' : Rv} (t : Tl w0 w r) (hG : w.grownBy w' (some w0.heap.size)) (hR : RvAt w' w0.heap.size r') : Tl w0 w' r' := by
  refine ⟨t.B.trans (below_grown1 hG (Nat.le_refl _) t.B.size), hR, grown_blk hG t.box ?_, grown_blk hG t.st ?_⟩ <;> (intro e; have := Option.some.inj e; omega)
theorem Tl.low {w0 w w' : World} {r : Rv} (t : Tl w0 w r) (hG : w.grownBy w' (some w0.heap.size)) : Below w0.heap.size w0 w' := t.B.trans (below_grown1 hG (Nat.le_refl _) t.B.size)
theorem Tl.cells {w0 w : World} {r : Rv} (t : Tl w0 w r) : w.cell? ⟨w0.heap.size + 1, 0, none⟩ = some (.pointer (some ⟨w0.heap.size, 0, none⟩)) ∧ w.cell? ⟨w0.heap.size, 1, none⟩ = some (.int .i64 (r.a : Int)) ∧ w0.heap.size < w.heap.size := ⟨blk_cell' t.box 0, t.R.c.2.1, t.R.lt⟩
theorem Tl.f1 {w0 w : World} {r : Rv} (t : Tl w0 w r) : w.cell? ⟨w0.heap.size + 1 + 1, 0, none⟩ = some (.func (.func 47) #[] #[.pointer (some ⟨w0.heap.size + 1, 0, none⟩)]) := blk_cell' t.st 0
theorem Tl.f2 {w0 w : World} {r : Rv} (t : Tl w0 w r) : w.cell? ⟨w0.heap.size + 1 + 1, 1, none⟩ = some (.func (.func 49) #[] #[.pointer (some ⟨w0.heap.size + 1, 0, none⟩)]) := blk_cell' t.st 1
theorem Tl.f3 {w0 w : World} {r : Rv} (t : Tl w0 w r) : w.cell? ⟨w0.heap.size + 1 + 1, 2, none⟩ = some (.func (.func 51) #[] #[.pointer (some ⟨w0.heap.size + 1, 0, none⟩)]) := blk_cell' t.st 2
theorem Tl.f4 {w0 w : World} {r : Rv} (t : Tl w0 w r) : w.cell? ⟨w0.heap.size + 1 + 1, 3, none⟩ = some (.func (.func 52) #[] #[.pointer (some ⟨w0.heap.size + 1, 0, none⟩)]) := blk_cell' t.st 3
theorem Tl.f5 {w0 w : World} {r : Rv} (t : Tl w0 w r) : w.cell? ⟨w0.heap.size + 1 + 1, 4, none⟩ = some (.func (.func 53) #[] #[.pointer (some ⟨w0.heap.size + 1, 0, none⟩)]) := blk_cell' t.st 4
theorem Tl.f6 {w0 w : World} {r : Rv} (t : Tl w0 w r) : w.cell? ⟨w0.heap.size + 1 + 1, 5, none⟩ = some (.func (.func 55) #[] #[.pointer (some ⟨w0.heap.size + 1, 0, none⟩)]) := blk_cell' t.st 5
theorem Tl.f7 {w0 w : World} {r : Rv} (t : Tl w0 w r) : w.cell? ⟨w0.heap.size + 1 + 1, 6, none⟩ = some (.func (.func 56) #[] #[.pointer (some ⟨w0.heap.size + 1, 0, none⟩)]) := blk_cell' t.st 6
theorem Tl.f8 {w0 w : World} {r : Rv} (t : Tl w0 w r) : w.cell? ⟨w0.heap.size + 1 + 1, 7, none⟩ = some (.func (.func 57) #[] #[.pointer (some ⟨w0.heap.size + 1, 0, none⟩)]) := blk_cell' t.st 7
theorem Tl.f9 {w0 w : World} {r : Rv} (t : Tl w0 w r) : w.cell? ⟨w0.heap.size + 1 + 1, 8, none⟩ = some (.func (.func 58) #[] #[.pointer (some ⟨w0.heap.size + 1, 0, none⟩)]) := blk_cell' t.st 8
theorem Tl.f10 {w0 w : World} {r : Rv} (t : Tl w0 w r) : w.cell? ⟨w0.heap.size + 1 + 1, 9, none⟩ = some (.func (.func 59) #[] #[.pointer (some ⟨w0.heap.size + 1, 0, none⟩)]) := blk_cell' t.st 9
theorem Tl.f11 {w0 w : World} {r : Rv} (t : Tl w0 w r) : w.cell? ⟨w0.heap.size + 1 + 1, 10, none⟩ = some (.func (.func 60) #[] #[.pointer (some ⟨w0.heap.size + 1, 0, none⟩)]) := blk_cell' t.st 10
theorem Tl.f12 {w0 w : World} {r : Rv} (t : Tl w0 w r) : w.cell? ⟨w0.heap.size + 1 + 1, 11, none⟩ = some (.func (.func 61) #[.pointer (some ⟨w0.heap.size, 0, none⟩)] #[]) := blk_cell' t.st 11
theorem Tl.f13 {w0 w : World} {r : Rv} (t : Tl w0 w r) : w.cell? ⟨w0.heap.size + 1 + 1, 12, none⟩ = some (.func (.func 62) #[.pointer (some ⟨w0.heap.size, 0, none⟩)] #[]) := blk_cell' t.st 12
set_option maxRecDepth 100000 in
set_option maxHeartbeats 20000000 in
theorem span_Time (s : ByteArray) (hs : s.size ≤ 140737488355328) (w : World) (hL : LayS w) :
    Calls Tryz.prog 21 #[.string s] w fun e w' => e = .returned (.tuple #[.int .i64 (resT (runT stepsT (rv0 s))).1, encE (resT (runT stepsT (rv0 s))).2]) ∧ Below w.heap.size w w' := by
  have hmf : ∀ (fn : Fn) (first cap : Array Value) (w : World), (Instr.makeFunc fn first cap).run Tryz.prog w = .ok (.func fn first cap) w := fun _ _ _ _ => rfl
  obtain ⟨E, hE⟩ : ∃ E, E = runT stepsT (rv0 s) := ⟨_, rfl⟩
  rw [← hE]
  have HE := Lib.hid hE
  clear hE
  go_enter Tryz.func21, Tryz.ntmps21
  go_wp2_with fail

  have T0 : Tl w (((w.alloc (.cells #[.string s, .int .i64 0, .int .i64 0, .int .i64 0, .int .i64 0, .int .i64 0, .int .i64 0, .int .i64 0, .int .i64 0, .int .i64 0] 82 (0, 0))).alloc (.cells #[.pointer (some ⟨w.heap.size, 0, none⟩)] 80 (0, 0))).alloc (.cells #[.func (.func 47) #[] #[.pointer (some ⟨w.heap.size + 1, 0, none⟩)], .func (.func 49) #[] #[.pointer (some ⟨w.heap.size + 1, 0, none⟩)], .func (.func 51) #[] #[.pointer (some ⟨w.heap.size + 1, 0, none⟩)], .func (.func 52) #[] #[.pointer (some ⟨w.heap.size + 1, 0, none⟩)], .func (.func 53) #[] #[.pointer (some ⟨w.heap.size + 1, 0, none⟩)], .func (.func 55) #[] #[.pointer (some ⟨w.heap.size + 1, 0, none⟩)], .func (.func 56) #[] #[.pointer (some ⟨w.heap.size + 1, 0, none⟩)], .func (.func 57) #[] #[.pointer (some ⟨w.heap.size + 1, 0, none⟩)], .func (.func 58) #[] #[.pointer (some ⟨w.heap.size + 1, 0, none⟩)], .func (.func 59) #[] #[.pointer (some ⟨w.heap.size + 1, 0, none⟩)], .func (.func 60) #[] #[.pointer (some ⟨w.heap.size + 1, 0, none⟩)], .func (.func 61) #[.pointer (some ⟨w.heap.size, 0, none⟩)] #[], .func (.func 62) #[.pointer (some ⟨w.heap.size, 0, none⟩)] #[]] 22 (0, 0))) (rv0 s) := ⟨by go_grown, (heap_old' _ _ _ (by first | omega | (simp only [World.size_alloc, World.size_setCell, World.size_drew, size_drewN'] <;> omega)) (heap_old' _ _ _ (by first | omega | (simp only [World.size_alloc, World.size_setCell, World.size_drew, size_drewN'] <;> omega)) (heap_new' _ _ _ (by first | omega | (simp only [World.size_alloc, World.size_setCell, World.size_drew, size_drewN'] <;> omega))))), (heap_old' _ _ _ (by first | omega | (simp only [World.size_alloc, World.size_setCell, World.size_drew, size_drewN'] <;> omega)) (heap_new' _ _ _ (by first | omega | (simp only [World.size_alloc, World.size_setCell, World.size_drew, size_drewN'] <;> omega)))), (heap_new' _ _ _ (by first | omega | (simp only [World.size_alloc, World.size_setCell, World.size_drew, size_drewN'] <;> omega)))⟩
  have I0 : Iv s 0 (rv0 s) := ⟨rfl, Nat.zero_le _, (show (0 : Int) ≤ 0 by omega), (show (0 : Int) ≤ 9999 by omega), fun h => absurd h (by omega), fun h => absurd h (by omega), (show (0 : Int) ≤ 0 by omega), (show (0 : Int) ≤ 23 by omega), (show (0 : Int) ≤ 0 by omega), (show (0 : Int) ≤ 59 by omega), (show (0 : Int) ≤ 0 by omega), (show (0 : Int) ≤ 59 by omega), (show (0 : Int) ≤ 0 by omega), (show (0 : Int) ≤ 999999999 by omega), (show (-1439 : Int) ≤ 0 by omega), (show (0 : Int) ≤ 1439 by omega)⟩
  go_loopg [29] 13 (fun k v29 wr => ∃ (j : Nat) (r : Rv), v29 = .int .i64 (j : Int) ∧ j + k = 13 ∧ Iv s j r ∧ Hid (E = runT (stepsT.drop j) r) ∧ Tl w wr r)
  case atStart => exact ⟨0, rv0 s, rfl, rfl, I0, HE, T0⟩
  case round =>
    clear T0 I0 HE
    obtain ⟨j, r, rfl, hjk, iv, HE, t⟩ := hrel
    have hrs : r.s.size ≤ 140737488355328 := by rw [iv.s_]; exact hs
    have hra : r.a ≤ r.s.size := by rw [iv.s_]; exact iv.ha
    obtain ⟨c0, c1, hbl⟩ := t.cells
    have hj : j = 0 ∨ j = 1 ∨ j = 2 ∨ j = 3 ∨ j = 4 ∨ j = 5 ∨ j = 6 ∨ j = 7 ∨ j = 8 ∨ j = 9 ∨ j = 10 ∨ j = 11 ∨ j = 12 ∨ j = 13 := by omega
    rcases hj with rfl | rfl | rfl | rfl | rfl | rfl | rfl | rfl | rfl | rfl | rfl | rfl | rfl | rfl
    · have C := time_step1 r w.heap.size (w.heap.size + 1) hrs hra wr (hL.below t.B) t.R t.box (by omega)
      have HE1 : Hid (E = if (numT 4 0 9999 (fun r v => { r with y := v }) r).1 = true then runT (stepsT.drop 1) (numT 4 0 9999 (fun r v => { r with y := v }) r).2 else (false, (numT 4 0 9999 (fun r v => { r with y := v }) r).2)) := Lib.hid HE.out
      have sf := t.f1
      generalize hp : numT 4 0 9999 (fun r v => { r with y := v }) r = p at C HE1
      obtain ⟨ok, r'⟩ := p
      clear HE
      cases ok with
      | false =>
        have HE2 : Hid (resT E = (0, mkAt (r'.a : Int) 41)) := Lib.hid (by rw [HE1.out, if_neg (show ¬ (false, r').1 = true from Bool.false_ne_true)]; exact if_neg (fun h => Bool.false_ne_true h.1))
        clear hp HE1
        go_wp2_with (first | (go_at_call 47; (with_reducible refine C.mono ?_); rintro e w2 ⟨rfl, hR, hG⟩; have t2 := t.row hG hR; obtain ⟨c0, c1, hbl⟩ := t2.cells) | (go_at_call 63; refine (reading_fault r'.a _ _ c1).mono ?_; rintro e w3 ⟨rfl, hB⟩))
        go_ret2
        exact ⟨by rw [HE2.out]; rfl, t2.B.trans (hB.mono t2.B.size)⟩
      | true =>
        have HE3 : Hid (E = runT (stepsT.drop 1) r') := Lib.hid HE1.out
        have iv2 := iv.t_y hp
        clear hp HE1
        go_wp2_with (first | (go_at_call 47; (with_reducible refine C.mono ?_); rintro e w2 ⟨rfl, hR, hG⟩; have t2 := t.row hG hR; obtain ⟨c0, c1, hbl⟩ := t2.cells))
        go_roundg 12
        case measure => omega
        case rel => exact ⟨1, r', by go_num, by omega, iv2, HE3, t2⟩
    · have C := time_step2 r w.heap.size (w.heap.size + 1) hrs hra wr (hL.below t.B) t.R t.box (by omega)
      have HE1 : Hid (E = if (sigT [45] r).1 = true then runT (stepsT.drop 2) (sigT [45] r).2 else (false, (sigT [45] r).2)) := Lib.hid HE.out
      have sf := t.f2
      generalize hp : sigT [45] r = p at C HE1
      obtain ⟨ok, r'⟩ := p
      clear HE
      cases ok with
      | false =>
        have HE2 : Hid (resT E = (0, mkAt (r'.a : Int) 41)) := Lib.hid (by rw [HE1.out, if_neg (show ¬ (false, r').1 = true from Bool.false_ne_true)]; exact if_neg (fun h => Bool.false_ne_true h.1))
        clear hp HE1
        go_wp2_with (first | (go_at_call 49; (with_reducible refine C.mono ?_); rintro e w2 ⟨rfl, hR, hG⟩; have t2 := t.row hG hR; obtain ⟨c0, c1, hbl⟩ := t2.cells) | (go_at_call 63; refine (reading_fault r'.a _ _ c1).mono ?_; rintro e w3 ⟨rfl, hB⟩))
        go_ret2
        exact ⟨by rw [HE2.out]; rfl, t2.B.trans (hB.mono t2.B.size)⟩
      | true =>
        have HE3 : Hid (E = runT (stepsT.drop 2) r') := Lib.hid HE1.out
        have iv2 := iv.sig (by omega) (by omega) hp
        clear hp HE1
        go_wp2_with (first | (go_at_call 49; (with_reducible refine C.mono ?_); rintro e w2 ⟨rfl, hR, hG⟩; have t2 := t.row hG hR; obtain ⟨c0, c1, hbl⟩ := t2.cells))
        go_roundg 11
        case measure => omega
        case rel => exact ⟨2, r', by go_num, by omega, iv2, HE3, t2⟩
    · have C := time_step3 r w.heap.size (w.heap.size + 1) hrs hra wr (hL.below t.B) t.R t.box (by omega)
      have HE1 : Hid (E = if (numT 2 1 12 (fun r v => { r with mo := v }) r).1 = true then runT (stepsT.drop 3) (numT 2 1 12 (fun r v => { r with mo := v }) r).2 else (false, (numT 2 1 12 (fun r v => { r with mo := v }) r).2)) := Lib.hid HE.out
      have sf := t.f3
      generalize hp : numT 2 1 12 (fun r v => { r with mo := v }) r = p at C HE1
      obtain ⟨ok, r'⟩ := p
      clear HE
      cases ok with
      | false =>
        have HE2 : Hid (resT E = (0, mkAt (r'.a : Int) 41)) := Lib.hid (by rw [HE1.out, if_neg (show ¬ (false, r').1 = true from Bool.false_ne_true)]; exact if_neg (fun h => Bool.false_ne_true h.1))
        clear hp HE1
        go_wp2_with (first | (go_at_call 51; (with_reducible refine C.mono ?_); rintro e w2 ⟨rfl, hR, hG⟩; have t2 := t.row hG hR; obtain ⟨c0, c1, hbl⟩ := t2.cells) | (go_at_call 63; refine (reading_fault r'.a _ _ c1).mono ?_; rintro e w3 ⟨rfl, hB⟩))
        go_ret2
        exact ⟨by rw [HE2.out]; rfl, t2.B.trans (hB.mono t2.B.size)⟩
      | true =>
        have HE3 : Hid (E = runT (stepsT.drop 3) r') := Lib.hid HE1.out
        have iv2 := iv.t_mo hp
        clear hp HE1
        go_wp2_with (first | (go_at_call 51; (with_reducible refine C.mono ?_); rintro e w2 ⟨rfl, hR, hG⟩; have t2 := t.row hG hR; obtain ⟨c0, c1, hbl⟩ := t2.cells))
        go_roundg 10
        case measure => omega
        case rel => exact ⟨3, r', by go_num, by omega, iv2, HE3, t2⟩
    · have C := time_step4 r w.heap.size (w.heap.size + 1) hrs hra wr (hL.below t.B) t.R t.box (by omega)
      have HE1 : Hid (E = if (sigT [45] r).1 = true then runT (stepsT.drop 4) (sigT [45] r).2 else (false, (sigT [45] r).2)) := Lib.hid HE.out
      have sf := t.f4
      generalize hp : sigT [45] r = p at C HE1
      obtain ⟨ok, r'⟩ := p
      clear HE
      cases ok with
      | false =>
        have HE2 : Hid (resT E = (0, mkAt (r'.a : Int) 41)) := Lib.hid (by rw [HE1.out, if_neg (show ¬ (false, r').1 = true from Bool.false_ne_true)]; exact if_neg (fun h => Bool.false_ne_true h.1))
        clear hp HE1
        go_wp2_with (first | (go_at_call 52; (with_reducible refine C.mono ?_); rintro e w2 ⟨rfl, hR, hG⟩; have t2 := t.row hG hR; obtain ⟨c0, c1, hbl⟩ := t2.cells) | (go_at_call 63; refine (reading_fault r'.a _ _ c1).mono ?_; rintro e w3 ⟨rfl, hB⟩))
        go_ret2
        exact ⟨by rw [HE2.out]; rfl, t2.B.trans (hB.mono t2.B.size)⟩
      | true =>
        have HE3 : Hid (E = runT (stepsT.drop 4) r') := Lib.hid HE1.out
        have iv2 := iv.sig (by omega) (by omega) hp
        clear hp HE1
        go_wp2_with (first | (go_at_call 52; (with_reducible refine C.mono ?_); rintro e w2 ⟨rfl, hR, hG⟩; have t2 := t.row hG hR; obtain ⟨c0, c1, hbl⟩ := t2.cells))
        go_roundg 9
        case measure => omega
        case rel => exact ⟨4, r', by go_num, by omega, iv2, HE3, t2⟩
    · have C := time_step5 r w.heap.size (w.heap.size + 1) hrs hra iv.y0 iv.y1 (iv.mo (by omega)).1 (iv.mo (by omega)).2 wr (hL.below t.B) t.R t.box (by omega)
      have HE1 : Hid (E = if (numT 2 1 (daysM r.y r.mo) (fun r v => { r with d := v }) r).1 = true then runT (stepsT.drop 5) (numT 2 1 (daysM r.y r.mo) (fun r v => { r with d := v }) r).2 else (false, (numT 2 1 (daysM r.y r.mo) (fun r v => { r with d := v }) r).2)) := Lib.hid HE.out
      have sf := t.f5
      generalize hp : numT 2 1 (daysM r.y r.mo) (fun r v => { r with d := v }) r = p at C HE1
      obtain ⟨ok, r'⟩ := p
      clear HE
      cases ok with
      | false =>
        have HE2 : Hid (resT E = (0, mkAt (r'.a : Int) 41)) := Lib.hid (by rw [HE1.out, if_neg (show ¬ (false, r').1 = true from Bool.false_ne_true)]; exact if_neg (fun h => Bool.false_ne_true h.1))
        clear hp HE1
        go_wp2_with (first | (go_at_call 53; (with_reducible refine C.mono ?_); rintro e w2 ⟨rfl, hR, hG⟩; have t2 := t.row hG hR; obtain ⟨c0, c1, hbl⟩ := t2.cells) | (go_at_call 63; refine (reading_fault r'.a _ _ c1).mono ?_; rintro e w3 ⟨rfl, hB⟩))
        go_ret2
        exact ⟨by rw [HE2.out]; rfl, t2.B.trans (hB.mono t2.B.size)⟩
      | true =>
        have HE3 : Hid (E = runT (stepsT.drop 5) r') := Lib.hid HE1.out
        have iv2 := iv.t_d hp
        clear hp HE1
        go_wp2_with (first | (go_at_call 53; (with_reducible refine C.mono ?_); rintro e w2 ⟨rfl, hR, hG⟩; have t2 := t.row hG hR; obtain ⟨c0, c1, hbl⟩ := t2.cells))
        go_roundg 8
        case measure => omega
        case rel => exact ⟨5, r', by go_num, by omega, iv2, HE3, t2⟩
    · have C := time_step6 r w.heap.size (w.heap.size + 1) hrs hra wr (hL.below t.B) t.R t.box (by omega)
      have HE1 : Hid (E = if (sigT [84] r).1 = true then runT (stepsT.drop 6) (sigT [84] r).2 else (false, (sigT [84] r).2)) := Lib.hid HE.out
      have sf := t.f6
      generalize hp : sigT [84] r = p at C HE1
      obtain ⟨ok, r'⟩ := p
      clear HE
      cases ok with
      | false =>
        have HE2 : Hid (resT E = (0, mkAt (r'.a : Int) 41)) := Lib.hid (by rw [HE1.out, if_neg (show ¬ (false, r').1 = true from Bool.false_ne_true)]; exact if_neg (fun h => Bool.false_ne_true h.1))
        clear hp HE1
        go_wp2_with (first | (go_at_call 55; (with_reducible refine C.mono ?_); rintro e w2 ⟨rfl, hR, hG⟩; have t2 := t.row hG hR; obtain ⟨c0, c1, hbl⟩ := t2.cells) | (go_at_call 63; refine (reading_fault r'.a _ _ c1).mono ?_; rintro e w3 ⟨rfl, hB⟩))
        go_ret2
        exact ⟨by rw [HE2.out]; rfl, t2.B.trans (hB.mono t2.B.size)⟩
      | true =>
        have HE3 : Hid (E = runT (stepsT.drop 6) r') := Lib.hid HE1.out
        have iv2 := iv.sig (by omega) (by omega) hp
        clear hp HE1
        go_wp2_with (first | (go_at_call 55; (with_reducible refine C.mono ?_); rintro e w2 ⟨rfl, hR, hG⟩; have t2 := t.row hG hR; obtain ⟨c0, c1, hbl⟩ := t2.cells))
        go_roundg 7
        case measure => omega
        case rel => exact ⟨6, r', by go_num, by omega, iv2, HE3, t2⟩
    · have C := time_step7 r w.heap.size (w.heap.size + 1) hrs hra wr (hL.below t.B) t.R t.box (by omega)
      have HE1 : Hid (E = if (numT 2 0 23 (fun r v => { r with h := v }) r).1 = true then runT (stepsT.drop 7) (numT 2 0 23 (fun r v => { r with h := v }) r).2 else (false, (numT 2 0 23 (fun r v => { r with h := v }) r).2)) := Lib.hid HE.out
      have sf := t.f7
      generalize hp : numT 2 0 23 (fun r v => { r with h := v }) r = p at C HE1
      obtain ⟨ok, r'⟩ := p
      clear HE
      cases ok with
      | false =>
        have HE2 : Hid (resT E = (0, mkAt (r'.a : Int) 41)) := Lib.hid (by rw [HE1.out, if_neg (show ¬ (false, r').1 = true from Bool.false_ne_true)]; exact if_neg (fun h => Bool.false_ne_true h.1))
        clear hp HE1
        go_wp2_with (first | (go_at_call 56; (with_reducible refine C.mono ?_); rintro e w2 ⟨rfl, hR, hG⟩; have t2 := t.row hG hR; obtain ⟨c0, c1, hbl⟩ := t2.cells) | (go_at_call 63; refine (reading_fault r'.a _ _ c1).mono ?_; rintro e w3 ⟨rfl, hB⟩))
        go_ret2
        exact ⟨by rw [HE2.out]; rfl, t2.B.trans (hB.mono t2.B.size)⟩
      | true =>
        have HE3 : Hid (E = runT (stepsT.drop 7) r') := Lib.hid HE1.out
        have iv2 := iv.t_h hp
        clear hp HE1
        go_wp2_with (first | (go_at_call 56; (with_reducible refine C.mono ?_); rintro e w2 ⟨rfl, hR, hG⟩; have t2 := t.row hG hR; obtain ⟨c0, c1, hbl⟩ := t2.cells))
        go_roundg 6
        case measure => omega
        case rel => exact ⟨7, r', by go_num, by omega, iv2, HE3, t2⟩
    · have C := time_step8 r w.heap.size (w.heap.size + 1) hrs hra wr (hL.below t.B) t.R t.box (by omega)
      have HE1 : Hid (E = if (sigT [58] r).1 = true then runT (stepsT.drop 8) (sigT [58] r).2 else (false, (sigT [58] r).2)) := Lib.hid HE.out
      have sf := t.f8
      generalize hp : sigT [58] r = p at C HE1
      obtain ⟨ok, r'⟩ := p
      clear HE
      cases ok with
      | false =>
        have HE2 : Hid (resT E = (0, mkAt (r'.a : Int) 41)) := Lib.hid (by rw [HE1.out, if_neg (show ¬ (false, r').1 = true from Bool.false_ne_true)]; exact if_neg (fun h => Bool.false_ne_true h.1))
        clear hp HE1
        go_wp2_with (first | (go_at_call 57; (with_reducible refine C.mono ?_); rintro e w2 ⟨rfl, hR, hG⟩; have t2 := t.row hG hR; obtain ⟨c0, c1, hbl⟩ := t2.cells) | (go_at_call 63; refine (reading_fault r'.a _ _ c1).mono ?_; rintro e w3 ⟨rfl, hB⟩))
        go_ret2
        exact ⟨by rw [HE2.out]; rfl, t2.B.trans (hB.mono t2.B.size)⟩
      | true =>
        have HE3 : Hid (E = runT (stepsT.drop 8) r') := Lib.hid HE1.out
        have iv2 := iv.sig (by omega) (by omega) hp
        clear hp HE1
        go_wp2_with (first | (go_at_call 57; (with_reducible refine C.mono ?_); rintro e w2 ⟨rfl, hR, hG⟩; have t2 := t.row hG hR; obtain ⟨c0, c1, hbl⟩ := t2.cells))
        go_roundg 5
        case measure => omega
        case rel => exact ⟨8, r', by go_num, by omega, iv2, HE3, t2⟩
    · have C := time_step9 r w.heap.size (w.heap.size + 1) hrs hra wr (hL.below t.B) t.R t.box (by omega)
      have HE1 : Hid (E = if (numT 2 0 59 (fun r v => { r with mi := v }) r).1 = true then runT (stepsT.drop 9) (numT 2 0 59 (fun r v => { r with mi := v }) r).2 else (false, (numT 2 0 59 (fun r v => { r with mi := v }) r).2)) := Lib.hid HE.out
      have sf := t.f9
      generalize hp : numT 2 0 59 (fun r v => { r with mi := v }) r = p at C HE1
      obtain ⟨ok, r'⟩ := p
      clear HE
      cases ok with
      | false =>
        have HE2 : Hid (resT E = (0, mkAt (r'.a : Int) 41)) := Lib.hid (by rw [HE1.out, if_neg (show ¬ (false, r').1 = true from Bool.false_ne_true)]; exact if_neg (fun h => Bool.false_ne_true h.1))
        clear hp HE1
        go_wp2_with (first | (go_at_call 58; (with_reducible refine C.mono ?_); rintro e w2 ⟨rfl, hR, hG⟩; have t2 := t.row hG hR; obtain ⟨c0, c1, hbl⟩ := t2.cells) | (go_at_call 63; refine (reading_fault r'.a _ _ c1).mono ?_; rintro e w3 ⟨rfl, hB⟩))
        go_ret2
        exact ⟨by rw [HE2.out]; rfl, t2.B.trans (hB.mono t2.B.size)⟩
      | true =>
        have HE3 : Hid (E = runT (stepsT.drop 9) r') := Lib.hid HE1.out
        have iv2 := iv.t_mi hp
        clear hp HE1
        go_wp2_with (first | (go_at_call 58; (with_reducible refine C.mono ?_); rintro e w2 ⟨rfl, hR, hG⟩; have t2 := t.row hG hR; obtain ⟨c0, c1, hbl⟩ := t2.cells))
        go_roundg 4
        case measure => omega
        case rel => exact ⟨9, r', by go_num, by omega, iv2, HE3, t2⟩
    · have C := time_step10 r w.heap.size (w.heap.size + 1) hrs hra wr (hL.below t.B) t.R t.box (by omega)
      have HE1 : Hid (E = if (sigT [58] r).1 = true then runT (stepsT.drop 10) (sigT [58] r).2 else (false, (sigT [58] r).2)) := Lib.hid HE.out
      have sf := t.f10
      generalize hp : sigT [58] r = p at C HE1
      obtain ⟨ok, r'⟩ := p
      clear HE
      cases ok with
      | false =>
        have HE2 : Hid (resT E = (0, mkAt (r'.a : Int) 41)) := Lib.hid (by rw [HE1.out, if_neg (show ¬ (false, r').1 = true from Bool.false_ne_true)]; exact if_neg (fun h => Bool.false_ne_true h.1))
        clear hp HE1
        go_wp2_with (first | (go_at_call 59; (with_reducible refine C.mono ?_); rintro e w2 ⟨rfl, hR, hG⟩; have t2 := t.row hG hR; obtain ⟨c0, c1, hbl⟩ := t2.cells) | (go_at_call 63; refine (reading_fault r'.a _ _ c1).mono ?_; rintro e w3 ⟨rfl, hB⟩))
        go_ret2
        exact ⟨by rw [HE2.out]; rfl, t2.B.trans (hB.mono t2.B.size)⟩
      | true =>
        have HE3 : Hid (E = runT (stepsT.drop 10) r') := Lib.hid HE1.out
        have iv2 := iv.sig (by omega) (by omega) hp
        clear hp HE1
        go_wp2_with (first | (go_at_call 59; (with_reducible refine C.mono ?_); rintro e w2 ⟨rfl, hR, hG⟩; have t2 := t.row hG hR; obtain ⟨c0, c1, hbl⟩ := t2.cells))
        go_roundg 3
        case measure => omega
        case rel => exact ⟨10, r', by go_num, by omega, iv2, HE3, t2⟩
    · have C := time_step11 r w.heap.size (w.heap.size + 1) hrs hra wr (hL.below t.B) t.R t.box (by omega)
      have HE1 : Hid (E = if (numT 2 0 59 (fun r v => { r with sec := v }) r).1 = true then runT (stepsT.drop 11) (numT 2 0 59 (fun r v => { r with sec := v }) r).2 else (false, (numT 2 0 59 (fun r v => { r with sec := v }) r).2)) := Lib.hid HE.out
      have sf := t.f11
      generalize hp : numT 2 0 59 (fun r v => { r with sec := v }) r = p at C HE1
      obtain ⟨ok, r'⟩ := p
      clear HE
      cases ok with
      | false =>
        have HE2 : Hid (resT E = (0, mkAt (r'.a : Int) 41)) := Lib.hid (by rw [HE1.out, if_neg (show ¬ (false, r').1 = true from Bool.false_ne_true)]; exact if_neg (fun h => Bool.false_ne_true h.1))
        clear hp HE1
        go_wp2_with (first | (go_at_call 60; (with_reducible refine C.mono ?_); rintro e w2 ⟨rfl, hR, hG⟩; have t2 := t.row hG hR; obtain ⟨c0, c1, hbl⟩ := t2.cells) | (go_at_call 63; refine (reading_fault r'.a _ _ c1).mono ?_; rintro e w3 ⟨rfl, hB⟩))
        go_ret2
        exact ⟨by rw [HE2.out]; rfl, t2.B.trans (hB.mono t2.B.size)⟩
      | true =>
        have HE3 : Hid (E = runT (stepsT.drop 11) r') := Lib.hid HE1.out
        have iv2 := iv.t_sec hp
        clear hp HE1
        go_wp2_with (first | (go_at_call 60; (with_reducible refine C.mono ?_); rintro e w2 ⟨rfl, hR, hG⟩; have t2 := t.row hG hR; obtain ⟨c0, c1, hbl⟩ := t2.cells))
        go_roundg 2
        case measure => omega
        case rel => exact ⟨11, r', by go_num, by omega, iv2, HE3, t2⟩
    · have C := pointT_step r w.heap.size hrs hra wr (hL.below t.B) t.R
      have HE1 : Hid (E = if (pointT r).1 = true then runT (stepsT.drop 12) (pointT r).2 else (false, (pointT r).2)) := Lib.hid HE.out
      have sf := t.f12
      generalize hp : pointT r = p at C HE1
      obtain ⟨ok, r'⟩ := p
      clear HE
      cases ok with
      | false =>
        have HE2 : Hid (resT E = (0, mkAt (r'.a : Int) 41)) := Lib.hid (by rw [HE1.out, if_neg (show ¬ (false, r').1 = true from Bool.false_ne_true)]; exact if_neg (fun h => Bool.false_ne_true h.1))
        clear hp HE1
        go_wp2_with (first | (go_at_call 61; (with_reducible refine C.mono ?_); rintro e w2 ⟨rfl, hR, hG⟩; have t2 := t.row hG hR; obtain ⟨c0, c1, hbl⟩ := t2.cells) | (go_at_call 63; refine (reading_fault r'.a _ _ c1).mono ?_; rintro e w3 ⟨rfl, hB⟩))
        go_ret2
        exact ⟨by rw [HE2.out]; rfl, t2.B.trans (hB.mono t2.B.size)⟩
      | true =>
        have HE3 : Hid (E = runT (stepsT.drop 12) r') := Lib.hid HE1.out
        have iv2 := iv.pt hp
        clear hp HE1
        go_wp2_with (first | (go_at_call 61; (with_reducible refine C.mono ?_); rintro e w2 ⟨rfl, hR, hG⟩; have t2 := t.row hG hR; obtain ⟨c0, c1, hbl⟩ := t2.cells))
        go_roundg 1
        case measure => omega
        case rel => exact ⟨12, r', by go_num, by omega, iv2, HE3, t2⟩
    · have C := placeT_step r w.heap.size hrs wr (fun W h => hL.below (t.low h)) t.R
      have HE1 : Hid (E = if (placeT r).1 = true then runT (stepsT.drop 13) (placeT r).2 else (false, (placeT r).2)) := Lib.hid HE.out
      have sf := t.f13
      generalize hp : placeT r = p at C HE1
      obtain ⟨ok, r'⟩ := p
      clear HE
      cases ok with
      | false =>
        have HE2 : Hid (resT E = (0, mkAt (r'.a : Int) 41)) := Lib.hid (by rw [HE1.out, if_neg (show ¬ (false, r').1 = true from Bool.false_ne_true)]; exact if_neg (fun h => Bool.false_ne_true h.1))
        clear hp HE1
        go_wp2_with (first | (go_at_call 62; (with_reducible refine C.mono ?_); rintro e w2 ⟨rfl, hR, hG⟩; have t2 := t.row hG hR; obtain ⟨c0, c1, hbl⟩ := t2.cells) | (go_at_call 63; refine (reading_fault r'.a _ _ c1).mono ?_; rintro e w3 ⟨rfl, hB⟩))
        go_ret2
        exact ⟨by rw [HE2.out]; rfl, t2.B.trans (hB.mono t2.B.size)⟩
      | true =>
        have HE3 : Hid (E = runT (stepsT.drop 13) r') := Lib.hid HE1.out
        have iv2 := iv.pl hp
        clear hp HE1
        go_wp2_with (first | (go_at_call 62; (with_reducible refine C.mono ?_); rintro e w2 ⟨rfl, hR, hG⟩; have t2 := t.row hG hR; obtain ⟨c0, c1, hbl⟩ := t2.cells))
        go_roundg 0
        case measure => omega
        case rel => exact ⟨13, r', by go_num, by omega, iv2, HE3, t2⟩
    · have hE : E = (true, r) := HE.out
      have hss := iv.s_
      by_cases hlt : r.a < s.size
      · have HE2 : Hid (resT E = (0, mkAt (r.a : Int) 41)) := Lib.hid (by rw [hE]; exact if_neg (fun h => h.2 (by show r.a < r.s.size; rw [hss]; exact hlt)))
        have kl : decide ((r.a : Int) < (s.size : Int)) = true := by simp; omega
        have CA := fun W => fault_At (r.a : Int) 41 W
        generalize hev : encE (mkAt (r.a : Int) 41) = ev at *
        have HEV := Lib.hid hev
        clear hE hev hss HE
        go_wp2_with (go_at_call 64; refine (CA _).mono ?_; rintro e w3 ⟨rfl, hB⟩)
        go_ret2
        exact ⟨by rw [HE2.out]; show _ = Ending.returned (.tuple #[.int .i64 0, encE (mkAt (r.a : Int) 41)]); rw [HEV.out]; rfl, t.B.trans (hB.mono t.B.size)⟩
      · have HE2 : Hid (resT E = ((fitP (nsec r.y r.mo r.d r.h r.mi r.sec r.ns r.z)).1, mkE (fitP (nsec r.y r.mo r.d r.h r.mi r.sec r.ns r.z)).2)) := Lib.hid (by rw [hE]; exact if_pos ⟨rfl, by show ¬ r.a < r.s.size; rw [hss]; exact hlt⟩)
        have kl : decide ((r.a : Int) < (s.size : Int)) = false := by simp; omega
        have CS := reading_said r w.heap.size (iv.dv (by omega)) iv.h0 iv.h1 iv.m0 iv.m1 iv.c0 iv.c1 iv.n0 iv.n1 iv.z0 iv.z1 wr t.R
        generalize fitP (nsec r.y r.mo r.d r.h r.mi r.sec r.ns r.z) = q at *
        obtain ⟨q1, q2⟩ := q
        simp only at CS HE2
        generalize hev : encE (mkE q2) = ev at *
        have HEV := Lib.hid hev
        clear hE hev hss HE
        go_wp2_with (go_at_call 65; refine CS.mono ?_; rintro e w3 ⟨rfl, hG⟩)
        go_ret2
        exact ⟨by rw [HE2.out]; show _ = Ending.returned (.tuple #[.int .i64 q1, encE (mkE q2)]); rw [HEV.out]; rfl, t.low hG⟩
end Go.Proofs.YthplpjcadjnfiaaGreatDoor
