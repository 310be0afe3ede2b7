/- Package line: One: a line, or its error: the reader's panic is caught by the deferred function. -/
import Derived.Test.YtnodjijgeifejaaGreatDoorCatch
namespace Go.Proofs.YtnodjijgeifejaaGreatDoor
open Go.RowKit
set_option linter.unusedSimpArgs false
set_option linter.unusedVariables false

/-- What line.One answers: the point, or the zero point and the error. -/
def oneE : Sum Pt (Option Nat) → Option Er
  | .inl _ => none
  | .inr none => mkE 6
  | .inr (some e) => mkAt e 60
def oneD : Sum Pt (Option Nat) → Pt
  | .inl p => p
  | .inr _ => .zero
/-- A point as a value, its lists laid since there were B blocks. -/
def PtIn (B : Nat) (v : Value) (p : Pt) (w : World) : Prop := ∃ tv fv, v = .agg #[.string p.m, tv, fv, .int .i64 p.time] ∧ TagsIn B tv p.tags w ∧ FieldsIn B fv p.fields w
theorem PtIn.zero (B : Nat) (w : World) : PtIn B (.agg #[.string ⟨#[]⟩, .slice none 0 0, .slice none 0 0, .int .i64 0]) .zero w := ⟨_, _, rfl, World.ownsRow_nil _ _ _ _, World.ownsRow_nil _ _ _ _⟩
theorem res_err {w : World} {tmps : Array Value} {p : Tmp} {b : Nat} {v : Value} (hp : tmps.getD p undef = .pointer (some ⟨b, 0, none⟩)) (hc : w.cell? ⟨b, 0, none⟩ = some v) : ResIs Tryz.prog w tmps (.cell p 26) v := by
  unfold ResIs resSem
  simp only [hp, Sem.run_bind]
  have ha : (asAddr (.pointer (some ⟨b, 0, none⟩))).run Tryz.prog w = .ok ⟨b, 0, none⟩ w := rfl
  rw [ha]
  simp [loadVar, Tryz.isAgg26, go_sem, hc]
set_option maxRecDepth 100000 in
set_option maxHeartbeats 1000000 in
theorem line_One (s : ByteArray) (w : World) (L : LayS w) :
    Calls Tryz.prog 18 #[.string s] w fun ev w' => ∃ v, ev = .returned (.tuple #[v, encE (oneE (oneP s))]) ∧ PtIn w.heap.size v (oneD (oneP s)) w' ∧ Below w.heap.size w w' := by
  have hmf : ∀ (fn : Fn) (first cap : Array Value) (w : World), (Instr.makeFunc fn first cap).run Tryz.prog w = .ok (.func fn first cap) w := fun _ _ _ _ => rfl
  obtain ⟨X, hX⟩ : ∃ X, oneP s = X := ⟨_, rfl⟩
  rw [hX]
  unfold oneP at hX
  have hb0 : (w.alloc ptZ).heap[w.heap.size]? = some ptZ := heap_alloc_new w ptZ
  by_cases h8 : 8192 < s.size
  · rw [if_pos h8] at hX
    subst hX
    have h8' : (8192 : Int) < (s.size : Int) := by omega
    go_enter_defers Tryz.func18, Tryz.ntmps18
    have hb1 : ((w.alloc ptZ).alloc (.cells #[.nilIface] 26)).heap[w.heap.size + 1]? = some (.cells #[.nilIface] 26 (0, 0)) := heap_new' _ _ _ (by first | (simp; done) | (simp; omega))
    have hb2 : ((w.alloc ptZ).alloc (.cells #[.nilIface] 26)).heap[w.heap.size]? = some ptZ := heap_old' _ _ _ (by first | (simp; done) | (simp; omega)) hb0
    have pk0 := blk_cell' (hb2) 0
    have pf0 := blk_free' (hb2) 0
    have pk1 := blk_cell' (hb2) 1
    have pf1 := blk_free' (hb2) 1
    have pk2 := blk_cell' (hb2) 2
    have pf2 := blk_free' (hb2) 2
    have pk3 := blk_cell' (hb2) 3
    have pf3 := blk_free' (hb2) 3
    have ek0 := blk_cell' (hb1) 0
    have ef0 := blk_free' (hb1) 0
    have FN : ∀ w, Calls Tryz.prog 27 #[.int .i64 6] w fun ev w' => ev = .returned (.iface 33 (.int .i64 6)) ∧ w = w' := fun w => fault_New 6 w
    have FN := Lib.hid FN
    go_wp2
    go_region_held3 (fun w' => w'.cell? ⟨w.heap.size, 0, none⟩ = some (.string ⟨#[]⟩) ∧ w'.cell? ⟨w.heap.size, 1, none⟩ = some (.slice none 0 0) ∧ w'.cell? ⟨w.heap.size, 2, none⟩ = some (.slice none 0 0) ∧ w'.cell? ⟨w.heap.size, 3, none⟩ = some (.int .i64 0))
      (first | exact ⟨pk0, pk1, pk2, pk3⟩ | (refine ⟨?_, ?_, ?_, ?_⟩ <;> simp [go_sem, pk0, pk1, pk2, pk3]; done) | fail)
      (first | (go_at_call 27; (with_reducible refine (FN.out _).mono ?_); rintro ev w1 ⟨rfl, rfl⟩) | fail)
    go_wp2
    have hB : Below w.heap.size w ((w.alloc ptZ).alloc (.cells #[.iface 33 (.int .i64 6)] 26)).drew := (((Below.refl _ _).alloc (Nat.le_refl _) _).alloc (by first | (simp; done) | (simp; omega)) _).drew
    have he2 : ((w.alloc ptZ).alloc (.cells #[.iface 33 (.int .i64 6)] 26)).drew.heap[w.heap.size + 1]? = some (.cells #[.iface 33 (.int .i64 6)] 26 (0, 0)) := heap_new' _ _ _ (by first | (simp; done) | (simp; omega))
    have hp2 : ((w.alloc ptZ).alloc (.cells #[.iface 33 (.int .i64 6)] 26)).drew.heap[w.heap.size]? = some ptZ := heap_old' _ _ _ (by first | (simp; done) | (simp; omega)) hb0
    exact ⟨_, results_two Tryz.results18 (res_cell (b := w.heap.size) (T' := 32) (fr := (0, 0)) rfl hp2 Tryz.underlying32 rfl (by kernel_rfl)) (res_err (b := w.heap.size + 1) rfl (blk_cell' he2 0)), _, rfl, PtIn.zero _ _, hB⟩
  · rw [if_neg h8] at hX
    obtain ⟨E, hE⟩ : ∃ E, E = encE (oneE X) := ⟨_, rfl⟩
    obtain ⟨D, hD⟩ : ∃ D, D = oneD X := ⟨_, rfl⟩
    rw [← hE, ← hD]
    have HX := Lib.hid hX
    have HE := Lib.hid hE
    have HD := Lib.hid hD
    clear hX hE hD
    have h8' : ¬ (8192 : Int) < (s.size : Int) := by omega
    have hw : w.heap.size ≤ w.heap.size := Nat.le_refl _
    have r3 : (((w.alloc ptZ).alloc (.cells #[.nilIface] 26)).alloc (.cells #[.string s, .int .i64 0] 124)).heap[w.heap.size + 1 + 1]? = some (.cells #[.string s, .int .i64 0] 124 (0, 0)) := heap_new' _ _ _ (by first | (simp; done) | (simp; omega))
    have e3 : (((w.alloc ptZ).alloc (.cells #[.nilIface] 26)).alloc (.cells #[.string s, .int .i64 0] 124)).heap[w.heap.size + 1]? = some (.cells #[.nilIface] 26 (0, 0)) := heap_old' _ _ _ (by first | (simp; done) | (simp; omega)) (heap_new' _ _ _ (by first | (simp; done) | (simp; omega)))
    have p3 : (((w.alloc ptZ).alloc (.cells #[.nilIface] 26)).alloc (.cells #[.string s, .int .i64 0] 124)).heap[w.heap.size]? = some ptZ := heap_old' _ _ _ (by first | (simp; done) | (simp; omega)) (heap_old' _ _ _ (by first | (simp; done) | (simp; omega)) hb0)
    have B3 : Below w.heap.size w (((w.alloc ptZ).alloc (.cells #[.nilIface] 26)).alloc (.cells #[.string s, .int .i64 0] 124)) := (((Below.refl _ _).alloc (Nat.le_refl _) _).alloc (by first | (simp; done) | (simp; omega)) _).alloc (by first | (simp; done) | (simp; omega)) _
    go_enter_defers Tryz.func18, Tryz.ntmps18
    go_wp2_with fail
    refine (line_point (w.heap.size + 1 + 1) s (by omega) _ (L.below B3) w.heap.size L.old (by omega) r3).mono ?_
    cases hP : pointP s with
    | no e =>
      have hX : X = .inr (some e) := by rw [← HX.out, hP]
      have HE := Lib.hid (show E = encE (mkAt e 60) by rw [HE.out, hX]; rfl)
      have HD := Lib.hid (show D = .zero by rw [HD.out, hX]; rfl)
      clear hX
      rintro ev w4 ⟨hp, hg⟩
      obtain rfl := hp
      have B4 := B3.trans (below_grown1 hg (by omega) B3.size)
      have p4 := grown_blk hg p3 (fun e => by have := Option.some.inj e; omega)
      have e4 := grown_blk hg e3 (fun e => by have := Option.some.inj e; omega)
      clear r3 e3 p3 hg
      go_wp2
      refine leaves_cons (f := 44) (args := #[.pointer (some ⟨w.heap.size, 0, none⟩), .pointer (some ⟨w.heap.size + 1, 0, none⟩)]) (by simp) (by simp [go_sem]) ?_
      refine (catch_stop w.heap.size (w.heap.size + 1) e _ _ _ _ _ (by omega) _ p4 e4).mono ?_
      rintro ev u' w5 ⟨rfl, rfl, q1, q2, q3⟩
      exact ⟨_, results_two Tryz.results18 (res_cell (b := w.heap.size) (T' := 32) (fr := (0, 0)) rfl q1 Tryz.underlying32 rfl (by kernel_rfl)) (res_err (b := w.heap.size + 1) rfl (blk_cell' q2 0)), _, by rw [HE.out]; rfl, by rw [HD.out]; exact PtIn.zero _ _, B4.trans (q3.mono (by omega))⟩
    | ok p b =>
      have hX : X = .inl p := by rw [← HX.out, hP]
      have HE := Lib.hid (show E = .nilIface by rw [HE.out, hX]; rfl)
      have HD := Lib.hid (show D = p by rw [HD.out, hX]; rfl)
      clear hX
      rintro ev w4 ⟨tv, fv, rfl, ht, hf, hg⟩
      have B4 := B3.trans (below_grown1 hg (by omega) B3.size)
      have p4 := grown_blk hg p3 (fun e => by have := Option.some.inj e; omega)
      have e4 := grown_blk hg e3 (fun e => by have := Option.some.inj e; omega)
      have hs3 : w.heap.size ≤ (((w.alloc ptZ).alloc (.cells #[.nilIface] 26)).alloc (.cells #[.string s, .int .i64 0] 124)).heap.size := B3.size
      clear r3 e3 p3 hg
      obtain ⟨ao, nn, cc, rfl⟩ := own_form ht
      obtain ⟨ao', nn', cc', rfl⟩ := own_form hf
      have pk0 := blk_cell' (p4) 0
      have pf0 := blk_free' (p4) 0
      have pk1 := blk_cell' (p4) 1
      have pf1 := blk_free' (p4) 1
      have pk2 := blk_cell' (p4) 2
      have pf2 := blk_free' (p4) 2
      have pk3 := blk_cell' (p4) 3
      have pf3 := blk_free' (p4) 3
      have ek0 := blk_cell' (e4) 0
      have ef0 := blk_free' (e4) 0
      go_wp2
      have q1 := blk_far' (pt_blk p4 (.string p.m) (.slice ao nn cc) (.slice ao' nn' cc') (.int .i64 p.time)) (show w.heap.size ≠ w.heap.size + 1 by omega) 0 .nilIface
      have q2 := blk_set' (grown_blk (pt_grown (w := w4) w.heap.size (.string p.m) (.slice ao nn cc) (.slice ao' nn' cc') (.int .i64 p.time)) e4 (fun h => by have := Option.some.inj h; omega)) 0 .nilIface
      have g1 := pt_grown (w := w4) w.heap.size (.string p.m) (.slice ao nn cc) (.slice ao' nn' cc') (.int .i64 p.time)
      have ht1 := ht.kept g1 (.inr (own_ne ht p4 (by decide)))
      have hf1 := hf.kept g1 (.inr (own_ne hf p4 (by decide)))
      have g2 := grown_set (grown_refl ((((w4.setCell ⟨w.heap.size, 0, none⟩ (.string p.m)).setCell ⟨w.heap.size, 1, none⟩ (.slice ao nn cc)).setCell ⟨w.heap.size, 2, none⟩ (.slice ao' nn' cc')).setCell ⟨w.heap.size, 3, none⟩ (.int .i64 p.time)) (some (w.heap.size + 1))) 0 .nilIface
      have e5 := grown_blk g1 e4 (fun h => by have := Option.some.inj h; omega)
      have ht2 := Go.Joins.ownsRow_le (ht1.kept g2 (.inr (own_ne ht1 e5 (by decide)))) hs3
      have hf2 := Go.Joins.ownsRow_le (hf1.kept g2 (.inr (own_ne hf1 e5 (by decide)))) hs3
      have B5 : Below w.heap.size w (((((w4.setCell ⟨w.heap.size, 0, none⟩ (.string p.m)).setCell ⟨w.heap.size, 1, none⟩ (.slice ao nn cc)).setCell ⟨w.heap.size, 2, none⟩ (.slice ao' nn' cc')).setCell ⟨w.heap.size, 3, none⟩ (.int .i64 p.time)).setCell ⟨w.heap.size + 1, 0, none⟩ .nilIface) :=
        ((((B4.setCell (p := ⟨w.heap.size, 0, none⟩) (Nat.le_refl _) _).setCell (p := ⟨w.heap.size, 1, none⟩) (Nat.le_refl _) _).setCell (p := ⟨w.heap.size, 2, none⟩) (Nat.le_refl _) _).setCell (p := ⟨w.heap.size, 3, none⟩) (Nat.le_refl _) _).setCell (p := ⟨w.heap.size + 1, 0, none⟩) (Nat.le_succ _) _
      refine leaves_cons (f := 44) (args := #[.pointer (some ⟨w.heap.size, 0, none⟩), .pointer (some ⟨w.heap.size + 1, 0, none⟩)]) (by simp) (by simp [go_sem]) ?_
      refine (catch_idle w.heap.size (w.heap.size + 1) _).mono ?_
      rintro ev u' w5 ⟨rfl, rfl, rfl⟩
      exact ⟨_, results_two Tryz.results18 (res_cell (b := w.heap.size) (T' := 32) (fr := (0, 0)) rfl q1 Tryz.underlying32 rfl (by kernel_rfl)) (res_err (b := w.heap.size + 1) rfl (blk_cell' q2 0)), _, by rw [HE.out]; rfl, by rw [HD.out]; exact ⟨_, _, rfl, ht2, hf2⟩, B5⟩
end Go.Proofs.YtnodjijgeifejaaGreatDoor
