/- Package fault's makers and tellers, package weirref01's makers, weirboth.Same and weirboth.Is: what each computes, by contracts. -/
import Derived.Test.YtnodjijgeifejaaGreatDoorAs
import Derived.Deep.RegionHeld3
namespace Go.Proofs.YtnodjijgeifejaaGreatDoor
open Go.RowKit Go.Extern.Stop Go.Stop Go.Extern
set_option linter.unusedSimpArgs false
set_option linter.unusedVariables false

/-- The variable errors.errorType lies as the program's text lays it. -/
def HG (w : World) : Prop := w.cell? ⟨0, 0, none⟩ = some (.iface 234 (.agg #[.pointer (some ⟨7, 26, none⟩)]))
theorem HG.lt {w : World} (h : HG w) : 0 < w.heap.size := World.block_lt_of_cell? w _ h
theorem HG.below {w w' : World} (h : HG w) (hB : Below w.heap.size w w') : HG w' := (hB.cell (p := ⟨0, 0, none⟩) h.lt).trans h
theorem HG.alloc {w : World} (h : HG w) (o : Obj) : HG (w.alloc o) := h.below ((Below.refl _ _).alloc (Nat.le_refl _) o)
theorem HG.belowN {B : Nat} {w w' : World} (h : HG w) (hB : Below B w w') (hb : 0 < B) : HG w' := (hB.cell (p := ⟨0, 0, none⟩) hb).trans h

def codeOf : Option Er → Int
  | none => 0
  | some e => e.code?.getD 0
def atPos (e : Er) : Int := match e.at? with | none => 0 | some q => q.1
def atErr (e : Er) : Value := match e.at? with | none => .nilIface | some q => q.2.enc
def inPos (e : Er) : Int := match e.in? with | none => 0 | some q => q.1
def inErr (e : Er) : Value := match e.in? with | none => .nilIface | some q => q.2.enc
def placeOf : Option Er → Int × Bool
  | none => (0, false)
  | some e => (atPos e, e.at?.isSome)
def indexOf : Option Er → Int × Bool
  | none => (0, false)
  | some e => (inPos e, e.in?.isSome)

/-- What errors.As leaves, whether it finds or not: its answer, and the target's block. -/
def Told (tb : Nat) (T : TypeId) (b : Bool) (cs : Array Value) (w : World) (ev : Ending) (w' : World) : Prop :=
  ev = .returned (.bool b) ∧ w.grownBy w' (some tb) ∧ w'.heap[tb]? = some (.cells cs T (0, 0))

theorem told_code (e : Er) (tb : Nat) (w : World) (hg : HG w) (ht : w.heap[tb]? = some (.cells #[.int .i64 0] 33 (0, 0))) :
    Calls Tryz.prog 35 #[e.enc, .iface 108 (.pointer (some ⟨tb, 0, none⟩))] w (Told tb 33 e.code?.isSome #[.int .i64 (codeOf (some e))] w) := by
  refine (As_code e tb _ w hg ht).mono ?_
  intro ev w' h
  cases hf : e.code? with
  | none => rw [hf] at h; exact ⟨h.1, grown_of_below h.2 (Nat.le_refl _) _, by simpa [codeOf, hf] using (h.2.block tb (blk_lt' ht)).trans ht⟩
  | some n => rw [hf] at h; exact ⟨h.1, h.2.1, by simpa [codeOf, hf] using h.2.2⟩
theorem told_at (e : Er) (tb : Nat) (w : World) (hg : HG w) (ht : w.heap[tb]? = some (.cells #[.int .i64 0, .nilIface] 104 (0, 0))) :
    Calls Tryz.prog 35 #[e.enc, .iface 109 (.pointer (some ⟨tb, 0, none⟩))] w (Told tb 104 e.at?.isSome #[.int .i64 (atPos e), atErr e] w) := by
  refine (As_at_ e tb _ _ w hg ht).mono ?_
  intro ev w' h
  cases hf : e.at? with
  | none => rw [hf] at h; exact ⟨h.1, grown_of_below h.2 (Nat.le_refl _) _, by simpa [atPos, atErr, hf] using (h.2.block tb (blk_lt' ht)).trans ht⟩
  | some q => rw [hf] at h; exact ⟨h.1, h.2.1, by simpa [atPos, atErr, hf] using h.2.2⟩
theorem told_in (e : Er) (tb : Nat) (w : World) (hg : HG w) (ht : w.heap[tb]? = some (.cells #[.int .i64 0, .nilIface] 106 (0, 0))) :
    Calls Tryz.prog 35 #[e.enc, .iface 110 (.pointer (some ⟨tb, 0, none⟩))] w (Told tb 106 e.in?.isSome #[.int .i64 (inPos e), inErr e] w) := by
  refine (As_in_ e tb _ _ w hg ht).mono ?_
  intro ev w' h
  cases hf : e.in? with
  | none => rw [hf] at h; exact ⟨h.1, grown_of_below h.2 (Nat.le_refl _) _, by simpa [inPos, inErr, hf] using (h.2.block tb (blk_lt' ht)).trans ht⟩
  | some q => rw [hf] at h; exact ⟨h.1, h.2.1, by simpa [inPos, inErr, hf] using h.2.2⟩

set_option maxHeartbeats 1000000 in
theorem fault_Place (e : Option Er) (w : World) (hg : HG w) :
    Calls Tryz.prog 117 #[encE e] w fun ev w' => ev = .returned (.tuple #[.int .i64 (placeOf e).1, .bool (placeOf e).2]) ∧ Below w.heap.size w w' := by
  cases e with
  | none =>
    go_enter Tryz.func117, Tryz.ntmps117
    go_wp2_with (go_at_call 35; refine (As_nil _ _).mono ?_; rintro ev w' ⟨rfl, rfl⟩)
    go_ret2
    exact ⟨rfl, (Below.refl _ _).alloc (Nat.le_refl _) _⟩
  | some e =>
    have hc := Lib.hid (told_at e w.heap.size (w.alloc (.cells #[.int .i64 0, .nilIface] 104)) (hg.alloc _) (heap_alloc_new w _))
    show Calls Tryz.prog 117 #[e.enc] w fun ev w' => ev = .returned (.tuple #[.int .i64 (atPos e), .bool e.at?.isSome]) ∧ Below w.heap.size w w'
    go_enter Tryz.func117, Tryz.ntmps117
    go_wp2_with fail
    refine hc.out.mono ?_
    rintro ev w1 ⟨rfl, hG, hb⟩
    have hcell : w1.cell? ⟨w.heap.size, 0, none⟩ = some (.int .i64 (atPos e)) := blk_cell' hb 0
    go_wp2
    go_ret2
    exact ⟨rfl, ((Below.refl _ _).alloc (Nat.le_refl _) _).trans (below_of_grown hG (by rintro k ⟨rfl⟩; exact Nat.le_refl _) (by simp))⟩

/-- An error of a number; of the number 0: none. -/
def mkE (n : Int) : Option Er := if n = 0 then none else some (.code n)
def mkAt (p n : Int) : Option Er := if n = 0 then none else some (.at_ p (.code n))
def mkIn (i : Int) (e : Option Er) : Option Er := e.map (.in_ i)

set_option maxRecDepth 100000 in
theorem fault_New (n : Int) (w : World) : Calls Tryz.prog 27 #[.int .i64 n] w fun ev w' => ev = .returned (encE (mkE n)) ∧ w = w' := by
  by_cases h : n = 0
  · subst h
    go_enter Tryz.func27, Tryz.ntmps27
    go_wp2
    go_ret
    exact ⟨rfl, rfl⟩
  · have hb : (n == 0) = false := by simpa using h
    have hm : encE (mkE n) = .iface 33 (.int .i64 n) := by simp [mkE, h, encE, Er.enc]
    rw [hm]
    clear hm h
    go_enter Tryz.func27, Tryz.ntmps27
    go_wp2
    go_ret
    exact ⟨rfl, rfl⟩
set_option maxRecDepth 100000 in
theorem fault_At (p n : Int) (w : World) : Calls Tryz.prog 115 #[.int .i64 p, .int .i64 n] w fun ev w' => ev = .returned (encE (mkAt p n)) ∧ Below w.heap.size w w' := by
  by_cases h : n = 0
  · subst h
    go_enter Tryz.func115, Tryz.ntmps115
    go_wp2
    go_ret
    exact ⟨rfl, Below.refl _ _⟩
  · have hb : (n == 0) = false := by simpa using h
    have hm : encE (mkAt p n) = .iface 104 (.agg #[.int .i64 p, .iface 33 (.int .i64 n)]) := by simp [mkAt, h, encE, Er.enc]
    rw [hm]
    clear hm h
    go_enter Tryz.func115, Tryz.ntmps115
    go_wp2
    go_ret
    exact ⟨rfl, by go_grown⟩
set_option maxRecDepth 100000 in
theorem fault_In (i : Int) (e : Option Er) (w : World) : Calls Tryz.prog 36 #[.int .i64 i, encE e] w fun ev w' => ev = .returned (encE (mkIn i e)) ∧ Below w.heap.size w w' := by
  cases e with
  | none =>
    show Calls Tryz.prog 36 #[.int .i64 i, .nilIface] w fun ev w' => ev = .returned .nilIface ∧ Below w.heap.size w w'
    go_enter Tryz.func36, Tryz.ntmps36
    go_wp2
    go_ret
    exact ⟨rfl, Below.refl _ _⟩
  | some e =>
    have hm : encE (mkIn i (some e)) = .iface 106 (.agg #[.int .i64 i, e.enc]) := rfl
    rw [hm]
    clear hm
    show Calls Tryz.prog 36 #[.int .i64 i, e.enc] w _
    obtain ⟨tt, tv, he⟩ := e.enc_iface
    rw [he]
    clear he
    go_enter Tryz.func36, Tryz.ntmps36
    go_wp2
    go_ret
    exact ⟨rfl, by go_grown⟩

/-- An error as the document tells it. -/
structure Bad where
  code : Int
  at_ : Int
  in_ : Int
  placed : Bool
  numbered : Bool
def Bad.enc (b : Bad) : Value := .agg #[.int .i64 b.code, .int .i64 b.at_, .int .i64 b.in_, .bool b.placed, .bool b.numbered]
def Bad.nil : Bad := ⟨0, 0, 0, false, false⟩
def refNew (n : Int) : Bad := ⟨n, 0, 0, false, false⟩
def refAt (p n : Int) : Bad := if n = 0 then .nil else ⟨n, p, 0, true, false⟩
def refIn (i : Int) (b : Bad) : Bad := if b.code = 0 then .nil else ⟨b.code, b.at_, i, b.placed, true⟩

theorem weirref01_New (n : Int) (w : World) : Calls Tryz.prog 33 #[.int .i64 n] w fun ev w' => ev = .returned (refNew n).enc ∧ Below w.heap.size w w' := by
  go_enter Tryz.func33, Tryz.ntmps33
  go_wp2
  go_returns
  exact ⟨rfl, by go_grown⟩
theorem weirref01_At (p n : Int) (w : World) : Calls Tryz.prog 90 #[.int .i64 p, .int .i64 n] w fun ev w' => ev = .returned (refAt p n).enc ∧ Below w.heap.size w w' := by
  by_cases h : n = 0
  · subst h
    go_enter Tryz.func90, Tryz.ntmps90
    go_wp2
    go_returns
    exact ⟨rfl, by go_grown⟩
  · have hb : (n == 0) = false := by simpa using h
    have hm : refAt p n = ⟨n, p, 0, true, false⟩ := by simp [refAt, h]
    rw [hm]
    clear hm h
    go_enter Tryz.func90, Tryz.ntmps90
    go_wp2
    go_returns
    exact ⟨rfl, by go_grown⟩
theorem weirref01_In (i : Int) (b : Bad) (w : World) : Calls Tryz.prog 37 #[.int .i64 i, b.enc] w fun ev w' => ev = .returned (refIn i b).enc ∧ Below w.heap.size w w' := by
  obtain ⟨c, p, x, pl, nu⟩ := b
  by_cases h : c = 0
  · subst h
    simp only [Bad.enc]
    go_enter Tryz.func37, Tryz.ntmps37
    go_wp2
    go_returns
    exact ⟨rfl, by go_grown⟩
  · have hb : (c == 0) = false := by simpa using h
    have hm : refIn i ⟨c, p, x, pl, nu⟩ = ⟨c, p, i, pl, true⟩ := by simp [refIn, h]
    rw [hm]
    clear hm h
    simp only [Bad.enc]
    go_enter Tryz.func37, Tryz.ntmps37
    go_wp2
    go_returns
    exact ⟨rfl, by go_grown⟩
end Go.Proofs.YtnodjijgeifejaaGreatDoor
