/- Package fault's makers and tellers, package weirref01's makers, weirboth.Same and weirboth.Is: what each computes, by contracts. -/
import Derived.Test.YtbadmehadbmohaaDoorAs
import Derived.Deep.RegionHeld3
namespace Go.Proofs.YtbadmehadbmohaaDoor
open Go.RowKit Go.Extern.Stop Go.Stop Go.Extern
set_option linter.unusedSimpArgs false
set_option linter.unusedVariables false

/-- The variable errors.errorType lies as the program's text lays it. -/
def HG (w : World) : Prop := w.cell? ⟨0, 0, none⟩ = some (.iface 97 (.agg #[.pointer (some ⟨7, 28, none⟩)]))
theorem HG.lt {w : World} (h : HG w) : 0 < w.heap.size := World.block_lt_of_cell? w _ h
theorem HG.below {w w' : World} (h : HG w) (hB : Below w.heap.size w w') : HG w' := (hB.cell (p := ⟨0, 0, none⟩) h.lt).trans h
theorem HG.alloc {w : World} (h : HG w) (o : Obj) : HG (w.alloc o) := h.below ((Below.refl _ _).alloc (Nat.le_refl _) o)
theorem HG.belowN {B : Nat} {w w' : World} (h : HG w) (hB : Below B w w') (hb : 0 < B) : HG w' := (hB.cell (p := ⟨0, 0, none⟩) hb).trans h

def codeOf : Option Er → Int
  | none => 0
  | some e => e.code?.getD 0
def atPos (e : Er) : Int := match e.at? with | none => 0 | some q => q.1
def atErr (e : Er) : Value := match e.at? with | none => .nilIface | some q => q.2.enc
def inPos (e : Er) : Int := match e.in? with | none => 0 | some q => q.1
def inErr (e : Er) : Value := match e.in? with | none => .nilIface | some q => q.2.enc
def placeOf : Option Er → Int × Bool
  | none => (0, false)
  | some e => (atPos e, e.at?.isSome)
def indexOf : Option Er → Int × Bool
  | none => (0, false)
  | some e => (inPos e, e.in?.isSome)

/-- What errors.As leaves, whether it finds or not: its answer, and the target's block. -/
def Told (tb : Nat) (T : TypeId) (b : Bool) (cs : Array Value) (w : World) (ev : Ending) (w' : World) : Prop :=
  ev = .returned (.bool b) ∧ w.grownBy w' (some tb) ∧ w'.heap[tb]? = some (.cells cs T (0, 0))

theorem told_code (e : Er) (tb : Nat) (w : World) (hg : HG w) (ht : w.heap[tb]? = some (.cells #[.int .i64 0] 34 (0, 0))) :
    Calls Tryd.prog 17 #[e.enc, .iface 59 (.pointer (some ⟨tb, 0, none⟩))] w (Told tb 34 e.code?.isSome #[.int .i64 (codeOf (some e))] w) := by
  refine (As_code e tb _ w hg ht).mono ?_
  intro ev w' h
  cases hf : e.code? with
  | none => rw [hf] at h; exact ⟨h.1, grown_of_below h.2 (Nat.le_refl _) _, by simpa [codeOf, hf] using (h.2.block tb (blk_lt' ht)).trans ht⟩
  | some n => rw [hf] at h; exact ⟨h.1, h.2.1, by simpa [codeOf, hf] using h.2.2⟩
theorem told_at (e : Er) (tb : Nat) (w : World) (hg : HG w) (ht : w.heap[tb]? = some (.cells #[.int .i64 0, .nilIface] 111 (0, 0))) :
    Calls Tryd.prog 17 #[e.enc, .iface 112 (.pointer (some ⟨tb, 0, none⟩))] w (Told tb 111 e.at?.isSome #[.int .i64 (atPos e), atErr e] w) := by
  refine (As_at_ e tb _ _ w hg ht).mono ?_
  intro ev w' h
  cases hf : e.at? with
  | none => rw [hf] at h; exact ⟨h.1, grown_of_below h.2 (Nat.le_refl _) _, by simpa [atPos, atErr, hf] using (h.2.block tb (blk_lt' ht)).trans ht⟩
  | some q => rw [hf] at h; exact ⟨h.1, h.2.1, by simpa [atPos, atErr, hf] using h.2.2⟩
set_option maxHeartbeats 1000000 in
theorem fault_Place (e : Option Er) (w : World) (hg : HG w) :
    Calls Tryd.prog 36 #[encE e] w fun ev w' => ev = .returned (.tuple #[.int .i64 (placeOf e).1, .bool (placeOf e).2]) ∧ Below w.heap.size w w' := by
  cases e with
  | none =>
    go_enter Tryd.func36, Tryd.ntmps36
    go_wp2_with (go_at_call 17; refine (As_nil _ _).mono ?_; rintro ev w' ⟨rfl, rfl⟩)
    go_ret2
    exact ⟨rfl, (Below.refl _ _).alloc (Nat.le_refl _) _⟩
  | some e =>
    have hc := Lib.hid (told_at e w.heap.size (w.alloc (.cells #[.int .i64 0, .nilIface] 111)) (hg.alloc _) (heap_alloc_new w _))
    show Calls Tryd.prog 36 #[e.enc] w fun ev w' => ev = .returned (.tuple #[.int .i64 (atPos e), .bool e.at?.isSome]) ∧ Below w.heap.size w w'
    go_enter Tryd.func36, Tryd.ntmps36
    go_wp2_with fail
    refine hc.out.mono ?_
    rintro ev w1 ⟨rfl, hG, hb⟩
    have hcell : w1.cell? ⟨w.heap.size, 0, none⟩ = some (.int .i64 (atPos e)) := blk_cell' hb 0
    go_wp2
    go_ret2
    exact ⟨rfl, ((Below.refl _ _).alloc (Nat.le_refl _) _).trans (below_of_grown hG (by rintro k ⟨rfl⟩; exact Nat.le_refl _) (by simp))⟩

/-- An error of a number; of the number 0: none. -/
def mkE (n : Int) : Option Er := if n = 0 then none else some (.code n)
def mkAt (p n : Int) : Option Er := if n = 0 then none else some (.at_ p (.code n))
set_option maxRecDepth 100000 in
theorem fault_New (n : Int) (w : World) : Calls Tryd.prog 8 #[.int .i64 n] w fun ev w' => ev = .returned (encE (mkE n)) ∧ w = w' := by
  by_cases h : n = 0
  · subst h
    go_enter Tryd.func8, Tryd.ntmps8
    go_wp2
    go_ret
    exact ⟨rfl, rfl⟩
  · have hb : (n == 0) = false := by simpa using h
    have hm : encE (mkE n) = .iface 34 (.int .i64 n) := by simp [mkE, h, encE, Er.enc]
    rw [hm]
    clear hm h
    go_enter Tryd.func8, Tryd.ntmps8
    go_wp2
    go_ret
    exact ⟨rfl, rfl⟩
set_option maxRecDepth 100000 in
theorem fault_At (p n : Int) (w : World) : Calls Tryd.prog 34 #[.int .i64 p, .int .i64 n] w fun ev w' => ev = .returned (encE (mkAt p n)) ∧ Below w.heap.size w w' := by
  by_cases h : n = 0
  · subst h
    go_enter Tryd.func34, Tryd.ntmps34
    go_wp2
    go_ret
    exact ⟨rfl, Below.refl _ _⟩
  · have hb : (n == 0) = false := by simpa using h
    have hm : encE (mkAt p n) = .iface 111 (.agg #[.int .i64 p, .iface 34 (.int .i64 n)]) := by simp [mkAt, h, encE, Er.enc]
    rw [hm]
    clear hm h
    go_enter Tryd.func34, Tryd.ntmps34
    go_wp2
    go_ret
    exact ⟨rfl, by go_grown⟩
set_option maxRecDepth 100000 in
/-- An error as the document tells it. -/
structure Bad where
  code : Int
  at_ : Int
  in_ : Int
  placed : Bool
  numbered : Bool
def Bad.nil : Bad := ⟨0, 0, 0, false, false⟩
def refNew (n : Int) : Bad := ⟨n, 0, 0, false, false⟩
def refAt (p n : Int) : Bad := if n = 0 then .nil else ⟨n, p, 0, true, false⟩
def refIn (i : Int) (b : Bad) : Bad := if b.code = 0 then .nil else ⟨b.code, b.at_, i, b.placed, true⟩

end Go.Proofs.YtbadmehadbmohaaDoor
