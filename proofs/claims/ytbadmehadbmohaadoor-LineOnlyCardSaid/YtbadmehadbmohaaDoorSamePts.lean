/- weirmem.SamePoints: two lists that hold the same points are the same. -/
import Derived.Test.YtbadmehadbmohaaDoorSameTags
import Derived.Test.YtbadmehadbmohaaDoorPoint
import Derived.Deep.LoopGhost
import Derived.Deep.QuietTactic
import Derived.BigQuiet
namespace Go.Proofs.YtbadmehadbmohaaDoor
open Go.RowKit
set_option linter.unusedSimpArgs false
set_option linter.unusedVariables false

abbrev tagK (l : List (ByteArray × ByteArray)) (j : Nat) : ByteArray := (l.getD j (⟨#[]⟩, ⟨#[]⟩)).1
abbrev tagV (l : List (ByteArray × ByteArray)) (j : Nat) : ByteArray := (l.getD j (⟨#[]⟩, ⟨#[]⟩)).2
abbrev fldK (l : List (ByteArray × Int)) (j : Nat) : ByteArray := (l.getD j (⟨#[]⟩, 0)).1
abbrev fldV (l : List (ByteArray × Int)) (j : Nat) : Int := (l.getD j (⟨#[]⟩, 0)).2
/-- A point whose cells begin at an address. -/
structure PtCells (w : World) (a : Addr) (p : Pt) (At : Option Addr) (ct : Nat) (Af : Option Addr) (cf : Nat) : Prop where
  m : w.cell? a = some (.string p.m)
  t : w.cell? ⟨a.block, a.off + 1, none⟩ = some (.slice At p.tags.length ct)
  f : w.cell? ⟨a.block, a.off + 2, none⟩ = some (.slice Af p.fields.length cf)
  n : w.cell? ⟨a.block, a.off + 3, none⟩ = some (.int .i64 p.time)
  ts : TwoAt w At p.tags.length fun j => (.string (tagK p.tags j), .string (tagV p.tags j))
  fs : TwoAt w Af p.fields.length fun j => (.string (fldK p.fields j), .int .i64 (fldV p.fields j))
theorem PtCells.next {w w' : World} {a : Addr} {p : Pt} {At : Option Addr} {ct : Nat} {Af : Option Addr} {cf : Nat} (h : PtCells w a p At ct Af cf) (hB : Below w.heap.size w w') : PtCells w' a p At ct Af cf :=
  have c : ∀ {x : Addr} {v : Value}, w.cell? x = some v → w'.cell? x = some v := fun {x v} hx => (hB.cell (World.block_lt_of_cell? w _ hx)).trans hx
  ⟨c h.m, c h.t, c h.f, c h.n, h.ts.next hB, h.fs.next hB⟩
/-- A list of points at an address. -/
structure PtsAt (w : World) (A : Option Addr) (l : List Pt) : Prop where
  le : l.length ≤ 9223372036854775807
  cells : 0 < l.length → ∃ ad : Addr, A = some ad ∧ ∀ j, (hj : j < l.length) → ∃ At ct Af cf, PtCells w (ad.add (j * 4)) l[j] At ct Af cf
theorem PtsAt.next {w w' : World} {A : Option Addr} {l : List Pt} (h : PtsAt w A l) (hB : Below w.heap.size w w') : PtsAt w' A l :=
  ⟨h.le, fun hn => by
    obtain ⟨ad, e, hc⟩ := h.cells hn
    exact ⟨ad, e, fun j hj => by
      obtain ⟨At, ct, Af, cf, q⟩ := hc j hj
      exact ⟨At, ct, Af, cf, q.next hB⟩⟩⟩
theorem below_drewN0 (w : World) (m : Nat) : Below w.heap.size w (w.drewN m) := ⟨rfl, rfl, rfl, Nat.le_refl _, fun _ _ => rfl⟩
end Go.Proofs.YtbadmehadbmohaaDoor
