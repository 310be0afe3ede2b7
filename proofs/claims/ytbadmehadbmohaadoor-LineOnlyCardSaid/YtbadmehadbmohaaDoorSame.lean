/- weirboth.Same and weirboth.Is: what each answers, by contracts. -/
import Derived.Test.YtbadmehadbmohaaDoorFault
import Derived.Deep.RegionHeld3
import Derived.Deep.RegionWith
namespace Go.Proofs.YtbadmehadbmohaaDoor
open Go.RowKit Go.Extern.Stop Go.Stop Go.Extern
set_option linter.unusedSimpArgs false
set_option linter.unusedVariables false

/-- Is an error the one that the document tells? -/
def same (e : Option Er) (b : Bad) : Bool :=
  if b.code = 0 then e.isNone else
  match e with
  | none => false
  | some e => e.code? == some b.code && e.at?.isSome == b.placed && e.in?.isSome == b.numbered && (!b.placed || atPos e == b.at_) && (!b.numbered || inPos e == b.in_)

/-- How a walk stands to the world in which it began: below its first blocks nothing has turned; the library's variable lies. -/
structure St (w0 w : World) : Prop where
  B : Below w0.heap.size w0 w
  G : HG w
theorem St.start {w : World} (h : HG w) : St w w := ⟨Below.refl _ _, h⟩
theorem St.next {w0 w w' : World} (s : St w0 w) (h : Below w.heap.size w w') : St w0 w' := ⟨s.B.trans (h.mono s.B.size), s.G.below h⟩
theorem St.alloc {w0 w : World} (s : St w0 w) (o : Obj) : St w0 (w.alloc o) := s.next ((Below.refl _ _).alloc (Nat.le_refl _) o)
end Go.Proofs.YtbadmehadbmohaaDoor
