/- The library's functions that the program calls (numbers as texts, texts as numbers, cuts of texts), by the shelf's contracts, in one form. -/
import Derived.Test.YtnodjijgeifejaaGreatDoorSame
import Derived.Test.YtnodjijgeifejaaGreatDoorRes
import Derived.Test.YtnodjijgeifejaaGreatDoorShelf
import Derived.Test.YtnodjijgeifejaaGreatDoorPlain
import Derived.Lib.AppendIntMem
import Derived.Lib.SmallJoins
import Derived.WalkSmall
namespace Go.Proofs.YtnodjijgeifejaaGreatDoor
open Go.RowKit
set_option linter.unusedSimpArgs false
set_option linter.unusedVariables false

theorem gTab : Tryz.prog.globalNamed "internal/strconv.uint64pow10" = some 1 := by kernel_rfl
theorem gSyn : Tryz.prog.globalNamed "strconv.ErrSyntax" = some 5 := by kernel_rfl
theorem gRng : Tryz.prog.globalNamed "strconv.ErrRange" = some 6 := by kernel_rfl

/-- The library's variables lie as the program's text lays them: the error type's handle and the powers of ten; the two errors besides; the bound besides. -/
structure Lay (w : World) : Prop where
  hg : HG w
  tab : Lib.TabIs Tryz.prog w "internal/strconv.uint64pow10" .u64 Lib.pow10Tab
structure LayS (w : World) : Prop where
  L : Lay w
  syn : ∃ tp p, w.var? Tryz.prog "strconv.ErrSyntax" = some #[.iface tp p]
  rng : ∃ tp p, w.var? Tryz.prog "strconv.ErrRange" = some #[.iface tp p]
structure LayM (w : World) : Prop where
  S : LayS w
  mx : ∃ m, w.cell? ⟨2, 0, none⟩ = some (.int .i64 m)
theorem var?_lt {w : World} {n : String} {g : Nat} {cs : Array Value} (hg : Tryz.prog.globalNamed n = some g) (h : w.var? Tryz.prog n = some cs) : g < w.heap.size := by
  unfold World.var? at h
  rw [hg] at h
  simp only [Option.bind_some] at h
  cases hb : w.heap[g]? with
  | none => rw [hb] at h; simp at h
  | some o => exact blk_lt' hb
theorem Lay.below {w w' : World} (h : Lay w) (hB : Below w.heap.size w w') : Lay w' where
  hg := h.hg.below hB
  tab := var?_below hB gTab (var?_lt gTab h.tab) h.tab
theorem LayS.below {w w' : World} (h : LayS w) (hB : Below w.heap.size w w') : LayS w' where
  L := h.L.below hB
  syn := by obtain ⟨tp, p, e⟩ := h.syn; exact ⟨tp, p, var?_below hB gSyn (var?_lt gSyn e) e⟩
  rng := by obtain ⟨tp, p, e⟩ := h.rng; exact ⟨tp, p, var?_below hB gRng (var?_lt gRng e) e⟩
theorem LayM.below {w w' : World} (h : LayM w) (hB : Below w.heap.size w w') : LayM w' where
  S := h.S.below hB
  mx := by obtain ⟨m, e⟩ := h.mx; exact ⟨m, cell_below hB (World.block_lt_of_cell? w _ e) e⟩

/-- What stays as long as no block of before is written. -/
class Stays (P : World → Prop) : Prop where
  go : ∀ {w w' : World}, P w → Below w.heap.size w w' → P w'
instance : Stays Lay := ⟨Lay.below⟩
instance : Stays LayS := ⟨LayS.below⟩
instance : Stays LayM := ⟨LayM.below⟩
/-- How a walk stands to the world in which it began, the library's variables with it. -/
structure Sq (P : World → Prop) (w0 w : World) : Prop where
  B : Below w0.heap.size w0 w
  L : P w
abbrev Sl := Sq Lay
theorem Sq.start {P : World → Prop} {w : World} (h : P w) : Sq P w w := ⟨Below.refl _ _, h⟩
theorem Sq.next {P : World → Prop} [Stays P] {w0 w w' : World} (s : Sq P w0 w) (h : Below w.heap.size w w') : Sq P w0 w' := ⟨s.B.trans (h.mono s.B.size), Stays.go s.L h⟩
theorem Sq.alloc {P : World → Prop} [Stays P] {w0 w : World} (s : Sq P w0 w) (o : Obj) : Sq P w0 (w.alloc o) := s.next ((Below.refl _ _).alloc (Nat.le_refl _) o)
theorem Sq.drew {P : World → Prop} [Stays P] {w0 w : World} (s : Sq P w0 w) : Sq P w0 w.drew := s.next (Below.refl _ _).drew

theorem strconv_Itoa (n : Int) (h0 : -9223372036854775808 ≤ n) (h1 : n ≤ 9223372036854775807) (w : World) (L : Lay w) :
    Calls Tryz.prog 143 #[.int .i64 n] w fun ev w' => ev = .returned (.string (itoa n)) ∧ Below w.heap.size w w' := by
  refine (Tryz.strconv_Itoa n h0 h1 w L.tab).mono ?_
  rintro ev w' ⟨rfl, k, os, rfl⟩
  exact ⟨rfl, Lib.below_grow _ w (Nat.le_refl _) k os⟩

/-- What a call of Atoi leaves. -/
def AtoiPost (v : Int × Bool) (w : World) (ev : Ending) (w' : World) : Prop :=
  ∃ e, ev = .returned (.tuple #[.int .i64 v.1, e]) ∧ (if v.2 then e = .nilIface else ∃ p, e = .iface 270 p) ∧ Below w.heap.size w w'

def bytesL (s : ByteArray) : List UInt8 := s.data.toList
theorem strings_Cut (s sep : ByteArray) (hs : s.size < 4294967281) (w : World) (L : LayM w) :
    Calls Tryz.prog 89 #[.string s, .string sep] w fun ev w' => ev = .returned (.tuple #[.string ⟨(Lib.cut s.data.toList sep.data.toList).1.toArray⟩, .string ⟨(Lib.cut s.data.toList sep.data.toList).2.1.toArray⟩, .bool (Lib.cut s.data.toList sep.data.toList).2.2]) ∧ Below w.heap.size w w' := by
  obtain ⟨m, hm⟩ := L.mx
  refine (Tryz.strings_Cut s sep m w hs hm).mono ?_
  rintro ev w' ⟨rfl, n, rfl⟩
  exact ⟨rfl, below_drewN (Below.refl _ _) n⟩
end Go.Proofs.YtnodjijgeifejaaGreatDoor
