/- weirboth.Is: is an error one of a number? -/
import Derived.Test.YtnodjijgeifejaaGreatDoorSame
namespace Go.Proofs.YtnodjijgeifejaaGreatDoor
open Go.RowKit Go.Extern.Stop Go.Stop Go.Extern
set_option linter.unusedSimpArgs false
set_option linter.unusedVariables false

def isE (e : Option Er) (n : Int) : Bool := if n = 0 then e.isNone else e.bind Er.code? == some n
set_option maxRecDepth 100000 in
set_option maxHeartbeats 1000000 in
theorem both_Is (e : Option Er) (n : Int) (hn : ¬ n = 0) (w : World) (hg : HG w) :
    Calls Tryz.prog 23 #[encE e, .int .i64 n] w fun ev w' => ev = .returned (.bool (isE e n)) ∧ Below w.heap.size w w' := by
  have hn0 : (n == 0) = false := by simpa using hn
  cases e with
  | none =>
    have hf : isE none n = false := by simp [isE, hn]
    rw [hf]
    show Calls Tryz.prog 23 #[.nilIface, _] w _
    clear hf hn
    go_enter Tryz.func23, Tryz.ntmps23
    go_wp2_with fail
    go_ret
    exact ⟨rfl, by go_grown⟩
  | some e =>
    have hf : isE (some e) n = (e.code?.isSome && codeOf (some e) == n) := by
      simp only [isE, if_neg hn, codeOf, Option.bind_some]
      cases h : e.code? <;> simp
    rw [hf]
    show Calls Tryz.prog 23 #[e.enc, _] w _
    have C1 := Lib.hid (told_code e)
    obtain ⟨tt, tv, he⟩ := e.enc_iface
    rw [he] at C1 ⊢
    clear he hf hn
    generalize codeOf (some e) = k at *
    generalize e.code?.isSome = kb at *
    go_enter Tryz.func23, Tryz.ntmps23
    go_wp2_with fail
    refine (C1.out w.heap.size _ (hg.alloc _) (by repeat (first | exact heap_new' _ _ _ (by first | omega | (simp only [World.size_alloc, World.size_setCell, World.size_drew, size_drewN'] <;> omega)) | refine heap_old' _ _ _ (by first | omega | (simp only [World.size_alloc, World.size_setCell, World.size_drew, size_drewN'] <;> omega)) ?_))).mono ?_
    rintro ev w1 ⟨rfl, hG, hb⟩
    have hB1 : Below w.heap.size w w1 := Below.trans (by go_grown) (below_grown1 hG (Nat.le_refl _) (by first | omega | (simp only [World.size_alloc, World.size_setCell, World.size_drew, size_drewN'] <;> omega)))
    have HB1 := Lib.hid hB1
    have c1 : w1.cell? ⟨w.heap.size, 0, none⟩ = some (.int .i64 k) := blk_cell' hb 0
    clear hG hB1 hb hg
    cases kb <;> (go_wp2; go_ret; exact ⟨by simp, HB1.out⟩)
end Go.Proofs.YtnodjijgeifejaaGreatDoor
