/- weirref01.Print: an error's line by the document. -/
import Derived.Test.YtmjagnimdbbbnaaDoorPrint
namespace Go.Proofs.YtmjagnimdbbbnaaDoor
open Go.RowKit
set_option linter.unusedSimpArgs false
set_option linter.unusedVariables false

def okWord : ByteArray := ⟨#[111, 107]⟩
def printB (b : Bad) : ByteArray := if b.code = 0 ∧ b.placed = false ∧ b.numbered = false then okWord else lineP b.numbered b.placed b.in_ b.at_ b.code
/-- A walk whose first block holds what the document tells. -/
structure Sb (w0 : World) (c a i : Int) (p n : Bool) (w : World) : Prop where
  s : Sl w0 w
  blk : w.heap[w0.heap.size]? = some (.cells #[.int .i64 c, .int .i64 a, .int .i64 i, .bool p, .bool n] 29 (0, 0))
theorem Sb.next {w0 w w' : World} {c a i : Int} {p n : Bool} (s : Sb w0 c a i p n w) (h : Below w.heap.size w w') : Sb w0 c a i p n w' := ⟨s.s.next h, below_blk h (blk_lt' s.blk) s.blk⟩
theorem Sb.alloc {w0 w : World} {c a i : Int} {p n : Bool} (s : Sb w0 c a i p n w) (o : Obj) : Sb w0 c a i p n (w.alloc o) := s.next ((Below.refl _ _).alloc (Nat.le_refl _) o)
theorem Sb.c0 {w0 w : World} {c a i : Int} {p n : Bool} (s : Sb w0 c a i p n w) : w.cell? ⟨w0.heap.size, 0, none⟩ = some (.int .i64 c) := blk_cell' s.blk 0
theorem Sb.c1 {w0 w : World} {c a i : Int} {p n : Bool} (s : Sb w0 c a i p n w) : w.cell? ⟨w0.heap.size, 1, none⟩ = some (.int .i64 a) := blk_cell' s.blk 1
theorem Sb.c2 {w0 w : World} {c a i : Int} {p n : Bool} (s : Sb w0 c a i p n w) : w.cell? ⟨w0.heap.size, 2, none⟩ = some (.int .i64 i) := blk_cell' s.blk 2
theorem Sb.c3 {w0 w : World} {c a i : Int} {p n : Bool} (s : Sb w0 c a i p n w) : w.cell? ⟨w0.heap.size, 3, none⟩ = some (.bool p) := blk_cell' s.blk 3
theorem Sb.c4 {w0 w : World} {c a i : Int} {p n : Bool} (s : Sb w0 c a i p n w) : w.cell? ⟨w0.heap.size, 4, none⟩ = some (.bool n) := blk_cell' s.blk 4

set_option maxRecDepth 100000 in
set_option maxHeartbeats 4000000 in
theorem ref_Print (b : Bad) (w : World) (L : Lay w) (hc : I64 b.code) (ha : I64 b.at_) (hi : I64 b.in_) :
    Calls Tryd.prog 33 #[b.enc] w fun ev w' => ev = .returned (.string (printB b)) ∧ Below w.heap.size w w' := by
  obtain ⟨c, a, i, p, n⟩ := b
  simp only [Bad.enc] at *
  have hn := nameP_size _ hc
  have s1 := itoa_size _ ha.1 ha.2
  have s2 := itoa_size _ hi.1 hi.2
  have NM := Lib.hid (fun w L => ref_Name c hc.1 hc.2 w L)
  have I1 := Lib.hid (fun w L => strconv_Itoa i hi.1 hi.2 w L)
  have I2 := Lib.hid (fun w L => strconv_Itoa a ha.1 ha.2 w L)
  generalize hP : printB ⟨c, a, i, p, n⟩ = R
  unfold printB lineP leadP numP numWord atWord colonWord unknownWord okWord at hP
  generalize nameP c = nm at *
  generalize itoa i = ti at *
  generalize itoa a = ta at *
  have HP := Lib.hid hP
  clear hP hc ha hi
  have sb : Sb w c a i p n (w.alloc (.cells #[.int .i64 c, .int .i64 a, .int .i64 i, .bool p, .bool n] 29)) := ⟨Sq.alloc (Sq.start L) _, heap_alloc_new w _⟩
  clear L
  have k0 := sb.c0
  have k1 := sb.c1
  have k2 := sb.c2
  have k3 := sb.c3
  have k4 := sb.c4
  by_cases hz : c = 0
  · cases p <;> cases n
    · subst hz
      clear NM
      go_enter Tryd.func33, Tryd.ntmps33
      go_wp2_with fail
      go_ret
      exact ⟨by rw [← HP.out]; rfl, sb.s.B⟩
    · subst hz
      clear NM
      go_enter Tryd.func33, Tryd.ntmps33
      go_wp2_with fail
      refine (I1.out _ sb.s.L).mono ?_
      rintro ev w' ⟨rfl, hB⟩
      replace sb := sb.next hB
      clear hB k0 k1 k2 k3 k4
      have k0 := sb.c0
      have k1 := sb.c1
      have k2 := sb.c2
      have k3 := sb.c3
      have k4 := sb.c4
      go_wp2_with fail
      go_ret
      exact ⟨by rw [← HP.out]; rfl, sb.s.B⟩
    · subst hz
      clear NM
      go_enter Tryd.func33, Tryd.ntmps33
      go_wp2_with fail
      refine (I2.out _ sb.s.L).mono ?_
      rintro ev w' ⟨rfl, hB⟩
      replace sb := sb.next hB
      clear hB k0 k1 k2 k3 k4
      have k0 := sb.c0
      have k1 := sb.c1
      have k2 := sb.c2
      have k3 := sb.c3
      have k4 := sb.c4
      go_wp2_with fail
      go_ret
      exact ⟨by rw [← HP.out]; rfl, sb.s.B⟩
    · subst hz
      clear NM
      go_enter Tryd.func33, Tryd.ntmps33
      go_wp2_with fail
      refine (I1.out _ sb.s.L).mono ?_
      rintro ev w' ⟨rfl, hB⟩
      replace sb := sb.next hB
      clear hB k0 k1 k2 k3 k4
      have k0 := sb.c0
      have k1 := sb.c1
      have k2 := sb.c2
      have k3 := sb.c3
      have k4 := sb.c4
      go_wp2_with fail
      refine (I2.out _ sb.s.L).mono ?_
      rintro ev w' ⟨rfl, hB⟩
      replace sb := sb.next hB
      clear hB k0 k1 k2 k3 k4
      have k0 := sb.c0
      have k1 := sb.c1
      have k2 := sb.c2
      have k3 := sb.c3
      have k4 := sb.c4
      go_wp2_with fail
      go_ret
      exact ⟨by rw [← HP.out]; rfl, sb.s.B⟩
  · have HZ := Lib.hid hz
    cases p <;> cases n
    · have hz' : (c == 0) = false := by simpa using hz
      clear hz
      go_enter Tryd.func33, Tryd.ntmps33
      go_wp2_with fail
      refine (NM.out _ sb.s.L).mono ?_
      rintro ev w' ⟨rfl, hB⟩
      replace sb := sb.next hB
      clear hB k0 k1 k2 k3 k4
      have k0 := sb.c0
      have k1 := sb.c1
      have k2 := sb.c2
      have k3 := sb.c3
      have k4 := sb.c4
      go_wp2_with fail
      go_ret
      exact ⟨by rw [← HP.out, if_neg (fun h => HZ.out h.1), if_neg HZ.out]; rfl, sb.s.B⟩
    · have hz' : (c == 0) = false := by simpa using hz
      clear hz
      go_enter Tryd.func33, Tryd.ntmps33
      go_wp2_with fail
      refine (I1.out _ sb.s.L).mono ?_
      rintro ev w' ⟨rfl, hB⟩
      replace sb := sb.next hB
      clear hB k0 k1 k2 k3 k4
      have k0 := sb.c0
      have k1 := sb.c1
      have k2 := sb.c2
      have k3 := sb.c3
      have k4 := sb.c4
      go_wp2_with fail
      refine (NM.out _ sb.s.L).mono ?_
      rintro ev w' ⟨rfl, hB⟩
      replace sb := sb.next hB
      clear hB k0 k1 k2 k3 k4
      have k0 := sb.c0
      have k1 := sb.c1
      have k2 := sb.c2
      have k3 := sb.c3
      have k4 := sb.c4
      go_wp2_with fail
      go_ret
      exact ⟨by rw [← HP.out, if_neg (fun h => HZ.out h.1), if_neg HZ.out]; rfl, sb.s.B⟩
    · have hz' : (c == 0) = false := by simpa using hz
      clear hz
      go_enter Tryd.func33, Tryd.ntmps33
      go_wp2_with fail
      refine (I2.out _ sb.s.L).mono ?_
      rintro ev w' ⟨rfl, hB⟩
      replace sb := sb.next hB
      clear hB k0 k1 k2 k3 k4
      have k0 := sb.c0
      have k1 := sb.c1
      have k2 := sb.c2
      have k3 := sb.c3
      have k4 := sb.c4
      go_wp2_with fail
      refine (NM.out _ sb.s.L).mono ?_
      rintro ev w' ⟨rfl, hB⟩
      replace sb := sb.next hB
      clear hB k0 k1 k2 k3 k4
      have k0 := sb.c0
      have k1 := sb.c1
      have k2 := sb.c2
      have k3 := sb.c3
      have k4 := sb.c4
      go_wp2_with fail
      go_ret
      exact ⟨by rw [← HP.out, if_neg (fun h => HZ.out h.1), if_neg HZ.out]; rfl, sb.s.B⟩
    · have hz' : (c == 0) = false := by simpa using hz
      clear hz
      go_enter Tryd.func33, Tryd.ntmps33
      go_wp2_with fail
      refine (I1.out _ sb.s.L).mono ?_
      rintro ev w' ⟨rfl, hB⟩
      replace sb := sb.next hB
      clear hB k0 k1 k2 k3 k4
      have k0 := sb.c0
      have k1 := sb.c1
      have k2 := sb.c2
      have k3 := sb.c3
      have k4 := sb.c4
      go_wp2_with fail
      refine (I2.out _ sb.s.L).mono ?_
      rintro ev w' ⟨rfl, hB⟩
      replace sb := sb.next hB
      clear hB k0 k1 k2 k3 k4
      have k0 := sb.c0
      have k1 := sb.c1
      have k2 := sb.c2
      have k3 := sb.c3
      have k4 := sb.c4
      go_wp2_with fail
      refine (NM.out _ sb.s.L).mono ?_
      rintro ev w' ⟨rfl, hB⟩
      replace sb := sb.next hB
      clear hB k0 k1 k2 k3 k4
      have k0 := sb.c0
      have k1 := sb.c1
      have k2 := sb.c2
      have k3 := sb.c3
      have k4 := sb.c4
      go_wp2_with fail
      go_ret
      exact ⟨by rw [← HP.out, if_neg (fun h => HZ.out h.1), if_neg HZ.out]; rfl, sb.s.B⟩
end Go.Proofs.YtmjagnimdbbbnaaDoor
