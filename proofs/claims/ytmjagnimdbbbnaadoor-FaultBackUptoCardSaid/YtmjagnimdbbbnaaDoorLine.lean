/- weirlaw01.line: an error's line, with the word for one that is none of ours. -/
import Derived.Test.YtmjagnimdbbbnaaDoorRprint
import Derived.Test.YtmjagnimdbbbnaaDoorTells
namespace Go.Proofs.YtmjagnimdbbbnaaDoor
open Go.RowKit
set_option linter.unusedSimpArgs false
set_option linter.unusedVariables false

def lineB (b : Bad) : ByteArray := if b.code = 0 ∧ b.placed = false ∧ b.numbered = false then unknownWord else printB b

set_option maxRecDepth 100000 in
set_option maxHeartbeats 4000000 in
theorem law_line (f : Bool) (c : Int) (sl : Value) (b : Bad) (w : World) (L : Lay w) (hc : I64 b.code) (ha : I64 b.at_) (hi : I64 b.in_) :
    Calls Tryd.prog 16 #[.agg #[.bool f, .int .i64 c, sl], b.enc] w fun ev w' => ev = .returned (.string (lineB b)) ∧ Below w.heap.size w w' := by
  have PR := Lib.hid (fun w L => ref_Print b w L hc ha hi)
  obtain ⟨k, a, i, p, n⟩ := b
  generalize hP : lineB ⟨k, a, i, p, n⟩ = R
  unfold lineB at hP
  have HP := Lib.hid hP
  clear hP hc ha hi
  generalize printB ⟨k, a, i, p, n⟩ = pr at PR HP
  simp only [Bad.enc] at *
  have sq := ((Sq.start L).alloc (.cells #[.bool f, .int .i64 c, sl] 25)).alloc (.cells #[.int .i64 k, .int .i64 a, .int .i64 i, .bool p, .bool n] 29)
  clear L
  by_cases hz : k = 0
  · cases p <;> cases n
    · subst hz
      go_enter Tryd.func16, Tryd.ntmps16
      go_wp2_with fail
      go_ret
      exact ⟨by rw [← HP.out]; rfl, sq.B⟩
    · subst hz
      go_enter Tryd.func16, Tryd.ntmps16
      go_wp2_with fail
      refine (PR.out _ sq.L).mono ?_
      rintro ev w' ⟨rfl, hB⟩
      replace sq := sq.next hB
      clear hB
      go_wp2_with fail
      go_ret
      exact ⟨by rw [← HP.out]; rfl, sq.B⟩
    · subst hz
      go_enter Tryd.func16, Tryd.ntmps16
      go_wp2_with fail
      refine (PR.out _ sq.L).mono ?_
      rintro ev w' ⟨rfl, hB⟩
      replace sq := sq.next hB
      clear hB
      go_wp2_with fail
      go_ret
      exact ⟨by rw [← HP.out]; rfl, sq.B⟩
    · subst hz
      go_enter Tryd.func16, Tryd.ntmps16
      go_wp2_with fail
      refine (PR.out _ sq.L).mono ?_
      rintro ev w' ⟨rfl, hB⟩
      replace sq := sq.next hB
      clear hB
      go_wp2_with fail
      go_ret
      exact ⟨by rw [← HP.out]; rfl, sq.B⟩
  · cases p <;> cases n
    · have hz' : (k == 0) = false := by simpa using hz
      have HZ := Lib.hid hz
      clear hz
      go_enter Tryd.func16, Tryd.ntmps16
      go_wp2_with fail
      refine (PR.out _ sq.L).mono ?_
      rintro ev w' ⟨rfl, hB⟩
      replace sq := sq.next hB
      clear hB
      go_wp2_with fail
      go_ret
      exact ⟨by rw [← HP.out, if_neg (fun h => HZ.out h.1)]; rfl, sq.B⟩
    · have hz' : (k == 0) = false := by simpa using hz
      have HZ := Lib.hid hz
      clear hz
      go_enter Tryd.func16, Tryd.ntmps16
      go_wp2_with fail
      refine (PR.out _ sq.L).mono ?_
      rintro ev w' ⟨rfl, hB⟩
      replace sq := sq.next hB
      clear hB
      go_wp2_with fail
      go_ret
      exact ⟨by rw [← HP.out, if_neg (fun h => HZ.out h.1)]; rfl, sq.B⟩
    · have hz' : (k == 0) = false := by simpa using hz
      have HZ := Lib.hid hz
      clear hz
      go_enter Tryd.func16, Tryd.ntmps16
      go_wp2_with fail
      refine (PR.out _ sq.L).mono ?_
      rintro ev w' ⟨rfl, hB⟩
      replace sq := sq.next hB
      clear hB
      go_wp2_with fail
      go_ret
      exact ⟨by rw [← HP.out, if_neg (fun h => HZ.out h.1)]; rfl, sq.B⟩
    · have hz' : (k == 0) = false := by simpa using hz
      have HZ := Lib.hid hz
      clear hz
      go_enter Tryd.func16, Tryd.ntmps16
      go_wp2_with fail
      refine (PR.out _ sq.L).mono ?_
      rintro ev w' ⟨rfl, hB⟩
      replace sq := sq.next hB
      clear hB
      go_wp2_with fail
      go_ret
      exact ⟨by rw [← HP.out, if_neg (fun h => HZ.out h.1)]; rfl, sq.B⟩
end Go.Proofs.YtmjagnimdbbbnaaDoor
