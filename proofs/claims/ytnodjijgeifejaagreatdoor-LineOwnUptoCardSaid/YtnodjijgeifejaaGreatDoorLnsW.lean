/- line.lines: the lines of a text, one by one, whatever the rounds do. -/
import Derived.Test.YtnodjijgeifejaaGreatDoorRbox
import Derived.Test.YtnodjijgeifejaaGreatDoorLnsL
import Derived.Test.YtnodjijgeifejaaGreatDoorLib
import Derived.Test.YtnodjijgeifejaaGreatDoorReader
import Derived.RangeFuncNested
import Derived.RangeFuncBound
import Derived.RangeFuncCalls
import Derived.RangeFuncLeaves
import Derived.Shelf.Abstract
import Derived.Shelf.RegionOpen
import Derived.WalkKit
import Derived.OwnWalkIn
import Derived.TacticsInMore
import Derived.LoopNIn
import Derived.LoopIn
namespace Go.Proofs.YtnodjijgeifejaaGreatDoor
open Go.RowKit Go.Shelf
set_option linter.unusedSimpArgs false
set_option linter.unusedVariables false
attribute [local go_sem] Oper.semAt_some

/-- What is left of a text behind k lines. -/
def restN : Nat → List UInt8 → List UInt8
  | 0, l => l
  | k + 1, l => ln2 (restN k l)
theorem restN_le (l : List UInt8) : ∀ k, restN k l ≠ [] → k + (restN k l).length ≤ l.length
  | 0, _ => by simp [restN]
  | k + 1, h => by
    have hk : restN k l ≠ [] := by
      intro e
      apply h
      show ln2 (restN k l) = []
      rw [e]
      decide
    have h1 := restN_le l k hk
    have h2 : (ln2 (restN k l)).length < (restN k l).length := ln2_lt hk
    show k + 1 + (ln2 (restN k l)).length ≤ _
    omega
abbrev encL (s : List UInt8) (k : Nat) : Array Value := #[.int .i64 (k : Int), .string ⟨(ln1 (restN k s)).toArray⟩]
abbrev bxS (t : ByteArray) : Obj := .cells #[.string t] 9 (0, 0)
set_option maxRecDepth 100000 in
set_option maxHeartbeats 1000000 in
theorem line_lines (s : ByteArray) (w : World) :
    Calls Tryz.prog 40 #[.string s] w fun ev w' => ev = .returned (.func (.func 88) #[] #[.pointer (some ⟨w.heap.size, 0, none⟩)]) ∧ w' = w.alloc (bxS s) := by
  have hmf : ∀ (fn : Fn) (first cap : Array Value) (w : World), (Instr.makeFunc fn first cap).run Tryz.prog w = .ok (.func fn first cap) w := fun _ _ _ _ => rfl
  go_enter Tryz.func40, Tryz.ntmps40
  go_wp2
  go_ret
  exact ⟨rfl, rfl⟩
set_option maxRecDepth 100000 in
set_option maxHeartbeats 1000000 in
theorem lines_in (n l Bs : Nat) (hn : 1 ≤ n) (s : List UInt8) (hs : s.length < 4294967281) (J : Nat → World → Prop) (Jx : World → Prop) (W : World) (hJ : ∀ k A B o, J k A → A.heap[Bs]? = some o → (∃ t, o = bxS t) → A.grownBy B (some Bs) → J k B) (hL : ∀ k A, J k A → LayM A)
    (hY : Rounds Tryz.prog (n - 1) l Bs (encL s) (fun k => restN k s ≠ []) J Jx) (h0 : J 0 W) (hb : W.heap[Bs]? = some (bxS ⟨s.toArray⟩)) :
    CallsIn Fence.wide n Tryz.prog 88 #[.func (.yield l) #[] #[], .pointer (some ⟨Bs, 0, none⟩)] W fun e W' => (∃ v, e = .returned v) ∧ ((∃ k, restN k s = [] ∧ J k W') ∨ Jx W') := by
  refine callsIn_of_wp Tryz.func88 rfl trivial ?_ rfl
  simp only [Tryz.ntmps88, List.size_toArray, List.length_cons, List.length_nil, Nat.reduceAdd, Nat.reduceSub, Array.replicate_succ, Array.replicate_zero, List.push_toArray, List.append_toArray, List.nil_append, List.cons_append]
  have hY := Lib.hid hY
  gi_wp2
  gi_loopw [3] (fun p wr => ∃ k : Nat, p = .int .i64 (k : Int) ∧ k ≤ s.length ∧ wr.heap[Bs]? = some (bxS ⟨(restN k s).toArray⟩) ∧ J k wr)
    (fun p wr => s.length + 1 - (intOf p).toNat)
  case atStart => exact ⟨0, rfl, Nat.zero_le _, hb, h0⟩
  case round =>
    obtain ⟨k, rfl, hk, hbk, hJk⟩ := hrel
    by_cases hr : restN k s = []
    · rw [hr] at hbk
      have hc := blk_cell' hbk 0
      gi_wp2
      go_end0
      exact ⟨⟨_, rfl⟩, .inl ⟨k, hr, hJk⟩⟩
    · have hle := restN_le s k hr
      obtain ⟨T, hT⟩ : ∃ T : ByteArray, T = ⟨(restN k s).toArray⟩ := ⟨_, rfl⟩
      obtain ⟨U, hU⟩ : ∃ U : ByteArray, U = ⟨(restN (k + 1) s).toArray⟩ := ⟨_, rfl⟩
      obtain ⟨V, hV⟩ : ∃ V : ByteArray, V = ⟨(ln1 (restN k s)).toArray⟩ := ⟨_, rfl⟩
      rw [← hT] at hbk
      have hne : T.toList.isEmpty = false := by
        rw [Lib.toList_data, hT]
        simpa using hr
      have CC := strings_Cut T ⟨#[10]⟩ (by rw [hT]; show (restN k s).length < _; omega) wr (hL k wr hJk)
      have e1 : (⟨(Lib.cut T.data.toList [10]).1.toArray⟩ : ByteArray) = V := by rw [hT, hV]; rfl
      have e2 : (⟨(Lib.cut T.data.toList [10]).2.1.toArray⟩ : ByteArray) = U := by rw [hT, hU]; rfl
      obtain ⟨b3, hb3⟩ : ∃ b, b = (Lib.cut T.data.toList [10]).2.2 := ⟨_, rfl⟩
      simp only [e1, e2, ← hb3] at CC
      have CC := Lib.hid CC
      have hc := blk_cell' hbk 0
      have HBK := Lib.hid hbk
      have HU := Lib.hid hU
      have HV := Lib.hid hV
      have HR := Lib.hid hr
      clear hb3 hT hbk hU hV hr e1 e2 hle
      gi_wp2_with fail
      refine ⟨trivial, (callsIn_wide.2 CC.out).mono ?_⟩
      rintro e w1 ⟨rfl, hB⟩
      have hg : wr.grownBy w1 (some Bs) := grown_of_below hB (Nat.le_refl _) _
      have hJ1 := hJ k _ _ _ hJk HBK.out ⟨_, rfl⟩ hg
      have hb1 := below_blk hB (blk_lt' HBK.out) HBK.out
      clear hc hB hg hJk HBK
      obtain ⟨fn, tmps, assign, body, hy, hRr⟩ := hY.out k w1 HR.out hJ1
      dsimp only [encL] at hy
      rw [← HV.out] at hy
      have HRr := Lib.hid hRr
      clear hRr hJ1
      gi_wp2_with fail
      refine HRr.out.mono ?_
      have hk1 : k + 1 ≤ s.length := by
        have h1 := restN_le s k HR.out
        have h2 : 0 < (restN k s).length := List.length_pos_iff.2 HR.out
        omega
      rintro e w2 (⟨rfl, hJ2, hb2⟩ | ⟨rfl, hx⟩)
      · rw [hb1] at hb2
        have hc2 := blk_cell' hb2 0
        have hf2 := blk_free' hb2 0
        have hs3 := blk_set' hb2 0 (.string U)
        have hg3 : w2.grownBy (w2.setCell ⟨Bs, 0, none⟩ (.string U)) (some Bs) := grown_set (grown_refl _ _) 0 _
        have hJ3 := hJ (k + 1) _ _ _ hJ2 hb2 ⟨_, rfl⟩ hg3
        have HS := Lib.hid hs3
        have HJ := Lib.hid hJ3
        clear hs3 hg3 hJ3 hJ2 hb2 hb1 HRr
        gi_wp2_with fail
        go_roundw
        case rel => exact ⟨k + 1, rfl, hk1, by rw [← HU.out]; exact HS.out, HJ.out⟩
        case measure => simp [intOf]; omega
      · gi_wp2_with fail
        refine bodyPost_ret (results_none rfl _ _ _) rfl ?_
        exact ⟨⟨_, rfl⟩, .inr hx⟩
end Go.Proofs.YtnodjijgeifejaaGreatDoor
