/- weirmem.SamePoints: two lists that hold the same points are the same. -/
import Derived.Test.YtnodjijgeifejaaGreatDoorSameTags
import Derived.Test.YtnodjijgeifejaaGreatDoorPoint
import Derived.Deep.LoopGhost
import Derived.Deep.QuietTactic
import Derived.BigQuiet
namespace Go.Proofs.YtnodjijgeifejaaGreatDoor
open Go.RowKit
set_option linter.unusedSimpArgs false
set_option linter.unusedVariables false

abbrev tagK (l : List (ByteArray × ByteArray)) (j : Nat) : ByteArray := (l.getD j (⟨#[]⟩, ⟨#[]⟩)).1
abbrev tagV (l : List (ByteArray × ByteArray)) (j : Nat) : ByteArray := (l.getD j (⟨#[]⟩, ⟨#[]⟩)).2
abbrev fldK (l : List (ByteArray × Int)) (j : Nat) : ByteArray := (l.getD j (⟨#[]⟩, 0)).1
abbrev fldV (l : List (ByteArray × Int)) (j : Nat) : Int := (l.getD j (⟨#[]⟩, 0)).2
/-- A point whose cells begin at an address. -/
structure PtCells (w : World) (a : Addr) (p : Pt) (At : Option Addr) (ct : Nat) (Af : Option Addr) (cf : Nat) : Prop where
  m : w.cell? a = some (.string p.m)
  t : w.cell? ⟨a.block, a.off + 1, none⟩ = some (.slice At p.tags.length ct)
  f : w.cell? ⟨a.block, a.off + 2, none⟩ = some (.slice Af p.fields.length cf)
  n : w.cell? ⟨a.block, a.off + 3, none⟩ = some (.int .i64 p.time)
  ts : TwoAt w At p.tags.length fun j => (.string (tagK p.tags j), .string (tagV p.tags j))
  fs : TwoAt w Af p.fields.length fun j => (.string (fldK p.fields j), .int .i64 (fldV p.fields j))
theorem PtCells.next {w w' : World} {a : Addr} {p : Pt} {At : Option Addr} {ct : Nat} {Af : Option Addr} {cf : Nat} (h : PtCells w a p At ct Af cf) (hB : Below w.heap.size w w') : PtCells w' a p At ct Af cf :=
  have c : ∀ {x : Addr} {v : Value}, w.cell? x = some v → w'.cell? x = some v := fun {x v} hx => (hB.cell (World.block_lt_of_cell? w _ hx)).trans hx
  ⟨c h.m, c h.t, c h.f, c h.n, h.ts.next hB, h.fs.next hB⟩
/-- A list of points at an address. -/
structure PtsAt (w : World) (A : Option Addr) (l : List Pt) : Prop where
  le : l.length ≤ 9223372036854775807
  cells : 0 < l.length → ∃ ad : Addr, A = some ad ∧ ∀ j, (hj : j < l.length) → ∃ At ct Af cf, PtCells w (ad.add (j * 4)) l[j] At ct Af cf
theorem PtsAt.next {w w' : World} {A : Option Addr} {l : List Pt} (h : PtsAt w A l) (hB : Below w.heap.size w w') : PtsAt w' A l :=
  ⟨h.le, fun hn => by
    obtain ⟨ad, e, hc⟩ := h.cells hn
    exact ⟨ad, e, fun j hj => by
      obtain ⟨At, ct, Af, cf, q⟩ := hc j hj
      exact ⟨At, ct, Af, cf, q.next hB⟩⟩⟩
theorem below_drewN0 (w : World) (m : Nat) : Below w.heap.size w (w.drewN m) := ⟨rfl, rfl, rfl, Nat.le_refl _, fun _ _ => rfl⟩
set_option maxRecDepth 100000 in
set_option maxHeartbeats 4000000 in
theorem SamePoints_eq (A0 A1 : Option Addr) (c0 c1 : Nat) (l : List Pt) (w : World) (h0 : PtsAt w A0 l) (h1 : PtsAt w A1 l) :
    Calls Tryz.prog 17 #[.slice A0 l.length c0, .slice A1 l.length c1] w fun e w' => e = .returned (.bool true) ∧ ∃ m, w' = w.drewN m := by
  have hu := Tryz.underlying32
  have hle := h0.le
  have H0 := Lib.hid h0
  have H1 := Lib.hid h1
  clear h0 h1
  obtain ⟨n, hn⟩ : ∃ n, l.length = n := ⟨_, rfl⟩
  rw [hn] at hle ⊢
  have HN := Lib.hid hn
  clear hn
  go_enter Tryz.func17, Tryz.ntmps17
  go_wp2
  go_loopg [5] n (fun g v5 wr => ∃ i m : Nat, v5 = .int .i64 i ∧ i + g = n ∧ wr = w.drewN m)
  case atStart => exact ⟨0, 0, rfl, by omega, rfl⟩
  case round =>
    obtain ⟨i, m, rfl, hn, rfl⟩ := hrel
    by_cases hi : i < n
    · have hil : i < l.length := by rw [HN.out]; exact hi
      obtain ⟨a0, rfl, C0⟩ := (H0.out.next (below_drewN0 w m)).cells (by omega)
      obtain ⟨a1, rfl, C1⟩ := (H1.out.next (below_drewN0 w m)).cells (by omega)
      obtain ⟨At0, ct0, Af0, cf0, x⟩ := C0 i hil
      obtain ⟨At1, ct1, Af1, cf1, y⟩ := C1 i hil
      clear C0 C1
      obtain ⟨W, hW⟩ : ∃ W, w.drewN m = W := ⟨_, rfl⟩
      rw [hW] at x y ⊢
      have HW := Lib.hid hW
      clear hW
      generalize l[i] = p at x y
      obtain ⟨x0, x1, x2, x3, x4, x5⟩ := x
      obtain ⟨y0, y1, y2, y3, y4, y5⟩ := y
      have ST : ∀ n, Calls Tryz.prog 42 #[.slice At0 p.tags.length ct0, .slice At1 p.tags.length ct1] (W.drewN n) fun e w' => e = .returned (.bool true) ∧ ∃ m, w' = (W.drewN n).drewN m := fun n => SameTags_eq At0 At1 ct0 ct1 _ _ _ _ (x4.next (below_drewN0 W n)) (y4.next (below_drewN0 W n))
      have SF : ∀ n, Calls Tryz.prog 43 #[.slice Af0 p.fields.length cf0, .slice Af1 p.fields.length cf1] (W.drewN n) fun e w' => e = .returned (.bool true) ∧ ∃ m, w' = (W.drewN n).drewN m := fun n => SameFields_eq Af0 Af1 cf0 cf1 _ _ _ _ (x5.next (below_drewN0 W n)) (y5.next (below_drewN0 W n))
      have ST := Lib.hid ST
      have SF := Lib.hid SF
      clear x4 x5 y4 y5 hil
      have p0 : (0 : Int) ≤ (i : Int) := by omega
      have p1 : (i : Int) < (n : Int) := by omega
      go_wp2
      go_quiet ((first | (go_at_call 42; exact Calls.quiet_of (ST.out _)) | (go_at_call 43; exact Calls.quiet_of (SF.out _))))
      go_wp2
      go_roundg (gk - 1)
      case measure => omega
      case rel => exact ⟨i + 1, _, rfl, by omega, by rw [← HW.out]; exact World.drewN_drewN ..⟩
    · go_wp2
      go_ret
      exact ⟨rfl, _, rfl⟩
end Go.Proofs.YtnodjijgeifejaaGreatDoor
