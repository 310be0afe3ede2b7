/- weirmem.SameTags, SameFields, SamePoints: two lists that hold the same are the same. -/
import Derived.Test.YtnodjijgeifejaaGreatDoorBase
import Derived.Laws.StructEq
import Derived.Deep.LoopGhost
import Derived.Deep.QuietTactic
import Derived.BigQuiet
import Derived.LoopTactic
namespace Go.Proofs.YtnodjijgeifejaaGreatDoor
open Go.RowKit
set_option linter.unusedSimpArgs false
set_option linter.unusedVariables false

section
variable {P : Program} {d : Nat} {xs ys : Array Value} {f : Field} {fs : List Field} {a b : Value} {r s : Bool} {w : World}
/-- The last field of two structs. -/
theorem fields_last (hn : (f.name == "_") = false) (ha : (part f.type xs f.offset).run P w = .ok a w) (hb : (part f.type ys f.offset).run P w = .ok b w) (he : (Op.equalIn d f.type a b).run P w = .ok r w) : (Op.eqFields d xs ys [f]).run P w = .ok r w := by
  have hn' : f.name ≠ "_" := by simpa using hn
  simp only [Op.eqFields, if_pos hn', Sem.run_bind, ha, hb, he, Result.andThen_ok]
  cases r <;> simp
/-- One of their fields, and those behind it. -/
theorem fields_cons (hn : (f.name == "_") = false) (ha : (part f.type xs f.offset).run P w = .ok a w) (hb : (part f.type ys f.offset).run P w = .ok b w) (he : (Op.equalIn d f.type a b).run P w = .ok r w) (hr : (Op.eqFields d xs ys fs).run P w = .ok s w) : (Op.eqFields d xs ys (f :: fs)).run P w = .ok (r && s) w := by
  have hn' : f.name ≠ "_" := by simpa using hn
  rw [Op.eqFields]
  simp only [if_pos hn', Sem.run_bind, ha, hb, he, Result.andThen_ok]
  cases r
  · simp
  · simpa using hr
theorem struct_eq {t : TypeId} {fs : Array Field} (hu : P.underlying t = some (.struct fs)) (hp : P.stoodInHeld t = false) (h : (Op.eqFields d xs ys fs.toList).run P w = .ok r w) : (Op.equalIn (d + 1) t (.agg xs) (.agg ys)).run P w = .ok r w := by
  have hf : P.fieldsOf t = fs := by simp [Program.fieldsOf, hu]
  rw [run_equalIn_struct (P := P) w d t xs ys (by rw [hf]; exact hu) hp, hf]
  exact h
end
theorem eq_tag (d : Nat) (w : World) (x0 x1 : ByteArray) :
    (Op.equalIn (d + 2) 98 (.agg #[.string x0, .string x1]) (.agg #[.string x0, .string x1])).run Tryz.prog w = .ok true w := by
  have h : (Op.equalIn (d + 2) 98 (.agg #[.string x0, .string x1]) (.agg #[.string x0, .string x1])).run Tryz.prog w = .ok (x0.toList == x0.toList && (x1.toList == x1.toList)) w := by
    refine struct_eq Tryz.underlying98 (by kernel_rfl) ?_
    refine fields_cons (by rfl) (by go_simp; rfl) (by go_simp; rfl) (by go_simp) ?_
    exact fields_last (by rfl) (by go_simp; rfl) (by go_simp; rfl) (by go_simp)
  simpa using h
theorem eq_fld (d : Nat) (w : World) (x0 : ByteArray) (x1 : Int) :
    (Op.equalIn (d + 2) 86 (.agg #[.string x0, .int .i64 x1]) (.agg #[.string x0, .int .i64 x1])).run Tryz.prog w = .ok true w := by
  have h : (Op.equalIn (d + 2) 86 (.agg #[.string x0, .int .i64 x1]) (.agg #[.string x0, .int .i64 x1])).run Tryz.prog w = .ok (x0.toList == x0.toList && (x1 == x1)) w := by
    refine struct_eq Tryz.underlying86 (by kernel_rfl) ?_
    refine fields_cons (by rfl) (by go_simp; rfl) (by go_simp; rfl) (by go_simp) ?_
    exact fields_last (by rfl) (by go_simp; rfl) (by go_simp; rfl) (by go_simp)
  simpa using h
attribute [local go_sem high] eq_tag eq_fld
/-- A slice of structs of two cells that reads as a list. -/
structure TwoAt (w : World) (A : Option Addr) (n : Nat) (cs : Nat → Value × Value) : Prop where
  le : n ≤ 9223372036854775807
  cells : 0 < n → ∃ ad : Addr, A = some ad ∧ ∀ j, j < n → w.cell? (ad.add (j * 2)) = some (cs j).1 ∧ w.cell? ⟨(ad.add (j * 2)).block, (ad.add (j * 2)).off + 1, none⟩ = some (cs j).2
theorem TwoAt.next {w w' : World} {A : Option Addr} {n : Nat} {cs : Nat → Value × Value} (h : TwoAt w A n cs) (hB : Below w.heap.size w w') : TwoAt w' A n cs :=
  ⟨h.le, fun hn => by
    obtain ⟨ad, e, hc⟩ := h.cells hn
    exact ⟨ad, e, fun j hj => ⟨(hB.cell (World.block_lt_of_cell? w _ (hc j hj).1)).trans (hc j hj).1, (hB.cell (World.block_lt_of_cell? w _ (hc j hj).2)).trans (hc j hj).2⟩⟩⟩
set_option maxRecDepth 100000 in
set_option maxHeartbeats 1000000 in
theorem SameTags_eq (A0 A1 : Option Addr) (c0 c1 n : Nat) (k v : Nat → ByteArray) (w : World) (h0 : TwoAt w A0 n fun j => (.string (k j), .string (v j))) (h1 : TwoAt w A1 n fun j => (.string (k j), .string (v j))) :
    Calls Tryz.prog 42 #[.slice A0 n c0, .slice A1 n c1] w fun e w' => e = .returned (.bool true) ∧ ∃ m, w' = w.drewN m := by
  have hu := Tryz.underlying98
  have hle := h0.le
  have H0 := Lib.hid h0
  have H1 := Lib.hid h1
  clear h0 h1
  go_enter Tryz.func42, Tryz.ntmps42
  go_wp2
  go_loopg [5] n (fun g v5 wr => ∃ i m : Nat, v5 = .int .i64 i ∧ i + g = n ∧ wr = w.drewN m)
  case atStart => exact ⟨0, 0, rfl, by omega, rfl⟩
  case round =>
    obtain ⟨i, m, rfl, hn, rfl⟩ := hrel
    by_cases hi : i < n
    · obtain ⟨a0, rfl, c0⟩ := H0.out.cells (by omega)
      obtain ⟨a1, rfl, c1⟩ := H1.out.cells (by omega)
      obtain ⟨x0, x1⟩ := c0 i hi
      obtain ⟨y0, y1⟩ := c1 i hi
      clear c0 c1
      have p0 : (0 : Int) ≤ (i : Int) := by omega
      have p1 : (i : Int) < (n : Int) := by omega
      go_wp2
      go_quiet (fail)
      go_wp2
      go_roundg (gk - 1)
      case measure => omega
      case rel => exact ⟨i + 1, _, rfl, by omega, by first | rfl | exact World.drewN_drewN ..⟩
    · go_wp2
      go_ret
      exact ⟨rfl, _, rfl⟩
set_option maxRecDepth 100000 in
set_option maxHeartbeats 1000000 in
theorem SameFields_eq (A0 A1 : Option Addr) (c0 c1 n : Nat) (k : Nat → ByteArray) (v : Nat → Int) (w : World) (h0 : TwoAt w A0 n fun j => (.string (k j), .int .i64 (v j))) (h1 : TwoAt w A1 n fun j => (.string (k j), .int .i64 (v j))) :
    Calls Tryz.prog 43 #[.slice A0 n c0, .slice A1 n c1] w fun e w' => e = .returned (.bool true) ∧ ∃ m, w' = w.drewN m := by
  have hu := Tryz.underlying86
  have hle := h0.le
  have H0 := Lib.hid h0
  have H1 := Lib.hid h1
  clear h0 h1
  go_enter Tryz.func43, Tryz.ntmps43
  go_wp2
  go_loopg [5] n (fun g v5 wr => ∃ i m : Nat, v5 = .int .i64 i ∧ i + g = n ∧ wr = w.drewN m)
  case atStart => exact ⟨0, 0, rfl, by omega, rfl⟩
  case round =>
    obtain ⟨i, m, rfl, hn, rfl⟩ := hrel
    by_cases hi : i < n
    · obtain ⟨a0, rfl, c0⟩ := H0.out.cells (by omega)
      obtain ⟨a1, rfl, c1⟩ := H1.out.cells (by omega)
      obtain ⟨x0, x1⟩ := c0 i hi
      obtain ⟨y0, y1⟩ := c1 i hi
      clear c0 c1
      have p0 : (0 : Int) ≤ (i : Int) := by omega
      have p1 : (i : Int) < (n : Int) := by omega
      go_wp2
      go_quiet (fail)
      go_wp2
      go_roundg (gk - 1)
      case measure => omega
      case rel => exact ⟨i + 1, _, rfl, by omega, by first | rfl | exact World.drewN_drewN ..⟩
    · go_wp2
      go_ret
      exact ⟨rfl, _, rfl⟩
end Go.Proofs.YtnodjijgeifejaaGreatDoor
