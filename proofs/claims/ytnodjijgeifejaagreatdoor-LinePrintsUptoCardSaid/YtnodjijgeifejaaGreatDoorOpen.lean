/- What came in, opened: lists of structs in memory, as Lean's own lists, and how much they hold. -/
import Derived.Test.YtnodjijgeifejaaGreatDoorRows
import Derived.Deep.SlicePairs
import Derived.Lib.SmallJoins
namespace Go.Proofs.YtnodjijgeifejaaGreatDoor
open Go.RowKit Go.Deep Go.ChangeShapes Go.WideShapes
set_option linter.unusedSimpArgs false
set_option linter.unusedVariables false

/-- A list at an address: each element's cells as R tells it. -/
structure RowAt {α : Type} (z : Nat) (R : World → Addr → α → Prop) (w : World) (A : Option Addr) (l : List α) : Prop where
  le : l.length ≤ 9223372036854775807
  cells : 0 < l.length → ∃ ad, A = some ad ∧ ∀ j, (hj : j < l.length) → R w (ad.add (j * z)) l[j]
theorem bulkAll_map {H : Type} (D : Nat → DataW H) : ∀ l : List Nat, Rows.uptoBulkAll (l.map D) = (l.map fun i => Rows.uptoBulk (D i)).sum
  | [] => by simp [Rows.uptoBulkAll]
  | i :: r => by simp [Rows.uptoBulkAll, bulkAll_map D r]
theorem bulk_mem {H : Type} : ∀ (ds : List (DataW H)) (d : DataW H), d ∈ ds → Rows.uptoBulk d ≤ Rows.uptoBulkAll ds
  | [], _, h => by cases h
  | x :: r, d, h => by
    simp only [Rows.uptoBulkAll]
    rcases List.mem_cons.1 h with rfl | h
    · omega
    · have := bulk_mem r d h
      omega
section
variable {H : Type} {enc : TypeId × Value → H} {P : Program} {W : World} {base : Nat} {spare : Nat → Bool} {held : Bool}
theorem open_list {α : Type} [Inhabited α] {t e : TypeId} {z : Nat} (ht : P.underlying t = some (.slice e)) (hz : P.cellsOf e = z) {R : World → Addr → α → Prop} {Q : α → Nat → Prop}
    (hel : ∀ (n : Nat) (a : Addr) (cs : List Value) (x : DataW H × List MemPlace), cs.length = z → (∀ i, i < z → W.cell? (a.add i) = cs[i]?) → DataW.trod enc P W base spare held n e cs = some x → ∃ y, R W a y ∧ Q y (Rows.uptoBulk x.1))
    {fuel : Nat} {cs : List Value} {x : DataW H × List MemPlace} (h : DataW.trod enc P W base spare held fuel t cs = some x) :
    ∃ (A : Option Addr) (l : List α) (c : Nat) (bs : List Nat), cs = [.slice A l.length c] ∧ RowAt z R W A l ∧ bs.length = l.length ∧ bs.sum + 1 ≤ Rows.uptoBulk x.1 ∧ ∀ j (hj : j < l.length), ∃ b, bs[j]? = some b ∧ Q l[j] b := by
  rcases open_slice ht h with ⟨rfl, rfl⟩ | ⟨a, len, cap, m, n, D, Pl, rfl, hb, hl, hm, hmm, rfl, hx⟩
  · exact ⟨none, [], 0, [], rfl, ⟨by simp, by simp⟩, rfl, by simp [Rows.uptoBulk], by simp⟩
  · have hlm : len ≤ m := by rw [hmm]; split <;> omega
    have each : ∀ i, i < len → ∃ y : α, R W (a.add (i * z)) y ∧ Q y (Rows.uptoBulk (D i)) := fun i hi => by
      obtain ⟨cs', h1, h2⟩ := hx i (by omega)
      rw [hz] at h1
      obtain ⟨_, hlen, hcell⟩ := World.cells?_some h1
      exact hel n _ cs' _ hlen hcell h2
    obtain ⟨q, hq⟩ := choose_lt each
    have e1 : ((List.range len).map q).length = len := by simp
    refine ⟨some a, (List.range len).map q, cap, (List.range len).map fun i => Rows.uptoBulk (D i), by rw [e1], ⟨by rw [e1]; unfold maxLen at hm; omega, fun _ => ⟨a, rfl, fun j hj => ?_⟩⟩, by simp, ?_, fun j hj => ?_⟩
    · have hj' : j < len := by rw [e1] at hj; exact hj
      have : ((List.range len).map q)[j] = q j := by simp
      rw [this]
      exact (hq j hj').1
    · simp only [Rows.uptoBulk]
      rw [bulkAll_map]
      omega
    · have hj' : j < len := by rw [e1] at hj; exact hj
      have : ((List.range len).map q)[j] = q j := by simp
      exact ⟨Rows.uptoBulk (D j), by simp [hj'], by rw [this]; exact (hq j hj').2⟩
theorem list2 {α : Type} {cs : List α} (h : cs.length = 2) : ∃ a b, cs = [a, b] := by
  match cs, h with
  | [a, b], _ => exact ⟨a, b, rfl⟩
theorem list4 {α : Type} {cs : List α} (h : cs.length = 4) : ∃ a b c d, cs = [a, b, c, d] := by
  match cs, h with
  | [a, b, c, d], _ => exact ⟨a, b, c, d, rfl⟩
theorem open_cells2 {t : TypeId} {f0 f1 : Field} (hs : P.underlying t = some (.struct #[f0, f1])) (hone : oneCellFields P #[f0, f1] = true) {fuel : Nat} {cs : List Value} {x : DataW H × List MemPlace} (hl : cs.length = 2)
    (h : DataW.trod enc P W base spare held fuel t cs = some x) :
    ∃ (v0 v1 : Value) (y0 y1 : DataW H × List MemPlace) (n : Nat), cs = [v0, v1] ∧ Rows.uptoBulk x.1 = Rows.uptoBulk y0.1 + Rows.uptoBulk y1.1 + 1 ∧ DataW.trod enc P W base spare held n f0.type [v0] = some y0 ∧ DataW.trod enc P W base spare held n f1.type [v1] = some y1 := by
  obtain ⟨y0, y1, n, rfl, _, h0, h1⟩ := trod_struct2 hs h
  obtain ⟨v0, v1, rfl⟩ := list2 hl
  obtain ⟨o0, k0⟩ := hone_of hone 0 f0 rfl
  obtain ⟨o1, k1⟩ := hone_of hone 1 f1 rfl
  exact ⟨v0, v1, y0, y1, n, rfl, by simp only [Rows.uptoBulk, Rows.uptoBulkAll]; omega, by simpa [o0, k0] using h0, by simpa [o1, k1] using h1⟩
theorem open_cells4 {t : TypeId} {f0 f1 f2 f3 : Field} (hs : P.underlying t = some (.struct #[f0, f1, f2, f3])) (hone : oneCellFields P #[f0, f1, f2, f3] = true) {fuel : Nat} {cs : List Value} {x : DataW H × List MemPlace} (hl : cs.length = 4)
    (h : DataW.trod enc P W base spare held fuel t cs = some x) :
    ∃ (v0 v1 v2 v3 : Value) (y0 y1 y2 y3 : DataW H × List MemPlace) (n : Nat), cs = [v0, v1, v2, v3] ∧ Rows.uptoBulk x.1 = Rows.uptoBulk y0.1 + Rows.uptoBulk y1.1 + Rows.uptoBulk y2.1 + Rows.uptoBulk y3.1 + 1 ∧
      DataW.trod enc P W base spare held n f0.type [v0] = some y0 ∧ DataW.trod enc P W base spare held n f1.type [v1] = some y1 ∧ DataW.trod enc P W base spare held n f2.type [v2] = some y2 ∧ DataW.trod enc P W base spare held n f3.type [v3] = some y3 := by
  obtain ⟨y0, y1, y2, y3, n, rfl, _, h0, h1, h2, h3⟩ := Go.Joins.trod_struct4 hs h
  obtain ⟨v0, v1, v2, v3, rfl⟩ := list4 hl
  obtain ⟨o0, k0⟩ := hone_of hone 0 f0 rfl
  obtain ⟨o1, k1⟩ := hone_of hone 1 f1 rfl
  obtain ⟨o2, k2⟩ := hone_of hone 2 f2 rfl
  obtain ⟨o3, k3⟩ := hone_of hone 3 f3 rfl
  exact ⟨v0, v1, v2, v3, y0, y1, y2, y3, n, rfl, by simp only [Rows.uptoBulk, Rows.uptoBulkAll]; omega, by simpa [o0, k0] using h0, by simpa [o1, k1] using h1, by simpa [o2, k2] using h2, by simpa [o3, k3] using h3⟩
theorem bulk_string {s : ByteArray} : Rows.uptoBulk (H := H) (.lit (.string s.data.toList)) = s.size + 1 := by
  simp only [Rows.uptoBulk]
  rfl
end
end Go.Proofs.YtnodjijgeifejaaGreatDoor
