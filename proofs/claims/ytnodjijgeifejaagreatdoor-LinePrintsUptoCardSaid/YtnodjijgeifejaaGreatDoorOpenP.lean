/- A list of points that came in, opened. -/
import Derived.Test.YtnodjijgeifejaaGreatDoorOpen
import Derived.Test.YtnodjijgeifejaaGreatDoorLall
namespace Go.Proofs.YtnodjijgeifejaaGreatDoor
open Go.RowKit Go.Deep Go.ChangeShapes Go.WideShapes
set_option linter.unusedSimpArgs false
set_option linter.unusedVariables false

section
variable {H : Type} {enc : TypeId × Value → H} {W : World} {base : Nat} {spare : Nat → Bool} {held : Bool}
def TagR (w : World) (a : Addr) (t : ByteArray × ByteArray) : Prop := w.cell? a = some (.string t.1) ∧ w.cell? ⟨a.block, a.off + 1, none⟩ = some (.string t.2)
def FldR (w : World) (a : Addr) (t : ByteArray × Int) : Prop := w.cell? a = some (.string t.1) ∧ w.cell? ⟨a.block, a.off + 1, none⟩ = some (.int .i64 t.2)
theorem add0 (a : Addr) : a.add 0 = a := by simp [Addr.add]
theorem addS (a : Addr) (n : Nat) (h : 0 < n) : a.add n = ⟨a.block, a.off + n, none⟩ := by
  unfold Addr.add
  rw [if_neg (by omega)]
theorem sum_get : ∀ (bs : List Nat) (f : Nat → Nat) (n : Nat), bs.length = n → (∀ j, j < n → ∃ b, bs[j]? = some b ∧ f j ≤ b) → ((List.range n).map f).sum ≤ bs.sum := by
  intro bs
  induction bs with
  | nil => intro f n hn _; subst hn; simp
  | cons b r ih =>
    intro f n hn h
    subst hn
    have h0 := h 0 (by simp)
    obtain ⟨b', e, hb⟩ := h0
    have e' : b = b' := by simpa using e
    subst e'
    have := ih (fun j => f (j + 1)) r.length rfl (fun j hj => by
      obtain ⟨b2, e2, h2⟩ := h (j + 1) (by simp; omega)
      exact ⟨b2, by simpa using e2, h2⟩)
    rw [List.length_cons, List.range_succ_eq_map]
    simp only [List.map_cons, List.sum_cons, List.map_map]
    have e3 : (fun j => f (j + 1)) = f ∘ Nat.succ := rfl
    rw [e3] at this
    omega
theorem sum_five : ∀ n : Nat, ((List.range n).map fun _ => 5).sum = n * 5
  | 0 => rfl
  | n + 1 => by
    rw [List.range_succ, List.map_append, List.sum_append, sum_five n]
    simp
    omega
theorem mem_le_sum : ∀ (l : List Nat) (b : Nat), b ∈ l → b ≤ l.sum
  | [], b, h => by cases h
  | x :: r, b, h => by
    rcases List.mem_cons.1 h with rfl | h
    · simp
    · have := mem_le_sum r b h
      simp
      omega
theorem map_range_get {α β : Type} (l : List α) (g : α → β) (d : α) : (List.range l.length).map (fun j => g (l.getD j d)) = l.map g := by
  refine List.ext_getElem (by simp) fun i h1 h2 => ?_
  have : i < l.length := by simpa using h1
  simp [this]
theorem open_tags {fuel : Nat} {cs : List Value} {x : DataW H × List MemPlace} (h : DataW.trod enc Tryz.prog W base spare held fuel 29 cs = some x) :
    ∃ (A : Option Addr) (l : List (ByteArray × ByteArray)) (c : Nat), cs = [.slice A l.length c] ∧ (TwoAt W A l.length fun j => (.string (tagK l j), .string (tagV l j))) ∧ tagB l + 1 ≤ Rows.uptoBulk x.1 := by
  obtain ⟨A, l, c, bs, e, hR, hb, hs, hq⟩ := open_list (α := ByteArray × ByteArray) (z := 2) Tryz.underlying29 (by kernel_rfl) (R := TagR) (Q := fun y b => y.1.size + y.2.size + 3 ≤ b) (fun n a cs x hl hc ht => by
    obtain ⟨v0, v1, y0, y1, m, rfl, hb, t0, t1⟩ := open_cells2 Tryz.underlying98 (by kernel_rfl) hl ht
    obtain ⟨s0, e0, rfl, _⟩ := DataW.trod_string Tryz.underlying9 t0
    obtain ⟨s1, e1, rfl, _⟩ := DataW.trod_string Tryz.underlying9 t1
    obtain rfl : v0 = .string s0 := by simpa using e0
    obtain rfl : v1 = .string s1 := by simpa using e1
    have c0 := hc 0 (by omega)
    have c1 := hc 1 (by omega)
    rw [add0] at c0
    rw [addS _ _ (by omega)] at c1
    refine ⟨(s0, s1), ⟨by simpa using c0, by simpa using c1⟩, ?_⟩
    rw [hb, bulk_string, bulk_string]
    simp only
    omega) h
  refine ⟨A, l, c, e, ⟨hR.le, fun h0 => ?_⟩, ?_⟩
  · obtain ⟨ad, e, hc⟩ := hR.cells h0
    refine ⟨ad, e, fun j hj => ?_⟩
    have := hc j hj
    have e1 : tagK l j = l[j].1 := by simp [tagK, hj]
    have e2 : tagV l j = l[j].2 := by simp [tagV, hj]
    rw [e1, e2]
    exact this
  · have := sum_get bs (fun j => ((fun t : ByteArray × ByteArray => t.1.size + t.2.size + 1) (l.getD j (⟨#[]⟩, ⟨#[]⟩)))) l.length hb (fun j hj => by
      obtain ⟨b, e, q⟩ := hq j hj
      refine ⟨b, e, ?_⟩
      have : l.getD j (⟨#[]⟩, ⟨#[]⟩) = l[j] := by simp [hj]
      rw [this]
      simp only
      omega)
    have e2 := map_range_get l (fun t : ByteArray × ByteArray => t.1.size + t.2.size + 1) (⟨#[]⟩, ⟨#[]⟩)
    have h3 : tagB l ≤ bs.sum := by unfold tagB; rw [← e2]; exact this
    omega
theorem open_fields {fuel : Nat} {cs : List Value} {x : DataW H × List MemPlace} (h : DataW.trod enc Tryz.prog W base spare held fuel 30 cs = some x) :
    ∃ (A : Option Addr) (l : List (ByteArray × Int)) (c : Nat), cs = [.slice A l.length c] ∧ (TwoAt W A l.length fun j => (.string (fldK l j), .int .i64 (fldV l j))) ∧ fldB l + 1 ≤ Rows.uptoBulk x.1 ∧ ∀ y ∈ l, I64 y.2 := by
  obtain ⟨A, l, c, bs, e, hR, hb, hs, hq⟩ := open_list (α := ByteArray × Int) (z := 2) Tryz.underlying30 (by kernel_rfl) (R := FldR) (Q := fun y b => y.1.size + 3 ≤ b ∧ I64 y.2) (fun n a cs x hl hc ht => by
    obtain ⟨v0, v1, y0, y1, m, rfl, hb, t0, t1⟩ := open_cells2 Tryz.underlying86 (by kernel_rfl) hl ht
    obtain ⟨s0, e0, rfl, _⟩ := DataW.trod_string Tryz.underlying9 t0
    obtain ⟨s1, e1, rfl, wf⟩ := DataW.trod_int Tryz.underlying2 t1
    obtain rfl : v0 = .string s0 := by simpa using e0
    obtain rfl : v1 = .int .i64 s1 := by simpa using e1
    have c0 := hc 0 (by omega)
    have c1 := hc 1 (by omega)
    rw [add0] at c0
    rw [addS _ _ (by omega)] at c1
    refine ⟨(s0, s1), ⟨by simpa using c0, by simpa using c1⟩, ?_, bounds_i64 wf⟩
    rw [hb, bulk_string]
    simp only [Rows.uptoBulk]
    omega) h
  refine ⟨A, l, c, e, ⟨hR.le, fun h0 => ?_⟩, ?_, fun y hy => ?_⟩
  · obtain ⟨ad, e, hc⟩ := hR.cells h0
    refine ⟨ad, e, fun j hj => ?_⟩
    have := hc j hj
    have e1 : fldK l j = l[j].1 := by simp [fldK, hj]
    have e2 : fldV l j = l[j].2 := by simp [fldV, hj]
    rw [e1, e2]
    exact this
  · have := sum_get bs (fun j => ((fun t : ByteArray × Int => t.1.size + 1) (l.getD j (⟨#[]⟩, 0)))) l.length hb (fun j hj => by
      obtain ⟨b, e, q⟩ := hq j hj
      refine ⟨b, e, ?_⟩
      have : l.getD j (⟨#[]⟩, 0) = l[j] := by simp [hj]
      rw [this]
      have := q.1
      simp only at this ⊢
      omega)
    have e2 := map_range_get l (fun t : ByteArray × Int => t.1.size + 1) (⟨#[]⟩, 0)
    have h3 : fldB l ≤ bs.sum := by unfold fldB; rw [← e2]; exact this
    omega
  · obtain ⟨j, hj, rfl⟩ := List.mem_iff_getElem.1 hy
    obtain ⟨b, _, q⟩ := hq j hj
    exact q.2
instance : Inhabited Pt := ⟨Pt.zero⟩
def PtR (w : World) (a : Addr) (p : Pt) : Prop := ∃ At ct Af cf, PtCells w a p At ct Af cf
/-- A list of points. -/
theorem open_points {fuel : Nat} {cs : List Value} {x : DataW H × List MemPlace} (h : DataW.trod enc Tryz.prog W base spare held fuel 22 cs = some x) :
    ∃ (A : Option Addr) (l : List Pt) (c : Nat), cs = [.slice A l.length c] ∧ PtsAt W A l ∧ l.length * 5 ≤ Rows.uptoBulk x.1 ∧ ∀ p ∈ l, PtFit p ∧ ptBulk p ≤ Rows.uptoBulk x.1 := by
  obtain ⟨A, l, c, bs, e, hR, hb, hs, hq⟩ := open_list (α := Pt) (z := 4) Tryz.underlying22 (by kernel_rfl) (R := PtR) (Q := fun y b => ptBulk y + 5 ≤ b ∧ PtFit y) (fun n a cs x hl hc ht => by
    obtain ⟨v0, v1, v2, v3, y0, y1, y2, y3, m, rfl, hb, t0, t1, t2, t3⟩ := open_cells4 Tryz.underlying32 (by kernel_rfl) hl ht
    obtain ⟨s0, e0, rfl, _⟩ := DataW.trod_string Tryz.underlying9 t0
    obtain ⟨At, tags, ct, e1, hT, b1⟩ := open_tags t1
    obtain ⟨Af, fs, cf, e2, hF, b2, fF⟩ := open_fields t2
    obtain ⟨s3, e3, rfl, wf⟩ := DataW.trod_int Tryz.underlying2 t3
    obtain rfl : v0 = .string s0 := by simpa using e0
    obtain rfl : v1 = .slice At tags.length ct := by simpa using e1
    obtain rfl : v2 = .slice Af fs.length cf := by simpa using e2
    obtain rfl : v3 = .int .i64 s3 := by simpa using e3
    have c0 := hc 0 (by omega)
    have c1 := hc 1 (by omega)
    have c2 := hc 2 (by omega)
    have c3 := hc 3 (by omega)
    rw [add0] at c0
    rw [addS _ _ (by omega)] at c1 c2 c3
    refine ⟨⟨s0, tags, fs, s3⟩, ⟨At, ct, Af, cf, by simpa using c0, by simpa using c1, by simpa using c2, by simpa using c3, hT, hF⟩, ?_, ⟨bounds_i64 wf, fF⟩⟩
    rw [hb, bulk_string]
    unfold ptBulk
    simp only [Rows.uptoBulk]
    omega) h
  refine ⟨A, l, c, e, ⟨hR.le, hR.cells⟩, ?_, fun y hy => ?_⟩
  · have := sum_get bs (fun _ => 5) l.length hb (fun j hj => by
      obtain ⟨b, e, q⟩ := hq j hj
      exact ⟨b, e, by have := q.1; omega⟩)
    rw [sum_five] at this
    omega
  · obtain ⟨j, hj, rfl⟩ := List.mem_iff_getElem.1 hy
    obtain ⟨b, eb, q⟩ := hq j hj
    have := mem_le_sum bs b (List.mem_of_getElem? eb)
    exact ⟨q.2, by have := q.1; omega⟩
end
end Go.Proofs.YtnodjijgeifejaaGreatDoor
