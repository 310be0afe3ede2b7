/- weirmem's copies with marked room: a block that is filled cell by cell; the mark of a number. -/
import Derived.Test.YtnodjijgeifejaaGreatDoorBase
import Derived.Test.YtnodjijgeifejaaGreatDoorPlain
import Derived.Deep.LoopGhost
import Derived.Laws.MakeOwn
import Derived.Lib.ConvBytes
import Derived.Lib.SlBytesRow
namespace Go.Proofs.YtnodjijgeifejaaGreatDoor
open Go.RowKit
set_option linter.unusedSimpArgs false
set_option linter.unusedVariables false

theorem addF (g j : Nat) : (⟨g, 0, none⟩ : Addr).add j = ⟨g, j, none⟩ := by unfold Addr.add; split <;> simp_all
/-- A block of N cells, of which the first i are as F tells; all laid since w0. -/
structure Fill (g : Nat) (T : TypeId) (N : Nat) (F : Nat → Value) (i : Nat) (w0 w : World) : Prop where
  blk : ∃ C : Array Value, w.heap[g]? = some (.cells C T (0, 0)) ∧ C.size = N ∧ ∀ j, j < i → C[j]? = some (F j)
  B : Below w0.heap.size w0 w
  g0 : w0.heap.size ≤ g
variable {g : Nat} {T : TypeId} {N i j : Nat} {F : Nat → Value} {w0 w w' : World}
theorem Fill.start (w : World) (T : TypeId) (N : Nat) (F : Nat → Value) (C : Array Value) (hC : C.size = N) : Fill w.heap.size T N F 0 w (w.alloc (.cells C T (0, 0))) :=
  ⟨⟨C, heap_alloc_new w _, hC, fun j hj => absurd hj (Nat.not_lt_zero _)⟩, (Below.refl _ _).alloc (Nat.le_refl _) _, Nat.le_refl _⟩
theorem Fill.lt (h : Fill g T N F i w0 w) : g < w.heap.size := by
  obtain ⟨C, h1, _⟩ := h.blk
  exact blk_lt' h1
theorem Fill.next (h : Fill g T N F i w0 w) (hB : Below w.heap.size w w') : Fill g T N F i w0 w' := by
  obtain ⟨C, h1, h2, h3⟩ := h.blk
  exact ⟨⟨C, below_blk hB (blk_lt' h1) h1, h2, h3⟩, h.B.trans (hB.mono h.B.size), h.g0⟩
theorem Fill.set (h : Fill g T N F i w0 w) (hi : i < N) (v : Value) (hv : v = F i) : Fill g T N F (i + 1) w0 (w.setCell ⟨g, i, none⟩ v) := by
  obtain ⟨C, h1, h2, h3⟩ := h.blk
  refine ⟨⟨_, blk_set' h1 i v, by simpa using h2, fun j hj => ?_⟩, h.B.setCell h.g0 _, h.g0⟩
  rw [Array.getElem?_setIfInBounds]
  by_cases e : i = j
  · subst e
    rw [if_pos rfl, if_pos (by omega), hv]
  · rw [if_neg e]
    exact h3 j (by omega)
/-- A cell that is filled is written anew. -/
theorem Fill.turn {F' : Nat → Value} (h : Fill g T N F i w0 w) (j : Nat) (hj : j < N) (v : Value) (hF : ∀ k, k < i → F' k = if k = j then v else F k) : Fill g T N F' i w0 (w.setCell ⟨g, j, none⟩ v) := by
  obtain ⟨C, h1, h2, h3⟩ := h.blk
  refine ⟨⟨_, blk_set' h1 j v, by simpa using h2, fun k hk => ?_⟩, h.B.setCell h.g0 _, h.g0⟩
  rw [Array.getElem?_setIfInBounds, hF k hk]
  by_cases e : j = k
  · subst e
    rw [if_pos rfl, if_pos (by omega), if_pos rfl]
  · rw [if_neg e, if_neg (fun e' => e e'.symm)]
    exact h3 k hk
theorem Fill.get (h : Fill g T N F i w0 w) (hj : j < i) : w.cell? ⟨g, j, none⟩ = some (F j) := by
  obtain ⟨C, h1, h2, h3⟩ := h.blk
  rw [blk_cell' h1]
  exact h3 j hj
theorem Fill.any (h : Fill g T N F i w0 w) (hj : j < N) : ∃ v, w.cell? ⟨g, j, none⟩ = some v := by
  obtain ⟨C, h1, h2, h3⟩ := h.blk
  exact ⟨C[j], by rw [blk_cell' h1, Array.getElem?_eq_getElem (by omega)]⟩
theorem Fill.free (h : Fill g T N F i w0 w) (j : Nat) : w.frozen? ⟨g, j, none⟩ = false := by
  obtain ⟨C, h1, h2, h3⟩ := h.blk
  exact blk_free' h1 j
/-- Cells of a block that is done. -/
def HandR (w : World) (g M : Nat) (F : Nat → Value) : Prop := ∀ j, j < M → w.cell? ⟨g, j, none⟩ = some (F j)
theorem HandR.next {M : Nat} (h : HandR w g M F) (hB : Below w.heap.size w w') : HandR w' g M F := fun j hj => (hB.cell (World.block_lt_of_cell? w _ (h j hj))).trans (h j hj)
theorem Fill.done (h : Fill g T N F N w0 w) : HandR w g N F := fun _ hj => h.get hj
theorem make_rows {t e : TypeId} {z : Value} {sz by_ : Nat} (ht : Tryz.prog.underlying t = some (.slice e)) (hi : (Tryz.prog.info? e).map (fun i => (i.zero, i.size, i.bytes)) = some (some z, sz, by_)) (n N : Nat) (k : Int) (hk : k = (N : Int)) (hb : by_ * N ≤ 281474976710656) (h63 : N ≤ 9223372036854775807) (W : World) :
    (Instr.makeSlice t (.int .i64 k) (.int .i64 k)).run Tryz.prog W = .ok (.slice (some ⟨W.heap.size, 0, none⟩) N N) (W.alloc (.cells (madeCells z.cells (N * sz)) e)) := by
  subst hk
  obtain ⟨i, h1, h2⟩ := Option.map_eq_some_iff.1 hi
  simp only [Prod.mk.injEq] at h2
  obtain ⟨hz, hs, hb2⟩ := h2
  have hbb : (i.bytes : Int) * (N : Int) ≤ 281474976710656 := by
    rw [hb2]
    have h : ((by_ * N : Nat) : Int) ≤ 281474976710656 := by omega
    rwa [Int.natCast_mul] at h
  have h := run_make (P := Tryz.prog) W t e i z ht h1 hz .i64 .i64 N N (by omega) (Int.le_refl _) hbb (by omega)
  simp only [Int.toNat_natCast] at h
  rw [hs] at h
  exact h
theorem reslice_end {t e : TypeId} {s : Nat} (ht : Tryz.prog.underlying t = some (.slice e)) (hel : Tryz.prog.elem t = e) (hi : (Tryz.prog.info? e).map (fun i => i.size) = some s) (g n N : Nat) (k : Int) (hk : k = (N : Int)) (W : World) :
    (Instr.slice t (.slice (some ⟨g, 0, none⟩) n N) none (some (.int .i64 k)) none).run Tryz.prog W = .ok (.slice (some ⟨g, 0, none⟩) N N) W := by
  subst hk
  have h := run_slice_h (P := Tryz.prog) (w := W) t (some ⟨g, 0, none⟩) n N (by rw [hel]; exact ht) .i64 (N : Int) (by omega) (by omega)
  rw [h, hel]
  obtain ⟨i, h1, h2⟩ := Option.map_eq_some_iff.1 hi
  have h3 : (sizeOf e).run Tryz.prog W = .ok i.size W := by simp [sizeOf, typeInfo, h1]
  rw [h3]
  simp [Result.andThen, sliced, Addr.add]
/-- The mark of a number. -/
def markT (i : Nat) : ByteArray := ⟨#[109, 97, 114, 107, 32, UInt8.ofNat (97 + i % 26), UInt8.ofNat (97 + i / 26 % 26), UInt8.ofNat (97 + i / 676 % 26)]⟩
set_option maxRecDepth 100000 in
set_option maxHeartbeats 400000 in
theorem mem_text (i : Nat) (hi : i ≤ 9223372036854775807) (w : World) :
    Calls Tryz.prog 77 #[.int .i64 (i : Int)] w fun ev w' => ev = .returned (.string (markT i)) ∧ Below w.heap.size w w' := by
  have t1 : (i : Int).tmod 26 = ((i % 26 : Nat) : Int) := by rw [Int.tmod_eq_emod_of_nonneg (by omega)]; omega
  have t2 : (i : Int).tdiv 26 = ((i / 26 : Nat) : Int) := by rw [Int.tdiv_eq_ediv_of_nonneg (by omega)]; omega
  have t3 : ((i / 26 : Nat) : Int).tmod 26 = ((i / 26 % 26 : Nat) : Int) := by rw [Int.tmod_eq_emod_of_nonneg (by omega)]; omega
  have t4 : (i : Int).tdiv 676 = ((i / 676 : Nat) : Int) := by rw [Int.tdiv_eq_ediv_of_nonneg (by omega)]; omega
  have t5 : ((i / 676 : Nat) : Int).tmod 26 = ((i / 676 % 26 : Nat) : Int) := by rw [Int.tmod_eq_emod_of_nonneg (by omega)]; omega
  have hM0 : markT i = ⟨#[109, 97, 114, 107, 32, UInt8.ofNat (97 + i % 26), UInt8.ofNat (97 + i / 26 % 26), UInt8.ofNat (97 + i / 676 % 26)]⟩ := rfl
  have l1 : i % 26 < 26 := Nat.mod_lt _ (by omega)
  have l2 : i / 26 % 26 < 26 := Nat.mod_lt _ (by omega)
  have l3 : i / 676 % 26 < 26 := Nat.mod_lt _ (by omega)
  have l4 : i / 26 ≤ 9223372036854775807 := by omega
  have l5 : i / 676 ≤ 9223372036854775807 := by omega
  generalize i / 26 % 26 = a2 at *
  generalize i / 676 % 26 = a3 at *
  generalize i % 26 = a1 at *
  generalize i / 26 = d1 at *
  generalize i / 676 = d2 at *
  have e1 : IntKind.u8.wrap (97 + (a1 : Int)) = 97 + (a1 : Int) := by show (97 + (a1 : Int)) % 256 = _; omega
  have e2 : IntKind.u8.wrap (97 + (a2 : Int)) = 97 + (a2 : Int) := by show (97 + (a2 : Int)) % 256 = _; omega
  have e3 : IntKind.u8.wrap (97 + (a3 : Int)) = 97 + (a3 : Int) := by show (97 + (a3 : Int)) % 256 = _; omega
  obtain ⟨M, hM⟩ : ∃ M, M = markT i := ⟨_, rfl⟩
  rw [← hM] at hM0 ⊢
  obtain ⟨X, hX⟩ : ∃ X : ByteArray, X = ⟨#[UInt8.ofNat (97 + a1), UInt8.ofNat (97 + a2), UInt8.ofNat (97 + a3)]⟩ := ⟨_, rfl⟩
  have HM : Hid ((⟨#[109, 97, 114, 107, 32]⟩ : ByteArray) ++ X = M) := Lib.hid (by rw [hM0, hX]; exact bytes_ext (by rw [data_app]; rfl))
  have hXs : X.size = 3 := by rw [hX]; rfl
  have n1 : ((UInt8.ofNat (97 + a1)).toNat : Int) = 97 + (a1 : Int) := by rw [UInt8.toNat_ofNat']; omega
  have n2 : ((UInt8.ofNat (97 + a2)).toNat : Int) = 97 + (a2 : Int) := by rw [UInt8.toNat_ofNat']; omega
  have n3 : ((UInt8.ofNat (97 + a3)).toNat : Int) = 97 + (a3 : Int) := by rw [UInt8.toNat_ofNat']; omega
  have cv := Lib.run_convert_whole (P := Tryz.prog) (w.alloc (.cells #[.int .u8 (97 + (a1 : Int)), .int .u8 (97 + (a2 : Int)), .int .u8 (97 + (a3 : Int))] 5 (0, 0))) 91 5 9 Tryz.underlying91 Tryz.underlying5 Tryz.underlying9 w.heap.size 0 X (fun x hx => by
    have hb := heap_alloc_new w (.cells #[.int .u8 (97 + (a1 : Int)), .int .u8 (97 + (a2 : Int)), .int .u8 (97 + (a3 : Int))] 5 (0, 0))
    rw [hXs] at hx
    subst hX
    rw [blk_cell' hb]
    match x, hx with
    | 0, _ => rw [← n1]; rfl
    | 1, _ => rw [← n2]; rfl
    | 2, _ => rw [← n3]; rfl) 3
  rw [hXs] at cv
  clear hM hM0 hX n1 n2 n3
  go_enter Tryz.func77, Tryz.ntmps77
  go_wp2_with fail
  go_ret
  exact ⟨by rw [← HM.out]; rfl, (Below.refl _ _).alloc (Nat.le_refl _) _⟩
end Go.Proofs.YtnodjijgeifejaaGreatDoor
