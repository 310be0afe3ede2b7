/- strings.Builder: copyCheck, WriteByte, WriteString, at this program's own text (its copy check refuses where the library's panics, so the shelf's three are not laid); Len and String off the shelf. -/
import Derived.Test.YtnodjijgeifejaaGreatDoorBase
import Derived.Test.YtnodjijgeifejaaGreatDoorShelf
import Derived.Shelf.Strings.Builder1
import Derived.Lib.Builder
namespace Go.Proofs.YtnodjijgeifejaaGreatDoor
open Go.RowKit
set_option linter.unusedSimpArgs false
set_option linter.unusedVariables false

abbrev tB : TypeId := 93
abbrev tU : TypeId := 5
theorem info_B : (Tryz.prog.info? 93).map (·.size) = some 2 := by kernel_rfl
theorem info_U : (Tryz.prog.info? 5).map (fun i => (i.zero, i.size, i.bytes)) = some (some (.int .u8 0), 1, 1) := by kernel_rfl
theorem lies_B : liesAt Tryz.prog Tryz.prog.depth 93 (2 / Tryz.prog.cellsOf 93) 0 93 1 = true := by kernel_rfl

set_option maxRecDepth 100000 in
set_option maxHeartbeats 1000000 in
theorem copy_used (b : Nat) (w : World) (h0 : w.cell? ⟨b, 0, none⟩ = some (.pointer (some ⟨b, 0, none⟩))) :
    Calls Tryz.prog 79 #[.pointer (some ⟨b, 0, none⟩)] w fun ev w' => ev = .returned (.tuple #[]) ∧ w' = w := by
  obtain ⟨j, hj, _⟩ := Option.map_eq_some_iff.1 info_B
  have hn := Lib.run_neq_ptr_same (P := Tryz.prog) w ⟨b, 0, none⟩ Tryz.underlying90 hj
  go_enter Tryz.func79, Tryz.ntmps79
  go_wp2
  go_end0
  exact ⟨rfl, rfl⟩
set_option maxRecDepth 100000 in
set_option maxHeartbeats 1000000 in
theorem copy_fresh (b : Nat) (w : World) (h0 : w.cell? ⟨b, 0, none⟩ = some (.pointer none)) (hsh : w.shape? b = some (93, 2)) (hfz : w.frozen? ⟨b, 0, none⟩ = false) :
    Calls Tryz.prog 79 #[.pointer (some ⟨b, 0, none⟩)] w fun ev w' => ev = .returned (.tuple #[]) ∧ w' = w.setCell ⟨b, 0, none⟩ (.pointer (some ⟨b, 0, none⟩)) := by
  obtain ⟨j, hj, hjs⟩ := Option.map_eq_some_iff.1 info_B
  have h1 := Lib.run_to_unsafe (P := Tryz.prog) w ⟨b, 0, none⟩ Tryz.underlying90 Tryz.underlying132 hj (by rw [hjs]; decide) hsh (Nat.zero_lt_succ 1)
  have h2 := Lib.run_from_unsafe (P := Tryz.prog) w ⟨b, 0, none⟩ Tryz.underlying132 Tryz.underlying90 hj hsh lies_B
  have h3 : (callFunc 103 #[.pointer (some ⟨b, 0, none⟩)]).run Tryz.prog w = .ok (.value (.pointer (some ⟨b, 0, none⟩))) w := by
    rw [run_callFunc_extern Tryz.func103 (by kernel_rfl) (by kernel_rfl) (by kernel_rfl) (e := Extern.AbiNoEscape.same) (by kernel_rfl)]
    rfl
  go_enter Tryz.func79, Tryz.ntmps79
  go_wp2
  go_end0
  exact ⟨rfl, rfl⟩
theorem copy_any (B b : Nat) (bs : List Value) (w : World) (h : Lib.IsBuilder tB tU B b bs w) :
    Calls Tryz.prog 79 #[.pointer (some ⟨b, 0, none⟩)] w fun ev w' => ev = .returned (.tuple #[]) ∧ (Lib.BuilderAt tB tU B b (.pointer (some ⟨b, 0, none⟩)) bs w' ∧ Below B w w') := by
  rcases h with h | h
  · exact (copy_fresh b w h.cell0 h.shape h.frozen0).mono (by rintro ev w' ⟨rfl, rfl⟩; exact ⟨rfl, h.used _, (Below.refl B w).setCell (p := ⟨b, 0, none⟩) h.1 _⟩)
  · exact (copy_used b w h.cell0).mono (by rintro ev w' ⟨rfl, rfl⟩; exact ⟨rfl, h, Below.refl B _⟩)
/-- A builder in block b (laid since the walk began: its rows lie behind it) that holds these bytes. -/
def Bld (b : Nat) (l : List UInt8) (w : World) : Prop := Lib.IsBuilder tB tU b b (Lib.byteCells l) w
theorem Bld.fresh (w : World) : Bld w.heap.size [] (w.alloc (.cells #[.pointer none, .slice none 0 0] tB)) := Lib.fresh_isBuilder tB tU w
theorem Bld.drew {b : Nat} {l : List UInt8} {w : World} (h : Bld b l w) : Bld b l w.drew := h
theorem Bld.lt {b : Nat} {l : List UInt8} {w : World} (h : Bld b l w) : b < w.heap.size := by rcases h with h | h <;> exact h.lt
/-- What the walk of a write finds behind the copy check, and leaves. -/
theorem write_end {b : Nat} {w1 w2 : World} {v v' : Value} {bs : List Value} (hbk : w1.heap[b]? = some (.cells #[.pointer (some ⟨b, 0, none⟩), v] tB (0, 0))) (hne : v.ownBlock ≠ some b) (hg : w1.grownBy w2 v.ownBlock) :
    w2.heap[b]? = some (.cells #[.pointer (some ⟨b, 0, none⟩), v] tB (0, 0)) := (hg.block b (blk_lt' hbk) (fun e => hne e.symm)).trans hbk

set_option maxRecDepth 100000 in
set_option maxHeartbeats 1000000 in
theorem write_byte (b : Nat) (l : List UInt8) (c : UInt8) (w : World) (h : Bld b l w) (hlen : l.length + 1 ≤ 140737488355328) :
    Calls Tryz.prog 81 #[.pointer (some ⟨b, 0, none⟩), .int .u8 (c.toNat : Int)] w fun ev w' => ev = .returned .nilIface ∧ Bld b (l ++ [c]) w' ∧ Below b w w' := by
  have hbw := Nat.le_of_lt h.lt
  have hlen' : (Lib.byteCells l).length + 1 ≤ 140737488355328 := by rw [Lib.byteCells_length]; exact hlen
  have hbs : Lib.byteCells (l ++ [c]) = Lib.byteCells l ++ [.int .u8 (c.toNat : Int)] := by rw [Lib.byteCells_append]; rfl
  unfold Bld at h ⊢
  rw [hbs]
  generalize Lib.byteCells l = bs at *
  generalize (c.toNat : Int) = z at *
  clear hbs hlen
  obtain ⟨i0, hi, hz0, hz1, hz2⟩ := info_parts info_U
  go_enter Tryz.func81, Tryz.ntmps81
  go_wp2_with (go_at_call 79; refine (copy_any b b bs _ h).mono ?_)
  rintro ev w1 ⟨rfl, hA, hB1⟩
  obtain ⟨hB, v, hbk, hown, hne⟩ := hA
  have c0 := blk_cell' hbk 0
  have c1 := blk_cell' hbk 1
  go_wp2_with (at_builtin; refine wpList_append_own _ rfl _ _ 91 rfl b tU i0 (.int .u8 0) 1 1 Tryz.underlying91 hi hz0 hz1 hz2 rfl (by decide) _ _ _ rfl (hown.alloc _) ⟨w1.heap.size, 0, none⟩ 1 1 [.int .u8 z] rfl rfl ?c1 ?c2 ?c3 ?c4 ?c5 ?_)
  case c1 =>
    intro j u hj
    match j, hj with
    | 0, hj => simp at hj; subst hj; simp [Addr.add]
  case c2 => intro u hu; simp at hu; subst hu; rfl
  case c3 => unfold maxLen; omega
  case c4 => omega
  case c5 => have := hB1.size; simp; omega
  intro v' w2 hown' hgrow _
  have hbk2 := write_end (b := b) (bs := bs) (v' := v') (heap_old' w1 (.cells #[.int .u8 z] tU) b (blk_lt' hbk) hbk) hne hgrow
  have d0 := blk_cell' hbk2 0
  have d1 := blk_cell' hbk2 1
  have f1 := blk_free' hbk2 1
  obtain ⟨g, cap, rfl⟩ : ∃ g cap, v' = .slice (some ⟨g, 0, none⟩) (bs.length + 1) cap := by
    rcases hown'.2 with ⟨_, h0⟩ | ⟨g, cap, cur, hv, _⟩
    · omega
    · exact ⟨g, cap, hv⟩
  go_wp2
  go_ret
  refine ⟨rfl, .inr ?_, ?_⟩
  · exact Lib.BuilderAt.put (T := tB) (e := tU) hB hbk2 (bs' := bs ++ [.int .u8 z]) (by simpa using hown') (by decide)
  · exact ((hB1.alloc (by have := hB1.size; omega) _).grown hgrow (by have := hB1.size; simp; omega) (fun k hk => (hown.lt k hk).1)).setCell (p := ⟨b, 1, none⟩) hB _

theorem copy_far (b : Nat) (bs : List Value) (w : World) (h : Lib.IsBuilder tB tU b b bs w) :
    Calls Tryz.prog 79 #[.pointer (some ⟨b, 0, none⟩)] w fun ev w' => ev = .returned (.tuple #[]) ∧ (Lib.BuilderAt tB tU b b (.pointer (some ⟨b, 0, none⟩)) bs w' ∧ Below b w w' ∧ ∀ g o, g ≠ b → w.heap[g]? = some o → w'.heap[g]? = some o) := by
  rcases h with h | h
  · exact (copy_fresh b w h.cell0 h.shape h.frozen0).mono (by rintro ev w' ⟨rfl, rfl⟩; exact ⟨rfl, h.used _, (Below.refl b w).setCell (p := ⟨b, 0, none⟩) h.1 _, fun g o hg ho => blk_far' ho hg 0 _⟩)
  · exact (copy_used b w h.cell0).mono (by rintro ev w' ⟨rfl, rfl⟩; exact ⟨rfl, h, Below.refl b _, fun g o _ ho => ho⟩)
set_option maxRecDepth 100000 in
set_option maxHeartbeats 1000000 in
theorem write_string_far (b : Nat) (l : List UInt8) (s : ByteArray) (w : World) (h : Bld b l w) (hlen : l.length + s.size ≤ 140737488355328) :
    Calls Tryz.prog 28 #[.pointer (some ⟨b, 0, none⟩), .string s] w fun ev w' => ev = .returned (.tuple #[.int .i64 (s.size : Int), .nilIface]) ∧ Bld b (l ++ s.data.toList) w' ∧ Below b w w' ∧ ∀ g cs T fr, g ≠ b → T ≠ tU → w.heap[g]? = some (.cells cs T fr) → w'.heap[g]? = some (.cells cs T fr) := by
  have hbw := Nat.le_of_lt h.lt
  have hlen' : (Lib.byteCells l).length + s.size ≤ 140737488355328 := by rw [Lib.byteCells_length]; exact hlen
  have hbs : Lib.byteCells (l ++ s.data.toList) = Lib.byteCells l ++ Lib.strCells s := by rw [Lib.byteCells_append]; rfl
  unfold Bld at h ⊢
  rw [hbs]
  generalize Lib.byteCells l = bs at *
  clear hbs hlen
  obtain ⟨i0, hi, hz0, hz1, hz2⟩ := info_parts info_U
  go_enter Tryz.func28, Tryz.ntmps28
  go_wp2_with (go_at_call 79; refine (copy_far b bs _ h).mono ?_)
  rintro ev w1 ⟨rfl, hA, hB1, hF⟩
  have HF := Lib.hid hF
  clear hF
  obtain ⟨hB, v, hbk, hown, hne⟩ := hA
  have c0 := blk_cell' hbk 0
  have c1 := blk_cell' hbk 1
  go_wp2_with (at_builtin; refine Lib.wpList_append_own_string _ rfl _ _ 91 9 rfl b tU i0 Tryz.underlying91 Tryz.underlying9 hi hz0 hz1 hz2 _ _ _ rfl hown s rfl ?c3 ?c4 ?c5 ?_)
  case c3 => unfold maxLen; omega
  case c4 => omega
  case c5 => have := hB1.size; omega
  intro v' w2 hown' hgrow _
  have hbk2 := write_end (b := b) (bs := bs) (v' := v') hbk hne hgrow
  have d0 := blk_cell' hbk2 0
  have d1 := blk_cell' hbk2 1
  have f1 := blk_free' hbk2 1
  obtain ⟨ao, n', cap, rfl⟩ : ∃ ao n' cap, v' = .slice ao n' cap := by
    rcases hown'.2 with ⟨hv, _⟩ | ⟨g, cap, cur, hv, _⟩
    · exact ⟨_, _, _, hv⟩
    · exact ⟨_, _, _, hv⟩
  go_wp2
  go_ret2
  refine ⟨rfl, .inr ?_, ?_, fun g cs T fr hg hT ho => ?_⟩
  · exact Lib.BuilderAt.put (T := tB) (e := tU) hB hbk2 (bs' := bs ++ Lib.strCells s) (by simpa [Lib.strCells] using hown') (by decide)
  · exact (hB1.grown hgrow (by have := hB1.size; omega) (fun k hk => (hown.lt k hk).1)).setCell (p := ⟨b, 1, none⟩) hB _
  · have h1 := HF.out g _ hg ho
    have h2 := Lib.ownBlock_ne hown h1 hT
    exact blk_far' (grown_blk hgrow h1 (fun e => h2 e.symm)) hg 1 _
theorem write_string (b : Nat) (l : List UInt8) (s : ByteArray) (w : World) (h : Bld b l w) (hlen : l.length + s.size ≤ 140737488355328) :
    Calls Tryz.prog 28 #[.pointer (some ⟨b, 0, none⟩), .string s] w fun ev w' => ev = .returned (.tuple #[.int .i64 (s.size : Int), .nilIface]) ∧ Bld b (l ++ s.data.toList) w' ∧ Below b w w' :=
  (write_string_far b l s w h hlen).mono fun ev w' h => ⟨h.1, h.2.1, h.2.2.1⟩
theorem build_string (b : Nat) (l : List UInt8) (w : World) (h : Bld b l w) :
    Calls Tryz.prog 32 #[.pointer (some ⟨b, 0, none⟩)] w fun ev w' => ev = .returned (.string ⟨l.toArray⟩) ∧ Below b w w' :=
  Tryz.Builder_String_any b b l w h (Nat.le_of_lt h.lt)
theorem build_len (b : Nat) (l : List UInt8) (w : World) (h : Bld b l w) :
    Calls Tryz.prog 31 #[.pointer (some ⟨b, 0, none⟩)] w fun ev w' => ev = .returned (.int .i64 (l.length : Int)) ∧ w = w' :=
  (Tryz.Builder_Len b b (Lib.byteCells l) w h).mono (by rintro ev w' ⟨rfl, rfl⟩; exact ⟨by rw [Lib.byteCells_length], rfl⟩)
end Go.Proofs.YtnodjijgeifejaaGreatDoor
