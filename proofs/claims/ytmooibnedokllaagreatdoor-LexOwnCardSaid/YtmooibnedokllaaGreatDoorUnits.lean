/- Package span: the units in memory; which unit a text begins with. -/
import Derived.Test.YtmooibnedokllaaGreatDoorLib2
import Derived.Deep.QuietTactic
import Derived.BigQuiet
import Derived.Test.YtmooibnedokllaaGreatDoorUnitLaw
namespace Go.Proofs.YtmooibnedokllaaGreatDoor
open Go.RowKit
set_option linter.unusedSimpArgs false
set_option linter.unusedVariables false

abbrev unitCells : List Value := [.string ⟨#[119]⟩, .int .i64 604800000000000, .string ⟨#[100]⟩, .int .i64 86400000000000, .string ⟨#[104]⟩, .int .i64 3600000000000, .string ⟨#[109]⟩, .int .i64 60000000000, .string ⟨#[115]⟩, .int .i64 1000000000, .string ⟨#[109, 115]⟩, .int .i64 1000000, .string ⟨#[117, 115]⟩, .int .i64 1000, .string ⟨#[110, 115]⟩, .int .i64 1]
/-- The units lie as the program's text lays them. -/
def UnitsAt (w : World) : Prop := ∀ i v, unitCells[i]? = some v → w.cell? ⟨1, i, none⟩ = some v
theorem UnitsAt.below {w w' : World} (h : UnitsAt w) (hB : Below w.heap.size w w') : UnitsAt w' := fun i v hi => (hB.cell (World.block_lt_of_cell? w _ (h i v hi))).trans (h i v hi)
theorem unit_ext (s : ByteArray) (n : Nat) : (s.extract 0 n).toList = s.data.toList.take n := by
  rw [ByteArray.toList_eq, ByteArray.data_extract]; simp
set_option maxRecDepth 100000 in
set_option maxHeartbeats 20000000 in
theorem span_unitAt (s : ByteArray) (w : World) (hU : UnitsAt w) :
    Calls Tryz.prog 123 #[.string s] w fun ev w' => ev = .returned (.int .i64 (unitL s.data.toList)) ∧ Below w.heap.size w w' := by
  have hall := uA_all s.data.toList
  have hsz : s.data.toList.length = s.size := rfl
  have zc0 := hU 0 _ rfl
  have zc1 := hU 1 _ rfl
  have zc2 := hU 2 _ rfl
  have zc3 := hU 3 _ rfl
  have zc4 := hU 4 _ rfl
  have zc5 := hU 5 _ rfl
  have zc6 := hU 6 _ rfl
  have zc7 := hU 7 _ rfl
  have zc8 := hU 8 _ rfl
  have zc9 := hU 9 _ rfl
  have zc10 := hU 10 _ rfl
  have zc11 := hU 11 _ rfl
  have zc12 := hU 12 _ rfl
  have zc13 := hU 13 _ rfl
  have zc14 := hU 14 _ rfl
  have zc15 := hU 15 _ rfl
  have i0 : ∀ w, (Instr.index 263 (.agg unitCells.toArray) (.int .i64 0)).run Tryz.prog w = .ok (.agg #[.string ⟨#[119]⟩, .int .i64 604800000000000]) w := fun _ => by kernel_rfl
  have i1 : ∀ w, (Instr.index 263 (.agg unitCells.toArray) (.int .i64 1)).run Tryz.prog w = .ok (.agg #[.string ⟨#[100]⟩, .int .i64 86400000000000]) w := fun _ => by kernel_rfl
  have i2 : ∀ w, (Instr.index 263 (.agg unitCells.toArray) (.int .i64 2)).run Tryz.prog w = .ok (.agg #[.string ⟨#[104]⟩, .int .i64 3600000000000]) w := fun _ => by kernel_rfl
  have i3 : ∀ w, (Instr.index 263 (.agg unitCells.toArray) (.int .i64 3)).run Tryz.prog w = .ok (.agg #[.string ⟨#[109]⟩, .int .i64 60000000000]) w := fun _ => by kernel_rfl
  have i4 : ∀ w, (Instr.index 263 (.agg unitCells.toArray) (.int .i64 4)).run Tryz.prog w = .ok (.agg #[.string ⟨#[115]⟩, .int .i64 1000000000]) w := fun _ => by kernel_rfl
  have i5 : ∀ w, (Instr.index 263 (.agg unitCells.toArray) (.int .i64 5)).run Tryz.prog w = .ok (.agg #[.string ⟨#[109, 115]⟩, .int .i64 1000000]) w := fun _ => by kernel_rfl
  have i6 : ∀ w, (Instr.index 263 (.agg unitCells.toArray) (.int .i64 6)).run Tryz.prog w = .ok (.agg #[.string ⟨#[117, 115]⟩, .int .i64 1000]) w := fun _ => by kernel_rfl
  have i7 : ∀ w, (Instr.index 263 (.agg unitCells.toArray) (.int .i64 7)).run Tryz.prog w = .ok (.agg #[.string ⟨#[110, 115]⟩, .int .i64 1]) w := fun _ => by kernel_rfl
  go_enter Tryz.func123, Tryz.ntmps123
  go_wp2
  go_loopg [3, 4, 7] 8 (fun n v3 v4 v7 wr => ∃ (j a : Int), v7 = .int .i64 j ∧ 0 ≤ j ∧ j + n = 8 ∧ v3 = .int .i64 a ∧ a = uA s.data.toList j.toNat ∧ Below w.heap.size w wr)
  case atStart => exact ⟨0, -1, rfl, by omega, by omega, rfl, rfl, Below.refl _ _⟩
  clear zc0 zc2 zc4 zc8 zc10 zc12 zc14 zc1 zc3 zc5 zc7 zc9 zc11 zc13 zc15
  case round =>
    obtain ⟨j, a, rfl, hj0, hn, rfl, ha, hB⟩ := hrel
    have hj : j = 0 ∨ j = 1 ∨ j = 2 ∨ j = 3 ∨ j = 4 ∨ j = 5 ∨ j = 6 ∨ j = 7 ∨ j = 8 := by omega
    rcases hj with rfl | rfl | rfl | rfl | rfl | rfl | rfl | rfl | rfl
    · clear i1 i2 i3 i4 i5 i6 i7
      by_cases h1 : 1 ≤ s.size
      · have h1' : decide ((1 : Int) ≤ (s.size : Int)) = true := by simp; omega
        by_cases h2 : ((s.extract 0 1).toList == [119]) = true
        · have HK : Hid (preL s.data.toList 0 = true) := Lib.hid (by rw [unit_ext] at h2; unfold preL unitN; simpa [hsz, h1] using h2)
          have h3 : a = -1 := ha.trans (hall.2.1 0 (by omega) (by omega) HK.out)
          have h3' : decide (a < 0) = true := by rw [h3]; rfl
          clear hall hsz ha h3
          go_wp2_with fail
          go_quiet (fail)
          go_wp2
          go_roundg (gk - 1)
          case measure => omega
          case rel => exact ⟨1, _, by go_num, by omega, by omega, rfl, by simp [uA, HK.out], below_drewN (hB.alloc hB.size _) _⟩
        · have HK : Hid (preL s.data.toList 0 = false) := Lib.hid (by rw [unit_ext] at h2; unfold preL unitN; simpa [hsz, h1] using h2)
          have h2' : ((s.extract 0 1).toList == [119]) = false := by simpa using h2
          have ha' := Lib.hid ha
          clear hall hsz ha h2
          go_wp2_with fail
          go_quiet (fail)
          go_wp2
          go_roundg (gk - 1)
          case measure => omega
          case rel => exact ⟨1, _, by go_num, by omega, by omega, rfl, by simp [uA, HK.out]; exact ha'.out, below_drewN (hB.alloc hB.size _) _⟩
      · have h1' : decide ((1 : Int) ≤ (s.size : Int)) = false := by simp; omega
        have HK : Hid (preL s.data.toList 0 = false) := Lib.hid (by unfold preL unitN; simp [hsz]; omega)
        have ha' := Lib.hid ha
        clear hall hsz ha
        go_wp2_with fail
        go_quiet (fail)
        go_wp2
        go_roundg (gk - 1)
        case measure => omega
        case rel => exact ⟨1, _, by go_num, by omega, by omega, rfl, by simp [uA, HK.out]; exact ha'.out, below_drewN (hB.alloc hB.size _) _⟩
    · clear i0 i2 i3 i4 i5 i6 i7
      by_cases h1 : 1 ≤ s.size
      · have h1' : decide ((1 : Int) ≤ (s.size : Int)) = true := by simp; omega
        by_cases h2 : ((s.extract 0 1).toList == [100]) = true
        · have HK : Hid (preL s.data.toList 1 = true) := Lib.hid (by rw [unit_ext] at h2; unfold preL unitN; simpa [hsz, h1] using h2)
          have h3 : a = -1 := ha.trans (hall.2.1 1 (by omega) (by omega) HK.out)
          have h3' : decide (a < 0) = true := by rw [h3]; rfl
          clear hall hsz ha h3
          go_wp2_with fail
          go_quiet (fail)
          go_wp2
          go_roundg (gk - 1)
          case measure => omega
          case rel => exact ⟨2, _, by go_num, by omega, by omega, rfl, by simp [uA, HK.out], below_drewN (hB.alloc hB.size _) _⟩
        · have HK : Hid (preL s.data.toList 1 = false) := Lib.hid (by rw [unit_ext] at h2; unfold preL unitN; simpa [hsz, h1] using h2)
          have h2' : ((s.extract 0 1).toList == [100]) = false := by simpa using h2
          have ha' := Lib.hid ha
          clear hall hsz ha h2
          go_wp2_with fail
          go_quiet (fail)
          go_wp2
          go_roundg (gk - 1)
          case measure => omega
          case rel => exact ⟨2, _, by go_num, by omega, by omega, rfl, by simp [uA, HK.out]; exact ha'.out, below_drewN (hB.alloc hB.size _) _⟩
      · have h1' : decide ((1 : Int) ≤ (s.size : Int)) = false := by simp; omega
        have HK : Hid (preL s.data.toList 1 = false) := Lib.hid (by unfold preL unitN; simp [hsz]; omega)
        have ha' := Lib.hid ha
        clear hall hsz ha
        go_wp2_with fail
        go_quiet (fail)
        go_wp2
        go_roundg (gk - 1)
        case measure => omega
        case rel => exact ⟨2, _, by go_num, by omega, by omega, rfl, by simp [uA, HK.out]; exact ha'.out, below_drewN (hB.alloc hB.size _) _⟩
    · clear i0 i1 i3 i4 i5 i6 i7
      by_cases h1 : 1 ≤ s.size
      · have h1' : decide ((1 : Int) ≤ (s.size : Int)) = true := by simp; omega
        by_cases h2 : ((s.extract 0 1).toList == [104]) = true
        · have HK : Hid (preL s.data.toList 2 = true) := Lib.hid (by rw [unit_ext] at h2; unfold preL unitN; simpa [hsz, h1] using h2)
          have h3 : a = -1 := ha.trans (hall.2.1 2 (by omega) (by omega) HK.out)
          have h3' : decide (a < 0) = true := by rw [h3]; rfl
          clear hall hsz ha h3
          go_wp2_with fail
          go_quiet (fail)
          go_wp2
          go_roundg (gk - 1)
          case measure => omega
          case rel => exact ⟨3, _, by go_num, by omega, by omega, rfl, by simp [uA, HK.out], below_drewN (hB.alloc hB.size _) _⟩
        · have HK : Hid (preL s.data.toList 2 = false) := Lib.hid (by rw [unit_ext] at h2; unfold preL unitN; simpa [hsz, h1] using h2)
          have h2' : ((s.extract 0 1).toList == [104]) = false := by simpa using h2
          have ha' := Lib.hid ha
          clear hall hsz ha h2
          go_wp2_with fail
          go_quiet (fail)
          go_wp2
          go_roundg (gk - 1)
          case measure => omega
          case rel => exact ⟨3, _, by go_num, by omega, by omega, rfl, by simp [uA, HK.out]; exact ha'.out, below_drewN (hB.alloc hB.size _) _⟩
      · have h1' : decide ((1 : Int) ≤ (s.size : Int)) = false := by simp; omega
        have HK : Hid (preL s.data.toList 2 = false) := Lib.hid (by unfold preL unitN; simp [hsz]; omega)
        have ha' := Lib.hid ha
        clear hall hsz ha
        go_wp2_with fail
        go_quiet (fail)
        go_wp2
        go_roundg (gk - 1)
        case measure => omega
        case rel => exact ⟨3, _, by go_num, by omega, by omega, rfl, by simp [uA, HK.out]; exact ha'.out, below_drewN (hB.alloc hB.size _) _⟩
    · clear i0 i1 i2 i4 i5 i6 i7
      by_cases h1 : 1 ≤ s.size
      · have h1' : decide ((1 : Int) ≤ (s.size : Int)) = true := by simp; omega
        by_cases h2 : ((s.extract 0 1).toList == [109]) = true
        · have HK : Hid (preL s.data.toList 3 = true) := Lib.hid (by rw [unit_ext] at h2; unfold preL unitN; simpa [hsz, h1] using h2)
          have h3 : a = -1 := ha.trans (hall.2.1 3 (by omega) (by omega) HK.out)
          have h3' : decide (a < 0) = true := by rw [h3]; rfl
          clear hall hsz ha h3
          go_wp2_with fail
          go_quiet (fail)
          go_wp2
          go_roundg (gk - 1)
          case measure => omega
          case rel => exact ⟨4, _, by go_num, by omega, by omega, rfl, by simp [uA, HK.out], below_drewN (hB.alloc hB.size _) _⟩
        · have HK : Hid (preL s.data.toList 3 = false) := Lib.hid (by rw [unit_ext] at h2; unfold preL unitN; simpa [hsz, h1] using h2)
          have h2' : ((s.extract 0 1).toList == [109]) = false := by simpa using h2
          have ha' := Lib.hid ha
          clear hall hsz ha h2
          go_wp2_with fail
          go_quiet (fail)
          go_wp2
          go_roundg (gk - 1)
          case measure => omega
          case rel => exact ⟨4, _, by go_num, by omega, by omega, rfl, by simp [uA, HK.out]; exact ha'.out, below_drewN (hB.alloc hB.size _) _⟩
      · have h1' : decide ((1 : Int) ≤ (s.size : Int)) = false := by simp; omega
        have HK : Hid (preL s.data.toList 3 = false) := Lib.hid (by unfold preL unitN; simp [hsz]; omega)
        have ha' := Lib.hid ha
        clear hall hsz ha
        go_wp2_with fail
        go_quiet (fail)
        go_wp2
        go_roundg (gk - 1)
        case measure => omega
        case rel => exact ⟨4, _, by go_num, by omega, by omega, rfl, by simp [uA, HK.out]; exact ha'.out, below_drewN (hB.alloc hB.size _) _⟩
    · clear i0 i1 i2 i3 i5 i6 i7
      by_cases h1 : 1 ≤ s.size
      · have h1' : decide ((1 : Int) ≤ (s.size : Int)) = true := by simp; omega
        by_cases h2 : ((s.extract 0 1).toList == [115]) = true
        · have HK : Hid (preL s.data.toList 4 = true) := Lib.hid (by rw [unit_ext] at h2; unfold preL unitN; simpa [hsz, h1] using h2)
          have h3 : a = -1 := ha.trans (hall.2.1 4 (by omega) (by omega) HK.out)
          have h3' : decide (a < 0) = true := by rw [h3]; rfl
          clear hall hsz ha h3
          go_wp2_with fail
          go_quiet (fail)
          go_wp2
          go_roundg (gk - 1)
          case measure => omega
          case rel => exact ⟨5, _, by go_num, by omega, by omega, rfl, by simp [uA, HK.out], below_drewN (hB.alloc hB.size _) _⟩
        · have HK : Hid (preL s.data.toList 4 = false) := Lib.hid (by rw [unit_ext] at h2; unfold preL unitN; simpa [hsz, h1] using h2)
          have h2' : ((s.extract 0 1).toList == [115]) = false := by simpa using h2
          have ha' := Lib.hid ha
          clear hall hsz ha h2
          go_wp2_with fail
          go_quiet (fail)
          go_wp2
          go_roundg (gk - 1)
          case measure => omega
          case rel => exact ⟨5, _, by go_num, by omega, by omega, rfl, by simp [uA, HK.out]; exact ha'.out, below_drewN (hB.alloc hB.size _) _⟩
      · have h1' : decide ((1 : Int) ≤ (s.size : Int)) = false := by simp; omega
        have HK : Hid (preL s.data.toList 4 = false) := Lib.hid (by unfold preL unitN; simp [hsz]; omega)
        have ha' := Lib.hid ha
        clear hall hsz ha
        go_wp2_with fail
        go_quiet (fail)
        go_wp2
        go_roundg (gk - 1)
        case measure => omega
        case rel => exact ⟨5, _, by go_num, by omega, by omega, rfl, by simp [uA, HK.out]; exact ha'.out, below_drewN (hB.alloc hB.size _) _⟩
    · clear i0 i1 i2 i3 i4 i6 i7
      by_cases h1 : 2 ≤ s.size
      · have h1' : decide ((2 : Int) ≤ (s.size : Int)) = true := by simp; omega
        by_cases h2 : ((s.extract 0 2).toList == [109, 115]) = true
        · have HK : Hid (preL s.data.toList 5 = true) := Lib.hid (by rw [unit_ext] at h2; unfold preL unitN; simpa [hsz, h1] using h2)
          obtain rfl : a = 3 := ha.trans (hall.2.2 HK.out)
          have zc : (wr.alloc (.cells #[.string ⟨#[109, 115]⟩, .int .i64 1000000] 262 (0, 0))).cell? ⟨1, 6, none⟩ = some (.string ⟨#[109]⟩) := hU.below (hB.alloc hB.size _) 6 _ rfl
          have zd : wr.cell? ⟨1, 6, none⟩ = some (.string ⟨#[109]⟩) := hU.below hB 6 _ rfl
          clear hall hsz ha
          go_wp2_with fail
          go_quiet (fail)
          go_wp2
          go_roundg (gk - 1)
          case measure => omega
          case rel => exact ⟨6, _, by go_num, by omega, by omega, rfl, by simp [uA, HK.out], below_drewN (hB.alloc hB.size _) _⟩
        · have HK : Hid (preL s.data.toList 5 = false) := Lib.hid (by rw [unit_ext] at h2; unfold preL unitN; simpa [hsz, h1] using h2)
          have h2' : ((s.extract 0 2).toList == [109, 115]) = false := by simpa using h2
          have ha' := Lib.hid ha
          clear hall hsz ha h2
          go_wp2_with fail
          go_quiet (fail)
          go_wp2
          go_roundg (gk - 1)
          case measure => omega
          case rel => exact ⟨6, _, by go_num, by omega, by omega, rfl, by simp [uA, HK.out]; exact ha'.out, below_drewN (hB.alloc hB.size _) _⟩
      · have h1' : decide ((2 : Int) ≤ (s.size : Int)) = false := by simp; omega
        have HK : Hid (preL s.data.toList 5 = false) := Lib.hid (by unfold preL unitN; simp [hsz]; omega)
        have ha' := Lib.hid ha
        clear hall hsz ha
        go_wp2_with fail
        go_quiet (fail)
        go_wp2
        go_roundg (gk - 1)
        case measure => omega
        case rel => exact ⟨6, _, by go_num, by omega, by omega, rfl, by simp [uA, HK.out]; exact ha'.out, below_drewN (hB.alloc hB.size _) _⟩
    · clear i0 i1 i2 i3 i4 i5 i7
      by_cases h1 : 2 ≤ s.size
      · have h1' : decide ((2 : Int) ≤ (s.size : Int)) = true := by simp; omega
        by_cases h2 : ((s.extract 0 2).toList == [117, 115]) = true
        · have HK : Hid (preL s.data.toList 6 = true) := Lib.hid (by rw [unit_ext] at h2; unfold preL unitN; simpa [hsz, h1] using h2)
          have h3 : a = -1 := ha.trans (hall.2.1 6 (by omega) (by omega) HK.out)
          have h3' : decide (a < 0) = true := by rw [h3]; rfl
          clear hall hsz ha h3
          go_wp2_with fail
          go_quiet (fail)
          go_wp2
          go_roundg (gk - 1)
          case measure => omega
          case rel => exact ⟨7, _, by go_num, by omega, by omega, rfl, by simp [uA, HK.out], below_drewN (hB.alloc hB.size _) _⟩
        · have HK : Hid (preL s.data.toList 6 = false) := Lib.hid (by rw [unit_ext] at h2; unfold preL unitN; simpa [hsz, h1] using h2)
          have h2' : ((s.extract 0 2).toList == [117, 115]) = false := by simpa using h2
          have ha' := Lib.hid ha
          clear hall hsz ha h2
          go_wp2_with fail
          go_quiet (fail)
          go_wp2
          go_roundg (gk - 1)
          case measure => omega
          case rel => exact ⟨7, _, by go_num, by omega, by omega, rfl, by simp [uA, HK.out]; exact ha'.out, below_drewN (hB.alloc hB.size _) _⟩
      · have h1' : decide ((2 : Int) ≤ (s.size : Int)) = false := by simp; omega
        have HK : Hid (preL s.data.toList 6 = false) := Lib.hid (by unfold preL unitN; simp [hsz]; omega)
        have ha' := Lib.hid ha
        clear hall hsz ha
        go_wp2_with fail
        go_quiet (fail)
        go_wp2
        go_roundg (gk - 1)
        case measure => omega
        case rel => exact ⟨7, _, by go_num, by omega, by omega, rfl, by simp [uA, HK.out]; exact ha'.out, below_drewN (hB.alloc hB.size _) _⟩
    · clear i0 i1 i2 i3 i4 i5 i6
      by_cases h1 : 2 ≤ s.size
      · have h1' : decide ((2 : Int) ≤ (s.size : Int)) = true := by simp; omega
        by_cases h2 : ((s.extract 0 2).toList == [110, 115]) = true
        · have HK : Hid (preL s.data.toList 7 = true) := Lib.hid (by rw [unit_ext] at h2; unfold preL unitN; simpa [hsz, h1] using h2)
          have h3 : a = -1 := ha.trans (hall.2.1 7 (by omega) (by omega) HK.out)
          have h3' : decide (a < 0) = true := by rw [h3]; rfl
          clear hall hsz ha h3
          go_wp2_with fail
          go_quiet (fail)
          go_wp2
          go_roundg (gk - 1)
          case measure => omega
          case rel => exact ⟨8, _, by go_num, by omega, by omega, rfl, by simp [uA, HK.out], below_drewN (hB.alloc hB.size _) _⟩
        · have HK : Hid (preL s.data.toList 7 = false) := Lib.hid (by rw [unit_ext] at h2; unfold preL unitN; simpa [hsz, h1] using h2)
          have h2' : ((s.extract 0 2).toList == [110, 115]) = false := by simpa using h2
          have ha' := Lib.hid ha
          clear hall hsz ha h2
          go_wp2_with fail
          go_quiet (fail)
          go_wp2
          go_roundg (gk - 1)
          case measure => omega
          case rel => exact ⟨8, _, by go_num, by omega, by omega, rfl, by simp [uA, HK.out]; exact ha'.out, below_drewN (hB.alloc hB.size _) _⟩
      · have h1' : decide ((2 : Int) ≤ (s.size : Int)) = false := by simp; omega
        have HK : Hid (preL s.data.toList 7 = false) := Lib.hid (by unfold preL unitN; simp [hsz]; omega)
        have ha' := Lib.hid ha
        clear hall hsz ha
        go_wp2_with fail
        go_quiet (fail)
        go_wp2
        go_roundg (gk - 1)
        case measure => omega
        case rel => exact ⟨8, _, by go_num, by omega, by omega, rfl, by simp [uA, HK.out]; exact ha'.out, below_drewN (hB.alloc hB.size _) _⟩
    · obtain rfl : gk = 0 := by omega
      obtain rfl := ha.trans hall.1
      clear i0 i1 i2 i3 i4 i5 i6 i7
      go_wp2
      first | exact ⟨rfl, _, rfl, rfl, hB⟩ | exact ⟨_, _, rfl, rfl, hB⟩ | exact ⟨_, ⟨_, rfl, rfl, hB⟩⟩ | exact ⟨by kernel_rfl, _, by kernel_rfl, rfl, hB⟩ | exact ⟨rfl, _, by simp [results, Tryz.results123], rfl, hB⟩ | (go_ret; exact ⟨rfl, hB⟩)
end Go.Proofs.YtmooibnedokllaaGreatDoor
