/- weirmem.Book: the lists that hold nothing stand alone; the mark of a number. -/
import Derived.Test.YtmooibnedokllaaGreatDoorBase
import Derived.Deep.LoopGhost
import Derived.Lib.ConvBytes
namespace Go.Proofs.YtmooibnedokllaaGreatDoor
open Go.RowKit
set_option linter.unusedSimpArgs false
set_option linter.unusedVariables false

set_option maxRecDepth 100000 in
set_option maxHeartbeats 400000 in
theorem alone_Bytes (b : Nat) (w : World) (h : w.cell? ⟨b, 0, none⟩ = some (.slice none 0 0)) :
    Calls Tryz.prog 50 #[.pointer (some ⟨b, 0, none⟩)] w fun e w' => e = .returned (.bool true) ∧ w' = w := by
  go_enter Tryz.func50, Tryz.ntmps50
  go_wp2_with fail
  go_loopg [3] 1 (fun m v3 wr => v3 = .int .i64 0 ∧ Hid (w = wr))
  case atStart => exact ⟨rfl, Lib.hid rfl⟩
  case round =>
    obtain ⟨rfl, hw⟩ := hrel
    obtain rfl := hw.out
    go_wp2_with fail
    go_loopg [5, 6] 1 (fun m v5 v6 wr2 => v5 = .slice none 0 0 ∧ v6 = .int .i64 0 ∧ Hid (w = wr2))
    case atStart => exact ⟨rfl, rfl, Lib.hid rfl⟩
    case round =>
      obtain ⟨rfl, rfl, hw⟩ := hrel
      obtain rfl := hw.out
      go_wp2_with fail
      go_loopg [9] 1 (fun m v9 wr2 => v9 = .int .i64 0 ∧ Hid (w = wr2))
      case atStart => exact ⟨rfl, Lib.hid rfl⟩
      case round =>
        obtain ⟨rfl, hw⟩ := hrel
        obtain rfl := hw.out
        go_wp2_with fail
        first | done | exact ⟨rfl, rfl⟩ | (go_ret; exact ⟨rfl, rfl⟩)

set_option maxRecDepth 100000 in
set_option maxHeartbeats 400000 in
theorem alone_Texts (b : Nat) (w : World) (h : w.cell? ⟨b, 1, none⟩ = some (.slice none 0 0)) :
    Calls Tryz.prog 51 #[.pointer (some ⟨b, 0, none⟩)] w fun e w' => e = .returned (.bool true) ∧ w' = w := by
  go_enter Tryz.func51, Tryz.ntmps51
  go_wp2_with fail
  go_loopg [3] 1 (fun m v3 wr => v3 = .int .i64 0 ∧ Hid (w = wr))
  case atStart => exact ⟨rfl, Lib.hid rfl⟩
  case round =>
    obtain ⟨rfl, hw⟩ := hrel
    obtain rfl := hw.out
    go_wp2_with fail
    go_loopg [5, 6] 1 (fun m v5 v6 wr2 => v5 = .slice none 0 0 ∧ v6 = .int .i64 0 ∧ Hid (w = wr2))
    case atStart => exact ⟨rfl, rfl, Lib.hid rfl⟩
    case round =>
      obtain ⟨rfl, rfl, hw⟩ := hrel
      obtain rfl := hw.out
      go_wp2_with fail
      go_loopg [9] 1 (fun m v9 wr2 => v9 = .int .i64 0 ∧ Hid (w = wr2))
      case atStart => exact ⟨rfl, Lib.hid rfl⟩
      case round =>
        obtain ⟨rfl, hw⟩ := hrel
        obtain rfl := hw.out
        go_wp2_with fail
        first | done | exact ⟨rfl, rfl⟩ | (go_ret; exact ⟨rfl, rfl⟩)

set_option maxRecDepth 100000 in
set_option maxHeartbeats 400000 in
theorem alone_Ints (b : Nat) (w : World) (h : w.cell? ⟨b, 2, none⟩ = some (.slice none 0 0)) :
    Calls Tryz.prog 52 #[.pointer (some ⟨b, 0, none⟩)] w fun e w' => e = .returned (.bool true) ∧ w' = w := by
  go_enter Tryz.func52, Tryz.ntmps52
  go_wp2_with fail
  go_loopg [3] 1 (fun m v3 wr => v3 = .int .i64 0 ∧ Hid (w = wr))
  case atStart => exact ⟨rfl, Lib.hid rfl⟩
  case round =>
    obtain ⟨rfl, hw⟩ := hrel
    obtain rfl := hw.out
    go_wp2_with fail
    go_loopg [5, 6] 1 (fun m v5 v6 wr2 => v5 = .slice none 0 0 ∧ v6 = .int .i64 0 ∧ Hid (w = wr2))
    case atStart => exact ⟨rfl, rfl, Lib.hid rfl⟩
    case round =>
      obtain ⟨rfl, rfl, hw⟩ := hrel
      obtain rfl := hw.out
      go_wp2_with fail
      go_loopg [9] 1 (fun m v9 wr2 => v9 = .int .i64 0 ∧ Hid (w = wr2))
      case atStart => exact ⟨rfl, Lib.hid rfl⟩
      case round =>
        obtain ⟨rfl, hw⟩ := hrel
        obtain rfl := hw.out
        go_wp2_with fail
        first | done | exact ⟨rfl, rfl⟩ | (go_ret; exact ⟨rfl, rfl⟩)

set_option maxRecDepth 100000 in
set_option maxHeartbeats 400000 in
theorem alone_Int64s (b : Nat) (w : World) (h : w.cell? ⟨b, 3, none⟩ = some (.slice none 0 0)) :
    Calls Tryz.prog 53 #[.pointer (some ⟨b, 0, none⟩)] w fun e w' => e = .returned (.bool true) ∧ w' = w := by
  go_enter Tryz.func53, Tryz.ntmps53
  go_wp2_with fail
  go_loopg [3] 1 (fun m v3 wr => v3 = .int .i64 0 ∧ Hid (w = wr))
  case atStart => exact ⟨rfl, Lib.hid rfl⟩
  case round =>
    obtain ⟨rfl, hw⟩ := hrel
    obtain rfl := hw.out
    go_wp2_with fail
    go_loopg [5, 6] 1 (fun m v5 v6 wr2 => v5 = .slice none 0 0 ∧ v6 = .int .i64 0 ∧ Hid (w = wr2))
    case atStart => exact ⟨rfl, rfl, Lib.hid rfl⟩
    case round =>
      obtain ⟨rfl, rfl, hw⟩ := hrel
      obtain rfl := hw.out
      go_wp2_with fail
      go_loopg [9] 1 (fun m v9 wr2 => v9 = .int .i64 0 ∧ Hid (w = wr2))
      case atStart => exact ⟨rfl, Lib.hid rfl⟩
      case round =>
        obtain ⟨rfl, hw⟩ := hrel
        obtain rfl := hw.out
        go_wp2_with fail
        first | done | exact ⟨rfl, rfl⟩ | (go_ret; exact ⟨rfl, rfl⟩)

set_option maxRecDepth 100000 in
set_option maxHeartbeats 400000 in
theorem alone_Uint64s (b : Nat) (w : World) (h : w.cell? ⟨b, 4, none⟩ = some (.slice none 0 0)) :
    Calls Tryz.prog 54 #[.pointer (some ⟨b, 0, none⟩)] w fun e w' => e = .returned (.bool true) ∧ w' = w := by
  go_enter Tryz.func54, Tryz.ntmps54
  go_wp2_with fail
  go_loopg [3] 1 (fun m v3 wr => v3 = .int .i64 0 ∧ Hid (w = wr))
  case atStart => exact ⟨rfl, Lib.hid rfl⟩
  case round =>
    obtain ⟨rfl, hw⟩ := hrel
    obtain rfl := hw.out
    go_wp2_with fail
    go_loopg [5, 6] 1 (fun m v5 v6 wr2 => v5 = .slice none 0 0 ∧ v6 = .int .i64 0 ∧ Hid (w = wr2))
    case atStart => exact ⟨rfl, rfl, Lib.hid rfl⟩
    case round =>
      obtain ⟨rfl, rfl, hw⟩ := hrel
      obtain rfl := hw.out
      go_wp2_with fail
      go_loopg [9] 1 (fun m v9 wr2 => v9 = .int .i64 0 ∧ Hid (w = wr2))
      case atStart => exact ⟨rfl, Lib.hid rfl⟩
      case round =>
        obtain ⟨rfl, hw⟩ := hrel
        obtain rfl := hw.out
        go_wp2_with fail
        first | done | exact ⟨rfl, rfl⟩ | (go_ret; exact ⟨rfl, rfl⟩)

set_option maxRecDepth 100000 in
set_option maxHeartbeats 400000 in
theorem alone_Tags (b : Nat) (w : World) (h : w.cell? ⟨b, 5, none⟩ = some (.slice none 0 0)) :
    Calls Tryz.prog 55 #[.pointer (some ⟨b, 0, none⟩)] w fun e w' => e = .returned (.bool true) ∧ w' = w := by
  go_enter Tryz.func55, Tryz.ntmps55
  go_wp2_with fail
  go_loopg [3] 1 (fun m v3 wr => v3 = .int .i64 0 ∧ Hid (w = wr))
  case atStart => exact ⟨rfl, Lib.hid rfl⟩
  case round =>
    obtain ⟨rfl, hw⟩ := hrel
    obtain rfl := hw.out
    go_wp2_with fail
    go_loopg [5, 6] 1 (fun m v5 v6 wr2 => v5 = .slice none 0 0 ∧ v6 = .int .i64 0 ∧ Hid (w = wr2))
    case atStart => exact ⟨rfl, rfl, Lib.hid rfl⟩
    case round =>
      obtain ⟨rfl, rfl, hw⟩ := hrel
      obtain rfl := hw.out
      go_wp2_with fail
      go_loopg [9] 1 (fun m v9 wr2 => v9 = .int .i64 0 ∧ Hid (w = wr2))
      case atStart => exact ⟨rfl, Lib.hid rfl⟩
      case round =>
        obtain ⟨rfl, hw⟩ := hrel
        obtain rfl := hw.out
        go_wp2_with fail
        first | done | exact ⟨rfl, rfl⟩ | (go_ret; exact ⟨rfl, rfl⟩)

set_option maxRecDepth 100000 in
set_option maxHeartbeats 400000 in
theorem alone_Fields (b : Nat) (w : World) (h : w.cell? ⟨b, 6, none⟩ = some (.slice none 0 0)) :
    Calls Tryz.prog 56 #[.pointer (some ⟨b, 0, none⟩)] w fun e w' => e = .returned (.bool true) ∧ w' = w := by
  go_enter Tryz.func56, Tryz.ntmps56
  go_wp2_with fail
  go_loopg [3] 1 (fun m v3 wr => v3 = .int .i64 0 ∧ Hid (w = wr))
  case atStart => exact ⟨rfl, Lib.hid rfl⟩
  case round =>
    obtain ⟨rfl, hw⟩ := hrel
    obtain rfl := hw.out
    go_wp2_with fail
    go_loopg [5, 6] 1 (fun m v5 v6 wr2 => v5 = .slice none 0 0 ∧ v6 = .int .i64 0 ∧ Hid (w = wr2))
    case atStart => exact ⟨rfl, rfl, Lib.hid rfl⟩
    case round =>
      obtain ⟨rfl, rfl, hw⟩ := hrel
      obtain rfl := hw.out
      go_wp2_with fail
      go_loopg [9] 1 (fun m v9 wr2 => v9 = .int .i64 0 ∧ Hid (w = wr2))
      case atStart => exact ⟨rfl, Lib.hid rfl⟩
      case round =>
        obtain ⟨rfl, hw⟩ := hrel
        obtain rfl := hw.out
        go_wp2_with fail
        first | done | exact ⟨rfl, rfl⟩ | (go_ret; exact ⟨rfl, rfl⟩)

set_option maxRecDepth 100000 in
set_option maxHeartbeats 400000 in
theorem alone_Samples (b : Nat) (w : World) (h : w.cell? ⟨b, 7, none⟩ = some (.slice none 0 0)) :
    Calls Tryz.prog 57 #[.pointer (some ⟨b, 0, none⟩)] w fun e w' => e = .returned (.bool true) ∧ w' = w := by
  go_enter Tryz.func57, Tryz.ntmps57
  go_wp2_with fail
  go_loopg [3] 1 (fun m v3 wr => v3 = .int .i64 0 ∧ Hid (w = wr))
  case atStart => exact ⟨rfl, Lib.hid rfl⟩
  case round =>
    obtain ⟨rfl, hw⟩ := hrel
    obtain rfl := hw.out
    go_wp2_with fail
    go_loopg [5, 6] 1 (fun m v5 v6 wr2 => v5 = .slice none 0 0 ∧ v6 = .int .i64 0 ∧ Hid (w = wr2))
    case atStart => exact ⟨rfl, rfl, Lib.hid rfl⟩
    case round =>
      obtain ⟨rfl, rfl, hw⟩ := hrel
      obtain rfl := hw.out
      go_wp2_with fail
      go_loopg [9] 1 (fun m v9 wr2 => v9 = .int .i64 0 ∧ Hid (w = wr2))
      case atStart => exact ⟨rfl, Lib.hid rfl⟩
      case round =>
        obtain ⟨rfl, hw⟩ := hrel
        obtain rfl := hw.out
        go_wp2_with fail
        first | done | exact ⟨rfl, rfl⟩ | (go_ret; exact ⟨rfl, rfl⟩)

set_option maxRecDepth 100000 in
set_option maxHeartbeats 400000 in
theorem alone_Nodes (b : Nat) (w : World) (h : w.cell? ⟨b, 8, none⟩ = some (.slice none 0 0)) :
    Calls Tryz.prog 58 #[.pointer (some ⟨b, 0, none⟩)] w fun e w' => e = .returned (.bool true) ∧ w' = w := by
  go_enter Tryz.func58, Tryz.ntmps58
  go_wp2_with fail
  go_loopg [3] 1 (fun m v3 wr => v3 = .int .i64 0 ∧ Hid (w = wr))
  case atStart => exact ⟨rfl, Lib.hid rfl⟩
  case round =>
    obtain ⟨rfl, hw⟩ := hrel
    obtain rfl := hw.out
    go_wp2_with fail
    go_loopg [5, 6] 1 (fun m v5 v6 wr2 => v5 = .slice none 0 0 ∧ v6 = .int .i64 0 ∧ Hid (w = wr2))
    case atStart => exact ⟨rfl, rfl, Lib.hid rfl⟩
    case round =>
      obtain ⟨rfl, rfl, hw⟩ := hrel
      obtain rfl := hw.out
      go_wp2_with fail
      go_loopg [9] 1 (fun m v9 wr2 => v9 = .int .i64 0 ∧ Hid (w = wr2))
      case atStart => exact ⟨rfl, Lib.hid rfl⟩
      case round =>
        obtain ⟨rfl, hw⟩ := hrel
        obtain rfl := hw.out
        go_wp2_with fail
        first | done | exact ⟨rfl, rfl⟩ | (go_ret; exact ⟨rfl, rfl⟩)

set_option maxRecDepth 100000 in
set_option maxHeartbeats 400000 in
theorem alone_Labels (b : Nat) (w : World) (h : w.cell? ⟨b, 9, none⟩ = some (.slice none 0 0)) :
    Calls Tryz.prog 59 #[.pointer (some ⟨b, 0, none⟩)] w fun e w' => e = .returned (.bool true) ∧ w' = w := by
  go_enter Tryz.func59, Tryz.ntmps59
  go_wp2_with fail
  go_loopg [3] 1 (fun m v3 wr => v3 = .int .i64 0 ∧ Hid (w = wr))
  case atStart => exact ⟨rfl, Lib.hid rfl⟩
  case round =>
    obtain ⟨rfl, hw⟩ := hrel
    obtain rfl := hw.out
    go_wp2_with fail
    go_loopg [5, 6] 1 (fun m v5 v6 wr2 => v5 = .slice none 0 0 ∧ v6 = .int .i64 0 ∧ Hid (w = wr2))
    case atStart => exact ⟨rfl, rfl, Lib.hid rfl⟩
    case round =>
      obtain ⟨rfl, rfl, hw⟩ := hrel
      obtain rfl := hw.out
      go_wp2_with fail
      go_loopg [9] 1 (fun m v9 wr2 => v9 = .int .i64 0 ∧ Hid (w = wr2))
      case atStart => exact ⟨rfl, Lib.hid rfl⟩
      case round =>
        obtain ⟨rfl, hw⟩ := hrel
        obtain rfl := hw.out
        go_wp2_with fail
        first | done | exact ⟨rfl, rfl⟩ | (go_ret; exact ⟨rfl, rfl⟩)

set_option maxRecDepth 100000 in
set_option maxHeartbeats 400000 in
theorem alone_Accs (b : Nat) (w : World) (h : w.cell? ⟨b, 10, none⟩ = some (.slice none 0 0)) :
    Calls Tryz.prog 60 #[.pointer (some ⟨b, 0, none⟩)] w fun e w' => e = .returned (.bool true) ∧ w' = w := by
  go_enter Tryz.func60, Tryz.ntmps60
  go_wp2_with fail
  go_loopg [3] 1 (fun m v3 wr => v3 = .int .i64 0 ∧ Hid (w = wr))
  case atStart => exact ⟨rfl, Lib.hid rfl⟩
  case round =>
    obtain ⟨rfl, hw⟩ := hrel
    obtain rfl := hw.out
    go_wp2_with fail
    go_loopg [5, 6] 1 (fun m v5 v6 wr2 => v5 = .slice none 0 0 ∧ v6 = .int .i64 0 ∧ Hid (w = wr2))
    case atStart => exact ⟨rfl, rfl, Lib.hid rfl⟩
    case round =>
      obtain ⟨rfl, rfl, hw⟩ := hrel
      obtain rfl := hw.out
      go_wp2_with fail
      go_loopg [9] 1 (fun m v9 wr2 => v9 = .int .i64 0 ∧ Hid (w = wr2))
      case atStart => exact ⟨rfl, Lib.hid rfl⟩
      case round =>
        obtain ⟨rfl, hw⟩ := hrel
        obtain rfl := hw.out
        go_wp2_with fail
        first | done | exact ⟨rfl, rfl⟩ | (go_ret; exact ⟨rfl, rfl⟩)

set_option maxRecDepth 100000 in
set_option maxHeartbeats 400000 in
theorem alone_Inses (b : Nat) (w : World) (h : w.cell? ⟨b, 11, none⟩ = some (.slice none 0 0)) :
    Calls Tryz.prog 61 #[.pointer (some ⟨b, 0, none⟩)] w fun e w' => e = .returned (.bool true) ∧ w' = w := by
  go_enter Tryz.func61, Tryz.ntmps61
  go_wp2_with fail
  go_loopg [3] 1 (fun m v3 wr => v3 = .int .i64 0 ∧ Hid (w = wr))
  case atStart => exact ⟨rfl, Lib.hid rfl⟩
  case round =>
    obtain ⟨rfl, hw⟩ := hrel
    obtain rfl := hw.out
    go_wp2_with fail
    go_loopg [5, 6] 1 (fun m v5 v6 wr2 => v5 = .slice none 0 0 ∧ v6 = .int .i64 0 ∧ Hid (w = wr2))
    case atStart => exact ⟨rfl, rfl, Lib.hid rfl⟩
    case round =>
      obtain ⟨rfl, rfl, hw⟩ := hrel
      obtain rfl := hw.out
      go_wp2_with fail
      go_loopg [9] 1 (fun m v9 wr2 => v9 = .int .i64 0 ∧ Hid (w = wr2))
      case atStart => exact ⟨rfl, Lib.hid rfl⟩
      case round =>
        obtain ⟨rfl, hw⟩ := hrel
        obtain rfl := hw.out
        go_wp2_with fail
        first | done | exact ⟨rfl, rfl⟩ | (go_ret; exact ⟨rfl, rfl⟩)

set_option maxRecDepth 100000 in
set_option maxHeartbeats 400000 in
theorem alone_Entries (b : Nat) (w : World) (h : w.cell? ⟨b, 12, none⟩ = some (.slice none 0 0)) :
    Calls Tryz.prog 62 #[.pointer (some ⟨b, 0, none⟩)] w fun e w' => e = .returned (.bool true) ∧ w' = w := by
  go_enter Tryz.func62, Tryz.ntmps62
  go_wp2_with fail
  go_loopg [3] 1 (fun m v3 wr => v3 = .int .i64 0 ∧ Hid (w = wr))
  case atStart => exact ⟨rfl, Lib.hid rfl⟩
  case round =>
    obtain ⟨rfl, hw⟩ := hrel
    obtain rfl := hw.out
    go_wp2_with fail
    go_loopg [5, 6] 1 (fun m v5 v6 wr2 => v5 = .slice none 0 0 ∧ v6 = .int .i64 0 ∧ Hid (w = wr2))
    case atStart => exact ⟨rfl, rfl, Lib.hid rfl⟩
    case round =>
      obtain ⟨rfl, rfl, hw⟩ := hrel
      obtain rfl := hw.out
      go_wp2_with fail
      go_loopg [9] 1 (fun m v9 wr2 => v9 = .int .i64 0 ∧ Hid (w = wr2))
      case atStart => exact ⟨rfl, Lib.hid rfl⟩
      case round =>
        obtain ⟨rfl, hw⟩ := hrel
        obtain rfl := hw.out
        go_wp2_with fail
        first | done | exact ⟨rfl, rfl⟩ | (go_ret; exact ⟨rfl, rfl⟩)

set_option maxRecDepth 100000 in
set_option maxHeartbeats 400000 in
theorem alone_Told (b : Nat) (w : World) (h : w.cell? ⟨b, 13, none⟩ = some (.slice none 0 0)) :
    Calls Tryz.prog 63 #[.pointer (some ⟨b, 0, none⟩)] w fun e w' => e = .returned (.bool true) ∧ w' = w := by
  go_enter Tryz.func63, Tryz.ntmps63
  go_wp2_with fail
  go_loopg [3] 1 (fun m v3 wr => v3 = .int .i64 0 ∧ Hid (w = wr))
  case atStart => exact ⟨rfl, Lib.hid rfl⟩
  case round =>
    obtain ⟨rfl, hw⟩ := hrel
    obtain rfl := hw.out
    go_wp2_with fail
    go_loopg [5, 6] 1 (fun m v5 v6 wr2 => v5 = .slice none 0 0 ∧ v6 = .int .i64 0 ∧ Hid (w = wr2))
    case atStart => exact ⟨rfl, rfl, Lib.hid rfl⟩
    case round =>
      obtain ⟨rfl, rfl, hw⟩ := hrel
      obtain rfl := hw.out
      go_wp2_with fail
      go_loopg [9] 1 (fun m v9 wr2 => v9 = .int .i64 0 ∧ Hid (w = wr2))
      case atStart => exact ⟨rfl, Lib.hid rfl⟩
      case round =>
        obtain ⟨rfl, hw⟩ := hrel
        obtain rfl := hw.out
        go_wp2_with fail
        first | done | exact ⟨rfl, rfl⟩ | (go_ret; exact ⟨rfl, rfl⟩)

set_option maxRecDepth 100000 in
set_option maxHeartbeats 400000 in
theorem alone_Slots (b : Nat) (w : World) (h : w.cell? ⟨b, 15, none⟩ = some (.slice none 0 0)) :
    Calls Tryz.prog 65 #[.pointer (some ⟨b, 0, none⟩)] w fun e w' => e = .returned (.bool true) ∧ w' = w := by
  go_enter Tryz.func65, Tryz.ntmps65
  go_wp2_with fail
  go_loopg [3] 1 (fun m v3 wr => v3 = .int .i64 0 ∧ Hid (w = wr))
  case atStart => exact ⟨rfl, Lib.hid rfl⟩
  case round =>
    obtain ⟨rfl, hw⟩ := hrel
    obtain rfl := hw.out
    go_wp2_with fail
    go_loopg [5, 6] 1 (fun m v5 v6 wr2 => v5 = .slice none 0 0 ∧ v6 = .int .i64 0 ∧ Hid (w = wr2))
    case atStart => exact ⟨rfl, rfl, Lib.hid rfl⟩
    case round =>
      obtain ⟨rfl, rfl, hw⟩ := hrel
      obtain rfl := hw.out
      go_wp2_with fail
      go_loopg [9] 1 (fun m v9 wr2 => v9 = .int .i64 0 ∧ Hid (w = wr2))
      case atStart => exact ⟨rfl, Lib.hid rfl⟩
      case round =>
        obtain ⟨rfl, hw⟩ := hrel
        obtain rfl := hw.out
        go_wp2_with fail
        first | done | exact ⟨rfl, rfl⟩ | (go_ret; exact ⟨rfl, rfl⟩)

set_option maxRecDepth 100000 in
set_option maxHeartbeats 400000 in
theorem alone_Fates (b : Nat) (w : World) (h : w.cell? ⟨b, 16, none⟩ = some (.slice none 0 0)) :
    Calls Tryz.prog 66 #[.pointer (some ⟨b, 0, none⟩)] w fun e w' => e = .returned (.bool true) ∧ w' = w := by
  go_enter Tryz.func66, Tryz.ntmps66
  go_wp2_with fail
  go_loopg [3] 1 (fun m v3 wr => v3 = .int .i64 0 ∧ Hid (w = wr))
  case atStart => exact ⟨rfl, Lib.hid rfl⟩
  case round =>
    obtain ⟨rfl, hw⟩ := hrel
    obtain rfl := hw.out
    go_wp2_with fail
    go_loopg [5, 6] 1 (fun m v5 v6 wr2 => v5 = .slice none 0 0 ∧ v6 = .int .i64 0 ∧ Hid (w = wr2))
    case atStart => exact ⟨rfl, rfl, Lib.hid rfl⟩
    case round =>
      obtain ⟨rfl, rfl, hw⟩ := hrel
      obtain rfl := hw.out
      go_wp2_with fail
      go_loopg [9] 1 (fun m v9 wr2 => v9 = .int .i64 0 ∧ Hid (w = wr2))
      case atStart => exact ⟨rfl, Lib.hid rfl⟩
      case round =>
        obtain ⟨rfl, hw⟩ := hrel
        obtain rfl := hw.out
        go_wp2_with fail
        first | done | exact ⟨rfl, rfl⟩ | (go_ret; exact ⟨rfl, rfl⟩)

set_option maxRecDepth 100000 in
set_option maxHeartbeats 400000 in
theorem alone_Points (b : Nat) (w : World) (h : w.cell? ⟨b, 17, none⟩ = some (.slice none 0 0)) :
    Calls Tryz.prog 67 #[.pointer (some ⟨b, 0, none⟩)] w fun e w' => e = .returned (.bool true) ∧ w' = w := by
  go_enter Tryz.func67, Tryz.ntmps67
  go_wp2_with fail
  go_loopg [3] 1 (fun m v3 wr => v3 = .int .i64 0 ∧ Hid (w = wr))
  case atStart => exact ⟨rfl, Lib.hid rfl⟩
  case round =>
    obtain ⟨rfl, hw⟩ := hrel
    obtain rfl := hw.out
    go_wp2_with fail
    go_loopg [5, 6] 1 (fun m v5 v6 wr2 => v5 = .slice none 0 0 ∧ v6 = .int .i64 0 ∧ Hid (w = wr2))
    case atStart => exact ⟨rfl, rfl, Lib.hid rfl⟩
    case round =>
      obtain ⟨rfl, rfl, hw⟩ := hrel
      obtain rfl := hw.out
      go_wp2_with fail
      go_loopg [9] 1 (fun m v9 wr2 => v9 = .int .i64 0 ∧ Hid (w = wr2))
      case atStart => exact ⟨rfl, Lib.hid rfl⟩
      case round =>
        obtain ⟨rfl, hw⟩ := hrel
        obtain rfl := hw.out
        go_wp2_with fail
        first | done | exact ⟨rfl, rfl⟩ | (go_ret; exact ⟨rfl, rfl⟩)

set_option maxRecDepth 100000 in
set_option maxHeartbeats 400000 in
theorem alone_Writes (b : Nat) (w : World) (h : w.cell? ⟨b, 18, none⟩ = some (.slice none 0 0)) :
    Calls Tryz.prog 68 #[.pointer (some ⟨b, 0, none⟩)] w fun e w' => e = .returned (.bool true) ∧ w' = w := by
  go_enter Tryz.func68, Tryz.ntmps68
  go_wp2_with fail
  go_loopg [3] 1 (fun m v3 wr => v3 = .int .i64 0 ∧ Hid (w = wr))
  case atStart => exact ⟨rfl, Lib.hid rfl⟩
  case round =>
    obtain ⟨rfl, hw⟩ := hrel
    obtain rfl := hw.out
    go_wp2_with fail
    go_loopg [5, 6] 1 (fun m v5 v6 wr2 => v5 = .slice none 0 0 ∧ v6 = .int .i64 0 ∧ Hid (w = wr2))
    case atStart => exact ⟨rfl, rfl, Lib.hid rfl⟩
    case round =>
      obtain ⟨rfl, rfl, hw⟩ := hrel
      obtain rfl := hw.out
      go_wp2_with fail
      go_loopg [9] 1 (fun m v9 wr2 => v9 = .int .i64 0 ∧ Hid (w = wr2))
      case atStart => exact ⟨rfl, Lib.hid rfl⟩
      case round =>
        obtain ⟨rfl, hw⟩ := hrel
        obtain rfl := hw.out
        go_wp2_with fail
        first | done | exact ⟨rfl, rfl⟩ | (go_ret; exact ⟨rfl, rfl⟩)

set_option maxRecDepth 100000 in
set_option maxHeartbeats 400000 in
theorem alone_Deltas (b : Nat) (w : World) (h : w.cell? ⟨b, 19, none⟩ = some (.slice none 0 0)) :
    Calls Tryz.prog 69 #[.pointer (some ⟨b, 0, none⟩)] w fun e w' => e = .returned (.bool true) ∧ w' = w := by
  go_enter Tryz.func69, Tryz.ntmps69
  go_wp2_with fail
  go_loopg [3] 1 (fun m v3 wr => v3 = .int .i64 0 ∧ Hid (w = wr))
  case atStart => exact ⟨rfl, Lib.hid rfl⟩
  case round =>
    obtain ⟨rfl, hw⟩ := hrel
    obtain rfl := hw.out
    go_wp2_with fail
    go_loopg [5, 6] 1 (fun m v5 v6 wr2 => v5 = .slice none 0 0 ∧ v6 = .int .i64 0 ∧ Hid (w = wr2))
    case atStart => exact ⟨rfl, rfl, Lib.hid rfl⟩
    case round =>
      obtain ⟨rfl, rfl, hw⟩ := hrel
      obtain rfl := hw.out
      go_wp2_with fail
      go_loopg [9] 1 (fun m v9 wr2 => v9 = .int .i64 0 ∧ Hid (w = wr2))
      case atStart => exact ⟨rfl, Lib.hid rfl⟩
      case round =>
        obtain ⟨rfl, hw⟩ := hrel
        obtain rfl := hw.out
        go_wp2_with fail
        first | done | exact ⟨rfl, rfl⟩ | (go_ret; exact ⟨rfl, rfl⟩)

set_option maxRecDepth 100000 in
set_option maxHeartbeats 400000 in
theorem alone_SeriesList (b : Nat) (w : World) (h : w.cell? ⟨b, 20, none⟩ = some (.slice none 0 0)) :
    Calls Tryz.prog 70 #[.pointer (some ⟨b, 0, none⟩)] w fun e w' => e = .returned (.bool true) ∧ w' = w := by
  go_enter Tryz.func70, Tryz.ntmps70
  go_wp2_with fail
  go_loopg [3] 1 (fun m v3 wr => v3 = .int .i64 0 ∧ Hid (w = wr))
  case atStart => exact ⟨rfl, Lib.hid rfl⟩
  case round =>
    obtain ⟨rfl, hw⟩ := hrel
    obtain rfl := hw.out
    go_wp2_with fail
    go_loopg [5, 6] 1 (fun m v5 v6 wr2 => v5 = .slice none 0 0 ∧ v6 = .int .i64 0 ∧ Hid (w = wr2))
    case atStart => exact ⟨rfl, rfl, Lib.hid rfl⟩
    case round =>
      obtain ⟨rfl, rfl, hw⟩ := hrel
      obtain rfl := hw.out
      go_wp2_with fail
      go_loopg [9] 1 (fun m v9 wr2 => v9 = .int .i64 0 ∧ Hid (w = wr2))
      case atStart => exact ⟨rfl, Lib.hid rfl⟩
      case round =>
        obtain ⟨rfl, hw⟩ := hrel
        obtain rfl := hw.out
        go_wp2_with fail
        first | done | exact ⟨rfl, rfl⟩ | (go_ret; exact ⟨rfl, rfl⟩)

set_option maxRecDepth 100000 in
set_option maxHeartbeats 400000 in
theorem alone_Items (b : Nat) (w : World) (h : w.cell? ⟨b, 21, none⟩ = some (.slice none 0 0)) :
    Calls Tryz.prog 71 #[.pointer (some ⟨b, 0, none⟩)] w fun e w' => e = .returned (.bool true) ∧ w' = w := by
  go_enter Tryz.func71, Tryz.ntmps71
  go_wp2_with fail
  go_loopg [3] 1 (fun m v3 wr => v3 = .int .i64 0 ∧ Hid (w = wr))
  case atStart => exact ⟨rfl, Lib.hid rfl⟩
  case round =>
    obtain ⟨rfl, hw⟩ := hrel
    obtain rfl := hw.out
    go_wp2_with fail
    go_loopg [5, 6] 1 (fun m v5 v6 wr2 => v5 = .slice none 0 0 ∧ v6 = .int .i64 0 ∧ Hid (w = wr2))
    case atStart => exact ⟨rfl, rfl, Lib.hid rfl⟩
    case round =>
      obtain ⟨rfl, rfl, hw⟩ := hrel
      obtain rfl := hw.out
      go_wp2_with fail
      go_loopg [9] 1 (fun m v9 wr2 => v9 = .int .i64 0 ∧ Hid (w = wr2))
      case atStart => exact ⟨rfl, Lib.hid rfl⟩
      case round =>
        obtain ⟨rfl, hw⟩ := hrel
        obtain rfl := hw.out
        go_wp2_with fail
        first | done | exact ⟨rfl, rfl⟩ | (go_ret; exact ⟨rfl, rfl⟩)

set_option maxRecDepth 100000 in
set_option maxHeartbeats 400000 in
theorem alone_Tables (b : Nat) (w : World) (h : w.cell? ⟨b, 22, none⟩ = some (.slice none 0 0)) :
    Calls Tryz.prog 72 #[.pointer (some ⟨b, 0, none⟩)] w fun e w' => e = .returned (.bool true) ∧ w' = w := by
  go_enter Tryz.func72, Tryz.ntmps72
  go_wp2_with fail
  go_loopg [3] 1 (fun m v3 wr => v3 = .int .i64 0 ∧ Hid (w = wr))
  case atStart => exact ⟨rfl, Lib.hid rfl⟩
  case round =>
    obtain ⟨rfl, hw⟩ := hrel
    obtain rfl := hw.out
    go_wp2_with fail
    go_loopg [5, 6] 1 (fun m v5 v6 wr2 => v5 = .slice none 0 0 ∧ v6 = .int .i64 0 ∧ Hid (w = wr2))
    case atStart => exact ⟨rfl, rfl, Lib.hid rfl⟩
    case round =>
      obtain ⟨rfl, rfl, hw⟩ := hrel
      obtain rfl := hw.out
      go_wp2_with fail
      go_loopg [9] 1 (fun m v9 wr2 => v9 = .int .i64 0 ∧ Hid (w = wr2))
      case atStart => exact ⟨rfl, Lib.hid rfl⟩
      case round =>
        obtain ⟨rfl, hw⟩ := hrel
        obtain rfl := hw.out
        go_wp2_with fail
        first | done | exact ⟨rfl, rfl⟩ | (go_ret; exact ⟨rfl, rfl⟩)

set_option maxRecDepth 100000 in
set_option maxHeartbeats 400000 in
theorem alone_Outs (b : Nat) (w : World) (h : w.cell? ⟨b, 23, none⟩ = some (.slice none 0 0)) :
    Calls Tryz.prog 73 #[.pointer (some ⟨b, 0, none⟩)] w fun e w' => e = .returned (.bool true) ∧ w' = w := by
  go_enter Tryz.func73, Tryz.ntmps73
  go_wp2_with fail
  go_loopg [3] 1 (fun m v3 wr => v3 = .int .i64 0 ∧ Hid (w = wr))
  case atStart => exact ⟨rfl, Lib.hid rfl⟩
  case round =>
    obtain ⟨rfl, hw⟩ := hrel
    obtain rfl := hw.out
    go_wp2_with fail
    go_loopg [5, 6] 1 (fun m v5 v6 wr2 => v5 = .slice none 0 0 ∧ v6 = .int .i64 0 ∧ Hid (w = wr2))
    case atStart => exact ⟨rfl, rfl, Lib.hid rfl⟩
    case round =>
      obtain ⟨rfl, rfl, hw⟩ := hrel
      obtain rfl := hw.out
      go_wp2_with fail
      go_loopg [9] 1 (fun m v9 wr2 => v9 = .int .i64 0 ∧ Hid (w = wr2))
      case atStart => exact ⟨rfl, Lib.hid rfl⟩
      case round =>
        obtain ⟨rfl, hw⟩ := hrel
        obtain rfl := hw.out
        go_wp2_with fail
        first | done | exact ⟨rfl, rfl⟩ | (go_ret; exact ⟨rfl, rfl⟩)

set_option maxRecDepth 100000 in
set_option maxHeartbeats 400000 in
theorem alone_TextLists (b : Nat) (w : World) (h : w.cell? ⟨b, 24, none⟩ = some (.slice none 0 0)) :
    Calls Tryz.prog 74 #[.pointer (some ⟨b, 0, none⟩)] w fun e w' => e = .returned (.bool true) ∧ w' = w := by
  go_enter Tryz.func74, Tryz.ntmps74
  go_wp2_with fail
  go_loopg [3] 1 (fun m v3 wr => v3 = .int .i64 0 ∧ Hid (w = wr))
  case atStart => exact ⟨rfl, Lib.hid rfl⟩
  case round =>
    obtain ⟨rfl, hw⟩ := hrel
    obtain rfl := hw.out
    go_wp2_with fail
    go_loopg [5, 6] 1 (fun m v5 v6 wr2 => v5 = .slice none 0 0 ∧ v6 = .int .i64 0 ∧ Hid (w = wr2))
    case atStart => exact ⟨rfl, rfl, Lib.hid rfl⟩
    case round =>
      obtain ⟨rfl, rfl, hw⟩ := hrel
      obtain rfl := hw.out
      go_wp2_with fail
      go_loopg [9] 1 (fun m v9 wr2 => v9 = .int .i64 0 ∧ Hid (w = wr2))
      case atStart => exact ⟨rfl, Lib.hid rfl⟩
      case round =>
        obtain ⟨rfl, hw⟩ := hrel
        obtain rfl := hw.out
        go_wp2_with fail
        first | done | exact ⟨rfl, rfl⟩ | (go_ret; exact ⟨rfl, rfl⟩)

set_option maxRecDepth 100000 in
set_option maxHeartbeats 400000 in
theorem alone_Cells (b : Nat) (w : World) (h : w.cell? ⟨b, 25, none⟩ = some (.slice none 0 0)) :
    Calls Tryz.prog 75 #[.pointer (some ⟨b, 0, none⟩)] w fun e w' => e = .returned (.bool true) ∧ w' = w := by
  go_enter Tryz.func75, Tryz.ntmps75
  go_wp2_with fail
  go_loopg [3] 1 (fun m v3 wr => v3 = .int .i64 0 ∧ Hid (w = wr))
  case atStart => exact ⟨rfl, Lib.hid rfl⟩
  case round =>
    obtain ⟨rfl, hw⟩ := hrel
    obtain rfl := hw.out
    go_wp2_with fail
    go_loopg [5, 6] 1 (fun m v5 v6 wr2 => v5 = .slice none 0 0 ∧ v6 = .int .i64 0 ∧ Hid (w = wr2))
    case atStart => exact ⟨rfl, rfl, Lib.hid rfl⟩
    case round =>
      obtain ⟨rfl, rfl, hw⟩ := hrel
      obtain rfl := hw.out
      go_wp2_with fail
      go_loopg [9] 1 (fun m v9 wr2 => v9 = .int .i64 0 ∧ Hid (w = wr2))
      case atStart => exact ⟨rfl, Lib.hid rfl⟩
      case round =>
        obtain ⟨rfl, hw⟩ := hrel
        obtain rfl := hw.out
        go_wp2_with fail
        first | done | exact ⟨rfl, rfl⟩ | (go_ret; exact ⟨rfl, rfl⟩)

set_option maxRecDepth 100000 in
set_option maxHeartbeats 400000 in
theorem alone_Rows (b : Nat) (w : World) (h : w.cell? ⟨b, 26, none⟩ = some (.slice none 0 0)) :
    Calls Tryz.prog 76 #[.pointer (some ⟨b, 0, none⟩)] w fun e w' => e = .returned (.bool true) ∧ w' = w := by
  go_enter Tryz.func76, Tryz.ntmps76
  go_wp2_with fail
  go_loopg [3] 1 (fun m v3 wr => v3 = .int .i64 0 ∧ Hid (w = wr))
  case atStart => exact ⟨rfl, Lib.hid rfl⟩
  case round =>
    obtain ⟨rfl, hw⟩ := hrel
    obtain rfl := hw.out
    go_wp2_with fail
    go_loopg [5, 6] 1 (fun m v5 v6 wr2 => v5 = .slice none 0 0 ∧ v6 = .int .i64 0 ∧ Hid (w = wr2))
    case atStart => exact ⟨rfl, rfl, Lib.hid rfl⟩
    case round =>
      obtain ⟨rfl, rfl, hw⟩ := hrel
      obtain rfl := hw.out
      go_wp2_with fail
      go_loopg [9] 1 (fun m v9 wr2 => v9 = .int .i64 0 ∧ Hid (w = wr2))
      case atStart => exact ⟨rfl, Lib.hid rfl⟩
      case round =>
        obtain ⟨rfl, hw⟩ := hrel
        obtain rfl := hw.out
        go_wp2_with fail
        first | done | exact ⟨rfl, rfl⟩ | (go_ret; exact ⟨rfl, rfl⟩)

set_option maxRecDepth 100000 in
set_option maxHeartbeats 400000 in
theorem alone_Images (b : Nat) (w : World) (h : w.cell? ⟨b, 27, none⟩ = some (.slice none 0 0)) :
    Calls Tryz.prog 77 #[.pointer (some ⟨b, 0, none⟩)] w fun e w' => e = .returned (.bool true) ∧ w' = w := by
  go_enter Tryz.func77, Tryz.ntmps77
  go_wp2_with fail
  go_loopg [3] 1 (fun m v3 wr => v3 = .int .i64 0 ∧ Hid (w = wr))
  case atStart => exact ⟨rfl, Lib.hid rfl⟩
  case round =>
    obtain ⟨rfl, hw⟩ := hrel
    obtain rfl := hw.out
    go_wp2_with fail
    go_loopg [5, 6] 1 (fun m v5 v6 wr2 => v5 = .slice none 0 0 ∧ v6 = .int .i64 0 ∧ Hid (w = wr2))
    case atStart => exact ⟨rfl, rfl, Lib.hid rfl⟩
    case round =>
      obtain ⟨rfl, rfl, hw⟩ := hrel
      obtain rfl := hw.out
      go_wp2_with fail
      go_loopg [9] 1 (fun m v9 wr2 => v9 = .int .i64 0 ∧ Hid (w = wr2))
      case atStart => exact ⟨rfl, Lib.hid rfl⟩
      case round =>
        obtain ⟨rfl, hw⟩ := hrel
        obtain rfl := hw.out
        go_wp2_with fail
        first | done | exact ⟨rfl, rfl⟩ | (go_ret; exact ⟨rfl, rfl⟩)
end Go.Proofs.YtmooibnedokllaaGreatDoor
