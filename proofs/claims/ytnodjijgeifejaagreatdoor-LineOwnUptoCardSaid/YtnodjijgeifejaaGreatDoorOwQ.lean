/- weirmem.Book: lists of Tags, Fields, Points are taken; the book stands alone. -/
import Derived.Test.YtnodjijgeifejaaGreatDoorOwH
import Derived.Test.YtnodjijgeifejaaGreatDoorOwP
import Derived.Laws.Tables
import Derived.Laws.CopyOwn
import Derived.Deep.LoopGhost
import Derived.Lib.ConvBytes
namespace Go.Proofs.YtnodjijgeifejaaGreatDoor
open Go.RowKit
set_option linter.unusedSimpArgs false
set_option linter.unusedVariables false

abbrev nilV : Value := .slice none 0 0
set_option maxRecDepth 100000 in
set_option maxHeartbeats 400000 in
theorem alone_Bytes (b : Nat) (w : World) (h : w.cell? ⟨b, 0, none⟩ = some (.slice none 0 0)) :
    Calls Tryz.prog 48 #[.pointer (some ⟨b, 0, none⟩)] w fun e w' => e = .returned (.bool true) ∧ w' = w := by
  go_enter Tryz.func48, Tryz.ntmps48
  go_wp2_with fail
  go_loopg [3] 1 (fun m v3 wr => v3 = .int .i64 0 ∧ Hid (w = wr))
  case atStart => exact ⟨rfl, Lib.hid rfl⟩
  case round =>
    obtain ⟨rfl, hw⟩ := hrel
    obtain rfl := hw.out
    go_wp2_with fail
    go_loopg [5, 6] 1 (fun m v5 v6 wr2 => v5 = .slice none 0 0 ∧ v6 = .int .i64 0 ∧ Hid (w = wr2))
    case atStart => exact ⟨rfl, rfl, Lib.hid rfl⟩
    case round =>
      obtain ⟨rfl, rfl, hw⟩ := hrel
      obtain rfl := hw.out
      go_wp2_with fail
      go_loopg [9] 1 (fun m v9 wr2 => v9 = .int .i64 0 ∧ Hid (w = wr2))
      case atStart => exact ⟨rfl, Lib.hid rfl⟩
      case round =>
        obtain ⟨rfl, hw⟩ := hrel
        obtain rfl := hw.out
        go_wp2_with fail
        first | done | exact ⟨rfl, rfl⟩ | (go_ret; exact ⟨rfl, rfl⟩)

set_option maxRecDepth 100000 in
set_option maxHeartbeats 400000 in
theorem alone_Texts (b : Nat) (w : World) (h : w.cell? ⟨b, 1, none⟩ = some (.slice none 0 0)) :
    Calls Tryz.prog 49 #[.pointer (some ⟨b, 0, none⟩)] w fun e w' => e = .returned (.bool true) ∧ w' = w := by
  go_enter Tryz.func49, Tryz.ntmps49
  go_wp2_with fail
  go_loopg [3] 1 (fun m v3 wr => v3 = .int .i64 0 ∧ Hid (w = wr))
  case atStart => exact ⟨rfl, Lib.hid rfl⟩
  case round =>
    obtain ⟨rfl, hw⟩ := hrel
    obtain rfl := hw.out
    go_wp2_with fail
    go_loopg [5, 6] 1 (fun m v5 v6 wr2 => v5 = .slice none 0 0 ∧ v6 = .int .i64 0 ∧ Hid (w = wr2))
    case atStart => exact ⟨rfl, rfl, Lib.hid rfl⟩
    case round =>
      obtain ⟨rfl, rfl, hw⟩ := hrel
      obtain rfl := hw.out
      go_wp2_with fail
      go_loopg [9] 1 (fun m v9 wr2 => v9 = .int .i64 0 ∧ Hid (w = wr2))
      case atStart => exact ⟨rfl, Lib.hid rfl⟩
      case round =>
        obtain ⟨rfl, hw⟩ := hrel
        obtain rfl := hw.out
        go_wp2_with fail
        first | done | exact ⟨rfl, rfl⟩ | (go_ret; exact ⟨rfl, rfl⟩)

set_option maxRecDepth 100000 in
set_option maxHeartbeats 400000 in
theorem alone_Ints (b : Nat) (w : World) (h : w.cell? ⟨b, 2, none⟩ = some (.slice none 0 0)) :
    Calls Tryz.prog 50 #[.pointer (some ⟨b, 0, none⟩)] w fun e w' => e = .returned (.bool true) ∧ w' = w := by
  go_enter Tryz.func50, Tryz.ntmps50
  go_wp2_with fail
  go_loopg [3] 1 (fun m v3 wr => v3 = .int .i64 0 ∧ Hid (w = wr))
  case atStart => exact ⟨rfl, Lib.hid rfl⟩
  case round =>
    obtain ⟨rfl, hw⟩ := hrel
    obtain rfl := hw.out
    go_wp2_with fail
    go_loopg [5, 6] 1 (fun m v5 v6 wr2 => v5 = .slice none 0 0 ∧ v6 = .int .i64 0 ∧ Hid (w = wr2))
    case atStart => exact ⟨rfl, rfl, Lib.hid rfl⟩
    case round =>
      obtain ⟨rfl, rfl, hw⟩ := hrel
      obtain rfl := hw.out
      go_wp2_with fail
      go_loopg [9] 1 (fun m v9 wr2 => v9 = .int .i64 0 ∧ Hid (w = wr2))
      case atStart => exact ⟨rfl, Lib.hid rfl⟩
      case round =>
        obtain ⟨rfl, hw⟩ := hrel
        obtain rfl := hw.out
        go_wp2_with fail
        first | done | exact ⟨rfl, rfl⟩ | (go_ret; exact ⟨rfl, rfl⟩)

set_option maxRecDepth 100000 in
set_option maxHeartbeats 400000 in
theorem alone_Int64s (b : Nat) (w : World) (h : w.cell? ⟨b, 3, none⟩ = some (.slice none 0 0)) :
    Calls Tryz.prog 51 #[.pointer (some ⟨b, 0, none⟩)] w fun e w' => e = .returned (.bool true) ∧ w' = w := by
  go_enter Tryz.func51, Tryz.ntmps51
  go_wp2_with fail
  go_loopg [3] 1 (fun m v3 wr => v3 = .int .i64 0 ∧ Hid (w = wr))
  case atStart => exact ⟨rfl, Lib.hid rfl⟩
  case round =>
    obtain ⟨rfl, hw⟩ := hrel
    obtain rfl := hw.out
    go_wp2_with fail
    go_loopg [5, 6] 1 (fun m v5 v6 wr2 => v5 = .slice none 0 0 ∧ v6 = .int .i64 0 ∧ Hid (w = wr2))
    case atStart => exact ⟨rfl, rfl, Lib.hid rfl⟩
    case round =>
      obtain ⟨rfl, rfl, hw⟩ := hrel
      obtain rfl := hw.out
      go_wp2_with fail
      go_loopg [9] 1 (fun m v9 wr2 => v9 = .int .i64 0 ∧ Hid (w = wr2))
      case atStart => exact ⟨rfl, Lib.hid rfl⟩
      case round =>
        obtain ⟨rfl, hw⟩ := hrel
        obtain rfl := hw.out
        go_wp2_with fail
        first | done | exact ⟨rfl, rfl⟩ | (go_ret; exact ⟨rfl, rfl⟩)

set_option maxRecDepth 100000 in
set_option maxHeartbeats 400000 in
theorem alone_Uint64s (b : Nat) (w : World) (h : w.cell? ⟨b, 4, none⟩ = some (.slice none 0 0)) :
    Calls Tryz.prog 52 #[.pointer (some ⟨b, 0, none⟩)] w fun e w' => e = .returned (.bool true) ∧ w' = w := by
  go_enter Tryz.func52, Tryz.ntmps52
  go_wp2_with fail
  go_loopg [3] 1 (fun m v3 wr => v3 = .int .i64 0 ∧ Hid (w = wr))
  case atStart => exact ⟨rfl, Lib.hid rfl⟩
  case round =>
    obtain ⟨rfl, hw⟩ := hrel
    obtain rfl := hw.out
    go_wp2_with fail
    go_loopg [5, 6] 1 (fun m v5 v6 wr2 => v5 = .slice none 0 0 ∧ v6 = .int .i64 0 ∧ Hid (w = wr2))
    case atStart => exact ⟨rfl, rfl, Lib.hid rfl⟩
    case round =>
      obtain ⟨rfl, rfl, hw⟩ := hrel
      obtain rfl := hw.out
      go_wp2_with fail
      go_loopg [9] 1 (fun m v9 wr2 => v9 = .int .i64 0 ∧ Hid (w = wr2))
      case atStart => exact ⟨rfl, Lib.hid rfl⟩
      case round =>
        obtain ⟨rfl, hw⟩ := hrel
        obtain rfl := hw.out
        go_wp2_with fail
        first | done | exact ⟨rfl, rfl⟩ | (go_ret; exact ⟨rfl, rfl⟩)

set_option maxRecDepth 100000 in
set_option maxHeartbeats 400000 in
theorem alone_Tags (b : Nat) (w : World) (h : w.cell? ⟨b, 5, none⟩ = some (.slice none 0 0)) :
    Calls Tryz.prog 53 #[.pointer (some ⟨b, 0, none⟩)] w fun e w' => e = .returned (.bool true) ∧ w' = w := by
  go_enter Tryz.func53, Tryz.ntmps53
  go_wp2_with fail
  go_loopg [3] 1 (fun m v3 wr => v3 = .int .i64 0 ∧ Hid (w = wr))
  case atStart => exact ⟨rfl, Lib.hid rfl⟩
  case round =>
    obtain ⟨rfl, hw⟩ := hrel
    obtain rfl := hw.out
    go_wp2_with fail
    go_loopg [5, 6] 1 (fun m v5 v6 wr2 => v5 = .slice none 0 0 ∧ v6 = .int .i64 0 ∧ Hid (w = wr2))
    case atStart => exact ⟨rfl, rfl, Lib.hid rfl⟩
    case round =>
      obtain ⟨rfl, rfl, hw⟩ := hrel
      obtain rfl := hw.out
      go_wp2_with fail
      go_loopg [9] 1 (fun m v9 wr2 => v9 = .int .i64 0 ∧ Hid (w = wr2))
      case atStart => exact ⟨rfl, Lib.hid rfl⟩
      case round =>
        obtain ⟨rfl, hw⟩ := hrel
        obtain rfl := hw.out
        go_wp2_with fail
        first | done | exact ⟨rfl, rfl⟩ | (go_ret; exact ⟨rfl, rfl⟩)

set_option maxRecDepth 100000 in
set_option maxHeartbeats 400000 in
theorem alone_Fields (b : Nat) (w : World) (h : w.cell? ⟨b, 6, none⟩ = some (.slice none 0 0)) :
    Calls Tryz.prog 54 #[.pointer (some ⟨b, 0, none⟩)] w fun e w' => e = .returned (.bool true) ∧ w' = w := by
  go_enter Tryz.func54, Tryz.ntmps54
  go_wp2_with fail
  go_loopg [3] 1 (fun m v3 wr => v3 = .int .i64 0 ∧ Hid (w = wr))
  case atStart => exact ⟨rfl, Lib.hid rfl⟩
  case round =>
    obtain ⟨rfl, hw⟩ := hrel
    obtain rfl := hw.out
    go_wp2_with fail
    go_loopg [5, 6] 1 (fun m v5 v6 wr2 => v5 = .slice none 0 0 ∧ v6 = .int .i64 0 ∧ Hid (w = wr2))
    case atStart => exact ⟨rfl, rfl, Lib.hid rfl⟩
    case round =>
      obtain ⟨rfl, rfl, hw⟩ := hrel
      obtain rfl := hw.out
      go_wp2_with fail
      go_loopg [9] 1 (fun m v9 wr2 => v9 = .int .i64 0 ∧ Hid (w = wr2))
      case atStart => exact ⟨rfl, Lib.hid rfl⟩
      case round =>
        obtain ⟨rfl, hw⟩ := hrel
        obtain rfl := hw.out
        go_wp2_with fail
        first | done | exact ⟨rfl, rfl⟩ | (go_ret; exact ⟨rfl, rfl⟩)

set_option maxRecDepth 100000 in
set_option maxHeartbeats 400000 in
theorem alone_Samples (b : Nat) (w : World) (h : w.cell? ⟨b, 7, none⟩ = some (.slice none 0 0)) :
    Calls Tryz.prog 55 #[.pointer (some ⟨b, 0, none⟩)] w fun e w' => e = .returned (.bool true) ∧ w' = w := by
  go_enter Tryz.func55, Tryz.ntmps55
  go_wp2_with fail
  go_loopg [3] 1 (fun m v3 wr => v3 = .int .i64 0 ∧ Hid (w = wr))
  case atStart => exact ⟨rfl, Lib.hid rfl⟩
  case round =>
    obtain ⟨rfl, hw⟩ := hrel
    obtain rfl := hw.out
    go_wp2_with fail
    go_loopg [5, 6] 1 (fun m v5 v6 wr2 => v5 = .slice none 0 0 ∧ v6 = .int .i64 0 ∧ Hid (w = wr2))
    case atStart => exact ⟨rfl, rfl, Lib.hid rfl⟩
    case round =>
      obtain ⟨rfl, rfl, hw⟩ := hrel
      obtain rfl := hw.out
      go_wp2_with fail
      go_loopg [9] 1 (fun m v9 wr2 => v9 = .int .i64 0 ∧ Hid (w = wr2))
      case atStart => exact ⟨rfl, Lib.hid rfl⟩
      case round =>
        obtain ⟨rfl, hw⟩ := hrel
        obtain rfl := hw.out
        go_wp2_with fail
        first | done | exact ⟨rfl, rfl⟩ | (go_ret; exact ⟨rfl, rfl⟩)

set_option maxRecDepth 100000 in
set_option maxHeartbeats 400000 in
theorem alone_Nodes (b : Nat) (w : World) (h : w.cell? ⟨b, 8, none⟩ = some (.slice none 0 0)) :
    Calls Tryz.prog 56 #[.pointer (some ⟨b, 0, none⟩)] w fun e w' => e = .returned (.bool true) ∧ w' = w := by
  go_enter Tryz.func56, Tryz.ntmps56
  go_wp2_with fail
  go_loopg [3] 1 (fun m v3 wr => v3 = .int .i64 0 ∧ Hid (w = wr))
  case atStart => exact ⟨rfl, Lib.hid rfl⟩
  case round =>
    obtain ⟨rfl, hw⟩ := hrel
    obtain rfl := hw.out
    go_wp2_with fail
    go_loopg [5, 6] 1 (fun m v5 v6 wr2 => v5 = .slice none 0 0 ∧ v6 = .int .i64 0 ∧ Hid (w = wr2))
    case atStart => exact ⟨rfl, rfl, Lib.hid rfl⟩
    case round =>
      obtain ⟨rfl, rfl, hw⟩ := hrel
      obtain rfl := hw.out
      go_wp2_with fail
      go_loopg [9] 1 (fun m v9 wr2 => v9 = .int .i64 0 ∧ Hid (w = wr2))
      case atStart => exact ⟨rfl, Lib.hid rfl⟩
      case round =>
        obtain ⟨rfl, hw⟩ := hrel
        obtain rfl := hw.out
        go_wp2_with fail
        first | done | exact ⟨rfl, rfl⟩ | (go_ret; exact ⟨rfl, rfl⟩)

set_option maxRecDepth 100000 in
set_option maxHeartbeats 400000 in
theorem alone_Labels (b : Nat) (w : World) (h : w.cell? ⟨b, 9, none⟩ = some (.slice none 0 0)) :
    Calls Tryz.prog 57 #[.pointer (some ⟨b, 0, none⟩)] w fun e w' => e = .returned (.bool true) ∧ w' = w := by
  go_enter Tryz.func57, Tryz.ntmps57
  go_wp2_with fail
  go_loopg [3] 1 (fun m v3 wr => v3 = .int .i64 0 ∧ Hid (w = wr))
  case atStart => exact ⟨rfl, Lib.hid rfl⟩
  case round =>
    obtain ⟨rfl, hw⟩ := hrel
    obtain rfl := hw.out
    go_wp2_with fail
    go_loopg [5, 6] 1 (fun m v5 v6 wr2 => v5 = .slice none 0 0 ∧ v6 = .int .i64 0 ∧ Hid (w = wr2))
    case atStart => exact ⟨rfl, rfl, Lib.hid rfl⟩
    case round =>
      obtain ⟨rfl, rfl, hw⟩ := hrel
      obtain rfl := hw.out
      go_wp2_with fail
      go_loopg [9] 1 (fun m v9 wr2 => v9 = .int .i64 0 ∧ Hid (w = wr2))
      case atStart => exact ⟨rfl, Lib.hid rfl⟩
      case round =>
        obtain ⟨rfl, hw⟩ := hrel
        obtain rfl := hw.out
        go_wp2_with fail
        first | done | exact ⟨rfl, rfl⟩ | (go_ret; exact ⟨rfl, rfl⟩)

set_option maxRecDepth 100000 in
set_option maxHeartbeats 400000 in
theorem alone_Accs (b : Nat) (w : World) (h : w.cell? ⟨b, 10, none⟩ = some (.slice none 0 0)) :
    Calls Tryz.prog 58 #[.pointer (some ⟨b, 0, none⟩)] w fun e w' => e = .returned (.bool true) ∧ w' = w := by
  go_enter Tryz.func58, Tryz.ntmps58
  go_wp2_with fail
  go_loopg [3] 1 (fun m v3 wr => v3 = .int .i64 0 ∧ Hid (w = wr))
  case atStart => exact ⟨rfl, Lib.hid rfl⟩
  case round =>
    obtain ⟨rfl, hw⟩ := hrel
    obtain rfl := hw.out
    go_wp2_with fail
    go_loopg [5, 6] 1 (fun m v5 v6 wr2 => v5 = .slice none 0 0 ∧ v6 = .int .i64 0 ∧ Hid (w = wr2))
    case atStart => exact ⟨rfl, rfl, Lib.hid rfl⟩
    case round =>
      obtain ⟨rfl, rfl, hw⟩ := hrel
      obtain rfl := hw.out
      go_wp2_with fail
      go_loopg [9] 1 (fun m v9 wr2 => v9 = .int .i64 0 ∧ Hid (w = wr2))
      case atStart => exact ⟨rfl, Lib.hid rfl⟩
      case round =>
        obtain ⟨rfl, hw⟩ := hrel
        obtain rfl := hw.out
        go_wp2_with fail
        first | done | exact ⟨rfl, rfl⟩ | (go_ret; exact ⟨rfl, rfl⟩)

set_option maxRecDepth 100000 in
set_option maxHeartbeats 400000 in
theorem alone_Inses (b : Nat) (w : World) (h : w.cell? ⟨b, 11, none⟩ = some (.slice none 0 0)) :
    Calls Tryz.prog 59 #[.pointer (some ⟨b, 0, none⟩)] w fun e w' => e = .returned (.bool true) ∧ w' = w := by
  go_enter Tryz.func59, Tryz.ntmps59
  go_wp2_with fail
  go_loopg [3] 1 (fun m v3 wr => v3 = .int .i64 0 ∧ Hid (w = wr))
  case atStart => exact ⟨rfl, Lib.hid rfl⟩
  case round =>
    obtain ⟨rfl, hw⟩ := hrel
    obtain rfl := hw.out
    go_wp2_with fail
    go_loopg [5, 6] 1 (fun m v5 v6 wr2 => v5 = .slice none 0 0 ∧ v6 = .int .i64 0 ∧ Hid (w = wr2))
    case atStart => exact ⟨rfl, rfl, Lib.hid rfl⟩
    case round =>
      obtain ⟨rfl, rfl, hw⟩ := hrel
      obtain rfl := hw.out
      go_wp2_with fail
      go_loopg [9] 1 (fun m v9 wr2 => v9 = .int .i64 0 ∧ Hid (w = wr2))
      case atStart => exact ⟨rfl, Lib.hid rfl⟩
      case round =>
        obtain ⟨rfl, hw⟩ := hrel
        obtain rfl := hw.out
        go_wp2_with fail
        first | done | exact ⟨rfl, rfl⟩ | (go_ret; exact ⟨rfl, rfl⟩)

set_option maxRecDepth 100000 in
set_option maxHeartbeats 400000 in
theorem alone_Entries (b : Nat) (w : World) (h : w.cell? ⟨b, 12, none⟩ = some (.slice none 0 0)) :
    Calls Tryz.prog 60 #[.pointer (some ⟨b, 0, none⟩)] w fun e w' => e = .returned (.bool true) ∧ w' = w := by
  go_enter Tryz.func60, Tryz.ntmps60
  go_wp2_with fail
  go_loopg [3] 1 (fun m v3 wr => v3 = .int .i64 0 ∧ Hid (w = wr))
  case atStart => exact ⟨rfl, Lib.hid rfl⟩
  case round =>
    obtain ⟨rfl, hw⟩ := hrel
    obtain rfl := hw.out
    go_wp2_with fail
    go_loopg [5, 6] 1 (fun m v5 v6 wr2 => v5 = .slice none 0 0 ∧ v6 = .int .i64 0 ∧ Hid (w = wr2))
    case atStart => exact ⟨rfl, rfl, Lib.hid rfl⟩
    case round =>
      obtain ⟨rfl, rfl, hw⟩ := hrel
      obtain rfl := hw.out
      go_wp2_with fail
      go_loopg [9] 1 (fun m v9 wr2 => v9 = .int .i64 0 ∧ Hid (w = wr2))
      case atStart => exact ⟨rfl, Lib.hid rfl⟩
      case round =>
        obtain ⟨rfl, hw⟩ := hrel
        obtain rfl := hw.out
        go_wp2_with fail
        first | done | exact ⟨rfl, rfl⟩ | (go_ret; exact ⟨rfl, rfl⟩)

set_option maxRecDepth 100000 in
set_option maxHeartbeats 400000 in
theorem alone_Told (b : Nat) (w : World) (h : w.cell? ⟨b, 13, none⟩ = some (.slice none 0 0)) :
    Calls Tryz.prog 61 #[.pointer (some ⟨b, 0, none⟩)] w fun e w' => e = .returned (.bool true) ∧ w' = w := by
  go_enter Tryz.func61, Tryz.ntmps61
  go_wp2_with fail
  go_loopg [3] 1 (fun m v3 wr => v3 = .int .i64 0 ∧ Hid (w = wr))
  case atStart => exact ⟨rfl, Lib.hid rfl⟩
  case round =>
    obtain ⟨rfl, hw⟩ := hrel
    obtain rfl := hw.out
    go_wp2_with fail
    go_loopg [5, 6] 1 (fun m v5 v6 wr2 => v5 = .slice none 0 0 ∧ v6 = .int .i64 0 ∧ Hid (w = wr2))
    case atStart => exact ⟨rfl, rfl, Lib.hid rfl⟩
    case round =>
      obtain ⟨rfl, rfl, hw⟩ := hrel
      obtain rfl := hw.out
      go_wp2_with fail
      go_loopg [9] 1 (fun m v9 wr2 => v9 = .int .i64 0 ∧ Hid (w = wr2))
      case atStart => exact ⟨rfl, Lib.hid rfl⟩
      case round =>
        obtain ⟨rfl, hw⟩ := hrel
        obtain rfl := hw.out
        go_wp2_with fail
        first | done | exact ⟨rfl, rfl⟩ | (go_ret; exact ⟨rfl, rfl⟩)

set_option maxRecDepth 100000 in
set_option maxHeartbeats 400000 in
theorem alone_Slots (b : Nat) (w : World) (h : w.cell? ⟨b, 15, none⟩ = some (.slice none 0 0)) :
    Calls Tryz.prog 63 #[.pointer (some ⟨b, 0, none⟩)] w fun e w' => e = .returned (.bool true) ∧ w' = w := by
  go_enter Tryz.func63, Tryz.ntmps63
  go_wp2_with fail
  go_loopg [3] 1 (fun m v3 wr => v3 = .int .i64 0 ∧ Hid (w = wr))
  case atStart => exact ⟨rfl, Lib.hid rfl⟩
  case round =>
    obtain ⟨rfl, hw⟩ := hrel
    obtain rfl := hw.out
    go_wp2_with fail
    go_loopg [5, 6] 1 (fun m v5 v6 wr2 => v5 = .slice none 0 0 ∧ v6 = .int .i64 0 ∧ Hid (w = wr2))
    case atStart => exact ⟨rfl, rfl, Lib.hid rfl⟩
    case round =>
      obtain ⟨rfl, rfl, hw⟩ := hrel
      obtain rfl := hw.out
      go_wp2_with fail
      go_loopg [9] 1 (fun m v9 wr2 => v9 = .int .i64 0 ∧ Hid (w = wr2))
      case atStart => exact ⟨rfl, Lib.hid rfl⟩
      case round =>
        obtain ⟨rfl, hw⟩ := hrel
        obtain rfl := hw.out
        go_wp2_with fail
        first | done | exact ⟨rfl, rfl⟩ | (go_ret; exact ⟨rfl, rfl⟩)

set_option maxRecDepth 100000 in
set_option maxHeartbeats 400000 in
theorem alone_Fates (b : Nat) (w : World) (h : w.cell? ⟨b, 16, none⟩ = some (.slice none 0 0)) :
    Calls Tryz.prog 64 #[.pointer (some ⟨b, 0, none⟩)] w fun e w' => e = .returned (.bool true) ∧ w' = w := by
  go_enter Tryz.func64, Tryz.ntmps64
  go_wp2_with fail
  go_loopg [3] 1 (fun m v3 wr => v3 = .int .i64 0 ∧ Hid (w = wr))
  case atStart => exact ⟨rfl, Lib.hid rfl⟩
  case round =>
    obtain ⟨rfl, hw⟩ := hrel
    obtain rfl := hw.out
    go_wp2_with fail
    go_loopg [5, 6] 1 (fun m v5 v6 wr2 => v5 = .slice none 0 0 ∧ v6 = .int .i64 0 ∧ Hid (w = wr2))
    case atStart => exact ⟨rfl, rfl, Lib.hid rfl⟩
    case round =>
      obtain ⟨rfl, rfl, hw⟩ := hrel
      obtain rfl := hw.out
      go_wp2_with fail
      go_loopg [9] 1 (fun m v9 wr2 => v9 = .int .i64 0 ∧ Hid (w = wr2))
      case atStart => exact ⟨rfl, Lib.hid rfl⟩
      case round =>
        obtain ⟨rfl, hw⟩ := hrel
        obtain rfl := hw.out
        go_wp2_with fail
        first | done | exact ⟨rfl, rfl⟩ | (go_ret; exact ⟨rfl, rfl⟩)

set_option maxRecDepth 100000 in
set_option maxHeartbeats 400000 in
theorem alone_Points (b : Nat) (w : World) (h : w.cell? ⟨b, 17, none⟩ = some (.slice none 0 0)) :
    Calls Tryz.prog 65 #[.pointer (some ⟨b, 0, none⟩)] w fun e w' => e = .returned (.bool true) ∧ w' = w := by
  go_enter Tryz.func65, Tryz.ntmps65
  go_wp2_with fail
  go_loopg [3] 1 (fun m v3 wr => v3 = .int .i64 0 ∧ Hid (w = wr))
  case atStart => exact ⟨rfl, Lib.hid rfl⟩
  case round =>
    obtain ⟨rfl, hw⟩ := hrel
    obtain rfl := hw.out
    go_wp2_with fail
    go_loopg [5, 6] 1 (fun m v5 v6 wr2 => v5 = .slice none 0 0 ∧ v6 = .int .i64 0 ∧ Hid (w = wr2))
    case atStart => exact ⟨rfl, rfl, Lib.hid rfl⟩
    case round =>
      obtain ⟨rfl, rfl, hw⟩ := hrel
      obtain rfl := hw.out
      go_wp2_with fail
      go_loopg [9] 1 (fun m v9 wr2 => v9 = .int .i64 0 ∧ Hid (w = wr2))
      case atStart => exact ⟨rfl, Lib.hid rfl⟩
      case round =>
        obtain ⟨rfl, hw⟩ := hrel
        obtain rfl := hw.out
        go_wp2_with fail
        first | done | exact ⟨rfl, rfl⟩ | (go_ret; exact ⟨rfl, rfl⟩)

set_option maxRecDepth 100000 in
set_option maxHeartbeats 400000 in
theorem alone_Writes (b : Nat) (w : World) (h : w.cell? ⟨b, 18, none⟩ = some (.slice none 0 0)) :
    Calls Tryz.prog 66 #[.pointer (some ⟨b, 0, none⟩)] w fun e w' => e = .returned (.bool true) ∧ w' = w := by
  go_enter Tryz.func66, Tryz.ntmps66
  go_wp2_with fail
  go_loopg [3] 1 (fun m v3 wr => v3 = .int .i64 0 ∧ Hid (w = wr))
  case atStart => exact ⟨rfl, Lib.hid rfl⟩
  case round =>
    obtain ⟨rfl, hw⟩ := hrel
    obtain rfl := hw.out
    go_wp2_with fail
    go_loopg [5, 6] 1 (fun m v5 v6 wr2 => v5 = .slice none 0 0 ∧ v6 = .int .i64 0 ∧ Hid (w = wr2))
    case atStart => exact ⟨rfl, rfl, Lib.hid rfl⟩
    case round =>
      obtain ⟨rfl, rfl, hw⟩ := hrel
      obtain rfl := hw.out
      go_wp2_with fail
      go_loopg [9] 1 (fun m v9 wr2 => v9 = .int .i64 0 ∧ Hid (w = wr2))
      case atStart => exact ⟨rfl, Lib.hid rfl⟩
      case round =>
        obtain ⟨rfl, hw⟩ := hrel
        obtain rfl := hw.out
        go_wp2_with fail
        first | done | exact ⟨rfl, rfl⟩ | (go_ret; exact ⟨rfl, rfl⟩)

set_option maxRecDepth 100000 in
set_option maxHeartbeats 400000 in
theorem alone_Deltas (b : Nat) (w : World) (h : w.cell? ⟨b, 19, none⟩ = some (.slice none 0 0)) :
    Calls Tryz.prog 67 #[.pointer (some ⟨b, 0, none⟩)] w fun e w' => e = .returned (.bool true) ∧ w' = w := by
  go_enter Tryz.func67, Tryz.ntmps67
  go_wp2_with fail
  go_loopg [3] 1 (fun m v3 wr => v3 = .int .i64 0 ∧ Hid (w = wr))
  case atStart => exact ⟨rfl, Lib.hid rfl⟩
  case round =>
    obtain ⟨rfl, hw⟩ := hrel
    obtain rfl := hw.out
    go_wp2_with fail
    go_loopg [5, 6] 1 (fun m v5 v6 wr2 => v5 = .slice none 0 0 ∧ v6 = .int .i64 0 ∧ Hid (w = wr2))
    case atStart => exact ⟨rfl, rfl, Lib.hid rfl⟩
    case round =>
      obtain ⟨rfl, rfl, hw⟩ := hrel
      obtain rfl := hw.out
      go_wp2_with fail
      go_loopg [9] 1 (fun m v9 wr2 => v9 = .int .i64 0 ∧ Hid (w = wr2))
      case atStart => exact ⟨rfl, Lib.hid rfl⟩
      case round =>
        obtain ⟨rfl, hw⟩ := hrel
        obtain rfl := hw.out
        go_wp2_with fail
        first | done | exact ⟨rfl, rfl⟩ | (go_ret; exact ⟨rfl, rfl⟩)

set_option maxRecDepth 100000 in
set_option maxHeartbeats 400000 in
theorem alone_SeriesList (b : Nat) (w : World) (h : w.cell? ⟨b, 20, none⟩ = some (.slice none 0 0)) :
    Calls Tryz.prog 68 #[.pointer (some ⟨b, 0, none⟩)] w fun e w' => e = .returned (.bool true) ∧ w' = w := by
  go_enter Tryz.func68, Tryz.ntmps68
  go_wp2_with fail
  go_loopg [3] 1 (fun m v3 wr => v3 = .int .i64 0 ∧ Hid (w = wr))
  case atStart => exact ⟨rfl, Lib.hid rfl⟩
  case round =>
    obtain ⟨rfl, hw⟩ := hrel
    obtain rfl := hw.out
    go_wp2_with fail
    go_loopg [5, 6] 1 (fun m v5 v6 wr2 => v5 = .slice none 0 0 ∧ v6 = .int .i64 0 ∧ Hid (w = wr2))
    case atStart => exact ⟨rfl, rfl, Lib.hid rfl⟩
    case round =>
      obtain ⟨rfl, rfl, hw⟩ := hrel
      obtain rfl := hw.out
      go_wp2_with fail
      go_loopg [9] 1 (fun m v9 wr2 => v9 = .int .i64 0 ∧ Hid (w = wr2))
      case atStart => exact ⟨rfl, Lib.hid rfl⟩
      case round =>
        obtain ⟨rfl, hw⟩ := hrel
        obtain rfl := hw.out
        go_wp2_with fail
        first | done | exact ⟨rfl, rfl⟩ | (go_ret; exact ⟨rfl, rfl⟩)

set_option maxRecDepth 100000 in
set_option maxHeartbeats 400000 in
theorem alone_Items (b : Nat) (w : World) (h : w.cell? ⟨b, 21, none⟩ = some (.slice none 0 0)) :
    Calls Tryz.prog 69 #[.pointer (some ⟨b, 0, none⟩)] w fun e w' => e = .returned (.bool true) ∧ w' = w := by
  go_enter Tryz.func69, Tryz.ntmps69
  go_wp2_with fail
  go_loopg [3] 1 (fun m v3 wr => v3 = .int .i64 0 ∧ Hid (w = wr))
  case atStart => exact ⟨rfl, Lib.hid rfl⟩
  case round =>
    obtain ⟨rfl, hw⟩ := hrel
    obtain rfl := hw.out
    go_wp2_with fail
    go_loopg [5, 6] 1 (fun m v5 v6 wr2 => v5 = .slice none 0 0 ∧ v6 = .int .i64 0 ∧ Hid (w = wr2))
    case atStart => exact ⟨rfl, rfl, Lib.hid rfl⟩
    case round =>
      obtain ⟨rfl, rfl, hw⟩ := hrel
      obtain rfl := hw.out
      go_wp2_with fail
      go_loopg [9] 1 (fun m v9 wr2 => v9 = .int .i64 0 ∧ Hid (w = wr2))
      case atStart => exact ⟨rfl, Lib.hid rfl⟩
      case round =>
        obtain ⟨rfl, hw⟩ := hrel
        obtain rfl := hw.out
        go_wp2_with fail
        first | done | exact ⟨rfl, rfl⟩ | (go_ret; exact ⟨rfl, rfl⟩)

set_option maxRecDepth 100000 in
set_option maxHeartbeats 400000 in
theorem alone_Tables (b : Nat) (w : World) (h : w.cell? ⟨b, 22, none⟩ = some (.slice none 0 0)) :
    Calls Tryz.prog 70 #[.pointer (some ⟨b, 0, none⟩)] w fun e w' => e = .returned (.bool true) ∧ w' = w := by
  go_enter Tryz.func70, Tryz.ntmps70
  go_wp2_with fail
  go_loopg [3] 1 (fun m v3 wr => v3 = .int .i64 0 ∧ Hid (w = wr))
  case atStart => exact ⟨rfl, Lib.hid rfl⟩
  case round =>
    obtain ⟨rfl, hw⟩ := hrel
    obtain rfl := hw.out
    go_wp2_with fail
    go_loopg [5, 6] 1 (fun m v5 v6 wr2 => v5 = .slice none 0 0 ∧ v6 = .int .i64 0 ∧ Hid (w = wr2))
    case atStart => exact ⟨rfl, rfl, Lib.hid rfl⟩
    case round =>
      obtain ⟨rfl, rfl, hw⟩ := hrel
      obtain rfl := hw.out
      go_wp2_with fail
      go_loopg [9] 1 (fun m v9 wr2 => v9 = .int .i64 0 ∧ Hid (w = wr2))
      case atStart => exact ⟨rfl, Lib.hid rfl⟩
      case round =>
        obtain ⟨rfl, hw⟩ := hrel
        obtain rfl := hw.out
        go_wp2_with fail
        first | done | exact ⟨rfl, rfl⟩ | (go_ret; exact ⟨rfl, rfl⟩)

set_option maxRecDepth 100000 in
set_option maxHeartbeats 400000 in
theorem alone_Outs (b : Nat) (w : World) (h : w.cell? ⟨b, 23, none⟩ = some (.slice none 0 0)) :
    Calls Tryz.prog 71 #[.pointer (some ⟨b, 0, none⟩)] w fun e w' => e = .returned (.bool true) ∧ w' = w := by
  go_enter Tryz.func71, Tryz.ntmps71
  go_wp2_with fail
  go_loopg [3] 1 (fun m v3 wr => v3 = .int .i64 0 ∧ Hid (w = wr))
  case atStart => exact ⟨rfl, Lib.hid rfl⟩
  case round =>
    obtain ⟨rfl, hw⟩ := hrel
    obtain rfl := hw.out
    go_wp2_with fail
    go_loopg [5, 6] 1 (fun m v5 v6 wr2 => v5 = .slice none 0 0 ∧ v6 = .int .i64 0 ∧ Hid (w = wr2))
    case atStart => exact ⟨rfl, rfl, Lib.hid rfl⟩
    case round =>
      obtain ⟨rfl, rfl, hw⟩ := hrel
      obtain rfl := hw.out
      go_wp2_with fail
      go_loopg [9] 1 (fun m v9 wr2 => v9 = .int .i64 0 ∧ Hid (w = wr2))
      case atStart => exact ⟨rfl, Lib.hid rfl⟩
      case round =>
        obtain ⟨rfl, hw⟩ := hrel
        obtain rfl := hw.out
        go_wp2_with fail
        first | done | exact ⟨rfl, rfl⟩ | (go_ret; exact ⟨rfl, rfl⟩)

set_option maxRecDepth 100000 in
set_option maxHeartbeats 400000 in
theorem alone_TextLists (b : Nat) (w : World) (h : w.cell? ⟨b, 24, none⟩ = some (.slice none 0 0)) :
    Calls Tryz.prog 72 #[.pointer (some ⟨b, 0, none⟩)] w fun e w' => e = .returned (.bool true) ∧ w' = w := by
  go_enter Tryz.func72, Tryz.ntmps72
  go_wp2_with fail
  go_loopg [3] 1 (fun m v3 wr => v3 = .int .i64 0 ∧ Hid (w = wr))
  case atStart => exact ⟨rfl, Lib.hid rfl⟩
  case round =>
    obtain ⟨rfl, hw⟩ := hrel
    obtain rfl := hw.out
    go_wp2_with fail
    go_loopg [5, 6] 1 (fun m v5 v6 wr2 => v5 = .slice none 0 0 ∧ v6 = .int .i64 0 ∧ Hid (w = wr2))
    case atStart => exact ⟨rfl, rfl, Lib.hid rfl⟩
    case round =>
      obtain ⟨rfl, rfl, hw⟩ := hrel
      obtain rfl := hw.out
      go_wp2_with fail
      go_loopg [9] 1 (fun m v9 wr2 => v9 = .int .i64 0 ∧ Hid (w = wr2))
      case atStart => exact ⟨rfl, Lib.hid rfl⟩
      case round =>
        obtain ⟨rfl, hw⟩ := hrel
        obtain rfl := hw.out
        go_wp2_with fail
        first | done | exact ⟨rfl, rfl⟩ | (go_ret; exact ⟨rfl, rfl⟩)

set_option maxRecDepth 100000 in
set_option maxHeartbeats 400000 in
theorem alone_Cells (b : Nat) (w : World) (h : w.cell? ⟨b, 25, none⟩ = some (.slice none 0 0)) :
    Calls Tryz.prog 73 #[.pointer (some ⟨b, 0, none⟩)] w fun e w' => e = .returned (.bool true) ∧ w' = w := by
  go_enter Tryz.func73, Tryz.ntmps73
  go_wp2_with fail
  go_loopg [3] 1 (fun m v3 wr => v3 = .int .i64 0 ∧ Hid (w = wr))
  case atStart => exact ⟨rfl, Lib.hid rfl⟩
  case round =>
    obtain ⟨rfl, hw⟩ := hrel
    obtain rfl := hw.out
    go_wp2_with fail
    go_loopg [5, 6] 1 (fun m v5 v6 wr2 => v5 = .slice none 0 0 ∧ v6 = .int .i64 0 ∧ Hid (w = wr2))
    case atStart => exact ⟨rfl, rfl, Lib.hid rfl⟩
    case round =>
      obtain ⟨rfl, rfl, hw⟩ := hrel
      obtain rfl := hw.out
      go_wp2_with fail
      go_loopg [9] 1 (fun m v9 wr2 => v9 = .int .i64 0 ∧ Hid (w = wr2))
      case atStart => exact ⟨rfl, Lib.hid rfl⟩
      case round =>
        obtain ⟨rfl, hw⟩ := hrel
        obtain rfl := hw.out
        go_wp2_with fail
        first | done | exact ⟨rfl, rfl⟩ | (go_ret; exact ⟨rfl, rfl⟩)

set_option maxRecDepth 100000 in
set_option maxHeartbeats 400000 in
theorem alone_Rows (b : Nat) (w : World) (h : w.cell? ⟨b, 26, none⟩ = some (.slice none 0 0)) :
    Calls Tryz.prog 74 #[.pointer (some ⟨b, 0, none⟩)] w fun e w' => e = .returned (.bool true) ∧ w' = w := by
  go_enter Tryz.func74, Tryz.ntmps74
  go_wp2_with fail
  go_loopg [3] 1 (fun m v3 wr => v3 = .int .i64 0 ∧ Hid (w = wr))
  case atStart => exact ⟨rfl, Lib.hid rfl⟩
  case round =>
    obtain ⟨rfl, hw⟩ := hrel
    obtain rfl := hw.out
    go_wp2_with fail
    go_loopg [5, 6] 1 (fun m v5 v6 wr2 => v5 = .slice none 0 0 ∧ v6 = .int .i64 0 ∧ Hid (w = wr2))
    case atStart => exact ⟨rfl, rfl, Lib.hid rfl⟩
    case round =>
      obtain ⟨rfl, rfl, hw⟩ := hrel
      obtain rfl := hw.out
      go_wp2_with fail
      go_loopg [9] 1 (fun m v9 wr2 => v9 = .int .i64 0 ∧ Hid (w = wr2))
      case atStart => exact ⟨rfl, Lib.hid rfl⟩
      case round =>
        obtain ⟨rfl, hw⟩ := hrel
        obtain rfl := hw.out
        go_wp2_with fail
        first | done | exact ⟨rfl, rfl⟩ | (go_ret; exact ⟨rfl, rfl⟩)

set_option maxRecDepth 100000 in
set_option maxHeartbeats 400000 in
theorem alone_Images (b : Nat) (w : World) (h : w.cell? ⟨b, 27, none⟩ = some (.slice none 0 0)) :
    Calls Tryz.prog 75 #[.pointer (some ⟨b, 0, none⟩)] w fun e w' => e = .returned (.bool true) ∧ w' = w := by
  go_enter Tryz.func75, Tryz.ntmps75
  go_wp2_with fail
  go_loopg [3] 1 (fun m v3 wr => v3 = .int .i64 0 ∧ Hid (w = wr))
  case atStart => exact ⟨rfl, Lib.hid rfl⟩
  case round =>
    obtain ⟨rfl, hw⟩ := hrel
    obtain rfl := hw.out
    go_wp2_with fail
    go_loopg [5, 6] 1 (fun m v5 v6 wr2 => v5 = .slice none 0 0 ∧ v6 = .int .i64 0 ∧ Hid (w = wr2))
    case atStart => exact ⟨rfl, rfl, Lib.hid rfl⟩
    case round =>
      obtain ⟨rfl, rfl, hw⟩ := hrel
      obtain rfl := hw.out
      go_wp2_with fail
      go_loopg [9] 1 (fun m v9 wr2 => v9 = .int .i64 0 ∧ Hid (w = wr2))
      case atStart => exact ⟨rfl, Lib.hid rfl⟩
      case round =>
        obtain ⟨rfl, hw⟩ := hrel
        obtain rfl := hw.out
        go_wp2_with fail
        first | done | exact ⟨rfl, rfl⟩ | (go_ret; exact ⟨rfl, rfl⟩)
set_option maxRecDepth 100000 in
set_option maxHeartbeats 400000 in
theorem alone_Tokens (b : Nat) (w : World) (h : w.cell? ⟨b, 14, none⟩ = some (.slice none 0 0)) :
    Calls Tryz.prog 62 #[.pointer (some ⟨b, 0, none⟩)] w fun e w' => e = .returned (.bool true) ∧ w' = w := by
  go_enter Tryz.func62, Tryz.ntmps62
  go_wp2_with fail
  go_loopg [3] 1 (fun m v3 wr => v3 = .int .i64 0 ∧ Hid (w = wr))
  case atStart => exact ⟨rfl, Lib.hid rfl⟩
  case round =>
    obtain ⟨rfl, hw⟩ := hrel
    obtain rfl := hw.out
    go_wp2_with fail
    go_loopg [5, 6] 1 (fun m v5 v6 wr2 => v5 = .slice none 0 0 ∧ v6 = .int .i64 0 ∧ Hid (w = wr2))
    case atStart => exact ⟨rfl, rfl, Lib.hid rfl⟩
    case round =>
      obtain ⟨rfl, rfl, hw⟩ := hrel
      obtain rfl := hw.out
      go_wp2_with fail
      go_loopg [9] 1 (fun m v9 wr2 => v9 = .int .i64 0 ∧ Hid (w = wr2))
      case atStart => exact ⟨rfl, Lib.hid rfl⟩
      case round =>
        obtain ⟨rfl, hw⟩ := hrel
        obtain rfl := hw.out
        go_wp2_with fail
        first | done | exact ⟨rfl, rfl⟩ | (go_ret; exact ⟨rfl, rfl⟩)
set_option maxRecDepth 100000 in
set_option maxHeartbeats 1000000 in
theorem take_Tags {KD : Nat → Kd} {B b : Nat} {tvs : Nat → Value} {E P : List Ent} {e : Ent} (hK : KDok KD) (hr : (KD 5).r = 29) (hrr : (KD 5).rr = 54) (n cap : Nat) (ao : Option Addr) (w : World)
    (h : Hd KD B b tvs E (e :: P) w) (hk : e.k = 5) (hv : e.v = .slice ao n cap) :
    Calls Tryz.prog 46 #[.pointer (some ⟨b, 0, none⟩), .slice ao n cap] w fun ev w' => ev = .returned (.tuple #[]) ∧ (∃ tvs', Hd KD B b tvs' (E ++ [e]) P w') ∧ Below B w w' ∧ KeepT KD w w' := by
  obtain ⟨C, hC1, hC2, hC3⟩ := h.bk
  have c0 : w.cell? ⟨b, 5, none⟩ = some (tvs 5) := by rw [blk_cell' hC1]; exact hC3 5 (by decide)
  have A1 := (Below.refl w.heap.size w).alloc (Nat.le_refl _) (.cells #[.slice ao n cap] 29 (0, 0))
  have hrow := (h.rows 5 (by decide)).next A1
  have e1 : rowE (E ++ [e]) 5 = rowE E 5 ++ [.slice ao n cap] := by rw [← hk, rowE_snoc_same, hv]
  have hlim : (rowE E 5).length + 1 ≤ 100000000 := by
    have h1 := rowE_len E 5
    have h2 := h.lim
    rw [List.length_append] at h2
    omega
  obtain ⟨g, gc, w9, hap, ht, hg, hor⟩ := tz_append (G' := rowG (rowE (E ++ [e]) 5)) (hK.ap 5) 54 hrow (by have := h.hw; have := A1.size; omega) hlim [.slice ao n cap] rfl (by intro u hu; simp at hu; subst hu; rfl) ⟨w.heap.size, 0, none⟩ 1 (new_cells _ [.slice ao n cap] _ _ rfl) (fun j xs hj hG => by
    obtain ⟨v, q1, q2⟩ := hG
    exact ⟨v, by rw [e1, List.getElem?_append_left hj]; exact q1, q2⟩) ⟨_, by rw [e1, List.getElem?_append_right (Nat.le_refl _), Nat.sub_self]; rfl, rfl⟩
  have HT := Lib.hid (h.take hK hk A1 ht hg hor)
  have hrb := h.rnot hK (k := 5) (by decide)
  have q9 : w9.heap[b]? = some (.cells C tBk (0, 0)) := by
    rw [hg.block b (Nat.lt_of_lt_of_le (blk_lt' hC1) A1.size) (fun e => hrb e.symm), A1.block b (blk_lt' hC1), hC1]
  have x0 : w9.cell? ⟨b, 5, none⟩ = some (tvs 5) := by rw [blk_cell' q9]; exact hC3 5 (by decide)
  have x1 := blk_free' q9 5
  have hap2 : (Builtin.append_ #[54, 54] 54 #[tvs 5, .slice (some ⟨w.heap.size, 0, none⟩) 1 1]).run Tryz.prog (w.alloc (.cells #[.slice ao n cap] 29)) = .ok (.slice (some ⟨g, 0, none⟩) ((rowE E 5).length + 1) gc) w9 := by
    have e2 : (rowK (KD 5)).r = 54 := hrr
    rw [e2] at hap
    exact hap
  clear h hC1 hC2 hC3 A1 hrow hap ht hg hor q9 hrb hr hrr
  generalize tvs 5 = tv at *
  generalize (rowE E 5).length + 1 = rn at *
  go_enter Tryz.func46, Tryz.ntmps46
  go_wp2_with (at_builtin; refine wp_tz 54 rfl _ _ rfl _ _ rfl rfl hap2 ?_)
  go_end0
  exact ⟨rfl, ⟨_, HT.out.1⟩, HT.out.2⟩
theorem alone_Tags_any {KD : Nat → Kd} {B b : Nat} {tvs : Nat → Value} {E : List Ent} {w0 w : World} (hK : KD 5 = K_Tags) (h : Al KD B b tvs E 5 w0 w) :
    Calls Tryz.prog 53 #[.pointer (some ⟨b, 0, none⟩)] w fun ev w' => ev = .returned (.bool true) ∧ Al KD B b tvs E (5 + 1) w0 w' := by
  have hok : (KD 5).Ok := by rw [hK]; exact K_Tags_ok
  by_cases h0 : (rowE E 5).length = 0
  · have hc := h.cell (k := 5) (by decide)
    rw [h.nl 5 (by decide) (List.length_eq_zero_iff.1 h0)] at hc
    refine (alone_Tags b w hc).mono ?_
    rintro ev w' ⟨rfl, rfl⟩
    exact ⟨rfl, h.skip⟩
  · obtain ⟨ao, rc, hv⟩ := (h.rows 5 (by decide) (Nat.le_refl _)).form
    have hr := h.rows 5 (by decide) (Nat.le_refl _)
    rw [hv] at hr
    obtain ⟨rg, rfl, -⟩ := hr.ptr (by omega)
    refine (alone_Tags_some (Al.bx KD B b E 5 rg w) (h.good (by decide) hok hv (by omega)) hK rc (by show 0 < (rowE E 5).length; omega) ((h.cell (k := 5) (by decide)).trans (congrArg some hv)) (fun j hj => h.row (by decide) hv hj) (fun j hj => h.lists hj)).mono ?_
    rintro ev w' ⟨rfl, hk⟩
    exact ⟨rfl, h.done (by decide) hok hv (by omega) hk⟩
set_option maxRecDepth 100000 in
set_option maxHeartbeats 1000000 in
theorem take_Fields {KD : Nat → Kd} {B b : Nat} {tvs : Nat → Value} {E P : List Ent} {e : Ent} (hK : KDok KD) (hr : (KD 6).r = 30) (hrr : (KD 6).rr = 55) (n cap : Nat) (ao : Option Addr) (w : World)
    (h : Hd KD B b tvs E (e :: P) w) (hk : e.k = 6) (hv : e.v = .slice ao n cap) :
    Calls Tryz.prog 47 #[.pointer (some ⟨b, 0, none⟩), .slice ao n cap] w fun ev w' => ev = .returned (.tuple #[]) ∧ (∃ tvs', Hd KD B b tvs' (E ++ [e]) P w') ∧ Below B w w' ∧ KeepT KD w w' := by
  obtain ⟨C, hC1, hC2, hC3⟩ := h.bk
  have c0 : w.cell? ⟨b, 6, none⟩ = some (tvs 6) := by rw [blk_cell' hC1]; exact hC3 6 (by decide)
  have A1 := (Below.refl w.heap.size w).alloc (Nat.le_refl _) (.cells #[.slice ao n cap] 30 (0, 0))
  have hrow := (h.rows 6 (by decide)).next A1
  have e1 : rowE (E ++ [e]) 6 = rowE E 6 ++ [.slice ao n cap] := by rw [← hk, rowE_snoc_same, hv]
  have hlim : (rowE E 6).length + 1 ≤ 100000000 := by
    have h1 := rowE_len E 6
    have h2 := h.lim
    rw [List.length_append] at h2
    omega
  obtain ⟨g, gc, w9, hap, ht, hg, hor⟩ := tz_append (G' := rowG (rowE (E ++ [e]) 6)) (hK.ap 6) 55 hrow (by have := h.hw; have := A1.size; omega) hlim [.slice ao n cap] rfl (by intro u hu; simp at hu; subst hu; rfl) ⟨w.heap.size, 0, none⟩ 1 (new_cells _ [.slice ao n cap] _ _ rfl) (fun j xs hj hG => by
    obtain ⟨v, q1, q2⟩ := hG
    exact ⟨v, by rw [e1, List.getElem?_append_left hj]; exact q1, q2⟩) ⟨_, by rw [e1, List.getElem?_append_right (Nat.le_refl _), Nat.sub_self]; rfl, rfl⟩
  have HT := Lib.hid (h.take hK hk A1 ht hg hor)
  have hrb := h.rnot hK (k := 6) (by decide)
  have q9 : w9.heap[b]? = some (.cells C tBk (0, 0)) := by
    rw [hg.block b (Nat.lt_of_lt_of_le (blk_lt' hC1) A1.size) (fun e => hrb e.symm), A1.block b (blk_lt' hC1), hC1]
  have x0 : w9.cell? ⟨b, 6, none⟩ = some (tvs 6) := by rw [blk_cell' q9]; exact hC3 6 (by decide)
  have x1 := blk_free' q9 6
  have hap2 : (Builtin.append_ #[55, 55] 55 #[tvs 6, .slice (some ⟨w.heap.size, 0, none⟩) 1 1]).run Tryz.prog (w.alloc (.cells #[.slice ao n cap] 30)) = .ok (.slice (some ⟨g, 0, none⟩) ((rowE E 6).length + 1) gc) w9 := by
    have e2 : (rowK (KD 6)).r = 55 := hrr
    rw [e2] at hap
    exact hap
  clear h hC1 hC2 hC3 A1 hrow hap ht hg hor q9 hrb hr hrr
  generalize tvs 6 = tv at *
  generalize (rowE E 6).length + 1 = rn at *
  go_enter Tryz.func47, Tryz.ntmps47
  go_wp2_with (at_builtin; refine wp_tz 55 rfl _ _ rfl _ _ rfl rfl hap2 ?_)
  go_end0
  exact ⟨rfl, ⟨_, HT.out.1⟩, HT.out.2⟩
theorem alone_Fields_any {KD : Nat → Kd} {B b : Nat} {tvs : Nat → Value} {E : List Ent} {w0 w : World} (hK : KD 6 = K_Fields) (h : Al KD B b tvs E 6 w0 w) :
    Calls Tryz.prog 54 #[.pointer (some ⟨b, 0, none⟩)] w fun ev w' => ev = .returned (.bool true) ∧ Al KD B b tvs E (6 + 1) w0 w' := by
  have hok : (KD 6).Ok := by rw [hK]; exact K_Fields_ok
  by_cases h0 : (rowE E 6).length = 0
  · have hc := h.cell (k := 6) (by decide)
    rw [h.nl 6 (by decide) (List.length_eq_zero_iff.1 h0)] at hc
    refine (alone_Fields b w hc).mono ?_
    rintro ev w' ⟨rfl, rfl⟩
    exact ⟨rfl, h.skip⟩
  · obtain ⟨ao, rc, hv⟩ := (h.rows 6 (by decide) (Nat.le_refl _)).form
    have hr := h.rows 6 (by decide) (Nat.le_refl _)
    rw [hv] at hr
    obtain ⟨rg, rfl, -⟩ := hr.ptr (by omega)
    refine (alone_Fields_some (Al.bx KD B b E 6 rg w) (h.good (by decide) hok hv (by omega)) hK rc (by show 0 < (rowE E 6).length; omega) ((h.cell (k := 6) (by decide)).trans (congrArg some hv)) (fun j hj => h.row (by decide) hv hj) (fun j hj => h.lists hj)).mono ?_
    rintro ev w' ⟨rfl, hk⟩
    exact ⟨rfl, h.done (by decide) hok hv (by omega) hk⟩
theorem alone_Points_any {KD : Nat → Kd} {B b : Nat} {tvs : Nat → Value} {E : List Ent} {w0 w : World} (hK : KD 17 = K_Points) (h : Al KD B b tvs E 17 w0 w) :
    Calls Tryz.prog 65 #[.pointer (some ⟨b, 0, none⟩)] w fun ev w' => ev = .returned (.bool true) ∧ Al KD B b tvs E (17 + 1) w0 w' := by
  have hok : (KD 17).Ok := by rw [hK]; exact K_Points_ok
  by_cases h0 : (rowE E 17).length = 0
  · have hc := h.cell (k := 17) (by decide)
    rw [h.nl 17 (by decide) (List.length_eq_zero_iff.1 h0)] at hc
    refine (alone_Points b w hc).mono ?_
    rintro ev w' ⟨rfl, rfl⟩
    exact ⟨rfl, h.skip⟩
  · obtain ⟨ao, rc, hv⟩ := (h.rows 17 (by decide) (Nat.le_refl _)).form
    have hr := h.rows 17 (by decide) (Nat.le_refl _)
    rw [hv] at hr
    obtain ⟨rg, rfl, -⟩ := hr.ptr (by omega)
    refine (alone_Points_some (Al.bx KD B b E 17 rg w) (h.good (by decide) hok hv (by omega)) hK rc (by show 0 < (rowE E 17).length; omega) ((h.cell (k := 17) (by decide)).trans (congrArg some hv)) (fun j hj => h.row (by decide) hv hj) (fun j hj => h.lists hj)).mono ?_
    rintro ev w' ⟨rfl, hk⟩
    exact ⟨rfl, h.done (by decide) hok hv (by omega) hk⟩
theorem alone_Bytes_none {KD : Nat → Kd} {B b : Nat} {tvs : Nat → Value} {E : List Ent} {w0 w : World} (hE : rowE E 0 = []) (h : Al KD B b tvs E 0 w0 w) :
    Calls Tryz.prog 48 #[.pointer (some ⟨b, 0, none⟩)] w fun ev w' => ev = .returned (.bool true) ∧ Al KD B b tvs E (0 + 1) w0 w' := by
  have hc := h.cell (k := 0) (by decide)
  rw [h.nl 0 (by decide) hE] at hc
  refine (alone_Bytes b w hc).mono ?_
  rintro ev w' ⟨rfl, rfl⟩
  exact ⟨rfl, h.skip⟩
theorem alone_Texts_none {KD : Nat → Kd} {B b : Nat} {tvs : Nat → Value} {E : List Ent} {w0 w : World} (hE : rowE E 1 = []) (h : Al KD B b tvs E 1 w0 w) :
    Calls Tryz.prog 49 #[.pointer (some ⟨b, 0, none⟩)] w fun ev w' => ev = .returned (.bool true) ∧ Al KD B b tvs E (1 + 1) w0 w' := by
  have hc := h.cell (k := 1) (by decide)
  rw [h.nl 1 (by decide) hE] at hc
  refine (alone_Texts b w hc).mono ?_
  rintro ev w' ⟨rfl, rfl⟩
  exact ⟨rfl, h.skip⟩
theorem alone_Ints_none {KD : Nat → Kd} {B b : Nat} {tvs : Nat → Value} {E : List Ent} {w0 w : World} (hE : rowE E 2 = []) (h : Al KD B b tvs E 2 w0 w) :
    Calls Tryz.prog 50 #[.pointer (some ⟨b, 0, none⟩)] w fun ev w' => ev = .returned (.bool true) ∧ Al KD B b tvs E (2 + 1) w0 w' := by
  have hc := h.cell (k := 2) (by decide)
  rw [h.nl 2 (by decide) hE] at hc
  refine (alone_Ints b w hc).mono ?_
  rintro ev w' ⟨rfl, rfl⟩
  exact ⟨rfl, h.skip⟩
theorem alone_Int64s_none {KD : Nat → Kd} {B b : Nat} {tvs : Nat → Value} {E : List Ent} {w0 w : World} (hE : rowE E 3 = []) (h : Al KD B b tvs E 3 w0 w) :
    Calls Tryz.prog 51 #[.pointer (some ⟨b, 0, none⟩)] w fun ev w' => ev = .returned (.bool true) ∧ Al KD B b tvs E (3 + 1) w0 w' := by
  have hc := h.cell (k := 3) (by decide)
  rw [h.nl 3 (by decide) hE] at hc
  refine (alone_Int64s b w hc).mono ?_
  rintro ev w' ⟨rfl, rfl⟩
  exact ⟨rfl, h.skip⟩
theorem alone_Uint64s_none {KD : Nat → Kd} {B b : Nat} {tvs : Nat → Value} {E : List Ent} {w0 w : World} (hE : rowE E 4 = []) (h : Al KD B b tvs E 4 w0 w) :
    Calls Tryz.prog 52 #[.pointer (some ⟨b, 0, none⟩)] w fun ev w' => ev = .returned (.bool true) ∧ Al KD B b tvs E (4 + 1) w0 w' := by
  have hc := h.cell (k := 4) (by decide)
  rw [h.nl 4 (by decide) hE] at hc
  refine (alone_Uint64s b w hc).mono ?_
  rintro ev w' ⟨rfl, rfl⟩
  exact ⟨rfl, h.skip⟩
theorem alone_Samples_none {KD : Nat → Kd} {B b : Nat} {tvs : Nat → Value} {E : List Ent} {w0 w : World} (hE : rowE E 7 = []) (h : Al KD B b tvs E 7 w0 w) :
    Calls Tryz.prog 55 #[.pointer (some ⟨b, 0, none⟩)] w fun ev w' => ev = .returned (.bool true) ∧ Al KD B b tvs E (7 + 1) w0 w' := by
  have hc := h.cell (k := 7) (by decide)
  rw [h.nl 7 (by decide) hE] at hc
  refine (alone_Samples b w hc).mono ?_
  rintro ev w' ⟨rfl, rfl⟩
  exact ⟨rfl, h.skip⟩
theorem alone_Nodes_none {KD : Nat → Kd} {B b : Nat} {tvs : Nat → Value} {E : List Ent} {w0 w : World} (hE : rowE E 8 = []) (h : Al KD B b tvs E 8 w0 w) :
    Calls Tryz.prog 56 #[.pointer (some ⟨b, 0, none⟩)] w fun ev w' => ev = .returned (.bool true) ∧ Al KD B b tvs E (8 + 1) w0 w' := by
  have hc := h.cell (k := 8) (by decide)
  rw [h.nl 8 (by decide) hE] at hc
  refine (alone_Nodes b w hc).mono ?_
  rintro ev w' ⟨rfl, rfl⟩
  exact ⟨rfl, h.skip⟩
theorem alone_Labels_none {KD : Nat → Kd} {B b : Nat} {tvs : Nat → Value} {E : List Ent} {w0 w : World} (hE : rowE E 9 = []) (h : Al KD B b tvs E 9 w0 w) :
    Calls Tryz.prog 57 #[.pointer (some ⟨b, 0, none⟩)] w fun ev w' => ev = .returned (.bool true) ∧ Al KD B b tvs E (9 + 1) w0 w' := by
  have hc := h.cell (k := 9) (by decide)
  rw [h.nl 9 (by decide) hE] at hc
  refine (alone_Labels b w hc).mono ?_
  rintro ev w' ⟨rfl, rfl⟩
  exact ⟨rfl, h.skip⟩
theorem alone_Accs_none {KD : Nat → Kd} {B b : Nat} {tvs : Nat → Value} {E : List Ent} {w0 w : World} (hE : rowE E 10 = []) (h : Al KD B b tvs E 10 w0 w) :
    Calls Tryz.prog 58 #[.pointer (some ⟨b, 0, none⟩)] w fun ev w' => ev = .returned (.bool true) ∧ Al KD B b tvs E (10 + 1) w0 w' := by
  have hc := h.cell (k := 10) (by decide)
  rw [h.nl 10 (by decide) hE] at hc
  refine (alone_Accs b w hc).mono ?_
  rintro ev w' ⟨rfl, rfl⟩
  exact ⟨rfl, h.skip⟩
theorem alone_Inses_none {KD : Nat → Kd} {B b : Nat} {tvs : Nat → Value} {E : List Ent} {w0 w : World} (hE : rowE E 11 = []) (h : Al KD B b tvs E 11 w0 w) :
    Calls Tryz.prog 59 #[.pointer (some ⟨b, 0, none⟩)] w fun ev w' => ev = .returned (.bool true) ∧ Al KD B b tvs E (11 + 1) w0 w' := by
  have hc := h.cell (k := 11) (by decide)
  rw [h.nl 11 (by decide) hE] at hc
  refine (alone_Inses b w hc).mono ?_
  rintro ev w' ⟨rfl, rfl⟩
  exact ⟨rfl, h.skip⟩
theorem alone_Entries_none {KD : Nat → Kd} {B b : Nat} {tvs : Nat → Value} {E : List Ent} {w0 w : World} (hE : rowE E 12 = []) (h : Al KD B b tvs E 12 w0 w) :
    Calls Tryz.prog 60 #[.pointer (some ⟨b, 0, none⟩)] w fun ev w' => ev = .returned (.bool true) ∧ Al KD B b tvs E (12 + 1) w0 w' := by
  have hc := h.cell (k := 12) (by decide)
  rw [h.nl 12 (by decide) hE] at hc
  refine (alone_Entries b w hc).mono ?_
  rintro ev w' ⟨rfl, rfl⟩
  exact ⟨rfl, h.skip⟩
theorem alone_Told_none {KD : Nat → Kd} {B b : Nat} {tvs : Nat → Value} {E : List Ent} {w0 w : World} (hE : rowE E 13 = []) (h : Al KD B b tvs E 13 w0 w) :
    Calls Tryz.prog 61 #[.pointer (some ⟨b, 0, none⟩)] w fun ev w' => ev = .returned (.bool true) ∧ Al KD B b tvs E (13 + 1) w0 w' := by
  have hc := h.cell (k := 13) (by decide)
  rw [h.nl 13 (by decide) hE] at hc
  refine (alone_Told b w hc).mono ?_
  rintro ev w' ⟨rfl, rfl⟩
  exact ⟨rfl, h.skip⟩
theorem alone_Tokens_none {KD : Nat → Kd} {B b : Nat} {tvs : Nat → Value} {E : List Ent} {w0 w : World} (hE : rowE E 14 = []) (h : Al KD B b tvs E 14 w0 w) :
    Calls Tryz.prog 62 #[.pointer (some ⟨b, 0, none⟩)] w fun ev w' => ev = .returned (.bool true) ∧ Al KD B b tvs E (14 + 1) w0 w' := by
  have hc := h.cell (k := 14) (by decide)
  rw [h.nl 14 (by decide) hE] at hc
  refine (alone_Tokens b w hc).mono ?_
  rintro ev w' ⟨rfl, rfl⟩
  exact ⟨rfl, h.skip⟩
theorem alone_Slots_none {KD : Nat → Kd} {B b : Nat} {tvs : Nat → Value} {E : List Ent} {w0 w : World} (hE : rowE E 15 = []) (h : Al KD B b tvs E 15 w0 w) :
    Calls Tryz.prog 63 #[.pointer (some ⟨b, 0, none⟩)] w fun ev w' => ev = .returned (.bool true) ∧ Al KD B b tvs E (15 + 1) w0 w' := by
  have hc := h.cell (k := 15) (by decide)
  rw [h.nl 15 (by decide) hE] at hc
  refine (alone_Slots b w hc).mono ?_
  rintro ev w' ⟨rfl, rfl⟩
  exact ⟨rfl, h.skip⟩
theorem alone_Fates_none {KD : Nat → Kd} {B b : Nat} {tvs : Nat → Value} {E : List Ent} {w0 w : World} (hE : rowE E 16 = []) (h : Al KD B b tvs E 16 w0 w) :
    Calls Tryz.prog 64 #[.pointer (some ⟨b, 0, none⟩)] w fun ev w' => ev = .returned (.bool true) ∧ Al KD B b tvs E (16 + 1) w0 w' := by
  have hc := h.cell (k := 16) (by decide)
  rw [h.nl 16 (by decide) hE] at hc
  refine (alone_Fates b w hc).mono ?_
  rintro ev w' ⟨rfl, rfl⟩
  exact ⟨rfl, h.skip⟩
theorem alone_Writes_none {KD : Nat → Kd} {B b : Nat} {tvs : Nat → Value} {E : List Ent} {w0 w : World} (hE : rowE E 18 = []) (h : Al KD B b tvs E 18 w0 w) :
    Calls Tryz.prog 66 #[.pointer (some ⟨b, 0, none⟩)] w fun ev w' => ev = .returned (.bool true) ∧ Al KD B b tvs E (18 + 1) w0 w' := by
  have hc := h.cell (k := 18) (by decide)
  rw [h.nl 18 (by decide) hE] at hc
  refine (alone_Writes b w hc).mono ?_
  rintro ev w' ⟨rfl, rfl⟩
  exact ⟨rfl, h.skip⟩
theorem alone_Deltas_none {KD : Nat → Kd} {B b : Nat} {tvs : Nat → Value} {E : List Ent} {w0 w : World} (hE : rowE E 19 = []) (h : Al KD B b tvs E 19 w0 w) :
    Calls Tryz.prog 67 #[.pointer (some ⟨b, 0, none⟩)] w fun ev w' => ev = .returned (.bool true) ∧ Al KD B b tvs E (19 + 1) w0 w' := by
  have hc := h.cell (k := 19) (by decide)
  rw [h.nl 19 (by decide) hE] at hc
  refine (alone_Deltas b w hc).mono ?_
  rintro ev w' ⟨rfl, rfl⟩
  exact ⟨rfl, h.skip⟩
theorem alone_SeriesList_none {KD : Nat → Kd} {B b : Nat} {tvs : Nat → Value} {E : List Ent} {w0 w : World} (hE : rowE E 20 = []) (h : Al KD B b tvs E 20 w0 w) :
    Calls Tryz.prog 68 #[.pointer (some ⟨b, 0, none⟩)] w fun ev w' => ev = .returned (.bool true) ∧ Al KD B b tvs E (20 + 1) w0 w' := by
  have hc := h.cell (k := 20) (by decide)
  rw [h.nl 20 (by decide) hE] at hc
  refine (alone_SeriesList b w hc).mono ?_
  rintro ev w' ⟨rfl, rfl⟩
  exact ⟨rfl, h.skip⟩
theorem alone_Items_none {KD : Nat → Kd} {B b : Nat} {tvs : Nat → Value} {E : List Ent} {w0 w : World} (hE : rowE E 21 = []) (h : Al KD B b tvs E 21 w0 w) :
    Calls Tryz.prog 69 #[.pointer (some ⟨b, 0, none⟩)] w fun ev w' => ev = .returned (.bool true) ∧ Al KD B b tvs E (21 + 1) w0 w' := by
  have hc := h.cell (k := 21) (by decide)
  rw [h.nl 21 (by decide) hE] at hc
  refine (alone_Items b w hc).mono ?_
  rintro ev w' ⟨rfl, rfl⟩
  exact ⟨rfl, h.skip⟩
theorem alone_Tables_none {KD : Nat → Kd} {B b : Nat} {tvs : Nat → Value} {E : List Ent} {w0 w : World} (hE : rowE E 22 = []) (h : Al KD B b tvs E 22 w0 w) :
    Calls Tryz.prog 70 #[.pointer (some ⟨b, 0, none⟩)] w fun ev w' => ev = .returned (.bool true) ∧ Al KD B b tvs E (22 + 1) w0 w' := by
  have hc := h.cell (k := 22) (by decide)
  rw [h.nl 22 (by decide) hE] at hc
  refine (alone_Tables b w hc).mono ?_
  rintro ev w' ⟨rfl, rfl⟩
  exact ⟨rfl, h.skip⟩
theorem alone_Outs_none {KD : Nat → Kd} {B b : Nat} {tvs : Nat → Value} {E : List Ent} {w0 w : World} (hE : rowE E 23 = []) (h : Al KD B b tvs E 23 w0 w) :
    Calls Tryz.prog 71 #[.pointer (some ⟨b, 0, none⟩)] w fun ev w' => ev = .returned (.bool true) ∧ Al KD B b tvs E (23 + 1) w0 w' := by
  have hc := h.cell (k := 23) (by decide)
  rw [h.nl 23 (by decide) hE] at hc
  refine (alone_Outs b w hc).mono ?_
  rintro ev w' ⟨rfl, rfl⟩
  exact ⟨rfl, h.skip⟩
theorem alone_TextLists_none {KD : Nat → Kd} {B b : Nat} {tvs : Nat → Value} {E : List Ent} {w0 w : World} (hE : rowE E 24 = []) (h : Al KD B b tvs E 24 w0 w) :
    Calls Tryz.prog 72 #[.pointer (some ⟨b, 0, none⟩)] w fun ev w' => ev = .returned (.bool true) ∧ Al KD B b tvs E (24 + 1) w0 w' := by
  have hc := h.cell (k := 24) (by decide)
  rw [h.nl 24 (by decide) hE] at hc
  refine (alone_TextLists b w hc).mono ?_
  rintro ev w' ⟨rfl, rfl⟩
  exact ⟨rfl, h.skip⟩
theorem alone_Cells_none {KD : Nat → Kd} {B b : Nat} {tvs : Nat → Value} {E : List Ent} {w0 w : World} (hE : rowE E 25 = []) (h : Al KD B b tvs E 25 w0 w) :
    Calls Tryz.prog 73 #[.pointer (some ⟨b, 0, none⟩)] w fun ev w' => ev = .returned (.bool true) ∧ Al KD B b tvs E (25 + 1) w0 w' := by
  have hc := h.cell (k := 25) (by decide)
  rw [h.nl 25 (by decide) hE] at hc
  refine (alone_Cells b w hc).mono ?_
  rintro ev w' ⟨rfl, rfl⟩
  exact ⟨rfl, h.skip⟩
theorem alone_Rows_none {KD : Nat → Kd} {B b : Nat} {tvs : Nat → Value} {E : List Ent} {w0 w : World} (hE : rowE E 26 = []) (h : Al KD B b tvs E 26 w0 w) :
    Calls Tryz.prog 74 #[.pointer (some ⟨b, 0, none⟩)] w fun ev w' => ev = .returned (.bool true) ∧ Al KD B b tvs E (26 + 1) w0 w' := by
  have hc := h.cell (k := 26) (by decide)
  rw [h.nl 26 (by decide) hE] at hc
  refine (alone_Rows b w hc).mono ?_
  rintro ev w' ⟨rfl, rfl⟩
  exact ⟨rfl, h.skip⟩
theorem alone_Images_none {KD : Nat → Kd} {B b : Nat} {tvs : Nat → Value} {E : List Ent} {w0 w : World} (hE : rowE E 27 = []) (h : Al KD B b tvs E 27 w0 w) :
    Calls Tryz.prog 75 #[.pointer (some ⟨b, 0, none⟩)] w fun ev w' => ev = .returned (.bool true) ∧ Al KD B b tvs E (27 + 1) w0 w' := by
  have hc := h.cell (k := 27) (by decide)
  rw [h.nl 27 (by decide) hE] at hc
  refine (alone_Images b w hc).mono ?_
  rintro ev w' ⟨rfl, rfl⟩
  exact ⟨rfl, h.skip⟩
def bookN : Array Value := #[nilV, nilV, nilV, nilV, nilV, nilV, nilV, nilV, nilV, nilV, nilV, nilV, nilV, nilV, nilV, nilV, nilV, nilV, nilV, nilV, nilV, nilV, nilV, nilV, nilV, nilV, nilV, nilV]
theorem book_info : (Tryz.prog.info? 78).map (·.size) = some 28 := by kernel_rfl
set_option maxRecDepth 100000 in
set_option maxHeartbeats 4000000 in
theorem book_Alone {KD : Nat → Kd} {B b : Nat} {tvs : Nat → Value} {E : List Ent} {w : World} (hKD : KDok KD) (k5 : KD 5 = K_Tags) (k6 : KD 6 = K_Fields) (k17 : KD 17 = K_Points) (hE : ∀ e ∈ E, e.k = 5 ∨ e.k = 6 ∨ e.k = 17) (h : Hd KD B b tvs E [] w) :
    Calls Tryz.prog 21 #[.pointer (some ⟨b, 0, none⟩)] w fun e w' => e = .returned (.bool true) ∧ Below B w w' := by
  have hn : ∀ k, k ≠ 5 ∧ k ≠ 6 ∧ k ≠ 17 → rowE E k = [] := fun k hk => by
    unfold rowE
    rw [List.filter_eq_nil_iff.2 (fun e he => by have := hE e he; simp; omega)]
    rfl
  have HN := Lib.hid hn
  have A0 := Lib.hid (h.al hKD)
  clear h hE hn
  go_enter Tryz.func21, Tryz.ntmps21
  go_wp2_with fail
  refine (alone_Bytes_none (HN.out 0 (by decide)) A0.out).mono ?_
  rintro ev w1 ⟨rfl, hA⟩
  have A1 := Lib.hid hA
  clear hA A0
  go_wp2_with fail
  refine (alone_Texts_none (HN.out 1 (by decide)) A1.out).mono ?_
  rintro ev w2 ⟨rfl, hA⟩
  have A2 := Lib.hid hA
  clear hA A1
  go_wp2_with fail
  refine (alone_Ints_none (HN.out 2 (by decide)) A2.out).mono ?_
  rintro ev w3 ⟨rfl, hA⟩
  have A3 := Lib.hid hA
  clear hA A2
  go_wp2_with fail
  refine (alone_Int64s_none (HN.out 3 (by decide)) A3.out).mono ?_
  rintro ev w4 ⟨rfl, hA⟩
  have A4 := Lib.hid hA
  clear hA A3
  go_wp2_with fail
  refine (alone_Uint64s_none (HN.out 4 (by decide)) A4.out).mono ?_
  rintro ev w5 ⟨rfl, hA⟩
  have A5 := Lib.hid hA
  clear hA A4
  go_wp2_with fail
  refine (alone_Tags_any k5 A5.out).mono ?_
  rintro ev w6 ⟨rfl, hA⟩
  have A6 := Lib.hid hA
  clear hA A5
  go_wp2_with fail
  refine (alone_Fields_any k6 A6.out).mono ?_
  rintro ev w7 ⟨rfl, hA⟩
  have A7 := Lib.hid hA
  clear hA A6
  go_wp2_with fail
  refine (alone_Samples_none (HN.out 7 (by decide)) A7.out).mono ?_
  rintro ev w8 ⟨rfl, hA⟩
  have A8 := Lib.hid hA
  clear hA A7
  go_wp2_with fail
  refine (alone_Nodes_none (HN.out 8 (by decide)) A8.out).mono ?_
  rintro ev w9 ⟨rfl, hA⟩
  have A9 := Lib.hid hA
  clear hA A8
  go_wp2_with fail
  refine (alone_Labels_none (HN.out 9 (by decide)) A9.out).mono ?_
  rintro ev w10 ⟨rfl, hA⟩
  have A10 := Lib.hid hA
  clear hA A9
  go_wp2_with fail
  refine (alone_Accs_none (HN.out 10 (by decide)) A10.out).mono ?_
  rintro ev w11 ⟨rfl, hA⟩
  have A11 := Lib.hid hA
  clear hA A10
  go_wp2_with fail
  refine (alone_Inses_none (HN.out 11 (by decide)) A11.out).mono ?_
  rintro ev w12 ⟨rfl, hA⟩
  have A12 := Lib.hid hA
  clear hA A11
  go_wp2_with fail
  refine (alone_Entries_none (HN.out 12 (by decide)) A12.out).mono ?_
  rintro ev w13 ⟨rfl, hA⟩
  have A13 := Lib.hid hA
  clear hA A12
  go_wp2_with fail
  refine (alone_Told_none (HN.out 13 (by decide)) A13.out).mono ?_
  rintro ev w14 ⟨rfl, hA⟩
  have A14 := Lib.hid hA
  clear hA A13
  go_wp2_with fail
  refine (alone_Tokens_none (HN.out 14 (by decide)) A14.out).mono ?_
  rintro ev w15 ⟨rfl, hA⟩
  have A15 := Lib.hid hA
  clear hA A14
  go_wp2_with fail
  refine (alone_Slots_none (HN.out 15 (by decide)) A15.out).mono ?_
  rintro ev w16 ⟨rfl, hA⟩
  have A16 := Lib.hid hA
  clear hA A15
  go_wp2_with fail
  refine (alone_Fates_none (HN.out 16 (by decide)) A16.out).mono ?_
  rintro ev w17 ⟨rfl, hA⟩
  have A17 := Lib.hid hA
  clear hA A16
  go_wp2_with fail
  refine (alone_Points_any k17 A17.out).mono ?_
  rintro ev w18 ⟨rfl, hA⟩
  have A18 := Lib.hid hA
  clear hA A17
  go_wp2_with fail
  refine (alone_Writes_none (HN.out 18 (by decide)) A18.out).mono ?_
  rintro ev w19 ⟨rfl, hA⟩
  have A19 := Lib.hid hA
  clear hA A18
  go_wp2_with fail
  refine (alone_Deltas_none (HN.out 19 (by decide)) A19.out).mono ?_
  rintro ev w20 ⟨rfl, hA⟩
  have A20 := Lib.hid hA
  clear hA A19
  go_wp2_with fail
  refine (alone_SeriesList_none (HN.out 20 (by decide)) A20.out).mono ?_
  rintro ev w21 ⟨rfl, hA⟩
  have A21 := Lib.hid hA
  clear hA A20
  go_wp2_with fail
  refine (alone_Items_none (HN.out 21 (by decide)) A21.out).mono ?_
  rintro ev w22 ⟨rfl, hA⟩
  have A22 := Lib.hid hA
  clear hA A21
  go_wp2_with fail
  refine (alone_Tables_none (HN.out 22 (by decide)) A22.out).mono ?_
  rintro ev w23 ⟨rfl, hA⟩
  have A23 := Lib.hid hA
  clear hA A22
  go_wp2_with fail
  refine (alone_Outs_none (HN.out 23 (by decide)) A23.out).mono ?_
  rintro ev w24 ⟨rfl, hA⟩
  have A24 := Lib.hid hA
  clear hA A23
  go_wp2_with fail
  refine (alone_TextLists_none (HN.out 24 (by decide)) A24.out).mono ?_
  rintro ev w25 ⟨rfl, hA⟩
  have A25 := Lib.hid hA
  clear hA A24
  go_wp2_with fail
  refine (alone_Cells_none (HN.out 25 (by decide)) A25.out).mono ?_
  rintro ev w26 ⟨rfl, hA⟩
  have A26 := Lib.hid hA
  clear hA A25
  go_wp2_with fail
  refine (alone_Rows_none (HN.out 26 (by decide)) A26.out).mono ?_
  rintro ev w27 ⟨rfl, hA⟩
  have A27 := Lib.hid hA
  clear hA A26
  go_wp2_with fail
  refine (alone_Images_none (HN.out 27 (by decide)) A27.out).mono ?_
  rintro ev w28 ⟨rfl, hA⟩
  have A28 := Lib.hid hA
  clear hA A27
  obtain ⟨C, hC1, hC2, -⟩ := A28.out.bk
  have HS := Lib.hid (below_setRow A28.out.blw A28.out.hb bookN)
  clear A28
  go_upto_region 2 with (fail)
  go_wp2_with (refine wpList_store_row rfl _ _ _ rfl b bookN rfl rfl _ C hC1 book_info hC2 (by kernel_rfl) ?_)
  go_ret
  exact ⟨rfl, HS.out⟩
end Go.Proofs.YtnodjijgeifejaaGreatDoor
