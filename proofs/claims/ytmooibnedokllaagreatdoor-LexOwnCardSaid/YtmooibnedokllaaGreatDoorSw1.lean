/- Package span and its reference: small functions on whole numbers and bytes. -/
import Derived.Test.YtmooibnedokllaaGreatDoorBase
import Derived.Test.YtmooibnedokllaaGreatDoorCal
import Derived.Test.YtmooibnedokllaaGreatDoorSpanA
import Derived.WalkSmall
import Derived.LoopTactic
namespace Go.Proofs.YtmooibnedokllaaGreatDoor
open Go.RowKit
set_option linter.unusedSimpArgs false
set_option linter.unusedVariables false

theorem ret_i {k : IntKind} {a b : Int} (h : a = b) : Ending.returned (.int k a) = .returned (.int k b) := by rw [h]
theorem ret_b {a b : Bool} (h : a = b) : Ending.returned (.bool a) = .returned (.bool b) := by rw [h]
set_option maxHeartbeats 2000000 in
theorem ref_digit (c : UInt8) (w : World) :
    Calls Tryz.prog 131 #[.int .u8 c.toNat] w fun e w' => e = .returned (.bool (isD c)) ∧ w = w' := by
  have hb : c.toNat < 256 := c.toNat_lt
  by_cases h0 : 48 ≤ c.toNat
  · by_cases h1 : c.toNat ≤ 57
    · have E := Lib.hid (show isD c = true from isD_iff.2 ⟨h0, h1⟩)
      rw [E.out]
      go_enter Tryz.func131, Tryz.ntmps131
      go_wp2
      go_ret
      exact ⟨ret_b (by simp; omega), rfl⟩
    · have E := Lib.hid (show isD c = false by cases h : isD c with | false => rfl | true => exact absurd (isD_iff.1 h).2 h1)
      rw [E.out]
      go_enter Tryz.func131, Tryz.ntmps131
      go_wp2
      go_ret
      exact ⟨ret_b (by simp; omega), rfl⟩
  · have E := Lib.hid (show isD c = false by cases h : isD c with | false => rfl | true => exact absurd (isD_iff.1 h).1 h0)
    rw [E.out]
    go_enter Tryz.func131, Tryz.ntmps131
    go_wp2
    go_ret
    exact ⟨rfl, rfl⟩
theorem runD_lt {l : List UInt8} {k : Nat} (h : k < runD l) : ∃ hk : k < l.length, isD (l[k]'hk) = true := by
  have hl := runD_le l
  refine ⟨by omega, ?_⟩
  have := runD_take l (l[k]'(by omega)) (by rw [List.mem_take_iff_getElem]; exact ⟨k, by omega, rfl⟩)
  exact this
set_option maxHeartbeats 4000000 in
theorem span_digits (s : ByteArray) (hs : s.size ≤ 140737488355328) (w : World) :
    Calls Tryz.prog 122 #[.string s] w fun e w' => e = .returned (.int .i64 (runD s.data.toList)) ∧ w = w' := by
  have hl : runD s.data.toList ≤ s.size := runD_le s.data.toList
  go_enter Tryz.func122, Tryz.ntmps122
  go_wp2
  go_loop [3] (fun v => ∃ k : Nat, k ≤ runD s.data.toList ∧ v = .int .i64 k) (fun v => s.size - (intOf v).toNat)
  case atStart => exact ⟨0, Nat.zero_le _, rfl⟩
  case round =>
    obtain ⟨k, hk, rfl⟩ := hrel
    by_cases hlt : k < runD s.data.toList
    · obtain ⟨hk1, hd⟩ := runD_lt hlt
      have hk2 : k < s.size := hk1
      have hd2 := isD_iff.1 (show isD s[k] = true from hd)
      have b0 : 48 ≤ s[k].toNat := hd2.1
      have b1 : s[k].toNat ≤ 57 := hd2.2
      clear hd hd2
      go_wp2
      go_round
      case rel => exact ⟨k + 1, by omega, by go_num⟩
      case measure => simp [intOf]; omega
    · obtain rfl : runD s.data.toList = k := by omega
      by_cases h2 : runD s.data.toList < s.size
      · have hd := runD_next s.data.toList h2
        have hd2 : isD (s[runD s.data.toList]'h2) = false := hd
        have hd3 : ¬ (48 ≤ (s[runD s.data.toList]'h2).toNat ∧ (s[runD s.data.toList]'h2).toNat ≤ 57) := fun h => by rw [isD_iff.2 h] at hd2; cases hd2
        clear hd hd2
        by_cases b0 : 48 ≤ (s[runD s.data.toList]'h2).toNat
        · have b1 : ¬ (s[runD s.data.toList]'h2).toNat ≤ 57 := fun h => hd3 ⟨b0, h⟩
          clear hd3
          go_wp2
          go_ret
          exact ⟨rfl, rfl⟩
        · clear hd3
          go_wp2
          go_ret
          exact ⟨rfl, rfl⟩
      · go_wp2
        go_ret
        exact ⟨rfl, rfl⟩
/-- A unit's length by its name; 0: there is none. -/
def unitBy (l : List UInt8) : Int := if l = [110, 115] then 1 else  if l = [117, 115] then 1000 else  if l = [109, 115] then 1000000 else  if l = [115] then 1000000000 else  if l = [109] then 60000000000 else  if l = [104] then 3600000000000 else  if l = [100] then 86400000000000 else  if l = [119] then 604800000000000 else 0
set_option maxHeartbeats 4000000 in
theorem ref_unit (s : ByteArray) (w : World) :
    Calls Tryz.prog 133 #[.string s] w fun e w' => e = .returned (.int .i64 (unitBy s.data.toList)) ∧ w = w' := by
  have hs : s.toList = s.data.toList := Lib.toList_data s
  unfold unitBy
  by_cases e0 : s.data.toList = [110, 115]
  · have k0 : (s.toList == [110, 115]) = true := by rw [hs, e0]; rfl
    have E := Lib.hid (show (if s.data.toList = [110, 115] then (1 : Int) else if s.data.toList = [117, 115] then (1000 : Int) else if s.data.toList = [109, 115] then (1000000 : Int) else if s.data.toList = [115] then (1000000000 : Int) else if s.data.toList = [109] then (60000000000 : Int) else if s.data.toList = [104] then (3600000000000 : Int) else if s.data.toList = [100] then (86400000000000 : Int) else if s.data.toList = [119] then (604800000000000 : Int) else 0 : Int) = 1 by rw [if_pos e0])
    rw [E.out]
    clear hs e0
    go_enter Tryz.func133, Tryz.ntmps133
    go_wp2
    go_ret
    exact ⟨rfl, rfl⟩
  have k0 : (s.toList == [110, 115]) = false := by rw [hs]; simpa using e0
  by_cases e1 : s.data.toList = [117, 115]
  · have k1 : (s.toList == [117, 115]) = true := by rw [hs, e1]; rfl
    have E := Lib.hid (show (if s.data.toList = [110, 115] then (1 : Int) else if s.data.toList = [117, 115] then (1000 : Int) else if s.data.toList = [109, 115] then (1000000 : Int) else if s.data.toList = [115] then (1000000000 : Int) else if s.data.toList = [109] then (60000000000 : Int) else if s.data.toList = [104] then (3600000000000 : Int) else if s.data.toList = [100] then (86400000000000 : Int) else if s.data.toList = [119] then (604800000000000 : Int) else 0 : Int) = 1000 by rw [if_neg e0, if_pos e1])
    rw [E.out]
    clear hs e0 e1
    go_enter Tryz.func133, Tryz.ntmps133
    go_wp2
    go_ret
    exact ⟨rfl, rfl⟩
  have k1 : (s.toList == [117, 115]) = false := by rw [hs]; simpa using e1
  by_cases e2 : s.data.toList = [109, 115]
  · have k2 : (s.toList == [109, 115]) = true := by rw [hs, e2]; rfl
    have E := Lib.hid (show (if s.data.toList = [110, 115] then (1 : Int) else if s.data.toList = [117, 115] then (1000 : Int) else if s.data.toList = [109, 115] then (1000000 : Int) else if s.data.toList = [115] then (1000000000 : Int) else if s.data.toList = [109] then (60000000000 : Int) else if s.data.toList = [104] then (3600000000000 : Int) else if s.data.toList = [100] then (86400000000000 : Int) else if s.data.toList = [119] then (604800000000000 : Int) else 0 : Int) = 1000000 by rw [if_neg e0, if_neg e1, if_pos e2])
    rw [E.out]
    clear hs e0 e1 e2
    go_enter Tryz.func133, Tryz.ntmps133
    go_wp2
    go_ret
    exact ⟨rfl, rfl⟩
  have k2 : (s.toList == [109, 115]) = false := by rw [hs]; simpa using e2
  by_cases e3 : s.data.toList = [115]
  · have k3 : (s.toList == [115]) = true := by rw [hs, e3]; rfl
    have E := Lib.hid (show (if s.data.toList = [110, 115] then (1 : Int) else if s.data.toList = [117, 115] then (1000 : Int) else if s.data.toList = [109, 115] then (1000000 : Int) else if s.data.toList = [115] then (1000000000 : Int) else if s.data.toList = [109] then (60000000000 : Int) else if s.data.toList = [104] then (3600000000000 : Int) else if s.data.toList = [100] then (86400000000000 : Int) else if s.data.toList = [119] then (604800000000000 : Int) else 0 : Int) = 1000000000 by rw [if_neg e0, if_neg e1, if_neg e2, if_pos e3])
    rw [E.out]
    clear hs e0 e1 e2 e3
    go_enter Tryz.func133, Tryz.ntmps133
    go_wp2
    go_ret
    exact ⟨rfl, rfl⟩
  have k3 : (s.toList == [115]) = false := by rw [hs]; simpa using e3
  by_cases e4 : s.data.toList = [109]
  · have k4 : (s.toList == [109]) = true := by rw [hs, e4]; rfl
    have E := Lib.hid (show (if s.data.toList = [110, 115] then (1 : Int) else if s.data.toList = [117, 115] then (1000 : Int) else if s.data.toList = [109, 115] then (1000000 : Int) else if s.data.toList = [115] then (1000000000 : Int) else if s.data.toList = [109] then (60000000000 : Int) else if s.data.toList = [104] then (3600000000000 : Int) else if s.data.toList = [100] then (86400000000000 : Int) else if s.data.toList = [119] then (604800000000000 : Int) else 0 : Int) = 60000000000 by rw [if_neg e0, if_neg e1, if_neg e2, if_neg e3, if_pos e4])
    rw [E.out]
    clear hs e0 e1 e2 e3 e4
    go_enter Tryz.func133, Tryz.ntmps133
    go_wp2
    go_ret
    exact ⟨rfl, rfl⟩
  have k4 : (s.toList == [109]) = false := by rw [hs]; simpa using e4
  by_cases e5 : s.data.toList = [104]
  · have k5 : (s.toList == [104]) = true := by rw [hs, e5]; rfl
    have E := Lib.hid (show (if s.data.toList = [110, 115] then (1 : Int) else if s.data.toList = [117, 115] then (1000 : Int) else if s.data.toList = [109, 115] then (1000000 : Int) else if s.data.toList = [115] then (1000000000 : Int) else if s.data.toList = [109] then (60000000000 : Int) else if s.data.toList = [104] then (3600000000000 : Int) else if s.data.toList = [100] then (86400000000000 : Int) else if s.data.toList = [119] then (604800000000000 : Int) else 0 : Int) = 3600000000000 by rw [if_neg e0, if_neg e1, if_neg e2, if_neg e3, if_neg e4, if_pos e5])
    rw [E.out]
    clear hs e0 e1 e2 e3 e4 e5
    go_enter Tryz.func133, Tryz.ntmps133
    go_wp2
    go_ret
    exact ⟨rfl, rfl⟩
  have k5 : (s.toList == [104]) = false := by rw [hs]; simpa using e5
  by_cases e6 : s.data.toList = [100]
  · have k6 : (s.toList == [100]) = true := by rw [hs, e6]; rfl
    have E := Lib.hid (show (if s.data.toList = [110, 115] then (1 : Int) else if s.data.toList = [117, 115] then (1000 : Int) else if s.data.toList = [109, 115] then (1000000 : Int) else if s.data.toList = [115] then (1000000000 : Int) else if s.data.toList = [109] then (60000000000 : Int) else if s.data.toList = [104] then (3600000000000 : Int) else if s.data.toList = [100] then (86400000000000 : Int) else if s.data.toList = [119] then (604800000000000 : Int) else 0 : Int) = 86400000000000 by rw [if_neg e0, if_neg e1, if_neg e2, if_neg e3, if_neg e4, if_neg e5, if_pos e6])
    rw [E.out]
    clear hs e0 e1 e2 e3 e4 e5 e6
    go_enter Tryz.func133, Tryz.ntmps133
    go_wp2
    go_ret
    exact ⟨rfl, rfl⟩
  have k6 : (s.toList == [100]) = false := by rw [hs]; simpa using e6
  by_cases e7 : s.data.toList = [119]
  · have k7 : (s.toList == [119]) = true := by rw [hs, e7]; rfl
    have E := Lib.hid (show (if s.data.toList = [110, 115] then (1 : Int) else if s.data.toList = [117, 115] then (1000 : Int) else if s.data.toList = [109, 115] then (1000000 : Int) else if s.data.toList = [115] then (1000000000 : Int) else if s.data.toList = [109] then (60000000000 : Int) else if s.data.toList = [104] then (3600000000000 : Int) else if s.data.toList = [100] then (86400000000000 : Int) else if s.data.toList = [119] then (604800000000000 : Int) else 0 : Int) = 604800000000000 by rw [if_neg e0, if_neg e1, if_neg e2, if_neg e3, if_neg e4, if_neg e5, if_neg e6, if_pos e7])
    rw [E.out]
    clear hs e0 e1 e2 e3 e4 e5 e6 e7
    go_enter Tryz.func133, Tryz.ntmps133
    go_wp2
    go_ret
    exact ⟨rfl, rfl⟩
  have k7 : (s.toList == [119]) = false := by rw [hs]; simpa using e7
  rw [if_neg e0, if_neg e1, if_neg e2, if_neg e3, if_neg e4, if_neg e5, if_neg e6, if_neg e7]
  clear hs e0 e1 e2 e3 e4 e5 e6 e7
  go_enter Tryz.func133, Tryz.ntmps133
  go_wp2
  go_ret
  exact ⟨rfl, rfl⟩
end Go.Proofs.YtmooibnedokllaaGreatDoor
