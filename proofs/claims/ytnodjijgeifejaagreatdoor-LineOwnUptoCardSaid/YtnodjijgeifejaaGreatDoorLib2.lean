/- More of the library in one form: ParseInt and FormatInt in decimal at 64 bits, a byte in a string. -/
import Derived.Test.YtnodjijgeifejaaGreatDoorLib
import Derived.Lib.ParseIntBTie
namespace Go.Proofs.YtnodjijgeifejaaGreatDoor
open Go.RowKit
set_option linter.unusedSimpArgs false
set_option linter.unusedVariables false




theorem strconv_ParseInt (s : ByteArray) (hs : s.size ≤ 281474976710656) (w : World) (L : LayS w) :
    Calls Tryz.prog 113 #[.string s, .int .i64 10, .int .i64 64] w (AtoiPost (atoiV s) w) := by
  unfold atoiV
  have e0 := Lib.parseIntB_64 s.data.toList
  have e1 := Lib.intSat_64 s.data.toList
  rcases h : Lib.atoiAll s.data.toList with v | _ | _
  case ok =>
    refine (Tryz.strconv_ParseInt_10_at64_ok s (by omega) v (e0.trans h) w).mono ?_
    rintro ev w' ⟨rfl, hw⟩
    refine ⟨_, rfl, rfl, ?_⟩
    rcases hw with rfl | ⟨t, rfl⟩
    · exact Below.refl _ _
    · exact Lib.bytesWorld_below _ _ _
  rotate_left
  case range =>
    obtain ⟨tp, p, hv⟩ := L.rng
    refine (Tryz.strconv_ParseInt_10_at64_range_var s hs (e0.trans h) tp p w hv).mono ?_
    rintro ev w' ⟨N, rfl, _, _, hB⟩
    exact ⟨_, by rw [e1], ⟨_, rfl⟩, hB⟩
  obtain ⟨tp, p, hv⟩ := L.syn
  refine (Tryz.strconv_ParseInt_10_at64_syntax_var s hs (e0.trans h) tp p w hv).mono ?_
  rintro ev w' ⟨N, rfl, _, _, hB⟩
  exact ⟨_, rfl, ⟨_, rfl⟩, hB⟩
theorem strconv_FormatInt (n : Int) (h0 : -9223372036854775808 ≤ n) (h1 : n ≤ 9223372036854775807) (w : World) (L : Lay w) :
    Calls Tryz.prog 30 #[.int .i64 n, .int .i64 10] w fun ev w' => ev = .returned (.string (itoa n)) ∧ Below w.heap.size w w' := by
  refine (Tryz.strconv_FormatInt_10 n h0 h1 w L.tab).mono ?_
  rintro ev w' ⟨rfl, k, os, rfl⟩
  exact ⟨rfl, Lib.below_grow _ w (Nat.le_refl _) k os⟩
theorem strings_IndexByte (s : ByteArray) (c : Int) (w : World) :
    Calls Tryz.prog 96 #[.string s, .int .u8 c] w fun ev w' => ev = .returned (.int .i64 (Lib.indexByte s.data.toList c.toNat.toUInt8)) ∧ w = w' :=
  (Tryz.strings_IndexByte s c w).mono fun ev w' h => ⟨h.1, h.2.symm⟩
theorem strings_Contains_one (s : ByteArray) (c : UInt8) (w : World) :
    Calls Tryz.prog 102 #[.string s, .string ⟨#[c]⟩] w fun ev w' => ev = .returned (.bool (decide (0 ≤ Lib.indexByte s.data.toList c))) ∧ w = w' :=
  (Tryz.strings_Contains_one s c w).mono fun ev w' h => ⟨h.1, h.2.symm⟩
end Go.Proofs.YtnodjijgeifejaaGreatDoor
