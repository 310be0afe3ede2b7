/- Reading a time: what it says, in nanoseconds. -/
import Derived.Test.YthplpjcadjnfiaaGreatDoorSw21
namespace Go.Proofs.YthplpjcadjnfiaaGreatDoor
open Go.RowKit
set_option linter.unusedSimpArgs false
set_option linter.unusedVariables false

theorem said_pos {s ns : Int} (h : 0 ≤ s) (n0 : 0 ≤ ns) (n1 : ns ≤ 999999999) : ∃ m c, fitP (s * 1000000000) = (m, c) ∧ (c = 0 ∨ c = 20) ∧ (c = 20 → fitP (s * 1000000000 + ns) = (0, 20) ∧ m = 0) ∧ (c = 0 → fitP (s * 1000000000 + ns) = fitP (m + ns) ∧ -9223372036854775808 ≤ m ∧ m ≤ 9223372036854775807) := by
  unfold fitP
  by_cases h1 : -9223372036854775808 ≤ s * 1000000000 ∧ s * 1000000000 ≤ 9223372036854775807
  · exact ⟨_, _, if_pos h1, Or.inl rfl, (fun h => absurd h (by decide)), fun _ => ⟨rfl, h1.1, h1.2⟩⟩
  · exact ⟨_, _, if_neg h1, Or.inr rfl, fun _ => ⟨if_neg (by omega), rfl⟩, fun h => absurd h (by decide)⟩
theorem said_neg {s ns : Int} (h : s < 0) (n0 : 0 ≤ ns) (n1 : ns ≤ 999999999) : ∃ m c, fitP ((s + 1) * 1000000000) = (m, c) ∧ (c = 0 ∨ c = 20) ∧ (c = 20 → fitP (s * 1000000000 + ns) = (0, 20) ∧ m = 0) ∧ (c = 0 → fitP (s * 1000000000 + ns) = fitP (m + (ns - 1000000000)) ∧ -9223372036854775808 ≤ m ∧ m ≤ 9223372036854775807) := by
  unfold fitP
  by_cases h1 : -9223372036854775808 ≤ (s + 1) * 1000000000 ∧ (s + 1) * 1000000000 ≤ 9223372036854775807
  · refine ⟨_, _, if_pos h1, Or.inl rfl, (fun h => absurd h (by decide)), fun _ => ⟨?_, h1.1, h1.2⟩⟩
    rw [show s * 1000000000 + ns = (s + 1) * 1000000000 + (ns - 1000000000) by omega]
  · exact ⟨_, _, if_neg h1, Or.inr rfl, fun _ => ⟨if_neg (by omega), rfl⟩, fun h => absurd h (by decide)⟩
set_option maxRecDepth 100000 in
set_option maxHeartbeats 4000000 in
theorem reading_said (r : Rv) (b : Nat) (hv : validD r.y r.mo r.d = true) (h0 : 0 ≤ r.h) (h1 : r.h ≤ 23) (mi0 : 0 ≤ r.mi) (mi1 : r.mi ≤ 59) (se0 : 0 ≤ r.sec) (se1 : r.sec ≤ 59) (n0 : 0 ≤ r.ns) (n1 : r.ns ≤ 999999999) (z0 : -1439 ≤ r.z) (z1 : r.z ≤ 1439) (w : World) (h : RvAt w b r) :
    Calls Tryz.prog 65 #[.pointer (some ⟨b, 0, none⟩)] w fun e w' => e = .returned (.tuple #[.int .i64 (fitP (nsec r.y r.mo r.d r.h r.mi r.sec r.ns r.z)).1, encE (mkE (fitP (nsec r.y r.mo r.d r.h r.mi r.sec r.ns r.z)).2)]) ∧ w.grownBy w' (some b) := by
  have hd31 := daysM_bd r.y r.mo
  have hvv := validD_iff.1 hv
  have CD := fun W => span_Day r.y r.mo r.d (by omega) (by omega) W
  have hdp : dayP r.y r.mo r.d = (dayN r.y r.mo r.d, 0) := if_pos hv
  rw [hdp] at CD
  have CDq : ∀ W, Calls Tryz.prog 25 #[.int .i64 r.y, .int .i64 r.mo, .int .i64 r.d] W fun e w' => e = .returned (.tuple #[.int .i64 (dayN r.y r.mo r.d), .nilIface]) ∧ w' = W := fun W => (CD W).mono fun _ _ h => ⟨h.1, h.2.symm⟩
  have hb := day_bd hv
  obtain ⟨S, hS⟩ : ∃ S : Int, S = dayN r.y r.mo r.d * 86400 + r.h * 3600 + (r.mi - r.z) * 60 + r.sec := ⟨_, rfl⟩
  have HN : Hid (nsec r.y r.mo r.d r.h r.mi r.sec r.ns r.z = S * 1000000000 + r.ns) := Lib.hid (by unfold nsec; omega)
  rw [HN.out]
  have hSb : -100000000000 ≤ S ∧ S ≤ 300000000000 := by omega
  have c2 := h.c.2.2.1
  have c3 := h.c.2.2.2.1
  have c4 := h.c.2.2.2.2.1
  have c5 := h.c.2.2.2.2.2.1
  have c6 := h.c.2.2.2.2.2.2.1
  have c7 := h.c.2.2.2.2.2.2.2.1
  have c9 := h.c.2.2.2.2.2.2.2.2.2
  have HR := Lib.hid h
  have hbl := h.lt
  generalize dayN r.y r.mo r.d = D at *
  have e1 : IntKind.i64.wrap (D * 86400) = D * 86400 := by rw [IntKind.wrap_i64]; omega
  have e2 : IntKind.i64.wrap (r.h * 3600) = r.h * 3600 := by rw [IntKind.wrap_i64]; omega
  have e3 : IntKind.i64.wrap (D * 86400 + r.h * 3600) = D * 86400 + r.h * 3600 := by rw [IntKind.wrap_i64]; omega
  have e4 : IntKind.i64.wrap (r.mi - r.z) = r.mi - r.z := by rw [IntKind.wrap_i64]; omega
  have e5 : IntKind.i64.wrap ((r.mi - r.z) * 60) = (r.mi - r.z) * 60 := by rw [IntKind.wrap_i64]; omega
  have e6 : IntKind.i64.wrap (D * 86400 + r.h * 3600 + (r.mi - r.z) * 60) = D * 86400 + r.h * 3600 + (r.mi - r.z) * 60 := by rw [IntKind.wrap_i64]; omega
  have e7 : IntKind.i64.wrap (D * 86400 + r.h * 3600 + (r.mi - r.z) * 60 + r.sec) = S := by rw [IntKind.wrap_i64]; omega
  clear hdp hv hvv hd31 CD hS h hb
  by_cases hneg : S < 0
  · have kN : decide (S < 0) = true := by simpa using hneg
    obtain ⟨m, c, f1, hc, hover, hfit⟩ := said_neg hneg n0 n1
    have CM := fun W => num_Mul (S + 1) 1000000000 (by omega) (by omega) (by omega) (by omega) W
    rw [f1] at CM
    have HO := Lib.hid hover
    have HF := Lib.hid hfit
    clear hover hfit f1 HN
    go_enter Tryz.func65, Tryz.ntmps65
    go_wp2_with fail
    go_quiet ((go_at_call 25; exact Calls.quiet_of_same (CDq _)))
    clear c2 c3 c4 c5 c6 c7 c9
    generalize hV : w.drewN _ = V at *
    have BV : Below w.heap.size w V := by rw [← hV]; exact below_drewN (Below.refl _ _) _
    have RV := HR.out.next BV
    have c5 := RV.c.2.2.2.2.2.1
    have c6 := RV.c.2.2.2.2.2.2.1
    have c7 := RV.c.2.2.2.2.2.2.2.1
    have c9 := RV.c.2.2.2.2.2.2.2.2.2
    have HBV := Lib.hid BV
    have HRV := Lib.hid RV
    clear hV BV RV
    go_wp2_with fail
    go_quiet (fail)
    clear c5 c6 c7 c9 e1 e2 e3 e4 e5 e6 e7
    generalize hV2 : V.drewN _ = V2 at *
    have BV2 : Below V.heap.size V V2 := by rw [← hV2]; exact below_drewN (Below.refl _ _) _
    have RV2 := HRV.out.next BV2
    have BW2 : Below w.heap.size w V2 := HBV.out.trans (BV2.mono HBV.out.size)
    have c8 := RV2.c.2.2.2.2.2.2.2.2.1
    have f8 := RV2.f 8
    have HRV2 := Lib.hid RV2
    have HBW2 := Lib.hid BW2
    clear hV2 BV2 RV2 BW2
    have N1 := fun W => encE_neq (mkE c) W
    have G1 := er_guardE (mkE c)
    have R3 : RvAt (V2.setCell ⟨b, 8, none⟩ (.int .i64 (r.ns - 1000000000))) b { r with ns := r.ns - 1000000000 } := by
      have := blk_set' HRV2.out 8 (.int .i64 (r.ns - 1000000000))
      simpa [RvAt] using this
    have HR3 := Lib.hid R3
    clear R3
    rcases hc with rfl | rfl
    · obtain ⟨g1, g2, g3⟩ := HF.out rfl
      have HG := Lib.hid g1
      have CA := fun W => num_Add m (r.ns - 1000000000) g2 g3 (by omega) (by omega) W
      clear g1
      rw [show (mkE 0).isSome = false by rfl] at N1
      generalize encE (mkE 0) = ev at *
      go_wp2_with (first | (go_at_call 40; refine (CM _).mono ?_; rintro e w4 ⟨rfl, hB⟩; have c8' := (HR3.out.next hB).c.2.2.2.2.2.2.2.2.1) | (go_at_call 41; refine (CA _).mono ?_; rintro e w5 ⟨rfl, rfl⟩))
      go_ret2
      exact ⟨by rw [HG.out]; rfl, grown_trans (grown_one HBW2.out 8 _) (grown_of_below hB (Nat.le_refl _) _)⟩
    · obtain ⟨g1, rfl⟩ := HO.out rfl
      have HG := Lib.hid g1
      clear g1
      rw [show (mkE 20).isSome = true by rfl] at N1
      generalize hev : encE (mkE 20) = ev at *
      have HEV := Lib.hid hev
      clear hev
      go_wp2_with (first | (go_at_call 40; refine (CM _).mono ?_; rintro e w4 ⟨rfl, hB⟩))
      go_ret2
      exact ⟨by rw [HG.out, ← HEV.out]; rfl, grown_trans (grown_one HBW2.out 8 _) (grown_of_below hB (Nat.le_refl _) _)⟩
  · have kN : decide (S < 0) = false := by simpa using hneg
    obtain ⟨m, c, f1, hc, hover, hfit⟩ := said_pos (s := S) (ns := r.ns) (by omega) n0 n1
    have CM := fun W => num_Mul S 1000000000 (by omega) (by omega) (by omega) (by omega) W
    rw [f1] at CM
    have HO := Lib.hid hover
    have HF := Lib.hid hfit
    clear hover hfit f1 HN
    go_enter Tryz.func65, Tryz.ntmps65
    go_wp2_with fail
    go_quiet ((go_at_call 25; exact Calls.quiet_of_same (CDq _)))
    clear c2 c3 c4 c5 c6 c7 c9
    generalize hV : w.drewN _ = V at *
    have BV : Below w.heap.size w V := by rw [← hV]; exact below_drewN (Below.refl _ _) _
    have RV := HR.out.next BV
    have c5 := RV.c.2.2.2.2.2.1
    have c6 := RV.c.2.2.2.2.2.2.1
    have c7 := RV.c.2.2.2.2.2.2.2.1
    have c9 := RV.c.2.2.2.2.2.2.2.2.2
    have HBV := Lib.hid BV
    have HRV := Lib.hid RV
    clear hV BV RV
    go_wp2_with fail
    go_quiet (fail)
    clear c5 c6 c7 c9 e1 e2 e3 e4 e5 e6 e7
    generalize hV2 : V.drewN _ = V2 at *
    have BV2 : Below V.heap.size V V2 := by rw [← hV2]; exact below_drewN (Below.refl _ _) _
    have RV2 := HRV.out.next BV2
    have BW2 : Below w.heap.size w V2 := HBV.out.trans (BV2.mono HBV.out.size)
    have c8 := RV2.c.2.2.2.2.2.2.2.2.1
    have f8 := RV2.f 8
    have HRV2 := Lib.hid RV2
    have HBW2 := Lib.hid BW2
    clear hV2 BV2 RV2 BW2
    have N1 := fun W => encE_neq (mkE c) W
    have G1 := er_guardE (mkE c)
    rcases hc with rfl | rfl
    · obtain ⟨g1, g2, g3⟩ := HF.out rfl
      have HG := Lib.hid g1
      have CA := fun W => num_Add m (r.ns) g2 g3 (by omega) (by omega) W
      clear g1
      rw [show (mkE 0).isSome = false by rfl] at N1
      generalize encE (mkE 0) = ev at *
      go_wp2_with (first | (go_at_call 40; refine (CM _).mono ?_; rintro e w4 ⟨rfl, hB⟩; have c8' := (HRV2.out.next hB).c.2.2.2.2.2.2.2.2.1) | (go_at_call 41; refine (CA _).mono ?_; rintro e w5 ⟨rfl, rfl⟩))
      go_ret2
      exact ⟨by rw [HG.out]; rfl, grown_trans (grown_of_below HBW2.out (Nat.le_refl _) _) (grown_of_below hB (Nat.le_refl _) _)⟩
    · obtain ⟨g1, rfl⟩ := HO.out rfl
      have HG := Lib.hid g1
      clear g1
      rw [show (mkE 20).isSome = true by rfl] at N1
      generalize hev : encE (mkE 20) = ev at *
      have HEV := Lib.hid hev
      clear hev
      go_wp2_with (first | (go_at_call 40; refine (CM _).mono ?_; rintro e w4 ⟨rfl, hB⟩))
      go_ret2
      exact ⟨by rw [HG.out, ← HEV.out]; rfl, grown_trans (grown_of_below HBW2.out (Nat.le_refl _) _) (grown_of_below hB (Nat.le_refl _) _)⟩
end Go.Proofs.YthplpjcadjnfiaaGreatDoor
