/- weirref06's reader: number. -/
import Derived.Test.YtnodjijgeifejaaGreatDoorRreader
import Derived.Test.YtnodjijgeifejaaGreatDoorNumber
namespace Go.Proofs.YtnodjijgeifejaaGreatDoor
open Go.RowKit
set_option linter.unusedSimpArgs false
set_option linter.unusedVariables false

theorem number_short (s : ByteArray) (a : Nat) : numberP s a = if itoa (atoiV (s.extract a (endP s a))).1 = s.extract a (endP s a) then .ok (atoiV (s.extract a (endP s a))).1 (endP s a) else .no a := by
  unfold numberP
  by_cases h : itoa (atoiV (s.extract a (endP s a))).1 = s.extract a (endP s a)
  · have hv := atoiV_itoa (atoiV (s.extract a (endP s a))).1 (atoiV_all _)
    rw [h] at hv
    rw [if_pos ⟨by rw [hv], h⟩, if_pos h]
  · rw [if_neg (fun q => h q.2), if_neg h]
set_option maxRecDepth 100000 in
theorem ref_number_bad (rb : Nat) (s : ByteArray) (a e : Nat) (w : World) (h : Rst rb s (a, some e) w) :
    Calls Tryz.prog 94 #[.pointer (some ⟨rb, 0, none⟩)] w fun ev w' => RsPost rb s (.int .i64) w (0, (a, some e)) ev w' := by
  have h' := h
  unfold Rst at h'
  simp only [cOf, bOf, pOf] at h'
  have k0 := blk_cell' (h') 0
  have f0 := blk_free' (h') 0
  have k1 := blk_cell' (h') 1
  have f1 := blk_free' (h') 1
  have k2 := blk_cell' (h') 2
  have f2 := blk_free' (h') 2
  have k3 := blk_cell' (h') 3
  have f3 := blk_free' (h') 3
  have k4 := blk_cell' (h') 4
  have f4 := blk_free' (h') 4
  have k5 := blk_cell' (h') 5
  have f5 := blk_free' (h') 5
  have k6 := blk_cell' (h') 6
  have f6 := blk_free' (h') 6
  go_enter Tryz.func94, Tryz.ntmps94
  go_wp2
  go_ret
  exact ⟨rfl, h, grown_refl _ _⟩
set_option maxRecDepth 100000 in
set_option maxHeartbeats 1600000 in
theorem ref_number_good (rb : Nat) (s : ByteArray) (a : Nat) (hs : s.size ≤ 8192) (ha : a ≤ s.size) (w : World) (L : LayS w) (h : Rst rb s (a, none) w) :
    Calls Tryz.prog 94 #[.pointer (some ⟨rb, 0, none⟩)] w fun ev w' => RsPost rb s (.int .i64) w (numberR s (a, none)) ev w' := by
  obtain ⟨hf1, hf2, hf3⟩ := fromP_run s a ha
  have hd45 : isP s 45 a = (if a < s.size then isP s 45 a else false) := by
    by_cases hi : a < s.size
    · rw [if_pos hi]
    · rw [if_neg hi, isP_ge _ hi]
  generalize hRV : numberR s (a, none) = R
  unfold numberR at hRV
  simp only at hRV
  rw [number_short] at hRV
  generalize endP s a = E at hf1 hRV
  have HF := Lib.hid hf1
  clear hf1
  obtain ⟨V, hV⟩ : ∃ V, atoiV (s.extract a E) = V := ⟨_, rfl⟩
  rw [hV] at hRV
  have PI := fun (hE : (s.extract a E).size ≤ 281474976710656) w L => strconv_ParseInt (s.extract a E) hE w L
  have hvI := atoiV_all (s.extract a E)
  rw [hV] at PI hvI
  obtain ⟨v, ok⟩ := V
  simp only at hRV hvI
  have PI := Lib.hid PI
  have HRV := Lib.hid hRV
  clear hV hRV
  have hq0 : ∀ (hi : a < s.size), isP s 45 a = ((s[a].toNat : Int) == 45) := fun hi => isP_lt 45 hi
  have h' := h
  unfold Rst at h'
  simp only [cOf, bOf, pOf] at h'
  have k0 := blk_cell' h' 0
  have k1 := blk_cell' h' 1
  have k2 := blk_cell' h' 2
  generalize hFr : fromP s a = fr at HF hf2 hf3
  unfold fromP at hFr
  go_enter Tryz.func94, Tryz.ntmps94
  by_cases hi : a < s.size
  · by_cases hc : (s[a].toNat : Int) = 45
    · have hq : ((s[a].toNat : Int) == 45) = true := by simpa using hc
      have e1 : fr = a + 1 := by rw [← hFr, hq0 hi, hq]; rfl
      clear hc hq0 hd45 hFr
      go_wp2
      go_loopg [3] (s.size - fr) (fun n v wr => ∃ k : Nat, v = .int .i64 k ∧ k + n = s.size ∧ fr ≤ k ∧ w = wr ∧ k + runD (s.data.toList.drop k) = E)
      case atStart => exact ⟨fr, by rw [e1]; rfl, by omega, Nat.le_refl _, rfl, HF.out⟩
      case round =>
        obtain ⟨k, rfl, hn, hfk, rfl, hk⟩ := hrel
        by_cases hi : k < s.size
        · have hc := digitsP_step s.data.toList k hi
          rw [show s.data.toList[k]'hi = s[k] from rfl] at hc
          have HD := Lib.hid (show isD s[k] = (decide (48 ≤ s[k].toNat) && decide (s[k].toNat ≤ 57)) from rfl)
          have HC := Lib.hid hc
          have HK := Lib.hid hk
          clear hc hk
          rcases (show (48 ≤ s[k].toNat ∧ s[k].toNat ≤ 57) ∨ s[k].toNat < 48 ∨ 57 < s[k].toNat by omega) with ⟨q1, q2⟩ | q1 | q1
          · have hr : runD (s.data.toList.drop k) = runD (s.data.toList.drop (k + 1)) + 1 := by rw [HC.out, if_pos (by rw [HD.out]; simp [q1, q2])]
            have HR := Lib.hid hr
            have a1 : (48 : Int) ≤ (s[k].toNat : Int) := by omega
            have a2 : (s[k].toNat : Int) ≤ 57 := by omega
            clear hr HC HD q1 q2
            go_wp2
            go_roundg (gk - 1)
            case measure => omega
            case rel => exact ⟨k + 1, rfl, by omega, by omega, rfl, by rw [← HK.out, HR.out]; omega⟩
          · have hr : E = k := by rw [← HK.out, HC.out, if_neg (by rw [HD.out]; simp; omega)]; rfl
            have a1 : (s[k].toNat : Int) < 48 := by omega
            subst hr
            clear HC HD HK q1
            have hsl := fun w => slice_run s a E (by omega) (by omega) w
            have hES : (s.extract a E).size ≤ 281474976710656 := by simp; omega
            have hE2 : E ≤ s.size := by omega
            have PI := Lib.hid (PI.out hES)
            clear hES HF hn
            go_wp2
            go_region_held3 (fun w' => w'.cell? ⟨rb, 0, none⟩ = some (.string s) ∧ w'.cell? ⟨rb, 1, none⟩ = some (.int .i64 a))
              (first | exact ⟨k0, k1⟩ | exact ⟨blk_cell' (keep1 h' hB) 0, blk_cell' (keep1 h' hB) 1⟩)
              (first | (go_at_call 113; (with_reducible refine (PI.out _ (L.below (Below.refl _ w).drew)).mono ?_); rintro ev w1 ⟨e, rfl, he, hB⟩) | fail)
            have hB1 : Below w.heap.size w w1 := (Below.refl _ w).drew.trans hB
            have h1 := keep1 h' hB
            clear hB k0 k1 k2 he
            have k0 := blk_cell' h1 0
            have k1 := blk_cell' h1 1
            have FI := Lib.hid (fun w L => strconv_FormatInt v hvI.1 hvI.2 w L)
            have hiz := itoa_size v hvI.1 hvI.2
            have L1 := L.below hB1
            by_cases hx : itoa v = s.extract a E
            · have hqx : ((itoa v).toList == (s.extract a E).toList) = true := str_same hx
              have HR2 := Lib.hid (show R = (v, (E, none)) by rw [← HRV.out, if_pos hx])
              clear HRV hx
              generalize itoa v = iv at *
              go_wp2
              go_region_held3 (fun w' => w'.cell? ⟨rb, 0, none⟩ = some (.string s) ∧ w'.cell? ⟨rb, 1, none⟩ = some (.int .i64 a))
                (first | exact ⟨k0, k1⟩ | exact ⟨blk_cell' (keep1 h1 hB) 0, blk_cell' (keep1 h1 hB) 1⟩)
                (first | (go_at_call 30; (with_reducible refine (FI.out _ (L1.below (Below.refl _ w1).drew).L).mono ?_); rintro ev w2 ⟨rfl, hB⟩) | fail)
              have hB2 : Below w1.heap.size w1 w2 := (Below.refl _ w1).drew.trans hB
              have h2 := keep1 h1 hB
              clear hB k0 k1 hsl
              have k1 := blk_cell' h2 1
              have f1 := blk_free' h2 1
              go_wp2
              go_ret
              rw [HR2.out]
              exact ⟨rfl, Rst.at (st := (a, none)) h2 E, grown_set (grown_next (grown_of_below hB1 (Nat.le_refl _) _) hB2) 1 _⟩
            · have hqx : ((itoa v).toList == (s.extract a E).toList) = false := str_other hx
              have HR2 := Lib.hid (show R = (0, (a, some a)) by rw [← HRV.out, if_neg hx])
              clear HRV hx
              generalize itoa v = iv at *
              go_wp2
              go_region_held3 (fun w' => w'.cell? ⟨rb, 0, none⟩ = some (.string s) ∧ w'.cell? ⟨rb, 1, none⟩ = some (.int .i64 a))
                (first | exact ⟨k0, k1⟩ | exact ⟨blk_cell' (keep1 h1 hB) 0, blk_cell' (keep1 h1 hB) 1⟩)
                (first | (go_at_call 30; (with_reducible refine (FI.out _ (L1.below (Below.refl _ w1).drew).L).mono ?_); rintro ev w2 ⟨rfl, hB⟩) | fail)
              have hB2 : Below w1.heap.size w1 w2 := (Below.refl _ w1).drew.trans hB
              have h2 := keep1 h1 hB
              clear hB k0 k1 hsl
              have k1 := blk_cell' h2 1
              go_wp2_with fail
              refine (ref_fail rb s a none a (a : Int) rfl _ h2).mono ?_
              rintro ev w3 ⟨rfl, h3, hg3⟩
              go_wp2
              go_ret
              rw [HR2.out]
              exact ⟨rfl, h3, grown_trans (grown_next (grown_of_below hB1 (Nat.le_refl _) _) hB2) hg3⟩
          · have hr : E = k := by rw [← HK.out, HC.out, if_neg (by rw [HD.out]; simp; omega)]; rfl
            have a1 : (57 : Int) < (s[k].toNat : Int) := by omega
            have a0 : (48 : Int) ≤ (s[k].toNat : Int) := by omega
            subst hr
            clear HC HD HK q1
            have hsl := fun w => slice_run s a E (by omega) (by omega) w
            have hES : (s.extract a E).size ≤ 281474976710656 := by simp; omega
            have hE2 : E ≤ s.size := by omega
            have PI := Lib.hid (PI.out hES)
            clear hES HF hn
            go_wp2
            go_region_held3 (fun w' => w'.cell? ⟨rb, 0, none⟩ = some (.string s) ∧ w'.cell? ⟨rb, 1, none⟩ = some (.int .i64 a))
              (first | exact ⟨k0, k1⟩ | exact ⟨blk_cell' (keep1 h' hB) 0, blk_cell' (keep1 h' hB) 1⟩)
              (first | (go_at_call 113; (with_reducible refine (PI.out _ (L.below (Below.refl _ w).drew)).mono ?_); rintro ev w1 ⟨e, rfl, he, hB⟩) | fail)
            have hB1 : Below w.heap.size w w1 := (Below.refl _ w).drew.trans hB
            have h1 := keep1 h' hB
            clear hB k0 k1 k2 he
            have k0 := blk_cell' h1 0
            have k1 := blk_cell' h1 1
            have FI := Lib.hid (fun w L => strconv_FormatInt v hvI.1 hvI.2 w L)
            have hiz := itoa_size v hvI.1 hvI.2
            have L1 := L.below hB1
            by_cases hx : itoa v = s.extract a E
            · have hqx : ((itoa v).toList == (s.extract a E).toList) = true := str_same hx
              have HR2 := Lib.hid (show R = (v, (E, none)) by rw [← HRV.out, if_pos hx])
              clear HRV hx
              generalize itoa v = iv at *
              go_wp2
              go_region_held3 (fun w' => w'.cell? ⟨rb, 0, none⟩ = some (.string s) ∧ w'.cell? ⟨rb, 1, none⟩ = some (.int .i64 a))
                (first | exact ⟨k0, k1⟩ | exact ⟨blk_cell' (keep1 h1 hB) 0, blk_cell' (keep1 h1 hB) 1⟩)
                (first | (go_at_call 30; (with_reducible refine (FI.out _ (L1.below (Below.refl _ w1).drew).L).mono ?_); rintro ev w2 ⟨rfl, hB⟩) | fail)
              have hB2 : Below w1.heap.size w1 w2 := (Below.refl _ w1).drew.trans hB
              have h2 := keep1 h1 hB
              clear hB k0 k1 hsl
              have k1 := blk_cell' h2 1
              have f1 := blk_free' h2 1
              go_wp2
              go_ret
              rw [HR2.out]
              exact ⟨rfl, Rst.at (st := (a, none)) h2 E, grown_set (grown_next (grown_of_below hB1 (Nat.le_refl _) _) hB2) 1 _⟩
            · have hqx : ((itoa v).toList == (s.extract a E).toList) = false := str_other hx
              have HR2 := Lib.hid (show R = (0, (a, some a)) by rw [← HRV.out, if_neg hx])
              clear HRV hx
              generalize itoa v = iv at *
              go_wp2
              go_region_held3 (fun w' => w'.cell? ⟨rb, 0, none⟩ = some (.string s) ∧ w'.cell? ⟨rb, 1, none⟩ = some (.int .i64 a))
                (first | exact ⟨k0, k1⟩ | exact ⟨blk_cell' (keep1 h1 hB) 0, blk_cell' (keep1 h1 hB) 1⟩)
                (first | (go_at_call 30; (with_reducible refine (FI.out _ (L1.below (Below.refl _ w1).drew).L).mono ?_); rintro ev w2 ⟨rfl, hB⟩) | fail)
              have hB2 : Below w1.heap.size w1 w2 := (Below.refl _ w1).drew.trans hB
              have h2 := keep1 h1 hB
              clear hB k0 k1 hsl
              have k1 := blk_cell' h2 1
              go_wp2_with fail
              refine (ref_fail rb s a none a (a : Int) rfl _ h2).mono ?_
              rintro ev w3 ⟨rfl, h3, hg3⟩
              go_wp2
              go_ret
              rw [HR2.out]
              exact ⟨rfl, h3, grown_trans (grown_next (grown_of_below hB1 (Nat.le_refl _) _) hB2) hg3⟩
        · have hr : E = k := by rw [← hk, runD_end (by show s.size ≤ k; omega)]; rfl
          subst hr
          clear hk
          have hsl := fun w => slice_run s a E (by omega) (by omega) w
          have hES : (s.extract a E).size ≤ 281474976710656 := by simp; omega
          have hE2 : E ≤ s.size := by omega
          have PI := Lib.hid (PI.out hES)
          clear hES HF hn
          go_wp2
          go_region_held3 (fun w' => w'.cell? ⟨rb, 0, none⟩ = some (.string s) ∧ w'.cell? ⟨rb, 1, none⟩ = some (.int .i64 a))
            (first | exact ⟨k0, k1⟩ | exact ⟨blk_cell' (keep1 h' hB) 0, blk_cell' (keep1 h' hB) 1⟩)
            (first | (go_at_call 113; (with_reducible refine (PI.out _ (L.below (Below.refl _ w).drew)).mono ?_); rintro ev w1 ⟨e, rfl, he, hB⟩) | fail)
          have hB1 : Below w.heap.size w w1 := (Below.refl _ w).drew.trans hB
          have h1 := keep1 h' hB
          clear hB k0 k1 k2 he
          have k0 := blk_cell' h1 0
          have k1 := blk_cell' h1 1
          have FI := Lib.hid (fun w L => strconv_FormatInt v hvI.1 hvI.2 w L)
          have hiz := itoa_size v hvI.1 hvI.2
          have L1 := L.below hB1
          by_cases hx : itoa v = s.extract a E
          · have hqx : ((itoa v).toList == (s.extract a E).toList) = true := str_same hx
            have HR2 := Lib.hid (show R = (v, (E, none)) by rw [← HRV.out, if_pos hx])
            clear HRV hx
            generalize itoa v = iv at *
            go_wp2
            go_region_held3 (fun w' => w'.cell? ⟨rb, 0, none⟩ = some (.string s) ∧ w'.cell? ⟨rb, 1, none⟩ = some (.int .i64 a))
              (first | exact ⟨k0, k1⟩ | exact ⟨blk_cell' (keep1 h1 hB) 0, blk_cell' (keep1 h1 hB) 1⟩)
              (first | (go_at_call 30; (with_reducible refine (FI.out _ (L1.below (Below.refl _ w1).drew).L).mono ?_); rintro ev w2 ⟨rfl, hB⟩) | fail)
            have hB2 : Below w1.heap.size w1 w2 := (Below.refl _ w1).drew.trans hB
            have h2 := keep1 h1 hB
            clear hB k0 k1 hsl
            have k1 := blk_cell' h2 1
            have f1 := blk_free' h2 1
            go_wp2
            go_ret
            rw [HR2.out]
            exact ⟨rfl, Rst.at (st := (a, none)) h2 E, grown_set (grown_next (grown_of_below hB1 (Nat.le_refl _) _) hB2) 1 _⟩
          · have hqx : ((itoa v).toList == (s.extract a E).toList) = false := str_other hx
            have HR2 := Lib.hid (show R = (0, (a, some a)) by rw [← HRV.out, if_neg hx])
            clear HRV hx
            generalize itoa v = iv at *
            go_wp2
            go_region_held3 (fun w' => w'.cell? ⟨rb, 0, none⟩ = some (.string s) ∧ w'.cell? ⟨rb, 1, none⟩ = some (.int .i64 a))
              (first | exact ⟨k0, k1⟩ | exact ⟨blk_cell' (keep1 h1 hB) 0, blk_cell' (keep1 h1 hB) 1⟩)
              (first | (go_at_call 30; (with_reducible refine (FI.out _ (L1.below (Below.refl _ w1).drew).L).mono ?_); rintro ev w2 ⟨rfl, hB⟩) | fail)
            have hB2 : Below w1.heap.size w1 w2 := (Below.refl _ w1).drew.trans hB
            have h2 := keep1 h1 hB
            clear hB k0 k1 hsl
            have k1 := blk_cell' h2 1
            go_wp2_with fail
            refine (ref_fail rb s a none a (a : Int) rfl _ h2).mono ?_
            rintro ev w3 ⟨rfl, h3, hg3⟩
            go_wp2
            go_ret
            rw [HR2.out]
            exact ⟨rfl, h3, grown_trans (grown_next (grown_of_below hB1 (Nat.le_refl _) _) hB2) hg3⟩
    · have hq : ((s[a].toNat : Int) == 45) = false := by simpa using hc
      have e1 : fr = a := by rw [← hFr, hq0 hi, hq]; rfl
      clear hc hq0 hd45 hFr
      go_wp2
      go_loopg [3] (s.size - fr) (fun n v wr => ∃ k : Nat, v = .int .i64 k ∧ k + n = s.size ∧ fr ≤ k ∧ w = wr ∧ k + runD (s.data.toList.drop k) = E)
      case atStart => exact ⟨fr, by rw [e1], by omega, Nat.le_refl _, rfl, HF.out⟩
      case round =>
        obtain ⟨k, rfl, hn, hfk, rfl, hk⟩ := hrel
        by_cases hi : k < s.size
        · have hc := digitsP_step s.data.toList k hi
          rw [show s.data.toList[k]'hi = s[k] from rfl] at hc
          have HD := Lib.hid (show isD s[k] = (decide (48 ≤ s[k].toNat) && decide (s[k].toNat ≤ 57)) from rfl)
          have HC := Lib.hid hc
          have HK := Lib.hid hk
          clear hc hk
          rcases (show (48 ≤ s[k].toNat ∧ s[k].toNat ≤ 57) ∨ s[k].toNat < 48 ∨ 57 < s[k].toNat by omega) with ⟨q1, q2⟩ | q1 | q1
          · have hr : runD (s.data.toList.drop k) = runD (s.data.toList.drop (k + 1)) + 1 := by rw [HC.out, if_pos (by rw [HD.out]; simp [q1, q2])]
            have HR := Lib.hid hr
            have a1 : (48 : Int) ≤ (s[k].toNat : Int) := by omega
            have a2 : (s[k].toNat : Int) ≤ 57 := by omega
            clear hr HC HD q1 q2
            go_wp2
            go_roundg (gk - 1)
            case measure => omega
            case rel => exact ⟨k + 1, rfl, by omega, by omega, rfl, by rw [← HK.out, HR.out]; omega⟩
          · have hr : E = k := by rw [← HK.out, HC.out, if_neg (by rw [HD.out]; simp; omega)]; rfl
            have a1 : (s[k].toNat : Int) < 48 := by omega
            subst hr
            clear HC HD HK q1
            have hsl := fun w => slice_run s a E (by omega) (by omega) w
            have hES : (s.extract a E).size ≤ 281474976710656 := by simp; omega
            have hE2 : E ≤ s.size := by omega
            have PI := Lib.hid (PI.out hES)
            clear hES HF hn
            go_wp2
            go_region_held3 (fun w' => w'.cell? ⟨rb, 0, none⟩ = some (.string s) ∧ w'.cell? ⟨rb, 1, none⟩ = some (.int .i64 a))
              (first | exact ⟨k0, k1⟩ | exact ⟨blk_cell' (keep1 h' hB) 0, blk_cell' (keep1 h' hB) 1⟩)
              (first | (go_at_call 113; (with_reducible refine (PI.out _ (L.below (Below.refl _ w).drew)).mono ?_); rintro ev w1 ⟨e, rfl, he, hB⟩) | fail)
            have hB1 : Below w.heap.size w w1 := (Below.refl _ w).drew.trans hB
            have h1 := keep1 h' hB
            clear hB k0 k1 k2 he
            have k0 := blk_cell' h1 0
            have k1 := blk_cell' h1 1
            have FI := Lib.hid (fun w L => strconv_FormatInt v hvI.1 hvI.2 w L)
            have hiz := itoa_size v hvI.1 hvI.2
            have L1 := L.below hB1
            by_cases hx : itoa v = s.extract a E
            · have hqx : ((itoa v).toList == (s.extract a E).toList) = true := str_same hx
              have HR2 := Lib.hid (show R = (v, (E, none)) by rw [← HRV.out, if_pos hx])
              clear HRV hx
              generalize itoa v = iv at *
              go_wp2
              go_region_held3 (fun w' => w'.cell? ⟨rb, 0, none⟩ = some (.string s) ∧ w'.cell? ⟨rb, 1, none⟩ = some (.int .i64 a))
                (first | exact ⟨k0, k1⟩ | exact ⟨blk_cell' (keep1 h1 hB) 0, blk_cell' (keep1 h1 hB) 1⟩)
                (first | (go_at_call 30; (with_reducible refine (FI.out _ (L1.below (Below.refl _ w1).drew).L).mono ?_); rintro ev w2 ⟨rfl, hB⟩) | fail)
              have hB2 : Below w1.heap.size w1 w2 := (Below.refl _ w1).drew.trans hB
              have h2 := keep1 h1 hB
              clear hB k0 k1 hsl
              have k1 := blk_cell' h2 1
              have f1 := blk_free' h2 1
              go_wp2
              go_ret
              rw [HR2.out]
              exact ⟨rfl, Rst.at (st := (a, none)) h2 E, grown_set (grown_next (grown_of_below hB1 (Nat.le_refl _) _) hB2) 1 _⟩
            · have hqx : ((itoa v).toList == (s.extract a E).toList) = false := str_other hx
              have HR2 := Lib.hid (show R = (0, (a, some a)) by rw [← HRV.out, if_neg hx])
              clear HRV hx
              generalize itoa v = iv at *
              go_wp2
              go_region_held3 (fun w' => w'.cell? ⟨rb, 0, none⟩ = some (.string s) ∧ w'.cell? ⟨rb, 1, none⟩ = some (.int .i64 a))
                (first | exact ⟨k0, k1⟩ | exact ⟨blk_cell' (keep1 h1 hB) 0, blk_cell' (keep1 h1 hB) 1⟩)
                (first | (go_at_call 30; (with_reducible refine (FI.out _ (L1.below (Below.refl _ w1).drew).L).mono ?_); rintro ev w2 ⟨rfl, hB⟩) | fail)
              have hB2 : Below w1.heap.size w1 w2 := (Below.refl _ w1).drew.trans hB
              have h2 := keep1 h1 hB
              clear hB k0 k1 hsl
              have k1 := blk_cell' h2 1
              go_wp2_with fail
              refine (ref_fail rb s a none a (a : Int) rfl _ h2).mono ?_
              rintro ev w3 ⟨rfl, h3, hg3⟩
              go_wp2
              go_ret
              rw [HR2.out]
              exact ⟨rfl, h3, grown_trans (grown_next (grown_of_below hB1 (Nat.le_refl _) _) hB2) hg3⟩
          · have hr : E = k := by rw [← HK.out, HC.out, if_neg (by rw [HD.out]; simp; omega)]; rfl
            have a1 : (57 : Int) < (s[k].toNat : Int) := by omega
            have a0 : (48 : Int) ≤ (s[k].toNat : Int) := by omega
            subst hr
            clear HC HD HK q1
            have hsl := fun w => slice_run s a E (by omega) (by omega) w
            have hES : (s.extract a E).size ≤ 281474976710656 := by simp; omega
            have hE2 : E ≤ s.size := by omega
            have PI := Lib.hid (PI.out hES)
            clear hES HF hn
            go_wp2
            go_region_held3 (fun w' => w'.cell? ⟨rb, 0, none⟩ = some (.string s) ∧ w'.cell? ⟨rb, 1, none⟩ = some (.int .i64 a))
              (first | exact ⟨k0, k1⟩ | exact ⟨blk_cell' (keep1 h' hB) 0, blk_cell' (keep1 h' hB) 1⟩)
              (first | (go_at_call 113; (with_reducible refine (PI.out _ (L.below (Below.refl _ w).drew)).mono ?_); rintro ev w1 ⟨e, rfl, he, hB⟩) | fail)
            have hB1 : Below w.heap.size w w1 := (Below.refl _ w).drew.trans hB
            have h1 := keep1 h' hB
            clear hB k0 k1 k2 he
            have k0 := blk_cell' h1 0
            have k1 := blk_cell' h1 1
            have FI := Lib.hid (fun w L => strconv_FormatInt v hvI.1 hvI.2 w L)
            have hiz := itoa_size v hvI.1 hvI.2
            have L1 := L.below hB1
            by_cases hx : itoa v = s.extract a E
            · have hqx : ((itoa v).toList == (s.extract a E).toList) = true := str_same hx
              have HR2 := Lib.hid (show R = (v, (E, none)) by rw [← HRV.out, if_pos hx])
              clear HRV hx
              generalize itoa v = iv at *
              go_wp2
              go_region_held3 (fun w' => w'.cell? ⟨rb, 0, none⟩ = some (.string s) ∧ w'.cell? ⟨rb, 1, none⟩ = some (.int .i64 a))
                (first | exact ⟨k0, k1⟩ | exact ⟨blk_cell' (keep1 h1 hB) 0, blk_cell' (keep1 h1 hB) 1⟩)
                (first | (go_at_call 30; (with_reducible refine (FI.out _ (L1.below (Below.refl _ w1).drew).L).mono ?_); rintro ev w2 ⟨rfl, hB⟩) | fail)
              have hB2 : Below w1.heap.size w1 w2 := (Below.refl _ w1).drew.trans hB
              have h2 := keep1 h1 hB
              clear hB k0 k1 hsl
              have k1 := blk_cell' h2 1
              have f1 := blk_free' h2 1
              go_wp2
              go_ret
              rw [HR2.out]
              exact ⟨rfl, Rst.at (st := (a, none)) h2 E, grown_set (grown_next (grown_of_below hB1 (Nat.le_refl _) _) hB2) 1 _⟩
            · have hqx : ((itoa v).toList == (s.extract a E).toList) = false := str_other hx
              have HR2 := Lib.hid (show R = (0, (a, some a)) by rw [← HRV.out, if_neg hx])
              clear HRV hx
              generalize itoa v = iv at *
              go_wp2
              go_region_held3 (fun w' => w'.cell? ⟨rb, 0, none⟩ = some (.string s) ∧ w'.cell? ⟨rb, 1, none⟩ = some (.int .i64 a))
                (first | exact ⟨k0, k1⟩ | exact ⟨blk_cell' (keep1 h1 hB) 0, blk_cell' (keep1 h1 hB) 1⟩)
                (first | (go_at_call 30; (with_reducible refine (FI.out _ (L1.below (Below.refl _ w1).drew).L).mono ?_); rintro ev w2 ⟨rfl, hB⟩) | fail)
              have hB2 : Below w1.heap.size w1 w2 := (Below.refl _ w1).drew.trans hB
              have h2 := keep1 h1 hB
              clear hB k0 k1 hsl
              have k1 := blk_cell' h2 1
              go_wp2_with fail
              refine (ref_fail rb s a none a (a : Int) rfl _ h2).mono ?_
              rintro ev w3 ⟨rfl, h3, hg3⟩
              go_wp2
              go_ret
              rw [HR2.out]
              exact ⟨rfl, h3, grown_trans (grown_next (grown_of_below hB1 (Nat.le_refl _) _) hB2) hg3⟩
        · have hr : E = k := by rw [← hk, runD_end (by show s.size ≤ k; omega)]; rfl
          subst hr
          clear hk
          have hsl := fun w => slice_run s a E (by omega) (by omega) w
          have hES : (s.extract a E).size ≤ 281474976710656 := by simp; omega
          have hE2 : E ≤ s.size := by omega
          have PI := Lib.hid (PI.out hES)
          clear hES HF hn
          go_wp2
          go_region_held3 (fun w' => w'.cell? ⟨rb, 0, none⟩ = some (.string s) ∧ w'.cell? ⟨rb, 1, none⟩ = some (.int .i64 a))
            (first | exact ⟨k0, k1⟩ | exact ⟨blk_cell' (keep1 h' hB) 0, blk_cell' (keep1 h' hB) 1⟩)
            (first | (go_at_call 113; (with_reducible refine (PI.out _ (L.below (Below.refl _ w).drew)).mono ?_); rintro ev w1 ⟨e, rfl, he, hB⟩) | fail)
          have hB1 : Below w.heap.size w w1 := (Below.refl _ w).drew.trans hB
          have h1 := keep1 h' hB
          clear hB k0 k1 k2 he
          have k0 := blk_cell' h1 0
          have k1 := blk_cell' h1 1
          have FI := Lib.hid (fun w L => strconv_FormatInt v hvI.1 hvI.2 w L)
          have hiz := itoa_size v hvI.1 hvI.2
          have L1 := L.below hB1
          by_cases hx : itoa v = s.extract a E
          · have hqx : ((itoa v).toList == (s.extract a E).toList) = true := str_same hx
            have HR2 := Lib.hid (show R = (v, (E, none)) by rw [← HRV.out, if_pos hx])
            clear HRV hx
            generalize itoa v = iv at *
            go_wp2
            go_region_held3 (fun w' => w'.cell? ⟨rb, 0, none⟩ = some (.string s) ∧ w'.cell? ⟨rb, 1, none⟩ = some (.int .i64 a))
              (first | exact ⟨k0, k1⟩ | exact ⟨blk_cell' (keep1 h1 hB) 0, blk_cell' (keep1 h1 hB) 1⟩)
              (first | (go_at_call 30; (with_reducible refine (FI.out _ (L1.below (Below.refl _ w1).drew).L).mono ?_); rintro ev w2 ⟨rfl, hB⟩) | fail)
            have hB2 : Below w1.heap.size w1 w2 := (Below.refl _ w1).drew.trans hB
            have h2 := keep1 h1 hB
            clear hB k0 k1 hsl
            have k1 := blk_cell' h2 1
            have f1 := blk_free' h2 1
            go_wp2
            go_ret
            rw [HR2.out]
            exact ⟨rfl, Rst.at (st := (a, none)) h2 E, grown_set (grown_next (grown_of_below hB1 (Nat.le_refl _) _) hB2) 1 _⟩
          · have hqx : ((itoa v).toList == (s.extract a E).toList) = false := str_other hx
            have HR2 := Lib.hid (show R = (0, (a, some a)) by rw [← HRV.out, if_neg hx])
            clear HRV hx
            generalize itoa v = iv at *
            go_wp2
            go_region_held3 (fun w' => w'.cell? ⟨rb, 0, none⟩ = some (.string s) ∧ w'.cell? ⟨rb, 1, none⟩ = some (.int .i64 a))
              (first | exact ⟨k0, k1⟩ | exact ⟨blk_cell' (keep1 h1 hB) 0, blk_cell' (keep1 h1 hB) 1⟩)
              (first | (go_at_call 30; (with_reducible refine (FI.out _ (L1.below (Below.refl _ w1).drew).L).mono ?_); rintro ev w2 ⟨rfl, hB⟩) | fail)
            have hB2 : Below w1.heap.size w1 w2 := (Below.refl _ w1).drew.trans hB
            have h2 := keep1 h1 hB
            clear hB k0 k1 hsl
            have k1 := blk_cell' h2 1
            go_wp2_with fail
            refine (ref_fail rb s a none a (a : Int) rfl _ h2).mono ?_
            rintro ev w3 ⟨rfl, h3, hg3⟩
            go_wp2
            go_ret
            rw [HR2.out]
            exact ⟨rfl, h3, grown_trans (grown_next (grown_of_below hB1 (Nat.le_refl _) _) hB2) hg3⟩
  · have e1 : fr = a := by rw [← hFr, isP_ge _ hi]; rfl
    clear hq0 hd45 hFr
    go_wp2
    go_loopg [3] (s.size - fr) (fun n v wr => ∃ k : Nat, v = .int .i64 k ∧ k + n = s.size ∧ fr ≤ k ∧ w = wr ∧ k + runD (s.data.toList.drop k) = E)
    case atStart => exact ⟨fr, by rw [e1], by omega, Nat.le_refl _, rfl, HF.out⟩
    case round =>
      obtain ⟨k, rfl, hn, hfk, rfl, hk⟩ := hrel
      have hik : ¬ k < s.size := by omega
      have hr : E = k := by rw [← hk, runD_end (by show s.size ≤ k; omega)]; rfl
      subst hr
      clear hk
      have hsl := fun w => slice_run s a E (by omega) (by omega) w
      have hES : (s.extract a E).size ≤ 281474976710656 := by simp; omega
      have hE2 : E ≤ s.size := by omega
      have PI := Lib.hid (PI.out hES)
      clear hES HF hn
      go_wp2
      go_region_held3 (fun w' => w'.cell? ⟨rb, 0, none⟩ = some (.string s) ∧ w'.cell? ⟨rb, 1, none⟩ = some (.int .i64 a))
        (first | exact ⟨k0, k1⟩ | exact ⟨blk_cell' (keep1 h' hB) 0, blk_cell' (keep1 h' hB) 1⟩)
        (first | (go_at_call 113; (with_reducible refine (PI.out _ (L.below (Below.refl _ w).drew)).mono ?_); rintro ev w1 ⟨e, rfl, he, hB⟩) | fail)
      have hB1 : Below w.heap.size w w1 := (Below.refl _ w).drew.trans hB
      have h1 := keep1 h' hB
      clear hB k0 k1 k2 he
      have k0 := blk_cell' h1 0
      have k1 := blk_cell' h1 1
      have FI := Lib.hid (fun w L => strconv_FormatInt v hvI.1 hvI.2 w L)
      have hiz := itoa_size v hvI.1 hvI.2
      have L1 := L.below hB1
      by_cases hx : itoa v = s.extract a E
      · have hqx : ((itoa v).toList == (s.extract a E).toList) = true := str_same hx
        have HR2 := Lib.hid (show R = (v, (E, none)) by rw [← HRV.out, if_pos hx])
        clear HRV hx
        generalize itoa v = iv at *
        go_wp2
        go_region_held3 (fun w' => w'.cell? ⟨rb, 0, none⟩ = some (.string s) ∧ w'.cell? ⟨rb, 1, none⟩ = some (.int .i64 a))
          (first | exact ⟨k0, k1⟩ | exact ⟨blk_cell' (keep1 h1 hB) 0, blk_cell' (keep1 h1 hB) 1⟩)
          (first | (go_at_call 30; (with_reducible refine (FI.out _ (L1.below (Below.refl _ w1).drew).L).mono ?_); rintro ev w2 ⟨rfl, hB⟩) | fail)
        have hB2 : Below w1.heap.size w1 w2 := (Below.refl _ w1).drew.trans hB
        have h2 := keep1 h1 hB
        clear hB k0 k1 hsl
        have k1 := blk_cell' h2 1
        have f1 := blk_free' h2 1
        go_wp2
        go_ret
        rw [HR2.out]
        exact ⟨rfl, Rst.at (st := (a, none)) h2 E, grown_set (grown_next (grown_of_below hB1 (Nat.le_refl _) _) hB2) 1 _⟩
      · have hqx : ((itoa v).toList == (s.extract a E).toList) = false := str_other hx
        have HR2 := Lib.hid (show R = (0, (a, some a)) by rw [← HRV.out, if_neg hx])
        clear HRV hx
        generalize itoa v = iv at *
        go_wp2
        go_region_held3 (fun w' => w'.cell? ⟨rb, 0, none⟩ = some (.string s) ∧ w'.cell? ⟨rb, 1, none⟩ = some (.int .i64 a))
          (first | exact ⟨k0, k1⟩ | exact ⟨blk_cell' (keep1 h1 hB) 0, blk_cell' (keep1 h1 hB) 1⟩)
          (first | (go_at_call 30; (with_reducible refine (FI.out _ (L1.below (Below.refl _ w1).drew).L).mono ?_); rintro ev w2 ⟨rfl, hB⟩) | fail)
        have hB2 : Below w1.heap.size w1 w2 := (Below.refl _ w1).drew.trans hB
        have h2 := keep1 h1 hB
        clear hB k0 k1 hsl
        have k1 := blk_cell' h2 1
        go_wp2_with fail
        refine (ref_fail rb s a none a (a : Int) rfl _ h2).mono ?_
        rintro ev w3 ⟨rfl, h3, hg3⟩
        go_wp2
        go_ret
        rw [HR2.out]
        exact ⟨rfl, h3, grown_trans (grown_next (grown_of_below hB1 (Nat.le_refl _) _) hB2) hg3⟩
end Go.Proofs.YtnodjijgeifejaaGreatDoor
