/- Package line's reader: number. -/
import Derived.Test.YtnodjijgeifejaaGreatDoorReader
namespace Go.Proofs.YtnodjijgeifejaaGreatDoor
open Go.RowKit
set_option linter.unusedSimpArgs false
set_option linter.unusedVariables false

theorem digitsP_eq (l : List UInt8) : digitsP l = if l.head? = some 45 then 1 + runD (l.drop 1) else runD l := by
  cases l with
  | nil => rfl
  | cons c r =>
    show (if isD c = true ∨ c = 45 then runD r + 1 else 0) = _
    by_cases h : c = 45
    · subst h
      simp [Nat.add_comm]
    · simp only [List.head?_cons, Option.some.injEq, h, or_false, if_false]
      rfl
theorem runD_end {l : List UInt8} {k : Nat} (h : l.length ≤ k) : runD (l.drop k) = 0 := by
  rw [List.drop_of_length_le h]
  rfl
theorem slice_run (s : ByteArray) (a k : Nat) (h : a ≤ k) (hk : k ≤ s.size) (w : World) : (Instr.slice 9 (.string s) (some (.int .i64 (a : Int))) (some (.int .i64 (k : Int))) none).run Tryz.prog w = .ok (.string (s.extract a k)) w := by
  have h := run_slice_string (P := Tryz.prog) (w := w) 9 s .i64 .i64 (a : Int) (k : Int) Tryz.underlying9 (by omega) (by omega) (by omega)
  rw [show ((k : Int)).toNat = k by omega, show ((a : Int)).toNat = a by omega] at h
  exact h
/-- Where the digits begin. -/
def fromP (s : ByteArray) (a : Nat) : Nat := if isP s 45 a then a + 1 else a
theorem fromP_run (s : ByteArray) (a : Nat) (ha : a ≤ s.size) : fromP s a + runD (s.data.toList.drop (fromP s a)) = endP s a ∧ a ≤ fromP s a ∧ fromP s a ≤ s.size := by
  unfold endP fromP
  rw [digitsP_eq]
  have hh : (s.data.toList.drop a).head? = s.data.toList[a]? := List.head?_drop
  rw [hh]
  by_cases h : isP s 45 a = true
  · have h' : s.data.toList[a]? = some 45 := by simpa [isP] using h
    have hlt : a < s.data.toList.length := by
      rcases Nat.lt_or_ge a s.data.toList.length with q | q
      · exact q
      · rw [List.getElem?_eq_none q] at h'; cases h'
    have hlt' : a < s.size := hlt
    rw [if_pos h, if_pos h', List.drop_drop]
    exact ⟨by omega, by omega, by omega⟩
  · have h' : ¬ s.data.toList[a]? = some 45 := by simpa [isP] using h
    rw [if_neg h, if_neg h']
    exact ⟨rfl, Nat.le_refl _, ha⟩

set_option maxRecDepth 100000 in
set_option maxHeartbeats 1600000 in
theorem line_number (rb : Nat) (s : ByteArray) (a : Nat) (hs : s.size ≤ 8192) (ha : a ≤ s.size) (w : World) (L : LayS w) (B : Nat) (o : Old B) (hrb : B ≤ rb) (h : Rdr rb s a w) :
    Calls Tryz.prog 101 #[.pointer (some ⟨rb, 0, none⟩)] w fun ev w' => RdPost rb s (.int .i64) w (numberP s a) ev w' := by
  obtain ⟨hf1, hf2, hf3⟩ := fromP_run s a ha
  have hd45 : isP s 45 a = (if a < s.size then isP s 45 a else false) := by
    by_cases hi : a < s.size
    · rw [if_pos hi]
    · rw [if_neg hi, isP_ge _ hi]
  unfold numberP
  generalize endP s a = E at hf1 ⊢
  have HF := Lib.hid hf1
  clear hf1
  have hnum : ∀ V : Int × Bool, atoiV (s.extract a E) = V → (if (atoiV (s.extract a E)).2 = true ∧ itoa (atoiV (s.extract a E)).1 = s.extract a E then Rd.ok (atoiV (s.extract a E)).1 E else Rd.no a) = (if V.2 = true ∧ itoa V.1 = s.extract a E then Rd.ok V.1 E else Rd.no a) := fun V e => by rw [e]
  obtain ⟨V, hV⟩ : ∃ V, atoiV (s.extract a E) = V := ⟨_, rfl⟩
  rw [hnum V hV]
  clear hnum
  generalize hRV : (if V.2 = true ∧ itoa V.1 = s.extract a E then Rd.ok V.1 E else Rd.no a) = R
  have PI := fun (hE : (s.extract a E).size ≤ 281474976710656) w L => strconv_ParseInt (s.extract a E) hE w L
  have hvI := atoiV_all (s.extract a E)
  rw [hV] at PI hvI
  obtain ⟨v, ok⟩ := V
  simp only at hRV hvI
  have PI := Lib.hid PI
  have HRV := Lib.hid hRV
  clear hV hRV
  have hq0 : ∀ (hi : a < s.size), isP s 45 a = ((s[a].toNat : Int) == 45) := fun hi => isP_lt 45 hi
  have k0 := blk_cell' (h) 0
  have f0 := blk_free' (h) 0
  have k1 := blk_cell' (h) 1
  have f1 := blk_free' (h) 1
  generalize hFr : fromP s a = fr at HF hf2 hf3
  unfold fromP at hFr
  go_enter Tryz.func101, Tryz.ntmps101
  by_cases hi : a < s.size
  · by_cases hc : (s[a].toNat : Int) = 45
    · have hq : ((s[a].toNat : Int) == 45) = true := by simpa using hc
      have e1 : fr = a + 1 := by rw [← hFr, hq0 hi, hq]; rfl
      clear hc hq0 hd45 hFr
      go_wp2
      go_loopg [3] (s.size - fr) (fun n v wr => ∃ k : Nat, v = .int .i64 k ∧ k + n = s.size ∧ fr ≤ k ∧ w = wr ∧ k + runD (s.data.toList.drop k) = E)
      case atStart => exact ⟨fr, by rw [e1]; rfl, by omega, Nat.le_refl _, rfl, HF.out⟩
      case round =>
        obtain ⟨k, rfl, hn, hfk, rfl, hk⟩ := hrel
        by_cases hi : k < s.size
        · have hc := digitsP_step s.data.toList k hi
          rw [show s.data.toList[k]'hi = s[k] from rfl] at hc
          have HD := Lib.hid (show isD s[k] = (decide (48 ≤ s[k].toNat) && decide (s[k].toNat ≤ 57)) from rfl)
          have HC := Lib.hid hc
          have HK := Lib.hid hk
          clear hc hk
          rcases (show (48 ≤ s[k].toNat ∧ s[k].toNat ≤ 57) ∨ s[k].toNat < 48 ∨ 57 < s[k].toNat by omega) with ⟨q1, q2⟩ | q1 | q1
          · have hr : runD (s.data.toList.drop k) = runD (s.data.toList.drop (k + 1)) + 1 := by rw [HC.out, if_pos (by rw [HD.out]; simp [q1, q2])]
            have HR := Lib.hid hr
            have a1 : (48 : Int) ≤ (s[k].toNat : Int) := by omega
            have a2 : (s[k].toNat : Int) ≤ 57 := by omega
            clear hr HC HD q1 q2
            go_wp2
            go_roundg (gk - 1)
            case measure => omega
            case rel => exact ⟨k + 1, rfl, by omega, by omega, rfl, by rw [← HK.out, HR.out]; omega⟩
          · have hr : E = k := by rw [← HK.out, HC.out, if_neg (by rw [HD.out]; simp; omega)]; rfl
            have a1 : (s[k].toNat : Int) < 48 := by omega
            subst hr
            clear HC HD HK q1
            have hsl := fun w => slice_run s a E (by omega) (by omega) w
            have hES : (s.extract a E).size ≤ 281474976710656 := by simp; omega
            have hE2 : E ≤ s.size := by omega
            have PI := Lib.hid (PI.out hES)
            clear hES HF hn
            go_wp2
            go_region_held3 (fun w' => w'.cell? ⟨rb, 0, none⟩ = some (.string s) ∧ w'.cell? ⟨rb, 1, none⟩ = some (.int .i64 a))
              (first | exact ⟨k0, k1⟩ | exact ⟨blk_cell' (h.next ((Below.refl _ w).drew.trans hB)) 0, blk_cell' (h.next ((Below.refl _ w).drew.trans hB)) 1⟩)
              (first | (go_at_call 113; (with_reducible refine (PI.out _ (L.below (Below.refl _ w).drew)).mono ?_); rintro ev w1 ⟨e, rfl, he, hB⟩) | fail)
            have hB1 : Below w.heap.size w w1 := (Below.refl _ w).drew.trans hB
            have h1 := h.next hB1
            clear hB k0 k1 f0 f1
            have k0 := blk_cell' (h1) 0
            have f0 := blk_free' (h1) 0
            have k1 := blk_cell' (h1) 1
            have f1 := blk_free' (h1) 1
            cases ok with
            | false =>
              obtain ⟨p, rfl⟩ : ∃ p, e = .iface 270 p := he
              have HR2 := Lib.hid (show R = Rd.no a by rw [← HRV.out, if_neg (fun q => by cases q.1)])
              clear hsl HRV
              go_wp2
              go_region
              go_wp2_with fail
              refine (line_wrong a _).mono ?_
              rintro ev w3 ⟨hp, hB3⟩
              obtain rfl := hp
              go_wp2
              exact ⟨rfl, by rw [HR2.out]; exact ⟨rfl, grown_next (grown_of_below (by first | exact hB1 | exact hB1.drew) (Nat.le_refl _) _) hB3⟩⟩
            | true =>
              obtain rfl : e = .nilIface := he
              have FI := Lib.hid (fun w L => strconv_FormatInt v hvI.1 hvI.2 w L)
              have hiz := itoa_size v hvI.1 hvI.2
              have L1 := L.below hB1
              by_cases hx : itoa v = s.extract a E
              · have hqx : ((itoa v).toList == (s.extract a E).toList) = true := str_same hx
                have HR2 := Lib.hid (show R = Rd.ok v E by rw [← HRV.out, if_pos ⟨rfl, hx⟩])
                clear HRV hx
                generalize itoa v = iv at *
                go_wp2
                go_region_held3 (fun w' => w'.cell? ⟨rb, 0, none⟩ = some (.string s) ∧ w'.cell? ⟨rb, 1, none⟩ = some (.int .i64 a))
                  (first | exact ⟨k0, k1⟩ | exact ⟨blk_cell' (h1.next ((Below.refl _ w1).drew.trans hB)) 0, blk_cell' (h1.next ((Below.refl _ w1).drew.trans hB)) 1⟩)
                  (first | (go_at_call 30; (with_reducible refine (FI.out _ (L1.below (Below.refl _ w1).drew).L).mono ?_); rintro ev w2 ⟨rfl, hB⟩) | fail)
                have hB2 : Below w1.heap.size w1 w2 := (Below.refl _ w1).drew.trans hB
                have h2 := h1.next hB2
                clear hB k0 k1 f0 f1 hsl
                have k0 := blk_cell' (h2) 0
                have f0 := blk_free' (h2) 0
                have k1 := blk_cell' (h2) 1
                have f1 := blk_free' (h2) 1
                go_wp2
                go_ret
                rw [HR2.out]
                exact ⟨rfl, h2.set E, grown_set (grown_next (grown_of_below hB1 (Nat.le_refl _) _) hB2) 1 _⟩
              · have hqx : ((itoa v).toList == (s.extract a E).toList) = false := str_other hx
                have HR2 := Lib.hid (show R = Rd.no a by rw [← HRV.out, if_neg (fun q => hx q.2)])
                clear HRV hx
                generalize itoa v = iv at *
                go_wp2
                go_region_held3 (fun w' => w'.cell? ⟨rb, 0, none⟩ = some (.string s) ∧ w'.cell? ⟨rb, 1, none⟩ = some (.int .i64 a))
                  (first | exact ⟨k0, k1⟩ | exact ⟨blk_cell' (h1.next ((Below.refl _ w1).drew.trans hB)) 0, blk_cell' (h1.next ((Below.refl _ w1).drew.trans hB)) 1⟩)
                  (first | (go_at_call 30; (with_reducible refine (FI.out _ (L1.below (Below.refl _ w1).drew).L).mono ?_); rintro ev w2 ⟨rfl, hB⟩) | fail)
                have hB2 : Below w1.heap.size w1 w2 := (Below.refl _ w1).drew.trans hB
                have h2 := h1.next hB2
                clear hB k0 k1 f0 f1 hsl
                have k0 := blk_cell' (h2) 0
                have f0 := blk_free' (h2) 0
                have k1 := blk_cell' (h2) 1
                have f1 := blk_free' (h2) 1
                go_wp2_with fail
                refine (line_wrong a _).mono ?_
                rintro ev w3 ⟨hp, hB3⟩
                obtain rfl := hp
                go_wp2
                exact ⟨rfl, by rw [HR2.out]; exact ⟨rfl, grown_next (grown_next (grown_of_below hB1 (Nat.le_refl _) _) hB2) hB3⟩⟩
          · have hr : E = k := by rw [← HK.out, HC.out, if_neg (by rw [HD.out]; simp; omega)]; rfl
            have a1 : (57 : Int) < (s[k].toNat : Int) := by omega
            have a0 : (48 : Int) ≤ (s[k].toNat : Int) := by omega
            subst hr
            clear HC HD HK q1
            have hsl := fun w => slice_run s a E (by omega) (by omega) w
            have hES : (s.extract a E).size ≤ 281474976710656 := by simp; omega
            have hE2 : E ≤ s.size := by omega
            have PI := Lib.hid (PI.out hES)
            clear hES HF hn
            go_wp2
            go_region_held3 (fun w' => w'.cell? ⟨rb, 0, none⟩ = some (.string s) ∧ w'.cell? ⟨rb, 1, none⟩ = some (.int .i64 a))
              (first | exact ⟨k0, k1⟩ | exact ⟨blk_cell' (h.next ((Below.refl _ w).drew.trans hB)) 0, blk_cell' (h.next ((Below.refl _ w).drew.trans hB)) 1⟩)
              (first | (go_at_call 113; (with_reducible refine (PI.out _ (L.below (Below.refl _ w).drew)).mono ?_); rintro ev w1 ⟨e, rfl, he, hB⟩) | fail)
            have hB1 : Below w.heap.size w w1 := (Below.refl _ w).drew.trans hB
            have h1 := h.next hB1
            clear hB k0 k1 f0 f1
            have k0 := blk_cell' (h1) 0
            have f0 := blk_free' (h1) 0
            have k1 := blk_cell' (h1) 1
            have f1 := blk_free' (h1) 1
            cases ok with
            | false =>
              obtain ⟨p, rfl⟩ : ∃ p, e = .iface 270 p := he
              have HR2 := Lib.hid (show R = Rd.no a by rw [← HRV.out, if_neg (fun q => by cases q.1)])
              clear hsl HRV
              go_wp2
              go_region
              go_wp2_with fail
              refine (line_wrong a _).mono ?_
              rintro ev w3 ⟨hp, hB3⟩
              obtain rfl := hp
              go_wp2
              exact ⟨rfl, by rw [HR2.out]; exact ⟨rfl, grown_next (grown_of_below (by first | exact hB1 | exact hB1.drew) (Nat.le_refl _) _) hB3⟩⟩
            | true =>
              obtain rfl : e = .nilIface := he
              have FI := Lib.hid (fun w L => strconv_FormatInt v hvI.1 hvI.2 w L)
              have hiz := itoa_size v hvI.1 hvI.2
              have L1 := L.below hB1
              by_cases hx : itoa v = s.extract a E
              · have hqx : ((itoa v).toList == (s.extract a E).toList) = true := str_same hx
                have HR2 := Lib.hid (show R = Rd.ok v E by rw [← HRV.out, if_pos ⟨rfl, hx⟩])
                clear HRV hx
                generalize itoa v = iv at *
                go_wp2
                go_region_held3 (fun w' => w'.cell? ⟨rb, 0, none⟩ = some (.string s) ∧ w'.cell? ⟨rb, 1, none⟩ = some (.int .i64 a))
                  (first | exact ⟨k0, k1⟩ | exact ⟨blk_cell' (h1.next ((Below.refl _ w1).drew.trans hB)) 0, blk_cell' (h1.next ((Below.refl _ w1).drew.trans hB)) 1⟩)
                  (first | (go_at_call 30; (with_reducible refine (FI.out _ (L1.below (Below.refl _ w1).drew).L).mono ?_); rintro ev w2 ⟨rfl, hB⟩) | fail)
                have hB2 : Below w1.heap.size w1 w2 := (Below.refl _ w1).drew.trans hB
                have h2 := h1.next hB2
                clear hB k0 k1 f0 f1 hsl
                have k0 := blk_cell' (h2) 0
                have f0 := blk_free' (h2) 0
                have k1 := blk_cell' (h2) 1
                have f1 := blk_free' (h2) 1
                go_wp2
                go_ret
                rw [HR2.out]
                exact ⟨rfl, h2.set E, grown_set (grown_next (grown_of_below hB1 (Nat.le_refl _) _) hB2) 1 _⟩
              · have hqx : ((itoa v).toList == (s.extract a E).toList) = false := str_other hx
                have HR2 := Lib.hid (show R = Rd.no a by rw [← HRV.out, if_neg (fun q => hx q.2)])
                clear HRV hx
                generalize itoa v = iv at *
                go_wp2
                go_region_held3 (fun w' => w'.cell? ⟨rb, 0, none⟩ = some (.string s) ∧ w'.cell? ⟨rb, 1, none⟩ = some (.int .i64 a))
                  (first | exact ⟨k0, k1⟩ | exact ⟨blk_cell' (h1.next ((Below.refl _ w1).drew.trans hB)) 0, blk_cell' (h1.next ((Below.refl _ w1).drew.trans hB)) 1⟩)
                  (first | (go_at_call 30; (with_reducible refine (FI.out _ (L1.below (Below.refl _ w1).drew).L).mono ?_); rintro ev w2 ⟨rfl, hB⟩) | fail)
                have hB2 : Below w1.heap.size w1 w2 := (Below.refl _ w1).drew.trans hB
                have h2 := h1.next hB2
                clear hB k0 k1 f0 f1 hsl
                have k0 := blk_cell' (h2) 0
                have f0 := blk_free' (h2) 0
                have k1 := blk_cell' (h2) 1
                have f1 := blk_free' (h2) 1
                go_wp2_with fail
                refine (line_wrong a _).mono ?_
                rintro ev w3 ⟨hp, hB3⟩
                obtain rfl := hp
                go_wp2
                exact ⟨rfl, by rw [HR2.out]; exact ⟨rfl, grown_next (grown_next (grown_of_below hB1 (Nat.le_refl _) _) hB2) hB3⟩⟩
        · have hr : E = k := by rw [← hk, runD_end (by show s.size ≤ k; omega)]; rfl
          subst hr
          clear hk
          have hsl := fun w => slice_run s a E (by omega) (by omega) w
          have hES : (s.extract a E).size ≤ 281474976710656 := by simp; omega
          have hE2 : E ≤ s.size := by omega
          have PI := Lib.hid (PI.out hES)
          clear hES HF hn
          go_wp2
          go_region_held3 (fun w' => w'.cell? ⟨rb, 0, none⟩ = some (.string s) ∧ w'.cell? ⟨rb, 1, none⟩ = some (.int .i64 a))
            (first | exact ⟨k0, k1⟩ | exact ⟨blk_cell' (h.next ((Below.refl _ w).drew.trans hB)) 0, blk_cell' (h.next ((Below.refl _ w).drew.trans hB)) 1⟩)
            (first | (go_at_call 113; (with_reducible refine (PI.out _ (L.below (Below.refl _ w).drew)).mono ?_); rintro ev w1 ⟨e, rfl, he, hB⟩) | fail)
          have hB1 : Below w.heap.size w w1 := (Below.refl _ w).drew.trans hB
          have h1 := h.next hB1
          clear hB k0 k1 f0 f1
          have k0 := blk_cell' (h1) 0
          have f0 := blk_free' (h1) 0
          have k1 := blk_cell' (h1) 1
          have f1 := blk_free' (h1) 1
          cases ok with
          | false =>
            obtain ⟨p, rfl⟩ : ∃ p, e = .iface 270 p := he
            have HR2 := Lib.hid (show R = Rd.no a by rw [← HRV.out, if_neg (fun q => by cases q.1)])
            clear hsl HRV
            go_wp2
            go_region
            go_wp2_with fail
            refine (line_wrong a _).mono ?_
            rintro ev w3 ⟨hp, hB3⟩
            obtain rfl := hp
            go_wp2
            exact ⟨rfl, by rw [HR2.out]; exact ⟨rfl, grown_next (grown_of_below (by first | exact hB1 | exact hB1.drew) (Nat.le_refl _) _) hB3⟩⟩
          | true =>
            obtain rfl : e = .nilIface := he
            have FI := Lib.hid (fun w L => strconv_FormatInt v hvI.1 hvI.2 w L)
            have hiz := itoa_size v hvI.1 hvI.2
            have L1 := L.below hB1
            by_cases hx : itoa v = s.extract a E
            · have hqx : ((itoa v).toList == (s.extract a E).toList) = true := str_same hx
              have HR2 := Lib.hid (show R = Rd.ok v E by rw [← HRV.out, if_pos ⟨rfl, hx⟩])
              clear HRV hx
              generalize itoa v = iv at *
              go_wp2
              go_region_held3 (fun w' => w'.cell? ⟨rb, 0, none⟩ = some (.string s) ∧ w'.cell? ⟨rb, 1, none⟩ = some (.int .i64 a))
                (first | exact ⟨k0, k1⟩ | exact ⟨blk_cell' (h1.next ((Below.refl _ w1).drew.trans hB)) 0, blk_cell' (h1.next ((Below.refl _ w1).drew.trans hB)) 1⟩)
                (first | (go_at_call 30; (with_reducible refine (FI.out _ (L1.below (Below.refl _ w1).drew).L).mono ?_); rintro ev w2 ⟨rfl, hB⟩) | fail)
              have hB2 : Below w1.heap.size w1 w2 := (Below.refl _ w1).drew.trans hB
              have h2 := h1.next hB2
              clear hB k0 k1 f0 f1 hsl
              have k0 := blk_cell' (h2) 0
              have f0 := blk_free' (h2) 0
              have k1 := blk_cell' (h2) 1
              have f1 := blk_free' (h2) 1
              go_wp2
              go_ret
              rw [HR2.out]
              exact ⟨rfl, h2.set E, grown_set (grown_next (grown_of_below hB1 (Nat.le_refl _) _) hB2) 1 _⟩
            · have hqx : ((itoa v).toList == (s.extract a E).toList) = false := str_other hx
              have HR2 := Lib.hid (show R = Rd.no a by rw [← HRV.out, if_neg (fun q => hx q.2)])
              clear HRV hx
              generalize itoa v = iv at *
              go_wp2
              go_region_held3 (fun w' => w'.cell? ⟨rb, 0, none⟩ = some (.string s) ∧ w'.cell? ⟨rb, 1, none⟩ = some (.int .i64 a))
                (first | exact ⟨k0, k1⟩ | exact ⟨blk_cell' (h1.next ((Below.refl _ w1).drew.trans hB)) 0, blk_cell' (h1.next ((Below.refl _ w1).drew.trans hB)) 1⟩)
                (first | (go_at_call 30; (with_reducible refine (FI.out _ (L1.below (Below.refl _ w1).drew).L).mono ?_); rintro ev w2 ⟨rfl, hB⟩) | fail)
              have hB2 : Below w1.heap.size w1 w2 := (Below.refl _ w1).drew.trans hB
              have h2 := h1.next hB2
              clear hB k0 k1 f0 f1 hsl
              have k0 := blk_cell' (h2) 0
              have f0 := blk_free' (h2) 0
              have k1 := blk_cell' (h2) 1
              have f1 := blk_free' (h2) 1
              go_wp2_with fail
              refine (line_wrong a _).mono ?_
              rintro ev w3 ⟨hp, hB3⟩
              obtain rfl := hp
              go_wp2
              exact ⟨rfl, by rw [HR2.out]; exact ⟨rfl, grown_next (grown_next (grown_of_below hB1 (Nat.le_refl _) _) hB2) hB3⟩⟩
    · have hq : ((s[a].toNat : Int) == 45) = false := by simpa using hc
      have e1 : fr = a := by rw [← hFr, hq0 hi, hq]; rfl
      clear hc hq0 hd45 hFr
      go_wp2
      go_loopg [3] (s.size - fr) (fun n v wr => ∃ k : Nat, v = .int .i64 k ∧ k + n = s.size ∧ fr ≤ k ∧ w = wr ∧ k + runD (s.data.toList.drop k) = E)
      case atStart => exact ⟨fr, by rw [e1], by omega, Nat.le_refl _, rfl, HF.out⟩
      case round =>
        obtain ⟨k, rfl, hn, hfk, rfl, hk⟩ := hrel
        by_cases hi : k < s.size
        · have hc := digitsP_step s.data.toList k hi
          rw [show s.data.toList[k]'hi = s[k] from rfl] at hc
          have HD := Lib.hid (show isD s[k] = (decide (48 ≤ s[k].toNat) && decide (s[k].toNat ≤ 57)) from rfl)
          have HC := Lib.hid hc
          have HK := Lib.hid hk
          clear hc hk
          rcases (show (48 ≤ s[k].toNat ∧ s[k].toNat ≤ 57) ∨ s[k].toNat < 48 ∨ 57 < s[k].toNat by omega) with ⟨q1, q2⟩ | q1 | q1
          · have hr : runD (s.data.toList.drop k) = runD (s.data.toList.drop (k + 1)) + 1 := by rw [HC.out, if_pos (by rw [HD.out]; simp [q1, q2])]
            have HR := Lib.hid hr
            have a1 : (48 : Int) ≤ (s[k].toNat : Int) := by omega
            have a2 : (s[k].toNat : Int) ≤ 57 := by omega
            clear hr HC HD q1 q2
            go_wp2
            go_roundg (gk - 1)
            case measure => omega
            case rel => exact ⟨k + 1, rfl, by omega, by omega, rfl, by rw [← HK.out, HR.out]; omega⟩
          · have hr : E = k := by rw [← HK.out, HC.out, if_neg (by rw [HD.out]; simp; omega)]; rfl
            have a1 : (s[k].toNat : Int) < 48 := by omega
            subst hr
            clear HC HD HK q1
            have hsl := fun w => slice_run s a E (by omega) (by omega) w
            have hES : (s.extract a E).size ≤ 281474976710656 := by simp; omega
            have hE2 : E ≤ s.size := by omega
            have PI := Lib.hid (PI.out hES)
            clear hES HF hn
            go_wp2
            go_region_held3 (fun w' => w'.cell? ⟨rb, 0, none⟩ = some (.string s) ∧ w'.cell? ⟨rb, 1, none⟩ = some (.int .i64 a))
              (first | exact ⟨k0, k1⟩ | exact ⟨blk_cell' (h.next ((Below.refl _ w).drew.trans hB)) 0, blk_cell' (h.next ((Below.refl _ w).drew.trans hB)) 1⟩)
              (first | (go_at_call 113; (with_reducible refine (PI.out _ (L.below (Below.refl _ w).drew)).mono ?_); rintro ev w1 ⟨e, rfl, he, hB⟩) | fail)
            have hB1 : Below w.heap.size w w1 := (Below.refl _ w).drew.trans hB
            have h1 := h.next hB1
            clear hB k0 k1 f0 f1
            have k0 := blk_cell' (h1) 0
            have f0 := blk_free' (h1) 0
            have k1 := blk_cell' (h1) 1
            have f1 := blk_free' (h1) 1
            cases ok with
            | false =>
              obtain ⟨p, rfl⟩ : ∃ p, e = .iface 270 p := he
              have HR2 := Lib.hid (show R = Rd.no a by rw [← HRV.out, if_neg (fun q => by cases q.1)])
              clear hsl HRV
              go_wp2
              go_region
              go_wp2_with fail
              refine (line_wrong a _).mono ?_
              rintro ev w3 ⟨hp, hB3⟩
              obtain rfl := hp
              go_wp2
              exact ⟨rfl, by rw [HR2.out]; exact ⟨rfl, grown_next (grown_of_below (by first | exact hB1 | exact hB1.drew) (Nat.le_refl _) _) hB3⟩⟩
            | true =>
              obtain rfl : e = .nilIface := he
              have FI := Lib.hid (fun w L => strconv_FormatInt v hvI.1 hvI.2 w L)
              have hiz := itoa_size v hvI.1 hvI.2
              have L1 := L.below hB1
              by_cases hx : itoa v = s.extract a E
              · have hqx : ((itoa v).toList == (s.extract a E).toList) = true := str_same hx
                have HR2 := Lib.hid (show R = Rd.ok v E by rw [← HRV.out, if_pos ⟨rfl, hx⟩])
                clear HRV hx
                generalize itoa v = iv at *
                go_wp2
                go_region_held3 (fun w' => w'.cell? ⟨rb, 0, none⟩ = some (.string s) ∧ w'.cell? ⟨rb, 1, none⟩ = some (.int .i64 a))
                  (first | exact ⟨k0, k1⟩ | exact ⟨blk_cell' (h1.next ((Below.refl _ w1).drew.trans hB)) 0, blk_cell' (h1.next ((Below.refl _ w1).drew.trans hB)) 1⟩)
                  (first | (go_at_call 30; (with_reducible refine (FI.out _ (L1.below (Below.refl _ w1).drew).L).mono ?_); rintro ev w2 ⟨rfl, hB⟩) | fail)
                have hB2 : Below w1.heap.size w1 w2 := (Below.refl _ w1).drew.trans hB
                have h2 := h1.next hB2
                clear hB k0 k1 f0 f1 hsl
                have k0 := blk_cell' (h2) 0
                have f0 := blk_free' (h2) 0
                have k1 := blk_cell' (h2) 1
                have f1 := blk_free' (h2) 1
                go_wp2
                go_ret
                rw [HR2.out]
                exact ⟨rfl, h2.set E, grown_set (grown_next (grown_of_below hB1 (Nat.le_refl _) _) hB2) 1 _⟩
              · have hqx : ((itoa v).toList == (s.extract a E).toList) = false := str_other hx
                have HR2 := Lib.hid (show R = Rd.no a by rw [← HRV.out, if_neg (fun q => hx q.2)])
                clear HRV hx
                generalize itoa v = iv at *
                go_wp2
                go_region_held3 (fun w' => w'.cell? ⟨rb, 0, none⟩ = some (.string s) ∧ w'.cell? ⟨rb, 1, none⟩ = some (.int .i64 a))
                  (first | exact ⟨k0, k1⟩ | exact ⟨blk_cell' (h1.next ((Below.refl _ w1).drew.trans hB)) 0, blk_cell' (h1.next ((Below.refl _ w1).drew.trans hB)) 1⟩)
                  (first | (go_at_call 30; (with_reducible refine (FI.out _ (L1.below (Below.refl _ w1).drew).L).mono ?_); rintro ev w2 ⟨rfl, hB⟩) | fail)
                have hB2 : Below w1.heap.size w1 w2 := (Below.refl _ w1).drew.trans hB
                have h2 := h1.next hB2
                clear hB k0 k1 f0 f1 hsl
                have k0 := blk_cell' (h2) 0
                have f0 := blk_free' (h2) 0
                have k1 := blk_cell' (h2) 1
                have f1 := blk_free' (h2) 1
                go_wp2_with fail
                refine (line_wrong a _).mono ?_
                rintro ev w3 ⟨hp, hB3⟩
                obtain rfl := hp
                go_wp2
                exact ⟨rfl, by rw [HR2.out]; exact ⟨rfl, grown_next (grown_next (grown_of_below hB1 (Nat.le_refl _) _) hB2) hB3⟩⟩
          · have hr : E = k := by rw [← HK.out, HC.out, if_neg (by rw [HD.out]; simp; omega)]; rfl
            have a1 : (57 : Int) < (s[k].toNat : Int) := by omega
            have a0 : (48 : Int) ≤ (s[k].toNat : Int) := by omega
            subst hr
            clear HC HD HK q1
            have hsl := fun w => slice_run s a E (by omega) (by omega) w
            have hES : (s.extract a E).size ≤ 281474976710656 := by simp; omega
            have hE2 : E ≤ s.size := by omega
            have PI := Lib.hid (PI.out hES)
            clear hES HF hn
            go_wp2
            go_region_held3 (fun w' => w'.cell? ⟨rb, 0, none⟩ = some (.string s) ∧ w'.cell? ⟨rb, 1, none⟩ = some (.int .i64 a))
              (first | exact ⟨k0, k1⟩ | exact ⟨blk_cell' (h.next ((Below.refl _ w).drew.trans hB)) 0, blk_cell' (h.next ((Below.refl _ w).drew.trans hB)) 1⟩)
              (first | (go_at_call 113; (with_reducible refine (PI.out _ (L.below (Below.refl _ w).drew)).mono ?_); rintro ev w1 ⟨e, rfl, he, hB⟩) | fail)
            have hB1 : Below w.heap.size w w1 := (Below.refl _ w).drew.trans hB
            have h1 := h.next hB1
            clear hB k0 k1 f0 f1
            have k0 := blk_cell' (h1) 0
            have f0 := blk_free' (h1) 0
            have k1 := blk_cell' (h1) 1
            have f1 := blk_free' (h1) 1
            cases ok with
            | false =>
              obtain ⟨p, rfl⟩ : ∃ p, e = .iface 270 p := he
              have HR2 := Lib.hid (show R = Rd.no a by rw [← HRV.out, if_neg (fun q => by cases q.1)])
              clear hsl HRV
              go_wp2
              go_region
              go_wp2_with fail
              refine (line_wrong a _).mono ?_
              rintro ev w3 ⟨hp, hB3⟩
              obtain rfl := hp
              go_wp2
              exact ⟨rfl, by rw [HR2.out]; exact ⟨rfl, grown_next (grown_of_below (by first | exact hB1 | exact hB1.drew) (Nat.le_refl _) _) hB3⟩⟩
            | true =>
              obtain rfl : e = .nilIface := he
              have FI := Lib.hid (fun w L => strconv_FormatInt v hvI.1 hvI.2 w L)
              have hiz := itoa_size v hvI.1 hvI.2
              have L1 := L.below hB1
              by_cases hx : itoa v = s.extract a E
              · have hqx : ((itoa v).toList == (s.extract a E).toList) = true := str_same hx
                have HR2 := Lib.hid (show R = Rd.ok v E by rw [← HRV.out, if_pos ⟨rfl, hx⟩])
                clear HRV hx
                generalize itoa v = iv at *
                go_wp2
                go_region_held3 (fun w' => w'.cell? ⟨rb, 0, none⟩ = some (.string s) ∧ w'.cell? ⟨rb, 1, none⟩ = some (.int .i64 a))
                  (first | exact ⟨k0, k1⟩ | exact ⟨blk_cell' (h1.next ((Below.refl _ w1).drew.trans hB)) 0, blk_cell' (h1.next ((Below.refl _ w1).drew.trans hB)) 1⟩)
                  (first | (go_at_call 30; (with_reducible refine (FI.out _ (L1.below (Below.refl _ w1).drew).L).mono ?_); rintro ev w2 ⟨rfl, hB⟩) | fail)
                have hB2 : Below w1.heap.size w1 w2 := (Below.refl _ w1).drew.trans hB
                have h2 := h1.next hB2
                clear hB k0 k1 f0 f1 hsl
                have k0 := blk_cell' (h2) 0
                have f0 := blk_free' (h2) 0
                have k1 := blk_cell' (h2) 1
                have f1 := blk_free' (h2) 1
                go_wp2
                go_ret
                rw [HR2.out]
                exact ⟨rfl, h2.set E, grown_set (grown_next (grown_of_below hB1 (Nat.le_refl _) _) hB2) 1 _⟩
              · have hqx : ((itoa v).toList == (s.extract a E).toList) = false := str_other hx
                have HR2 := Lib.hid (show R = Rd.no a by rw [← HRV.out, if_neg (fun q => hx q.2)])
                clear HRV hx
                generalize itoa v = iv at *
                go_wp2
                go_region_held3 (fun w' => w'.cell? ⟨rb, 0, none⟩ = some (.string s) ∧ w'.cell? ⟨rb, 1, none⟩ = some (.int .i64 a))
                  (first | exact ⟨k0, k1⟩ | exact ⟨blk_cell' (h1.next ((Below.refl _ w1).drew.trans hB)) 0, blk_cell' (h1.next ((Below.refl _ w1).drew.trans hB)) 1⟩)
                  (first | (go_at_call 30; (with_reducible refine (FI.out _ (L1.below (Below.refl _ w1).drew).L).mono ?_); rintro ev w2 ⟨rfl, hB⟩) | fail)
                have hB2 : Below w1.heap.size w1 w2 := (Below.refl _ w1).drew.trans hB
                have h2 := h1.next hB2
                clear hB k0 k1 f0 f1 hsl
                have k0 := blk_cell' (h2) 0
                have f0 := blk_free' (h2) 0
                have k1 := blk_cell' (h2) 1
                have f1 := blk_free' (h2) 1
                go_wp2_with fail
                refine (line_wrong a _).mono ?_
                rintro ev w3 ⟨hp, hB3⟩
                obtain rfl := hp
                go_wp2
                exact ⟨rfl, by rw [HR2.out]; exact ⟨rfl, grown_next (grown_next (grown_of_below hB1 (Nat.le_refl _) _) hB2) hB3⟩⟩
        · have hr : E = k := by rw [← hk, runD_end (by show s.size ≤ k; omega)]; rfl
          subst hr
          clear hk
          have hsl := fun w => slice_run s a E (by omega) (by omega) w
          have hES : (s.extract a E).size ≤ 281474976710656 := by simp; omega
          have hE2 : E ≤ s.size := by omega
          have PI := Lib.hid (PI.out hES)
          clear hES HF hn
          go_wp2
          go_region_held3 (fun w' => w'.cell? ⟨rb, 0, none⟩ = some (.string s) ∧ w'.cell? ⟨rb, 1, none⟩ = some (.int .i64 a))
            (first | exact ⟨k0, k1⟩ | exact ⟨blk_cell' (h.next ((Below.refl _ w).drew.trans hB)) 0, blk_cell' (h.next ((Below.refl _ w).drew.trans hB)) 1⟩)
            (first | (go_at_call 113; (with_reducible refine (PI.out _ (L.below (Below.refl _ w).drew)).mono ?_); rintro ev w1 ⟨e, rfl, he, hB⟩) | fail)
          have hB1 : Below w.heap.size w w1 := (Below.refl _ w).drew.trans hB
          have h1 := h.next hB1
          clear hB k0 k1 f0 f1
          have k0 := blk_cell' (h1) 0
          have f0 := blk_free' (h1) 0
          have k1 := blk_cell' (h1) 1
          have f1 := blk_free' (h1) 1
          cases ok with
          | false =>
            obtain ⟨p, rfl⟩ : ∃ p, e = .iface 270 p := he
            have HR2 := Lib.hid (show R = Rd.no a by rw [← HRV.out, if_neg (fun q => by cases q.1)])
            clear hsl HRV
            go_wp2
            go_region
            go_wp2_with fail
            refine (line_wrong a _).mono ?_
            rintro ev w3 ⟨hp, hB3⟩
            obtain rfl := hp
            go_wp2
            exact ⟨rfl, by rw [HR2.out]; exact ⟨rfl, grown_next (grown_of_below (by first | exact hB1 | exact hB1.drew) (Nat.le_refl _) _) hB3⟩⟩
          | true =>
            obtain rfl : e = .nilIface := he
            have FI := Lib.hid (fun w L => strconv_FormatInt v hvI.1 hvI.2 w L)
            have hiz := itoa_size v hvI.1 hvI.2
            have L1 := L.below hB1
            by_cases hx : itoa v = s.extract a E
            · have hqx : ((itoa v).toList == (s.extract a E).toList) = true := str_same hx
              have HR2 := Lib.hid (show R = Rd.ok v E by rw [← HRV.out, if_pos ⟨rfl, hx⟩])
              clear HRV hx
              generalize itoa v = iv at *
              go_wp2
              go_region_held3 (fun w' => w'.cell? ⟨rb, 0, none⟩ = some (.string s) ∧ w'.cell? ⟨rb, 1, none⟩ = some (.int .i64 a))
                (first | exact ⟨k0, k1⟩ | exact ⟨blk_cell' (h1.next ((Below.refl _ w1).drew.trans hB)) 0, blk_cell' (h1.next ((Below.refl _ w1).drew.trans hB)) 1⟩)
                (first | (go_at_call 30; (with_reducible refine (FI.out _ (L1.below (Below.refl _ w1).drew).L).mono ?_); rintro ev w2 ⟨rfl, hB⟩) | fail)
              have hB2 : Below w1.heap.size w1 w2 := (Below.refl _ w1).drew.trans hB
              have h2 := h1.next hB2
              clear hB k0 k1 f0 f1 hsl
              have k0 := blk_cell' (h2) 0
              have f0 := blk_free' (h2) 0
              have k1 := blk_cell' (h2) 1
              have f1 := blk_free' (h2) 1
              go_wp2
              go_ret
              rw [HR2.out]
              exact ⟨rfl, h2.set E, grown_set (grown_next (grown_of_below hB1 (Nat.le_refl _) _) hB2) 1 _⟩
            · have hqx : ((itoa v).toList == (s.extract a E).toList) = false := str_other hx
              have HR2 := Lib.hid (show R = Rd.no a by rw [← HRV.out, if_neg (fun q => hx q.2)])
              clear HRV hx
              generalize itoa v = iv at *
              go_wp2
              go_region_held3 (fun w' => w'.cell? ⟨rb, 0, none⟩ = some (.string s) ∧ w'.cell? ⟨rb, 1, none⟩ = some (.int .i64 a))
                (first | exact ⟨k0, k1⟩ | exact ⟨blk_cell' (h1.next ((Below.refl _ w1).drew.trans hB)) 0, blk_cell' (h1.next ((Below.refl _ w1).drew.trans hB)) 1⟩)
                (first | (go_at_call 30; (with_reducible refine (FI.out _ (L1.below (Below.refl _ w1).drew).L).mono ?_); rintro ev w2 ⟨rfl, hB⟩) | fail)
              have hB2 : Below w1.heap.size w1 w2 := (Below.refl _ w1).drew.trans hB
              have h2 := h1.next hB2
              clear hB k0 k1 f0 f1 hsl
              have k0 := blk_cell' (h2) 0
              have f0 := blk_free' (h2) 0
              have k1 := blk_cell' (h2) 1
              have f1 := blk_free' (h2) 1
              go_wp2_with fail
              refine (line_wrong a _).mono ?_
              rintro ev w3 ⟨hp, hB3⟩
              obtain rfl := hp
              go_wp2
              exact ⟨rfl, by rw [HR2.out]; exact ⟨rfl, grown_next (grown_next (grown_of_below hB1 (Nat.le_refl _) _) hB2) hB3⟩⟩
  · have e1 : fr = a := by rw [← hFr, isP_ge _ hi]; rfl
    clear hq0 hd45 hFr
    go_wp2
    go_loopg [3] (s.size - fr) (fun n v wr => ∃ k : Nat, v = .int .i64 k ∧ k + n = s.size ∧ fr ≤ k ∧ w = wr ∧ k + runD (s.data.toList.drop k) = E)
    case atStart => exact ⟨fr, by rw [e1], by omega, Nat.le_refl _, rfl, HF.out⟩
    case round =>
      obtain ⟨k, rfl, hn, hfk, rfl, hk⟩ := hrel
      have hik : ¬ k < s.size := by omega
      have hr : E = k := by rw [← hk, runD_end (by show s.size ≤ k; omega)]; rfl
      subst hr
      clear hk
      have hsl := fun w => slice_run s a E (by omega) (by omega) w
      have hES : (s.extract a E).size ≤ 281474976710656 := by simp; omega
      have hE2 : E ≤ s.size := by omega
      have PI := Lib.hid (PI.out hES)
      clear hES HF hn
      go_wp2
      go_region_held3 (fun w' => w'.cell? ⟨rb, 0, none⟩ = some (.string s) ∧ w'.cell? ⟨rb, 1, none⟩ = some (.int .i64 a))
        (first | exact ⟨k0, k1⟩ | exact ⟨blk_cell' (h.next ((Below.refl _ w).drew.trans hB)) 0, blk_cell' (h.next ((Below.refl _ w).drew.trans hB)) 1⟩)
        (first | (go_at_call 113; (with_reducible refine (PI.out _ (L.below (Below.refl _ w).drew)).mono ?_); rintro ev w1 ⟨e, rfl, he, hB⟩) | fail)
      have hB1 : Below w.heap.size w w1 := (Below.refl _ w).drew.trans hB
      have h1 := h.next hB1
      clear hB k0 k1 f0 f1
      have k0 := blk_cell' (h1) 0
      have f0 := blk_free' (h1) 0
      have k1 := blk_cell' (h1) 1
      have f1 := blk_free' (h1) 1
      cases ok with
      | false =>
        obtain ⟨p, rfl⟩ : ∃ p, e = .iface 270 p := he
        have HR2 := Lib.hid (show R = Rd.no a by rw [← HRV.out, if_neg (fun q => by cases q.1)])
        clear hsl HRV
        go_wp2
        go_region
        go_wp2_with fail
        refine (line_wrong a _).mono ?_
        rintro ev w3 ⟨hp, hB3⟩
        obtain rfl := hp
        go_wp2
        exact ⟨rfl, by rw [HR2.out]; exact ⟨rfl, grown_next (grown_of_below (by first | exact hB1 | exact hB1.drew) (Nat.le_refl _) _) hB3⟩⟩
      | true =>
        obtain rfl : e = .nilIface := he
        have FI := Lib.hid (fun w L => strconv_FormatInt v hvI.1 hvI.2 w L)
        have hiz := itoa_size v hvI.1 hvI.2
        have L1 := L.below hB1
        by_cases hx : itoa v = s.extract a E
        · have hqx : ((itoa v).toList == (s.extract a E).toList) = true := str_same hx
          have HR2 := Lib.hid (show R = Rd.ok v E by rw [← HRV.out, if_pos ⟨rfl, hx⟩])
          clear HRV hx
          generalize itoa v = iv at *
          go_wp2
          go_region_held3 (fun w' => w'.cell? ⟨rb, 0, none⟩ = some (.string s) ∧ w'.cell? ⟨rb, 1, none⟩ = some (.int .i64 a))
            (first | exact ⟨k0, k1⟩ | exact ⟨blk_cell' (h1.next ((Below.refl _ w1).drew.trans hB)) 0, blk_cell' (h1.next ((Below.refl _ w1).drew.trans hB)) 1⟩)
            (first | (go_at_call 30; (with_reducible refine (FI.out _ (L1.below (Below.refl _ w1).drew).L).mono ?_); rintro ev w2 ⟨rfl, hB⟩) | fail)
          have hB2 : Below w1.heap.size w1 w2 := (Below.refl _ w1).drew.trans hB
          have h2 := h1.next hB2
          clear hB k0 k1 f0 f1 hsl
          have k0 := blk_cell' (h2) 0
          have f0 := blk_free' (h2) 0
          have k1 := blk_cell' (h2) 1
          have f1 := blk_free' (h2) 1
          go_wp2
          go_ret
          rw [HR2.out]
          exact ⟨rfl, h2.set E, grown_set (grown_next (grown_of_below hB1 (Nat.le_refl _) _) hB2) 1 _⟩
        · have hqx : ((itoa v).toList == (s.extract a E).toList) = false := str_other hx
          have HR2 := Lib.hid (show R = Rd.no a by rw [← HRV.out, if_neg (fun q => hx q.2)])
          clear HRV hx
          generalize itoa v = iv at *
          go_wp2
          go_region_held3 (fun w' => w'.cell? ⟨rb, 0, none⟩ = some (.string s) ∧ w'.cell? ⟨rb, 1, none⟩ = some (.int .i64 a))
            (first | exact ⟨k0, k1⟩ | exact ⟨blk_cell' (h1.next ((Below.refl _ w1).drew.trans hB)) 0, blk_cell' (h1.next ((Below.refl _ w1).drew.trans hB)) 1⟩)
            (first | (go_at_call 30; (with_reducible refine (FI.out _ (L1.below (Below.refl _ w1).drew).L).mono ?_); rintro ev w2 ⟨rfl, hB⟩) | fail)
          have hB2 : Below w1.heap.size w1 w2 := (Below.refl _ w1).drew.trans hB
          have h2 := h1.next hB2
          clear hB k0 k1 f0 f1 hsl
          have k0 := blk_cell' (h2) 0
          have f0 := blk_free' (h2) 0
          have k1 := blk_cell' (h2) 1
          have f1 := blk_free' (h2) 1
          go_wp2_with fail
          refine (line_wrong a _).mono ?_
          rintro ev w3 ⟨hp, hB3⟩
          obtain rfl := hp
          go_wp2
          exact ⟨rfl, by rw [HR2.out]; exact ⟨rfl, grown_next (grown_next (grown_of_below hB1 (Nat.le_refl _) _) hB2) hB3⟩⟩
end Go.Proofs.YtnodjijgeifejaaGreatDoor
