/- Reading a time: place, all ways together. -/
import Derived.Test.YthplpjcadjnfiaaGreatDoorSw20
namespace Go.Proofs.YthplpjcadjnfiaaGreatDoor
open Go.RowKit
set_option linter.unusedSimpArgs false
set_option linter.unusedVariables false

set_option maxRecDepth 100000 in
set_option maxHeartbeats 400000 in
theorem place_Z (r : Rv) (b : Nat) (hs : r.s.size ≤ 140737488355328) (w : World) (h : RvAt w b r) (r' : Rv) (hz : sigT [90] r = (true, r')) :
    Calls Tryz.prog 62 #[.pointer (some ⟨b, 0, none⟩)] w (StepPost w b (true, r')) := by
  have CZ := fun W hR => sigT_step ⟨#[90]⟩ r b hs W hR
  have e90 : (⟨#[90]⟩ : ByteArray).data.toList = [90] := rfl
  rw [e90, hz] at CZ
  generalize hP : StepPost w b (true, r') = Q
  have HQ := Lib.hid hP
  clear hP
  go_enter Tryz.func62, Tryz.ntmps62
  go_wp2_with fail
  refine (CZ _ (h.next ((Below.refl _ _).alloc (Nat.le_refl _) _))).mono ?_
  rintro e w1 ⟨rfl, hR, hG⟩
  go_wp2
  rw [← HQ.out]
  exact ⟨rfl, hR, grown_after ((Below.refl _ _).alloc (Nat.le_refl _) _) hG⟩
theorem kc_of (r : Rv) (ha : r.a < r.s.size) : ((r.s[r.a].toNat : Int) == 45) = sigS r.s.data.toList r.a 45 := by
  have ha' : r.a < r.s.data.toList.length := ha
  have e : r.s.data.toList[r.a] = r.s[r.a] := rfl
  unfold sigS
  rw [List.getElem?_eq_getElem ha', e]
  by_cases h : r.s[r.a] = 45
  · rw [h]; rfl
  · have h2 : ¬ r.s[r.a].toNat = 45 := fun e => h (UInt8.toNat_inj.1 e)
    have h3 : ¬ (r.s[r.a].toNat : Int) = 45 := by omega
    rw [beq_eq_false_iff_ne.2 h3]
    symm
    simpa using h
theorem num_le {r : Rv} {a n : Nat} {lo hi v : Int} (h : numS r.s.data.toList a n lo hi = some v) (hn : 1 ≤ n) : a + n ≤ r.s.size := by
  have h1 := (numS_some h).1
  have h2 := runD_le (r.s.data.toList.drop a)
  rw [List.length_drop] at h2
  have h3 : r.s.data.toList.length = r.s.size := rfl
  omega
theorem sig_le {r : Rv} {a : Nat} {c : UInt8} (h : sigS r.s.data.toList a c = true) : a + 1 ≤ r.s.size := (sigS_lt h).1
theorem placeT_step (r : Rv) (b : Nat) (hs : r.s.size ≤ 140737488355328) (w : World) (hK : ∀ W, w.grownBy W (some b) → LayS W) (h : RvAt w b r) :
    Calls Tryz.prog 62 #[.pointer (some ⟨b, 0, none⟩)] w (StepPost w b (placeT r)) := by
  unfold placeT
  have hzz := sig1 90 r
  cases h90 : sigS r.s.data.toList r.a 90 with
  | true =>
    rw [h90, if_pos rfl] at hzz
    rw [if_pos rfl]
    exact place_Z r b hs w h _ hzz
  | false =>
    rw [h90, if_neg (by simp)] at hzz
    rw [if_neg (by simp)]
    unfold zoneS
    rw [h90, if_neg (by simp)]
    by_cases hsg : sigS r.s.data.toList r.a 43 = true ∨ sigS r.s.data.toList r.a 45 = true
    · rw [if_pos hsg]
      have ha : r.a < r.s.size := by rcases hsg with h | h <;> exact (sigS_lt h).1
      have h1 : sigT [43, 45] r = (true, { r with a := r.a + 1 }) := by rw [sig2, if_pos hsg]
      have hle1 : r.a + 1 ≤ r.s.size := ha
      have hkc := kc_of r ha
      cases h45 : sigS r.s.data.toList r.a 45 with
      | true =>
        rw [h45] at hkc
        cases h2 : numS r.s.data.toList (r.a + 1) 2 0 23 with
        | none => exact place_l2m r b hs ha hkc _ h1 hle1 h2 w hK h hzz
        | some hv =>
          have hle2 := num_le h2 (by omega)
          cases h3 : sigS r.s.data.toList (r.a + 3) 58 with
          | false =>
            have e3 : sigT [58] { r with a := r.a + 3 } = (false, { r with a := r.a + 3 }) := by rw [sig1, if_neg (by rw [h3]; simp)]
            exact place_l3m r b hs ha hkc _ h1 hle1 hv (r.a + 3) h2 (by omega) e3 w hK h hzz
          | true =>
            have e3 : sigT [58] { r with a := r.a + 3 } = (true, { r with a := r.a + 4 }) := by rw [sig1, if_pos h3]
            have hle3 := sig_le h3
            cases h4 : numS r.s.data.toList (r.a + 4) 2 0 59 with
            | none => exact place_l4m r b hs ha hkc _ h1 hle1 hv (r.a + 3) h2 (by omega) _ e3 (by omega) h4 w hK h hzz
            | some mv => exact place_l5m r b hs ha hkc _ h1 hle1 hv (r.a + 3) h2 (by omega) _ e3 (by omega) mv (r.a + 6) h4 (by omega) w hK h hzz
      | false =>
        rw [h45] at hkc
        cases h2 : numS r.s.data.toList (r.a + 1) 2 0 23 with
        | none => exact place_l2p r b hs ha hkc _ h1 hle1 h2 w hK h hzz
        | some hv =>
          have hle2 := num_le h2 (by omega)
          cases h3 : sigS r.s.data.toList (r.a + 3) 58 with
          | false =>
            have e3 : sigT [58] { r with a := r.a + 3 } = (false, { r with a := r.a + 3 }) := by rw [sig1, if_neg (by rw [h3]; simp)]
            exact place_l3p r b hs ha hkc _ h1 hle1 hv (r.a + 3) h2 (by omega) e3 w hK h hzz
          | true =>
            have e3 : sigT [58] { r with a := r.a + 3 } = (true, { r with a := r.a + 4 }) := by rw [sig1, if_pos h3]
            have hle3 := sig_le h3
            cases h4 : numS r.s.data.toList (r.a + 4) 2 0 59 with
            | none => exact place_l4p r b hs ha hkc _ h1 hle1 hv (r.a + 3) h2 (by omega) _ e3 (by omega) h4 w hK h hzz
            | some mv => exact place_l5p r b hs ha hkc _ h1 hle1 hv (r.a + 3) h2 (by omega) _ e3 (by omega) mv (r.a + 6) h4 (by omega) w hK h hzz
    · rw [if_neg hsg]
      have h1 : sigT [43, 45] r = (false, r) := by rw [sig2, if_neg hsg]
      by_cases ha : r.a < r.s.size
      · have hkc := kc_of r ha
        rw [show sigS r.s.data.toList r.a 45 = false by cases hc : sigS r.s.data.toList r.a 45 with | false => rfl | true => exact absurd (Or.inr hc) hsg] at hkc
        exact place_l1n r b hs ha hkc h1 w hK h hzz
      · exact place_l1e r b hs ha h1 w hK h hzz
end Go.Proofs.YthplpjcadjnfiaaGreatDoor
