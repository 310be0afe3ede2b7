/- Package span: length, Scan: the walk over the parts of a text. -/
import Derived.Test.YtmooibnedokllaaGreatDoorSw2
import Derived.Test.YtmooibnedokllaaGreatDoorUnits
import Derived.Test.YtmooibnedokllaaGreatDoorSpanL
namespace Go.Proofs.YtmooibnedokllaaGreatDoor
open Go.RowKit
set_option linter.unusedSimpArgs false
set_option linter.unusedVariables false

theorem ext_drop (s : ByteArray) (a : Nat) : (s.extract a s.size).data.toList = s.data.toList.drop a := by
  rw [ByteArray.data_extract]
  simp [Array.toList_extract, List.extract]
  rw [List.take_of_length_le (by simp)]
theorem ext_take (s : ByteArray) (a n : Nat) : (s.extract a (a + n)).data.toList = (s.data.toList.drop a).take n := by
  rw [ByteArray.data_extract]
  simp [Array.toList_extract, List.extract]
def unitS (u : Nat) : ByteArray := ⟨(unitN u).toArray⟩
theorem unitS_size (u : Nat) : (unitS u).size = (unitN u).length := by unfold unitS; simp [ByteArray.size]
theorem units_name {w : World} (h : UnitsAt w) {u : Nat} (hu : u ≤ 7) : w.cell? ⟨1, u * 2, none⟩ = some (.string (unitS u)) := by
  have e : u = 0 ∨ u = 1 ∨ u = 2 ∨ u = 3 ∨ u = 4 ∨ u = 5 ∨ u = 6 ∨ u = 7 := by omega
  rcases e with rfl | rfl | rfl | rfl | rfl | rfl | rfl | rfl <;> exact h _ _ rfl
theorem units_long {w : World} (h : UnitsAt w) {u : Nat} (hu : u ≤ 7) : w.cell? ⟨1, u * 2 + 1, none⟩ = some (.int .i64 (unitV u)) := by
  have e : u = 0 ∨ u = 1 ∨ u = 2 ∨ u = 3 ∨ u = 4 ∨ u = 5 ∨ u = 6 ∨ u = 7 := by omega
  rcases e with rfl | rfl | rfl | rfl | rfl | rfl | rfl | rfl <;> exact h _ _ rfl
set_option maxRecDepth 100000 in
set_option maxHeartbeats 400000 in
theorem span_length (s : ByteArray) (hs : s.size ≤ 140737488355328) (w : World) (hU : UnitsAt w) :
    Calls Tryz.prog 103 #[.string s] w fun e w' => e = .returned (.int .i64 ((scanG 0 s.data.toList).1)) ∧ Below w.heap.size w w' := by
  have hsz : s.data.toList.length = s.size := rfl
  go_enter Tryz.func103, Tryz.ntmps103
  go_wp2
  go_loopg [3, 4] 9 (fun n v3 v4 wr => ∃ (lo a : Nat), v3 = .int .i64 a ∧ v4 = .int .i64 ((lo : Int) - 1) ∧ a ≤ s.size ∧ lo + n = 9 ∧ lo ≤ 8 ∧ (scanG 0 s.data.toList).1 = a + (scanG lo (s.data.toList.drop a)).1 ∧ Below w.heap.size w wr)
  case atStart => exact ⟨0, 0, rfl, rfl, Nat.zero_le _, rfl, by omega, by simp, Below.refl _ _⟩
  case round =>
    obtain ⟨lo, a, rfl, rfl, ha, hn, hlo, hsc, hB⟩ := hrel
    have HS := Lib.hid hsc
    have HN := Lib.hid hn
    clear hsc hn
    have CD := fun W => span_digits (s.extract a s.size) (by simp; omega) W
    rw [ext_drop] at CD
    have hD : runD (s.data.toList.drop a) ≤ s.size - a := by have := runD_le (s.data.toList.drop a); rw [List.length_drop, hsz] at this; exact this
    have CU := fun W hW => span_unitAt (s.extract (a + runD (s.data.toList.drop a)) s.size) W hW
    rw [ext_drop, ← List.drop_drop] at CU
    have HP : Hid (partL (s.data.toList.drop a) = if runD (s.data.toList.drop a) = 0 ∨ unitL ((s.data.toList.drop a).drop (runD (s.data.toList.drop a))) < 0 then none else some ((unitL ((s.data.toList.drop a).drop (runD (s.data.toList.drop a)))).toNat, runD (s.data.toList.drop a) + (unitN (unitL ((s.data.toList.drop a).drop (runD (s.data.toList.drop a)))).toNat).length, decN ((s.data.toList.drop a).take (runD (s.data.toList.drop a))))) := Lib.hid rfl
    have u0 := unitL_lo ((s.data.toList.drop a).drop (runD (s.data.toList.drop a)))
    have u1 := unitL_hi ((s.data.toList.drop a).drop (runD (s.data.toList.drop a)))
    generalize hU1 : unitL ((s.data.toList.drop a).drop (runD (s.data.toList.drop a))) = U at *
    generalize hD1 : runD (s.data.toList.drop a) = D at *
    have HX := Lib.hid hD1
    have HY := Lib.hid hU1
    clear hD1 hU1
    by_cases h0 : D = 0
    · subst h0
      have hz : (scanG lo (s.data.toList.drop a)) = (0, 0) := scanG_none (by rw [HP.out, if_pos (Or.inl rfl)])
      have HR : Hid ((scanG 0 s.data.toList).1 = a) := Lib.hid (by rw [HS.out, hz]; rfl)
      clear hz
      go_wp2_with (first | (go_at_call 122; refine (CD _).mono ?_; rintro e w' ⟨rfl, rfl⟩) | (go_at_call 123; refine (CU _ (hU.below hB)).mono ?_; rintro e w' ⟨rfl, hB1⟩))
      go_ret
      exact ⟨ret_i (by rw [HR.out]), hB.trans (hB1.mono hB.size)⟩
    have h0' : ((D : Int) == 0) = false := by simpa using h0
    by_cases h1 : U ≤ (lo : Int) - 1
    · have hz : (scanG lo (s.data.toList.drop a)) = (0, 0) := by
        by_cases hneg : U < 0
        · exact scanG_none (by rw [HP.out, if_pos (Or.inr hneg)])
        · exact scanG_stop (by rw [HP.out, if_neg (by omega)]) (by omega)
      have HR : Hid ((scanG 0 s.data.toList).1 = a) := Lib.hid (by rw [HS.out, hz]; rfl)
      clear hz h0
      go_wp2_with (first | (go_at_call 122; refine (CD _).mono ?_; rintro e w' ⟨rfl, rfl⟩) | (go_at_call 123; refine (CU _ (hU.below hB)).mono ?_; rintro e w' ⟨rfl, hB1⟩))
      go_ret
      exact ⟨ret_i (by rw [HR.out]), hB.trans (hB1.mono hB.size)⟩
    · obtain ⟨u, rfl⟩ : ∃ u : Nat, U = u := ⟨U.toNat, by omega⟩
      have h1' : decide ((u : Int) ≤ (lo : Int) - 1) = false := by simp; omega
      have hlu : lo ≤ u := by omega
      have hp : partL (s.data.toList.drop a) = some (u, D + (unitN u).length, decN ((s.data.toList.drop a).take D)) := by rw [HP.out, if_neg (by omega)]; rfl
      have hpl := (partL_some hp).2.2
      rw [List.length_drop, hsz] at hpl
      have hgo := scanG_go hp (show lo ≤ u by omega)
      rw [List.drop_drop] at hgo
      have hlen := unitS_size u
      have hlen2 := unitN_len u
      rw [← hlen] at hgo hpl hlen2
      have HG : Hid ((scanG 0 s.data.toList).1 = (a + (D + (unitS u).size)) + (scanG (u + 1) (s.data.toList.drop (a + (D + (unitS u).size)))).1) := Lib.hid (by rw [HS.out, hgo]; show a + (_ + _) = _; omega)
      have hZ := fun W hW => units_name (w := W) hW (u := u) (by omega)
      generalize unitS u = nm at *
      clear h0 h1 hp hgo hlen
      go_wp2_with (first | (go_at_call 122; refine (CD _).mono ?_; rintro e w' ⟨rfl, rfl⟩) | (go_at_call 123; refine (CU _ (hU.below hB)).mono ?_; rintro e w' ⟨rfl, hB1⟩; have zc := hZ w' ((hU.below hB).below hB1)))
      have HN' := HN.out
      go_roundg (gk - (u + 1 - lo))
      case measure => omega
      case rel => exact ⟨u + 1, a + (D + nm.size), by go_num, by go_num, by omega, by omega, by omega, HG.out, hB.trans (hB1.mono hB.size)⟩

theorem mkE_isSome (n : Int) : (mkE n).isSome = decide (n ≠ 0) := by unfold mkE; by_cases h : n = 0 <;> simp [h]
theorem encE_neq (o : Option Er) (W : World) : (binOp .neq 25 (encE o) .nilIface).run Tryz.prog W = .ok (.bool o.isSome) W := by
  cases o with
  | none => kernel_rfl
  | some e => exact e.neq_nil W
theorem er_guardE (o : Option Er) (op : BinOp) (t : TypeId) (x : Operand) (c : Value) : eqGuard op t x (.const c) (encE o) .nilIface = pure () := by
  cases o with
  | none =>
    show eqGuard op t x (.const c) .nilIface .nilIface = _
    cases op <;> cases x <;> rfl
  | some e =>
    obtain ⟨a, b, h⟩ := e.enc_iface
    show eqGuard op t x (.const c) e.enc .nilIface = _
    rw [h]
    cases op <;> rfl
theorem fitP_pos {x : Int} (h : 0 ≤ x) : 0 ≤ (fitP x).1 ∧ (fitP x).1 ≤ 9223372036854775807 ∧ ((fitP x).2 = 0 ↔ x ≤ 9223372036854775807) ∧ (x ≤ 9223372036854775807 → (fitP x).1 = x) := by
  unfold fitP
  split
  · exact ⟨by omega, by omega, by omega, fun _ => rfl⟩
  · exact ⟨by decide, by decide, by simp; omega, fun _ => by omega⟩
/-- One part more: the sum, and whether it is too great. -/
theorem scan_step {V v U : Nat} {sum n0 : Int} (hU : 1 ≤ U) (h0 : 0 ≤ sum) (h1 : sum ≤ 9223372036854775807) (hs : V ≤ 9223372036854775807 → sum = V)
    (hn : v ≤ 9223372036854775807 → n0 = v) (hn2 : 9223372036854775807 < v → n0 = 9223372036854775807) :
    ∃ m b1 t b2, fitP (n0 * U) = (m, b1) ∧ fitP (sum + m) = (t, b2) ∧ 0 ≤ m ∧ m ≤ 9223372036854775807 ∧ 0 ≤ t ∧ t ≤ 9223372036854775807 ∧ 0 ≤ n0 ∧ n0 ≤ 9223372036854775807 ∧
      decide (9223372036854775807 < V + v * U) = (decide (9223372036854775807 < V) || decide (9223372036854775807 < v) || decide (b1 ≠ 0) || decide (b2 ≠ 0)) ∧ (V + v * U ≤ 9223372036854775807 → t = ((V + v * U : Nat) : Int)) := by
  have hvU : v ≤ v * U := Nat.le_mul_of_pos_right v hU
  have hn0 : 0 ≤ n0 := by by_cases h : v ≤ 9223372036854775807 <;> omega
  have hnU : 0 ≤ n0 * U := Int.mul_nonneg hn0 (by omega)
  have hm := fitP_pos hnU
  have ht := fitP_pos (x := sum + (fitP (n0 * U)).1) (by omega)
  refine ⟨(fitP (n0 * U)).1, (fitP (n0 * U)).2, (fitP (sum + (fitP (n0 * U)).1)).1, (fitP (sum + (fitP (n0 * U)).1)).2, rfl, rfl, hm.1, hm.2.1, ht.1, ht.2.1, hn0, by by_cases h : v ≤ 9223372036854775807 <;> omega, ?_, ?_⟩
  · by_cases hv : v ≤ 9223372036854775807
    · have e0 : n0 * U = ((v * U : Nat) : Int) := by rw [hn hv, Int.natCast_mul]
      rw [e0] at hm ht ⊢
      generalize v * U = P at *
      rw [Bool.eq_iff_iff]
      simp only [Bool.or_eq_true, decide_eq_true_eq, ne_eq]
      rw [hm.2.2.1, ht.2.2.1]
      by_cases hP : (P : Int) ≤ 9223372036854775807
      · have := hm.2.2.2 hP
        by_cases hV : V ≤ 9223372036854775807
        · have := hs hV; omega
        · omega
      · omega
    · rw [show decide (9223372036854775807 < V + v * U) = true by simp; omega, show decide (9223372036854775807 < v) = true by simp; omega]
      simp
  · intro hle
    have hv : v ≤ 9223372036854775807 := by omega
    have e0 : n0 * U = ((v * U : Nat) : Int) := by rw [hn hv, Int.natCast_mul]
    rw [e0] at hm ht ⊢
    generalize v * U = P at *
    have := hm.2.2.2 (by omega)
    rw [ht.2.2.2 (by have := hs (by omega); omega)]
    have := hs (by omega)
    omega
end Go.Proofs.YtmooibnedokllaaGreatDoor
