/- Reading a time: what stands behind a point. -/
import Derived.Test.YthplpjcadjnfiaaGreatDoorSw17
namespace Go.Proofs.YthplpjcadjnfiaaGreatDoor
open Go.RowKit
set_option linter.unusedSimpArgs false
set_option linter.unusedVariables false

theorem sigS_lt {l : List UInt8} {a : Nat} {c : UInt8} (h : sigS l a c = true) : ∃ h : a < l.length, l[a] = c := by
  unfold sigS at h
  have h2 : l[a]? = some c := by simpa using h
  exact List.getElem?_eq_some_iff.1 h2
theorem sigS_no {l : List UInt8} {a : Nat} {c : UInt8} (h : sigS l a c = false) (ha : a < l.length) : l[a] ≠ c := by
  intro e
  unfold sigS at h
  rw [List.getElem?_eq_getElem ha, e] at h
  simp at h
theorem decF_zeros : ∀ (j v : Nat), decF v (List.replicate j 48) = v * 10 ^ j := by
  intro j
  induction j with
  | zero => intro v; simp [decF_nil]
  | succ j ih =>
    intro v
    have e0 : (48 : UInt8).toNat - 48 = 0 := by decide
    rw [List.replicate_succ, decF_cons, ih, Nat.pow_succ, e0, Nat.add_zero, Nat.mul_comm 10 v, Nat.mul_assoc, Nat.mul_comm 10]
/-- The digits of a fraction, filled with zeros. -/
theorem frac_fill (s : ByteArray) (a n : Nat) (h1 : 1 ≤ n) (h9 : n ≤ 9) (hn : n ≤ runD (s.data.toList.drop a)) (Z : ByteArray) (hZ : Z.data.toList = List.replicate 8 48) :
    ∃ Y : ByteArray, (s.extract a (a + n) ++ Z).extract 0 9 = Y ∧ Y.size ≤ 9 ∧ (s.extract a (a + n)).size = n ∧ atoiV Y = (((decN ((s.data.toList.drop a).take n) * 10 ^ (9 - n) : Nat) : Int), true) := by
  have hT : (s.extract a (a + n)).data.toList = (s.data.toList.drop a).take n := ext_take s a n
  have hrl := runD_le (s.data.toList.drop a)
  have hlen : ((s.data.toList.drop a).take n).length = n := by rw [List.length_take]; omega
  have hsz : (s.extract a (a + n)).size = n := by
    have : (s.extract a (a + n)).data.toList.length = n := by rw [hT, hlen]
    exact this
  have hY : ((s.extract a (a + n) ++ Z).extract 0 9).data.toList = (s.data.toList.drop a).take n ++ List.replicate (9 - n) 48 := by
    have := ext_take (s.extract a (a + n) ++ Z) 0 9
    rw [Nat.zero_add] at this
    rw [this, List.drop_zero, data_app, hT]
    rw [hZ, List.take_append, hlen, List.take_of_length_le (by omega), List.take_replicate, show min (9 - n) 8 = 9 - n by omega]
  obtain ⟨Y, hYe⟩ : ∃ Y, Y = (s.extract a (a + n) ++ Z).extract 0 9 := ⟨_, rfl⟩
  rw [← hYe] at hY
  refine ⟨Y, hYe.symm, ?_, hsz, ?_⟩
  · have : Y.data.toList.length = 9 := by rw [hY, List.length_append, hlen, List.length_replicate]; omega
    have e : Y.size = Y.data.toList.length := rfl
    omega
  · have hall : ∀ c ∈ (s.data.toList.drop a).take n ++ List.replicate (9 - n) 48, isD c = true := by
      intro c hc
      rcases List.mem_append.1 hc with h | h
      · exact runD_take _ c (by
          rw [show (s.data.toList.drop a).take n = ((s.data.toList.drop a).take (runD (s.data.toList.drop a))).take n by rw [List.take_take]; congr 1; omega] at h
          exact List.mem_of_mem_take h)
      · rw [List.eq_of_mem_replicate h]; decide
    have hA := atoiV_digits Y (by rw [hY]; intro e; have := congrArg List.length e; rw [List.length_append, hlen] at this; simp at this; omega) (by rw [hY]; exact hall)
    rw [hY] at hA
    have hv : decN ((s.data.toList.drop a).take n ++ List.replicate (9 - n) 48) = decN ((s.data.toList.drop a).take n) * 10 ^ (9 - n) := by
      show decF 0 _ = _
      rw [decF_app, decF_zeros]
    have hlt := decN_lt _ hall
    rw [List.length_append, hlen, List.length_replicate, show n + (9 - n) = 9 by omega] at hlt
    have e9 : (10 : Nat) ^ 9 = 1000000000 := rfl
    rw [if_pos (by omega), hv] at hA
    exact hA
set_option maxRecDepth 100000 in
set_option maxHeartbeats 2000000 in
theorem point_none (s : ByteArray) (a b : Nat) (hs : s.size ≤ 140737488355328) (ha : a ≤ s.size) (hv : sigS s.data.toList a 46 = false) (w : World) (hL : LayS w)
    (c0 : w.cell? ⟨b, 0, none⟩ = some (.string s)) (c1 : w.cell? ⟨b, 1, none⟩ = some (.int .i64 (a : Int))) :
    Calls Tryz.prog 61 #[.pointer (some ⟨b, 0, none⟩)] w fun e w' => e = .returned (.bool true) ∧ Below w.heap.size w w' := by
  by_cases hlt : a < s.size
  · have hne : s[a] ≠ 46 := sigS_no hv hlt
    have kA : decide ((s.size : Int) ≤ (a : Int)) = false := by simp; omega
    have kA2 : ¬ s.size ≤ a := by omega
    have h46 : s[a].toNat = 46 → False := fun e => hne (UInt8.toNat_inj.1 e)
    have kc : ((s[a].toNat : Int) != 46) = true := by rw [bne_iff_ne]; intro e; exact h46 (by omega)
    clear h46
    clear hne hv
    go_enter Tryz.func61, Tryz.ntmps61
    go_wp2_with fail
    go_quiet (fail)
    go_wp2
    go_ret
    exact ⟨rfl, below_drewN (Below.refl _ _) _⟩
  · have kA : decide ((s.size : Int) ≤ (a : Int)) = true := by simp; omega
    have kA2 : s.size ≤ a := by omega
    clear hv
    go_enter Tryz.func61, Tryz.ntmps61
    go_wp2_with fail
    go_quiet (fail)
    go_wp2
    go_ret
    exact ⟨rfl, below_drewN (Below.refl _ _) _⟩
set_option maxRecDepth 100000 in
set_option maxHeartbeats 2000000 in
theorem point_bad (s : ByteArray) (a b : Nat) (hs : s.size ≤ 140737488355328) (ha : a ≤ s.size) (hv : sigS s.data.toList a 46 = true) (hf : fracS s.data.toList a = none) (w : World) (hL : LayS w)
    (c0 : w.cell? ⟨b, 0, none⟩ = some (.string s)) (c1 : w.cell? ⟨b, 1, none⟩ = some (.int .i64 (a : Int))) :
    Calls Tryz.prog 61 #[.pointer (some ⟨b, 0, none⟩)] w fun e w' => e = .returned (.bool false) ∧ Below w.heap.size w w' := by
  obtain ⟨hlt0, hc0⟩ := sigS_lt hv
  have hlt : a < s.size := hlt0
  have hc1 : s[a] = 46 := hc0
  have kA : decide ((s.size : Int) ≤ (a : Int)) = false := by simp; omega
  have kA2 : ¬ s.size ≤ a := by omega
  have kc : ((s[a].toNat : Int) != 46) = false := by rw [hc1]; rfl
  have hsl0 : ∀ W, (Instr.slice 9 (.string s) (some (.int .i64 ((a : Int) + 1))) none none).run Tryz.prog W = .ok (.string (s.extract (a + 1) s.size)) W := fun W => by rw [run_slice_string_l W 9 s Tryz.underlying9 .i64 ((a : Int) + 1) (by omega) (by omega)]; rfl
  have CD := fun W => digitsQ (s.extract (a + 1) s.size) (by simp; omega) W
  rw [ext_drop] at CD
  have hbl := World.block_lt_of_cell? w _ c0
  have hsum : IntKind.i64.wrap ((a : Int) + 1) = (a : Int) + 1 := by rw [IntKind.wrap_i64]; omega
  have hout : runD (s.data.toList.drop (a + 1)) < 1 ∨ 9 < runD (s.data.toList.drop (a + 1)) := by
    unfold fracS at hf
    rw [if_pos hv] at hf
    by_cases h : 1 ≤ runD (s.data.toList.drop (a + 1)) ∧ runD (s.data.toList.drop (a + 1)) ≤ 9
    · rw [if_pos h] at hf; cases hf
    · omega
  generalize s.extract (a + 1) s.size = F at *
  generalize runD (s.data.toList.drop (a + 1)) = D at *
  clear hc0 hc1 hv hf
  by_cases h1 : D < 1
  · have k1 : decide ((D : Int) < 1) = true := by simp; omega
    clear hout
    go_enter Tryz.func61, Tryz.ntmps61
    go_wp2_with fail
    go_quiet (fail)
    go_wp2_with fail
    generalize hW0 : w.drewN _ = W0 at *
    have hb0 : Below w.heap.size w W0 := by rw [← hW0]; exact below_drewN (Below.refl _ _) _
    replace c0 := (hb0.cell (p := ⟨b, 0, none⟩) hbl).trans c0
    replace c1 := (hb0.cell (p := ⟨b, 1, none⟩) hbl).trans c1
    have HB00 := Lib.hid hb0
    clear hW0 hb0
    go_quiet ((go_at_call 36; exact Calls.quiet_of_same (CD _)))
    go_wp2
    go_ret
    exact ⟨rfl, below_drewN HB00.out _⟩
  · have k1 : decide ((D : Int) < 1) = false := by simp; omega
    have k9 : decide ((9 : Int) < (D : Int)) = true := by simp; omega
    clear hout
    go_enter Tryz.func61, Tryz.ntmps61
    go_wp2_with fail
    go_quiet (fail)
    go_wp2_with fail
    generalize hW0 : w.drewN _ = W0 at *
    have hb0 : Below w.heap.size w W0 := by rw [← hW0]; exact below_drewN (Below.refl _ _) _
    replace c0 := (hb0.cell (p := ⟨b, 0, none⟩) hbl).trans c0
    replace c1 := (hb0.cell (p := ⟨b, 1, none⟩) hbl).trans c1
    have HB00 := Lib.hid hb0
    clear hW0 hb0
    go_quiet ((go_at_call 36; exact Calls.quiet_of_same (CD _)))
    go_wp2
    go_ret
    exact ⟨rfl, below_drewN HB00.out _⟩
set_option maxRecDepth 100000 in
set_option maxHeartbeats 2000000 in
theorem point_yes (s : ByteArray) (a b : Nat) (hs : s.size ≤ 140737488355328) (ha : a ≤ s.size) (ns : Int) (n' : Nat) (hv : sigS s.data.toList a 46 = true) (hf : fracS s.data.toList a = some (ns, n')) (w : World) (hL : LayS w)
    (c0 : w.cell? ⟨b, 0, none⟩ = some (.string s)) (c1 : w.cell? ⟨b, 1, none⟩ = some (.int .i64 (a : Int)))
    (f1 : w.frozen? ⟨b, 1, none⟩ = false) (x8 : Value) (c8 : w.cell? ⟨b, 8, none⟩ = some x8) (f8 : w.frozen? ⟨b, 8, none⟩ = false) :
    Calls Tryz.prog 61 #[.pointer (some ⟨b, 0, none⟩)] w fun e w' => e = .returned (.bool true) ∧ ∃ w1, Below w.heap.size w w1 ∧ w' = (w1.setCell ⟨b, 8, none⟩ (.int .i64 ns)).setCell ⟨b, 1, none⟩ (.int .i64 (n' : Int)) := by
  obtain ⟨hlt0, hc0⟩ := sigS_lt hv
  have hlt : a < s.size := hlt0
  have hc1 : s[a] = 46 := hc0
  have kA : decide ((s.size : Int) ≤ (a : Int)) = false := by simp; omega
  have kA2 : ¬ s.size ≤ a := by omega
  have kc : ((s[a].toNat : Int) != 46) = false := by rw [hc1]; rfl
  have hsl0 : ∀ W, (Instr.slice 9 (.string s) (some (.int .i64 ((a : Int) + 1))) none none).run Tryz.prog W = .ok (.string (s.extract (a + 1) s.size)) W := fun W => by rw [run_slice_string_l W 9 s Tryz.underlying9 .i64 ((a : Int) + 1) (by omega) (by omega)]; rfl
  have CD := fun W => digitsQ (s.extract (a + 1) s.size) (by simp; omega) W
  rw [ext_drop] at CD
  have hbl := World.block_lt_of_cell? w _ c0
  have hsum : IntKind.i64.wrap ((a : Int) + 1) = (a : Int) + 1 := by rw [IntKind.wrap_i64]; omega
  have hin : 1 ≤ runD (s.data.toList.drop (a + 1)) ∧ runD (s.data.toList.drop (a + 1)) ≤ 9 ∧ ns = ((decN ((s.data.toList.drop (a + 1)).take (runD (s.data.toList.drop (a + 1)))) * 10 ^ (9 - runD (s.data.toList.drop (a + 1))) : Nat) : Int) ∧ n' = a + 1 + runD (s.data.toList.drop (a + 1)) := by
    unfold fracS at hf
    rw [if_pos hv] at hf
    by_cases h : 1 ≤ runD (s.data.toList.drop (a + 1)) ∧ runD (s.data.toList.drop (a + 1)) ≤ 9
    · rw [if_pos h] at hf
      have h2 := Option.some.inj hf
      exact ⟨h.1, h.2, (congrArg Prod.fst h2).symm, (congrArg Prod.snd h2).symm⟩
    · rw [if_neg h] at hf; cases hf
  obtain ⟨h1, h9, hns, hn'⟩ := hin
  obtain ⟨Y, hY, hYs, hEs, hYa⟩ := frac_fill s (a + 1) (runD (s.data.toList.drop (a + 1))) h1 h9 (Nat.le_refl _) ⟨#[48, 48, 48, 48, 48, 48, 48, 48]⟩ rfl
  have hrl : runD (s.data.toList.drop (a + 1)) ≤ s.size - (a + 1) := by have := runD_le (s.data.toList.drop (a + 1)); rw [List.length_drop] at this; exact this
  have hsl1 := fun W => slice_mid s (a + 1) (runD (s.data.toList.drop (a + 1))) (by omega) W
  have hsl2 : ∀ W, (Instr.slice 9 (.string (s.extract (a + 1) (a + 1 + runD (s.data.toList.drop (a + 1))) ++ ⟨#[48, 48, 48, 48, 48, 48, 48, 48]⟩)) none (some (.int .i64 9)) none).run Tryz.prog W = .ok (.string Y) W := fun W => by rw [run_slice_string_h W 9 _ Tryz.underlying9 .i64 9 (by omega) (by rw [ByteArray.size_append, hEs]; show (9 : Int) ≤ ((_ + 8 : Nat) : Int); omega)]; exact congrArg (fun z => Result.ok (Value.string z) W) hY
  have CP := fun W hW => strconv_ParseInt Y (by omega) W hW
  rw [hYa, ← hns] at CP
  generalize s.extract (a + 1) s.size = F at *
  generalize s.extract (a + 1) (a + 1 + runD (s.data.toList.drop (a + 1))) = E at *
  generalize runD (s.data.toList.drop (a + 1)) = D at *
  have k1 : decide ((D : Int) < 1) = false := by simp; omega
  have k9 : decide ((9 : Int) < (D : Int)) = false := by simp; omega
  have hle8 : ¬ 9223372036854775807 < E.size + 8 := by omega
  have hsl1' : ∀ W, (Instr.slice 9 (.string s) (some (.int .i64 ((a : Int) + 1))) (some (.int .i64 ((a : Int) + 1 + (D : Int)))) none).run Tryz.prog W = .ok (.string E) W := hsl1
  have hsum2 : IntKind.i64.wrap ((a : Int) + 1 + (D : Int)) = (a : Int) + 1 + (D : Int) := by rw [IntKind.wrap_i64]; omega
  have HF : Hid (∀ w2, Below w.heap.size w w2 → w2.cell? ⟨b, 0, none⟩ = some (.string s) ∧ w2.cell? ⟨b, 1, none⟩ = some (.int .i64 (a : Int)) ∧ w2.cell? ⟨b, 8, none⟩ = some x8 ∧ w2.frozen? ⟨b, 1, none⟩ = false ∧ w2.frozen? ⟨b, 8, none⟩ = false) := Lib.hid (fun w2 h => ⟨(h.cell (p := ⟨b, 0, none⟩) hbl).trans c0, (h.cell (p := ⟨b, 1, none⟩) hbl).trans c1, (h.cell (p := ⟨b, 8, none⟩) hbl).trans c8, (h.frozen (p := ⟨b, 1, none⟩) hbl).trans f1, (h.frozen (p := ⟨b, 8, none⟩) hbl).trans f8⟩)
  clear hc0 hc1 hv hf hY hYa hEs hns hrl hsl1 c8 f8 f1
  go_enter Tryz.func61, Tryz.ntmps61
  go_wp2_with fail
  go_quiet (fail)
  go_wp2_with fail
  generalize hW0 : w.drewN _ = W0 at *
  have hb0 : Below w.heap.size w W0 := by rw [← hW0]; exact below_drewN (Below.refl _ _) _
  replace c0 := (hb0.cell (p := ⟨b, 0, none⟩) hbl).trans c0
  replace c1 := (hb0.cell (p := ⟨b, 1, none⟩) hbl).trans c1
  have HB00 := Lib.hid hb0
  clear hW0 hb0
  go_quiet ((go_at_call 36; exact Calls.quiet_of_same (CD _)))
  go_wp2_with fail
  generalize hW : W0.drewN _ = W at *
  have hb1 : Below w.heap.size w W := by rw [← hW]; exact below_drewN HB00.out _
  have hLW : LayS W.drew := (hL.below hb1).below (Below.refl _ _).drew
  have hz : w.heap.size ≤ W.heap.size := hb1.size
  have t0 : W.cell? ⟨b, 0, none⟩ = some (.string s) ∧ W.cell? ⟨b, 1, none⟩ = some (.int .i64 (a : Int)) := ⟨(HF.out W hb1).1, (HF.out W hb1).2.1⟩
  have t0d : W.drew.cell? ⟨b, 0, none⟩ = some (.string s) ∧ W.drew.cell? ⟨b, 1, none⟩ = some (.int .i64 (a : Int)) := t0
  have HB1 := Lib.hid hb1
  clear hW hb1 c0 c1
  go_region_held3 (fun w' => w'.cell? ⟨b, 0, none⟩ = some (.string s) ∧ w'.cell? ⟨b, 1, none⟩ = some (.int .i64 (a : Int))) (first | (with_reducible exact t0) | (with_reducible exact t0d) | (with_reducible exact t1) | (with_reducible exact t2)) (first | (go_at_call 38; (with_reducible refine (CP _ hLW).mono ?_); rintro ev w2 ⟨er, rfl, rfl, hB⟩; have hB2 : Below w.heap.size w w2 := HB1.out.trans ((show Below W.heap.size W w2 from (Below.refl _ _).drew.trans hB).mono hz); obtain ⟨u0, u1, u8, g1, g8⟩ := HF.out w2 hB2; have t1 : w2.cell? ⟨b, 0, none⟩ = some (.string s) ∧ w2.cell? ⟨b, 1, none⟩ = some (.int .i64 (a : Int)) := ⟨u0, u1⟩; have t2 : (w2.setCell ⟨b, 8, none⟩ (.int .i64 ns)).cell? ⟨b, 0, none⟩ = some (.string s) ∧ (w2.setCell ⟨b, 8, none⟩ (.int .i64 ns)).cell? ⟨b, 1, none⟩ = some (.int .i64 (a : Int)) := ⟨by rw [World.cell?_setCell_other (h := by simp)]; exact u0, by rw [World.cell?_setCell_other (h := by simp)]; exact u1⟩))
  have HB2 := Lib.hid hB2
  obtain ⟨q0, q1⟩ := t2
  clear t0 t0d t1 hB2 hB hsum hsum2
  have q2 : (w2.setCell ⟨b, 8, none⟩ (.int .i64 ns)).frozen? ⟨b, 1, none⟩ = false := by rw [World.frozen?_setCell]; exact g1
  go_wp2
  go_ret
  exact ⟨rfl, w2, HB2.out, by rw [hn']; congr 2; omega⟩
end Go.Proofs.YthplpjcadjnfiaaGreatDoor
