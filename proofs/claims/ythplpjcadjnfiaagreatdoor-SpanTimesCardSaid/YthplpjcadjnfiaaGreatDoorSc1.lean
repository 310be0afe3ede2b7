/- The document's clock: digits, wrong, number. -/
import Derived.Test.YthplpjcadjnfiaaGreatDoorClk
import Derived.Test.YthplpjcadjnfiaaGreatDoorSw2
namespace Go.Proofs.YthplpjcadjnfiaaGreatDoor
open Go.RowKit
set_option linter.unusedSimpArgs false
set_option linter.unusedVariables false

theorem gr_refl (w : World) (row : Option Nat) : w.grownBy w row := ⟨rfl, rfl, rfl, Nat.le_refl _, fun _ _ _ => rfl⟩
theorem gr_trans {a b c : World} {row : Option Nat} (h : a.grownBy b row) (k : b.grownBy c row) : a.grownBy c row :=
  ⟨k.os.trans h.os, k.tape.trans h.tape, k.output.trans h.output, Nat.le_trans h.size k.size, fun i hi hne => (k.block i (Nat.lt_of_lt_of_le hi h.size) hne).trans (h.block i hi hne)⟩
def digS (l : List UInt8) (a n : Nat) : Int × Bool := if n ≤ runD (l.drop a) then ((decN ((l.drop a).take n) : Int), true) else (0, false)
theorem dec_bd (l : List UInt8) (k : Nat) (hk : k ≤ runD l) (h9 : k ≤ 9) : decN (l.take k) ≤ 999999999 := by
  have h1 := decN_lt' (l.take k) (fun c hc => runD_take l c (by
    rw [show l.take k = (l.take (runD l)).take k by rw [List.take_take]; congr 1; omega] at hc
    exact List.mem_of_mem_take hc))
  have h2 : (l.take k).length ≤ k := List.length_take_le _ _
  have h3 : 10 ^ (l.take k).length ≤ 10 ^ 9 := Nat.pow_le_pow_right (by omega) (by omega)
  omega
theorem dec_bd8 (l : List UInt8) (k : Nat) (hk : k ≤ runD l) (h9 : k ≤ 8) : decN (l.take k) ≤ 99999999 := by
  have h1 := decN_lt' (l.take k) (fun c hc => runD_take l c (by
    rw [show l.take k = (l.take (runD l)).take k by rw [List.take_take]; congr 1; omega] at hc
    exact List.mem_of_mem_take hc))
  have h2 : (l.take k).length ≤ k := List.length_take_le _ _
  have h3 : 10 ^ (l.take k).length ≤ 10 ^ 8 := Nat.pow_le_pow_right (by omega) (by omega)
  omega
set_option maxRecDepth 100000 in
set_option maxHeartbeats 1000000 in
theorem ref_digits (s : ByteArray) (a n : Nat) (hs : s.size ≤ 140737488355328) (ha : a ≤ s.size) (hn9 : n ≤ 9) (w : World) :
    Calls Tryz.prog 101 #[.string s, .int .i64 (a : Int), .int .i64 (n : Int)] w fun e w' => e = .returned (.tuple #[.int .i64 (digS s.data.toList a n).1, .bool (digS s.data.toList a n).2]) ∧ w' = w := by
  have HR : Hid (digS s.data.toList a n = if n ≤ runD (s.data.toList.drop a) then ((decN ((s.data.toList.drop a).take n) : Int), true) else (0, false)) := Lib.hid rfl
  generalize digS s.data.toList a n = R at *
  have hrl := runD_le (s.data.toList.drop a)
  rw [List.length_drop, show s.data.toList.length = s.size from rfl] at hrl
  by_cases h0 : s.size < a + n
  · have k0 : decide ((s.size : Int) < (a : Int) + (n : Int)) = true := by simp; omega
    obtain rfl : R = (0, false) := by rw [HR.out, if_neg (by omega)]
    clear hrl h0 HR
    go_enter Tryz.func101, Tryz.ntmps101
    go_wp2
    go_ret2
    exact ⟨rfl, rfl⟩
  have k0 : decide ((s.size : Int) < (a : Int) + (n : Int)) = false := by simp; omega
  have han : a + n ≤ s.size := by omega
  clear h0
  go_enter Tryz.func101, Tryz.ntmps101
  go_wp2
  go_loopg [8, 9] n (fun m v5 v6 wr => ∃ k : Nat, v5 = .int .i64 (decN ((s.data.toList.drop a).take k) : Int) ∧ v6 = .int .i64 ((a : Int) + (k : Int)) ∧ k + m = n ∧ k ≤ runD (s.data.toList.drop a) ∧ w = wr)
  case atStart => exact ⟨0, rfl, by rw [show ((a : Int) + ((0 : Nat) : Int)) = a by omega], by omega, Nat.zero_le _, rfl⟩
  case round =>
    obtain ⟨k, rfl, rfl, hk, hkr, rfl⟩ := hrel
    have hv := dec_bd (s.data.toList.drop a) k hkr (by omega)
    by_cases hlt : k < n
    · have kl : decide ((a : Int) + (k : Int) < (a : Int) + (n : Int)) = true := by simp; omega
      have hi : a + k < s.size := by omega
      have hv8 := dec_bd8 (s.data.toList.drop a) k hkr (by omega)
      have CD := fun W => ref_digit (s[a + k]'hi) W
      have hge : (s.data.toList.drop a)[k]? = some (s[a + k]'hi) := by rw [List.getElem?_drop]; exact List.getElem?_eq_getElem (show a + k < s.data.toList.length from hi)
      have e0 : ((a : Int) + (k : Int)).toNat = a + k := by omega
      have hst := digitsP_step (s.data.toList) (a + k) hi
      rw [show s.data.toList[a + k] = s[a + k]'hi from rfl] at hst
      cases hd : isD (s[a + k]'hi) with
      | true =>
        have hd2 := isD_iff.1 hd
        have hsn : decN ((s.data.toList.drop a).take (k + 1)) = 10 * decN ((s.data.toList.drop a).take k) + ((s[a + k]'hi).toNat - 48) := by
          have : (s.data.toList.drop a).take (k + 1) = (s.data.toList.drop a).take k ++ [s[a + k]'hi] := by
            rw [List.take_add_one, hge]; rfl
          rw [this]
          exact decF_snoc 0 _ _
        have hkr2 : k + 1 ≤ runD (s.data.toList.drop a) := by
          rcases Nat.lt_or_ge k (runD (s.data.toList.drop a)) with h | h
          · exact h
          · exfalso
            have hlen : runD (s.data.toList.drop a) < (s.data.toList.drop a).length := by rw [List.length_drop, show s.data.toList.length = s.size from rfl]; omega
            have := runD_next (s.data.toList.drop a) hlen
            have hkk : runD (s.data.toList.drop a) = k := by omega
            have e2 : (s.data.toList.drop a)[runD (s.data.toList.drop a)]? = some (s[a + k]'hi) := by rw [hkk]; exact hge
            rw [List.getElem?_eq_getElem hlen] at e2
            rw [Option.some.inj e2, hd] at this
            cases this
        rw [hd] at CD
        obtain ⟨c, hc⟩ : ∃ c : Nat, (s[a + k]'hi).toNat = c + 48 := ⟨(s[a + k]'hi).toNat - 48, by omega⟩
        have hc9 : c ≤ 9 := by omega
        rw [hc] at CD hsn
        generalize decN ((s.data.toList.drop a).take k) = V at *
        have HSN := Lib.hid hsn
        have e1 : IntKind.u8.wrap (((c + 48 : Nat) : Int) - 48) = (c : Int) := by rw [IntKind.wrap_u8]; omega
        have hcc : (s[a + k]'hi).toNat = c + 48 := hc
        clear hd hd2 hsn hst hge hkr
        go_wp2_with (go_at_call 84; refine (CD _).mono ?_; rintro e w' ⟨rfl, rfl⟩)
        go_roundg (n - (k + 1))
        case measure => omega
        case rel => exact ⟨k + 1, by rw [HSN.out]; go_num, by go_num, by omega, by omega, rfl⟩
      | false =>
        have hkr2 : runD (s.data.toList.drop a) = k := by
          rcases Nat.lt_or_ge k (runD (s.data.toList.drop a)) with h | h
          · exfalso
            obtain ⟨hk1, h2⟩ := runD_lt h
            have e2 := List.getElem?_eq_getElem hk1
            rw [hge] at e2
            rw [← Option.some.inj e2, hd] at h2
            cases h2
          · omega
        rw [hd] at CD
        obtain rfl : R = (0, false) := by rw [HR.out, if_neg (by omega)]
        generalize decN ((s.data.toList.drop a).take k) = V at *
        clear hd hst hge hkr HR hkr2 hrl
        go_wp2_with (go_at_call 84; refine (CD _).mono ?_; rintro e w' ⟨rfl, rfl⟩)
        go_ret2
        exact ⟨rfl, rfl⟩
    · obtain rfl : k = n := by omega
      have kl : decide ((a : Int) + (k : Int) < (a : Int) + (k : Int)) = false := by simp
      obtain rfl : R = ((decN ((s.data.toList.drop a).take k) : Int), true) := by rw [HR.out, if_pos hkr]
      clear HR hkr hrl
      go_wp2
      go_ret2
      exact ⟨rfl, rfl⟩
def kC : Option Nat → Int
  | none => 0
  | some _ => 41
def kB : Option Nat → Int
  | none => 0
  | some e => (e : Int)
def kP : Option Nat → Bool
  | none => false
  | some _ => true
/-- The clock in block c. -/
def CkAt (c : Nat) (s : ByteArray) (st : CSt) (w : World) : Prop :=
  w.heap[c]? = some (.cells #[.string s, .int .i64 (st.1 : Int), .int .i64 (kC st.2), .int .i64 (kB st.2), .int .i64 0, .bool (kP st.2), .bool false] 92 (0, 0))
theorem CkAt.next {c : Nat} {s : ByteArray} {st : CSt} {w w' : World} (h : CkAt c s st w) (hB : Below w.heap.size w w') : CkAt c s st w' := below_blk hB (blk_lt' h) h
theorem CkAt.at {c : Nat} {s : ByteArray} {st : CSt} {w : World} (h : CkAt c s st w) (b : Nat) : CkAt c s (b, st.2) (w.setCell ⟨c, 1, none⟩ (.int .i64 (b : Int))) := by
  have := blk_set' h 1 (.int .i64 (b : Int))
  exact this
/-- What a reading leaves. -/
def CkPost {α : Type} (c : Nat) (s : ByteArray) (enc : α → Value) (w : World) (q : α × CSt) (ev : Ending) (w' : World) : Prop :=
  ev = .returned (enc q.1) ∧ CkAt c s q.2 w' ∧ w.grownBy w' (some c)
theorem ck_blk {w : World} {b : Nat} {x0 x1 x2 x3 x4 x5 x6 : Value} {T : TypeId} {fr : Nat × Nat} (h : w.heap[b]? = some (.cells #[x0, x1, x2, x3, x4, x5, x6] T fr)) (v2 v3 v4 v5 v6 : Value) :
    (((((w.setCell ⟨b, 2, none⟩ v2).setCell ⟨b, 3, none⟩ v3).setCell ⟨b, 4, none⟩ v4).setCell ⟨b, 5, none⟩ v5).setCell ⟨b, 6, none⟩ v6).heap[b]? = some (.cells #[x0, x1, v2, v3, v4, v5, v6] T fr) := by
  have := blk_set' (blk_set' (blk_set' (blk_set' (blk_set' h 2 v2) 3 v3) 4 v4) 5 v5) 6 v6
  simpa using this
set_option maxRecDepth 100000 in
set_option maxHeartbeats 1000000 in
theorem ck_wrong (c : Nat) (s : ByteArray) (a : Nat) (ha : a ≤ s.size) (w : World) (h : CkAt c s (a, none) w) :
    Calls Tryz.prog 71 #[.pointer (some ⟨c, 0, none⟩), .int .i64 (a : Int)] w fun ev w' => ev = .returned (.tuple #[]) ∧ CkAt c s (a, some a) w' ∧ w.grownBy w' (some c) := by
  unfold CkAt at h ⊢
  simp only [kC, kB, kP] at h ⊢
  have k0 := blk_cell' (h) 0
  have f0 := blk_free' (h) 0
  have k1 := blk_cell' (h) 1
  have f1 := blk_free' (h) 1
  have k2 := blk_cell' (h) 2
  have f2 := blk_free' (h) 2
  have k3 := blk_cell' (h) 3
  have f3 := blk_free' (h) 3
  have k4 := blk_cell' (h) 4
  have f4 := blk_free' (h) 4
  have k5 := blk_cell' (h) 5
  have f5 := blk_free' (h) 5
  have k6 := blk_cell' (h) 6
  have f6 := blk_free' (h) 6
  have kl : decide ((s.size : Int) < (a : Int)) = false := by simp; omega
  have A41 : ∀ (w : World), Calls Tryz.prog 103 #[.int .i64 (a : Int), .int .i64 41] w fun ev w' => ev = .returned (.agg #[.int .i64 41, .int .i64 (a : Int), .int .i64 0, .bool true, .bool false]) ∧ Below w.heap.size w w' := fun w => weirref01_At a 41 w
  have A41 := Lib.hid A41
  go_enter Tryz.func71, Tryz.ntmps71
  go_wp2_with fail
  refine (A41.out _).mono ?_
  rintro ev w1 ⟨rfl, hB⟩
  have h1 := below_blk hB (blk_lt' h) h
  clear k0 k1 k2 k3 k4 k5 k6 f0 f1 f2 f3 f4 f5 f6
  have k0 := blk_cell' (h1) 0
  have f0 := blk_free' (h1) 0
  have k1 := blk_cell' (h1) 1
  have f1 := blk_free' (h1) 1
  have k2 := blk_cell' (h1) 2
  have f2 := blk_free' (h1) 2
  have k3 := blk_cell' (h1) 3
  have f3 := blk_free' (h1) 3
  have k4 := blk_cell' (h1) 4
  have f4 := blk_free' (h1) 4
  have k5 := blk_cell' (h1) 5
  have f5 := blk_free' (h1) 5
  have k6 := blk_cell' (h1) 6
  have f6 := blk_free' (h1) 6
  go_wp2
  go_end0
  exact ⟨rfl, ck_blk h1 _ _ _ _ _, grown_set (grown_set (grown_set (grown_set (grown_set (grown_of_below hB (Nat.le_refl _) _) 2 _) 3 _) 4 _) 5 _) 6 _⟩
set_option maxRecDepth 100000 in
set_option maxHeartbeats 1000000 in
theorem ck_number_bad (c : Nat) (s : ByteArray) (a p n : Nat) (lo hi : Int) (w : World) (h : CkAt c s (a, some p) w) :
    Calls Tryz.prog 66 #[.pointer (some ⟨c, 0, none⟩), .int .i64 (n : Int), .int .i64 lo, .int .i64 hi] w (CkPost c s (.int .i64) w (0, (a, some p))) := by
  have h' := h
  unfold CkAt at h'
  simp only [kC, kB, kP] at h'
  have k0 := blk_cell' (h') 0
  have f0 := blk_free' (h') 0
  have k1 := blk_cell' (h') 1
  have f1 := blk_free' (h') 1
  have k2 := blk_cell' (h') 2
  have f2 := blk_free' (h') 2
  have k3 := blk_cell' (h') 3
  have f3 := blk_free' (h') 3
  have k4 := blk_cell' (h') 4
  have f4 := blk_free' (h') 4
  have k5 := blk_cell' (h') 5
  have f5 := blk_free' (h') 5
  have k6 := blk_cell' (h') 6
  have f6 := blk_free' (h') 6
  go_enter Tryz.func66, Tryz.ntmps66
  go_wp2
  go_ret
  exact ⟨rfl, h, gr_refl _ _⟩
theorem numS_dig (l : List UInt8) (a n : Nat) (lo hi : Int) : (numS l a n lo hi = some (digS l a n).1 ∧ (digS l a n).2 = true ∧ lo ≤ (digS l a n).1 ∧ (digS l a n).1 ≤ hi ∧ n ≤ runD (l.drop a)) ∨ (numS l a n lo hi = none ∧ ((digS l a n).2 = false ∨ ((digS l a n).2 = true ∧ (digS l a n).1 < lo) ∨ ((digS l a n).2 = true ∧ lo ≤ (digS l a n).1 ∧ hi < (digS l a n).1))) := by
  unfold numS digS
  by_cases h : n ≤ runD (l.drop a)
  · rw [if_pos h]
    by_cases h1 : lo ≤ (decN ((l.drop a).take n) : Int)
    · by_cases h2 : (decN ((l.drop a).take n) : Int) ≤ hi
      · rw [if_pos ⟨h, h1, h2⟩]; exact .inl ⟨rfl, rfl, h1, h2, h⟩
      · rw [if_neg (fun q => h2 q.2.2)]; exact .inr ⟨rfl, .inr (.inr ⟨rfl, h1, by omega⟩)⟩
    · rw [if_neg (fun q => h1 q.2.1)]; exact .inr ⟨rfl, .inr (.inl ⟨rfl, by omega⟩)⟩
  · rw [if_neg h, if_neg (fun q => h q.1)]; exact .inr ⟨rfl, .inl rfl⟩
set_option maxRecDepth 100000 in
set_option maxHeartbeats 1000000 in
theorem ck_number_good (c : Nat) (s : ByteArray) (a n : Nat) (lo hi : Int) (hs : s.size ≤ 140737488355328) (ha : a ≤ s.size) (hn9 : n ≤ 9) (w : World) (h : CkAt c s (a, none) w) :
    Calls Tryz.prog 66 #[.pointer (some ⟨c, 0, none⟩), .int .i64 (n : Int), .int .i64 lo, .int .i64 hi] w (CkPost c s (.int .i64) w (numC s.data.toList n lo hi (a, none))) := by
  have CD := fun W => ref_digits s a n hs ha hn9 W
  have h' := h
  unfold CkAt at h'
  simp only [kC, kB, kP] at h'
  have k0 := blk_cell' h' 0
  have k1 := blk_cell' h' 1
  have k2 := blk_cell' h' 2
  have f1 := blk_free' h' 1
  rcases numS_dig s.data.toList a n lo hi with ⟨hv, hok, h1, h2, hr⟩ | ⟨hv, hno⟩
  · rw [numC_yes hv]
    rw [hok] at CD
    have hrl := runD_le (s.data.toList.drop a)
    rw [List.length_drop, show s.data.toList.length = s.size from rfl] at hrl
    have kl : decide ((digS s.data.toList a n).1 < lo) = false := by simpa using h1
    have kh : decide (hi < (digS s.data.toList a n).1) = false := by simpa using h2
    generalize (digS s.data.toList a n).1 = v at *
    clear hv h1 h2 hok
    have hfin := h.at (a + n)
    rw [show ((a + n : Nat) : Int) = (a : Int) + (n : Int) by omega] at hfin
    go_enter Tryz.func66, Tryz.ntmps66
    go_wp2_with fail
    go_quiet ((go_at_call 101; exact Calls.quiet_of_same (CD _)))
    go_wp2_with fail
    go_ret
    exact ⟨rfl, hfin, grown_set (grown_of_below (below_drewN (Below.refl _ _) _) (Nat.le_refl _) _) 1 _⟩
  · rw [numC_no hv]
    have CW := Lib.hid (fun W hW => ck_wrong c s a ha W hW)
    rcases hno with hk | ⟨hk, h1⟩ | ⟨hk, h1, h2⟩
    · rw [hk] at CD
      generalize (digS s.data.toList a n).1 = v at *
      clear hv hk
      go_enter Tryz.func66, Tryz.ntmps66
      go_wp2_with fail
      go_quiet ((go_at_call 101; exact Calls.quiet_of_same (CD _)))
      go_wp2_with fail
      refine (CW.out _ (h.next (below_drewN (Below.refl _ _) _))).mono ?_
      rintro e w2 ⟨rfl, h2, hg⟩
      go_wp2
      go_ret
      exact ⟨rfl, h2, grown_after (below_drewN (Below.refl _ _) _) hg⟩
    · rw [hk] at CD
      have kl : decide ((digS s.data.toList a n).1 < lo) = true := by simpa using h1
      generalize (digS s.data.toList a n).1 = v at *
      clear hv hk h1
      go_enter Tryz.func66, Tryz.ntmps66
      go_wp2_with fail
      go_quiet ((go_at_call 101; exact Calls.quiet_of_same (CD _)))
      go_wp2_with fail
      refine (CW.out _ (h.next (below_drewN (Below.refl _ _) _))).mono ?_
      rintro e w2 ⟨rfl, h2, hg⟩
      go_wp2
      go_ret
      exact ⟨rfl, h2, grown_after (below_drewN (Below.refl _ _) _) hg⟩
    · rw [hk] at CD
      have kl : decide ((digS s.data.toList a n).1 < lo) = false := by simpa using h1
      have kh : decide (hi < (digS s.data.toList a n).1) = true := by simpa using h2
      generalize (digS s.data.toList a n).1 = v at *
      clear hv hk h1 h2
      go_enter Tryz.func66, Tryz.ntmps66
      go_wp2_with fail
      go_quiet ((go_at_call 101; exact Calls.quiet_of_same (CD _)))
      go_wp2_with fail
      refine (CW.out _ (h.next (below_drewN (Below.refl _ _) _))).mono ?_
      rintro e w2 ⟨rfl, h2, hg⟩
      go_wp2
      go_ret
      exact ⟨rfl, h2, grown_after (below_drewN (Below.refl _ _) _) hg⟩
theorem ck_number (c : Nat) (s : ByteArray) (st : CSt) (n : Nat) (lo hi : Int) (hs : s.size ≤ 140737488355328) (ha : st.1 ≤ s.size) (hn9 : n ≤ 9) (w : World) (h : CkAt c s st w) :
    Calls Tryz.prog 66 #[.pointer (some ⟨c, 0, none⟩), .int .i64 (n : Int), .int .i64 lo, .int .i64 hi] w (CkPost c s (.int .i64) w (numC s.data.toList n lo hi st)) := by
  obtain ⟨a, b⟩ := st
  cases b with
  | none => exact ck_number_good c s a n lo hi hs ha hn9 w h
  | some p => exact ck_number_bad c s a p n lo hi w h
theorem numC_le {l : List UInt8} {n : Nat} {lo hi : Int} {st : CSt} (h : st.1 ≤ l.length) : (numC l n lo hi st).2.1 ≤ l.length := by
  obtain ⟨a, b⟩ := st
  cases b with
  | some p => exact h
  | none =>
    cases hv : numS l a n lo hi with
    | none => rw [numC_no hv]; exact h
    | some v =>
      rw [numC_yes hv]
      unfold numS at hv
      split at hv
      · rename_i hc
        have := runD_le (l.drop a)
        rw [List.length_drop] at this
        have h' : a ≤ l.length := h
        show a + n ≤ l.length
        omega
      · cases hv
theorem sigC_le {l : List UInt8} {c : UInt8} {st : CSt} (h : st.1 ≤ l.length) : (sigC l c st).1 ≤ l.length := by
  obtain ⟨a, b⟩ := st
  cases b with
  | some p => exact h
  | none =>
    by_cases hv : sigS l a c = true
    · rw [sigC_yes hv]
      unfold sigS at hv
      have h1 : l[a]? = some c := by simpa using hv
      obtain ⟨hl, _⟩ := List.getElem?_eq_some_iff.1 h1
      exact hl
    · rw [sigC_no hv]; exact h
end Go.Proofs.YthplpjcadjnfiaaGreatDoor
