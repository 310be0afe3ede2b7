/- Package line's reader: wrong, is, sign, piece: each reads at the reader's place, or panics with the place where it goes wrong. -/
import Derived.Test.YtnodjijgeifejaaGreatDoorUnesc
import Derived.Test.YtnodjijgeifejaaGreatDoorLib2
namespace Go.Proofs.YtnodjijgeifejaaGreatDoor
open Go.RowKit
set_option linter.unusedSimpArgs false
set_option linter.unusedVariables false

/-- The library's listed variables lie below B. -/
structure Old (B : Nat) : Prop where
  et : 0 < B
  tab : 1 < B
  syn : 5 < B
  rng : 6 < B
theorem LayS.old {w : World} (h : LayS w) : Old w.heap.size where
  et := h.L.hg.lt
  tab := var?_lt gTab h.L.tab
  syn := by obtain ⟨tp, p, e⟩ := h.syn; exact var?_lt gSyn e
  rng := by obtain ⟨tp, p, e⟩ := h.rng; exact var?_lt gRng e
theorem LayS.belowO {B : Nat} {w w' : World} (h : LayS w) (hB : Below B w w') (o : Old B) : LayS w' where
  L := { hg := h.L.hg.belowN hB o.et, tab := var?_below hB gTab o.tab h.L.tab }
  syn := by obtain ⟨tp, p, e⟩ := h.syn; exact ⟨tp, p, var?_below hB gSyn o.syn e⟩
  rng := by obtain ⟨tp, p, e⟩ := h.rng; exact ⟨tp, p, var?_below hB gRng o.rng e⟩
theorem LayS.grown {B rb : Nat} {w w' : World} (h : LayS w) (hg : w.grownBy w' (some rb)) (o : Old B) (hb : B ≤ rb) (hw : B ≤ w.heap.size) : LayS w' := h.belowO (below_grown1 hg hb hw) o
theorem grown_refl (w : World) (row : Option Nat) : w.grownBy w row := ⟨rfl, rfl, rfl, Nat.le_refl _, fun _ _ _ => rfl⟩
theorem grown_trans {a b c : World} {row : Option Nat} (h : a.grownBy b row) (k : b.grownBy c row) : a.grownBy c row :=
  ⟨k.os.trans h.os, k.tape.trans h.tape, k.output.trans h.output, Nat.le_trans h.size k.size, fun i hi hne => (k.block i (Nat.lt_of_lt_of_le hi h.size) hne).trans (h.block i hi hne)⟩
theorem grown_next {a b c : World} {row : Option Nat} (h : a.grownBy b row) (k : Below b.heap.size b c) : a.grownBy c row := grown_trans h (grown_of_below k (Nat.le_refl _) row)

/-- The reader in block rb: its text, its place. -/
def Rdr (rb : Nat) (s : ByteArray) (a : Nat) (w : World) : Prop := w.heap[rb]? = some (.cells #[.string s, .int .i64 (a : Int)] 124 (0, 0))
theorem Rdr.set {rb : Nat} {s : ByteArray} {a : Nat} {w : World} (h : Rdr rb s a w) (b : Nat) : Rdr rb s b (w.setCell ⟨rb, 1, none⟩ (.int .i64 (b : Int))) := by
  have := blk_set' h 1 (.int .i64 (b : Int))
  exact this
theorem Rdr.lt {rb : Nat} {s : ByteArray} {a : Nat} {w : World} (h : Rdr rb s a w) : rb < w.heap.size := blk_lt' h
theorem Rdr.next {rb : Nat} {s : ByteArray} {a : Nat} {w w' : World} (h : Rdr rb s a w) (hB : Below w.heap.size w w') : Rdr rb s a w' := below_blk hB h.lt h
/-- It panics: a line's error at a place. -/
def stopV (e : Int) : Value := .iface 121 (.agg #[encE (mkAt e 60)])
def Stops (e : Int) (ev : Ending) : Prop := ev = .panicked [{ v := stopV e, recovered := false }]
/-- What a reading leaves. -/
def RdPost {α : Type} (rb : Nat) (s : ByteArray) (enc : α → Value) (w : World) (r : Rd α) (ev : Ending) (w' : World) : Prop :=
  match r with
  | .ok x a => ev = .returned (enc x) ∧ Rdr rb s a w' ∧ w.grownBy w' (some rb)
  | .no e => Stops e ev ∧ w.grownBy w' (some rb)
theorem isP_lt {s : ByteArray} {a : Nat} (c : UInt8) (h : a < s.size) : isP s c a = ((s[a].toNat : Int) == (c.toNat : Int)) := by
  unfold isP
  rw [List.getElem?_eq_getElem (show a < s.data.toList.length from h)]
  show ((some s[a] : Option UInt8) == some c) = _
  by_cases e : s[a] = c
  · rw [e]; simp
  · have : ¬ ((s[a].toNat : Int) = (c.toNat : Int)) := fun q => e (UInt8.toNat_inj.1 (by omega))
    rw [beq_eq_false_iff_ne.2 this]
    simpa using e
theorem isP_ge {s : ByteArray} {a : Nat} (c : UInt8) (h : ¬ a < s.size) : isP s c a = false := by
  unfold isP
  rw [List.getElem?_eq_none (show s.data.toList.length ≤ a from Nat.le_of_not_lt h)]
  rfl

set_option maxRecDepth 100000 in
set_option maxHeartbeats 800000 in
theorem line_wrong (p : Int) (w : World) : Calls Tryz.prog 97 #[.int .i64 p] w fun ev w' => Stops p ev ∧ Below w.heap.size w w' := by
  unfold Stops stopV
  have FA := Lib.hid (fun w => fault_At p 60 w)
  obtain ⟨tt, tv, he⟩ : ∃ tt tv, encE (mkAt p 60) = .iface tt tv := Er.enc_iface _
  rw [he] at FA ⊢
  clear he
  go_enter Tryz.func97, Tryz.ntmps97
  go_wp2_with fail
  refine (FA.out _).mono ?_
  rintro ev w' ⟨rfl, hB⟩
  go_wp2
  exact ⟨rfl, rfl, hB⟩
set_option maxRecDepth 100000 in
set_option maxHeartbeats 800000 in
theorem line_is (rb : Nat) (s : ByteArray) (a : Nat) (c : UInt8) (z : Int) (hz : z = (c.toNat : Int)) (w : World) (h : Rdr rb s a w) :
    Calls Tryz.prog 98 #[.pointer (some ⟨rb, 0, none⟩), .int .u8 z] w fun ev w' => ev = .returned (.bool (isP s c a)) ∧ Below w.heap.size w w' := by
  have k0 := blk_cell' h 0
  have k1 := blk_cell' h 1
  by_cases hi : a < s.size
  · have hq := isP_lt c hi
    rw [← hz] at hq
    rw [hq]
    clear hq hz h
    go_enter Tryz.func98, Tryz.ntmps98
    go_wp2
    go_region
    go_wp2
    go_ret
    exact ⟨by simp, by first | exact Below.refl _ _ | exact (Below.refl _ _).drew⟩
  · rw [isP_ge c hi]
    clear hz h
    go_enter Tryz.func98, Tryz.ntmps98
    go_wp2
    go_region
    go_wp2
    go_ret
    exact ⟨by simp, by first | exact Below.refl _ _ | exact (Below.refl _ _).drew⟩
set_option maxRecDepth 100000 in
set_option maxHeartbeats 800000 in
theorem line_sign (rb : Nat) (s : ByteArray) (a : Nat) (c : UInt8) (z : Int) (hz : z = (c.toNat : Int)) (hs : s.size ≤ 8192) (ha : a ≤ s.size) (w : World) (h : Rdr rb s a w) :
    Calls Tryz.prog 100 #[.pointer (some ⟨rb, 0, none⟩), .int .u8 z] w fun ev w' => RdPost rb s (fun _ => .tuple #[]) w (signP s c a) ev w' := by
  have IS := Lib.hid (fun w h => line_is rb s a c z hz w h)
  unfold signP
  cases hq : isP s c a with
  | true =>
    rw [hq] at IS
    simp only [if_true]
    clear hz hq
    go_enter Tryz.func100, Tryz.ntmps100
    go_wp2_with fail
    refine (IS.out _ h).mono ?_
    rintro ev w' ⟨rfl, hB⟩
    have h' := h.next hB
    have k0 := blk_cell' (h') 0
    have f0 := blk_free' (h') 0
    have k1 := blk_cell' (h') 1
    have f1 := blk_free' (h') 1
    go_wp2
    go_end0
    exact ⟨rfl, h'.set (a + 1), grown_set (grown_of_below hB (Nat.le_refl _) _) 1 _⟩
  | false =>
    rw [hq] at IS
    simp only [Bool.false_eq_true, if_false]
    clear hz hq
    go_enter Tryz.func100, Tryz.ntmps100
    go_wp2_with fail
    refine (IS.out _ h).mono ?_
    rintro ev w' ⟨rfl, hB⟩
    have h' := h.next hB
    have k0 := blk_cell' (h') 0
    have f0 := blk_free' (h') 0
    have k1 := blk_cell' (h') 1
    have f1 := blk_free' (h') 1
    go_wp2_with fail
    refine (line_wrong a _).mono ?_
    rintro ev w1 ⟨hp, hB1⟩
    obtain rfl := hp
    go_wp2
    exact ⟨rfl, rfl, grown_next (grown_of_below hB (Nat.le_refl _) _) hB1⟩

theorem tail_data (s : ByteArray) (a : Nat) : (s.extract a s.size).data.toList = s.data.toList.drop a := by
  rw [Lib.extract_data]
  apply List.take_of_length_le
  rw [List.length_drop]
  exact Nat.le_refl _
set_option maxRecDepth 100000 in
set_option maxHeartbeats 800000 in
theorem line_piece (rb : Nat) (s : ByteArray) (a : Nat) (hs : s.size ≤ 8192) (ha : a ≤ s.size) (w : World) (hg : HG w) (hrb : 0 < rb) (h : Rdr rb s a w) :
    Calls Tryz.prog 99 #[.pointer (some ⟨rb, 0, none⟩)] w fun ev w' => RdPost rb s .string w (pieceP s a) ev w' := by
  have CU := fun w => key_Unescape (s.extract a s.size) (by simp; omega) w
  rw [tail_data] at CU
  have hle := unesc_le (s.data.toList.drop a)
  have hdl : (s.data.toList.drop a).length = s.size - a := by rw [List.length_drop]; rfl
  unfold pieceP
  have k0 := blk_cell' (h) 0
  have f0 := blk_free' (h) 0
  have k1 := blk_cell' (h) 1
  have f1 := blk_free' (h) 1
  cases hU : unesc (s.data.toList.drop a) with
  | inr e =>
    rw [hU] at CU hle
    have CU : ∀ w, Calls Tryz.prog 116 #[.string (s.extract a s.size)] w fun ev w' => ev = .returned (.tuple #[.string ⟨#[]⟩, .int .i64 0, encE (mkAt e 53)]) ∧ Below w.heap.size w w' := CU
    have FP := fun w hg => fault_Place (mkAt e 53) w hg
    obtain ⟨tt, tv, he⟩ : ∃ tt tv, encE (mkAt e 53) = .iface tt tv := Er.enc_iface _
    have hpl : placeOf (mkAt e 53) = ((e : Int), true) := rfl
    rw [he] at CU FP
    rw [hpl] at FP
    have CU := Lib.hid CU
    have FP := Lib.hid FP
    simp only at hle ⊢
    clear hU he hpl
    go_enter Tryz.func99, Tryz.ntmps99
    go_wp2
    go_region_held3 (fun w' => w'.cell? ⟨rb, 0, none⟩ = some (.string s) ∧ w'.cell? ⟨rb, 1, none⟩ = some (.int .i64 a))
      (first | exact ⟨k0, k1⟩ | exact ⟨blk_cell' (h.next ((Below.refl _ w).drew.trans hB)) 0, blk_cell' (h.next ((Below.refl _ w).drew.trans hB)) 1⟩)
      (first | (go_at_call 116; (with_reducible refine (CU.out _).mono ?_); rintro ev w1 ⟨rfl, hB⟩) | fail)
    have hB1 : Below w.heap.size w w1 := (Below.refl _ w).drew.trans hB
    have h1 := h.next hB1
    clear hB k0 k1 f0 f1
    have k0 := blk_cell' (h1) 0
    have f0 := blk_free' (h1) 0
    have k1 := blk_cell' (h1) 1
    have f1 := blk_free' (h1) 1
    go_wp2_with fail
    refine (FP.out _ (hg.below hB1)).mono ?_
    rintro ev w2 ⟨rfl, hB2⟩
    have h2 := h1.next hB2
    clear k0 k1 f0 f1
    have k0 := blk_cell' (h2) 0
    have f0 := blk_free' (h2) 0
    have k1 := blk_cell' (h2) 1
    have f1 := blk_free' (h2) 1
    go_wp2_with fail
    refine (line_wrong ((a : Int) + (e : Int)) _).mono ?_
    rintro ev w3 ⟨hp, hB3⟩
    obtain rfl := hp
    go_wp2
    have hst : stopV ((a : Int) + (e : Int)) = stopV ((a + e : Nat) : Int) := by rw [show ((a + e : Nat) : Int) = (a : Int) + (e : Int) by omega]
    exact ⟨rfl, by rw [hst]; rfl, grown_next (grown_next (grown_of_below hB1 (Nat.le_refl _) _) hB2) hB3⟩
  | inl q =>
    obtain ⟨t, n⟩ := q
    rw [hU] at CU hle
    have CU : ∀ w, Calls Tryz.prog 116 #[.string (s.extract a s.size)] w fun ev w' => ev = .returned (.tuple #[.string ⟨t.toArray⟩, .int .i64 (n : Int), .nilIface]) ∧ Below w.heap.size w w' := CU
    have CU := Lib.hid CU
    simp only at hle ⊢
    clear hU
    generalize hT : (⟨t.toArray⟩ : ByteArray) = T at CU ⊢
    clear hT
    by_cases h0 : n = 0
    · subst h0
      simp only [if_true]
      go_enter Tryz.func99, Tryz.ntmps99
      go_wp2
      go_region_held3 (fun w' => w'.cell? ⟨rb, 0, none⟩ = some (.string s) ∧ w'.cell? ⟨rb, 1, none⟩ = some (.int .i64 a))
        (first | exact ⟨k0, k1⟩ | exact ⟨blk_cell' (h.next ((Below.refl _ w).drew.trans hB)) 0, blk_cell' (h.next ((Below.refl _ w).drew.trans hB)) 1⟩)
        (first | (go_at_call 116; (with_reducible refine (CU.out _).mono ?_); rintro ev w1 ⟨rfl, hB⟩) | fail)
      have hB1 : Below w.heap.size w w1 := (Below.refl _ w).drew.trans hB
      have h1 := h.next hB1
      clear hB k0 k1 f0 f1
      have k0 := blk_cell' (h1) 0
      have f0 := blk_free' (h1) 0
      have k1 := blk_cell' (h1) 1
      have f1 := blk_free' (h1) 1
      go_wp2_with fail
      refine (line_wrong a _).mono ?_
      rintro ev w3 ⟨hp, hB3⟩
      obtain rfl := hp
      go_wp2
      exact ⟨rfl, rfl, grown_next (grown_of_below hB1 (Nat.le_refl _) _) hB3⟩
    · have hz : ((n : Int) == 0) = false := by simp; omega
      rw [if_neg h0]
      go_enter Tryz.func99, Tryz.ntmps99
      go_wp2
      go_region_held3 (fun w' => w'.cell? ⟨rb, 0, none⟩ = some (.string s) ∧ w'.cell? ⟨rb, 1, none⟩ = some (.int .i64 a))
        (first | exact ⟨k0, k1⟩ | exact ⟨blk_cell' (h.next ((Below.refl _ w).drew.trans hB)) 0, blk_cell' (h.next ((Below.refl _ w).drew.trans hB)) 1⟩)
        (first | (go_at_call 116; (with_reducible refine (CU.out _).mono ?_); rintro ev w1 ⟨rfl, hB⟩) | fail)
      have hB1 : Below w.heap.size w w1 := (Below.refl _ w).drew.trans hB
      have h1 := h.next hB1
      clear hB k0 k1 f0 f1
      have k0 := blk_cell' (h1) 0
      have f0 := blk_free' (h1) 0
      have k1 := blk_cell' (h1) 1
      have f1 := blk_free' (h1) 1
      go_wp2
      go_ret
      exact ⟨rfl, h1.set (a + n), grown_set (grown_of_below hB1 (Nat.le_refl _) _) 1 _⟩
end Go.Proofs.YtnodjijgeifejaaGreatDoor
