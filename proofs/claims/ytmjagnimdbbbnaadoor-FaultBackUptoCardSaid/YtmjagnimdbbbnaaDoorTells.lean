/- FaultTells: for every shape of an error the call returns true. -/
import Derived.Test.YtmjagnimdbbbnaaDoorMade
import Derived.Test.YtmjagnimdbbbnaaDoorMakes
namespace Go.Proofs.YtmjagnimdbbbnaaDoor
open Go.RowKit
set_option linter.unusedSimpArgs false
set_option linter.unusedVariables false

theorem made_code (f : Bool) (c : Int) (a : Addr) : ∀ l, codeOf (some (madeE f c a l)) = (madeB f c l).code
  | [] => by cases f <;> simp [madeE, madeB, codeOf, Er.code?]
  | x :: l => by
    have ih := made_code f c a l
    show codeOf (some (stepE x (madeE f c a l))) = (stepB x (madeB f c l)).code
    rw [show (stepB x (madeB f c l)).code = (madeB f c l).code by unfold stepB; split <;> (try split) <;> rfl, ← ih]
    unfold stepE
    split <;> (try split) <;> rfl
theorem made_at (f : Bool) (c : Int) (a : Addr) : ∀ l, placeOf (some (madeE f c a l)) = ((madeB f c l).at_, (madeB f c l).placed)
  | [] => by cases f <;> simp [madeE, madeB, placeOf, atPos, Er.at?]
  | x :: l => by
    have ih := made_at f c a l
    show placeOf (some (stepE x (madeE f c a l))) = ((stepB x (madeB f c l)).at_, (stepB x (madeB f c l)).placed)
    unfold stepE stepB
    split
    · rfl
    · split
      · exact ih
      · exact ih
theorem made_in (f : Bool) (c : Int) (a : Addr) : ∀ l, indexOf (some (madeE f c a l)) = ((madeB f c l).in_, (madeB f c l).numbered)
  | [] => by cases f <;> simp [madeE, madeB, indexOf, inPos, Er.in?]
  | x :: l => by
    have ih := made_in f c a l
    show indexOf (some (stepE x (madeE f c a l))) = ((stepB x (madeB f c l)).in_, (stepB x (madeB f c l)).numbered)
    unfold stepE stepB
    split
    · exact ih
    · split
      · rfl
      · exact ih

set_option maxRecDepth 100000 in
set_option maxHeartbeats 4000000 in
theorem tells_true (f : Bool) (c : Int) (sl : Value) (l : List (Int × Int)) (w : World) (hg : HG w)
    (hm : ∀ w1, Below w.heap.size w w1 → Calls Tryd.prog 10 #[.agg #[.bool f, .int .i64 c, sl]] w1 (MadePost f c l w1)) :
    Calls Tryd.prog 3 #[.agg #[.bool f, .int .i64 c, sl]] w fun ev w' => ev = .returned (.bool true) ∧ Below w.heap.size w w' := by
  have st : St w w := .start hg
  have HM := Lib.hid hm
  clear hm hg
  go_enter Tryd.func3, Tryd.ntmps3
  go_wp2_with fail
  refine (HM.out _ (by go_grown)).mono ?_
  rintro ev w1 ⟨a, rfl, hB⟩
  replace st := (st.alloc _).next hB
  clear hB
  have p1 := made_code f c a l
  have p2 := made_at f c a l
  have p3 := made_in f c a l
  generalize madeE f c a l = E at *
  generalize madeB f c l = B at *
  obtain ⟨x1, x2, x3, x4, x5⟩ := B
  have P1 := Lib.hid p1
  have P2 := Lib.hid p2
  have P3 := Lib.hid p3
  clear p1 p2 p3 HM
  simp only [Bad.enc]
  go_wp2_with fail
  replace st := st.alloc (.cells #[.int .i64 x1, .int .i64 x2, .int .i64 x3, .bool x4, .bool x5] 29)
  have bk : (w1.alloc (.cells #[.int .i64 x1, .int .i64 x2, .int .i64 x3, .bool x4, .bool x5] 29)).heap[w1.heap.size]? = some (.cells #[.int .i64 x1, .int .i64 x2, .int .i64 x3, .bool x4, .bool x5] 29 (0, 0)) := heap_alloc_new w1 _
  refine (fault_Place (some E) _ st.G).mono ?_
  rintro ev w2 ⟨rfl, hB⟩
  replace st := st.next hB
  replace bk := below_blk hB (blk_lt' bk) bk
  clear hB
  rw [P2.out]
  go_wp2_with fail
  refine (fault_Index (some E) _ st.G).mono ?_
  rintro ev w3 ⟨rfl, hB⟩
  replace st := st.next hB
  replace bk := below_blk hB (blk_lt' bk) bk
  clear hB
  rw [P3.out]
  have BK := Lib.hid bk
  have c0 := blk_cell' bk 0
  have c1 := blk_cell' bk 1
  have c2 := blk_cell' bk 2
  have c3 := blk_cell' bk 3
  have c4 := blk_cell' bk 4

  have st3 : St w w3.drew := st.next (Below.refl _ _).drew
  have bk3 : w3.drew.heap[w1.heap.size]? = some (.cells #[.int .i64 x1, .int .i64 x2, .int .i64 x3, .bool x4, .bool x5] 29 (0, 0)) := bk
  have BK3 := Lib.hid bk3
  clear bk bk3
  go_wp2_with fail
  go_region_held3 (fun w' => w'.cell? ⟨w1.heap.size, 0, none⟩ = some (.int .i64 x1) ∧ w'.cell? ⟨w1.heap.size, 1, none⟩ = some (.int .i64 x2) ∧ w'.cell? ⟨w1.heap.size, 2, none⟩ = some (.int .i64 x3) ∧ w'.cell? ⟨w1.heap.size, 3, none⟩ = some (.bool x4) ∧ w'.cell? ⟨w1.heap.size, 4, none⟩ = some (.bool x5))
    (first
      | exact ⟨c0, c1, c2, c3, c4⟩
      | exact ⟨blk_cell' BK6.out 0, blk_cell' BK6.out 1, blk_cell' BK6.out 2, blk_cell' BK6.out 3, blk_cell' BK6.out 4⟩
      | exact ⟨blk_cell' BK5.out 0, blk_cell' BK5.out 1, blk_cell' BK5.out 2, blk_cell' BK5.out 3, blk_cell' BK5.out 4⟩
      | exact ⟨blk_cell' BK4.out 0, blk_cell' BK4.out 1, blk_cell' BK4.out 2, blk_cell' BK4.out 3, blk_cell' BK4.out 4⟩)
    (first
      | (go_at_call 13; (with_reducible refine (live_true _ st3.G).mono ?_); rintro ev w4 ⟨rfl, hB⟩; have st4 := st3.next hB; have BK4 := Lib.hid (below_blk hB (blk_lt' BK3.out) BK3.out); clear hB)
      | (go_at_call 14; refine (fault_Code (some E) _ st4.G).mono ?_; rintro ev w5 ⟨rfl, hB⟩; have st5 := st4.next hB; have BK5 := Lib.hid (below_blk hB (blk_lt' BK4.out) BK4.out); clear hB; rw [P1.out])
      | (go_at_call 14; refine (fault_Code none _ st5.G).mono ?_; rintro ev w6 ⟨rfl, hB⟩; have st6 := st5.next hB; have BK6 := Lib.hid (below_blk hB (blk_lt' BK5.out) BK5.out); clear hB; rw [show codeOf none = 0 from rfl])
      | fail)
  have H6 := Lib.hid st6.B
  clear st st3 st4 st5 st6 c0 c1 c2 c3 c4
  go_wp2
  go_ret
  exact ⟨by simp, H6.out⟩
/-- What a reading of a row of wraps gives the walk. -/
theorem shape_wraps {W : World} {a : Addr} {len m : Nat} {V0 V1 : Nat → Value} (hlt : 0 < len) (hm : len ≤ m) (hc : ∀ i, i < m → W.cell? (a.add (i * 2)) = some (V0 i) ∧ W.cell? (a.add (i * 2 + 1)) = some (V1 i))
    (h0 : ∀ i, i < m → ∃ n, V0 i = .int .i64 n) (h1 : ∀ i, i < m → ∃ n, V1 i = .int .i64 n) :
    ∃ b off, a = ⟨b, off, none⟩ ∧ b < W.heap.size ∧ WrapsAt W b off ((List.range len).map fun i => (intOf (V0 i), intOf (V1 i))) := by
  obtain ⟨b, off, sp⟩ := a
  have hz := (hc 0 (by omega)).1
  cases sp with
  | some q =>
    exfalso
    have : ((⟨b, off, some q⟩ : Addr).add (0 * 2)).spot.isSome = true := by unfold Addr.add; simp
    revert hz
    unfold World.cell?
    cases W.heap[((⟨b, off, some q⟩ : Addr).add (0 * 2)).block]? with
    | none => simp
    | some o => cases o <;> simp [this]
  | none =>
    have hadd : ∀ k, (⟨b, off, none⟩ : Addr).add k = ⟨b, off + k, none⟩ := fun k => by unfold Addr.add; simp
    refine ⟨b, off, rfl, ?_, fun i hi => ?_⟩
    · rw [hadd] at hz; exact World.block_lt_of_cell? W _ hz
    · simp only [List.length_map, List.length_range] at hi
      obtain ⟨n0, e0⟩ := h0 i (by omega)
      obtain ⟨n1, e1⟩ := h1 i (by omega)
      have h := hc i (by omega)
      rw [hadd, hadd, e0, e1] at h
      simp only [List.getElem_map, List.getElem_range, e0, e1, intOf]
      exact ⟨h.1, by rw [← h.2]; congr 1⟩
theorem tells_nil (f : Bool) (c : Int) (A : Option Addr) (cap : Nat) (w : World) (hg : HG w) :
    Calls Tryd.prog 3 #[.agg #[.bool f, .int .i64 c, .slice A 0 cap]] w fun ev w' => ev = .returned (.bool true) ∧ Below w.heap.size w w' :=
  tells_true f c _ [] w hg fun w1 _ => made_nil f c A cap w1
theorem wraps_below {w w1 : World} {b off : Nat} {l : List (Int × Int)} (h : WrapsAt w b off l) (hb : b < w.heap.size) (hB : Below w.heap.size w w1) : WrapsAt w1 b off l := fun i hi =>
  ⟨cell_below hB hb (h i hi).1, cell_below hB hb (h i hi).2⟩
theorem tells_some (f : Bool) (c : Int) (b off cap : Nat) (l : List (Int × Int)) (w : World) (hg : HG w) (hl : WrapsAt w b off l) (hb : b < w.heap.size) (hn : l.length ≤ 9223372036854775807) :
    Calls Tryd.prog 3 #[.agg #[.bool f, .int .i64 c, .slice (some ⟨b, off, none⟩) l.length cap]] w fun ev w' => ev = .returned (.bool true) ∧ Below w.heap.size w w' :=
  tells_true f c _ l w hg fun w1 h1 => made_some f c b off cap l w1 (wraps_below hl hb h1) (Nat.lt_of_lt_of_le hb h1.size) hn
end Go.Proofs.YtmjagnimdbbbnaaDoor
