/- FaultPrints: for every shape of an error the call returns true. -/
import Derived.Test.YtmjagnimdbbbnaaDoorLine
namespace Go.Proofs.YtmjagnimdbbbnaaDoor
open Go.RowKit
set_option linter.unusedSimpArgs false
set_option linter.unusedVariables false

theorem line_eq (b : Bad) : lineP b.numbered b.placed b.in_ b.at_ b.code = lineB b := by
  obtain ⟨c, a, i, p, n⟩ := b
  unfold lineB printB
  by_cases h : c = 0 ∧ p = false ∧ n = false
  · obtain ⟨rfl, rfl, rfl⟩ := h
    rfl
  · rw [if_neg h, if_neg h]
theorem stepB_I64 (x : Int × Int) (b : Bad) (hx : I64 x.2) (h : I64 b.code ∧ I64 b.at_ ∧ I64 b.in_) : I64 (stepB x b).code ∧ I64 (stepB x b).at_ ∧ I64 (stepB x b).in_ := by
  unfold stepB
  split
  · exact ⟨h.1, hx, h.2.2⟩
  · split
    · exact ⟨h.1, h.2.1, hx⟩
    · exact h
theorem zero_I64 : I64 0 := ⟨by omega, by omega⟩
theorem madeB_I64 (f : Bool) (c : Int) (hc : I64 c) : ∀ l : List (Int × Int), (∀ x ∈ l, I64 x.2) → I64 (madeB f c l).code ∧ I64 (madeB f c l).at_ ∧ I64 (madeB f c l).in_
  | [], _ => by
    refine ⟨?_, zero_I64, zero_I64⟩
    show I64 (if f then 0 else c)
    split
    · exact zero_I64
    · exact hc
  | x :: l, h => stepB_I64 x _ (h x (List.mem_cons_self ..)) (madeB_I64 f c hc l fun y hy => h y (List.mem_cons_of_mem _ hy))

/-- The law's two variables: the shape, and what the document tells. -/
structure Two (n0 n1 : Nat) (o0 o1 : Obj) (w0 w : World) : Prop where
  s : Sl w0 w
  b0 : w.heap[n0]? = some o0
  b1 : w.heap[n1]? = some o1
theorem Two.next {n0 n1 : Nat} {o0 o1 : Obj} {w0 w w' : World} (s : Two n0 n1 o0 o1 w0 w) (h : Below w.heap.size w w') : Two n0 n1 o0 o1 w0 w' := ⟨s.s.next h, below_blk h (blk_lt' s.b0) s.b0, below_blk h (blk_lt' s.b1) s.b1⟩
theorem Two.drew {n0 n1 : Nat} {o0 o1 : Obj} {w0 w : World} (s : Two n0 n1 o0 o1 w0 w) : Two n0 n1 o0 o1 w0 w.drew := s.next (Below.refl _ _).drew
theorem Two.cells {n0 n1 : Nat} {x y z a b c d e : Value} {t0 t1 : TypeId} {w0 w : World} (s : Two n0 n1 (.cells #[x, y, z] t0 (0, 0)) (.cells #[a, b, c, d, e] t1 (0, 0)) w0 w) :
    w.cell? ⟨n0, 0, none⟩ = some x ∧ w.cell? ⟨n0, 1, none⟩ = some y ∧ w.cell? ⟨n0, 2, none⟩ = some z ∧ w.cell? ⟨n1, 0, none⟩ = some a ∧ w.cell? ⟨n1, 1, none⟩ = some b ∧ w.cell? ⟨n1, 2, none⟩ = some c ∧ w.cell? ⟨n1, 3, none⟩ = some d ∧ w.cell? ⟨n1, 4, none⟩ = some e :=
  ⟨blk_cell' s.b0 0, blk_cell' s.b0 1, blk_cell' s.b0 2, blk_cell' s.b1 0, blk_cell' s.b1 1, blk_cell' s.b1 2, blk_cell' s.b1 3, blk_cell' s.b1 4⟩

set_option maxRecDepth 100000 in
set_option maxHeartbeats 4000000 in
theorem prints_true (f : Bool) (c : Int) (sl : Value) (l : List (Int × Int)) (w : World) (L : Lay w) (hc : I64 c) (hl : ∀ x ∈ l, I64 x.2)
    (hm : ∀ w1, Below w.heap.size w w1 → Calls Tryd.prog 10 #[.agg #[.bool f, .int .i64 c, sl]] w1 (MadePost f c l w1)) :
    Calls Tryd.prog 4 #[.agg #[.bool f, .int .i64 c, sl]] w fun ev w' => ev = .returned (.bool true) ∧ Below w.heap.size w w' := by
  have st := Sq.start L
  have HM := Lib.hid hm
  clear hm L
  go_enter Tryd.func4, Tryd.ntmps4
  go_wp2_with fail
  refine (HM.out _ (by go_grown)).mono ?_
  rintro ev w1 ⟨a, rfl, hB⟩
  have bs := below_blk hB (blk_lt' (heap_alloc_new w _)) (heap_alloc_new w (.cells #[.bool f, .int .i64 c, sl] 25))
  replace st := (st.alloc _).next hB
  clear hB
  have p1 := made_code f c a l
  have p2 := made_at f c a l
  have p3 := made_in f c a l
  have hI := madeB_I64 f c hc l hl
  generalize madeE f c a l = E at *
  generalize madeB f c l = B at *
  have pe : lineP (indexOf (some E)).2 (placeOf (some E)).2 (indexOf (some E)).1 (placeOf (some E)).1 (codeOf (some E)) = lineB B := by rw [p1, p2, p3]; exact line_eq B
  have C1 := fun w L => fault_Print E w L (by rw [p1]; exact hI.1) (by rw [p2]; exact hI.2.1) (by rw [p3]; exact hI.2.2)
  rw [pe] at C1
  replace C1 := Lib.hid C1
  have C2 := Lib.hid (fun w L => law_line f c sl B w L hI.1 hI.2.1 hI.2.2)
  generalize lineB B = R at C1 C2
  clear p1 p2 p3 HM pe hI hl hc
  obtain ⟨x1, x2, x3, x4, x5⟩ := B
  simp only [Bad.enc] at *
  go_wp2_with fail
  have two : Two w.heap.size w1.heap.size (.cells #[.bool f, .int .i64 c, sl] 25 (0, 0)) (.cells #[.int .i64 x1, .int .i64 x2, .int .i64 x3, .bool x4, .bool x5] 29 (0, 0)) w (w1.alloc (.cells #[.int .i64 x1, .int .i64 x2, .int .i64 x3, .bool x4, .bool x5] 29)) := ⟨st.alloc _, heap_old' w1 _ _ (blk_lt' bs) bs, heap_alloc_new w1 _⟩
  clear bs st
  have TW := Lib.hid two
  clear two
  obtain ⟨tt, tv, he⟩ := E.enc_iface
  have he' : encE (some E) = .iface tt tv := he
  rw [he'] at C1
  rw [he]
  clear he he'
  generalize w1.heap.size = n1 at *
  generalize w1.alloc (.cells #[.int .i64 x1, .int .i64 x2, .int .i64 x3, .bool x4, .bool x5] 29) = w2 at *
  have TD := Lib.hid TW.out.drew
  have hcs := TW.out.cells
  go_region_held3 (fun w' => w'.cell? ⟨w.heap.size, 0, none⟩ = some (.bool f) ∧ w'.cell? ⟨w.heap.size, 1, none⟩ = some (.int .i64 c) ∧ w'.cell? ⟨w.heap.size, 2, none⟩ = some sl ∧ w'.cell? ⟨n1, 0, none⟩ = some (.int .i64 x1) ∧ w'.cell? ⟨n1, 1, none⟩ = some (.int .i64 x2) ∧ w'.cell? ⟨n1, 2, none⟩ = some (.int .i64 x3) ∧ w'.cell? ⟨n1, 3, none⟩ = some (.bool x4) ∧ w'.cell? ⟨n1, 4, none⟩ = some (.bool x5))
    (first
      | exact hcs
      | exact T6.out.cells
      | exact T5.out.cells
      | exact T4.out.cells)
    (first
      | (go_at_call 13; (with_reducible refine (live_true _ TD.out.s.L.hg).mono ?_); rintro ev w4 ⟨rfl, hB⟩; have T4 := Lib.hid (TD.out.next hB); clear hB)
      | (go_at_call 15; refine (C1.out _ T4.out.s.L).mono ?_; rintro ev w5 ⟨rfl, hB⟩; have T5 := Lib.hid (T4.out.next hB); clear hB)
      | (go_at_call 16; refine (C2.out _ T5.out.s.L).mono ?_; rintro ev w6 ⟨rfl, hB⟩; have T6 := Lib.hid (T5.out.next hB); clear hB)
      | fail)
  have H6 := Lib.hid T6.out.s.B
  clear hcs
  go_wp2
  go_ret
  exact ⟨by simp, H6.out⟩
theorem prints_nil (f : Bool) (c : Int) (A : Option Addr) (cap : Nat) (w : World) (L : Lay w) (hc : I64 c) :
    Calls Tryd.prog 4 #[.agg #[.bool f, .int .i64 c, .slice A 0 cap]] w fun ev w' => ev = .returned (.bool true) ∧ Below w.heap.size w w' :=
  prints_true f c _ [] w L hc (fun x hx => by cases hx) fun w1 _ => made_nil f c A cap w1
theorem prints_some (f : Bool) (c : Int) (b off cap : Nat) (l : List (Int × Int)) (w : World) (L : Lay w) (hl : WrapsAt w b off l) (hb : b < w.heap.size) (hn : l.length ≤ 9223372036854775807) (hc : I64 c) (hi : ∀ x ∈ l, I64 x.2) :
    Calls Tryd.prog 4 #[.agg #[.bool f, .int .i64 c, .slice (some ⟨b, off, none⟩) l.length cap]] w fun ev w' => ev = .returned (.bool true) ∧ Below w.heap.size w w' :=
  prints_true f c _ l w L hc hi fun w1 hB => made_some f c b off cap l w1 (wraps_below hl hb hB) (Nat.lt_of_lt_of_le hb hB.size) hn
end Go.Proofs.YtmjagnimdbbbnaaDoor
