/- weirlaw01.made: the error of a shape, and what the document tells of it, by a contract. -/
import Derived.Test.YtmjagnimdbbbnaaDoorSame
import Derived.Test.YtmjagnimdbbbnaaDoorRes
namespace Go.Proofs.YtmjagnimdbbbnaaDoor
open Go.RowKit
set_option linter.unusedSimpArgs false
set_option linter.unusedVariables false

def stepE (x : Int × Int) (e : Er) : Er := if x.1 = 0 then .at_ x.2 e else if x.1 = 1 then .in_ x.2 e else .around e
def stepB (x : Int × Int) (b : Bad) : Bad := if x.1 = 0 then { b with at_ := x.2, placed := true } else if x.1 = 1 then { b with in_ := x.2, numbered := true } else b
def madeE (f : Bool) (c : Int) (a : Addr) (l : List (Int × Int)) : Er := l.foldr stepE (if f then .foreign a else .code c)
def madeB (f : Bool) (c : Int) (l : List (Int × Int)) : Bad := l.foldr stepB ⟨if f then 0 else c, 0, 0, false, false⟩

/-- The cells of a row of wraps. -/
def WrapsAt (w : World) (b off : Nat) (l : List (Int × Int)) : Prop :=
  ∀ i (h : i < l.length), w.cell? ⟨b, off + i * 2, none⟩ = some (.int .i64 l[i].1) ∧ w.cell? ⟨b, off + i * 2 + 1, none⟩ = some (.int .i64 l[i].2)

theorem errors_New (s : ByteArray) (w : World) : Calls Tryd.prog 30 #[.string s] w fun ev w' => ev = .returned (.iface 82 (.pointer (some ⟨w.heap.size, 0, none⟩))) ∧ w' = w.alloc (.cells #[.string s] 84) := by
  go_enter Tryd.func30, Tryd.ntmps30
  go_wp2
  go_ret
  exact ⟨rfl, rfl⟩

theorem drop_step {α : Type} (l : List α) (k : Nat) (h : k < l.length) : l.drop k = l[k] :: l.drop (k + 1) := List.drop_eq_getElem_cons h

def BadAt (w : World) (n : Nat) (b : Bad) : Prop := w.heap[n]? = some (.cells #[.int .i64 b.code, .int .i64 b.at_, .int .i64 b.in_, .bool b.placed, .bool b.numbered] 29 (0, 0))
/-- What made hands back. -/
def MadePost (f : Bool) (c : Int) (l : List (Int × Int)) (w : World) (ev : Ending) (w' : World) : Prop :=
  ∃ a, ev = .returned (.tuple #[(madeE f c a l).enc, (madeB f c l).enc]) ∧ Below w.heap.size w w'

set_option maxRecDepth 100000 in
set_option maxHeartbeats 4000000 in
theorem made_some (f : Bool) (c : Int) (b off cap : Nat) (l : List (Int × Int)) (w : World) (hl : WrapsAt w b off l) (hb : b < w.heap.size) (hn : l.length ≤ 9223372036854775807) :
    Calls Tryd.prog 10 #[.agg #[.bool f, .int .i64 c, .slice (some ⟨b, off, none⟩) l.length cap]] w (MadePost f c l w) := by
  have HL := Lib.hid hl
  clear hl
  cases f with
  | false =>
    go_enter Tryd.func10, Tryd.ntmps10
    go_wp2_with fail
    go_loopg [4, 6] l.length (fun k v i wr => k ≤ l.length ∧ v = ((l.drop k).foldr stepE (.code c)).enc ∧ i = .int .i64 ((k : Int) - 1) ∧
      wr.heap[w.heap.size]? = some (.cells #[.bool false, .int .i64 c, .slice (some ⟨b, off, none⟩) l.length cap] 25 (0, 0)) ∧
      wr.heap[w.heap.size + 1]? = some (.cells #[.int .i64 0, .int .i64 0, .int .i64 0, .bool false, .bool false] 29 (0, 0)) ∧
      BadAt wr (w.heap.size + 1 + 1) ((l.drop k).foldr stepB ⟨c, 0, 0, false, false⟩) ∧ Below w.heap.size w wr)
    case atStart => exact ⟨Nat.le_refl _, by simp [Er.enc], by first | rfl | (simp; done), (by repeat (first | exact heap_new' _ _ _ (by first | omega | (simp only [World.size_alloc, World.size_setCell, World.size_drew, size_drewN'] <;> omega)) | refine heap_old' _ _ _ (by first | omega | (simp only [World.size_alloc, World.size_setCell, World.size_drew, size_drewN'] <;> omega)) ?_)), (by repeat (first | exact heap_new' _ _ _ (by first | omega | (simp only [World.size_alloc, World.size_setCell, World.size_drew, size_drewN'] <;> omega)) | refine heap_old' _ _ _ (by first | omega | (simp only [World.size_alloc, World.size_setCell, World.size_drew, size_drewN'] <;> omega)) ?_)), by simp only [BadAt, List.drop_length, List.foldr_nil]; exact (by repeat (first | exact heap_new' _ _ _ (by first | omega | (simp only [World.size_alloc, World.size_setCell, World.size_drew, size_drewN'] <;> omega)) | refine heap_old' _ _ _ (by first | omega | (simp only [World.size_alloc, World.size_setCell, World.size_drew, size_drewN'] <;> omega)) ?_)), by go_grown⟩
    case round =>
      obtain ⟨hk, rfl, rfl, B0, B1, B2, hB⟩ := hrel
      cases gk with
      | zero =>
        rw [List.drop_zero] at B2 ⊢
        generalize hbb : List.foldr stepB (⟨c, 0, 0, false, false⟩ : Bad) l = bb at B2
        generalize hee : (List.foldr stepE (Er.code c) l) = ee
        have HF := Lib.hid (show madeE false c ⟨w.heap.size + 1 + 1 + 1, 0, none⟩ l = ee ∧ madeB false c l = bb from ⟨hee, hbb⟩)
        clear hbb hee
        unfold BadAt at B2
        obtain ⟨x1, x2, x3, x4, x5⟩ := bb
        have f0 := blk_cell' B2 0
        have f1 := blk_cell' B2 1
        have f2 := blk_cell' B2 2
        have f3 := blk_cell' B2 3
        have f4 := blk_cell' B2 4
        have g0 := blk_cell' B1 0
        have g1 := blk_cell' B1 1
        have g2 := blk_cell' B1 2
        have g3 := blk_cell' B1 3
        have g4 := blk_cell' B1 4
        have z := blk_free' B1
        have HB := Lib.hid hB
        have HB1 := Lib.hid B1
        clear hB B0 B1 B2
        dsimp only at f0 f1 f2 f3 f4 g0 g1 g2 g3 g4
        go_wp2
        go_region
        go_wp2
        have hb1 := blk_set' (blk_set' (blk_set' (blk_set' (blk_set' HB1.out 0 (.int .i64 x1)) 1 (.int .i64 x2)) 2 (.int .i64 x3)) 3 (.bool x4)) 4 (.bool x5)
        simp only [List.setIfInBounds_toArray, List.set_cons_zero, List.set_cons_succ] at hb1
        refine bodyPost_ret (results_two (v0 := ee.enc) (v1 := .agg #[.int .i64 x1, .int .i64 x2, .int .i64 x3, .bool x4, .bool x5]) Tryd.results10 (res_tmp rfl) (res_cell (T' := 29) (fr := (0, 0)) rfl hb1 Tryd.underlying29 rfl (by kernel_rfl))) rfl ?_
        refine ⟨⟨w.heap.size + 1 + 1 + 1, 0, none⟩, by rw [HF.out.1, HF.out.2]; rfl, ?_⟩
        exact (((((HB.out.setCell (by simp) _).setCell (by simp) _).setCell (by simp) _).setCell (by simp) _).setCell (by simp) _).drew
      | succ j =>
        have hi : (((j + 1 : Nat) : Int) - 1) = (j : Int) := by omega
        rw [hi]
        have hlj := drop_step l j (by omega)
        have hc := HL.out j (by omega)
        have e1 := List.foldr_cons (f := stepE) (b := (Er.code c)) (a := l[j]) (l := l.drop (j + 1))
        have e2 := List.foldr_cons (f := stepB) (b := (⟨c, 0, 0, false, false⟩ : Bad)) (a := l[j]) (l := l.drop (j + 1))
        rw [← hlj] at e1 e2
        generalize hbb : List.foldr stepB (⟨c, 0, 0, false, false⟩ : Bad) (l.drop (j + 1)) = bb at B2 e2
        generalize hee : (List.foldr stepE (Er.code c) (l.drop (j + 1))) = ee at e1 ⊢
        have d0 : wr.cell? ⟨b, off + j * 2, none⟩ = some (.int .i64 l[j].1) := cell_below hB hb hc.1
        have d1 : wr.cell? ⟨b, off + j * 2 + 1, none⟩ = some (.int .i64 l[j].2) := cell_below hB hb hc.2
        generalize l[j] = x at e1 e2 d0 d1
        obtain ⟨k1, n1⟩ := x
        unfold BadAt at B2
        obtain ⟨x1, x2, x3, x4, x5⟩ := bb
        have f0 := blk_cell' B2 0
        have f1 := blk_cell' B2 1
        have f2 := blk_cell' B2 2
        have f3 := blk_cell' B2 3
        have f4 := blk_cell' B2 4
        have g2 := blk_cell' B0 2
        have z := blk_free' B2
        have hjn : j < l.length := by omega
        have HB := Lib.hid hB
        have HB0 := Lib.hid B0
        have HB1 := Lib.hid B1
        have HB2 := Lib.hid B2
        have E1 := Lib.hid e1
        have E2 := Lib.hid e2
        have Hk := Lib.hid hk
        clear hB B0 B1 B2 e1 e2 hc hlj hi hbb hee hk
        dsimp only at f0 f1 f2 f3 f4 g2
        by_cases h0 : k1 = 0
        · subst h0
          have q1 : stepE (0, n1) ee = .at_ n1 ee := rfl
          have q2 : stepB (0, n1) ⟨x1, x2, x3, x4, x5⟩ = ⟨x1, n1, x3, true, x5⟩ := rfl
          have Q1 := Lib.hid (E1.out.trans q1)
          have Q2 := Lib.hid (E2.out.trans q2)
          clear q1 q2
          obtain ⟨tt, tv, he⟩ := ee.enc_iface
          rw [he]
          have He := Lib.hid he
          clear he
          go_wp2
          go_roundg j
          case measure => omega
          case rel =>
            refine ⟨by omega, by rw [Q1.out, Er.enc, He.out], rfl, blk_far' (blk_far' HB0.out (by first | (simp; done) | (simp <;> omega)) _ _) (by first | (simp; done) | (simp <;> omega)) _ _, blk_far' (blk_far' HB1.out (by first | (simp; done) | (simp <;> omega)) _ _) (by first | (simp; done) | (simp <;> omega)) _ _, ?_, (HB.out.setCell (by simp <;> omega) _).setCell (by simp <;> omega) _⟩
            rw [Q2.out]
            have hs := blk_set' (blk_set' HB2.out 1 (.int .i64 n1)) 3 (.bool true)
            simp only [List.setIfInBounds_toArray, List.set_cons_zero, List.set_cons_succ] at hs
            exact hs
        · have hk0 : (k1 == 0) = false := by simpa using h0
          by_cases h1 : k1 = 1
          · subst h1
            clear h0 hk0
            have q1 : stepE (1, n1) ee = .in_ n1 ee := rfl
            have q2 : stepB (1, n1) ⟨x1, x2, x3, x4, x5⟩ = ⟨x1, x2, n1, x4, true⟩ := rfl
            have Q1 := Lib.hid (E1.out.trans q1)
            have Q2 := Lib.hid (E2.out.trans q2)
            clear q1 q2
            obtain ⟨tt, tv, he⟩ := ee.enc_iface
            rw [he]
            have He := Lib.hid he
            clear he
            go_wp2
            go_roundg j
            case measure => omega
            case rel =>
              refine ⟨by omega, by rw [Q1.out, Er.enc, He.out], rfl, blk_far' (blk_far' HB0.out (by first | (simp; done) | (simp <;> omega)) _ _) (by first | (simp; done) | (simp <;> omega)) _ _, blk_far' (blk_far' HB1.out (by first | (simp; done) | (simp <;> omega)) _ _) (by first | (simp; done) | (simp <;> omega)) _ _, ?_, (HB.out.setCell (by simp <;> omega) _).setCell (by simp <;> omega) _⟩
              rw [Q2.out]
              have hs := blk_set' (blk_set' HB2.out 2 (.int .i64 n1)) 4 (.bool true)
              simp only [List.setIfInBounds_toArray, List.set_cons_zero, List.set_cons_succ] at hs
              exact hs
          · have hk1 : (k1 == 1) = false := by simpa using h1
            have q1 : stepE (k1, n1) ee = .around ee := by simp [stepE, h0, h1]
            have q2 : stepB (k1, n1) ⟨x1, x2, x3, x4, x5⟩ = ⟨x1, x2, x3, x4, x5⟩ := by simp [stepB, h0, h1]
            have Q1 := Lib.hid (E1.out.trans q1)
            have Q2 := Lib.hid (E2.out.trans q2)
            clear q1 q2
            clear h0 h1
            obtain ⟨tt, tv, he⟩ := ee.enc_iface
            rw [he]
            have He := Lib.hid he
            clear he
            go_wp2
            go_roundg j
            case measure => omega
            case rel =>
              refine ⟨by omega, by rw [Q1.out, Er.enc, He.out], rfl, HB0.out, HB1.out, ?_, HB.out⟩
              rw [Q2.out]
              exact HB2.out
  | true =>
    go_enter Tryd.func10, Tryd.ntmps10
    go_wp2_with fail
    refine (errors_New _ _).mono ?_
    rintro ev w' ⟨rfl, rfl⟩
    go_wp2_with fail
    go_loopg [4, 6] l.length (fun k v i wr => k ≤ l.length ∧ v = ((l.drop k).foldr stepE (.foreign ⟨w.heap.size + 1 + 1 + 1, 0, none⟩)).enc ∧ i = .int .i64 ((k : Int) - 1) ∧
      wr.heap[w.heap.size]? = some (.cells #[.bool true, .int .i64 c, .slice (some ⟨b, off, none⟩) l.length cap] 25 (0, 0)) ∧
      wr.heap[w.heap.size + 1]? = some (.cells #[.int .i64 0, .int .i64 0, .int .i64 0, .bool false, .bool false] 29 (0, 0)) ∧
      BadAt wr (w.heap.size + 1 + 1) ((l.drop k).foldr stepB ⟨0, 0, 0, false, false⟩) ∧ Below w.heap.size w wr)
    case atStart => exact ⟨Nat.le_refl _, by simp [Er.enc], by first | rfl | (simp; done), (heap_old' _ _ _ (by first | omega | (simp only [World.size_alloc, World.size_setCell, World.size_drew, size_drewN'] <;> omega)) (heap_old' _ _ _ (by first | omega | (simp only [World.size_alloc, World.size_setCell, World.size_drew, size_drewN'] <;> omega)) (heap_old' _ _ _ (by first | omega | (simp only [World.size_alloc, World.size_setCell, World.size_drew, size_drewN'] <;> omega)) (heap_new' _ _ _ (by first | omega | (simp only [World.size_alloc, World.size_setCell, World.size_drew, size_drewN'] <;> omega)))))), (heap_old' _ _ _ (by first | omega | (simp only [World.size_alloc, World.size_setCell, World.size_drew, size_drewN'] <;> omega)) (heap_old' _ _ _ (by first | omega | (simp only [World.size_alloc, World.size_setCell, World.size_drew, size_drewN'] <;> omega)) (heap_new' _ _ _ (by first | omega | (simp only [World.size_alloc, World.size_setCell, World.size_drew, size_drewN'] <;> omega))))), by simp only [BadAt, List.drop_length, List.foldr_nil]; exact (heap_old' _ _ _ (by first | omega | (simp only [World.size_alloc, World.size_setCell, World.size_drew, size_drewN'] <;> omega)) (heap_new' _ _ _ (by first | omega | (simp only [World.size_alloc, World.size_setCell, World.size_drew, size_drewN'] <;> omega)))), by go_grown⟩
    case round =>
      obtain ⟨hk, rfl, rfl, B0, B1, B2, hB⟩ := hrel
      cases gk with
      | zero =>
        rw [List.drop_zero] at B2 ⊢
        generalize hbb : List.foldr stepB (⟨0, 0, 0, false, false⟩ : Bad) l = bb at B2
        generalize hee : (List.foldr stepE (Er.foreign ⟨w.heap.size + 1 + 1 + 1, 0, none⟩) l) = ee
        have HF := Lib.hid (show madeE true c ⟨w.heap.size + 1 + 1 + 1, 0, none⟩ l = ee ∧ madeB true c l = bb from ⟨hee, hbb⟩)
        clear hbb hee
        unfold BadAt at B2
        obtain ⟨x1, x2, x3, x4, x5⟩ := bb
        have f0 := blk_cell' B2 0
        have f1 := blk_cell' B2 1
        have f2 := blk_cell' B2 2
        have f3 := blk_cell' B2 3
        have f4 := blk_cell' B2 4
        have g0 := blk_cell' B1 0
        have g1 := blk_cell' B1 1
        have g2 := blk_cell' B1 2
        have g3 := blk_cell' B1 3
        have g4 := blk_cell' B1 4
        have z := blk_free' B1
        have HB := Lib.hid hB
        have HB1 := Lib.hid B1
        clear hB B0 B1 B2
        dsimp only at f0 f1 f2 f3 f4 g0 g1 g2 g3 g4
        go_wp2
        go_region
        go_wp2
        have hb1 := blk_set' (blk_set' (blk_set' (blk_set' (blk_set' HB1.out 0 (.int .i64 x1)) 1 (.int .i64 x2)) 2 (.int .i64 x3)) 3 (.bool x4)) 4 (.bool x5)
        simp only [List.setIfInBounds_toArray, List.set_cons_zero, List.set_cons_succ] at hb1
        refine bodyPost_ret (results_two (v0 := ee.enc) (v1 := .agg #[.int .i64 x1, .int .i64 x2, .int .i64 x3, .bool x4, .bool x5]) Tryd.results10 (res_tmp rfl) (res_cell (T' := 29) (fr := (0, 0)) rfl hb1 Tryd.underlying29 rfl (by kernel_rfl))) rfl ?_
        refine ⟨⟨w.heap.size + 1 + 1 + 1, 0, none⟩, by rw [HF.out.1, HF.out.2]; rfl, ?_⟩
        exact (((((HB.out.setCell (by simp) _).setCell (by simp) _).setCell (by simp) _).setCell (by simp) _).setCell (by simp) _).drew
      | succ j =>
        have hi : (((j + 1 : Nat) : Int) - 1) = (j : Int) := by omega
        rw [hi]
        have hlj := drop_step l j (by omega)
        have hc := HL.out j (by omega)
        have e1 := List.foldr_cons (f := stepE) (b := (Er.foreign ⟨w.heap.size + 1 + 1 + 1, 0, none⟩)) (a := l[j]) (l := l.drop (j + 1))
        have e2 := List.foldr_cons (f := stepB) (b := (⟨0, 0, 0, false, false⟩ : Bad)) (a := l[j]) (l := l.drop (j + 1))
        rw [← hlj] at e1 e2
        generalize hbb : List.foldr stepB (⟨0, 0, 0, false, false⟩ : Bad) (l.drop (j + 1)) = bb at B2 e2
        generalize hee : (List.foldr stepE (Er.foreign ⟨w.heap.size + 1 + 1 + 1, 0, none⟩) (l.drop (j + 1))) = ee at e1 ⊢
        have d0 : wr.cell? ⟨b, off + j * 2, none⟩ = some (.int .i64 l[j].1) := cell_below hB hb hc.1
        have d1 : wr.cell? ⟨b, off + j * 2 + 1, none⟩ = some (.int .i64 l[j].2) := cell_below hB hb hc.2
        generalize l[j] = x at e1 e2 d0 d1
        obtain ⟨k1, n1⟩ := x
        unfold BadAt at B2
        obtain ⟨x1, x2, x3, x4, x5⟩ := bb
        have f0 := blk_cell' B2 0
        have f1 := blk_cell' B2 1
        have f2 := blk_cell' B2 2
        have f3 := blk_cell' B2 3
        have f4 := blk_cell' B2 4
        have g2 := blk_cell' B0 2
        have z := blk_free' B2
        have hjn : j < l.length := by omega
        have HB := Lib.hid hB
        have HB0 := Lib.hid B0
        have HB1 := Lib.hid B1
        have HB2 := Lib.hid B2
        have E1 := Lib.hid e1
        have E2 := Lib.hid e2
        have Hk := Lib.hid hk
        clear hB B0 B1 B2 e1 e2 hc hlj hi hbb hee hk
        dsimp only at f0 f1 f2 f3 f4 g2
        by_cases h0 : k1 = 0
        · subst h0
          have q1 : stepE (0, n1) ee = .at_ n1 ee := rfl
          have q2 : stepB (0, n1) ⟨x1, x2, x3, x4, x5⟩ = ⟨x1, n1, x3, true, x5⟩ := rfl
          have Q1 := Lib.hid (E1.out.trans q1)
          have Q2 := Lib.hid (E2.out.trans q2)
          clear q1 q2
          obtain ⟨tt, tv, he⟩ := ee.enc_iface
          rw [he]
          have He := Lib.hid he
          clear he
          go_wp2
          go_roundg j
          case measure => omega
          case rel =>
            refine ⟨by omega, by rw [Q1.out, Er.enc, He.out], rfl, blk_far' (blk_far' HB0.out (by first | (simp; done) | (simp <;> omega)) _ _) (by first | (simp; done) | (simp <;> omega)) _ _, blk_far' (blk_far' HB1.out (by first | (simp; done) | (simp <;> omega)) _ _) (by first | (simp; done) | (simp <;> omega)) _ _, ?_, (HB.out.setCell (by simp <;> omega) _).setCell (by simp <;> omega) _⟩
            rw [Q2.out]
            have hs := blk_set' (blk_set' HB2.out 1 (.int .i64 n1)) 3 (.bool true)
            simp only [List.setIfInBounds_toArray, List.set_cons_zero, List.set_cons_succ] at hs
            exact hs
        · have hk0 : (k1 == 0) = false := by simpa using h0
          by_cases h1 : k1 = 1
          · subst h1
            clear h0 hk0
            have q1 : stepE (1, n1) ee = .in_ n1 ee := rfl
            have q2 : stepB (1, n1) ⟨x1, x2, x3, x4, x5⟩ = ⟨x1, x2, n1, x4, true⟩ := rfl
            have Q1 := Lib.hid (E1.out.trans q1)
            have Q2 := Lib.hid (E2.out.trans q2)
            clear q1 q2
            obtain ⟨tt, tv, he⟩ := ee.enc_iface
            rw [he]
            have He := Lib.hid he
            clear he
            go_wp2
            go_roundg j
            case measure => omega
            case rel =>
              refine ⟨by omega, by rw [Q1.out, Er.enc, He.out], rfl, blk_far' (blk_far' HB0.out (by first | (simp; done) | (simp <;> omega)) _ _) (by first | (simp; done) | (simp <;> omega)) _ _, blk_far' (blk_far' HB1.out (by first | (simp; done) | (simp <;> omega)) _ _) (by first | (simp; done) | (simp <;> omega)) _ _, ?_, (HB.out.setCell (by simp <;> omega) _).setCell (by simp <;> omega) _⟩
              rw [Q2.out]
              have hs := blk_set' (blk_set' HB2.out 2 (.int .i64 n1)) 4 (.bool true)
              simp only [List.setIfInBounds_toArray, List.set_cons_zero, List.set_cons_succ] at hs
              exact hs
          · have hk1 : (k1 == 1) = false := by simpa using h1
            have q1 : stepE (k1, n1) ee = .around ee := by simp [stepE, h0, h1]
            have q2 : stepB (k1, n1) ⟨x1, x2, x3, x4, x5⟩ = ⟨x1, x2, x3, x4, x5⟩ := by simp [stepB, h0, h1]
            have Q1 := Lib.hid (E1.out.trans q1)
            have Q2 := Lib.hid (E2.out.trans q2)
            clear q1 q2
            clear h0 h1
            obtain ⟨tt, tv, he⟩ := ee.enc_iface
            rw [he]
            have He := Lib.hid he
            clear he
            go_wp2
            go_roundg j
            case measure => omega
            case rel =>
              refine ⟨by omega, by rw [Q1.out, Er.enc, He.out], rfl, HB0.out, HB1.out, ?_, HB.out⟩
              rw [Q2.out]
              exact HB2.out
set_option maxRecDepth 100000 in
set_option maxHeartbeats 4000000 in
theorem made_nil (f : Bool) (c : Int) (A : Option Addr) (cap : Nat) (w : World) :
    Calls Tryd.prog 10 #[.agg #[.bool f, .int .i64 c, .slice A 0 cap]] w (MadePost f c [] w) := by
  cases f with
  | false =>
    go_enter Tryd.func10, Tryd.ntmps10
    go_wp2_with fail
    go_rounds 1
    go_region
    go_wp2
    refine bodyPost_ret (results_two (v0 := (Er.code c).enc) (v1 := .agg #[.int .i64 c, .int .i64 0, .int .i64 0, .bool false, .bool false]) Tryd.results10 (res_tmp rfl) (res_cell (b := w.heap.size + 1) (T' := 29) (fr := (0, 0)) rfl (heap_old' _ _ _ (by first | omega | (simp only [World.size_alloc, World.size_setCell, World.size_drew, size_drewN'] <;> omega)) (heap_new' _ _ _ (by first | omega | (simp only [World.size_alloc, World.size_setCell, World.size_drew, size_drewN'] <;> omega)))) Tryd.underlying29 rfl (by kernel_rfl))) rfl ?_
    exact ⟨⟨0, 0, none⟩, rfl, by go_grown⟩
  | true =>
    go_enter Tryd.func10, Tryd.ntmps10
    go_wp2_with fail
    refine (errors_New _ _).mono ?_
    rintro ev w' ⟨rfl, rfl⟩
    go_wp2_with fail
    go_rounds 1
    go_region
    go_wp2
    refine bodyPost_ret (results_two (v0 := (Er.foreign ⟨w.heap.size + 1 + 1 + 1, 0, none⟩).enc) (v1 := .agg #[.int .i64 0, .int .i64 0, .int .i64 0, .bool false, .bool false]) Tryd.results10 (res_tmp rfl) (res_cell (b := w.heap.size + 1) (T' := 29) (fr := (0, 0)) rfl (heap_old' _ _ _ (by first | omega | (simp only [World.size_alloc, World.size_setCell, World.size_drew, size_drewN'] <;> omega)) (heap_old' _ _ _ (by first | omega | (simp only [World.size_alloc, World.size_setCell, World.size_drew, size_drewN'] <;> omega)) (heap_new' _ _ _ (by first | omega | (simp only [World.size_alloc, World.size_setCell, World.size_drew, size_drewN'] <;> omega))))) Tryd.underlying29 rfl (by kernel_rfl))) rfl ?_
    exact ⟨⟨w.heap.size + 1 + 1 + 1, 0, none⟩, rfl, by go_grown⟩
end Go.Proofs.YtmjagnimdbbbnaaDoor
