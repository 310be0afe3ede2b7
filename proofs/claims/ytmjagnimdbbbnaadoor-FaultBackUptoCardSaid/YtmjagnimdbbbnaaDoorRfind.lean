/- weirref01.Find: the number of a name by the document. -/
import Derived.Test.YtmjagnimdbbbnaaDoorFound
namespace Go.Proofs.YtmjagnimdbbbnaaDoor
open Go.RowKit
set_option linter.unusedSimpArgs false
set_option linter.unusedVariables false

def okW : ByteArray := ⟨#[111, 107]⟩
def cutV (s : ByteArray) : ByteArray := s.extract 6 s.size
/-- The number of a name, as the document looks for it. -/
def scanP (s : ByteArray) : Nat → Nat → Option Int
  | _, 0 => none
  | e, n + 1 => if knownP (e : Int) = s ∧ s ≠ ⟨#[]⟩ then some (e : Int) else scanP s (e + 1) n
def refF (s : ByteArray) : Int × Bool :=
  if s = okW then (0, true) else
  match scanP s 1 299 with
  | some k => (k, true)
  | none => if 6 < s.size ∧ s.extract 0 6 = errnoWord ∧ nameP (atoiV (cutV s)).1 = s then ((atoiV (cutV s)).1, true) else (0, false)
def refE (s : ByteArray) : Bad := if (refF s).2 then Bad.nil else refNew 4

theorem atoiV_all (s : ByteArray) : I64 (atoiV s).1 := by
  unfold atoiV
  split
  · rename_i v hv
    exact Lib.atoiAll_bounds hv
  · exact ⟨by simp, by simp⟩
  · exact Lib.atoiSat_bounds _
theorem bad_blk {w : World} {b : Nat} {x0 x1 x2 x3 x4 : Value} {T : TypeId} {fr : Nat × Nat} (h : w.heap[b]? = some (.cells #[x0, x1, x2, x3, x4] T fr)) (v0 v1 v2 v3 v4 : Value) :
    (((((w.setCell ⟨b, 0, none⟩ v0).setCell ⟨b, 1, none⟩ v1).setCell ⟨b, 2, none⟩ v2).setCell ⟨b, 3, none⟩ v3).setCell ⟨b, 4, none⟩ v4).heap[b]? = some (.cells #[v0, v1, v2, v3, v4] T fr) := by
  have := blk_set' (blk_set' (blk_set' (blk_set' (blk_set' h 0 v0) 1 v1) 2 v2) 3 v3) 4 v4
  simpa using this
theorem below_bad {B b : Nat} {w0 w : World} (h : Below B w0 w) (hb : B ≤ b) (v0 v1 v2 v3 v4 : Value) :
    Below B w0 (((((w.setCell ⟨b, 0, none⟩ v0).setCell ⟨b, 1, none⟩ v1).setCell ⟨b, 2, none⟩ v2).setCell ⟨b, 3, none⟩ v3).setCell ⟨b, 4, none⟩ v4) :=
  ((((h.setCell hb _).setCell hb _).setCell hb _).setCell hb _).setCell hb _
/-- A walk whose block b holds five cells. -/
structure S5 (b : Nat) (x0 x1 x2 x3 x4 : Value) (T : TypeId) (w0 w : World) : Prop where
  B : Below w0.heap.size w0 w
  L : LayS w
  blk : w.heap[b]? = some (.cells #[x0, x1, x2, x3, x4] T (0, 0))
theorem S5.next {b : Nat} {x0 x1 x2 x3 x4 : Value} {T : TypeId} {w0 w w' : World} (s : S5 b x0 x1 x2 x3 x4 T w0 w) (h : Below w.heap.size w w') : S5 b x0 x1 x2 x3 x4 T w0 w' := ⟨s.B.trans (h.mono s.B.size), s.L.below h, below_blk h (blk_lt' s.blk) s.blk⟩

set_option maxRecDepth 100000 in
set_option maxHeartbeats 800000 in
theorem ref_Find (s : ByteArray) (hs : s.size ≤ 281474976710656) (w : World) (L : LayS w) :
    Calls Tryd.prog 27 #[.string s] w fun ev w' => ev = .returned (.tuple #[.int .i64 (refF s).1, (refE s).enc]) ∧ Below w.heap.size w w' := by
  generalize hF : refF s = F
  have hE : refE s = if F.2 then Bad.nil else refNew 4 := by rw [← hF]; rfl
  generalize hEV : (refE s).enc = EV
  rw [hE] at hEV
  have HF := Lib.hid hF
  have HE := Lib.hid hEV
  clear hF hE hEV
  have sb : S5 w.heap.size (.int .i64 0) (.int .i64 0) (.int .i64 0) (.bool false) (.bool false) 29 w (w.alloc (.cells #[.int .i64 0, .int .i64 0, .int .i64 0, .bool false, .bool false] 29)) := ⟨(Below.refl _ _).alloc (Nat.le_refl _) _, L.below ((Below.refl _ _).alloc (Nat.le_refl _) _), heap_alloc_new w _⟩
  clear L
  by_cases h0 : s = okW
  · have hq : (s.toList == [111, 107]) = true := by rw [h0]; simp [okW, Lib.toList_data]
    have hF : F = (0, true) := by rw [← HF.out, refF, if_pos h0]
    subst hF
    clear h0
    go_enter Tryd.func27, Tryd.ntmps27
    have k0 := blk_cell' sb.blk 0
    have f0 := blk_free' sb.blk 0
    have k1 := blk_cell' sb.blk 1
    have f1 := blk_free' sb.blk 1
    have k2 := blk_cell' sb.blk 2
    have f2 := blk_free' sb.blk 2
    have k3 := blk_cell' sb.blk 3
    have f3 := blk_free' sb.blk 3
    have k4 := blk_cell' sb.blk 4
    have f4 := blk_free' sb.blk 4
    go_wp2
    refine bodyPost_ret (results_two (v0 := .int .i64 0) (v1 := .agg #[.int .i64 0, .int .i64 0, .int .i64 0, .bool false, .bool false]) Tryd.results27 (res_tmp rfl) (res_cell (b := w.heap.size) (T' := 29) (fr := (0, 0)) rfl sb.blk Tryd.underlying29 rfl (by kernel_rfl))) rfl ?_
    exact ⟨by rw [← HE.out]; rfl, sb.B⟩
  · have hF : (match scanP s 1 299 with | some k => (k, true) | none => if 6 < s.size ∧ s.extract 0 6 = errnoWord ∧ nameP (atoiV (cutV s)).1 = s then ((atoiV (cutV s)).1, true) else (0, false)) = F := by rw [← HF.out, refF, if_neg h0]
    have HG := Lib.hid hF
    have hq : (s.toList == [111, 107]) = false := by have := str_other h0; simpa [okW, Lib.toList_data] using this
    clear h0 hF
    go_enter Tryd.func27, Tryd.ntmps27
    go_wp2
    go_loopg [4] 299 (fun n v wr => ∃ i : Nat, v = .int .i64 i ∧ i + n = 300 ∧ 1 ≤ i ∧ S5 w.heap.size (.int .i64 0) (.int .i64 0) (.int .i64 0) (.bool false) (.bool false) 29 w wr ∧ scanP s i n = scanP s 1 299)
    case atStart => exact ⟨1, rfl, rfl, Nat.le_refl _, sb, rfl⟩
    case round =>
      clear sb hq
      obtain ⟨i, rfl, hn, h1, sb, hk⟩ := hrel
      by_cases hi : i < 300
      · obtain ⟨m, rfl⟩ : ∃ m, gk = m + 1 := ⟨gk - 1, by omega⟩
        go_wp2_with fail
        refine (ref_known i _ sb.L.L).mono ?_
        rintro ev w' ⟨rfl, hB⟩
        replace sb := sb.next hB
        clear hB
        by_cases hki : knownP i = s
        · by_cases hse : s = ⟨#[]⟩
          · have hsc : scanP s (i + 1) m = scanP s 1 299 := by rw [← hk, scanP, if_neg (fun h => h.2 hse)]
            have HS := Lib.hid hsc
            have hq1 : ((knownP i).toList == s.toList) = true := str_same hki
            have hq2 : s.toList.isEmpty = true := by rw [hse]; simp [Lib.toList_data]
            clear hk hsc hki hse
            generalize knownP i = kn at *
            go_wp2
            go_roundg m
            case measure => omega
            case rel => exact ⟨i + 1, rfl, by omega, by omega, sb, HS.out⟩
          · have hsc : scanP s 1 299 = some (i : Int) := by rw [← hk, scanP, if_pos ⟨hki, hse⟩]
            have hF : F = ((i : Int), true) := by rw [← HG.out, hsc]
            subst hF
            have hq1 : ((knownP i).toList == s.toList) = true := str_same hki
            have hq2 : s.toList.isEmpty = false := str_ne hse
            clear hk hsc hki hse HG HF
            generalize knownP i = kn at *
            have k0 := blk_cell' sb.blk 0
            have f0 := blk_free' sb.blk 0
            have k1 := blk_cell' sb.blk 1
            have f1 := blk_free' sb.blk 1
            have k2 := blk_cell' sb.blk 2
            have f2 := blk_free' sb.blk 2
            have k3 := blk_cell' sb.blk 3
            have f3 := blk_free' sb.blk 3
            have k4 := blk_cell' sb.blk 4
            have f4 := blk_free' sb.blk 4
            go_wp2
            refine bodyPost_ret (results_two (v0 := .int .i64 i) (v1 := .agg #[.int .i64 0, .int .i64 0, .int .i64 0, .bool false, .bool false]) Tryd.results27 (res_tmp rfl) (res_cell (b := w.heap.size) (T' := 29) (fr := (0, 0)) rfl (bad_blk sb.blk _ _ _ _ _) Tryd.underlying29 rfl (by kernel_rfl))) rfl ?_
            exact ⟨by rw [← HE.out]; rfl, below_bad sb.B (Nat.le_refl _) _ _ _ _ _⟩
        · have hsc : scanP s (i + 1) m = scanP s 1 299 := by rw [← hk, scanP, if_neg (fun h => hki h.1)]
          have HS := Lib.hid hsc
          have hq1 : ((knownP i).toList == s.toList) = false := str_other hki
          clear hk hsc hki
          generalize knownP i = kn at *
          go_wp2
          go_roundg m
          case measure => omega
          case rel => exact ⟨i + 1, rfl, by omega, by omega, sb, HS.out⟩
      · obtain rfl : i = 300 := by omega
        obtain rfl : gk = 0 := by omega
        have hsc : scanP s 1 299 = none := by rw [← hk]; rfl
        have hF : (if 6 < s.size ∧ s.extract 0 6 = errnoWord ∧ nameP (atoiV (cutV s)).1 = s then ((atoiV (cutV s)).1, true) else ((0 : Int), false)) = F := by rw [← HG.out, hsc]
        replace HG := Lib.hid hF
        clear hk hsc hF hi h1 hn
        have hx : s.size ≤ 281474976710656 := hs
        by_cases h6 : 6 < s.size
        · by_cases hp : s.extract 0 6 = errnoWord
          · have HX := Lib.hid hp
            have hq6 : ((s.extract 0 6).toList == [101, 114, 114, 110, 111, 32]) = true := by rw [hp]; simp [errnoWord, Lib.toList_data]
            clear hp
            go_wp2_with fail
            have AT := fun w L => strconv_Atoi (cutV s) (by unfold cutV; simp; omega) w L
            have hvI := atoiV_all (cutV s)
            generalize atoiV (cutV s) = V at HG AT hvI
            obtain ⟨v, vb⟩ := V
            simp only at HG hvI
            refine (AT _ sb.L).mono ?_
            rintro ev w' ⟨e, rfl, -, hB⟩
            replace sb := sb.next hB
            clear hB AT
            go_wp2_with fail
            refine (ref_Name v hvI.1 hvI.2 _ sb.L.L).mono ?_
            rintro ev w' ⟨rfl, hB⟩
            replace sb := sb.next hB
            clear hB hvI
            by_cases hq : nameP v = s
            · have HQ := Lib.hid hq
              have hq7 : ((nameP v).toList == s.toList) = true := str_same hq
              clear hq
              generalize nameP v = nv at hq7 HQ HG
              have k0 := blk_cell' sb.blk 0
              have f0 := blk_free' sb.blk 0
              have k1 := blk_cell' sb.blk 1
              have f1 := blk_free' sb.blk 1
              have k2 := blk_cell' sb.blk 2
              have f2 := blk_free' sb.blk 2
              have k3 := blk_cell' sb.blk 3
              have f3 := blk_free' sb.blk 3
              have k4 := blk_cell' sb.blk 4
              have f4 := blk_free' sb.blk 4
              go_wp2
              refine bodyPost_ret (results_two (v0 := .int .i64 v) (v1 := .agg #[.int .i64 0, .int .i64 0, .int .i64 0, .bool false, .bool false]) Tryd.results27 (res_tmp rfl) (res_cell (b := w.heap.size) (T' := 29) (fr := (0, 0)) rfl (bad_blk sb.blk _ _ _ _ _) Tryd.underlying29 rfl (by kernel_rfl))) rfl ?_
              exact ⟨by rw [← HE.out, ← HG.out, if_pos ⟨h6, HX.out, HQ.out⟩]; rfl, below_bad sb.B (Nat.le_refl _) _ _ _ _ _⟩
            · have HQ := Lib.hid hq
              have hq7 : ((nameP v).toList == s.toList) = false := str_other hq
              clear hq
              generalize nameP v = nv at hq7 HQ HG
              go_wp2_with fail
              refine (weirref01_New 4 _).mono ?_
              rintro ev w' ⟨rfl, hB⟩
              replace sb := sb.next hB
              clear hB
              rw [show (refNew 4).enc = .agg #[.int .i64 4, .int .i64 0, .int .i64 0, .bool false, .bool false] from rfl]
              have k0 := blk_cell' sb.blk 0
              have f0 := blk_free' sb.blk 0
              have k1 := blk_cell' sb.blk 1
              have f1 := blk_free' sb.blk 1
              have k2 := blk_cell' sb.blk 2
              have f2 := blk_free' sb.blk 2
              have k3 := blk_cell' sb.blk 3
              have f3 := blk_free' sb.blk 3
              have k4 := blk_cell' sb.blk 4
              have f4 := blk_free' sb.blk 4
              go_wp2
              refine bodyPost_ret (results_two (v0 := .int .i64 0) (v1 := .agg #[.int .i64 4, .int .i64 0, .int .i64 0, .bool false, .bool false]) Tryd.results27 (res_tmp rfl) (res_cell (b := w.heap.size) (T' := 29) (fr := (0, 0)) rfl (bad_blk sb.blk _ _ _ _ _) Tryd.underlying29 rfl (by kernel_rfl))) rfl ?_
              exact ⟨by rw [← HE.out, ← HG.out, if_neg (fun h => HQ.out h.2.2)]; rfl, below_bad sb.B (Nat.le_refl _) _ _ _ _ _⟩
          · have HX := Lib.hid hp
            have hq6 : ((s.extract 0 6).toList == [101, 114, 114, 110, 111, 32]) = false := by have := str_other hp; simpa [errnoWord, Lib.toList_data] using this
            clear hp
            go_wp2_with fail
            refine (weirref01_New 4 _).mono ?_
            rintro ev w' ⟨rfl, hB⟩
            replace sb := sb.next hB
            clear hB
            rw [show (refNew 4).enc = .agg #[.int .i64 4, .int .i64 0, .int .i64 0, .bool false, .bool false] from rfl]
            have k0 := blk_cell' sb.blk 0
            have f0 := blk_free' sb.blk 0
            have k1 := blk_cell' sb.blk 1
            have f1 := blk_free' sb.blk 1
            have k2 := blk_cell' sb.blk 2
            have f2 := blk_free' sb.blk 2
            have k3 := blk_cell' sb.blk 3
            have f3 := blk_free' sb.blk 3
            have k4 := blk_cell' sb.blk 4
            have f4 := blk_free' sb.blk 4
            go_wp2
            refine bodyPost_ret (results_two (v0 := .int .i64 0) (v1 := .agg #[.int .i64 4, .int .i64 0, .int .i64 0, .bool false, .bool false]) Tryd.results27 (res_tmp rfl) (res_cell (b := w.heap.size) (T' := 29) (fr := (0, 0)) rfl (bad_blk sb.blk _ _ _ _ _) Tryd.underlying29 rfl (by kernel_rfl))) rfl ?_
            exact ⟨by rw [← HE.out, ← HG.out, if_neg (fun h => HX.out h.2.1)]; rfl, below_bad sb.B (Nat.le_refl _) _ _ _ _ _⟩
        · have hl : decide ((6 : Int) < (s.size : Int)) = false := by simp; omega
          go_wp2_with fail
          refine (weirref01_New 4 _).mono ?_
          rintro ev w' ⟨rfl, hB⟩
          replace sb := sb.next hB
          clear hB
          rw [show (refNew 4).enc = .agg #[.int .i64 4, .int .i64 0, .int .i64 0, .bool false, .bool false] from rfl]
          have k0 := blk_cell' sb.blk 0
          have f0 := blk_free' sb.blk 0
          have k1 := blk_cell' sb.blk 1
          have f1 := blk_free' sb.blk 1
          have k2 := blk_cell' sb.blk 2
          have f2 := blk_free' sb.blk 2
          have k3 := blk_cell' sb.blk 3
          have f3 := blk_free' sb.blk 3
          have k4 := blk_cell' sb.blk 4
          have f4 := blk_free' sb.blk 4
          go_wp2
          refine bodyPost_ret (results_two (v0 := .int .i64 0) (v1 := .agg #[.int .i64 4, .int .i64 0, .int .i64 0, .bool false, .bool false]) Tryd.results27 (res_tmp rfl) (res_cell (b := w.heap.size) (T' := 29) (fr := (0, 0)) rfl (bad_blk sb.blk _ _ _ _ _) Tryd.underlying29 rfl (by kernel_rfl))) rfl ?_
          exact ⟨by rw [← HE.out, ← HG.out, if_neg (fun h => h6 h.1)]; rfl, below_bad sb.B (Nat.le_refl _) _ _ _ _ _⟩
end Go.Proofs.YtmjagnimdbbbnaaDoor
