/- weirref01.known: a number's name by the document, looked up in two arrays. -/
import Derived.Test.YtmjagnimdbbbnaaDoorName
import Derived.Deep.WholeRow
import Derived.Deep.LoopGhost
namespace Go.Proofs.YtmjagnimdbbbnaaDoor
open Go.RowKit
set_option linter.unusedSimpArgs false
set_option linter.unusedVariables false

/-- The two arrays, as pairs. -/
def pairs : List (Int × ByteArray) := nameList.drop 1 ++ List.replicate 13 (0, ⟨#[]⟩)
def numAt (i : Nat) : Int := (pairs.getD i (0, ⟨#[]⟩)).1
def wordAt (i : Nat) : ByteArray := (pairs.getD i (0, ⟨#[]⟩)).2
def numsArr : Array Value := (pairs.map (fun p : Int × ByteArray => Value.int .i64 p.1)).toArray
def wordsArr : Array Value := (pairs.map (fun p : Int × ByteArray => Value.string p.2)).toArray
theorem pairs_len : pairs.length = 70 := by kernel_rfl
theorem numsArr_at (i : Nat) (h : i < 70) : numsArr[i]? = some (.int .i64 (numAt i)) := by
  have h' : i < pairs.length := by rw [pairs_len]; exact h
  simp [numsArr, numAt, List.getElem?_eq_getElem h', List.getD_eq_getElem?_getD]
theorem wordsArr_at (i : Nat) (h : i < 70) : wordsArr[i]? = some (.string (wordAt i)) := by
  have h' : i < pairs.length := by rw [pairs_len]; exact h
  simp [wordsArr, wordAt, List.getElem?_eq_getElem h', List.getD_eq_getElem?_getD]
theorem pairs_drop (k : Int) (i : Nat) (h : i < 70) : nameIn k (pairs.drop i) = if numAt i = k then some (wordAt i) else nameIn k (pairs.drop (i + 1)) := by
  have h' : i < pairs.length := by rw [pairs_len]; exact h
  rw [List.drop_eq_getElem_cons h']
  simp [nameIn, numAt, wordAt, List.getD_eq_getElem?_getD, List.getElem?_eq_getElem h']
/-- A number's name by the two arrays. -/
def knownP (k : Int) : ByteArray := (nameIn k pairs).getD ⟨#[]⟩
theorem upon_to {P : Program} {o : Oper} {s : Act} {K : Act → World → Prop} {Q : Exit → Act → World → Prop} {r r' : Result Next} (h : r = r') (g : Oper.upon P o s K Q r') : Oper.upon P o s K Q r := h ▸ g
theorem store_step {P : Program} (w : World) (t : TypeId) (c c' : Array Value) (l : List Value) (hl : l = c'.toList) (hi : (P.info? t).map (·.size) = some c'.size) (ho : c.size = c'.size) (h1 : c'.all (·.oneCell') = true) :
    ((Sem.run P (storeCells ⟨w.heap.size, 0, none⟩ l) (w.alloc (.cells c t))).andThen fun _ w' => Result.ok Next.skip w') = .ok .skip (w.alloc (.cells c' t)) := by
  subst hl
  have h := run_storeCells_new w t c c' hi ho h1
  rw [show Sem.run P (storeCells ⟨w.heap.size, 0, none⟩ c'.toList) (w.alloc (.cells c t)) = _ from h]
  rfl

set_option maxRecDepth 100000 in
set_option maxHeartbeats 4000000 in
theorem ref_known (k : Int) (w : World) (L : Lay w) : Calls Tryd.prog 37 #[.int .i64 k] w fun ev w' => ev = .returned (.string (knownP k)) ∧ Below w.heap.size w w' := by
  go_enter Tryd.func37, Tryd.ntmps37
  go_wp2
  refine upon_to (r' := .ok .skip (w.alloc (.cells numsArr 98))) ?_ ?_
  · refine store_step w 98 Tryd.zeroCells98 numsArr _ ?_ (by kernel_rfl) (by kernel_rfl) (by kernel_rfl)
    kernel_rfl
  generalize Value.agg _ = A
  rw [Oper.upon_skip]
  generalize hn : numsArr = na
  have hB1 : Below w.heap.size w (w.alloc (.cells na 98)) := (Below.refl _ _).alloc (Nat.le_refl _) _
  have hc1 : (w.alloc (.cells na 98)).heap[w.heap.size]? = some (.cells na 98 (0, 0)) := heap_alloc_last _ _
  generalize hw1 : w.alloc (.cells na 98) = w1 at hB1 hc1 ⊢
  have hs1 : w.heap.size < w1.heap.size := blk_lt' hc1
  generalize hb0 : w.heap.size = b0 at hs1 hB1 hc1 ⊢
  have HW := Lib.hid hb0
  clear hb0
  clear hw1
  have HN := Lib.hid hn
  have HB1 := Lib.hid hB1
  have HC1 := Lib.hid hc1
  clear hn hB1 hc1
  go_wp2
  refine upon_to (r' := .ok .skip (w1.alloc (.cells wordsArr 99))) ?_ ?_
  · refine store_step w1 99 Tryd.zeroCells99 wordsArr _ ?_ (by kernel_rfl) (by kernel_rfl) (by kernel_rfl)
    kernel_rfl
  generalize Value.agg _ = A'
  rw [Oper.upon_skip]
  have c1 : ∀ i : Nat, i < 70 → (w1.alloc (.cells wordsArr 99)).cell? ⟨b0, i, none⟩ = some (.int .i64 (numAt i)) := fun i hi => by rw [blk_cell' (heap_old' w1 _ b0 hs1 HC1.out) i, ← HN.out]; exact numsArr_at i hi
  have c2 : ∀ i : Nat, i < 70 → (w1.alloc (.cells wordsArr 99)).cell? ⟨w1.heap.size, i, none⟩ = some (.string (wordAt i)) := fun i hi => by rw [blk_cell' (heap_alloc_last _ _) i]; exact wordsArr_at i hi
  have HB2 := Lib.hid (HB1.out.alloc (Nat.le_of_lt hs1) (.cells wordsArr 99))
  generalize w1.alloc (.cells wordsArr 99) = w2 at c1 c2 HB2 ⊢
  generalize w1.heap.size = b1 at *
  clear HN HB1 HC1 hs1 L
  go_wp2
  go_loopg [5] 70 (fun n v wr => ∃ i : Nat, v = .int .i64 i ∧ i + n = 70 ∧ wr = w2 ∧ (nameIn k (pairs.drop i)).getD ⟨#[]⟩ = knownP k)
  case atStart => exact ⟨0, rfl, rfl, rfl, rfl⟩
  case round =>
    obtain ⟨i, rfl, hn, rfl, hk⟩ := hrel
    by_cases hi : i < 70
    · have d1 := c1 i hi
      have d2 := c2 i hi
      have hp := pairs_drop k i hi
      have hq : pairs.drop i = pairs.drop i := rfl
      clear hq
      by_cases he : numAt i = k
      · rw [if_pos he] at hp
        rw [hp] at hk
        have hk2 : wordAt i = knownP k := hk
        have HK := Lib.hid hk2
        clear hp hk c1 c2 hk2
        generalize wordAt i = s at *
        rw [he] at d1
        clear he
        go_wp2
        go_ret
        exact ⟨by rw [HK.out]; rfl, by rw [HW.out]; exact HB2.out⟩
      · rw [if_neg he] at hp
        rw [hp] at hk
        have HK := Lib.hid hk
        have he' : (numAt i == k) = false := by simpa using he
        clear hp hk c1 c2 d2 he
        generalize numAt i = m at *
        go_wp2
        go_roundg (gk - 1)
        case measure => omega
        case rel => exact ⟨i + 1, rfl, by omega, rfl, HK.out⟩
    · have hi70 : i = 70 := by omega
      subst hi70
      have hk2 : (⟨#[]⟩ : ByteArray) = knownP k := by rw [← hk]; rfl
      have HK := Lib.hid hk2
      clear hk c1 c2 hk2 hi hn
      go_wp2
      go_ret
      exact ⟨by rw [HK.out]; rfl, by rw [HW.out]; exact HB2.out⟩
end Go.Proofs.YtmjagnimdbbbnaaDoor
