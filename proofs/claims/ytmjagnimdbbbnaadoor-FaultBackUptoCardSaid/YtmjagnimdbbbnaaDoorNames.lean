/- The map of names that package fault makes, and what is looked up in it. -/
import Derived.Test.YtmjagnimdbbbnaaDoorBase
import Derived.WideLaws
import Derived.MapKept
namespace Go.Proofs.YtmjagnimdbbbnaaDoor
open Go.RowKit
set_option linter.unusedSimpArgs false
set_option linter.unusedVariables false

/-- The numbers that have a name, in the order in which they are laid. -/
def nameList : List (Int × ByteArray) := [(0, ⟨#[111, 107]⟩), (1, ⟨#[110, 105, 108]⟩), (2, ⟨#[114, 97, 110, 103, 101]⟩), (3, ⟨#[102, 117, 108, 108]⟩), (4, ⟨#[110, 111, 110, 101]⟩), (5, ⟨#[107, 110, 111, 119, 110]⟩), (6, ⟨#[108, 111, 110, 103]⟩), (20, ⟨#[111, 118, 101, 114]⟩), (21, ⟨#[122, 101, 114, 111]⟩), (30, ⟨#[115, 104, 111, 114, 116]⟩), (31, ⟨#[102, 111, 114, 109]⟩), (32, ⟨#[115, 117, 109]⟩), (33, ⟨#[109, 111, 114, 101]⟩), (40, ⟨#[115, 112, 97, 110]⟩), (41, ⟨#[116, 105, 109, 101]⟩), (50, ⟨#[110, 97, 109, 101]⟩), (51, ⟨#[116, 101, 120, 116]⟩), (52, ⟨#[116, 97, 103, 115]⟩), (53, ⟨#[107, 101, 121]⟩), (60, ⟨#[108, 105, 110, 101]⟩), (70, ⟨#[102, 105, 101, 108, 100]⟩), (90, ⟨#[98, 108, 111, 99, 107]⟩), (110, ⟨#[115, 101, 114, 105, 101, 115]⟩), (111, ⟨#[112, 111, 105, 110, 116, 115]⟩), (120, ⟨#[99, 104, 97, 114]⟩), (121, ⟨#[113, 117, 111, 116, 101]⟩), (122, ⟨#[110, 117, 109, 98, 101, 114]⟩), (130, ⟨#[116, 114, 101, 101]⟩), (140, ⟨#[115, 121, 110, 116, 97, 120]⟩), (141, ⟨#[100, 101, 101, 112]⟩), (150, ⟨#[115, 99, 104, 101, 109, 97]⟩), (151, ⟨#[109, 101, 97, 115, 117, 114, 101]⟩), (152, ⟨#[99, 111, 108, 117, 109, 110]⟩), (153, ⟨#[112, 108, 97, 105, 110]⟩), (154, ⟨#[116, 119, 105, 99, 101]⟩), (155, ⟨#[101, 118, 101, 114, 121]⟩), (156, ⟨#[116, 97, 114, 103, 101, 116]⟩), (157, ⟨#[102, 105, 108, 108]⟩), (170, ⟨#[112, 108, 97, 110]⟩), (180, ⟨#[99, 111, 100, 101]⟩), (190, ⟨#[115, 116, 97, 99, 107]⟩), (191, ⟨#[106, 117, 109, 112]⟩), (192, ⟨#[111, 112, 101, 114, 97, 110, 100]⟩), (193, ⟨#[101, 110, 100]⟩), (240, ⟨#[102, 97, 117, 108, 116]⟩), (260, ⟨#[113, 117, 101, 114, 121]⟩), (261, ⟨#[117, 115, 101, 100]⟩), (262, ⟨#[105, 110, 116, 111]⟩), (263, ⟨#[111, 108, 100]⟩), (264, ⟨#[101, 100, 103, 101]⟩), (265, ⟨#[108, 101, 118, 101, 108]⟩), (270, ⟨#[102, 105, 108, 101]⟩), (271, ⟨#[105, 111]⟩), (272, ⟨#[102, 97, 116, 101]⟩), (273, ⟨#[99, 111, 114, 114, 117, 112, 116]⟩), (274, ⟨#[114, 101, 97, 100, 111, 110, 108, 121]⟩), (280, ⟨#[119, 111, 114, 100]⟩), (281, ⟨#[115, 116, 111, 114, 101]⟩)]

def mapEntries : List (Int × ByteArray) → Nat → List MapEntry
  | [], _ => []
  | p :: r, i => ⟨.int .i64 p.1, .string p.2, i⟩ :: mapEntries r (i + 1)
def mapRow (l : List (Int × ByteArray)) : Obj := .map (mapEntries l 0).toArray l.length
theorem mapEntries_snoc (p : Int × ByteArray) : ∀ (l : List (Int × ByteArray)) (i : Nat), mapEntries (l ++ [p]) i = mapEntries l i ++ [⟨.int .i64 p.1, .string p.2, i + l.length⟩]
  | [], i => by simp [mapEntries]
  | q :: r, i => by simp [mapEntries, mapEntries_snoc p r (i + 1)]; omega
/-- What a number's name is, if it has one. -/
def nameIn (k : Int) : List (Int × ByteArray) → Option ByteArray
  | [] => none
  | p :: r => if p.1 = k then some p.2 else nameIn k r
theorem findNow_is (k : Int) : ∀ (l : List (Int × ByteArray)) (i j : Nat), ∃ r, Instr.findNow (.int .i64) (.int .i64 k) (mapEntries l i) j = some r ∧ r.map (·.2) = (nameIn k l).map Value.string
  | [], i, j => ⟨none, rfl, rfl⟩
  | p :: r, i, j => by
    obtain ⟨x, hx, hv⟩ := findNow_is k r (i + 1) (j + 1)
    by_cases h : p.1 = k
    · refine ⟨some (j, .string p.2), ?_, by simp [nameIn, h]⟩
      simp [mapEntries, Instr.findNow, Instr.sameNow, h]
    · refine ⟨x, ?_, by simpa [nameIn, h] using hv⟩
      have h' : (k == p.1) = false := by simpa using fun e => h e.symm
      simp [mapEntries, Instr.findNow, Instr.sameNow, h', hx]
theorem findNow_none (k : Int) (l : List (Int × ByteArray)) (h : nameIn k l = none) : Instr.findNow (.int .i64) (.int .i64 k) (mapEntries l 0) 0 = some none := by
  obtain ⟨r, hr, hv⟩ := findNow_is k l 0 0
  rw [h] at hv
  cases r with
  | none => exact hr
  | some q => simp at hv
theorem setBlock_last (w : World) (o o' : Obj) : { w.alloc o with heap := (w.alloc o).heap.setIfInBounds w.heap.size o' } = w.alloc o' := by
  simp only [World.alloc]
  congr 1
  apply Array.ext_getElem?
  intro i
  simp only [Array.getElem?_setIfInBounds, Array.getElem?_push]
  by_cases h : w.heap.size = i
  · subst h; simp
  · have h' : ¬ i = w.heap.size := fun e => h e.symm
    simp [h, h']
set_option maxRecDepth 100000 in
/-- An insertion of a new number into the map that lies last. -/
theorem run_insert (l : List (Int × ByteArray)) (k : Int) (s : ByteArray) (w : World) (h : nameIn k l = none) :
    (Instr.mapUpdate 75 (.map (some w.heap.size)) (.int .i64 k) (.string s)).run Tryd.prog (w.alloc (mapRow l)) = .ok () (w.alloc (mapRow (l ++ [(k, s)]))) := by
  have hb : (w.alloc (mapRow l)).heap[w.heap.size]? = some (.map (mapEntries l 0).toArray l.length) := heap_alloc_new w _
  have hf := findNow_none k l h
  have hc : ∀ w : World, (Instr.checkKey false 10000 22 (.int .i64 k)).run Tryd.prog w = .ok () w := fun w => MapKept.run_checkKey Tryd.underlying22 (by constructor) _ 9999
  have hk : ∀ w : World, (Instr.findKey 22 (.int .i64 k) (mapEntries l 0)).run Tryd.prog w = .ok none w := fun w => by
    simp only [Instr.findKey, Sem.run_bind, run_underlying Tryd.underlying22, Result.andThen, hf]
    rfl
  have hs := MapKept.run_setObj_map (P := Tryd.prog) (.map ((mapEntries l 0).toArray.push { key := .int .i64 k, val := .string s, born := l.length }) (l.length + 1)) hb
  rw [setBlock_last] at hs
  have he : Obj.map ((mapEntries l 0).toArray.push { key := .int .i64 k, val := .string s, born := l.length }) (l.length + 1) = mapRow (l ++ [(k, s)]) := by
    simp [mapRow, mapEntries_snoc]
  rw [he] at hs
  simp only [Instr.mapUpdate, Sem.run_bind, run_underlying Tryd.underlying75, Result.andThen, MapKept.run_getObj_map hb, hc]
  simp only [hk]
  rw [he]
  exact hs
set_option maxRecDepth 100000 in
/-- A look-up in such a map. -/
theorem run_look (l : List (Int × ByteArray)) (k : Int) (b : Nat) (w : World) (hb : w.heap[b]? = some (mapRow l)) :
    (Instr.lookup 75 (.map (some b)) (.int .i64 k) true).run Tryd.prog w = .ok (.tuple #[.string ((nameIn k l).getD ⟨#[]⟩), .bool (nameIn k l).isSome]) w := by
  have hb' : w.heap[b]? = some (.map (mapEntries l 0).toArray l.length) := hb
  have hc : ∀ (em : Bool) (w : World), (Instr.checkKey em 10000 22 (.int .i64 k)).run Tryd.prog w = .ok () w := fun em w => MapKept.run_checkKey Tryd.underlying22 (by constructor) _ 9999
  obtain ⟨r, hr, hv⟩ := findNow_is k l 0 0
  have hk : ∀ w : World, (Instr.findKey 22 (.int .i64 k) (mapEntries l 0)).run Tryd.prog w = .ok r w := fun w => by
    simp only [Instr.findKey, Sem.run_bind, run_underlying Tryd.underlying22, Result.andThen, hr]
    rfl
  have hz : ∀ w : World, (zeroValue 9).run Tryd.prog w = .ok (.string ⟨#[]⟩) w := fun w => by kernel_rfl
  simp only [Instr.lookup, Sem.run_bind, run_underlying Tryd.underlying75, Result.andThen, MapKept.run_getObj_map hb', hc, Sem.run_pure, hk]
  cases r with
  | none =>
    have hn : nameIn k l = none := by simpa using hv.symm
    simp [hz, hn]
  | some q =>
    cases hn : nameIn k l with
    | none => rw [hn] at hv; simp at hv
    | some s => rw [hn] at hv; simp at hv; simp [hv]
set_option maxRecDepth 100000 in
set_option maxHeartbeats 8000000 in
theorem fault_names (w : World) : Calls Tryd.prog 34 #[] w fun ev w' => ev = .returned (.map (some w.heap.size)) ∧ w' = w.alloc (mapRow nameList) := by
  have hi := run_insert
  have n0 : ∀ k, nameIn k [] = none := fun _ => rfl
  have n1 : ∀ (k : Int) p r, nameIn k (p :: r) = if p.1 = k then some p.2 else nameIn k r := fun _ _ _ => rfl
  have hmm := @run_makeMap Tryd.prog
  have h0 : ∀ w : World, w.alloc (.map #[] 0) = w.alloc (mapRow []) := fun _ => rfl
  go_enter Tryd.func34, Tryd.ntmps34
  go_wp2
  go_ret
  exact ⟨rfl, rfl⟩
set_option maxRecDepth 100000 in
/-- fault.Name at a number that has a name. -/
theorem fault_Name_known (k : Int) (s : ByteArray) (hk : nameIn k nameList = some s) (w : World) : Calls Tryd.prog 24 #[.int .i64 k] w fun ev w' => ev = .returned (.string s) ∧ Below w.heap.size w w' := by
  have hl : (Instr.lookup 75 (.map (some w.heap.size)) (.int .i64 k) true).run Tryd.prog (w.alloc (mapRow nameList)) = .ok (.tuple #[.string s, .bool true]) (w.alloc (mapRow nameList)) := by
    have h := run_look nameList k w.heap.size (w.alloc (mapRow nameList)) (heap_alloc_new w _)
    rw [hk] at h
    exact h
  go_enter Tryd.func24, Tryd.ntmps24
  go_wp2_with (go_at_call 34; refine (fault_names _).mono ?_; rintro e w' ⟨rfl, rfl⟩)
  go_ret
  exact ⟨rfl, by go_grown⟩
end Go.Proofs.YtmjagnimdbbbnaaDoor
