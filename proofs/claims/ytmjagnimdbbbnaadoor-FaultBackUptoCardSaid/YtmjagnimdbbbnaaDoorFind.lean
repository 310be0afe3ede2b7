/- fault.Find: the number of a name. -/
import Derived.Test.YtmjagnimdbbbnaaDoorPrint
import Derived.Maps.RangeRun
import Derived.Lib.AtoiAllCases
import Derived.Deep.LoopGhost
namespace Go.Proofs.YtmjagnimdbbbnaaDoor
open Go.RowKit
set_option linter.unusedSimpArgs false
set_option linter.unusedVariables false

/-- The number of a name, in a list. -/
def numIn (s : ByteArray) : List (Int × ByteArray) → Option Int
  | [] => none
  | p :: r => if p.2 = s then some p.1 else numIn s r
def restOf (s : ByteArray) : ByteArray := ⟨(Lib.trimPrefix s.data.toList errnoWord.data.toList).toArray⟩
def isErrno (s : ByteArray) : Bool := Lib.hasPrefix s.data.toList errnoWord.data.toList
/-- The number of a name: whether there is one. -/
def findP (s : ByteArray) : Int × Bool :=
  match numIn s nameList with
  | some k => (k, true)
  | none => if isErrno s = true ∧ (atoiV (restOf s)).2 = true ∧ nameP (atoiV (restOf s)).1 = s then ((atoiV (restOf s)).1, true) else (0, false)
def findE (s : ByteArray) : Option Er := if (findP s).2 then none else mkE 4

def nameEs : Array MapEntry := (mapEntries nameList 0).toArray
theorem nameEs_old : ∀ x ∈ nameEs.toList, x.born < nameList.length := of_decide_eq_true (by kernel_rfl : decide (∀ x ∈ nameEs.toList, x.born < nameList.length) = true)
theorem nameEs_nodup : (nameEs.toList.map (·.born)).Nodup := of_decide_eq_true (by kernel_rfl : decide ((nameEs.toList.map (·.born)).Nodup) = true)
theorem mapEntries_mem : ∀ (l : List (Int × ByteArray)) (i : Nat), ∀ x ∈ mapEntries l i, ∃ p ∈ l, x.key = .int .i64 p.1 ∧ x.val = .string p.2
  | [], _, x, h => by cases h
  | p :: l, i, x, h => by
    rcases List.mem_cons.1 h with rfl | h
    · exact ⟨p, List.mem_cons_self .., rfl, rfl⟩
    · obtain ⟨q, hq, h1, h2⟩ := mapEntries_mem l (i + 1) x h
      exact ⟨q, List.mem_cons_of_mem _ hq, h1, h2⟩
theorem mapEntries_of : ∀ (l : List (Int × ByteArray)) (i : Nat), ∀ p ∈ l, ∃ x ∈ mapEntries l i, x.val = .string p.2
  | [], _, p, h => by cases h
  | q :: l, i, p, h => by
    rcases List.mem_cons.1 h with rfl | h
    · exact ⟨_, List.mem_cons_self .., rfl⟩
    · obtain ⟨x, hx, h1⟩ := mapEntries_of l (i + 1) p h
      exact ⟨x, List.mem_cons_of_mem _ hx, h1⟩
theorem numIn_mem (s : ByteArray) (k : Int) : ∀ l : List (Int × ByteArray), numIn s l = some k → (k, s) ∈ l
  | [], h => by simp [numIn] at h
  | p :: l, h => by
    by_cases hp : p.2 = s
    · simp [numIn, hp] at h
      subst hp; subst h; simp
    · simp [numIn, hp] at h
      exact List.mem_cons_of_mem _ (numIn_mem s k l h)
theorem names_apart : nameList.all (fun p => numIn p.2 nameList == some p.1) = true := by kernel_rfl
theorem names_fit : nameList.all (fun p => decide (0 ≤ p.1 ∧ p.1 ≤ 1000)) = true := by kernel_rfl
theorem numIn_of {k : Int} {s : ByteArray} (h : (k, s) ∈ nameList) : numIn s nameList = some k := by
  have := List.all_eq_true.1 names_apart _ h
  simpa using this
theorem restOf_size (s : ByteArray) : (restOf s).size ≤ s.size := by
  show (Lib.trimPrefix s.data.toList errnoWord.data.toList).length ≤ s.data.toList.length
  unfold Lib.trimPrefix
  split
  · rw [List.length_drop]; omega
  · exact Nat.le_refl _
theorem atoiV_I64 (s : ByteArray) (h : (atoiV s).2 = true) : I64 (atoiV s).1 := by
  unfold atoiV at h ⊢
  split at h
  · rename_i v hv
    exact Lib.atoiAll_bounds hv
  · cases h
  · cases h

theorem setBlock_same {w : World} {b : Nat} {o o' : Obj} (h : w.heap[b]? = some o') : (Go.ChangeMaps.setBlock w b o).heap[b]? = some o := by
  show (w.heap.setIfInBounds b o)[b]? = some o
  rw [Array.getElem?_setIfInBounds, if_pos rfl, if_pos (blk_lt' h)]
theorem setBlock_far {w : World} {b c : Nat} {o : Obj} (h : c ≠ b) : (Go.ChangeMaps.setBlock w b o).heap[c]? = w.heap[c]? := by
  show (w.heap.setIfInBounds b o)[c]? = _
  rw [Array.getElem?_setIfInBounds, if_neg (Ne.symm h)]
theorem below_setBlock {B b : Nat} {w w' : World} {o : Obj} (h : Below B w w') (hb : B ≤ b) : Below B w (Go.ChangeMaps.setBlock w' b o) :=
  ⟨h.os, h.tape, h.output, by show _ ≤ (w'.heap.setIfInBounds b o).size; rw [Array.size_setIfInBounds]; exact h.size, fun k hk => (setBlock_far (by omega)).trans (h.block k hk)⟩
theorem Sq.re {P : World → Prop} [Stays P] {w0 w : World} (h : P w0) (hB : Below w0.heap.size w0 w) : Sq P w0 w := ⟨hB, Stays.go h hB⟩

set_option maxRecDepth 100000 in
set_option maxHeartbeats 4000000 in
theorem fault_Find (s : ByteArray) (hs : s.size ≤ 281474976710656) (w : World) (L : LayS w) :
    Calls Tryd.prog 25 #[.string s] w fun ev w' => ev = .returned (.tuple #[.int .i64 (findP s).1, encE (findE s)]) ∧ Below w.heap.size w w' := by
  have st := Sq.start L
  have LL := Lib.hid L
  clear L
  generalize hF : findP s = F
  have hE : findE s = if F.2 then none else mkE 4 := by rw [← hF]; rfl
  generalize hEV : encE (findE s) = EV
  rw [hE] at hEV
  have HF := Lib.hid hF
  have HE := Lib.hid hEV
  clear hF hE hEV
  go_enter Tryd.func25, Tryd.ntmps25
  go_wp2_with fail
  refine (fault_names _).mono ?_
  rintro ev w' ⟨rfl, rfl⟩
  replace st := st.alloc (mapRow nameList)
  have hb : (w.alloc (mapRow nameList)).heap[w.heap.size]? = some (.map nameEs nameList.length) := heap_alloc_new w _
  have hrg := run_range_map (P := Tryd.prog) _ 75 _ _ w.heap.size nameEs nameList.length Tryd.underlying75 hb
  go_wp2
  replace st := st.alloc (.mapIter (some w.heap.size) nameList.length #[] nameList.length)
  have hr : ((w.alloc (mapRow nameList)).alloc (.mapIter (some w.heap.size) nameList.length #[] nameList.length)).heap[w.heap.size + 1]? = some (.mapIter (some w.heap.size) nameList.length #[] nameList.length) := heap_new' _ _ _ (by show _ = (Array.push _ _).size; rw [Array.size_push])
  have hb2 : ((w.alloc (mapRow nameList)).alloc (.mapIter (some w.heap.size) nameList.length #[] nameList.length)).heap[w.heap.size]? = some (.map nameEs nameList.length) := heap_old' _ _ _ (blk_lt' hb) hb
  clear hrg hb
  generalize (w.alloc (mapRow nameList)).alloc (.mapIter (some w.heap.size) nameList.length #[] nameList.length) = wA at st hr hb2 ⊢
  go_loopg [] (leftOf nameEs #[]).size (fun n wr => ∃ seen : Array Nat, n = (leftOf nameEs seen).size ∧ Sq LayS w wr ∧ wr.heap[w.heap.size + 1]? = some (.mapIter (some w.heap.size) nameList.length seen nameList.length) ∧ wr.heap[w.heap.size]? = some (.map nameEs nameList.length) ∧ ∀ x ∈ nameEs.toList, seen.contains x.born = true → x.val ≠ .string s)
  case atStart => exact ⟨#[], rfl, st, hr, hb2, fun x _ h => by simp at h⟩
  case round =>
    clear st hr hb2
    obtain ⟨seen, rfl, st, hr, hb, hno⟩ := hrel
    have law := run_next_at (P := Tryd.prog) wr 0 (w.heap.size + 1) w.heap.size nameList.length nameList.length seen nameEs nameList.length hr hb nameEs_old (Nat.le_refl _)
    rcases law with ⟨h0, hrun⟩ | ⟨e, he, w2, hal2, hrun⟩
    · have hnx : ∀ ty, (Instr.next (.pointer (some ⟨w.heap.size + 1, 0, none⟩)) false ty).run Tryd.prog wr = _ := fun _ => hrun
      have hnone : numIn s nameList = none := by
        cases hq : numIn s nameList with
        | none => rfl
        | some k =>
          obtain ⟨x, hx, hv⟩ := mapEntries_of nameList 0 (k, s) (numIn_mem s k _ hq)
          exact absurd hv (hno x hx (all_seen nameEs seen h0 x hx))
      have HN := Lib.hid hnone
      clear hnone hno hrun hr hb h0
      go_wp2_with fail
      have hF : (if isErrno s = true ∧ (atoiV (restOf s)).2 = true ∧ nameP (atoiV (restOf s)).1 = s then ((atoiV (restOf s)).1, true) else ((0 : Int), false)) = F := by rw [← HF.out, findP, HN.out]
      have CP : Calls Tryd.prog 35 #[.string s, .string ⟨#[101, 114, 114, 110, 111, 32]⟩] wr fun ev w' => ev = .returned (.tuple #[.string (restOf s), .bool (isErrno s)]) ∧ wr = w' := strings_CutPrefix s errnoWord wr
      have AT := strconv_Atoi (restOf s) (Nat.le_trans (restOf_size s) hs)
      have hvI := atoiV_I64 (restOf s)
      generalize restOf s = R at hF CP AT hvI
      generalize isErrno s = ib at hF CP
      generalize atoiV R = V at hF AT hvI
      obtain ⟨v, vb⟩ := V
      have HG := Lib.hid hF
      have HA := Lib.hid AT
      have HI := Lib.hid hvI
      clear hF AT hvI hnx
      refine CP.mono ?_
      rintro ev w' ⟨rfl, rfl⟩
      clear CP
      cases ib with
      | false =>
        go_wp2_with fail
        refine (fault_New 4 _).mono ?_
        rintro ev w' ⟨rfl, rfl⟩
        go_wp2
        go_ret2
        exact ⟨by rw [← HE.out, ← HG.out, if_neg (fun h => by cases h.1)]; rfl, st.B⟩
      | true =>
        go_wp2_with fail
        refine (HA.out _ st.L).mono ?_
        rintro ev w' ⟨e, rfl, he, hB⟩
        replace st := st.next hB
        clear hB
        cases vb with
        | false =>
          obtain ⟨q, rfl⟩ : ∃ q, e = .iface 123 q := by simpa using he
          clear he
          go_wp2_with fail
          refine (fault_New 4 _).mono ?_
          rintro ev w' ⟨rfl, rfl⟩
          go_wp2
          go_ret2
          exact ⟨by rw [← HE.out, ← HG.out, if_neg (fun h => by cases h.2.1)]; rfl, st.B⟩
        | true =>
          obtain rfl : e = .nilIface := by simpa using he
          clear he
          go_wp2_with fail
          refine (fault_Name v (HI.out (by simp)).1 (HI.out (by simp)).2 _ st.L.L).mono ?_
          rintro ev w' ⟨rfl, hB⟩
          replace st := st.next hB
          clear hB
          by_cases hq : nameP v = s
          · have HQ := Lib.hid hq
            rw [hq]
            have hq' : (s.toList == s.toList) = true := by simp
            clear hq HA HI
            go_wp2
            go_ret2
            exact ⟨by rw [← HE.out, ← HG.out, if_pos ⟨by simp, by simp, HQ.out⟩]; rfl, st.B⟩
          · have HQ := Lib.hid hq
            have hq' : ((nameP v).toList == s.toList) = false := str_other hq
            clear hq HA HI
            generalize nameP v = nv at hq' HQ HG
            go_wp2_with fail
            refine (fault_New 4 _).mono ?_
            rintro ev w' ⟨rfl, rfl⟩
            go_wp2
            go_ret2
            exact ⟨by rw [← HE.out, ← HG.out, if_neg (fun h => HQ.out h.2.2)]; rfl, st.B⟩
    · obtain ⟨p, hp, hk, hv⟩ := mapEntries_mem nameList 0 e (mem_left he).1
      rw [hk, hv] at hrun
      have hnx : ∀ ty, (Instr.next (.pointer (some ⟨w.heap.size + 1, 0, none⟩)) false ty).run Tryd.prog wr = _ := fun _ => hrun
      clear hrun
      have hr2 : w2.heap[w.heap.size + 1]? = some (.mapIter (some w.heap.size) nameList.length seen nameList.length) := by rcases hal2 with rfl | rfl <;> exact hr
      have hb2 : w2.heap[w.heap.size]? = some (.map nameEs nameList.length) := by rcases hal2 with rfl | rfl <;> exact hb
      have hB2 : Below w.heap.size w w2 := by
        rcases hal2 with rfl | rfl
        · exact st.B
        · exact st.B.drew
      have hr3 : (Go.ChangeMaps.setBlock w2 (w.heap.size + 1) (.mapIter (some w.heap.size) nameList.length (seen.push e.born) nameList.length)).heap[w.heap.size + 1]? = _ := setBlock_same hr2
      have hb3 : (Go.ChangeMaps.setBlock w2 (w.heap.size + 1) (.mapIter (some w.heap.size) nameList.length (seen.push e.born) nameList.length)).heap[w.heap.size]? = some (.map nameEs nameList.length) := (setBlock_far (by omega)).trans hb2
      have hen := run_entry_at (P := Tryd.prog) _ (w.heap.size + 1) w.heap.size nameList.length seen nameEs nameList.length e hr3 hb3 (mem_left he).1 nameEs_nodup
      rw [hk, hv] at hen
      have st3 : Sq LayS w (Go.ChangeMaps.setBlock w2 (w.heap.size + 1) (.mapIter (some w.heap.size) nameList.length (seen.push e.born) nameList.length)) := Sq.re LL.out (below_setBlock hB2 (by omega))
      generalize Go.ChangeMaps.setBlock w2 (w.heap.size + 1) (.mapIter (some w.heap.size) nameList.length (seen.push e.born) nameList.length) = w3 at hnx hen hr3 hb3 st3
      have hmx := mem_left he
      have hsh := left_shrinks nameEs seen e he
      have R3 := Lib.hid (And.intro hr3 hb3)
      have HM := Lib.hid hmx
      have HS := Lib.hid hsh
      have HV := Lib.hid hv
      have HNO := Lib.hid hno
      have HP := Lib.hid hp
      clear hr2 hb2 hB2 hr3 hb3 hal2 hr hb st hmx hsh hv hk he hno hp
      obtain ⟨pk, ps⟩ := p
      simp only at hnx hen HV HP
      by_cases hps : ps = s
      · subst hps
        have hq' : (ps.toList == ps.toList) = true := by simp
        clear HNO
        have hF : F = (pk, true) := by rw [← HF.out, findP, numIn_of HP.out]
        subst hF
        go_wp2
        go_ret2
        exact ⟨by rw [← HE.out]; rfl, st3.B⟩
      · have HQ := Lib.hid hps
        have hq' : (ps.toList == s.toList) = false := str_other hps
        clear hps
        go_wp2
        go_roundg (leftOf nameEs (seen.push e.born)).size
        case measure => exact HS.out
        case rel =>
          refine ⟨seen.push e.born, rfl, st3, R3.out.1, R3.out.2, fun x hx hc => ?_⟩
          rw [contains_push] at hc
          rcases Bool.or_eq_true _ _ ▸ hc with h1 | h1
          · exact HNO.out x hx h1
          · have : x = e := born_inj nameEs_nodup hx HM.out.1 (beq_iff_eq.1 h1)
            subst this
            rw [HV.out]
            intro hc
            exact HQ.out (by simpa using hc)
end Go.Proofs.YtmjagnimdbbbnaaDoor
