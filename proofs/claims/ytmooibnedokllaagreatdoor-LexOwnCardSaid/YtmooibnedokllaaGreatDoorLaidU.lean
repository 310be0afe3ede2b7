/- What a row's list gives a walk: an array of pairs (a text and a whole number); package span's units. -/
import Derived.Test.YtmooibnedokllaaGreatDoorLaid
import Derived.Test.YtmooibnedokllaaGreatDoorUnits
import Derived.Test.YtmooibnedokllaaGreatDoorSw4
namespace Go.Proofs.YtmooibnedokllaaGreatDoor
open Go.RowKit
set_option linter.unusedSimpArgs false
set_option linter.unusedVariables false

def pairData (k : IntKind) (us : List (List UInt8 × Int)) : DataW Unit := .agg (us.map fun u => .agg [.lit (.string u.1), .lit (.int k u.2)])
def pairCells (k : IntKind) (us : List (List UInt8 × Int)) : List Value := us.flatMap fun u => [.string ⟨u.1.toArray⟩, .int k u.2]
theorem pair_of_trod {P : Program} {w : World} {base : Nat} {sp : Nat → Bool} {held : Bool} {fuel : Nat} {e ts ti : TypeId} {k : IntKind} {f0 f1 : Field} {cs : List Value} {b : List UInt8} {z : Int} {p : List MemPlace}
    (he : P.underlying e = some (.struct #[f0, f1])) (h0 : f0.type = ts ∧ f0.offset = 0) (h1 : f1.type = ti ∧ f1.offset = 1)
    (hs : P.underlying ts = some .string) (hi : P.underlying ti = some (.int k)) (cs1 : P.cellsOf ts = 1) (ci1 : P.cellsOf ti = 1) (ce : P.cellsOf e = 2)
    (h : DataW.trod (fun _ => ()) P w base sp held fuel e cs = some (.agg [.lit (.string b), .lit (.int k z)], p)) : cs = [.string ⟨b.toArray⟩, .int k z] := by
  cases fuel with
  | zero => simp [DataW.trod] at h
  | succ fuel =>
    simp only [DataW.trod, he, ce] at h
    split at h
    · rename_i hl
      obtain ⟨xs, hm, hx⟩ := Option.map_eq_some_iff.1 h
      have hxs : xs.map (·.1) = [.lit (.string b), .lit (.int k z)] := by
        have := congrArg Prod.fst hx
        simpa using this
      obtain ⟨x0, hx0, ht0⟩ := Lib.mapM_at hm 0 f0 rfl
      obtain ⟨x1, hx1, ht1⟩ := Lib.mapM_at hm 1 f1 rfl
      rw [h0.1, h0.2, cs1] at ht0
      rw [h1.1, h1.2, ci1] at ht1
      obtain ⟨s, e0, rfl, _⟩ := DataW.trod_string hs ht0
      obtain ⟨n, e1, rfl, _⟩ := DataW.trod_int hi ht1
      have y0 : (xs.map (·.1))[0]? = some (.lit (.string s.data.toList)) := by simp [hx0]
      have y1 : (xs.map (·.1))[1]? = some (.lit (.int k n)) := by simp [hx1]
      rw [hxs] at y0 y1
      simp at y0 y1
      obtain ⟨c0, c1, rfl⟩ : ∃ c0 c1, cs = [c0, c1] := by
        match cs, hl with
        | [c0, c1], _ => exact ⟨c0, c1, rfl⟩
      simp at e0 e1
      subst e0 e1 y0 y1
      simp
    · cases h
theorem pairs_of_trod {P : Program} {w : World} {base : Nat} {sp : Nat → Bool} {held : Bool} {fuel : Nat} {t e ts ti : TypeId} {k : IntKind} {f0 f1 : Field} {cs : List Value} {us : List (List UInt8 × Int)} {m : Nat} {p : List MemPlace}
    (ht : P.underlying t = some (.array m e)) (he : P.underlying e = some (.struct #[f0, f1])) (h0 : f0.type = ts ∧ f0.offset = 0) (h1 : f1.type = ti ∧ f1.offset = 1)
    (hs : P.underlying ts = some .string) (hi : P.underlying ti = some (.int k)) (cs1 : P.cellsOf ts = 1) (ci1 : P.cellsOf ti = 1) (ce : P.cellsOf e = 2) (ct : P.cellsOf t = m * 2)
    (h : DataW.trod (fun _ => ()) P w base sp held fuel t cs = some (pairData k us, p)) :
    ∀ i u, us[i]? = some u → cs[2 * i]? = some (.string ⟨u.1.toArray⟩) ∧ cs[2 * i + 1]? = some (.int k u.2) := by
  cases fuel with
  | zero => simp [DataW.trod] at h
  | succ fuel =>
    simp only [DataW.trod, ht, ce, ct] at h
    split at h
    · rename_i hl
      obtain ⟨xs, hm, hx⟩ := Option.map_eq_some_iff.1 h
      have hxs : xs.map (·.1) = us.map fun u => (DataW.agg [.lit (.string u.1), .lit (.int k u.2)] : DataW Unit) := by
        have := congrArg Prod.fst hx
        simpa [pairData] using this
      have hxl : xs.length = m := by simpa using Lib.mapM_length hm
      intro i u hu
      have hi' : i < m := by
        have := congrArg List.length hxs
        have h2 := (List.getElem?_eq_some_iff.1 hu).1
        simp at this
        omega
      obtain ⟨x, hx1, hf⟩ := Lib.mapM_at hm i i (by simp [hi'])
      have h1' : (xs.map (·.1))[i]? = some x.1 := by simp [hx1]
      rw [hxs] at h1'
      simp [hu] at h1'
      obtain ⟨x1, x2⟩ := x
      simp only at h1'
      subst h1'
      have hc := pair_of_trod he h0 h1 hs hi cs1 ci1 ce hf
      have g0 := congrArg (·[0]?) hc
      have g1 := congrArg (·[1]?) hc
      simp [List.getElem?_take, List.getElem?_drop] at g0 g1
      rw [show 2 * i = i * 2 by omega]
      exact ⟨g0, g1⟩
    · cases h
def unitList : List (List UInt8 × Int) := [([119], 604800000000000), ([100], 86400000000000), ([104], 3600000000000), ([109], 60000000000), ([115], 1000000000), ([109, 115], 1000000), ([117, 115], 1000), ([110, 115], 1)]
theorem units_of_reads {P : Program} {W : World} {name : String} {t e ts ti : TypeId} {f0 f1 : Field}
    (hg : P.globalNamed name = some 1) (hty : (P.globals[1]?).map (·.type) = some t)
    (ht : P.underlying t = some (.array 8 e)) (he : P.underlying e = some (.struct #[f0, f1])) (h0 : f0.type = ts ∧ f0.offset = 0) (h1 : f1.type = ti ∧ f1.offset = 1)
    (hs : P.underlying ts = some .string) (hi : P.underlying ti = some (.int .i64)) (cs1 : P.cellsOf ts = 1) (ci1 : P.cellsOf ti = 1) (ce : P.cellsOf e = 2) (ct : P.cellsOf t = 16)
    (h : Reads P W name (pairData .i64 unitList)) : UnitsAt W := by
  obtain ⟨g', t', cs, fuel, p, hg', ht', hvar, hd⟩ := h
  obtain rfl := Option.some.inj (hg.symm.trans hg')
  obtain rfl := Option.some.inj (hty.symm.trans ht')
  have hp := pairs_of_trod ht he h0 h1 hs hi cs1 ci1 ce ct hd
  intro i v hv
  have hc := World.var?_cell hg hvar i
  rw [hc]
  have hi16 : i < 16 := (List.getElem?_eq_some_iff.1 hv).1
  have q := fun j u (hu : unitList[j]? = some u) => hp j u hu
  have a0 := q 0 _ rfl
  have a1 := q 1 _ rfl
  have a2 := q 2 _ rfl
  have a3 := q 3 _ rfl
  have a4 := q 4 _ rfl
  have a5 := q 5 _ rfl
  have a6 := q 6 _ rfl
  have a7 := q 7 _ rfl
  simp at a0 a1 a2 a3 a4 a5 a6 a7
  rcases i with _|_|_|_|_|_|_|_|_|_|_|_|_|_|_|_|i <;> first | omega | (simp [unitCells] at hv; subst hv; simp [*])
def fieldsOf (P : Program) (e : TypeId) : List (TypeId × Nat) := match P.underlying e with | some (.struct fs) => fs.toList.map fun f => (f.type, f.offset) | _ => []
theorem units_of_laid {P : Program} {W : World} {name : String} {t e ts ti : TypeId}
    (hg : P.globalNamed name = some 1) (hty : (P.globals[1]?).map (·.type) = some t)
    (ht : P.underlying t = some (.array 8 e)) (he : fieldsOf P e = [(ts, 0), (ti, 1)])
    (hs : P.underlying ts = some .string) (hi : P.underlying ti = some (.int .i64)) (cs1 : P.cellsOf ts = 1) (ci1 : P.cellsOf ti = 1) (ce : P.cellsOf e = 2) (ct : P.cellsOf t = 16)
    (h : Reads P W name (pairData .i64 unitList)) : UnitsAt W := by
  unfold fieldsOf at he
  split at he
  · rename_i fs hfs
    obtain ⟨f0, f1, hl⟩ : ∃ f0 f1, fs.toList = [f0, f1] := by
      have hn := congrArg List.length he
      rw [List.length_map] at hn
      generalize fs.toList = l at hn
      match l, hn with
      | [f0, f1], _ => exact ⟨f0, f1, rfl⟩
    obtain rfl : fs = #[f0, f1] := Array.toList_inj.1 hl
    simp at he
    exact units_of_reads hg hty ht hfs he.1 he.2 hs hi cs1 ci1 ce ct h
  · cases he
end Go.Proofs.YtmooibnedokllaaGreatDoor
