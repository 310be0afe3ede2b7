/- The names of numbers: fault.Name and weirref01.Name, at every number. -/
import Derived.Test.YtmjagnimdbbbnaaDoorLib
import Derived.Test.YtmjagnimdbbbnaaDoorNames
import Derived.Lib.ItoaLen
namespace Go.Proofs.YtmjagnimdbbbnaaDoor
open Go.RowKit
set_option linter.unusedSimpArgs false
set_option linter.unusedVariables false

def errnoWord : ByteArray := ⟨#[101, 114, 114, 110, 111, 32]⟩
/-- A number's name. -/
def nameP (e : Int) : ByteArray := match nameIn e nameList with | some s => s | none => errnoWord ++ itoa e

theorem itoa_size (k : Int) (h0 : -9223372036854775808 ≤ k) (h1 : k ≤ 9223372036854775807) : (itoa k).size ≤ 21 := Lib.itoa_length_le k h0 h1

set_option maxRecDepth 100000 in
theorem fault_Name (k : Int) (h0 : -9223372036854775808 ≤ k) (h1 : k ≤ 9223372036854775807) (w : World) (L : Lay w) :
    Calls Tryd.prog 24 #[.int .i64 k] w fun ev w' => ev = .returned (.string (nameP k)) ∧ Below w.heap.size w w' := by
  cases hk : nameIn k nameList with
  | some s =>
    have hp : nameP k = s := by simp [nameP, hk]
    rw [hp]
    exact fault_Name_known k s hk w
  | none =>
    have hp : nameP k = errnoWord ++ itoa k := by simp [nameP, hk]
    rw [hp]
    have hl : (Instr.lookup 75 (.map (some w.heap.size)) (.int .i64 k) true).run Tryd.prog (w.alloc (mapRow nameList)) = .ok (.tuple #[.string ⟨#[]⟩, .bool false]) (w.alloc (mapRow nameList)) := by
      have h := run_look nameList k w.heap.size (w.alloc (mapRow nameList)) (heap_alloc_new w _)
      rw [hk] at h
      exact h
    have st : Sl w w := Sq.start L
    clear L hp hk
    have hs := itoa_size k h0 h1
    go_enter Tryd.func24, Tryd.ntmps24
    go_wp2_with (go_at_call 34; refine (fault_names _).mono ?_; rintro e w' ⟨rfl, rfl⟩)
    replace st := st.alloc (mapRow nameList)
    refine (strconv_Itoa k h0 h1 _ st.L).mono ?_
    rintro ev w' ⟨rfl, hB⟩
    replace st := st.next hB
    clear hB hl
    have h6 : errnoWord.size = 6 := rfl
    go_wp2
    go_ret
    exact ⟨rfl, st.B⟩
end Go.Proofs.YtmjagnimdbbbnaaDoor
