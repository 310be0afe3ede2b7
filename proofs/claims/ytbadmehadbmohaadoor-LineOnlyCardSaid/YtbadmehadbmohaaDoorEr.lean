/- The program's errors as a Lean type, and what errors.As finds in one at each of the three targets (a number, a place, an index), by contracts. -/
import Derived.Test.YtbadmehadbmohaaDoorBase
import Derived.WalkKit
import Derived.LaidEql
import Derived.Stop.Asserts
import Derived.RowKitTokens
import Derived.Deep.LoopGhost
import Derived.Handy
import Derived.Lib.Hide
namespace Go.Proofs.YtbadmehadbmohaaDoor
open Go.RowKit Go.Extern.Stop Go.Stop Go.Extern

/-- An error of the program. -/
inductive Er where
  | code (n : Int)
  | at_ (p : Int) (e : Er)
/-- How it lies in an interface value. -/
def Er.enc : Er → Value
  | .code n => .iface 34 (.int .i64 n)
  | .at_ p e => .iface 111 (.agg #[.int .i64 p, e.enc])
/-- How deep it is. -/
def Er.size : Er → Nat
  | .code _ => 0
  | .at_ _ e => e.size + 1
/-- The number in it. -/
def Er.code? : Er → Option Int
  | .code n => some n
  | .at_ _ e => e.code?
/-- The place in it, and what stands there. -/
def Er.at? : Er → Option (Int × Er)
  | .code _ => none
  | .at_ p e => some (p, e)
/-- The index in it, and what is there. -/
def Er.in? : Er → Option (Int × Er)
  | .code _ => none
  | .at_ _ e => e.in?
/-- An error or none. -/
def encE : Option Er → Value
  | none => .nilIface
  | some e => e.enc
theorem Er.enc_one (e : Er) : e.enc.oneCell' = true := by cases e <;> rfl
theorem encE_one (e : Option Er) : (encE e).oneCell' = true := by cases e with | none => rfl | some e => exact e.enc_one
theorem Er.enc_iface (e : Er) : ∃ t v, e.enc = .iface t v := by cases e <;> exact ⟨_, _, rfl⟩
theorem Er.eql_nil (e : Er) (w : World) : (binOp .eql 28 e.enc .nilIface).run Tryd.prog w = .ok (.bool false) w := by
  obtain ⟨t, v, h⟩ := e.enc_iface
  rw [h]
  exact run_eql_held_nil w 28 t v (by kernel_rfl)
theorem Er.neq_nil (e : Er) (w : World) : (binOp .neq 28 e.enc .nilIface).run Tryd.prog w = .ok (.bool true) w := by
  obtain ⟨t, v, h⟩ := e.enc_iface
  rw [h]
  exact run_neq_held_nil w 28 t v (by kernel_rfl)

/-! ### Closed facts on the model's entries for internal/reflectlite, at this program's types -/
theorem rl_methodKind (h : Value) (w : World) : (Go.method 267 97 (.agg #[h]) "Kind").run Tryd.prog w = .ok (88, h) w := by kernel_rfl
theorem rl_methodElem (h : Value) (w : World) : (Go.method 267 97 (.agg #[h]) "Elem").run Tryd.prog w = .ok (99, .agg #[h]) w := by kernel_rfl
theorem rl_methodImplements (h : Value) (w : World) : (Go.method 267 97 (.agg #[h]) "Implements").run Tryd.prog w = .ok (100, .agg #[h]) w := by kernel_rfl
theorem rl_methodAssignableTo (h : Value) (w : World) : (Go.method 267 97 (.agg #[h]) "AssignableTo").run Tryd.prog w = .ok (97, .agg #[h]) w := by kernel_rfl
theorem rl_valueOfP_code (t : Addr) (w : World) : (ReflectliteValue.unpack (.iface 59 (.pointer (some t)))).run Tryd.prog w = .ok (.agg #[.pointer (some ⟨7, 59, none⟩), .pointer (some ⟨w.heap.size, 0, none⟩), .int .u64 150]) (w.alloc (.cells #[.pointer (some t)] 59)) := by kernel_rfl
theorem rl_type_code (a : Addr) (w : World) : (ReflectliteValue.methodAny (ReflectliteValue.valueError "reflectlite.Value.Type" 0) (fun t _ _ _ => ReflectliteType.toType t) #[.agg #[.pointer (some ⟨7, 59, none⟩), .pointer (some a), .int .u64 150]]).run Tryd.prog w = .ok (.iface 97 (.agg #[.pointer (some ⟨7, 59, none⟩)])) w := by kernel_rfl
theorem rl_kindP_code (w : World) : ((ReflectliteType.abiMethod fun t => (fun a : Nat => Value.int IntKind.u8 (a : Int)) <$> Rtype.kind t) #[.pointer (some ⟨7, 59, none⟩)]).run Tryd.prog w = .ok (.int .u8 22) w := by kernel_rfl
theorem rl_kindE_code (w : World) : ((ReflectliteType.abiMethod fun t => (fun a : Nat => Value.int IntKind.u8 (a : Int)) <$> Rtype.kind t) #[.pointer (some ⟨7, 34, none⟩)]).run Tryd.prog w = .ok (.int .u8 2) w := by kernel_rfl
theorem rl_elem_code (w : World) : (ReflectliteType.method ReflectliteType.elem #[.agg #[.pointer (some ⟨7, 59, none⟩)]]).run Tryd.prog w = .ok (.iface 97 (.agg #[.pointer (some ⟨7, 34, none⟩)])) w := by kernel_rfl
theorem rl_implements_code (w : World) : (ReflectliteType.relation "Implements" ReflectliteType.implements_ #[.agg #[.pointer (some ⟨7, 34, none⟩)], .iface 97 (.agg #[.pointer (some ⟨7, 28, none⟩)])]).run Tryd.prog w = .ok (.bool true) w := by kernel_rfl
theorem rl_valueOfE_code (n : Int) (w : World) : (ReflectliteValue.unpack (.iface 34 (.int .i64 n))).run Tryd.prog w = .ok (.agg #[.pointer (some ⟨7, 34, none⟩), .pointer (some ⟨w.heap.size, 0, none⟩), .int .u64 130]) (w.alloc (.cells #[.int .i64 n] 34)) := by kernel_rfl
theorem rl_partsP_code (a : Addr) (w : World) : (ReflectliteValue.parts (.agg #[.pointer (some ⟨7, 59, none⟩), .pointer (some a), .int .u64 150])).run Tryd.prog w = .ok (some (59, a, 150)) w := by kernel_rfl
theorem rl_elemOf_code (w : World) : (Rtype.elem? 59).run Tryd.prog w = .ok (some 34) w := by kernel_rfl
theorem rl_mk_code (p : Addr) (w : World) : (ReflectliteValue.mk 34 p ReflectliteValue.flagAddr).run Tryd.prog w = .ok (.agg #[.pointer (some ⟨7, 34, none⟩), .pointer (some p), .int .u64 386]) w := by kernel_rfl
theorem rl_partsA_code (a : Addr) (w : World) : (ReflectliteValue.parts (.agg #[.pointer (some ⟨7, 34, none⟩), .pointer (some a), .int .u64 386])).run Tryd.prog w = .ok (some (34, a, 386)) w := by kernel_rfl
theorem rl_partsE_code (a : Addr) (w : World) : (ReflectliteValue.parts (.agg #[.pointer (some ⟨7, 34, none⟩), .pointer (some a), .int .u64 130])).run Tryd.prog w = .ok (some (34, a, 130)) w := by kernel_rfl
theorem rl_direct_code (w : World) : (Rtype.directlyAssignable 34 34).run Tryd.prog w = .ok true w := by kernel_rfl
theorem rl_assign_code_code (w : World) : (ReflectliteType.relation "AssignableTo" ReflectliteType.assignableTo #[.agg #[.pointer (some ⟨7, 34, none⟩)], .iface 97 (.agg #[.pointer (some ⟨7, 34, none⟩)])]).run Tryd.prog w = .ok (.bool true) w := by kernel_rfl
theorem rl_assign_at__code (w : World) : (ReflectliteType.relation "AssignableTo" ReflectliteType.assignableTo #[.agg #[.pointer (some ⟨7, 111, none⟩)], .iface 97 (.agg #[.pointer (some ⟨7, 34, none⟩)])]).run Tryd.prog w = .ok (.bool false) w := by kernel_rfl
theorem rl_valueOfP_at_ (t : Addr) (w : World) : (ReflectliteValue.unpack (.iface 112 (.pointer (some t)))).run Tryd.prog w = .ok (.agg #[.pointer (some ⟨7, 112, none⟩), .pointer (some ⟨w.heap.size, 0, none⟩), .int .u64 150]) (w.alloc (.cells #[.pointer (some t)] 112)) := by kernel_rfl
theorem rl_type_at_ (a : Addr) (w : World) : (ReflectliteValue.methodAny (ReflectliteValue.valueError "reflectlite.Value.Type" 0) (fun t _ _ _ => ReflectliteType.toType t) #[.agg #[.pointer (some ⟨7, 112, none⟩), .pointer (some a), .int .u64 150]]).run Tryd.prog w = .ok (.iface 97 (.agg #[.pointer (some ⟨7, 112, none⟩)])) w := by kernel_rfl
theorem rl_kindP_at_ (w : World) : ((ReflectliteType.abiMethod fun t => (fun a : Nat => Value.int IntKind.u8 (a : Int)) <$> Rtype.kind t) #[.pointer (some ⟨7, 112, none⟩)]).run Tryd.prog w = .ok (.int .u8 22) w := by kernel_rfl
theorem rl_kindE_at_ (w : World) : ((ReflectliteType.abiMethod fun t => (fun a : Nat => Value.int IntKind.u8 (a : Int)) <$> Rtype.kind t) #[.pointer (some ⟨7, 111, none⟩)]).run Tryd.prog w = .ok (.int .u8 25) w := by kernel_rfl
theorem rl_elem_at_ (w : World) : (ReflectliteType.method ReflectliteType.elem #[.agg #[.pointer (some ⟨7, 112, none⟩)]]).run Tryd.prog w = .ok (.iface 97 (.agg #[.pointer (some ⟨7, 111, none⟩)])) w := by kernel_rfl
theorem rl_implements_at_ (w : World) : (ReflectliteType.relation "Implements" ReflectliteType.implements_ #[.agg #[.pointer (some ⟨7, 111, none⟩)], .iface 97 (.agg #[.pointer (some ⟨7, 28, none⟩)])]).run Tryd.prog w = .ok (.bool true) w := by kernel_rfl
theorem rl_valueOfE_at_ (n : Int) (v : Value) (w : World) : (ReflectliteValue.unpack (.iface 111 (.agg #[.int .i64 n, v]))).run Tryd.prog w = .ok (.agg #[.pointer (some ⟨7, 111, none⟩), .pointer (some ⟨w.heap.size, 0, none⟩), .int .u64 153]) (w.alloc (.cells #[.int .i64 n, v] 111)) := by kernel_rfl
theorem rl_partsP_at_ (a : Addr) (w : World) : (ReflectliteValue.parts (.agg #[.pointer (some ⟨7, 112, none⟩), .pointer (some a), .int .u64 150])).run Tryd.prog w = .ok (some (112, a, 150)) w := by kernel_rfl
theorem rl_elemOf_at_ (w : World) : (Rtype.elem? 112).run Tryd.prog w = .ok (some 111) w := by kernel_rfl
theorem rl_mk_at_ (p : Addr) (w : World) : (ReflectliteValue.mk 111 p ReflectliteValue.flagAddr).run Tryd.prog w = .ok (.agg #[.pointer (some ⟨7, 111, none⟩), .pointer (some p), .int .u64 409]) w := by kernel_rfl
theorem rl_partsA_at_ (a : Addr) (w : World) : (ReflectliteValue.parts (.agg #[.pointer (some ⟨7, 111, none⟩), .pointer (some a), .int .u64 409])).run Tryd.prog w = .ok (some (111, a, 409)) w := by kernel_rfl
theorem rl_partsE_at_ (a : Addr) (w : World) : (ReflectliteValue.parts (.agg #[.pointer (some ⟨7, 111, none⟩), .pointer (some a), .int .u64 153])).run Tryd.prog w = .ok (some (111, a, 153)) w := by kernel_rfl
theorem rl_direct_at_ (w : World) : (Rtype.directlyAssignable 111 111).run Tryd.prog w = .ok true w := by kernel_rfl
theorem rl_assign_code_at_ (w : World) : (ReflectliteType.relation "AssignableTo" ReflectliteType.assignableTo #[.agg #[.pointer (some ⟨7, 34, none⟩)], .iface 97 (.agg #[.pointer (some ⟨7, 111, none⟩)])]).run Tryd.prog w = .ok (.bool false) w := by kernel_rfl
theorem rl_assign_at__at_ (w : World) : (ReflectliteType.relation "AssignableTo" ReflectliteType.assignableTo #[.agg #[.pointer (some ⟨7, 111, none⟩)], .iface 97 (.agg #[.pointer (some ⟨7, 111, none⟩)])]).run Tryd.prog w = .ok (.bool true) w := by kernel_rfl
theorem rl_typeOf_code (v : Value) (w : World) : (ReflectliteType.typeOf #[.iface 34 v]).run Tryd.prog w = .ok (.iface 97 (.agg #[.pointer (some ⟨7, 34, none⟩)])) w := by kernel_rfl
theorem rl_typeOf_at_ (v : Value) (w : World) : (ReflectliteType.typeOf #[.iface 111 v]).run Tryd.prog w = .ok (.iface 97 (.agg #[.pointer (some ⟨7, 111, none⟩)])) w := by kernel_rfl
theorem ta_as_code (v : Value) (w : World) : (Instr.typeAssert (.iface 34 v) 28 102 true).run Tryd.prog w = .ok (.tuple #[.nilIface, .bool false]) w := run_typeAssert_lacksB Tryd.underlying102 (by kernel_rfl) (by kernel_rfl) v 28 w
theorem ta_un_code (v : Value) (w : World) : (Instr.typeAssert (.iface 34 v) 28 105 true).run Tryd.prog w = .ok (.tuple #[.nilIface, .bool false]) w := run_typeAssert_lacksB Tryd.underlying105 (by kernel_rfl) (by kernel_rfl) v 28 w
theorem ta_us_code (v : Value) (w : World) : (Instr.typeAssert (.iface 34 v) 28 107 true).run Tryd.prog w = .ok (.tuple #[.nilIface, .bool false]) w := run_typeAssert_lacksB Tryd.underlying107 (by kernel_rfl) (by kernel_rfl) v 28 w
theorem ta_as_at_ (v : Value) (w : World) : (Instr.typeAssert (.iface 111 v) 28 102 true).run Tryd.prog w = .ok (.tuple #[.nilIface, .bool false]) w := run_typeAssert_lacksB Tryd.underlying102 (by kernel_rfl) (by kernel_rfl) v 28 w
theorem ta_un_at_ (v : Value) (w : World) : (Instr.typeAssert (.iface 111 v) 28 105 true).run Tryd.prog w = .ok (.tuple #[.iface 111 v, .bool true]) w := run_typeAssert_hasB Tryd.underlying105 (by kernel_rfl) v 28 w
theorem rl_unwrap_at_ (v : Value) (w : World) : (Go.method 267 111 v "Unwrap").run Tryd.prog w = .ok (108, v) w := by kernel_rfl
end Go.Proofs.YtbadmehadbmohaaDoor
