/- The program's errors as a Lean type, and what errors.As finds in one at each of the three targets (a number, a place, an index), by contracts. -/
import Derived.Test.YtmooibnedokllaaGreatDoorBase
import Derived.WalkKit
import Derived.LaidEql
import Derived.Stop.Asserts
import Derived.RowKitTokens
import Derived.Deep.LoopGhost
import Derived.Handy
import Derived.Lib.Hide
namespace Go.Proofs.YtmooibnedokllaaGreatDoor
open Go.RowKit Go.Extern.Stop Go.Stop Go.Extern

/-- An error of the program. -/
inductive Er where
  | code (n : Int)
  | at_ (p : Int) (e : Er)
  | in_ (i : Int) (e : Er)
/-- How it lies in an interface value. -/
def Er.enc : Er → Value
  | .code n => .iface 38 (.int .i64 n)
  | .at_ p e => .iface 91 (.agg #[.int .i64 p, e.enc])
  | .in_ i e => .iface 93 (.agg #[.int .i64 i, e.enc])
/-- How deep it is. -/
def Er.size : Er → Nat
  | .code _ => 0
  | .at_ _ e | .in_ _ e => e.size + 1
/-- The number in it. -/
def Er.code? : Er → Option Int
  | .code n => some n
  | .at_ _ e | .in_ _ e => e.code?
/-- The place in it, and what stands there. -/
def Er.at? : Er → Option (Int × Er)
  | .code _ => none
  | .at_ p e => some (p, e)
  | .in_ _ e => e.at?
/-- The index in it, and what is there. -/
def Er.in? : Er → Option (Int × Er)
  | .code _ => none
  | .at_ _ e => e.in?
  | .in_ i e => some (i, e)
/-- An error or none. -/
def encE : Option Er → Value
  | none => .nilIface
  | some e => e.enc
theorem Er.enc_one (e : Er) : e.enc.oneCell' = true := by cases e <;> rfl
theorem encE_one (e : Option Er) : (encE e).oneCell' = true := by cases e with | none => rfl | some e => exact e.enc_one
theorem Er.enc_iface (e : Er) : ∃ t v, e.enc = .iface t v := by cases e <;> exact ⟨_, _, rfl⟩
theorem Er.eql_nil (e : Er) (w : World) : (binOp .eql 25 e.enc .nilIface).run Tryz.prog w = .ok (.bool false) w := by
  obtain ⟨t, v, h⟩ := e.enc_iface
  rw [h]
  exact run_eql_held_nil w 25 t v (by kernel_rfl)
theorem Er.neq_nil (e : Er) (w : World) : (binOp .neq 25 e.enc .nilIface).run Tryz.prog w = .ok (.bool true) w := by
  obtain ⟨t, v, h⟩ := e.enc_iface
  rw [h]
  exact run_neq_held_nil w 25 t v (by kernel_rfl)

/-! ### Closed facts on the model's entries for internal/reflectlite, at this program's types -/
theorem rl_methodKind (h : Value) (w : World) : (Go.method 492 233 (.agg #[h]) "Kind").run Tryz.prog w = .ok (210, h) w := by kernel_rfl
theorem rl_methodElem (h : Value) (w : World) : (Go.method 492 233 (.agg #[h]) "Elem").run Tryz.prog w = .ok (225, .agg #[h]) w := by kernel_rfl
theorem rl_methodImplements (h : Value) (w : World) : (Go.method 492 233 (.agg #[h]) "Implements").run Tryz.prog w = .ok (226, .agg #[h]) w := by kernel_rfl
theorem rl_methodAssignableTo (h : Value) (w : World) : (Go.method 492 233 (.agg #[h]) "AssignableTo").run Tryz.prog w = .ok (223, .agg #[h]) w := by kernel_rfl
theorem rl_valueOfP_code (t : Addr) (w : World) : (ReflectliteValue.unpack (.iface 88 (.pointer (some t)))).run Tryz.prog w = .ok (.agg #[.pointer (some ⟨10, 88, none⟩), .pointer (some ⟨w.heap.size, 0, none⟩), .int .u64 150]) (w.alloc (.cells #[.pointer (some t)] 88)) := by kernel_rfl
theorem rl_type_code (a : Addr) (w : World) : (ReflectliteValue.methodAny (ReflectliteValue.valueError "reflectlite.Value.Type" 0) (fun t _ _ _ => ReflectliteType.toType t) #[.agg #[.pointer (some ⟨10, 88, none⟩), .pointer (some a), .int .u64 150]]).run Tryz.prog w = .ok (.iface 233 (.agg #[.pointer (some ⟨10, 88, none⟩)])) w := by kernel_rfl
theorem rl_kindP_code (w : World) : ((ReflectliteType.abiMethod fun t => (fun a : Nat => Value.int IntKind.u8 (a : Int)) <$> Rtype.kind t) #[.pointer (some ⟨10, 88, none⟩)]).run Tryz.prog w = .ok (.int .u8 22) w := by kernel_rfl
theorem rl_kindE_code (w : World) : ((ReflectliteType.abiMethod fun t => (fun a : Nat => Value.int IntKind.u8 (a : Int)) <$> Rtype.kind t) #[.pointer (some ⟨10, 38, none⟩)]).run Tryz.prog w = .ok (.int .u8 2) w := by kernel_rfl
theorem rl_elem_code (w : World) : (ReflectliteType.method ReflectliteType.elem #[.agg #[.pointer (some ⟨10, 88, none⟩)]]).run Tryz.prog w = .ok (.iface 233 (.agg #[.pointer (some ⟨10, 38, none⟩)])) w := by kernel_rfl
theorem rl_implements_code (w : World) : (ReflectliteType.relation "Implements" ReflectliteType.implements_ #[.agg #[.pointer (some ⟨10, 38, none⟩)], .iface 233 (.agg #[.pointer (some ⟨10, 25, none⟩)])]).run Tryz.prog w = .ok (.bool true) w := by kernel_rfl
theorem rl_valueOfE_code (n : Int) (w : World) : (ReflectliteValue.unpack (.iface 38 (.int .i64 n))).run Tryz.prog w = .ok (.agg #[.pointer (some ⟨10, 38, none⟩), .pointer (some ⟨w.heap.size, 0, none⟩), .int .u64 130]) (w.alloc (.cells #[.int .i64 n] 38)) := by kernel_rfl
theorem rl_partsP_code (a : Addr) (w : World) : (ReflectliteValue.parts (.agg #[.pointer (some ⟨10, 88, none⟩), .pointer (some a), .int .u64 150])).run Tryz.prog w = .ok (some (88, a, 150)) w := by kernel_rfl
theorem rl_elemOf_code (w : World) : (Rtype.elem? 88).run Tryz.prog w = .ok (some 38) w := by kernel_rfl
theorem rl_mk_code (p : Addr) (w : World) : (ReflectliteValue.mk 38 p ReflectliteValue.flagAddr).run Tryz.prog w = .ok (.agg #[.pointer (some ⟨10, 38, none⟩), .pointer (some p), .int .u64 386]) w := by kernel_rfl
theorem rl_partsA_code (a : Addr) (w : World) : (ReflectliteValue.parts (.agg #[.pointer (some ⟨10, 38, none⟩), .pointer (some a), .int .u64 386])).run Tryz.prog w = .ok (some (38, a, 386)) w := by kernel_rfl
theorem rl_partsE_code (a : Addr) (w : World) : (ReflectliteValue.parts (.agg #[.pointer (some ⟨10, 38, none⟩), .pointer (some a), .int .u64 130])).run Tryz.prog w = .ok (some (38, a, 130)) w := by kernel_rfl
theorem rl_direct_code (w : World) : (Rtype.directlyAssignable 38 38).run Tryz.prog w = .ok true w := by kernel_rfl
theorem rl_assign_code_code (w : World) : (ReflectliteType.relation "AssignableTo" ReflectliteType.assignableTo #[.agg #[.pointer (some ⟨10, 38, none⟩)], .iface 233 (.agg #[.pointer (some ⟨10, 38, none⟩)])]).run Tryz.prog w = .ok (.bool true) w := by kernel_rfl
theorem rl_assign_at__code (w : World) : (ReflectliteType.relation "AssignableTo" ReflectliteType.assignableTo #[.agg #[.pointer (some ⟨10, 91, none⟩)], .iface 233 (.agg #[.pointer (some ⟨10, 38, none⟩)])]).run Tryz.prog w = .ok (.bool false) w := by kernel_rfl
theorem rl_assign_in__code (w : World) : (ReflectliteType.relation "AssignableTo" ReflectliteType.assignableTo #[.agg #[.pointer (some ⟨10, 93, none⟩)], .iface 233 (.agg #[.pointer (some ⟨10, 38, none⟩)])]).run Tryz.prog w = .ok (.bool false) w := by kernel_rfl
theorem rl_valueOfP_at_ (t : Addr) (w : World) : (ReflectliteValue.unpack (.iface 94 (.pointer (some t)))).run Tryz.prog w = .ok (.agg #[.pointer (some ⟨10, 94, none⟩), .pointer (some ⟨w.heap.size, 0, none⟩), .int .u64 150]) (w.alloc (.cells #[.pointer (some t)] 94)) := by kernel_rfl
theorem rl_type_at_ (a : Addr) (w : World) : (ReflectliteValue.methodAny (ReflectliteValue.valueError "reflectlite.Value.Type" 0) (fun t _ _ _ => ReflectliteType.toType t) #[.agg #[.pointer (some ⟨10, 94, none⟩), .pointer (some a), .int .u64 150]]).run Tryz.prog w = .ok (.iface 233 (.agg #[.pointer (some ⟨10, 94, none⟩)])) w := by kernel_rfl
theorem rl_kindP_at_ (w : World) : ((ReflectliteType.abiMethod fun t => (fun a : Nat => Value.int IntKind.u8 (a : Int)) <$> Rtype.kind t) #[.pointer (some ⟨10, 94, none⟩)]).run Tryz.prog w = .ok (.int .u8 22) w := by kernel_rfl
theorem rl_kindE_at_ (w : World) : ((ReflectliteType.abiMethod fun t => (fun a : Nat => Value.int IntKind.u8 (a : Int)) <$> Rtype.kind t) #[.pointer (some ⟨10, 91, none⟩)]).run Tryz.prog w = .ok (.int .u8 25) w := by kernel_rfl
theorem rl_elem_at_ (w : World) : (ReflectliteType.method ReflectliteType.elem #[.agg #[.pointer (some ⟨10, 94, none⟩)]]).run Tryz.prog w = .ok (.iface 233 (.agg #[.pointer (some ⟨10, 91, none⟩)])) w := by kernel_rfl
theorem rl_implements_at_ (w : World) : (ReflectliteType.relation "Implements" ReflectliteType.implements_ #[.agg #[.pointer (some ⟨10, 91, none⟩)], .iface 233 (.agg #[.pointer (some ⟨10, 25, none⟩)])]).run Tryz.prog w = .ok (.bool true) w := by kernel_rfl
theorem rl_valueOfE_at_ (n : Int) (v : Value) (w : World) : (ReflectliteValue.unpack (.iface 91 (.agg #[.int .i64 n, v]))).run Tryz.prog w = .ok (.agg #[.pointer (some ⟨10, 91, none⟩), .pointer (some ⟨w.heap.size, 0, none⟩), .int .u64 153]) (w.alloc (.cells #[.int .i64 n, v] 91)) := by kernel_rfl
theorem rl_partsP_at_ (a : Addr) (w : World) : (ReflectliteValue.parts (.agg #[.pointer (some ⟨10, 94, none⟩), .pointer (some a), .int .u64 150])).run Tryz.prog w = .ok (some (94, a, 150)) w := by kernel_rfl
theorem rl_elemOf_at_ (w : World) : (Rtype.elem? 94).run Tryz.prog w = .ok (some 91) w := by kernel_rfl
theorem rl_mk_at_ (p : Addr) (w : World) : (ReflectliteValue.mk 91 p ReflectliteValue.flagAddr).run Tryz.prog w = .ok (.agg #[.pointer (some ⟨10, 91, none⟩), .pointer (some p), .int .u64 409]) w := by kernel_rfl
theorem rl_partsA_at_ (a : Addr) (w : World) : (ReflectliteValue.parts (.agg #[.pointer (some ⟨10, 91, none⟩), .pointer (some a), .int .u64 409])).run Tryz.prog w = .ok (some (91, a, 409)) w := by kernel_rfl
theorem rl_partsE_at_ (a : Addr) (w : World) : (ReflectliteValue.parts (.agg #[.pointer (some ⟨10, 91, none⟩), .pointer (some a), .int .u64 153])).run Tryz.prog w = .ok (some (91, a, 153)) w := by kernel_rfl
theorem rl_direct_at_ (w : World) : (Rtype.directlyAssignable 91 91).run Tryz.prog w = .ok true w := by kernel_rfl
theorem rl_assign_code_at_ (w : World) : (ReflectliteType.relation "AssignableTo" ReflectliteType.assignableTo #[.agg #[.pointer (some ⟨10, 38, none⟩)], .iface 233 (.agg #[.pointer (some ⟨10, 91, none⟩)])]).run Tryz.prog w = .ok (.bool false) w := by kernel_rfl
theorem rl_assign_at__at_ (w : World) : (ReflectliteType.relation "AssignableTo" ReflectliteType.assignableTo #[.agg #[.pointer (some ⟨10, 91, none⟩)], .iface 233 (.agg #[.pointer (some ⟨10, 91, none⟩)])]).run Tryz.prog w = .ok (.bool true) w := by kernel_rfl
theorem rl_assign_in__at_ (w : World) : (ReflectliteType.relation "AssignableTo" ReflectliteType.assignableTo #[.agg #[.pointer (some ⟨10, 93, none⟩)], .iface 233 (.agg #[.pointer (some ⟨10, 91, none⟩)])]).run Tryz.prog w = .ok (.bool false) w := by kernel_rfl
theorem rl_valueOfP_in_ (t : Addr) (w : World) : (ReflectliteValue.unpack (.iface 95 (.pointer (some t)))).run Tryz.prog w = .ok (.agg #[.pointer (some ⟨10, 95, none⟩), .pointer (some ⟨w.heap.size, 0, none⟩), .int .u64 150]) (w.alloc (.cells #[.pointer (some t)] 95)) := by kernel_rfl
theorem rl_type_in_ (a : Addr) (w : World) : (ReflectliteValue.methodAny (ReflectliteValue.valueError "reflectlite.Value.Type" 0) (fun t _ _ _ => ReflectliteType.toType t) #[.agg #[.pointer (some ⟨10, 95, none⟩), .pointer (some a), .int .u64 150]]).run Tryz.prog w = .ok (.iface 233 (.agg #[.pointer (some ⟨10, 95, none⟩)])) w := by kernel_rfl
theorem rl_kindP_in_ (w : World) : ((ReflectliteType.abiMethod fun t => (fun a : Nat => Value.int IntKind.u8 (a : Int)) <$> Rtype.kind t) #[.pointer (some ⟨10, 95, none⟩)]).run Tryz.prog w = .ok (.int .u8 22) w := by kernel_rfl
theorem rl_kindE_in_ (w : World) : ((ReflectliteType.abiMethod fun t => (fun a : Nat => Value.int IntKind.u8 (a : Int)) <$> Rtype.kind t) #[.pointer (some ⟨10, 93, none⟩)]).run Tryz.prog w = .ok (.int .u8 25) w := by kernel_rfl
theorem rl_elem_in_ (w : World) : (ReflectliteType.method ReflectliteType.elem #[.agg #[.pointer (some ⟨10, 95, none⟩)]]).run Tryz.prog w = .ok (.iface 233 (.agg #[.pointer (some ⟨10, 93, none⟩)])) w := by kernel_rfl
theorem rl_implements_in_ (w : World) : (ReflectliteType.relation "Implements" ReflectliteType.implements_ #[.agg #[.pointer (some ⟨10, 93, none⟩)], .iface 233 (.agg #[.pointer (some ⟨10, 25, none⟩)])]).run Tryz.prog w = .ok (.bool true) w := by kernel_rfl
theorem rl_valueOfE_in_ (n : Int) (v : Value) (w : World) : (ReflectliteValue.unpack (.iface 93 (.agg #[.int .i64 n, v]))).run Tryz.prog w = .ok (.agg #[.pointer (some ⟨10, 93, none⟩), .pointer (some ⟨w.heap.size, 0, none⟩), .int .u64 153]) (w.alloc (.cells #[.int .i64 n, v] 93)) := by kernel_rfl
theorem rl_partsP_in_ (a : Addr) (w : World) : (ReflectliteValue.parts (.agg #[.pointer (some ⟨10, 95, none⟩), .pointer (some a), .int .u64 150])).run Tryz.prog w = .ok (some (95, a, 150)) w := by kernel_rfl
theorem rl_elemOf_in_ (w : World) : (Rtype.elem? 95).run Tryz.prog w = .ok (some 93) w := by kernel_rfl
theorem rl_mk_in_ (p : Addr) (w : World) : (ReflectliteValue.mk 93 p ReflectliteValue.flagAddr).run Tryz.prog w = .ok (.agg #[.pointer (some ⟨10, 93, none⟩), .pointer (some p), .int .u64 409]) w := by kernel_rfl
theorem rl_partsA_in_ (a : Addr) (w : World) : (ReflectliteValue.parts (.agg #[.pointer (some ⟨10, 93, none⟩), .pointer (some a), .int .u64 409])).run Tryz.prog w = .ok (some (93, a, 409)) w := by kernel_rfl
theorem rl_partsE_in_ (a : Addr) (w : World) : (ReflectliteValue.parts (.agg #[.pointer (some ⟨10, 93, none⟩), .pointer (some a), .int .u64 153])).run Tryz.prog w = .ok (some (93, a, 153)) w := by kernel_rfl
theorem rl_direct_in_ (w : World) : (Rtype.directlyAssignable 93 93).run Tryz.prog w = .ok true w := by kernel_rfl
theorem rl_assign_code_in_ (w : World) : (ReflectliteType.relation "AssignableTo" ReflectliteType.assignableTo #[.agg #[.pointer (some ⟨10, 38, none⟩)], .iface 233 (.agg #[.pointer (some ⟨10, 93, none⟩)])]).run Tryz.prog w = .ok (.bool false) w := by kernel_rfl
theorem rl_assign_at__in_ (w : World) : (ReflectliteType.relation "AssignableTo" ReflectliteType.assignableTo #[.agg #[.pointer (some ⟨10, 91, none⟩)], .iface 233 (.agg #[.pointer (some ⟨10, 93, none⟩)])]).run Tryz.prog w = .ok (.bool false) w := by kernel_rfl
theorem rl_assign_in__in_ (w : World) : (ReflectliteType.relation "AssignableTo" ReflectliteType.assignableTo #[.agg #[.pointer (some ⟨10, 93, none⟩)], .iface 233 (.agg #[.pointer (some ⟨10, 93, none⟩)])]).run Tryz.prog w = .ok (.bool true) w := by kernel_rfl
theorem rl_typeOf_code (v : Value) (w : World) : (ReflectliteType.typeOf #[.iface 38 v]).run Tryz.prog w = .ok (.iface 233 (.agg #[.pointer (some ⟨10, 38, none⟩)])) w := by kernel_rfl
theorem rl_typeOf_at_ (v : Value) (w : World) : (ReflectliteType.typeOf #[.iface 91 v]).run Tryz.prog w = .ok (.iface 233 (.agg #[.pointer (some ⟨10, 91, none⟩)])) w := by kernel_rfl
theorem rl_typeOf_in_ (v : Value) (w : World) : (ReflectliteType.typeOf #[.iface 93 v]).run Tryz.prog w = .ok (.iface 233 (.agg #[.pointer (some ⟨10, 93, none⟩)])) w := by kernel_rfl
theorem ta_as_code (v : Value) (w : World) : (Instr.typeAssert (.iface 38 v) 25 238 true).run Tryz.prog w = .ok (.tuple #[.nilIface, .bool false]) w := run_typeAssert_lacksB Tryz.underlying238 (by kernel_rfl) (by kernel_rfl) v 25 w
theorem ta_un_code (v : Value) (w : World) : (Instr.typeAssert (.iface 38 v) 25 241 true).run Tryz.prog w = .ok (.tuple #[.nilIface, .bool false]) w := run_typeAssert_lacksB Tryz.underlying241 (by kernel_rfl) (by kernel_rfl) v 25 w
theorem ta_us_code (v : Value) (w : World) : (Instr.typeAssert (.iface 38 v) 25 243 true).run Tryz.prog w = .ok (.tuple #[.nilIface, .bool false]) w := run_typeAssert_lacksB Tryz.underlying243 (by kernel_rfl) (by kernel_rfl) v 25 w
theorem ta_as_at_ (v : Value) (w : World) : (Instr.typeAssert (.iface 91 v) 25 238 true).run Tryz.prog w = .ok (.tuple #[.nilIface, .bool false]) w := run_typeAssert_lacksB Tryz.underlying238 (by kernel_rfl) (by kernel_rfl) v 25 w
theorem ta_un_at_ (v : Value) (w : World) : (Instr.typeAssert (.iface 91 v) 25 241 true).run Tryz.prog w = .ok (.tuple #[.iface 91 v, .bool true]) w := run_typeAssert_hasB Tryz.underlying241 (by kernel_rfl) v 25 w
theorem ta_as_in_ (v : Value) (w : World) : (Instr.typeAssert (.iface 93 v) 25 238 true).run Tryz.prog w = .ok (.tuple #[.nilIface, .bool false]) w := run_typeAssert_lacksB Tryz.underlying238 (by kernel_rfl) (by kernel_rfl) v 25 w
theorem ta_un_in_ (v : Value) (w : World) : (Instr.typeAssert (.iface 93 v) 25 241 true).run Tryz.prog w = .ok (.tuple #[.iface 93 v, .bool true]) w := run_typeAssert_hasB Tryz.underlying241 (by kernel_rfl) v 25 w
theorem rl_unwrap_at_ (v : Value) (w : World) : (Go.method 492 91 v "Unwrap").run Tryz.prog w = .ok (215, v) w := by kernel_rfl
theorem rl_unwrap_in_ (v : Value) (w : World) : (Go.method 492 93 v "Unwrap").run Tryz.prog w = .ok (217, v) w := by kernel_rfl
end Go.Proofs.YtmooibnedokllaaGreatDoor
