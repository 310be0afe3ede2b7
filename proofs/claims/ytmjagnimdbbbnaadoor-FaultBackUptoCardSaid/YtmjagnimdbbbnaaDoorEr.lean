/- The program's errors as a Lean type, and what errors.As finds in one at each of the three targets (a number, a place, an index), by contracts. -/
import Derived.Test.YtmjagnimdbbbnaaDoorBase
import Derived.WalkKit
import Derived.LaidEql
import Derived.Stop.Asserts
import Derived.RowKitTokens
import Derived.Deep.LoopGhost
import Derived.Handy
import Derived.Lib.Hide
namespace Go.Proofs.YtmjagnimdbbbnaaDoor
open Go.RowKit Go.Extern.Stop Go.Stop Go.Extern

/-- An error of the program. -/
inductive Er where
  | code (n : Int)
  | at_ (p : Int) (e : Er)
  | in_ (i : Int) (e : Er)
  | around (e : Er)
  | foreign (a : Addr)
/-- How it lies in an interface value. -/
def Er.enc : Er → Value
  | .code n => .iface 22 (.int .i64 n)
  | .at_ p e => .iface 63 (.agg #[.int .i64 p, e.enc])
  | .in_ i e => .iface 65 (.agg #[.int .i64 i, e.enc])
  | .around e => .iface 67 (.agg #[e.enc])
  | .foreign a => .iface 82 (.pointer (some a))
/-- How deep it is. -/
def Er.size : Er → Nat
  | .code _ => 0
  | .at_ _ e | .in_ _ e => e.size + 1
  | .around e => e.size + 1
  | .foreign _ => 0
/-- The number in it. -/
def Er.code? : Er → Option Int
  | .code n => some n
  | .at_ _ e | .in_ _ e => e.code?
  | .around e => e.code?
  | .foreign _ => none
/-- The place in it, and what stands there. -/
def Er.at? : Er → Option (Int × Er)
  | .code _ => none
  | .at_ p e => some (p, e)
  | .in_ _ e => e.at?
  | .around e => e.at?
  | .foreign _ => none
/-- The index in it, and what is there. -/
def Er.in? : Er → Option (Int × Er)
  | .code _ => none
  | .at_ _ e => e.in?
  | .in_ i e => some (i, e)
  | .around e => e.in?
  | .foreign _ => none
/-- An error or none. -/
def encE : Option Er → Value
  | none => .nilIface
  | some e => e.enc
theorem Er.enc_one (e : Er) : e.enc.oneCell' = true := by cases e <;> rfl
theorem encE_one (e : Option Er) : (encE e).oneCell' = true := by cases e with | none => rfl | some e => exact e.enc_one
theorem Er.enc_iface (e : Er) : ∃ t v, e.enc = .iface t v := by cases e <;> exact ⟨_, _, rfl⟩
theorem Er.eql_nil (e : Er) (w : World) : (binOp .eql 27 e.enc .nilIface).run Tryd.prog w = .ok (.bool false) w := by
  obtain ⟨t, v, h⟩ := e.enc_iface
  rw [h]
  exact run_eql_held_nil w 27 t v (by kernel_rfl)
theorem Er.neq_nil (e : Er) (w : World) : (binOp .neq 27 e.enc .nilIface).run Tryd.prog w = .ok (.bool true) w := by
  obtain ⟨t, v, h⟩ := e.enc_iface
  rw [h]
  exact run_neq_held_nil w 27 t v (by kernel_rfl)

/-! ### Closed facts on the model's entries for internal/reflectlite, at this program's types -/
theorem rl_methodKind (h : Value) (w : World) : (Go.method 282 104 (.agg #[h]) "Kind").run Tryd.prog w = .ok (97, h) w := by kernel_rfl
theorem rl_methodElem (h : Value) (w : World) : (Go.method 282 104 (.agg #[h]) "Elem").run Tryd.prog w = .ok (114, .agg #[h]) w := by kernel_rfl
theorem rl_methodImplements (h : Value) (w : World) : (Go.method 282 104 (.agg #[h]) "Implements").run Tryd.prog w = .ok (115, .agg #[h]) w := by kernel_rfl
theorem rl_methodAssignableTo (h : Value) (w : World) : (Go.method 282 104 (.agg #[h]) "AssignableTo").run Tryd.prog w = .ok (112, .agg #[h]) w := by kernel_rfl
theorem rl_valueOfP_code (t : Addr) (w : World) : (ReflectliteValue.unpack (.iface 71 (.pointer (some t)))).run Tryd.prog w = .ok (.agg #[.pointer (some ⟨7, 71, none⟩), .pointer (some ⟨w.heap.size, 0, none⟩), .int .u64 150]) (w.alloc (.cells #[.pointer (some t)] 71)) := by kernel_rfl
theorem rl_type_code (a : Addr) (w : World) : (ReflectliteValue.methodAny (ReflectliteValue.valueError "reflectlite.Value.Type" 0) (fun t _ _ _ => ReflectliteType.toType t) #[.agg #[.pointer (some ⟨7, 71, none⟩), .pointer (some a), .int .u64 150]]).run Tryd.prog w = .ok (.iface 104 (.agg #[.pointer (some ⟨7, 71, none⟩)])) w := by kernel_rfl
theorem rl_kindP_code (w : World) : ((ReflectliteType.abiMethod fun t => (fun a : Nat => Value.int IntKind.u8 (a : Int)) <$> Rtype.kind t) #[.pointer (some ⟨7, 71, none⟩)]).run Tryd.prog w = .ok (.int .u8 22) w := by kernel_rfl
theorem rl_kindE_code (w : World) : ((ReflectliteType.abiMethod fun t => (fun a : Nat => Value.int IntKind.u8 (a : Int)) <$> Rtype.kind t) #[.pointer (some ⟨7, 22, none⟩)]).run Tryd.prog w = .ok (.int .u8 2) w := by kernel_rfl
theorem rl_elem_code (w : World) : (ReflectliteType.method ReflectliteType.elem #[.agg #[.pointer (some ⟨7, 71, none⟩)]]).run Tryd.prog w = .ok (.iface 104 (.agg #[.pointer (some ⟨7, 22, none⟩)])) w := by kernel_rfl
theorem rl_implements_code (w : World) : (ReflectliteType.relation "Implements" ReflectliteType.implements_ #[.agg #[.pointer (some ⟨7, 22, none⟩)], .iface 104 (.agg #[.pointer (some ⟨7, 27, none⟩)])]).run Tryd.prog w = .ok (.bool true) w := by kernel_rfl
theorem rl_valueOfE_code (n : Int) (w : World) : (ReflectliteValue.unpack (.iface 22 (.int .i64 n))).run Tryd.prog w = .ok (.agg #[.pointer (some ⟨7, 22, none⟩), .pointer (some ⟨w.heap.size, 0, none⟩), .int .u64 130]) (w.alloc (.cells #[.int .i64 n] 22)) := by kernel_rfl
theorem rl_partsP_code (a : Addr) (w : World) : (ReflectliteValue.parts (.agg #[.pointer (some ⟨7, 71, none⟩), .pointer (some a), .int .u64 150])).run Tryd.prog w = .ok (some (71, a, 150)) w := by kernel_rfl
theorem rl_elemOf_code (w : World) : (Rtype.elem? 71).run Tryd.prog w = .ok (some 22) w := by kernel_rfl
theorem rl_mk_code (p : Addr) (w : World) : (ReflectliteValue.mk 22 p ReflectliteValue.flagAddr).run Tryd.prog w = .ok (.agg #[.pointer (some ⟨7, 22, none⟩), .pointer (some p), .int .u64 386]) w := by kernel_rfl
theorem rl_partsA_code (a : Addr) (w : World) : (ReflectliteValue.parts (.agg #[.pointer (some ⟨7, 22, none⟩), .pointer (some a), .int .u64 386])).run Tryd.prog w = .ok (some (22, a, 386)) w := by kernel_rfl
theorem rl_partsE_code (a : Addr) (w : World) : (ReflectliteValue.parts (.agg #[.pointer (some ⟨7, 22, none⟩), .pointer (some a), .int .u64 130])).run Tryd.prog w = .ok (some (22, a, 130)) w := by kernel_rfl
theorem rl_direct_code (w : World) : (Rtype.directlyAssignable 22 22).run Tryd.prog w = .ok true w := by kernel_rfl
theorem rl_assign_code_code (w : World) : (ReflectliteType.relation "AssignableTo" ReflectliteType.assignableTo #[.agg #[.pointer (some ⟨7, 22, none⟩)], .iface 104 (.agg #[.pointer (some ⟨7, 22, none⟩)])]).run Tryd.prog w = .ok (.bool true) w := by kernel_rfl
theorem rl_assign_at__code (w : World) : (ReflectliteType.relation "AssignableTo" ReflectliteType.assignableTo #[.agg #[.pointer (some ⟨7, 63, none⟩)], .iface 104 (.agg #[.pointer (some ⟨7, 22, none⟩)])]).run Tryd.prog w = .ok (.bool false) w := by kernel_rfl
theorem rl_assign_in__code (w : World) : (ReflectliteType.relation "AssignableTo" ReflectliteType.assignableTo #[.agg #[.pointer (some ⟨7, 65, none⟩)], .iface 104 (.agg #[.pointer (some ⟨7, 22, none⟩)])]).run Tryd.prog w = .ok (.bool false) w := by kernel_rfl
theorem rl_assign_around_code (w : World) : (ReflectliteType.relation "AssignableTo" ReflectliteType.assignableTo #[.agg #[.pointer (some ⟨7, 67, none⟩)], .iface 104 (.agg #[.pointer (some ⟨7, 22, none⟩)])]).run Tryd.prog w = .ok (.bool false) w := by kernel_rfl
theorem rl_assign_foreign_code (w : World) : (ReflectliteType.relation "AssignableTo" ReflectliteType.assignableTo #[.agg #[.pointer (some ⟨7, 82, none⟩)], .iface 104 (.agg #[.pointer (some ⟨7, 22, none⟩)])]).run Tryd.prog w = .ok (.bool false) w := by kernel_rfl
theorem rl_valueOfP_at_ (t : Addr) (w : World) : (ReflectliteValue.unpack (.iface 69 (.pointer (some t)))).run Tryd.prog w = .ok (.agg #[.pointer (some ⟨7, 69, none⟩), .pointer (some ⟨w.heap.size, 0, none⟩), .int .u64 150]) (w.alloc (.cells #[.pointer (some t)] 69)) := by kernel_rfl
theorem rl_type_at_ (a : Addr) (w : World) : (ReflectliteValue.methodAny (ReflectliteValue.valueError "reflectlite.Value.Type" 0) (fun t _ _ _ => ReflectliteType.toType t) #[.agg #[.pointer (some ⟨7, 69, none⟩), .pointer (some a), .int .u64 150]]).run Tryd.prog w = .ok (.iface 104 (.agg #[.pointer (some ⟨7, 69, none⟩)])) w := by kernel_rfl
theorem rl_kindP_at_ (w : World) : ((ReflectliteType.abiMethod fun t => (fun a : Nat => Value.int IntKind.u8 (a : Int)) <$> Rtype.kind t) #[.pointer (some ⟨7, 69, none⟩)]).run Tryd.prog w = .ok (.int .u8 22) w := by kernel_rfl
theorem rl_kindE_at_ (w : World) : ((ReflectliteType.abiMethod fun t => (fun a : Nat => Value.int IntKind.u8 (a : Int)) <$> Rtype.kind t) #[.pointer (some ⟨7, 63, none⟩)]).run Tryd.prog w = .ok (.int .u8 25) w := by kernel_rfl
theorem rl_elem_at_ (w : World) : (ReflectliteType.method ReflectliteType.elem #[.agg #[.pointer (some ⟨7, 69, none⟩)]]).run Tryd.prog w = .ok (.iface 104 (.agg #[.pointer (some ⟨7, 63, none⟩)])) w := by kernel_rfl
theorem rl_implements_at_ (w : World) : (ReflectliteType.relation "Implements" ReflectliteType.implements_ #[.agg #[.pointer (some ⟨7, 63, none⟩)], .iface 104 (.agg #[.pointer (some ⟨7, 27, none⟩)])]).run Tryd.prog w = .ok (.bool true) w := by kernel_rfl
theorem rl_valueOfE_at_ (n : Int) (v : Value) (w : World) : (ReflectliteValue.unpack (.iface 63 (.agg #[.int .i64 n, v]))).run Tryd.prog w = .ok (.agg #[.pointer (some ⟨7, 63, none⟩), .pointer (some ⟨w.heap.size, 0, none⟩), .int .u64 153]) (w.alloc (.cells #[.int .i64 n, v] 63)) := by kernel_rfl
theorem rl_partsP_at_ (a : Addr) (w : World) : (ReflectliteValue.parts (.agg #[.pointer (some ⟨7, 69, none⟩), .pointer (some a), .int .u64 150])).run Tryd.prog w = .ok (some (69, a, 150)) w := by kernel_rfl
theorem rl_elemOf_at_ (w : World) : (Rtype.elem? 69).run Tryd.prog w = .ok (some 63) w := by kernel_rfl
theorem rl_mk_at_ (p : Addr) (w : World) : (ReflectliteValue.mk 63 p ReflectliteValue.flagAddr).run Tryd.prog w = .ok (.agg #[.pointer (some ⟨7, 63, none⟩), .pointer (some p), .int .u64 409]) w := by kernel_rfl
theorem rl_partsA_at_ (a : Addr) (w : World) : (ReflectliteValue.parts (.agg #[.pointer (some ⟨7, 63, none⟩), .pointer (some a), .int .u64 409])).run Tryd.prog w = .ok (some (63, a, 409)) w := by kernel_rfl
theorem rl_partsE_at_ (a : Addr) (w : World) : (ReflectliteValue.parts (.agg #[.pointer (some ⟨7, 63, none⟩), .pointer (some a), .int .u64 153])).run Tryd.prog w = .ok (some (63, a, 153)) w := by kernel_rfl
theorem rl_direct_at_ (w : World) : (Rtype.directlyAssignable 63 63).run Tryd.prog w = .ok true w := by kernel_rfl
theorem rl_assign_code_at_ (w : World) : (ReflectliteType.relation "AssignableTo" ReflectliteType.assignableTo #[.agg #[.pointer (some ⟨7, 22, none⟩)], .iface 104 (.agg #[.pointer (some ⟨7, 63, none⟩)])]).run Tryd.prog w = .ok (.bool false) w := by kernel_rfl
theorem rl_assign_at__at_ (w : World) : (ReflectliteType.relation "AssignableTo" ReflectliteType.assignableTo #[.agg #[.pointer (some ⟨7, 63, none⟩)], .iface 104 (.agg #[.pointer (some ⟨7, 63, none⟩)])]).run Tryd.prog w = .ok (.bool true) w := by kernel_rfl
theorem rl_assign_in__at_ (w : World) : (ReflectliteType.relation "AssignableTo" ReflectliteType.assignableTo #[.agg #[.pointer (some ⟨7, 65, none⟩)], .iface 104 (.agg #[.pointer (some ⟨7, 63, none⟩)])]).run Tryd.prog w = .ok (.bool false) w := by kernel_rfl
theorem rl_assign_around_at_ (w : World) : (ReflectliteType.relation "AssignableTo" ReflectliteType.assignableTo #[.agg #[.pointer (some ⟨7, 67, none⟩)], .iface 104 (.agg #[.pointer (some ⟨7, 63, none⟩)])]).run Tryd.prog w = .ok (.bool false) w := by kernel_rfl
theorem rl_assign_foreign_at_ (w : World) : (ReflectliteType.relation "AssignableTo" ReflectliteType.assignableTo #[.agg #[.pointer (some ⟨7, 82, none⟩)], .iface 104 (.agg #[.pointer (some ⟨7, 63, none⟩)])]).run Tryd.prog w = .ok (.bool false) w := by kernel_rfl
theorem rl_valueOfP_in_ (t : Addr) (w : World) : (ReflectliteValue.unpack (.iface 70 (.pointer (some t)))).run Tryd.prog w = .ok (.agg #[.pointer (some ⟨7, 70, none⟩), .pointer (some ⟨w.heap.size, 0, none⟩), .int .u64 150]) (w.alloc (.cells #[.pointer (some t)] 70)) := by kernel_rfl
theorem rl_type_in_ (a : Addr) (w : World) : (ReflectliteValue.methodAny (ReflectliteValue.valueError "reflectlite.Value.Type" 0) (fun t _ _ _ => ReflectliteType.toType t) #[.agg #[.pointer (some ⟨7, 70, none⟩), .pointer (some a), .int .u64 150]]).run Tryd.prog w = .ok (.iface 104 (.agg #[.pointer (some ⟨7, 70, none⟩)])) w := by kernel_rfl
theorem rl_kindP_in_ (w : World) : ((ReflectliteType.abiMethod fun t => (fun a : Nat => Value.int IntKind.u8 (a : Int)) <$> Rtype.kind t) #[.pointer (some ⟨7, 70, none⟩)]).run Tryd.prog w = .ok (.int .u8 22) w := by kernel_rfl
theorem rl_kindE_in_ (w : World) : ((ReflectliteType.abiMethod fun t => (fun a : Nat => Value.int IntKind.u8 (a : Int)) <$> Rtype.kind t) #[.pointer (some ⟨7, 65, none⟩)]).run Tryd.prog w = .ok (.int .u8 25) w := by kernel_rfl
theorem rl_elem_in_ (w : World) : (ReflectliteType.method ReflectliteType.elem #[.agg #[.pointer (some ⟨7, 70, none⟩)]]).run Tryd.prog w = .ok (.iface 104 (.agg #[.pointer (some ⟨7, 65, none⟩)])) w := by kernel_rfl
theorem rl_implements_in_ (w : World) : (ReflectliteType.relation "Implements" ReflectliteType.implements_ #[.agg #[.pointer (some ⟨7, 65, none⟩)], .iface 104 (.agg #[.pointer (some ⟨7, 27, none⟩)])]).run Tryd.prog w = .ok (.bool true) w := by kernel_rfl
theorem rl_valueOfE_in_ (n : Int) (v : Value) (w : World) : (ReflectliteValue.unpack (.iface 65 (.agg #[.int .i64 n, v]))).run Tryd.prog w = .ok (.agg #[.pointer (some ⟨7, 65, none⟩), .pointer (some ⟨w.heap.size, 0, none⟩), .int .u64 153]) (w.alloc (.cells #[.int .i64 n, v] 65)) := by kernel_rfl
theorem rl_partsP_in_ (a : Addr) (w : World) : (ReflectliteValue.parts (.agg #[.pointer (some ⟨7, 70, none⟩), .pointer (some a), .int .u64 150])).run Tryd.prog w = .ok (some (70, a, 150)) w := by kernel_rfl
theorem rl_elemOf_in_ (w : World) : (Rtype.elem? 70).run Tryd.prog w = .ok (some 65) w := by kernel_rfl
theorem rl_mk_in_ (p : Addr) (w : World) : (ReflectliteValue.mk 65 p ReflectliteValue.flagAddr).run Tryd.prog w = .ok (.agg #[.pointer (some ⟨7, 65, none⟩), .pointer (some p), .int .u64 409]) w := by kernel_rfl
theorem rl_partsA_in_ (a : Addr) (w : World) : (ReflectliteValue.parts (.agg #[.pointer (some ⟨7, 65, none⟩), .pointer (some a), .int .u64 409])).run Tryd.prog w = .ok (some (65, a, 409)) w := by kernel_rfl
theorem rl_partsE_in_ (a : Addr) (w : World) : (ReflectliteValue.parts (.agg #[.pointer (some ⟨7, 65, none⟩), .pointer (some a), .int .u64 153])).run Tryd.prog w = .ok (some (65, a, 153)) w := by kernel_rfl
theorem rl_direct_in_ (w : World) : (Rtype.directlyAssignable 65 65).run Tryd.prog w = .ok true w := by kernel_rfl
theorem rl_assign_code_in_ (w : World) : (ReflectliteType.relation "AssignableTo" ReflectliteType.assignableTo #[.agg #[.pointer (some ⟨7, 22, none⟩)], .iface 104 (.agg #[.pointer (some ⟨7, 65, none⟩)])]).run Tryd.prog w = .ok (.bool false) w := by kernel_rfl
theorem rl_assign_at__in_ (w : World) : (ReflectliteType.relation "AssignableTo" ReflectliteType.assignableTo #[.agg #[.pointer (some ⟨7, 63, none⟩)], .iface 104 (.agg #[.pointer (some ⟨7, 65, none⟩)])]).run Tryd.prog w = .ok (.bool false) w := by kernel_rfl
theorem rl_assign_in__in_ (w : World) : (ReflectliteType.relation "AssignableTo" ReflectliteType.assignableTo #[.agg #[.pointer (some ⟨7, 65, none⟩)], .iface 104 (.agg #[.pointer (some ⟨7, 65, none⟩)])]).run Tryd.prog w = .ok (.bool true) w := by kernel_rfl
theorem rl_assign_around_in_ (w : World) : (ReflectliteType.relation "AssignableTo" ReflectliteType.assignableTo #[.agg #[.pointer (some ⟨7, 67, none⟩)], .iface 104 (.agg #[.pointer (some ⟨7, 65, none⟩)])]).run Tryd.prog w = .ok (.bool false) w := by kernel_rfl
theorem rl_assign_foreign_in_ (w : World) : (ReflectliteType.relation "AssignableTo" ReflectliteType.assignableTo #[.agg #[.pointer (some ⟨7, 82, none⟩)], .iface 104 (.agg #[.pointer (some ⟨7, 65, none⟩)])]).run Tryd.prog w = .ok (.bool false) w := by kernel_rfl
theorem rl_typeOf_code (v : Value) (w : World) : (ReflectliteType.typeOf #[.iface 22 v]).run Tryd.prog w = .ok (.iface 104 (.agg #[.pointer (some ⟨7, 22, none⟩)])) w := by kernel_rfl
theorem rl_typeOf_at_ (v : Value) (w : World) : (ReflectliteType.typeOf #[.iface 63 v]).run Tryd.prog w = .ok (.iface 104 (.agg #[.pointer (some ⟨7, 63, none⟩)])) w := by kernel_rfl
theorem rl_typeOf_in_ (v : Value) (w : World) : (ReflectliteType.typeOf #[.iface 65 v]).run Tryd.prog w = .ok (.iface 104 (.agg #[.pointer (some ⟨7, 65, none⟩)])) w := by kernel_rfl
theorem rl_typeOf_around (v : Value) (w : World) : (ReflectliteType.typeOf #[.iface 67 v]).run Tryd.prog w = .ok (.iface 104 (.agg #[.pointer (some ⟨7, 67, none⟩)])) w := by kernel_rfl
theorem rl_typeOf_foreign (v : Value) (w : World) : (ReflectliteType.typeOf #[.iface 82 v]).run Tryd.prog w = .ok (.iface 104 (.agg #[.pointer (some ⟨7, 82, none⟩)])) w := by kernel_rfl
theorem ta_as_code (v : Value) (w : World) : (Instr.typeAssert (.iface 22 v) 27 109 true).run Tryd.prog w = .ok (.tuple #[.nilIface, .bool false]) w := run_typeAssert_lacksB Tryd.underlying109 (by kernel_rfl) (by kernel_rfl) v 27 w
theorem ta_un_code (v : Value) (w : World) : (Instr.typeAssert (.iface 22 v) 27 112 true).run Tryd.prog w = .ok (.tuple #[.nilIface, .bool false]) w := run_typeAssert_lacksB Tryd.underlying112 (by kernel_rfl) (by kernel_rfl) v 27 w
theorem ta_us_code (v : Value) (w : World) : (Instr.typeAssert (.iface 22 v) 27 114 true).run Tryd.prog w = .ok (.tuple #[.nilIface, .bool false]) w := run_typeAssert_lacksB Tryd.underlying114 (by kernel_rfl) (by kernel_rfl) v 27 w
theorem ta_as_at_ (v : Value) (w : World) : (Instr.typeAssert (.iface 63 v) 27 109 true).run Tryd.prog w = .ok (.tuple #[.nilIface, .bool false]) w := run_typeAssert_lacksB Tryd.underlying109 (by kernel_rfl) (by kernel_rfl) v 27 w
theorem ta_un_at_ (v : Value) (w : World) : (Instr.typeAssert (.iface 63 v) 27 112 true).run Tryd.prog w = .ok (.tuple #[.iface 63 v, .bool true]) w := run_typeAssert_hasB Tryd.underlying112 (by kernel_rfl) v 27 w
theorem ta_as_in_ (v : Value) (w : World) : (Instr.typeAssert (.iface 65 v) 27 109 true).run Tryd.prog w = .ok (.tuple #[.nilIface, .bool false]) w := run_typeAssert_lacksB Tryd.underlying109 (by kernel_rfl) (by kernel_rfl) v 27 w
theorem ta_un_in_ (v : Value) (w : World) : (Instr.typeAssert (.iface 65 v) 27 112 true).run Tryd.prog w = .ok (.tuple #[.iface 65 v, .bool true]) w := run_typeAssert_hasB Tryd.underlying112 (by kernel_rfl) v 27 w
theorem ta_as_around (v : Value) (w : World) : (Instr.typeAssert (.iface 67 v) 27 109 true).run Tryd.prog w = .ok (.tuple #[.nilIface, .bool false]) w := run_typeAssert_lacksB Tryd.underlying109 (by kernel_rfl) (by kernel_rfl) v 27 w
theorem ta_un_around (v : Value) (w : World) : (Instr.typeAssert (.iface 67 v) 27 112 true).run Tryd.prog w = .ok (.tuple #[.iface 67 v, .bool true]) w := run_typeAssert_hasB Tryd.underlying112 (by kernel_rfl) v 27 w
theorem ta_as_foreign (v : Value) (w : World) : (Instr.typeAssert (.iface 82 v) 27 109 true).run Tryd.prog w = .ok (.tuple #[.nilIface, .bool false]) w := run_typeAssert_lacksB Tryd.underlying109 (by kernel_rfl) (by kernel_rfl) v 27 w
theorem ta_un_foreign (v : Value) (w : World) : (Instr.typeAssert (.iface 82 v) 27 112 true).run Tryd.prog w = .ok (.tuple #[.nilIface, .bool false]) w := run_typeAssert_lacksB Tryd.underlying112 (by kernel_rfl) (by kernel_rfl) v 27 w
theorem ta_us_foreign (v : Value) (w : World) : (Instr.typeAssert (.iface 82 v) 27 114 true).run Tryd.prog w = .ok (.tuple #[.nilIface, .bool false]) w := run_typeAssert_lacksB Tryd.underlying114 (by kernel_rfl) (by kernel_rfl) v 27 w
theorem rl_unwrap_at_ (v : Value) (w : World) : (Go.method 282 63 v "Unwrap").run Tryd.prog w = .ok (102, v) w := by kernel_rfl
theorem rl_unwrap_in_ (v : Value) (w : World) : (Go.method 282 65 v "Unwrap").run Tryd.prog w = .ok (104, v) w := by kernel_rfl
theorem rl_unwrap_around (v : Value) (w : World) : (Go.method 282 67 v "Unwrap").run Tryd.prog w = .ok (106, v) w := by kernel_rfl
end Go.Proofs.YtmjagnimdbbbnaaDoor
