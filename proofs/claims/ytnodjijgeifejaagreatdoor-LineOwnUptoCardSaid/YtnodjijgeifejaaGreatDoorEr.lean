/- The program's errors as a Lean type, and what errors.As finds in one at each of the three targets (a number, a place, an index), by contracts. -/
import Derived.Test.YtnodjijgeifejaaGreatDoorBase
import Derived.WalkKit
import Derived.LaidEql
import Derived.Stop.Asserts
import Derived.RowKitTokens
import Derived.Deep.LoopGhost
import Derived.Handy
import Derived.Lib.Hide
namespace Go.Proofs.YtnodjijgeifejaaGreatDoor
open Go.RowKit Go.Extern.Stop Go.Stop Go.Extern

/-- An error of the program. -/
inductive Er where
  | code (n : Int)
  | at_ (p : Int) (e : Er)
  | in_ (i : Int) (e : Er)
/-- How it lies in an interface value. -/
def Er.enc : Er → Value
  | .code n => .iface 33 (.int .i64 n)
  | .at_ p e => .iface 104 (.agg #[.int .i64 p, e.enc])
  | .in_ i e => .iface 106 (.agg #[.int .i64 i, e.enc])
/-- How deep it is. -/
def Er.size : Er → Nat
  | .code _ => 0
  | .at_ _ e | .in_ _ e => e.size + 1
/-- The number in it. -/
def Er.code? : Er → Option Int
  | .code n => some n
  | .at_ _ e | .in_ _ e => e.code?
/-- The place in it, and what stands there. -/
def Er.at? : Er → Option (Int × Er)
  | .code _ => none
  | .at_ p e => some (p, e)
  | .in_ _ e => e.at?
/-- The index in it, and what is there. -/
def Er.in? : Er → Option (Int × Er)
  | .code _ => none
  | .at_ _ e => e.in?
  | .in_ i e => some (i, e)
/-- An error or none. -/
def encE : Option Er → Value
  | none => .nilIface
  | some e => e.enc
theorem Er.enc_one (e : Er) : e.enc.oneCell' = true := by cases e <;> rfl
theorem encE_one (e : Option Er) : (encE e).oneCell' = true := by cases e with | none => rfl | some e => exact e.enc_one
theorem Er.enc_iface (e : Er) : ∃ t v, e.enc = .iface t v := by cases e <;> exact ⟨_, _, rfl⟩
theorem Er.eql_nil (e : Er) (w : World) : (binOp .eql 26 e.enc .nilIface).run Tryz.prog w = .ok (.bool false) w := by
  obtain ⟨t, v, h⟩ := e.enc_iface
  rw [h]
  exact run_eql_held_nil w 26 t v (by kernel_rfl)
theorem Er.neq_nil (e : Er) (w : World) : (binOp .neq 26 e.enc .nilIface).run Tryz.prog w = .ok (.bool true) w := by
  obtain ⟨t, v, h⟩ := e.enc_iface
  rw [h]
  exact run_neq_held_nil w 26 t v (by kernel_rfl)

/-! ### Closed facts on the model's entries for internal/reflectlite, at this program's types -/
theorem rl_methodKind (h : Value) (w : World) : (Go.method 410 234 (.agg #[h]) "Kind").run Tryz.prog w = .ok (159, h) w := by kernel_rfl
theorem rl_methodElem (h : Value) (w : World) : (Go.method 410 234 (.agg #[h]) "Elem").run Tryz.prog w = .ok (174, .agg #[h]) w := by kernel_rfl
theorem rl_methodImplements (h : Value) (w : World) : (Go.method 410 234 (.agg #[h]) "Implements").run Tryz.prog w = .ok (175, .agg #[h]) w := by kernel_rfl
theorem rl_methodAssignableTo (h : Value) (w : World) : (Go.method 410 234 (.agg #[h]) "AssignableTo").run Tryz.prog w = .ok (172, .agg #[h]) w := by kernel_rfl
theorem rl_valueOfP_code (t : Addr) (w : World) : (ReflectliteValue.unpack (.iface 108 (.pointer (some t)))).run Tryz.prog w = .ok (.agg #[.pointer (some ⟨7, 108, none⟩), .pointer (some ⟨w.heap.size, 0, none⟩), .int .u64 150]) (w.alloc (.cells #[.pointer (some t)] 108)) := by kernel_rfl
theorem rl_type_code (a : Addr) (w : World) : (ReflectliteValue.methodAny (ReflectliteValue.valueError "reflectlite.Value.Type" 0) (fun t _ _ _ => ReflectliteType.toType t) #[.agg #[.pointer (some ⟨7, 108, none⟩), .pointer (some a), .int .u64 150]]).run Tryz.prog w = .ok (.iface 234 (.agg #[.pointer (some ⟨7, 108, none⟩)])) w := by kernel_rfl
theorem rl_kindP_code (w : World) : ((ReflectliteType.abiMethod fun t => (fun a : Nat => Value.int IntKind.u8 (a : Int)) <$> Rtype.kind t) #[.pointer (some ⟨7, 108, none⟩)]).run Tryz.prog w = .ok (.int .u8 22) w := by kernel_rfl
theorem rl_kindE_code (w : World) : ((ReflectliteType.abiMethod fun t => (fun a : Nat => Value.int IntKind.u8 (a : Int)) <$> Rtype.kind t) #[.pointer (some ⟨7, 33, none⟩)]).run Tryz.prog w = .ok (.int .u8 2) w := by kernel_rfl
theorem rl_elem_code (w : World) : (ReflectliteType.method ReflectliteType.elem #[.agg #[.pointer (some ⟨7, 108, none⟩)]]).run Tryz.prog w = .ok (.iface 234 (.agg #[.pointer (some ⟨7, 33, none⟩)])) w := by kernel_rfl
theorem rl_implements_code (w : World) : (ReflectliteType.relation "Implements" ReflectliteType.implements_ #[.agg #[.pointer (some ⟨7, 33, none⟩)], .iface 234 (.agg #[.pointer (some ⟨7, 26, none⟩)])]).run Tryz.prog w = .ok (.bool true) w := by kernel_rfl
theorem rl_valueOfE_code (n : Int) (w : World) : (ReflectliteValue.unpack (.iface 33 (.int .i64 n))).run Tryz.prog w = .ok (.agg #[.pointer (some ⟨7, 33, none⟩), .pointer (some ⟨w.heap.size, 0, none⟩), .int .u64 130]) (w.alloc (.cells #[.int .i64 n] 33)) := by kernel_rfl
theorem rl_partsP_code (a : Addr) (w : World) : (ReflectliteValue.parts (.agg #[.pointer (some ⟨7, 108, none⟩), .pointer (some a), .int .u64 150])).run Tryz.prog w = .ok (some (108, a, 150)) w := by kernel_rfl
theorem rl_elemOf_code (w : World) : (Rtype.elem? 108).run Tryz.prog w = .ok (some 33) w := by kernel_rfl
theorem rl_mk_code (p : Addr) (w : World) : (ReflectliteValue.mk 33 p ReflectliteValue.flagAddr).run Tryz.prog w = .ok (.agg #[.pointer (some ⟨7, 33, none⟩), .pointer (some p), .int .u64 386]) w := by kernel_rfl
theorem rl_partsA_code (a : Addr) (w : World) : (ReflectliteValue.parts (.agg #[.pointer (some ⟨7, 33, none⟩), .pointer (some a), .int .u64 386])).run Tryz.prog w = .ok (some (33, a, 386)) w := by kernel_rfl
theorem rl_partsE_code (a : Addr) (w : World) : (ReflectliteValue.parts (.agg #[.pointer (some ⟨7, 33, none⟩), .pointer (some a), .int .u64 130])).run Tryz.prog w = .ok (some (33, a, 130)) w := by kernel_rfl
theorem rl_direct_code (w : World) : (Rtype.directlyAssignable 33 33).run Tryz.prog w = .ok true w := by kernel_rfl
theorem rl_assign_code_code (w : World) : (ReflectliteType.relation "AssignableTo" ReflectliteType.assignableTo #[.agg #[.pointer (some ⟨7, 33, none⟩)], .iface 234 (.agg #[.pointer (some ⟨7, 33, none⟩)])]).run Tryz.prog w = .ok (.bool true) w := by kernel_rfl
theorem rl_assign_at__code (w : World) : (ReflectliteType.relation "AssignableTo" ReflectliteType.assignableTo #[.agg #[.pointer (some ⟨7, 104, none⟩)], .iface 234 (.agg #[.pointer (some ⟨7, 33, none⟩)])]).run Tryz.prog w = .ok (.bool false) w := by kernel_rfl
theorem rl_assign_in__code (w : World) : (ReflectliteType.relation "AssignableTo" ReflectliteType.assignableTo #[.agg #[.pointer (some ⟨7, 106, none⟩)], .iface 234 (.agg #[.pointer (some ⟨7, 33, none⟩)])]).run Tryz.prog w = .ok (.bool false) w := by kernel_rfl
theorem rl_valueOfP_at_ (t : Addr) (w : World) : (ReflectliteValue.unpack (.iface 109 (.pointer (some t)))).run Tryz.prog w = .ok (.agg #[.pointer (some ⟨7, 109, none⟩), .pointer (some ⟨w.heap.size, 0, none⟩), .int .u64 150]) (w.alloc (.cells #[.pointer (some t)] 109)) := by kernel_rfl
theorem rl_type_at_ (a : Addr) (w : World) : (ReflectliteValue.methodAny (ReflectliteValue.valueError "reflectlite.Value.Type" 0) (fun t _ _ _ => ReflectliteType.toType t) #[.agg #[.pointer (some ⟨7, 109, none⟩), .pointer (some a), .int .u64 150]]).run Tryz.prog w = .ok (.iface 234 (.agg #[.pointer (some ⟨7, 109, none⟩)])) w := by kernel_rfl
theorem rl_kindP_at_ (w : World) : ((ReflectliteType.abiMethod fun t => (fun a : Nat => Value.int IntKind.u8 (a : Int)) <$> Rtype.kind t) #[.pointer (some ⟨7, 109, none⟩)]).run Tryz.prog w = .ok (.int .u8 22) w := by kernel_rfl
theorem rl_kindE_at_ (w : World) : ((ReflectliteType.abiMethod fun t => (fun a : Nat => Value.int IntKind.u8 (a : Int)) <$> Rtype.kind t) #[.pointer (some ⟨7, 104, none⟩)]).run Tryz.prog w = .ok (.int .u8 25) w := by kernel_rfl
theorem rl_elem_at_ (w : World) : (ReflectliteType.method ReflectliteType.elem #[.agg #[.pointer (some ⟨7, 109, none⟩)]]).run Tryz.prog w = .ok (.iface 234 (.agg #[.pointer (some ⟨7, 104, none⟩)])) w := by kernel_rfl
theorem rl_implements_at_ (w : World) : (ReflectliteType.relation "Implements" ReflectliteType.implements_ #[.agg #[.pointer (some ⟨7, 104, none⟩)], .iface 234 (.agg #[.pointer (some ⟨7, 26, none⟩)])]).run Tryz.prog w = .ok (.bool true) w := by kernel_rfl
theorem rl_valueOfE_at_ (n : Int) (v : Value) (w : World) : (ReflectliteValue.unpack (.iface 104 (.agg #[.int .i64 n, v]))).run Tryz.prog w = .ok (.agg #[.pointer (some ⟨7, 104, none⟩), .pointer (some ⟨w.heap.size, 0, none⟩), .int .u64 153]) (w.alloc (.cells #[.int .i64 n, v] 104)) := by kernel_rfl
theorem rl_partsP_at_ (a : Addr) (w : World) : (ReflectliteValue.parts (.agg #[.pointer (some ⟨7, 109, none⟩), .pointer (some a), .int .u64 150])).run Tryz.prog w = .ok (some (109, a, 150)) w := by kernel_rfl
theorem rl_elemOf_at_ (w : World) : (Rtype.elem? 109).run Tryz.prog w = .ok (some 104) w := by kernel_rfl
theorem rl_mk_at_ (p : Addr) (w : World) : (ReflectliteValue.mk 104 p ReflectliteValue.flagAddr).run Tryz.prog w = .ok (.agg #[.pointer (some ⟨7, 104, none⟩), .pointer (some p), .int .u64 409]) w := by kernel_rfl
theorem rl_partsA_at_ (a : Addr) (w : World) : (ReflectliteValue.parts (.agg #[.pointer (some ⟨7, 104, none⟩), .pointer (some a), .int .u64 409])).run Tryz.prog w = .ok (some (104, a, 409)) w := by kernel_rfl
theorem rl_partsE_at_ (a : Addr) (w : World) : (ReflectliteValue.parts (.agg #[.pointer (some ⟨7, 104, none⟩), .pointer (some a), .int .u64 153])).run Tryz.prog w = .ok (some (104, a, 153)) w := by kernel_rfl
theorem rl_direct_at_ (w : World) : (Rtype.directlyAssignable 104 104).run Tryz.prog w = .ok true w := by kernel_rfl
theorem rl_assign_code_at_ (w : World) : (ReflectliteType.relation "AssignableTo" ReflectliteType.assignableTo #[.agg #[.pointer (some ⟨7, 33, none⟩)], .iface 234 (.agg #[.pointer (some ⟨7, 104, none⟩)])]).run Tryz.prog w = .ok (.bool false) w := by kernel_rfl
theorem rl_assign_at__at_ (w : World) : (ReflectliteType.relation "AssignableTo" ReflectliteType.assignableTo #[.agg #[.pointer (some ⟨7, 104, none⟩)], .iface 234 (.agg #[.pointer (some ⟨7, 104, none⟩)])]).run Tryz.prog w = .ok (.bool true) w := by kernel_rfl
theorem rl_assign_in__at_ (w : World) : (ReflectliteType.relation "AssignableTo" ReflectliteType.assignableTo #[.agg #[.pointer (some ⟨7, 106, none⟩)], .iface 234 (.agg #[.pointer (some ⟨7, 104, none⟩)])]).run Tryz.prog w = .ok (.bool false) w := by kernel_rfl
theorem rl_valueOfP_in_ (t : Addr) (w : World) : (ReflectliteValue.unpack (.iface 110 (.pointer (some t)))).run Tryz.prog w = .ok (.agg #[.pointer (some ⟨7, 110, none⟩), .pointer (some ⟨w.heap.size, 0, none⟩), .int .u64 150]) (w.alloc (.cells #[.pointer (some t)] 110)) := by kernel_rfl
theorem rl_type_in_ (a : Addr) (w : World) : (ReflectliteValue.methodAny (ReflectliteValue.valueError "reflectlite.Value.Type" 0) (fun t _ _ _ => ReflectliteType.toType t) #[.agg #[.pointer (some ⟨7, 110, none⟩), .pointer (some a), .int .u64 150]]).run Tryz.prog w = .ok (.iface 234 (.agg #[.pointer (some ⟨7, 110, none⟩)])) w := by kernel_rfl
theorem rl_kindP_in_ (w : World) : ((ReflectliteType.abiMethod fun t => (fun a : Nat => Value.int IntKind.u8 (a : Int)) <$> Rtype.kind t) #[.pointer (some ⟨7, 110, none⟩)]).run Tryz.prog w = .ok (.int .u8 22) w := by kernel_rfl
theorem rl_kindE_in_ (w : World) : ((ReflectliteType.abiMethod fun t => (fun a : Nat => Value.int IntKind.u8 (a : Int)) <$> Rtype.kind t) #[.pointer (some ⟨7, 106, none⟩)]).run Tryz.prog w = .ok (.int .u8 25) w := by kernel_rfl
theorem rl_elem_in_ (w : World) : (ReflectliteType.method ReflectliteType.elem #[.agg #[.pointer (some ⟨7, 110, none⟩)]]).run Tryz.prog w = .ok (.iface 234 (.agg #[.pointer (some ⟨7, 106, none⟩)])) w := by kernel_rfl
theorem rl_implements_in_ (w : World) : (ReflectliteType.relation "Implements" ReflectliteType.implements_ #[.agg #[.pointer (some ⟨7, 106, none⟩)], .iface 234 (.agg #[.pointer (some ⟨7, 26, none⟩)])]).run Tryz.prog w = .ok (.bool true) w := by kernel_rfl
theorem rl_valueOfE_in_ (n : Int) (v : Value) (w : World) : (ReflectliteValue.unpack (.iface 106 (.agg #[.int .i64 n, v]))).run Tryz.prog w = .ok (.agg #[.pointer (some ⟨7, 106, none⟩), .pointer (some ⟨w.heap.size, 0, none⟩), .int .u64 153]) (w.alloc (.cells #[.int .i64 n, v] 106)) := by kernel_rfl
theorem rl_partsP_in_ (a : Addr) (w : World) : (ReflectliteValue.parts (.agg #[.pointer (some ⟨7, 110, none⟩), .pointer (some a), .int .u64 150])).run Tryz.prog w = .ok (some (110, a, 150)) w := by kernel_rfl
theorem rl_elemOf_in_ (w : World) : (Rtype.elem? 110).run Tryz.prog w = .ok (some 106) w := by kernel_rfl
theorem rl_mk_in_ (p : Addr) (w : World) : (ReflectliteValue.mk 106 p ReflectliteValue.flagAddr).run Tryz.prog w = .ok (.agg #[.pointer (some ⟨7, 106, none⟩), .pointer (some p), .int .u64 409]) w := by kernel_rfl
theorem rl_partsA_in_ (a : Addr) (w : World) : (ReflectliteValue.parts (.agg #[.pointer (some ⟨7, 106, none⟩), .pointer (some a), .int .u64 409])).run Tryz.prog w = .ok (some (106, a, 409)) w := by kernel_rfl
theorem rl_partsE_in_ (a : Addr) (w : World) : (ReflectliteValue.parts (.agg #[.pointer (some ⟨7, 106, none⟩), .pointer (some a), .int .u64 153])).run Tryz.prog w = .ok (some (106, a, 153)) w := by kernel_rfl
theorem rl_direct_in_ (w : World) : (Rtype.directlyAssignable 106 106).run Tryz.prog w = .ok true w := by kernel_rfl
theorem rl_assign_code_in_ (w : World) : (ReflectliteType.relation "AssignableTo" ReflectliteType.assignableTo #[.agg #[.pointer (some ⟨7, 33, none⟩)], .iface 234 (.agg #[.pointer (some ⟨7, 106, none⟩)])]).run Tryz.prog w = .ok (.bool false) w := by kernel_rfl
theorem rl_assign_at__in_ (w : World) : (ReflectliteType.relation "AssignableTo" ReflectliteType.assignableTo #[.agg #[.pointer (some ⟨7, 104, none⟩)], .iface 234 (.agg #[.pointer (some ⟨7, 106, none⟩)])]).run Tryz.prog w = .ok (.bool false) w := by kernel_rfl
theorem rl_assign_in__in_ (w : World) : (ReflectliteType.relation "AssignableTo" ReflectliteType.assignableTo #[.agg #[.pointer (some ⟨7, 106, none⟩)], .iface 234 (.agg #[.pointer (some ⟨7, 106, none⟩)])]).run Tryz.prog w = .ok (.bool true) w := by kernel_rfl
theorem rl_typeOf_code (v : Value) (w : World) : (ReflectliteType.typeOf #[.iface 33 v]).run Tryz.prog w = .ok (.iface 234 (.agg #[.pointer (some ⟨7, 33, none⟩)])) w := by kernel_rfl
theorem rl_typeOf_at_ (v : Value) (w : World) : (ReflectliteType.typeOf #[.iface 104 v]).run Tryz.prog w = .ok (.iface 234 (.agg #[.pointer (some ⟨7, 104, none⟩)])) w := by kernel_rfl
theorem rl_typeOf_in_ (v : Value) (w : World) : (ReflectliteType.typeOf #[.iface 106 v]).run Tryz.prog w = .ok (.iface 234 (.agg #[.pointer (some ⟨7, 106, none⟩)])) w := by kernel_rfl
theorem ta_as_code (v : Value) (w : World) : (Instr.typeAssert (.iface 33 v) 26 239 true).run Tryz.prog w = .ok (.tuple #[.nilIface, .bool false]) w := run_typeAssert_lacksB Tryz.underlying239 (by kernel_rfl) (by kernel_rfl) v 26 w
theorem ta_un_code (v : Value) (w : World) : (Instr.typeAssert (.iface 33 v) 26 242 true).run Tryz.prog w = .ok (.tuple #[.nilIface, .bool false]) w := run_typeAssert_lacksB Tryz.underlying242 (by kernel_rfl) (by kernel_rfl) v 26 w
theorem ta_us_code (v : Value) (w : World) : (Instr.typeAssert (.iface 33 v) 26 244 true).run Tryz.prog w = .ok (.tuple #[.nilIface, .bool false]) w := run_typeAssert_lacksB Tryz.underlying244 (by kernel_rfl) (by kernel_rfl) v 26 w
theorem ta_as_at_ (v : Value) (w : World) : (Instr.typeAssert (.iface 104 v) 26 239 true).run Tryz.prog w = .ok (.tuple #[.nilIface, .bool false]) w := run_typeAssert_lacksB Tryz.underlying239 (by kernel_rfl) (by kernel_rfl) v 26 w
theorem ta_un_at_ (v : Value) (w : World) : (Instr.typeAssert (.iface 104 v) 26 242 true).run Tryz.prog w = .ok (.tuple #[.iface 104 v, .bool true]) w := run_typeAssert_hasB Tryz.underlying242 (by kernel_rfl) v 26 w
theorem ta_as_in_ (v : Value) (w : World) : (Instr.typeAssert (.iface 106 v) 26 239 true).run Tryz.prog w = .ok (.tuple #[.nilIface, .bool false]) w := run_typeAssert_lacksB Tryz.underlying239 (by kernel_rfl) (by kernel_rfl) v 26 w
theorem ta_un_in_ (v : Value) (w : World) : (Instr.typeAssert (.iface 106 v) 26 242 true).run Tryz.prog w = .ok (.tuple #[.iface 106 v, .bool true]) w := run_typeAssert_hasB Tryz.underlying242 (by kernel_rfl) v 26 w
theorem rl_unwrap_at_ (v : Value) (w : World) : (Go.method 410 104 v "Unwrap").run Tryz.prog w = .ok (165, v) w := by kernel_rfl
theorem rl_unwrap_in_ (v : Value) (w : World) : (Go.method 410 106 v "Unwrap").run Tryz.prog w = .ok (167, v) w := by kernel_rfl
end Go.Proofs.YtnodjijgeifejaaGreatDoor
