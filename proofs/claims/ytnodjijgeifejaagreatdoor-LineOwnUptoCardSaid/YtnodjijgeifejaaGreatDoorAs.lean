/- errors.As at the three targets of the program: a number, a place, an index: what it answers and what it writes. -/
import Derived.Test.YtnodjijgeifejaaGreatDoorEr
import Derived.Handy
import Derived.Lib.Hide
namespace Go.Proofs.YtnodjijgeifejaaGreatDoor
open Go.RowKit Go.Extern.Stop Go.Stop Go.Extern
set_option linter.unusedSimpArgs false
set_option linter.unusedVariables false

theorem rlm (z : Sem Value) (f : TypeId → Addr → Nat → Nat → Sem Value) (v : Value) :
    ReflectliteValue.method z f #[v] = (do match ← ReflectliteValue.parts v with | none => z | some (t, a, fl) => f t a fl (fl % 32)) := rfl
theorem rls (v x : Value) : ReflectliteValue.set #[v, x] = (do
    let (some (dst, a, fl), some (src, b, _)) := (← ReflectliteValue.parts v, ← ReflectliteValue.parts x)
      | unsupported (.noEntry "extern/(internal/reflectlite.Value).Set.zeroValue")
    if fl / ReflectliteValue.flagAddr % 2 == 0 then unsupported (.noEntry "extern/(internal/reflectlite.Value).Set.unaddressable")
    let val ← loadVar src b
    if ← Rtype.directlyAssignable dst src then storeVar dst a val
    else if ← Rtype.implements dst src then
      if (← Rtype.kind src) == 20 then
        match val with
        | .nilIface => unsupported (.noEntry "extern/reflectlite: a nil value of one interface type handed on as a value of another")
        | _ => storeVar dst a val
      else storeVar dst a (.iface src val)
    else panicString ("reflectlite.Set: value of type " ++ (← Rtype.spelt src) ++ " is not assignable to type " ++ (← Rtype.spelt dst))
    pure (.tuple #[])) := rfl

theorem rl_isNil_code (a q : Addr) (W : World) (ha : W.cell? a = some (.pointer (some q))) :
    (ReflectliteValue.method (ReflectliteValue.valueError "reflectlite.Value.IsNil" 0) ReflectliteValue.isNil #[.agg #[.pointer (some ⟨7, 108, none⟩), .pointer (some a), .int .u64 150]]).run Tryz.prog W = .ok (.bool false) W := by
  rw [rlm]
  simp only [Sem.run_bind, rl_partsP_code, Result.andThen]
  simp [ReflectliteValue.isNil, loadVar, isAgg, underlying, Tryz.underlying108, ha, Result.andThen]
theorem rl_elemV_code (a q : Addr) (W : World) (ha : W.cell? a = some (.pointer (some q))) :
    (ReflectliteValue.method (ReflectliteValue.valueError "reflectlite.Value.Elem" 0) ReflectliteValue.elem #[.agg #[.pointer (some ⟨7, 108, none⟩), .pointer (some a), .int .u64 150]]).run Tryz.prog W
      = .ok (.agg #[.pointer (some ⟨7, 33, none⟩), .pointer (some q), .int .u64 386]) W := by
  rw [rlm]
  simp only [Sem.run_bind, rl_partsP_code, Result.andThen]
  simp [ReflectliteValue.elem, loadVar, isAgg, underlying, Tryz.underlying108, ha, Result.andThen, rl_elemOf_code, rl_mk_code]
theorem rl_set_code (tb b : Nat) (n : Int) (o0 : Value) (W : World) (hb : W.cell? ⟨b, 0, none⟩ = some (.int .i64 n)) (ht : W.cell? ⟨tb, 0, none⟩ = some o0) (hf : W.frozen? ⟨tb, 0, none⟩ = false) :
    (ReflectliteValue.set #[.agg #[.pointer (some ⟨7, 33, none⟩), .pointer (some ⟨tb, 0, none⟩), .int .u64 386], .agg #[.pointer (some ⟨7, 33, none⟩), .pointer (some ⟨b, 0, none⟩), .int .u64 130]]).run Tryz.prog W = .ok (.tuple #[]) (W.setCell ⟨tb, 0, none⟩ (.int .i64 n)) := by
  rw [rls]
  simp only [Sem.run_bind, rl_partsA_code, rl_partsE_code, Result.andThen]
  simp [ReflectliteValue.flagAddr, loadVar, isAgg, underlying, Tryz.underlying33, hb, Result.andThen, rl_direct_code, storeVar, Value.cells, storeCells, Addr.add]
  rw [run_store Tryz.prog W ⟨tb, 0, none⟩ _ _ (by rfl)]
  simp [ht, hf]
theorem rl_isNil_at_ (a q : Addr) (W : World) (ha : W.cell? a = some (.pointer (some q))) :
    (ReflectliteValue.method (ReflectliteValue.valueError "reflectlite.Value.IsNil" 0) ReflectliteValue.isNil #[.agg #[.pointer (some ⟨7, 109, none⟩), .pointer (some a), .int .u64 150]]).run Tryz.prog W = .ok (.bool false) W := by
  rw [rlm]
  simp only [Sem.run_bind, rl_partsP_at_, Result.andThen]
  simp [ReflectliteValue.isNil, loadVar, isAgg, underlying, Tryz.underlying109, ha, Result.andThen]
theorem rl_elemV_at_ (a q : Addr) (W : World) (ha : W.cell? a = some (.pointer (some q))) :
    (ReflectliteValue.method (ReflectliteValue.valueError "reflectlite.Value.Elem" 0) ReflectliteValue.elem #[.agg #[.pointer (some ⟨7, 109, none⟩), .pointer (some a), .int .u64 150]]).run Tryz.prog W
      = .ok (.agg #[.pointer (some ⟨7, 104, none⟩), .pointer (some q), .int .u64 409]) W := by
  rw [rlm]
  simp only [Sem.run_bind, rl_partsP_at_, Result.andThen]
  simp [ReflectliteValue.elem, loadVar, isAgg, underlying, Tryz.underlying109, ha, Result.andThen, rl_elemOf_at_, rl_mk_at_]
theorem rl_set_at_ (tb b : Nat) (n : Int) (v : Value) (hv : v.oneCell' = true) (o0 o1 : Value) (W : World) (hb0 : W.cell? ⟨b, 0, none⟩ = some (.int .i64 n)) (hb1 : W.cell? ⟨b, 1, none⟩ = some v)
    (ht0 : W.cell? ⟨tb, 0, none⟩ = some o0) (ht1 : W.cell? ⟨tb, 1, none⟩ = some o1) (hf0 : W.frozen? ⟨tb, 0, none⟩ = false) (hf1 : W.frozen? ⟨tb, 1, none⟩ = false) :
    (ReflectliteValue.set #[.agg #[.pointer (some ⟨7, 104, none⟩), .pointer (some ⟨tb, 0, none⟩), .int .u64 409], .agg #[.pointer (some ⟨7, 104, none⟩), .pointer (some ⟨b, 0, none⟩), .int .u64 153]]).run Tryz.prog W = .ok (.tuple #[]) ((W.setCell ⟨tb, 0, none⟩ (.int .i64 n)).setCell ⟨tb, 1, none⟩ v) := by
  rw [rls]
  simp only [Sem.run_bind, rl_partsA_at_, rl_partsE_at_, Result.andThen]
  have hx : (W.setCell ⟨tb, 0, none⟩ (.int .i64 n)).cell? ⟨tb, 1, none⟩ = some o1 := by rw [World.cell?_setCell_other _ _ _ _ (by simp)]; exact ht1
  simp [ReflectliteValue.flagAddr, loadVar, isAgg, underlying, Tryz.underlying104, hb0, hb1, Result.andThen, rl_direct_at_, storeVar, Value.cells, storeCells, Addr.add, loadCells, loadCellsFrom]
  rw [run_store Tryz.prog W ⟨tb, 0, none⟩ _ _ (by rfl), ht0]
  simp only [hf0, Bool.false_eq_true, if_false]
  rw [run_store Tryz.prog _ ⟨tb, 1, none⟩ _ _ hv, hx]
  simp [hf1]
theorem rl_isNil_in_ (a q : Addr) (W : World) (ha : W.cell? a = some (.pointer (some q))) :
    (ReflectliteValue.method (ReflectliteValue.valueError "reflectlite.Value.IsNil" 0) ReflectliteValue.isNil #[.agg #[.pointer (some ⟨7, 110, none⟩), .pointer (some a), .int .u64 150]]).run Tryz.prog W = .ok (.bool false) W := by
  rw [rlm]
  simp only [Sem.run_bind, rl_partsP_in_, Result.andThen]
  simp [ReflectliteValue.isNil, loadVar, isAgg, underlying, Tryz.underlying110, ha, Result.andThen]
theorem rl_elemV_in_ (a q : Addr) (W : World) (ha : W.cell? a = some (.pointer (some q))) :
    (ReflectliteValue.method (ReflectliteValue.valueError "reflectlite.Value.Elem" 0) ReflectliteValue.elem #[.agg #[.pointer (some ⟨7, 110, none⟩), .pointer (some a), .int .u64 150]]).run Tryz.prog W
      = .ok (.agg #[.pointer (some ⟨7, 106, none⟩), .pointer (some q), .int .u64 409]) W := by
  rw [rlm]
  simp only [Sem.run_bind, rl_partsP_in_, Result.andThen]
  simp [ReflectliteValue.elem, loadVar, isAgg, underlying, Tryz.underlying110, ha, Result.andThen, rl_elemOf_in_, rl_mk_in_]
theorem rl_set_in_ (tb b : Nat) (n : Int) (v : Value) (hv : v.oneCell' = true) (o0 o1 : Value) (W : World) (hb0 : W.cell? ⟨b, 0, none⟩ = some (.int .i64 n)) (hb1 : W.cell? ⟨b, 1, none⟩ = some v)
    (ht0 : W.cell? ⟨tb, 0, none⟩ = some o0) (ht1 : W.cell? ⟨tb, 1, none⟩ = some o1) (hf0 : W.frozen? ⟨tb, 0, none⟩ = false) (hf1 : W.frozen? ⟨tb, 1, none⟩ = false) :
    (ReflectliteValue.set #[.agg #[.pointer (some ⟨7, 106, none⟩), .pointer (some ⟨tb, 0, none⟩), .int .u64 409], .agg #[.pointer (some ⟨7, 106, none⟩), .pointer (some ⟨b, 0, none⟩), .int .u64 153]]).run Tryz.prog W = .ok (.tuple #[]) ((W.setCell ⟨tb, 0, none⟩ (.int .i64 n)).setCell ⟨tb, 1, none⟩ v) := by
  rw [rls]
  simp only [Sem.run_bind, rl_partsA_in_, rl_partsE_in_, Result.andThen]
  have hx : (W.setCell ⟨tb, 0, none⟩ (.int .i64 n)).cell? ⟨tb, 1, none⟩ = some o1 := by rw [World.cell?_setCell_other _ _ _ _ (by simp)]; exact ht1
  simp [ReflectliteValue.flagAddr, loadVar, isAgg, underlying, Tryz.underlying106, hb0, hb1, Result.andThen, rl_direct_in_, storeVar, Value.cells, storeCells, Addr.add, loadCells, loadCellsFrom]
  rw [run_store Tryz.prog W ⟨tb, 0, none⟩ _ _ (by rfl), ht0]
  simp only [hf0, Bool.false_eq_true, if_false]
  rw [run_store Tryz.prog _ ⟨tb, 1, none⟩ _ _ hv, hx]
  simp [hf1]
/-- What errors.As leaves: nothing found; or found, and the target's cells written. -/
def AsPost (tb : Nat) (T : TypeId) (r : Option (Array Value)) (w : World) (ev : Ending) (w' : World) : Prop :=
  match r with
  | none => ev = .returned (.bool false) ∧ Below w.heap.size w w'
  | some cs => ev = .returned (.bool true) ∧ w.grownBy w' (some tb) ∧ w'.heap[tb]? = some (.cells cs T (0, 0))

set_option maxRecDepth 100000 in
set_option maxHeartbeats 4000000 in
theorem as_code (e : Er) (tb pb : Nat) (o0 : Value) (w : World)
    (hp : w.cell? ⟨pb, 0, none⟩ = some (.pointer (some ⟨tb, 0, none⟩))) (ht : w.heap[tb]? = some (.cells #[o0] 33 (0, 0))) (hne : pb ≠ tb) :
    Calls Tryz.prog 87 #[e.enc, .iface 108 (.pointer (some ⟨tb, 0, none⟩)), .agg #[.pointer (some ⟨7, 108, none⟩), .pointer (some ⟨pb, 0, none⟩), .int .u64 150], .iface 234 (.agg #[.pointer (some ⟨7, 33, none⟩)])] w
      (AsPost tb 33 (e.code?.map fun n => #[.int .i64 n]) w) := by
  have hTO := @run_callFunc_extern Tryz.prog 108 _ ReflectliteType.typeOf Tryz.func108 (by kernel_rfl) (by kernel_rfl) (by kernel_rfl) (by kernel_rfl)
  have hAT := @run_callFunc_extern Tryz.prog 172 _ (ReflectliteType.relation "AssignableTo" ReflectliteType.assignableTo) Tryz.func172 (by kernel_rfl) (by kernel_rfl) (by kernel_rfl) (by kernel_rfl)
  have hEl := @run_callFunc_extern Tryz.prog 109 _ (ReflectliteValue.method (ReflectliteValue.valueError "reflectlite.Value.Elem" 0) ReflectliteValue.elem) Tryz.func109 (by kernel_rfl) (by kernel_rfl) (by kernel_rfl) (by kernel_rfl)
  have hVO := @run_callFunc_extern Tryz.prog 84 _ (fun args => ReflectliteValue.unpack (args.getD 0 (.tuple #[]))) Tryz.func84 (by kernel_rfl) (by kernel_rfl) (by kernel_rfl) (by kernel_rfl)
  have hSe := @run_callFunc_extern Tryz.prog 110 _ ReflectliteValue.set Tryz.func110 (by kernel_rfl) (by kernel_rfl) (by kernel_rfl) (by kernel_rfl)
  have mA := rl_methodAssignableTo
  have a_code := rl_assign_code_code
  have t_code := rl_typeOf_code
  have x_code := ta_as_code
  have y_code := ta_un_code
  have z_code := ta_us_code
  have a_at_ := rl_assign_at__code
  have t_at_ := rl_typeOf_at_
  have x_at_ := ta_as_at_
  have y_at_ := ta_un_at_
  have m_at_ := rl_unwrap_at_
  have a_in_ := rl_assign_in__code
  have t_in_ := rl_typeOf_in_
  have x_in_ := ta_as_in_
  have y_in_ := ta_un_in_
  have m_in_ := rl_unwrap_in_
  have v1 := rl_valueOfE_code
  have hpl : pb < w.heap.size := World.block_lt_of_cell? w _ hp
  have htl : tb < w.heap.size := blk_lt' ht
  go_enter Tryz.func87, Tryz.ntmps87
  go_wp2
  go_loopg [0] e.size (fun k v wr => ∃ e' : Er, v = e'.enc ∧ Hid (e'.code? = e.code?) ∧ e'.size ≤ k ∧ Below (w.heap.size + 1) (w.alloc (.cells #[.pointer (some ⟨7, 108, none⟩), .pointer (some ⟨pb, 0, none⟩), .int .u64 150] 135)) wr)
  case atStart => exact ⟨e, rfl, rfl, Nat.le_refl _, Below.refl _ _⟩
  case round =>
    obtain ⟨e', rfl, hc, hk, hB⟩ := hrel
    have c0 : wr.cell? ⟨w.heap.size, 0, none⟩ = some (.pointer (some ⟨7, 108, none⟩)) := cell_below hB (by simp) (by simp)
    have c1 : wr.cell? ⟨w.heap.size, 1, none⟩ = some (.pointer (some ⟨pb, 0, none⟩)) := cell_below hB (by simp) (by simp)
    have c2 : wr.cell? ⟨w.heap.size, 2, none⟩ = some (.int .u64 150) := cell_below hB (by simp) (by simp)
    have hp' : wr.cell? ⟨pb, 0, none⟩ = some (.pointer (some ⟨tb, 0, none⟩)) := cell_below hB (by simp; omega) (by rw [World.cell?_alloc_lt _ _ _ (by simpa using hpl)]; exact hp)
    have ht' : wr.heap[tb]? = some (.cells #[o0] 33 (0, 0)) := (hB.block tb (by omega)).trans ((Below.heap_alloc _ _ _ htl).trans ht)
    have hs : w.heap.size + 1 ≤ wr.heap.size := by have := hB.size; simpa using this
    have hB0 : Below w.heap.size w wr := ((Below.refl _ _).alloc (Nat.le_refl _) _).trans (hB.mono (by omega))
    have HB0 := Lib.hid hB0
    have HB := Lib.hid hB
    have Hc := Lib.hid hc
    clear hc hB hB0 hp ht
    cases e' with
    | code n =>
      have el := rl_elemV_code ⟨pb, 0, none⟩ ⟨tb, 0, none⟩ wr hp'
      have st := rl_set_code tb wr.heap.size n o0 (wr.alloc (.cells #[.int .i64 n] 33)) (by simp) (by rw [World.cell?_alloc_lt _ _ _ (by simp; omega), blk_cell' ht']; rfl) (by rw [World.frozen?_alloc_old _ _ _ (by simp; omega)]; exact blk_free' ht' 0)
      have fin : AsPost tb 33 (e.code?.map fun n => #[.int .i64 n]) w (.returned (.bool true)) ((wr.alloc (.cells #[.int .i64 n] 33)).setCell ⟨tb, 0, none⟩ (.int .i64 n)) := by
        have hb : (wr.alloc (.cells #[.int .i64 n] 33)).heap[tb]? = some (.cells #[o0] 33 (0, 0)) := (Below.heap_alloc _ _ _ (by omega)).trans ht'
        have hg : w.grownBy (wr.alloc (.cells #[.int .i64 n] 33)) (some tb) := grown_after HB0.out (World.grownBy_alloc _ _ _)
        have he : e.code? = some n := Hc.out.symm
        rw [he]
        exact ⟨rfl, grown_set hg 0 _, by simpa using blk_set' hb 0 (.int .i64 n)⟩
      have Hfin := Lib.hid fin
      clear fin hp' ht'
      simp only [Er.enc]
      go_wp2
      go_ret
      exact Hfin.out
    | at_ p e1 =>
      obtain ⟨tt, tv, he1⟩ := e1.enc_iface
      clear hp' ht'
      simp only [Er.enc, he1]
      have He1 := Lib.hid he1
      clear he1
      go_wp2
      go_roundg e1.size
      case measure => simp only [Er.size] at hk; omega
      case rel => exact ⟨e1, He1.out.symm, Hc.out, Nat.le_refl _, HB.out.alloc hs _⟩
    | in_ p e1 =>
      obtain ⟨tt, tv, he1⟩ := e1.enc_iface
      clear hp' ht'
      simp only [Er.enc, he1]
      have He1 := Lib.hid he1
      clear he1
      go_wp2
      go_roundg e1.size
      case measure => simp only [Er.size] at hk; omega
      case rel => exact ⟨e1, He1.out.symm, Hc.out, Nat.le_refl _, HB.out.alloc hs _⟩
set_option maxRecDepth 100000 in
set_option maxHeartbeats 4000000 in
theorem as_at_ (e : Er) (tb pb : Nat) (o0 o1 : Value) (w : World)
    (hp : w.cell? ⟨pb, 0, none⟩ = some (.pointer (some ⟨tb, 0, none⟩))) (ht : w.heap[tb]? = some (.cells #[o0, o1] 104 (0, 0))) (hne : pb ≠ tb) :
    Calls Tryz.prog 87 #[e.enc, .iface 109 (.pointer (some ⟨tb, 0, none⟩)), .agg #[.pointer (some ⟨7, 109, none⟩), .pointer (some ⟨pb, 0, none⟩), .int .u64 150], .iface 234 (.agg #[.pointer (some ⟨7, 104, none⟩)])] w
      (AsPost tb 104 (e.at?.map fun q => #[.int .i64 q.1, q.2.enc]) w) := by
  have hTO := @run_callFunc_extern Tryz.prog 108 _ ReflectliteType.typeOf Tryz.func108 (by kernel_rfl) (by kernel_rfl) (by kernel_rfl) (by kernel_rfl)
  have hAT := @run_callFunc_extern Tryz.prog 172 _ (ReflectliteType.relation "AssignableTo" ReflectliteType.assignableTo) Tryz.func172 (by kernel_rfl) (by kernel_rfl) (by kernel_rfl) (by kernel_rfl)
  have hEl := @run_callFunc_extern Tryz.prog 109 _ (ReflectliteValue.method (ReflectliteValue.valueError "reflectlite.Value.Elem" 0) ReflectliteValue.elem) Tryz.func109 (by kernel_rfl) (by kernel_rfl) (by kernel_rfl) (by kernel_rfl)
  have hVO := @run_callFunc_extern Tryz.prog 84 _ (fun args => ReflectliteValue.unpack (args.getD 0 (.tuple #[]))) Tryz.func84 (by kernel_rfl) (by kernel_rfl) (by kernel_rfl) (by kernel_rfl)
  have hSe := @run_callFunc_extern Tryz.prog 110 _ ReflectliteValue.set Tryz.func110 (by kernel_rfl) (by kernel_rfl) (by kernel_rfl) (by kernel_rfl)
  have mA := rl_methodAssignableTo
  have a_code := rl_assign_code_at_
  have t_code := rl_typeOf_code
  have x_code := ta_as_code
  have y_code := ta_un_code
  have z_code := ta_us_code
  have a_at_ := rl_assign_at__at_
  have t_at_ := rl_typeOf_at_
  have x_at_ := ta_as_at_
  have y_at_ := ta_un_at_
  have m_at_ := rl_unwrap_at_
  have a_in_ := rl_assign_in__at_
  have t_in_ := rl_typeOf_in_
  have x_in_ := ta_as_in_
  have y_in_ := ta_un_in_
  have m_in_ := rl_unwrap_in_
  have v1 := rl_valueOfE_at_
  have hpl : pb < w.heap.size := World.block_lt_of_cell? w _ hp
  have htl : tb < w.heap.size := blk_lt' ht
  go_enter Tryz.func87, Tryz.ntmps87
  go_wp2
  go_loopg [0] e.size (fun k v wr => ∃ e' : Er, v = e'.enc ∧ Hid (e'.at? = e.at?) ∧ e'.size ≤ k ∧ Below (w.heap.size + 1) (w.alloc (.cells #[.pointer (some ⟨7, 109, none⟩), .pointer (some ⟨pb, 0, none⟩), .int .u64 150] 135)) wr)
  case atStart => exact ⟨e, rfl, rfl, Nat.le_refl _, Below.refl _ _⟩
  case round =>
    obtain ⟨e', rfl, hc, hk, hB⟩ := hrel
    have c0 : wr.cell? ⟨w.heap.size, 0, none⟩ = some (.pointer (some ⟨7, 109, none⟩)) := cell_below hB (by simp) (by simp)
    have c1 : wr.cell? ⟨w.heap.size, 1, none⟩ = some (.pointer (some ⟨pb, 0, none⟩)) := cell_below hB (by simp) (by simp)
    have c2 : wr.cell? ⟨w.heap.size, 2, none⟩ = some (.int .u64 150) := cell_below hB (by simp) (by simp)
    have hp' : wr.cell? ⟨pb, 0, none⟩ = some (.pointer (some ⟨tb, 0, none⟩)) := cell_below hB (by simp; omega) (by rw [World.cell?_alloc_lt _ _ _ (by simpa using hpl)]; exact hp)
    have ht' : wr.heap[tb]? = some (.cells #[o0, o1] 104 (0, 0)) := (hB.block tb (by omega)).trans ((Below.heap_alloc _ _ _ htl).trans ht)
    have hs : w.heap.size + 1 ≤ wr.heap.size := by have := hB.size; simpa using this
    have hB0 : Below w.heap.size w wr := ((Below.refl _ _).alloc (Nat.le_refl _) _).trans (hB.mono (by omega))
    have HB0 := Lib.hid hB0
    have HB := Lib.hid hB
    have Hc := Lib.hid hc
    clear hc hB hB0 hp ht
    cases e' with
    | code n =>
      have he : e.at? = none := Hc.out.symm
      have fin : AsPost tb 104 (e.at?.map fun q => #[.int .i64 q.1, q.2.enc]) w (.returned (.bool false)) wr := by rw [he]; exact ⟨rfl, HB0.out⟩
      have Hfin := Lib.hid fin
      clear fin he hp' ht'
      simp only [Er.enc]
      go_wp2
      go_ret
      exact Hfin.out
    | at_ p e1 =>
      have el := rl_elemV_at_ ⟨pb, 0, none⟩ ⟨tb, 0, none⟩ wr hp'
      have st := rl_set_at_ tb wr.heap.size p e1.enc e1.enc_one o0 o1 (wr.alloc (.cells #[.int .i64 p, e1.enc] 104)) (by simp) (by simp) (by rw [World.cell?_alloc_lt _ _ _ (by simp; omega), blk_cell' ht']; rfl) (by rw [World.cell?_alloc_lt _ _ _ (by simp; omega), blk_cell' ht']; rfl) (by rw [World.frozen?_alloc_old _ _ _ (by simp; omega)]; exact blk_free' ht' 0) (by rw [World.frozen?_alloc_old _ _ _ (by simp; omega)]; exact blk_free' ht' 1)
      have fin : AsPost tb 104 (e.at?.map fun q => #[.int .i64 q.1, q.2.enc]) w (.returned (.bool true)) (((wr.alloc (.cells #[.int .i64 p, e1.enc] 104)).setCell ⟨tb, 0, none⟩ (.int .i64 p)).setCell ⟨tb, 1, none⟩ e1.enc) := by
        have hb : (wr.alloc (.cells #[.int .i64 p, e1.enc] 104)).heap[tb]? = some (.cells #[o0, o1] 104 (0, 0)) := (Below.heap_alloc _ _ _ (by omega)).trans ht'
        have hg : w.grownBy (wr.alloc (.cells #[.int .i64 p, e1.enc] 104)) (some tb) := grown_after HB0.out (World.grownBy_alloc _ _ _)
        have he : e.at? = some (p, e1) := Hc.out.symm
        rw [he]
        exact ⟨rfl, grown_set (grown_set hg 0 _) 1 _, by simpa using blk_set' (blk_set' hb 0 (.int .i64 p)) 1 e1.enc⟩
      have Hfin := Lib.hid fin
      clear fin hp' ht'
      simp only [Er.enc]
      go_wp2
      go_ret
      exact Hfin.out
    | in_ p e1 =>
      obtain ⟨tt, tv, he1⟩ := e1.enc_iface
      clear hp' ht'
      simp only [Er.enc, he1]
      have He1 := Lib.hid he1
      clear he1
      go_wp2
      go_roundg e1.size
      case measure => simp only [Er.size] at hk; omega
      case rel => exact ⟨e1, He1.out.symm, Hc.out, Nat.le_refl _, HB.out.alloc hs _⟩
set_option maxRecDepth 100000 in
set_option maxHeartbeats 4000000 in
theorem as_in_ (e : Er) (tb pb : Nat) (o0 o1 : Value) (w : World)
    (hp : w.cell? ⟨pb, 0, none⟩ = some (.pointer (some ⟨tb, 0, none⟩))) (ht : w.heap[tb]? = some (.cells #[o0, o1] 106 (0, 0))) (hne : pb ≠ tb) :
    Calls Tryz.prog 87 #[e.enc, .iface 110 (.pointer (some ⟨tb, 0, none⟩)), .agg #[.pointer (some ⟨7, 110, none⟩), .pointer (some ⟨pb, 0, none⟩), .int .u64 150], .iface 234 (.agg #[.pointer (some ⟨7, 106, none⟩)])] w
      (AsPost tb 106 (e.in?.map fun q => #[.int .i64 q.1, q.2.enc]) w) := by
  have hTO := @run_callFunc_extern Tryz.prog 108 _ ReflectliteType.typeOf Tryz.func108 (by kernel_rfl) (by kernel_rfl) (by kernel_rfl) (by kernel_rfl)
  have hAT := @run_callFunc_extern Tryz.prog 172 _ (ReflectliteType.relation "AssignableTo" ReflectliteType.assignableTo) Tryz.func172 (by kernel_rfl) (by kernel_rfl) (by kernel_rfl) (by kernel_rfl)
  have hEl := @run_callFunc_extern Tryz.prog 109 _ (ReflectliteValue.method (ReflectliteValue.valueError "reflectlite.Value.Elem" 0) ReflectliteValue.elem) Tryz.func109 (by kernel_rfl) (by kernel_rfl) (by kernel_rfl) (by kernel_rfl)
  have hVO := @run_callFunc_extern Tryz.prog 84 _ (fun args => ReflectliteValue.unpack (args.getD 0 (.tuple #[]))) Tryz.func84 (by kernel_rfl) (by kernel_rfl) (by kernel_rfl) (by kernel_rfl)
  have hSe := @run_callFunc_extern Tryz.prog 110 _ ReflectliteValue.set Tryz.func110 (by kernel_rfl) (by kernel_rfl) (by kernel_rfl) (by kernel_rfl)
  have mA := rl_methodAssignableTo
  have a_code := rl_assign_code_in_
  have t_code := rl_typeOf_code
  have x_code := ta_as_code
  have y_code := ta_un_code
  have z_code := ta_us_code
  have a_at_ := rl_assign_at__in_
  have t_at_ := rl_typeOf_at_
  have x_at_ := ta_as_at_
  have y_at_ := ta_un_at_
  have m_at_ := rl_unwrap_at_
  have a_in_ := rl_assign_in__in_
  have t_in_ := rl_typeOf_in_
  have x_in_ := ta_as_in_
  have y_in_ := ta_un_in_
  have m_in_ := rl_unwrap_in_
  have v1 := rl_valueOfE_in_
  have hpl : pb < w.heap.size := World.block_lt_of_cell? w _ hp
  have htl : tb < w.heap.size := blk_lt' ht
  go_enter Tryz.func87, Tryz.ntmps87
  go_wp2
  go_loopg [0] e.size (fun k v wr => ∃ e' : Er, v = e'.enc ∧ Hid (e'.in? = e.in?) ∧ e'.size ≤ k ∧ Below (w.heap.size + 1) (w.alloc (.cells #[.pointer (some ⟨7, 110, none⟩), .pointer (some ⟨pb, 0, none⟩), .int .u64 150] 135)) wr)
  case atStart => exact ⟨e, rfl, rfl, Nat.le_refl _, Below.refl _ _⟩
  case round =>
    obtain ⟨e', rfl, hc, hk, hB⟩ := hrel
    have c0 : wr.cell? ⟨w.heap.size, 0, none⟩ = some (.pointer (some ⟨7, 110, none⟩)) := cell_below hB (by simp) (by simp)
    have c1 : wr.cell? ⟨w.heap.size, 1, none⟩ = some (.pointer (some ⟨pb, 0, none⟩)) := cell_below hB (by simp) (by simp)
    have c2 : wr.cell? ⟨w.heap.size, 2, none⟩ = some (.int .u64 150) := cell_below hB (by simp) (by simp)
    have hp' : wr.cell? ⟨pb, 0, none⟩ = some (.pointer (some ⟨tb, 0, none⟩)) := cell_below hB (by simp; omega) (by rw [World.cell?_alloc_lt _ _ _ (by simpa using hpl)]; exact hp)
    have ht' : wr.heap[tb]? = some (.cells #[o0, o1] 106 (0, 0)) := (hB.block tb (by omega)).trans ((Below.heap_alloc _ _ _ htl).trans ht)
    have hs : w.heap.size + 1 ≤ wr.heap.size := by have := hB.size; simpa using this
    have hB0 : Below w.heap.size w wr := ((Below.refl _ _).alloc (Nat.le_refl _) _).trans (hB.mono (by omega))
    have HB0 := Lib.hid hB0
    have HB := Lib.hid hB
    have Hc := Lib.hid hc
    clear hc hB hB0 hp ht
    cases e' with
    | code n =>
      have he : e.in? = none := Hc.out.symm
      have fin : AsPost tb 106 (e.in?.map fun q => #[.int .i64 q.1, q.2.enc]) w (.returned (.bool false)) wr := by rw [he]; exact ⟨rfl, HB0.out⟩
      have Hfin := Lib.hid fin
      clear fin he hp' ht'
      simp only [Er.enc]
      go_wp2
      go_ret
      exact Hfin.out
    | at_ p e1 =>
      obtain ⟨tt, tv, he1⟩ := e1.enc_iface
      clear hp' ht'
      simp only [Er.enc, he1]
      have He1 := Lib.hid he1
      clear he1
      go_wp2
      go_roundg e1.size
      case measure => simp only [Er.size] at hk; omega
      case rel => exact ⟨e1, He1.out.symm, Hc.out, Nat.le_refl _, HB.out.alloc hs _⟩
    | in_ p e1 =>
      have el := rl_elemV_in_ ⟨pb, 0, none⟩ ⟨tb, 0, none⟩ wr hp'
      have st := rl_set_in_ tb wr.heap.size p e1.enc e1.enc_one o0 o1 (wr.alloc (.cells #[.int .i64 p, e1.enc] 106)) (by simp) (by simp) (by rw [World.cell?_alloc_lt _ _ _ (by simp; omega), blk_cell' ht']; rfl) (by rw [World.cell?_alloc_lt _ _ _ (by simp; omega), blk_cell' ht']; rfl) (by rw [World.frozen?_alloc_old _ _ _ (by simp; omega)]; exact blk_free' ht' 0) (by rw [World.frozen?_alloc_old _ _ _ (by simp; omega)]; exact blk_free' ht' 1)
      have fin : AsPost tb 106 (e.in?.map fun q => #[.int .i64 q.1, q.2.enc]) w (.returned (.bool true)) (((wr.alloc (.cells #[.int .i64 p, e1.enc] 106)).setCell ⟨tb, 0, none⟩ (.int .i64 p)).setCell ⟨tb, 1, none⟩ e1.enc) := by
        have hb : (wr.alloc (.cells #[.int .i64 p, e1.enc] 106)).heap[tb]? = some (.cells #[o0, o1] 106 (0, 0)) := (Below.heap_alloc _ _ _ (by omega)).trans ht'
        have hg : w.grownBy (wr.alloc (.cells #[.int .i64 p, e1.enc] 106)) (some tb) := grown_after HB0.out (World.grownBy_alloc _ _ _)
        have he : e.in? = some (p, e1) := Hc.out.symm
        rw [he]
        exact ⟨rfl, grown_set (grown_set hg 0 _) 1 _, by simpa using blk_set' (blk_set' hb 0 (.int .i64 p)) 1 e1.enc⟩
      have Hfin := Lib.hid fin
      clear fin hp' ht'
      simp only [Er.enc]
      go_wp2
      go_ret
      exact Hfin.out
theorem AsPost.later {tb : Nat} {T : TypeId} {r : Option (Array Value)} {w w1 w' : World} {ev : Ending} (hB : Below w.heap.size w w1) (h : AsPost tb T r w1 ev w') : AsPost tb T r w ev w' := by
  cases r with
  | none => exact ⟨h.1, hB.trans (h.2.mono hB.size)⟩
  | some cs => exact ⟨h.1, grown_after hB h.2.1, h.2.2⟩
theorem AsPost.ret {tb : Nat} {T : TypeId} {r : Option (Array Value)} {w w' : World} {ev : Ending} (h : AsPost tb T r w ev w') : ∃ b, ev = .returned (.bool b) := by
  cases r with
  | none => exact ⟨_, h.1⟩
  | some cs => exact ⟨_, h.1⟩
theorem As_nil (t : Value) (w : World) : Calls Tryz.prog 35 #[.nilIface, t] w fun e w' => e = .returned (.bool false) ∧ w = w' := by
  go_enter Tryz.func35, Tryz.ntmps35
  go_wp2
  go_ret
  exact ⟨rfl, rfl⟩
set_option maxRecDepth 100000 in
set_option maxHeartbeats 4000000 in
theorem As_code (e : Er) (tb : Nat) (o0 : Value) (w : World)
    (hg : w.cell? ⟨0, 0, none⟩ = some (.iface 234 (.agg #[.pointer (some ⟨7, 26, none⟩)]))) (ht : w.heap[tb]? = some (.cells #[o0] 33 (0, 0))) :
    Calls Tryz.prog 35 #[e.enc, .iface 108 (.pointer (some ⟨tb, 0, none⟩))] w (AsPost tb 33 (e.code?.map fun n => #[.int .i64 n]) w) := by
  have hVO := @run_callFunc_extern Tryz.prog 84 _ (fun args => ReflectliteValue.unpack (args.getD 0 (.tuple #[]))) Tryz.func84 (by kernel_rfl) (by kernel_rfl) (by kernel_rfl) (by kernel_rfl)
  have hTy := @run_callFunc_extern Tryz.prog 85 _ (ReflectliteValue.methodAny (ReflectliteValue.valueError "reflectlite.Value.Type" 0) (fun t _ _ _ => ReflectliteType.toType t)) Tryz.func85 (by kernel_rfl) (by kernel_rfl) (by kernel_rfl) (by kernel_rfl)
  have hIN := @run_callFunc_extern Tryz.prog 86 _ (ReflectliteValue.method (ReflectliteValue.valueError "reflectlite.Value.IsNil" 0) ReflectliteValue.isNil) Tryz.func86 (by kernel_rfl) (by kernel_rfl) (by kernel_rfl) (by kernel_rfl)
  have hKi := @run_callFunc_extern Tryz.prog 159 _ (ReflectliteType.abiMethod fun t => do pure (.int .u8 (← Rtype.kind t))) Tryz.func159 (by kernel_rfl) (by kernel_rfl) (by kernel_rfl) (by kernel_rfl)
  have hTE := @run_callFunc_extern Tryz.prog 174 _ (ReflectliteType.method ReflectliteType.elem) Tryz.func174 (by kernel_rfl) (by kernel_rfl) (by kernel_rfl) (by kernel_rfl)
  have hIm := @run_callFunc_extern Tryz.prog 175 _ (ReflectliteType.relation "Implements" ReflectliteType.implements_) Tryz.func175 (by kernel_rfl) (by kernel_rfl) (by kernel_rfl) (by kernel_rfl)
  have f1 := rl_valueOfP_code
  have f2 := rl_type_code
  have f3 := rl_kindP_code
  have f4 := rl_kindE_code
  have f5 := rl_elem_code
  have f6 := rl_implements_code
  have m1 := rl_methodKind
  have m2 := rl_methodElem
  have m3 := rl_methodImplements
  have htl : tb < w.heap.size := blk_lt' ht
  have hgl : 0 < w.heap.size := World.block_lt_of_cell? w _ hg
  have i8 := rl_isNil_code ⟨w.heap.size, 0, none⟩ ⟨tb, 0, none⟩ ((w.alloc (.cells #[.pointer (some ⟨tb, 0, none⟩)] 108)).alloc (.cells #[.pointer (some ⟨7, 108, none⟩), .pointer (some ⟨w.heap.size, 0, none⟩), .int .u64 150] 135)) (by rw [World.cell?_alloc_lt _ _ _ (by simp)]; exact World.cell?_alloc_new _ _ _ _)
  have hg2 : ((w.alloc (.cells #[.pointer (some ⟨tb, 0, none⟩)] 108)).alloc (.cells #[.pointer (some ⟨7, 108, none⟩), .pointer (some ⟨w.heap.size, 0, none⟩), .int .u64 150] 135)).cell? ⟨0, 0, none⟩ = some (.iface 234 (.agg #[.pointer (some ⟨7, 26, none⟩)])) := by rw [World.cell?_alloc_lt _ _ _ (by simp <;> omega), World.cell?_alloc_lt _ _ _ hgl]; exact hg
  obtain ⟨tt, tv, he1⟩ := e.enc_iface
  have HC := Lib.hid (fun W hp ht hne => as_code e tb w.heap.size o0 W hp ht hne)
  rw [he1]
  rw [he1] at HC
  clear he1 hg
  have Ht := Lib.hid ht
  clear ht
  go_enter Tryz.func35, Tryz.ntmps35
  go_wp2_with fail
  refine (HC.out _ (by rw [World.cell?_alloc_lt _ _ _ (by simp)]; simp) ((Below.heap_alloc _ _ _ (by simp; omega)).trans ((Below.heap_alloc _ _ _ htl).trans Ht.out)) (by omega)).mono ?_
  intro ev w1 hpost
  have hp2 := hpost.later (((Below.refl w.heap.size w).alloc (Nat.le_refl _) _).alloc (by simp) _)
  obtain ⟨b, rfl⟩ := hpost.ret
  have Hp2 := Lib.hid hp2
  clear hp2 hpost
  go_wp2
  go_ret
  exact Hp2.out
set_option maxRecDepth 100000 in
set_option maxHeartbeats 4000000 in
theorem As_at_ (e : Er) (tb : Nat) (o0 o1 : Value) (w : World)
    (hg : w.cell? ⟨0, 0, none⟩ = some (.iface 234 (.agg #[.pointer (some ⟨7, 26, none⟩)]))) (ht : w.heap[tb]? = some (.cells #[o0, o1] 104 (0, 0))) :
    Calls Tryz.prog 35 #[e.enc, .iface 109 (.pointer (some ⟨tb, 0, none⟩))] w (AsPost tb 104 (e.at?.map fun q => #[.int .i64 q.1, q.2.enc]) w) := by
  have hVO := @run_callFunc_extern Tryz.prog 84 _ (fun args => ReflectliteValue.unpack (args.getD 0 (.tuple #[]))) Tryz.func84 (by kernel_rfl) (by kernel_rfl) (by kernel_rfl) (by kernel_rfl)
  have hTy := @run_callFunc_extern Tryz.prog 85 _ (ReflectliteValue.methodAny (ReflectliteValue.valueError "reflectlite.Value.Type" 0) (fun t _ _ _ => ReflectliteType.toType t)) Tryz.func85 (by kernel_rfl) (by kernel_rfl) (by kernel_rfl) (by kernel_rfl)
  have hIN := @run_callFunc_extern Tryz.prog 86 _ (ReflectliteValue.method (ReflectliteValue.valueError "reflectlite.Value.IsNil" 0) ReflectliteValue.isNil) Tryz.func86 (by kernel_rfl) (by kernel_rfl) (by kernel_rfl) (by kernel_rfl)
  have hKi := @run_callFunc_extern Tryz.prog 159 _ (ReflectliteType.abiMethod fun t => do pure (.int .u8 (← Rtype.kind t))) Tryz.func159 (by kernel_rfl) (by kernel_rfl) (by kernel_rfl) (by kernel_rfl)
  have hTE := @run_callFunc_extern Tryz.prog 174 _ (ReflectliteType.method ReflectliteType.elem) Tryz.func174 (by kernel_rfl) (by kernel_rfl) (by kernel_rfl) (by kernel_rfl)
  have hIm := @run_callFunc_extern Tryz.prog 175 _ (ReflectliteType.relation "Implements" ReflectliteType.implements_) Tryz.func175 (by kernel_rfl) (by kernel_rfl) (by kernel_rfl) (by kernel_rfl)
  have f1 := rl_valueOfP_at_
  have f2 := rl_type_at_
  have f3 := rl_kindP_at_
  have f4 := rl_kindE_at_
  have f5 := rl_elem_at_
  have f6 := rl_implements_at_
  have m1 := rl_methodKind
  have m2 := rl_methodElem
  have m3 := rl_methodImplements
  have htl : tb < w.heap.size := blk_lt' ht
  have hgl : 0 < w.heap.size := World.block_lt_of_cell? w _ hg
  have i8 := rl_isNil_at_ ⟨w.heap.size, 0, none⟩ ⟨tb, 0, none⟩ ((w.alloc (.cells #[.pointer (some ⟨tb, 0, none⟩)] 109)).alloc (.cells #[.pointer (some ⟨7, 109, none⟩), .pointer (some ⟨w.heap.size, 0, none⟩), .int .u64 150] 135)) (by rw [World.cell?_alloc_lt _ _ _ (by simp)]; exact World.cell?_alloc_new _ _ _ _)
  have hg2 : ((w.alloc (.cells #[.pointer (some ⟨tb, 0, none⟩)] 109)).alloc (.cells #[.pointer (some ⟨7, 109, none⟩), .pointer (some ⟨w.heap.size, 0, none⟩), .int .u64 150] 135)).cell? ⟨0, 0, none⟩ = some (.iface 234 (.agg #[.pointer (some ⟨7, 26, none⟩)])) := by rw [World.cell?_alloc_lt _ _ _ (by simp <;> omega), World.cell?_alloc_lt _ _ _ hgl]; exact hg
  obtain ⟨tt, tv, he1⟩ := e.enc_iface
  have HC := Lib.hid (fun W hp ht hne => as_at_ e tb w.heap.size o0 o1 W hp ht hne)
  rw [he1]
  rw [he1] at HC
  clear he1 hg
  have Ht := Lib.hid ht
  clear ht
  go_enter Tryz.func35, Tryz.ntmps35
  go_wp2_with fail
  refine (HC.out _ (by rw [World.cell?_alloc_lt _ _ _ (by simp)]; simp) ((Below.heap_alloc _ _ _ (by simp; omega)).trans ((Below.heap_alloc _ _ _ htl).trans Ht.out)) (by omega)).mono ?_
  intro ev w1 hpost
  have hp2 := hpost.later (((Below.refl w.heap.size w).alloc (Nat.le_refl _) _).alloc (by simp) _)
  obtain ⟨b, rfl⟩ := hpost.ret
  have Hp2 := Lib.hid hp2
  clear hp2 hpost
  go_wp2
  go_ret
  exact Hp2.out
set_option maxRecDepth 100000 in
set_option maxHeartbeats 4000000 in
theorem As_in_ (e : Er) (tb : Nat) (o0 o1 : Value) (w : World)
    (hg : w.cell? ⟨0, 0, none⟩ = some (.iface 234 (.agg #[.pointer (some ⟨7, 26, none⟩)]))) (ht : w.heap[tb]? = some (.cells #[o0, o1] 106 (0, 0))) :
    Calls Tryz.prog 35 #[e.enc, .iface 110 (.pointer (some ⟨tb, 0, none⟩))] w (AsPost tb 106 (e.in?.map fun q => #[.int .i64 q.1, q.2.enc]) w) := by
  have hVO := @run_callFunc_extern Tryz.prog 84 _ (fun args => ReflectliteValue.unpack (args.getD 0 (.tuple #[]))) Tryz.func84 (by kernel_rfl) (by kernel_rfl) (by kernel_rfl) (by kernel_rfl)
  have hTy := @run_callFunc_extern Tryz.prog 85 _ (ReflectliteValue.methodAny (ReflectliteValue.valueError "reflectlite.Value.Type" 0) (fun t _ _ _ => ReflectliteType.toType t)) Tryz.func85 (by kernel_rfl) (by kernel_rfl) (by kernel_rfl) (by kernel_rfl)
  have hIN := @run_callFunc_extern Tryz.prog 86 _ (ReflectliteValue.method (ReflectliteValue.valueError "reflectlite.Value.IsNil" 0) ReflectliteValue.isNil) Tryz.func86 (by kernel_rfl) (by kernel_rfl) (by kernel_rfl) (by kernel_rfl)
  have hKi := @run_callFunc_extern Tryz.prog 159 _ (ReflectliteType.abiMethod fun t => do pure (.int .u8 (← Rtype.kind t))) Tryz.func159 (by kernel_rfl) (by kernel_rfl) (by kernel_rfl) (by kernel_rfl)
  have hTE := @run_callFunc_extern Tryz.prog 174 _ (ReflectliteType.method ReflectliteType.elem) Tryz.func174 (by kernel_rfl) (by kernel_rfl) (by kernel_rfl) (by kernel_rfl)
  have hIm := @run_callFunc_extern Tryz.prog 175 _ (ReflectliteType.relation "Implements" ReflectliteType.implements_) Tryz.func175 (by kernel_rfl) (by kernel_rfl) (by kernel_rfl) (by kernel_rfl)
  have f1 := rl_valueOfP_in_
  have f2 := rl_type_in_
  have f3 := rl_kindP_in_
  have f4 := rl_kindE_in_
  have f5 := rl_elem_in_
  have f6 := rl_implements_in_
  have m1 := rl_methodKind
  have m2 := rl_methodElem
  have m3 := rl_methodImplements
  have htl : tb < w.heap.size := blk_lt' ht
  have hgl : 0 < w.heap.size := World.block_lt_of_cell? w _ hg
  have i8 := rl_isNil_in_ ⟨w.heap.size, 0, none⟩ ⟨tb, 0, none⟩ ((w.alloc (.cells #[.pointer (some ⟨tb, 0, none⟩)] 110)).alloc (.cells #[.pointer (some ⟨7, 110, none⟩), .pointer (some ⟨w.heap.size, 0, none⟩), .int .u64 150] 135)) (by rw [World.cell?_alloc_lt _ _ _ (by simp)]; exact World.cell?_alloc_new _ _ _ _)
  have hg2 : ((w.alloc (.cells #[.pointer (some ⟨tb, 0, none⟩)] 110)).alloc (.cells #[.pointer (some ⟨7, 110, none⟩), .pointer (some ⟨w.heap.size, 0, none⟩), .int .u64 150] 135)).cell? ⟨0, 0, none⟩ = some (.iface 234 (.agg #[.pointer (some ⟨7, 26, none⟩)])) := by rw [World.cell?_alloc_lt _ _ _ (by simp <;> omega), World.cell?_alloc_lt _ _ _ hgl]; exact hg
  obtain ⟨tt, tv, he1⟩ := e.enc_iface
  have HC := Lib.hid (fun W hp ht hne => as_in_ e tb w.heap.size o0 o1 W hp ht hne)
  rw [he1]
  rw [he1] at HC
  clear he1 hg
  have Ht := Lib.hid ht
  clear ht
  go_enter Tryz.func35, Tryz.ntmps35
  go_wp2_with fail
  refine (HC.out _ (by rw [World.cell?_alloc_lt _ _ _ (by simp)]; simp) ((Below.heap_alloc _ _ _ (by simp; omega)).trans ((Below.heap_alloc _ _ _ htl).trans Ht.out)) (by omega)).mono ?_
  intro ev w1 hpost
  have hp2 := hpost.later (((Below.refl w.heap.size w).alloc (Nat.le_refl _) _).alloc (by simp) _)
  obtain ⟨b, rfl⟩ := hpost.ret
  have Hp2 := Lib.hid hp2
  clear hp2 hpost
  go_wp2
  go_ret
  exact Hp2.out
end Go.Proofs.YtnodjijgeifejaaGreatDoor
