/- sync.Once at a fresh one: the lock is taken, the function is called, 'done' is stored, the lock is let go. strings.Replacer: what build lays: the byte replacer's 256 rows and its list. strings.Replacer: buildOnce, and sync.Once that calls it. strings.Replacer: the byte replacer's Replace. strings.Replacer: NewReplacer, Replace; lex.inQuotes. -/
import Derived.Test.YtmooibnedokllaaGreatDoorBase
import Derived.Tactics
import Derived.Tactics2
import Derived.Defers
import Derived.Laws.Pointers
import Derived.Laws.LoneSync
import Derived.RegionTactic
import Derived.RegionCalls
import Derived.ChangeAlike
import Derived.Test.YtmooibnedokllaaGreatDoorLexP
import Derived.Deep.WholeRow
import Derived.Deep.LoopGhost
import Derived.Deep.DeepCutAuto
import Derived.Deep.CutBlock
import Derived.Lib.ConvBytes
import Derived.Lib.SlBytesRow
import Derived.Lib.SliceRun
import Derived.Lib.SmallJoins
import Derived.Test.YtmooibnedokllaaGreatDoorShelf
import Derived.Deep.QuietTactic
import Derived.BigQuiet
import Derived.Deep.OwnRows
import Derived.Laws.CopyRow
import Derived.Laws.CopyOwn
import Derived.WalkSpells
import Derived.Test.YtmooibnedokllaaGreatDoorLib
namespace Go.Proofs.YtmooibnedokllaaGreatDoor
open Go.RowKit
set_option linter.unusedSimpArgs false
set_option linter.unusedVariables false
section

theorem rc_disable (w : World) : (callFunc 177 #[]).run Tryz.prog w = .ok (.value (.tuple #[])) w := run_call_mark0 Tryz.func177 (by kernel_rfl) (by kernel_rfl) (by kernel_rfl) .disable (by kernel_rfl) w
theorem rc_enable (w : World) : (callFunc 179 #[]).run Tryz.prog w = .ok (.value (.tuple #[])) w := run_call_mark0 Tryz.func179 (by kernel_rfl) (by kernel_rfl) (by kernel_rfl) .enable (by kernel_rfl) w
theorem rc_acquire (a : Addr) (w : World) : (callFunc 180 #[.pointer (some a)]).run Tryz.prog w = .ok (.value (.tuple #[])) w := run_call_marked Tryz.func180 (by kernel_rfl) (by kernel_rfl) (by kernel_rfl) .acquire (by kernel_rfl) a w
theorem rc_release (a : Addr) (w : World) : (callFunc 182 #[.pointer (some a)]).run Tryz.prog w = .ok (.value (.tuple #[])) w := run_call_marked Tryz.func182 (by kernel_rfl) (by kernel_rfl) (by kernel_rfl) .releaseMerge (by kernel_rfl) a w

set_option maxRecDepth 100000 in
set_option maxHeartbeats 1000000 in
/-- (*sync/atomic.Bool).Store(true), entered as a deferred call. -/
theorem once_store (a : Addr) (x : Value) (u : FrameMode) (w : World) (hc : w.cell? a = some x) (hz : w.frozen? a = false) :
    CallsD Tryz.prog 153 #[.pointer (some a), .bool true] u w fun e u' w' => u' = u ∧ (e = .returned (.tuple #[]) ∧ w' = w.drew.setCell a (.int .u32 1)) := by
  have hc' : w.drew.cell? a = some x := by go_simp
  have hz' : w.drew.frozen? a = false := by go_simp
  have hst := run_call_store (P := Tryz.prog) Tryz.func170 (by kernel_rfl) (by kernel_rfl) (by kernel_rfl) (by kernel_rfl) (k := .u32) (y := 1) hc' hz'
  go_enter_d Tryz.func153, Tryz.ntmps153
  go_wp2
  go_region_calls
  all_goals (go_end0; exact ⟨rfl, rfl⟩)
set_option maxRecDepth 100000 in
set_option maxHeartbeats 1000000 in
/-- (*sync.Mutex).Unlock, entered as a deferred call, the lock held. -/
theorem once_unlock (a : Addr) (u : FrameMode) (w : World) (hc : w.cell? a = some (.int .i32 1)) (hz : w.frozen? a = false) :
    CallsD Tryz.prog 152 #[.pointer (some a)] u w fun e u' w' => u' = u ∧ (e = .returned (.tuple #[]) ∧ w' = w.setCell a (.int .i32 0)) := by
  have hd := rc_disable
  have he := rc_enable
  have hr := rc_release
  have hadd := run_call_add (P := Tryz.prog) Tryz.func183 (by kernel_rfl) (by kernel_rfl) (by kernel_rfl) .i32 (by kernel_rfl) (y := -1) (s := 0) hc hz (by simp [go_sem]; rfl)
  have hcv := run_convert_to_unsafe (P := Tryz.prog) (src := 331) (dst := 110) Tryz.underlying331 Tryz.underlying110 (by kernel_rfl) hc
  go_enter_d Tryz.func152, Tryz.ntmps152
  go_wp2
  go_end0
  go_wp2
set_option maxRecDepth 100000 in
set_option maxHeartbeats 1000000 in
/-- (*sync.Mutex).Lock, the lock free. -/
theorem once_lock (a : Addr) (w : World) (hc : w.cell? a = some (.int .i32 0)) (hz : w.frozen? a = false) :
    Calls Tryz.prog 151 #[.pointer (some a)] w fun e w' => e = .returned (.tuple #[]) ∧ w' = w.setCell a (.int .i32 1) := by
  have hd := rc_disable
  have he := rc_enable
  have ha := rc_acquire
  have hcas := run_call_cas_hit (P := Tryz.prog) Tryz.func178 (by kernel_rfl) (by kernel_rfl) (by kernel_rfl) .i32 (by kernel_rfl) (y := 1) hc hz
  have hc' : (w.setCell a (.int .i32 1)).cell? a = some (.int .i32 1) := World.cell?_setCell_same w a _ hc
  have hcv := run_convert_to_unsafe (P := Tryz.prog) (src := 331) (dst := 110) Tryz.underlying331 Tryz.underlying110 (by kernel_rfl) hc'
  go_enter Tryz.func151, Tryz.ntmps151
  go_wp2
  first | go_end0 | (simp only [Exit.inBlock, Exit.then]; refine bodyPost_ret (results_none rfl _ _ _) rfl ?_) | refine bodyPost_ret (results_none rfl _ _ _) rfl ?_
  go_wp2
end
section

abbrev tRep : TypeId := 297
abbrev tStr : TypeId := 9
abbrev nilS : Value := .slice none 0 0
theorem rp_upon {P : Program} {o : Oper} {s : Act} {K : Act → World → Prop} {Q : Exit → Act → World → Prop} {r r' : Result Next} (h : r = r') (g : Oper.upon P o s K Q r') : Oper.upon P o s K Q r := h ▸ g
theorem rp_store {P : Program} (b : Nat) (w : World) (hb : b = w.heap.size) (t : TypeId) (c c' : Array Value) (l : List Value) (hl : l = c'.toList) (hi : (P.info? t).map (·.size) = some c'.size) (ho : c.size = c'.size) (h1 : c'.all (·.oneCell') = true) :
    ((Sem.run P (storeCells ⟨b, 0, none⟩ l) (w.alloc (.cells c t))).andThen fun _ w' => Result.ok Next.skip w') = .ok .skip (w.alloc (.cells c' t)) := by
  subst hl
  subst hb
  have h := run_storeCells_new w t c c' hi ho h1
  rw [show Sem.run P (storeCells ⟨w.heap.size, 0, none⟩ c'.toList) (w.alloc (.cells c t)) = _ from h]
  rfl
theorem rep_zero : Tryz.zeroCells297 = Array.replicate 257 nilS := by kernel_rfl
theorem rep_info : (Tryz.prog.info? tRep).map (·.size) = some 257 := by kernel_rfl
theorem info_Str : (Tryz.prog.info? tStr).map (fun i => (i.zero, i.size, i.bytes)) = some (some (.string ⟨#[]⟩), 1, 16) := by kernel_rfl
def rep0 (v : Value) : Array Value := (Array.replicate 257 nilS).setIfInBounds 256 v
theorem rep0_size (v : Value) : (rep0 v).size = 257 := by simp [rep0]
theorem rep0_all (b : Nat) : (rep0 (.slice (some ⟨b, 0, none⟩) 0 2)).all (·.oneCell') = true := by kernel_rfl
theorem grown_self (w : World) (row : Option Nat) : w.grownBy w row := ⟨rfl, rfl, rfl, Nat.le_refl _, fun _ _ _ => rfl⟩
/-- A row of bytes. -/
def By (v : Value) (l : List UInt8) (w : World) : Prop :=
  ∃ g cap, v = .slice (some ⟨g, 0, none⟩) l.length cap ∧ ∃ cs fr, w.heap[g]? = some (.cells cs 5 fr) ∧ ∀ i (h : i < l.length), cs[i]? = some (.int .u8 (l[i].toNat : Int))
theorem By.grow {v : Value} {l : List UInt8} {w w' : World} {row : Option Nat} (h : By v l w) (hg : w.grownBy w' row) (hr : ∀ k, row = some k → ∃ C T fr, w.heap[k]? = some (.cells C T fr) ∧ T ≠ 5) : By v l w' := by
  obtain ⟨g, cap, hv, cs, fr, hb, hc⟩ := h
  refine ⟨g, cap, hv, cs, fr, grown_blk hg hb (fun e => ?_), hc⟩
  obtain ⟨C, T, fr', hk, hT⟩ := hr g e.symm
  rw [hb] at hk
  simp only [Option.some.injEq, Obj.cells.injEq] at hk
  exact hT hk.2.1.symm
theorem By.next {v : Value} {l : List UInt8} {w w' : World} (h : By v l w) (hB : Below w.heap.size w w') : By v l w' :=
  h.grow (grown_of_below hB (Nat.le_refl _) none) (fun k e => by cases e)
theorem By.of (s : ByteArray) (w : World) : By (.slice (some ⟨w.heap.size, 0, none⟩) s.size (grownCap w s.size 0 5)) s.data.toList (Lib.bytesWorld w 5 s) := by
  refine ⟨_, _, rfl, _, _, Lib.bytesWorld_at_new w _ s, fun i hi => ?_⟩
  have h := Lib.bytesWorld_cell w 5 s i hi
  rw [blk_cell' (Lib.bytesWorld_at_new w _ s)] at h
  rw [h, List.getD, List.getElem?_eq_getElem hi]; rfl
theorem bytes_below (s : ByteArray) (w : World) : Below w.heap.size w (Lib.bytesWorld w 5 s) :=
  ⟨by unfold Lib.bytesWorld World.freeze; split <;> rfl, by unfold Lib.bytesWorld World.freeze; split <;> rfl, by unfold Lib.bytesWorld World.freeze; split <;> rfl, by rw [Lib.bytesWorld_size]; omega, fun k hk => Lib.bytesWorld_at_old w _ s k hk⟩
/-- The byte replacer in block k: its 256 rows, its list. -/
structure Rp (k : Nat) (f : Nat → Value) (tv : Value) (l : List Value) (B : Nat) (w : World) : Prop where
  blk : ∃ C : Array Value, w.heap[k]? = some (.cells C tRep (0, 0)) ∧ C.size = 257 ∧ (∀ i, i < 256 → C[i]? = some (f i)) ∧ C[256]? = some tv
  own : w.ownsRow B tStr 1 tv l.length l
  hB : B ≤ k
variable {k : Nat} {f : Nat → Value} {tv tv' v : Value} {l : List Value} {B : Nat} {w w' w0 : World}
theorem Rp.lt (h : Rp k f tv l B w) : k < w.heap.size := by
  obtain ⟨C, h1, _⟩ := h.blk
  exact blk_lt' h1
theorem Rp.cell (h : Rp k f tv l B w) {i : Nat} (hi : i < 256) : w.cell? ⟨k, i, none⟩ = some (f i) := by
  obtain ⟨C, h1, h2, h3, h4⟩ := h.blk
  rw [blk_cell' h1]; exact h3 i hi
theorem Rp.list (h : Rp k f tv l B w) : w.cell? ⟨k, 256, none⟩ = some tv := by
  obtain ⟨C, h1, h2, h3, h4⟩ := h.blk
  rw [blk_cell' h1]; exact h4
theorem Rp.free (h : Rp k f tv l B w) (i : Nat) : w.frozen? ⟨k, i, none⟩ = false := by
  obtain ⟨C, h1, h2, h3, h4⟩ := h.blk
  exact blk_free' h1 i
theorem own_other {w : World} {B : Nat} {e T : TypeId} {v : Value} {n z : Nat} {xs : List Value} {b : Nat} {cs : Array Value} {fr : Nat × Nat} (hown : w.ownsRow B e z v n xs) (hb : w.heap[b]? = some (.cells cs T fr)) (hTe : T ≠ e) : v.ownBlock ≠ some b := by
  rcases hown.2 with ⟨rfl, _⟩ | ⟨g, cap, cur, rfl, _, hg, _⟩
  · simp [Value.ownBlock]
  · intro h
    simp only [Value.ownBlock, Option.some.injEq] at h
    subst h
    rw [hg] at hb
    simp only [Option.some.injEq, Obj.cells.injEq] at hb
    exact hTe hb.2.1.symm
theorem Rp.next (h : Rp k f tv l B w) (hB : Below w.heap.size w w') : Rp k f tv l B w' := by
  obtain ⟨C, h1, h2⟩ := h.blk
  exact ⟨⟨C, below_blk hB (blk_lt' h1) h1, h2⟩, h.own.kept (grown_of_below hB (Nat.le_refl _) none) (by cases hv : tv.ownBlock <;> simp), h.hB⟩
theorem Rp.app {xs : List Value} (h : Rp k f tv l B w) (hown : w'.ownsRow B tStr 1 tv' xs.length xs) (hg : w.grownBy w' tv.ownBlock) : Rp k f tv' xs B (w'.setCell ⟨k, 256, none⟩ tv') := by
  obtain ⟨C, h1, h2, h3, h4⟩ := h.blk
  have h5 := grown_blk hg h1 (fun e => own_other h.own h1 (by decide) e.symm)
  refine ⟨⟨C.setIfInBounds 256 tv', by simpa using blk_set' h5 256 tv', by simpa using h2, fun i hi => ?_, ?_⟩, ?_, h.hB⟩
  · rw [Array.getElem?_setIfInBounds, if_neg (by omega)]; exact h3 i hi
  · rw [Array.getElem?_setIfInBounds, if_pos rfl, if_pos (by omega)]
  · exact hown.kept (grown_set (grown_self _ _) 256 _) (.inr (own_other hown h5 (by decide)))
theorem Rp.kept (h : Rp k f tv l B w) (hg : w.grownBy w' tv.ownBlock) : w'.cell? ⟨k, 256, none⟩ = some tv ∧ w'.frozen? ⟨k, 256, none⟩ = false := by
  obtain ⟨C, h1, h2, h3, h4⟩ := h.blk
  have h5 := grown_blk hg h1 (fun e => own_other h.own h1 (by decide) e.symm)
  exact ⟨by rw [blk_cell' h5]; exact h4, blk_free' h5 256⟩
theorem Rp.grown (h : Rp k f tv l B w) (hB : Below B w0 w) (hw : w0.heap.size = B) (hg : w.grownBy w' tv.ownBlock) : Below B w0 w' := by
  have := hB.size
  exact hB.trans (below_of_grown hg (fun j e => (h.own.lt j e).1) (by omega))
theorem By.grown {s : Value} {bs : List UInt8} (hs : By s bs w) (h : Rp k f tv l B w) (hg : w.grownBy w' tv.ownBlock) : By s bs w' :=
  hs.grow hg (fun j e => by
    rcases h.own.2 with ⟨rfl, _⟩ | ⟨g, cap, cur, rfl, _, hg, _⟩
    · cases e
    · simp only [Value.ownBlock, Option.some.injEq] at e
      subst e
      exact ⟨cur, _, _, hg, by decide⟩)
theorem By.set {s : Value} {bs : List UInt8} (hs : By s bs w) (hk : ∃ C : Array Value, w.heap[k]? = some (.cells C tRep (0, 0))) (i : Nat) (v : Value) : By s bs (w.setCell ⟨k, i, none⟩ v) :=
  hs.grow (grown_set (grown_self _ _) i v) (fun j e => by cases e; obtain ⟨C, h1⟩ := hk; exact ⟨C, _, _, h1, by decide⟩)
theorem Rp.here (h : Rp k f tv l B w) : ∃ C : Array Value, w.heap[k]? = some (.cells C tRep (0, 0)) := by
  obtain ⟨C, h1, _⟩ := h.blk; exact ⟨C, h1⟩
theorem Rp.keptHere (h : Rp k f tv l B w) (hg : w.grownBy w' tv.ownBlock) : ∃ C : Array Value, w'.heap[k]? = some (.cells C tRep (0, 0)) := by
  obtain ⟨C, h1, _⟩ := h.blk
  exact ⟨C, grown_blk hg h1 (fun e => own_other h.own h1 (by decide) e.symm)⟩
theorem Rp.set (h : Rp k f tv l B w) {i : Nat} (hi : i < 256) (v : Value) : Rp k (fun j => if j = i then v else f j) tv l B (w.setCell ⟨k, i, none⟩ v) := by
  obtain ⟨C, h1, h2, h3, h4⟩ := h.blk
  refine ⟨⟨C.setIfInBounds i v, by simpa using blk_set' h1 i v, by simpa using h2, fun j hj => ?_, ?_⟩, ?_, h.hB⟩
  · rw [Array.getElem?_setIfInBounds]
    by_cases e : i = j
    · subst e; rw [if_pos rfl, if_pos (by omega), if_pos rfl]
    · rw [if_neg e, if_neg (fun x => e x.symm)]; exact h3 j hj
  · rw [Array.getElem?_setIfInBounds, if_neg (by omega)]; exact h4
  · exact h.own.kept (grown_set (grown_self _ _) i _) (.inr (own_other h.own h1 (by decide)))
theorem Rp.start (w : World) : Rp (w.heap.size + 1) (fun _ => nilS) (.slice (some ⟨w.heap.size, 0, none⟩) 0 2) [] w.heap.size ((w.alloc (.cells #[.string ⟨#[]⟩, .string ⟨#[]⟩] tStr)).alloc (.cells (rep0 (.slice (some ⟨w.heap.size, 0, none⟩) 0 2)) tRep)) := by
  refine ⟨⟨_, by simpa using heap_alloc_new (w.alloc (.cells #[.string ⟨#[]⟩, .string ⟨#[]⟩] tStr)) (.cells (rep0 (.slice (some ⟨w.heap.size, 0, none⟩) 0 2)) tRep), rep0_size _, fun i hi => ?_, ?_⟩, ?_, by omega⟩
  · unfold rep0
    rw [Array.getElem?_setIfInBounds, if_neg (by omega), Array.getElem?_replicate, if_pos (by omega)]
  · unfold rep0
    rw [Array.getElem?_setIfInBounds, if_pos rfl, if_pos (by simp)]
  · exact (World.ownsRow_made w _ 2 (Nat.le_refl _) (by decide) rfl).kept (World.grownBy_alloc _ _ none) (by simp [Value.ownBlock])
theorem rp_slice {w : World} {B : Nat} {e : TypeId} {v : Value} {n z : Nat} {xs : List Value} (h : w.ownsRow B e z v (n + 1) xs) : ∃ g cap, v = .slice (some ⟨g, 0, none⟩) (n + 1) cap := by
  rcases h.2 with ⟨_, h0⟩ | ⟨g, cap, cur, hv, _⟩
  · omega
  · exact ⟨g, cap, hv⟩
/-- The rows of the two bytes. -/
def repF (q : UInt8) (s1 s2 : Value) (i : Nat) : Value := if i = 92 then s2 else if i = q.toNat then s1 else nilS
structure Rpq (q : UInt8) (k : Nat) (B : Nat) (w : World) : Prop where
  r : ∃ s1 s2 tv, Rp k (repF q s1 s2) tv [.string ⟨#[q]⟩, .string ⟨#[92]⟩] B w ∧ By s1 [92, q] w ∧ By s2 [92, 92] w
theorem Rp.below (h : Rp k f tv l B w0) (hB : Below B w w0) (v : Value) (i : Nat) : Below B w (w0.setCell ⟨k, i, none⟩ v) := hB.setCell (p := ⟨k, i, none⟩) h.hB v
set_option maxRecDepth 100000 in
set_option maxHeartbeats 4000000 in
theorem rp_build (q : UInt8) (hq : ¬ q = 92) (rb ob cap : Nat) (w : World) (hr : w.cell? ⟨rb, 4, none⟩ = some (.slice (some ⟨ob, 0, none⟩) 4 cap))
    (c0 : w.cell? ⟨ob, 0, none⟩ = some (.string ⟨#[92]⟩)) (c1 : w.cell? ⟨ob, 1, none⟩ = some (.string ⟨#[92, 92]⟩)) (c2 : w.cell? ⟨ob, 2, none⟩ = some (.string ⟨#[q]⟩)) (c3 : w.cell? ⟨ob, 3, none⟩ = some (.string ⟨#[92, q]⟩)) :
    Calls Tryz.prog 130 #[.pointer (some ⟨rb, 0, none⟩)] w fun ev w' => ∃ k, ev = .returned (.iface 298 (.pointer (some ⟨k, 0, none⟩))) ∧ Rpq q k w.heap.size w' ∧ Below w.heap.size w w' := by
  have mk : ∀ W : World, (Instr.makeSlice 125 (.int .i64 0) (.int .i64 2)).run Tryz.prog W = .ok (.slice (some ⟨W.heap.size, 0, none⟩) 0 2) (W.alloc (.cells #[.string ⟨#[]⟩, .string ⟨#[]⟩] 9)) := fun W => by kernel_rfl
  have MK := Lib.hid mk
  clear mk
  go_enter Tryz.func130, Tryz.ntmps130
  go_wp2_with fail
  go_loopg [4, 5] 3 (fun m v4 v5 wr => Hid (wr = w) ∧ ((v4 = .bool true ∧ v5 = .int .i64 0 ∧ m = 3) ∨ (v4 = .bool false ∧ v5 = .int .i64 2 ∧ m = 2) ∨ (v4 = .bool false ∧ v5 = .int .i64 4 ∧ m = 1)))
  case atStart => exact ⟨Lib.hid rfl, .inl ⟨rfl, rfl, rfl⟩⟩
  case round =>
    obtain ⟨hw, h⟩ := hrel
    obtain rfl := hw.out.symm
    clear hw
    rcases h with ⟨rfl, rfl, rfl⟩ | ⟨rfl, rfl, rfl⟩ | ⟨rfl, rfl, rfl⟩
    · go_wp2_with fail
      go_roundg 2
      case measure => omega
      case rel => exact ⟨Lib.hid rfl, .inr (.inl ⟨rfl, rfl, rfl⟩)⟩
    · go_wp2_with fail
      go_roundg 1
      case measure => omega
      case rel => exact ⟨Lib.hid rfl, .inr (.inr ⟨rfl, rfl, rfl⟩)⟩
    · have mk := MK.out w
      go_wp2_with fail
      refine rp_upon (r' := .ok .skip ((w.alloc (.cells #[.string ⟨#[]⟩, .string ⟨#[]⟩] tStr)).alloc (.cells (rep0 (.slice (some ⟨w.heap.size, 0, none⟩) 0 2)) tRep))) ?_ ?_
      · exact rp_store _ _ (by simp) _ _ (rep0 _) _ (by rw [rep_zero]; unfold rep0; rw [Array.toList_setIfInBounds]) (by rw [rep0_size]; exact rep_info) (by rw [rep0_size, rep_zero]; simp) (rep0_all _)
      generalize Value.agg _ = A
      rw [Oper.upon_skip]
      have R0 := Rp.start w
      have B0 : Below w.heap.size w ((w.alloc (.cells #[.string ⟨#[]⟩, .string ⟨#[]⟩] tStr)).alloc (.cells (rep0 (.slice (some ⟨w.heap.size, 0, none⟩) 0 2)) tRep)) := by go_grown
      generalize (w.alloc (.cells #[.string ⟨#[]⟩, .string ⟨#[]⟩] tStr)).alloc (.cells (rep0 (.slice (some ⟨w.heap.size, 0, none⟩) 0 2)) tRep) = W0 at *
      generalize hk : w.heap.size + 1 = k at *
      generalize (.slice (some ⟨w.heap.size, 0, none⟩) 0 2 : Value) = tv0 at *
      clear mk MK hk hr
      have R0 := Lib.hid R0
      have B0 := Lib.hid B0
      have hob := World.block_lt_of_cell? _ _ c0

      have qT : ∀ (W : World) (a : Option Addr) (n c n' c' : Nat), (binOp .eql 103 (.slice a n c) (.slice none n' c')).run Tryz.prog W = .ok (.bool a.isNone) W := fun W a n c n' c' => Lib.run_eql_slice_nil W _ _ a n c n' c' Tryz.underlying103
      have CV := Lib.hid (show ∀ W (b : Nat) (c : UInt8) (cap : Nat), W.cell? ⟨b, 0, none⟩ = some (.int .u8 (c.toNat : Int)) → (convert 103 9 (.slice (some ⟨b, 0, none⟩) 1 cap)).run Tryz.prog W = .ok (.string ⟨#[c]⟩) W from fun W b c cap h =>
        Lib.run_convert_whole (P := Tryz.prog) W 103 5 9 Tryz.underlying103 Tryz.underlying5 Tryz.underlying9 b 0 ⟨#[c]⟩ (fun i hi => by
          obtain rfl : i = 0 := by have : i < 1 := hi; omega
          exact h) cap)
      have SB := Lib.hid (fun W (s : ByteArray) => Lib.run_convert_string_bytes (P := Tryz.prog) W 9 103 5 s Tryz.underlying9 Tryz.underlying103 Tryz.underlying5)
      have hqt : q.toNat < 256 := q.toNat_lt
      have hq92 : ¬ q.toNat = 92 := fun e => hq (UInt8.toNat_inj.1 e)
      clear hob
      have hob := World.block_lt_of_cell? _ _ c0
      have C0 := Lib.hid (And.intro c0 (And.intro c1 (And.intro c2 c3)))
      clear c0 c1 c2 c3
      go_wp2_with fail
      go_loopg [12] 3 (fun m v12 w2 => ∃ tv f l, Hid (Rp k f tv l w.heap.size w2) ∧ Hid (Below w.heap.size w w2) ∧ ((v12 = .int .i64 2 ∧ m = 3 ∧ l = [] ∧ f = fun _ => nilS) ∨ (v12 = .int .i64 0 ∧ m = 2 ∧ l = [.string ⟨#[q]⟩] ∧ ∃ s1, Hid (By s1 [92, q] w2) ∧ f = fun j => if j = q.toNat then s1 else nilS) ∨ (v12 = .int .i64 (-2) ∧ m = 1 ∧ Hid (Rpq q k w.heap.size w2))))
      case atStart => exact ⟨_, _, _, R0, B0, .inl ⟨rfl, rfl, rfl, rfl⟩⟩
      case round =>
        clear R0 B0
        obtain ⟨tv, f, l, R, HB, h⟩ := hrel
        rcases h with ⟨rfl, rfl, rfl, rfl⟩ | ⟨rfl, rfl, rfl, s1, HS1, rfl⟩ | ⟨rfl, rfl, HQ⟩
        · obtain ⟨cc, hcc⟩ : ∃ cc : UInt8, cc = q := ⟨_, rfl⟩
          have d0 : wr.cell? ⟨ob, 2, none⟩ = some (.string ⟨#[cc]⟩) := by rw [hcc]; exact (HB.out.cell hob).trans C0.out.2.2.1
          have d1 : wr.cell? ⟨ob, 3, none⟩ = some (.string ⟨#[92, cc]⟩) := by rw [hcc]; exact (HB.out.cell hob).trans C0.out.2.2.2
          obtain ⟨cn, hcn⟩ : ∃ cn : Nat, cc.toNat = cn := ⟨_, rfl⟩
          have hcl : cn < 256 := by rw [← hcn]; exact cc.toNat_lt
          have e0 := R.out.cell hcl
          have e1 := R.out.list
          have e2 := R.out.free 256
          have HC := Lib.hid (And.intro hcc hcn)
          clear hcc
          have hx : ((⟨#[cc]⟩ : ByteArray)[0]'(Nat.zero_lt_one)).toNat = cn := hcn
          clear hcn
          clear hqt
          have cv := CV.out (wr.alloc (.cells #[.int .u8 (cn : Int)] 5 (0, 0))) wr.heap.size cc 1 (by rw [HC.out.2]; exact blk_cell' (heap_alloc_new wr _) 0)
          obtain ⟨i0, hi, hz0, hz1, hz2⟩ := info_parts info_Str
          have R2 := (R.out.next ((Below.refl wr.heap.size wr).alloc (Nat.le_refl _) (.cells #[.int .u8 (cn : Int)] 5 (0, 0)))).next ((Below.refl _ _).alloc (Nat.le_refl _) (.cells #[.string ⟨#[cc]⟩] tStr))
          have B2 := Lib.hid (HB.out.trans ((((Below.refl wr.heap.size wr).alloc (Nat.le_refl _) (.cells #[.int .u8 (cn : Int)] 5 (0, 0))).alloc (by simp) (.cells #[.string ⟨#[cc]⟩] tStr)).mono HB.out.size))
          have HRO := R2.own
          have R2 := Lib.hid R2
          go_wp2_with (at_builtin; refine wpList_append_own _ rfl _ _ 125 rfl w.heap.size tStr i0 (.string ⟨#[]⟩) 1 16 Tryz.underlying125 hi hz0 hz1 hz2 rfl (by decide) _ _ _ rfl HRO ⟨_, 0, none⟩ 1 1 [.string ⟨#[cc]⟩] rfl rfl ?c1 ?c2 ?c3 ?c4 ?c5 ?_)
          case c1 =>
            intro j u hj
            match j, hj with
            | 0, hj => simp at hj; subst hj; exact blk_cell' (heap_new' _ _ _ (by simp)) 0
          case c2 => intro u hu; simp at hu; subst hu; rfl
          case c3 => unfold maxLen; simp
          case c4 => simp
          case c5 => have := B2.out.size; simp at this ⊢; omega
          intro tv' w9 hown' hgrow _
          have R9 := R2.out.kept hgrow
          have B9 := Lib.hid (R2.out.grown B2.out rfl hgrow)
          obtain ⟨x1, x2⟩ := R9
          obtain ⟨tg, tcap, rfl⟩ := rp_slice hown'
          have R10 := R2.out.app (xs := [.string ⟨#[cc]⟩]) hown' hgrow
          have B10 := Lib.hid (B9.out.setCell (p := ⟨k, 256, none⟩) R10.hB (.slice (some ⟨tg, 0, none⟩) 1 tcap))
          have R10 := Lib.hid R10
          clear R2 B2 HRO hgrow hown' cv R HB e0 e1 e2
          go_upto_region 34 with (fail)
          simp only [Nat.zero_add, Nat.reduceAdd] at R10 B10
          generalize w9.setCell ⟨k, 256, none⟩ (.slice (some ⟨tg, 0, none⟩) 1 tcap) = w10 at *
          have y0 := (R10.out.next (bytes_below ⟨#[92, cc]⟩ w10)).cell hcl
          have y1 := (R10.out.next (bytes_below ⟨#[92, cc]⟩ w10)).free cn
          have cs : (convert 9 103 (.string ⟨#[92, cc]⟩)).run Tryz.prog w10 = .ok (.slice (some ⟨w10.heap.size, 0, none⟩) 2 (grownCap w10 2 0 5)) (Lib.bytesWorld w10 5 ⟨#[92, cc]⟩) := SB.out w10 ⟨#[92, cc]⟩
          have Y : By (.slice (some ⟨w10.heap.size, 0, none⟩) 2 (grownCap w10 2 0 5)) [92, cc] (Lib.bytesWorld w10 5 ⟨#[92, cc]⟩) := By.of ⟨#[92, cc]⟩ w10
          have R11 := R10.out.next (bytes_below ⟨#[92, cc]⟩ w10)
          have B11 := B10.out.trans ((bytes_below ⟨#[92, cc]⟩ w10).mono B10.out.size)
          generalize Lib.bytesWorld w10 5 ⟨#[92, cc]⟩ = w11 at *
          generalize w10.heap.size = yb at *
          generalize grownCap w10 2 0 5 = yc at *
          have RS := Lib.hid (R11.set hcl (.slice (some ⟨yb, 0, none⟩) 2 yc))
          have YS := Lib.hid (Y.set R11.here cn (.slice (some ⟨yb, 0, none⟩) 2 yc))
          have BS := Lib.hid (B11.setCell (p := ⟨k, cn, none⟩) R11.hB (.slice (some ⟨yb, 0, none⟩) 2 yc))
          clear R11 Y B11 R10 B10 x1 x2 d0 d1 B9
          go_wp2_with fail
          go_roundg 2
          case measure => omega
          case rel => exact ⟨_, _, _, RS, BS, .inr (.inl ⟨rfl, rfl, by rw [← HC.out.1], _, by rw [← HC.out.1]; exact YS, by rw [← HC.out.1, HC.out.2]⟩)⟩
        · obtain ⟨cc, hcc⟩ : ∃ cc : UInt8, cc = 92 := ⟨_, rfl⟩
          have d0 : wr.cell? ⟨ob, 0, none⟩ = some (.string ⟨#[cc]⟩) := by rw [hcc]; exact (HB.out.cell hob).trans C0.out.1
          have d1 : wr.cell? ⟨ob, 1, none⟩ = some (.string ⟨#[92, cc]⟩) := by rw [hcc]; exact (HB.out.cell hob).trans C0.out.2.1
          obtain ⟨cn, hcn⟩ : ∃ cn : Nat, cc.toNat = cn := ⟨_, rfl⟩
          have hcl : cn < 256 := by rw [← hcn]; exact cc.toNat_lt
          have e0 := R.out.cell hcl
          have e1 := R.out.list
          have e2 := R.out.free 256
          rw [if_neg (by rw [← hcn, hcc]; exact fun e => hq92 e.symm)] at e0
          have HC := Lib.hid (And.intro hcc hcn)
          clear hcc
          have hx : ((⟨#[cc]⟩ : ByteArray)[0]'(Nat.zero_lt_one)).toNat = cn := hcn
          clear hcn
          clear hqt
          have cv := CV.out (wr.alloc (.cells #[.int .u8 (cn : Int)] 5 (0, 0))) wr.heap.size cc 1 (by rw [HC.out.2]; exact blk_cell' (heap_alloc_new wr _) 0)
          obtain ⟨i0, hi, hz0, hz1, hz2⟩ := info_parts info_Str
          have R2 := (R.out.next ((Below.refl wr.heap.size wr).alloc (Nat.le_refl _) (.cells #[.int .u8 (cn : Int)] 5 (0, 0)))).next ((Below.refl _ _).alloc (Nat.le_refl _) (.cells #[.string ⟨#[cc]⟩] tStr))
          have B2 := Lib.hid (HB.out.trans ((((Below.refl wr.heap.size wr).alloc (Nat.le_refl _) (.cells #[.int .u8 (cn : Int)] 5 (0, 0))).alloc (by simp) (.cells #[.string ⟨#[cc]⟩] tStr)).mono HB.out.size))
          have HRO := R2.own
          have R2 := Lib.hid R2
          go_wp2_with (at_builtin; refine wpList_append_own _ rfl _ _ 125 rfl w.heap.size tStr i0 (.string ⟨#[]⟩) 1 16 Tryz.underlying125 hi hz0 hz1 hz2 rfl (by decide) _ _ _ rfl HRO ⟨_, 0, none⟩ 1 1 [.string ⟨#[cc]⟩] rfl rfl ?c1 ?c2 ?c3 ?c4 ?c5 ?_)
          case c1 =>
            intro j u hj
            match j, hj with
            | 0, hj => simp at hj; subst hj; exact blk_cell' (heap_new' _ _ _ (by simp)) 0
          case c2 => intro u hu; simp at hu; subst hu; rfl
          case c3 => unfold maxLen; simp
          case c4 => simp
          case c5 => have := B2.out.size; simp at this ⊢; omega
          intro tv' w9 hown' hgrow _
          have R9 := R2.out.kept hgrow
          have B9 := Lib.hid (R2.out.grown B2.out rfl hgrow)
          obtain ⟨x1, x2⟩ := R9
          obtain ⟨tg, tcap, rfl⟩ := rp_slice hown'
          have R10 := R2.out.app (xs := [.string ⟨#[q]⟩, .string ⟨#[cc]⟩]) hown' hgrow
          have B10 := Lib.hid (B9.out.setCell (p := ⟨k, 256, none⟩) R10.hB (.slice (some ⟨tg, 0, none⟩) 2 tcap))
          have S10 := Lib.hid ((((HS1.out.next ((Below.refl wr.heap.size wr).alloc (Nat.le_refl _) (.cells #[.int .u8 (cn : Int)] 5 (0, 0)))).next ((Below.refl _ _).alloc (Nat.le_refl _) (.cells #[.string ⟨#[cc]⟩] tStr))).grown R2.out hgrow).set (R2.out.keptHere hgrow) 256 (.slice (some ⟨tg, 0, none⟩) 2 tcap))
          have R10 := Lib.hid R10
          clear R2 B2 HRO hgrow hown' cv R HB e0 e1 e2
          go_upto_region 34 with (fail)
          skip
          generalize w9.setCell ⟨k, 256, none⟩ (.slice (some ⟨tg, 0, none⟩) 2 tcap) = w10 at *
          have y0 := (R10.out.next (bytes_below ⟨#[92, cc]⟩ w10)).cell hcl
          have y1 := (R10.out.next (bytes_below ⟨#[92, cc]⟩ w10)).free cn
          rw [if_neg (by rw [← HC.out.2, HC.out.1]; exact fun e => hq92 e.symm)] at y0
          have cs : (convert 9 103 (.string ⟨#[92, cc]⟩)).run Tryz.prog w10 = .ok (.slice (some ⟨w10.heap.size, 0, none⟩) 2 (grownCap w10 2 0 5)) (Lib.bytesWorld w10 5 ⟨#[92, cc]⟩) := SB.out w10 ⟨#[92, cc]⟩
          have Y : By (.slice (some ⟨w10.heap.size, 0, none⟩) 2 (grownCap w10 2 0 5)) [92, cc] (Lib.bytesWorld w10 5 ⟨#[92, cc]⟩) := By.of ⟨#[92, cc]⟩ w10
          have R11 := R10.out.next (bytes_below ⟨#[92, cc]⟩ w10)
          have B11 := B10.out.trans ((bytes_below ⟨#[92, cc]⟩ w10).mono B10.out.size)
          have S11 := S10.out.next (bytes_below ⟨#[92, cc]⟩ w10)
          generalize Lib.bytesWorld w10 5 ⟨#[92, cc]⟩ = w11 at *
          generalize w10.heap.size = yb at *
          generalize grownCap w10 2 0 5 = yc at *
          have RS := Lib.hid (R11.set hcl (.slice (some ⟨yb, 0, none⟩) 2 yc))
          have YS := Lib.hid (Y.set R11.here cn (.slice (some ⟨yb, 0, none⟩) 2 yc))
          have BS := Lib.hid (B11.setCell (p := ⟨k, cn, none⟩) R11.hB (.slice (some ⟨yb, 0, none⟩) 2 yc))
          have SS := Lib.hid (S11.set R11.here cn (.slice (some ⟨yb, 0, none⟩) 2 yc))
          clear S11 S10
          clear R11 Y B11 R10 B10 x1 x2 d0 d1 B9
          go_wp2_with fail
          have RQ : Rpq q k w.heap.size (w11.setCell ⟨k, cn, none⟩ (.slice (some ⟨yb, 0, none⟩) 2 yc)) := by
            have hc := HC.out.1
            have hn : cn = 92 := by rw [← HC.out.2, hc]; rfl
            subst hc
            subst hn
            exact ⟨_, _, _, RS.out, SS.out, YS.out⟩
          have RQ := Lib.hid RQ
          go_roundg 1
          case measure => omega
          case rel => exact ⟨_, _, _, RS, BS, .inr (.inr ⟨rfl, rfl, RQ⟩)⟩
        · go_wp2_with fail
          go_ret
          exact ⟨k, rfl, HQ.out, HB.out⟩
end
section

abbrev tRpl : TypeId := 230
variable {k : Nat} {f : Nat → Value} {tv tv' v : Value} {l : List Value} {B : Nat} {w w' w0 : World} {q : UInt8}
theorem Rp.grow {rb : Nat} (h : Rp k f tv l B w) (hg : w.grownBy w' (some rb)) {C : Array Value} {T : TypeId} {fr : Nat × Nat} (hb : w.heap[rb]? = some (.cells C T fr)) (h1 : T ≠ tRep) (h2 : T ≠ tStr) : Rp k f tv l B w' := by
  obtain ⟨D, g1, g2⟩ := h.blk
  refine ⟨⟨D, grown_blk hg g1 (fun e => ?_), g2⟩, h.own.kept hg (.inr (own_other h.own hb h2)), h.hB⟩
  have e := Option.some.inj e
  subst e
  rw [hb] at g1
  simp only [Option.some.injEq, Obj.cells.injEq] at g1
  exact h1 g1.2.1
theorem Rpq.grow {rb : Nat} (h : Rpq q k B w) (hg : w.grownBy w' (some rb)) {C : Array Value} {T : TypeId} {fr : Nat × Nat} (hb : w.heap[rb]? = some (.cells C T fr)) (h1 : T ≠ tRep) (h2 : T ≠ tStr) (h3 : T ≠ 5) : Rpq q k B w' := by
  obtain ⟨s1, s2, tv, r, b1, b2⟩ := h.r
  exact ⟨s1, s2, tv, r.grow hg hb h1 h2, b1.grow hg (fun j e => by cases e; exact ⟨_, _, _, hb, h3⟩), b2.grow hg (fun j e => by cases e; exact ⟨_, _, _, hb, h3⟩)⟩
theorem Rpq.next (h : Rpq q k B w) (hB : Below w.heap.size w w') : Rpq q k B w' := by
  obtain ⟨s1, s2, tv, r, b1, b2⟩ := h.r
  exact ⟨s1, s2, tv, r.next hB, b1.next hB, b2.next hB⟩
/-- The replacer in block rb. -/
def Rpb (rb : Nat) (d m : Int) (x o : Value) (w : World) : Prop := w.heap[rb]? = some (.cells #[.int .u32 d, .int .i32 m, .int .u32 0, x, o] tRpl (0, 0))
theorem Rpb.set0 {rb : Nat} {d m : Int} {x o : Value} (h : Rpb rb d m x o w) (v : Int) : Rpb rb v m x o (w.setCell ⟨rb, 0, none⟩ (.int .u32 v)) := by
  have := blk_set' h 0 (.int .u32 v); simpa [Rpb] using this
theorem Rpb.set1 {rb : Nat} {d m : Int} {x o : Value} (h : Rpb rb d m x o w) (v : Int) : Rpb rb d v x o (w.setCell ⟨rb, 1, none⟩ (.int .i32 v)) := by
  have := blk_set' h 1 (.int .i32 v); simpa [Rpb] using this
theorem Rpb.set3 {rb : Nat} {d m : Int} {x o : Value} (h : Rpb rb d m x o w) (v : Value) : Rpb rb d m v o (w.setCell ⟨rb, 3, none⟩ v) := by
  have := blk_set' h 3 v; simpa [Rpb] using this
theorem Rpb.set4 {rb : Nat} {d m : Int} {x o : Value} (h : Rpb rb d m x o w) (v : Value) : Rpb rb d m x v (w.setCell ⟨rb, 4, none⟩ v) := by
  have := blk_set' h 4 v; simpa [Rpb] using this
theorem Rpq.setRb {rb i : Nat} {d m : Int} {x o : Value} (h : Rpq q k B w) (hb : Rpb rb d m x o w) (v : Value) : Rpq q k B (w.setCell ⟨rb, i, none⟩ v) :=
  h.grow (grown_set (grown_self _ _) i v) hb (by decide) (by decide) (by decide)
abbrev repI (k : Nat) : Value := .iface 298 (.pointer (some ⟨k, 0, none⟩))
set_option maxRecDepth 100000 in
set_option maxHeartbeats 1000000 in
theorem rp_once (q : UInt8) (hq : ¬ q = 92) (rb ob cap : Nat) (d m : Int) (w : World) (hr : Rpb rb d m .nilIface (.slice (some ⟨ob, 0, none⟩) 4 cap) w)
    (c0 : w.cell? ⟨ob, 0, none⟩ = some (.string ⟨#[92]⟩)) (c1 : w.cell? ⟨ob, 1, none⟩ = some (.string ⟨#[92, 92]⟩)) (c2 : w.cell? ⟨ob, 2, none⟩ = some (.string ⟨#[q]⟩)) (c3 : w.cell? ⟨ob, 3, none⟩ = some (.string ⟨#[92, q]⟩)) :
    Calls Tryz.prog 106 #[.pointer (some ⟨rb, 0, none⟩)] w fun ev w' => ev = .returned (.tuple #[]) ∧ ∃ k, Rpb rb d m (repI k) nilS w' ∧ Rpq q k w.heap.size w' ∧ Below rb w w' := by
  have CB := Lib.hid (rp_build q hq rb ob cap w (by rw [blk_cell' hr]; rfl) c0 c1 c2 c3)
  clear c0 c1 c2 c3
  have hlt := blk_lt' hr
  have HR := Lib.hid hr
  clear hr
  go_enter Tryz.func106, Tryz.ntmps106
  go_wp2_with fail
  refine CB.out.mono ?_
  rintro ev w1 ⟨k, rfl, hQ, hB⟩
  have R1 : Rpb rb d m .nilIface (.slice (some ⟨ob, 0, none⟩) 4 cap) w1 := below_blk hB hlt HR.out
  have x3 := blk_cell' R1 3
  have f3 := blk_free' R1 3
  have y4 := blk_cell' (R1.set3 (repI k)) 4
  have g4 := blk_free' (R1.set3 (repI k)) 4
  have R2 := Lib.hid ((R1.set3 (repI k)).set4 nilS)
  have Q2 := Lib.hid ((hQ.setRb (i := 3) R1 (repI k)).setRb (i := 4) (R1.set3 (repI k)) nilS)
  have B2 := Lib.hid (((hB.mono (Nat.le_of_lt hlt)).setCell (p := ⟨rb, 3, none⟩) (Nat.le_refl _) (repI k)).setCell (p := ⟨rb, 4, none⟩) (Nat.le_refl _) nilS)
  clear hQ hB R1 CB HR
  go_wp2_with fail
  go_end0
  exact ⟨rfl, k, R2.out, Q2.out, B2.out⟩
theorem once_load (a : Addr) (w : World) (hc : w.cell? a = some (.int .u32 0)) :
    Calls Tryz.prog 128 #[.pointer (some a)] w fun e w' => e = .returned (.bool false) ∧ w' = w := by
  have hl := run_call_load (P := Tryz.prog) Tryz.func150 (by kernel_rfl) (by kernel_rfl) (by kernel_rfl) .u32 (by kernel_rfl) hc
  go_enter Tryz.func128, Tryz.ntmps128
  go_wp2
  go_ret
  exact ⟨rfl, rfl⟩
/-- What Once leaves: the replacer is built, the lock is free. -/
def RbDone (q : UInt8) (rb B : Nat) (w w' : World) : Prop := ∃ k, Rpb rb 1 0 (repI k) nilS w' ∧ Rpq q k B w' ∧ Below rb w w'
set_option maxRecDepth 100000 in
set_option maxHeartbeats 2000000 in
theorem once_slow (q : UInt8) (hq : ¬ q = 92) (rb ob cap : Nat) (w : World) (hr : Rpb rb 0 0 .nilIface (.slice (some ⟨ob, 0, none⟩) 4 cap) w) (hob : ob < rb)
    (c0 : w.cell? ⟨ob, 0, none⟩ = some (.string ⟨#[92]⟩)) (c1 : w.cell? ⟨ob, 1, none⟩ = some (.string ⟨#[92, 92]⟩)) (c2 : w.cell? ⟨ob, 2, none⟩ = some (.string ⟨#[q]⟩)) (c3 : w.cell? ⟨ob, 3, none⟩ = some (.string ⟨#[92, q]⟩)) :
    Calls Tryz.prog 129 #[.pointer (some ⟨rb, 0, none⟩), .func (.func 106) #[.pointer (some ⟨rb, 0, none⟩)] #[]] w fun ev w' => ev = .returned (.tuple #[]) ∧ RbDone q rb w.heap.size w w' := by
  have hlt := blk_lt' hr
  obtain ⟨w1, hw1⟩ : ∃ w1, w1 = w.setCell ⟨rb, 1, none⟩ (.int .i32 1) := ⟨_, rfl⟩
  have R1 : Rpb rb 0 1 .nilIface (.slice (some ⟨ob, 0, none⟩) 4 cap) w1 := by rw [hw1]; exact hr.set1 1
  have B1 : Below rb w w1 := by rw [hw1]; exact (Below.refl _ _).setCell (p := ⟨rb, 1, none⟩) (Nat.le_refl _) _
  have hs1 : w1.heap.size = w.heap.size := by rw [hw1]; simp
  have CL : Calls Tryz.prog 151 #[.pointer (some ⟨rb, 1, none⟩)] w fun e w' => e = .returned (.tuple #[]) ∧ w' = w1 := by rw [hw1]; exact once_lock ⟨rb, 1, none⟩ w (blk_cell' hr 1) (blk_free' hr 1)
  have CO := rp_once q hq rb ob cap 0 1 w1 R1 ((B1.cell (p := ⟨ob, 0, none⟩) hob).trans c0) ((B1.cell (p := ⟨ob, 1, none⟩) hob).trans c1) ((B1.cell (p := ⟨ob, 2, none⟩) hob).trans c2) ((B1.cell (p := ⟨ob, 3, none⟩) hob).trans c3)
  rw [hs1] at CO
  have CD := once_load ⟨rb, 0, none⟩ w1 (blk_cell' R1 0)
  have hnot : ∀ (x : Bool) (w : World), (Op.unary .not (.bool x)).run Tryz.prog w = .ok (.bool (!x)) w := fun _ _ => rfl
  clear hw1 c0 c1 c2 c3 hr R1
  have B1 := Lib.hid B1
  go_enter_defers Tryz.func129, Tryz.ntmps129
  go_wp2_with (first | (go_at_call 151; refine CL.mono ?_; rintro e w' ⟨rfl, rfl⟩) | (go_at_call 106; refine CO.mono ?_; rintro e w2 ⟨rfl, k, R2, Q2, B2⟩) | (go_at_call 128; refine CD.mono ?_; rintro e w' ⟨rfl, rfl⟩))
  refine leaves_cons (f := 153) (args := #[.pointer (some ⟨rb, 0, none⟩), .bool true]) (by simp) (by simp [go_sem]) ?_
  refine (once_store ⟨rb, 0, none⟩ (.int .u32 0) .returning _ (blk_cell' R2 0) (blk_free' R2 0)).mono ?_
  rintro e u' w3 ⟨rfl, rfl, rfl⟩
  have R3 : Rpb rb 1 1 (repI k) nilS (w2.drew.setCell ⟨rb, 0, none⟩ (.int .u32 1)) := Rpb.set0 (w := w2.drew) R2 1
  have Q3 : Rpq q k w.heap.size (w2.drew.setCell ⟨rb, 0, none⟩ (.int .u32 1)) := Rpq.setRb (w := w2.drew) (Q2.next ⟨rfl, rfl, rfl, Nat.le_refl _, fun _ _ => rfl⟩) (show Rpb rb 0 1 (repI k) nilS w2.drew from R2) _
  have B3 : Below rb w (w2.drew.setCell ⟨rb, 0, none⟩ (.int .u32 1)) := (show Below rb w w2.drew from (B1.out.trans B2).trans ⟨rfl, rfl, rfl, Nat.le_refl _, fun _ _ => rfl⟩).setCell (p := ⟨rb, 0, none⟩) (Nat.le_refl _) _
  generalize w2.drew.setCell ⟨rb, 0, none⟩ (.int .u32 1) = w4 at *
  refine leaves_cons (f := 152) (args := #[.pointer (some ⟨rb, 1, none⟩)]) (by simp [settle]) (by simp [go_sem]) ?_
  refine (once_unlock ⟨rb, 1, none⟩ _ _ (blk_cell' R3 1) (blk_free' R3 1)).mono ?_
  rintro e u' w5 ⟨rfl, rfl, rfl⟩
  have D : RbDone q rb w.heap.size w (w4.setCell ⟨rb, 1, none⟩ (.int .i32 0)) := ⟨k, R3.set1 0, Q3.setRb R3 _, B3.setCell (p := ⟨rb, 1, none⟩) (Nat.le_refl _) _⟩
  simp [Leaves, settle, results, Tryz.results129]
  exact D
set_option maxRecDepth 100000 in
set_option maxHeartbeats 2000000 in
theorem once_do (q : UInt8) (hq : ¬ q = 92) (rb ob cap : Nat) (w : World) (hr : Rpb rb 0 0 .nilIface (.slice (some ⟨ob, 0, none⟩) 4 cap) w) (hob : ob < rb)
    (c0 : w.cell? ⟨ob, 0, none⟩ = some (.string ⟨#[92]⟩)) (c1 : w.cell? ⟨ob, 1, none⟩ = some (.string ⟨#[92, 92]⟩)) (c2 : w.cell? ⟨ob, 2, none⟩ = some (.string ⟨#[q]⟩)) (c3 : w.cell? ⟨ob, 3, none⟩ = some (.string ⟨#[92, q]⟩)) :
    Calls Tryz.prog 105 #[.pointer (some ⟨rb, 0, none⟩), .func (.func 106) #[.pointer (some ⟨rb, 0, none⟩)] #[]] w fun ev w' => ev = .returned (.tuple #[]) ∧ RbDone q rb w.heap.size w w' := by
  have CS := once_slow q hq rb ob cap w hr hob c0 c1 c2 c3
  have CD := once_load ⟨rb, 0, none⟩ w (blk_cell' hr 0)
  have hnot : ∀ (x : Bool) (w : World), (Op.unary .not (.bool x)).run Tryz.prog w = .ok (.bool (!x)) w := fun _ _ => rfl
  clear c0 c1 c2 c3 hr
  go_enter Tryz.func105, Tryz.ntmps105
  go_wp2_with (first | (go_at_call 129; refine CS.mono ?_; rintro e w2 ⟨rfl, D⟩) | (go_at_call 128; refine CD.mono ?_; rintro e w' ⟨rfl, rfl⟩))
  go_end0
  exact ⟨rfl, D⟩
end
section

/-- The text in which these bytes stand in quotes. -/
def withinT (q : UInt8) (s : ByteArray) : ByteArray := ⟨(withinL q s.data.toList).toArray⟩
theorem by_two {v : Value} {x y : UInt8} {w : World} (h : By v [x, y] w) : ∃ g cap, v = .slice (some ⟨g, 0, none⟩) 2 cap ∧ g < w.heap.size ∧ w.cell? ⟨g, 0, none⟩ = some (.int .u8 (x.toNat : Int)) ∧ w.cell? ⟨g, 1, none⟩ = some (.int .u8 (y.toNat : Int)) := by
  obtain ⟨g, cap, hv, cs, fr, hb, hc⟩ := h
  exact ⟨g, cap, hv, blk_lt' hb, by rw [blk_cell' hb]; exact hc 0 (by simp), by rw [blk_cell' hb]; exact hc 1 (by simp)⟩
/-- The row of a byte. -/
theorem rq_row {q : UInt8} {k B : Nat} {w : World} (h : Rpq q k B w) (hq : ¬ q = 92) (b : UInt8) :
    (¬ (b = q ∨ b = 92) → w.cell? ⟨k, b.toNat, none⟩ = some nilS) ∧
    ((b = q ∨ b = 92) → ∃ g cap, w.cell? ⟨k, b.toNat, none⟩ = some (.slice (some ⟨g, 0, none⟩) 2 cap) ∧ g < w.heap.size ∧ w.cell? ⟨g, 0, none⟩ = some (.int .u8 92) ∧ w.cell? ⟨g, 1, none⟩ = some (.int .u8 (b.toNat : Int))) := by
  obtain ⟨s1, s2, tv, R, b1, b2⟩ := h.r
  have c := R.cell b.toNat_lt
  have e92 : (b.toNat = 92) ↔ b = 92 := ⟨fun e => UInt8.toNat_inj.1 e, fun e => by rw [e]; rfl⟩
  have eq : (b.toNat = q.toNat) ↔ b = q := ⟨fun e => UInt8.toNat_inj.1 e, fun e => by rw [e]⟩
  unfold repF at c
  constructor
  · intro h
    rw [if_neg (fun e => h (.inr (e92.1 e))), if_neg (fun e => h (.inl (eq.1 e)))] at c
    exact c
  · intro h
    by_cases h9 : b = 92
    · rw [if_pos (e92.2 h9)] at c
      obtain ⟨g, cap, rfl, i1, i2, i3⟩ := by_two b2
      exact ⟨g, cap, c, i1, i2, by rw [h9]; exact i3⟩
    · have hbq : b = q := h.resolve_right h9
      rw [if_neg (fun e => h9 (e92.1 e)), if_pos (eq.2 hbq)] at c
      obtain ⟨g, cap, rfl, i1, i2, i3⟩ := by_two b1
      exact ⟨g, cap, c, i1, i2, by rw [hbq]; exact i3⟩
/-- The list. -/
theorem rq_list {q : UInt8} {k B : Nat} {w : World} (h : Rpq q k B w) : ∃ g cap, w.cell? ⟨k, 256, none⟩ = some (.slice (some ⟨g, 0, none⟩) 2 cap) ∧ w.cell? ⟨g, 0, none⟩ = some (.string ⟨#[q]⟩) ∧ w.cell? ⟨g, 1, none⟩ = some (.string ⟨#[92]⟩) := by
  obtain ⟨s1, s2, tv, R, b1, b2⟩ := h.r
  obtain ⟨tg, tcap, rfl⟩ := rp_slice (n := 1) R.own
  have t0 := R.own.cells (g := tg) rfl 0 _ rfl
  have t1 := R.own.cells (g := tg) rfl 1 _ rfl
  have a0 : (⟨tg, 0, none⟩ : Addr).add 0 = ⟨tg, 0, none⟩ := by unfold Addr.add; split <;> simp_all
  have a1 : (⟨tg, 0, none⟩ : Addr).add 1 = ⟨tg, 1, none⟩ := by unfold Addr.add; split <;> simp_all
  rw [a0] at t0
  rw [a1] at t1
  exact ⟨tg, tcap, R.list, t0, t1⟩
theorem rq_lt {q : UInt8} {k B : Nat} {w : World} (h : Rpq q k B w) : k < w.heap.size := by
  obtain ⟨s1, s2, tv, R, b1, b2⟩ := h.r; exact R.lt
theorem rp_infoU : (Tryz.prog.info? 5).map (fun i => (i.zero, i.size, i.bytes)) = some (some (.int .u8 0), 1, 1) := by kernel_rfl
theorem rp_sizeU : (Tryz.prog.info? 5).map (·.size) = some 1 := by kernel_rfl
/-- The buffer in block b: these bytes, and zeros. -/
def Buf (b N : Nat) (l : List UInt8) (w : World) : Prop := ∃ C : Array Value, w.heap[b]? = some (.cells C 5 (0, 0)) ∧ C.size = N ∧ ∀ i, i < N → C[i]? = some (.int .u8 ((l.getD i 0).toNat : Int))
variable {b N : Nat} {l : List UInt8} {w w' : World}
theorem Buf.start (w : World) (N : Nat) : Buf w.heap.size N [] (w.alloc (.cells (madeCells #[.int .u8 0] N) 5)) :=
  ⟨_, by simpa using heap_alloc_new w (.cells (madeCells #[.int .u8 0] N) 5), size_madeCells _ _, fun i hi => by simp [madeCells, hi, Nat.mod_one]⟩
theorem Buf.next (h : Buf b N l w) (hB : Below w.heap.size w w') : Buf b N l w' := by
  obtain ⟨C, h1, h2⟩ := h
  exact ⟨C, below_blk hB (blk_lt' h1) h1, h2⟩
theorem Buf.drew (h : Buf b N l w) (n : Nat) : Buf b N l (w.drewN n) := h
theorem Buf.cell (h : Buf b N l w) {i : Nat} (hi : i < N) : w.cell? ⟨b, i, none⟩ = some (.int .u8 ((l.getD i 0).toNat : Int)) := by
  obtain ⟨C, h1, h2, h3⟩ := h
  rw [blk_cell' h1]; exact h3 i hi
theorem Buf.free (h : Buf b N l w) (i : Nat) : w.frozen? ⟨b, i, none⟩ = false := by
  obtain ⟨C, h1, h2, h3⟩ := h
  exact blk_free' h1 i
theorem Buf.put (h : Buf b N l w) {j : Nat} (hj : j = l.length) (hN : j < N) (c : UInt8) : Buf b N (l ++ [c]) (w.setCell ⟨b, j, none⟩ (.int .u8 (c.toNat : Int))) := by
  obtain ⟨C, h1, h2, h3⟩ := h
  subst hj
  refine ⟨C.setIfInBounds l.length (.int .u8 (c.toNat : Int)), by simpa using blk_set' h1 l.length (.int .u8 (c.toNat : Int)), by simpa using h2, fun i hi => ?_⟩
  rw [Array.getElem?_setIfInBounds]
  by_cases e : l.length = i
  · subst e
    rw [if_pos rfl, if_pos (by omega), List.getD, List.getElem?_append_right (Nat.le_refl _), Nat.sub_self]; rfl
  · rw [if_neg e, h3 i hi, List.getD, List.getD]
    rcases Nat.lt_or_ge i l.length with x | x
    · rw [List.getElem?_append_left x]
    · rw [List.getElem?_append_right x, List.getElem?_eq_none x, List.getElem?_eq_none (show [c].length ≤ i - l.length by simp; omega)]
/-- What copy leaves. -/
theorem Buf.copy (h : Buf b N l w) {j : Nat} (hj : j = l.length) (hN : j + 2 ≤ N) (c : UInt8) : ∃ X : Array Value, ∀ W : World, (W.heap = w.heap) → Buf b N (l ++ [92, c]) (W.setRow b X) ∧
    ∀ (g cap ty dl dc : Nat), 2 ≤ dl → w.cell? ⟨g, 0, none⟩ = some (.int .u8 92) → w.cell? ⟨g, 1, none⟩ = some (.int .u8 (c.toNat : Int)) →
      (Builtin.copy_ #[103, 103] ty #[.slice (some ⟨b, j, none⟩) dl dc, .slice (some ⟨g, 0, none⟩) 2 cap]).run Tryz.prog W = .ok (.int .i64 2) (W.setRow b X) := by
  obtain ⟨C, h1, h2, h3⟩ := h
  subst hj
  refine ⟨(C.toList.take (l.length) ++ [Value.int .u8 92, Value.int .u8 (c.toNat : Int)] ++ C.toList.drop (l.length + 2)).toArray, fun W hW => ⟨?_, ?_⟩⟩
  · have hb : W.heap[b]? = some (.cells C 5 (0, 0)) := by rw [hW]; exact h1
    refine ⟨_, setRow_heap W b C _ _ _ hb, by simp; omega, fun i hi => ?_⟩
    have h3' : C.toList[i]? = some (.int .u8 ((l.getD i 0).toNat : Int)) := by rw [Array.getElem?_toList]; exact h3 i hi
    have hCl : C.toList.length = N := by rw [Array.length_toList]; exact h2
    rw [List.getElem?_toArray, List.getD]
    rcases Nat.lt_or_ge i l.length with x | x
    · rw [List.append_assoc, List.getElem?_append_left (by simp; omega), List.getElem?_take_of_lt x, h3', List.getElem?_append_left x, List.getD]
    · rw [List.append_assoc, List.getElem?_append_right (by simp; omega), List.getElem?_append_right x]
      rw [List.length_take, Nat.min_eq_left (by omega)]
      rcases Nat.lt_or_ge (i - l.length) 2 with y | y
      · have : i - l.length = 0 ∨ i - l.length = 1 := by omega
        rcases this with e | e <;> rw [e] <;> rfl
      · rw [List.getElem?_append_right (by simp; omega), List.getElem?_drop, show l.length + 2 + (i - l.length - [Value.int IntKind.u8 92, Value.int IntKind.u8 (c.toNat : Int)].length) = i by simp; omega, h3', List.getElem?_eq_none (show [(92 : UInt8), c].length ≤ i - l.length by simp; omega), List.getD, List.getElem?_eq_none x]
  · intro g cap ty dl dc hd r0 r1
    have hb : W.heap[b]? = some (.cells C 5 (0, 0)) := by rw [hW]; exact h1
    have ec : ∀ a : Addr, W.cell? a = w.cell? a := fun a => by unfold World.cell?; rw [hW]
    have hm : Nat.min 2 dl = 2 := by simp [Nat.min_def]; omega
    have := run_copy_row (P := Tryz.prog) W 103 103 ty 5 b l.length dl dc ⟨g, 0, none⟩ 2 cap C _ [.int .u8 92, .int .u8 (c.toNat : Int)] Tryz.underlying103 rp_sizeU hb (by rw [hm]; rfl) (fun j v hv => by
      match j, hv with
      | 0, hv => simp at hv; subst hv; rw [ec]; simpa [Addr.add] using r0
      | 1, hv => simp at hv; subst hv; rw [ec]; simpa [Addr.add] using r1) (by simp; omega) (fun v hv => by simp at hv; rcases hv with rfl | rfl <;> rfl)
    exact this
set_option maxRecDepth 100000 in
set_option maxHeartbeats 4000000 in
theorem rp_replace (q : UInt8) (hq : ¬ q = 92) (k B : Nat) (s : ByteArray) (hs : s.size ≤ 140737488355327) (w : World) (hQ : Rpq q k B w) :
    Calls Tryz.prog 249 #[.pointer (some ⟨k, 0, none⟩), .string s] w fun ev w' => ev = .returned (.string (withinT q s)) ∧ Below w.heap.size w w' := by
  obtain ⟨V, hV⟩ : ∃ V, V = withinT q s := ⟨_, rfl⟩
  rw [← hV]
  have HV := Lib.hid hV
  clear hV
  obtain ⟨tg, tcap, lv, t0, t1⟩ := rq_list hQ
  have kk := rq_lt hQ
  have HQ := Lib.hid hQ
  have HT := Lib.hid (And.intro t0 t1)
  clear hQ t0 t1
  obtain ⟨N, hN⟩ : ∃ N, N = s.size + s.data.toList.count q + s.data.toList.count 92 := ⟨_, rfl⟩
  have hcount := within_length q hq s.data.toList
  have hdouble := (within_double q s.data.toList).2
  have hlen : s.data.toList.length = s.size := rfl
  rw [hlen] at hcount hdouble
  have nT : ∀ (W : World) (a : Option Addr) (n c n' c' : Nat), (binOp .neq 103 (.slice a n c) (.slice none n' c')).run Tryz.prog W = .ok (.bool (!a.isNone)) W := fun W a n c n' c' => run_neq_slice_nil_any W _ _ a n c n' c' Tryz.underlying103
  go_enter Tryz.func249, Tryz.ntmps249
  go_upto_if 26 with (fail)
  obtain ⟨cq, hcq⟩ : ∃ cq : Nat, cq = s.data.toList.count q := ⟨_, rfl⟩
  obtain ⟨c9, hc9⟩ : ∃ c9 : Nat, c9 = s.data.toList.count 92 := ⟨_, rfl⟩
  have CQ : ∀ W, Calls Tryz.prog 251 #[.string s, .string ⟨#[q]⟩] W fun e w' => e = .returned (.int .i64 (cq : Int)) ∧ w' = W := fun W => by rw [hcq]; exact Tryz.strings_Count_one s q W
  have C9 : ∀ W, Calls Tryz.prog 251 #[.string s, .string ⟨#[92]⟩] W fun e w' => e = .returned (.int .i64 (c9 : Int)) ∧ w' = W := fun W => by rw [hc9]; exact Tryz.strings_Count_one s 92 W
  rw [← hcq, ← hc9] at hN hcount
  have hNle : N ≤ 2 * s.size := by omega
  obtain ⟨bb, hbb⟩ : ∃ bb : Bool, bb = decide (¬ (cq + c9 = 0)) := ⟨_, rfl⟩
  have HBB := Lib.hid hbb
  have LV := Lib.hid lv
  have CQ := Lib.hid CQ
  have C9 := Lib.hid C9
  have HC := Lib.hid (And.intro hcq hc9)
  have HNW : Hid (N = (withinL q s.data.toList).length) := Lib.hid (by omega)
  have HHQ := Lib.hid hq
  clear lv hcq hc9 hbb hq hdouble hcount hlen
  obtain ⟨b16, hb16⟩ : ∃ b16, b16 = decide ((16 : Int) ≤ (s.size : Int)) := ⟨_, rfl⟩
  rw [← hb16]
  clear hb16
  go_cut [5, 6] (fun v5 v6 wc => v5 = .int .i64 (N : Int) ∧ v6 = .bool bb ∧ Hid (Below w.heap.size w wc))
  case first =>
    clear HV HNW
    cases b16 with
    | true =>
      have lv := LV.out
      go_wp2_with fail
      go_loopg [5, 6, 32] 3 (fun m v5 v6 v32 wr => Hid (Below w.heap.size w wr) ∧ ((v32 = .int .i64 0 ∧ m = 3 ∧ v5 = .int .i64 (s.size : Int) ∧ v6 = .bool false) ∨ (v32 = .int .i64 1 ∧ m = 2 ∧ v5 = .int .i64 ((s.size + cq : Nat) : Int) ∧ v6 = .bool (decide (¬ cq = 0))) ∨ (v32 = .int .i64 2 ∧ m = 1 ∧ v5 = .int .i64 (N : Int) ∧ v6 = .bool bb)))
      case atStart => exact ⟨Lib.hid (Below.refl _ _), .inl ⟨rfl, rfl, rfl, rfl⟩⟩
      case round =>
        clear lv
        obtain ⟨HB, h⟩ := hrel
        rcases h with ⟨rfl, rfl, rfl, rfl⟩ | ⟨rfl, rfl, rfl, rfl⟩ | ⟨rfl, rfl, rfl, rfl⟩
        · have t0 := (HB.out.cell (World.block_lt_of_cell? _ _ HT.out.1)).trans HT.out.1
          obtain ⟨cc, hcc⟩ : ∃ cc : UInt8, cc = q := ⟨_, rfl⟩
          obtain ⟨g, cap, r0, -, -, -⟩ := (rq_row HQ.out HHQ.out cc).2 (.inl hcc)
          replace r0 := (HB.out.cell kk).trans r0
          have CX := CQ.out
          rw [← hcc] at t0 CX
          clear hcc
          obtain ⟨cn, hcn⟩ : ∃ cn : Nat, cc.toNat = cn := ⟨_, rfl⟩
          have hcl : cn < 256 := by rw [← hcn]; exact cc.toNat_lt
          rw [hcn] at r0
          have hx : ((⟨#[cc]⟩ : ByteArray)[0]'(Nat.zero_lt_one)).toNat = cn := hcn
          clear hcn
          have CX := Lib.hid CX
          go_wp2_with fail
          refine (CX.out _).mono ?_
          rintro ev w' ⟨rfl, rfl⟩
          by_cases h0 : cq = 0
          · have k3 : ((cq : Int) != 0) = false := by rw [h0]; rfl
            go_wp2_with fail
            go_roundg 2
            case measure => omega
            case rel => exact ⟨HB, .inr (.inl ⟨rfl, rfl, by rw [h0]; rfl, by rw [h0]; rfl⟩)⟩
          · have k3 : ((cq : Int) != 0) = true := by simpa using h0
            go_upto_region 9 with (fail)
            go_quiet (fail)
            go_wp2_with fail
            go_roundg 2
            case measure => omega
            case rel => exact ⟨Lib.hid (below_drewN HB.out _), .inr (.inl ⟨rfl, rfl, by go_num, by rw [decide_eq_true h0]⟩)⟩
        · have t0 := (HB.out.cell (World.block_lt_of_cell? _ _ HT.out.2)).trans HT.out.2
          obtain ⟨cc, hcc⟩ : ∃ cc : UInt8, cc = 92 := ⟨_, rfl⟩
          obtain ⟨g, cap, r0, -, -, -⟩ := (rq_row HQ.out HHQ.out cc).2 (.inr hcc)
          replace r0 := (HB.out.cell kk).trans r0
          have CX := C9.out
          rw [← hcc] at t0 CX
          clear hcc
          obtain ⟨cn, hcn⟩ : ∃ cn : Nat, cc.toNat = cn := ⟨_, rfl⟩
          have hcl : cn < 256 := by rw [← hcn]; exact cc.toNat_lt
          rw [hcn] at r0
          have hx : ((⟨#[cc]⟩ : ByteArray)[0]'(Nat.zero_lt_one)).toNat = cn := hcn
          clear hcn
          have CX := Lib.hid CX
          go_wp2_with fail
          refine (CX.out _).mono ?_
          rintro ev w' ⟨rfl, rfl⟩
          by_cases h0 : c9 = 0
          · have k3 : ((c9 : Int) != 0) = false := by rw [h0]; rfl
            go_wp2_with fail
            go_roundg 1
            case measure => omega
            case rel => exact ⟨HB, .inr (.inr ⟨rfl, rfl, by rw [hN, h0]; rfl, by rw [HBB.out, h0]; simp⟩)⟩
          · have k3 : ((c9 : Int) != 0) = true := by simpa using h0
            go_upto_region 9 with (fail)
            go_quiet (fail)
            go_wp2_with fail
            go_roundg 1
            case measure => omega
            case rel => exact ⟨Lib.hid (below_drewN HB.out _), .inr (.inr ⟨rfl, rfl, by rw [hN]; go_num, by rw [HBB.out, decide_eq_true (by omega)]⟩)⟩
        · go_wp2_with fail
          go_meet
          case rel => exact ⟨rfl, rfl, HB⟩
    | false =>
      go_wp2_with fail
      go_loopg [5, 6, 10] s.size (fun m v5 v6 v10 wr => ∃ (i a : Nat) (b6 : Bool), v10 = .int .i64 (i : Int) ∧ i + m = s.size ∧ v5 = .int .i64 ((s.size + a : Nat) : Int) ∧ v6 = .bool b6 ∧ a ≤ i ∧ Hid (b6 = decide (¬ a = 0)) ∧ Hid (a = (s.data.toList.take i).count q + (s.data.toList.take i).count 92) ∧ Hid (Below w.heap.size w wr))
      case atStart => exact ⟨0, 0, false, rfl, by omega, rfl, rfl, Nat.le_refl _, Lib.hid rfl, Lib.hid (by simp), Lib.hid (Below.refl _ _)⟩
      case round =>
        obtain ⟨i, a, b6, rfl, hm, rfl, rfl, hai, H6, HA, HB⟩ := hrel
        by_cases hi : i < s.size
        · have kl : decide ((i : Int) < (s.size : Int)) = true := by rw [decide_eq_true_iff]; omega
          have hb : s.data.toList[i]'hi = s[i] := rfl
          have e1 := count_take q s.data.toList i hi
          have e2 := count_take 92 s.data.toList i hi
          rw [hb] at e1 e2
          have hrow := rq_row HQ.out HHQ.out s[i]
          obtain ⟨cn, hcn⟩ : ∃ cn : Nat, s[i].toNat = cn := ⟨_, rfl⟩
          have hcl : cn < 256 := by rw [← hcn]; exact s[i].toNat_lt
          rw [hcn] at hrow
          by_cases hc : s[i] = q ∨ s[i] = 92
          · have HA2 : Hid (a + 1 = (s.data.toList.take (i + 1)).count q + (s.data.toList.take (i + 1)).count 92) := Lib.hid (by
              rw [e1, e2, HA.out]
              rcases hc with h | h
              · rw [if_pos h, if_neg (by rw [h]; exact HHQ.out)]; omega
              · rw [if_pos h, if_neg (by rw [h]; exact fun e => HHQ.out e.symm)]; omega)
            obtain ⟨g, cap, r0, -, -, -⟩ := hrow.2 hc
            replace r0 := (HB.out.cell kk).trans r0
            clear HA e1 e2 hrow hc hb
            go_wp2_with fail
            go_roundg (gk - 1)
            case measure => omega
            case rel => exact ⟨i + 1, a + 1, true, by go_num, by omega, by go_num, rfl, by omega, Lib.hid (by simp), HA2, HB⟩
          · have HA2 : Hid (a = (s.data.toList.take (i + 1)).count q + (s.data.toList.take (i + 1)).count 92) := Lib.hid (by
              rw [e1, e2, HA.out, if_neg (fun h => hc (.inl h)), if_neg (fun h => hc (.inr h))]; rfl)
            have r0 := (HB.out.cell kk).trans (hrow.1 hc)
            clear HA e1 e2 hrow hc hb
            go_wp2_with fail
            go_roundg (gk - 1)
            case measure => omega
            case rel => exact ⟨i + 1, a, b6, by go_num, by omega, rfl, rfl, by omega, H6, HA2, HB⟩
        · have kl : decide ((i : Int) < (s.size : Int)) = false := by rw [decide_eq_false_iff_not]; omega
          have hae : Hid (a = cq + c9) := Lib.hid (by rw [HA.out, List.take_of_length_le (show s.data.toList.length ≤ i from by show s.size ≤ i; omega), HC.out.1, HC.out.2])
          clear HA
          go_wp2_with fail
          go_meet
          case rel => exact ⟨by rw [hN, hae.out, Nat.add_assoc], by rw [H6.out, HBB.out, hae.out], HB⟩
  case rest =>
    clear LV CQ C9 HT nT
    have nT : ∀ (W : World) (a : Option Addr) (n c n' c' : Nat), (binOp .neq 103 (.slice a n c) (.slice none n' c')).run Tryz.prog W = .ok (.bool (!a.isNone)) W := fun W a n c n' c' => run_neq_slice_nil_any W _ _ a n c n' c' Tryz.underlying103
    obtain ⟨rfl, rfl, HB⟩ := hcut
    clear hN
    cases bb with
    | false =>
      have hz : cq + c9 = 0 := by have := HBB.out; simp at this; omega
      have HS : Hid (V = s) := Lib.hid (by rw [HV.out]; unfold withinT; rw [within_same q _ (by rw [← HC.out.1]; omega) (by rw [← HC.out.2]; omega)])
      go_wp2_with fail
      go_ret
      exact ⟨by rw [HS.out]; rfl, HB.out⟩
    | true =>
      have mk : ∀ W : World, (Instr.makeSlice 103 (.int .i64 (N : Int)) (.int .i64 (N : Int))).run Tryz.prog W = .ok (.slice (some ⟨W.heap.size, 0, none⟩) N N) (W.alloc (.cells (madeCells #[.int .u8 0] N) 5)) := fun W => run_make_row' _ _ _ _ Tryz.underlying103 rp_infoU rfl .i64 .i64 N (by omega) (by omega) W
      go_upto_region 22 with (fail)
      have T0 := Buf.start wc N
      have B0 := HB.out.trans (((Below.refl wc.heap.size wc).alloc (Nat.le_refl _) (.cells (madeCells #[.int .u8 0] N) 5)).mono HB.out.size)
      have hb0 : w.heap.size ≤ wc.heap.size := HB.out.size
      generalize wc.alloc (.cells (madeCells #[.int .u8 0] N) 5) = W0 at *
      generalize wc.heap.size = b at *
      clear mk
      have T0 := Lib.hid T0
      have B0 := Lib.hid B0
      go_wp2_with fail
      go_loopg [13, 14] s.size (fun m v13 v14 wr => ∃ (i j : Nat), v13 = .int .i64 (j : Int) ∧ v14 = .int .i64 (i : Int) ∧ i + m = s.size ∧ Hid (j = (withinL q (s.data.toList.take i)).length) ∧ j ≤ N ∧ Hid (Buf b N (withinL q (s.data.toList.take i)) wr) ∧ Hid (Below w.heap.size w wr))
      case atStart => exact ⟨0, 0, rfl, rfl, by omega, Lib.hid (by simp [withinL]), Nat.zero_le _, Lib.hid (by simpa [withinL] using T0.out), B0⟩
      case round =>
        clear T0 B0
        obtain ⟨i, j, rfl, rfl, hm, HJ, hjN, HT, HB⟩ := hrel
        by_cases hi : i < s.size
        · have kl : decide ((i : Int) < (s.size : Int)) = true := by rw [decide_eq_true_iff]; omega
          have hb : s.data.toList[i]'hi = s[i] := rfl
          have hst := within_step q s.data.toList i hi
          have hpt := within_part q s.data.toList i hi
          rw [hb] at hst hpt
          rw [← HJ.out, ← HNW.out] at hpt
          have hrow := rq_row HQ.out HHQ.out s[i]
          by_cases hc : s[i] = q ∨ s[i] = 92
          · have hw : withinC q s[i] = [92, s[i]] := if_pos hc
            rw [hw] at hst hpt
            have hpt2 : j + 2 ≤ N := hpt
            obtain ⟨X, hX⟩ := HT.out.copy HJ.out hpt2 s[i]
            obtain ⟨cc, hcc⟩ : ∃ cc : UInt8, cc = s[i] := ⟨_, rfl⟩
            rw [← hcc] at hrow hX hst
            obtain ⟨cn, hcn⟩ : ∃ cn : Nat, s[i].toNat = cn := ⟨_, rfl⟩
            have hcn2 : cc.toNat = cn := by rw [hcc]; exact hcn
            have hcl : cn < 256 := by rw [← hcn]; exact s[i].toNat_lt
            rw [hcn2] at hrow hX
            obtain ⟨g, cap, r0, hg, r1, r2⟩ := hrow.2 (by rw [hcc]; exact hc)
            replace r0 := (HB.out.cell kk).trans r0
            replace r1 := (HB.out.cell (p := ⟨g, 0, none⟩) hg).trans r1
            replace r2 := (HB.out.cell (p := ⟨g, 1, none⟩) hg).trans r2
            have hcp : (Builtin.copy_ #[103, 103] 3 #[.slice (some ⟨b, j, none⟩) (N - j) (N - j), .slice (some ⟨g, 0, none⟩) 2 cap]).run Tryz.prog wr.drew = .ok (.int .i64 2) (wr.drew.setRow b X) := (hX wr.drew rfl).2 g cap 3 (N - j) (N - j) (by omega) r1 r2
            have HX := Lib.hid (hX wr.drew rfl).1
            have HJ2 : Hid (j + 2 = (withinL q (s.data.toList.take (i + 1))).length) := Lib.hid (by rw [hst, List.length_append, ← HJ.out]; rfl)
            have HT2 : Hid (Buf b N (withinL q (s.data.toList.take (i + 1))) (wr.drew.setRow b X)) := Lib.hid (by rw [hst]; exact HX.out)
            have HB2 : Hid (Below w.heap.size w (wr.drew.setRow b X)) := Lib.hid (below_setRow (below_drewN HB.out 1) hb0 X)
            clear hrow hX hc hw hpt hcc hcn2 r1 r2 HX HT HB hst HJ
            go_upto_region 28 with (fail)
            go_region_with (fail)
            all_goals go_wp2_with fail
            go_roundg (gk - 1)
            case measure => omega
            case rel => exact ⟨i + 1, j + 2, by go_num, by go_num, by omega, HJ2, by omega, HT2, HB2⟩
          · have hw : withinC q s[i] = [s[i]] := if_neg hc
            rw [hw] at hst hpt
            have hpt2 : j + 1 ≤ N := hpt
            have r0 := (HB.out.cell kk).trans (hrow.1 hc)
            have q0 := HT.out.cell (i := j) (by omega)
            have q1 := HT.out.free j
            have HT2 := HT.out.put HJ.out (by omega) s[i]
            rw [← hst] at HT2
            obtain ⟨cn, hcn⟩ : ∃ cn : Nat, s[i].toNat = cn := ⟨_, rfl⟩
            have hcl : cn < 256 := by rw [← hcn]; exact s[i].toNat_lt
            rw [hcn] at r0 HT2
            have HT2 := Lib.hid HT2
            have HJ2 : Hid (j + 1 = (withinL q (s.data.toList.take (i + 1))).length) := Lib.hid (by rw [hst, List.length_append, ← HJ.out]; rfl)
            have HB2 : Hid (Below w.heap.size w (wr.setCell ⟨b, j, none⟩ (.int .u8 (cn : Int)))) := Lib.hid (HB.out.setCell (p := ⟨b, j, none⟩) hb0 _)
            generalize ((withinL q (s.data.toList.take i)).getD j 0).toNat = qx at q0
            clear hrow hc hw hpt HT HB hst HJ
            go_wp2_with fail
            go_roundg (gk - 1)
            case measure => omega
            case rel => exact ⟨i + 1, j + 1, by go_num, by go_num, by omega, HJ2, by omega, HT2, HB2⟩
        · have kl : decide ((i : Int) < (s.size : Int)) = false := by rw [decide_eq_false_iff_not]; omega
          have ht : s.data.toList.take i = s.data.toList := List.take_of_length_le (show s.data.toList.length ≤ i from by show s.size ≤ i; omega)
          have hT := HT.out
          rw [ht] at hT
          have hVs : V.size = N := by rw [HV.out, HNW.out]; rfl
          have cv := Lib.run_convert_whole (P := Tryz.prog) wr 103 5 9 Tryz.underlying103 Tryz.underlying5 Tryz.underlying9 b 0 V (fun x hx => by
            rw [Nat.zero_add, hT.cell (by omega)]
            have hx' : x < (withinL q s.data.toList).length := by rw [← HNW.out]; omega
            rw [List.getD, List.getElem?_eq_getElem hx']
            have hv := HV.out
            subst hv
            rfl) N
          rw [hVs] at cv
          clear ht hT hVs HT
          go_wp2_with fail
          go_ret
          exact ⟨rfl, HB.out⟩
end
section

set_option maxRecDepth 100000 in
set_option maxHeartbeats 2000000 in
theorem rp_new (x0 x1 x2 x3 : ByteArray) (ob cap : Nat) (w : World) (c0 : w.cell? ⟨ob, 0, none⟩ = some (.string x0)) (c1 : w.cell? ⟨ob, 1, none⟩ = some (.string x1)) (c2 : w.cell? ⟨ob, 2, none⟩ = some (.string x2)) (c3 : w.cell? ⟨ob, 3, none⟩ = some (.string x3)) :
    Calls Tryz.prog 83 #[.slice (some ⟨ob, 0, none⟩) 4 cap] w fun ev w' => ∃ rb o c, ev = .returned (.pointer (some ⟨rb, 0, none⟩)) ∧ Rpb rb 0 0 .nilIface (.slice (some ⟨o, 0, none⟩) 4 c) w' ∧ o < rb ∧ w.heap.size ≤ rb ∧
      w'.cell? ⟨o, 0, none⟩ = some (.string x0) ∧ w'.cell? ⟨o, 1, none⟩ = some (.string x1) ∧ w'.cell? ⟨o, 2, none⟩ = some (.string x2) ∧ w'.cell? ⟨o, 3, none⟩ = some (.string x3) ∧ Below w.heap.size w w' := by
  obtain ⟨i0, hi, hz0, hz1, hz2⟩ := info_parts info_Str
  have HRO := World.ownsRow_nil w w.heap.size tStr 1
  have HC := Lib.hid (And.intro c0 (And.intro c1 (And.intro c2 c3)))
  clear c0 c1 c2 c3
  go_enter Tryz.func83, Tryz.ntmps83
  go_wp2_with (at_builtin; refine wpList_append_own _ rfl _ _ 125 rfl w.heap.size tStr i0 (.string ⟨#[]⟩) 1 16 Tryz.underlying125 hi hz0 hz1 hz2 rfl (by decide) _ _ _ rfl HRO ⟨ob, 0, none⟩ 4 cap [.string x0, .string x1, .string x2, .string x3] rfl rfl ?c1 ?c2 ?c3 ?c4 ?c5 ?_)
  case c1 =>
    intro j u hj
    match j, hj with
    | 0, hj => simp at hj; subst hj; simpa [Addr.add] using HC.out.1
    | 1, hj => simp at hj; subst hj; simpa [Addr.add] using HC.out.2.1
    | 2, hj => simp at hj; subst hj; simpa [Addr.add] using HC.out.2.2.1
    | 3, hj => simp at hj; subst hj; simpa [Addr.add] using HC.out.2.2.2
  case c2 => intro u hu; simp at hu; rcases hu with rfl | rfl | rfl | rfl <;> rfl
  case c3 => unfold maxLen; simp
  case c4 => simp
  case c5 => exact Nat.le_refl _
  intro tv' w9 hown' hgrow _
  obtain ⟨tg, tcap, rfl⟩ := rp_slice hown'
  have hB := Lib.hid (below_of_grown hgrow (fun j e => by cases e) (Nat.le_refl _))
  have hlt := Lib.hid (hown'.lt tg rfl)
  have t0 := hown'.cells (g := tg) rfl 0 _ rfl
  have t1 := hown'.cells (g := tg) rfl 1 _ rfl
  have t2 := hown'.cells (g := tg) rfl 2 _ rfl
  have t3 := hown'.cells (g := tg) rfl 3 _ rfl
  have a0 : ∀ j, (⟨tg, 0, none⟩ : Addr).add j = ⟨tg, j, none⟩ := fun j => by unfold Addr.add; split <;> simp_all
  rw [a0] at t0 t1 t2 t3
  have HT := Lib.hid (And.intro t0 (And.intro t1 (And.intro t2 t3)))
  clear t0 t1 t2 t3 a0 hgrow hown' HRO
  go_wp2_with fail
  go_ret
  have hs := hB.out.size
  refine ⟨_, tg, tcap, rfl, heap_alloc_new w9 _, hlt.out.2, hs, ?_, ?_, ?_, ?_, hB.out.alloc hs _⟩
  · rw [World.cell?_alloc_past _ _ _ hlt.out.2]; exact HT.out.1
  · rw [World.cell?_alloc_past _ _ _ hlt.out.2]; exact HT.out.2.1
  · rw [World.cell?_alloc_past _ _ _ hlt.out.2]; exact HT.out.2.2.1
  · rw [World.cell?_alloc_past _ _ _ hlt.out.2]; exact HT.out.2.2.2
theorem rep_nil (a : Addr) (w : World) : (nilAhead 492 298 (.pointer (some a)) "Replace").run Tryz.prog w = .ok (some false) w := by kernel_rfl
theorem rep_method (a : Addr) (w : World) : (method 492 298 (.pointer (some a)) "Replace").run Tryz.prog w = .ok (249, .pointer (some a)) w := by kernel_rfl
set_option maxRecDepth 100000 in
set_option maxHeartbeats 2000000 in
theorem rp_Replace (q : UInt8) (hq : ¬ q = 92) (s : ByteArray) (hs : s.size ≤ 140737488355327) (rb ob cap : Nat) (w : World) (hr : Rpb rb 0 0 .nilIface (.slice (some ⟨ob, 0, none⟩) 4 cap) w) (hob : ob < rb)
    (c0 : w.cell? ⟨ob, 0, none⟩ = some (.string ⟨#[92]⟩)) (c1 : w.cell? ⟨ob, 1, none⟩ = some (.string ⟨#[92, 92]⟩)) (c2 : w.cell? ⟨ob, 2, none⟩ = some (.string ⟨#[q]⟩)) (c3 : w.cell? ⟨ob, 3, none⟩ = some (.string ⟨#[92, q]⟩)) :
    Calls Tryz.prog 84 #[.pointer (some ⟨rb, 0, none⟩), .string s] w fun ev w' => ev = .returned (.string (withinT q s)) ∧ Below rb w w' := by
  have hmf : ∀ (fn : Fn) (first cap : Array Value) (w : World), (Instr.makeFunc fn first cap).run Tryz.prog w = .ok (.func fn first cap) w := fun _ _ _ _ => rfl
  have CD := Lib.hid (once_do q hq rb ob cap w hr hob c0 c1 c2 c3)
  have hlt := blk_lt' hr
  have n0 := rep_nil
  have m0 := rep_method
  clear c0 c1 c2 c3 hr
  go_enter Tryz.func84, Tryz.ntmps84
  go_wp2_with fail
  refine CD.out.mono ?_
  rintro ev w1 ⟨rfl, k, R1, Q1, B1⟩
  have CR := Lib.hid (rp_replace q hq k _ s hs w1 Q1)
  have x3 := blk_cell' R1 3
  have B1 := Lib.hid B1
  have hs1 := blk_lt' R1
  clear R1 Q1
  go_wp2_with fail
  refine CR.out.mono ?_
  rintro ev w2 ⟨rfl, B2⟩
  have B3 := Lib.hid (B1.out.trans (B2.mono (Nat.le_of_lt hs1)))
  clear B2
  go_wp2_with fail
  go_ret
  exact ⟨rfl, B3.out⟩
/-- The text in quotes. -/
def inT (q : UInt8) (s : ByteArray) : ByteArray := ⟨(inQ q s.data.toList).toArray⟩
theorem inT_is (q : UInt8) (s : ByteArray) : (⟨#[q]⟩ : ByteArray) ++ withinT q s ++ ⟨#[q]⟩ = inT q s := by
  apply bytes_ext
  rw [data_app, data_app]
  simp [inT, inQ, withinT]
theorem withinT_size (q : UInt8) (s : ByteArray) : (withinT q s).size ≤ 2 * s.size := (within_double q s.data.toList).2
set_option maxRecDepth 100000 in
set_option maxHeartbeats 2000000 in
theorem lex_inQuotes (q : UInt8) (hq : ¬ q = 92) (s : ByteArray) (hs : s.size ≤ 140737488355327) (w : World) :
    Calls Tryz.prog 37 #[.string s, .string ⟨#[q]⟩] w fun ev w' => ev = .returned (.string (inT q s)) ∧ Below w.heap.size w w' := by
  have CR := Lib.hid (fun rb ob cap W h1 h2 h3 h4 h5 h6 => rp_Replace q hq s hs rb ob cap W h1 h2 h3 h4 h5 h6)
  have hI := inT_is q s
  have hV := withinT_size q s
  obtain ⟨b4, hb4⟩ : ∃ b4 : Obj, b4 = .cells #[.string ⟨#[92]⟩, .string ⟨#[92, 92]⟩, .string ⟨#[q]⟩, .string ⟨#[92, q]⟩] tStr (0, 0) := ⟨_, rfl⟩
  have hb := heap_alloc_new w b4
  have CN := rp_new ⟨#[92]⟩ ⟨#[92, 92]⟩ ⟨#[q]⟩ ⟨#[92, q]⟩ w.heap.size 4 (w.alloc b4) (by rw [hb4] at hb ⊢; exact blk_cell' hb 0) (by rw [hb4] at hb ⊢; exact blk_cell' hb 1) (by rw [hb4] at hb ⊢; exact blk_cell' hb 2) (by rw [hb4] at hb ⊢; exact blk_cell' hb 3)
  have hB0 : Below w.heap.size w (w.alloc b4) := (Below.refl _ _).alloc (Nat.le_refl _) _
  have hcat : (⟨#[92]⟩ : ByteArray) ++ ⟨#[q]⟩ = ⟨#[92, q]⟩ := bytes_ext (by rw [data_app]; rfl)
  rw [hb4] at CN hB0
  clear hb hb4
  obtain ⟨V, hVV⟩ : ∃ V, V = withinT q s := ⟨_, rfl⟩
  obtain ⟨I, hII⟩ : ∃ I, I = inT q s := ⟨_, rfl⟩
  rw [← hVV] at CR hI hV
  rw [← hII] at hI ⊢
  have HI := Lib.hid hI
  have CN := Lib.hid CN
  have HB0 := Lib.hid hB0
  have hz1 : (⟨#[q]⟩ : ByteArray).size = 1 := rfl
  clear hVV hII hI hB0
  go_enter Tryz.func37, Tryz.ntmps37
  go_wp2_with fail
  refine CN.out.mono ?_
  rintro ev w1 ⟨rb, o, c, rfl, hr, ho, hrb, t0, t1, t2, t3, hB1⟩
  have CR := Lib.hid (CR.out rb o c w1 hr ho t0 t1 t2 t3)
  have HB1 := Lib.hid (HB0.out.trans (hB1.mono HB0.out.size))
  have hrb2 : w.heap.size ≤ rb := Nat.le_trans HB0.out.size hrb
  clear hr ho hrb t0 t1 t2 t3 hB1 CN HB0
  go_wp2_with fail
  refine CR.out.mono ?_
  rintro ev w2 ⟨rfl, B2⟩
  have HB2 := Lib.hid (HB1.out.trans (B2.mono hrb2))
  clear B2 CR HB1 hcat
  generalize (⟨#[q]⟩ : ByteArray) = Q at *
  go_wp2_with fail
  go_ret
  exact ⟨by rw [← HI.out]; rfl, HB2.out⟩
set_option maxRecDepth 100000 in
set_option maxHeartbeats 2000000 in
theorem lex_Text (s : ByteArray) (hs : s.size ≤ 140737488355327) (w : World) :
    Calls Tryz.prog 17 #[.string s] w fun ev w' => ev = .returned (.string (inT 39 s)) ∧ Below w.heap.size w w' := by
  have C := Lib.hid (lex_inQuotes 39 (by decide) s hs w)
  generalize inT 39 s = V at *
  go_enter Tryz.func17, Tryz.ntmps17
  go_wp2_with fail
  refine C.out.mono ?_
  rintro ev w2 ⟨rfl, B2⟩
  have B2 := Lib.hid B2
  go_wp2_with fail
  go_ret
  exact ⟨rfl, B2.out⟩
end
end Go.Proofs.YtmooibnedokllaaGreatDoor
