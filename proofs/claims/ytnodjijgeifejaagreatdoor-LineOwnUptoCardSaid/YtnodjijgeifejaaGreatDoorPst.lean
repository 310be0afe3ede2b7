/- Package line: what reader.point keeps in memory: the reader, the point that grows, its two lists. -/
import Derived.Test.YtnodjijgeifejaaGreatDoorReader
import Derived.Lib.SmallJoins
namespace Go.Proofs.YtnodjijgeifejaaGreatDoor
open Go.RowKit
set_option linter.unusedSimpArgs false
set_option linter.unusedVariables false

def tagCells (l : List (ByteArray × ByteArray)) : List Value := l.flatMap fun t => [.string t.1, .string t.2]
def fieldCells (l : List (ByteArray × Int)) : List Value := l.flatMap fun f => [.string f.1, .int .i64 f.2]
theorem tagCells_snoc (l : List (ByteArray × ByteArray)) (k v : ByteArray) : tagCells (l ++ [(k, v)]) = tagCells l ++ [.string k, .string v] := by simp [tagCells]
theorem fieldCells_snoc (l : List (ByteArray × Int)) (k : ByteArray) (n : Int) : fieldCells (l ++ [(k, n)]) = fieldCells l ++ [.string k, .int .i64 n] := by simp [fieldCells]
abbrev tTag : TypeId := 98
abbrev tFld : TypeId := 86
/-- A list of tags, of fields, in memory: laid since there were B blocks. -/
abbrev TagsIn (B : Nat) (v : Value) (l : List (ByteArray × ByteArray)) (w : World) : Prop := w.ownsRow B tTag 2 v l.length (tagCells l)
abbrev FieldsIn (B : Nat) (v : Value) (l : List (ByteArray × Int)) (w : World) : Prop := w.ownsRow B tFld 2 v l.length (fieldCells l)
theorem info_T : (Tryz.prog.info? 98).map (fun i => (i.zero, i.size, i.bytes)) = some (some (.agg #[.string ⟨#[]⟩, .string ⟨#[]⟩]), 2, 32) := by kernel_rfl
theorem info_F : (Tryz.prog.info? 86).map (fun i => (i.zero, i.size, i.bytes)) = some (some (.agg #[.string ⟨#[]⟩, .int .i64 0]), 2, 24) := by kernel_rfl

abbrev ptZ : Obj := .cells #[.string ⟨#[]⟩, .slice none 0 0, .slice none 0 0, .int .i64 0] 32 (0, 0)
/-- The point in block pb (its lists tv, fv), the reader in rb, all laid since w0 but the reader. -/
structure PSt (w0 : World) (rb pb : Nat) (s : ByteArray) (a : Nat) (m : ByteArray) (tv fv : Value) (tm : Int) (tags : List (ByteArray × ByteArray)) (fs : List (ByteArray × Int)) (w : World) : Prop where
  g : w0.grownBy w (some rb)
  r : Rdr rb s a w
  p : w.heap[pb]? = some (.cells #[.string m, tv, fv, .int .i64 tm] 32 (0, 0))
  t : TagsIn w0.heap.size tv tags w
  f : FieldsIn w0.heap.size fv fs w
  q : w.heap[w0.heap.size]? = some ptZ
  hp : w0.heap.size < pb
  hr : rb < w0.heap.size
theorem own_ne {w : World} {B : Nat} {e T : TypeId} {v : Value} {n z : Nat} {xs : List Value} {b : Nat} {cs : Array Value} {fr : Nat × Nat} (hown : w.ownsRow B e z v n xs) (hb : w.heap[b]? = some (.cells cs T fr)) (hTe : T ≠ e) : v.ownBlock ≠ some b := by
  rcases hown.2 with ⟨rfl, _⟩ | ⟨g, cap, cur, rfl, _, hg, _⟩
  · simp [Value.ownBlock]
  · intro h
    simp only [Value.ownBlock, Option.some.injEq] at h
    subst h
    rw [hg] at hb
    simp only [Option.some.injEq, Obj.cells.injEq] at hb
    exact hTe hb.2.1.symm
theorem own_apart {w : World} {B B' : Nat} {e e' : TypeId} {v v' : Value} {n z n' z' : Nat} {xs xs' : List Value} (h : w.ownsRow B e z v n xs) (h' : w.ownsRow B' e' z' v' n' xs') (hne : e ≠ e') : v.ownBlock = none ∨ v.ownBlock ≠ v'.ownBlock := by
  rcases h'.2 with ⟨rfl, _⟩ | ⟨g, cap, cur, rfl, _, hg, _⟩
  · rcases hv : v.ownBlock with _ | k
    · exact .inl rfl
    · exact .inr (by simp [Value.ownBlock])
  · exact .inr (own_ne h hg (fun e => hne e.symm))
variable {w0 w w' : World} {rb pb : Nat} {s : ByteArray} {a a' : Nat} {m : ByteArray} {tv fv : Value} {tm : Int} {tags : List (ByteArray × ByteArray)} {fs : List (ByteArray × Int)}
theorem PSt.read (h : PSt w0 rb pb s a m tv fv tm tags fs w) (hg : w.grownBy w' (some rb)) (hr : Rdr rb s a' w') : PSt w0 rb pb s a' m tv fv tm tags fs w' where
  g := grown_trans h.g hg
  r := hr
  p := grown_blk hg h.p (fun e => by have := h.hp; have := h.hr; have := Option.some.inj e; omega)
  t := h.t.kept hg (.inr (own_ne h.t h.r (by decide)))
  f := h.f.kept hg (.inr (own_ne h.f h.r (by decide)))
  q := grown_blk hg h.q (fun e => by have := h.hr; have := Option.some.inj e; omega)
  hp := h.hp
  hr := h.hr
theorem PSt.next (h : PSt w0 rb pb s a m tv fv tm tags fs w) (hB : Below w.heap.size w w') : PSt w0 rb pb s a m tv fv tm tags fs w' := h.read (grown_of_below hB (Nat.le_refl _) _) (h.r.next hB)
theorem PSt.alloc (h : PSt w0 rb pb s a m tv fv tm tags fs w) (o : Obj) : PSt w0 rb pb s a m tv fv tm tags fs (w.alloc o) := h.next ((Below.refl _ _).alloc (Nat.le_refl _) o)
/-- A write into another block than these. -/
theorem PSt.other {q : Nat} (h : PSt w0 rb pb s a m tv fv tm tags fs w) (hg : w.grownBy w' (some q)) (hq : w0.heap.size < q) (hqp : q ≠ pb) (ht : tv.ownBlock ≠ some q) (hf : fv.ownBlock ≠ some q) : PSt w0 rb pb s a m tv fv tm tags fs w' where
  g := ⟨hg.os.trans h.g.os, hg.tape.trans h.g.tape, hg.output.trans h.g.output, Nat.le_trans h.g.size hg.size, fun i hi hne => (hg.block i (Nat.lt_of_lt_of_le hi h.g.size) (fun e => by have := Option.some.inj e; omega)).trans (h.g.block i hi hne)⟩
  r := grown_blk hg h.r (fun e => by have := h.hr; have := Option.some.inj e; omega)
  p := grown_blk hg h.p (fun e => hqp (Option.some.inj e).symm)
  t := h.t.kept hg (.inr ht)
  f := h.f.kept hg (.inr hf)
  q := grown_blk hg h.q (fun e => by have := Option.some.inj e; omega)
  hp := h.hp
  hr := h.hr
/-- An append into one of its lists (a row among its own), then the store into the point. -/
theorem grown_row {w1 : World} {row : Option Nat} (h : w0.grownBy w (some rb)) (hg : w.grownBy w1 row) (hrow : ∀ k, row = some k → w0.heap.size ≤ k) : w0.grownBy w1 (some rb) :=
  ⟨hg.os.trans h.os, hg.tape.trans h.tape, hg.output.trans h.output, Nat.le_trans h.size hg.size, fun i hi hne => (hg.block i (Nat.lt_of_lt_of_le hi h.size) (fun e => by have := hrow i e.symm; omega)).trans (h.block i hi hne)⟩
theorem PSt.tagAt {w1 : World} (h : PSt w0 rb pb s a m tv fv tm tags fs w) (hg : w.grownBy w1 tv.ownBlock) : w1.heap[pb]? = some (.cells #[.string m, tv, fv, .int .i64 tm] 32 (0, 0)) := grown_blk hg h.p (fun e => own_ne h.t h.p (by decide) e.symm)
theorem PSt.fieldAt {w1 : World} (h : PSt w0 rb pb s a m tv fv tm tags fs w) (hg : w.grownBy w1 fv.ownBlock) : w1.heap[pb]? = some (.cells #[.string m, tv, fv, .int .i64 tm] 32 (0, 0)) := grown_blk hg h.p (fun e => own_ne h.f h.p (by decide) e.symm)
theorem own_form {w : World} {B : Nat} {e : TypeId} {v : Value} {n z : Nat} {xs : List Value} (h : w.ownsRow B e z v n xs) : ∃ ao l c, v = .slice ao l c := by
  rcases h.2 with ⟨hv, _⟩ | ⟨g, cap, cur, hv, _⟩ <;> exact ⟨_, _, _, hv⟩
theorem own_slice {w : World} {B : Nat} {e : TypeId} {v : Value} {n z : Nat} {xs : List Value} (h : w.ownsRow B e z v (n + 1) xs) : ∃ g cap, v = .slice (some ⟨g, 0, none⟩) (n + 1) cap := by
  rcases h.2 with ⟨_, h0⟩ | ⟨g, cap, cur, hv, _⟩
  · omega
  · exact ⟨g, cap, hv⟩
theorem PSt.tag {w1 : World} {tv' : Value} {tags' : List (ByteArray × ByteArray)} (h : PSt w0 rb pb s a m tv fv tm tags fs w) (hown : TagsIn w0.heap.size tv' tags' w1) (hg : w.grownBy w1 tv.ownBlock) :
    PSt w0 rb pb s a m tv' fv tm tags' fs (w1.setCell ⟨pb, 1, none⟩ tv') := by
  have hp1 : w1.heap[pb]? = some (.cells #[.string m, tv, fv, .int .i64 tm] 32 (0, 0)) := grown_blk hg h.p (fun e => own_ne h.t h.p (by decide) e.symm)
  have hr1 : Rdr rb s a w1 := grown_blk hg h.r (fun e => own_ne h.t h.r (by decide) e.symm)
  have hf1 : FieldsIn w0.heap.size fv fs w1 := h.f.kept hg (own_apart h.f h.t (by decide))
  have hs : w1.grownBy (w1.setCell ⟨pb, 1, none⟩ tv') (some pb) := grown_set (grown_refl _ _) 1 _
  have hne : ∀ k, (some pb : Option Nat) = some k → w0.heap.size ≤ k := fun k e => by cases e; exact Nat.le_of_lt h.hp
  exact ⟨grown_row (grown_row h.g hg (fun k e => (h.t.lt k e).1)) hs hne, blk_far' hr1 (fun e => by have := h.hp; have := h.hr; omega) 1 _, blk_set' hp1 1 _, hown.kept hs (.inr (own_ne hown hp1 (by decide))), hf1.kept hs (.inr (own_ne hf1 hp1 (by decide))), blk_far' (grown_blk hg h.q (fun e => own_ne h.t h.q (by decide) e.symm)) (fun e => by have := h.hp; omega) 1 _, h.hp, h.hr⟩
theorem PSt.field {w1 : World} {fv' : Value} {fs' : List (ByteArray × Int)} (h : PSt w0 rb pb s a m tv fv tm tags fs w) (hown : FieldsIn w0.heap.size fv' fs' w1) (hg : w.grownBy w1 fv.ownBlock) :
    PSt w0 rb pb s a m tv fv' tm tags fs' (w1.setCell ⟨pb, 2, none⟩ fv') := by
  have hp1 : w1.heap[pb]? = some (.cells #[.string m, tv, fv, .int .i64 tm] 32 (0, 0)) := grown_blk hg h.p (fun e => own_ne h.f h.p (by decide) e.symm)
  have hr1 : Rdr rb s a w1 := grown_blk hg h.r (fun e => own_ne h.f h.r (by decide) e.symm)
  have ht1 : TagsIn w0.heap.size tv tags w1 := h.t.kept hg (own_apart h.t h.f (by decide))
  have hs : w1.grownBy (w1.setCell ⟨pb, 2, none⟩ fv') (some pb) := grown_set (grown_refl _ _) 2 _
  have hne : ∀ k, (some pb : Option Nat) = some k → w0.heap.size ≤ k := fun k e => by cases e; exact Nat.le_of_lt h.hp
  exact ⟨grown_row (grown_row h.g hg (fun k e => (h.f.lt k e).1)) hs hne, blk_far' hr1 (fun e => by have := h.hp; have := h.hr; omega) 2 _, blk_set' hp1 2 _, ht1.kept hs (.inr (own_ne ht1 hp1 (by decide))), hown.kept hs (.inr (own_ne hown hp1 (by decide))), blk_far' (grown_blk hg h.q (fun e => own_ne h.f h.q (by decide) e.symm)) (fun e => by have := h.hp; omega) 2 _, h.hp, h.hr⟩
theorem PSt.time (h : PSt w0 rb pb s a m tv fv tm tags fs w) (t : Int) : PSt w0 rb pb s a m tv fv t tags fs (w.setCell ⟨pb, 3, none⟩ (.int .i64 t)) := by
  have hs : w.grownBy (w.setCell ⟨pb, 3, none⟩ (.int .i64 t)) (some pb) := grown_set (grown_refl _ _) 3 _
  have hne : ∀ k, (some pb : Option Nat) = some k → w0.heap.size ≤ k := fun k e => by cases e; exact Nat.le_of_lt h.hp
  exact ⟨grown_row h.g hs hne, blk_far' h.r (fun e => by have := h.hp; have := h.hr; omega) 3 _, blk_set' h.p 3 _, h.t.kept hs (.inr (own_ne h.t h.p (by decide))), h.f.kept hs (.inr (own_ne h.f h.p (by decide))), blk_far' h.q (fun e => by have := h.hp; omega) 3 _, h.hp, h.hr⟩
/-- The result is written. -/
theorem PSt.res (h : PSt w0 rb pb s a m tv fv tm tags fs w) (hg : w.grownBy w' (some w0.heap.size)) : TagsIn w0.heap.size tv tags w' ∧ FieldsIn w0.heap.size fv fs w' ∧ w0.grownBy w' (some rb) :=
  ⟨h.t.kept hg (.inr (own_ne h.t h.q (by decide))), h.f.kept hg (.inr (own_ne h.f h.q (by decide))), grown_row h.g hg (fun k e => by cases e; exact Nat.le_refl _)⟩
/-- The reader's place is set. -/
theorem PSt.at (h : PSt w0 rb pb s a m tv fv tm tags fs w) (b : Nat) : PSt w0 rb pb s b m tv fv tm tags fs (w.setCell ⟨rb, 1, none⟩ (.int .i64 (b : Int))) := h.read (grown_set (grown_refl _ _) 1 _) (h.r.set b)
theorem new_two (w : World) (x y : Value) (T : TypeId) (n : Nat) (h : n = w.heap.size) : ∀ j u, ([x, y] : List Value)[j]? = some u → (w.alloc (.cells #[x, y] T)).cell? ((⟨n, 0, none⟩ : Addr).add j) = some u := by
  intro j u hj
  have hb := heap_new' w (.cells #[x, y] T) n h
  match j, hj with
  | 0, hj => simp at hj; subst hj; exact blk_cell' hb 0
  | 1, hj => simp at hj; subst hj; exact blk_cell' hb 1
/-- .. and a tag, a field in block qb. -/
structure TSt (w0 : World) (rb pb qb : Nat) (x0 x1 : Value) (T : TypeId) (s : ByteArray) (a : Nat) (m : ByteArray) (tv fv : Value) (tm : Int) (tags : List (ByteArray × ByteArray)) (fs : List (ByteArray × Int)) (w : World) : Prop where
  st : PSt w0 rb pb s a m tv fv tm tags fs w
  q : w.heap[qb]? = some (.cells #[x0, x1] T (0, 0))
  lt : w0.heap.size < qb
  qp : qb ≠ pb
  qt : tv.ownBlock ≠ some qb
  qf : fv.ownBlock ≠ some qb
variable {qb : Nat} {x0 x1 : Value} {T : TypeId}
theorem TSt.new (h : PSt w0 rb pb s a m tv fv tm tags fs w) (x0 x1 : Value) (T : TypeId) : TSt w0 rb pb w.heap.size x0 x1 T s a m tv fv tm tags fs (w.alloc (.cells #[x0, x1] T (0, 0))) where
  st := h.alloc _
  q := heap_alloc_new w _
  lt := blk_lt' h.q
  qp := fun e => by have := blk_lt' h.p; omega
  qt := fun e => by have := (h.t.lt _ e).2; omega
  qf := fun e => by have := (h.f.lt _ e).2; omega
theorem TSt.read (h : TSt w0 rb pb qb x0 x1 T s a m tv fv tm tags fs w) (hg : w.grownBy w' (some rb)) (hr : Rdr rb s a' w') : TSt w0 rb pb qb x0 x1 T s a' m tv fv tm tags fs w' :=
  ⟨h.st.read hg hr, grown_blk hg h.q (fun e => by have := h.lt; have := h.st.hr; have := Option.some.inj e; omega), h.lt, h.qp, h.qt, h.qf⟩
theorem TSt.set0 (h : TSt w0 rb pb qb x0 x1 T s a m tv fv tm tags fs w) (v : Value) : TSt w0 rb pb qb v x1 T s a m tv fv tm tags fs (w.setCell ⟨qb, 0, none⟩ v) :=
  ⟨h.st.other (grown_set (grown_refl _ _) 0 _) h.lt h.qp h.qt h.qf, blk_set' h.q 0 _, h.lt, h.qp, h.qt, h.qf⟩
theorem TSt.set1 (h : TSt w0 rb pb qb x0 x1 T s a m tv fv tm tags fs w) (v : Value) : TSt w0 rb pb qb x0 v T s a m tv fv tm tags fs (w.setCell ⟨qb, 1, none⟩ v) :=
  ⟨h.st.other (grown_set (grown_refl _ _) 1 _) h.lt h.qp h.qt h.qf, blk_set' h.q 1 _, h.lt, h.qp, h.qt, h.qf⟩
/-- What reader.point leaves: the point, or where it went wrong. -/
def PtPost (w0 : World) (rb : Nat) (r : Rd Pt) (ev : Ending) (w' : World) : Prop :=
  match r with
  | .ok p _ => ∃ tv fv, ev = .returned (.agg #[.string p.m, tv, fv, .int .i64 p.time]) ∧ TagsIn w0.heap.size tv p.tags w' ∧ FieldsIn w0.heap.size fv p.fields w' ∧ w0.grownBy w' (some rb)
  | .no e => Stops e ev ∧ w0.grownBy w' (some rb)
theorem pieceP_le {s : ByteArray} {a b : Nat} {t : ByteArray} (h : pieceP s a = .ok t b) (ha : a ≤ s.size) : a < b ∧ b ≤ s.size := by
  have hu := unesc_le (s.data.toList.drop a)
  have hl : (s.data.toList.drop a).length = s.size - a := by rw [List.length_drop]; rfl
  unfold pieceP at h
  rcases hq : unesc (s.data.toList.drop a) with ⟨t', n⟩ | e
  · rw [hq] at h hu
    simp only at h hu
    split at h
    · cases h
    · obtain ⟨-, rfl⟩ := Rd.ok.inj h
      omega
  · rw [hq] at h
    cases h
theorem signP_le {s : ByteArray} {c : UInt8} {a b : Nat} {u : Unit} (h : signP s c a = .ok u b) : b = a + 1 ∧ a < s.size := by
  unfold signP at h
  split at h
  · rename_i hc
    obtain ⟨-, rfl⟩ := Rd.ok.inj h
    refine ⟨rfl, ?_⟩
    rcases Nat.lt_or_ge a s.size with q | q
    · exact q
    · rw [isP_ge c (by omega)] at hc
      cases hc
  · cases h
theorem isP_lt' {s : ByteArray} {c : UInt8} {a : Nat} (h : isP s c a = true) : a < s.size := by
  rcases Nat.lt_or_ge a s.size with q | q
  · exact q
  · rw [isP_ge c (by omega)] at h
    cases h
theorem numberP_le {s : ByteArray} {a b : Nat} {n : Int} (h : numberP s a = .ok n b) (ha : a ≤ s.size) : b ≤ s.size ∧ a ≤ b := by
  unfold numberP at h
  split at h
  · obtain ⟨-, rfl⟩ := Rd.ok.inj h
    unfold endP
    have hl : (s.data.toList.drop a).length = s.size - a := by rw [List.length_drop]; rfl
    have := digitsP_le (s.data.toList.drop a)
    omega
  · cases h
/-- The first end of line. -/
theorem nl_index (s : ByteArray) : (nlP s = none ∧ Lib.indexByte s.data.toList 10 < 0) ∨ ∃ i : Nat, nlP s = some i ∧ Lib.indexByte s.data.toList 10 = i := by
  have key : ∀ l : List UInt8, (10 ∉ l ∧ Lib.indexByte l 10 < 0) ∨ (10 ∈ l ∧ Lib.indexByte l 10 = (l.findIdx (· == 10) : Nat)) := by
    intro l
    induction l with
    | nil => exact .inl ⟨by simp, by decide⟩
    | cons b l ih =>
      by_cases h : b = 10
      · subst h
        exact .inr ⟨by simp, by simp [Lib.indexByte, List.findIdx_cons]⟩
      · have hb : (b == 10) = false := by simpa using h
        rcases ih with ⟨h1, h2⟩ | ⟨h1, h2⟩
        · have := Lib.indexByte_ge l 10
          have e : Lib.indexByte l 10 = -1 := by omega
          exact .inl ⟨by simp [h1, Ne.symm h], by simp [Lib.indexByte, hb, e]⟩
        · refine .inr ⟨by simp [h1], ?_⟩
          have e : ¬ Lib.indexByte l 10 = -1 := by omega
          simp [Lib.indexByte, hb, List.findIdx_cons, h2]
  unfold nlP
  rcases key s.data.toList with ⟨h1, h2⟩ | ⟨h1, h2⟩
  · exact .inl ⟨if_neg h1, h2⟩
  · exact .inr ⟨_, if_pos h1, h2⟩
end Go.Proofs.YtnodjijgeifejaaGreatDoor
