/- Lists of points in memory: a row in a block of its own; each point's two lists in blocks of their own. -/
import Derived.Test.YtnodjijgeifejaaGreatDoorLive
namespace Go.Proofs.YtnodjijgeifejaaGreatDoor
open Go.RowKit
set_option linter.unusedSimpArgs false
set_option linter.unusedVariables false

abbrev tPt : TypeId := 32
abbrev P3 : Type := Pt × Value × Value
def ptC (x : P3) : List Value := [.string x.1.m, x.2.1, x.2.2, .int .i64 x.1.time]
def ptCells (q : List P3) : List Value := q.flatMap ptC
theorem ptCells_snoc (q : List P3) (x : P3) : ptCells (q ++ [x]) = ptCells q ++ ptC x := by simp [ptCells]
theorem ptCells_len (q : List P3) : (ptCells q).length = q.length * 4 := by
  induction q with
  | nil => rfl
  | cons x r ih =>
    have e : ptCells (x :: r) = ptC x ++ ptCells r := rfl
    rw [e, List.length_append, ih]
    simp [ptC]
    omega
theorem ptCells_get : ∀ (q : List P3) (j : Nat) (hj : j < q.length), (ptCells q)[j * 4]? = some (.string q[j].1.m) ∧ (ptCells q)[j * 4 + 1]? = some q[j].2.1 ∧ (ptCells q)[j * 4 + 2]? = some q[j].2.2 ∧ (ptCells q)[j * 4 + 3]? = some (.int .i64 q[j].1.time)
  | [], j, hj => by simp at hj
  | x :: r, 0, _ => ⟨rfl, rfl, rfl, rfl⟩
  | x :: r, j + 1, hj => by
    have h := ptCells_get r j (by simpa using hj)
    have e : ptCells (x :: r) = .string x.1.m :: x.2.1 :: x.2.2 :: .int .i64 x.1.time :: ptCells r := rfl
    rw [e, show (j + 1) * 4 = j * 4 + 1 + 1 + 1 + 1 from by omega]
    simpa using h
/-- Two values own no block together. -/
def apart (u v : Value) : Prop := ∀ k, u.ownBlock = some k → v.ownBlock ≠ some k
structure PtsIn (B : Nat) (v : Value) (q : List P3) (w : World) : Prop where
  own : w.ownsRow B tPt 4 v q.length (ptCells q)
  ts : ∀ x ∈ q, TagsIn B x.2.1 x.1.tags w
  fs : ∀ x ∈ q, FieldsIn B x.2.2 x.1.fields w
  sep : q.Pairwise fun x y => apart x.2.1 y.2.1 ∧ apart x.2.2 y.2.2
theorem PtsIn.nil (B : Nat) (w : World) : PtsIn B (.slice none 0 0) [] w := ⟨World.ownsRow_nil _ _ _ _, by simp, by simp, .nil⟩
theorem own_below {w w' : World} {B : Nat} {e : TypeId} {v : Value} {n z : Nat} {xs : List Value} (h : w.ownsRow B e z v n xs) (hB : Below w.heap.size w w') : w'.ownsRow B e z v n xs := h.kept (grown_of_below hB (Nat.le_refl _) none) (by cases v.ownBlock <;> simp)
theorem PtsIn.next {B : Nat} {v : Value} {q : List P3} {w w' : World} (h : PtsIn B v q w) (hB : Below w.heap.size w w') : PtsIn B v q w' :=
  ⟨own_below h.own hB, fun x hx => own_below (h.ts x hx) hB, fun x hx => own_below (h.fs x hx) hB, h.sep⟩
/-- A step that turns a block of another make. -/
theorem PtsIn.far {B b : Nat} {v : Value} {q : List P3} {w w' : World} (h : PtsIn B v q w) (hg : w.grownBy w' (some b)) (h1 : v.ownBlock ≠ some b) (h2 : ∀ x ∈ q, x.2.1.ownBlock ≠ some b ∧ x.2.2.ownBlock ≠ some b) : PtsIn B v q w' :=
  ⟨h.own.kept hg (.inr h1), fun x hx => (h.ts x hx).kept hg (.inr (h2 x hx).1), fun x hx => (h.fs x hx).kept hg (.inr (h2 x hx).2), h.sep⟩
theorem PtsIn.box {B b : Nat} {v : Value} {q : List P3} {w w' : World} {cs : Array Value} {T : TypeId} {fr : Nat × Nat} (h : PtsIn B v q w) (hg : w.grownBy w' (some b)) (hb : w.heap[b]? = some (.cells cs T fr)) (h1 : T ≠ tPt) (h2 : T ≠ tTag) (h3 : T ≠ tFld) : PtsIn B v q w' :=
  h.far hg (own_ne h.own hb h1) (fun x hx => ⟨own_ne (h.ts x hx) hb h2, own_ne (h.fs x hx) hb h3⟩)
/-- One point more: its lists are younger than all that lay. -/
theorem PtsIn.snoc {B M : Nat} {v v' : Value} {q : List P3} {x : P3} {w w1 : World} (h : PtsIn B v q w) (ht : TagsIn M x.2.1 x.1.tags w) (hf : FieldsIn M x.2.2 x.1.fields w) (hBM : B ≤ M) (hold : ∀ y ∈ q, (∀ k, y.2.1.ownBlock = some k → k < M) ∧ ∀ k, y.2.2.ownBlock = some k → k < M)
    (hown : w1.ownsRow B tPt 4 v' (q.length + 1) (ptCells q ++ ptC x)) (hg : w.grownBy w1 v.ownBlock) : PtsIn B v' (q ++ [x]) w1 := by
  have ht' : TagsIn B x.2.1 x.1.tags w := Go.Joins.ownsRow_le ht hBM
  have hf' : FieldsIn B x.2.2 x.1.fields w := Go.Joins.ownsRow_le hf hBM
  refine ⟨?_, fun y hy => ?_, fun y hy => ?_, ?_⟩
  · rw [List.length_append, ptCells_snoc]
    exact hown
  · rcases List.mem_append.1 hy with hy | hy
    · exact (h.ts y hy).kept hg (own_apart (h.ts y hy) h.own (by decide))
    · obtain rfl := List.mem_singleton.1 hy
      exact ht'.kept hg (own_apart ht' h.own (by decide))
  · rcases List.mem_append.1 hy with hy | hy
    · exact (h.fs y hy).kept hg (own_apart (h.fs y hy) h.own (by decide))
    · obtain rfl := List.mem_singleton.1 hy
      exact hf'.kept hg (own_apart hf' h.own (by decide))
  · refine List.pairwise_append.2 ⟨h.sep, .cons (by simp) .nil, fun y hy z hz => ?_⟩
    obtain rfl := List.mem_singleton.1 hz
    refine ⟨fun k hk hk' => ?_, fun k hk hk' => ?_⟩
    · have := (hold y hy).1 k hk
      have := (ht.lt k hk').1
      omega
    · have := (hold y hy).2 k hk
      have := (hf.lt k hk').1
      omega
theorem PtsIn.lt {B : Nat} {v : Value} {q : List P3} {w : World} (h : PtsIn B v q w) : ∀ y ∈ q, (∀ k, y.2.1.ownBlock = some k → k < w.heap.size) ∧ ∀ k, y.2.2.ownBlock = some k → k < w.heap.size :=
  fun y hy => ⟨fun k hk => ((h.ts y hy).lt k hk).2, fun k hk => ((h.fs y hy).lt k hk).2⟩
theorem PtsIn.at {B : Nat} {v : Value} {q : List P3} {w : World} (h : PtsIn B v q w) : ∃ A c, v = .slice A q.length c ∧ PtsAt w A (q.map (·.1)) := by
  have hle : q.length ≤ 9223372036854775807 := by
    rcases h.own.2 with ⟨_, h0⟩ | ⟨g, cap, cur, _, _, _, h1, h2, _⟩
    · omega
    · unfold maxLen at h2; omega
  rcases h.own.2 with ⟨hv, h0⟩ | ⟨g, cap, cur, hv, _⟩
  · refine ⟨none, 0, by rw [hv, h0], by simpa using hle, fun hp => ?_⟩
    simp at hp
    omega
  · refine ⟨some ⟨g, 0, none⟩, cap, hv, by simpa using hle, fun _ => ⟨_, rfl, fun j hj => ?_⟩⟩
    have hj' : j < q.length := by simpa using hj
    have hx : q[j] ∈ q := List.getElem_mem hj'
    have e : (q.map (·.1))[j] = q[j].1 := by simp
    obtain ⟨c0, c1, c2, c3⟩ := ptCells_get q j hj'
    have hb : v.ownBlock = some g := by rw [hv]; rfl
    have d0 := h.own.cells hb _ _ c0
    have d1 := h.own.cells hb _ _ c1
    have d2 := h.own.cells hb _ _ c2
    have d3 := h.own.cells hb _ _ c3
    obtain ⟨At, ct, ht, kt⟩ := tags_two (h.ts _ hx)
    obtain ⟨Af, cf, hf, kf⟩ := fields_two (h.fs _ hx)
    rw [ht] at d1
    rw [hf] at d2
    rw [add_at] at d0 d1 d2 d3 ⊢
    rw [e]
    exact ⟨At, ct, Af, cf, d0, d1, d2, d3, kt, kf⟩
end Go.Proofs.YtnodjijgeifejaaGreatDoor
