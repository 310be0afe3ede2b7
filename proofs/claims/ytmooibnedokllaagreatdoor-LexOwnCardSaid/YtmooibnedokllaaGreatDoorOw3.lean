/- weirmem.Book: lists of tokens that are written over and grown: what is kept. -/
import Derived.Test.YtmooibnedokllaaGreatDoorOw2
namespace Go.Proofs.YtmooibnedokllaaGreatDoor
open Go.RowKit
set_option linter.unusedSimpArgs false
set_option linter.unusedVariables false

abbrev tToks : TypeId := 23
theorem own_apart' {w : World} {B : Nat} {e T : TypeId} {v : Value} {n z : Nat} {xs : List Value} {b : Nat} {cs : Array Value} {fr : Nat × Nat} (hown : w.ownsRow B e z v n xs) (hb : w.heap[b]? = some (.cells cs T fr)) (hTe : T ≠ e) : v.ownBlock ≠ some b := by
  rcases hown.2 with ⟨rfl, _⟩ | ⟨g, cap, cur, rfl, _, hg, _⟩
  · simp [Value.ownBlock]
  · intro h
    simp only [Value.ownBlock, Option.some.injEq] at h
    subst h
    rw [hg] at hb
    simp only [Option.some.injEq, Obj.cells.injEq] at hb
    exact hTe hb.2.1.symm
/-- What the walk does not turn: the base, the entry's world, the book's block, its row of lists. -/
structure Bx where
  B : Nat
  w : World
  b : Nat
  rg : Nat
  m : Nat
  BO : Obj
  RO : Obj
  vs : Nat → Value
  ns : Nat → Nat
structure Bx.Good (x : Bx) : Prop where
  bt : ∀ C, x.BO ≠ .cells C tTok (0, 0)
  rt : ∀ C, x.RO ≠ .cells C tTok (0, 0)
  bl : x.b < x.w.heap.size
  rl : x.rg < x.w.heap.size
  Bl : x.B ≤ x.w.heap.size
  d : ∀ j, j < x.m → ∀ k, k < x.m → j ≠ k → ∀ g, (x.vs j).ownBlock = some g → (x.vs k).ownBlock ≠ some g
  n : ∀ j, j < x.m → x.ns j ≤ 5000
/-- .. what stays. -/
structure Bx.Keep (x : Bx) (wr : World) : Prop where
  b : wr.heap[x.b]? = some x.BO
  r : wr.heap[x.rg]? = some x.RO
  B : Below x.B x.w wr
variable {x : Bx} {wr wr' : World} {i k : Nat}
theorem Bx.Keep.next (h : x.Keep wr) (hg : x.Good) (hB : Below wr.heap.size wr wr') : x.Keep wr' :=
  ⟨below_blk hB (blk_lt' h.b) h.b, below_blk hB (blk_lt' h.r) h.r, h.B.trans (hB.mono (Nat.le_trans hg.Bl h.B.size))⟩
/-- A list of tokens is turned. -/
theorem Bx.Keep.turn {v : Value} {n : Nat} {f : Nat → Tok} (h : x.Keep wr) (hg : x.Good) (ht : Tk x.B v n f wr) (hw : wr.grownBy wr' v.ownBlock) : x.Keep wr' := by
  refine ⟨grown_blk hw h.b (fun e => ?_), grown_blk hw h.r (fun e => ?_), h.B.trans (below_of_grown hw (fun j e => (ht.lt e).1) (Nat.le_trans hg.Bl h.B.size))⟩
  · obtain ⟨C, hC⟩ := ht.type e.symm
    rw [h.b] at hC
    exact hg.bt C (Option.some.inj hC)
  · obtain ⟨C, hC⟩ := ht.type e.symm
    rw [h.r] at hC
    exact hg.rt C (Option.some.inj hC)
/-- First: all lists are written over. -/
structure Bx.A1 (x : Bx) (fs : Nat → Nat → Tok) (i k : Nat) (wr : World) : Prop where
  t : ∀ j, j < x.m → Tk x.B (x.vs j) (x.ns j) (fun y => if j < i ∨ (j = i ∧ y < k) then markK j else fs j y) wr
  k : x.Keep wr
theorem Bx.A1.next {fs} (h : x.A1 fs i k wr) (hg : x.Good) (hB : Below wr.heap.size wr wr') : x.A1 fs i k wr' := ⟨fun j hj => (h.t j hj).next hB, h.k.next hg hB⟩
theorem Bx.A1.set {fs} {g cap : Nat} (h : x.A1 fs i k wr) (hg : x.Good) (hi : i < x.m) (hk : k < x.ns i) (hv : x.vs i = .slice (some ⟨g, 0, none⟩) (x.ns i) cap) : x.A1 fs i (k + 1) (tokSet wr g k (markK i)) := by
  have ht := h.t i hi
  have hgr := tokSet_grown wr g k (markK i)
  refine ⟨fun j hj => ?_, h.k.turn hg ht (by rw [hv]; exact hgr)⟩
  by_cases e : j = i
  · subst e
    rw [hv] at ht ⊢
    refine (ht.set hk (markK j)).congr (fun y hy => ?_)
    by_cases e2 : y = k
    · subst e2; rw [if_pos (.inr ⟨rfl, Nat.lt_succ_self _⟩), if_pos rfl]
    · rw [if_neg e2]
      by_cases e3 : y < k
      · rw [if_pos (.inr ⟨rfl, by omega⟩), if_pos (.inr ⟨rfl, e3⟩)]
      · rw [if_neg (by omega), if_neg (by omega)]
  · refine ((h.t j hj).grow hgr (fun g' h' e' => ?_)).congr (fun y hy => ?_)
    · have := hg.d i hi j hj (fun e2 => e e2.symm) g (by rw [hv]; rfl)
      rw [h'] at this
      exact this e'.symm
    · by_cases e3 : j < i
      · rw [if_pos (.inl e3), if_pos (.inl e3)]
      · rw [if_neg (by omega), if_neg (by omega)]
theorem Bx.A1.turn {fs} (h : x.A1 fs i (x.ns i) wr) : x.A1 fs (i + 1) 0 wr :=
  ⟨fun j hj => (h.t j hj).congr (fun y hy => by
    by_cases e3 : j < i + 1
    · rw [if_pos (.inl e3)]
      by_cases e4 : j = i
      · subst e4; rw [if_pos (.inr ⟨rfl, hy⟩)]
      · rw [if_pos (.inl (by omega))]
    · rw [if_neg (by omega), if_neg (by omega)]), h.k⟩
/-- Then: each is grown; the grown ones are gathered. -/
structure Bx.A2 (x : Bx) (gs : Nat → Value) (va : Value) (i : Nat) (wr : World) : Prop where
  t : ∀ j, j < x.m → Tk x.B (x.vs j) (x.ns j) (fun _ => markK j) wr
  g : ∀ j, j < i → Tk x.B (gs j) (x.ns j + 20) (fun _ => markK j) wr
  d : ∀ j, j < i → ∀ k, k < x.m → i ≤ k → ∀ h, (gs j).ownBlock = some h → (x.vs k).ownBlock ≠ some h
  a : wr.ownsRow x.w.heap.size tToks 1 va i ((List.range i).map gs)
  k : x.Keep wr
theorem Bx.A1.done {fs} (h : x.A1 fs x.m 0 wr) (gs : Nat → Value) : x.A2 gs (.slice none 0 0) 0 wr :=
  ⟨fun j hj => (h.t j hj).congr (fun y hy => by rw [if_pos (.inl hj)]), fun j hj => absurd hj (Nat.not_lt_zero _), fun j hj => absurd hj (Nat.not_lt_zero _), World.ownsRow_nil .., h.k⟩
theorem Bx.A2.next {gs va} (h : x.A2 gs va i wr) (hg : x.Good) (hB : Below wr.heap.size wr wr') : x.A2 gs va i wr' :=
  ⟨fun j hj => (h.t j hj).next hB, fun j hj => (h.g j hj).next hB, h.d, h.a.kept (grown_of_below hB (Nat.le_refl _) none) (by cases hv : va.ownBlock <;> simp), h.k.next hg hB⟩
structure Bx.A3 (x : Bx) (gs : Nat → Value) (va : Value) (i k : Nat) (gv : Value) (wr : World) : Prop where
  s : x.A2 gs va i wr
  gt : Tk x.B gv (x.ns i + k) (fun _ => markK i) wr
  q1 : ∀ j, j < i → ∀ h, gv.ownBlock = some h → (gs j).ownBlock ≠ some h
  q2 : ∀ j, j < x.m → j ≠ i → ∀ h, gv.ownBlock = some h → (x.vs j).ownBlock ≠ some h
  q4 : ∀ h, (x.vs i).ownBlock = some h → gv.ownBlock = some h → ∃ cap, x.vs i = .slice (some ⟨h, 0, none⟩) (x.ns i) cap ∧ gv = .slice (some ⟨h, 0, none⟩) (x.ns i + k) cap
theorem Bx.A3.start {gs va} (h : x.A2 gs va i wr) (hg : x.Good) (hi : i < x.m) : x.A3 gs va i 0 (x.vs i) wr := by
  refine ⟨h, h.t i hi, fun j hj g hv e => h.d j hj i hi (Nat.le_refl _) g e hv, fun j hj hne g hv => hg.d i hi j hj (fun e => hne e.symm) g hv, fun g hv _ => ?_⟩
  rcases h.t i hi with ⟨e, _⟩ | ⟨g', cap, C, e, _⟩
  · rw [e] at hv; cases hv
  · rw [e] at hv ⊢
    simp only [Value.ownBlock, Option.some.injEq] at hv
    subst hv
    exact ⟨cap, rfl, rfl⟩
theorem Bx.A3.next {gs va gv} (h : x.A3 gs va i k gv wr) (hg : x.Good) (hB : Below wr.heap.size wr wr') : x.A3 gs va i k gv wr' :=
  ⟨h.s.next hg hB, h.gt.next hB, h.q1, h.q2, h.q4⟩
theorem Tk.part {B n n' g cap : Nat} {f : Nat → Tok} {w : World} (h : Tk B (.slice (some ⟨g, 0, none⟩) n' cap) n' f w) (hn : n ≤ n') : Tk B (.slice (some ⟨g, 0, none⟩) n cap) n f w := by
  rcases h with ⟨h, _⟩ | ⟨g', cap', C, hv, h2, h3, h4, h5, h6, h7⟩
  · cases h
  · simp only [Value.slice.injEq, Option.some.injEq, Addr.mk.injEq, and_true, true_and] at hv
    obtain ⟨rfl, rfl⟩ := hv
    exact .inr ⟨g, cap, C, rfl, h2, h3, by omega, h5, h6, fun j hj => h7 j (by omega)⟩
theorem Bx.A3.app {gs va gv} {g cap : Nat} (h : x.A3 gs va i k gv wr) (hg : x.Good) (hi : i < x.m)
    (hk : Tk x.B (.slice (some ⟨g, 0, none⟩) (x.ns i + k + 1) cap) (x.ns i + k + 1) (fun j => if j = x.ns i + k then markK i else markK i) wr') (hw : wr.grownBy wr' gv.ownBlock)
    (hor : gv = .slice (some ⟨g, 0, none⟩) (x.ns i + k) cap ∨ (wr.grownBy wr' none ∧ wr.heap.size ≤ g)) : x.A3 gs va i (k + 1) (.slice (some ⟨g, 0, none⟩) (x.ns i + k + 1) cap) wr' := by
  have hk2 : Tk x.B (.slice (some ⟨g, 0, none⟩) (x.ns i + k + 1) cap) (x.ns i + k + 1) (fun _ => markK i) wr' := hk.congr (fun j _ => by simp)
  have ha : va.ownBlock = none ∨ va.ownBlock ≠ gv.ownBlock := by
    rcases hv : va.ownBlock with _ | a
    · exact .inl rfl
    · right
      intro e
      obtain ⟨C, hC⟩ := h.gt.type e.symm
      exact own_apart' h.s.a hC (by decide) hv
  rcases hor with rfl | ⟨hn, hge⟩
  · refine ⟨⟨fun j hj => ?_, fun j hj => (h.s.g j hj).grow hw (fun g' h' e' => h.q1 j hj g' e' h'), h.s.d, h.s.a.kept hw ha, h.s.k.turn hg h.gt hw⟩, hk2, h.q1, h.q2, fun h' hv hgv => ?_⟩
    · by_cases e : j = i
      · subst e
        rcases hvo : (x.vs j).ownBlock with _ | a
        · exact (h.s.t j hj).grow hw (fun g' h' => by rw [hvo] at h'; cases h')
        · by_cases e2 : a = g
          · subst e2
            obtain ⟨cap', e3, e4⟩ := h.q4 a hvo rfl
            simp only [Value.slice.injEq, true_and] at e4
            subst e4
            rw [e3]
            exact hk2.part (by omega)
          · exact (h.s.t j hj).grow hw (fun g' h' e' => by
              rw [hvo] at h'
              simp only [Value.ownBlock, Option.some.injEq] at h' e'
              omega)
      · exact (h.s.t j hj).grow hw (fun g' h' e' => h.q2 j hj e g' e' h')
    · simp only [Value.ownBlock, Option.some.injEq] at hgv
      subst hgv
      obtain ⟨cap', e3, e4⟩ := h.q4 g hv rfl
      simp only [Value.slice.injEq, true_and] at e4
      subst e4
      exact ⟨cap, e3, rfl⟩
  · refine ⟨⟨fun j hj => (h.s.t j hj).grow hn (fun _ _ => by simp), fun j hj => (h.s.g j hj).grow hn (fun _ _ => by simp), h.s.d, h.s.a.kept hn (by cases hv : va.ownBlock <;> simp), h.s.k.turn hg h.gt hw⟩, hk2, fun j hj h' hv e => ?_, fun j hj hne h' hv e => ?_, fun h' hv hgv => ?_⟩
    · simp only [Value.ownBlock, Option.some.injEq] at hv
      have := ((h.s.g j hj).lt e).2; omega
    · simp only [Value.ownBlock, Option.some.injEq] at hv
      have := ((h.s.t j hj).lt e).2; omega
    · simp only [Value.ownBlock, Option.some.injEq] at hgv
      have := ((h.s.t i hi).lt hv).2; omega
/-- The grown list is gathered. -/
theorem Bx.A3.turn {gs va va' gv} (h : x.A3 gs va i 20 gv wr) (hg : x.Good) (hown : wr'.ownsRow x.w.heap.size tToks 1 va' (i + 1) ((List.range i).map gs ++ [gv])) (hw : wr.grownBy wr' va.ownBlock) : x.A2 (fun j => if j = i then gv else gs j) va' (i + 1) wr' := by
  have hne : ∀ {v n f}, Tk x.B v n f wr → ∀ g, v.ownBlock = some g → va.ownBlock ≠ some g := fun ht g hv => by
    obtain ⟨C, hC⟩ := ht.type hv
    exact own_apart' h.s.a hC (by decide)
  refine ⟨fun j hj => (h.s.t j hj).grow hw (hne (h.s.t j hj)), fun j hj => ?_, fun j hj k hk hik h' hv => ?_, ?_, ?_⟩
  · by_cases e : j = i
    · subst e; rw [if_pos rfl]; exact h.gt.grow hw (hne h.gt)
    · rw [if_neg e]; exact (h.s.g j (by omega)).grow hw (hne (h.s.g j (by omega)))
  · by_cases e : j = i
    · subst e; rw [if_pos rfl] at hv; exact h.q2 k hk (by omega) h' hv
    · rw [if_neg e] at hv; exact h.s.d j (by omega) k hk (by omega) h' hv
  · have : (List.range (i + 1)).map (fun j => if j = i then gv else gs j) = (List.range i).map gs ++ [gv] := by
      rw [List.range_succ, List.map_append]
      congr 1
      · apply List.map_congr_left
        intro j hj
        have := List.mem_range.1 hj
        rw [if_neg (by omega)]
      · simp
    rw [this]; exact hown
  · have hlo : ∀ g, va.ownBlock = some g → x.w.heap.size ≤ g := fun g e => (h.s.a.lt g e).1
    refine ⟨grown_blk hw h.s.k.b (fun e => ?_), grown_blk hw h.s.k.r (fun e => ?_), h.s.k.B.trans (below_of_grown hw (fun j e => Nat.le_trans hg.Bl (hlo j e)) (Nat.le_trans hg.Bl h.s.k.B.size))⟩
    · have := hlo _ e.symm; have := hg.bl; omega
    · have := hlo _ e.symm; have := hg.rl; omega
end Go.Proofs.YtmooibnedokllaaGreatDoor
