/- A range over a function that keeps its state in a cell of its own (it writes a captured variable between two rounds): one law for the statement, by the records' own runs. -/
import Derived.RangeFuncNested
import Derived.RangeFuncBound
import Derived.Below
namespace Go.Proofs.YtnodjijgeifejaaGreatDoor
open Go Go.RowKit
set_option linter.unusedSimpArgs false
set_option linter.unusedVariables false

/-- The rounds, as the iterator in block Bs meets them. -/
def Rounds (P : Program) (m l Bs : Nat) (enc : Nat → Array Value) (more : Nat → Prop) (J : Nat → World → Prop) (Jx : World → Prop) : Prop :=
  ∀ k W, more k → J k W → YieldAt Fence.wide m P l (enc k) W fun e W' =>
    (e = .returned (.bool true) ∧ J (k + 1) W' ∧ W'.heap[Bs]? = W.heap[Bs]?) ∨ (e = .returned (.bool false) ∧ Jx W')
/-- How a round's body is left. -/
def boxPost (B Bs : Nat) (I : Nat → World → Prop) (Ix : World → Prop) (k : Nat) (W : World) : Exit → Act → World → Prop
  | .normal, _, W' => KeepsFrom B W W' ∧ W'.heap[Bs]? = W.heap[Bs]? ∧ I (k + 1) W'
  | .ret, _, W' => KeepsFrom B W W' ∧ Ix W'
  | _, _, _ => False
theorem put_grown (W : World) (l : Nat) (o : Obj) : W.grownBy (W.putObj l o) (some l) := grownBy_putObj' W l o
theorem range_box {P : Program} {g : Operand} {ps : Array Tmp} {assign body : Code} {Q : Exit → Act → World → Prop} {a : Act} {w : World} {n gf : Nat} {lb : Array Value} (h1 : 1 ≤ n)
    (hg : a.eval g = .func (.func gf) #[] lb) (eg : ∀ args w, (callFunc gf args).run P w = .ok (.enter gf args) w)
    (Bs : Nat) (hBs : Bs < w.heap.size) (enc : Nat → Array Value) (more fin : Nat → Prop) (KL : World → Prop) (KB : Obj → Prop)
    (hseq : ∀ (l : Nat) (J : Nat → World → Prop) (Jx : World → Prop) (W : World), (∀ k A B o, J k A → A.heap[Bs]? = some o → KB o → A.grownBy B (some Bs) → J k B) → (∀ k A, J k A → KL A) → Rounds P (n - 1 - 1) l Bs enc more J Jx → J 0 W → W.heap[Bs]? = w.heap[Bs]? →
      CallsIn Fence.wide (n - 1) P gf (#[.func (.yield l) #[] #[]] ++ lb) W fun e W' => (∃ v, e = .returned v) ∧ ((∃ k, fin k ∧ J k W') ∨ Jx W'))
    (hps : ∀ k, (enc k).size = ps.size) (I : Nat → World → Prop) (Ix : World → Prop) (hIB : ∀ k A B o, I k A → A.heap[Bs]? = some o → KB o → A.grownBy B (some Bs) → I k B) (hIL : ∀ k A, I k A → KL A)
    (hI : OwnFrom w.heap.size I) (hIx : OwnFrom w.heap.size fun (_ : Unit) => Ix) (h0 : I 0 w) (a₁ : Nat → Act)
    (hassign : ∀ (l k : Nat) (W : World) (K : Act → World → Prop), K (a₁ k) W → assign.wpIn (Fence.wide.inRound l) (n - 1 - 1) P (Exit.then K (fun _ _ _ => False)) { tmps := (ps.zip (enc k)).foldl (fun t (p, v) => t.setIfInBounds p v) a.tmps, defers := [] } W)
    (hbody : ∀ (l k : Nat) (W : World), more k → I k W → body.wpIn (Fence.wide.inRound l) (n - 1 - 1) P (boxPost w.heap.size Bs I Ix k W) (a₁ k) W)
    (hdone : ∀ (D k : Nat) (W : World), w.heap.size ≤ D → fin k → I k W → W.heap[D]? = some (.deferred (some [])) → Q .normal { a with defers := { target := .collected D, args := #[] } :: a.defers } W)
    (hstop : ∀ (D : Nat) (W : World), w.heap.size ≤ D → Ix W → W.heap[D]? = some (.deferred (some [])) → Code.ret.wpIn Fence.wide n P Q { a with defers := { target := .collected D, args := #[] } :: a.defers } W) :
    (Code.rangeFunc g ps assign body).wpIn Fence.wide n P Q a w := by
  refine wpIn_rangeFunc fun fn _ => ?_
  -- the record in its states; the world with the two blocks laid
  obtain ⟨R, hR⟩ : ∃ R : LoopState → Option Code → Loop, R = fun st pe => { state := st, pending := pe, fn := fn, tmps := a.tmps, params := ps, assign := assign, body := body, defers := w.heap.size } := ⟨_, rfl⟩
  obtain ⟨V, hV⟩ : ∃ V, V = (w.alloc (.deferred (some []))).alloc (.loop (R .ready none)) := ⟨_, rfl⟩
  have size1 : (w.alloc (.deferred (some []))).heap.size = w.heap.size + 1 := by simp
  have laidL : V.heap[w.heap.size + 1]? = some (.loop (R .ready none)) := by
    have h := World.alloc_heap_new (w.alloc (.deferred (some []))) (.loop (R .ready none))
    rw [size1] at h
    rw [hV]
    exact h
  have laidD : V.heap[w.heap.size]? = some (.deferred (some [])) := by
    rw [hV]
    exact (Below.heap_alloc _ _ _ (by rw [size1]; omega)).trans (World.alloc_heap_new w _)
  have boxV : V.heap[Bs]? = w.heap[Bs]? := by
    rw [hV]
    exact (Below.heap_alloc _ _ _ (by rw [size1]; omega)).trans (Below.heap_alloc _ _ _ hBs)
  have startV : I 0 V := by rw [hV]; exact hI.alloc _ (hI.alloc _ h0)
  -- the two blocks, kept beside the caller's own word
  obtain ⟨Bk, hBk⟩ : ∃ Bk : Loop → World → Prop, Bk = fun r W => W.heap[w.heap.size + 1]? = some (.loop r) ∧ W.heap[w.heap.size]? = some (.deferred (some [])) := ⟨_, rfl⟩
  have keepB : ∀ r A B, Bk r A → A.grownBy B (some Bs) → Bk r B := by
    intro r A B h hgr
    rw [hBk] at h ⊢
    have q1 := (Array.getElem?_eq_some_iff.1 h.1).1
    exact ⟨(hgr.block _ q1 (fun e => by have := Option.some.inj e; omega)).trans h.1, (hgr.block _ (by omega) (fun e => by have := Option.some.inj e; omega)).trans h.2⟩
  have putB : ∀ r r' A, Bk r A → Bk r' (A.putObj (w.heap.size + 1) (.loop r')) := by
    intro r r' A h
    rw [hBk] at h ⊢
    exact ⟨World.putObj_heap_same (Array.getElem?_eq_some_iff.1 h.1).1, (World.putObj_heap_other (by omega)).trans h.2⟩
  have fromB : ∀ r A B, Bk r A → KeepsFrom w.heap.size A B → Bk r B := by
    intro r A B h hk
    rw [hBk] at h ⊢
    exact ⟨hk.same _ _ (by omega) h.1 rfl, hk.same _ _ (Nat.le_refl _) h.2 rfl⟩
  have putBox : ∀ (A : World) (o : Obj), (A.putObj (w.heap.size + 1) o).heap[Bs]? = A.heap[Bs]? := fun A o => World.putObj_heap_other (by omega)
  have putI : ∀ k r r' A, I k A → Bk r A → I k (A.putObj (w.heap.size + 1) (.loop r')) := by
    intro k r r' A h hb
    rw [hBk] at hb
    exact hI.putObj _ h (by omega) hb.1 rfl
  have putIx : ∀ r r' A, Ix A → Bk r A → Ix (A.putObj (w.heap.size + 1) (.loop r')) := by
    intro r r' A h hb
    rw [hBk] at hb
    exact hIx.putObj (s := ()) _ h (by omega) hb.1 rfl
  have getL : ∀ r A, Bk r A → A.heap[w.heap.size + 1]? = some (.loop r) := by
    intro r A hb
    rw [hBk] at hb
    exact hb.1
  have getD : ∀ r A, Bk r A → A.heap[w.heap.size]? = some (.deferred (some [])) := by
    intro r A hb
    rw [hBk] at hb
    exact hb.2
  have startB : Bk (R .ready none) V := by rw [hBk]; exact ⟨laidL, laidD⟩
  refine ⟨w.heap.size + 1, [{ target := .collected w.heap.size, args := #[] }], V, { target := .fn (.func gf) lb, args := #[.func (.yield (w.heap.size + 1)) #[] #[]] }, V, gf, #[.func (.yield (w.heap.size + 1)) #[] #[]] ++ lb, V, ?_, ?_, fun _ _ => trivial, ?_, fun _ => h1, ?_⟩
  · rw [hV, hR]
    exact run_enterLoop_outer _ _ _ _ _
  · simp only [resolve, hg]
    simp [go_sem]
  · simp [invoke, go_sem, eg]
  · refine (hseq (w.heap.size + 1) (fun k W => I k W ∧ Bk (R .ready none) W) (fun W => Ix W ∧ Bk (R .done (some .ret)) W) V
      (fun k A B o h ho hk hgr => ⟨hIB k A B o h.1 ho hk hgr, keepB _ A B h.2 hgr⟩) (fun k A h => hIL k A h.1) ?_ ⟨startV, startB⟩ boxV).mono ?_
    · -- one round
      rintro k W hm ⟨hi, hb⟩
      have hy := run_yield (P := P) (args := enc k) (getL _ _ hb) (by rw [hR]; exact hps k)
      have hfn' : (R .ready none).fn = fn := by rw [hR]
      have htm : (R .ready none).tmps = a.tmps := by rw [hR]
      have hpa : (R .ready none).params = ps := by rw [hR]
      have has : (R .ready none).assign = assign := by rw [hR]
      have hbo : (R .ready none).body = body := by rw [hR]
      rw [hfn', htm, hpa, has, hbo] at hy
      have hst : (R .ready none).state = .ready := by rw [hR]
      have busy : ({ R .ready none with state := .busy } : Loop) = R .busy none := by rw [hR]
      have hbr := run_beginRound (P := P) (getL _ _ hb) hst
      rw [busy] at hbr
      refine ⟨fn, _, assign, body, hy, roundIn_of_wpIn trivial (hassign _ k W _ ⟨_, hbr, ?_⟩)⟩
      have hb2 := putB _ (R .busy none) _ hb
      have hi2 := putI k _ (R .busy none) _ hi hb
      refine wpIn_mono (hbody _ k _ hm hi2) ?_
      rintro e a' W' hp
      cases e with
      | normal =>
        obtain ⟨hk, hx, hi3⟩ := hp
        have hb3 := fromB _ _ _ hb2 hk
        have her := run_endRound (P := P) none (getL _ _ hb3)
        have hz : ({ R .busy none with state := if (Option.isNone (none : Option Code)) then .ready else .done, pending := none } : Loop) = R .ready none := by rw [hR]; rfl
        rw [hz] at her
        exact ⟨_, _, her, .inl ⟨rfl, ⟨putI _ _ _ _ hi3 hb3, putB _ _ _ hb3⟩, (putBox _ _).trans (hx.trans (putBox _ _))⟩⟩
      | ret =>
        obtain ⟨hk, hx⟩ := hp
        have hb3 := fromB _ _ _ hb2 hk
        have her := run_endRound (P := P) (some .ret) (getL _ _ hb3)
        have hz : ({ R .busy none with state := if (Option.isNone (some Code.ret)) then .ready else .done, pending := some .ret } : Loop) = R .done (some .ret) := by rw [hR]; rfl
        rw [hz] at her
        exact ⟨_, _, her, .inr ⟨rfl, putIx _ _ _ hx hb3, putB _ _ _ hb3⟩⟩
      | exit id => exact hp.elim
      | goto t => exact hp.elim
      | panic ch => exact hp.elim
      | outgrown => exact hp.elim
    · -- behind the iterator
      rintro e W ⟨⟨v, rfl⟩, ⟨k, hf, hi, hb⟩ | ⟨hx, hb⟩⟩
      · have hnb : (R .ready none).state ≠ .busy := by rw [hR]; simp
        have hpe : (R .ready none).pending = none := by rw [hR]
        have hel := run_endLoop (P := P) (getL _ _ hb) hnb
        rw [hpe] at hel
        exact ⟨none, _, hel, hdone _ k _ (Nat.le_refl _) hf (putI _ _ _ _ hi hb) (getD _ _ (putB _ _ _ hb))⟩
      · have hnb : (R .done (some .ret)).state ≠ .busy := by rw [hR]; simp
        have hpe : (R .done (some .ret)).pending = some .ret := by rw [hR]
        have hel := run_endLoop (P := P) (getL _ _ hb) hnb
        rw [hpe] at hel
        exact ⟨some .ret, _, hel, hstop _ _ (Nat.le_refl _) (putIx _ _ _ hx hb) (getD _ _ (putB _ _ _ hb))⟩
end Go.Proofs.YtnodjijgeifejaaGreatDoor
