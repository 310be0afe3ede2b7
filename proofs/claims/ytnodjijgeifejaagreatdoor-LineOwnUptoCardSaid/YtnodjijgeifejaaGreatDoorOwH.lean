/- weirmem.Book: lists of whatever elements that are written over and grown: what is kept. (General: a kind of lists is a parameter.) weirmem.Book: the lists that are held, of all kinds: what a take and what the end turn. -/
import Derived.Test.YtnodjijgeifejaaGreatDoorFill
import Derived.Laws.AppendOwn
namespace Go.Proofs.YtnodjijgeifejaaGreatDoor
open Go.RowKit
set_option linter.unusedSimpArgs false
set_option linter.unusedVariables false
section

/-- A kind of lists: the types of an element, a list, a list of lists; cells and bytes of an element, its zero value; the cells that mark a list. -/
structure Kd where
  e : TypeId
  r : TypeId
  rr : TypeId
  z : Nat
  by_ : Nat
  zero : Value
  M : Nat → World → List Value → Prop
structure Kd.Ok (K : Kd) : Prop where
  u : Tryz.prog.underlying K.r = some (.slice K.e)
  uu : Tryz.prog.underlying K.rr = some (.slice K.r)
  info : (Tryz.prog.info? K.e).map (fun i => (i.zero, i.size, i.bytes)) = some (some K.zero, K.z, K.by_)
  infoR : (Tryz.prog.info? K.r).map (fun i => (i.zero, i.size, i.bytes)) = some (some (.slice none 0 0), 1, 24)
  z0 : 0 < K.z
  zs : K.zero.cells.size = K.z
  b : K.by_ ≤ 1000
  er : K.e ≠ K.r
  len : ∀ i w cs, K.M i w cs → cs.length = K.z
  one : ∀ i w cs, K.M i w cs → ∀ u ∈ cs, u.oneCell' = true
  stay : ∀ i w w' cs row, K.M i w cs → w.grownBy w' row → (∀ r, row = some r → r < w.heap.size → ∃ C T, w.heap[r]? = some (.cells C T (0, 0)) ∧ (T = K.e ∨ T = K.r)) → K.M i w' cs
/-- What an append asks of a kind. -/
structure Kd.Ap (K : Kd) : Prop where
  u : Tryz.prog.underlying K.r = some (.slice K.e)
  info : (Tryz.prog.info? K.e).map (fun i => (i.zero, i.size, i.bytes)) = some (some K.zero, K.z, K.by_)
  z0 : 0 < K.z
  zs : K.zero.cells.size = K.z
  b : K.by_ ≤ 1000
theorem Kd.Ok.ap {K : Kd} (h : K.Ok) : K.Ap := ⟨h.u, h.info, h.z0, h.zs, h.b⟩
/-- A list of n elements in memory; of the cells of element j G j is known. -/
def Tz (K : Kd) (B : Nat) (v : Value) (n : Nat) (G : Nat → List Value → Prop) (w : World) : Prop :=
  (v = .slice none 0 0 ∧ n = 0) ∨ ∃ g cap C, v = .slice (some ⟨g, 0, none⟩) n cap ∧ B ≤ g ∧ w.heap[g]? = some (.cells C K.e (0, 0)) ∧ n ≤ cap ∧ cap ≤ maxLen ∧ C.size = cap * K.z ∧
    ∀ j, j < n → ∃ cs : List Value, cs.length = K.z ∧ (∀ c, c < K.z → C[j * K.z + c]? = cs[c]?) ∧ G j cs
variable {K : Kd} {B n : Nat} {v : Value} {G G' : Nat → List Value → Prop} {w w' : World}
theorem mul_lt {z j k c : Nat} (hj : j < k) (hc : c < z) : j * z + c < k * z := by
  have : (j + 1) * z ≤ k * z := Nat.mul_le_mul_right z hj
  rw [Nat.add_mul, Nat.one_mul] at this
  omega
theorem mul_ne {z j k c d : Nat} (hj : j ≠ k) (hc : c < z) (hd : d < z) : j * z + c ≠ k * z + d := by
  rcases Nat.lt_or_gt_of_ne hj with h | h
  · have := mul_lt (c := c) h hc
    omega
  · have := mul_lt (c := d) h hd
    omega
theorem Tz.imp (h : Tz K B v n G w) (hG : ∀ j cs, j < n → G j cs → G' j cs) : Tz K B v n G' w := by
  rcases h with h | ⟨g, cap, C, h1, h2, h3, h4, h5, h6, h7⟩
  · exact .inl h
  · exact .inr ⟨g, cap, C, h1, h2, h3, h4, h5, h6, fun j hj => by
      obtain ⟨cs, a, b, c⟩ := h7 j hj
      exact ⟨cs, a, b, hG j cs hj c⟩⟩
theorem Tz.mono {B' : Nat} (h : Tz K B v n G w) (hb : B' ≤ B) : Tz K B' v n G w := by
  rcases h with h | ⟨g, cap, C, h1, h2, h3⟩
  · exact .inl h
  · exact .inr ⟨g, cap, C, h1, by omega, h3⟩
theorem Tz.grow {row : Option Nat} (h : Tz K B v n G w) (hg : w.grownBy w' row) (hne : ∀ g, v.ownBlock = some g → row ≠ some g) : Tz K B v n G w' := by
  rcases h with h | ⟨g, cap, C, rfl, h2, h3, h4⟩
  · exact .inl h
  · exact .inr ⟨g, cap, C, rfl, h2, grown_blk hg h3 (fun e => hne g rfl e.symm), h4⟩
theorem Tz.keep (h : Tz K B v n G w) (hk : ∀ g, v.ownBlock = some g → w'.heap[g]? = w.heap[g]?) : Tz K B v n G w' := by
  rcases h with h | ⟨g, cap, C, rfl, h2, h3, h4⟩
  · exact .inl h
  · exact .inr ⟨g, cap, C, rfl, h2, (hk g rfl).trans h3, h4⟩
theorem Tz.next (h : Tz K B v n G w) (hB : Below w.heap.size w w') : Tz K B v n G w' :=
  h.grow (grown_of_below hB (Nat.le_refl _) none) (fun g _ => by simp)
theorem Tz.lt (h : Tz K B v n G w) {g : Nat} (hv : v.ownBlock = some g) : B ≤ g ∧ g < w.heap.size := by
  rcases h with ⟨rfl, _⟩ | ⟨g', cap, C, rfl, h2, h3, _⟩
  · cases hv
  · simp only [Value.ownBlock, Option.some.injEq] at hv
    subst hv
    exact ⟨h2, blk_lt' h3⟩
theorem Tz.type (h : Tz K B v n G w) {g : Nat} (hv : v.ownBlock = some g) : ∃ C, w.heap[g]? = some (.cells C K.e (0, 0)) := by
  rcases h with ⟨rfl, _⟩ | ⟨g', cap, C, rfl, h2, h3, _⟩
  · cases hv
  · simp only [Value.ownBlock, Option.some.injEq] at hv
    subst hv
    exact ⟨C, h3⟩
theorem Tz.form (h : Tz K B v n G w) : ∃ ao cap, v = .slice ao n cap := by
  rcases h with ⟨h1, h2⟩ | ⟨g, cap, C, h1, _⟩
  · exact ⟨none, 0, by rw [h1, h2]⟩
  · exact ⟨_, _, h1⟩
theorem Tz.ptr {cap : Nat} {ao : Option Addr} (h : Tz K B (.slice ao n cap) n G w) (hn : 0 < n) : ∃ g, ao = some ⟨g, 0, none⟩ ∧ B ≤ g := by
  rcases h with ⟨h1, h2⟩ | ⟨g, cap, C, h1, h2, _⟩
  · omega
  · simp only [Value.slice.injEq] at h1
    exact ⟨g, h1.1, h2⟩
/-- The cells at a place, and that they may be written. -/
theorem Tz.here {g cap k : Nat} (h : Tz K B (.slice (some ⟨g, 0, none⟩) n cap) n G w) (hk : k < n) :
    ∃ cs : List Value, cs.length = K.z ∧ (∀ c, c < K.z → w.cell? ⟨g, k * K.z + c, none⟩ = cs[c]?) ∧ (∀ i, w.frozen? ⟨g, i, none⟩ = false) ∧ G k cs := by
  rcases h with ⟨h, _⟩ | ⟨g', cap', C, hv, h2, h3, h4, h5, h6, h7⟩
  · cases h
  · simp only [Value.slice.injEq, Option.some.injEq, Addr.mk.injEq, and_true, true_and] at hv
    obtain ⟨rfl, rfl⟩ := hv
    obtain ⟨cs, a, b, c⟩ := h7 k hk
    exact ⟨cs, a, fun c hc => by rw [blk_cell' h3]; exact b c hc, fun i => blk_free' h3 i, c⟩
/-- Cells stored one behind the other. -/
def putC (w : World) (g o : Nat) : List Value → World
  | [] => w
  | c :: r => putC (w.setCell ⟨g, o, none⟩ c) g (o + 1) r
def putA (C : Array Value) (o : Nat) : List Value → Array Value
  | [] => C
  | c :: r => putA (C.setIfInBounds o c) (o + 1) r
theorem putA_size : ∀ (cs : List Value) (C : Array Value) (o : Nat), (putA C o cs).size = C.size
  | [], C, o => rfl
  | c :: r, C, o => by
    show (putA (C.setIfInBounds o c) (o + 1) r).size = _
    rw [putA_size r]
    simp
theorem putA_low : ∀ (cs : List Value) (C : Array Value) (o i : Nat), i < o → (putA C o cs)[i]? = C[i]?
  | [], C, o, i, h => rfl
  | c :: r, C, o, i, h => by
    show (putA (C.setIfInBounds o c) (o + 1) r)[i]? = _
    rw [putA_low r _ _ i (by omega), Array.getElem?_setIfInBounds, if_neg (by omega)]
theorem putA_out : ∀ (cs : List Value) (C : Array Value) (o i : Nat), o + cs.length ≤ i → (putA C o cs)[i]? = C[i]?
  | [], C, o, i, h => rfl
  | c :: r, C, o, i, h => by
    show (putA (C.setIfInBounds o c) (o + 1) r)[i]? = _
    rw [List.length_cons] at h
    rw [putA_out r _ _ i (by omega), Array.getElem?_setIfInBounds, if_neg (by omega)]
theorem putA_in : ∀ (cs : List Value) (C : Array Value) (o c : Nat), c < cs.length → o + cs.length ≤ C.size → (putA C o cs)[o + c]? = cs[c]?
  | [], C, o, c, h, _ => by simp at h
  | x :: r, C, o, 0, h, hs => by
    show (putA (C.setIfInBounds o x) (o + 1) r)[o + 0]? = _
    rw [List.length_cons] at hs
    rw [putA_low r _ _ _ (by omega), Array.getElem?_setIfInBounds, if_pos (by omega), if_pos (by omega)]
    rfl
  | x :: r, C, o, c + 1, h, hs => by
    show (putA (C.setIfInBounds o x) (o + 1) r)[o + (c + 1)]? = _
    rw [List.length_cons] at hs h
    rw [show o + (c + 1) = o + 1 + c from by omega, putA_in r _ _ c (by omega) (by simp; omega)]
    rfl
theorem putC_blk : ∀ (cs : List Value) (w : World) (g o : Nat) (C : Array Value) (T : TypeId) (fr : Nat × Nat), w.heap[g]? = some (.cells C T fr) → (putC w g o cs).heap[g]? = some (.cells (putA C o cs) T fr)
  | [], w, g, o, C, T, fr, h => h
  | c :: r, w, g, o, C, T, fr, h => putC_blk r _ g (o + 1) _ T fr (blk_set' h o c)
theorem putC_grown : ∀ (cs : List Value) (w0 w : World) (g o : Nat), w0.grownBy w (some g) → w0.grownBy (putC w g o cs) (some g)
  | [], w0, w, g, o, h => h
  | c :: r, w0, w, g, o, h => putC_grown r w0 _ g (o + 1) (grown_set h o c)
theorem grown_self (w : World) (row : Option Nat) : w.grownBy w row := ⟨rfl, rfl, rfl, Nat.le_refl _, fun _ _ _ => rfl⟩
theorem Tz.set {g cap k : Nat} (h : Tz K B (.slice (some ⟨g, 0, none⟩) n cap) n G w) (hk : k < n) (cs : List Value) (hc : cs.length = K.z) (hG : ∀ j xs, j < n → j ≠ k → G j xs → G' j xs) (hG' : G' k cs) :
    Tz K B (.slice (some ⟨g, 0, none⟩) n cap) n G' (putC w g (k * K.z) cs) := by
  rcases h with ⟨h, _⟩ | ⟨g', cap', C, hv, h2, h3, h4, h5, h6, h7⟩
  · cases h
  · simp only [Value.slice.injEq, Option.some.injEq, Addr.mk.injEq, and_true, true_and] at hv
    obtain ⟨rfl, rfl⟩ := hv
    have hle : k * K.z + cs.length ≤ C.size := by
      have h8 : (k + 1) * K.z ≤ cap * K.z := Nat.mul_le_mul_right _ (by omega)
      rw [Nat.add_mul, Nat.one_mul] at h8
      omega
    refine .inr ⟨g, cap, _, rfl, h2, putC_blk cs w g _ C _ _ h3, h4, h5, by rw [putA_size]; exact h6, fun j hj => ?_⟩
    by_cases e : j = k
    · subst e
      exact ⟨cs, hc, fun c hcz => putA_in cs C _ c (by omega) hle, hG'⟩
    · obtain ⟨xs, a, b, c⟩ := h7 j hj
      refine ⟨xs, a, fun c hcz => ?_, hG j xs hj e c⟩
      rw [← b c hcz]
      rcases Nat.lt_or_gt_of_ne e with h | h
      · exact putA_low cs C _ _ (mul_lt h hcz)
      · refine putA_out cs C _ _ ?_
        have h8 : (k + 1) * K.z ≤ j * K.z := Nat.mul_le_mul_right _ h
        rw [Nat.add_mul, Nat.one_mul] at h8
        omega
theorem Tz.own (h : Tz K B v n G w) : ∃ xs, w.ownsRow B K.e K.z v n xs ∧ ∀ j, j < n → ∃ cs : List Value, cs.length = K.z ∧ (∀ c, c < K.z → xs[j * K.z + c]? = cs[c]?) ∧ G j cs := by
  rcases h with ⟨h1, h2⟩ | ⟨g, cap, C, h1, h2, h3, h4, h5, h6, h7⟩
  · exact ⟨[], ⟨by rw [h2]; simp, .inl ⟨h1, h2⟩⟩, fun j hj => by omega⟩
  · have hle : n * K.z ≤ C.size := by rw [h6]; exact Nat.mul_le_mul_right _ h4
    refine ⟨C.toList.take (n * K.z), ⟨by rw [List.length_take, Array.length_toList]; omega, .inr ⟨g, cap, C, h1, h2, h3, h4, h5, h6, rfl⟩⟩, fun j hj => ?_⟩
    obtain ⟨cs, a, b, c⟩ := h7 j hj
    refine ⟨cs, a, fun c hc => ?_, c⟩
    rw [List.getElem?_take, if_pos (mul_lt hj hc), Array.getElem?_toList]
    exact b c hc
theorem Tz.of {xs : List Value} (h : w.ownsRow B K.e K.z v n xs) (hx : ∀ j, j < n → ∃ cs : List Value, cs.length = K.z ∧ (∀ c, c < K.z → xs[j * K.z + c]? = cs[c]?) ∧ G j cs) : Tz K B v n G w := by
  rcases h.2 with ⟨h1, h2⟩ | ⟨g, cap, C, h1, h2, h3, h4, h5, h6, h7⟩
  · exact .inl ⟨h1, h2⟩
  · refine .inr ⟨g, cap, C, h1, h2, h3, h4, h5, h6, fun j hj => ?_⟩
    obtain ⟨cs, a, b, c⟩ := hx j hj
    refine ⟨cs, a, fun c hc => ?_, c⟩
    rw [← b c hc, ← h7, List.getElem?_take, if_pos (mul_lt hj hc), Array.getElem?_toList]
theorem Tz.any {e : TypeId} {z : Nat} {xs : List Value} (h : w.ownsRow B e z v n xs) (he : K.e = e) (hz : K.z = z) : Tz K B v n (fun _ _ => True) w := by
  subst he
  subst hz
  refine Tz.of h (fun j hj => ⟨(xs.drop (j * K.z)).take K.z, ?_, fun c hc => ?_, trivial⟩)
  · rw [List.length_take, List.length_drop, h.1]
    have h8 : (j + 1) * K.z ≤ n * K.z := Nat.mul_le_mul_right _ hj
    rw [Nat.add_mul, Nat.one_mul] at h8
    omega
  · rw [List.getElem?_take, if_pos hc, List.getElem?_drop]
/-- An element behind a list: in its place, or the whole list laid anew. -/
theorem tz_append (hK : K.Ap) (ty : TypeId) (h : Tz K B v n G w) (hB : B ≤ w.heap.size) (hn : n + 1 ≤ 100000000) (cs : List Value) (hcs : cs.length = K.z) (h1 : ∀ u ∈ cs, u.oneCell' = true) (a : Addr) (c : Nat)
    (hnews : ∀ j u, cs[j]? = some u → w.cell? (a.add j) = some u) (hG : ∀ j xs, j < n → G j xs → G' j xs) (hG' : G' n cs) :
    ∃ g cap w', (Builtin.append_ #[K.r, K.r] ty #[v, .slice (some a) 1 c]).run Tryz.prog w = .ok (.slice (some ⟨g, 0, none⟩) (n + 1) cap) w' ∧
      Tz K B (.slice (some ⟨g, 0, none⟩) (n + 1) cap) (n + 1) G' w' ∧ w.grownBy w' v.ownBlock ∧
      (v = .slice (some ⟨g, 0, none⟩) n cap ∨ (w.grownBy w' none ∧ w.heap.size ≤ g)) := by
  obtain ⟨i0, hi, hz⟩ := Option.map_eq_some_iff.1 hK.info
  simp only [Prod.mk.injEq] at hz
  obtain ⟨hz0, hz1, hz2⟩ := hz
  have hm1 : n + 1 ≤ maxLen := by unfold maxLen; omega
  have hby : (n + 1) * K.by_ ≤ 140737488355328 := Nat.le_trans (Nat.mul_le_mul hn hK.b) (by decide)
  obtain ⟨xs, hown, hxs⟩ := h.own
  have hxl : xs.length = n * K.z := hown.1
  have hnew : ∀ j, j < n + 1 → ∃ ys : List Value, ys.length = K.z ∧ (∀ c, c < K.z → (xs ++ cs)[j * K.z + c]? = ys[c]?) ∧ G' j ys := fun j hj => by
    by_cases e : j = n
    · subst e
      refine ⟨cs, hcs, fun c hc => ?_, hG'⟩
      rw [List.getElem?_append_right (by omega), hxl, Nat.add_sub_cancel_left]
    · obtain ⟨ys, p, q, r⟩ := hxs j (by omega)
      refine ⟨ys, p, fun c hc => ?_, hG j ys (by omega) r⟩
      rw [List.getElem?_append_left (by rw [hxl]; exact mul_lt (by omega) hc)]
      exact q c hc
  obtain ⟨v', w', hr, ho, hg, hnil⟩ := run_append_own (P := Tryz.prog) w B K.r ty K.e i0 K.zero K.z K.by_ hK.u hi hz0 hz1 hz2 hK.zs hK.z0 v n xs hown a 1 c cs (by rw [hcs, Nat.one_mul]) hnews h1 hm1 hby hB
  have hk := Tz.of ho hnew
  rcases h with ⟨rfl, rfl⟩ | ⟨g, cap, C, rfl, h2, h3, h4, h5, h6, h7⟩
  · obtain ⟨g, cap, rfl⟩ : ∃ g cap, v' = .slice (some ⟨g, 0, none⟩) 1 cap := by
      rcases ho.2 with ⟨_, h0⟩ | ⟨g, cap, cur, hv, _⟩
      · omega
      · exact ⟨g, cap, hv⟩
    obtain ⟨v2, w2, hr2, ho2, -, -⟩ := run_append_own (P := Tryz.prog) w w.heap.size K.r ty K.e i0 K.zero K.z K.by_ hK.u hi hz0 hz1 hz2 hK.zs hK.z0 (.slice none 0 0) 0 [] (World.ownsRow_nil ..) a 1 c cs (by rw [hcs, Nat.one_mul]) hnews h1 hm1 hby (Nat.le_refl _)
    rw [hr] at hr2
    simp only [Result.ok.injEq] at hr2
    obtain ⟨rfl, rfl⟩ := hr2
    exact ⟨g, cap, w', hr, hk, hg, .inr ⟨hg, (ho2.lt g rfl).1⟩⟩
  · by_cases hroom : n + 1 ≤ cap
    · have hfit : n * i0.size + cs.length ≤ C.size := by
        rw [hz1, hcs, h6]
        have h8 : (n + 1) * K.z ≤ cap * K.z := Nat.mul_le_mul_right _ hroom
        rw [Nat.add_mul, Nat.one_mul] at h8
        exact h8
      have hr2 := run_append_room (P := Tryz.prog) w K.r ty K.e i0 hK.u hi g n cap C h3 a 1 c cs (by rw [hz1, hcs, Nat.one_mul]) hnews h1 hroom hfit
      rw [hr2] at hr
      simp only [Result.ok.injEq] at hr
      obtain ⟨rfl, hw⟩ := hr
      subst hw
      exact ⟨g, cap, _, hr2, hk, hg, .inl rfl⟩
    · have hr2 := run_append_grow (P := Tryz.prog) w K.r ty K.e i0 K.zero hK.u hi hz0 ⟨g, 0, none⟩ n cap xs (by rw [hxl, hz1]) (hown.cells (g := g) rfl) a 1 c cs (by rw [hz1, hcs, Nat.one_mul]) hnews (by omega) (by omega) (growslice_fits (by omega) (by rw [hz2]; exact hby))
      rw [hr2] at hr
      simp only [Result.ok.injEq] at hr
      obtain ⟨rfl, hw⟩ := hr
      subst hw
      exact ⟨_, _, _, hr2, hk, hg, .inr ⟨⟨rfl, rfl, rfl, by simp, fun k hk _ => heap_alloc_old w.drew _ hk⟩, Nat.le_refl _⟩⟩
/-- The same, as a step of a walk. -/
theorem wp_tz {ops : Array Oper} {rest : List Oper} {o : Oper} {a : Act} {Q : Exit → Act → World → Prop} (t : TypeId) (hgd : o.guard = none) (s x : Operand)
    (ho : o.op = .call { callee := .builtin .append, args := #[s, x], argTypes := #[t, t] })
    (v' xv : Value) (hs : a.eval s = v) (hx : a.eval x = xv) (hr : (Builtin.append_ #[t, t] o.type #[v, xv]).run Tryz.prog w = .ok v' w')
    (h : wpList Tryz.prog ops Q rest (a.put o.dst v') w') : wpList Tryz.prog ops Q (o :: rest) a w :=
  wpList_plain hgd fun _ hK => by
    unfold Oper.wp execOp
    simp only [ho, resolve, invoke, builtin, Sem.run_bind, Sem.run_pure, Result.andThen_ok, List.map_toArray, List.map_cons, List.map_nil, hs, hx, hr]
    exact hK _ _ h

theorem cell_same {w w' : World} {b : Nat} (h : w'.heap[b]? = w.heap[b]?) (i : Nat) : w'.cell? ⟨b, i, none⟩ = w.cell? ⟨b, i, none⟩ := by simp only [World.cell?, h]
theorem new_cells (w : World) (cs : List Value) (T : TypeId) (n : Nat) (h : n = w.heap.size) : ∀ j u, cs[j]? = some u → (w.alloc (.cells cs.toArray T)).cell? ((⟨n, 0, none⟩ : Addr).add j) = some u := by
  intro j u hj
  have hb := heap_new' w (.cells cs.toArray T) n h
  rw [addF, blk_cell' hb]
  simpa using hj
/-- What the walk does not turn: the kind, the base, the entry's world, the book's block, the row of lists, the lists. -/
structure Bx where
  K : Kd
  B : Nat
  w : World
  b : Nat
  rg : Nat
  m : Nat
  vs : Nat → Value
  ns : Nat → Nat
structure Bx.Good (x : Bx) : Prop where
  K : x.K.Ok
  bt : ∀ j, j < x.m → (x.vs j).ownBlock ≠ some x.b
  rt : ∀ j, j < x.m → (x.vs j).ownBlock ≠ some x.rg
  bl : x.b < x.w.heap.size
  rl : x.rg < x.w.heap.size
  Bl : x.B ≤ x.w.heap.size
  d : ∀ j, j < x.m → ∀ k, k < x.m → j ≠ k → ∀ g, (x.vs j).ownBlock = some g → (x.vs k).ownBlock ≠ some g
  n : ∀ j, j < x.m → x.ns j ≤ 50000000
  m : x.m ≤ 50000000
/-- .. what stays. -/
structure Bx.Keep (x : Bx) (wr : World) : Prop where
  f : ∀ k, k < x.w.heap.size → (∀ j, j < x.m → (x.vs j).ownBlock ≠ some k) → wr.heap[k]? = x.w.heap[k]?
  B : Below x.B x.w wr
variable {x : Bx} {wr wr' : World} {i k : Nat}
theorem Bx.Keep.b (h : x.Keep wr) (hg : x.Good) : wr.heap[x.b]? = x.w.heap[x.b]? := h.f _ hg.bl hg.bt
theorem Bx.Keep.r (h : x.Keep wr) (hg : x.Good) : wr.heap[x.rg]? = x.w.heap[x.rg]? := h.f _ hg.rl hg.rt
theorem Bx.Keep.next (h : x.Keep wr) (hg : x.Good) (hB : Below wr.heap.size wr wr') : x.Keep wr' :=
  ⟨fun k hk hn => (hB.block k (Nat.lt_of_lt_of_le hk h.B.size)).trans (h.f k hk hn), h.B.trans (hB.mono (Nat.le_trans hg.Bl h.B.size))⟩
/-- A block is turned: a list's, or a younger one. -/
theorem Bx.Keep.turn {row : Option Nat} (h : x.Keep wr) (hg : x.Good) (hw : wr.grownBy wr' row) (hr : ∀ r, row = some r → x.B ≤ r ∧ ((∃ j, j < x.m ∧ (x.vs j).ownBlock = some r) ∨ x.w.heap.size ≤ r)) : x.Keep wr' := by
  refine ⟨fun k hk hn => ?_, h.B.trans (below_of_grown hw (fun j e => (hr j e).1) (Nat.le_trans hg.Bl h.B.size))⟩
  refine (hw.block k (Nat.lt_of_lt_of_le hk h.B.size) (fun e => ?_)).trans (h.f k hk hn)
  rcases (hr k e.symm).2 with ⟨j, hj, e2⟩ | h2
  · exact hn j hj e2
  · omega
theorem mark_next (hK : K.Ok) {j : Nat} {cs : List Value} (h : K.M j w cs) (hB : Below w.heap.size w w') : K.M j w' cs :=
  hK.stay j w w' cs none h (grown_of_below hB (Nat.le_refl _) none) (fun r e => by cases e)
/-- First: all lists are written over. -/
structure Bx.A1 (x : Bx) (i k : Nat) (wr : World) : Prop where
  t : ∀ j, j < x.m → Tz x.K x.B (x.vs j) (x.ns j) (fun y cs => j < i ∨ (j = i ∧ y < k) → x.K.M j wr cs) wr
  k : x.Keep wr
theorem Bx.A1.next (h : x.A1 i k wr) (hg : x.Good) (hB : Below wr.heap.size wr wr') : x.A1 i k wr' :=
  ⟨fun j hj => ((h.t j hj).next hB).imp (fun y cs _ hM hl => mark_next hg.K (hM hl) hB), h.k.next hg hB⟩
theorem Bx.A1.set {g cap : Nat} (h : x.A1 i k wr) (hg : x.Good) (hi : i < x.m) (hk : k < x.ns i) (hv : x.vs i = .slice (some ⟨g, 0, none⟩) (x.ns i) cap) (cs : List Value) (hM : x.K.M i wr cs) : x.A1 i (k + 1) (putC wr g (k * x.K.z) cs) := by
  have ht := h.t i hi
  have hgr := putC_grown cs wr wr g (k * x.K.z) (grown_self wr _)
  have hty : ∀ r, (some g : Option Nat) = some r → r < wr.heap.size → ∃ C T, wr.heap[r]? = some (.cells C T (0, 0)) ∧ (T = x.K.e ∨ T = x.K.r) := fun r e _ => by
    obtain rfl := Option.some.inj e
    obtain ⟨C, hC⟩ := ht.type (by rw [hv]; rfl)
    exact ⟨C, _, hC, .inl rfl⟩
  have hst : ∀ j cs, x.K.M j wr cs → x.K.M j (putC wr g (k * x.K.z) _) cs := fun j cs' hm => hg.K.stay j _ _ cs' _ hm hgr hty
  refine ⟨fun j hj => ?_, h.k.turn hg hgr (fun r e => ?_)⟩
  · by_cases e : j = i
    · subst e
      rw [hv] at ht ⊢
      refine ht.set hk cs (hg.K.len _ _ _ hM) (fun y xs hy hne hq hl => hst _ _ (hq ?_)) (fun _ => hst _ _ hM)
      rcases hl with hl | ⟨e2, hl⟩
      · exact .inl hl
      · exact .inr ⟨e2, by omega⟩
    · refine ((h.t j hj).grow hgr (fun g' h' e' => ?_)).imp (fun y xs hy hq hl => hst _ _ (hq ?_))
      · have := hg.d i hi j hj (fun e2 => e e2.symm) g (by rw [hv]; rfl)
        rw [h'] at this
        exact this e'.symm
      · rcases hl with hl | ⟨e2, _⟩
        · exact .inl hl
        · exact absurd e2 e
  · obtain rfl := Option.some.inj e
    exact ⟨(ht.lt (by rw [hv]; rfl)).1, .inl ⟨i, hi, by rw [hv]; rfl⟩⟩
theorem Bx.A1.turn (h : x.A1 i (x.ns i) wr) : x.A1 (i + 1) 0 wr :=
  ⟨fun j hj => (h.t j hj).imp (fun y cs hy hq hl => hq (by
    rcases hl with hl | ⟨_, h0⟩
    · by_cases e : j = i
      · subst e; exact .inr ⟨rfl, hy⟩
      · exact .inl (by omega)
    · omega)), h.k⟩
/-- Then: each is grown; the grown ones are gathered. -/
structure Bx.A2 (x : Bx) (gs : Nat → Value) (va : Value) (i : Nat) (wr : World) : Prop where
  t : ∀ j, j < x.m → Tz x.K x.B (x.vs j) (x.ns j) (fun _ cs => x.K.M j wr cs) wr
  g : ∀ j, j < i → Tz x.K x.B (gs j) (x.ns j + 20) (fun _ cs => x.K.M j wr cs) wr
  d : ∀ j, j < i → ∀ k, k < x.m → i ≤ k → ∀ h, (gs j).ownBlock = some h → (x.vs k).ownBlock ≠ some h
  o : ∀ j, j < i → ∀ h, (gs j).ownBlock = some h → (∃ k, k < x.m ∧ (x.vs k).ownBlock = some h) ∨ x.w.heap.size ≤ h
  a : wr.ownsRow x.w.heap.size x.K.r 1 va i ((List.range i).map gs)
  k : x.Keep wr
theorem Bx.A1.done (h : x.A1 x.m 0 wr) (gs : Nat → Value) : x.A2 gs (.slice none 0 0) 0 wr :=
  ⟨fun j hj => (h.t j hj).imp (fun y cs _ hq => hq (.inl hj)), fun j hj => absurd hj (Nat.not_lt_zero _), fun j hj => absurd hj (Nat.not_lt_zero _), fun j hj => absurd hj (Nat.not_lt_zero _), World.ownsRow_nil .., h.k⟩
theorem Bx.A2.next {gs va} (h : x.A2 gs va i wr) (hg : x.Good) (hB : Below wr.heap.size wr wr') : x.A2 gs va i wr' :=
  ⟨fun j hj => ((h.t j hj).next hB).imp (fun _ cs _ hm => mark_next hg.K hm hB), fun j hj => ((h.g j hj).next hB).imp (fun _ cs _ hm => mark_next hg.K hm hB), h.d, h.o, h.a.kept (grown_of_below hB (Nat.le_refl _) none) (by cases hv : va.ownBlock <;> simp), h.k.next hg hB⟩
structure Bx.A3 (x : Bx) (gs : Nat → Value) (va : Value) (i k : Nat) (gv : Value) (wr : World) : Prop where
  s : x.A2 gs va i wr
  gt : Tz x.K x.B gv (x.ns i + k) (fun _ cs => x.K.M i wr cs) wr
  q0 : ∀ h, gv.ownBlock = some h → (∃ k, k < x.m ∧ (x.vs k).ownBlock = some h) ∨ x.w.heap.size ≤ h
  q1 : ∀ j, j < i → ∀ h, gv.ownBlock = some h → (gs j).ownBlock ≠ some h
  q2 : ∀ j, j < x.m → j ≠ i → ∀ h, gv.ownBlock = some h → (x.vs j).ownBlock ≠ some h
  q4 : ∀ h, (x.vs i).ownBlock = some h → gv.ownBlock = some h → ∃ cap, x.vs i = .slice (some ⟨h, 0, none⟩) (x.ns i) cap ∧ gv = .slice (some ⟨h, 0, none⟩) (x.ns i + k) cap
theorem Bx.A3.start {gs va} (h : x.A2 gs va i wr) (hg : x.Good) (hi : i < x.m) : x.A3 gs va i 0 (x.vs i) wr := by
  refine ⟨h, h.t i hi, fun h hv => .inl ⟨i, hi, hv⟩, fun j hj g hv e => h.d j hj i hi (Nat.le_refl _) g e hv, fun j hj hne g hv => hg.d i hi j hj (fun e => hne e.symm) g hv, fun g hv _ => ?_⟩
  rcases h.t i hi with ⟨e, _⟩ | ⟨g', cap, C, e, _⟩
  · rw [e] at hv; cases hv
  · rw [e] at hv ⊢
    simp only [Value.ownBlock, Option.some.injEq] at hv
    subst hv
    exact ⟨cap, rfl, rfl⟩
theorem Bx.A3.next {gs va gv} (h : x.A3 gs va i k gv wr) (hg : x.Good) (hB : Below wr.heap.size wr wr') : x.A3 gs va i k gv wr' :=
  ⟨h.s.next hg hB, (h.gt.next hB).imp (fun _ cs _ hm => mark_next hg.K hm hB), h.q0, h.q1, h.q2, h.q4⟩
theorem Tz.part {n' g cap : Nat} (h : Tz K B (.slice (some ⟨g, 0, none⟩) n' cap) n' G w) (hn : n ≤ n') : Tz K B (.slice (some ⟨g, 0, none⟩) n cap) n G w := by
  rcases h with ⟨h, _⟩ | ⟨g', cap', C, hv, h2, h3, h4, h5, h6, h7⟩
  · cases h
  · simp only [Value.slice.injEq, Option.some.injEq, Addr.mk.injEq, and_true, true_and] at hv
    obtain ⟨rfl, rfl⟩ := hv
    exact .inr ⟨g, cap, C, rfl, h2, h3, by omega, h5, h6, fun j hj => h7 j (by omega)⟩
theorem own_type {w : World} {B : Nat} {e : TypeId} {v : Value} {n z : Nat} {xs : List Value} {g : Nat} (h : w.ownsRow B e z v n xs) (hv : v.ownBlock = some g) : ∃ C, w.heap[g]? = some (.cells C e (0, 0)) := by
  rcases h.2 with ⟨rfl, _⟩ | ⟨g', cap, cur, rfl, _, h3, _⟩
  · cases hv
  · simp only [Value.ownBlock, Option.some.injEq] at hv
    subst hv
    exact ⟨cur, h3⟩
theorem own_far {w : World} {B B' : Nat} {e : TypeId} {v v' : Value} {n z n' : Nat} {xs : List Value} (h : w.ownsRow B e z v n xs) (h' : Tz K B' v' n' G w) (hne : K.e ≠ e) : ∀ g, v'.ownBlock = some g → v.ownBlock ≠ some g := fun g hv hv2 => by
  obtain ⟨C, hC⟩ := own_type h hv2
  obtain ⟨C', hC'⟩ := h'.type hv
  rw [hC] at hC'
  simp only [Option.some.injEq, Obj.cells.injEq] at hC'
  exact hne hC'.2.1.symm
/-- The list that is grown takes one more: in its place, or laid anew. -/
theorem Bx.A3.app {gs va gv} {g cap : Nat} (h : x.A3 gs va i k gv wr) (hg : x.Good) (hi : i < x.m)
    (hk : Tz x.K x.B (.slice (some ⟨g, 0, none⟩) (x.ns i + k + 1) cap) (x.ns i + k + 1) (fun _ cs => x.K.M i wr cs) wr') (hw : wr.grownBy wr' gv.ownBlock)
    (hor : gv = .slice (some ⟨g, 0, none⟩) (x.ns i + k) cap ∨ (wr.grownBy wr' none ∧ wr.heap.size ≤ g)) : x.A3 gs va i (k + 1) (.slice (some ⟨g, 0, none⟩) (x.ns i + k + 1) cap) wr' := by
  have hty : ∀ r, gv.ownBlock = some r → r < wr.heap.size → ∃ C T, wr.heap[r]? = some (.cells C T (0, 0)) ∧ (T = x.K.e ∨ T = x.K.r) := fun r e _ => by
    obtain ⟨C, hC⟩ := h.gt.type e
    exact ⟨C, _, hC, .inl rfl⟩
  have hst : ∀ j cs, x.K.M j wr cs → x.K.M j wr' cs := fun j cs hm => hg.K.stay j _ _ cs _ hm hw hty
  have hk2 : Tz x.K x.B (.slice (some ⟨g, 0, none⟩) (x.ns i + k + 1) cap) (x.ns i + k + 1) (fun _ cs => x.K.M i wr' cs) wr' := hk.imp (fun _ cs _ hm => hst _ _ hm)
  have ha : va.ownBlock = none ∨ va.ownBlock ≠ gv.ownBlock := by
    rcases hv : va.ownBlock with _ | a
    · exact .inl rfl
    · exact .inr (fun e => own_far h.s.a h.gt hg.K.er a e.symm hv)
  have hkeep : x.Keep wr' := h.s.k.turn hg hw (fun r e => ⟨(h.gt.lt e).1, h.q0 r e⟩)
  rcases hor with rfl | ⟨hn, hge⟩
  · refine ⟨⟨fun j hj => ?_, fun j hj => ((h.s.g j hj).grow hw (fun g' h' e' => h.q1 j hj g' e' h')).imp (fun _ cs _ hm => hst _ _ hm), h.s.d, h.s.o, h.s.a.kept hw ha, hkeep⟩, hk2, h.q0, h.q1, h.q2, fun h' hv hgv => ?_⟩
    · by_cases e : j = i
      · subst e
        rcases hvo : (x.vs j).ownBlock with _ | a
        · exact ((h.s.t j hj).grow hw (fun g' h' => by rw [hvo] at h'; cases h')).imp (fun _ cs _ hm => hst _ _ hm)
        · by_cases e2 : a = g
          · subst e2
            obtain ⟨cap', e3, e4⟩ := h.q4 a hvo rfl
            simp only [Value.slice.injEq, true_and] at e4
            subst e4
            rw [e3]
            exact hk2.part (by omega)
          · exact ((h.s.t j hj).grow hw (fun g' h' e' => by
              rw [hvo] at h'
              simp only [Value.ownBlock, Option.some.injEq] at h' e'
              omega)).imp (fun _ cs _ hm => hst _ _ hm)
      · exact ((h.s.t j hj).grow hw (fun g' h' e' => h.q2 j hj e g' e' h')).imp (fun _ cs _ hm => hst _ _ hm)
    · simp only [Value.ownBlock, Option.some.injEq] at hgv
      subst hgv
      obtain ⟨cap', e3, e4⟩ := h.q4 g hv rfl
      simp only [Value.slice.injEq, true_and] at e4
      subst e4
      exact ⟨cap, e3, rfl⟩
  · refine ⟨⟨fun j hj => ((h.s.t j hj).grow hn (fun _ _ => by simp)).imp (fun _ cs _ hm => hst _ _ hm), fun j hj => ((h.s.g j hj).grow hn (fun _ _ => by simp)).imp (fun _ cs _ hm => hst _ _ hm), h.s.d, h.s.o, h.s.a.kept hn (by cases hv : va.ownBlock <;> simp), hkeep⟩, hk2, fun h' hv => ?_, fun j hj h' hv e => ?_, fun j hj hne h' hv e => ?_, fun h' hv hgv => ?_⟩
    · simp only [Value.ownBlock, Option.some.injEq] at hv
      subst hv
      exact .inr (Nat.le_trans h.s.k.B.size hge)
    · simp only [Value.ownBlock, Option.some.injEq] at hv
      have := ((h.s.g j hj).lt e).2; omega
    · simp only [Value.ownBlock, Option.some.injEq] at hv
      have := ((h.s.t j hj).lt e).2; omega
    · simp only [Value.ownBlock, Option.some.injEq] at hgv
      have := ((h.s.t i hi).lt hv).2; omega
/-- The grown list is gathered. -/
theorem Bx.A3.turn {gs va va' gv} (h : x.A3 gs va i 20 gv wr) (hg : x.Good) (hown : wr'.ownsRow x.w.heap.size x.K.r 1 va' (i + 1) ((List.range i).map gs ++ [gv])) (hw : wr.grownBy wr' va.ownBlock) : x.A2 (fun j => if j = i then gv else gs j) va' (i + 1) wr' := by
  have hty : ∀ r, va.ownBlock = some r → r < wr.heap.size → ∃ C T, wr.heap[r]? = some (.cells C T (0, 0)) ∧ (T = x.K.e ∨ T = x.K.r) := fun r e _ => by
    obtain ⟨C, hC⟩ := own_type h.s.a e
    exact ⟨C, _, hC, .inr rfl⟩
  have hst : ∀ j cs, x.K.M j wr cs → x.K.M j wr' cs := fun j cs hm => hg.K.stay j _ _ cs _ hm hw hty
  have hne : ∀ {v n G}, Tz x.K x.B v n G wr → ∀ g, v.ownBlock = some g → va.ownBlock ≠ some g := fun ht g hv => own_far h.s.a ht hg.K.er g hv
  refine ⟨fun j hj => ((h.s.t j hj).grow hw (hne (h.s.t j hj))).imp (fun _ cs _ hm => hst _ _ hm), fun j hj => ?_, fun j hj k hk hik h' hv => ?_, fun j hj h' hv => ?_, ?_, ?_⟩
  · by_cases e : j = i
    · subst e; rw [if_pos rfl]; exact (h.gt.grow hw (hne h.gt)).imp (fun _ cs _ hm => hst _ _ hm)
    · rw [if_neg e]; exact ((h.s.g j (by omega)).grow hw (hne (h.s.g j (by omega)))).imp (fun _ cs _ hm => hst _ _ hm)
  · by_cases e : j = i
    · subst e; rw [if_pos rfl] at hv; exact h.q2 k hk (by omega) h' hv
    · rw [if_neg e] at hv; exact h.s.d j (by omega) k hk (by omega) h' hv
  · by_cases e : j = i
    · subst e; rw [if_pos rfl] at hv; exact h.q0 h' hv
    · rw [if_neg e] at hv; exact h.s.o j (by omega) h' hv
  · have e1 : (List.range (i + 1)).map (fun j => if j = i then gv else gs j) = (List.range i).map gs ++ [gv] := by
      rw [List.range_succ, List.map_append]
      congr 1
      · exact List.map_congr_left (fun j hj => by rw [if_neg (by have := List.mem_range.1 hj; omega)])
      · simp
    rw [e1]
    exact hown
  · exact h.s.k.turn hg hw (fun r e => ⟨Nat.le_trans hg.Bl (h.s.a.lt r e).1, .inr (h.s.a.lt r e).1⟩)
end
section

abbrev tBk : TypeId := 78
/-- A list that was told: its kind, its value, its length, what is known of its elements. -/
structure Ent where
  k : Nat
  v : Value
  n : Nat
  G : Nat → List Value → Prop
def rowE (E : List Ent) (k : Nat) : List Value := (E.filter (fun e => e.k == k)).map (·.v)
theorem rowE_snoc_same {E : List Ent} {e : Ent} : rowE (E ++ [e]) e.k = rowE E e.k ++ [e.v] := by simp [rowE]
theorem rowE_snoc_other {E : List Ent} {e : Ent} {k : Nat} (h : e.k ≠ k) : rowE (E ++ [e]) k = rowE E k := by simp [rowE, h]
/-- The kind of the rows that a book keeps of a kind. -/
def rowK (K : Kd) : Kd := ⟨K.r, K.rr, 0, 1, 24, .slice none 0 0, fun _ _ _ => True⟩
def rowG (l : List Value) (j : Nat) (cs : List Value) : Prop := ∃ v, l[j]? = some v ∧ cs = [v]
def apartV (u v : Value) : Prop := ∀ g, u.ownBlock = some g → v.ownBlock ≠ some g
theorem apartV.symm {u v : Value} (h : apartV u v) : apartV v u := fun g h1 h2 => h g h2 h1
/-- What the kinds are. -/
structure KDok (KD : Nat → Kd) : Prop where
  e : ∀ k, (KD k).e ≠ tBk
  r : ∀ k, (KD k).r ≠ tBk
  uu : ∀ k, Tryz.prog.underlying (KD k).rr = some (.slice (KD k).r)
  i : ∀ k, (Tryz.prog.info? (KD k).r).map (fun i => (i.zero, i.size, i.bytes)) = some (some (.slice none 0 0), 1, 24)
theorem KDok.ap {KD : Nat → Kd} (h : KDok KD) (k : Nat) : (rowK (KD k)).Ap := ⟨h.uu k, h.i k, Nat.zero_lt_one, rfl, by show 24 ≤ 1000; decide⟩
/-- The book holds the lists E; the lists P wait. -/
structure Hd (KD : Nat → Kd) (B b : Nat) (tvs : Nat → Value) (E P : List Ent) (w : World) : Prop where
  bk : ∃ C : Array Value, w.heap[b]? = some (.cells C tBk (0, 0)) ∧ C.size = 28 ∧ ∀ k, k < 28 → C[k]? = some (tvs k)
  rows : ∀ k, k < 28 → Tz (rowK (KD k)) B (tvs k) (rowE E k).length (rowG (rowE E k)) w
  els : ∀ e ∈ E ++ P, e.k < 28 ∧ e.n ≤ 50000000 ∧ Tz (KD e.k) B e.v e.n e.G w
  sep : (E ++ P).Pairwise (fun e f => apartV e.v f.v)
  rs : ∀ k, k < 28 → ∀ e ∈ E ++ P, apartV (tvs k) e.v
  rr : ∀ k k', k < 28 → k' < 28 → k ≠ k' → apartV (tvs k) (tvs k')
  nl : ∀ k, k < 28 → rowE E k = [] → tvs k = .slice none 0 0
  hb : B ≤ b
  hw : B ≤ w.heap.size
  lim : (E ++ P).length ≤ 40000000
variable {KD : Nat → Kd} {B b : Nat} {tvs : Nat → Value} {E P : List Ent} {w w' : World}
theorem rowE_len (E : List Ent) (k : Nat) : (rowE E k).length ≤ E.length := by
  unfold rowE
  rw [List.length_map]
  exact List.length_filter_le _ _
theorem Hd.start (w : World) (KD : Nat → Kd) (C : Array Value) (hs : C.size = 28) (hC : ∀ k, k < 28 → C[k]? = some (.slice none 0 0)) : Hd KD w.heap.size w.heap.size (fun _ => .slice none 0 0) [] [] (w.alloc (.cells C tBk (0, 0))) where
  bk := ⟨C, heap_alloc_new w _, hs, hC⟩
  rows := fun k _ => .inl ⟨rfl, rfl⟩
  els := fun e he => by cases he
  sep := .nil
  rs := fun k _ e he => by cases he
  rr := fun k k' _ _ _ g h => by cases h
  nl := fun _ _ _ => rfl
  hb := Nat.le_refl _
  hw := by simp
  lim := by simp
theorem Hd.next (h : Hd KD B b tvs E P w) (hB : Below w.heap.size w w') : Hd KD B b tvs E P w' where
  bk := by
    obtain ⟨C, h1, h2⟩ := h.bk
    exact ⟨C, below_blk hB (blk_lt' h1) h1, h2⟩
  rows := fun k hk => (h.rows k hk).next hB
  els := fun e he => ⟨(h.els e he).1, (h.els e he).2.1, (h.els e he).2.2.next hB⟩
  sep := h.sep
  rs := h.rs
  rr := h.rr
  nl := h.nl
  hb := h.hb
  hw := Nat.le_trans h.hw hB.size
  lim := h.lim
/-- Lists that a call has told. -/
theorem Hd.new {Q : List Ent} (h : Hd KD B b tvs E P w) (hB : Below w.heap.size w w') (hq : ∀ e ∈ Q, e.k < 28 ∧ e.n ≤ 50000000 ∧ Tz (KD e.k) w.heap.size e.v e.n e.G w') (hs : Q.Pairwise (fun e f => apartV e.v f.v)) (hl : (E ++ (P ++ Q)).length ≤ 40000000) : Hd KD B b tvs E (P ++ Q) w' where
  bk := (h.next hB).bk
  rows := (h.next hB).rows
  els := fun e he => by
    rw [← List.append_assoc] at he
    rcases List.mem_append.1 he with he | he
    · exact (h.next hB).els e he
    · exact ⟨(hq e he).1, (hq e he).2.1, (hq e he).2.2.mono h.hw⟩
  sep := by
    rw [← List.append_assoc]
    refine List.pairwise_append.2 ⟨h.sep, hs, fun e he f hf g h1 h2 => ?_⟩
    have := ((h.els e he).2.2.lt h1).2
    have := ((hq f hf).2.2.lt h2).1
    omega
  rs := fun k hk e he => by
    rw [← List.append_assoc] at he
    rcases List.mem_append.1 he with he | he
    · exact h.rs k hk e he
    · intro g h1 h2
      have := ((h.rows k hk).lt h1).2
      have := ((hq e he).2.2.lt h2).1
      omega
  rr := h.rr
  nl := h.nl
  hb := h.hb
  hw := (h.next hB).hw
  lim := hl
theorem Hd.perm {P' : List Ent} (h : Hd KD B b tvs E P w) (hp : P.Perm P') : Hd KD B b tvs E P' w := by
  have hpp : (E ++ P).Perm (E ++ P') := hp.append_left E
  exact { bk := h.bk, rows := h.rows, els := fun e he => h.els e (hpp.mem_iff.2 he), sep := h.sep.perm hpp (fun h => h.symm), rs := fun k hk e he => h.rs k hk e (hpp.mem_iff.2 he), rr := h.rr, nl := h.nl, hb := h.hb, hw := h.hw, lim := by rw [← hpp.length_eq]; exact h.lim }
theorem Hd.bnot (h : Hd KD B b tvs E P w) (hK : KDok KD) {e : Ent} (he : e ∈ E ++ P) : e.v.ownBlock ≠ some b := fun hv => by
  obtain ⟨C, h1, _⟩ := h.bk
  obtain ⟨D, hD⟩ := (h.els e he).2.2.type hv
  rw [h1] at hD
  simp only [Option.some.injEq, Obj.cells.injEq] at hD
  exact hK.e _ hD.2.1.symm
theorem Hd.rnot (h : Hd KD B b tvs E P w) (hK : KDok KD) {k : Nat} (hk : k < 28) : (tvs k).ownBlock ≠ some b := fun hv => by
  obtain ⟨C, h1, _⟩ := h.bk
  obtain ⟨D, hD⟩ := (h.rows k hk).type hv
  rw [h1] at hD
  simp only [Option.some.injEq, Obj.cells.injEq] at hD
  exact hK.r k hD.2.1.symm
/-- Blocks of other types than the book's and its rows stay. -/
def KeepT (KD : Nat → Kd) (w w' : World) : Prop := ∀ (x : Nat) (C : Array Value) (T : TypeId) (fr : Nat × Nat), w.heap[x]? = some (Obj.cells C T fr) → T ≠ tBk → (∀ j, T ≠ (KD j).r) → w'.heap[x]? = some (Obj.cells C T fr)
theorem KeepT.trans {w1 w2 w3 : World} (h : KeepT KD w1 w2) (h' : KeepT KD w2 w3) : KeepT KD w1 w3 := fun x C T fr h1 h2 h3 => h' x C T fr (h x C T fr h1 h2 h3) h2 h3
/-- A list is taken: its row takes one more, the book's field is written. -/
theorem Hd.take {e : Ent} {k g cap : Nat} {w1 w2 : World} (hK : KDok KD) (h : Hd KD B b tvs E (e :: P) w) (hk : e.k = k) (h1 : Below w.heap.size w w1)
    (ht : Tz (rowK (KD k)) B (.slice (some ⟨g, 0, none⟩) ((rowE E k).length + 1) cap) ((rowE E k).length + 1) (rowG (rowE (E ++ [e]) k)) w2) (h2 : w1.grownBy w2 (tvs k).ownBlock)
    (hor : tvs k = .slice (some ⟨g, 0, none⟩) (rowE E k).length cap ∨ (w1.grownBy w2 none ∧ w1.heap.size ≤ g)) :
    Hd KD B b (fun j => if j = k then .slice (some ⟨g, 0, none⟩) ((rowE E k).length + 1) cap else tvs j) (E ++ [e]) P (w2.setCell ⟨b, k, none⟩ (.slice (some ⟨g, 0, none⟩) ((rowE E k).length + 1) cap)) ∧ Below B w (w2.setCell ⟨b, k, none⟩ (.slice (some ⟨g, 0, none⟩) ((rowE E k).length + 1) cap)) ∧ KeepT KD w (w2.setCell ⟨b, k, none⟩ (.slice (some ⟨g, 0, none⟩) ((rowE E k).length + 1) cap)) := by
  have hmem : e ∈ E ++ e :: P := by simp
  have hk28 : k < 28 := hk ▸ (h.els e hmem).1
  have ha : (E ++ [e]) ++ P = E ++ e :: P := by simp
  obtain ⟨C, hC1, hC2, hC3⟩ := h.bk
  have hbl := blk_lt' hC1
  -- all blocks but the row's and the book's stay
  have keep : ∀ x, x < w.heap.size → (tvs k).ownBlock ≠ some x → x ≠ b → (w2.setCell ⟨b, k, none⟩ (.slice (some ⟨g, 0, none⟩) ((rowE E k).length + 1) cap)).heap[x]? = w.heap[x]? := fun x hx hr hb => by
    rw [Below.heap_setCell _ _ _ _ hb, h2.block x (Nat.lt_of_lt_of_le hx h1.size) (fun e => hr e.symm)]
    exact h1.block x hx
  have hgb : g ≠ b := by
    rcases hor with e | ⟨_, hge⟩
    · intro e2
      exact h.rnot hK hk28 (by rw [e, e2]; rfl)
    · have := h1.size
      omega
  have hB2 : Below B w w2 := (h1.mono h.hw).trans (below_of_grown h2 (fun j e => ((h.rows k hk28).lt e).1) (Nat.le_trans h.hw h1.size))
  refine ⟨{ bk := ?_, rows := fun j hj => ?_, els := fun f hf => ?_, sep := by rw [ha]; exact h.sep, rs := fun j hj f hf => ?_, rr := fun j j' hj hj' hne => ?_, nl := fun j hj hr => ?_, hb := h.hb, hw := ?_, lim := by rw [ha]; exact h.lim }, hB2.setCell h.hb _, fun x D T fr hx hT hTr => ?_⟩
  · have hq : w2.heap[b]? = some (.cells C tBk (0, 0)) := by
      rw [h2.block b (Nat.lt_of_lt_of_le hbl h1.size) (fun e => h.rnot hK hk28 e.symm), h1.block b hbl, hC1]
    refine ⟨_, blk_set' hq k _, by simpa using hC2, fun j hj => ?_⟩
    rw [Array.getElem?_setIfInBounds]
    by_cases e2 : j = k
    · subst e2; rw [if_pos rfl, if_pos (by omega), if_pos rfl]
    · rw [if_neg (fun e => e2 e.symm), if_neg e2]; exact hC3 j hj
  · by_cases e2 : j = k
    · subst e2
      rw [if_pos rfl]
      have e3 : rowE (E ++ [e]) j = rowE E j ++ [e.v] := by rw [← hk]; exact rowE_snoc_same
      have e4 : (rowE (E ++ [e]) j).length = (rowE E j).length + 1 := by rw [e3]; simp
      rw [e4]
      exact ht.keep (fun x hx => Below.heap_setCell _ _ _ _ (by simp only [Value.ownBlock, Option.some.injEq] at hx; rw [← hx]; exact hgb))
    · rw [if_neg e2, rowE_snoc_other (by rw [hk]; exact fun e => e2 e.symm)]
      exact (h.rows j hj).keep (fun x hx => keep x ((h.rows j hj).lt hx).2 (fun e => h.rr k j hk28 hj (fun e => e2 e.symm) x e hx) (fun e => h.rnot hK hj (by rw [← e]; exact hx)))
  · rw [ha] at hf
    refine ⟨(h.els f hf).1, (h.els f hf).2.1, (h.els f hf).2.2.keep (fun x hx => keep x ((h.els f hf).2.2.lt hx).2 (fun e => h.rs k hk28 f hf x e hx) (fun e => h.bnot hK hf (by rw [← e]; exact hx)))⟩
  · rw [ha] at hf
    by_cases e2 : j = k
    · subst e2
      rw [if_pos rfl]
      intro x hx hx2
      simp only [Value.ownBlock, Option.some.injEq] at hx
      rcases hor with e3 | ⟨_, hge⟩
      · exact h.rs j hj f hf x (by rw [e3, ← hx]; rfl) hx2
      · have := ((h.els f hf).2.2.lt hx2).2
        have := h1.size
        omega
    · rw [if_neg e2]; exact h.rs j hj f hf
  · have one : ∀ i, i < 28 → i ≠ k → apartV (.slice (some ⟨g, 0, none⟩) ((rowE E k).length + 1) cap) (tvs i) := fun i hi hne x hx hx2 => by
      simp only [Value.ownBlock, Option.some.injEq] at hx
      rcases hor with e3 | ⟨_, hge⟩
      · exact h.rr k i hk28 hi (fun e => hne e.symm) x (by rw [e3, ← hx]; rfl) hx2
      · have := ((h.rows i hi).lt hx2).2
        have := h1.size
        omega
    by_cases e2 : j = k
    · rw [if_pos e2, if_neg (fun e => hne (e2.trans e.symm))]
      exact one j' hj' (fun e => hne (e2.trans e.symm))
    · rw [if_neg e2]
      by_cases e3 : j' = k
      · rw [if_pos e3]
        exact (one j hj e2).symm
      · rw [if_neg e3]
        exact h.rr j j' hj hj' hne
  · by_cases e2 : j = k
    · subst e2
      rw [← hk, rowE_snoc_same] at hr
      simp at hr
    · rw [if_neg e2]
      rw [rowE_snoc_other (by rw [hk]; exact fun e => e2 e.symm)] at hr
      exact h.nl j hj hr
  · have := h1.size
    have := h2.size
    have := h.hw
    simp
    omega
  · rw [keep x (blk_lt' hx) (fun e => ?_) (fun e => ?_)]
    · exact hx
    · obtain ⟨D', hD⟩ := (h.rows k hk28).type e
      rw [hx] at hD
      simp only [Option.some.injEq, Obj.cells.injEq] at hD
      exact hTr k hD.2.1
    · subst e
      rw [hC1] at hx
      simp only [Option.some.injEq, Obj.cells.injEq] at hx
      exact hT hx.2.1.symm
/-- The kinds before d stand alone; the others are to be looked at. -/
structure Al (KD : Nat → Kd) (B b : Nat) (tvs : Nat → Value) (E : List Ent) (d : Nat) (w0 w : World) : Prop where
  bk : ∃ C : Array Value, w.heap[b]? = some (.cells C tBk (0, 0)) ∧ C.size = 28 ∧ ∀ k, k < 28 → C[k]? = some (tvs k)
  rows : ∀ k, k < 28 → d ≤ k → Tz (rowK (KD k)) B (tvs k) (rowE E k).length (rowG (rowE E k)) w
  els : ∀ e ∈ E, d ≤ e.k → e.k < 28 ∧ e.n ≤ 50000000 ∧ Tz (KD e.k) B e.v e.n e.G w
  sep : E.Pairwise (fun e f => apartV e.v f.v)
  rs : ∀ k, k < 28 → ∀ e ∈ E, apartV (tvs k) e.v
  nb : ∀ e ∈ E, e.v.ownBlock ≠ some b
  nl : ∀ k, k < 28 → rowE E k = [] → tvs k = .slice none 0 0
  hb : B ≤ b
  blw : Below B w0 w
  hw : B ≤ w.heap.size
  lim : E.length ≤ 40000000
theorem Hd.al (h : Hd KD B b tvs E [] w) (hK : KDok KD) : Al KD B b tvs E 0 w w where
  bk := h.bk
  rows := fun k hk _ => h.rows k hk
  els := fun e he _ => h.els e (by simpa using he)
  sep := by simpa using h.sep
  rs := fun k hk e he => h.rs k hk e (by simpa using he)
  nb := fun e he => h.bnot hK (by simpa using he)
  nl := h.nl
  hb := h.hb
  blw := Below.refl _ _
  hw := h.hw
  lim := by simpa using h.lim
theorem Al.cell {d : Nat} {w0 : World} (h : Al KD B b tvs E d w0 w) {k : Nat} (hk : k < 28) : w.cell? ⟨b, k, none⟩ = some (tvs k) := by
  obtain ⟨C, h1, h2, h3⟩ := h.bk
  rw [blk_cell' h1]
  exact h3 k hk
theorem Al.skip {d : Nat} {w0 : World} (h : Al KD B b tvs E d w0 w) : Al KD B b tvs E (d + 1) w0 w :=
  { h with rows := fun k hk hd => h.rows k hk (by omega), els := fun e he hd => h.els e he (by omega) }
theorem Al.skips {d d' : Nat} {w0 : World} (h : Al KD B b tvs E d w0 w) (hd : d ≤ d') : Al KD B b tvs E d' w0 w :=
  { h with rows := fun k hk h2 => h.rows k hk (by omega), els := fun e he h2 => h.els e he (by omega) }
def nth (E : List Ent) (k j : Nat) : Ent := (E.filter (fun e => e.k == k)).getD j ⟨k, .slice none 0 0, 0, fun _ _ => True⟩
theorem nth_mem {k j : Nat} (hj : j < (rowE E k).length) : nth E k j ∈ E ∧ (nth E k j).k = k ∧ (rowE E k)[j]? = some (nth E k j).v := by
  unfold rowE at hj ⊢
  rw [List.length_map] at hj
  have e : nth E k j = (E.filter (fun e => e.k == k))[j] := by unfold nth; simp [hj]
  have hm : (E.filter (fun e => e.k == k))[j] ∈ E.filter (fun e => e.k == k) := List.getElem_mem hj
  rw [e]
  refine ⟨(List.mem_filter.1 hm).1, by simpa using (List.mem_filter.1 hm).2, ?_⟩
  rw [List.getElem?_map, List.getElem?_eq_getElem hj]
  rfl
theorem nth_apart (hs : E.Pairwise (fun e f => apartV e.v f.v)) {k i j : Nat} (hi : i < (rowE E k).length) (hj : j < (rowE E k).length) (hne : i ≠ j) : apartV (nth E k i).v (nth E k j).v := by
  unfold rowE at hi hj
  rw [List.length_map] at hi hj
  have e1 : nth E k i = (E.filter (fun e => e.k == k))[i] := by unfold nth; simp [hi]
  have e2 : nth E k j = (E.filter (fun e => e.k == k))[j] := by unfold nth; simp [hj]
  have hp := hs.filter (fun e => e.k == k)
  rw [e1, e2]
  rcases Nat.lt_or_gt_of_ne hne with h | h
  · exact List.pairwise_iff_getElem.1 hp i j hi hj h
  · exact (List.pairwise_iff_getElem.1 hp j i hj hi h).symm
/-- What the walk over one kind wants. -/
def Al.bx (KD : Nat → Kd) (B b : Nat) (E : List Ent) (k rg : Nat) (w : World) : Bx := ⟨KD k, B, w, b, rg, (rowE E k).length, fun j => (nth E k j).v, fun j => (nth E k j).n⟩
theorem Al.good {d rg rc : Nat} {w0 : World} (h : Al KD B b tvs E d w0 w) (hd : d < 28) (hK : (KD d).Ok) (hv : tvs d = .slice (some ⟨rg, 0, none⟩) (rowE E d).length rc) (h0 : 0 < (rowE E d).length) : (Al.bx KD B b E d rg w).Good where
  K := hK
  bt := fun j hj => h.nb _ (nth_mem hj).1
  rt := fun j hj => h.rs d hd _ (nth_mem hj).1 rg (by rw [hv]; rfl)
  bl := by
    obtain ⟨C, h1, _⟩ := h.bk
    exact blk_lt' h1
  rl := ((h.rows d hd (Nat.le_refl _)).lt (g := rg) (by rw [hv]; rfl)).2
  Bl := h.hw
  d := fun j hj k hk hne => nth_apart h.sep hj hk hne
  n := fun j hj => (h.els _ (nth_mem hj).1 (by rw [(nth_mem hj).2.1]; exact Nat.le_refl _)).2.1
  m := by
    have := rowE_len E d
    have := h.lim
    show (rowE E d).length ≤ _
    omega
theorem Al.lists {d : Nat} {w0 : World} (h : Al KD B b tvs E d w0 w) {j : Nat} (hj : j < (rowE E d).length) : Tz (KD d) B (nth E d j).v (nth E d j).n (fun _ _ => True) w := by
  have hm := nth_mem hj
  have h1 := (h.els _ hm.1 (by rw [hm.2.1]; exact Nat.le_refl _)).2.2
  rw [hm.2.1] at h1
  exact h1.imp (fun _ _ _ _ => trivial)
theorem Al.row {d rg rc : Nat} {w0 : World} (h : Al KD B b tvs E d w0 w) (hd : d < 28) (hv : tvs d = .slice (some ⟨rg, 0, none⟩) (rowE E d).length rc) {j : Nat} (hj : j < (rowE E d).length) : w.cell? ⟨rg, j, none⟩ = some (nth E d j).v := by
  have h1 := h.rows d hd (Nat.le_refl _)
  rw [hv] at h1
  obtain ⟨cs, hl, hc, -, v, hv2, rfl⟩ := h1.here hj
  have h2 := hc 0 Nat.zero_lt_one
  rw [(nth_mem hj).2.2] at hv2
  obtain rfl := Option.some.inj hv2
  have e : j * (rowK (KD d)).z + 0 = j := by show j * 1 + 0 = j; omega
  rw [e] at h2
  exact h2
/-- One kind stands alone. -/
theorem Al.done {d rg rc : Nat} {w0 : World} (h : Al KD B b tvs E d w0 w) (hd : d < 28) (hK : (KD d).Ok) (hv : tvs d = .slice (some ⟨rg, 0, none⟩) (rowE E d).length rc) (h0 : 0 < (rowE E d).length) (hk : (Al.bx KD B b E d rg w).Keep w') : Al KD B b tvs E (d + 1) w0 w' := by
  have hg := h.good hd hK hv h0
  have keep : ∀ x, x < w.heap.size → (∀ j, j < (rowE E d).length → (nth E d j).v.ownBlock ≠ some x) → w'.heap[x]? = w.heap[x]? := fun x hx hn => hk.f x hx hn
  have hbk : w'.heap[b]? = w.heap[b]? := hk.b hg
  refine { bk := ?_, rows := fun k hk2 hd2 => ?_, els := fun e he hd2 => ?_, sep := h.sep, rs := h.rs, nb := h.nb, nl := h.nl, hb := h.hb, blw := h.blw.trans hk.B, hw := Nat.le_trans h.hw hk.B.size, lim := h.lim }
  · obtain ⟨C, h1, h2⟩ := h.bk
    exact ⟨C, hbk.trans h1, h2⟩
  · have hr := h.rows k hk2 (by omega)
    exact hr.keep (fun x hx => keep x (hr.lt hx).2 (fun j hj e => h.rs k hk2 _ (nth_mem hj).1 x hx e))
  · obtain ⟨e1, e2, e3⟩ := h.els e he (by omega)
    refine ⟨e1, e2, e3.keep (fun x hx => keep x (e3.lt hx).2 (fun j hj e4 => ?_))⟩
    -- another list of another kind: not the same entry
    have hm := nth_mem hj
    obtain ⟨i1, hi1, q1⟩ := List.mem_iff_getElem.1 he
    obtain ⟨i2, hi2, q2⟩ := List.mem_iff_getElem.1 hm.1
    have hne : i1 ≠ i2 := by
      intro e5
      subst e5
      have : e = nth E d j := q1.symm.trans q2
      rw [this, hm.2.1] at hd2
      omega
    rcases Nat.lt_or_gt_of_ne hne with h5 | h5
    · have := List.pairwise_iff_getElem.1 h.sep i1 i2 hi1 hi2 h5
      rw [q1, q2] at this
      exact this x hx e4
    · have := List.pairwise_iff_getElem.1 h.sep i2 i1 hi2 hi1 h5
      rw [q1, q2] at this
      exact this x e4 hx
end
end Go.Proofs.YtnodjijgeifejaaGreatDoor
