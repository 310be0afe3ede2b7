/- weirmem.Book: the mark of a number; a list of tokens that is written over. -/
import Derived.Test.YtmooibnedokllaaGreatDoorLa
import Derived.Lib.ConvBytes
import Derived.Lib.SlBytesRow
namespace Go.Proofs.YtmooibnedokllaaGreatDoor
open Go.RowKit
set_option linter.unusedSimpArgs false
set_option linter.unusedVariables false

def markT (i : Nat) : ByteArray := ⟨#[109, 97, 114, 107, 32, UInt8.ofNat (97 + i), 97, 97]⟩
set_option maxRecDepth 100000 in
set_option maxHeartbeats 400000 in
theorem mem_text (i : Nat) (hi : i < 26) (w : World) :
    Calls Tryz.prog 91 #[.int .i64 (i : Int)] w fun ev w' => ev = .returned (.string (markT i)) ∧ Below w.heap.size w w' := by
  have e1 : (i : Int).tmod 26 = (i : Int) := by rw [Int.tmod_eq_emod_of_nonneg (by omega)]; omega
  have e2 : (i : Int).tdiv 26 = 0 := by rw [Int.tdiv_eq_ediv_of_nonneg (by omega)]; omega
  have e4 : (i : Int).tdiv 676 = 0 := by rw [Int.tdiv_eq_ediv_of_nonneg (by omega)]; omega
  have e5 : IntKind.u8.wrap (97 + (i : Int)) = 97 + (i : Int) := by show (97 + (i : Int)) % 256 = _; omega
  obtain ⟨M, hM⟩ : ∃ M, M = markT i := ⟨_, rfl⟩
  rw [← hM]
  obtain ⟨X, hX⟩ : ∃ X : ByteArray, X = ⟨#[UInt8.ofNat (97 + i), 97, 97]⟩ := ⟨_, rfl⟩
  have HM : Hid ((⟨#[109, 97, 114, 107, 32]⟩ : ByteArray) ++ X = M) := Lib.hid (by rw [hM, hX]; unfold markT; exact bytes_ext (by rw [data_app]; rfl))
  have hXs : X.size = 3 := by rw [hX]; rfl
  have hn : ((UInt8.ofNat (97 + i)).toNat : Int) = 97 + (i : Int) := by
    rw [UInt8.toNat_ofNat']; omega
  have cv := Lib.run_convert_whole (P := Tryz.prog) (w.alloc (.cells #[.int .u8 (97 + (i : Int)), .int .u8 97, .int .u8 97] 5 (0, 0))) 103 5 9 Tryz.underlying103 Tryz.underlying5 Tryz.underlying9 w.heap.size 0 X (fun x hx => by
    have hb := heap_alloc_new w (.cells #[.int .u8 (97 + (i : Int)), .int .u8 97, .int .u8 97] 5 (0, 0))
    rw [hXs] at hx
    subst hX
    rw [blk_cell' hb]
    match x, hx with
    | 0, _ => rw [← hn]; rfl
    | 1, _ => rfl
    | 2, _ => rfl) 3
  rw [hXs] at cv
  clear hM hX hn
  go_enter Tryz.func91, Tryz.ntmps91
  go_wp2_with fail
  go_ret
  exact ⟨by rw [← HM.out]; rfl, (Below.refl _ _).alloc (Nat.le_refl _) _⟩
/-- The token that marks list i. -/
def markK (i : Nat) : Tok := ⟨0, markT i, 0, 0⟩
/-- A list of n tokens in memory, by its places. -/
def Tk (B : Nat) (v : Value) (n : Nat) (f : Nat → Tok) (w : World) : Prop :=
  (v = .slice none 0 0 ∧ n = 0) ∨ ∃ g cap C, v = .slice (some ⟨g, 0, none⟩) n cap ∧ B ≤ g ∧ w.heap[g]? = some (.cells C tTok (0, 0)) ∧ n ≤ cap ∧ cap ≤ maxLen ∧ C.size = cap * 4 ∧
    ∀ j, j < n → C[j * 4]? = some (.int .u8 (f j).kind) ∧ C[j * 4 + 1]? = some (.string (f j).text) ∧ C[j * 4 + 2]? = some (.int .i64 (f j).n) ∧ C[j * 4 + 3]? = some (.int .i64 (f j).pos)
variable {B n : Nat} {v : Value} {f : Nat → Tok} {w w' : World}
theorem tokCells_at (l : List Tok) : ∀ j, j < l.length → (tokCells l)[j * 4]? = some (.int .u8 (tokG l j).kind) ∧ (tokCells l)[j * 4 + 1]? = some (.string (tokG l j).text) ∧ (tokCells l)[j * 4 + 2]? = some (.int .i64 (tokG l j).n) ∧ (tokCells l)[j * 4 + 3]? = some (.int .i64 (tokG l j).pos) := by
  induction l with
  | nil => intro j hj; simp at hj
  | cons t r ih =>
    intro j hj
    cases j with
    | zero => simp [tokCells, tokG]
    | succ j =>
      have := ih j (by simpa using hj)
      have e : tokCells (t :: r) = .int .u8 t.kind :: .string t.text :: .int .i64 t.n :: .int .i64 t.pos :: tokCells r := by simp [tokCells]
      rw [e, show (j + 1) * 4 = j * 4 + 1 + 1 + 1 + 1 from by omega]
      simpa [tokG] using this
theorem tokCells_len (l : List Tok) : (tokCells l).length = l.length * 4 := by
  induction l with
  | nil => rfl
  | cons t r ih => rw [show tokCells (t :: r) = [.int .u8 t.kind, .string t.text, .int .i64 t.n, .int .i64 t.pos] ++ tokCells r by simp [tokCells], List.length_append, ih]; simp; omega
theorem Tk.of {l : List Tok} (h : ToksIn B v l w) : Tk B v l.length (tokG l) w := by
  rcases h.2 with ⟨h1, h2⟩ | ⟨g, cap, C, h1, h2, h3, h4, h5, h6, h7⟩
  · exact .inl ⟨h1, h2⟩
  · refine .inr ⟨g, cap, C, h1, h2, h3, h4, h5, h6, fun j hj => ?_⟩
    have hat : ∀ i, i < l.length * 4 → C[i]? = (tokCells l)[i]? := fun i hi => by
      rw [← h7, List.getElem?_take, if_pos hi, Array.getElem?_toList]
    obtain ⟨i1, i2, i3, i4⟩ := tokCells_at l j hj
    exact ⟨(hat _ (by omega)).trans i1, (hat _ (by omega)).trans i2, (hat _ (by omega)).trans i3, (hat _ (by omega)).trans i4⟩
theorem Tk.own (h : Tk B v n f w) : w.ownsRow B tTok 4 v n (tokCells ((List.range n).map f)) := by
  have hl : ((List.range n).map f).length = n := by simp
  refine ⟨by rw [tokCells_len, hl], ?_⟩
  rcases h with ⟨h1, h2⟩ | ⟨g, cap, C, h1, h2, h3, h4, h5, h6, h7⟩
  · exact .inl ⟨h1, h2⟩
  · refine .inr ⟨g, cap, C, h1, h2, h3, h4, h5, h6, ?_⟩
    apply List.ext_getElem?
    intro i
    rcases Nat.lt_or_ge i (n * 4) with hi | hi
    · rw [List.getElem?_take, if_pos hi, Array.getElem?_toList]
      have hj : i / 4 < n := by omega
      obtain ⟨i1, i2, i3, i4⟩ := h7 (i / 4) hj
      obtain ⟨j1, j2, j3, j4⟩ := tokCells_at ((List.range n).map f) (i / 4) (by rw [hl]; exact hj)
      have hg : tokG ((List.range n).map f) (i / 4) = f (i / 4) := by simp [tokG, List.getD, hj]
      rw [hg] at j1 j2 j3 j4
      have : i % 4 = 0 ∨ i % 4 = 1 ∨ i % 4 = 2 ∨ i % 4 = 3 := by omega
      rcases this with e | e | e | e
      · rw [show i = i / 4 * 4 by omega, i1, j1]
      · rw [show i = i / 4 * 4 + 1 by omega, i2, j2]
      · rw [show i = i / 4 * 4 + 2 by omega, i3, j3]
      · rw [show i = i / 4 * 4 + 3 by omega, i4, j4]
    · rw [List.getElem?_eq_none (by rw [List.length_take]; omega), List.getElem?_eq_none (by rw [tokCells_len, hl]; omega)]
theorem Tk.congr {f' : Nat → Tok} (h : Tk B v n f w) (hf : ∀ j, j < n → f' j = f j) : Tk B v n f' w := by
  rcases h with h | ⟨g, cap, C, h1, h2, h3, h4, h5, h6, h7⟩
  · exact .inl h
  · exact .inr ⟨g, cap, C, h1, h2, h3, h4, h5, h6, fun j hj => by rw [hf j hj]; exact h7 j hj⟩
theorem Tk.mono {B' : Nat} (h : Tk B v n f w) (hb : B' ≤ B) : Tk B' v n f w := by
  rcases h with h | ⟨g, cap, C, h1, h2, h3⟩
  · exact .inl h
  · exact .inr ⟨g, cap, C, h1, by omega, h3⟩
theorem Tk.grow {row : Option Nat} (h : Tk B v n f w) (hg : w.grownBy w' row) (hne : ∀ g, v.ownBlock = some g → row ≠ some g) : Tk B v n f w' := by
  rcases h with h | ⟨g, cap, C, rfl, h2, h3, h4⟩
  · exact .inl h
  · exact .inr ⟨g, cap, C, rfl, h2, grown_blk hg h3 (fun e => hne g rfl e.symm), h4⟩
theorem Tk.next (h : Tk B v n f w) (hB : Below w.heap.size w w') : Tk B v n f w' :=
  h.grow (grown_of_below hB (Nat.le_refl _) none) (fun g _ => by simp)
theorem Tk.lt (h : Tk B v n f w) {g : Nat} (hv : v.ownBlock = some g) : B ≤ g ∧ g < w.heap.size := by
  rcases h with ⟨rfl, _⟩ | ⟨g', cap, C, rfl, h2, h3, _⟩
  · cases hv
  · simp only [Value.ownBlock, Option.some.injEq] at hv
    subst hv
    exact ⟨h2, blk_lt' h3⟩
theorem Tk.type (h : Tk B v n f w) {g : Nat} (hv : v.ownBlock = some g) : ∃ C, w.heap[g]? = some (.cells C tTok (0, 0)) := by
  rcases h with ⟨rfl, _⟩ | ⟨g', cap, C, rfl, h2, h3, _⟩
  · cases hv
  · simp only [Value.ownBlock, Option.some.injEq] at hv
    subst hv
    exact ⟨C, h3⟩
/-- What stands at a place. -/
theorem Tk.at (h : Tk B v n f w) {k : Nat} (hk : k < n) : ∃ g cap, v = .slice (some ⟨g, 0, none⟩) n cap ∧ g < w.heap.size ∧
    w.cell? ⟨g, k * 4, none⟩ = some (.int .u8 (f k).kind) ∧ w.cell? ⟨g, k * 4 + 1, none⟩ = some (.string (f k).text) ∧ w.cell? ⟨g, k * 4 + 2, none⟩ = some (.int .i64 (f k).n) ∧ w.cell? ⟨g, k * 4 + 3, none⟩ = some (.int .i64 (f k).pos) ∧
    w.frozen? ⟨g, k * 4, none⟩ = false ∧ w.frozen? ⟨g, k * 4 + 1, none⟩ = false ∧ w.frozen? ⟨g, k * 4 + 2, none⟩ = false ∧ w.frozen? ⟨g, k * 4 + 3, none⟩ = false := by
  rcases h with ⟨_, h2⟩ | ⟨g, cap, C, rfl, h2, h3, h4, h5, h6, h7⟩
  · omega
  · obtain ⟨i1, i2, i3, i4⟩ := h7 k hk
    exact ⟨g, cap, rfl, blk_lt' h3, by rw [blk_cell' h3]; exact i1, by rw [blk_cell' h3]; exact i2, by rw [blk_cell' h3]; exact i3, by rw [blk_cell' h3]; exact i4, blk_free' h3 _, blk_free' h3 _, blk_free' h3 _, blk_free' h3 _⟩
theorem set4_at (C : Array Value) (b : Nat) (x0 x1 x2 x3 : Value) (hb : b + 3 < C.size) (i : Nat) :
    ((((C.setIfInBounds b x0).setIfInBounds (b + 1) x1).setIfInBounds (b + 2) x2).setIfInBounds (b + 3) x3)[i]? = if i = b then some x0 else if i = b + 1 then some x1 else if i = b + 2 then some x2 else if i = b + 3 then some x3 else C[i]? := by
  simp only [Array.getElem?_setIfInBounds, Array.size_setIfInBounds]
  by_cases e0 : i = b
  · subst e0; rw [if_neg (by omega), if_neg (by omega), if_neg (by omega), if_pos rfl, if_pos (by omega), if_pos rfl]
  · by_cases e1 : i = b + 1
    · subst e1; rw [if_neg (by omega), if_neg (by omega), if_pos rfl, if_pos (by omega), if_neg (by omega), if_pos rfl]
    · by_cases e2 : i = b + 2
      · subst e2; rw [if_neg (by omega), if_pos rfl, if_pos (by omega), if_neg (by omega), if_neg (by omega), if_pos rfl]
      · by_cases e3 : i = b + 3
        · subst e3; rw [if_pos rfl, if_pos (by omega), if_neg (by omega), if_neg (by omega), if_neg (by omega), if_pos rfl]
        · rw [if_neg (by omega), if_neg (by omega), if_neg (by omega), if_neg (by omega), if_neg e0, if_neg e1, if_neg e2, if_neg e3]
def tokSet (w : World) (g k : Nat) (t : Tok) : World := (((w.setCell ⟨g, k * 4, none⟩ (.int .u8 t.kind)).setCell ⟨g, k * 4 + 1, none⟩ (.string t.text)).setCell ⟨g, k * 4 + 2, none⟩ (.int .i64 t.n)).setCell ⟨g, k * 4 + 3, none⟩ (.int .i64 t.pos)
theorem tokSet_grown (w : World) (g k : Nat) (t : Tok) : w.grownBy (tokSet w g k t) (some g) :=
  grown_set (grown_set (grown_set (grown_set ⟨rfl, rfl, rfl, Nat.le_refl _, fun _ _ _ => rfl⟩ _ _) _ _) _ _) _ _
theorem Tk.set {g cap k : Nat} (h : Tk B (.slice (some ⟨g, 0, none⟩) n cap) n f w) (hk : k < n) (t : Tok) : Tk B (.slice (some ⟨g, 0, none⟩) n cap) n (fun j => if j = k then t else f j) (tokSet w g k t) := by
  rcases h with ⟨h, _⟩ | ⟨g', cap', C, hv, h2, h3, h4, h5, h6, h7⟩
  · cases h
  · simp only [Value.slice.injEq, Option.some.injEq, Addr.mk.injEq, and_true, true_and] at hv
    obtain ⟨rfl, rfl⟩ := hv
    refine .inr ⟨g, cap, _, rfl, h2, blk_set' (blk_set' (blk_set' (blk_set' h3 (k * 4) _) (k * 4 + 1) _) (k * 4 + 2) _) (k * 4 + 3) _, h4, h5, by simpa using h6, fun j hj => ?_⟩
    have hb : k * 4 + 3 < C.size := by omega
    simp only [set4_at C (k * 4) _ _ _ _ hb]
    by_cases e : j = k
    · subst e
      simp
    · obtain ⟨i1, i2, i3, i4⟩ := h7 j hj
      rw [if_neg e]
      refine ⟨?_, ?_, ?_, ?_⟩
      · rw [if_neg (by omega), if_neg (by omega), if_neg (by omega), if_neg (by omega)]; exact i1
      · rw [if_neg (by omega), if_neg (by omega), if_neg (by omega), if_neg (by omega)]; exact i2
      · rw [if_neg (by omega), if_neg (by omega), if_neg (by omega), if_neg (by omega)]; exact i3
      · rw [if_neg (by omega), if_neg (by omega), if_neg (by omega), if_neg (by omega)]; exact i4
theorem tk_of_own {l : List Tok} {N : Nat} (hN : l.length = N) (h : w.ownsRow B tTok 4 v N (tokCells l)) : Tk B v N (tokG l) w := by
  subst hN; exact Tk.of h
/-- A token behind a list: in its place, or the whole list laid anew. -/
theorem tk_append (ty : TypeId) (h : Tk B v n f w) (hB : B ≤ w.heap.size) (hn : n + 1 ≤ 1000000) (t : Tok) (a : Addr) (c : Nat)
    (hnews : ∀ j u, ([.int .u8 t.kind, .string t.text, .int .i64 t.n, .int .i64 t.pos] : List Value)[j]? = some u → w.cell? (a.add j) = some u) :
    ∃ g cap w', (Builtin.append_ #[23, 23] ty #[v, .slice (some a) 1 c]).run Tryz.prog w = .ok (.slice (some ⟨g, 0, none⟩) (n + 1) cap) w' ∧
      Tk B (.slice (some ⟨g, 0, none⟩) (n + 1) cap) (n + 1) (fun j => if j = n then t else f j) w' ∧ w.grownBy w' v.ownBlock ∧
      (v = .slice (some ⟨g, 0, none⟩) n cap ∨ (w.grownBy w' none ∧ w.heap.size ≤ g)) := by
  obtain ⟨i0, hi, hz0, hz1, hz2⟩ := info_parts info_K
  have h1 : ∀ u ∈ ([.int .u8 t.kind, .string t.text, .int .i64 t.n, .int .i64 t.pos] : List Value), u.oneCell' = true := by
    intro u hu; simp at hu; rcases hu with rfl | rfl | rfl | rfl <;> rfl
  have hcells : ∀ l : List Tok, tokCells l ++ [.int .u8 t.kind, .string t.text, .int .i64 t.n, .int .i64 t.pos] = tokCells (l ++ [t]) := fun l => (tokCells_snoc l t).symm
  have hlast : ∀ j, j < n + 1 → (if j = n then t else f j) = tokG (((List.range n).map f) ++ [t]) j := fun j hj => by
    unfold tokG
    by_cases e : j = n
    · subst e
      rw [if_pos rfl, List.getD, List.getElem?_append_right (by simp)]
      simp
    · rw [if_neg e, List.getD, List.getElem?_append_left (by simp; omega)]
      simp [show j < n by omega]
  have hm1 : n + 1 ≤ maxLen := by unfold maxLen; omega
  have hown := h.own
  rcases h with ⟨rfl, rfl⟩ | ⟨g, cap, C, rfl, h2, h3, h4, h5, h6, h7⟩
  · obtain ⟨v', w', hr, ho, hg, hnil⟩ := run_append_own (P := Tryz.prog) w w.heap.size 23 ty tTok i0 (.agg #[.int .u8 0, .string ⟨#[]⟩, .int .i64 0, .int .i64 0]) 4 40 Tryz.underlying23 hi hz0 hz1 hz2 rfl (by decide) (.slice none 0 0) 0 [] (World.ownsRow_nil ..) a 1 c _ rfl hnews h1 hm1 (by omega) (Nat.le_refl _)
    have ho2 : w'.ownsRow w.heap.size tTok 4 v' 1 (tokCells ([] ++ [t])) := by rw [← hcells]; exact ho
    obtain ⟨g, cap, rfl⟩ : ∃ g cap, v' = .slice (some ⟨g, 0, none⟩) 1 cap := by
      rcases ho.2 with ⟨_, h0⟩ | ⟨g, cap, cur, hv, _⟩
      · omega
      · exact ⟨g, cap, hv⟩
    exact ⟨g, cap, w', hr, ((tk_of_own rfl ho2).mono hB).congr (fun j hj => (hlast j hj).trans (by simp)), hg, .inr ⟨hg, (ho.lt g rfl).1⟩⟩
  · obtain ⟨v', w', hr, ho, hg, hnil⟩ := run_append_own (P := Tryz.prog) w B 23 ty tTok i0 (.agg #[.int .u8 0, .string ⟨#[]⟩, .int .i64 0, .int .i64 0]) 4 40 Tryz.underlying23 hi hz0 hz1 hz2 rfl (by decide) _ n _ hown a 1 c _ rfl hnews h1 hm1 (by omega) hB
    rw [hcells] at ho
    have hk := (tk_of_own (by simp) ho).congr hlast
    by_cases hroom : n + 1 ≤ cap
    · have hr2 := run_append_room (P := Tryz.prog) w 23 ty tTok i0 Tryz.underlying23 hi g n cap C h3 a 1 c _ (by rw [hz1]; rfl) hnews h1 hroom (by rw [hz1]; simp; omega)
      rw [hr2] at hr
      simp only [Result.ok.injEq] at hr
      obtain ⟨rfl, hw⟩ := hr
      subst hw
      exact ⟨g, cap, _, hr2, hk, hg, .inl rfl⟩
    · have hr2 := run_append_grow (P := Tryz.prog) w 23 ty tTok i0 (.agg #[.int .u8 0, .string ⟨#[]⟩, .int .i64 0, .int .i64 0]) Tryz.underlying23 hi hz0 ⟨g, 0, none⟩ n cap _ (by rw [hown.1, hz1]) (hown.cells (g := g) rfl) a 1 c _ (by rw [hz1]; rfl) hnews (by omega) (by omega) (growslice_fits (by omega) (by rw [hz2]; omega))
      rw [hr2] at hr
      simp only [Result.ok.injEq] at hr
      obtain ⟨rfl, hw⟩ := hr
      subst hw
      exact ⟨_, _, _, hr2, hk, hg, .inr ⟨⟨rfl, rfl, rfl, by simp, fun k hk _ => heap_alloc_old w.drew _ hk⟩, Nat.le_refl _⟩⟩
/-- The same, as a step of a walk. -/
theorem wp_tok {ops : Array Oper} {rest : List Oper} {o : Oper} {a : Act} {Q : Exit → Act → World → Prop} (hgd : o.guard = none) (s x : Operand)
    (ho : o.op = .call { callee := .builtin .append, args := #[s, x], argTypes := #[23, 23] })
    (v' xv : Value) (hs : a.eval s = v) (hx : a.eval x = xv) (hr : (Builtin.append_ #[23, 23] o.type #[v, xv]).run Tryz.prog w = .ok v' w')
    (h : wpList Tryz.prog ops Q rest (a.put o.dst v') w') : wpList Tryz.prog ops Q (o :: rest) a w :=
  wpList_plain hgd fun _ hK => by
    unfold Oper.wp execOp
    simp only [ho, resolve, invoke, builtin, Sem.run_bind, Sem.run_pure, Result.andThen_ok, List.map_toArray, List.map_cons, List.map_nil, hs, hx, hr]
    exact hK _ _ h
end Go.Proofs.YtmooibnedokllaaGreatDoor
