/- line.Parse: the points of a text's lines, or the error and the line's number. -/
import Derived.Test.YtnodjijgeifejaaGreatDoorLnsW
import Derived.Test.YtnodjijgeifejaaGreatDoorPts
namespace Go.Proofs.YtnodjijgeifejaaGreatDoor
open Go.RowKit Go.Shelf
set_option linter.unusedSimpArgs false
set_option linter.unusedVariables false
attribute [local go_sem] Oper.semAt_some

def parseE : Sum (List Pt) (Nat × Option Nat) → Option Er
  | .inl _ => none
  | .inr (k, e) => mkIn k (oneE (.inr e))
def parseD : Sum (List Pt) (Nat × Option Nat) → List Pt
  | .inl l => l
  | .inr _ => []
abbrev tPts : TypeId := 22
/-- Block r holds no list of ours. -/
def Free (W : World) (r : Nat) : Prop := ∀ cs T fr, W.heap[r]? = some (.cells cs T fr) → T ≠ tPt ∧ T ≠ tTag ∧ T ≠ tFld
theorem free_box {W : World} {r : Nat} {cs : Array Value} {T : TypeId} {fr : Nat × Nat} (h : W.heap[r]? = some (.cells cs T fr)) (h1 : T ≠ tPt) (h2 : T ≠ tTag) (h3 : T ≠ tFld) : Free W r := by
  intro cs' T' fr' e
  rw [h] at e
  simp only [Option.some.injEq, Obj.cells.injEq] at e
  obtain ⟨-, rfl, -⟩ := e
  exact ⟨h1, h2, h3⟩
theorem free_other {W : World} {r : Nat} {o : Obj} (h : W.heap[r]? = some o) (ho : o.isCells = false) : Free W r := by
  intro cs T fr e
  rw [h] at e
  obtain rfl := Option.some.inj e
  cases ho
theorem own_free {w : World} {B : Nat} {e : TypeId} {v : Value} {n z : Nat} {xs : List Value} {r : Nat} (hown : w.ownsRow B e z v n xs) (h : Free w r) (he : e = tPt ∨ e = tTag ∨ e = tFld) : v.ownBlock ≠ some r := by
  rcases hown.2 with ⟨rfl, _⟩ | ⟨g, cap, cur, rfl, _, hg, _⟩
  · simp [Value.ownBlock]
  · intro e'
    simp only [Value.ownBlock, Option.some.injEq] at e'
    subst e'
    obtain ⟨k1, k2, k3⟩ := h _ _ _ hg
    rcases he with q | q | q
    · exact k1 q
    · exact k2 q
    · exact k3 q
theorem own_keep {w w' : World} {B : Nat} {e : TypeId} {v : Value} {n z : Nat} {xs : List Value} {row : Option Nat} (hown : w.ownsRow B e z v n xs) (hg : w.grownBy w' row) (h : ∀ r, row = some r → Free w r) (he : e = tPt ∨ e = tTag ∨ e = tFld) : w'.ownsRow B e z v n xs := by
  refine hown.kept hg ?_
  rcases hv : v.ownBlock with _ | k
  · exact .inl rfl
  · exact .inr (fun q => own_free hown (h k q.symm) he hv)
theorem PtsIn.free {B : Nat} {v : Value} {q : List P3} {w w' : World} {row : Option Nat} (h : PtsIn B v q w) (hg : w.grownBy w' row) (hr : ∀ r, row = some r → Free w r) : PtsIn B v q w' :=
  ⟨own_keep h.own hg hr (.inl rfl), fun x hx => own_keep (h.ts x hx) hg hr (.inr (.inl rfl)), fun x hx => own_keep (h.fs x hx) hg hr (.inr (.inr rfl)), h.sep⟩
theorem row_blk {w w' : World} {row : Option Nat} {b : Nat} {o : Obj} (hg : w.grownBy w' row) (hr : ∀ r, row = some r → b < r) (hb : w.heap[b]? = some o) : w'.heap[b]? = some o :=
  (hg.block b (blk_lt' hb) (fun e => by have := hr b e.symm; omega)).trans hb
theorem row_below {B : Nat} {w0 w w' : World} {row : Option Nat} (h : Below B w0 w) (hB : B ≤ w0.heap.size) (hg : w.grownBy w' row) (hr : ∀ r, row = some r → B ≤ r) : Below B w0 w' := h.grown hg (Nat.le_trans hB h.size) (fun k e => hr k e)
/-- Between two lines. -/
structure GSt (w : World) (s : List UInt8) (R : Sum (List Pt) (Nat × Option Nat)) (k : Nat) (W : World) : Prop where
  B : Below w.heap.size w W
  b0 : W.heap[w.heap.size]? = some (.cells #[.slice none 0 0] tPts (0, 0))
  b1 : W.heap[w.heap.size + 1]? = some (.cells #[.nilIface] 26 (0, 0))
  sz : w.heap.size + 4 ≤ W.heap.size
  l : ∃ v q f, W.heap[w.heap.size + 2]? = some (.cells #[v] tPts (0, 0)) ∧ PtsIn (w.heap.size + 4) v q W ∧ linesS f k (restN k s) (q.map (·.1)) = R ∧ (restN k s).length < f ∧ q.length ≤ k
theorem GSt.go {w W W' : World} {s : List UInt8} {R} {k : Nat} {row : Option Nat} (h : GSt w s R k W) (hg : W.grownBy W' row) (hr : ∀ r, row = some r → w.heap.size + 2 < r ∧ Free W r) : GSt w s R k W' := by
  obtain ⟨v, q, f, h1, h2, h3, h4, h5⟩ := h.l
  exact ⟨row_below h.B (Nat.le_refl _) hg (fun r e => by have := (hr r e).1; omega), row_blk hg (fun r e => by have := (hr r e).1; omega) h.b0, row_blk hg (fun r e => by have := (hr r e).1; omega) h.b1, Nat.le_trans h.sz hg.size,
    v, q, f, row_blk hg (fun r e => (hr r e).1) h1, h2.free hg (fun r e => (hr r e).2), h3, h4, h5⟩
theorem GSt.skip {w W : World} {s : List UInt8} {R} {k : Nat} (h : GSt w s R k W) (hm : restN k s ≠ []) (hs : skipL (ln1 (restN k s)) = true) : GSt w s R (k + 1) W := by
  obtain ⟨v, q, f, h1, h2, h3, h4, h5⟩ := h.l
  obtain ⟨g1, g2⟩ := linesS_go h3 h4 hm (lineS_skip hs)
  exact ⟨h.B, h.b0, h.b1, h.sz, v, q, _, h1, h2, g1, g2, by omega⟩
theorem GSt.bad {w W : World} {s : List UInt8} {R} {k : Nat} {e : Option Nat} (h : GSt w s R k W) (hm : restN k s ≠ []) (hs : skipL (ln1 (restN k s)) = false) (hp : oneP ⟨(ln1 (restN k s)).toArray⟩ = .inr e) : R = .inr (k, e) := by
  obtain ⟨v, q, f, h1, h2, h3, h4, h5⟩ := h.l
  exact linesS_bad h3 h4 hm (lineS_no hs hp)
/-- A line was wrong. -/
structure XSt (w : World) (R : Sum (List Pt) (Nat × Option Nat)) (W : World) : Prop where
  B : Below w.heap.size w W
  b0 : W.heap[w.heap.size]? = some (.cells #[.slice none 0 0] tPts (0, 0))
  b1 : W.heap[w.heap.size + 1]? = some (.cells #[encE (parseE R)] 26 (0, 0))
  d : parseD R = []
theorem XSt.go {w W W' : World} {R} {row : Option Nat} (h : XSt w R W) (hg : W.grownBy W' row) (hr : ∀ r, row = some r → w.heap.size + 1 < r) : XSt w R W' :=
  ⟨row_below h.B (Nat.le_refl _) hg (fun r e => by have := hr r e; omega), row_blk hg (fun r e => by have := hr r e; omega) h.b0, row_blk hg (fun r e => hr r e) h.b1, h.d⟩
theorem keeps_below {B : Nat} {W W' : World} (h : Below W.heap.size W W') : KeepsFrom B W W' := ⟨h.size, fun k o _ hk _ => below_blk h (blk_lt' hk) hk⟩
theorem own_cells {w : World} {B : Nat} {e : TypeId} {v : Value} {n z : Nat} {xs : List Value} (hown : w.ownsRow B e z v n xs) : ∀ (j : Nat) (o : Obj), v.ownBlock = some j → w.heap[j]? = some o → o.isCells = true := by
  intro j o hj ho
  rcases hown.2 with ⟨rfl, _⟩ | ⟨g, cap, cur, rfl, _, hg, _⟩
  · cases hj
  · simp only [Value.ownBlock, Option.some.injEq] at hj
    subst hj
    rw [hg] at ho
    obtain rfl := Option.some.inj ho
    rfl
theorem PtsIn.mono {B B' : Nat} {v : Value} {q : List P3} {w : World} (h : PtsIn B v q w) (hb : B' ≤ B) : PtsIn B' v q w :=
  ⟨Go.Joins.ownsRow_le h.own hb, fun x hx => Go.Joins.ownsRow_le (h.ts x hx) hb, fun x hx => Go.Joins.ownsRow_le (h.fs x hx) hb, h.sep⟩
theorem res_plain {w : World} {tmps : Array Value} {p : Tmp} {b : Nat} {v : Value} (hp : tmps.getD p undef = .pointer (some ⟨b, 0, none⟩)) (hc : w.cell? ⟨b, 0, none⟩ = some v) : ResIs Tryz.prog w tmps (.cell p tPts) v := by
  unfold ResIs resSem
  simp only [hp, Sem.run_bind]
  have ha : (asAddr (.pointer (some ⟨b, 0, none⟩))).run Tryz.prog w = .ok ⟨b, 0, none⟩ w := rfl
  rw [ha]
  simp [loadVar, Tryz.isAgg22, go_sem, hc]
theorem parseE_nil {R : Sum (List Pt) (Nat × Option Nat)} {l : List Pt} (h : R = .inl l) : encE (parseE R) = .nilIface ∧ parseD R = l := by subst h; exact ⟨rfl, rfl⟩
theorem skip_cases (x : List UInt8) : (x = [] ∧ skipL x = true) ∨ ∃ c r, x = c :: r ∧ skipL x = (c == 35) := by
  cases x with
  | nil => exact .inl ⟨rfl, rfl⟩
  | cons c r => exact .inr ⟨c, r, rfl, rfl⟩
theorem info_P : (Tryz.prog.info? 32).map (fun i => (i.zero, i.size, i.bytes)) = some (some (.agg #[.string ⟨#[]⟩, .slice none 0 0, .slice none 0 0, .int .i64 0]), 4, 72) := by kernel_rfl
theorem new_four (w : World) (x y z u : Value) (T : TypeId) (n : Nat) (h : n = w.heap.size) : ∀ j v, ([x, y, z, u] : List Value)[j]? = some v → (w.alloc (.cells #[x, y, z, u] T)).cell? ((⟨n, 0, none⟩ : Addr).add j) = some v := by
  intro j v hj
  have hb := heap_new' w (.cells #[x, y, z, u] T) n h
  match j, hj with
  | 0, hj => simp at hj; subst hj; exact blk_cell' hb 0
  | 1, hj => simp at hj; subst hj; exact blk_cell' hb 1
  | 2, hj => simp at hj; subst hj; exact blk_cell' hb 2
  | 3, hj => simp at hj; subst hj; exact blk_cell' hb 3
set_option maxRecDepth 100000 in
set_option maxHeartbeats 2000000 in
theorem line_Parse (s : ByteArray) (hs : s.size < 4294967281) (w : World) (L : LayM w) :
    Calls Tryz.prog 15 #[.string s] w fun ev w' => ∃ v q, ev = .returned (.tuple #[v, encE (parseE (parseS s))]) ∧ q.map (·.1) = parseD (parseS s) ∧ PtsIn w.heap.size v q w' ∧ Below w.heap.size w w' := by
  obtain ⟨R, hR⟩ : ∃ R, R = parseS s := ⟨_, rfl⟩
  rw [← hR]
  have HR := Lib.hid hR
  clear hR
  refine (callsIn_wide (n := 3)).1 ?_
  refine callsIn_of_wp_marks Tryz.func15 rfl trivial ?_ rfl
  simp only [Tryz.ntmps15, List.size_toArray, List.length_cons, List.length_nil, Nat.reduceAdd, Nat.reduceSub, Array.replicate_succ, Array.replicate_zero, List.push_toArray, List.append_toArray, List.nil_append, List.cons_append]
  gi_wp2_with fail
  refine ⟨trivial, (callsIn_wide.2 (line_lines s _)).mono ?_⟩
  rintro e w1 ⟨rfl, rfl⟩
  obtain ⟨W0, hW0⟩ : ∃ W0, (((w.alloc (.cells #[.slice none 0 0] tPts (0, 0))).alloc (.cells #[.nilIface] 26 (0, 0))).alloc (.cells #[.slice none 0 0] tPts (0, 0))).alloc (bxS s) = W0 := ⟨_, rfl⟩
  have z1 : (w.alloc (.cells #[.slice none 0 0] tPts (0, 0))).heap.size = w.heap.size + 1 := by simp
  have z2 : ((w.alloc (.cells #[.slice none 0 0] tPts (0, 0))).alloc (.cells #[.nilIface] 26 (0, 0))).heap.size = w.heap.size + 2 := by simp
  have z3 : (((w.alloc (.cells #[.slice none 0 0] tPts (0, 0))).alloc (.cells #[.nilIface] 26 (0, 0))).alloc (.cells #[.slice none 0 0] tPts (0, 0))).heap.size = w.heap.size + 3 := by simp
  have z4 : W0.heap.size = w.heap.size + 4 := by rw [← hW0]; simp
  have hB0 : Below w.heap.size w W0 := by rw [← hW0]; exact ((((Below.refl _ _).alloc (Nat.le_refl _) _).alloc (by omega) _).alloc (by omega) _).alloc (by omega) _
  have q0 : W0.heap[w.heap.size]? = some (.cells #[.slice none 0 0] tPts (0, 0)) := by rw [← hW0]; exact heap_old' _ _ _ (by omega) (heap_old' _ _ _ (by omega) (heap_old' _ _ _ (by omega) (heap_alloc_new _ _)))
  have q1 : W0.heap[w.heap.size + 1]? = some (.cells #[.nilIface] 26 (0, 0)) := by rw [← hW0]; exact heap_old' _ _ _ (by omega) (heap_old' _ _ _ (by omega) (heap_new' _ _ _ z1.symm))
  have q2 : W0.heap[w.heap.size + 2]? = some (.cells #[.slice none 0 0] tPts (0, 0)) := by rw [← hW0]; exact heap_old' _ _ _ (by omega) (heap_new' _ _ _ z2.symm)
  have q3 : W0.heap[w.heap.size + 3]? = some (bxS s) := by rw [← hW0]; exact heap_new' _ _ _ z3.symm
  have st0 : GSt w s.data.toList R 0 W0 := ⟨hB0, q0, q1, by omega, _, [], s.size + 1, q2, PtsIn.nil _ _, HR.out.symm, Nat.lt_succ_self _, Nat.le_refl _⟩
  have hss : s = ⟨s.data.toList.toArray⟩ := rfl
  have ez : (((w.alloc (.cells #[.slice none 0 0] tPts (0, 0))).alloc (.cells #[.nilIface] 26 (0, 0))).alloc (.cells #[.slice none 0 0] tPts (0, 0))).heap.size = w.heap.size + 3 := z3
  clear z1 z2 z3
  rw [hW0, ez]
  have LL := Lib.hid (fun W (hB : Below w.heap.size w W) => L.below hB)
  clear ez hW0 hB0 q0 q1 q2 HR
  gi_wp2_with fail
  refine range_box (gf := 88) (lb := #[.pointer (some ⟨w.heap.size + 3, 0, none⟩)]) (by omega) rfl (enters_of Tryz.func88 (by kernel_rfl) rfl) (w.heap.size + 3) (by omega) (encL s.data.toList) (fun k => restN k s.data.toList ≠ []) (fun k => restN k s.data.toList = []) LayM (fun o => ∃ t, o = bxS t)
    (fun l J Jx W hJ hL hY h0 hb => lines_in 2 l (w.heap.size + 3) (by omega) s.data.toList hs J Jx W hJ hL hY h0 (by rw [hb, q3])) (fun k => rfl) (GSt w s.data.toList R) (XSt w R) ?hIB (fun k A h => LL.out _ h.B) ?hI ?hIx st0 ?a1 ?assign ?body ?done ?stop
  case assign =>
    intro l k W K hK
    gi_wp2_with fail
    exact hK
  case hIB =>
    rintro k A B o h ho ⟨t, rfl⟩ hg
    exact h.go hg (fun r e => by
      obtain rfl := Option.some.inj e
      exact ⟨by omega, free_box ho (by decide) (by decide) (by decide)⟩)
  case hI =>
    intro k A B row h hg hr
    exact h.go hg (fun r e => by
      obtain ⟨h1, o, h2, h3⟩ := hr r e
      exact ⟨by omega, free_other h2 h3⟩)
  case hIx =>
    intro _ A B row h hg hr
    exact h.go hg (fun r e => by
      have := (hr r e).1
      omega)
  case body =>
    clear st0 q3
    rintro l k W hm st
    have hle := restN_le s.data.toList k hm
    have HM := Lib.hid hm
    obtain ⟨x, hx⟩ : ∃ x, ln1 (restN k s.data.toList) = x := ⟨_, rfl⟩
    obtain ⟨T, hT⟩ : ∃ T : ByteArray, T = ⟨x.toArray⟩ := ⟨_, rfl⟩
    have hTs : T.size ≤ (restN k s.data.toList).length := by rw [hT, ← hx]; exact ln1_le _
    simp only [encL, hx, ← hT]
    have HX := Lib.hid hx
    clear hm hx
    have hlen : s.data.toList.length = s.size := rfl
    have fin1 : ∀ ac, skipL x = true → boxPost W0.heap.size (w.heap.size + 3) (GSt w s.data.toList R) (XSt w R) k W .normal ac W := fun ac hsk => ⟨KeepsFrom.refl _ _, rfl, st.skip HM.out (by rw [HX.out]; exact hsk)⟩
    have fin1 := Lib.hid fin1
    rcases skip_cases x with ⟨rfl, hsk⟩ | ⟨c, r, rfl, hsk⟩
    · have hE : T.toList.isEmpty = true := by rw [Lib.toList_data, hT]; rfl
      have ST := Lib.hid st
      clear hT hTs hle hlen st
      gi_wp2_with fail
      exact fin1.out _ hsk
    · have hE : T.toList.isEmpty = false := by rw [Lib.toList_data, hT]; rfl
      have h0 : 0 < T.size := by rw [hT]; exact Nat.zero_lt_succ _
      have hc : T[0] = c := by subst hT; rfl
      by_cases h35 : c = 35
      · have hq : ((T[0].toNat : Int) == 35) = true := by rw [hc, h35]; rfl
        have ST := Lib.hid st
        clear hT hTs hle hlen st hc
        gi_wp2_with fail
        exact fin1.out _ (by rw [hsk, h35]; rfl)
      · have hq : ((T[0].toNat : Int) == 35) = false := by
          have : ¬ (T[0].toNat : Int) = 35 := fun e => h35 (by rw [← hc]; exact UInt8.toNat_inj.1 (by show T[0].toNat = 35; omega))
          simpa using this
        have hskf : skipL (c :: r) = false := by rw [hsk]; simpa using h35
        have C1 := line_One T W (LL.out _ st.B).S
        cases hp : oneP T with
        | inr e =>
          have hRe := st.bad HM.out (by rw [HX.out]; exact hskf) (by rw [HX.out, ← hT]; exact hp)
          obtain ⟨tt, tv, he⟩ : ∃ t v, encE (oneE (.inr e)) = .iface t v := by
            rcases e with _ | e
            · exact ⟨_, _, rfl⟩
            · exact ⟨_, _, rfl⟩
          rw [hp] at C1
          have CF := fun w => fault_In (k : Int) (oneE (.inr e)) w
          rw [he] at C1 CF
          obtain ⟨t2, v2, hV⟩ : ∃ t v, encE (mkIn (k : Int) (oneE (.inr e))) = .iface t v := by
            rcases e with _ | e
            · exact ⟨_, _, rfl⟩
            · exact ⟨_, _, rfl⟩
          rw [hV] at CF
          have hVR : .iface t2 v2 = encE (parseE R) := by rw [hRe]; exact hV.symm
          have hRd : parseD R = [] := by rw [hRe]; rfl
          have C1 := Lib.hid C1
          have CF := Lib.hid CF
          have HVR := Lib.hid hVR
          have HRD := Lib.hid hRd
          have ST := Lib.hid st
          clear hV hVR hRd hRe hT hTs hle hlen hp hc h35 hsk hskf fin1 he st HX HM
          gi_wp2_with fail
          refine ⟨trivial, CallsIn.inRound l ((callsIn_wide.2 C1.out).mono ?_)⟩
          rintro ev w1 ⟨v1, rfl, hP, hB⟩
          obtain ⟨tv1, fv1, rfl, ht, hf⟩ := hP
          obtain ⟨ao, n1, c1, rfl⟩ := own_form ht
          obtain ⟨ao', n1', c1', rfl⟩ := own_form hf
          gi_wp2_with fail
          refine ⟨trivial, CallsIn.inRound l ((callsIn_wide.2 (CF.out _)).mono ?_)⟩
          rintro ev w2 ⟨rfl, hB2⟩
          have hB1 : Below W.heap.size W w2 := (hB.alloc hB.size _).trans (hB2.mono (hB.alloc hB.size _).size)
          have g0 := below_blk hB1 (blk_lt' ST.out.b0) ST.out.b0
          have g1 := below_blk hB1 (blk_lt' ST.out.b1) ST.out.b1
          have HS := Lib.hid (blk_far' (blk_set' g0 0 (.slice none 0 0)) (show w.heap.size ≠ w.heap.size + 1 by omega) 0 (.iface t2 v2))
          have HS1 := Lib.hid (blk_set' (blk_far' g1 (show w.heap.size + 1 ≠ w.heap.size by omega) 0 (.slice none 0 0)) 0 (.iface t2 v2))
          have HB2 := Lib.hid ((((ST.out.B.trans (hB1.mono ST.out.B.size)).setCell (p := ⟨w.heap.size, 0, none⟩) (Nat.le_refl _) (.slice none 0 0)).setCell (p := ⟨w.heap.size + 1, 0, none⟩) (Nat.le_succ _) (.iface t2 v2)))
          have HK := Lib.hid (((keeps_below (B := w.heap.size + 4) hB1).trans ((KeepsOthers.setCell _ ⟨w.heap.size, 0, none⟩ (.slice none 0 0)).from _)).trans ((KeepsOthers.setCell _ ⟨w.heap.size + 1, 0, none⟩ (.iface t2 v2)).from _))
          have ak0 := blk_cell' (g0) 0
          have af0 := blk_free' (g0) 0
          have bk0 := blk_cell' (g1) 0
          have bf0 := blk_free' (g1) 0
          clear hB hB2 hB1 ht hf g0 g1 ST
          gi_wp2_with fail
          exact ⟨(by first | exact HK.out | (rw [z4]; exact HK.out)), HB2.out, HS.out, by rw [← HVR.out]; exact HS1.out, HRD.out⟩
        | inl p =>
          obtain ⟨v, q, f, h1, h2, h3, h4, h5⟩ := st.l
          rw [hp] at C1
          have C1 := Lib.hid (show Calls Tryz.prog 18 #[.string T] W fun ev w' => ∃ v, ev = .returned (.tuple #[v, .nilIface]) ∧ PtIn W.heap.size v p w' ∧ Below W.heap.size W w' from C1)
          obtain ⟨k1, k2⟩ := linesS_go h3 h4 HM.out (lineS_ok (by rw [HX.out]; exact hskf) (by rw [HX.out, ← hT]; exact hp))
          have K1 := Lib.hid k1
          have K2 := Lib.hid k2
          have hqk : q.length + 1 ≤ 4294967281 := by omega
          have ST := Lib.hid st
          have H1 := Lib.hid h1
          have H2 := Lib.hid h2
          clear hT hTs hle hlen hp hc h35 hsk hskf fin1 st HX HM h1 h2 h3 h4 k1 k2
          gi_wp2_with fail
          refine ⟨trivial, CallsIn.inRound l ((callsIn_wide.2 C1.out).mono ?_)⟩
          rintro ev w1 ⟨v1, rfl, hP, hB⟩
          obtain ⟨tv1, fv1, rfl, ht, hf⟩ := hP
          obtain ⟨ao, n1, c1, rfl⟩ := own_form ht
          obtain ⟨ao', n1', c1', rfl⟩ := own_form hf
          obtain ⟨pq, hpq⟩ : ∃ o : Obj, o = .cells #[.string p.m, .slice ao n1 c1, .slice ao' n1' c1', .int .i64 p.time] tPt (0, 0) := ⟨_, rfl⟩
          have hB2 : Below W.heap.size W ((w1.alloc pq).alloc pq) := (hB.alloc hB.size pq).alloc (by have := hB.size; simp; omega) pq
          have hB3 : Below w1.heap.size w1 ((w1.alloc pq).alloc pq) := ((Below.refl _ _).alloc (Nat.le_refl _) pq).alloc (by simp) pq
          have P2 := H2.out.next hB2
          have ht2 := own_below ht hB3
          have hf2 := own_below hf hB3
          have g2 := heap_old' w1 pq _ (by have := blk_lt' H1.out; have := hB.size; omega) (below_blk hB (blk_lt' H1.out) H1.out)
          obtain ⟨av, an, ac, rfl⟩ := own_form H2.out.own
          have g2' := below_blk hB2 (blk_lt' H1.out) H1.out
          rw [hpq] at hB2 P2 ht2 hf2 g2 g2'
          have HP2 := Lib.hid P2
          have HT2 := Lib.hid ht2
          have HF2 := Lib.hid hf2
          have HB2 := Lib.hid hB2
          have HG2 := Lib.hid g2'
          have hown := P2.own
          obtain ⟨i0, hi, hz0_, hz1_, hz2_⟩ := info_parts info_P
          have ak0 := blk_cell' (g2) 0
          have af0 := blk_free' (g2) 0
          clear hB hB3 ht hf hpq P2 ht2 hf2 g2 g2' hB2
          gi_wp2_with (gi_at_builtin; refine wpListIn_append_own _ rfl _ _ tPts rfl (w.heap.size + 4) tPt i0 (.agg #[.string ⟨#[]⟩, .slice none 0 0, .slice none 0 0, .int .i64 0]) 4 72 Tryz.underlying22 hi hz0_ hz1_ hz2_ rfl (by decide) _ _ _ rfl hown ⟨_, 0, none⟩ 1 1 [.string p.m, .slice ao n1 c1, .slice ao' n1' c1', .int .i64 p.time] rfl rfl ?c1 ?c2 ?c3 ?c4 ?c5 ?_)
          case c1 => exact new_four _ _ _ _ _ _ _ (by simp)
          case c2 => intro u hu; simp at hu; rcases hu with rfl | rfl | rfl | rfl <;> rfl
          case c3 => unfold maxLen; omega
          case c4 => omega
          case c5 => have := ST.out.sz; have := HB2.out.size; simp at this ⊢; omega
          intro v' w9 hown' hgrow _
          have hBs : ∀ b, b < w.heap.size + 4 → (.slice av an ac : Value).ownBlock ≠ some b := fun b hb e => by have := (H2.out.own.lt b e).1; omega
          have hg9 : ∀ b o, b < w.heap.size + 4 → W.heap[b]? = some o → w9.heap[b]? = some o := fun b o hb ho => grown_blk hgrow (below_blk HB2.out (blk_lt' ho) ho) (fun e => hBs b hb e.symm)
          have P9 := HP2.out.snoc (x := (p, .slice ao n1 c1, .slice ao' n1' c1')) HT2.out HF2.out ST.out.sz (H2.out.lt) hown' hgrow
          obtain ⟨g, cap, rfl⟩ := own_slice hown'
          have q9 := hg9 _ _ (by omega) H1.out
          have a0 := hg9 _ _ (by omega) ST.out.b0
          have a1 := hg9 _ _ (by omega) ST.out.b1
          have B9 : Below w.heap.size w w9 := (ST.out.B.trans (HB2.out.mono ST.out.B.size)).trans (below_of_grown hgrow (fun j e => by have := (H2.out.own.lt j e).1; omega) (ST.out.B.trans (HB2.out.mono ST.out.B.size)).size)
          have hset : w9.grownBy (w9.setCell ⟨w.heap.size + 2, 0, none⟩ (.slice (some ⟨g, 0, none⟩) (q.length + 1) cap)) (some (w.heap.size + 2)) := grown_set (grown_refl _ _) 0 _
          have HG9 : Hid (GSt w s.data.toList R (k + 1) (w9.setCell ⟨w.heap.size + 2, 0, none⟩ (.slice (some ⟨g, 0, none⟩) (q.length + 1) cap))) := Lib.hid
            ⟨B9.setCell (p := ⟨w.heap.size + 2, 0, none⟩) (by show w.heap.size ≤ w.heap.size + 2; omega) _, blk_far' a0 (by omega) 0 _, blk_far' a1 (by omega) 0 _,
              Nat.le_trans ST.out.sz (Nat.le_trans HB2.out.size (Nat.le_trans hgrow.size hset.size)), _, q ++ [(p, .slice ao n1 c1, .slice ao' n1' c1')], _, blk_set' q9 0 _, P9.box hset q9 (by decide) (by decide) (by decide), by rw [List.map_append]; exact K1.out, K2.out, by rw [List.length_append]; show q.length + 1 ≤ k + 1; omega⟩
          have HK9 : Hid (KeepsFrom (w.heap.size + 4) W (w9.setCell ⟨w.heap.size + 2, 0, none⟩ (.slice (some ⟨g, 0, none⟩) (q.length + 1) cap))) := Lib.hid
            (((keeps_below HB2.out).trans ((KeepsOthers.of_grownBy hgrow (fun j o hj ho => own_cells hown j o hj ho)).from _)).trans ((KeepsOthers.setCell _ _ _).from _))
          have HX9 : Hid ((w9.setCell ⟨w.heap.size + 2, 0, none⟩ (.slice (some ⟨g, 0, none⟩) (q.length + 1) cap)).heap[w.heap.size + 3]? = W.heap[w.heap.size + 3]?) := Lib.hid (by
            have h3 : w.heap.size + 3 < W.heap.size := by have := ST.out.sz; omega
            have e1 := hgrow.block (w.heap.size + 3) (Nat.lt_of_lt_of_le h3 HB2.out.size) (fun e => hBs _ (by omega) e.symm)
            have e2 := HB2.out.block (w.heap.size + 3) h3
            exact ((hset.block _ (Nat.lt_of_lt_of_le h3 (Nat.le_trans HB2.out.size hgrow.size)) (fun e => by have := Option.some.inj e; omega)).trans e1).trans e2)
          have zk0 := blk_cell' (q9) 0
          have zf0 := blk_free' (q9) 0
          clear hown' hgrow hown hBs hg9 P9 q9 a0 a1 B9 hset
          gi_wp2_with fail
          exact ⟨(by first | exact HK9.out | (rw [z4]; exact HK9.out)), HX9.out, HG9.out⟩
  case done =>
    rintro D k W hD hk st hK
    obtain ⟨v, q, f, h1, h2, h3, h4, h5⟩ := st.l
    rw [hk, linesS_nil] at h3
    obtain ⟨e1, e2⟩ := parseE_nil h3.symm
    obtain ⟨av, an, ac, rfl⟩ := own_form h2.own
    have a0 := st.b0
    have a1 := st.b1
    have ak0 := blk_cell' (a0) 0
    have af0 := blk_free' (a0) 0
    have bk0 := blk_cell' (a1) 0
    have bf0 := blk_free' (a1) 0
    have ck0 := blk_cell' (h1) 0
    have cf0 := blk_free' (h1) 0
    have HE1 := Lib.hid e1
    have HE2 := Lib.hid e2
    clear h3 h4 e1 e2
    have f0 := blk_far' (blk_set' a0 0 (.slice av an ac)) (show w.heap.size ≠ w.heap.size + 1 by omega) 0 .nilIface
    have f1 := blk_set' (blk_far' a1 (show w.heap.size + 1 ≠ w.heap.size by omega) 0 (.slice av an ac)) 0 .nilIface
    have hKf : ((W.setCell ⟨w.heap.size, 0, none⟩ (.slice av an ac)).setCell ⟨w.heap.size + 1, 0, none⟩ .nilIface).heap[D]? = some (.deferred (some [])) := (KeepsOthers.setCell _ _ _).same _ _ ((KeepsOthers.setCell _ _ _).same _ _ hK rfl) rfl
    have g1 : W.grownBy (W.setCell ⟨w.heap.size, 0, none⟩ (.slice av an ac)) (some w.heap.size) := grown_set (grown_refl _ _) 0 _
    have g2 : (W.setCell ⟨w.heap.size, 0, none⟩ (.slice av an ac)).grownBy ((W.setCell ⟨w.heap.size, 0, none⟩ (.slice av an ac)).setCell ⟨w.heap.size + 1, 0, none⟩ .nilIface) (some (w.heap.size + 1)) := grown_set (grown_refl _ _) 0 _
    have P1 := (h2.box g1 a0 (by decide) (by decide) (by decide)).box g2 (blk_far' a1 (show w.heap.size + 1 ≠ w.heap.size by omega) 0 (.slice av an ac)) (by decide) (by decide) (by decide)
    have P2 := P1.free (put_grown _ D (.deferred none)) (fun r e => by obtain rfl := Option.some.inj e; exact free_other hKf rfl)
    have B1 := (st.B.setCell (p := ⟨w.heap.size, 0, none⟩) (Nat.le_refl _) (.slice av an ac)).setCell (p := ⟨w.heap.size + 1, 0, none⟩) (Nat.le_succ _) .nilIface
    have B2 := row_below B1 (Nat.le_refl _) (put_grown _ D (.deferred none)) (fun r e => by obtain rfl := Option.some.inj e; omega)
    have F0 := Lib.hid ((World.putObj_heap_other (o := .deferred none) (show w.heap.size ≠ D by omega)).trans f0)
    have F1 := Lib.hid ((World.putObj_heap_other (o := .deferred none) (show w.heap.size + 1 ≠ D by omega)).trans f1)
    have HP2 := Lib.hid (P2.mono (Nat.le_add_right _ 4))
    have HB2 := Lib.hid B2
    have HKF := Lib.hid hKf
    clear f0 f1 hKf g1 g2 P1 P2 B1 B2 a0 a1 h1 h2 hK
    gi_wp2_with fail
    refine ⟨by simp, .inl ⟨_, _, rfl, run_takeDeferred HKF.out, ?_⟩⟩
    exact ⟨_, results_two Tryz.results15 (res_plain (b := w.heap.size) rfl (blk_cell' F0.out 0)) (res_err (b := w.heap.size + 1) rfl (blk_cell' F1.out 0)), _, q, by rw [HE1.out]; rfl, HE2.out.symm, HP2.out, HB2.out⟩
  case stop =>
    rintro D W hD st hK
    have B2 := row_below st.B (Nat.le_refl _) (put_grown _ D (.deferred none)) (fun r e => by obtain rfl := Option.some.inj e; omega)
    have F0 := (World.putObj_heap_other (o := .deferred none) (show w.heap.size ≠ D by omega)).trans st.b0
    have F1 := (World.putObj_heap_other (o := .deferred none) (show w.heap.size + 1 ≠ D by omega)).trans st.b1
    gi_wp2_with fail
    refine ⟨by simp, .inl ⟨_, _, rfl, run_takeDeferred hK, ?_⟩⟩
    exact ⟨_, results_two Tryz.results15 (res_plain (b := w.heap.size) rfl (blk_cell' F0 0)) (res_err (b := w.heap.size + 1) rfl (blk_cell' F1 0)), _, [], rfl, st.d.symm, PtsIn.nil _ _, B2⟩
end Go.Proofs.YtnodjijgeifejaaGreatDoor
