/- LineOwn: what is told is the caller's: written over and grown, no list shows in another, nor in what is told later. -/
import Derived.Test.YtnodjijgeifejaaGreatDoorOwQ
import Derived.Test.YtnodjijgeifejaaGreatDoorRlns
import Derived.Test.YtnodjijgeifejaaGreatDoorLive
import Derived.Test.YtnodjijgeifejaaGreatDoorOnlyLaw
namespace Go.Proofs.YtnodjijgeifejaaGreatDoor
open Go.RowKit
set_option linter.unusedSimpArgs false
set_option linter.unusedVariables false

theorem same_parse' (R : Sum (List Pt) (Nat × Option Nat)) : same (parseE R) (parseBad R) = true := by
  rcases R with l | ⟨k, _ | e⟩
  · rfl
  · simp [same, parseE, parseBad, oneE, oneBad, mkIn, mkE, refIn, refNew, Er.code?, Er.at?, Er.in?, atPos, inPos]
  · simp [same, parseE, parseBad, oneE, oneBad, mkIn, refIn, refAt, mkAt, Er.code?, Er.at?, Er.in?, atPos, inPos]
theorem len_tags' (l : List (ByteArray × ByteArray)) : l.length ≤ (tagsL l).length := by
  induction l with
  | nil => exact Nat.zero_le _
  | cons t l ih => simp [tagsL] at ih ⊢; omega
theorem len_fields' (l : List (ByteArray × Int)) : ∀ sep, l.length ≤ (fieldsL sep l).length := by
  induction l with
  | nil => intro sep; exact Nat.zero_le _
  | cons t l ih => intro sep; have := ih 44; simp [fieldsL, fieldL]; omega
/-- The kinds of this law. -/
def KDl (k : Nat) : Kd := if k = 5 then K_Tags else if k = 6 then K_Fields else K_Points
theorem KDl_cases (k : Nat) : KDl k = K_Tags ∨ KDl k = K_Fields ∨ KDl k = K_Points := by
  unfold KDl
  split
  · exact .inl rfl
  · split
    · exact .inr (.inl rfl)
    · exact .inr (.inr rfl)
theorem KDl_ok : KDok KDl where
  e := fun k => by rcases KDl_cases k with h | h | h <;> rw [h] <;> decide
  r := fun k => by rcases KDl_cases k with h | h | h <;> rw [h] <;> decide
  uu := fun k => by
    rcases KDl_cases k with h | h | h <;> rw [h]
    · exact K_Tags_ok.uu
    · exact K_Fields_ok.uu
    · exact K_Points_ok.uu
  i := fun k => by
    rcases KDl_cases k with h | h | h <;> rw [h]
    · exact K_Tags_ok.infoR
    · exact K_Fields_ok.infoR
    · exact K_Points_ok.infoR
def entP (v : Value) (q : List P3) : Ent := ⟨17, v, q.length, fun j cs => ∃ x, q[j]? = some x ∧ cs = ptC x⟩
def entT (x : P3) : Ent := ⟨5, x.2.1, x.1.tags.length, fun _ _ => True⟩
def entF (x : P3) : Ent := ⟨6, x.2.2, x.1.fields.length, fun _ _ => True⟩
def flatE (q : List P3) : List Ent := q.flatMap fun x => [entT x, entF x]
theorem flatE_cons (x : P3) (q : List P3) : flatE (x :: q) = entT x :: entF x :: flatE q := by simp [flatE]
theorem flatE_len : ∀ q : List P3, (flatE q).length = 2 * q.length
  | [] => rfl
  | x :: q => by rw [flatE_cons, List.length_cons, List.length_cons, flatE_len q, List.length_cons]; omega
theorem flatE_mem {q : List P3} {e : Ent} (h : e ∈ flatE q) : ∃ x ∈ q, e = entT x ∨ e = entF x := by
  unfold flatE at h
  obtain ⟨x, hx, he⟩ := List.mem_flatMap.1 h
  simp only [List.mem_cons, List.not_mem_nil, or_false] at he
  exact ⟨x, hx, he⟩
theorem tz_apart {K K' : Kd} {B B' n n' : Nat} {v v' : Value} {G G' : Nat → List Value → Prop} {w : World} (h : Tz K B v n G w) (h' : Tz K' B' v' n' G' w) (hne : K.e ≠ K'.e) : apartV v v' := fun g h1 h2 => by
  obtain ⟨C, hC⟩ := h.type h1
  obtain ⟨D, hD⟩ := h'.type h2
  rw [hC] at hD
  simp only [Option.some.injEq, Obj.cells.injEq] at hD
  exact hne hD.2.1
theorem tz_tags {B : Nat} {v : Value} {l : List (ByteArray × ByteArray)} {w : World} (h : TagsIn B v l w) : Tz K_Tags B v l.length (fun _ _ => True) w := Tz.any h rfl rfl
theorem tz_fields {B : Nat} {v : Value} {l : List (ByteArray × Int)} {w : World} (h : FieldsIn B v l w) : Tz K_Fields B v l.length (fun _ _ => True) w := Tz.any h rfl rfl
theorem tz_points {B : Nat} {v : Value} {q : List P3} {w : World} (h : w.ownsRow B tPt 4 v q.length (ptCells q)) : Tz K_Points B v q.length (fun j cs => ∃ x, q[j]? = some x ∧ cs = ptC x) w := by
  refine Tz.of (K := K_Points) h (fun j hj => ⟨ptC q[j], rfl, fun c hc => ?_, q[j], List.getElem?_eq_getElem hj, rfl⟩)
  obtain ⟨c0, c1, c2, c3⟩ := ptCells_get q j hj
  have hc : c < 4 := hc
  match c, hc with
  | 0, _ => exact c0
  | 1, _ => exact c1
  | 2, _ => exact c2
  | 3, _ => exact c3
theorem flat_sep {B : Nat} {w : World} : ∀ q : List P3, (∀ x ∈ q, TagsIn B x.2.1 x.1.tags w ∧ FieldsIn B x.2.2 x.1.fields w) → q.Pairwise (fun x y => apart x.2.1 y.2.1 ∧ apart x.2.2 y.2.2) → (flatE q).Pairwise (fun e f => apartV e.v f.v)
  | [], _, _ => .nil
  | x :: q, h, hs => by
    rw [flatE_cons]
    have hx := h x (List.mem_cons_self ..)
    have hq := fun y hy => h y (List.mem_cons_of_mem _ hy)
    have hsx := (List.pairwise_cons.1 hs).1
    refine .cons (fun f hf => ?_) (.cons (fun f hf => ?_) (flat_sep q hq (List.pairwise_cons.1 hs).2))
    · rcases List.mem_cons.1 hf with rfl | hf
      · exact tz_apart (tz_tags hx.1) (tz_fields hx.2) (by decide)
      · obtain ⟨y, hy, rfl | rfl⟩ := flatE_mem hf
        · exact (hsx y hy).1
        · exact tz_apart (tz_tags hx.1) (tz_fields (hq y hy).2) (by decide)
    · obtain ⟨y, hy, rfl | rfl⟩ := flatE_mem hf
      · exact tz_apart (tz_fields hx.2) (tz_tags (hq y hy).1) (by decide)
      · exact (hsx y hy).2
/-- How long what is told may be. -/
structure PtsLim (l : List Pt) (n : Nat) : Prop where
  n : l.length ≤ n
  t : ∀ p ∈ l, p.tags.length ≤ 8192 ∧ p.fields.length ≤ 8192
theorem one_lim {s : ByteArray} {p : Pt} (h : oneP s = .inl p) : p.tags.length ≤ 8192 ∧ p.fields.length ≤ 8192 := by
  obtain ⟨h1, _, h3, _⟩ := one_line h
  have h4 : s.data.toList.length = s.size := rfl
  rw [h1] at h4
  unfold lineL at h4
  simp only [List.length_append] at h4
  have k1 := len_tags' p.tags
  have k2 := len_fields' p.fields 32
  omega
theorem lines_lim : ∀ (f k : Nat) (l : List UInt8) (acc : List Pt) (r : List Pt), linesS f k l acc = .inl r → (∀ p ∈ acc, p.tags.length ≤ 8192 ∧ p.fields.length ≤ 8192) → r.length ≤ acc.length + l.length ∧ ∀ p ∈ r, p.tags.length ≤ 8192 ∧ p.fields.length ≤ 8192
  | 0, k, l, acc, r, h, ha => by
    cases h
    exact ⟨by omega, ha⟩
  | f + 1, k, l, acc, r, h, ha => by
    unfold linesS at h
    by_cases hl : l = []
    · rw [if_pos hl] at h
      cases h
      exact ⟨by omega, ha⟩
    · rw [if_neg hl] at h
      cases hs : lineS k (ln1 l) acc with
      | inr e => rw [hs] at h; cases h
      | inl acc' =>
        rw [hs] at h
        have h2 := ln2_lt hl
        have ha' : acc'.length ≤ acc.length + 1 ∧ ∀ p ∈ acc', p.tags.length ≤ 8192 ∧ p.fields.length ≤ 8192 := by
          unfold lineS at hs
          split at hs
          · cases hs
            exact ⟨by omega, ha⟩
          · split at hs
            · next p hp =>
              cases hs
              refine ⟨by simp, fun y hy => ?_⟩
              rcases List.mem_append.1 hy with hy | hy
              · exact ha y hy
              · rw [List.mem_singleton.1 hy]
                exact one_lim hp
            · cases hs
        have ih := lines_lim f (k + 1) (ln2 l) acc' r h ha'.2
        exact ⟨by omega, ih.2⟩
theorem parse_lim (s : ByteArray) : PtsLim (parseD (parseS s)) s.size := by
  cases h : parseS s with
  | inr e => exact ⟨by simp [parseD], fun p hp => by cases hp⟩
  | inl r =>
    have := lines_lim _ _ _ _ _ (show linesS (s.size + 1) 0 s.data.toList [] = .inl r from h) (fun p hp => by cases hp)
    have h4 : s.data.toList.length = s.size := rfl
    exact ⟨by simpa [parseD, h4] using this.1, this.2⟩
theorem oneD_lim (s : ByteArray) : (oneD (oneP s)).tags.length ≤ 8192 ∧ (oneD (oneP s)).fields.length ≤ 8192 := by
  cases h : oneP s with
  | inr e => exact ⟨Nat.zero_le _, Nat.zero_le _⟩
  | inl p => exact one_lim h
set_option maxRecDepth 100000 in
set_option maxHeartbeats 1000000 in
theorem law_one_own (m : ByteArray) (tv fv : Value) (tm : Int) (w : World) (ht : ∃ a n c, tv = .slice a n c) (hf : ∃ a n c, fv = .slice a n c) :
    Calls Tryz.prog 20 #[.agg #[.string m, tv, fv, .int .i64 tm]] w fun ev w' => ev = .returned (.slice (some ⟨w.heap.size + 1, 0, none⟩) 1 1) ∧ w'.heap[w.heap.size + 1]? = some (.cells #[.string m, tv, fv, .int .i64 tm] tPt (0, 0)) ∧ Below w.heap.size w w' := by
  obtain ⟨a0, n0, c0, rfl⟩ := ht
  obtain ⟨a1, n1, c1, rfl⟩ := hf
  have hup := Tryz.underlying32
  have hB := ((Below.refl w.heap.size w).alloc (Nat.le_refl _) (.cells #[.string m, .slice a0 n0 c0, .slice a1 n1 c1, .int .i64 tm] 32 (0, 0))).alloc (by simp) (.cells #[.string m, .slice a0 n0 c0, .slice a1 n1 c1, .int .i64 tm] 32 (0, 0))
  have hb := heap_new' (w.alloc (.cells #[.string m, .slice a0 n0 c0, .slice a1 n1 c1, .int .i64 tm] 32 (0, 0))) (.cells #[.string m, .slice a0 n0 c0, .slice a1 n1 c1, .int .i64 tm] 32 (0, 0)) (w.heap.size + 1) (by simp)
  have HC := Lib.hid hb
  clear hb
  go_enter Tryz.func20, Tryz.ntmps20
  go_wp2
  go_ret
  exact ⟨rfl, HC.out, hB⟩
set_option maxRecDepth 100000 in
set_option maxHeartbeats 2000000 in
theorem take_Points {B b : Nat} {tvs : Nat → Value} {E P : List Ent} (q : List P3) (cap : Nat) (ao : Option Addr) (w : World)
    (h : Hd KDl B b tvs E (entP (.slice ao q.length cap) q :: (flatE q ++ P)) w) :
    Calls Tryz.prog 19 #[.pointer (some ⟨b, 0, none⟩), .slice ao q.length cap] w fun ev w' => ev = .returned (.tuple #[]) ∧ (∃ tvs', Hd KDl B b tvs' (E ++ entP (.slice ao q.length cap) q :: flatE q) P w') ∧ Below B w w' ∧ KeepT KDl w w' := by
  obtain ⟨C, hC1, hC2, hC3⟩ := h.bk
  have c0 : w.cell? ⟨b, 17, none⟩ = some (tvs 17) := by rw [blk_cell' hC1]; exact hC3 17 (by decide)
  have A1 := (Below.refl w.heap.size w).alloc (Nat.le_refl _) (.cells #[.slice ao q.length cap] 22 (0, 0))
  have hrow := (h.rows 17 (by decide)).next A1
  have e1 : rowE (E ++ [entP (.slice ao q.length cap) q]) 17 = rowE E 17 ++ [.slice ao q.length cap] := rowE_snoc_same
  have hlim : (rowE E 17).length + 1 ≤ 100000000 := by
    have h1 := rowE_len E 17
    have h2 := h.lim
    rw [List.length_append] at h2
    omega
  obtain ⟨g, gc, w9, hap, ht, hg, hor⟩ := tz_append (G' := rowG (rowE (E ++ [entP (.slice ao q.length cap) q]) 17)) (KDl_ok.ap 17) 66 hrow (by have := h.hw; have := A1.size; omega) hlim [.slice ao q.length cap] rfl (by intro u hu; simp at hu; subst hu; rfl) ⟨w.heap.size, 0, none⟩ 1 (new_cells _ [.slice ao q.length cap] _ _ rfl) (fun j xs hj hG => by
    obtain ⟨v, q1, q2⟩ := hG
    exact ⟨v, by rw [e1, List.getElem?_append_left hj]; exact q1, q2⟩) ⟨_, by rw [e1, List.getElem?_append_right (Nat.le_refl _), Nat.sub_self]; rfl, rfl⟩
  have HT := Lib.hid (h.take (k := 17) KDl_ok rfl A1 ht hg hor)
  have hrb := h.rnot KDl_ok (k := 17) (by decide)
  have q9 : w9.heap[b]? = some (.cells C tBk (0, 0)) := by
    rw [hg.block b (Nat.lt_of_lt_of_le (blk_lt' hC1) A1.size) (fun e => hrb e.symm), A1.block b (blk_lt' hC1), hC1]
  have x0 : w9.cell? ⟨b, 17, none⟩ = some (tvs 17) := by rw [blk_cell' q9]; exact hC3 17 (by decide)
  have x1 := blk_free' q9 17
  have hap2 : (Builtin.append_ #[66, 66] 66 #[tvs 17, .slice (some ⟨w.heap.size, 0, none⟩) 1 1]).run Tryz.prog (w.alloc (.cells #[.slice ao q.length cap] 22)) = .ok (.slice (some ⟨g, 0, none⟩) ((rowE E 17).length + 1) gc) w9 := hap
  have HQ : Hid (q.length ≤ 50000000) := Lib.hid (h.els (entP (.slice ao q.length cap) q) (by simp)).2.1
  clear h hC1 hC2 hC3 A1 hrow hap ht hg hor q9 hrb
  generalize tvs 17 = tv at *
  generalize (rowE E 17).length + 1 = rn at *
  obtain ⟨n, hn⟩ : ∃ n, q.length = n := ⟨_, rfl⟩
  rw [hn] at hap2 HT HQ ⊢
  have HN := Lib.hid hn
  clear hn
  go_enter Tryz.func19, Tryz.ntmps19
  go_upto_block 0 with (at_builtin; refine wp_tz 66 rfl _ _ rfl _ _ rfl rfl hap2 ?_)
  clear x0 x1 hap2 c0
  generalize w9.setCell ⟨b, 17, none⟩ (.slice (some ⟨g, 0, none⟩) rn gc) = W1 at *
  have H1 : Hid (Hd KDl B b (fun j => if j = 17 then .slice (some ⟨g, 0, none⟩) rn gc else tvs j) (E ++ [entP (.slice ao n cap) q] ++ flatE (q.take 0)) (flatE (q.drop 0) ++ P) W1 ∧ Below B w W1 ∧ KeepT KDl w W1) := Lib.hid (by simpa [flatE] using HT.out)
  clear HT
  have hqn := HQ.out
  go_wp2_with fail
  go_loopg [4] n (fun m v4 wr => ∃ (i : Nat) (tvs' : Nat → Value), v4 = .int .i64 (i : Int) ∧ i + m = n ∧ Hid (Hd KDl B b tvs' (E ++ [entP (.slice ao n cap) q] ++ flatE (q.take i)) (flatE (q.drop i) ++ P) wr ∧ Below B w wr ∧ KeepT KDl w wr))
  case atStart => exact ⟨0, _, rfl, by omega, H1⟩
  case round =>
    clear H1
    obtain ⟨i, tvs', rfl, hi, H⟩ := hrel
    by_cases him : i < n
    · have kl : decide ((i : Int) < (n : Int)) = true := by rw [decide_eq_true_iff]; omega
      have hil : i < q.length := by rw [HN.out]; exact him
      have p0 : (0 : Int) ≤ (i : Int) := by omega
      have p1 : (i : Int) < (n : Int) := by omega
      have hdrop : flatE (q.drop i) = entT q[i] :: entF q[i] :: flatE (q.drop (i + 1)) := by rw [List.drop_eq_getElem_cons hil, flatE_cons]
      have htake : flatE (q.take (i + 1)) = flatE (q.take i) ++ [entT q[i], entF q[i]] := by
        unfold flatE
        rw [List.take_succ_eq_append_getElem hil, List.flatMap_append]
        simp
      have LC : Hid (∀ tvs2 E2 P2 W, Hd KDl B b tvs2 E2 P2 W → entP (.slice ao n cap) q ∈ E2 ++ P2 → ∃ g2, ao = some ⟨g2, 0, none⟩ ∧ W.cell? ⟨g2, i * 4 + 1, none⟩ = some q[i].2.1 ∧ W.cell? ⟨g2, i * 4 + 2, none⟩ = some q[i].2.2) := Lib.hid (fun tvs2 E2 P2 W h hm => by
        have ht : Tz K_Points B (.slice ao n cap) n (fun j cs => ∃ x, q[j]? = some x ∧ cs = ptC x) W := by
          have h2 : Tz K_Points B (.slice ao n cap) q.length (fun j cs => ∃ x, q[j]? = some x ∧ cs = ptC x) W := (h.els _ hm).2.2
          rw [HN.out] at h2
          exact h2
        obtain ⟨g2, rfl, -⟩ := ht.ptr (by omega)
        obtain ⟨c0, c1, c2, c3, ⟨x, hx, hcs⟩, ⟨z0, z1, z2, z3⟩, -⟩ := K_Points_here ht him
        rw [List.getElem?_eq_getElem hil] at hx
        obtain rfl := Option.some.inj hx
        unfold ptC at hcs
        simp only [List.cons.injEq, and_true] at hcs
        obtain ⟨rfl, rfl, rfl, rfl⟩ := hcs
        exact ⟨g2, rfl, z1, z2⟩)
      have hT : Hid (Hd KDl B b tvs' (E ++ [entP (.slice ao n cap) q] ++ flatE (q.take i)) (entT q[i] :: entF q[i] :: (flatE (q.drop (i + 1)) ++ P)) wr) := Lib.hid (by
        have := H.out.1
        rw [hdrop] at this
        exact this)
      obtain ⟨ga, rfl, z1, z2⟩ := LC.out _ _ _ _ H.out.1 (by simp)
      have HBw := Lib.hid H.out.2
      have SW : Hid (E ++ [entP (.slice (some ⟨ga, 0, none⟩) n cap) q] ++ flatE (q.take (i + 1)) = E ++ [entP (.slice (some ⟨ga, 0, none⟩) n cap) q] ++ flatE (q.take i) ++ [entT q[i]] ++ [entF q[i]]) := Lib.hid (by rw [htake]; simp)
      clear hdrop htake H
      obtain ⟨at_, ct_, hvt⟩ := (hT.out.els (entT q[i]) (by simp)).2.2.form
      obtain ⟨af_, cf_, hvf⟩ := (hT.out.els (entF q[i]) (by simp)).2.2.form
      have z1' : wr.cell? ⟨ga, i * 4 + 1, none⟩ = some (.slice at_ (entT q[i]).n ct_) := z1.trans (congrArg some hvt)
      have CT := Lib.hid (take_Tags KDl_ok rfl rfl (entT q[i]).n ct_ at_ wr hT.out rfl hvt)
      clear z1 z2
      generalize (entT q[i]).n = nt at *
      go_wp2_with fail
      refine CT.out.mono ?_
      rintro ev w3 ⟨rfl, ⟨tvs3, h3⟩, hB3, hK3⟩
      obtain ⟨gb, hgb, -, z2⟩ := LC.out _ _ _ _ h3 (by simp)
      obtain rfl : ga = gb := by simpa using hgb
      have z2' : w3.cell? ⟨ga, i * 4 + 2, none⟩ = some (.slice af_ (entF q[i]).n cf_) := z2.trans (congrArg some hvf)
      have CF := Lib.hid (take_Fields KDl_ok rfl rfl (entF q[i]).n cf_ af_ w3 h3 rfl hvf)
      have HB3 := Lib.hid (And.intro (HBw.out.1.trans hB3) (HBw.out.2.trans hK3))
      clear z2 h3 hB3 hK3 CT z1' hT hgb HBw
      generalize (entF q[i]).n = nf at *
      go_wp2_with fail
      refine CF.out.mono ?_
      rintro ev w4 ⟨rfl, ⟨tvs4, h4⟩, hB4, hK4⟩
      have HH4 : Hid (Hd KDl B b tvs4 (E ++ [entP (.slice (some ⟨ga, 0, none⟩) n cap) q] ++ flatE (q.take (i + 1))) (flatE (q.drop (i + 1)) ++ P) w4 ∧ Below B w w4 ∧ KeepT KDl w w4) := Lib.hid ⟨by rw [SW.out]; exact h4, HB3.out.1.trans hB4, HB3.out.2.trans hK4⟩
      clear h4 hB4 hK4 CF z2' HB3 SW
      go_wp2_with fail
      go_roundg (gk - 1)
      case measure => omega
      case rel => exact ⟨i + 1, tvs4, by go_num, by omega, HH4⟩
    · have kl : decide ((i : Int) < (n : Int)) = false := by rw [decide_eq_false_iff_not]; omega
      have hq : q.take i = q := List.take_of_length_le (by rw [HN.out]; omega)
      have hq2 : q.drop i = [] := List.drop_eq_nil_iff.2 (by rw [HN.out]; omega)
      have HF : Hid (Hd KDl B b tvs' (E ++ entP (.slice ao n cap) q :: flatE q) P wr ∧ Below B w wr ∧ KeepT KDl w wr) := Lib.hid (by
        have h := H.out
        rw [hq, hq2] at h
        simpa [flatE] using h)
      clear hq hq2 H
      go_wp2_with fail
      go_end0
      exact ⟨rfl, ⟨_, HF.out.1⟩, HF.out.2.1, HF.out.2.2⟩
set_option maxRecDepth 100000 in
set_option maxHeartbeats 2000000 in
theorem own_true (s : ByteArray) (hs : s.size ≤ 1048576) (w : World) (L : LayM w) :
    Calls Tryz.prog 5 #[.string s] w fun ev w' => ev = .returned (.bool true) ∧ Below w.heap.size w w' := by
  have hub := Tryz.underlying35
  have hup := Tryz.underlying32
  obtain ⟨X, hX⟩ : ∃ X, X = parseS s := ⟨_, rfl⟩
  have C1 := fun w L => line_Parse s (by omega) w L
  have C2 := fun w L => ref_Parse s (by omega) w L
  have hlim := parse_lim s
  rw [← hX] at C1 C2 hlim
  have hS := same_parse' X
  have CS := fun w hg => weirboth_Same (parseE X) (parseBad X) w hg
  rw [hS] at CS
  clear hX hS
  generalize parseE X = Er_ at *
  generalize parseBad X = Bd at *
  generalize parseD X = D at *
  clear X
  obtain ⟨V, hV⟩ : ∃ V, V = encE Er_ := ⟨_, rfl⟩
  rw [← hV] at C1 CS
  obtain ⟨bc, bp, bi, bpl, bnu⟩ := Bd
  simp only [Bad.enc] at C2 CS
  have C1 := Lib.hid C1
  have C2 := Lib.hid C2
  have CS := Lib.hid CS
  have LIM := Lib.hid hlim
  have hol := oneD_lim s
  have C3 := fun w L => line_One s w L
  generalize oneE (oneP s) = oe at *
  generalize oneD (oneP s) = od at *
  obtain ⟨OV, hOV⟩ : ∃ V, V = encE oe := ⟨_, rfl⟩
  rw [← hOV] at C3
  have C3 := Lib.hid C3
  have OL := Lib.hid hol
  have LV := Lib.hid (fun w L => live_true w L)
  clear hV hOV hlim hol
  go_enter Tryz.func5, Tryz.ntmps5
  go_wp2_with fail
  refine (LV.out _ L.S).mono ?_
  rintro ev w1 ⟨rfl, hB⟩
  have H0 : Hd KDl w1.heap.size w1.heap.size (fun _ => .slice none 0 0) [] [] (w1.alloc (.cells #[.slice none 0 0, .slice none 0 0, .slice none 0 0, .slice none 0 0, .slice none 0 0, .slice none 0 0, .slice none 0 0, .slice none 0 0, .slice none 0 0, .slice none 0 0, .slice none 0 0, .slice none 0 0, .slice none 0 0, .slice none 0 0, .slice none 0 0, .slice none 0 0, .slice none 0 0, .slice none 0 0, .slice none 0 0, .slice none 0 0, .slice none 0 0, .slice none 0 0, .slice none 0 0, .slice none 0 0, .slice none 0 0, .slice none 0 0, .slice none 0 0, .slice none 0 0] 78 (0, 0))) := Hd.start w1 KDl _ rfl (fun k hk => by
    have : k = 0 ∨ k = 1 ∨ k = 2 ∨ k = 3 ∨ k = 4 ∨ k = 5 ∨ k = 6 ∨ k = 7 ∨ k = 8 ∨ k = 9 ∨ k = 10 ∨ k = 11 ∨ k = 12 ∨ k = 13 ∨ k = 14 ∨ k = 15 ∨ k = 16 ∨ k = 17 ∨ k = 18 ∨ k = 19 ∨ k = 20 ∨ k = 21 ∨ k = 22 ∨ k = 23 ∨ k = 24 ∨ k = 25 ∨ k = 26 ∨ k = 27 := by omega
    rcases this with rfl | rfl | rfl | rfl | rfl | rfl | rfl | rfl | rfl | rfl | rfl | rfl | rfl | rfl | rfl | rfl | rfl | rfl | rfl | rfl | rfl | rfl | rfl | rfl | rfl | rfl | rfl | rfl <;> rfl)
  have HB1 : Below w.heap.size w (w1.alloc (.cells #[.slice none 0 0, .slice none 0 0, .slice none 0 0, .slice none 0 0, .slice none 0 0, .slice none 0 0, .slice none 0 0, .slice none 0 0, .slice none 0 0, .slice none 0 0, .slice none 0 0, .slice none 0 0, .slice none 0 0, .slice none 0 0, .slice none 0 0, .slice none 0 0, .slice none 0 0, .slice none 0 0, .slice none 0 0, .slice none 0 0, .slice none 0 0, .slice none 0 0, .slice none 0 0, .slice none 0 0, .slice none 0 0, .slice none 0 0, .slice none 0 0, .slice none 0 0] 78 (0, 0))) := hB.alloc hB.size _
  have hBw : w.heap.size ≤ w1.heap.size := hB.size
  clear hB LV
  go_upto_block 0 with (fail)
  generalize w1.alloc (.cells #[.slice none 0 0, .slice none 0 0, .slice none 0 0, .slice none 0 0, .slice none 0 0, .slice none 0 0, .slice none 0 0, .slice none 0 0, .slice none 0 0, .slice none 0 0, .slice none 0 0, .slice none 0 0, .slice none 0 0, .slice none 0 0, .slice none 0 0, .slice none 0 0, .slice none 0 0, .slice none 0 0, .slice none 0 0, .slice none 0 0, .slice none 0 0, .slice none 0 0, .slice none 0 0, .slice none 0 0, .slice none 0 0, .slice none 0 0, .slice none 0 0, .slice none 0 0] 78 (0, 0)) = W0 at *
  generalize w1.heap.size = B at *
  have HH : Hid (Hd KDl B B (fun _ => .slice none 0 0) [] [] W0 ∧ Below w.heap.size w W0 ∧ (∀ e ∈ ([] : List Ent), e.k = 5 ∨ e.k = 6 ∨ e.k = 17) ∧ ([] : List Ent).length ≤ 0 * 3000000) := Lib.hid ⟨H0, HB1, fun e he => (by cases he), Nat.le_refl _⟩
  clear H0 HB1
  go_cut [4] (fun v4 wc => ∃ tvs E, Hid (Hd KDl B B tvs E [] wc ∧ Below w.heap.size w wc ∧ (∀ e ∈ E, e.k = 5 ∨ e.k = 6 ∨ e.k = 17)))
  case first =>
    go_wp2_with fail
    go_loopg [4] 2 (fun g v4 wr => ∃ (i : Nat) (tvs : Nat → Value) (E : List Ent), v4 = .int .i64 (i : Int) ∧ i + g = 2 ∧ Hid (Hd KDl B B tvs E [] wr ∧ Below w.heap.size w wr ∧ (∀ e ∈ E, e.k = 5 ∨ e.k = 6 ∨ e.k = 17) ∧ E.length ≤ i * 3000000))
    case atStart => exact ⟨0, _, _, rfl, by omega, HH⟩
    case round =>
      clear HH
      obtain ⟨i, tvs, E, rfl, hi, H⟩ := hrel
      by_cases hi2 : i < 2
      · have kl : decide ((i : Int) < 2) = true := by rw [decide_eq_true_iff]; omega
        have LW := Lib.hid (L.below H.out.2.1)
        go_wp2_with fail
        refine (C1.out _ LW.out).mono ?_
        rintro ev w2 ⟨v, q, rfl, hq, P2, hB⟩
        obtain ⟨Av, cv, rfl, -⟩ := P2.at
        have qlen : q.length ≤ 1048576 := by
          have h1 := LIM.out.n
          rw [← hq, List.length_map] at h1
          omega
        have qlim : ∀ x ∈ q, x.1.tags.length ≤ 8192 ∧ x.1.fields.length ≤ 8192 := fun x hx => LIM.out.t x.1 (by rw [← hq]; exact List.mem_map_of_mem hx)
        have N1 : Hid (Hd KDl B B tvs E (entP (.slice Av q.length cv) q :: flatE q) w2) := Lib.hid (by
          have hQ := H.out.1.new (Q := entP (.slice Av q.length cv) q :: flatE q) hB (fun e he => by
            rcases List.mem_cons.1 he with rfl | he
            · exact ⟨(by show (17 : Nat) < 28; decide), (by show q.length ≤ 50000000; omega), tz_points P2.own⟩
            · obtain ⟨x, hx, rfl | rfl⟩ := flatE_mem he
              · exact ⟨(by show (5 : Nat) < 28; decide), (by have := (qlim x hx).1; show x.1.tags.length ≤ 50000000; omega), tz_tags (P2.ts x hx)⟩
              · exact ⟨(by show (6 : Nat) < 28; decide), (by have := (qlim x hx).2; show x.1.fields.length ≤ 50000000; omega), tz_fields (P2.fs x hx)⟩) (by
            refine .cons (fun f hf => ?_) (flat_sep q (fun x hx => ⟨P2.ts x hx, P2.fs x hx⟩) P2.sep)
            obtain ⟨x, hx, rfl | rfl⟩ := flatE_mem hf
            · exact tz_apart (tz_points P2.own) (tz_tags (P2.ts x hx)) (by decide)
            · exact tz_apart (tz_points P2.own) (tz_fields (P2.fs x hx)) (by decide)) (by
            have h1 := H.out.2.2.2
            have h2 : i * 3000000 ≤ 1 * 3000000 := Nat.mul_le_mul_right _ (by omega)
            rw [List.length_append, List.nil_append, List.length_cons, flatE_len]
            omega)
          rw [List.nil_append] at hQ
          exact hQ)
        have G1 := Lib.hid (H.out.2.1.trans (hB.mono H.out.2.1.size))
        have EE := Lib.hid H.out.2.2
        have QL := Lib.hid qlen
        have LW2 := Lib.hid (L.below G1.out)
        clear hB P2 hq qlim qlen H LW
        obtain ⟨nq, hnq⟩ : ∃ n, q.length = n := ⟨_, rfl⟩
        have TP : Hid (∀ tvs E P w, Hd KDl B B tvs E (entP (.slice Av nq cv) q :: (flatE q ++ P)) w → Calls Tryz.prog 19 #[.pointer (some ⟨B, 0, none⟩), .slice Av nq cv] w fun ev w' => ev = .returned (.tuple #[]) ∧ (∃ tvs', Hd KDl B B tvs' (E ++ entP (.slice Av nq cv) q :: flatE q) P w') ∧ Below B w w' ∧ KeepT KDl w w') := Lib.hid (by rw [← hnq]; exact fun tvs E P w h => take_Points q cv Av w h)
        rw [hnq] at N1 ⊢
        have NQ := Lib.hid hnq
        clear hnq
        go_wp2_with fail
        refine (C3.out _ LW2.out.S).mono ?_
        rintro ev w3 ⟨v3, rfl, ⟨tv, fv, rfl, ht, hf⟩, hB⟩
        have N2 : Hid (Hd KDl B B tvs E (entP (.slice Av nq cv) q :: (flatE q ++ flatE [(od, tv, fv)])) w3) := Lib.hid (by
          have hQ := N1.out.new (Q := flatE [(od, tv, fv)]) hB (fun e he => by
            obtain ⟨x, hx, he⟩ := flatE_mem he
            obtain rfl := List.mem_singleton.1 hx
            rcases he with rfl | rfl
            · exact ⟨(by show (5 : Nat) < 28; decide), (by have := OL.out.1; show od.tags.length ≤ 50000000; omega), tz_tags ht⟩
            · exact ⟨(by show (6 : Nat) < 28; decide), (by have := OL.out.2; show od.fields.length ≤ 50000000; omega), tz_fields hf⟩)
            (flat_sep _ (fun x hx => by obtain rfl := List.mem_singleton.1 hx; exact ⟨ht, hf⟩) (List.pairwise_singleton _ _)) (by
            have h1 := EE.out.2
            have h2 : i * 3000000 ≤ 1 * 3000000 := Nat.mul_le_mul_right _ (by omega)
            have h3 := QL.out
            rw [List.length_append, List.length_append, List.length_cons, flatE_len, flatE_len, List.length_singleton]
            omega)
          exact hQ)
        obtain ⟨ta, tn, tc, rfl⟩ := own_form ht
        obtain ⟨fa, fn, fc, rfl⟩ := own_form hf
        have G2 := Lib.hid (G1.out.trans (hB.mono G1.out.size))
        obtain ⟨o1, ho1⟩ : ∃ o, o = Obj.cells #[.string od.m, .slice ta tn tc, .slice fa fn fc, .int .i64 od.time] 32 (0, 0) := ⟨_, rfl⟩
        have N3 : Hid (Hd KDl B B tvs E (entP (.slice Av nq cv) q :: (flatE q ++ flatE [(od, .slice ta tn tc, .slice fa fn fc)])) (w3.alloc o1)) := Lib.hid (N2.out.next ((Below.refl _ _).alloc (Nat.le_refl _) o1))
        have G3 := Lib.hid (G2.out.alloc G2.out.size o1)
        have q1 := heap_alloc_new w3 o1
        rw [ho1] at N3 G3 q1
        have VB := Lib.hid q1
        clear ho1 ht hf hB N1 N2 G1 G2 LW2 q1
        go_upto_region 9 with (fail)
        generalize w3.alloc (.cells #[.string od.m, .slice ta tn tc, .slice fa fn fc, .int .i64 od.time] 32 (0, 0)) = W3 at *
        generalize w3.heap.size = g3 at *
        have CT := Lib.hid (TP.out _ _ _ _ N3.out)
        go_wp2_with fail
        refine CT.out.mono ?_
        rintro ev w4 ⟨rfl, ⟨tvs4, h4⟩, hB4, hK4⟩
        have N4 := Lib.hid h4
        have V4 := hK4 g3 _ _ _ VB.out (by decide) (fun j => by rcases KDl_cases j with h | h | h <;> rw [h] <;> decide)
        have G4 := Lib.hid (G3.out.trans (hB4.mono hBw))
        clear h4 hB4 hK4 N3 G3 VB CT TP
        have pk0 := blk_cell' (V4) 0
        have pf0 := blk_free' (V4) 0
        have pk1 := blk_cell' (V4) 1
        have pf1 := blk_free' (V4) 1
        have pk2 := blk_cell' (V4) 2
        have pf2 := blk_free' (V4) 2
        have pk3 := blk_cell' (V4) 3
        have pf3 := blk_free' (V4) 3
        have CO := Lib.hid (fun W => law_one_own od.m (.slice ta tn tc) (.slice fa fn fc) od.time W ⟨_, _, _, rfl⟩ ⟨_, _, _, rfl⟩)
        go_wp2_with fail
        refine (CO.out _).mono ?_
        rintro ev w5 ⟨rfl, hb5, hB⟩
        have hgw : w4.heap.size ≤ w4.heap.size + 1 := Nat.le_succ _
        generalize w4.heap.size + 1 = g5 at *
        have N5 : Hid (Hd KDl B B tvs4 (E ++ entP (.slice Av nq cv) q :: flatE q) (entP (.slice (some ⟨g5, 0, none⟩) 1 1) [(od, .slice ta tn tc, .slice fa fn fc)] :: (flatE [(od, .slice ta tn tc, .slice fa fn fc)] ++ [])) w5) := Lib.hid (by
          have hown : w5.ownsRow w4.heap.size tPt 4 (.slice (some ⟨g5, 0, none⟩) 1 1) [(od, (.slice ta tn tc : Value), (.slice fa fn fc : Value))].length (ptCells [(od, .slice ta tn tc, .slice fa fn fc)]) := ⟨rfl, .inr ⟨g5, 1, _, rfl, hgw, hb5, Nat.le_refl _, by decide, rfl, rfl⟩⟩
          have hQ := N4.out.new (Q := [entP (.slice (some ⟨g5, 0, none⟩) 1 1) [(od, .slice ta tn tc, .slice fa fn fc)]]) hB (fun e he => by
            obtain rfl := List.mem_singleton.1 he
            exact ⟨(by show (17 : Nat) < 28; decide), (by show (1 : Nat) ≤ 50000000; decide), tz_points hown⟩) (List.pairwise_singleton _ _) (by
            have h1 := EE.out.2
            have h2 : i * 3000000 ≤ 1 * 3000000 := Nat.mul_le_mul_right _ (by omega)
            have h3 := QL.out
            rw [List.length_append, List.length_append, List.length_append, List.length_cons, flatE_len, flatE_len, List.length_singleton, List.length_singleton]
            omega)
          refine hQ.perm ?_
          rw [List.append_nil]
          exact List.perm_append_singleton _ _)
        have G5 := Lib.hid (G4.out.trans (hB.mono G4.out.size))
        clear hb5 hB N4 G4 V4 pk0 pk1 pk2 pk3 pf0 pf1 pf2 pf3 CO
        have CT2 := Lib.hid (take_Points [(od, (.slice ta tn tc : Value), (.slice fa fn fc : Value))] 1 (some ⟨g5, 0, none⟩) w5 N5.out)
        have CT2 : Hid (Calls Tryz.prog 19 #[.pointer (some ⟨B, 0, none⟩), .slice (some ⟨g5, 0, none⟩) 1 1] w5 fun ev w' => ev = .returned (.tuple #[]) ∧ (∃ tvs', Hd KDl B B tvs' ((E ++ entP (.slice Av nq cv) q :: flatE q) ++ entP (.slice (some ⟨g5, 0, none⟩) 1 1) [(od, .slice ta tn tc, .slice fa fn fc)] :: flatE [(od, .slice ta tn tc, .slice fa fn fc)]) [] w') ∧ Below B w5 w' ∧ KeepT KDl w5 w') := CT2
        go_wp2_with fail
        refine CT2.out.mono ?_
        rintro ev w6 ⟨rfl, ⟨tvs6, h6⟩, hB6, -⟩
        have N6 : Hid (Hd KDl B B tvs6 ((E ++ entP (.slice Av nq cv) q :: flatE q) ++ entP (.slice (some ⟨g5, 0, none⟩) 1 1) [(od, .slice ta tn tc, .slice fa fn fc)] :: flatE [(od, .slice ta tn tc, .slice fa fn fc)]) [] w6 ∧ Below w.heap.size w w6 ∧ (∀ e ∈ ((E ++ entP (.slice Av nq cv) q :: flatE q) ++ entP (.slice (some ⟨g5, 0, none⟩) 1 1) [(od, .slice ta tn tc, .slice fa fn fc)] :: flatE [(od, .slice ta tn tc, .slice fa fn fc)]), e.k = 5 ∨ e.k = 6 ∨ e.k = 17) ∧ ((E ++ entP (.slice Av nq cv) q :: flatE q) ++ entP (.slice (some ⟨g5, 0, none⟩) 1 1) [(od, .slice ta tn tc, .slice fa fn fc)] :: flatE [(od, .slice ta tn tc, .slice fa fn fc)]).length ≤ (i + 1) * 3000000) := Lib.hid ⟨h6, G5.out.trans (hB6.mono hBw), fun e he => by
            rcases List.mem_append.1 he with he | he
            · rcases List.mem_append.1 he with he | he
              · exact EE.out.1 e he
              · rcases List.mem_cons.1 he with rfl | he
                · exact .inr (.inr rfl)
                · obtain ⟨x, _, rfl | rfl⟩ := flatE_mem he
                  · exact .inl rfl
                  · exact .inr (.inl rfl)
            · rcases List.mem_cons.1 he with rfl | he
              · exact .inr (.inr rfl)
              · obtain ⟨x, _, rfl | rfl⟩ := flatE_mem he
                · exact .inl rfl
                · exact .inr (.inl rfl), by
            have h1 := EE.out.2
            have h3 := QL.out
            rw [List.length_append, List.length_append, List.length_cons, List.length_cons, flatE_len, flatE_len, List.length_singleton, Nat.add_mul]
            omega⟩
        clear h6 hB6 N5 G5 CT2
        go_wp2_with fail
        go_roundg (gk - 1)
        case measure => omega
        case rel => exact ⟨i + 1, tvs6, _, by go_num, by omega, N6⟩
      · have kl : decide ((i : Int) < 2) = false := by rw [decide_eq_false_iff_not]; omega
        go_wp2_with fail
        go_meet
        case rel => exact ⟨tvs, E, Lib.hid ⟨H.out.1, H.out.2.1, H.out.2.2.1⟩⟩
  case rest =>
    clear HH
    obtain ⟨tvs, E, H⟩ := hcut
    have CA := Lib.hid (book_Alone KDl_ok rfl rfl rfl H.out.2.2 H.out.1)
    have B0 := Lib.hid H.out.2.1
    clear H
    go_wp2_with fail
    refine CA.out.mono ?_
    rintro ev w1 ⟨rfl, hB⟩
    have B1 := B0.out.trans (hB.mono hBw)
    have L1 := L.below B1
    clear hB CA B0
    go_wp2_with fail
    refine (C1.out _ L1).mono ?_
    rintro ev w2 ⟨v2, q2, rfl, hq2, P2, hB⟩
    have B2 := B1.trans (hB.mono B1.size)
    have L2 := L.below B2
    obtain ⟨A2, c2, hv, hp2⟩ := P2.at
    rw [hq2] at hp2
    rw [show q2.length = D.length from by rw [← hq2, List.length_map]] at hv
    subst hv
    clear hB B1 L1 P2
    go_wp2_with fail
    refine (C2.out _ L2.S).mono ?_
    rintro ev w3 ⟨v3, q3, rfl, hq3, P3, hB⟩
    have B3 := B2.trans (hB.mono B2.size)
    obtain ⟨A3, c3, hv, hp3⟩ := P3.at
    rw [hq3] at hp3
    rw [show q3.length = D.length from by rw [← hq3, List.length_map]] at hv
    subst hv
    have hp2 := hp2.next hB
    clear hB B2 L2 P3
    have L3 := L.below B3
    go_wp2_with fail
    refine (CS.out _ (L3.S.L.hg.alloc _)).mono ?_
    rintro ev w4 ⟨rfl, hB⟩
    have hB' : Below w3.heap.size w3 w4 := ((Below.refl _ _).alloc (Nat.le_refl _) _).trans (hB.mono (by simp))
    have B4 := B3.trans (hB'.mono B3.size)
    have hp2 := hp2.next hB'
    have hp3 := hp3.next hB'
    have SX := Lib.hid (SamePoints_eq A2 A3 c2 c3 D w4 hp2 hp3)
    clear hB hB' B3 L3 hp2 hp3
    go_wp2_with fail
    refine SX.out.mono ?_
    rintro ev w5 ⟨rfl, m, rfl⟩
    go_wp2_with fail
    go_ret
    exact ⟨rfl, B4.trans ((below_drewN0 _ m).mono B4.size)⟩
end Go.Proofs.YtnodjijgeifejaaGreatDoor
