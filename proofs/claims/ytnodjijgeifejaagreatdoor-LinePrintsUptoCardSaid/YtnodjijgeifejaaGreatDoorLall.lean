/- line.All: points as lines, or the point's number and its error. -/
import Derived.Test.YtnodjijgeifejaaGreatDoorRpl
import Derived.Test.YtnodjijgeifejaaGreatDoorLbkL
import Derived.Deep.LoopGhost
namespace Go.Proofs.YtnodjijgeifejaaGreatDoor
open Go.RowKit
set_option linter.unusedSimpArgs false
set_option linter.unusedVariables false

def allS : Sum (List UInt8) (Nat × Int) → ByteArray
  | .inl x => ⟨x.toArray⟩
  | .inr _ => ⟨#[]⟩
def allE : Sum (List UInt8) (Nat × Int) → Option Er
  | .inl _ => none
  | .inr (k, c) => mkIn k (mkE c)
/-- How much a point's texts hold. -/
def tagB (l : List (ByteArray × ByteArray)) : Nat := (l.map fun t => t.1.size + t.2.size + 1).sum
def fldB (l : List (ByteArray × Int)) : Nat := (l.map fun t => t.1.size + 1).sum
def ptBulk (p : Pt) : Nat := p.m.size + tagB p.tags + fldB p.fields
theorem itoa_le {n : Int} (h : I64 n) : (itoa n).data.toList.length ≤ 21 := itoa_size n h.1 h.2
theorem tagsL_bulk : ∀ l : List (ByteArray × ByteArray), (tagsL l).length ≤ 2 * tagB l
  | [] => Nat.le_refl _
  | t :: l => by
    have ih := tagsL_bulk l
    have h1 := escL_len t.1.data.toList
    have h2 := escL_len t.2.data.toList
    have e : tagsL (t :: l) = 44 :: (escL t.1.data.toList ++ 61 :: escL t.2.data.toList) ++ tagsL l := rfl
    have e2 : tagB (t :: l) = t.1.size + t.2.size + 1 + tagB l := by simp [tagB]
    have s1 : t.1.data.toList.length = t.1.size := rfl
    have s2 : t.2.data.toList.length = t.2.size := rfl
    rw [e, e2, List.length_append, List.length_cons, List.length_append, List.length_cons]
    omega
theorem fieldsL_bulk : ∀ (l : List (ByteArray × Int)) (sep : UInt8), (∀ f ∈ l, I64 f.2) → (fieldsL sep l).length ≤ 24 * fldB l
  | [], _, _ => Nat.le_refl _
  | t :: l, sep, h => by
    have ih := fieldsL_bulk l 44 (fun x hx => h x (List.mem_cons_of_mem _ hx))
    have h1 := escL_len t.1.data.toList
    have h2 := itoa_le (h t (List.mem_cons_self ..))
    have e : fieldsL sep (t :: l) = sep :: (escL t.1.data.toList ++ 61 :: ((itoa t.2).data.toList ++ [105])) ++ fieldsL 44 l := rfl
    have e2 : fldB (t :: l) = t.1.size + 1 + fldB l := by simp [fldB]
    have s1 : t.1.data.toList.length = t.1.size := rfl
    rw [e, e2, List.length_append, List.length_cons, List.length_append, List.length_cons, List.length_append]
    simp only [List.length_cons, List.length_nil]
    omega
theorem lineL_bulk {p : Pt} (h : PtFit p) (hb : ptBulk p ≤ 1048576) : (lineL p).length ≤ 1099511627776 := by
  have h1 := escL_len p.m.data.toList
  have h2 := tagsL_bulk p.tags
  have h3 := fieldsL_bulk p.fields 32 h.f
  have h4 := itoa_le h.t
  have s1 : p.m.data.toList.length = p.m.size := rfl
  unfold ptBulk at hb
  unfold lineL
  rw [List.length_append, List.length_append, List.length_append, List.length_cons]
  omega
theorem mem_sum {α : Type} (f : α → Nat) : ∀ (l : List α) (x : α), x ∈ l → f x ≤ (l.map f).sum
  | [], x, h => by cases h
  | y :: r, x, h => by
    rcases List.mem_cons.1 h with rfl | h
    · simp
    · have := mem_sum f r x h
      simp
      omega
theorem small_of {p : Pt} (hb : ptBulk p ≤ 1048576) : Small p := by
  unfold ptBulk at hb
  refine ⟨by omega, fun t ht => ?_, fun f hf => ?_⟩
  · have h1 : t.1.size + t.2.size + 1 ≤ _ := mem_sum (fun t : ByteArray × ByteArray => t.1.size + t.2.size + 1) _ _ ht
    unfold tagB at hb
    omega
  · have h1 : f.1.size + 1 ≤ _ := mem_sum (fun t : ByteArray × Int => t.1.size + 1) _ _ hf
    unfold fldB at hb
    omega
theorem len_tagB : ∀ l : List (ByteArray × ByteArray), l.length ≤ tagB l
  | [] => Nat.le_refl _
  | t :: l => by
    have ih := len_tagB l
    have e2 : tagB (t :: l) = t.1.size + t.2.size + 1 + tagB l := by simp [tagB]
    rw [e2, List.length_cons]
    omega
theorem len_fldB : ∀ l : List (ByteArray × Int), l.length ≤ fldB l
  | [] => Nat.le_refl _
  | t :: l => by
    have ih := len_fldB l
    have e2 : fldB (t :: l) = t.1.size + 1 + fldB l := by simp [fldB]
    rw [e2, List.length_cons]
    omega
structure PtOk (p : Pt) : Prop where
  fit : PtFit p
  bulk : ptBulk p ≤ 1048576
theorem printP_cases (p : Pt) : (∃ t : ByteArray, printP p = .inl t ∧ t.size ≤ 8192) ∨ ∃ c : Int, printP p = .inr c ∧ mkE c = some (.code c) := by
  unfold printP
  by_cases h1 : isPlainP p = true
  · rw [if_pos h1]
    by_cases h2 : 8192 < (lineL p).length
    · rw [if_pos h2]
      exact .inr ⟨6, rfl, rfl⟩
    · rw [if_neg h2]
      exact .inl ⟨_, rfl, by show (lineL p).length ≤ 8192; omega⟩
  · rw [if_neg h1]
    exact .inr ⟨60, rfl, rfl⟩
theorem allQ_step {l : List Pt} {i : Nat} (h : i < l.length) (acc : List UInt8) : allQ i (l.drop i) acc = match printP l[i] with | .inl t => allQ (i + 1) (l.drop (i + 1)) (acc ++ (t.data.toList ++ [10])) | .inr c => .inr (i, c) := by
  rw [List.drop_eq_getElem_cons h]
  rfl
set_option maxRecDepth 100000 in
set_option maxHeartbeats 2000000 in
theorem line_All (l : List Pt) (A : Option Addr) (c : Nat) (w : World) (L : Lay w) (hp : PtsAt w A l) (hok : ∀ p ∈ l, PtOk p) (hn : l.length ≤ 262144) :
    Calls Tryz.prog 12 #[.slice A l.length c] w fun ev w' => ev = .returned (.tuple #[.string (allS (allQ 0 l [])), encE (allE (allQ 0 l []))]) ∧ Below w.heap.size w w' := by
  have hup := Tryz.underlying32
  obtain ⟨R, hR⟩ : ∃ R, R = allQ 0 l [] := ⟨_, rfl⟩
  rw [← hR]
  have HR : Hid (allQ 0 (l.drop 0) [] = R) := Lib.hid hR.symm
  obtain ⟨V, hV⟩ : ∃ V, V = allS R := ⟨_, rfl⟩
  obtain ⟨E, hE⟩ : ∃ E, E = encE (allE R) := ⟨_, rfl⟩
  rw [← hV, ← hE]
  have HV := Lib.hid hV
  have HE := Lib.hid hE
  have HP := Lib.hid hp
  have HO := Lib.hid hok
  obtain ⟨n, hnl⟩ : ∃ n, l.length = n := ⟨_, rfl⟩
  have HN := Lib.hid hnl
  rw [hnl] at hn ⊢
  have bd0 := Lib.hid (Bld.fresh w)
  have B0 := Lib.hid ((Below.refl w.heap.size w).alloc (Nat.le_refl _) (.cells #[.pointer none, .slice none 0 0] tB))
  clear hR hV hE hp hok hnl
  go_enter Tryz.func12, Tryz.ntmps12
  go_wp2_with fail
  go_loopg [11] n (fun g v11 wr => ∃ (i : Nat) (acc : List UInt8), v11 = .int .i64 (i : Int) ∧ i + g = n ∧ acc.length ≤ i * 8193 ∧ Hid (allQ i (l.drop i) acc = R) ∧ Hid (Bld w.heap.size acc wr) ∧ Hid (Below w.heap.size w wr))
  case atStart => exact ⟨0, [], rfl, by omega, by simp, HR, bd0, B0⟩
  case round =>
    clear bd0 B0 HR
    obtain ⟨i, acc, rfl, hg, hacc, HQ, BD, HB⟩ := hrel
    by_cases hi : i < n
    · have hil : i < l.length := by rw [HN.out]; exact hi
      have hst := allQ_step hil acc
      rw [HQ.out] at hst
      have hpo := HO.out _ (List.getElem_mem hil)
      obtain ⟨a0, rfl, C⟩ := (HP.out.next HB.out).cells (by rw [HN.out]; omega)
      obtain ⟨At, ct, Af, cf, x⟩ := C i hil
      have CPr := fun w L hp => line_Print (l[i]'hil) At ct Af cf w L hp hpo.fit (lineL_bulk hpo.fit hpo.bulk)
      have hpc := printP_cases l[i]
      generalize l[i] = p at x hst CPr hpc hpo
      obtain ⟨x0, x1, x2, x3, x4, x5⟩ := x
      have PV : PtVal wr p At ct Af cf := ⟨x4, x5⟩
      have PV2 := Lib.hid (PV.next ((Below.refl _ _).alloc (Nat.le_refl _) (ptO p At ct Af cf)))
      have LW := Lib.hid (L.below (HB.out.alloc HB.out.size (ptO p At ct Af cf)))
      have BD2 := Lib.hid (BD.out.next ((Below.refl _ _).alloc (Nat.le_refl _) (ptO p At ct Af cf)))
      have HB2 := Lib.hid (HB.out.alloc HB.out.size (ptO p At ct Af cf))
      rcases hpc with ⟨t, ht, hts⟩ | ⟨c', ht, hce⟩
      · rw [ht] at hst
        simp only at hst
        have CPr2 := Lib.hid (show Calls Tryz.prog 9 #[.agg #[.string p.m, .slice At p.tags.length ct, .slice Af p.fields.length cf, .int .i64 p.time]] (wr.alloc (ptO p At ct Af cf)) fun ev w' => ev = .returned (.tuple #[.string t, .nilIface]) ∧ Below (wr.alloc (ptO p At ct Af cf)).heap.size (wr.alloc (ptO p At ct Af cf)) w' from by
          have h := CPr _ LW.out PV2.out
          rw [ht] at h
          exact h)
        have HST := Lib.hid hst.symm
        have hsz1 : ¬ 9223372036854775807 < t.size + 1 := by omega
        clear hst ht CPr HQ C x4 x5 PV hpo BD
        go_wp2_with fail
        refine (CPr2.out).mono ?_
        rintro ev w2 ⟨rfl, hB⟩
        have BD3 := BD2.out.next hB
        have HB3 := HB2.out.trans (hB.mono HB2.out.size)
        have WS := Lib.hid (write_string w.heap.size acc (t ++ ⟨#[10]⟩) w2 BD3 (by have h10 : (⟨#[10]⟩ : ByteArray).size = 1 := rfl; rw [ByteArray.size_append]; omega))
        have HB3 := Lib.hid HB3
        clear hB BD3 BD2 HB2 CPr2 PV2 LW x0 x1 x2 x3 HB
        go_wp2_with fail
        refine (WS.out).mono ?_
        rintro ev w3 ⟨rfl, BD4, hB⟩
        have BD4 := Lib.hid BD4
        have HB4 := Lib.hid (HB3.out.trans hB)
        clear hB HB3 WS
        go_wp2_with fail
        go_roundg (gk - 1)
        case measure => omega
        case rel => exact ⟨i + 1, acc ++ (t.data.toList ++ [10]), by go_num, by omega, by have : t.data.toList.length = t.size := rfl; simp; omega, HST, by simpa using BD4, HB4⟩
      · rw [ht] at hst
        simp only at hst
        have CPr2 := Lib.hid (show Calls Tryz.prog 9 #[.agg #[.string p.m, .slice At p.tags.length ct, .slice Af p.fields.length cf, .int .i64 p.time]] (wr.alloc (ptO p At ct Af cf)) fun ev w' => ev = .returned (.tuple #[.string ⟨#[]⟩, .iface 33 (.int .i64 c')]) ∧ Below (wr.alloc (ptO p At ct Af cf)).heap.size (wr.alloc (ptO p At ct Af cf)) w' from by
          have h := CPr _ LW.out PV2.out
          rw [ht] at h
          simp only [printS, printE, hce] at h
          exact h)
        have CI := fun w => fault_In (i : Int) (some (.code c')) w
        have hE2 : E = encE (mkIn (i : Int) (some (.code c'))) := by rw [HE.out, hst]; simp only [allE, hce]
        rw [← hE2] at CI
        have CI := Lib.hid (show ∀ w, Calls Tryz.prog 36 #[.int .i64 (i : Int), .iface 33 (.int .i64 c')] w fun ev w' => ev = .returned E ∧ Below w.heap.size w w' from CI)
        have HV2 := Lib.hid (show V = ⟨#[]⟩ by rw [HV.out, hst]; rfl)
        clear hst ht CPr HQ C x4 x5 PV hpo BD hE2 hce
        go_wp2_with fail
        refine (CPr2.out).mono ?_
        rintro ev w2 ⟨rfl, hB⟩
        have HB3 := Lib.hid (HB2.out.trans (hB.mono HB2.out.size))
        clear hB BD2 HB2 CPr2 PV2 LW x0 x1 x2 x3 HB
        go_wp2_with fail
        refine (CI.out _).mono ?_
        rintro ev w3 ⟨rfl, hB⟩
        have HB4 := Lib.hid (HB3.out.trans (hB.mono HB3.out.size))
        go_wp2_with fail
        go_ret2
        exact ⟨by rw [HV2.out]; rfl, HB4.out⟩
    · have hd : l.drop i = [] := List.drop_eq_nil_iff.2 (by rw [HN.out]; omega)
      have hq := HQ.out
      rw [hd] at hq
      have hR2 : R = .inl acc := hq.symm
      have HV2 := Lib.hid (show V = ⟨acc.toArray⟩ by rw [HV.out, hR2]; rfl)
      have HE2 := Lib.hid (show E = .nilIface by rw [HE.out, hR2]; rfl)
      have BS := Lib.hid (build_string w.heap.size acc wr BD.out)
      clear hd hq hR2
      go_wp2_with fail
      refine (BS.out).mono ?_
      rintro ev w2 ⟨rfl, hB⟩
      have HB4 := Lib.hid (HB.out.trans hB)
      go_wp2_with fail
      go_ret2
      exact ⟨by rw [HV2.out, HE2.out]; rfl, HB4.out⟩
end Go.Proofs.YtnodjijgeifejaaGreatDoor
