/- What the document finds is what is found; and FaultFinds: for every name the call returns true. -/
import Derived.Test.YtmjagnimdbbbnaaDoorRfind
import Derived.Test.YtmjagnimdbbbnaaDoorMakes
namespace Go.Proofs.YtmjagnimdbbbnaaDoor
open Go.RowKit
set_option linter.unusedSimpArgs false
set_option linter.unusedVariables false

theorem scan_some (s : ByteArray) (k : Int) : ∀ (n e : Nat), scanP s e n = some k → (e : Int) ≤ k ∧ knownP k = s ∧ s ≠ ⟨#[]⟩
  | 0, e, h => by simp [scanP] at h
  | n + 1, e, h => by
    unfold scanP at h
    split at h
    · rename_i hc
      have hk : (e : Int) = k := Option.some.inj h
      subst hk
      exact ⟨Int.le_refl _, hc⟩
    · have := scan_some s k n (e + 1) h
      exact ⟨by omega, this.2⟩
theorem scan_none (s : ByteArray) : ∀ (n e : Nat), scanP s e n = none → ∀ k : Nat, e ≤ k → k < e + n → ¬ (knownP (k : Int) = s ∧ s ≠ ⟨#[]⟩)
  | 0, e, h, k, h1, h2 => by omega
  | n + 1, e, h, k, h1, h2 => by
    unfold scanP at h
    split at h
    · cases h
    · rename_i hc
      by_cases he : k = e
      · subst he; exact hc
      · exact scan_none s n (e + 1) h k (by omega) (by omega)
theorem names_scan : nameList.all (fun p => decide ((p.1 = 0 ∧ p.2 = okW) ∨ (1 ≤ p.1 ∧ p.1 < 300 ∧ knownP p.1 = p.2 ∧ 0 < p.2.size))) = true := by kernel_rfl
theorem known_mem {k : Int} {s : ByteArray} (hk : 1 ≤ k) (h : knownP k = s) (hs : s ≠ ⟨#[]⟩) : (k, s) ∈ nameList := by
  rw [knownP_is k (by omega)] at h
  cases hq : nameIn k (nameList.drop 1) with
  | none => rw [hq] at h; exact absurd h.symm hs
  | some t =>
    rw [hq] at h
    have ht : t = s := h
    subst ht
    exact List.mem_of_mem_drop (nameIn_mem k t _ hq)
theorem isErrno_cut {s : ByteArray} (h : isErrno s = true) : s.extract 0 6 = errnoWord ∧ cutV s = restOf s ∧ 6 ≤ s.size := by
  have e := rest_back h
  have hl : s.data.toList = errnoWord.data.toList ++ (restOf s).data.toList := by rw [← data_app, e]
  have hz : s.size = s.data.toList.length := rfl
  have h6 : errnoWord.data.toList.length = 6 := rfl
  refine ⟨bytes_ext ?_, bytes_ext ?_, ?_⟩
  · rw [Lib.extract_data, hl]
    simp only [List.drop_zero]
    exact List.take_left' h6
  · unfold cutV
    rw [Lib.extract_data]
    rw [hz, hl]
    rw [List.drop_left' h6]
    apply List.take_of_length_le
    rw [List.length_append]
    omega
  · rw [hz, hl, List.length_append]
    omega
theorem isErrno_of {s : ByteArray} (h : s.extract 0 6 = errnoWord) : isErrno s = true := by
  have e : (s.extract 0 6).data.toList = errnoWord.data.toList := by rw [h]
  rw [Lib.extract_data] at e
  simp only [List.drop_zero] at e
  unfold isErrno Lib.hasPrefix
  rw [← e]
  exact List.isPrefixOf_iff_prefix.2 (List.take_prefix _ _)
theorem name_errno {v : Int} {s : ByteArray} (hv : I64 v) (hs : isErrno s = true) (h : nameP v = s) : atoiV (restOf s) = (v, true) := by
  cases hq : nameIn v nameList with
  | some t =>
    have hn : nameP v = t := by rw [nameP, hq]
    rw [hn] at h
    subst h
    have := List.all_eq_true.1 names_plain _ (nameIn_mem v t _ hq)
    simp [hs] at this
  | none =>
    have hn : nameP v = errnoWord ++ itoa v := by rw [nameP, hq]
    rw [← h, hn, restOf_app]
    exact atoiV_itoa v hv
theorem refF_eq (s : ByteArray) : refF s = findP s := by
  by_cases h0 : s = okW
  · subst h0
    have hm : ((0 : Int), okW) ∈ nameList := by rw [names_head]; exact List.mem_cons_self ..
    rw [refF, if_pos rfl, findP, numIn_of hm]
  rw [refF, if_neg h0, findP]
  cases hq : scanP s 1 299 with
  | some k =>
    have h := scan_some s k 299 1 hq
    rw [numIn_of (known_mem (by have := h.1; omega) h.2.1 h.2.2)]
  | none =>
    have hnone : numIn s nameList = none := by
      cases hk : numIn s nameList with
      | none => rfl
      | some k =>
        have hm := numIn_mem s k _ hk
        have := List.all_eq_true.1 names_scan _ hm
        simp only [decide_eq_true_eq] at this
        rcases this with ⟨_, h2⟩ | ⟨h1, h2, h3, h4⟩
        · exact absurd h2 h0
        · have hn := scan_none s 299 1 hq k.toNat (by omega) (by omega)
          rw [show ((k.toNat : Nat) : Int) = k by omega] at hn
          refine absurd ⟨h3, fun e => ?_⟩ hn
          rw [e] at h4
          exact absurd h4 (Nat.lt_irrefl 0)
    rw [hnone]
    by_cases hp : isErrno s = true
    · obtain ⟨e1, e2, e3⟩ := isErrno_cut hp
      simp only []
      rw [e2]
      by_cases hn : nameP (atoiV (restOf s)).1 = s
      · have hv := name_errno (atoiV_all (restOf s)) hp hn
        have hvb : (atoiV (restOf s)).2 = true := by rw [hv]
        have h6 : 6 < s.size := by
          rcases Nat.lt_or_ge 6 s.size with h | h
          · exact h
          · exfalso
            have hb := rest_back hp
            have hz : (errnoWord ++ restOf s).size = s.size := by rw [hb]
            rw [ByteArray.size_append] at hz
            have h6' : errnoWord.size = 6 := rfl
            have hr : (restOf s).size = 0 := by omega
            have hr' : restOf s = ⟨#[]⟩ := bytes_ext (List.eq_nil_of_length_eq_zero hr)
            rw [hr'] at hvb
            exact absurd hvb (by decide)
        rw [if_pos ⟨h6, e1, hn⟩, if_pos ⟨hp, hvb, hn⟩]
      · rw [if_neg (fun h => hn h.2.2), if_neg (fun h => hn h.2.2)]
    · simp only []
      rw [if_neg (fun h => hp (isErrno_of h.2.1)), if_neg (fun h => hp h.1)]
theorem same_found (s : ByteArray) : same (findE s) (refE s) = true := by
  unfold refE findE
  rw [refF_eq]
  cases (findP s).2 <;> rfl

set_option maxRecDepth 100000 in
set_option maxHeartbeats 4000000 in
theorem finds_true (s : ByteArray) (w : World) (L : LayS w) (hs : s.size ≤ 281474976710656) : Calls Tryd.prog 7 #[.string s] w fun ev w' => ev = .returned (.bool true) ∧ Below w.heap.size w w' := by
  have C1 := Lib.hid (fun w L => fault_Find s hs w L)
  have C2 := Lib.hid (fun w L => ref_Find s hs w L)
  have C3 := Lib.hid (fun w hg => weirboth_Same (findE s) (refE s) w hg)
  rw [same_found] at C3
  rw [refF_eq] at C2
  generalize encE (findE s) = E at C1 C3
  generalize (findP s).1 = k at C1 C2
  generalize refE s = B at C2 C3
  obtain ⟨c, a, i, p, n⟩ := B
  simp only [Bad.enc] at C2 C3
  have st := Sq.start L
  clear L
  go_enter Tryd.func7, Tryd.ntmps7
  go_wp2_with fail
  refine (C1.out _ st.L).mono ?_
  rintro ev w1 ⟨rfl, hB⟩
  replace st := st.next hB
  clear hB
  go_wp2_with fail
  refine (C2.out _ st.L).mono ?_
  rintro ev w2 ⟨rfl, hB⟩
  replace st := st.next hB
  clear hB
  go_wp2_with fail
  have sb : S5 w2.heap.size (.int .i64 c) (.int .i64 a) (.int .i64 i) (.bool p) (.bool n) 29 w (w2.alloc (.cells #[.int .i64 c, .int .i64 a, .int .i64 i, .bool p, .bool n] 29)) := ⟨(st.alloc _).B, (st.alloc _).L, heap_alloc_new w2 _⟩
  clear st C1 C2
  refine (live_true _ sb.L.L.hg).mono ?_
  rintro ev w3 ⟨rfl, hB⟩
  replace sb := sb.next hB
  clear hB
  have k0 := blk_cell' sb.blk 0
  have k1 := blk_cell' sb.blk 1
  have k2 := blk_cell' sb.blk 2
  have k3 := blk_cell' sb.blk 3
  have k4 := blk_cell' sb.blk 4
  go_wp2_with fail
  refine (C3.out _ sb.L.L.hg).mono ?_
  rintro ev w4 ⟨rfl, hB⟩
  replace sb := sb.next hB
  clear hB k0 k1 k2 k3 k4
  go_wp2
  go_ret
  exact ⟨by simp, sb.B⟩
end Go.Proofs.YtmjagnimdbbbnaaDoor
