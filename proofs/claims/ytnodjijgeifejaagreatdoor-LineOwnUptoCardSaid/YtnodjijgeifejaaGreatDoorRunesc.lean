/- weirref05.Unescape. -/
import Derived.Test.YtnodjijgeifejaaGreatDoorUnesc
import Derived.Test.YtnodjijgeifejaaGreatDoorRes
import Derived.Test.YtnodjijgeifejaaGreatDoorPlain
namespace Go.Proofs.YtnodjijgeifejaaGreatDoor
open Go.RowKit
set_option linter.unusedSimpArgs false
set_option linter.unusedVariables false

def badZ : Obj := .cells #[.int .i64 0, .int .i64 0, .int .i64 0, .bool false, .bool false] 35 (0, 0)
/-- What weirref05.Unescape answers: the text, how many bytes, the error. -/
def unescB : Sum (List UInt8 × Nat) Nat → ByteArray × Int × Bad
  | .inl (t, n) => (⟨t.toArray⟩, (n : Int), Bad.nil)
  | .inr e => (⟨#[]⟩, 0, refAt e 53)
theorem snoc_data {o : ByteArray} {acc : List UInt8} (h : o.data.toList = acc) (s : ByteArray) (i : Nat) (hi : i < s.size) : (o ++ s.extract i (i + 1)).data.toList = acc ++ [s[i]] := by
  rw [data_app, h, Lib.extract_data]
  congr 1
  rw [List.drop_eq_getElem_cons (show i < s.data.toList.length from hi), show i + 1 - i = 1 by omega]
  rfl
theorem slice_one (s : ByteArray) (i : Nat) (z : Int) (hz : z = (i : Int)) (hi : i < s.size) (hs : s.size ≤ 140737488355327) (w : World) : (Instr.slice 9 (.string s) (some (.int .i64 z)) (some (.int .i64 (z + 1))) none).run Tryz.prog w = .ok (.string (s.extract i (i + 1))) w := by
  have h := run_slice_string (P := Tryz.prog) (w := w) 9 s .i64 .i64 z (z + 1) Tryz.underlying9 (by omega) (by omega) (by omega)
  rw [show (z + 1).toNat = i + 1 by omega, show z.toNat = i by omega] at h
  exact h
theorem bytes_back {o : ByteArray} {acc : List UInt8} (h : o.data.toList = acc) : o = ⟨acc.toArray⟩ := bytes_ext (by rw [h])
set_option maxRecDepth 100000 in
set_option maxHeartbeats 800000 in
theorem ref_Unescape (s : ByteArray) (hs : s.size ≤ 140737488355327) (w : World) :
    Calls Tryz.prog 112 #[.string s] w fun ev w' =>
      ev = .returned (.tuple #[.string (unescB (unesc s.data.toList)).1, .int .i64 (unescB (unesc s.data.toList)).2.1, (unescB (unesc s.data.toList)).2.2.enc]) ∧ Below w.heap.size w w' := by
  generalize hR : unesc s.data.toList = R
  have hR0 := Lib.hid hR
  have hl : s.data.toList.length = s.size := rfl
  obtain ⟨V, hV⟩ : ∃ V, V = Value.tuple #[.string (unescB R).1, .int .i64 (unescB R).2.1, (unescB R).2.2.enc] := ⟨_, rfl⟩
  rw [← hV]
  have HV := Lib.hid hV
  clear hR hV
  have A53 : ∀ (i : Int) (w : World), Calls Tryz.prog 90 #[.int .i64 i, .int .i64 53] w fun ev w' => ev = .returned (.agg #[.int .i64 53, .int .i64 i, .int .i64 0, .bool true, .bool false]) ∧ Below w.heap.size w w' := fun i w => weirref01_At i 53 w
  replace A53 := Lib.hid A53
  have st : K1 w.heap.size badZ w (w.alloc badZ) := K1.first _ w
  unfold badZ at st
  go_enter Tryz.func112, Tryz.ntmps112
  go_wp2
  go_loopg [5, 6] s.size (fun n v5 v6 wr => ∃ (i : Nat) (o : ByteArray) (acc : List UInt8), v5 = .string o ∧ v6 = .int .i64 i ∧ i + n = s.size ∧ o.data.toList = acc ∧ acc.length ≤ i ∧ K1 w.heap.size badZ w wr ∧ R = comb acc i (unesc (s.data.toList.drop i)))
  case atStart => exact ⟨0, ⟨#[]⟩, [], rfl, rfl, by omega, rfl, Nat.le_refl _, st, by rw [comb_zero, List.drop_zero]; exact hR0.out.symm⟩
  case round =>
    clear st
    obtain ⟨i, o, acc, rfl, rfl, hn, ho, hal, st, hk⟩ := hrel
    have hos : o.size = acc.length := by rw [← ho]; rfl
    have HO := Lib.hid ho
    clear ho
    unfold badZ at st
    have stop : R = .inl (acc, i) → V = .tuple #[.string o, .int .i64 i, Bad.nil.enc] := fun e => by rw [HV.out, e, bytes_back HO.out]; rfl
    have fail_ : R = .inr i → V = .tuple #[.string ⟨#[]⟩, .int .i64 0, (refAt i 53).enc] := fun e => by rw [HV.out, e]; rfl
    by_cases hi : i < s.size
    · have hb : s.data.toList[i]'hi = s[i] := rfl
      by_cases hc : s[i] = 92
      · have hc' : (s[i].toNat : Int) = 92 := by rw [hc]; rfl
        have hq : ((s[i].toNat : Int) == 92) = true := by rw [hc']; rfl
        by_cases hi1 : i + 1 < s.size
        · have hm : (i : Int) + 1 < (s.size : Int) := by omega
          by_cases hd : sp4 s[i + 1] = true
          · have hu := unesc_pair (l := s.data.toList) hi1 (hb.trans hc) hd
            rw [hu, comb_comb] at hk
            have HK := Lib.hid hk
            have SP := Lib.hid (fun w => ref_special s[i + 1] w)
            have hsl := slice_one s (i + 1) ((i : Int) + 1) (by omega) hi1 hs
            rw [hd] at SP
            clear hk hu stop fail_ hc hd hb hc'
            go_wp2_with fail
            refine (SP.out _).mono ?_
            rintro ev w' ⟨rfl, rfl⟩
            go_wp2
            go_roundg (gk - 2)
            case measure => omega
            case rel => exact ⟨i + 2, _, acc ++ [s[i + 1]], rfl, rfl, by omega, snoc_data HO.out s (i + 1) hi1, by simp; omega, st, HK.out⟩
          · have hu := unesc_wrong (l := s.data.toList) hi1 (hb.trans hc) (Bool.eq_false_iff.2 hd)
            rw [hu] at hk
            have hV := fail_ (by simpa [comb] using hk)
            have hd' : sp4 s[i + 1] = false := by simpa using hd
            have SP := Lib.hid (fun w => ref_special s[i + 1] w)
            rw [hd'] at SP
            have HF := Lib.hid (show V = .tuple #[.string ⟨#[]⟩, .int .i64 0, .agg #[.int .i64 53, .int .i64 i, .int .i64 0, .bool true, .bool false]] from hV)
            clear hk hu stop fail_ hc hd hb hc' hV HV hd'
            go_wp2_with fail
            refine (SP.out _).mono ?_
            rintro ev w' ⟨rfl, rfl⟩
            go_wp2_with fail
            refine (A53.out i _).mono ?_
            rintro ev w' ⟨rfl, hB⟩
            replace st := st.next hB
            clear hB
            have k0 := blk_cell' (st.blk) 0
            have f0 := blk_free' (st.blk) 0
            have k1 := blk_cell' (st.blk) 1
            have f1 := blk_free' (st.blk) 1
            have k2 := blk_cell' (st.blk) 2
            have f2 := blk_free' (st.blk) 2
            have k3 := blk_cell' (st.blk) 3
            have f3 := blk_free' (st.blk) 3
            have k4 := blk_cell' (st.blk) 4
            have f4 := blk_free' (st.blk) 4
            go_wp2
            refine bodyPost_ret (results_three (v0 := .string ⟨#[]⟩) (v1 := .int .i64 0) (v2 := .agg #[.int .i64 53, .int .i64 i, .int .i64 0, .bool true, .bool false]) Tryz.results112 (res_tmp rfl) (res_tmp rfl) (res_cell (b := w.heap.size) (T' := 35) (fr := (0, 0)) rfl (bad_blk st.blk _ _ _ _ _) Tryz.underlying35 rfl (by kernel_rfl))) rfl ?_
            exact ⟨by rw [HF.out] <;> rfl, below_bad st.B (Nat.le_refl _) _ _ _ _ _⟩
        · have hm : (s.size : Int) ≤ (i : Int) + 1 := by omega
          have hu := unesc_last (l := s.data.toList) hi (hb.trans hc) (by omega)
          rw [hu] at hk
          have hV := fail_ (by simpa [comb] using hk)
          have HF := Lib.hid (show V = .tuple #[.string ⟨#[]⟩, .int .i64 0, .agg #[.int .i64 53, .int .i64 i, .int .i64 0, .bool true, .bool false]] from hV)
          clear hk hu stop fail_ hc hb hc' hV HV
          go_wp2_with fail
          refine (A53.out i _).mono ?_
          rintro ev w' ⟨rfl, hB⟩
          replace st := st.next hB
          clear hB
          have k0 := blk_cell' (st.blk) 0
          have f0 := blk_free' (st.blk) 0
          have k1 := blk_cell' (st.blk) 1
          have f1 := blk_free' (st.blk) 1
          have k2 := blk_cell' (st.blk) 2
          have f2 := blk_free' (st.blk) 2
          have k3 := blk_cell' (st.blk) 3
          have f3 := blk_free' (st.blk) 3
          have k4 := blk_cell' (st.blk) 4
          have f4 := blk_free' (st.blk) 4
          go_wp2
          refine bodyPost_ret (results_three (v0 := .string ⟨#[]⟩) (v1 := .int .i64 0) (v2 := .agg #[.int .i64 53, .int .i64 i, .int .i64 0, .bool true, .bool false]) Tryz.results112 (res_tmp rfl) (res_tmp rfl) (res_cell (b := w.heap.size) (T' := 35) (fr := (0, 0)) rfl (bad_blk st.blk _ _ _ _ _) Tryz.underlying35 rfl (by kernel_rfl))) rfl ?_
          exact ⟨by rw [HF.out] <;> rfl, below_bad st.B (Nat.le_refl _) _ _ _ _ _⟩
      · have hc' : ¬ (s[i].toNat : Int) = 92 := fun e => hc (UInt8.toNat_inj.1 (by show s[i].toNat = 92; omega))
        have hq : ((s[i].toNat : Int) == 92) = false := by simpa using hc'
        have SP := Lib.hid (fun w => ref_special s[i] w)
        by_cases hd : sp4 s[i] = true
        · have hu := unesc_stop (l := s.data.toList) hi (fun e => hc (hb.symm.trans e)) hd
          rw [hu] at hk
          have hV := stop (by simpa [comb] using hk)
          have HF := Lib.hid hV
          rw [hd] at SP
          clear hk hu stop fail_ hc hb hc' hV HV hd
          go_wp2_with fail
          refine (SP.out _).mono ?_
          rintro ev w' ⟨rfl, rfl⟩
          have k0 := blk_cell' (st.blk) 0
          have f0 := blk_free' (st.blk) 0
          have k1 := blk_cell' (st.blk) 1
          have f1 := blk_free' (st.blk) 1
          have k2 := blk_cell' (st.blk) 2
          have f2 := blk_free' (st.blk) 2
          have k3 := blk_cell' (st.blk) 3
          have f3 := blk_free' (st.blk) 3
          have k4 := blk_cell' (st.blk) 4
          have f4 := blk_free' (st.blk) 4
          go_wp2
          refine bodyPost_ret (results_three (v0 := .string o) (v1 := .int .i64 i) (v2 := .agg #[.int .i64 0, .int .i64 0, .int .i64 0, .bool false, .bool false]) Tryz.results112 (res_tmp rfl) (res_tmp rfl) (res_cell (b := w.heap.size) (T' := 35) (fr := (0, 0)) rfl (bad_blk st.blk _ _ _ _ _) Tryz.underlying35 rfl (by kernel_rfl))) rfl ?_
          exact ⟨by rw [HF.out] <;> rfl, below_bad st.B (Nat.le_refl _) _ _ _ _ _⟩
        · have hd' : sp4 s[i] = false := by simpa using hd
          have hu := unesc_bare (l := s.data.toList) hi (fun e => hc (hb.symm.trans e)) hd'
          rw [hu, comb_comb] at hk
          have HK := Lib.hid hk
          rw [hd'] at SP
          have hsl := slice_one s i (i : Int) rfl hi hs
          clear hk hu stop fail_ hc hb hc' hd hd'
          go_wp2_with fail
          refine (SP.out _).mono ?_
          rintro ev w' ⟨rfl, rfl⟩
          go_wp2
          go_roundg (gk - 1)
          case measure => omega
          case rel => exact ⟨i + 1, _, acc ++ [s[i]], rfl, rfl, by omega, snoc_data HO.out s i hi, by simp; omega, st, HK.out⟩
    · have hu := unesc_end (l := s.data.toList) (i := i) (by omega)
      rw [hu] at hk
      have hV := stop (by simpa [comb] using hk)
      have HF := Lib.hid hV
      clear hk hu stop fail_ hV HV
      have k0 := blk_cell' (st.blk) 0
      have f0 := blk_free' (st.blk) 0
      have k1 := blk_cell' (st.blk) 1
      have f1 := blk_free' (st.blk) 1
      have k2 := blk_cell' (st.blk) 2
      have f2 := blk_free' (st.blk) 2
      have k3 := blk_cell' (st.blk) 3
      have f3 := blk_free' (st.blk) 3
      have k4 := blk_cell' (st.blk) 4
      have f4 := blk_free' (st.blk) 4
      go_wp2
      refine bodyPost_ret (results_three (v0 := .string o) (v1 := .int .i64 i) (v2 := .agg #[.int .i64 0, .int .i64 0, .int .i64 0, .bool false, .bool false]) Tryz.results112 (res_tmp rfl) (res_tmp rfl) (res_cell (b := w.heap.size) (T' := 35) (fr := (0, 0)) rfl (bad_blk st.blk _ _ _ _ _) Tryz.underlying35 rfl (by kernel_rfl))) rfl ?_
      exact ⟨by rw [HF.out] <;> rfl, below_bad st.B (Nat.le_refl _) _ _ _ _ _⟩
end Go.Proofs.YtnodjijgeifejaaGreatDoor
