/- Package lex: a token that begins with a digit. -/
import Derived.Test.YtmooibnedokllaaGreatDoorLxa
import Derived.Test.YtmooibnedokllaaGreatDoorLx6
import Derived.Test.YtmooibnedokllaaGreatDoorSw5
import Derived.Shelf.Strings.SlTrimAscii
namespace Go.Proofs.YtmooibnedokllaaGreatDoor
open Go.RowKit Go.Shelf Go.Proofs
set_option linter.unusedSimpArgs false
set_option linter.unusedVariables false

theorem dw_all (p : UInt8 → Bool) : ∀ L : List UInt8, (∀ x ∈ L.dropWhile p, p x = true) → ∀ x ∈ L, p x = true
  | [], _, x, hx => by cases hx
  | c :: r, h, x, hx => by
    by_cases hc : p c = true
    · rw [List.dropWhile_cons_of_pos hc] at h
      rcases List.mem_cons.1 hx with rfl | hx
      · exact hc
      · exact dw_all p r h x hx
    · rw [List.dropWhile_cons_of_neg hc] at h
      exact h x hx
theorem dw_nil (p : UInt8 → Bool) : ∀ L : List UInt8, (∀ x ∈ L, p x = true) → L.dropWhile p = []
  | [], _ => rfl
  | c :: r, h => by
    rw [List.dropWhile_cons_of_pos (h c (List.mem_cons_self ..))]
    exact dw_nil p r fun x hx => h x (List.mem_cons_of_mem _ hx)
theorem nil_dw (p : UInt8 → Bool) : ∀ L : List UInt8, L.dropWhile p = [] → ∀ x ∈ L, p x = true := fun L h => dw_all p L (by rw [h]; intro x hx; cases hx)
def tenDigits : List UInt8 := [48, 49, 50, 51, 52, 53, 54, 55, 56, 57]
theorem ten_is (c : UInt8) : tenDigits.contains c = isD c := by
  have h : ∀ k : UInt8, (c = k) ↔ c.toNat = k.toNat := fun k => ⟨fun e => congrArg _ e, fun e => UInt8.toNat_inj.1 e⟩
  unfold tenDigits isD
  rw [Bool.eq_iff_iff]
  simp only [List.contains_cons, List.contains_nil, Bool.or_false, Bool.or_eq_true, beq_iff_eq, Bool.and_eq_true, decide_eq_true_eq]
  rw [h 48, h 49, h 50, h 51, h 52, h 53, h 54, h 55, h 56, h 57]
  show c.toNat = 48 ∨ c.toNat = 49 ∨ c.toNat = 50 ∨ c.toNat = 51 ∨ c.toNat = 52 ∨ c.toNat = 53 ∨ c.toNat = 54 ∨ c.toNat = 55 ∨ c.toNat = 56 ∨ c.toNat = 57 ↔ _
  omega
theorem trim_digits (l : List UInt8) : Lib.trimS l tenDigits = [] ↔ runD l = l.length := by
  have hp : ∀ x, (fun c => tenDigits.contains c) x = true ↔ isD x = true := fun x => by show tenDigits.contains x = true ↔ _; rw [ten_is]
  constructor
  · intro h
    have h1 := nil_dw (fun c => tenDigits.contains c) _ h
    have h2 : ∀ x ∈ (l.reverse.dropWhile (fun c => tenDigits.contains c)), (fun c => tenDigits.contains c) x = true := fun x hx => h1 x (List.mem_reverse.2 hx)
    have h3 := dw_all _ _ h2
    have := runD_of l [] (fun c hc => (hp c).1 (h3 c (List.mem_reverse.2 hc))) (fun c hc => by cases hc)
    rwa [List.append_nil] at this
  · intro h
    have h1 := runD_size h
    unfold Lib.trimS Lib.trimLeftS Lib.trimRightS
    rw [dw_nil (fun c => tenDigits.contains c) l.reverse (fun x hx => (hp x).2 (h1 x (List.mem_reverse.1 hx)))]
    rfl
theorem lex_trim (s : ByteArray) (hs : s.size ≤ 140737488355328) (w : World) :
    Calls Tryz.prog 78 #[.string s, .string ⟨#[48, 49, 50, 51, 52, 53, 54, 55, 56, 57]⟩] w fun e w' => e = .returned (.string ⟨(Lib.trimS s.data.toList tenDigits).toArray⟩) ∧ Below w.heap.size w w' :=
  Any.strings_Trim_laid Tryz.lays160 (by kernel_rfl) s ⟨#[48, 49, 50, 51, 52, 53, 54, 55, 56, 57]⟩ w (by omega) (by decide) (ascii_of_all (by decide))
/-- The blocks of a walk through number: the result's token, the token t. -/
structure Tb (x0 x1 x2 x3 : Value) (w0 w : World) : Prop where
  B : Below w0.heap.size w0 w
  ht : w.heap[w0.heap.size]? = some tokO
  tk : w.heap[w0.heap.size + 1]? = some (.cells #[x0, x1, x2, x3] 30 (0, 0))
theorem Tb.next {x0 x1 x2 x3 : Value} {w0 w w' : World} (t : Tb x0 x1 x2 x3 w0 w) (h : Below w.heap.size w w') : Tb x0 x1 x2 x3 w0 w' :=
  ⟨t.B.trans (h.mono t.B.size), below_blk h (blk_lt' t.ht) t.ht, below_blk h (blk_lt' t.tk) t.tk⟩
theorem Tb.set0 {x0 x1 x2 x3 : Value} {w0 w : World} (t : Tb x0 x1 x2 x3 w0 w) (v : Value) : Tb v x1 x2 x3 w0 (w.setCell ⟨w0.heap.size + 1, 0, none⟩ v) :=
  ⟨t.B.setCell (p := ⟨w0.heap.size + 1, 0, none⟩) (Nat.le_succ _) v, blk_far' t.ht (by omega) _ _, by have := blk_set' t.tk 0 v; exact this⟩
theorem Tb.set2 {x0 x1 x2 x3 : Value} {w0 w : World} (t : Tb x0 x1 x2 x3 w0 w) (v : Value) : Tb x0 x1 v x3 w0 (w.setCell ⟨w0.heap.size + 1, 2, none⟩ v) :=
  ⟨t.B.setCell (p := ⟨w0.heap.size + 1, 2, none⟩) (Nat.le_succ _) v, blk_far' t.ht (by omega) _ _, by have := blk_set' t.tk 2 v; exact this⟩
set_option maxRecDepth 100000 in
set_option maxHeartbeats 2000000 in
theorem lex_number (s : ByteArray) (a e : Nat) (hs : s.size ≤ 140737488355328) (hae : a < e) (hes : e ≤ s.size) (w : World) (hL : LayU w) :
    Calls Tryz.prog 32 #[.string s, .int .i64 (a : Int), .int .i64 (e : Int)] w fun ev w' =>
      ev = .returned (.tuple #[(nTok (numberT s a e)).enc, .int .i64 (nEnd (numberT s a e)), encE (nErr (numberT s a e))]) ∧ Below w.heap.size w w' := by
  obtain ⟨T, hT⟩ : ∃ T, T = s.extract a e := ⟨_, rfl⟩
  have hTs : T.size = e - a := by rw [hT, ByteArray.size_extract]; omega
  obtain ⟨R, hR⟩ : ∃ R, R = numberT s a e := ⟨_, rfl⟩
  rw [← hR]
  unfold numberT at hR
  rw [← hT] at hR
  have hsl := slice_to s a e (by omega) hes
  rw [← hT] at hsl
  clear hT
  obtain ⟨V0, hV0⟩ : ∃ V, V = nTok R := ⟨_, rfl⟩
  obtain ⟨V1, hV1⟩ : ∃ V, V = nEnd R := ⟨_, rfl⟩
  obtain ⟨V2, hV2⟩ : ∃ V, V = encE (nErr R) := ⟨_, rfl⟩
  rw [← hV0, ← hV1, ← hV2]
  have HV := Lib.hid (And.intro hV0 (And.intro hV1 hV2))
  clear hV0 hV1 hV2
  obtain ⟨v0, v1, v2, v3⟩ := V0
  simp only [Tok.enc]
  have C0 := lex_trim T (by omega)
  obtain ⟨Y, hY⟩ : ∃ Y, Y = (⟨(Lib.trimS T.data.toList tenDigits).toArray⟩ : ByteArray) := ⟨_, rfl⟩
  rw [← hY] at C0
  have CT := Lib.hid C0
  clear C0
  have hYe : Y.toList.isEmpty = decide (runD T.data.toList = T.size) := by
    rw [Lib.toList_data, hY]
    show (Lib.trimS T.data.toList tenDigits).isEmpty = _
    rw [Bool.eq_iff_iff, List.isEmpty_iff, trim_digits, decide_eq_true_eq]
    exact Iff.rfl
  clear hY
  by_cases hall : runD T.data.toList = T.size
  case pos =>
    rw [if_pos hall] at hR
    have hd := runD_size (l := T.data.toList) hall
    have hne : T.data.toList ≠ [] := fun e0 => by have : T.size = 0 := congrArg List.length e0; omega
    have hA := atoiV_digits T hne hd
    have kY : Y.toList.isEmpty = true := by rw [hYe]; simpa using hall
    clear hYe hd hne hall
    have CP := fun W hW => strconv_ParseInt T (by omega) W hW
    obtain ⟨D, hD⟩ : ∃ D, D = decN T.data.toList := ⟨_, rfl⟩
    rw [← hD] at hA hR
    clear hD
    by_cases hfit : D ≤ 9223372036854775807
    · rw [if_pos hfit] at hA hR
      rw [hA] at CP
      obtain rfl := hR
      obtain ⟨hv, rfl, rfl⟩ : (⟨v0, v1, v2, v3⟩ : Tok) = ⟨4, T, (D : Int), (a : Int)⟩ ∧ V1 = (e : Int) ∧ V2 = .nilIface := HV.out
      simp only [Tok.mk.injEq] at hv
      obtain ⟨hv0, hv1, hv2, hv3⟩ := hv
      replace hv0 := hv0.symm
      replace hv1 := hv1.symm
      replace hv2 := hv2.symm
      replace hv3 := hv3.symm
      subst hv0 hv1 hv2 hv3
      clear HV hA hfit
      obtain ⟨MX, hMX⟩ : ∃ MX : Int, MX = (D : Int) := ⟨_, rfl⟩
      rw [← hMX] at CP
      have HMX := Lib.hid hMX
      clear hMX
      have t : Tb (.int .u8 4) (.string T) (.int .i64 0) (.int .i64 (a : Int)) w ((w.alloc tokO).alloc (.cells #[.int .u8 4, .string T, .int .i64 0, .int .i64 (a : Int)] 30 (0, 0))) := ⟨by go_grown, (heap_old' _ _ _ (by first | omega | (simp only [World.size_alloc, World.size_setCell, World.size_drew, size_drewN'] <;> omega)) (heap_new' _ _ _ (by first | omega | (simp only [World.size_alloc, World.size_setCell, World.size_drew, size_drewN'] <;> omega)))), (heap_new' _ _ _ (by first | omega | (simp only [World.size_alloc, World.size_setCell, World.size_drew, size_drewN'] <;> omega)))⟩
      go_enter Tryz.func32, Tryz.ntmps32
      go_upto_region 2 with (fail)
      generalize (w.alloc tokO).alloc (.cells #[.int .u8 4, .string T, .int .i64 0, .int .i64 (a : Int)] 30 (0, 0)) = W0 at *
      have m3 := t.tk
      have fk0 := blk_cell' (m3) 0
      have ff0 := blk_free' (m3) 0
      have fk1 := blk_cell' (m3) 1
      have ff1 := blk_free' (m3) 1
      have fk2 := blk_cell' (m3) 2
      have ff2 := blk_free' (m3) 2
      have fk3 := blk_cell' (m3) 3
      have ff3 := blk_free' (m3) 3
      clear m3
      go_wp2_with fail
      refine (CT.out _).mono ?_
      rintro ev w' ⟨rfl, hB⟩
      replace t := t.next hB
      clear hB CT fk0 fk1 fk2 fk3 ff0 ff1 ff2 ff3
      have m3 := t.tk
      have fk0 := blk_cell' (m3) 0
      have ff0 := blk_free' (m3) 0
      have fk1 := blk_cell' (m3) 1
      have ff1 := blk_free' (m3) 1
      have fk2 := blk_cell' (m3) 2
      have ff2 := blk_free' (m3) 2
      have fk3 := blk_cell' (m3) 3
      have ff3 := blk_free' (m3) 3
      clear m3
      go_wp2_with fail
      clear fk0 fk1 fk2 fk3 ff0 ff1 ff2 ff3
      refine (CP _ (hL.below t.B).S).mono ?_
      rintro ev w' ⟨er, rfl, her, hB⟩
      obtain rfl : er = .nilIface := her
      replace t := t.next hB
      clear hB CP
      have m3 := t.tk
      have fk0 := blk_cell' (m3) 0
      have ff0 := blk_free' (m3) 0
      have fk1 := blk_cell' (m3) 1
      have ff1 := blk_free' (m3) 1
      have fk2 := blk_cell' (m3) 2
      have ff2 := blk_free' (m3) 2
      have fk3 := blk_cell' (m3) 3
      have ff3 := blk_free' (m3) 3
      clear m3
      go_upto_region 7 with (fail)
      replace t := t.set2 (.int .i64 MX)
      clear fk0 fk1 fk2 fk3 ff0 ff1 ff2 ff3
      have m1 := t.ht
      have m3 := t.tk
      have HB0 := Lib.hid t.B
      have HT := fun v0 v1 v2 v3 => four_blk m1 v0 v1 v2 v3
      have ck0 := blk_cell' (m1) 0
      have cf0 := blk_free' (m1) 0
      have ck1 := blk_cell' (m1) 1
      have cf1 := blk_free' (m1) 1
      have ck2 := blk_cell' (m1) 2
      have cf2 := blk_free' (m1) 2
      have ck3 := blk_cell' (m1) 3
      have cf3 := blk_free' (m1) 3
      have fk0 := blk_cell' (m3) 0
      have ff0 := blk_free' (m3) 0
      have fk1 := blk_cell' (m3) 1
      have ff1 := blk_free' (m3) 1
      have fk2 := blk_cell' (m3) 2
      have ff2 := blk_free' (m3) 2
      have fk3 := blk_cell' (m3) 3
      have ff3 := blk_free' (m3) 3
      clear m1 m3 t
      go_wp2
      exact bodyPost_ret (results_three Tryz.results32 (res_cell (T' := 30) (fr := (0, 0)) rfl (HT _ _ _ _) Tryz.underlying30 rfl (by kernel_rfl)) (res_tmp rfl) (res_tmp rfl)) rfl ⟨(by first | rfl | (rw [← HMX.out]; rfl)), below_four HB0.out (Nat.le_refl _) _ _ _ _⟩
    · rw [if_neg hfit] at hA hR
      rw [hA] at CP
      obtain rfl := hR
      obtain ⟨hv, rfl, rfl⟩ : (⟨v0, v1, v2, v3⟩ : Tok) = Tok.zero ∧ V1 = 0 ∧ V2 = encE (mkAt (a : Int) 122) := HV.out
      simp only [Tok.mk.injEq, Tok.zero] at hv
      obtain ⟨rfl, rfl, rfl, rfl⟩ := hv
      clear HV hA hfit
      obtain ⟨MX, hMX⟩ : ∃ MX : Int, MX = 9223372036854775807 := ⟨_, rfl⟩
      rw [← hMX] at CP
      clear hMX
      have t : Tb (.int .u8 4) (.string T) (.int .i64 0) (.int .i64 (a : Int)) w ((w.alloc tokO).alloc (.cells #[.int .u8 4, .string T, .int .i64 0, .int .i64 (a : Int)] 30 (0, 0))) := ⟨by go_grown, (heap_old' _ _ _ (by first | omega | (simp only [World.size_alloc, World.size_setCell, World.size_drew, size_drewN'] <;> omega)) (heap_new' _ _ _ (by first | omega | (simp only [World.size_alloc, World.size_setCell, World.size_drew, size_drewN'] <;> omega)))), (heap_new' _ _ _ (by first | omega | (simp only [World.size_alloc, World.size_setCell, World.size_drew, size_drewN'] <;> omega)))⟩
      go_enter Tryz.func32, Tryz.ntmps32
      go_upto_region 2 with (fail)
      generalize (w.alloc tokO).alloc (.cells #[.int .u8 4, .string T, .int .i64 0, .int .i64 (a : Int)] 30 (0, 0)) = W0 at *
      have m3 := t.tk
      have fk0 := blk_cell' (m3) 0
      have ff0 := blk_free' (m3) 0
      have fk1 := blk_cell' (m3) 1
      have ff1 := blk_free' (m3) 1
      have fk2 := blk_cell' (m3) 2
      have ff2 := blk_free' (m3) 2
      have fk3 := blk_cell' (m3) 3
      have ff3 := blk_free' (m3) 3
      clear m3
      go_wp2_with fail
      refine (CT.out _).mono ?_
      rintro ev w' ⟨rfl, hB⟩
      replace t := t.next hB
      clear hB CT fk0 fk1 fk2 fk3 ff0 ff1 ff2 ff3
      have m3 := t.tk
      have fk0 := blk_cell' (m3) 0
      have ff0 := blk_free' (m3) 0
      have fk1 := blk_cell' (m3) 1
      have ff1 := blk_free' (m3) 1
      have fk2 := blk_cell' (m3) 2
      have ff2 := blk_free' (m3) 2
      have fk3 := blk_cell' (m3) 3
      have ff3 := blk_free' (m3) 3
      clear m3
      go_wp2_with fail
      clear fk0 fk1 fk2 fk3 ff0 ff1 ff2 ff3
      refine (CP _ (hL.below t.B).S).mono ?_
      rintro ev w' ⟨er, rfl, her, hB⟩
      obtain ⟨pp, rfl⟩ : ∃ p, er = .iface 257 p := her
      replace t := t.next hB
      clear hB CP
      have A := Lib.hid (fun W => fault_At (a : Int) 122 W)
      go_wp2_with fail
      refine (A.out _).mono ?_
      rintro ev w1 ⟨rfl, hB⟩
      obtain ⟨X, hX⟩ : ∃ X, X = encE (mkAt (a : Int) 122) := ⟨_, rfl⟩
      rw [← hX]
      have HX := Lib.hid hX
      replace t := t.next hB
      have m0 := t.ht
      have HB0 := Lib.hid t.B
      have HT := fun v0 v1 v2 v3 => four_blk m0 v0 v1 v2 v3
      have qk0 := blk_cell' (m0) 0
      have qf0 := blk_free' (m0) 0
      have qk1 := blk_cell' (m0) 1
      have qf1 := blk_free' (m0) 1
      have qk2 := blk_cell' (m0) 2
      have qf2 := blk_free' (m0) 2
      have qk3 := blk_cell' (m0) 3
      have qf3 := blk_free' (m0) 3
      clear m0 A hB hX t
      go_wp2
      exact bodyPost_ret (results_three Tryz.results32 (res_cell (T' := 30) (fr := (0, 0)) rfl (HT _ _ _ _) Tryz.underlying30 rfl (by kernel_rfl)) (res_tmp rfl) (res_tmp rfl)) rfl ⟨by rw [← HX.out]; rfl, below_four HB0.out (Nat.le_refl _) _ _ _ _⟩
  case neg =>
    rw [if_neg hall] at hR
    have kY : Y.toList.isEmpty = false := by rw [hYe]; simpa using hall
    clear hYe hall
    have CP := fun W hW => span_Parse T (by omega) W hW
    obtain ⟨PP, hPP⟩ : ∃ PP, PP = parseP T.data.toList := ⟨_, rfl⟩
    rw [← hPP] at CP hR
    clear hPP
    obtain ⟨pv, pc⟩ := PP
    simp only at CP hR
    by_cases hc : pc = 0
    · subst hc
      rw [if_pos rfl] at hR
      obtain rfl := hR
      obtain ⟨hv, rfl, rfl⟩ : (⟨v0, v1, v2, v3⟩ : Tok) = ⟨5, T, pv, (a : Int)⟩ ∧ V1 = (e : Int) ∧ V2 = .nilIface := HV.out
      simp only [Tok.mk.injEq] at hv
      obtain ⟨hv0, hv1, hv2, hv3⟩ := hv
      replace hv0 := hv0.symm
      replace hv1 := hv1.symm
      replace hv2 := hv2.symm
      replace hv3 := hv3.symm
      subst hv0 hv1 hv2 hv3
      clear HV
      rw [show encE (mkE 0) = .nilIface from rfl] at CP
      have t : Tb (.int .u8 4) (.string T) (.int .i64 0) (.int .i64 (a : Int)) w ((w.alloc tokO).alloc (.cells #[.int .u8 4, .string T, .int .i64 0, .int .i64 (a : Int)] 30 (0, 0))) := ⟨by go_grown, (heap_old' _ _ _ (by first | omega | (simp only [World.size_alloc, World.size_setCell, World.size_drew, size_drewN'] <;> omega)) (heap_new' _ _ _ (by first | omega | (simp only [World.size_alloc, World.size_setCell, World.size_drew, size_drewN'] <;> omega)))), (heap_new' _ _ _ (by first | omega | (simp only [World.size_alloc, World.size_setCell, World.size_drew, size_drewN'] <;> omega)))⟩
      go_enter Tryz.func32, Tryz.ntmps32
      go_upto_region 2 with (fail)
      generalize (w.alloc tokO).alloc (.cells #[.int .u8 4, .string T, .int .i64 0, .int .i64 (a : Int)] 30 (0, 0)) = W0 at *
      have m3 := t.tk
      have fk0 := blk_cell' (m3) 0
      have ff0 := blk_free' (m3) 0
      have fk1 := blk_cell' (m3) 1
      have ff1 := blk_free' (m3) 1
      have fk2 := blk_cell' (m3) 2
      have ff2 := blk_free' (m3) 2
      have fk3 := blk_cell' (m3) 3
      have ff3 := blk_free' (m3) 3
      clear m3
      go_wp2_with fail
      refine (CT.out _).mono ?_
      rintro ev w' ⟨rfl, hB⟩
      replace t := t.next hB
      clear hB CT fk0 fk1 fk2 fk3 ff0 ff1 ff2 ff3
      have m3 := t.tk
      have fk0 := blk_cell' (m3) 0
      have ff0 := blk_free' (m3) 0
      have fk1 := blk_cell' (m3) 1
      have ff1 := blk_free' (m3) 1
      have fk2 := blk_cell' (m3) 2
      have ff2 := blk_free' (m3) 2
      have fk3 := blk_cell' (m3) 3
      have ff3 := blk_free' (m3) 3
      clear m3
      go_wp2_with fail
      clear fk0 fk1 fk2 fk3 ff0 ff1 ff2 ff3
      refine (CP _ (hL.below t.B)).mono ?_
      rintro ev w' ⟨rfl, hB⟩
      replace t := t.next hB
      clear hB CP
      have m3 := t.tk
      have fk0 := blk_cell' (m3) 0
      have ff0 := blk_free' (m3) 0
      have fk1 := blk_cell' (m3) 1
      have ff1 := blk_free' (m3) 1
      have fk2 := blk_cell' (m3) 2
      have ff2 := blk_free' (m3) 2
      have fk3 := blk_cell' (m3) 3
      have ff3 := blk_free' (m3) 3
      clear m3
      go_upto_region 12 with (fail)
      replace t := (t.set0 (.int .u8 5)).set2 (.int .i64 pv)
      clear fk0 fk1 fk2 fk3 ff0 ff1 ff2 ff3
      have m1 := t.ht
      have m3 := t.tk
      have HB0 := Lib.hid t.B
      have HT := fun v0 v1 v2 v3 => four_blk m1 v0 v1 v2 v3
      have ck0 := blk_cell' (m1) 0
      have cf0 := blk_free' (m1) 0
      have ck1 := blk_cell' (m1) 1
      have cf1 := blk_free' (m1) 1
      have ck2 := blk_cell' (m1) 2
      have cf2 := blk_free' (m1) 2
      have ck3 := blk_cell' (m1) 3
      have cf3 := blk_free' (m1) 3
      have fk0 := blk_cell' (m3) 0
      have ff0 := blk_free' (m3) 0
      have fk1 := blk_cell' (m3) 1
      have ff1 := blk_free' (m3) 1
      have fk2 := blk_cell' (m3) 2
      have ff2 := blk_free' (m3) 2
      have fk3 := blk_cell' (m3) 3
      have ff3 := blk_free' (m3) 3
      clear m1 m3 t
      go_wp2
      exact bodyPost_ret (results_three Tryz.results32 (res_cell (T' := 30) (fr := (0, 0)) rfl (HT _ _ _ _) Tryz.underlying30 rfl (by kernel_rfl)) (res_tmp rfl) (res_tmp rfl)) rfl ⟨(by first | rfl | (rw [← HMX.out]; rfl)), below_four HB0.out (Nat.le_refl _) _ _ _ _⟩
    · rw [if_neg hc] at hR
      obtain rfl := hR
      obtain ⟨hv, rfl, rfl⟩ : (⟨v0, v1, v2, v3⟩ : Tok) = Tok.zero ∧ V1 = 0 ∧ V2 = encE (mkAt (a : Int) 122) := HV.out
      simp only [Tok.mk.injEq, Tok.zero] at hv
      obtain ⟨rfl, rfl, rfl, rfl⟩ := hv
      obtain ⟨tp, pp, hee⟩ : ∃ tp p, encE (mkE pc) = .iface tp p := ⟨_, _, by rw [show mkE pc = some (.code pc) from if_neg hc]; rfl⟩
      rw [hee] at CP
      clear HV hc hee
      have t : Tb (.int .u8 4) (.string T) (.int .i64 0) (.int .i64 (a : Int)) w ((w.alloc tokO).alloc (.cells #[.int .u8 4, .string T, .int .i64 0, .int .i64 (a : Int)] 30 (0, 0))) := ⟨by go_grown, (heap_old' _ _ _ (by first | omega | (simp only [World.size_alloc, World.size_setCell, World.size_drew, size_drewN'] <;> omega)) (heap_new' _ _ _ (by first | omega | (simp only [World.size_alloc, World.size_setCell, World.size_drew, size_drewN'] <;> omega)))), (heap_new' _ _ _ (by first | omega | (simp only [World.size_alloc, World.size_setCell, World.size_drew, size_drewN'] <;> omega)))⟩
      go_enter Tryz.func32, Tryz.ntmps32
      go_upto_region 2 with (fail)
      generalize (w.alloc tokO).alloc (.cells #[.int .u8 4, .string T, .int .i64 0, .int .i64 (a : Int)] 30 (0, 0)) = W0 at *
      have m3 := t.tk
      have fk0 := blk_cell' (m3) 0
      have ff0 := blk_free' (m3) 0
      have fk1 := blk_cell' (m3) 1
      have ff1 := blk_free' (m3) 1
      have fk2 := blk_cell' (m3) 2
      have ff2 := blk_free' (m3) 2
      have fk3 := blk_cell' (m3) 3
      have ff3 := blk_free' (m3) 3
      clear m3
      go_wp2_with fail
      refine (CT.out _).mono ?_
      rintro ev w' ⟨rfl, hB⟩
      replace t := t.next hB
      clear hB CT fk0 fk1 fk2 fk3 ff0 ff1 ff2 ff3
      have m3 := t.tk
      have fk0 := blk_cell' (m3) 0
      have ff0 := blk_free' (m3) 0
      have fk1 := blk_cell' (m3) 1
      have ff1 := blk_free' (m3) 1
      have fk2 := blk_cell' (m3) 2
      have ff2 := blk_free' (m3) 2
      have fk3 := blk_cell' (m3) 3
      have ff3 := blk_free' (m3) 3
      clear m3
      go_wp2_with fail
      clear fk0 fk1 fk2 fk3 ff0 ff1 ff2 ff3
      refine (CP _ (hL.below t.B)).mono ?_
      rintro ev w' ⟨rfl, hB⟩
      replace t := t.next hB
      clear hB CP
      have A := Lib.hid (fun W => fault_At (a : Int) 122 W)
      go_wp2_with fail
      refine (A.out _).mono ?_
      rintro ev w1 ⟨rfl, hB⟩
      obtain ⟨X, hX⟩ : ∃ X, X = encE (mkAt (a : Int) 122) := ⟨_, rfl⟩
      rw [← hX]
      have HX := Lib.hid hX
      replace t := t.next hB
      have m0 := t.ht
      have HB0 := Lib.hid t.B
      have HT := fun v0 v1 v2 v3 => four_blk m0 v0 v1 v2 v3
      have qk0 := blk_cell' (m0) 0
      have qf0 := blk_free' (m0) 0
      have qk1 := blk_cell' (m0) 1
      have qf1 := blk_free' (m0) 1
      have qk2 := blk_cell' (m0) 2
      have qf2 := blk_free' (m0) 2
      have qk3 := blk_cell' (m0) 3
      have qf3 := blk_free' (m0) 3
      clear m0 A hB hX t
      go_wp2
      exact bodyPost_ret (results_three Tryz.results32 (res_cell (T' := 30) (fr := (0, 0)) rfl (HT _ _ _ _) Tryz.underlying30 rfl (by kernel_rfl)) (res_tmp rfl) (res_tmp rfl)) rfl ⟨by rw [← HX.out]; rfl, below_four HB0.out (Nat.le_refl _) _ _ _ _⟩
end Go.Proofs.YtmooibnedokllaaGreatDoor
