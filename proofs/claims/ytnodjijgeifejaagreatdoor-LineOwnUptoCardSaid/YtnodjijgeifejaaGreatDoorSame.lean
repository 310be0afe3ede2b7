/- weirboth.Same and weirboth.Is: what each answers, by contracts. -/
import Derived.Test.YtnodjijgeifejaaGreatDoorFault
import Derived.Deep.RegionHeld3
import Derived.Deep.RegionWith
namespace Go.Proofs.YtnodjijgeifejaaGreatDoor
open Go.RowKit Go.Extern.Stop Go.Stop Go.Extern
set_option linter.unusedSimpArgs false
set_option linter.unusedVariables false

/-- Is an error the one that the document tells? -/
def same (e : Option Er) (b : Bad) : Bool :=
  if b.code = 0 then e.isNone else
  match e with
  | none => false
  | some e => e.code? == some b.code && e.at?.isSome == b.placed && e.in?.isSome == b.numbered && (!b.placed || atPos e == b.at_) && (!b.numbered || inPos e == b.in_)

set_option maxRecDepth 100000 in
set_option maxHeartbeats 4000000 in
theorem same_some (e : Er) (b : Bad) (w : World) (hg : HG w) (hn : ¬ b.code = 0) :
    Calls Tryz.prog 11 #[e.enc, b.enc] w fun ev w' => ev = .returned (.bool (same (some e) b)) ∧ Below w.heap.size w w' := by
  have hfin : same (some e) b = (e.code?.isSome && codeOf (some e) == b.code && e.at?.isSome == b.placed && e.in?.isSome == b.numbered && (!b.placed || atPos e == b.at_) && (!b.numbered || inPos e == b.in_)) := by
    simp only [same, if_neg hn, codeOf]
    cases h : e.code? <;> simp
  rw [hfin]
  clear hfin
  obtain ⟨c, p, x, pl, nu⟩ := b
  have hc0 : (c == 0) = false := by simpa using hn
  clear hn
  have C1 := Lib.hid (told_code e)
  have C2 := Lib.hid (told_at e)
  have C3 := Lib.hid (told_in e)
  obtain ⟨tt, tv, he⟩ := e.enc_iface
  rw [he] at C1 C2 C3 ⊢
  clear he
  simp only [Bad.enc]
  generalize codeOf (some e) = k at *
  generalize e.code?.isSome = kb at *
  generalize e.at?.isSome = ab at *
  generalize e.in?.isSome = ib at *
  generalize atPos e = ap at *
  generalize atErr e = ae at *
  generalize inPos e = ip at *
  generalize inErr e = ie at *
  go_enter Tryz.func11, Tryz.ntmps11
  go_wp2_with fail
  refine (C1.out (w.heap.size + 1) _ ((((hg.alloc _).alloc _).alloc _).alloc _) (by repeat (first | exact heap_new' _ _ _ (by first | omega | (simp only [World.size_alloc, World.size_setCell, World.size_drew, size_drewN'] <;> omega)) | refine heap_old' _ _ _ (by first | omega | (simp only [World.size_alloc, World.size_setCell, World.size_drew, size_drewN'] <;> omega)) ?_))).mono ?_
  rintro ev w1 ⟨rfl, hG, hb⟩
  have hB1 : Below w.heap.size w w1 := Below.trans (by go_grown) (below_grown1 hG (by omega) (by first | omega | (simp only [World.size_alloc, World.size_setCell, World.size_drew, size_drewN'] <;> omega)))
  have HB1 := Lib.hid hB1
  have b0 : w1.heap[w.heap.size]? = some (.cells #[.int .i64 c, .int .i64 p, .int .i64 x, .bool pl, .bool nu] 35 (0, 0)) := grown_blk hG (by repeat (first | exact heap_new' _ _ _ (by first | omega | (simp only [World.size_alloc, World.size_setCell, World.size_drew, size_drewN'] <;> omega)) | refine heap_old' _ _ _ (by first | omega | (simp only [World.size_alloc, World.size_setCell, World.size_drew, size_drewN'] <;> omega)) ?_)) (by first | (simp; done) | (simp <;> omega))
  have b2 : w1.heap[w.heap.size + 1 + 1]? = some (.cells #[.int .i64 0, .nilIface] 104 (0, 0)) := grown_blk hG (by repeat (first | exact heap_new' _ _ _ (by first | omega | (simp only [World.size_alloc, World.size_setCell, World.size_drew, size_drewN'] <;> omega)) | refine heap_old' _ _ _ (by first | omega | (simp only [World.size_alloc, World.size_setCell, World.size_drew, size_drewN'] <;> omega)) ?_)) (by first | (simp; done) | (simp <;> omega))
  have b3 : w1.heap[w.heap.size + 1 + 1 + 1]? = some (.cells #[.int .i64 0, .nilIface] 106 (0, 0)) := grown_blk hG (by repeat (first | exact heap_new' _ _ _ (by first | omega | (simp only [World.size_alloc, World.size_setCell, World.size_drew, size_drewN'] <;> omega)) | refine heap_old' _ _ _ (by first | omega | (simp only [World.size_alloc, World.size_setCell, World.size_drew, size_drewN'] <;> omega)) ?_)) (by first | (simp; done) | (simp <;> omega))
  have hg1 : HG w1 := hg.below hB1
  have c0 : w1.cell? ⟨w.heap.size, 0, none⟩ = some (.int .i64 c) := blk_cell' b0 0
  have c1 : w1.cell? ⟨w.heap.size + 1, 0, none⟩ = some (.int .i64 k) := blk_cell' hb 0
  have hz1 : w.heap.size + 1 + 1 + 1 + 1 ≤ w1.heap.size := by have := hG.size; simpa using this
  clear hG hB1
  cases kb with
  | false =>
    clear b0 b2 b3 hg1 hb hg
    go_wp2
    go_ret
    exact ⟨by simp, HB1.out⟩
  | true =>
    by_cases hk : k = c
    · subst hk
      have B0 := Lib.hid b0
      have B2 := Lib.hid b2
      have B3 := Lib.hid b3
      clear b0 b2 b3 hb
      go_wp2_with fail
      have c3 : w1.cell? ⟨w.heap.size, 3, none⟩ = some (.bool pl) := blk_cell' B0.out 3
      have c4 : w1.cell? ⟨w.heap.size, 4, none⟩ = some (.bool nu) := blk_cell' B0.out 4
      have hg1d : HG w1.drew := hg1
      have b2d : w1.drew.heap[w.heap.size + 1 + 1]? = some (.cells #[.int .i64 0, .nilIface] 104 (0, 0)) := B2.out
      have b3d : w1.drew.heap[w.heap.size + 1 + 1 + 1]? = some (.cells #[.int .i64 0, .nilIface] 106 (0, 0)) := B3.out
      have b0d : w1.drew.heap[w.heap.size]? = some (.cells #[.int .i64 k, .int .i64 p, .int .i64 x, .bool pl, .bool nu] 35 (0, 0)) := B0.out
      have hB1d : Below w.heap.size w w1.drew := HB1.out.drew
      have hz1d : w.heap.size + 1 + 1 + 1 + 1 ≤ w1.drew.heap.size := hz1
      have k2 : ∀ w2 : World, w1.drew.grownBy w2 (some (w.heap.size + 1 + 1)) → HG w2 ∧ w2.heap[w.heap.size + 1 + 1 + 1]? = some (.cells #[.int .i64 0, .nilIface] 106 (0, 0)) ∧ w2.heap[w.heap.size]? = some (.cells #[.int .i64 k, .int .i64 p, .int .i64 x, .bool pl, .bool nu] 35 (0, 0)) ∧ Below w.heap.size w w2 := fun w2 h =>
        ⟨(hg.below hB1d).belowN (below_grown1 h (Nat.le_refl _) (by omega)) (by have := hg.lt; omega), grown_blk h b3d (by first | (simp; done) | (simp <;> omega)), grown_blk h b0d (by first | (simp; done) | (simp <;> omega)), hB1d.trans (below_grown1 h (by omega) (by omega))⟩
      have k3 : ∀ w2 w3 : World, w1.drew.grownBy w2 (some (w.heap.size + 1 + 1)) → w2.grownBy w3 (some (w.heap.size + 1 + 1 + 1)) → w3.heap[w.heap.size]? = some (.cells #[.int .i64 k, .int .i64 p, .int .i64 x, .bool pl, .bool nu] 35 (0, 0)) ∧ Below w.heap.size w w3 := fun w2 w3 h h' =>
        ⟨grown_blk h' (k2 w2 h).2.2.1 (by first | (simp; done) | (simp <;> omega)), (k2 w2 h).2.2.2.trans (below_grown1 h' (by omega) (by have := h.size; omega))⟩
      have K2 := Lib.hid k2
      have K3 := Lib.hid k3
      have B2d := Lib.hid b2d
      clear k2 k3 b2d b3d b0d hB1d hz1d hg1 hg
      cases ab <;> cases pl
      · go_region_held3 (fun w' => w'.cell? ⟨w.heap.size, 3, none⟩ = some (.bool false) ∧ w'.cell? ⟨w.heap.size, 4, none⟩ = some (.bool nu))
          (first
            | exact ⟨c3, c4⟩
            | exact ⟨blk_cell' (K2.out _ hG2).2.2.1 3, blk_cell' (K2.out _ hG2).2.2.1 4⟩
            | exact ⟨blk_cell' (K3.out _ _ hG2 hG3).1 3, blk_cell' (K3.out _ _ hG2 hG3).1 4⟩)
          (first
            | (go_at_call 35; (with_reducible refine (C2.out (w.heap.size + 1 + 1) _ hg1d B2d.out).mono ?_); rintro ev w2 ⟨rfl, hG2, hb2⟩)
            | (go_at_call 35; (with_reducible refine (C3.out (w.heap.size + 1 + 1 + 1) _ (K2.out _ hG2).1 (K2.out _ hG2).2.1).mono ?_); rintro ev w3 ⟨rfl, hG3, hb3⟩))
        have HB3 := Lib.hid (K3.out _ _ hG2 hG3).2
        have b0' := (K3.out _ _ hG2 hG3).1
        have e1 : w3.cell? ⟨w.heap.size, 1, none⟩ = some (.int .i64 p) := blk_cell' b0' 1
        have e2 : w3.cell? ⟨w.heap.size, 2, none⟩ = some (.int .i64 x) := blk_cell' b0' 2
        have e3 : w3.cell? ⟨w.heap.size, 3, none⟩ = some (.bool false) := blk_cell' b0' 3
        have e4 : w3.cell? ⟨w.heap.size, 4, none⟩ = some (.bool nu) := blk_cell' b0' 4
        have d1 : w3.cell? ⟨w.heap.size + 1 + 1, 0, none⟩ = some (.int .i64 ap) := blk_cell' (grown_blk hG3 hb2 (by first | (simp; done) | (simp <;> omega))) 0
        have d2 : w3.cell? ⟨w.heap.size + 1 + 1 + 1, 0, none⟩ = some (.int .i64 ip) := blk_cell' hb3 0
        clear hG2 hb2 hG3 hb3 b0' c3 c4 c0 c1
        go_wp2
        all_goals go_ret
        all_goals exact ⟨by cases ib <;> cases nu <;> simp_all, HB3.out⟩
      · -- region 10, the second test not asked
        refine wp_region_any (by kernel_rfl) ?_
        try (change wpAny _ _ _ _ _ _ _ (World.drew _))
        refine wpAny_take (i := 0) (oi := { dst := some 25, op := Op.move (Operand.tmp 0), type := 26, pos := "say.go:25", after := #[], guard := none }) (v := ?va0) rfl (by kernel_rfl) (by kernel_rfl) (by kernel_rfl) (fun _ _ _ h => h) (Or.inl ⟨by rfl, ?hy0⟩) ?re0
        case hy0 => (intro w_; first | (go_simp; done) | (go_simp; with_reducible rfl))
        try simp only [Act.put, List.setIfInBounds_toArray, List.set_cons_zero, List.set_cons_succ]
        refine wpAny_take (i := 1) (oi := { dst := some 26, op := Op.makeInterface 109 (Operand.tmp 6), type := 20, pos := "say.go:25", after := #[], guard := none }) (v := ?va1) rfl (by kernel_rfl) (by kernel_rfl) (by kernel_rfl) (fun _ _ _ h => h) (Or.inl ⟨by rfl, ?hy1⟩) ?re1
        case hy1 => (intro w_; first | (go_simp; done) | (go_simp; with_reducible rfl))
        try simp only [Act.put, List.setIfInBounds_toArray, List.set_cons_zero, List.set_cons_succ]
        refine wpAny_take (i := 3) (oi := { dst := some 28, op := Op.fieldAddr 35 (Operand.tmp 3) 3, type := 0, pos := "say.go:25", after := #[], guard := none }) (v := ?va2) rfl (by kernel_rfl) (by kernel_rfl) (by kernel_rfl) (fun _ _ _ h => h) (Or.inl ⟨by rfl, ?hy2⟩) ?re2
        case hy2 => (intro w_; first | (go_simp; done) | (go_simp; with_reducible rfl))
        try simp only [Act.put, List.setIfInBounds_toArray, List.set_cons_zero, List.set_cons_succ]
        refine wpAny_ready (rs := [2, 4]) (by kernel_rfl) (by simp) ?_
        refine AllReady.cons (o := { dst := some 27, op := Op.call { callee := Callee.value (Operand.func 35), args := #[Operand.tmp 25, Operand.tmp 26], argTypes := #[26, 20] }, type := 4, pos := "say.go:25", after := #[{ on := 0, ground := Ground.data }, { on := 1, ground := Ground.data }], guard := none }) rfl (fun K_ hK_ => ?st3) ?mo3
        case st3 =>
          go_simp
          refine (C2.out (w.heap.size + 1 + 1) _ hg1d B2d.out).mono ?_
          rintro ev w2 ⟨rfl, hG2, hb2⟩
          have HB2 := Lib.hid (K2.out _ hG2).2.2.2
          have f3 : w2.cell? ⟨w.heap.size, 3, none⟩ = some (.bool true) := blk_cell' (K2.out _ hG2).2.2.1 3
          clear hG2 hb2
          simp only []
          refine hK_ _ _ ?_
          clear hK_ K_
          try simp only [Act.put, List.setIfInBounds_toArray, List.set_cons_zero, List.set_cons_succ]
          refine wpAny_ready (rs := [4]) (by kernel_rfl) (by simp) ?_
          refine AllReady.cons (o := { dst := some 29, op := Op.load 4 (Operand.tmp 28), type := 4, pos := "say.go:25", after := #[{ on := 3, ground := Ground.data }], guard := none }) rfl (fun K_ hK_ => ?st4) ?mo4
          case st4 =>
            go_simp
            refine hK_ _ _ ?_
            clear hK_ K_
            try simp only [Act.put, List.setIfInBounds_toArray, List.set_cons_zero, List.set_cons_succ]
            refine wpAny_take (i := 5) (oi := { dst := some 30, op := Op.binOp BinOp.neq 4 (Operand.tmp 27) (Operand.tmp 29) 4, type := 4, pos := "say.go:25", after := #[{ on := 2, ground := Ground.data }, { on := 4, ground := Ground.data }], guard := none }) (v := ?va5) rfl (by kernel_rfl) (by kernel_rfl) (by kernel_rfl) (fun _ _ _ h => h) (Or.inl ⟨by rfl, ?hy5⟩) ?re5
            case hy5 => (intro w_; first | (go_simp; done) | (go_simp; with_reducible rfl))
            try simp only [Act.put, List.setIfInBounds_toArray, List.set_cons_zero, List.set_cons_succ]
            refine wpAny_take (i := 6) (oi := { dst := some 31, op := Op.move (Operand.tmp 30), type := 4, pos := "say.go:25", after := #[{ on := 5, ground := Ground.data }, { on := 2, ground := Ground.chain }], guard := none }) (v := ?va6) rfl (by kernel_rfl) (by kernel_rfl) (by kernel_rfl) (fun _ _ _ h => h) (Or.inl ⟨by rfl, ?hy6⟩) ?re6
            case hy6 => (intro w_; first | (go_simp; done) | (go_simp; with_reducible rfl))
            try simp only [Act.put, List.setIfInBounds_toArray, List.set_cons_zero, List.set_cons_succ]
            refine wpAny_take (i := 7) (oi := { dst := some 32, op := Op.move (Operand.tmp 0), type := 26, pos := "say.go:25", after := #[{ on := 6, ground := Ground.guard }], guard := some (6, false) }) (v := undef) rfl (by kernel_rfl) (by kernel_rfl) (by kernel_rfl) (fun _ _ _ h => h) (Or.inr ⟨by rfl, rfl⟩) ?_
            try simp only [Act.put, List.setIfInBounds_toArray, List.set_cons_zero, List.set_cons_succ]
            refine wpAny_take (i := 8) (oi := { dst := some 33, op := Op.makeInterface 110 (Operand.tmp 7), type := 20, pos := "say.go:25", after := #[{ on := 6, ground := Ground.guard }], guard := some (6, false) }) (v := undef) rfl (by kernel_rfl) (by kernel_rfl) (by kernel_rfl) (fun _ _ _ h => h) (Or.inr ⟨by rfl, rfl⟩) ?_
            try simp only [Act.put, List.setIfInBounds_toArray, List.set_cons_zero, List.set_cons_succ]
            refine wpAny_take (i := 9) (oi := { dst := some 34, op := Op.call { callee := Callee.value (Operand.func 35), args := #[Operand.tmp 32, Operand.tmp 33], argTypes := #[26, 20] }, type := 4, pos := "say.go:25", after := #[{ on := 7, ground := Ground.data }, { on := 8, ground := Ground.data }, { on := 6, ground := Ground.chain }, { on := 6, ground := Ground.guard }], guard := some (6, false) }) (v := undef) rfl (by kernel_rfl) (by kernel_rfl) (by kernel_rfl) (fun _ _ _ h => h) (Or.inr ⟨by rfl, rfl⟩) ?_
            try simp only [Act.put, List.setIfInBounds_toArray, List.set_cons_zero, List.set_cons_succ]
            refine wpAny_take (i := 10) (oi := { dst := some 35, op := Op.fieldAddr 35 (Operand.tmp 3) 4, type := 0, pos := "say.go:25", after := #[{ on := 6, ground := Ground.guard }], guard := some (6, false) }) (v := undef) rfl (by kernel_rfl) (by kernel_rfl) (by kernel_rfl) (fun _ _ _ h => h) (Or.inr ⟨by rfl, rfl⟩) ?_
            try simp only [Act.put, List.setIfInBounds_toArray, List.set_cons_zero, List.set_cons_succ]
            refine wpAny_take (i := 11) (oi := { dst := some 36, op := Op.load 4 (Operand.tmp 35), type := 4, pos := "say.go:25", after := #[{ on := 10, ground := Ground.data }, { on := 6, ground := Ground.guard }], guard := some (6, false) }) (v := undef) rfl (by kernel_rfl) (by kernel_rfl) (by kernel_rfl) (fun _ _ _ h => h) (Or.inr ⟨by rfl, rfl⟩) ?_
            try simp only [Act.put, List.setIfInBounds_toArray, List.set_cons_zero, List.set_cons_succ]
            refine wpAny_take (i := 12) (oi := { dst := some 37, op := Op.binOp BinOp.neq 4 (Operand.tmp 34) (Operand.tmp 36) 4, type := 4, pos := "say.go:25", after := #[{ on := 9, ground := Ground.data }, { on := 11, ground := Ground.data }, { on := 6, ground := Ground.guard }], guard := some (6, false) }) (v := undef) rfl (by kernel_rfl) (by kernel_rfl) (by kernel_rfl) (fun _ _ _ h => h) (Or.inr ⟨by rfl, rfl⟩) ?_
            try simp only [Act.put, List.setIfInBounds_toArray, List.set_cons_zero, List.set_cons_succ]
            refine wpAny_take (i := 13) (oi := { dst := some 38, op := Op.pick (Operand.tmp 31) (Operand.const (Value.bool true)) (Operand.tmp 37), type := 4, pos := "say.go:25", after := #[{ on := 6, ground := Ground.data }, { on := 12, ground := Ground.data }], guard := none }) (v := ?va7) rfl (by kernel_rfl) (by kernel_rfl) (by kernel_rfl) (fun _ _ _ h => h) (Or.inl ⟨by rfl, ?hy7⟩) ?re7
            case hy7 => (intro w_; first | (go_simp; done) | (go_simp; with_reducible rfl))
            try simp only [Act.put, List.setIfInBounds_toArray, List.set_cons_zero, List.set_cons_succ]
            refine wpAny_done (by kernel_rfl) ?_ _
            try simp only [Act.put, List.setIfInBounds_toArray, List.set_cons_zero, List.set_cons_succ]
            clear c3 c4 c0 c1 f3
            go_wp2
            go_ret
            exact ⟨by simp, HB2.out⟩
          exact AllReady.nil
        refine AllReady.cons (o := { dst := some 29, op := Op.load 4 (Operand.tmp 28), type := 4, pos := "say.go:25", after := #[{ on := 3, ground := Ground.data }], guard := none }) rfl (fun K_ hK_ => ?st8) ?mo8
        case st8 =>
          go_simp
          refine hK_ _ _ ?_
          clear hK_ K_
          try simp only [Act.put, List.setIfInBounds_toArray, List.set_cons_zero, List.set_cons_succ]
          refine wpAny_ready (rs := [2]) (by kernel_rfl) (by simp) ?_
          refine AllReady.cons (o := { dst := some 27, op := Op.call { callee := Callee.value (Operand.func 35), args := #[Operand.tmp 25, Operand.tmp 26], argTypes := #[26, 20] }, type := 4, pos := "say.go:25", after := #[{ on := 0, ground := Ground.data }, { on := 1, ground := Ground.data }], guard := none }) rfl (fun K_ hK_ => ?st9) ?mo9
          case st9 =>
            go_simp
            refine (C2.out (w.heap.size + 1 + 1) _ hg1d B2d.out).mono ?_
            rintro ev w2 ⟨rfl, hG2, hb2⟩
            have HB2 := Lib.hid (K2.out _ hG2).2.2.2
            have f3 : w2.cell? ⟨w.heap.size, 3, none⟩ = some (.bool true) := blk_cell' (K2.out _ hG2).2.2.1 3
            clear hG2 hb2
            simp only []
            refine hK_ _ _ ?_
            clear hK_ K_
            try simp only [Act.put, List.setIfInBounds_toArray, List.set_cons_zero, List.set_cons_succ]
            refine wpAny_take (i := 5) (oi := { dst := some 30, op := Op.binOp BinOp.neq 4 (Operand.tmp 27) (Operand.tmp 29) 4, type := 4, pos := "say.go:25", after := #[{ on := 2, ground := Ground.data }, { on := 4, ground := Ground.data }], guard := none }) (v := ?va10) rfl (by kernel_rfl) (by kernel_rfl) (by kernel_rfl) (fun _ _ _ h => h) (Or.inl ⟨by rfl, ?hy10⟩) ?re10
            case hy10 => (intro w_; first | (go_simp; done) | (go_simp; with_reducible rfl))
            try simp only [Act.put, List.setIfInBounds_toArray, List.set_cons_zero, List.set_cons_succ]
            refine wpAny_take (i := 6) (oi := { dst := some 31, op := Op.move (Operand.tmp 30), type := 4, pos := "say.go:25", after := #[{ on := 5, ground := Ground.data }, { on := 2, ground := Ground.chain }], guard := none }) (v := ?va11) rfl (by kernel_rfl) (by kernel_rfl) (by kernel_rfl) (fun _ _ _ h => h) (Or.inl ⟨by rfl, ?hy11⟩) ?re11
            case hy11 => (intro w_; first | (go_simp; done) | (go_simp; with_reducible rfl))
            try simp only [Act.put, List.setIfInBounds_toArray, List.set_cons_zero, List.set_cons_succ]
            refine wpAny_take (i := 7) (oi := { dst := some 32, op := Op.move (Operand.tmp 0), type := 26, pos := "say.go:25", after := #[{ on := 6, ground := Ground.guard }], guard := some (6, false) }) (v := undef) rfl (by kernel_rfl) (by kernel_rfl) (by kernel_rfl) (fun _ _ _ h => h) (Or.inr ⟨by rfl, rfl⟩) ?_
            try simp only [Act.put, List.setIfInBounds_toArray, List.set_cons_zero, List.set_cons_succ]
            refine wpAny_take (i := 8) (oi := { dst := some 33, op := Op.makeInterface 110 (Operand.tmp 7), type := 20, pos := "say.go:25", after := #[{ on := 6, ground := Ground.guard }], guard := some (6, false) }) (v := undef) rfl (by kernel_rfl) (by kernel_rfl) (by kernel_rfl) (fun _ _ _ h => h) (Or.inr ⟨by rfl, rfl⟩) ?_
            try simp only [Act.put, List.setIfInBounds_toArray, List.set_cons_zero, List.set_cons_succ]
            refine wpAny_take (i := 9) (oi := { dst := some 34, op := Op.call { callee := Callee.value (Operand.func 35), args := #[Operand.tmp 32, Operand.tmp 33], argTypes := #[26, 20] }, type := 4, pos := "say.go:25", after := #[{ on := 7, ground := Ground.data }, { on := 8, ground := Ground.data }, { on := 6, ground := Ground.chain }, { on := 6, ground := Ground.guard }], guard := some (6, false) }) (v := undef) rfl (by kernel_rfl) (by kernel_rfl) (by kernel_rfl) (fun _ _ _ h => h) (Or.inr ⟨by rfl, rfl⟩) ?_
            try simp only [Act.put, List.setIfInBounds_toArray, List.set_cons_zero, List.set_cons_succ]
            refine wpAny_take (i := 10) (oi := { dst := some 35, op := Op.fieldAddr 35 (Operand.tmp 3) 4, type := 0, pos := "say.go:25", after := #[{ on := 6, ground := Ground.guard }], guard := some (6, false) }) (v := undef) rfl (by kernel_rfl) (by kernel_rfl) (by kernel_rfl) (fun _ _ _ h => h) (Or.inr ⟨by rfl, rfl⟩) ?_
            try simp only [Act.put, List.setIfInBounds_toArray, List.set_cons_zero, List.set_cons_succ]
            refine wpAny_take (i := 11) (oi := { dst := some 36, op := Op.load 4 (Operand.tmp 35), type := 4, pos := "say.go:25", after := #[{ on := 10, ground := Ground.data }, { on := 6, ground := Ground.guard }], guard := some (6, false) }) (v := undef) rfl (by kernel_rfl) (by kernel_rfl) (by kernel_rfl) (fun _ _ _ h => h) (Or.inr ⟨by rfl, rfl⟩) ?_
            try simp only [Act.put, List.setIfInBounds_toArray, List.set_cons_zero, List.set_cons_succ]
            refine wpAny_take (i := 12) (oi := { dst := some 37, op := Op.binOp BinOp.neq 4 (Operand.tmp 34) (Operand.tmp 36) 4, type := 4, pos := "say.go:25", after := #[{ on := 9, ground := Ground.data }, { on := 11, ground := Ground.data }, { on := 6, ground := Ground.guard }], guard := some (6, false) }) (v := undef) rfl (by kernel_rfl) (by kernel_rfl) (by kernel_rfl) (fun _ _ _ h => h) (Or.inr ⟨by rfl, rfl⟩) ?_
            try simp only [Act.put, List.setIfInBounds_toArray, List.set_cons_zero, List.set_cons_succ]
            refine wpAny_take (i := 13) (oi := { dst := some 38, op := Op.pick (Operand.tmp 31) (Operand.const (Value.bool true)) (Operand.tmp 37), type := 4, pos := "say.go:25", after := #[{ on := 6, ground := Ground.data }, { on := 12, ground := Ground.data }], guard := none }) (v := ?va12) rfl (by kernel_rfl) (by kernel_rfl) (by kernel_rfl) (fun _ _ _ h => h) (Or.inl ⟨by rfl, ?hy12⟩) ?re12
            case hy12 => (intro w_; first | (go_simp; done) | (go_simp; with_reducible rfl))
            try simp only [Act.put, List.setIfInBounds_toArray, List.set_cons_zero, List.set_cons_succ]
            refine wpAny_done (by kernel_rfl) ?_ _
            try simp only [Act.put, List.setIfInBounds_toArray, List.set_cons_zero, List.set_cons_succ]
            clear c3 c4 c0 c1 f3
            go_wp2
            go_ret
            exact ⟨by simp, HB2.out⟩
          exact AllReady.nil
        exact AllReady.nil
      · -- region 10, the second test not asked
        refine wp_region_any (by kernel_rfl) ?_
        try (change wpAny _ _ _ _ _ _ _ (World.drew _))
        refine wpAny_take (i := 0) (oi := { dst := some 25, op := Op.move (Operand.tmp 0), type := 26, pos := "say.go:25", after := #[], guard := none }) (v := ?va13) rfl (by kernel_rfl) (by kernel_rfl) (by kernel_rfl) (fun _ _ _ h => h) (Or.inl ⟨by rfl, ?hy13⟩) ?re13
        case hy13 => (intro w_; first | (go_simp; done) | (go_simp; with_reducible rfl))
        try simp only [Act.put, List.setIfInBounds_toArray, List.set_cons_zero, List.set_cons_succ]
        refine wpAny_take (i := 1) (oi := { dst := some 26, op := Op.makeInterface 109 (Operand.tmp 6), type := 20, pos := "say.go:25", after := #[], guard := none }) (v := ?va14) rfl (by kernel_rfl) (by kernel_rfl) (by kernel_rfl) (fun _ _ _ h => h) (Or.inl ⟨by rfl, ?hy14⟩) ?re14
        case hy14 => (intro w_; first | (go_simp; done) | (go_simp; with_reducible rfl))
        try simp only [Act.put, List.setIfInBounds_toArray, List.set_cons_zero, List.set_cons_succ]
        refine wpAny_take (i := 3) (oi := { dst := some 28, op := Op.fieldAddr 35 (Operand.tmp 3) 3, type := 0, pos := "say.go:25", after := #[], guard := none }) (v := ?va15) rfl (by kernel_rfl) (by kernel_rfl) (by kernel_rfl) (fun _ _ _ h => h) (Or.inl ⟨by rfl, ?hy15⟩) ?re15
        case hy15 => (intro w_; first | (go_simp; done) | (go_simp; with_reducible rfl))
        try simp only [Act.put, List.setIfInBounds_toArray, List.set_cons_zero, List.set_cons_succ]
        refine wpAny_ready (rs := [2, 4]) (by kernel_rfl) (by simp) ?_
        refine AllReady.cons (o := { dst := some 27, op := Op.call { callee := Callee.value (Operand.func 35), args := #[Operand.tmp 25, Operand.tmp 26], argTypes := #[26, 20] }, type := 4, pos := "say.go:25", after := #[{ on := 0, ground := Ground.data }, { on := 1, ground := Ground.data }], guard := none }) rfl (fun K_ hK_ => ?st16) ?mo16
        case st16 =>
          go_simp
          refine (C2.out (w.heap.size + 1 + 1) _ hg1d B2d.out).mono ?_
          rintro ev w2 ⟨rfl, hG2, hb2⟩
          have HB2 := Lib.hid (K2.out _ hG2).2.2.2
          have f3 : w2.cell? ⟨w.heap.size, 3, none⟩ = some (.bool false) := blk_cell' (K2.out _ hG2).2.2.1 3
          clear hG2 hb2
          simp only []
          refine hK_ _ _ ?_
          clear hK_ K_
          try simp only [Act.put, List.setIfInBounds_toArray, List.set_cons_zero, List.set_cons_succ]
          refine wpAny_ready (rs := [4]) (by kernel_rfl) (by simp) ?_
          refine AllReady.cons (o := { dst := some 29, op := Op.load 4 (Operand.tmp 28), type := 4, pos := "say.go:25", after := #[{ on := 3, ground := Ground.data }], guard := none }) rfl (fun K_ hK_ => ?st17) ?mo17
          case st17 =>
            go_simp
            refine hK_ _ _ ?_
            clear hK_ K_
            try simp only [Act.put, List.setIfInBounds_toArray, List.set_cons_zero, List.set_cons_succ]
            refine wpAny_take (i := 5) (oi := { dst := some 30, op := Op.binOp BinOp.neq 4 (Operand.tmp 27) (Operand.tmp 29) 4, type := 4, pos := "say.go:25", after := #[{ on := 2, ground := Ground.data }, { on := 4, ground := Ground.data }], guard := none }) (v := ?va18) rfl (by kernel_rfl) (by kernel_rfl) (by kernel_rfl) (fun _ _ _ h => h) (Or.inl ⟨by rfl, ?hy18⟩) ?re18
            case hy18 => (intro w_; first | (go_simp; done) | (go_simp; with_reducible rfl))
            try simp only [Act.put, List.setIfInBounds_toArray, List.set_cons_zero, List.set_cons_succ]
            refine wpAny_take (i := 6) (oi := { dst := some 31, op := Op.move (Operand.tmp 30), type := 4, pos := "say.go:25", after := #[{ on := 5, ground := Ground.data }, { on := 2, ground := Ground.chain }], guard := none }) (v := ?va19) rfl (by kernel_rfl) (by kernel_rfl) (by kernel_rfl) (fun _ _ _ h => h) (Or.inl ⟨by rfl, ?hy19⟩) ?re19
            case hy19 => (intro w_; first | (go_simp; done) | (go_simp; with_reducible rfl))
            try simp only [Act.put, List.setIfInBounds_toArray, List.set_cons_zero, List.set_cons_succ]
            refine wpAny_take (i := 7) (oi := { dst := some 32, op := Op.move (Operand.tmp 0), type := 26, pos := "say.go:25", after := #[{ on := 6, ground := Ground.guard }], guard := some (6, false) }) (v := undef) rfl (by kernel_rfl) (by kernel_rfl) (by kernel_rfl) (fun _ _ _ h => h) (Or.inr ⟨by rfl, rfl⟩) ?_
            try simp only [Act.put, List.setIfInBounds_toArray, List.set_cons_zero, List.set_cons_succ]
            refine wpAny_take (i := 8) (oi := { dst := some 33, op := Op.makeInterface 110 (Operand.tmp 7), type := 20, pos := "say.go:25", after := #[{ on := 6, ground := Ground.guard }], guard := some (6, false) }) (v := undef) rfl (by kernel_rfl) (by kernel_rfl) (by kernel_rfl) (fun _ _ _ h => h) (Or.inr ⟨by rfl, rfl⟩) ?_
            try simp only [Act.put, List.setIfInBounds_toArray, List.set_cons_zero, List.set_cons_succ]
            refine wpAny_take (i := 9) (oi := { dst := some 34, op := Op.call { callee := Callee.value (Operand.func 35), args := #[Operand.tmp 32, Operand.tmp 33], argTypes := #[26, 20] }, type := 4, pos := "say.go:25", after := #[{ on := 7, ground := Ground.data }, { on := 8, ground := Ground.data }, { on := 6, ground := Ground.chain }, { on := 6, ground := Ground.guard }], guard := some (6, false) }) (v := undef) rfl (by kernel_rfl) (by kernel_rfl) (by kernel_rfl) (fun _ _ _ h => h) (Or.inr ⟨by rfl, rfl⟩) ?_
            try simp only [Act.put, List.setIfInBounds_toArray, List.set_cons_zero, List.set_cons_succ]
            refine wpAny_take (i := 10) (oi := { dst := some 35, op := Op.fieldAddr 35 (Operand.tmp 3) 4, type := 0, pos := "say.go:25", after := #[{ on := 6, ground := Ground.guard }], guard := some (6, false) }) (v := undef) rfl (by kernel_rfl) (by kernel_rfl) (by kernel_rfl) (fun _ _ _ h => h) (Or.inr ⟨by rfl, rfl⟩) ?_
            try simp only [Act.put, List.setIfInBounds_toArray, List.set_cons_zero, List.set_cons_succ]
            refine wpAny_take (i := 11) (oi := { dst := some 36, op := Op.load 4 (Operand.tmp 35), type := 4, pos := "say.go:25", after := #[{ on := 10, ground := Ground.data }, { on := 6, ground := Ground.guard }], guard := some (6, false) }) (v := undef) rfl (by kernel_rfl) (by kernel_rfl) (by kernel_rfl) (fun _ _ _ h => h) (Or.inr ⟨by rfl, rfl⟩) ?_
            try simp only [Act.put, List.setIfInBounds_toArray, List.set_cons_zero, List.set_cons_succ]
            refine wpAny_take (i := 12) (oi := { dst := some 37, op := Op.binOp BinOp.neq 4 (Operand.tmp 34) (Operand.tmp 36) 4, type := 4, pos := "say.go:25", after := #[{ on := 9, ground := Ground.data }, { on := 11, ground := Ground.data }, { on := 6, ground := Ground.guard }], guard := some (6, false) }) (v := undef) rfl (by kernel_rfl) (by kernel_rfl) (by kernel_rfl) (fun _ _ _ h => h) (Or.inr ⟨by rfl, rfl⟩) ?_
            try simp only [Act.put, List.setIfInBounds_toArray, List.set_cons_zero, List.set_cons_succ]
            refine wpAny_take (i := 13) (oi := { dst := some 38, op := Op.pick (Operand.tmp 31) (Operand.const (Value.bool true)) (Operand.tmp 37), type := 4, pos := "say.go:25", after := #[{ on := 6, ground := Ground.data }, { on := 12, ground := Ground.data }], guard := none }) (v := ?va20) rfl (by kernel_rfl) (by kernel_rfl) (by kernel_rfl) (fun _ _ _ h => h) (Or.inl ⟨by rfl, ?hy20⟩) ?re20
            case hy20 => (intro w_; first | (go_simp; done) | (go_simp; with_reducible rfl))
            try simp only [Act.put, List.setIfInBounds_toArray, List.set_cons_zero, List.set_cons_succ]
            refine wpAny_done (by kernel_rfl) ?_ _
            try simp only [Act.put, List.setIfInBounds_toArray, List.set_cons_zero, List.set_cons_succ]
            clear c3 c4 c0 c1 f3
            go_wp2
            go_ret
            exact ⟨by simp, HB2.out⟩
          exact AllReady.nil
        refine AllReady.cons (o := { dst := some 29, op := Op.load 4 (Operand.tmp 28), type := 4, pos := "say.go:25", after := #[{ on := 3, ground := Ground.data }], guard := none }) rfl (fun K_ hK_ => ?st21) ?mo21
        case st21 =>
          go_simp
          refine hK_ _ _ ?_
          clear hK_ K_
          try simp only [Act.put, List.setIfInBounds_toArray, List.set_cons_zero, List.set_cons_succ]
          refine wpAny_ready (rs := [2]) (by kernel_rfl) (by simp) ?_
          refine AllReady.cons (o := { dst := some 27, op := Op.call { callee := Callee.value (Operand.func 35), args := #[Operand.tmp 25, Operand.tmp 26], argTypes := #[26, 20] }, type := 4, pos := "say.go:25", after := #[{ on := 0, ground := Ground.data }, { on := 1, ground := Ground.data }], guard := none }) rfl (fun K_ hK_ => ?st22) ?mo22
          case st22 =>
            go_simp
            refine (C2.out (w.heap.size + 1 + 1) _ hg1d B2d.out).mono ?_
            rintro ev w2 ⟨rfl, hG2, hb2⟩
            have HB2 := Lib.hid (K2.out _ hG2).2.2.2
            have f3 : w2.cell? ⟨w.heap.size, 3, none⟩ = some (.bool false) := blk_cell' (K2.out _ hG2).2.2.1 3
            clear hG2 hb2
            simp only []
            refine hK_ _ _ ?_
            clear hK_ K_
            try simp only [Act.put, List.setIfInBounds_toArray, List.set_cons_zero, List.set_cons_succ]
            refine wpAny_take (i := 5) (oi := { dst := some 30, op := Op.binOp BinOp.neq 4 (Operand.tmp 27) (Operand.tmp 29) 4, type := 4, pos := "say.go:25", after := #[{ on := 2, ground := Ground.data }, { on := 4, ground := Ground.data }], guard := none }) (v := ?va23) rfl (by kernel_rfl) (by kernel_rfl) (by kernel_rfl) (fun _ _ _ h => h) (Or.inl ⟨by rfl, ?hy23⟩) ?re23
            case hy23 => (intro w_; first | (go_simp; done) | (go_simp; with_reducible rfl))
            try simp only [Act.put, List.setIfInBounds_toArray, List.set_cons_zero, List.set_cons_succ]
            refine wpAny_take (i := 6) (oi := { dst := some 31, op := Op.move (Operand.tmp 30), type := 4, pos := "say.go:25", after := #[{ on := 5, ground := Ground.data }, { on := 2, ground := Ground.chain }], guard := none }) (v := ?va24) rfl (by kernel_rfl) (by kernel_rfl) (by kernel_rfl) (fun _ _ _ h => h) (Or.inl ⟨by rfl, ?hy24⟩) ?re24
            case hy24 => (intro w_; first | (go_simp; done) | (go_simp; with_reducible rfl))
            try simp only [Act.put, List.setIfInBounds_toArray, List.set_cons_zero, List.set_cons_succ]
            refine wpAny_take (i := 7) (oi := { dst := some 32, op := Op.move (Operand.tmp 0), type := 26, pos := "say.go:25", after := #[{ on := 6, ground := Ground.guard }], guard := some (6, false) }) (v := undef) rfl (by kernel_rfl) (by kernel_rfl) (by kernel_rfl) (fun _ _ _ h => h) (Or.inr ⟨by rfl, rfl⟩) ?_
            try simp only [Act.put, List.setIfInBounds_toArray, List.set_cons_zero, List.set_cons_succ]
            refine wpAny_take (i := 8) (oi := { dst := some 33, op := Op.makeInterface 110 (Operand.tmp 7), type := 20, pos := "say.go:25", after := #[{ on := 6, ground := Ground.guard }], guard := some (6, false) }) (v := undef) rfl (by kernel_rfl) (by kernel_rfl) (by kernel_rfl) (fun _ _ _ h => h) (Or.inr ⟨by rfl, rfl⟩) ?_
            try simp only [Act.put, List.setIfInBounds_toArray, List.set_cons_zero, List.set_cons_succ]
            refine wpAny_take (i := 9) (oi := { dst := some 34, op := Op.call { callee := Callee.value (Operand.func 35), args := #[Operand.tmp 32, Operand.tmp 33], argTypes := #[26, 20] }, type := 4, pos := "say.go:25", after := #[{ on := 7, ground := Ground.data }, { on := 8, ground := Ground.data }, { on := 6, ground := Ground.chain }, { on := 6, ground := Ground.guard }], guard := some (6, false) }) (v := undef) rfl (by kernel_rfl) (by kernel_rfl) (by kernel_rfl) (fun _ _ _ h => h) (Or.inr ⟨by rfl, rfl⟩) ?_
            try simp only [Act.put, List.setIfInBounds_toArray, List.set_cons_zero, List.set_cons_succ]
            refine wpAny_take (i := 10) (oi := { dst := some 35, op := Op.fieldAddr 35 (Operand.tmp 3) 4, type := 0, pos := "say.go:25", after := #[{ on := 6, ground := Ground.guard }], guard := some (6, false) }) (v := undef) rfl (by kernel_rfl) (by kernel_rfl) (by kernel_rfl) (fun _ _ _ h => h) (Or.inr ⟨by rfl, rfl⟩) ?_
            try simp only [Act.put, List.setIfInBounds_toArray, List.set_cons_zero, List.set_cons_succ]
            refine wpAny_take (i := 11) (oi := { dst := some 36, op := Op.load 4 (Operand.tmp 35), type := 4, pos := "say.go:25", after := #[{ on := 10, ground := Ground.data }, { on := 6, ground := Ground.guard }], guard := some (6, false) }) (v := undef) rfl (by kernel_rfl) (by kernel_rfl) (by kernel_rfl) (fun _ _ _ h => h) (Or.inr ⟨by rfl, rfl⟩) ?_
            try simp only [Act.put, List.setIfInBounds_toArray, List.set_cons_zero, List.set_cons_succ]
            refine wpAny_take (i := 12) (oi := { dst := some 37, op := Op.binOp BinOp.neq 4 (Operand.tmp 34) (Operand.tmp 36) 4, type := 4, pos := "say.go:25", after := #[{ on := 9, ground := Ground.data }, { on := 11, ground := Ground.data }, { on := 6, ground := Ground.guard }], guard := some (6, false) }) (v := undef) rfl (by kernel_rfl) (by kernel_rfl) (by kernel_rfl) (fun _ _ _ h => h) (Or.inr ⟨by rfl, rfl⟩) ?_
            try simp only [Act.put, List.setIfInBounds_toArray, List.set_cons_zero, List.set_cons_succ]
            refine wpAny_take (i := 13) (oi := { dst := some 38, op := Op.pick (Operand.tmp 31) (Operand.const (Value.bool true)) (Operand.tmp 37), type := 4, pos := "say.go:25", after := #[{ on := 6, ground := Ground.data }, { on := 12, ground := Ground.data }], guard := none }) (v := ?va25) rfl (by kernel_rfl) (by kernel_rfl) (by kernel_rfl) (fun _ _ _ h => h) (Or.inl ⟨by rfl, ?hy25⟩) ?re25
            case hy25 => (intro w_; first | (go_simp; done) | (go_simp; with_reducible rfl))
            try simp only [Act.put, List.setIfInBounds_toArray, List.set_cons_zero, List.set_cons_succ]
            refine wpAny_done (by kernel_rfl) ?_ _
            try simp only [Act.put, List.setIfInBounds_toArray, List.set_cons_zero, List.set_cons_succ]
            clear c3 c4 c0 c1 f3
            go_wp2
            go_ret
            exact ⟨by simp, HB2.out⟩
          exact AllReady.nil
        exact AllReady.nil
      · go_region_held3 (fun w' => w'.cell? ⟨w.heap.size, 3, none⟩ = some (.bool true) ∧ w'.cell? ⟨w.heap.size, 4, none⟩ = some (.bool nu))
          (first
            | exact ⟨c3, c4⟩
            | exact ⟨blk_cell' (K2.out _ hG2).2.2.1 3, blk_cell' (K2.out _ hG2).2.2.1 4⟩
            | exact ⟨blk_cell' (K3.out _ _ hG2 hG3).1 3, blk_cell' (K3.out _ _ hG2 hG3).1 4⟩)
          (first
            | (go_at_call 35; (with_reducible refine (C2.out (w.heap.size + 1 + 1) _ hg1d B2d.out).mono ?_); rintro ev w2 ⟨rfl, hG2, hb2⟩)
            | (go_at_call 35; (with_reducible refine (C3.out (w.heap.size + 1 + 1 + 1) _ (K2.out _ hG2).1 (K2.out _ hG2).2.1).mono ?_); rintro ev w3 ⟨rfl, hG3, hb3⟩))
        have HB3 := Lib.hid (K3.out _ _ hG2 hG3).2
        have b0' := (K3.out _ _ hG2 hG3).1
        have e1 : w3.cell? ⟨w.heap.size, 1, none⟩ = some (.int .i64 p) := blk_cell' b0' 1
        have e2 : w3.cell? ⟨w.heap.size, 2, none⟩ = some (.int .i64 x) := blk_cell' b0' 2
        have e3 : w3.cell? ⟨w.heap.size, 3, none⟩ = some (.bool true) := blk_cell' b0' 3
        have e4 : w3.cell? ⟨w.heap.size, 4, none⟩ = some (.bool nu) := blk_cell' b0' 4
        have d1 : w3.cell? ⟨w.heap.size + 1 + 1, 0, none⟩ = some (.int .i64 ap) := blk_cell' (grown_blk hG3 hb2 (by first | (simp; done) | (simp <;> omega))) 0
        have d2 : w3.cell? ⟨w.heap.size + 1 + 1 + 1, 0, none⟩ = some (.int .i64 ip) := blk_cell' hb3 0
        clear hG2 hb2 hG3 hb3 b0' c3 c4 c0 c1
        go_wp2
        all_goals go_ret
        all_goals exact ⟨by cases ib <;> cases nu <;> simp_all, HB3.out⟩
    · have hkc : (k != c) = true := by simpa using hk
      have hkc' : (k == c) = false := by simpa using hk
      have Hk := Lib.hid hkc'
      clear b0 b2 b3 hg1 hb hk hg hkc'
      go_wp2
      go_ret
      exact ⟨by rw [Hk.out]; simp, HB1.out⟩
set_option maxRecDepth 100000 in
set_option maxHeartbeats 1000000 in
theorem weirboth_Same (e : Option Er) (b : Bad) (w : World) (hg : HG w) :
    Calls Tryz.prog 11 #[encE e, b.enc] w fun ev w' => ev = .returned (.bool (same e b)) ∧ Below w.heap.size w w' := by
  by_cases hn : b.code = 0
  · have hs : same e b = e.isNone := by simp [same, hn]
    rw [hs]
    obtain ⟨c, p, x, pl, nu⟩ := b
    obtain rfl : c = 0 := hn
    simp only [Bad.enc]
    cases e with
    | none =>
      show Calls Tryz.prog 11 #[.nilIface, _] w _
      clear hs
      go_enter Tryz.func11, Tryz.ntmps11
      go_wp2_with fail
      go_ret
      exact ⟨rfl, by go_grown⟩
    | some e =>
      show Calls Tryz.prog 11 #[e.enc, _] w _
      obtain ⟨tt, tv, he⟩ := e.enc_iface
      rw [he]
      clear hs he
      go_enter Tryz.func11, Tryz.ntmps11
      go_wp2_with fail
      go_ret
      exact ⟨rfl, by go_grown⟩
  · cases e with
    | some e => exact same_some e b w hg hn
    | none =>
      have hs : same none b = false := by simp [same, hn]
      rw [hs]
      obtain ⟨c, p, x, pl, nu⟩ := b
      have hc0 : (c == 0) = false := by simpa using hn
      simp only [Bad.enc]
      show Calls Tryz.prog 11 #[.nilIface, _] w _
      clear hs hn
      go_enter Tryz.func11, Tryz.ntmps11
      go_wp2_with fail
      go_ret
      exact ⟨rfl, by go_grown⟩
/-- How a walk stands to the world in which it began: below its first blocks nothing has turned; the library's variable lies. -/
structure St (w0 w : World) : Prop where
  B : Below w0.heap.size w0 w
  G : HG w
theorem St.start {w : World} (h : HG w) : St w w := ⟨Below.refl _ _, h⟩
theorem St.next {w0 w w' : World} (s : St w0 w) (h : Below w.heap.size w w') : St w0 w' := ⟨s.B.trans (h.mono s.B.size), s.G.below h⟩
theorem St.alloc {w0 w : World} (s : St w0 w) (o : Obj) : St w0 (w.alloc o) := s.next ((Below.refl _ _).alloc (Nat.le_refl _) o)
end Go.Proofs.YtnodjijgeifejaaGreatDoor
