/- weirmem.Book: a list of tokens is taken; tokens alone stand alone. -/
import Derived.Test.YtmooibnedokllaaGreatDoorOw1
import Derived.Test.YtmooibnedokllaaGreatDoorOw4
import Derived.Test.YtmooibnedokllaaGreatDoorRp
import Derived.Laws.Tables
import Derived.Laws.CopyOwn
namespace Go.Proofs.YtmooibnedokllaaGreatDoor
open Go.RowKit
set_option linter.unusedSimpArgs false
set_option linter.unusedVariables false

abbrev nilV : Value := .slice none 0 0
/-- A book that holds tokens alone. -/
def bookC (tv : Value) : Array Value := #[nilV, nilV, nilV, nilV, nilV, nilV, nilV, nilV, nilV, nilV, nilV, nilV, nilV, nilV, tv, nilV, nilV, nilV, nilV, nilV, nilV, nilV, nilV, nilV, nilV, nilV, nilV, nilV]
abbrev bookO (tv : Value) : Obj := .cells (bookC tv) 78 (0, 0)
theorem bookC_nil (tv : Value) (k : Nat) (hk : k < 28) (h : k ≠ 14) : (bookC tv)[k]? = some nilV := by
  have : k = 0 ∨ k = 1 ∨ k = 2 ∨ k = 3 ∨ k = 4 ∨ k = 5 ∨ k = 6 ∨ k = 7 ∨ k = 8 ∨ k = 9 ∨ k = 10 ∨ k = 11 ∨ k = 12 ∨ k = 13 ∨ k = 15 ∨ k = 16 ∨ k = 17 ∨ k = 18 ∨ k = 19 ∨ k = 20 ∨ k = 21 ∨ k = 22 ∨ k = 23 ∨ k = 24 ∨ k = 25 ∨ k = 26 ∨ k = 27 := by omega
  rcases this with rfl | rfl | rfl | rfl | rfl | rfl | rfl | rfl | rfl | rfl | rfl | rfl | rfl | rfl | rfl | rfl | rfl | rfl | rfl | rfl | rfl | rfl | rfl | rfl | rfl | rfl | rfl <;> rfl
theorem book_below {B b : Nat} {w w' : World} (hb : B ≤ b) (h : Below B w w') : Below B w (((((((((((((((((((((((((((((w').setCell ⟨b, 0, none⟩ nilV).setCell ⟨b, 1, none⟩ nilV).setCell ⟨b, 2, none⟩ nilV).setCell ⟨b, 3, none⟩ nilV).setCell ⟨b, 4, none⟩ nilV).setCell ⟨b, 5, none⟩ nilV).setCell ⟨b, 6, none⟩ nilV).setCell ⟨b, 7, none⟩ nilV).setCell ⟨b, 8, none⟩ nilV).setCell ⟨b, 9, none⟩ nilV).setCell ⟨b, 10, none⟩ nilV).setCell ⟨b, 11, none⟩ nilV).setCell ⟨b, 12, none⟩ nilV).setCell ⟨b, 13, none⟩ nilV).setCell ⟨b, 14, none⟩ nilV).setCell ⟨b, 15, none⟩ nilV).setCell ⟨b, 16, none⟩ nilV).setCell ⟨b, 17, none⟩ nilV).setCell ⟨b, 18, none⟩ nilV).setCell ⟨b, 19, none⟩ nilV).setCell ⟨b, 20, none⟩ nilV).setCell ⟨b, 21, none⟩ nilV).setCell ⟨b, 22, none⟩ nilV).setCell ⟨b, 23, none⟩ nilV).setCell ⟨b, 24, none⟩ nilV).setCell ⟨b, 25, none⟩ nilV).setCell ⟨b, 26, none⟩ nilV).setCell ⟨b, 27, none⟩ nilV) := ((((((((((((((((((((((((((((h).setCell (p := ⟨b, 0, none⟩) hb nilV).setCell (p := ⟨b, 1, none⟩) hb nilV).setCell (p := ⟨b, 2, none⟩) hb nilV).setCell (p := ⟨b, 3, none⟩) hb nilV).setCell (p := ⟨b, 4, none⟩) hb nilV).setCell (p := ⟨b, 5, none⟩) hb nilV).setCell (p := ⟨b, 6, none⟩) hb nilV).setCell (p := ⟨b, 7, none⟩) hb nilV).setCell (p := ⟨b, 8, none⟩) hb nilV).setCell (p := ⟨b, 9, none⟩) hb nilV).setCell (p := ⟨b, 10, none⟩) hb nilV).setCell (p := ⟨b, 11, none⟩) hb nilV).setCell (p := ⟨b, 12, none⟩) hb nilV).setCell (p := ⟨b, 13, none⟩) hb nilV).setCell (p := ⟨b, 14, none⟩) hb nilV).setCell (p := ⟨b, 15, none⟩) hb nilV).setCell (p := ⟨b, 16, none⟩) hb nilV).setCell (p := ⟨b, 17, none⟩) hb nilV).setCell (p := ⟨b, 18, none⟩) hb nilV).setCell (p := ⟨b, 19, none⟩) hb nilV).setCell (p := ⟨b, 20, none⟩) hb nilV).setCell (p := ⟨b, 21, none⟩) hb nilV).setCell (p := ⟨b, 22, none⟩) hb nilV).setCell (p := ⟨b, 23, none⟩) hb nilV).setCell (p := ⟨b, 24, none⟩) hb nilV).setCell (p := ⟨b, 25, none⟩) hb nilV).setCell (p := ⟨b, 26, none⟩) hb nilV).setCell (p := ⟨b, 27, none⟩) hb nilV
theorem grown_self5 (w : World) (row : Option Nat) : w.grownBy w row := ⟨rfl, rfl, rfl, Nat.le_refl _, fun _ _ _ => rfl⟩
set_option maxRecDepth 100000 in
set_option maxHeartbeats 1000000 in
theorem take_Tokens (B b n cap : Nat) (ao : Option Addr) (tv : Value) (xs : List Value) (w : World) (hb : w.heap[b]? = some (bookO tv)) (hr : w.ownsRow B tToks 1 tv xs.length xs) (hB : B ≤ w.heap.size) (hx : xs.length ≤ 100) :
    Calls Tryz.prog 25 #[.pointer (some ⟨b, 0, none⟩), .slice ao n cap] w fun e w' => e = .returned (.tuple #[]) ∧
      ∃ tv' w1, w'.heap[b]? = some (bookO tv') ∧ w'.ownsRow B tToks 1 tv' (xs.length + 1) (xs ++ [.slice ao n cap]) ∧ w.grownBy w1 tv.ownBlock ∧ w1.grownBy w' (some b) := by
  obtain ⟨i0, hi_, hz0, hz1, hz2⟩ := info_parts info_TS
  have c0 : w.cell? ⟨b, 14, none⟩ = some tv := by rw [blk_cell' hb]; rfl
  have hbl := blk_lt' hb
  have A1 := (Below.refl w.heap.size w).alloc (Nat.le_refl _) (.cells #[.slice ao n cap] tToks (0, 0))
  have hown := hr.kept (grown_of_below A1 (Nat.le_refl _) none) (by cases hv : tv.ownBlock <;> simp)
  have hb1 := Lib.hid (below_blk A1 hbl hb)
  have HA1 := Lib.hid A1
  have hne : Hid (tv.ownBlock ≠ some b) := Lib.hid (own_apart' hr hb (by decide))
  clear hb hr A1
  go_enter Tryz.func25, Tryz.ntmps25
  go_wp2_with (at_builtin; refine wpList_append_own _ rfl _ _ 63 rfl B tToks i0 (.slice none 0 0) 1 24 Tryz.underlying63 hi_ hz0 hz1 hz2 rfl (by decide) _ _ _ rfl hown ⟨_, 0, none⟩ 1 1 [.slice ao n cap] rfl rfl ?c1 ?c2 ?c3 ?c4 ?c5 ?_)
  case c1 =>
    intro j u hj
    match j, hj with
    | 0, hj => simp at hj; subst hj; exact blk_cell' (heap_new' _ _ _ rfl) 0
  case c2 => intro u hu; simp at hu; subst hu; rfl
  case c3 => unfold maxLen; omega
  case c4 => omega
  case c5 => simp; omega
  intro tv' w9 hown' hgrow _
  obtain ⟨tg, tcap, rfl⟩ := rp_slice hown'
  have q9 := grown_blk hgrow hb1.out (fun e => hne.out e.symm)
  have G1 := Lib.hid (grown_after HA1.out hgrow)
  have HO := Lib.hid (hown'.kept (grown_set (grown_self5 w9 (some b)) 14 (.slice (some ⟨tg, 0, none⟩) (xs.length + 1) tcap)) (.inr (own_apart' hown' q9 (by decide))))
  have x0 : w9.cell? ⟨b, 14, none⟩ = some tv := by rw [blk_cell' q9]; rfl
  have x1 := blk_free' q9 14
  have Q9 : Hid ((w9.setCell ⟨b, 14, none⟩ (.slice (some ⟨tg, 0, none⟩) (xs.length + 1) tcap)).heap[b]? = some (bookO (.slice (some ⟨tg, 0, none⟩) (xs.length + 1) tcap))) := Lib.hid ((blk_set' q9 14 (.slice (some ⟨tg, 0, none⟩) (xs.length + 1) tcap)).trans (by rfl))
  have GS := Lib.hid (grown_set (grown_self5 w9 (some b)) 14 (.slice (some ⟨tg, 0, none⟩) (xs.length + 1) tcap))
  clear hgrow hown' hown q9 hb1 HA1 c0
  go_wp2_with fail
  go_end0
  exact ⟨rfl, _, w9, Q9.out, HO.out, G1.out, GS.out⟩

theorem book_info : (Tryz.prog.info? 78).map (·.size) = some 28 := by kernel_rfl
set_option maxRecDepth 100000 in
set_option maxHeartbeats 4000000 in
theorem book_Alone (x : Bx) (hg : x.Good) (fs : Nat → Nat → Tok) (rc : Nat) (hm : x.m ≤ 20) (hm0 : 0 < x.m) (hBO : x.BO = bookO (.slice (some ⟨x.rg, 0, none⟩) x.m rc)) (hbB : x.B ≤ x.b)
    (crow : ∀ W : World, W.heap[x.rg]? = some x.RO → ∀ j, j < x.m → W.cell? ⟨x.rg, j, none⟩ = some (x.vs j))
    (hT : ∀ j, j < x.m → Tk x.B (x.vs j) (x.ns j) (fs j) x.w) (hb : x.w.heap[x.b]? = some x.BO) (hr : x.w.heap[x.rg]? = some x.RO) :
    Calls Tryz.prog 26 #[.pointer (some ⟨x.b, 0, none⟩)] x.w fun e w' => e = .returned (.bool true) ∧ Below x.B x.w w' := by
  have AT := alone_Tokens x hg fs rc hm hm0 (fun W h => by rw [hBO] at h; rw [blk_cell' h]; rfl) crow hT hb hr
  rw [hBO] at AT hb
  obtain ⟨tv, htv⟩ : ∃ tv, tv = (.slice (some ⟨x.rg, 0, none⟩) x.m rc : Value) := ⟨_, rfl⟩
  rw [← htv] at AT hb
  obtain ⟨b, hbb⟩ : ∃ b, b = x.b := ⟨_, rfl⟩
  rw [← hbb] at AT hb hbB ⊢
  obtain ⟨B, hBB⟩ : ∃ B, B = x.B := ⟨_, rfl⟩
  rw [← hBB] at AT hbB ⊢
  obtain ⟨w, hw⟩ : ∃ w, w = x.w := ⟨_, rfl⟩
  rw [← hw] at AT hb ⊢
  have HB0 := Lib.hid hb
  have AT := Lib.hid AT
  clear hw hBB hbb htv hb hr hT crow hBO hm hm0 hg
  go_enter Tryz.func26, Tryz.ntmps26
  go_wp2_with fail
  refine (alone_Bytes b _ ((blk_cell' HB0.out 0).trans (bookC_nil _ 0 (by decide) (by decide)))).mono ?_
  rintro e w100 ⟨rfl, rfl⟩
  go_wp2_with fail
  refine (alone_Texts b _ ((blk_cell' HB0.out 1).trans (bookC_nil _ 1 (by decide) (by decide)))).mono ?_
  rintro e w101 ⟨rfl, rfl⟩
  go_wp2_with fail
  refine (alone_Ints b _ ((blk_cell' HB0.out 2).trans (bookC_nil _ 2 (by decide) (by decide)))).mono ?_
  rintro e w102 ⟨rfl, rfl⟩
  go_wp2_with fail
  refine (alone_Int64s b _ ((blk_cell' HB0.out 3).trans (bookC_nil _ 3 (by decide) (by decide)))).mono ?_
  rintro e w103 ⟨rfl, rfl⟩
  go_wp2_with fail
  refine (alone_Uint64s b _ ((blk_cell' HB0.out 4).trans (bookC_nil _ 4 (by decide) (by decide)))).mono ?_
  rintro e w104 ⟨rfl, rfl⟩
  go_wp2_with fail
  refine (alone_Tags b _ ((blk_cell' HB0.out 5).trans (bookC_nil _ 5 (by decide) (by decide)))).mono ?_
  rintro e w105 ⟨rfl, rfl⟩
  go_wp2_with fail
  refine (alone_Fields b _ ((blk_cell' HB0.out 6).trans (bookC_nil _ 6 (by decide) (by decide)))).mono ?_
  rintro e w106 ⟨rfl, rfl⟩
  go_wp2_with fail
  refine (alone_Samples b _ ((blk_cell' HB0.out 7).trans (bookC_nil _ 7 (by decide) (by decide)))).mono ?_
  rintro e w107 ⟨rfl, rfl⟩
  go_wp2_with fail
  refine (alone_Nodes b _ ((blk_cell' HB0.out 8).trans (bookC_nil _ 8 (by decide) (by decide)))).mono ?_
  rintro e w108 ⟨rfl, rfl⟩
  go_wp2_with fail
  refine (alone_Labels b _ ((blk_cell' HB0.out 9).trans (bookC_nil _ 9 (by decide) (by decide)))).mono ?_
  rintro e w109 ⟨rfl, rfl⟩
  go_wp2_with fail
  refine (alone_Accs b _ ((blk_cell' HB0.out 10).trans (bookC_nil _ 10 (by decide) (by decide)))).mono ?_
  rintro e w110 ⟨rfl, rfl⟩
  go_wp2_with fail
  refine (alone_Inses b _ ((blk_cell' HB0.out 11).trans (bookC_nil _ 11 (by decide) (by decide)))).mono ?_
  rintro e w111 ⟨rfl, rfl⟩
  go_wp2_with fail
  refine (alone_Entries b _ ((blk_cell' HB0.out 12).trans (bookC_nil _ 12 (by decide) (by decide)))).mono ?_
  rintro e w112 ⟨rfl, rfl⟩
  go_wp2_with fail
  refine (alone_Told b _ ((blk_cell' HB0.out 13).trans (bookC_nil _ 13 (by decide) (by decide)))).mono ?_
  rintro e w113 ⟨rfl, rfl⟩
  go_wp2_with fail
  refine AT.out.mono ?_
  rintro e w2 ⟨rfl, hb2, hB⟩
  have HB1 := Lib.hid hb2
  have HBW := Lib.hid hB
  clear hb2 hB HB0 AT
  go_wp2_with fail
  refine (alone_Slots b _ ((blk_cell' HB1.out 15).trans (bookC_nil _ 15 (by decide) (by decide)))).mono ?_
  rintro e w115 ⟨rfl, rfl⟩
  go_wp2_with fail
  refine (alone_Fates b _ ((blk_cell' HB1.out 16).trans (bookC_nil _ 16 (by decide) (by decide)))).mono ?_
  rintro e w116 ⟨rfl, rfl⟩
  go_wp2_with fail
  refine (alone_Points b _ ((blk_cell' HB1.out 17).trans (bookC_nil _ 17 (by decide) (by decide)))).mono ?_
  rintro e w117 ⟨rfl, rfl⟩
  go_wp2_with fail
  refine (alone_Writes b _ ((blk_cell' HB1.out 18).trans (bookC_nil _ 18 (by decide) (by decide)))).mono ?_
  rintro e w118 ⟨rfl, rfl⟩
  go_wp2_with fail
  refine (alone_Deltas b _ ((blk_cell' HB1.out 19).trans (bookC_nil _ 19 (by decide) (by decide)))).mono ?_
  rintro e w119 ⟨rfl, rfl⟩
  go_wp2_with fail
  refine (alone_SeriesList b _ ((blk_cell' HB1.out 20).trans (bookC_nil _ 20 (by decide) (by decide)))).mono ?_
  rintro e w120 ⟨rfl, rfl⟩
  go_wp2_with fail
  refine (alone_Items b _ ((blk_cell' HB1.out 21).trans (bookC_nil _ 21 (by decide) (by decide)))).mono ?_
  rintro e w121 ⟨rfl, rfl⟩
  go_wp2_with fail
  refine (alone_Tables b _ ((blk_cell' HB1.out 22).trans (bookC_nil _ 22 (by decide) (by decide)))).mono ?_
  rintro e w122 ⟨rfl, rfl⟩
  go_wp2_with fail
  refine (alone_Outs b _ ((blk_cell' HB1.out 23).trans (bookC_nil _ 23 (by decide) (by decide)))).mono ?_
  rintro e w123 ⟨rfl, rfl⟩
  go_wp2_with fail
  refine (alone_TextLists b _ ((blk_cell' HB1.out 24).trans (bookC_nil _ 24 (by decide) (by decide)))).mono ?_
  rintro e w124 ⟨rfl, rfl⟩
  go_wp2_with fail
  refine (alone_Cells b _ ((blk_cell' HB1.out 25).trans (bookC_nil _ 25 (by decide) (by decide)))).mono ?_
  rintro e w125 ⟨rfl, rfl⟩
  go_wp2_with fail
  refine (alone_Rows b _ ((blk_cell' HB1.out 26).trans (bookC_nil _ 26 (by decide) (by decide)))).mono ?_
  rintro e w126 ⟨rfl, rfl⟩
  go_wp2_with fail
  refine (alone_Images b _ ((blk_cell' HB1.out 27).trans (bookC_nil _ 27 (by decide) (by decide)))).mono ?_
  rintro e w127 ⟨rfl, rfl⟩
  have HS := Lib.hid (below_setRow HBW.out hbB (bookC nilV))
  have hbk := HB1.out
  clear HBW AT HB1
  go_upto_region 2 with (fail)
  go_wp2_with (refine wpList_store_row rfl _ _ _ rfl b (bookC nilV) rfl rfl _ (bookC tv) hbk book_info rfl (by kernel_rfl) ?_)
  go_ret
  exact ⟨rfl, HS.out⟩end Go.Proofs.YtmooibnedokllaaGreatDoor
