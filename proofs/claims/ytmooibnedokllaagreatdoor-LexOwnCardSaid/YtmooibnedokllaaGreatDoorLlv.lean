/- weirlaw12.live is true; LexQuotes, LexNexts. -/
import Derived.Test.YtmooibnedokllaaGreatDoorLa
import Derived.Test.YtmooibnedokllaaGreatDoorLq
import Derived.Test.YtmooibnedokllaaGreatDoorLexP
import Derived.Test.YtmooibnedokllaaGreatDoorIs
namespace Go.Proofs.YtmooibnedokllaaGreatDoor
open Go.RowKit
set_option linter.unusedSimpArgs false
set_option linter.unusedVariables false

set_option maxRecDepth 100000 in
set_option maxHeartbeats 2000000 in
theorem lex_live (w : World) (hL : LayU w) :
    Calls Tryz.prog 10 #[] w fun e w' => e = .returned (.bool true) ∧ Below w.heap.size w w' := by
  have C1 : ∀ W, LayU W → Calls Tryz.prog 11 #[.string ⟨#[97, 32, 60, 61, 32, 49, 104]⟩] W (AllPost W (.inl liveToks)) := fun W hW => by rw [← live_all1]; exact lex_All live1 W hW
  have C2 : ∀ W, LayU W → Calls Tryz.prog 11 #[.string ⟨#[97, 32, 33, 32, 98]⟩] W (AllPost W (.inr (120, some 2))) := fun W hW => by rw [← live_all2]; exact lex_All live2 W hW
  have C4 := fun W hW => both_Is (mkAt 2 120) 120 (by decide) W hW
  rw [show isE (mkAt 2 120) 120 = true by decide] at C4
  have C5 := fun W => lex_Quote ⟨#[116, 105, 109, 101]⟩ (by decide) W
  rw [show quoteT ⟨#[116, 105, 109, 101]⟩ = ⟨#[34, 116, 105, 109, 101, 34]⟩ from by unfold quoteT; rw [live_quote]] at C5
  have C6 := fun W => lex_Key ⟨#[83, 69, 76, 69, 67, 84]⟩ (by decide) W
  rw [show isWord ⟨#[83, 69, 76, 69, 67, 84]⟩ = true from live_key] at C6
  have C1 := Lib.hid C1
  have C2 := Lib.hid C2
  have C4 := Lib.hid C4
  have C5 := Lib.hid C5
  have C6 := Lib.hid C6
  have st := Lib.hid (Sq.start hL)
  go_enter Tryz.func10, Tryz.ntmps10
  go_wp2_with fail
  refine (C1.out _ st.out.L).mono ?_
  rintro ev w1 ⟨v, rfl, T, hB⟩
  have st1 := Lib.hid (st.out.next hB)
  obtain ⟨A, c, rfl, hT⟩ := toks_at T
  obtain ⟨g, rfl, hg, hc⟩ := hT.cells (by decide)
  have HC := Lib.hid (And.intro (hc 0 (by decide)) (And.intro (hc 1 (by decide)) (And.intro (hc 2 (by decide)) (hc 3 (by decide)))))
  have hl4 : liveToks.length = 4 := rfl
  clear hc hT T hB
  go_wp2_with fail
  refine (C2.out _ st1.out.L).mono ?_
  rintro ev w2 ⟨rfl, hB⟩
  have st2 := Lib.hid (st1.out.next hB)
  have d0 : w2.cell? ⟨g, 0, none⟩ = some (.int .u8 1) := (hB.cell hg).trans HC.out.1.1
  have d1 : w2.cell? ⟨g, 4 + 1, none⟩ = some (.string ⟨#[60, 61]⟩) := (hB.cell hg).trans HC.out.2.1.2.1
  have d2 : w2.cell? ⟨g, 8, none⟩ = some (.int .u8 5) := (hB.cell hg).trans HC.out.2.2.1.1
  have d3 : w2.cell? ⟨g, 8 + 2, none⟩ = some (.int .i64 3600000000000) := (hB.cell hg).trans HC.out.2.2.1.2.2.1
  have d4 : w2.cell? ⟨g, 12, none⟩ = some (.int .u8 0) := (hB.cell hg).trans HC.out.2.2.2.1
  clear HC hB
  go_wp2_with fail
  refine (C4.out _ st2.out.L.S.L.hg).mono ?_
  rintro ev w3 ⟨rfl, hB⟩
  have st3 := Lib.hid (st2.out.next hB)
  clear hB d0 d1 d2 d3 d4
  go_wp2_with fail
  refine (C5.out _).mono ?_
  rintro ev w4 ⟨rfl, hB⟩
  have st4 := Lib.hid (st3.out.next hB)
  clear hB
  go_wp2_with fail
  refine (C6.out _).mono ?_
  rintro ev w5 ⟨rfl, hB⟩
  have st5 := Lib.hid (st4.out.next hB)
  clear hB
  go_wp2_with fail
  go_ret
  exact ⟨rfl, st5.out.B⟩
set_option maxRecDepth 100000 in
set_option maxHeartbeats 1000000 in
theorem quotes_true (s : ByteArray) (hs : s.size ≤ 140737488355327) (w : World) (hL : LayU w) :
    Calls Tryz.prog 4 #[.string s] w fun e w' => e = .returned (.bool true) ∧ Below w.heap.size w w' := by
  have CL := Lib.hid (fun W hW => lex_live W hW)
  have C1 := fun W => lex_Key s (by omega) W
  have C2 := fun W => r12_Key s (by omega) W
  have C3 := fun W => lex_Quote s hs W
  have C4 := fun W => r12_Quote s hs W
  have C5 := fun W => lex_Text s hs W
  have C6 := fun W => r12_Text s hs W
  generalize isWord s = b at *
  generalize quoteT s = Q at *
  generalize inT 39 s = T at *
  have C1 := Lib.hid C1
  have C2 := Lib.hid C2
  have C3 := Lib.hid C3
  have C4 := Lib.hid C4
  have C5 := Lib.hid C5
  have C6 := Lib.hid C6
  have st := Lib.hid (Sq.start hL)
  go_enter Tryz.func4, Tryz.ntmps4
  go_wp2_with (first | (go_at_call 10; refine (CL.out _ st.out.L).mono ?_; rintro e w1 ⟨rfl, hB⟩; have st1 := Lib.hid (st.out.next hB); clear hB) | (go_at_call 13; refine (C1.out _).mono ?_; rintro e w2 ⟨rfl, hB⟩; have st2 := Lib.hid (st1.out.next hB); clear hB) | (go_at_call 14; refine (C2.out _).mono ?_; rintro e w3 ⟨rfl, hB⟩; have st3 := Lib.hid (st2.out.next hB); clear hB) | (go_at_call 15; refine (C3.out _).mono ?_; rintro e w4 ⟨rfl, hB⟩; have st4 := Lib.hid (st3.out.next hB); clear hB) | (go_at_call 16; refine (C4.out _).mono ?_; rintro e w5 ⟨rfl, hB⟩; have st5 := Lib.hid (st4.out.next hB); clear hB) | (go_at_call 17; refine (C5.out _).mono ?_; rintro e w6 ⟨rfl, hB⟩; have st6 := Lib.hid (st5.out.next hB); clear hB) | (go_at_call 18; refine (C6.out _).mono ?_; rintro e w7 ⟨rfl, hB⟩; have st7 := Lib.hid (st6.out.next hB); clear hB))
  all_goals go_ret
  all_goals exact ⟨ret_b (by simp), st7.out.B⟩
end Go.Proofs.YtmooibnedokllaaGreatDoor
