/- weirref06.One: what it keeps in memory; the sticky reader's contracts in one form. -/
import Derived.Test.YtnodjijgeifejaaGreatDoorRpieceA
import Derived.Test.YtnodjijgeifejaaGreatDoorRpieceB
import Derived.Test.YtnodjijgeifejaaGreatDoorRpieceC
import Derived.Test.YtnodjijgeifejaaGreatDoorRnumber
namespace Go.Proofs.YtnodjijgeifejaaGreatDoor
open Go.RowKit
set_option linter.unusedSimpArgs false
set_option linter.unusedVariables false

theorem ref_piece (rb : Nat) (s : ByteArray) (st : RSt) (hs : s.size ≤ 8192) (ha : st.1 ≤ s.size) (w : World) (h : Rst rb s st w) :
    Calls Tryz.prog 91 #[.pointer (some ⟨rb, 0, none⟩)] w fun ev w' => RsPost rb s .string w (pieceR s st) ev w' := by
  obtain ⟨a, b⟩ := st
  cases b with
  | some e => rw [pieceR_bad]; exact ref_piece_bad rb s a e w h
  | none =>
    rcases hU : unesc (s.data.toList.drop a) with ⟨t, n⟩ | e
    · by_cases h0 : n = 0
      · have ht := (by have := unesc_le (s.data.toList.drop a); rw [hU] at this; exact this.2.2.2 h0 : t = [])
        subst h0
        subst ht
        exact ref_piece_zero rb s a hs ha w h hU
      · exact ref_piece_some rb s a hs ha w h t n h0 hU
    · exact ref_piece_err rb s a hs ha w h e hU
theorem ref_number (rb : Nat) (s : ByteArray) (st : RSt) (hs : s.size ≤ 8192) (ha : st.1 ≤ s.size) (w : World) (L : LayS w) (h : Rst rb s st w) :
    Calls Tryz.prog 94 #[.pointer (some ⟨rb, 0, none⟩)] w fun ev w' => RsPost rb s (.int .i64) w (numberR s st) ev w' := by
  obtain ⟨a, b⟩ := st
  cases b with
  | some e => rw [numberR_bad]; exact ref_number_bad rb s a e w h
  | none => exact ref_number_good rb s a hs ha w L h
theorem pieceR_le {s : ByteArray} {st : RSt} (h : st.1 ≤ s.size) : (pieceR s st).2.1 ≤ s.size ∧ st.1 ≤ (pieceR s st).2.1 := by
  obtain ⟨a, b⟩ := st
  cases b with
  | some e => exact ⟨h, Nat.le_refl _⟩
  | none =>
    cases hp : pieceP s a with
    | no e => rw [pieceR_no hp]; exact ⟨h, Nat.le_refl _⟩
    | ok t a' => rw [pieceR_ok hp]; have := pieceP_le hp h; exact ⟨this.2, Nat.le_of_lt this.1⟩
theorem mustR_le {s : ByteArray} {c : UInt8} {st : RSt} (h : st.1 ≤ s.size) : (mustR s c st).1 ≤ s.size ∧ st.1 ≤ (mustR s c st).1 := by
  obtain ⟨a, b⟩ := st
  cases b with
  | some e => exact ⟨h, Nat.le_refl _⟩
  | none =>
    cases hp : signP s c a with
    | no e => rw [mustR_no hp]; exact ⟨h, Nat.le_refl _⟩
    | ok t a' => rw [mustR_ok hp]; have := signP_le hp; exact ⟨by show a' ≤ s.size; omega, by show a ≤ a'; omega⟩
theorem numberR_le {s : ByteArray} {st : RSt} (h : st.1 ≤ s.size) : (numberR s st).2.1 ≤ s.size ∧ st.1 ≤ (numberR s st).2.1 := by
  obtain ⟨a, b⟩ := st
  cases b with
  | some e => exact ⟨h, Nat.le_refl _⟩
  | none =>
    cases hp : numberP s a with
    | no e => rw [numberR_no hp]; exact ⟨h, Nat.le_refl _⟩
    | ok t a' => rw [numberR_ok hp]; exact numberP_le hp h
theorem isR_lt {s : ByteArray} {c : UInt8} {st : RSt} (h : isR s c st = true) : st.1 < s.size ∧ st.2 = none := by
  obtain ⟨a, b⟩ := st
  cases b with
  | some e => cases h
  | none => rw [isR_good] at h; exact ⟨isP_lt' h, rfl⟩
/-- The first end of line, byte by byte. -/
theorem nl_none {s : ByteArray} (h : ∀ j (hj : j < s.size), s[j] ≠ 10) : nlP s = none := by
  unfold nlP
  rw [if_neg]
  intro hm
  obtain ⟨i, hi, e⟩ := List.mem_iff_getElem.1 hm
  exact h i hi e
theorem nl_some {s : ByteArray} {i : Nat} (hi : i < s.size) (h : ∀ j (hj : j < i), s[j] ≠ 10) (he : s[i] = 10) : nlP s = some i := by
  unfold nlP
  have hl : i < s.data.toList.length := hi
  have hg : s.data.toList[i] = 10 := he
  rw [if_pos (List.mem_iff_getElem.2 ⟨i, hl, hg⟩)]
  congr 1
  refine (List.findIdx_eq hl).2 ⟨by rw [hg]; rfl, fun j hj => ?_⟩
  have hn : s.data.toList[j]'(Nat.lt_trans hj hl) ≠ 10 := h j hj
  simpa using hn

structure QSt (w0 : World) (rb pb : Nat) (s : ByteArray) (st : RSt) (m : ByteArray) (tv fv : Value) (tm : Int) (tags : List (ByteArray × ByteArray)) (fs : List (ByteArray × Int)) (w : World) : Prop where
  B : Below w0.heap.size w0 w
  r : Rst rb s st w
  p : w.heap[pb]? = some (.cells #[.string m, tv, fv, .int .i64 tm] 32 (0, 0))
  t : TagsIn w0.heap.size tv tags w
  f : FieldsIn w0.heap.size fv fs w
  q : w.heap[w0.heap.size]? = some ptZ
  z : w.heap[w0.heap.size + 1]? = some badZ
  hr : rb = w0.heap.size + 1 + 1
  hp : pb = w0.heap.size + 1 + 1 + 1
variable {w0 w w' : World} {rb pb : Nat} {s : ByteArray} {st st' : RSt} {m : ByteArray} {tv fv : Value} {tm : Int} {tags : List (ByteArray × ByteArray)} {fs : List (ByteArray × Int)}
theorem QSt.read (h : QSt w0 rb pb s st m tv fv tm tags fs w) (hg : w.grownBy w' (some rb)) (hr : Rst rb s st' w') : QSt w0 rb pb s st' m tv fv tm tags fs w' where
  B := h.B.trans (below_grown1 hg (by have := h.hr; omega) h.B.size)
  r := hr
  p := grown_blk hg h.p (fun e => by have := h.hp; have := h.hr; have := Option.some.inj e; omega)
  t := h.t.kept hg (.inr (own_ne h.t h.r (by decide)))
  f := h.f.kept hg (.inr (own_ne h.f h.r (by decide)))
  q := grown_blk hg h.q (fun e => by have := h.hr; have := Option.some.inj e; omega)
  z := grown_blk hg h.z (fun e => by have := h.hr; have := Option.some.inj e; omega)
  hr := h.hr
  hp := h.hp
theorem QSt.next (h : QSt w0 rb pb s st m tv fv tm tags fs w) (hB : Below w.heap.size w w') : QSt w0 rb pb s st m tv fv tm tags fs w' := h.read (grown_of_below hB (Nat.le_refl _) _) (h.r.next hB)
theorem QSt.alloc (h : QSt w0 rb pb s st m tv fv tm tags fs w) (o : Obj) : QSt w0 rb pb s st m tv fv tm tags fs (w.alloc o) := h.next ((Below.refl _ _).alloc (Nat.le_refl _) o)
theorem QSt.at (h : QSt w0 rb pb s st m tv fv tm tags fs w) (b : Nat) : QSt w0 rb pb s (b, st.2) m tv fv tm tags fs (w.setCell ⟨rb, 1, none⟩ (.int .i64 (b : Int))) := h.read (grown_set (grown_refl _ _) 1 _) (h.r.at b)
theorem QSt.tagAt {w1 : World} (h : QSt w0 rb pb s st m tv fv tm tags fs w) (hg : w.grownBy w1 tv.ownBlock) : w1.heap[pb]? = some (.cells #[.string m, tv, fv, .int .i64 tm] 32 (0, 0)) := grown_blk hg h.p (fun e => own_ne h.t h.p (by decide) e.symm)
theorem QSt.fieldAt {w1 : World} (h : QSt w0 rb pb s st m tv fv tm tags fs w) (hg : w.grownBy w1 fv.ownBlock) : w1.heap[pb]? = some (.cells #[.string m, tv, fv, .int .i64 tm] 32 (0, 0)) := grown_blk hg h.p (fun e => own_ne h.f h.p (by decide) e.symm)
theorem QSt.tag {w1 : World} {tv' : Value} {tags' : List (ByteArray × ByteArray)} (h : QSt w0 rb pb s st m tv fv tm tags fs w) (hown : TagsIn w0.heap.size tv' tags' w1) (hg : w.grownBy w1 tv.ownBlock) :
    QSt w0 rb pb s st m tv' fv tm tags' fs (w1.setCell ⟨pb, 1, none⟩ tv') := by
  have hp1 := h.tagAt hg
  have hr1 : Rst rb s st w1 := grown_blk hg h.r (fun e => own_ne h.t h.r (by decide) e.symm)
  have hf1 : FieldsIn w0.heap.size fv fs w1 := h.f.kept hg (own_apart h.f h.t (by decide))
  have hs : w1.grownBy (w1.setCell ⟨pb, 1, none⟩ tv') (some pb) := grown_set (grown_refl _ _) 1 _
  have hq1 := grown_blk hg h.q (fun e => own_ne h.t h.q (by decide) e.symm)
  have hz1 := grown_blk hg h.z (fun e => own_ne h.t h.z (by decide) e.symm)
  have := h.hp
  have := h.hr
  exact ⟨(h.B.grown hg h.B.size (fun k e => (h.t.lt k e).1)).setCell (p := ⟨pb, 1, none⟩) (by show w0.heap.size ≤ pb; omega) _, blk_far' hr1 (by omega) 1 _, blk_set' hp1 1 _, hown.kept hs (.inr (own_ne hown hp1 (by decide))), hf1.kept hs (.inr (own_ne hf1 hp1 (by decide))), blk_far' hq1 (by omega) 1 _, blk_far' hz1 (by omega) 1 _, h.hr, h.hp⟩
theorem QSt.field {w1 : World} {fv' : Value} {fs' : List (ByteArray × Int)} (h : QSt w0 rb pb s st m tv fv tm tags fs w) (hown : FieldsIn w0.heap.size fv' fs' w1) (hg : w.grownBy w1 fv.ownBlock) :
    QSt w0 rb pb s st m tv fv' tm tags fs' (w1.setCell ⟨pb, 2, none⟩ fv') := by
  have hp1 := h.fieldAt hg
  have hr1 : Rst rb s st w1 := grown_blk hg h.r (fun e => own_ne h.f h.r (by decide) e.symm)
  have ht1 : TagsIn w0.heap.size tv tags w1 := h.t.kept hg (own_apart h.t h.f (by decide))
  have hs : w1.grownBy (w1.setCell ⟨pb, 2, none⟩ fv') (some pb) := grown_set (grown_refl _ _) 2 _
  have hq1 := grown_blk hg h.q (fun e => own_ne h.f h.q (by decide) e.symm)
  have hz1 := grown_blk hg h.z (fun e => own_ne h.f h.z (by decide) e.symm)
  have := h.hp
  have := h.hr
  exact ⟨(h.B.grown hg h.B.size (fun k e => (h.f.lt k e).1)).setCell (p := ⟨pb, 2, none⟩) (by show w0.heap.size ≤ pb; omega) _, blk_far' hr1 (by omega) 2 _, blk_set' hp1 2 _, ht1.kept hs (.inr (own_ne ht1 hp1 (by decide))), hown.kept hs (.inr (own_ne hown hp1 (by decide))), blk_far' hq1 (by omega) 2 _, blk_far' hz1 (by omega) 2 _, h.hr, h.hp⟩
theorem QSt.set0 (h : QSt w0 rb pb s st m tv fv tm tags fs w) (x : ByteArray) : QSt w0 rb pb s st x tv fv tm tags fs (w.setCell ⟨pb, 0, none⟩ (.string x)) := by
  have hs : w.grownBy (w.setCell ⟨pb, 0, none⟩ (.string x)) (some pb) := grown_set (grown_refl _ _) 0 _
  have := h.hp
  have := h.hr
  exact ⟨h.B.setCell (p := ⟨pb, 0, none⟩) (by show w0.heap.size ≤ pb; omega) _, blk_far' h.r (by omega) 0 _, blk_set' h.p 0 _, h.t.kept hs (.inr (own_ne h.t h.p (by decide))), h.f.kept hs (.inr (own_ne h.f h.p (by decide))), blk_far' h.q (by omega) 0 _, blk_far' h.z (by omega) 0 _, h.hr, h.hp⟩
theorem QSt.time (h : QSt w0 rb pb s st m tv fv tm tags fs w) (x : Int) : QSt w0 rb pb s st m tv fv x tags fs (w.setCell ⟨pb, 3, none⟩ (.int .i64 x)) := by
  have hs : w.grownBy (w.setCell ⟨pb, 3, none⟩ (.int .i64 x)) (some pb) := grown_set (grown_refl _ _) 3 _
  have := h.hp
  have := h.hr
  exact ⟨h.B.setCell (p := ⟨pb, 3, none⟩) (by show w0.heap.size ≤ pb; omega) _, blk_far' h.r (by omega) 3 _, blk_set' h.p 3 _, h.t.kept hs (.inr (own_ne h.t h.p (by decide))), h.f.kept hs (.inr (own_ne h.f h.p (by decide))), blk_far' h.q (by omega) 3 _, blk_far' h.z (by omega) 3 _, h.hr, h.hp⟩
end Go.Proofs.YtnodjijgeifejaaGreatDoor
