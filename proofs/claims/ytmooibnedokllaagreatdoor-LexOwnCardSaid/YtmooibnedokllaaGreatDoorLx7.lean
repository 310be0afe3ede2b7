/- The words of the language: letters made small; lex.Key's map, and the reference's switch. -/
import Derived.Test.YtmooibnedokllaaGreatDoorLxa
import Derived.Test.YtmooibnedokllaaGreatDoorLexP
import Derived.WideLaws
import Derived.MapKept
import Derived.Lib.ConvBytes
import Derived.Lib.SlBytesRow
import Derived.Deep.LoopGhost
namespace Go.Proofs.YtmooibnedokllaaGreatDoor
open Go.RowKit
set_option linter.unusedSimpArgs false
set_option linter.unusedVariables false

/-- Byte i of a text of which the first k are made small. -/
def lowAt (s : ByteArray) (k i : Nat) : UInt8 := if i < k then lowC (s.data.toList.getD i 0) else s.data.toList.getD i 0
theorem wrap_u8 (x : Int) : IntKind.u8.wrap x = x % 256 := rfl
theorem lowAt_same {s : ByteArray} {k i : Nat} (h : i ≠ k) : lowAt s (k + 1) i = lowAt s k i := by
  unfold lowAt
  by_cases h1 : i < k
  · rw [if_pos h1, if_pos (by omega)]
  · rw [if_neg h1, if_neg (by omega)]
theorem lowAt_new {s : ByteArray} {k : Nat} (h : k < s.size) : lowAt s (k + 1) k = lowC s[k] := by
  unfold lowAt
  rw [if_pos (by omega), List.getD, List.getElem?_eq_getElem (show k < s.data.toList.length from h)]; rfl
theorem lowAt_old {s : ByteArray} {k : Nat} (h : k < s.size) : lowAt s k k = s[k] := by
  unfold lowAt
  rw [if_neg (by omega), List.getD, List.getElem?_eq_getElem (show k < s.data.toList.length from h)]; rfl
def lowT (s : ByteArray) : ByteArray := ⟨(lowL s.data.toList).toArray⟩
theorem lowT_size (s : ByteArray) : (lowT s).size = s.size := by
  show (lowL s.data.toList).toArray.size = _
  simp [lowL]
theorem lowT_at (s : ByteArray) (i : Nat) (h : i < s.size) : (lowT s)[i]'(by rw [lowT_size]; exact h) = lowAt s s.size i := by
  have h' : i < s.data.toList.length := h
  unfold lowAt
  rw [if_pos h, List.getD, List.getElem?_eq_getElem h']
  show (lowL s.data.toList).toArray[i]'_ = _
  simp [lowL]
theorem lowC_cap {c : UInt8} (h1 : 65 ≤ c.toNat) (h2 : c.toNat ≤ 90) : (lowC c).toNat = c.toNat + 32 := by
  unfold lowC
  rw [if_pos ⟨h1, h2⟩, UInt8.toNat_add]
  show (c.toNat + 32) % 256 = _
  omega
theorem lowC_not {c : UInt8} (h : ¬ (65 ≤ c.toNat ∧ c.toNat ≤ 90)) : lowC c = c := by unfold lowC; rw [if_neg h]
/-- The copy of the text, while it is made small. -/
structure Low (s : ByteArray) (b k : Nat) (w : World) : Prop where
  blk : ∃ C : Array Value, w.heap[b]? = some (.cells C 5 (C.size, C.size + 1)) ∧ s.size ≤ C.size ∧ ∀ i, i < s.size → C[i]? = some (.int .u8 ((lowAt s k i).toNat : Int))
theorem Low.cell {s : ByteArray} {b k : Nat} {w : World} (h : Low s b k w) {i : Nat} (hi : i < s.size) : w.cell? ⟨b, i, none⟩ = some (.int .u8 ((lowAt s k i).toNat : Int)) := by
  obtain ⟨C, h1, h2, h3⟩ := h.blk
  rw [blk_cell' h1]; exact h3 i hi
theorem Low.free {s : ByteArray} {b k : Nat} {w : World} (h : Low s b k w) {i : Nat} (hi : i < s.size) : w.frozen? ⟨b, i, none⟩ = false := by
  obtain ⟨C, h1, h2, h3⟩ := h.blk
  simp [World.frozen?, h1]
  omega
theorem Low.set {s : ByteArray} {b k : Nat} {w : World} (h : Low s b k w) (hk : k < s.size) (v : Value) (hv : v = .int .u8 ((lowC s[k]).toNat : Int)) : Low s b (k + 1) (w.setCell ⟨b, k, none⟩ v) := by
  obtain ⟨C, h1, h2, h3⟩ := h.blk
  refine ⟨C.setIfInBounds k v, ?_, by simpa using h2, fun i hi => ?_⟩
  · have := blk_set' h1 k v
    simpa using this
  · by_cases e : i = k
    · subst e
      rw [Array.getElem?_setIfInBounds, if_pos rfl, if_pos (by omega), lowAt_new hk, hv]
    · rw [Array.getElem?_setIfInBounds, if_neg (fun x => e x.symm), lowAt_same e]
      exact h3 i hi
theorem Low.keep {s : ByteArray} {b k : Nat} {w : World} (h : Low s b k w) (hk : k < s.size) (hv : lowC s[k] = s[k]) : Low s b (k + 1) w := by
  obtain ⟨C, h1, h2, h3⟩ := h.blk
  refine ⟨C, h1, h2, fun i hi => ?_⟩
  by_cases e : i = k
  · subst e
    rw [lowAt_new hk, hv, ← lowAt_old hk]; exact h3 i hi
  · rw [lowAt_same e]; exact h3 i hi
theorem low_start (s : ByteArray) (w : World) : Low s w.heap.size 0 (Lib.bytesWorld w 5 s) := by
  refine ⟨Lib.bytesCells w 5 s, Lib.bytesWorld_at_new w _ s, ?_, fun i hi => ?_⟩
  · unfold Lib.bytesCells
    simp
  · have := Lib.bytesWorld_cell w 5 s i hi
    rw [blk_cell' (Lib.bytesWorld_at_new w _ s)] at this
    rw [this]
    rfl
theorem low_below (s : ByteArray) (w : World) : Below w.heap.size w (Lib.bytesWorld w 5 s) :=
  ⟨by unfold Lib.bytesWorld World.freeze; split <;> rfl, by unfold Lib.bytesWorld World.freeze; split <;> rfl, by unfold Lib.bytesWorld World.freeze; split <;> rfl, by rw [Lib.bytesWorld_size]; omega, fun k hk => Lib.bytesWorld_at_old w _ s k hk⟩
set_option maxRecDepth 100000 in
set_option maxHeartbeats 1000000 in
theorem lex_lower (s : ByteArray) (hs : s.size ≤ 140737488355328) (w : World) :
    Calls Tryz.prog 35 #[.string s] w fun ev w' => ev = .returned (.string (lowT s)) ∧ Below w.heap.size w w' := by
  have hcv : ∀ W, (convert 9 103 (.string s)).run Tryz.prog W = .ok (.slice (some ⟨W.heap.size, 0, none⟩) s.size (grownCap W s.size 0 5)) (Lib.bytesWorld W 5 s) :=
    fun W => Lib.run_convert_string_bytes W 9 103 5 s Tryz.underlying9 Tryz.underlying103 Tryz.underlying5
  have T0 := low_start s w
  have B0 := low_below s w
  have hback : ∀ W cap, Low s w.heap.size s.size W → (convert 103 9 (.slice (some ⟨w.heap.size, 0, none⟩) s.size cap)).run Tryz.prog W = .ok (.string (lowT s)) W := fun W cap h => by
    have := Lib.run_convert_whole (P := Tryz.prog) W 103 5 9 Tryz.underlying103 Tryz.underlying5 Tryz.underlying9 w.heap.size 0 (lowT s) (fun i hi => by
      have hi' : i < s.size := by rw [lowT_size] at hi; exact hi
      rw [Nat.zero_add, h.cell hi', lowT_at s i hi']) cap
    rwa [lowT_size] at this
  obtain ⟨LT, hLT⟩ : ∃ LT, LT = lowT s := ⟨_, rfl⟩
  rw [← hLT] at hback ⊢
  clear hLT
  have HBK := Lib.hid hback
  clear hback
  go_enter Tryz.func35, Tryz.ntmps35
  go_wp2_with fail
  generalize Lib.bytesWorld w 5 s = W0 at *
  generalize grownCap w s.size 0 5 = cap at *
  obtain ⟨n0, hn0⟩ : ∃ n0, n0 = w.heap.size := ⟨_, rfl⟩
  rw [← hn0] at T0 HBK ⊢
  clear hcv
  have HN := Lib.hid hn0
  clear hn0
  go_loopg [10] s.size (fun m v wr => ∃ k : Nat, v = .int .i64 (k : Int) ∧ k + m = s.size ∧ Hid (Low s n0 k wr) ∧ Hid (Below w.heap.size w wr))
  case atStart => exact ⟨0, rfl, by omega, Lib.hid T0, Lib.hid B0⟩
  case round =>
    clear T0 B0
    obtain ⟨k, rfl, hm, HL, HB⟩ := hrel
    by_cases hk : k < s.size
    · have hl : decide ((k : Int) < (s.size : Int)) = true := by rw [decide_eq_true_iff]; omega
      have c0 := HL.out.cell hk
      have f0 := HL.out.free hk
      rw [lowAt_old hk] at c0
      obtain ⟨ch, hc⟩ : ∃ ch : Nat, s[k].toNat = ch := ⟨_, rfl⟩
      rw [hc] at c0
      have hch : ch < 256 := by have := s[k].toNat_lt; omega
      by_cases h1 : 65 ≤ ch ∧ ch ≤ 90
      · have k1 : decide ((65 : Int) ≤ (ch : Int)) = true := by rw [decide_eq_true_iff]; omega
        have k2 : decide ((ch : Int) ≤ (90 : Int)) = true := by rw [decide_eq_true_iff]; omega
        have hw : IntKind.u8.wrap ((ch : Int) + 32) = (ch : Int) + 32 := by rw [wrap_u8]; omega
        have L2 := Lib.hid (HL.out.set hk (.int .u8 ((ch : Int) + 32)) (by rw [lowC_cap (by omega) (by omega), hc]; rfl))
        have B2 := Lib.hid (HB.out.setCell (p := ⟨n0, k, none⟩) (by rw [HN.out]; exact Nat.le_refl _) (.int .u8 ((ch : Int) + 32)))
        clear HL HB h1
        go_wp2_with fail
        go_roundg (gk - 1)
        case measure => omega
        case rel => exact ⟨k + 1, by go_num, by omega, L2, B2⟩
      · have L2 := Lib.hid (HL.out.keep hk (lowC_not (by rw [hc]; exact h1)))
        by_cases h2 : 65 ≤ ch
        · have k1 : decide ((65 : Int) ≤ (ch : Int)) = true := by rw [decide_eq_true_iff]; omega
          have k2 : decide ((ch : Int) ≤ (90 : Int)) = false := by rw [decide_eq_false_iff_not]; omega
          clear HL h1
          go_wp2_with fail
          go_roundg (gk - 1)
          case measure => omega
          case rel => exact ⟨k + 1, by go_num, by omega, L2, HB⟩
        · have k1 : decide ((65 : Int) ≤ (ch : Int)) = false := by rw [decide_eq_false_iff_not]; omega
          clear HL h1
          go_wp2_with fail
          go_roundg (gk - 1)
          case measure => omega
          case rel => exact ⟨k + 1, by go_num, by omega, L2, HB⟩
    · have hl : decide ((k : Int) < (s.size : Int)) = false := by rw [decide_eq_false_iff_not]; omega
      obtain rfl : k = s.size := by omega
      have hcv2 := HBK.out wr cap HL.out
      clear HL HBK
      go_wp2
      go_ret
      exact ⟨rfl, HB.out⟩
theorem lowL_step (l : List UInt8) (i : Nat) (h : i < l.length) : lowL (l.take (i + 1)) = lowL (l.take i) ++ [lowC l[i]] := by
  unfold lowL
  rw [List.take_succ_eq_append_getElem h, List.map_append]; rfl
set_option maxRecDepth 100000 in
set_option maxHeartbeats 1000000 in
theorem r12_Small (s : ByteArray) (hs : s.size ≤ 140737488355328) (w : World) :
    Calls Tryz.prog 36 #[.string s] w fun ev w' => ev = .returned (.string (lowT s)) ∧ Below w.heap.size w w' := by
  have hcv : ∀ W (b : Nat) (c : UInt8) (cap : Nat), W.cell? ⟨b, 0, none⟩ = some (.int .u8 (c.toNat : Int)) → (convert 103 9 (.slice (some ⟨b, 0, none⟩) 1 cap)).run Tryz.prog W = .ok (.string ⟨#[c]⟩) W := fun W b c cap h =>
    Lib.run_convert_whole (P := Tryz.prog) W 103 5 9 Tryz.underlying103 Tryz.underlying5 Tryz.underlying9 b 0 ⟨#[c]⟩ (fun i hi => by
      obtain rfl : i = 0 := by have : i < 1 := hi; omega
      exact h) cap
  have HCV := Lib.hid hcv
  clear hcv
  have hend : ∀ k : Nat, k = s.size → (⟨(lowL (s.data.toList.take k)).toArray⟩ : ByteArray) = lowT s := fun k e => by
    unfold lowT
    rw [List.take_of_length_le (show s.data.toList.length ≤ k by rw [e]; exact Nat.le_refl _)]
  obtain ⟨LT, hLT⟩ : ∃ LT, LT = lowT s := ⟨_, rfl⟩
  rw [← hLT] at hend ⊢
  clear hLT
  have HEND := Lib.hid hend
  clear hend
  go_enter Tryz.func36, Tryz.ntmps36
  go_wp2_with fail
  go_loopg [3, 4] s.size (fun m v3 v4 wr => ∃ (k : Nat) (t : ByteArray), v3 = .string t ∧ v4 = .int .i64 (k : Int) ∧ k + m = s.size ∧ Hid (t = ⟨(lowL (s.data.toList.take k)).toArray⟩) ∧ t.size = k ∧ Hid (Below w.heap.size w wr))
  case atStart => exact ⟨0, ⟨#[]⟩, rfl, rfl, by omega, Lib.hid (by simp [lowL]), rfl, Lib.hid (Below.refl _ _)⟩
  case round =>
    obtain ⟨k, t, rfl, rfl, hm, HT, hts, HB⟩ := hrel
    by_cases hk : k < s.size
    · have hl : decide ((k : Int) < (s.size : Int)) = true := by rw [decide_eq_true_iff]; omega
      have hstep : t ++ ⟨#[lowC s[k]]⟩ = ⟨(lowL (s.data.toList.take (k + 1))).toArray⟩ := by
        rw [HT.out, lowL_step s.data.toList k hk]
        apply bytes_ext
        rw [data_app]; simp; rfl
      have HS := Lib.hid hstep
      clear hstep
      have hz1 : (⟨#[lowC s[k]]⟩ : ByteArray).size = 1 := rfl
      obtain ⟨cv, hcv⟩ : ∃ cv, cv = HCV.out wr := ⟨_, rfl⟩
      clear hcv
      have hfs : t.size + 1 ≤ s.size := by omega
      obtain ⟨ch, hc⟩ : ∃ ch : Nat, s[k].toNat = ch := ⟨_, rfl⟩
      have hch : ch < 256 := by have := s[k].toNat_lt; omega
      have hts2 : (t ++ ⟨#[lowC s[k]]⟩).size = k + 1 := by rw [ByteArray.size_append]; show t.size + 1 = _; omega
      have HTS := Lib.hid hts2
      by_cases h1 : 65 ≤ ch ∧ ch ≤ 90
      · have k1 : decide ((65 : Int) ≤ (ch : Int)) = true := by rw [decide_eq_true_iff]; omega
        have k2 : decide ((ch : Int) ≤ (90 : Int)) = true := by rw [decide_eq_true_iff]; omega
        have hw : IntKind.u8.wrap ((ch : Int) + 32) = (ch : Int) + 32 := by rw [wrap_u8]; omega
        have hcc : (((lowC s[k]).toNat : Nat) : Int) = (ch : Int) + 32 := by rw [lowC_cap (by omega) (by omega), hc]; rfl
        have cvx : ∀ W b cap, W.cell? ⟨b, 0, none⟩ = some (.int .u8 ((ch : Int) + 32)) → (convert 103 9 (.slice (some ⟨b, 0, none⟩) 1 cap)).run Tryz.prog W = .ok (.string ⟨#[lowC s[k]]⟩) W := fun W b cap h => HCV.out W b (lowC s[k]) cap (by rw [hcc]; exact h)
        have CX := Lib.hid cvx
        clear cvx hcc h1 cv hts2 HT
        generalize (⟨#[lowC s[k]]⟩ : ByteArray) = C1 at *
        have cvy := CX.out (wr.alloc (.cells #[.int .u8 ((ch : Int) + 32)] 5 (0, 0))) wr.heap.size 1 (blk_cell' (heap_alloc_new wr _) 0)
        have hq := heap_alloc_new wr (.cells #[.int .u8 ((ch : Int) + 32)] 5 (0, 0))
        clear CX
        go_wp2_with fail
        go_roundg (gk - 1)
        case measure => omega
        case rel => exact ⟨k + 1, _, by rfl, by go_num, by omega, HS, HTS.out, Lib.hid (HB.out.alloc HB.out.size _)⟩
      · have hcc : lowC s[k] = s[k] := lowC_not (by rw [hc]; exact h1)
        have cvx : ∀ W b cap, W.cell? ⟨b, 0, none⟩ = some (.int .u8 (ch : Int)) → (convert 103 9 (.slice (some ⟨b, 0, none⟩) 1 cap)).run Tryz.prog W = .ok (.string ⟨#[lowC s[k]]⟩) W := fun W b cap h => HCV.out W b (lowC s[k]) cap (by rw [hcc, hc]; exact h)
        have CX := Lib.hid cvx
        clear cvx hcc cv hts2 HT
        generalize (⟨#[lowC s[k]]⟩ : ByteArray) = C1 at *
        have cvy := CX.out (wr.alloc (.cells #[.int .u8 (ch : Int)] 5 (0, 0))) wr.heap.size 1 (blk_cell' (heap_alloc_new wr _) 0)
        clear CX
        by_cases h2 : 65 ≤ ch
        · have k1 : decide ((65 : Int) ≤ (ch : Int)) = true := by rw [decide_eq_true_iff]; omega
          have k2 : decide ((ch : Int) ≤ (90 : Int)) = false := by rw [decide_eq_false_iff_not]; omega
          clear h1
          go_wp2_with fail
          go_roundg (gk - 1)
          case measure => omega
          case rel => exact ⟨k + 1, _, by rfl, by go_num, by omega, HS, HTS.out, Lib.hid (HB.out.alloc HB.out.size _)⟩
        · have k1 : decide ((65 : Int) ≤ (ch : Int)) = false := by rw [decide_eq_false_iff_not]; omega
          clear h1
          go_wp2_with fail
          go_roundg (gk - 1)
          case measure => omega
          case rel => exact ⟨k + 1, _, by rfl, by go_num, by omega, HS, HTS.out, Lib.hid (HB.out.alloc HB.out.size _)⟩
    · have hl : decide ((k : Int) < (s.size : Int)) = false := by rw [decide_eq_false_iff_not]; omega
      obtain rfl : t = LT := HT.out.trans (HEND.out k (by omega))
      clear HEND HT HCV
      go_wp2
      go_ret
      exact ⟨rfl, HB.out⟩

def wordEntries : List (List UInt8) → Nat → List MapEntry
  | [], _ => []
  | p :: r, i => ⟨.string ⟨p.toArray⟩, .int .i64 1, i⟩ :: wordEntries r (i + 1)
def wordRow (l : List (List UInt8)) : Obj := .map (wordEntries l 0).toArray l.length
theorem wordEntries_snoc (p : List UInt8) : ∀ (l : List (List UInt8)) (i : Nat), wordEntries (l ++ [p]) i = wordEntries l i ++ [⟨.string ⟨p.toArray⟩, .int .i64 1, i + l.length⟩]
  | [], i => by simp [wordEntries]
  | q :: l, i => by simp [wordEntries, wordEntries_snoc p l (i + 1)]; omega
theorem ba_beq_self (s : ByteArray) : (s == s) = true := (MapKept.bytes_beq s s).2 rfl
theorem ba_beq_ne {s t : ByteArray} (h : s ≠ t) : (s == t) = false := by
  cases e : (s == t) with
  | false => rfl
  | true => exact absurd ((MapKept.bytes_beq s t).1 e) h
theorem findWord (s : List UInt8) : ∀ (l : List (List UInt8)) (i j : Nat), ∃ r, Instr.findNow .string (.string ⟨s.toArray⟩) (wordEntries l i) j = some r ∧ r.map (·.2) = if s ∈ l then some (Value.int .i64 1) else none
  | [], i, j => ⟨none, rfl, by simp⟩
  | p :: r, i, j => by
    obtain ⟨x, hx, hv⟩ := findWord s r (i + 1) (j + 1)
    by_cases h : s = p
    · subst h
      refine ⟨some (j, .int .i64 1), ?_, by simp⟩
      simp [wordEntries, Instr.findNow, Instr.sameNow, ba_beq_self]
    · refine ⟨x, ?_, by rw [hv]; simp [h]⟩
      have hne : ((⟨s.toArray⟩ : ByteArray) == ⟨p.toArray⟩) = false := ba_beq_ne (fun e => h (by have := congrArg (fun b : ByteArray => b.data.toList) e; simpa using this))
      simp [wordEntries, Instr.findNow, Instr.sameNow, hne, hx]
theorem word_last (w : World) (o o' : Obj) : { w.alloc o with heap := (w.alloc o).heap.setIfInBounds w.heap.size o' } = w.alloc o' := by
  simp only [World.alloc]
  congr 1
  apply Array.ext_getElem?
  intro i
  simp only [Array.getElem?_setIfInBounds, Array.getElem?_push]
  by_cases h : w.heap.size = i
  · subst h; simp
  · have h' : ¬ i = w.heap.size := fun e => h e.symm
    simp [h, h']
set_option maxRecDepth 100000 in
theorem word_insert (l : List (List UInt8)) (s : List UInt8) (w : World) (h : s ∉ l) :
    (Instr.mapUpdate 85 (.map (some w.heap.size)) (.string ⟨s.toArray⟩) (.int .i64 1)).run Tryz.prog (w.alloc (wordRow l)) = .ok () (w.alloc (wordRow (l ++ [s]))) := by
  have hb : (w.alloc (wordRow l)).heap[w.heap.size]? = some (.map (wordEntries l 0).toArray l.length) := heap_alloc_new w _
  have hf : Instr.findNow .string (.string ⟨s.toArray⟩) (wordEntries l 0) 0 = some none := by
    obtain ⟨r, hr, hv⟩ := findWord s l 0 0
    rw [if_neg h] at hv
    cases r with
    | none => exact hr
    | some q => simp at hv
  have hc : ∀ w : World, (Instr.checkKey false 10000 9 (.string ⟨s.toArray⟩)).run Tryz.prog w = .ok () w := fun w => MapKept.run_checkKey Tryz.underlying9 (by constructor) _ 9999
  have hk : ∀ w : World, (Instr.findKey 9 (.string ⟨s.toArray⟩) (wordEntries l 0)).run Tryz.prog w = .ok none w := fun w => by
    simp only [Instr.findKey, Sem.run_bind, run_underlying Tryz.underlying9, Result.andThen, hf]
    rfl
  have hs := MapKept.run_setObj_map (P := Tryz.prog) (.map ((wordEntries l 0).toArray.push { key := .string ⟨s.toArray⟩, val := .int .i64 1, born := l.length }) (l.length + 1)) hb
  rw [word_last] at hs
  have he : Obj.map ((wordEntries l 0).toArray.push { key := .string ⟨s.toArray⟩, val := .int .i64 1, born := l.length }) (l.length + 1) = wordRow (l ++ [s]) := by
    simp [wordRow, wordEntries_snoc]
  rw [he] at hs
  simp only [Instr.mapUpdate, Sem.run_bind, run_underlying Tryz.underlying85, Result.andThen, MapKept.run_getObj_map hb, hc]
  simp only [hk]
  rw [he]
  exact hs
set_option maxRecDepth 100000 in
theorem word_look (l : List (List UInt8)) (s : List UInt8) (b : Nat) (w : World) (hb : w.heap[b]? = some (wordRow l)) :
    (Instr.lookup 85 (.map (some b)) (.string ⟨s.toArray⟩) false).run Tryz.prog w = .ok (.int .i64 (if s ∈ l then 1 else 0)) w := by
  have hb' : w.heap[b]? = some (.map (wordEntries l 0).toArray l.length) := hb
  have hc : ∀ (em : Bool) (w : World), (Instr.checkKey em 10000 9 (.string ⟨s.toArray⟩)).run Tryz.prog w = .ok () w := fun em w => MapKept.run_checkKey Tryz.underlying9 (by constructor) _ 9999
  obtain ⟨r, hr, hv⟩ := findWord s l 0 0
  have hk : ∀ w : World, (Instr.findKey 9 (.string ⟨s.toArray⟩) (wordEntries l 0)).run Tryz.prog w = .ok r w := fun w => by
    simp only [Instr.findKey, Sem.run_bind, run_underlying Tryz.underlying9, Result.andThen, hr]
    rfl
  have hz : ∀ w : World, (zeroValue 3).run Tryz.prog w = .ok (.int .i64 0) w := fun w => by kernel_rfl
  simp only [Instr.lookup, Sem.run_bind, run_underlying Tryz.underlying85, Result.andThen, MapKept.run_getObj_map hb', hc, Sem.run_pure, hk]
  by_cases hn : s ∈ l
  · rw [if_pos hn] at hv
    cases r with
    | none => simp at hv
    | some q => simp at hv; simp [hv, hn]
  · rw [if_neg hn] at hv
    cases r with
    | none => simp [hz, hn]
    | some q => simp at hv
def isWord (s : ByteArray) : Bool := keyP s.data.toList
theorem isWord_is (s : ByteArray) : isWord s = decide (lowL s.data.toList ∈ keyWords) := by
  unfold isWord keyP
  rw [Bool.eq_iff_iff]; simp

set_option maxRecDepth 100000 in
set_option maxHeartbeats 1000000 in
theorem lex_Key (s : ByteArray) (hs : s.size ≤ 140737488355328) (w : World) :
    Calls Tryz.prog 13 #[.string s] w fun ev w' => ev = .returned (.bool (isWord s)) ∧ Below w.heap.size w w' := by
  have CL := Lib.hid (fun W => lex_lower s hs W)
  obtain ⟨R0, hR0⟩ : ∃ R, R = wordRow [] := ⟨_, rfl⟩
  obtain ⟨R1, hR1⟩ : ∃ R, R = wordRow [[115, 101, 108, 101, 99, 116]] := ⟨_, rfl⟩
  obtain ⟨R2, hR2⟩ : ∃ R, R = wordRow [[115, 101, 108, 101, 99, 116], [97, 115]] := ⟨_, rfl⟩
  obtain ⟨R3, hR3⟩ : ∃ R, R = wordRow [[115, 101, 108, 101, 99, 116], [97, 115], [105, 110, 116, 111]] := ⟨_, rfl⟩
  obtain ⟨R4, hR4⟩ : ∃ R, R = wordRow [[115, 101, 108, 101, 99, 116], [97, 115], [105, 110, 116, 111], [102, 114, 111, 109]] := ⟨_, rfl⟩
  obtain ⟨R5, hR5⟩ : ∃ R, R = wordRow [[115, 101, 108, 101, 99, 116], [97, 115], [105, 110, 116, 111], [102, 114, 111, 109], [119, 104, 101, 114, 101]] := ⟨_, rfl⟩
  obtain ⟨R6, hR6⟩ : ∃ R, R = wordRow [[115, 101, 108, 101, 99, 116], [97, 115], [105, 110, 116, 111], [102, 114, 111, 109], [119, 104, 101, 114, 101], [103, 114, 111, 117, 112]] := ⟨_, rfl⟩
  obtain ⟨R7, hR7⟩ : ∃ R, R = wordRow [[115, 101, 108, 101, 99, 116], [97, 115], [105, 110, 116, 111], [102, 114, 111, 109], [119, 104, 101, 114, 101], [103, 114, 111, 117, 112], [98, 121]] := ⟨_, rfl⟩
  obtain ⟨R8, hR8⟩ : ∃ R, R = wordRow [[115, 101, 108, 101, 99, 116], [97, 115], [105, 110, 116, 111], [102, 114, 111, 109], [119, 104, 101, 114, 101], [103, 114, 111, 117, 112], [98, 121], [116, 105, 109, 101]] := ⟨_, rfl⟩
  obtain ⟨R9, hR9⟩ : ∃ R, R = wordRow [[115, 101, 108, 101, 99, 116], [97, 115], [105, 110, 116, 111], [102, 114, 111, 109], [119, 104, 101, 114, 101], [103, 114, 111, 117, 112], [98, 121], [116, 105, 109, 101], [102, 105, 108, 108]] := ⟨_, rfl⟩
  obtain ⟨R10, hR10⟩ : ∃ R, R = wordRow [[115, 101, 108, 101, 99, 116], [97, 115], [105, 110, 116, 111], [102, 114, 111, 109], [119, 104, 101, 114, 101], [103, 114, 111, 117, 112], [98, 121], [116, 105, 109, 101], [102, 105, 108, 108], [97, 110, 100]] := ⟨_, rfl⟩
  obtain ⟨R11, hR11⟩ : ∃ R, R = wordRow [[115, 101, 108, 101, 99, 116], [97, 115], [105, 110, 116, 111], [102, 114, 111, 109], [119, 104, 101, 114, 101], [103, 114, 111, 117, 112], [98, 121], [116, 105, 109, 101], [102, 105, 108, 108], [97, 110, 100], [111, 114]] := ⟨_, rfl⟩
  obtain ⟨R12, hR12⟩ : ∃ R, R = wordRow [[115, 101, 108, 101, 99, 116], [97, 115], [105, 110, 116, 111], [102, 114, 111, 109], [119, 104, 101, 114, 101], [103, 114, 111, 117, 112], [98, 121], [116, 105, 109, 101], [102, 105, 108, 108], [97, 110, 100], [111, 114], [110, 111, 116]] := ⟨_, rfl⟩
  obtain ⟨R13, hR13⟩ : ∃ R, R = wordRow [[115, 101, 108, 101, 99, 116], [97, 115], [105, 110, 116, 111], [102, 114, 111, 109], [119, 104, 101, 114, 101], [103, 114, 111, 117, 112], [98, 121], [116, 105, 109, 101], [102, 105, 108, 108], [97, 110, 100], [111, 114], [110, 111, 116], [105, 110]] := ⟨_, rfl⟩
  obtain ⟨R14, hR14⟩ : ∃ R, R = wordRow [[115, 101, 108, 101, 99, 116], [97, 115], [105, 110, 116, 111], [102, 114, 111, 109], [119, 104, 101, 114, 101], [103, 114, 111, 117, 112], [98, 121], [116, 105, 109, 101], [102, 105, 108, 108], [97, 110, 100], [111, 114], [110, 111, 116], [105, 110], [116, 114, 117, 101]] := ⟨_, rfl⟩
  obtain ⟨R15, hR15⟩ : ∃ R, R = wordRow [[115, 101, 108, 101, 99, 116], [97, 115], [105, 110, 116, 111], [102, 114, 111, 109], [119, 104, 101, 114, 101], [103, 114, 111, 117, 112], [98, 121], [116, 105, 109, 101], [102, 105, 108, 108], [97, 110, 100], [111, 114], [110, 111, 116], [105, 110], [116, 114, 117, 101], [102, 97, 108, 115, 101]] := ⟨_, rfl⟩
  have hmm : ∀ W, (Instr.makeMap 85 none).run Tryz.prog W = .ok (.map (some W.heap.size)) (W.alloc R0) := fun W => by rw [hR0]; exact run_makeMap _ W
  have hi0 : (Instr.mapUpdate 85 (.map (some w.heap.size)) (.string ⟨#[115, 101, 108, 101, 99, 116]⟩) (.int .i64 1)).run Tryz.prog (w.alloc R0) = .ok () (w.alloc R1) := by rw [hR0, hR1]; exact word_insert _ [115, 101, 108, 101, 99, 116] w (of_decide_eq_true (by kernel_rfl))
  have hi1 : (Instr.mapUpdate 85 (.map (some w.heap.size)) (.string ⟨#[97, 115]⟩) (.int .i64 1)).run Tryz.prog (w.alloc R1) = .ok () (w.alloc R2) := by rw [hR1, hR2]; exact word_insert _ [97, 115] w (of_decide_eq_true (by kernel_rfl))
  have hi2 : (Instr.mapUpdate 85 (.map (some w.heap.size)) (.string ⟨#[105, 110, 116, 111]⟩) (.int .i64 1)).run Tryz.prog (w.alloc R2) = .ok () (w.alloc R3) := by rw [hR2, hR3]; exact word_insert _ [105, 110, 116, 111] w (of_decide_eq_true (by kernel_rfl))
  have hi3 : (Instr.mapUpdate 85 (.map (some w.heap.size)) (.string ⟨#[102, 114, 111, 109]⟩) (.int .i64 1)).run Tryz.prog (w.alloc R3) = .ok () (w.alloc R4) := by rw [hR3, hR4]; exact word_insert _ [102, 114, 111, 109] w (of_decide_eq_true (by kernel_rfl))
  have hi4 : (Instr.mapUpdate 85 (.map (some w.heap.size)) (.string ⟨#[119, 104, 101, 114, 101]⟩) (.int .i64 1)).run Tryz.prog (w.alloc R4) = .ok () (w.alloc R5) := by rw [hR4, hR5]; exact word_insert _ [119, 104, 101, 114, 101] w (of_decide_eq_true (by kernel_rfl))
  have hi5 : (Instr.mapUpdate 85 (.map (some w.heap.size)) (.string ⟨#[103, 114, 111, 117, 112]⟩) (.int .i64 1)).run Tryz.prog (w.alloc R5) = .ok () (w.alloc R6) := by rw [hR5, hR6]; exact word_insert _ [103, 114, 111, 117, 112] w (of_decide_eq_true (by kernel_rfl))
  have hi6 : (Instr.mapUpdate 85 (.map (some w.heap.size)) (.string ⟨#[98, 121]⟩) (.int .i64 1)).run Tryz.prog (w.alloc R6) = .ok () (w.alloc R7) := by rw [hR6, hR7]; exact word_insert _ [98, 121] w (of_decide_eq_true (by kernel_rfl))
  have hi7 : (Instr.mapUpdate 85 (.map (some w.heap.size)) (.string ⟨#[116, 105, 109, 101]⟩) (.int .i64 1)).run Tryz.prog (w.alloc R7) = .ok () (w.alloc R8) := by rw [hR7, hR8]; exact word_insert _ [116, 105, 109, 101] w (of_decide_eq_true (by kernel_rfl))
  have hi8 : (Instr.mapUpdate 85 (.map (some w.heap.size)) (.string ⟨#[102, 105, 108, 108]⟩) (.int .i64 1)).run Tryz.prog (w.alloc R8) = .ok () (w.alloc R9) := by rw [hR8, hR9]; exact word_insert _ [102, 105, 108, 108] w (of_decide_eq_true (by kernel_rfl))
  have hi9 : (Instr.mapUpdate 85 (.map (some w.heap.size)) (.string ⟨#[97, 110, 100]⟩) (.int .i64 1)).run Tryz.prog (w.alloc R9) = .ok () (w.alloc R10) := by rw [hR9, hR10]; exact word_insert _ [97, 110, 100] w (of_decide_eq_true (by kernel_rfl))
  have hi10 : (Instr.mapUpdate 85 (.map (some w.heap.size)) (.string ⟨#[111, 114]⟩) (.int .i64 1)).run Tryz.prog (w.alloc R10) = .ok () (w.alloc R11) := by rw [hR10, hR11]; exact word_insert _ [111, 114] w (of_decide_eq_true (by kernel_rfl))
  have hi11 : (Instr.mapUpdate 85 (.map (some w.heap.size)) (.string ⟨#[110, 111, 116]⟩) (.int .i64 1)).run Tryz.prog (w.alloc R11) = .ok () (w.alloc R12) := by rw [hR11, hR12]; exact word_insert _ [110, 111, 116] w (of_decide_eq_true (by kernel_rfl))
  have hi12 : (Instr.mapUpdate 85 (.map (some w.heap.size)) (.string ⟨#[105, 110]⟩) (.int .i64 1)).run Tryz.prog (w.alloc R12) = .ok () (w.alloc R13) := by rw [hR12, hR13]; exact word_insert _ [105, 110] w (of_decide_eq_true (by kernel_rfl))
  have hi13 : (Instr.mapUpdate 85 (.map (some w.heap.size)) (.string ⟨#[116, 114, 117, 101]⟩) (.int .i64 1)).run Tryz.prog (w.alloc R13) = .ok () (w.alloc R14) := by rw [hR13, hR14]; exact word_insert _ [116, 114, 117, 101] w (of_decide_eq_true (by kernel_rfl))
  have hi14 : (Instr.mapUpdate 85 (.map (some w.heap.size)) (.string ⟨#[102, 97, 108, 115, 101]⟩) (.int .i64 1)).run Tryz.prog (w.alloc R14) = .ok () (w.alloc R15) := by rw [hR14, hR15]; exact word_insert _ [102, 97, 108, 115, 101] w (of_decide_eq_true (by kernel_rfl))
  have hlook : ∀ W, W.heap[w.heap.size]? = some R15 → (Instr.lookup 85 (.map (some w.heap.size)) (.string (lowT s)) false).run Tryz.prog W = .ok (.int .i64 (if lowL s.data.toList ∈ keyWords then 1 else 0)) W := fun W h => word_look keyWords (lowL s.data.toList) _ W (by rw [h, hR15]; rfl)
  have hnew := heap_alloc_new w R15
  have B15 : Below w.heap.size w (w.alloc R15) := (Below.refl _ _).alloc (Nat.le_refl _) _
  have hlt : w.heap.size < (w.alloc R15).heap.size := blk_lt' hnew
  have HL := Lib.hid hlook
  have HM := Lib.hid (And.intro hnew (And.intro B15 hlt))
  obtain ⟨V, hV⟩ : ∃ V, V = isWord s := ⟨_, rfl⟩
  rw [← hV]
  have HV := Lib.hid hV
  clear hlook hnew B15 hlt hV
  clear hR0 hR1 hR2 hR3 hR4 hR5 hR6 hR7 hR8 hR9 hR10 hR11 hR12 hR13 hR14 hR15
  go_enter Tryz.func13, Tryz.ntmps13
  go_wp2_with fail
  clear hmm hi0 hi1 hi2 hi3 hi4 hi5 hi6 hi7 hi8 hi9 hi10 hi11 hi12 hi13 hi14
  generalize w.alloc R15 = W1 at *
  refine (CL.out _).mono ?_
  rintro ev w2 ⟨rfl, hB⟩
  obtain ⟨m1, m2, m3⟩ := HM.out
  have hlk := HL.out w2 (below_blk hB m3 m1)
  have B2 : Below w.heap.size w w2 := m2.trans (hB.mono m2.size)
  have HB := Lib.hid B2
  have hVV := HV.out
  rw [isWord_is] at hVV
  clear HL CL HM m1 m2 m3 hB B2 HV
  generalize lowT s = t at *
  by_cases hin : lowL s.data.toList ∈ keyWords
  · rw [if_pos hin] at hlk
    rw [decide_eq_true hin] at hVV
    subst hVV
    clear hin
    go_wp2
    go_ret
    exact ⟨rfl, HB.out⟩
  · rw [if_neg hin] at hlk
    rw [decide_eq_false hin] at hVV
    subst hVV
    clear hin
    go_wp2
    go_ret
    exact ⟨rfl, HB.out⟩
set_option maxRecDepth 100000 in
set_option maxHeartbeats 1000000 in
theorem r12_Key (s : ByteArray) (hs : s.size ≤ 140737488355328) (w : World) :
    Calls Tryz.prog 14 #[.string s] w fun ev w' => ev = .returned (.bool (isWord s)) ∧ Below w.heap.size w w' := by
  have CS := Lib.hid (fun W => r12_Small s hs W)
  obtain ⟨V, hVV⟩ : ∃ V, V = isWord s := ⟨_, rfl⟩
  rw [← hVV]
  rw [isWord_is] at hVV
  obtain ⟨x, hx⟩ : ∃ x, x = lowL s.data.toList := ⟨_, rfl⟩
  rw [← hx] at hVV
  obtain ⟨t, ht⟩ : ∃ t, t = lowT s := ⟨_, rfl⟩
  have htl : t.toList = x := by rw [ht, hx, Lib.toList_data]; rfl
  rw [← ht] at CS
  clear hx ht

  have hmem : decide (x ∈ keyWords) = (((x == [115, 101, 108, 101, 99, 116]) || ((x == [97, 115]) || ((x == [105, 110, 116, 111]) || ((x == [102, 114, 111, 109]) || ((x == [119, 104, 101, 114, 101]) || ((x == [103, 114, 111, 117, 112]) || ((x == [98, 121]) || ((x == [116, 105, 109, 101]) || ((x == [102, 105, 108, 108]) || ((x == [97, 110, 100]) || ((x == [111, 114]) || ((x == [110, 111, 116]) || ((x == [105, 110]) || ((x == [116, 114, 117, 101]) || (x == [102, 97, 108, 115, 101])))))))))))))))) := by
    rw [Bool.eq_iff_iff]
    simp only [Bool.or_eq_true, decide_eq_true_eq, beq_iff_eq, keyWords, List.mem_cons, List.not_mem_nil, or_false]
  rw [hmem, ← htl] at hVV
  generalize hx0 : (t.toList == [115, 101, 108, 101, 99, 116]) = x0 at hVV
  generalize hx1 : (t.toList == [97, 115]) = x1 at hVV
  generalize hx2 : (t.toList == [105, 110, 116, 111]) = x2 at hVV
  generalize hx3 : (t.toList == [102, 114, 111, 109]) = x3 at hVV
  generalize hx4 : (t.toList == [119, 104, 101, 114, 101]) = x4 at hVV
  generalize hx5 : (t.toList == [103, 114, 111, 117, 112]) = x5 at hVV
  generalize hx6 : (t.toList == [98, 121]) = x6 at hVV
  generalize hx7 : (t.toList == [116, 105, 109, 101]) = x7 at hVV
  generalize hx8 : (t.toList == [102, 105, 108, 108]) = x8 at hVV
  generalize hx9 : (t.toList == [97, 110, 100]) = x9 at hVV
  generalize hx10 : (t.toList == [111, 114]) = x10 at hVV
  generalize hx11 : (t.toList == [110, 111, 116]) = x11 at hVV
  generalize hx12 : (t.toList == [105, 110]) = x12 at hVV
  generalize hx13 : (t.toList == [116, 114, 117, 101]) = x13 at hVV
  generalize hx14 : (t.toList == [102, 97, 108, 115, 101]) = x14 at hVV
  clear hmem htl
  have HV := Lib.hid hVV
  clear hVV
  go_enter Tryz.func14, Tryz.ntmps14
  go_wp2_with fail
  refine (CS.out _).mono ?_
  rintro ev w2 ⟨rfl, hB⟩
  have HB := Lib.hid hB
  clear hB CS
  cases x0 with
  | true =>
    go_wp2
    go_ret
    exact ⟨by rw [HV.out]; simp, HB.out⟩
  | false =>
    cases x1 with
    | true =>
      go_wp2
      go_ret
      exact ⟨by rw [HV.out]; simp, HB.out⟩
    | false =>
      cases x2 with
      | true =>
        go_wp2
        go_ret
        exact ⟨by rw [HV.out]; simp, HB.out⟩
      | false =>
        cases x3 with
        | true =>
          go_wp2
          go_ret
          exact ⟨by rw [HV.out]; simp, HB.out⟩
        | false =>
          cases x4 with
          | true =>
            go_wp2
            go_ret
            exact ⟨by rw [HV.out]; simp, HB.out⟩
          | false =>
            cases x5 with
            | true =>
              go_wp2
              go_ret
              exact ⟨by rw [HV.out]; simp, HB.out⟩
            | false =>
              cases x6 with
              | true =>
                go_wp2
                go_ret
                exact ⟨by rw [HV.out]; simp, HB.out⟩
              | false =>
                cases x7 with
                | true =>
                  go_wp2
                  go_ret
                  exact ⟨by rw [HV.out]; simp, HB.out⟩
                | false =>
                  cases x8 with
                  | true =>
                    go_wp2
                    go_ret
                    exact ⟨by rw [HV.out]; simp, HB.out⟩
                  | false =>
                    cases x9 with
                    | true =>
                      go_wp2
                      go_ret
                      exact ⟨by rw [HV.out]; simp, HB.out⟩
                    | false =>
                      cases x10 with
                      | true =>
                        go_wp2
                        go_ret
                        exact ⟨by rw [HV.out]; simp, HB.out⟩
                      | false =>
                        cases x11 with
                        | true =>
                          go_wp2
                          go_ret
                          exact ⟨by rw [HV.out]; simp, HB.out⟩
                        | false =>
                          cases x12 with
                          | true =>
                            go_wp2
                            go_ret
                            exact ⟨by rw [HV.out]; simp, HB.out⟩
                          | false =>
                            cases x13 with
                            | true =>
                              go_wp2
                              go_ret
                              exact ⟨by rw [HV.out]; simp, HB.out⟩
                            | false =>
                              cases x14 with
                              | true =>
                                go_wp2
                                go_ret
                                exact ⟨by rw [HV.out]; simp, HB.out⟩
                              | false =>
                                go_wp2
                                go_ret
                                exact ⟨by rw [HV.out]; rfl, HB.out⟩
end Go.Proofs.YtmooibnedokllaaGreatDoor
