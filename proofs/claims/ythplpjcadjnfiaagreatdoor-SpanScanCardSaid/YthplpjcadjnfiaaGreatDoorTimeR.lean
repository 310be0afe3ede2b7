/- What span.Time's steps come to is what timeP tells: plain. -/
import Derived.Test.YthplpjcadjnfiaaGreatDoorSw23
namespace Go.Proofs.YthplpjcadjnfiaaGreatDoor
open Go.RowKit
set_option linter.unusedSimpArgs false
set_option linter.unusedVariables false

def timeV : TimeR → Int × Option Er
  | .at_ p => (0, mkAt (p : Int) 41)
  | .over => (0, mkE 20)
  | .ok t => (t, none)
theorem run_num {n : Nat} {lo hi : Int} {set : Rv → Int → Rv} {fs : List (Rv → Bool × Rv)} {r : Rv} :
    runT (numT n lo hi set :: fs) r = match numS r.s.data.toList r.a n lo hi with | none => (false, r) | some v => runT fs { set r v with a := r.a + n } := by
  show (if (numT n lo hi set r).1 = true then _ else _) = _
  unfold numT
  cases numS r.s.data.toList r.a n lo hi <;> rfl
theorem run_day {fs : List (Rv → Bool × Rv)} {r : Rv} :
    runT ((fun r => numT 2 1 (daysM r.y r.mo) (fun r v => { r with d := v }) r) :: fs) r = match numS r.s.data.toList r.a 2 1 (daysM r.y r.mo) with | none => (false, r) | some v => runT fs { r with d := v, a := r.a + 2 } := by
  show (if (numT 2 1 (daysM r.y r.mo) (fun r v => { r with d := v }) r).1 = true then runT fs (numT 2 1 (daysM r.y r.mo) (fun r v => { r with d := v }) r).2 else (false, (numT 2 1 (daysM r.y r.mo) (fun r v => { r with d := v }) r).2)) = _
  unfold numT
  cases numS r.s.data.toList r.a 2 1 (daysM r.y r.mo) <;> rfl
theorem run_sig {c : UInt8} {fs : List (Rv → Bool × Rv)} {r : Rv} :
    runT (sigT [c] :: fs) r = if sigS r.s.data.toList r.a c = true then runT fs { r with a := r.a + 1 } else (false, r) := by
  show (if (sigT [c] r).1 = true then _ else _) = _
  rw [sig1]
  cases sigS r.s.data.toList r.a c <;> rfl
theorem res_no (r : Rv) : resT (false, r) = timeV (.at_ r.a) := if_neg (fun h => Bool.false_ne_true h.1)
theorem said_res (v : Int) : timeV (saidP v) = ((fitP v).1, mkE (fitP v).2) := by
  unfold saidP fitP
  by_cases h : -9223372036854775808 ≤ v ∧ v ≤ 9223372036854775807
  · rw [if_pos h, if_pos h]; rfl
  · rw [if_neg h, if_neg h]; rfl
theorem res_yes (r : Rv) : resT (true, r) = if r.a < r.s.size then timeV (.at_ r.a) else timeV (saidP (nsec r.y r.mo r.d r.h r.mi r.sec r.ns r.z)) := by
  by_cases h : r.a < r.s.size
  · rw [if_pos h]; exact if_neg (fun hc => hc.2 h)
  · rw [if_neg h, said_res]; exact if_pos ⟨rfl, h⟩
set_option maxHeartbeats 1000000 in
theorem time_run (s : ByteArray) : resT (runT stepsT (rv0 s)) = timeV (timeP s.data.toList) := by
  have hsz : s.data.toList.length = s.size := rfl
  unfold stepsT timeP rv0
  rw [run_num]
  cases h1 : numS s.data.toList 0 4 0 9999 with
  | none => simp only [h1]; exact res_no _
  | some y =>
    simp only [h1]
    rw [run_sig]
    cases g1 : sigS s.data.toList 4 45 with
    | false => simp only [g1, Nat.zero_add]; exact res_no _
    | true =>
      simp only [g1, Nat.zero_add, if_true]
      rw [run_num]
      cases h2 : numS s.data.toList 5 2 1 12 with
      | none => simp only [h2]; exact res_no _
      | some mo =>
        simp only [h2]
        rw [run_sig]
        cases g2 : sigS s.data.toList 7 45 with
        | false => simp only [g2]; exact res_no _
        | true =>
          simp only [g2, if_true]
          rw [run_day]
          cases h3 : numS s.data.toList 8 2 1 (daysM y mo) with
          | none => simp only [h3]; exact res_no _
          | some d =>
            simp only [h3]
            rw [run_sig]
            cases g3 : sigS s.data.toList 10 84 with
            | false => simp only [g3]; exact res_no _
            | true =>
              simp only [g3, if_true]
              rw [run_num]
              cases k_h : numS s.data.toList 11 2 0 23 with
              | none => simp only [k_h]; exact res_no _
              | some h =>
                simp only [k_h]
                rw [run_sig]
                cases g_h : sigS s.data.toList 13 58 with
                | false => simp only [g_h]; exact res_no _
                | true =>
                  simp only [g_h, if_true]
                  rw [run_num]
                  cases k_mi : numS s.data.toList 14 2 0 59 with
                  | none => simp only [k_mi]; exact res_no _
                  | some mi =>
                    simp only [k_mi]
                    rw [run_sig]
                    cases g_mi : sigS s.data.toList 16 58 with
                    | false => simp only [g_mi]; exact res_no _
                    | true =>
                      simp only [g_mi, if_true]
                      rw [run_num]
                      cases k_sec : numS s.data.toList 17 2 0 59 with
                      | none => simp only [k_sec]; exact res_no _
                      | some sec =>
                        simp only [k_sec]
                        show resT (if (pointT _).1 = true then _ else _) = _
                        have last : ∀ (r : Rv) (ns : Int) (a : Nat), r = ⟨s, a, y, mo, d, h, mi, sec, ns, 0⟩ → resT (runT [placeT] r) = timeV (match zoneS s.data.toList a with | .error p => .at_ p | .ok (z, b) => if b < s.data.toList.length then .at_ b else saidP (nsec y mo d h mi sec ns z)) := by
                          rintro r ns a rfl
                          show resT (if (placeT _).1 = true then _ else _) = _
                          unfold placeT
                          cases gz : sigS s.data.toList a 90 with
                          | true =>
                            have hz : zoneS s.data.toList a = .ok (0, a + 1) := by unfold zoneS; rw [if_pos gz]
                            simp only [gz, hz, if_true]
                            show resT (true, _) = _
                            rw [res_yes, hsz]
                            by_cases hb : a + 1 < s.size
                            · rw [if_pos hb, if_pos hb]
                            · rw [if_neg hb, if_neg hb]
                          | false =>
                            simp only [gz, Bool.false_eq_true, if_false]
                            cases hz : zoneS s.data.toList a with
                            | error p => simp only [hz]; exact res_no _
                            | ok p =>
                              obtain ⟨z, b⟩ := p
                              simp only [hz]
                              show resT (true, _) = _
                              rw [res_yes, hsz]
                              by_cases hb : b < s.size
                              · rw [if_pos hb, if_pos hb]
                              · rw [if_neg hb, if_neg hb]
                        unfold pointT
                        cases gp : sigS s.data.toList 19 46 with
                        | false =>
                          have hf : fracS s.data.toList 19 = some (0, 19) := by unfold fracS; rw [if_neg (by rw [gp]; simp)]
                          simp only [gp, hf]
                          exact last _ 0 19 rfl
                        | true =>
                          simp only [gp, if_true]
                          cases hf : fracS s.data.toList 19 with
                          | none => simp only [hf]; exact res_no _
                          | some p =>
                            obtain ⟨ns, a⟩ := p
                            simp only [hf, if_true]
                            exact last _ ns a rfl
end Go.Proofs.YthplpjcadjnfiaaGreatDoor
