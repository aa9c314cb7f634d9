/- Spans: Right. Own work. Content-Range: what the functions do. Own work. -/
import Derived.Test.YtpibecljdooilaaDoorIrR
import Derived.Test.YtpibecljdooilaaDoorEvArg
import Derived.Test.YtpibecljdooilaaDoorDecV
import Derived.Test.YtpibecljdooilaaDoorAbb
namespace Go.Proofs.YtpibecljdooilaaDoor
open Go Go.Ev Go.Proofs.YtpibecljdooilaaDoor.Ir
set_option maxRecDepth 100000
set_option maxHeartbeats 4000000
set_option linter.unusedSimpArgs false
set_option linter.unusedVariables false
def RP (a b : Int) : Prop := 0 ≤ a ∧ a < b ∧ b ≤ 4611686018427387903
instance (a b : Int) : Decidable (RP a b) := by unfold RP; infer_instance
abbrev eP (x : Int × Int) : List D := [.int .i64 x.1, .int .i64 x.2]
theorem get_eP (l : List (Int × Int)) (i : Nat) (h : i < l.length) : (l.map eP).getD i [] = eP (l[i]) := by simp [List.getD_eq_getElem?_getD, h]
theorem t_right (a b : Int) : call ir 39 [.agg [.d (.int .i64 a), .d (.int .i64 b)]] [] = some (.d (.bool (decide (RP a b))), []) := by
  rw [call_eq (fn := ir39) rfl, evF_bnd]
  simp (maxSteps := 2000000) only [go_sem, doCall, doCallQ, doCallP, Nat.reduceAdd, Nat.reduceMul, Nat.reduceSub, Nat.reduceDiv, Nat.reduceMod, Nat.reduceLT, Nat.reduceLeDiff, Nat.reduceEqDiff, Nat.reduceBEq, Nat.reduceBNe, Int.reduceToNat, Int.reduceLT, Int.reduceLE, Int.reduceEq, Int.reduceNe, Int.reduceAdd, Int.reduceSub, Int.reduceMul, Int.reduceNeg, bd39]
  repeat' (apply two_cases <;> intro h <;> simp (maxSteps := 2000000) only [go_sem, doCall, doCallQ, doCallP, Nat.reduceAdd, Nat.reduceMul, Nat.reduceSub, Nat.reduceDiv, Nat.reduceMod, Nat.reduceLT, Nat.reduceLeDiff, Nat.reduceEqDiff, Nat.reduceBEq, Nat.reduceBNe, Int.reduceToNat, Int.reduceLT, Int.reduceLE, Int.reduceEq, Int.reduceNe, Int.reduceAdd, Int.reduceSub, Int.reduceMul, Int.reduceNeg, h, false_and, and_false])
  all_goals first | (apply dec_eq; unfold RP; omega) | (apply dec_f; unfold RP; omega)
theorem t_rright (a b : Int) : call ir 41 [.agg [.d (.int .i64 a), .d (.int .i64 b)]] [] = some (.d (.bool (decide (RP a b))), []) := by
  rw [call_eq (fn := ir41) rfl, evF_bnd]
  simp (maxSteps := 2000000) only [go_sem, doCall, doCallQ, doCallP, Nat.reduceAdd, Nat.reduceMul, Nat.reduceSub, Nat.reduceDiv, Nat.reduceMod, Nat.reduceLT, Nat.reduceLeDiff, Nat.reduceEqDiff, Nat.reduceBEq, Nat.reduceBNe, Int.reduceToNat, Int.reduceLT, Int.reduceLE, Int.reduceEq, Int.reduceNe, Int.reduceAdd, Int.reduceSub, Int.reduceMul, Int.reduceNeg, bd41]
  repeat' (apply two_cases <;> intro h <;> simp (maxSteps := 2000000) only [go_sem, doCall, doCallQ, doCallP, Nat.reduceAdd, Nat.reduceMul, Nat.reduceSub, Nat.reduceDiv, Nat.reduceMod, Nat.reduceLT, Nat.reduceLeDiff, Nat.reduceEqDiff, Nat.reduceBEq, Nat.reduceBNe, Int.reduceToNat, Int.reduceLT, Int.reduceLE, Int.reduceEq, Int.reduceNe, Int.reduceAdd, Int.reduceSub, Int.reduceMul, Int.reduceNeg, h, false_and, and_false])
  all_goals first | (apply dec_eq; unfold RP; omega) | (apply dec_f; unfold RP; omega)
abbrev vP (x : Int × Int) : AV := .agg [.d (.int .i64 x.1), .d (.int .i64 x.2)]
end Go.Proofs.YtpibecljdooilaaDoor
namespace Go.Proofs.YtpibecljdooilaaDoor
open Go Go.Ev Go.Proofs.YtpibecljdooilaaDoor.Ir
set_option maxRecDepth 100000
set_option maxHeartbeats 4000000
set_option linter.unusedSimpArgs false
set_option linter.unusedVariables false
theorem t_fits' (a l h : Int) : call ir 79 [dI a, dI l, dI h] [] = some (dT (decide (l ≤ a ∧ a ≤ h)), []) := by
  rw [call_eq (fn := ir79) rfl, evF_bnd]
  by_cases h1 : l ≤ a
  · have h1' := eq_true h1
    simp (maxSteps := 2000000) only [go_sem, doCall, doCallQ, doCallP, Nat.reduceAdd, Nat.reduceMul, Nat.reduceSub, Nat.reduceDiv, Nat.reduceMod, Nat.reduceLT, Nat.reduceLeDiff, Nat.reduceEqDiff, Nat.reduceBEq, Nat.reduceBNe, Int.reduceToNat, Int.reduceLT, Int.reduceLE, Int.reduceEq, Int.reduceNe, Int.reduceAdd, Int.reduceSub, Int.reduceMul, Int.reduceNeg, bd79, h1', true_and]
  · have h1' := eq_false h1
    simp (maxSteps := 2000000) only [go_sem, doCall, doCallQ, doCallP, Nat.reduceAdd, Nat.reduceMul, Nat.reduceSub, Nat.reduceDiv, Nat.reduceMod, Nat.reduceLT, Nat.reduceLeDiff, Nat.reduceEqDiff, Nat.reduceBEq, Nat.reduceBNe, Int.reduceToNat, Int.reduceLT, Int.reduceLE, Int.reduceEq, Int.reduceNe, Int.reduceAdd, Int.reduceSub, Int.reduceMul, Int.reduceNeg, bd79, h1', false_and, decide_false]
/-- Which contents may be. -/
def CntR (kn : Bool) (f t n : Int) : Prop := (n = -1 ∨ (0 ≤ n ∧ n ≤ 4611686018427387903)) ∧ (if kn then RP f t ∧ (n = -1 ∨ t ≤ n) else (f = 0 ∧ t = 0 ∧ n ≠ -1))
instance (kn : Bool) (f t n : Int) : Decidable (CntR kn f t n) := by unfold CntR; infer_instance
abbrev vC (kn : Bool) (f t n : Int) : AV := .agg [dT kn, dI f, dI t, dI n]
theorem t_cright (kn : Bool) (f t n : Int) : call ir 98 [vC kn f t n] [] = some (dT (decide (CntR kn f t n)), []) := by
  rw [call_eq (fn := ir98) rfl, evF_bnd]
  have hf := t_fits' n 0 4611686018427387903
  have hr := t_right f t
  by_cases h1 : n = -1
  · have h1' := eq_true h1
    cases kn
    · have hne : ¬ CntR false f t n := fun h => h.2.2.2 h1
      rw [decide_eq_false hne]
      by_cases h2 : f = 0
      · by_cases h3 : t = 0
        · simp (maxSteps := 2000000) (disch := omega) only [go_sem, doCall, doCallQ, doCallP, Nat.reduceAdd, Nat.reduceMul, Nat.reduceSub, Nat.reduceDiv, Nat.reduceMod, Nat.reduceLT, Nat.reduceLeDiff, Nat.reduceEqDiff, Nat.reduceBEq, Nat.reduceBNe, Int.reduceToNat, Int.reduceLT, Int.reduceLE, Int.reduceEq, Int.reduceNe, Int.reduceAdd, Int.reduceSub, Int.reduceMul, Int.reduceNeg, bd98, h1', show (f == 0) = true by simp [h2], show (t == 0) = true by simp [h3], Bool.and_self, chk_of]
        · simp (maxSteps := 2000000) (disch := omega) only [go_sem, doCall, doCallQ, doCallP, Nat.reduceAdd, Nat.reduceMul, Nat.reduceSub, Nat.reduceDiv, Nat.reduceMod, Nat.reduceLT, Nat.reduceLeDiff, Nat.reduceEqDiff, Nat.reduceBEq, Nat.reduceBNe, Int.reduceToNat, Int.reduceLT, Int.reduceLE, Int.reduceEq, Int.reduceNe, Int.reduceAdd, Int.reduceSub, Int.reduceMul, Int.reduceNeg, bd98, h1', show (f == 0) = true by simp [h2], show (t == 0) = false by simp [h3], Bool.and_false, chk_of]
      · simp (maxSteps := 2000000) (disch := omega) only [go_sem, doCall, doCallQ, doCallP, Nat.reduceAdd, Nat.reduceMul, Nat.reduceSub, Nat.reduceDiv, Nat.reduceMod, Nat.reduceLT, Nat.reduceLeDiff, Nat.reduceEqDiff, Nat.reduceBEq, Nat.reduceBNe, Int.reduceToNat, Int.reduceLT, Int.reduceLE, Int.reduceEq, Int.reduceNe, Int.reduceAdd, Int.reduceSub, Int.reduceMul, Int.reduceNeg, bd98, h1', show (f == 0) = false by simp [h2], Bool.false_and, chk_of]
    · by_cases h4 : RP f t
      · rw [decide_eq_true h4] at hr
        rw [decide_eq_true (show CntR true f t n from ⟨.inl h1, h4, .inl h1⟩)]
        simp (maxSteps := 2000000) (disch := omega) only [go_sem, doCall, doCallQ, doCallP, Nat.reduceAdd, Nat.reduceMul, Nat.reduceSub, Nat.reduceDiv, Nat.reduceMod, Nat.reduceLT, Nat.reduceLeDiff, Nat.reduceEqDiff, Nat.reduceBEq, Nat.reduceBNe, Int.reduceToNat, Int.reduceLT, Int.reduceLE, Int.reduceEq, Int.reduceNe, Int.reduceAdd, Int.reduceSub, Int.reduceMul, Int.reduceNeg, bd98, h1', hr, chk_of]
      · rw [decide_eq_false h4] at hr
        rw [decide_eq_false (fun h : CntR true f t n => h4 h.2.1)]
        simp (maxSteps := 2000000) (disch := omega) only [go_sem, doCall, doCallQ, doCallP, Nat.reduceAdd, Nat.reduceMul, Nat.reduceSub, Nat.reduceDiv, Nat.reduceMod, Nat.reduceLT, Nat.reduceLeDiff, Nat.reduceEqDiff, Nat.reduceBEq, Nat.reduceBNe, Int.reduceToNat, Int.reduceLT, Int.reduceLE, Int.reduceEq, Int.reduceNe, Int.reduceAdd, Int.reduceSub, Int.reduceMul, Int.reduceNeg, bd98, h1', hr, chk_of]
  · by_cases h2 : 0 ≤ n ∧ n ≤ 4611686018427387903
    · rw [decide_eq_true h2] at hf
      cases kn
      · have he : CntR false f t n ↔ (f = 0 ∧ t = 0) := ⟨fun h => ⟨h.2.1, h.2.2.1⟩, fun h => ⟨.inr h2, h.1, h.2, h1⟩⟩
        by_cases h3 : f = 0
        · by_cases h4 : t = 0
          · rw [decide_eq_true (he.2 ⟨h3, h4⟩)]
            simp (maxSteps := 2000000) (disch := omega) only [go_sem, doCall, doCallQ, doCallP, Nat.reduceAdd, Nat.reduceMul, Nat.reduceSub, Nat.reduceDiv, Nat.reduceMod, Nat.reduceLT, Nat.reduceLeDiff, Nat.reduceEqDiff, Nat.reduceBEq, Nat.reduceBNe, Int.reduceToNat, Int.reduceLT, Int.reduceLE, Int.reduceEq, Int.reduceNe, Int.reduceAdd, Int.reduceSub, Int.reduceMul, Int.reduceNeg, bd98, h1, hf, show (f == 0) = true by simp [h3], show (t == 0) = true by simp [h4], Bool.and_self, chk_of]
          · rw [decide_eq_false (fun h => h4 (he.1 h).2)]
            simp (maxSteps := 2000000) (disch := omega) only [go_sem, doCall, doCallQ, doCallP, Nat.reduceAdd, Nat.reduceMul, Nat.reduceSub, Nat.reduceDiv, Nat.reduceMod, Nat.reduceLT, Nat.reduceLeDiff, Nat.reduceEqDiff, Nat.reduceBEq, Nat.reduceBNe, Int.reduceToNat, Int.reduceLT, Int.reduceLE, Int.reduceEq, Int.reduceNe, Int.reduceAdd, Int.reduceSub, Int.reduceMul, Int.reduceNeg, bd98, h1, hf, show (f == 0) = true by simp [h3], show (t == 0) = false by simp [h4], Bool.and_false, chk_of]
        · rw [decide_eq_false (fun h => h3 (he.1 h).1)]
          simp (maxSteps := 2000000) (disch := omega) only [go_sem, doCall, doCallQ, doCallP, Nat.reduceAdd, Nat.reduceMul, Nat.reduceSub, Nat.reduceDiv, Nat.reduceMod, Nat.reduceLT, Nat.reduceLeDiff, Nat.reduceEqDiff, Nat.reduceBEq, Nat.reduceBNe, Int.reduceToNat, Int.reduceLT, Int.reduceLE, Int.reduceEq, Int.reduceNe, Int.reduceAdd, Int.reduceSub, Int.reduceMul, Int.reduceNeg, bd98, h1, hf, show (f == 0) = false by simp [h3], Bool.false_and, chk_of]
      · by_cases h4 : RP f t
        · rw [decide_eq_true h4] at hr
          by_cases h5 : t ≤ n
          · rw [decide_eq_true (show CntR true f t n from ⟨.inr h2, h4, .inr h5⟩)]
            simp (maxSteps := 2000000) (disch := omega) only [go_sem, doCall, doCallQ, doCallP, Nat.reduceAdd, Nat.reduceMul, Nat.reduceSub, Nat.reduceDiv, Nat.reduceMod, Nat.reduceLT, Nat.reduceLeDiff, Nat.reduceEqDiff, Nat.reduceBEq, Nat.reduceBNe, Int.reduceToNat, Int.reduceLT, Int.reduceLE, Int.reduceEq, Int.reduceNe, Int.reduceAdd, Int.reduceSub, Int.reduceMul, Int.reduceNeg, bd98, h1, hf, hr, eq_true h5, chk_of]
          · rw [decide_eq_false (fun h : CntR true f t n => h.2.2.elim h1 h5)]
            simp (maxSteps := 2000000) (disch := omega) only [go_sem, doCall, doCallQ, doCallP, Nat.reduceAdd, Nat.reduceMul, Nat.reduceSub, Nat.reduceDiv, Nat.reduceMod, Nat.reduceLT, Nat.reduceLeDiff, Nat.reduceEqDiff, Nat.reduceBEq, Nat.reduceBNe, Int.reduceToNat, Int.reduceLT, Int.reduceLE, Int.reduceEq, Int.reduceNe, Int.reduceAdd, Int.reduceSub, Int.reduceMul, Int.reduceNeg, bd98, h1, hf, hr, h5, chk_of]
        · rw [decide_eq_false h4] at hr
          rw [decide_eq_false (fun h : CntR true f t n => h4 h.2.1)]
          simp (maxSteps := 2000000) (disch := omega) only [go_sem, doCall, doCallQ, doCallP, Nat.reduceAdd, Nat.reduceMul, Nat.reduceSub, Nat.reduceDiv, Nat.reduceMod, Nat.reduceLT, Nat.reduceLeDiff, Nat.reduceEqDiff, Nat.reduceBEq, Nat.reduceBNe, Int.reduceToNat, Int.reduceLT, Int.reduceLE, Int.reduceEq, Int.reduceNe, Int.reduceAdd, Int.reduceSub, Int.reduceMul, Int.reduceNeg, bd98, h1, hf, hr, chk_of]
    · rw [decide_eq_false h2] at hf
      rw [decide_eq_false (fun h : CntR kn f t n => h.1.elim h1 h2)]
      simp (maxSteps := 2000000) (disch := omega) only [go_sem, doCall, doCallQ, doCallP, Nat.reduceAdd, Nat.reduceMul, Nat.reduceSub, Nat.reduceDiv, Nat.reduceMod, Nat.reduceLT, Nat.reduceLeDiff, Nat.reduceEqDiff, Nat.reduceBEq, Nat.reduceBNe, Int.reduceToNat, Int.reduceLT, Int.reduceLE, Int.reduceEq, Int.reduceNe, Int.reduceAdd, Int.reduceSub, Int.reduceMul, Int.reduceNeg, bd98, h1, hf, chk_of]
theorem t_rcright (kn : Bool) (f t n : Int) : call ir 69 [vC kn f t n] [] = some (dT (decide (CntR kn f t n)), []) := by
  rw [call_eq (fn := ir69) rfl, evF_bnd]
  have hr := t_rright f t
  by_cases h0 : n < -1
  · rw [decide_eq_false (fun h : CntR kn f t n => by have := h.1; omega)]
    simp (maxSteps := 2000000) (disch := omega) only [go_sem, doCall, doCallQ, doCallP, Nat.reduceAdd, Nat.reduceMul, Nat.reduceSub, Nat.reduceDiv, Nat.reduceMod, Nat.reduceLT, Nat.reduceLeDiff, Nat.reduceEqDiff, Nat.reduceBEq, Nat.reduceBNe, Int.reduceToNat, Int.reduceLT, Int.reduceLE, Int.reduceEq, Int.reduceNe, Int.reduceAdd, Int.reduceSub, Int.reduceMul, Int.reduceNeg, bd69, eq_true h0, chk_of]
  · by_cases h01 : 4611686018427387903 < n
    · rw [decide_eq_false (fun h : CntR kn f t n => by have := h.1; omega)]
      simp (maxSteps := 2000000) (disch := omega) only [go_sem, doCall, doCallQ, doCallP, Nat.reduceAdd, Nat.reduceMul, Nat.reduceSub, Nat.reduceDiv, Nat.reduceMod, Nat.reduceLT, Nat.reduceLeDiff, Nat.reduceEqDiff, Nat.reduceBEq, Nat.reduceBNe, Int.reduceToNat, Int.reduceLT, Int.reduceLE, Int.reduceEq, Int.reduceNe, Int.reduceAdd, Int.reduceSub, Int.reduceMul, Int.reduceNeg, bd69, h0, eq_true h01, chk_of]
    · cases kn
      · by_cases h3 : f = 0
        · by_cases h4 : t = 0
          · by_cases h5 : 0 ≤ n
            · rw [decide_eq_true (show CntR false f t n from ⟨.inr ⟨h5, by omega⟩, h3, h4, by omega⟩)]
              simp (maxSteps := 2000000) (disch := omega) only [go_sem, doCall, doCallQ, doCallP, Nat.reduceAdd, Nat.reduceMul, Nat.reduceSub, Nat.reduceDiv, Nat.reduceMod, Nat.reduceLT, Nat.reduceLeDiff, Nat.reduceEqDiff, Nat.reduceBEq, Nat.reduceBNe, Int.reduceToNat, Int.reduceLT, Int.reduceLE, Int.reduceEq, Int.reduceNe, Int.reduceAdd, Int.reduceSub, Int.reduceMul, Int.reduceNeg, bd69, h0, h01, show (f == 0) = true by simp [h3], show (t == 0) = true by simp [h4], eq_true h3, eq_true h4, eq_true h5, Bool.and_self, chk_of]
            · rw [decide_eq_false (fun h : CntR false f t n => by have := h.1; have := h.2.2.2; omega)]
              simp (maxSteps := 2000000) (disch := omega) only [go_sem, doCall, doCallQ, doCallP, Nat.reduceAdd, Nat.reduceMul, Nat.reduceSub, Nat.reduceDiv, Nat.reduceMod, Nat.reduceLT, Nat.reduceLeDiff, Nat.reduceEqDiff, Nat.reduceBEq, Nat.reduceBNe, Int.reduceToNat, Int.reduceLT, Int.reduceLE, Int.reduceEq, Int.reduceNe, Int.reduceAdd, Int.reduceSub, Int.reduceMul, Int.reduceNeg, bd69, h0, h01, show (f == 0) = true by simp [h3], show (t == 0) = true by simp [h4], eq_true h3, eq_true h4, h5, Bool.and_self, chk_of]
          · rw [decide_eq_false (fun h : CntR false f t n => h4 h.2.2.1)]
            simp (maxSteps := 2000000) (disch := omega) only [go_sem, doCall, doCallQ, doCallP, Nat.reduceAdd, Nat.reduceMul, Nat.reduceSub, Nat.reduceDiv, Nat.reduceMod, Nat.reduceLT, Nat.reduceLeDiff, Nat.reduceEqDiff, Nat.reduceBEq, Nat.reduceBNe, Int.reduceToNat, Int.reduceLT, Int.reduceLE, Int.reduceEq, Int.reduceNe, Int.reduceAdd, Int.reduceSub, Int.reduceMul, Int.reduceNeg, bd69, h0, h01, show (f == 0) = true by simp [h3], show (t == 0) = false by simp [h4], eq_true h3, h4, Bool.and_false, chk_of]
        · rw [decide_eq_false (fun h : CntR false f t n => h3 h.2.1)]
          simp (maxSteps := 2000000) (disch := omega) only [go_sem, doCall, doCallQ, doCallP, Nat.reduceAdd, Nat.reduceMul, Nat.reduceSub, Nat.reduceDiv, Nat.reduceMod, Nat.reduceLT, Nat.reduceLeDiff, Nat.reduceEqDiff, Nat.reduceBEq, Nat.reduceBNe, Int.reduceToNat, Int.reduceLT, Int.reduceLE, Int.reduceEq, Int.reduceNe, Int.reduceAdd, Int.reduceSub, Int.reduceMul, Int.reduceNeg, bd69, h0, h01, show (f == 0) = false by simp [h3], h3, Bool.false_and, chk_of]
      · by_cases h4 : RP f t
        · rw [decide_eq_true h4] at hr
          by_cases h1 : n = -1
          · rw [decide_eq_true (show CntR true f t n from ⟨.inl h1, h4, .inl h1⟩)]
            simp (maxSteps := 2000000) (disch := omega) only [go_sem, doCall, doCallQ, doCallP, Nat.reduceAdd, Nat.reduceMul, Nat.reduceSub, Nat.reduceDiv, Nat.reduceMod, Nat.reduceLT, Nat.reduceLeDiff, Nat.reduceEqDiff, Nat.reduceBEq, Nat.reduceBNe, Int.reduceToNat, Int.reduceLT, Int.reduceLE, Int.reduceEq, Int.reduceNe, Int.reduceAdd, Int.reduceSub, Int.reduceMul, Int.reduceNeg, bd69, h0, h01, hr, eq_true h1, chk_of]
          · by_cases h5 : t ≤ n
            · rw [decide_eq_true (show CntR true f t n from ⟨.inr (by omega), h4, .inr h5⟩)]
              simp (maxSteps := 2000000) (disch := omega) only [go_sem, doCall, doCallQ, doCallP, Nat.reduceAdd, Nat.reduceMul, Nat.reduceSub, Nat.reduceDiv, Nat.reduceMod, Nat.reduceLT, Nat.reduceLeDiff, Nat.reduceEqDiff, Nat.reduceBEq, Nat.reduceBNe, Int.reduceToNat, Int.reduceLT, Int.reduceLE, Int.reduceEq, Int.reduceNe, Int.reduceAdd, Int.reduceSub, Int.reduceMul, Int.reduceNeg, bd69, h0, h01, hr, h1, eq_true h5, chk_of]
            · rw [decide_eq_false (fun h : CntR true f t n => h.2.2.elim h1 h5)]
              simp (maxSteps := 2000000) (disch := omega) only [go_sem, doCall, doCallQ, doCallP, Nat.reduceAdd, Nat.reduceMul, Nat.reduceSub, Nat.reduceDiv, Nat.reduceMod, Nat.reduceLT, Nat.reduceLeDiff, Nat.reduceEqDiff, Nat.reduceBEq, Nat.reduceBNe, Int.reduceToNat, Int.reduceLT, Int.reduceLE, Int.reduceEq, Int.reduceNe, Int.reduceAdd, Int.reduceSub, Int.reduceMul, Int.reduceNeg, bd69, h0, h01, hr, h1, h5, chk_of]
        · rw [decide_eq_false h4] at hr
          rw [decide_eq_false (fun h : CntR true f t n => h4 h.2.1)]
          simp (maxSteps := 2000000) (disch := omega) only [go_sem, doCall, doCallQ, doCallP, Nat.reduceAdd, Nat.reduceMul, Nat.reduceSub, Nat.reduceDiv, Nat.reduceMod, Nat.reduceLT, Nat.reduceLeDiff, Nat.reduceEqDiff, Nat.reduceBEq, Nat.reduceBNe, Int.reduceToNat, Int.reduceLT, Int.reduceLE, Int.reduceEq, Int.reduceNe, Int.reduceAdd, Int.reduceSub, Int.reduceMul, Int.reduceNeg, bd69, h0, h01, hr, chk_of]
/-- A content as a field. -/
def cntS (kn : Bool) (f t n : Int) : List UInt8 := if CntR kn f t n then (if kn then [98, 121, 116, 101, 115, 32] ++ (prn f ++ [45] ++ prn (t - 1)) else [98, 121, 116, 101, 115, 32, 42]) ++ (if n = -1 then [47, 42] else 47 :: prn n) else []
theorem t_cprint (kn : Bool) (f t n : Int) : call ir 68 [vC kn f t n] [] = some (dS (cntS kn f t n), []) := by
  rw [call_eq (fn := ir68) rfl, evF_bnd]
  have hc := t_cright kn f t n
  unfold cntS
  by_cases h : CntR kn f t n
  · rw [decide_eq_true h] at hc
    rw [if_pos h]
    cases kn
    · have hn : ¬ n = -1 := h.2.2.2
      have hn2 : 0 ≤ n ∧ n ≤ 4611686018427387903 := h.1.elim (fun e => absurd e hn) id
      have p3 := t_print n (by omega)
      have l3 := prn_len (n := n) (by omega)
      rw [if_neg hn, if_neg (by simp)]
      simp (maxSteps := 2000000) (disch := omega) only [go_sem, doCall, doCallQ, doCallP, Nat.reduceAdd, Nat.reduceMul, Nat.reduceSub, Nat.reduceDiv, Nat.reduceMod, Nat.reduceLT, Nat.reduceLeDiff, Nat.reduceEqDiff, Nat.reduceBEq, Nat.reduceBNe, Int.reduceToNat, Int.reduceLT, Int.reduceLE, Int.reduceEq, Int.reduceNe, Int.reduceAdd, Int.reduceSub, Int.reduceMul, Int.reduceNeg, bd68, hc, hn, p3, List.length_append, List.length_cons, List.length_nil, chk_of]
    · have hr := h.2.1
      unfold RP at hr
      have p1 := t_print f (by omega)
      have p2 := t_print (t - 1) (by omega)
      have l1 := prn_len (n := f) (by omega)
      have l2 := prn_len (n := t - 1) (by omega)
      have hw : wr .i64 (t - 1) = t - 1 := wr_id (by omega)
      rw [if_pos rfl]
      by_cases hn : n = -1
      · rw [if_pos hn]
        simp (maxSteps := 2000000) (disch := omega) only [go_sem, doCall, doCallQ, doCallP, Nat.reduceAdd, Nat.reduceMul, Nat.reduceSub, Nat.reduceDiv, Nat.reduceMod, Nat.reduceLT, Nat.reduceLeDiff, Nat.reduceEqDiff, Nat.reduceBEq, Nat.reduceBNe, Int.reduceToNat, Int.reduceLT, Int.reduceLE, Int.reduceEq, Int.reduceNe, Int.reduceAdd, Int.reduceSub, Int.reduceMul, Int.reduceNeg, bd68, hc, eq_true hn, p1, p2, hw, List.length_append, List.length_cons, List.length_nil, chk_of]
      · have hn2 : 0 ≤ n ∧ n ≤ 4611686018427387903 := h.1.elim (fun e => absurd e hn) id
        have p3 := t_print n (by omega)
        have l3 := prn_len (n := n) (by omega)
        rw [if_neg hn]
        simp (maxSteps := 2000000) (disch := omega) only [go_sem, doCall, doCallQ, doCallP, Nat.reduceAdd, Nat.reduceMul, Nat.reduceSub, Nat.reduceDiv, Nat.reduceMod, Nat.reduceLT, Nat.reduceLeDiff, Nat.reduceEqDiff, Nat.reduceBEq, Nat.reduceBNe, Int.reduceToNat, Int.reduceLT, Int.reduceLE, Int.reduceEq, Int.reduceNe, Int.reduceAdd, Int.reduceSub, Int.reduceMul, Int.reduceNeg, bd68, hc, hn, p1, p2, p3, hw, List.length_append, List.length_cons, List.length_nil, chk_of]
        simp
  · rw [decide_eq_false h] at hc
    rw [if_neg h]
    simp (maxSteps := 2000000) (disch := omega) only [go_sem, doCall, doCallQ, doCallP, Nat.reduceAdd, Nat.reduceMul, Nat.reduceSub, Nat.reduceDiv, Nat.reduceMod, Nat.reduceLT, Nat.reduceLeDiff, Nat.reduceEqDiff, Nat.reduceBEq, Nat.reduceBNe, Int.reduceToNat, Int.reduceLT, Int.reduceLE, Int.reduceEq, Int.reduceNe, Int.reduceAdd, Int.reduceSub, Int.reduceMul, Int.reduceNeg, bd68, hc, chk_of]
theorem t_rcprint (kn : Bool) (f t n : Int) : call ir 38 [vC kn f t n] [] = some (dS (cntS kn f t n), []) := by
  rw [call_eq (fn := ir38) rfl, evF_bnd]
  have hc := t_rcright kn f t n
  unfold cntS
  by_cases h : CntR kn f t n
  · rw [decide_eq_true h] at hc
    rw [if_pos h]
    cases kn
    · have hn : ¬ n = -1 := h.2.2.2
      have hn2 : 0 ≤ n ∧ n ≤ 4611686018427387903 := h.1.elim (fun e => absurd e hn) id
      have hn3 : ¬ n < 0 := by omega
      have p3 := t_rprint n (by omega)
      have l3 := prn_len (n := n) (by omega)
      rw [if_neg hn, if_neg (by simp)]
      simp (maxSteps := 2000000) (disch := omega) only [go_sem, doCall, doCallQ, doCallP, Nat.reduceAdd, Nat.reduceMul, Nat.reduceSub, Nat.reduceDiv, Nat.reduceMod, Nat.reduceLT, Nat.reduceLeDiff, Nat.reduceEqDiff, Nat.reduceBEq, Nat.reduceBNe, Int.reduceToNat, Int.reduceLT, Int.reduceLE, Int.reduceEq, Int.reduceNe, Int.reduceAdd, Int.reduceSub, Int.reduceMul, Int.reduceNeg, bd38, hc, hn3, p3, List.length_append, List.length_cons, List.length_nil, chk_of]
    · have hr := h.2.1
      unfold RP at hr
      have p1 := t_rprint f (by omega)
      have p2 := t_rprint (t - 1) (by omega)
      have l1 := prn_len (n := f) (by omega)
      have l2 := prn_len (n := t - 1) (by omega)
      have hw : wr .i64 (t - 1) = t - 1 := wr_id (by omega)
      rw [if_pos rfl]
      by_cases hn : n = -1
      · have hn3 := eq_true (show n < 0 by omega)
        rw [if_pos hn]
        simp (maxSteps := 2000000) (disch := omega) only [go_sem, doCall, doCallQ, doCallP, Nat.reduceAdd, Nat.reduceMul, Nat.reduceSub, Nat.reduceDiv, Nat.reduceMod, Nat.reduceLT, Nat.reduceLeDiff, Nat.reduceEqDiff, Nat.reduceBEq, Nat.reduceBNe, Int.reduceToNat, Int.reduceLT, Int.reduceLE, Int.reduceEq, Int.reduceNe, Int.reduceAdd, Int.reduceSub, Int.reduceMul, Int.reduceNeg, bd38, hc, hn3, p1, p2, hw, List.length_append, List.length_cons, List.length_nil, chk_of]
      · have hn2 : 0 ≤ n ∧ n ≤ 4611686018427387903 := h.1.elim (fun e => absurd e hn) id
        have hn3 : ¬ n < 0 := by omega
        have p3 := t_rprint n (by omega)
        have l3 := prn_len (n := n) (by omega)
        rw [if_neg hn]
        simp (maxSteps := 2000000) (disch := omega) only [go_sem, doCall, doCallQ, doCallP, Nat.reduceAdd, Nat.reduceMul, Nat.reduceSub, Nat.reduceDiv, Nat.reduceMod, Nat.reduceLT, Nat.reduceLeDiff, Nat.reduceEqDiff, Nat.reduceBEq, Nat.reduceBNe, Int.reduceToNat, Int.reduceLT, Int.reduceLE, Int.reduceEq, Int.reduceNe, Int.reduceAdd, Int.reduceSub, Int.reduceMul, Int.reduceNeg, bd38, hc, hn3, p1, p2, p3, hw, List.length_append, List.length_cons, List.length_nil, chk_of]
        simp
  · rw [decide_eq_false h] at hc
    rw [if_neg h]
    simp (maxSteps := 2000000) (disch := omega) only [go_sem, doCall, doCallQ, doCallP, Nat.reduceAdd, Nat.reduceMul, Nat.reduceSub, Nat.reduceDiv, Nat.reduceMod, Nat.reduceLT, Nat.reduceLeDiff, Nat.reduceEqDiff, Nat.reduceBEq, Nat.reduceBNe, Int.reduceToNat, Int.reduceLT, Int.reduceLE, Int.reduceEq, Int.reduceNe, Int.reduceAdd, Int.reduceSub, Int.reduceMul, Int.reduceNeg, bd38, hc, chk_of]
theorem t_of (f t n : Int) : call ir 35 [vP (f, t), dI n] [] = some (dS (cntS true f t n), []) := by
  rw [call_eq (fn := ir35) rfl, evF_bnd]
  simp (maxSteps := 2000000) (disch := omega) only [go_sem, doCall, doCallQ, doCallP, Nat.reduceAdd, Nat.reduceMul, Nat.reduceSub, Nat.reduceDiv, Nat.reduceMod, Nat.reduceLT, Nat.reduceLeDiff, Nat.reduceEqDiff, Nat.reduceBEq, Nat.reduceBNe, Int.reduceToNat, Int.reduceLT, Int.reduceLE, Int.reduceEq, Int.reduceNe, Int.reduceAdd, Int.reduceSub, Int.reduceMul, Int.reduceNeg, bd35, t_cprint, chk_of]
theorem cntS_len (kn : Bool) (f t n : Int) : (cntS kn f t n).length ≤ 100 := by
  unfold cntS
  split
  · rename_i h
    have h1 := h.1
    have l3 := fun e : ¬ n = -1 => prn_len (n := n) (by omega)
    cases kn
    · have hn : ¬ n = -1 := h.2.2.2
      have := l3 hn
      rw [if_neg hn]; simp; omega
    · have hr := h.2.1
      unfold RP at hr
      have l1 := prn_len (n := f) (by omega)
      have l2 := prn_len (n := t - 1) (by omega)
      by_cases hn : n = -1
      · rw [if_pos hn]; simp; omega
      · have := l3 hn
        rw [if_neg hn]; simp; omega
  · simp
end Go.Proofs.YtpibecljdooilaaDoor
