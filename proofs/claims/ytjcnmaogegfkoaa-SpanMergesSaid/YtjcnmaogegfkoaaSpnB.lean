/- Spans: Right, Has, Apart. Own work. -/
import Derived.Test.YtjcnmaogegfkoaaIrB
import Derived.Test.YtjcnmaogegfkoaaEvArg
namespace Go.Proofs.Ytjcnmaogegfkoaa
open Go Go.Ev Go.Proofs.Ytjcnmaogegfkoaa.Ir
set_option maxRecDepth 100000
set_option maxHeartbeats 4000000
set_option linter.unusedSimpArgs false
set_option linter.unusedVariables false
def RP (a b : Int) : Prop := 0 ≤ a ∧ a < b ∧ b ≤ 4611686018427387903
instance (a b : Int) : Decidable (RP a b) := by unfold RP; infer_instance
abbrev eP (x : Int × Int) : List D := [.int .i64 x.1, .int .i64 x.2]
theorem get_eP (l : List (Int × Int)) (i : Nat) (h : i < l.length) : (l.map eP).getD i [] = eP (l[i]) := by simp [List.getD_eq_getElem?_getD, h]
theorem t_right (a b : Int) : call ir 17 [.agg [.d (.int .i64 a), .d (.int .i64 b)]] [] = some (.d (.bool (decide (RP a b))), []) := by
  rw [call_eq (fn := ir17) rfl, evF_bnd]
  simp (maxSteps := 2000000) only [go_sem, doCall, doCallQ, Nat.reduceAdd, Nat.reduceMul, Nat.reduceSub, Nat.reduceDiv, Nat.reduceMod, Nat.reduceLT, Nat.reduceLeDiff, Nat.reduceEqDiff, Nat.reduceBEq, Nat.reduceBNe, Int.reduceToNat, Int.reduceLT, Int.reduceLE, Int.reduceEq, Int.reduceNe, Int.reduceAdd, Int.reduceSub, Int.reduceMul, Int.reduceNeg, bd17]
  repeat' (apply two_cases <;> intro h <;> simp (maxSteps := 2000000) only [go_sem, doCall, doCallQ, Nat.reduceAdd, Nat.reduceMul, Nat.reduceSub, Nat.reduceDiv, Nat.reduceMod, Nat.reduceLT, Nat.reduceLeDiff, Nat.reduceEqDiff, Nat.reduceBEq, Nat.reduceBNe, Int.reduceToNat, Int.reduceLT, Int.reduceLE, Int.reduceEq, Int.reduceNe, Int.reduceAdd, Int.reduceSub, Int.reduceMul, Int.reduceNeg, h, false_and, and_false])
  all_goals first | (apply dec_eq; unfold RP; omega) | (apply dec_f; unfold RP; omega)
theorem t_rright (a b : Int) : call ir 11 [.agg [.d (.int .i64 a), .d (.int .i64 b)]] [] = some (.d (.bool (decide (RP a b))), []) := by
  rw [call_eq (fn := ir11) rfl, evF_bnd]
  simp (maxSteps := 2000000) only [go_sem, doCall, doCallQ, Nat.reduceAdd, Nat.reduceMul, Nat.reduceSub, Nat.reduceDiv, Nat.reduceMod, Nat.reduceLT, Nat.reduceLeDiff, Nat.reduceEqDiff, Nat.reduceBEq, Nat.reduceBNe, Int.reduceToNat, Int.reduceLT, Int.reduceLE, Int.reduceEq, Int.reduceNe, Int.reduceAdd, Int.reduceSub, Int.reduceMul, Int.reduceNeg, bd11]
  repeat' (apply two_cases <;> intro h <;> simp (maxSteps := 2000000) only [go_sem, doCall, doCallQ, Nat.reduceAdd, Nat.reduceMul, Nat.reduceSub, Nat.reduceDiv, Nat.reduceMod, Nat.reduceLT, Nat.reduceLeDiff, Nat.reduceEqDiff, Nat.reduceBEq, Nat.reduceBNe, Int.reduceToNat, Int.reduceLT, Int.reduceLE, Int.reduceEq, Int.reduceNe, Int.reduceAdd, Int.reduceSub, Int.reduceMul, Int.reduceNeg, h, false_and, and_false])
  all_goals first | (apply dec_eq; unfold RP; omega) | (apply dec_f; unfold RP; omega)
abbrev vP (x : Int × Int) : AV := .agg [.d (.int .i64 x.1), .d (.int .i64 x.2)]
/-- Whether a byte is in one. -/
def isIn (at' : Int) (s : Int × Int) : Prop := RP s.1 s.2 ∧ s.1 ≤ at' ∧ at' < s.2
instance (at' : Int) (s : Int × Int) : Decidable (isIn at' s) := by unfold isIn; infer_instance
theorem t_has1 (s : Int × Int) (at' : Int) : call ir 22 [vP s, .ptr 0 0] [.dbox [.int .i64 at']] = some (.d (.bool (decide (isIn at' s))), [.dbox [.int .i64 at']]) := by
  rw [call_eq (fn := ir22) rfl, evF_bnd]
  simp (maxSteps := 2000000) only [go_sem, doCall, doCallQ, Nat.reduceAdd, Nat.reduceMul, Nat.reduceSub, Nat.reduceDiv, Nat.reduceMod, Nat.reduceLT, Nat.reduceLeDiff, Nat.reduceEqDiff, Nat.reduceBEq, Nat.reduceBNe, Int.reduceToNat, Int.reduceLT, Int.reduceLE, Int.reduceEq, Int.reduceNe, Int.reduceAdd, Int.reduceSub, Int.reduceMul, Int.reduceNeg, bd22, t_right]
  repeat' (apply two_cases <;> intro h <;> simp (maxSteps := 2000000) only [go_sem, doCall, doCallQ, Nat.reduceAdd, Nat.reduceMul, Nat.reduceSub, Nat.reduceDiv, Nat.reduceMod, Nat.reduceLT, Nat.reduceLeDiff, Nat.reduceEqDiff, Nat.reduceBEq, Nat.reduceBNe, Int.reduceToNat, Int.reduceLT, Int.reduceLE, Int.reduceEq, Int.reduceNe, Int.reduceAdd, Int.reduceSub, Int.reduceMul, Int.reduceNeg, h, t_right])
  all_goals unfold RP at *
  all_goals first | (apply dec_eq; unfold isIn RP; omega) | (apply dec_f; unfold isIn RP; omega) | trace_state
def hasb (l : List (Int × Int)) (at' : Int) : Bool := l.any fun s => decide (isIn at' s)
theorem hasb_drop (l : List (Int × Int)) (at' : Int) (i : Nat) (h : i < l.length) : hasb (l.drop i) at' = (decide (isIn at' l[i]) || hasb (l.drop (i + 1)) at') := by
  rw [List.drop_eq_getElem_cons h]; rfl
theorem lp_rhas (l : List (Int × Int)) (hl : l.length ≤ 1000) (at' : Int) (i : Nat) (hi : i ≤ l.length) :
    bnd (evC (call ir) (loop ir) lp10_0 (st10_0 0 (.d (.int .i64 at')) (.d (.list 2 (l.map eP))) (.d (.int .i64 l.length)) (.d (.int .i64 i)) [])) (lpC (call ir) (loop ir) [1, 7, 8, 9] lp10_0 (bk 0 (sq (call ir) (loop ir) (.seq (.reg [⟨some 4, none, .mv (.c (.d (.bool false))), .none⟩]) (.ret none)) (fin ir10)))) =
      some (.d (.bool (hasb (l.drop i) at')), []) := by
  by_cases h : i = l.length
  · have hx : ¬ (i : Int) < l.length := by omega
    simp (maxSteps := 2000000) (disch := omega) only [go_sem, doCall, doCallQ, Nat.reduceAdd, Nat.reduceMul, Nat.reduceSub, Nat.reduceDiv, Nat.reduceMod, Nat.reduceLT, Nat.reduceLeDiff, Nat.reduceEqDiff, Nat.reduceBEq, Nat.reduceBNe, Int.reduceToNat, Int.reduceLT, Int.reduceLE, Int.reduceEq, Int.reduceNe, Int.reduceAdd, Int.reduceSub, Int.reduceMul, Int.reduceNeg, u10_0, lb10_0, hx]
    rw [h, List.drop_length]; rfl
  · have hlt : (i : Int) < l.length := by omega
    have hi' : i < l.length := by omega
    have hw := wr_succ (i := i) (by omega)
    have ih := lp_rhas l hl at' (i + 1) (by omega)
    rw [hasb_drop l at' i hi']
    simp (maxSteps := 2000000) (disch := omega) only [go_sem, doCall, doCallQ, Nat.reduceAdd, Nat.reduceMul, Nat.reduceSub, Nat.reduceDiv, Nat.reduceMod, Nat.reduceLT, Nat.reduceLeDiff, Nat.reduceEqDiff, Nat.reduceBEq, Nat.reduceBNe, Int.reduceToNat, Int.reduceLT, Int.reduceLE, Int.reduceEq, Int.reduceNe, Int.reduceAdd, Int.reduceSub, Int.reduceMul, Int.reduceNeg, u10_0, lb10_0, hlt, Int.toNat_natCast, get_eP, t_rright, chk_of]
    by_cases hin : isIn at' l[i]
    · obtain ⟨q1, q2, q3⟩ := hin
      simp (maxSteps := 2000000) only [go_sem, doCall, doCallQ, Nat.reduceAdd, Nat.reduceMul, Nat.reduceSub, Nat.reduceDiv, Nat.reduceMod, Nat.reduceLT, Nat.reduceLeDiff, Nat.reduceEqDiff, Nat.reduceBEq, Nat.reduceBNe, Int.reduceToNat, Int.reduceLT, Int.reduceLE, Int.reduceEq, Int.reduceNe, Int.reduceAdd, Int.reduceSub, Int.reduceMul, Int.reduceNeg, q1, q2, q3]
      rw [decide_eq_true (show isIn at' l[i] from ⟨q1, q2, q3⟩)]; rfl
    · rw [decide_eq_false hin, Bool.false_or, ← ih]
      unfold isIn at hin
      repeat' (apply two_cases <;> intro h <;> simp (maxSteps := 2000000) only [go_sem, doCall, doCallQ, Nat.reduceAdd, Nat.reduceMul, Nat.reduceSub, Nat.reduceDiv, Nat.reduceMod, Nat.reduceLT, Nat.reduceLeDiff, Nat.reduceEqDiff, Nat.reduceBEq, Nat.reduceBNe, Int.reduceToNat, Int.reduceLT, Int.reduceLE, Int.reduceEq, Int.reduceNe, Int.reduceAdd, Int.reduceSub, Int.reduceMul, Int.reduceNeg, h])
      all_goals first
        | (rw [loop_step1]; simp (maxSteps := 2000000) only [go_sem, doCall, doCallQ, Nat.reduceAdd, Nat.reduceMul, Nat.reduceSub, Nat.reduceDiv, Nat.reduceMod, Nat.reduceLT, Nat.reduceLeDiff, Nat.reduceEqDiff, Nat.reduceBEq, Nat.reduceBNe, Int.reduceToNat, Int.reduceLT, Int.reduceLE, Int.reduceEq, Int.reduceNe, Int.reduceAdd, Int.reduceSub, Int.reduceMul, Int.reduceNeg, hw]; done)
        | (exfalso; unfold RP at *; omega)
termination_by l.length - i
theorem t_rhas (l : List (Int × Int)) (hl : l.length ≤ 1000) (at' : Int) : call ir 10 [.d (.list 2 (l.map eP)), .d (.int .i64 at')] [] = some (.d (.bool (hasb l at')), []) := by
  rw [call_eq (fn := ir10) rfl, evF_bnd]
  simp (maxSteps := 2000000) only [go_sem, doCall, doCallQ, Nat.reduceAdd, Nat.reduceMul, Nat.reduceSub, Nat.reduceDiv, Nat.reduceMod, Nat.reduceLT, Nat.reduceLeDiff, Nat.reduceEqDiff, Nat.reduceBEq, Nat.reduceBNe, Int.reduceToNat, Int.reduceLT, Int.reduceLE, Int.reduceEq, Int.reduceNe, Int.reduceAdd, Int.reduceSub, Int.reduceMul, Int.reduceNeg, bd10]
  rw [loop_step1]
  simp (maxSteps := 2000000) only [go_sem, doCall, doCallQ, Nat.reduceAdd, Nat.reduceMul, Nat.reduceSub, Nat.reduceDiv, Nat.reduceMod, Nat.reduceLT, Nat.reduceLeDiff, Nat.reduceEqDiff, Nat.reduceBEq, Nat.reduceBNe, Int.reduceToNat, Int.reduceLT, Int.reduceLE, Int.reduceEq, Int.reduceNe, Int.reduceAdd, Int.reduceSub, Int.reduceMul, Int.reduceNeg]
  have := lp_rhas l hl at' 0 (by omega)
  rw [List.drop_zero] at this
  exact this
abbrev clo1 : AV := .clo (.func 22) [] [.ptr 0 0]
theorem lp_idx (l : List (Int × Int)) (hl : l.length ≤ 1000) (at' : Int) (i : Nat) (hi : i ≤ l.length) :
    ∃ r : Int, bnd (evC (call ir) (loop ir) lp26_0 (st26_0 1 (.d (.list 2 (l.map eP))) clo1 (.d (.int .i64 l.length)) (.d (.int .i64 i)) [.dbox [.int .i64 at']])) (lpC (call ir) (loop ir) [0, 1, 7, 8] lp26_0 (bk 0 (sq (call ir) (loop ir) (.seq (.reg [⟨some 4, none, .mv (.c (.d (.int .i64 (-1)))), .none⟩]) (.ret none)) (fin ir26)))) =
      some (.d (.int .i64 r), [.dbox [.int .i64 at']]) ∧ decide (0 ≤ r) = hasb (l.drop i) at' := by
  by_cases h : i = l.length
  · have hx : ¬ (i : Int) < l.length := by omega
    refine ⟨-1, ?_, by rw [h, List.drop_length]; rfl⟩
    simp (maxSteps := 2000000) (disch := omega) only [go_sem, doCall, doCallQ, Nat.reduceAdd, Nat.reduceMul, Nat.reduceSub, Nat.reduceDiv, Nat.reduceMod, Nat.reduceLT, Nat.reduceLeDiff, Nat.reduceEqDiff, Nat.reduceBEq, Nat.reduceBNe, Int.reduceToNat, Int.reduceLT, Int.reduceLE, Int.reduceEq, Int.reduceNe, Int.reduceAdd, Int.reduceSub, Int.reduceMul, Int.reduceNeg, u26_0, lb26_0, hx]
  · have hlt : (i : Int) < l.length := by omega
    have hi' : i < l.length := by omega
    have hw := wr_succ (i := i) (by omega)
    obtain ⟨r, ih, hr⟩ := lp_idx l hl at' (i + 1) (by omega)
    by_cases hin : isIn at' l[i]
    · refine ⟨i, ?_, by rw [hasb_drop l at' i hi', decide_eq_true hin, decide_eq_true (by omega)]; rfl⟩
      simp (maxSteps := 2000000) (disch := omega) only [go_sem, doCall, doCallQ, Nat.reduceAdd, Nat.reduceMul, Nat.reduceSub, Nat.reduceDiv, Nat.reduceMod, Nat.reduceLT, Nat.reduceLeDiff, Nat.reduceEqDiff, Nat.reduceBEq, Nat.reduceBNe, Int.reduceToNat, Int.reduceLT, Int.reduceLE, Int.reduceEq, Int.reduceNe, Int.reduceAdd, Int.reduceSub, Int.reduceMul, Int.reduceNeg, u26_0, lb26_0, hlt, Int.toNat_natCast, get_eP, t_has1, hin, chk_of]
    · refine ⟨r, ?_, by rw [hr, hasb_drop l at' i hi', decide_eq_false hin, Bool.false_or]⟩
      simp (maxSteps := 2000000) (disch := omega) only [go_sem, doCall, doCallQ, Nat.reduceAdd, Nat.reduceMul, Nat.reduceSub, Nat.reduceDiv, Nat.reduceMod, Nat.reduceLT, Nat.reduceLeDiff, Nat.reduceEqDiff, Nat.reduceBEq, Nat.reduceBNe, Int.reduceToNat, Int.reduceLT, Int.reduceLE, Int.reduceEq, Int.reduceNe, Int.reduceAdd, Int.reduceSub, Int.reduceMul, Int.reduceNeg, u26_0, lb26_0, hlt, Int.toNat_natCast, get_eP, t_has1, hin, chk_of]
      rw [loop_step1]
      simp (maxSteps := 2000000) only [go_sem, doCall, doCallQ, Nat.reduceAdd, Nat.reduceMul, Nat.reduceSub, Nat.reduceDiv, Nat.reduceMod, Nat.reduceLT, Nat.reduceLeDiff, Nat.reduceEqDiff, Nat.reduceBEq, Nat.reduceBNe, Int.reduceToNat, Int.reduceLT, Int.reduceLE, Int.reduceEq, Int.reduceNe, Int.reduceAdd, Int.reduceSub, Int.reduceMul, Int.reduceNeg, hw]
      exact ih
termination_by l.length - i
theorem t_has (l : List (Int × Int)) (hl : l.length ≤ 1000) (at' : Int) : call ir 12 [.d (.list 2 (l.map eP)), .d (.int .i64 at')] [] = some (.d (.bool (hasb l at')), []) := by
  obtain ⟨r, h1, h2⟩ := lp_idx l hl at' 0 (by omega)
  rw [List.drop_zero] at h2
  have hi : call ir 26 [.d (.list 2 (l.map eP)), clo1] [.dbox [.int .i64 at']] = some (.d (.int .i64 r), [.dbox [.int .i64 at']]) := by
    rw [call_eq (fn := ir26) rfl, evF_bnd]
    simp (maxSteps := 2000000) only [go_sem, doCall, doCallQ, Nat.reduceAdd, Nat.reduceMul, Nat.reduceSub, Nat.reduceDiv, Nat.reduceMod, Nat.reduceLT, Nat.reduceLeDiff, Nat.reduceEqDiff, Nat.reduceBEq, Nat.reduceBNe, Int.reduceToNat, Int.reduceLT, Int.reduceLE, Int.reduceEq, Int.reduceNe, Int.reduceAdd, Int.reduceSub, Int.reduceMul, Int.reduceNeg, bd26]
    rw [loop_step1]
    simp (maxSteps := 2000000) only [go_sem, doCall, doCallQ, Nat.reduceAdd, Nat.reduceMul, Nat.reduceSub, Nat.reduceDiv, Nat.reduceMod, Nat.reduceLT, Nat.reduceLeDiff, Nat.reduceEqDiff, Nat.reduceBEq, Nat.reduceBNe, Int.reduceToNat, Int.reduceLT, Int.reduceLE, Int.reduceEq, Int.reduceNe, Int.reduceAdd, Int.reduceSub, Int.reduceMul, Int.reduceNeg]
    exact h1
  have hc : call ir 21 [.d (.list 2 (l.map eP)), clo1] [.dbox [.int .i64 at']] = some (.d (.bool (hasb l at')), [.dbox [.int .i64 at']]) := by
    rw [call_eq (fn := ir21) rfl, evF_bnd]
    simp (maxSteps := 2000000) only [go_sem, doCall, doCallQ, Nat.reduceAdd, Nat.reduceMul, Nat.reduceSub, Nat.reduceDiv, Nat.reduceMod, Nat.reduceLT, Nat.reduceLeDiff, Nat.reduceEqDiff, Nat.reduceBEq, Nat.reduceBNe, Int.reduceToNat, Int.reduceLT, Int.reduceLE, Int.reduceEq, Int.reduceNe, Int.reduceAdd, Int.reduceSub, Int.reduceMul, Int.reduceNeg, bd21, hi, h2]
  rw [call_eq (fn := ir12) rfl, evF_bnd]
  simp (maxSteps := 2000000) only [go_sem, doCall, doCallQ, Nat.reduceAdd, Nat.reduceMul, Nat.reduceSub, Nat.reduceDiv, Nat.reduceMod, Nat.reduceLT, Nat.reduceLeDiff, Nat.reduceEqDiff, Nat.reduceBEq, Nat.reduceBNe, Int.reduceToNat, Int.reduceLT, Int.reduceLE, Int.reduceEq, Int.reduceNe, Int.reduceAdd, Int.reduceSub, Int.reduceMul, Int.reduceNeg, bd12, hc]
/-- Right, and behind the one ahead. -/
def okA (l : List (Int × Int)) (i : Nat) : Prop := RP (l.getD i (0, 0)).1 (l.getD i (0, 0)).2 ∧ (i = 0 ∨ (l.getD (i - 1) (0, 0)).2 < (l.getD i (0, 0)).1)
instance (l : List (Int × Int)) (i : Nat) : Decidable (okA l i) := by unfold okA; infer_instance
def apTo (l : List (Int × Int)) (i : Nat) : Bool := (List.range i).all fun j => decide (okA l j)
theorem apTo_succ (l : List (Int × Int)) (i : Nat) : apTo l (i + 1) = (apTo l i && decide (okA l i)) := by
  simp [apTo, List.range_succ]
theorem apTo_false {l : List (Int × Int)} {i n : Nat} (hi : i < n) (h : ¬ okA l i) : apTo l n = false := by
  rw [← Bool.not_eq_true]
  intro hh
  exact h (of_decide_eq_true (List.all_eq_true.1 hh i (by simpa using hi)))
theorem getD_of {l : List (Int × Int)} {i : Nat} (h : i < l.length) : l.getD i (0, 0) = l[i] := by simp [List.getD_eq_getElem?_getD, h]
theorem wr_pred {i : Nat} (h : 0 < i) (h2 : i < 9223372036854775807) : wr .i64 ((i : Int) - 1) = ((i - 1 : Nat) : Int) := by rw [wr_id (by omega)]; omega
theorem lp_apart (l : List (Int × Int)) (hl : l.length ≤ 1000) (i : Nat) (hi : i ≤ l.length) (ha : apTo l i = true) :
    bnd (evC (call ir) (loop ir) lp9_0 (st9_0 0 (.d (.list 2 (l.map eP))) (.d (.list 2 (l.map eP))) (.d (.int .i64 l.length)) (.d (.int .i64 i)) [])) (lpC (call ir) (loop ir) [0, 5, 6, 7] lp9_0 (bk 0 (sq (call ir) (loop ir) (.seq (.reg [⟨some 2, none, .mv (.c (.d (.bool true))), .none⟩]) (.ret none)) (fin ir9)))) =
      some (.d (.bool (apTo l l.length)), []) := by
  by_cases h : i = l.length
  · have hx : ¬ (i : Int) < l.length := by omega
    simp (maxSteps := 2000000) (disch := omega) only [go_sem, doCall, doCallQ, Nat.reduceAdd, Nat.reduceMul, Nat.reduceSub, Nat.reduceDiv, Nat.reduceMod, Nat.reduceLT, Nat.reduceLeDiff, Nat.reduceEqDiff, Nat.reduceBEq, Nat.reduceBNe, Int.reduceToNat, Int.reduceLT, Int.reduceLE, Int.reduceEq, Int.reduceNe, Int.reduceAdd, Int.reduceSub, Int.reduceMul, Int.reduceNeg, u9_0, lb9_0, hx]
    rw [← h, ha]
  · have hlt : (i : Int) < l.length := by omega
    have hi' : i < l.length := by omega
    have hw := wr_succ (i := i) (by omega)
    by_cases hok : okA l i
    · have ih := lp_apart l hl (i + 1) (by omega) (by rw [apTo_succ, ha, decide_eq_true hok]; rfl)
      have hr := hok.1
      rw [getD_of hi'] at hr
      by_cases h0 : i = 0
      · have hz : ¬ (0 : Int) < i := by omega
        simp (maxSteps := 2000000) (disch := omega) only [go_sem, doCall, doCallQ, Nat.reduceAdd, Nat.reduceMul, Nat.reduceSub, Nat.reduceDiv, Nat.reduceMod, Nat.reduceLT, Nat.reduceLeDiff, Nat.reduceEqDiff, Nat.reduceBEq, Nat.reduceBNe, Int.reduceToNat, Int.reduceLT, Int.reduceLE, Int.reduceEq, Int.reduceNe, Int.reduceAdd, Int.reduceSub, Int.reduceMul, Int.reduceNeg, u9_0, lb9_0, hlt, Int.toNat_natCast, get_eP, t_right, hr, hz, chk_of]
        rw [loop_step1]; simp (maxSteps := 2000000) only [go_sem, doCall, doCallQ, Nat.reduceAdd, Nat.reduceMul, Nat.reduceSub, Nat.reduceDiv, Nat.reduceMod, Nat.reduceLT, Nat.reduceLeDiff, Nat.reduceEqDiff, Nat.reduceBEq, Nat.reduceBNe, Int.reduceToNat, Int.reduceLT, Int.reduceLE, Int.reduceEq, Int.reduceNe, Int.reduceAdd, Int.reduceSub, Int.reduceMul, Int.reduceNeg, hw]; exact ih
      · have hz : (0 : Int) < i := by omega
        have hp := wr_pred (i := i) (by omega) (by omega)
        have h2 := hok.2
        rw [getD_of hi', getD_of (show i - 1 < l.length by omega)] at h2
        have h3 : ¬ l[i].1 ≤ l[i - 1].2 := by omega
        simp (maxSteps := 2000000) (disch := omega) only [go_sem, doCall, doCallQ, Nat.reduceAdd, Nat.reduceMul, Nat.reduceSub, Nat.reduceDiv, Nat.reduceMod, Nat.reduceLT, Nat.reduceLeDiff, Nat.reduceEqDiff, Nat.reduceBEq, Nat.reduceBNe, Int.reduceToNat, Int.reduceLT, Int.reduceLE, Int.reduceEq, Int.reduceNe, Int.reduceAdd, Int.reduceSub, Int.reduceMul, Int.reduceNeg, u9_0, lb9_0, hlt, Int.toNat_natCast, get_eP, t_right, hr, hz, hp, h3, chk_of]
        rw [loop_step1]; simp (maxSteps := 2000000) only [go_sem, doCall, doCallQ, Nat.reduceAdd, Nat.reduceMul, Nat.reduceSub, Nat.reduceDiv, Nat.reduceMod, Nat.reduceLT, Nat.reduceLeDiff, Nat.reduceEqDiff, Nat.reduceBEq, Nat.reduceBNe, Int.reduceToNat, Int.reduceLT, Int.reduceLE, Int.reduceEq, Int.reduceNe, Int.reduceAdd, Int.reduceSub, Int.reduceMul, Int.reduceNeg, hw]; exact ih
    · rw [apTo_false (by omega) hok]
      unfold okA at hok
      rw [getD_of hi'] at hok
      by_cases hr : RP l[i].1 l[i].2
      · have h0 : ¬ i = 0 := fun h => hok ⟨hr, .inl h⟩
        have hz : (0 : Int) < i := by omega
        have hp := wr_pred (i := i) (by omega) (by omega)
        rw [getD_of (show i - 1 < l.length by omega)] at hok
        have h3 : l[i].1 ≤ l[i - 1].2 := by
          by_cases h : l[i - 1].2 < l[i].1
          · exact absurd ⟨hr, .inr h⟩ hok
          · omega
        simp (maxSteps := 2000000) (disch := omega) only [go_sem, doCall, doCallQ, Nat.reduceAdd, Nat.reduceMul, Nat.reduceSub, Nat.reduceDiv, Nat.reduceMod, Nat.reduceLT, Nat.reduceLeDiff, Nat.reduceEqDiff, Nat.reduceBEq, Nat.reduceBNe, Int.reduceToNat, Int.reduceLT, Int.reduceLE, Int.reduceEq, Int.reduceNe, Int.reduceAdd, Int.reduceSub, Int.reduceMul, Int.reduceNeg, u9_0, lb9_0, hlt, Int.toNat_natCast, get_eP, t_right, hr, hz, hp, h3, chk_of]
      · simp (maxSteps := 2000000) (disch := omega) only [go_sem, doCall, doCallQ, Nat.reduceAdd, Nat.reduceMul, Nat.reduceSub, Nat.reduceDiv, Nat.reduceMod, Nat.reduceLT, Nat.reduceLeDiff, Nat.reduceEqDiff, Nat.reduceBEq, Nat.reduceBNe, Int.reduceToNat, Int.reduceLT, Int.reduceLE, Int.reduceEq, Int.reduceNe, Int.reduceAdd, Int.reduceSub, Int.reduceMul, Int.reduceNeg, u9_0, lb9_0, hlt, Int.toNat_natCast, get_eP, t_right, hr, chk_of]
termination_by l.length - i
theorem t_apart (l : List (Int × Int)) (hl : l.length ≤ 1000) : call ir 9 [.d (.list 2 (l.map eP))] [] = some (.d (.bool (apTo l l.length)), []) := by
  rw [call_eq (fn := ir9) rfl, evF_bnd]
  simp (maxSteps := 2000000) only [go_sem, doCall, doCallQ, Nat.reduceAdd, Nat.reduceMul, Nat.reduceSub, Nat.reduceDiv, Nat.reduceMod, Nat.reduceLT, Nat.reduceLeDiff, Nat.reduceEqDiff, Nat.reduceBEq, Nat.reduceBNe, Int.reduceToNat, Int.reduceLT, Int.reduceLE, Int.reduceEq, Int.reduceNe, Int.reduceAdd, Int.reduceSub, Int.reduceMul, Int.reduceNeg, bd9]
  rw [loop_step1]
  simp (maxSteps := 2000000) only [go_sem, doCall, doCallQ, Nat.reduceAdd, Nat.reduceMul, Nat.reduceSub, Nat.reduceDiv, Nat.reduceMod, Nat.reduceLT, Nat.reduceLeDiff, Nat.reduceEqDiff, Nat.reduceBEq, Nat.reduceBNe, Int.reduceToNat, Int.reduceLT, Int.reduceLE, Int.reduceEq, Int.reduceNe, Int.reduceAdd, Int.reduceSub, Int.reduceMul, Int.reduceNeg]
  exact lp_apart l hl 0 (by omega) rfl
end Go.Proofs.Ytjcnmaogegfkoaa
