/- diff.Right at data and at an own slice; find, at. Own work. Clones, copied, find, DeleteFunc and the sort at what is held. Own work. DeleteFunc and the sort at what is held. Own work. The law's changes: they rise or not; what is gone. Own work. Apply at the law's changes. Own work. Bodies; changed, where nothing is held. Own work. -/
import Derived.Test.YtbcpffhialoliaaDfB
import Derived.Test.YtbcpffhialoliaaEvNatX
namespace Go.Proofs.Ytbcpffhialoliaa
open Go Go.Ev Go.Proofs.Ytbcpffhialoliaa.Ir
set_option maxRecDepth 100000
set_option maxHeartbeats 4000000
set_option linter.unusedSimpArgs false
set_option linter.unusedVariables false
theorem lp_dr (l : List Hd) (hl : l.length ≤ 1000000000) (hb : ∀ d ∈ l, d.ps.length ≤ 1000000000) (k : Ex → St → Option (AV × Heap)) (i : Nat) (hi : i ≤ l.length) :
    (bnd (evC (call ir) (loop ir) lp15_0 (st15_0 0 (vHs l) (vHs l) (dI l.length) (dI i) [])) (lpC (call ir) (loop ir) [0, 5, 6, 7] lp15_0 k)) = (if rtF l i then k (.exit 0) (clean [] (st15_0 0 .unk .unk .unk .unk []))
      else k .ret (clean [2] ⟨0, [.unk, .unk, dT false, .unk, .unk, .unk, .unk, .unk, .unk, .unk, .unk, .unk, .unk, .unk, .unk, .unk, .unk, .unk, .unk, .unk, .unk, .unk, .unk, .unk, .unk, .unk, .unk, .unk, .unk, .unk, .unk, .unk, .unk], []⟩)) := by
  by_cases h : i = l.length
  · have hx : ¬ (i : Int) < l.length := by omega
    rw [h] at hx
    rw [h, rtF_end]
    simp only [if_true]
    simp (maxSteps := 2000000) (disch := omega) only [go_sem, doCall, doCallQ, doCallP, Nat.reduceAdd, Nat.reduceMul, Nat.reduceSub, Nat.reduceDiv, Nat.reduceMod, Nat.reduceLT, Nat.reduceLeDiff, Nat.reduceEqDiff, Nat.reduceBEq, Nat.reduceBNe, Int.reduceToNat, Int.reduceLT, Int.reduceLE, Int.reduceEq, Int.reduceNe, Int.reduceAdd, Int.reduceSub, Int.reduceMul, Int.reduceNeg, u15_0, lb15_0, hx]
  · have hlt : (i : Int) < l.length := by omega
    have hi' : i < l.length := by omega
    have hw := wr_succ (i := i) (by omega)
    have hg := getHd l hi'
    have hlm : (l.map hdRow).length = l.length := List.length_map ..
    have ih := lp_dr l hl hb k (i + 1) (by omega)
    have hone := t_one l[i] (hb l[i] (List.getElem_mem hi'))
    rw [rtF_at hi']
    have hok : okH l i ↔ (i = 0 ∨ (l.getD (i - 1) default).ob < l[i].ob) := by unfold okH; rw [gH hi']
    by_cases c3 : i = 0
    · have c3' := eq_false (show ¬ (0 : Int) < i by omega)
      rw [decide_eq_true (hok.2 (.inl c3)), Bool.and_true]
      generalize l[i] = d at hg hone ⊢
      cases hr : oneR d
      · rw [hr] at hone
        rw [Bool.false_and, if_neg (by simp)]
        simp (maxSteps := 2000000) (disch := omega) only [go_sem, doCall, doCallQ, doCallP, Nat.reduceAdd, Nat.reduceMul, Nat.reduceSub, Nat.reduceDiv, Nat.reduceMod, Nat.reduceLT, Nat.reduceLeDiff, Nat.reduceEqDiff, Nat.reduceBEq, Nat.reduceBNe, Int.reduceToNat, Int.reduceLT, Int.reduceLE, Int.reduceEq, Int.reduceNe, Int.reduceAdd, Int.reduceSub, Int.reduceMul, Int.reduceNeg, u15_0, lb15_0, hlt, hi', hw, hg, hlm, hone, c3', Int.natCast_nonneg, Int.toNat_natCast, Option.getD_some, Option.getD_none, List.drop_zero, Nat.sub_zero, Nat.zero_le, true_and, and_true, Nat.le_refl, chk_of]
      · rw [hr] at hone
        rw [Bool.true_and]
        simp (maxSteps := 2000000) (disch := omega) only [go_sem, doCall, doCallQ, doCallP, Nat.reduceAdd, Nat.reduceMul, Nat.reduceSub, Nat.reduceDiv, Nat.reduceMod, Nat.reduceLT, Nat.reduceLeDiff, Nat.reduceEqDiff, Nat.reduceBEq, Nat.reduceBNe, Int.reduceToNat, Int.reduceLT, Int.reduceLE, Int.reduceEq, Int.reduceNe, Int.reduceAdd, Int.reduceSub, Int.reduceMul, Int.reduceNeg, u15_0, lb15_0, hlt, hi', hw, hg, hlm, hone, c3', Int.natCast_nonneg, Int.toNat_natCast, Option.getD_some, Option.getD_none, List.drop_zero, Nat.sub_zero, Nat.zero_le, true_and, and_true, Nat.le_refl, chk_of]
        rw [loop_step1]; simp (maxSteps := 2000000) only [go_sem, doCall, doCallQ, doCallP, Nat.reduceAdd, Nat.reduceMul, Nat.reduceSub, Nat.reduceDiv, Nat.reduceMod, Nat.reduceLT, Nat.reduceLeDiff, Nat.reduceEqDiff, Nat.reduceBEq, Nat.reduceBNe, Int.reduceToNat, Int.reduceLT, Int.reduceLE, Int.reduceEq, Int.reduceNe, Int.reduceAdd, Int.reduceSub, Int.reduceMul, Int.reduceNeg]; exact ih
    · have c3' := eq_true (show (0 : Int) < i by omega)
      have hp := pred_eq (i := i) (by omega) (by omega)
      have hi2 : i - 1 < l.length := by omega
      have hg2 := getHd l hi2
      rw [gH hi2] at hok
      by_cases c4 : l[i - 1].ob < l[i].ob
      · have c4' := eq_false (show ¬ l[i].ob ≤ l[i - 1].ob by omega)
        rw [decide_eq_true (hok.2 (.inr c4)), Bool.and_true]
        generalize l[i - 1] = d2 at hg2 c4'
        generalize l[i] = d at hg hone c4' ⊢
        cases hr : oneR d
        · rw [hr] at hone
          rw [Bool.false_and, if_neg (by simp)]
          simp (maxSteps := 2000000) (disch := omega) only [go_sem, doCall, doCallQ, doCallP, Nat.reduceAdd, Nat.reduceMul, Nat.reduceSub, Nat.reduceDiv, Nat.reduceMod, Nat.reduceLT, Nat.reduceLeDiff, Nat.reduceEqDiff, Nat.reduceBEq, Nat.reduceBNe, Int.reduceToNat, Int.reduceLT, Int.reduceLE, Int.reduceEq, Int.reduceNe, Int.reduceAdd, Int.reduceSub, Int.reduceMul, Int.reduceNeg, u15_0, lb15_0, hlt, hi', hi2, hp, hw, hg, hg2, hlm, hone, c3', c4', Int.natCast_nonneg, Int.toNat_natCast, Option.getD_some, Option.getD_none, List.drop_zero, Nat.sub_zero, Nat.zero_le, true_and, and_true, Nat.le_refl, chk_of]
        · rw [hr] at hone
          rw [Bool.true_and]
          simp (maxSteps := 2000000) (disch := omega) only [go_sem, doCall, doCallQ, doCallP, Nat.reduceAdd, Nat.reduceMul, Nat.reduceSub, Nat.reduceDiv, Nat.reduceMod, Nat.reduceLT, Nat.reduceLeDiff, Nat.reduceEqDiff, Nat.reduceBEq, Nat.reduceBNe, Int.reduceToNat, Int.reduceLT, Int.reduceLE, Int.reduceEq, Int.reduceNe, Int.reduceAdd, Int.reduceSub, Int.reduceMul, Int.reduceNeg, u15_0, lb15_0, hlt, hi', hi2, hp, hw, hg, hg2, hlm, hone, c3', c4', Int.natCast_nonneg, Int.toNat_natCast, Option.getD_some, Option.getD_none, List.drop_zero, Nat.sub_zero, Nat.zero_le, true_and, and_true, Nat.le_refl, chk_of]
          rw [loop_step1]; simp (maxSteps := 2000000) only [go_sem, doCall, doCallQ, doCallP, Nat.reduceAdd, Nat.reduceMul, Nat.reduceSub, Nat.reduceDiv, Nat.reduceMod, Nat.reduceLT, Nat.reduceLeDiff, Nat.reduceEqDiff, Nat.reduceBEq, Nat.reduceBNe, Int.reduceToNat, Int.reduceLT, Int.reduceLE, Int.reduceEq, Int.reduceNe, Int.reduceAdd, Int.reduceSub, Int.reduceMul, Int.reduceNeg]; exact ih
      · have c4' := eq_true (show l[i].ob ≤ l[i - 1].ob by omega)
        rw [decide_eq_false (fun h => by have := hok.1 h; omega), Bool.and_false, Bool.false_and, if_neg (by simp)]
        generalize l[i - 1] = d2 at hg2 c4'
        generalize l[i] = d at hg hone c4'
        cases hr : oneR d
        · rw [hr] at hone
          simp (maxSteps := 2000000) (disch := omega) only [go_sem, doCall, doCallQ, doCallP, Nat.reduceAdd, Nat.reduceMul, Nat.reduceSub, Nat.reduceDiv, Nat.reduceMod, Nat.reduceLT, Nat.reduceLeDiff, Nat.reduceEqDiff, Nat.reduceBEq, Nat.reduceBNe, Int.reduceToNat, Int.reduceLT, Int.reduceLE, Int.reduceEq, Int.reduceNe, Int.reduceAdd, Int.reduceSub, Int.reduceMul, Int.reduceNeg, u15_0, lb15_0, hlt, hi', hi2, hp, hw, hg, hg2, hlm, hone, c3', c4', Int.natCast_nonneg, Int.toNat_natCast, Option.getD_some, Option.getD_none, List.drop_zero, Nat.sub_zero, Nat.zero_le, true_and, and_true, Nat.le_refl, chk_of]
        · rw [hr] at hone
          simp (maxSteps := 2000000) (disch := omega) only [go_sem, doCall, doCallQ, doCallP, Nat.reduceAdd, Nat.reduceMul, Nat.reduceSub, Nat.reduceDiv, Nat.reduceMod, Nat.reduceLT, Nat.reduceLeDiff, Nat.reduceEqDiff, Nat.reduceBEq, Nat.reduceBNe, Int.reduceToNat, Int.reduceLT, Int.reduceLE, Int.reduceEq, Int.reduceNe, Int.reduceAdd, Int.reduceSub, Int.reduceMul, Int.reduceNeg, u15_0, lb15_0, hlt, hi', hi2, hp, hw, hg, hg2, hlm, hone, c3', c4', Int.natCast_nonneg, Int.toNat_natCast, Option.getD_some, Option.getD_none, List.drop_zero, Nat.sub_zero, Nat.zero_le, true_and, and_true, Nat.le_refl, chk_of]
termination_by l.length - i
theorem t_right48 (l : List Hd) (hl : l.length ≤ 1000000000) (hb : ∀ d ∈ l, d.ps.length ≤ 1000000000) : call ir 15 [vHs l] [] = some (dT (rtR l), []) := by
  rw [call_eq (fn := ir15) rfl, evF_bnd]
  have hlm : (l.map hdRow).length = l.length := List.length_map ..
  simp (maxSteps := 2000000) (disch := omega) only [go_sem, doCall, doCallQ, doCallP, Nat.reduceAdd, Nat.reduceMul, Nat.reduceSub, Nat.reduceDiv, Nat.reduceMod, Nat.reduceLT, Nat.reduceLeDiff, Nat.reduceEqDiff, Nat.reduceBEq, Nat.reduceBNe, Int.reduceToNat, Int.reduceLT, Int.reduceLE, Int.reduceEq, Int.reduceNe, Int.reduceAdd, Int.reduceSub, Int.reduceMul, Int.reduceNeg, bd15, hlm, chk_of]
  rw [loop_step1]; simp (maxSteps := 2000000) only [go_sem, doCall, doCallQ, doCallP, Nat.reduceAdd, Nat.reduceMul, Nat.reduceSub, Nat.reduceDiv, Nat.reduceMod, Nat.reduceLT, Nat.reduceLeDiff, Nat.reduceEqDiff, Nat.reduceBEq, Nat.reduceBNe, Int.reduceToNat, Int.reduceLT, Int.reduceLE, Int.reduceEq, Int.reduceNe, Int.reduceAdd, Int.reduceSub, Int.reduceMul, Int.reduceNeg]
  refine (lp_dr l hl hb _ 0 (Nat.zero_le _)).trans ?_
  unfold rtR
  cases rtF l 0
  · rw [if_neg (by simp)]
    simp (maxSteps := 2000000) (disch := omega) only [go_sem, doCall, doCallQ, doCallP, Nat.reduceAdd, Nat.reduceMul, Nat.reduceSub, Nat.reduceDiv, Nat.reduceMod, Nat.reduceLT, Nat.reduceLeDiff, Nat.reduceEqDiff, Nat.reduceBEq, Nat.reduceBNe, Int.reduceToNat, Int.reduceLT, Int.reduceLE, Int.reduceEq, Int.reduceNe, Int.reduceAdd, Int.reduceSub, Int.reduceMul, Int.reduceNeg]
  · rw [if_pos rfl]
    simp (maxSteps := 2000000) (disch := omega) only [go_sem, doCall, doCallQ, doCallP, Nat.reduceAdd, Nat.reduceMul, Nat.reduceSub, Nat.reduceDiv, Nat.reduceMod, Nat.reduceLT, Nat.reduceLeDiff, Nat.reduceEqDiff, Nat.reduceBEq, Nat.reduceBNe, Int.reduceToNat, Int.reduceLT, Int.reduceLE, Int.reduceEq, Int.reduceNe, Int.reduceAdd, Int.reduceSub, Int.reduceMul, Int.reduceNeg]
theorem getD_app (a Z : List (List D)) {i : Nat} (h : i < a.length) : (a ++ Z).getD i [] = a.getD i [] := by simp [List.getD_eq_getElem?_getD, List.getElem?_append_left h]
/-- At an own slice. -/
theorem lp_drO (l : List Hd) (b : Bool) (hl : l.length ≤ 1000000000) (hb : ∀ d ∈ l, d.ps.length ≤ 1000000000) (Z : List (List D)) (k : Ex → St → Option (AV × Heap)) (i : Nat) (hi : i ≤ l.length) :
    (bnd (evC (call ir) (loop ir) lp15_0 (st15_0 1 (.own 0 6 0 l.length b) (.own 0 6 0 l.length b) (dI l.length) (dI i) [.arr 6 (l.map hdRow ++ Z)])) (lpC (call ir) (loop ir) [0, 5, 6, 7] lp15_0 k)) = (if rtF l i then k (.exit 0) (clean [] (st15_0 1 .unk .unk .unk .unk [.arr 6 (l.map hdRow ++ Z)]))
      else k .ret (clean [2] ⟨1, [.unk, .unk, dT false, .unk, .unk, .unk, .unk, .unk, .unk, .unk, .unk, .unk, .unk, .unk, .unk, .unk, .unk, .unk, .unk, .unk, .unk, .unk, .unk, .unk, .unk, .unk, .unk, .unk, .unk, .unk, .unk, .unk, .unk], [.arr 6 (l.map hdRow ++ Z)]⟩)) := by
  by_cases h : i = l.length
  · have hx : ¬ (i : Int) < l.length := by omega
    rw [h] at hx
    rw [h, rtF_end]
    simp only [if_true]
    simp (maxSteps := 2000000) (disch := omega) only [go_sem, doCall, doCallQ, doCallP, Nat.reduceAdd, Nat.reduceMul, Nat.reduceSub, Nat.reduceDiv, Nat.reduceMod, Nat.reduceLT, Nat.reduceLeDiff, Nat.reduceEqDiff, Nat.reduceBEq, Nat.reduceBNe, Int.reduceToNat, Int.reduceLT, Int.reduceLE, Int.reduceEq, Int.reduceNe, Int.reduceAdd, Int.reduceSub, Int.reduceMul, Int.reduceNeg, u15_0, lb15_0, hx]
  · have hlt : (i : Int) < l.length := by omega
    have hi' : i < l.length := by omega
    have hw := wr_succ (i := i) (by omega)
    have hlm : (l.map hdRow).length = l.length := List.length_map ..
    have hla : (l.map hdRow ++ Z).length = l.length + Z.length := by rw [List.length_append, hlm]
    have hg := (getD_app (l.map hdRow) Z (i := i) (by omega)).trans (getHd l hi')
    have ih := lp_drO l b hl hb Z k (i + 1) (by omega)
    have hone := t_one l[i] (hb l[i] (List.getElem_mem hi'))
    rw [rtF_at hi']
    have hok : okH l i ↔ (i = 0 ∨ (l.getD (i - 1) default).ob < l[i].ob) := by unfold okH; rw [gH hi']
    by_cases c3 : i = 0
    · have c3' := eq_false (show ¬ (0 : Int) < i by omega)
      rw [decide_eq_true (hok.2 (.inl c3)), Bool.and_true]
      generalize l[i] = d at hg hone ⊢
      cases hr : oneR d
      · rw [hr] at hone
        rw [Bool.false_and, if_neg (by simp)]
        simp (maxSteps := 2000000) (disch := omega) only [go_sem, doCall, doCallQ, doCallP, Nat.reduceAdd, Nat.reduceMul, Nat.reduceSub, Nat.reduceDiv, Nat.reduceMod, Nat.reduceLT, Nat.reduceLeDiff, Nat.reduceEqDiff, Nat.reduceBEq, Nat.reduceBNe, Int.reduceToNat, Int.reduceLT, Int.reduceLE, Int.reduceEq, Int.reduceNe, Int.reduceAdd, Int.reduceSub, Int.reduceMul, Int.reduceNeg, u15_0, lb15_0, hlt, hi', hw, hg, hla, hlm, hone, c3', Nat.zero_add, Int.natCast_nonneg, Int.toNat_natCast, Option.getD_some, Option.getD_none, List.drop_zero, Nat.sub_zero, Nat.zero_le, true_and, and_true, Nat.le_refl, chk_of]
      · rw [hr] at hone
        rw [Bool.true_and]
        simp (maxSteps := 2000000) (disch := omega) only [go_sem, doCall, doCallQ, doCallP, Nat.reduceAdd, Nat.reduceMul, Nat.reduceSub, Nat.reduceDiv, Nat.reduceMod, Nat.reduceLT, Nat.reduceLeDiff, Nat.reduceEqDiff, Nat.reduceBEq, Nat.reduceBNe, Int.reduceToNat, Int.reduceLT, Int.reduceLE, Int.reduceEq, Int.reduceNe, Int.reduceAdd, Int.reduceSub, Int.reduceMul, Int.reduceNeg, u15_0, lb15_0, hlt, hi', hw, hg, hla, hlm, hone, c3', Nat.zero_add, Int.natCast_nonneg, Int.toNat_natCast, Option.getD_some, Option.getD_none, List.drop_zero, Nat.sub_zero, Nat.zero_le, true_and, and_true, Nat.le_refl, chk_of]
        rw [loop_step1]; simp (maxSteps := 2000000) only [go_sem, doCall, doCallQ, doCallP, Nat.reduceAdd, Nat.reduceMul, Nat.reduceSub, Nat.reduceDiv, Nat.reduceMod, Nat.reduceLT, Nat.reduceLeDiff, Nat.reduceEqDiff, Nat.reduceBEq, Nat.reduceBNe, Int.reduceToNat, Int.reduceLT, Int.reduceLE, Int.reduceEq, Int.reduceNe, Int.reduceAdd, Int.reduceSub, Int.reduceMul, Int.reduceNeg]; exact ih
    · have c3' := eq_true (show (0 : Int) < i by omega)
      have hp := pred_eq (i := i) (by omega) (by omega)
      have hi2 : i - 1 < l.length := by omega
      have hg2 := (getD_app (l.map hdRow) Z (i := i - 1) (by omega)).trans (getHd l hi2)
      rw [gH hi2] at hok
      by_cases c4 : l[i - 1].ob < l[i].ob
      · have c4' := eq_false (show ¬ l[i].ob ≤ l[i - 1].ob by omega)
        rw [decide_eq_true (hok.2 (.inr c4)), Bool.and_true]
        generalize l[i - 1] = d2 at hg2 c4'
        generalize l[i] = d at hg hone c4' ⊢
        cases hr : oneR d
        · rw [hr] at hone
          rw [Bool.false_and, if_neg (by simp)]
          simp (maxSteps := 2000000) (disch := omega) only [go_sem, doCall, doCallQ, doCallP, Nat.reduceAdd, Nat.reduceMul, Nat.reduceSub, Nat.reduceDiv, Nat.reduceMod, Nat.reduceLT, Nat.reduceLeDiff, Nat.reduceEqDiff, Nat.reduceBEq, Nat.reduceBNe, Int.reduceToNat, Int.reduceLT, Int.reduceLE, Int.reduceEq, Int.reduceNe, Int.reduceAdd, Int.reduceSub, Int.reduceMul, Int.reduceNeg, u15_0, lb15_0, hlt, hi', hi2, hp, hw, hg, hg2, hla, hlm, hone, c3', c4', Nat.zero_add, Int.natCast_nonneg, Int.toNat_natCast, Option.getD_some, Option.getD_none, List.drop_zero, Nat.sub_zero, Nat.zero_le, true_and, and_true, Nat.le_refl, chk_of]
        · rw [hr] at hone
          rw [Bool.true_and]
          simp (maxSteps := 2000000) (disch := omega) only [go_sem, doCall, doCallQ, doCallP, Nat.reduceAdd, Nat.reduceMul, Nat.reduceSub, Nat.reduceDiv, Nat.reduceMod, Nat.reduceLT, Nat.reduceLeDiff, Nat.reduceEqDiff, Nat.reduceBEq, Nat.reduceBNe, Int.reduceToNat, Int.reduceLT, Int.reduceLE, Int.reduceEq, Int.reduceNe, Int.reduceAdd, Int.reduceSub, Int.reduceMul, Int.reduceNeg, u15_0, lb15_0, hlt, hi', hi2, hp, hw, hg, hg2, hla, hlm, hone, c3', c4', Nat.zero_add, Int.natCast_nonneg, Int.toNat_natCast, Option.getD_some, Option.getD_none, List.drop_zero, Nat.sub_zero, Nat.zero_le, true_and, and_true, Nat.le_refl, chk_of]
          rw [loop_step1]; simp (maxSteps := 2000000) only [go_sem, doCall, doCallQ, doCallP, Nat.reduceAdd, Nat.reduceMul, Nat.reduceSub, Nat.reduceDiv, Nat.reduceMod, Nat.reduceLT, Nat.reduceLeDiff, Nat.reduceEqDiff, Nat.reduceBEq, Nat.reduceBNe, Int.reduceToNat, Int.reduceLT, Int.reduceLE, Int.reduceEq, Int.reduceNe, Int.reduceAdd, Int.reduceSub, Int.reduceMul, Int.reduceNeg]; exact ih
      · have c4' := eq_true (show l[i].ob ≤ l[i - 1].ob by omega)
        rw [decide_eq_false (fun h => by have := hok.1 h; omega), Bool.and_false, Bool.false_and, if_neg (by simp)]
        generalize l[i - 1] = d2 at hg2 c4'
        generalize l[i] = d at hg hone c4'
        cases hr : oneR d
        · rw [hr] at hone
          simp (maxSteps := 2000000) (disch := omega) only [go_sem, doCall, doCallQ, doCallP, Nat.reduceAdd, Nat.reduceMul, Nat.reduceSub, Nat.reduceDiv, Nat.reduceMod, Nat.reduceLT, Nat.reduceLeDiff, Nat.reduceEqDiff, Nat.reduceBEq, Nat.reduceBNe, Int.reduceToNat, Int.reduceLT, Int.reduceLE, Int.reduceEq, Int.reduceNe, Int.reduceAdd, Int.reduceSub, Int.reduceMul, Int.reduceNeg, u15_0, lb15_0, hlt, hi', hi2, hp, hw, hg, hg2, hla, hlm, hone, c3', c4', Nat.zero_add, Int.natCast_nonneg, Int.toNat_natCast, Option.getD_some, Option.getD_none, List.drop_zero, Nat.sub_zero, Nat.zero_le, true_and, and_true, Nat.le_refl, chk_of]
        · rw [hr] at hone
          simp (maxSteps := 2000000) (disch := omega) only [go_sem, doCall, doCallQ, doCallP, Nat.reduceAdd, Nat.reduceMul, Nat.reduceSub, Nat.reduceDiv, Nat.reduceMod, Nat.reduceLT, Nat.reduceLeDiff, Nat.reduceEqDiff, Nat.reduceBEq, Nat.reduceBNe, Int.reduceToNat, Int.reduceLT, Int.reduceLE, Int.reduceEq, Int.reduceNe, Int.reduceAdd, Int.reduceSub, Int.reduceMul, Int.reduceNeg, u15_0, lb15_0, hlt, hi', hi2, hp, hw, hg, hg2, hla, hlm, hone, c3', c4', Nat.zero_add, Int.natCast_nonneg, Int.toNat_natCast, Option.getD_some, Option.getD_none, List.drop_zero, Nat.sub_zero, Nat.zero_le, true_and, and_true, Nat.le_refl, chk_of]
termination_by l.length - i
theorem t_rightO (l : List Hd) (b : Bool) (hl : l.length ≤ 1000000000) (hb : ∀ d ∈ l, d.ps.length ≤ 1000000000) (Z : List (List D)) : call ir 15 [.own 0 6 0 l.length b] [.arr 6 (l.map hdRow ++ Z)] = some (dT (rtR l), [.arr 6 (l.map hdRow ++ Z)]) := by
  rw [call_eq (fn := ir15) rfl, evF_bnd]
  have hlm : (l.map hdRow).length = l.length := List.length_map ..
  simp (maxSteps := 2000000) (disch := omega) only [go_sem, doCall, doCallQ, doCallP, Nat.reduceAdd, Nat.reduceMul, Nat.reduceSub, Nat.reduceDiv, Nat.reduceMod, Nat.reduceLT, Nat.reduceLeDiff, Nat.reduceEqDiff, Nat.reduceBEq, Nat.reduceBNe, Int.reduceToNat, Int.reduceLT, Int.reduceLE, Int.reduceEq, Int.reduceNe, Int.reduceAdd, Int.reduceSub, Int.reduceMul, Int.reduceNeg, bd15, hlm, chk_of]
  rw [loop_step1]; simp (maxSteps := 2000000) only [go_sem, doCall, doCallQ, doCallP, Nat.reduceAdd, Nat.reduceMul, Nat.reduceSub, Nat.reduceDiv, Nat.reduceMod, Nat.reduceLT, Nat.reduceLeDiff, Nat.reduceEqDiff, Nat.reduceBEq, Nat.reduceBNe, Int.reduceToNat, Int.reduceLT, Int.reduceLE, Int.reduceEq, Int.reduceNe, Int.reduceAdd, Int.reduceSub, Int.reduceMul, Int.reduceNeg]
  refine (lp_drO l b hl hb Z _ 0 (Nat.zero_le _)).trans ?_
  unfold rtR
  cases rtF l 0
  · rw [if_neg (by simp)]
    simp (maxSteps := 2000000) (disch := omega) only [go_sem, doCall, doCallQ, doCallP, Nat.reduceAdd, Nat.reduceMul, Nat.reduceSub, Nat.reduceDiv, Nat.reduceMod, Nat.reduceLT, Nat.reduceLeDiff, Nat.reduceEqDiff, Nat.reduceBEq, Nat.reduceBNe, Int.reduceToNat, Int.reduceLT, Int.reduceLE, Int.reduceEq, Int.reduceNe, Int.reduceAdd, Int.reduceSub, Int.reduceMul, Int.reduceNeg]
  · rw [if_pos rfl]
    simp (maxSteps := 2000000) (disch := omega) only [go_sem, doCall, doCallQ, doCallP, Nat.reduceAdd, Nat.reduceMul, Nat.reduceSub, Nat.reduceDiv, Nat.reduceMod, Nat.reduceLT, Nat.reduceLeDiff, Nat.reduceEqDiff, Nat.reduceBEq, Nat.reduceBNe, Int.reduceToNat, Int.reduceLT, Int.reduceLE, Int.reduceEq, Int.reduceNe, Int.reduceAdd, Int.reduceSub, Int.reduceMul, Int.reduceNeg]
end Go.Proofs.Ytbcpffhialoliaa
namespace Go.Proofs.Ytbcpffhialoliaa
open Go Go.Ev Go.Proofs.Ytbcpffhialoliaa.Ir
set_option maxRecDepth 100000
set_option maxHeartbeats 4000000
set_option linter.unusedSimpArgs false
set_option linter.unusedVariables false
theorem c_cloneP (l : List Pc) (hl : l.length ≤ 1000000) : call ir 47 [vPs l] [] = some (.own 0 4 0 l.length false, [.arr 4 (l.map pcRow)]) := by
  have hlen : (l.map pcRow).length = l.length := List.length_map ..
  have e := natSC_eq 47 4 48 (xs := l.map pcRow) (by omega)
  rw [hlen] at e
  rw [call_nat (by rfl), nat_eq]
  exact (natOr_r (by rfl)).trans ((natOr_r (by rfl)).trans ((natOr_r (by rfl)).trans (natOr_l e)))
theorem c_cloneH (l : List Hd) (hl : l.length ≤ 1000000) : call ir 32 [vHs l] [] = some (.own 0 6 0 l.length false, [.arr 6 (l.map hdRow)]) := by
  have hlen : (l.map hdRow).length = l.length := List.length_map ..
  have e := natSC_eq 32 6 72 (xs := l.map hdRow) (by omega)
  rw [hlen] at e
  rw [call_nat (by rfl), nat_eq]
  exact (natOr_r (by rfl)).trans ((natOr_r (by rfl)).trans (natOr_l e))
theorem t_bcl (b : List UInt8) (hb : b.length ≤ 1000000) : call ir 48 [.d (.list 1 (bB b))] [] = some (.d (.list 1 (bB b)), []) := by
  rw [call_nat (by rfl), nat_eq]
  refine (natOr_r (by rfl)).trans ((natOr_r (by rfl)).trans ((natOr_r (by rfl)).trans ((natOr_r (by rfl)).trans (natOr_l ?_))))
  rw [natBC_eq _ (show u8s (bB b) = some _ from u8s_map b), if_pos (by simp; omega)]
theorem setPc (l : List Pc) {i : Nat} (h : i < l.length) : (l.map pcRow).set i [.int .i64 l[i].ob, .int .i64 l[i].ge, .int .i64 l[i].ix, .list 1 (bB l[i].bd)] = l.map pcRow := by
  apply List.ext_getElem
  · simp
  · intro j h1 h2
    rw [List.getElem_set]
    split
    · rename_i e; subst e; simp [pcRow]
    · rfl
theorem setHd (l : List Hd) {i : Nat} (h : i < l.length) : (l.map hdRow).set i [.int .i64 l[i].ob, .int .i64 l[i].ge, .str l[i].tg, .int .i64 l[i].le, .int .i64 l[i].ti, .list 4 (l[i].ps.map pcRow)] = l.map hdRow := by
  apply List.ext_getElem
  · simp
  · intro j h1 h2
    rw [List.getElem_set]
    split
    · rename_i e; subst e; simp [hdRow]
    · rfl
theorem lp_cpd (l : List Pc) (hl : l.length ≤ 1000000) (hb : ∀ p ∈ l, p.bd.length ≤ 1000000) (k : Ex → St → Option (AV × Heap)) (i : Nat) (hi : i ≤ l.length) :
    (bnd (evC (call ir) (loop ir) lp33_0 (st33_0 0 (.own 0 4 0 l.length false) (dI l.length) (dI i) [.arr 4 (l.map pcRow)])) (lpC (call ir) (loop ir) [3, 8, 9] lp33_0 k)) = k (.exit 0) (clean [3] (st33_0 0 (.own 0 4 0 l.length false) .unk .unk [.arr 4 (l.map pcRow)])) := by
  by_cases h : i = l.length
  · have hx : ¬ (i : Int) < l.length := by omega
    rw [h] at hx
    rw [h]
    simp (maxSteps := 2000000) (disch := omega) only [go_sem, doCall, doCallQ, doCallP, Nat.reduceAdd, Nat.reduceMul, Nat.reduceSub, Nat.reduceDiv, Nat.reduceMod, Nat.reduceLT, Nat.reduceLeDiff, Nat.reduceEqDiff, Nat.reduceBEq, Nat.reduceBNe, Int.reduceToNat, Int.reduceLT, Int.reduceLE, Int.reduceEq, Int.reduceNe, Int.reduceAdd, Int.reduceSub, Int.reduceMul, Int.reduceNeg, u33_0, lb33_0, hx]
  · have hlt : (i : Int) < l.length := by omega
    have hi' : i < l.length := by omega
    have hw := wr_succ (i := i) (by omega)
    have hg := getPc l hi'
    have hs := setPc l hi'
    have hlm : (l.map pcRow).length = l.length := List.length_map ..
    have hcl := t_bcl l[i].bd (hb _ (List.getElem_mem hi'))
    have ih := lp_cpd l hl hb k (i + 1) (by omega)
    simp (maxSteps := 2000000) (disch := omega) only [go_sem, doCall, doCallQ, doCallP, Nat.reduceAdd, Nat.reduceMul, Nat.reduceSub, Nat.reduceDiv, Nat.reduceMod, Nat.reduceLT, Nat.reduceLeDiff, Nat.reduceEqDiff, Nat.reduceBEq, Nat.reduceBNe, Int.reduceToNat, Int.reduceLT, Int.reduceLE, Int.reduceEq, Int.reduceNe, Int.reduceAdd, Int.reduceSub, Int.reduceMul, Int.reduceNeg, u33_0, lb33_0, hlt, hi', hw, hg, hs, hlm, hcl, Nat.zero_add, List.set_cons_zero, List.set_cons_succ, Int.natCast_nonneg, Int.toNat_natCast, Option.getD_some, Option.getD_none, List.drop_zero, Nat.sub_zero, Nat.zero_le, true_and, and_true, Nat.le_refl, chk_of]
    rw [loop_step1]; simp (maxSteps := 2000000) only [go_sem, doCall, doCallQ, doCallP, Nat.reduceAdd, Nat.reduceMul, Nat.reduceSub, Nat.reduceDiv, Nat.reduceMod, Nat.reduceLT, Nat.reduceLeDiff, Nat.reduceEqDiff, Nat.reduceBEq, Nat.reduceBNe, Int.reduceToNat, Int.reduceLT, Int.reduceLE, Int.reduceEq, Int.reduceNe, Int.reduceAdd, Int.reduceSub, Int.reduceMul, Int.reduceNeg]; exact ih
termination_by l.length - i
theorem t_copied (l : List Pc) (hl : l.length ≤ 1000000) (hb : ∀ p ∈ l, p.bd.length ≤ 1000000) : call ir 33 [vPs l] [] = some (.own 0 4 0 l.length false, [.arr 4 (l.map pcRow)]) := by
  rw [call_eq (fn := ir33) rfl, evF_bnd]
  have hlm : (l.map pcRow).length = l.length := List.length_map ..
  have hc := c_cloneP l hl
  simp (maxSteps := 2000000) (disch := omega) only [go_sem, doCall, doCallQ, doCallP, Nat.reduceAdd, Nat.reduceMul, Nat.reduceSub, Nat.reduceDiv, Nat.reduceMod, Nat.reduceLT, Nat.reduceLeDiff, Nat.reduceEqDiff, Nat.reduceBEq, Nat.reduceBNe, Int.reduceToNat, Int.reduceLT, Int.reduceLE, Int.reduceEq, Int.reduceNe, Int.reduceAdd, Int.reduceSub, Int.reduceMul, Int.reduceNeg, bd33, hc, hlm, Int.natCast_nonneg, Int.toNat_natCast, Option.getD_some, Option.getD_none, List.drop_zero, Nat.sub_zero, Nat.zero_le, true_and, and_true, Nat.le_refl, chk_of]
  rw [loop_step1]; simp (maxSteps := 2000000) only [go_sem, doCall, doCallQ, doCallP, Nat.reduceAdd, Nat.reduceMul, Nat.reduceSub, Nat.reduceDiv, Nat.reduceMod, Nat.reduceLT, Nat.reduceLeDiff, Nat.reduceEqDiff, Nat.reduceBEq, Nat.reduceBNe, Int.reduceToNat, Int.reduceLT, Int.reduceLE, Int.reduceEq, Int.reduceNe, Int.reduceAdd, Int.reduceSub, Int.reduceMul, Int.reduceNeg]
  refine (lp_cpd l hl hb _ 0 (Nat.zero_le _)).trans ?_
  simp (maxSteps := 2000000) (disch := omega) only [go_sem, doCall, doCallQ, doCallP, Nat.reduceAdd, Nat.reduceMul, Nat.reduceSub, Nat.reduceDiv, Nat.reduceMod, Nat.reduceLT, Nat.reduceLeDiff, Nat.reduceEqDiff, Nat.reduceBEq, Nat.reduceBNe, Int.reduceToNat, Int.reduceLT, Int.reduceLE, Int.reduceEq, Int.reduceNe, Int.reduceAdd, Int.reduceSub, Int.reduceMul, Int.reduceNeg]
/-! ### IndexFunc and DeleteFunc by the object -/
abbrev clH (g : Nat) : AV := .clo (.func g) [] [.ptr 1 0]
def isO (o : Int) (d : Hd) : Bool := decide (d.ob = o)
def noO (o : Int) (d : Hd) : Bool := !isO o d
theorem c_find1 (o : Int) (d : Hd) : call ir 39 [vHd d, .ptr 0 0] [.dbox [.int .i64 o]] = some (dT (isO o d), [.dbox [.int .i64 o]]) := by
  rw [call_eq (fn := ir39) rfl, evF_bnd]
  unfold isO
  by_cases h : d.ob = o
  · rw [decide_eq_true h]
    simp (maxSteps := 2000000) (disch := omega) only [go_sem, doCall, doCallQ, doCallP, Nat.reduceAdd, Nat.reduceMul, Nat.reduceSub, Nat.reduceDiv, Nat.reduceMod, Nat.reduceLT, Nat.reduceLeDiff, Nat.reduceEqDiff, Nat.reduceBEq, Nat.reduceBNe, Int.reduceToNat, Int.reduceLT, Int.reduceLE, Int.reduceEq, Int.reduceNe, Int.reduceAdd, Int.reduceSub, Int.reduceMul, Int.reduceNeg, bd39, show (d.ob == o) = true by simp [h], eq_true h, Int.natCast_nonneg, Int.toNat_natCast, Option.getD_some, Option.getD_none, List.drop_zero, Nat.sub_zero, Nat.zero_le, true_and, and_true, Nat.le_refl, chk_of]
  · rw [decide_eq_false h]
    simp (maxSteps := 2000000) (disch := omega) only [go_sem, doCall, doCallQ, doCallP, Nat.reduceAdd, Nat.reduceMul, Nat.reduceSub, Nat.reduceDiv, Nat.reduceMod, Nat.reduceLT, Nat.reduceLeDiff, Nat.reduceEqDiff, Nat.reduceBEq, Nat.reduceBNe, Int.reduceToNat, Int.reduceLT, Int.reduceLE, Int.reduceEq, Int.reduceNe, Int.reduceAdd, Int.reduceSub, Int.reduceMul, Int.reduceNeg, bd39, show (d.ob == o) = false by simp [h], eq_false h, Int.natCast_nonneg, Int.toNat_natCast, Option.getD_some, Option.getD_none, List.drop_zero, Nat.sub_zero, Nat.zero_le, true_and, and_true, Nat.le_refl, chk_of]
theorem c_own1 (o : Int) (d : Hd) (b1 b2 : Bool) (x1 x2 : Int) (s : List UInt8) (x3 x4 : Int) (L1 L2 : List (List D)) : call ir 34 [vHd d, .ptr 0 0] [.dbox [.int .i64 o, .bool b1, .bool b2, .int .i64 x1, .int .i64 x2, .str s, .int .i64 x3, .int .i64 x4, .list 4 L1, .list 1 L2]] =
    some (dT (isO o d), [.dbox [.int .i64 o, .bool b1, .bool b2, .int .i64 x1, .int .i64 x2, .str s, .int .i64 x3, .int .i64 x4, .list 4 L1, .list 1 L2]]) := by
  rw [call_eq (fn := ir34) rfl, evF_bnd]
  unfold isO
  by_cases h : d.ob = o
  · rw [decide_eq_true h]
    simp (maxSteps := 2000000) (disch := omega) only [go_sem, doCall, doCallQ, doCallP, Nat.reduceAdd, Nat.reduceMul, Nat.reduceSub, Nat.reduceDiv, Nat.reduceMod, Nat.reduceLT, Nat.reduceLeDiff, Nat.reduceEqDiff, Nat.reduceBEq, Nat.reduceBNe, Int.reduceToNat, Int.reduceLT, Int.reduceLE, Int.reduceEq, Int.reduceNe, Int.reduceAdd, Int.reduceSub, Int.reduceMul, Int.reduceNeg, bd34, show (d.ob == o) = true by simp [h], eq_true h, Int.natCast_nonneg, Int.toNat_natCast, Option.getD_some, Option.getD_none, List.drop_zero, Nat.sub_zero, Nat.zero_le, true_and, and_true, Nat.le_refl, chk_of]
  · rw [decide_eq_false h]
    simp (maxSteps := 2000000) (disch := omega) only [go_sem, doCall, doCallQ, doCallP, Nat.reduceAdd, Nat.reduceMul, Nat.reduceSub, Nat.reduceDiv, Nat.reduceMod, Nat.reduceLT, Nat.reduceLeDiff, Nat.reduceEqDiff, Nat.reduceBEq, Nat.reduceBNe, Int.reduceToNat, Int.reduceLT, Int.reduceLE, Int.reduceEq, Int.reduceNe, Int.reduceAdd, Int.reduceSub, Int.reduceMul, Int.reduceNeg, bd34, show (d.ob == o) = false by simp [h], eq_false h, Int.natCast_nonneg, Int.toNat_natCast, Option.getD_some, Option.getD_none, List.drop_zero, Nat.sub_zero, Nat.zero_le, true_and, and_true, Nat.le_refl, chk_of]
theorem lp_ixH (g : Nat) (cs : List D) (o : Int) (hc : ∀ d : Hd, call ir g [vHd d, .ptr 0 0] [.dbox cs] = some (dT (isO o d), [.dbox cs])) (l : List Hd) (b : Bool) (hl : l.length ≤ 1000000) (i : Nat) (hi : i ≤ l.length) (hp : (l.take i).filter (noO o) = l.take i) :
    ∃ r : Int, (bnd (evC (call ir) (loop ir) lp40_0 (st40_0 2 (.own 0 6 0 l.length b) (clH g) (dI l.length) (dI i) [.arr 6 (l.map hdRow), .dbox cs])) (lpC (call ir) (loop ir) [0, 1, 7, 8] lp40_0 (bk 0 (sq (call ir) (loop ir) (.seq (.reg [⟨some 4, none, .mv (.c (.d (.int .i64 (-1)))), .none⟩]) (.ret none)) (fin ir40))))) =
      some (dI r, [.arr 6 (l.map hdRow), .dbox cs]) ∧ ((r = -1 ∧ l.filter (noO o) = l) ∨ ∃ n : Nat, r = n ∧ n < l.length ∧ (l.take n).filter (noO o) = l.take n ∧ isO o (l.getD n default) = true) := by
  by_cases h : i = l.length
  · have hx : ¬ (i : Int) < l.length := by omega
    refine ⟨-1, ?_, .inl ⟨rfl, by rw [h, List.take_length] at hp; exact hp⟩⟩
    simp (maxSteps := 2000000) (disch := omega) only [go_sem, doCall, doCallQ, doCallP, Nat.reduceAdd, Nat.reduceMul, Nat.reduceSub, Nat.reduceDiv, Nat.reduceMod, Nat.reduceLT, Nat.reduceLeDiff, Nat.reduceEqDiff, Nat.reduceBEq, Nat.reduceBNe, Int.reduceToNat, Int.reduceLT, Int.reduceLE, Int.reduceEq, Int.reduceNe, Int.reduceAdd, Int.reduceSub, Int.reduceMul, Int.reduceNeg, u40_0, lb40_0, hx]
  · have hlt : (i : Int) < l.length := by omega
    have hi' : i < l.length := by omega
    have hw := wr_succ (i := i) (by omega)
    have hlm : (l.map hdRow).length = l.length := List.length_map ..
    have hg := getHd l hi'
    have hcc := hc l[i]
    cases hin : isO o l[i]
    · rw [hin] at hcc
      obtain ⟨r, ih, hr2⟩ := lp_ixH g cs o hc l b hl (i + 1) (by omega) (by rw [List.take_succ_eq_append_getElem hi', List.filter_append, hp, List.filter_cons, if_pos (by unfold noO; rw [hin]; rfl)]; rfl)
      refine ⟨r, ?_, hr2⟩
      simp (maxSteps := 2000000) (disch := omega) only [go_sem, doCall, doCallQ, doCallP, Nat.reduceAdd, Nat.reduceMul, Nat.reduceSub, Nat.reduceDiv, Nat.reduceMod, Nat.reduceLT, Nat.reduceLeDiff, Nat.reduceEqDiff, Nat.reduceBEq, Nat.reduceBNe, Int.reduceToNat, Int.reduceLT, Int.reduceLE, Int.reduceEq, Int.reduceNe, Int.reduceAdd, Int.reduceSub, Int.reduceMul, Int.reduceNeg, u40_0, lb40_0, hlt, hi', hg, hlm, hcc, Nat.zero_add, Int.natCast_nonneg, Int.toNat_natCast, Option.getD_some, Option.getD_none, List.drop_zero, Nat.sub_zero, Nat.zero_le, true_and, and_true, Nat.le_refl, chk_of]
      rw [loop_step1]
      simp (maxSteps := 2000000) only [go_sem, doCall, doCallQ, doCallP, Nat.reduceAdd, Nat.reduceMul, Nat.reduceSub, Nat.reduceDiv, Nat.reduceMod, Nat.reduceLT, Nat.reduceLeDiff, Nat.reduceEqDiff, Nat.reduceBEq, Nat.reduceBNe, Int.reduceToNat, Int.reduceLT, Int.reduceLE, Int.reduceEq, Int.reduceNe, Int.reduceAdd, Int.reduceSub, Int.reduceMul, Int.reduceNeg, hw]
      exact ih
    · rw [hin] at hcc
      refine ⟨i, ?_, .inr ⟨i, rfl, hi', hp, by rw [gH hi']; exact hin⟩⟩
      simp (maxSteps := 2000000) (disch := omega) only [go_sem, doCall, doCallQ, doCallP, Nat.reduceAdd, Nat.reduceMul, Nat.reduceSub, Nat.reduceDiv, Nat.reduceMod, Nat.reduceLT, Nat.reduceLeDiff, Nat.reduceEqDiff, Nat.reduceBEq, Nat.reduceBNe, Int.reduceToNat, Int.reduceLT, Int.reduceLE, Int.reduceEq, Int.reduceNe, Int.reduceAdd, Int.reduceSub, Int.reduceMul, Int.reduceNeg, u40_0, lb40_0, hlt, hi', hg, hlm, hcc, Nat.zero_add, Int.natCast_nonneg, Int.toNat_natCast, Option.getD_some, Option.getD_none, List.drop_zero, Nat.sub_zero, Nat.zero_le, true_and, and_true, Nat.le_refl, chk_of]
termination_by l.length - i
theorem c_ixH (g : Nat) (cs : List D) (o : Int) (hc : ∀ d : Hd, call ir g [vHd d, .ptr 0 0] [.dbox cs] = some (dT (isO o d), [.dbox cs])) (l : List Hd) (b : Bool) (hl : l.length ≤ 1000000) :
    ∃ r : Int, call ir 40 [.own 0 6 0 l.length b, clH g] [.arr 6 (l.map hdRow), .dbox cs] =
      some (dI r, [.arr 6 (l.map hdRow), .dbox cs]) ∧ ((r = -1 ∧ l.filter (noO o) = l) ∨ ∃ n : Nat, r = n ∧ n < l.length ∧ (l.take n).filter (noO o) = l.take n ∧ isO o (l.getD n default) = true) := by
  obtain ⟨r, h1, h2⟩ := lp_ixH g cs o hc l b hl 0 (by omega) rfl
  refine ⟨r, ?_, h2⟩
  have hlm : (l.map hdRow).length = l.length := List.length_map ..
  rw [call_eq (fn := ir40) rfl, evF_bnd]
  simp (maxSteps := 2000000) (disch := omega) only [go_sem, doCall, doCallQ, doCallP, Nat.reduceAdd, Nat.reduceMul, Nat.reduceSub, Nat.reduceDiv, Nat.reduceMod, Nat.reduceLT, Nat.reduceLeDiff, Nat.reduceEqDiff, Nat.reduceBEq, Nat.reduceBNe, Int.reduceToNat, Int.reduceLT, Int.reduceLE, Int.reduceEq, Int.reduceNe, Int.reduceAdd, Int.reduceSub, Int.reduceMul, Int.reduceNeg, bd40, hlm, Int.natCast_nonneg, Int.toNat_natCast, Option.getD_some, Option.getD_none, List.drop_zero, Nat.sub_zero, Nat.zero_le, true_and, and_true, Nat.le_refl, chk_of]
  rw [loop_step1]
  simp (maxSteps := 2000000) only [go_sem, doCall, doCallQ, doCallP, Nat.reduceAdd, Nat.reduceMul, Nat.reduceSub, Nat.reduceDiv, Nat.reduceMod, Nat.reduceLT, Nat.reduceLeDiff, Nat.reduceEqDiff, Nat.reduceBEq, Nat.reduceBNe, Int.reduceToNat, Int.reduceLT, Int.reduceLE, Int.reduceEq, Int.reduceNe, Int.reduceAdd, Int.reduceSub, Int.reduceMul, Int.reduceNeg]
  exact h1
/-- What is held of an object: the first. -/
def fndO (o : Int) (l : List Hd) : Option Hd := l.find? (isO o)
theorem fnd_of {o : Int} {l : List Hd} {n : Nat} (hn : n < l.length) (h1 : (l.take n).filter (noO o) = l.take n) (h2 : isO o l[n] = true) : fndO o l = some l[n] := by
  have e : l = l.take n ++ l[n] :: l.drop (n + 1) := by rw [← List.drop_eq_getElem_cons hn, List.take_append_drop]
  unfold fndO
  generalize l[n] = x at e h2 ⊢
  rw [e, List.find?_append]
  have h3 : (l.take n).find? (isO o) = none := by
    rw [List.find?_eq_none]
    intro x hx
    rw [← h1] at hx
    have := (List.mem_filter.1 hx).2
    unfold noO at this
    simpa using this
  rw [h3, Option.none_or, List.find?_cons_of_pos (by simpa using h2)]
theorem fnd_none {o : Int} {l : List Hd} (h : l.filter (noO o) = l) : fndO o l = none := by
  unfold fndO
  rw [List.find?_eq_none]
  intro x hx
  rw [← h] at hx
  have := (List.mem_filter.1 hx).2
  unfold noO at this
  simpa using this
def d0 : Hd := ⟨0, 0, [], 0, 0, []⟩
theorem t_findO (o : Int) (l : List Hd) (hl : l.length ≤ 1000000) : call ir 18 [.own 0 6 0 l.length false, dI o] [.arr 6 (l.map hdRow)] =
    some (.tup [vHd ((fndO o l).getD d0), dT (fndO o l).isSome], [.arr 6 (l.map hdRow)]) := by
  obtain ⟨r, e1, h⟩ := c_ixH 39 [.int .i64 o] o (c_find1 o) l false hl
  have hlm : (l.map hdRow).length = l.length := List.length_map ..
  rw [call_eq (fn := ir18) rfl, evF_bnd]
  rcases h with ⟨rfl, h⟩ | ⟨n, rfl, hn, h1, h2⟩
  · rw [fnd_none h]
    simp (maxSteps := 2000000) (disch := omega) only [go_sem, doCall, doCallQ, doCallP, Nat.reduceAdd, Nat.reduceMul, Nat.reduceSub, Nat.reduceDiv, Nat.reduceMod, Nat.reduceLT, Nat.reduceLeDiff, Nat.reduceEqDiff, Nat.reduceBEq, Nat.reduceBNe, Int.reduceToNat, Int.reduceLT, Int.reduceLE, Int.reduceEq, Int.reduceNe, Int.reduceAdd, Int.reduceSub, Int.reduceMul, Int.reduceNeg, bd18, e1, hlm, Int.natCast_nonneg, Int.toNat_natCast, Option.getD_some, Option.getD_none, List.drop_zero, Nat.sub_zero, Nat.zero_le, true_and, and_true, Nat.le_refl, chk_of]
    rfl
  · rw [gH hn] at h2
    have hg := getHd l hn
    have hx := eq_false (show ¬ (n : Int) < 0 by omega)
    rw [fnd_of hn h1 h2]
    simp (maxSteps := 2000000) (disch := omega) only [go_sem, doCall, doCallQ, doCallP, Nat.reduceAdd, Nat.reduceMul, Nat.reduceSub, Nat.reduceDiv, Nat.reduceMod, Nat.reduceLT, Nat.reduceLeDiff, Nat.reduceEqDiff, Nat.reduceBEq, Nat.reduceBNe, Int.reduceToNat, Int.reduceLT, Int.reduceLE, Int.reduceEq, Int.reduceNe, Int.reduceAdd, Int.reduceSub, Int.reduceMul, Int.reduceNeg, bd18, e1, hlm, hx, hn, hg, Nat.zero_add, Int.natCast_nonneg, Int.toNat_natCast, Option.getD_some, Option.getD_none, List.drop_zero, Nat.sub_zero, Nat.zero_le, true_and, and_true, Nat.le_refl, chk_of]
    rfl
end Go.Proofs.Ytbcpffhialoliaa
namespace Go.Proofs.Ytbcpffhialoliaa
open Go Go.Ev Go.Proofs.Ytbcpffhialoliaa.Ir
set_option maxRecDepth 100000
set_option maxHeartbeats 4000000
set_option linter.unusedSimpArgs false
set_option linter.unusedVariables false
theorem lp_delH (g : Nat) (cs : List D) (o : Int) (hc : ∀ d : Hd, call ir g [vHd d, .ptr 0 0] [.dbox cs] = some (dT (isO o d), [.dbox cs])) (l : List Hd) (hl : l.length ≤ 1000000) (k : Ex → St → Option (AV × Heap)) (j : Nat) (hj : j ≤ l.length) (X : List Hd) (hX : X.length = l.length) (i : Nat) (hi : i < j)
    (h1 : X.take i = (l.take j).filter (noO o)) (h2 : X.drop j = l.drop j) :
    ∃ X' : List Hd, X'.length = l.length ∧ X'.take (l.filter (noO o)).length = l.filter (noO o) ∧
    (bnd (evC (call ir) (loop ir) lp35_0 (st35_0 2 (.own 0 6 0 l.length false) (clH g) (dI i) (dI j) [.arr 6 (X.map hdRow), .dbox cs])) (lpC (call ir) (loop ir) [0, 1, 5, 6] lp35_0 k)) =
      k (.exit 0) (clean [0, 5] (st35_0 2 (.own 0 6 0 l.length false) .unk (dI (l.filter (noO o)).length) .unk [.arr 6 (X'.map hdRow), .dbox cs])) := by
  have hi2 : i = ((l.take j).filter (noO o)).length := by rw [← h1, List.length_take]; omega
  by_cases h : j = l.length
  · have hx : ¬ (j : Int) < l.length := by omega
    rw [h, List.take_length] at h1 hi2
    refine ⟨X, hX, by rw [← hi2, h1], ?_⟩
    simp (maxSteps := 2000000) (disch := omega) only [go_sem, doCall, doCallQ, doCallP, Nat.reduceAdd, Nat.reduceMul, Nat.reduceSub, Nat.reduceDiv, Nat.reduceMod, Nat.reduceLT, Nat.reduceLeDiff, Nat.reduceEqDiff, Nat.reduceBEq, Nat.reduceBNe, Int.reduceToNat, Int.reduceLT, Int.reduceLE, Int.reduceEq, Int.reduceNe, Int.reduceAdd, Int.reduceSub, Int.reduceMul, Int.reduceNeg, u35_0, lb35_0, hx]
    rw [hi2]
  · have hlt : (j : Int) < l.length := by omega
    have hj' : j < l.length := by omega
    have hjX : j < X.length := by omega
    have hw := wr_succ (i := j) (by omega)
    have hl2 : (X.map hdRow).length = l.length := by rw [List.length_map, hX]
    have he : X[j] = l[j] := by
      have := congrArg (fun t => t.getD 0 default) h2
      simpa [List.getD_eq_getElem?_getD, hj', hjX] using this
    have hg := getHd X hjX
    rw [he] at hg
    have hcc := hc l[j]
    cases hin : isO o l[j]
    · rw [hin] at hcc
      have hn : noO o l[j] = true := by unfold noO; rw [hin]; rfl
      have hiX : i < X.length := by omega
      have hwi := wr_succ (i := i) (by omega)
      have hset : (X.map hdRow).set i [.int .i64 l[j].ob, .int .i64 l[j].ge, .str l[j].tg, .int .i64 l[j].le, .int .i64 l[j].ti, .list 4 (l[j].ps.map pcRow)] = (X.set i l[j]).map hdRow := by rw [List.map_set]; rfl
      obtain ⟨X', a1, a2, a3⟩ := lp_delH g cs o hc l hl k (j + 1) (by omega) (X.set i l[j]) (by rw [List.length_set]; exact hX) (i + 1) (by omega)
        (by rw [List.take_succ_eq_append_getElem hj', List.filter_append, ← h1, List.filter_cons, if_pos hn, List.filter_nil,
              List.take_succ_eq_append_getElem (by rw [List.length_set]; exact hiX), List.getElem_set_self, List.take_set_of_le (Nat.le_refl _)])
        (by rw [List.drop_set_of_lt (by omega), ← List.drop_drop, h2, List.drop_drop])
      refine ⟨X', a1, a2, ?_⟩
      have hii : (i : Int) < l.length := by omega
      have hii' : i < l.length := by omega
      have hgi := getHd X hiX
      simp (maxSteps := 2000000) (disch := omega) only [go_sem, doCall, doCallQ, doCallP, Nat.reduceAdd, Nat.reduceMul, Nat.reduceSub, Nat.reduceDiv, Nat.reduceMod, Nat.reduceLT, Nat.reduceLeDiff, Nat.reduceEqDiff, Nat.reduceBEq, Nat.reduceBNe, Int.reduceToNat, Int.reduceLT, Int.reduceLE, Int.reduceEq, Int.reduceNe, Int.reduceAdd, Int.reduceSub, Int.reduceMul, Int.reduceNeg, u35_0, lb35_0, hlt, hii, hj', hii', hg, hgi, hset, hl2, hcc, Nat.zero_add, List.set_cons_zero, List.set_cons_succ, Int.natCast_nonneg, Int.toNat_natCast, Option.getD_some, Option.getD_none, List.drop_zero, Nat.sub_zero, Nat.zero_le, true_and, and_true, Nat.le_refl, chk_of]
      rw [loop_step1]
      simp (maxSteps := 2000000) only [go_sem, doCall, doCallQ, doCallP, Nat.reduceAdd, Nat.reduceMul, Nat.reduceSub, Nat.reduceDiv, Nat.reduceMod, Nat.reduceLT, Nat.reduceLeDiff, Nat.reduceEqDiff, Nat.reduceBEq, Nat.reduceBNe, Int.reduceToNat, Int.reduceLT, Int.reduceLE, Int.reduceEq, Int.reduceNe, Int.reduceAdd, Int.reduceSub, Int.reduceMul, Int.reduceNeg, hw, hwi, hset]
      exact a3
    · rw [hin] at hcc
      have hn : noO o l[j] = false := by unfold noO; rw [hin]; rfl
      obtain ⟨X', a1, a2, a3⟩ := lp_delH g cs o hc l hl k (j + 1) (by omega) X hX i (by omega)
        (by rw [List.take_succ_eq_append_getElem hj', List.filter_append, ← h1, List.filter_cons, if_neg (by rw [hn]; simp)]; simp)
        (by rw [← List.drop_drop, h2, List.drop_drop])
      refine ⟨X', a1, a2, ?_⟩
      simp (maxSteps := 2000000) (disch := omega) only [go_sem, doCall, doCallQ, doCallP, Nat.reduceAdd, Nat.reduceMul, Nat.reduceSub, Nat.reduceDiv, Nat.reduceMod, Nat.reduceLT, Nat.reduceLeDiff, Nat.reduceEqDiff, Nat.reduceBEq, Nat.reduceBNe, Int.reduceToNat, Int.reduceLT, Int.reduceLE, Int.reduceEq, Int.reduceNe, Int.reduceAdd, Int.reduceSub, Int.reduceMul, Int.reduceNeg, u35_0, lb35_0, hlt, hj', hg, hl2, hcc, Nat.zero_add, Int.natCast_nonneg, Int.toNat_natCast, Option.getD_some, Option.getD_none, List.drop_zero, Nat.sub_zero, Nat.zero_le, true_and, and_true, Nat.le_refl, chk_of]
      rw [loop_step1]
      simp (maxSteps := 2000000) only [go_sem, doCall, doCallQ, doCallP, Nat.reduceAdd, Nat.reduceMul, Nat.reduceSub, Nat.reduceDiv, Nat.reduceMod, Nat.reduceLT, Nat.reduceLeDiff, Nat.reduceEqDiff, Nat.reduceBEq, Nat.reduceBNe, Int.reduceToNat, Int.reduceLT, Int.reduceLE, Int.reduceEq, Int.reduceNe, Int.reduceAdd, Int.reduceSub, Int.reduceMul, Int.reduceNeg, hw]
      exact a3
termination_by l.length - j
theorem c_delH (g : Nat) (cs : List D) (o : Int) (hc : ∀ d : Hd, call ir g [vHd d, .ptr 0 0] [.dbox cs] = some (dT (isO o d), [.dbox cs])) (l : List Hd) (hl : l.length ≤ 1000000) :
    call ir 35 [.own 0 6 0 l.length false, clH g] [.arr 6 (l.map hdRow), .dbox cs] = some (.own 0 6 0 (l.filter (noO o)).length false, [.arr 6 ((l.filter (noO o)).map hdRow), .dbox cs]) := by
  obtain ⟨r, e1, h⟩ := c_ixH g cs o hc l false hl
  have hl2 : (l.map hdRow).length = l.length := List.length_map ..
  rcases h with ⟨rfl, h⟩ | ⟨n, rfl, hn, h1, h2⟩
  · rw [h, call_eq (fn := ir35) rfl, evF_bnd]
    simp (maxSteps := 2000000) (disch := omega) only [go_sem, doCall, doCallQ, doCallP, Nat.reduceAdd, Nat.reduceMul, Nat.reduceSub, Nat.reduceDiv, Nat.reduceMod, Nat.reduceLT, Nat.reduceLeDiff, Nat.reduceEqDiff, Nat.reduceBEq, Nat.reduceBNe, Int.reduceToNat, Int.reduceLT, Int.reduceLE, Int.reduceEq, Int.reduceNe, Int.reduceAdd, Int.reduceSub, Int.reduceMul, Int.reduceNeg, bd35, e1]
  · have hw := wr_succ (i := n) (by omega)
    have hne : ¬ (n : Int) = -1 := by omega
    rw [gH hn] at h2
    have hf : (l.take (n + 1)).filter (noO o) = l.take n := by
      rw [List.take_succ_eq_append_getElem hn, List.filter_append, h1, List.filter_cons, if_neg (by unfold noO; rw [h2]; simp)]; simp
    obtain ⟨X', a1, a2, a3⟩ := lp_delH g cs o hc l hl (bk 0 (sq (call ir) (loop ir) (.seq (.reg [⟨some 36, none, .mv (.s 0), .none⟩,
      ⟨some 37, none, .mv (.s 5), .none⟩,
      ⟨some 38, none, .sl (.s 36) (some (.s 37)) none none 6, .none⟩,
      ⟨none, none, .bcall (.clr [.int .i64 0, .int .i64 0, .str [], .int .i64 0, .int .i64 0, .nils]) [.s 38], .none⟩])
  (.seq (.reg [⟨some 39, none, .mv (.s 0), .none⟩,
      ⟨some 40, none, .mv (.s 5), .none⟩,
      ⟨some 41, none, .sl (.s 39) none (some (.s 40)) none 6, .none⟩,
      ⟨some 4, none, .mv (.s 41), .none⟩])
  (.ret none))) (fin ir35))) (n + 1) (by omega) l rfl n (by omega) hf.symm rfl
    have hle : (l.filter (noO o)).length ≤ l.length := List.length_filter_le ..
    rw [call_eq (fn := ir35) rfl, evF_bnd]
    simp (maxSteps := 2000000) (disch := omega) only [go_sem, doCall, doCallQ, doCallP, Nat.reduceAdd, Nat.reduceMul, Nat.reduceSub, Nat.reduceDiv, Nat.reduceMod, Nat.reduceLT, Nat.reduceLeDiff, Nat.reduceEqDiff, Nat.reduceBEq, Nat.reduceBNe, Int.reduceToNat, Int.reduceLT, Int.reduceLE, Int.reduceEq, Int.reduceNe, Int.reduceAdd, Int.reduceSub, Int.reduceMul, Int.reduceNeg, bd35, e1, hne]
    rw [loop_step1]
    simp (maxSteps := 2000000) only [go_sem, doCall, doCallQ, doCallP, Nat.reduceAdd, Nat.reduceMul, Nat.reduceSub, Nat.reduceDiv, Nat.reduceMod, Nat.reduceLT, Nat.reduceLeDiff, Nat.reduceEqDiff, Nat.reduceBEq, Nat.reduceBNe, Int.reduceToNat, Int.reduceLT, Int.reduceLE, Int.reduceEq, Int.reduceNe, Int.reduceAdd, Int.reduceSub, Int.reduceMul, Int.reduceNeg, hw]
    refine Eq.trans a3 ?_
    have ht : (X'.map hdRow).take (l.filter (noO o)).length = (l.filter (noO o)).map hdRow := by rw [← List.map_take, a2]
    have hd : (X'.map hdRow).drop l.length = [] := List.drop_eq_nil_of_le (by rw [List.length_map]; omega)
    have hx2 : (X'.map hdRow).length = l.length := by rw [List.length_map, a1]
    have hadd : (l.filter (noO o)).length + (l.length - (l.filter (noO o)).length) = l.length := by omega
    have hz : (0 : Int) ≤ ((l.filter (noO o)).length : Int) := Int.natCast_nonneg _
    simp (maxSteps := 2000000) (disch := omega) only [go_sem, doCall, doCallQ, doCallP, Nat.reduceAdd, Nat.reduceMul, Nat.reduceSub, Nat.reduceDiv, Nat.reduceMod, Nat.reduceLT, Nat.reduceLeDiff, Nat.reduceEqDiff, Nat.reduceBEq, Nat.reduceBNe, Int.reduceToNat, Int.reduceLT, Int.reduceLE, Int.reduceEq, Int.reduceNe, Int.reduceAdd, Int.reduceSub, Int.reduceMul, Int.reduceNeg, hz, Int.toNat_natCast, Nat.le_refl, Nat.zero_add, Nat.sub_zero, chk_of, hle, ht, hd, hx2, hadd]
/-! ### the sort -/
theorem keysH : ∀ l : List Hd, keysD kd0 (l.map hdRow) = some (l.map (·.ob))
  | [] => rfl
  | h :: l => by rw [List.map_cons, keysD, keysH l]; rfl
theorem c_sortH48 (F : List Hd) (hl : F.length ≤ 1000000) (hn : (F.map (·.ob)).Nodup) (Z : List (List D)) (b : Bool) :
    call ir 37 [.own 0 6 0 F.length b, .clo (.func 38) [] []] [.arr 6 (F.map hdRow ++ Z)] = some (.tup [], [.arr 6 ((srtK (·.ob) F).map hdRow ++ Z)]) := by
  have hlen : (F.map hdRow).length = F.length := List.length_map ..
  have htk : ((F.map hdRow ++ Z).drop 0).take F.length = F.map hdRow := by
    rw [List.drop_zero, List.take_append_of_le_length (by rw [hlen]; exact Nat.le_refl _), ← hlen, List.take_length]
  have e := natSK_eq 6 kd0 37 38 (i := 0) (o := 0) (n := F.length) (b := b) (H := [.arr 6 (F.map hdRow ++ Z)]) (xs := F.map hdRow ++ Z) (ns := F.map (·.ob)) rfl ⟨by simp, by omega⟩
    (by rw [htk]; exact keysH F) hn
  rw [call_nat (by rfl), nat_eq]
  refine (natOr_r (by rfl)).trans ((natOr_l e).trans ?_)
  rw [htk, Nat.zero_add, ← hlen, List.drop_left, srtK_map]
  rfl
/-! ### the first loop of Apply -/
theorem lp_apc (l : List Hd) (hl : l.length ≤ 1000000) (hb : ∀ d ∈ l, d.ps.length ≤ 1000000 ∧ ∀ p ∈ d.ps, p.bd.length ≤ 1000000) (ch : List (List D)) (k : Ex → St → Option (AV × Heap)) (i : Nat) (hi : i ≤ l.length) :
    (bnd (evC (call ir) (loop ir) lp16_0 (st16_0 0 (.d (.list 10 ch)) (.own 0 6 0 l.length false) (dI l.length) (dI i) [.arr 6 (l.map hdRow)])) (lpC (call ir) (loop ir) [1, 6, 25, 26] lp16_0 k)) = k (.exit 0) (clean [1, 6] (st16_0 0 (.d (.list 10 ch)) (.own 0 6 0 l.length false) .unk .unk [.arr 6 (l.map hdRow)])) := by
  by_cases h : i = l.length
  · have hx : ¬ (i : Int) < l.length := by omega
    rw [h] at hx
    rw [h]
    simp (maxSteps := 2000000) (disch := omega) only [go_sem, doCall, doCallQ, doCallP, Nat.reduceAdd, Nat.reduceMul, Nat.reduceSub, Nat.reduceDiv, Nat.reduceMod, Nat.reduceLT, Nat.reduceLeDiff, Nat.reduceEqDiff, Nat.reduceBEq, Nat.reduceBNe, Int.reduceToNat, Int.reduceLT, Int.reduceLE, Int.reduceEq, Int.reduceNe, Int.reduceAdd, Int.reduceSub, Int.reduceMul, Int.reduceNeg, u16_0, lb16_0, hx]
  · have hlt : (i : Int) < l.length := by omega
    have hi' : i < l.length := by omega
    have hw := wr_succ (i := i) (by omega)
    have hg := getHd l hi'
    have hs := setHd l hi'
    have hlm : (l.map hdRow).length = l.length := List.length_map ..
    have hbb := hb _ (List.getElem_mem hi')
    have hcp := t_copied l[i].ps hbb.1 hbb.2
    have hlp : (l[i].ps.map pcRow).length = l[i].ps.length := List.length_map ..
    have htk : (l[i].ps.map pcRow).take l[i].ps.length = l[i].ps.map pcRow := by rw [← hlp, List.take_length]
    have ih := lp_apc l hl hb ch k (i + 1) (by omega)
    simp (maxSteps := 2000000) (disch := omega) only [go_sem, doCall, doCallQ, doCallP, Nat.reduceAdd, Nat.reduceMul, Nat.reduceSub, Nat.reduceDiv, Nat.reduceMod, Nat.reduceLT, Nat.reduceLeDiff, Nat.reduceEqDiff, Nat.reduceBEq, Nat.reduceBNe, Int.reduceToNat, Int.reduceLT, Int.reduceLE, Int.reduceEq, Int.reduceNe, Int.reduceAdd, Int.reduceSub, Int.reduceMul, Int.reduceNeg, u16_0, lb16_0, hlt, hi', hw, hg, hs, hlm, hcp, hlp, htk, Nat.zero_add, List.set_cons_zero, List.set_cons_succ, Int.natCast_nonneg, Int.toNat_natCast, Option.getD_some, Option.getD_none, List.drop_zero, Nat.sub_zero, Nat.zero_le, true_and, and_true, Nat.le_refl, chk_of]
    rw [loop_step1]; simp (maxSteps := 2000000) only [go_sem, doCall, doCallQ, doCallP, Nat.reduceAdd, Nat.reduceMul, Nat.reduceSub, Nat.reduceDiv, Nat.reduceMod, Nat.reduceLT, Nat.reduceLeDiff, Nat.reduceEqDiff, Nat.reduceBEq, Nat.reduceBNe, Int.reduceToNat, Int.reduceLT, Int.reduceLE, Int.reduceEq, Int.reduceNe, Int.reduceAdd, Int.reduceSub, Int.reduceMul, Int.reduceNeg]; exact ih
termination_by l.length - i
end Go.Proofs.Ytbcpffhialoliaa
namespace Go.Proofs.Ytbcpffhialoliaa
open Go Go.Ev Go.Proofs.Ytbcpffhialoliaa.Ir
set_option maxRecDepth 100000
set_option maxHeartbeats 4000000
set_option linter.unusedSimpArgs false
set_option linter.unusedVariables false
/-! ### what rises -/
theorem adj_pair {β : Type} [Inhabited β] (f : β → Int) : ∀ (l : List β), (∀ j, 0 < j → j < l.length → f (l.getD (j - 1) default) < f (l.getD j default)) → l.Pairwise (fun a b => f a < f b)
  | [], _ => .nil
  | [x], _ => by simp
  | x :: y :: l, h => by
    have ih := adj_pair f (y :: l) (fun j h1 h2 => by
      have := h (j + 1) (by omega) (by simp at h2 ⊢; omega)
      obtain ⟨q, rfl⟩ : ∃ q, j = q + 1 := ⟨j - 1, by omega⟩
      simpa using this)
    have h0 : f x < f y := by simpa using h 1 (by omega) (by simp)
    refine List.pairwise_cons.2 ⟨fun z hz => ?_, ih⟩
    rcases List.mem_cons.1 hz with rfl | hz
    · exact h0
    · have := (List.pairwise_cons.1 ih).1 z hz
      omega
theorem pair_adj {β : Type} [Inhabited β] (f : β → Int) {l : List β} (h : l.Pairwise (fun a b => f a < f b)) {j : Nat} (h1 : 0 < j) (h2 : j < l.length) : f (l.getD (j - 1) default) < f (l.getD j default) := by
  have := List.pairwise_iff_getElem.1 h (j - 1) j (by omega) h2 (by omega)
  simpa [List.getD_eq_getElem?_getD, h2, show j - 1 < l.length by omega] using this
theorem op_all (ob ge : Int) (l : List Pc) : ∀ (n i : Nat), l.length - i = n → (opF ob ge l i = true ↔ ∀ j, i ≤ j → j < l.length → okP ob ge l j) := by
  intro n
  induction n with
  | zero =>
    intro i h
    rw [opF, dif_neg (by omega)]
    simp; intro j h1 h2; omega
  | succ n ih =>
    intro i h
    rw [opF_at (by omega), Bool.and_eq_true, ih (i + 1) (by omega), decide_eq_true_iff]
    constructor
    · intro h1 j h2 h3
      by_cases e : i = j
      · subst e; exact h1.1
      · exact h1.2 j (by omega) h3
    · intro h1
      exact ⟨h1 i (Nat.le_refl _) (by omega), fun j h2 h3 => h1 j (by omega) h3⟩
theorem rt_all (l : List Hd) : ∀ (n i : Nat), l.length - i = n → (rtF l i = true ↔ ∀ j, i ≤ j → j < l.length → oneR (l.getD j default) = true ∧ okH l j) := by
  intro n
  induction n with
  | zero =>
    intro i h
    rw [rtF, dif_neg (by omega)]
    simp; intro j h1 h2; omega
  | succ n ih =>
    intro i h
    rw [rtF_at (by omega), Bool.and_eq_true, ih (i + 1) (by omega), Bool.and_eq_true, decide_eq_true_iff, ← gH (show i < l.length by omega)]
    constructor
    · intro h1 j h2 h3
      by_cases e : i = j
      · subst e; exact h1.1
      · exact h1.2 j (by omega) h3
    · intro h1
      exact ⟨h1 i (Nat.le_refl _) (by omega), fun j h2 h3 => h1 j (by omega) h3⟩
theorem one_iff (d : Hd) : oneR d = true ↔ (∀ p ∈ d.ps, p.ob = d.ob ∧ p.ge = d.ge) ∧ d.ps.Pairwise (fun a b => a.ix < b.ix) := by
  unfold oneR
  rw [op_all d.ob d.ge d.ps _ 0 rfl]
  unfold okP
  constructor
  · intro h
    refine ⟨fun p hp => ?_, adj_pair (·.ix) d.ps fun j h1 h2 => ?_⟩
    · obtain ⟨j, hj, rfl⟩ := List.mem_iff_getElem.1 hp
      have := h j (Nat.zero_le _) hj
      rw [gP hj] at this
      exact ⟨this.1, this.2.1⟩
    · have := (h j (Nat.zero_le _) h2).2.2
      rcases this with h0 | h0
      · omega
      · exact h0
  · rintro ⟨h1, h2⟩ j _ hj
    have := h1 _ (List.getElem_mem hj)
    rw [gP hj]
    refine ⟨this.1, this.2, ?_⟩
    by_cases h0 : j = 0
    · exact .inl h0
    · have := pair_adj (·.ix) h2 (by omega) hj
      rw [gP hj] at this
      exact .inr this
theorem rt_iff (l : List Hd) : rtR l = true ↔ (∀ d ∈ l, oneR d = true) ∧ l.Pairwise (fun a b => a.ob < b.ob) := by
  unfold rtR
  rw [rt_all l _ 0 rfl]
  unfold okH
  constructor
  · intro h
    refine ⟨fun p hp => ?_, adj_pair (·.ob) l fun j h1 h2 => ?_⟩
    · obtain ⟨j, hj, rfl⟩ := List.mem_iff_getElem.1 hp
      have := h j (Nat.zero_le _) hj
      rw [gH hj] at this
      exact this.1
    · have := (h j (Nat.zero_le _) h2).2
      rcases this with h0 | h0
      · omega
      · exact h0
  · rintro ⟨h1, h2⟩ j _ hj
    rw [gH hj]
    refine ⟨h1 _ (List.getElem_mem hj), ?_⟩
    by_cases h0 : j = 0
    · exact .inl h0
    · have := pair_adj (·.ob) h2 (by omega) hj
      rw [gH hj] at this
      exact .inr this
theorem nod_of {β : Type} {f : β → Int} {l : List β} (h : l.Pairwise (fun a b => f a < f b)) : (l.map f).Nodup := by
  rw [List.nodup_iff_pairwise_ne, List.pairwise_map]
  exact h.imp fun h => by omega
theorem srt_same {β : Type} {f : β → Int} {l : List β} (h : l.Pairwise (fun a b => f a < f b)) : srtK f l = l :=
  sorted_one f _ _ (srtK_perm f l) (((srtK_perm f l).map f).nodup_iff.2 (nod_of h)) (srtK_sorted f l) (h.imp fun h => by omega)
theorem srt_strict {β : Type} {f : β → Int} {l : List β} (h : (l.map f).Nodup) : (srtK f l).Pairwise (fun a b => f a < f b) := by
  have h1 := srtK_sorted f l
  have h2 : ((srtK f l).map f).Nodup := ((srtK_perm f l).map f).nodup_iff.2 h
  rw [List.nodup_iff_pairwise_ne, List.pairwise_map] at h2
  exact (h1.and h2).imp fun h => by omega
/-! ### the changes -/
theorem w0 : wr .i64 0 = 0 := wr_id (by omega)
theorem w1 : wr .i64 1 = 1 := wr_id (by omega)
theorem w2 : wr .i64 2 = 2 := wr_id (by omega)
theorem t_rise1 (o : Int) (b : Bool) (L : List (List D)) : call ir 31 [.d (.list 10 [[.int .i64 o, .bool false, .bool b, .int .i64 0, .int .i64 0, .str [], .int .i64 0, .int .i64 0, .list 4 [], .list 1 L]])] [] = some (dT true, []) := by
  rw [call_eq (fn := ir31) rfl, evF_bnd]
  simp (maxSteps := 2000000) (disch := omega) only [go_sem, doCall, doCallQ, doCallP, Nat.reduceAdd, Nat.reduceMul, Nat.reduceSub, Nat.reduceDiv, Nat.reduceMod, Nat.reduceLT, Nat.reduceLeDiff, Nat.reduceEqDiff, Nat.reduceBEq, Nat.reduceBNe, Int.reduceToNat, Int.reduceLT, Int.reduceLE, Int.reduceEq, Int.reduceNe, Int.reduceAdd, Int.reduceSub, Int.reduceMul, Int.reduceNeg, bd31, List.length_cons, List.length_nil, Int.natCast_nonneg, Int.toNat_natCast, Option.getD_some, Option.getD_none, List.drop_zero, Nat.sub_zero, Nat.zero_le, true_and, and_true, Nat.le_refl, chk_of]
  rw [loop_step1]
  simp (maxSteps := 2000000) (disch := omega) only [go_sem, doCall, doCallQ, doCallP, Nat.reduceAdd, Nat.reduceMul, Nat.reduceSub, Nat.reduceDiv, Nat.reduceMod, Nat.reduceLT, Nat.reduceLeDiff, Nat.reduceEqDiff, Nat.reduceBEq, Nat.reduceBNe, Int.reduceToNat, Int.reduceLT, Int.reduceLE, Int.reduceEq, Int.reduceNe, Int.reduceAdd, Int.reduceSub, Int.reduceMul, Int.reduceNeg, u31_0, lb31_0, w1, List.length_cons, List.length_nil, Nat.zero_add, List.getD_cons_zero, List.getD_cons_succ, Int.natCast_nonneg, Int.toNat_natCast, Option.getD_some, Option.getD_none, List.drop_zero, Nat.sub_zero, Nat.zero_le, true_and, and_true, Nat.le_refl, chk_of]
  rw [loop_step1]
  simp (maxSteps := 2000000) (disch := omega) only [go_sem, doCall, doCallQ, doCallP, Nat.reduceAdd, Nat.reduceMul, Nat.reduceSub, Nat.reduceDiv, Nat.reduceMod, Nat.reduceLT, Nat.reduceLeDiff, Nat.reduceEqDiff, Nat.reduceBEq, Nat.reduceBNe, Int.reduceToNat, Int.reduceLT, Int.reduceLE, Int.reduceEq, Int.reduceNe, Int.reduceAdd, Int.reduceSub, Int.reduceMul, Int.reduceNeg, u31_0, lb31_0, w0, w1, w2, List.length_cons, List.length_nil, Nat.zero_add, List.getD_cons_zero, List.getD_cons_succ, Int.lt_irrefl, Int.le_refl, not_true, not_false_eq_true, Int.natCast_nonneg, Int.toNat_natCast, Option.getD_some, Option.getD_none, List.drop_zero, Nat.sub_zero, Nat.zero_le, true_and, and_true, Nat.le_refl, chk_of]
  all_goals trace_state
theorem t_rise2 (o : Int) : call ir 31 [.d (.list 10 [[.int .i64 o, .bool false, .bool false, .int .i64 0, .int .i64 0, .str [], .int .i64 0, .int .i64 0, .list 4 [], .list 1 []], [.int .i64 o, .bool false, .bool false, .int .i64 0, .int .i64 0, .str [], .int .i64 0, .int .i64 0, .list 4 [], .list 1 []]])] [] = some (dT false, []) := by
  rw [call_eq (fn := ir31) rfl, evF_bnd]
  simp (maxSteps := 2000000) (disch := omega) only [go_sem, doCall, doCallQ, doCallP, Nat.reduceAdd, Nat.reduceMul, Nat.reduceSub, Nat.reduceDiv, Nat.reduceMod, Nat.reduceLT, Nat.reduceLeDiff, Nat.reduceEqDiff, Nat.reduceBEq, Nat.reduceBNe, Int.reduceToNat, Int.reduceLT, Int.reduceLE, Int.reduceEq, Int.reduceNe, Int.reduceAdd, Int.reduceSub, Int.reduceMul, Int.reduceNeg, bd31, List.length_cons, List.length_nil, Int.natCast_nonneg, Int.toNat_natCast, Option.getD_some, Option.getD_none, List.drop_zero, Nat.sub_zero, Nat.zero_le, true_and, and_true, Nat.le_refl, chk_of]
  rw [loop_step1]
  simp (maxSteps := 2000000) (disch := omega) only [go_sem, doCall, doCallQ, doCallP, Nat.reduceAdd, Nat.reduceMul, Nat.reduceSub, Nat.reduceDiv, Nat.reduceMod, Nat.reduceLT, Nat.reduceLeDiff, Nat.reduceEqDiff, Nat.reduceBEq, Nat.reduceBNe, Int.reduceToNat, Int.reduceLT, Int.reduceLE, Int.reduceEq, Int.reduceNe, Int.reduceAdd, Int.reduceSub, Int.reduceMul, Int.reduceNeg, u31_0, lb31_0, w1, List.length_cons, List.length_nil, Nat.zero_add, List.getD_cons_zero, List.getD_cons_succ, Int.natCast_nonneg, Int.toNat_natCast, Option.getD_some, Option.getD_none, List.drop_zero, Nat.sub_zero, Nat.zero_le, true_and, and_true, Nat.le_refl, chk_of]
  rw [loop_step1]
  simp (maxSteps := 2000000) (disch := omega) only [go_sem, doCall, doCallQ, doCallP, Nat.reduceAdd, Nat.reduceMul, Nat.reduceSub, Nat.reduceDiv, Nat.reduceMod, Nat.reduceLT, Nat.reduceLeDiff, Nat.reduceEqDiff, Nat.reduceBEq, Nat.reduceBNe, Int.reduceToNat, Int.reduceLT, Int.reduceLE, Int.reduceEq, Int.reduceNe, Int.reduceAdd, Int.reduceSub, Int.reduceMul, Int.reduceNeg, u31_0, lb31_0, w0, w1, w2, List.length_cons, List.length_nil, Nat.zero_add, List.getD_cons_zero, List.getD_cons_succ, Int.lt_irrefl, Int.le_refl, not_true, not_false_eq_true, Int.natCast_nonneg, Int.toNat_natCast, Option.getD_some, Option.getD_none, List.drop_zero, Nat.sub_zero, Nat.zero_le, true_and, and_true, Nat.le_refl, chk_of]
  all_goals trace_state
end Go.Proofs.Ytbcpffhialoliaa
namespace Go.Proofs.Ytbcpffhialoliaa
open Go Go.Ev Go.Proofs.Ytbcpffhialoliaa.Ir
set_option maxRecDepth 100000
set_option maxHeartbeats 4000000
set_option linter.unusedSimpArgs false
set_option linter.unusedVariables false
/-- Bounds. -/
def sml (l : List Hd) : Prop := l.length ≤ 100000 ∧ ∀ d ∈ l, d.ps.length ≤ 100000 ∧ ∀ p ∈ d.ps, p.bd.length ≤ 100000
theorem sml_b {l : List Hd} (h : sml l) : ∀ d ∈ l, d.ps.length ≤ 1000000000 := fun d hd => by have := (h.2 d hd).1; omega
theorem sml_c {l : List Hd} (h : sml l) : ∀ d ∈ l, d.ps.length ≤ 1000000 ∧ ∀ p ∈ d.ps, p.bd.length ≤ 1000000 := fun d hd => ⟨by have := (h.2 d hd).1; omega, fun p hp => by have := (h.2 d hd).2 p hp; omega⟩
theorem t_ap_bad (a : List Hd) (ha : sml a) (hr : rtR a = false) (ch : List (List D)) : call ir 16 [vHs a, .d (.list 10 ch)] [] = some (.tup [.own 0 6 0 0 false, dI 1], [.arr 6 []]) := by
  rw [call_eq (fn := ir16) rfl, evF_bnd]
  have h1 := t_right48 a (by have := ha.1; omega) (sml_b ha)
  rw [hr] at h1
  simp (maxSteps := 2000000) (disch := omega) only [go_sem, doCall, doCallQ, doCallP, Nat.reduceAdd, Nat.reduceMul, Nat.reduceSub, Nat.reduceDiv, Nat.reduceMod, Nat.reduceLT, Nat.reduceLeDiff, Nat.reduceEqDiff, Nat.reduceBEq, Nat.reduceBNe, Int.reduceToNat, Int.reduceLT, Int.reduceLE, Int.reduceEq, Int.reduceNe, Int.reduceAdd, Int.reduceSub, Int.reduceMul, Int.reduceNeg, bd16, h1, Int.natCast_nonneg, Int.toNat_natCast, Option.getD_some, Option.getD_none, List.drop_zero, Nat.sub_zero, Nat.zero_le, true_and, and_true, Nat.le_refl, chk_of]
theorem t_ap_two (a : List Hd) (ha : sml a) (o : Int) : call ir 16 [vHs a, .d (.list 10 [[.int .i64 o, .bool false, .bool false, .int .i64 0, .int .i64 0, .str [], .int .i64 0, .int .i64 0, .list 4 [], .list 1 []], [.int .i64 o, .bool false, .bool false, .int .i64 0, .int .i64 0, .str [], .int .i64 0, .int .i64 0, .list 4 [], .list 1 []]])] [] = some (.tup [.own 0 6 0 0 false, dI 1], [.arr 6 []]) := by
  rw [call_eq (fn := ir16) rfl, evF_bnd]
  have h1 := t_right48 a (by have := ha.1; omega) (sml_b ha)
  have h2 := t_rise2 o
  cases hr : rtR a <;> rw [hr] at h1
  · simp (maxSteps := 2000000) (disch := omega) only [go_sem, doCall, doCallQ, doCallP, Nat.reduceAdd, Nat.reduceMul, Nat.reduceSub, Nat.reduceDiv, Nat.reduceMod, Nat.reduceLT, Nat.reduceLeDiff, Nat.reduceEqDiff, Nat.reduceBEq, Nat.reduceBNe, Int.reduceToNat, Int.reduceLT, Int.reduceLE, Int.reduceEq, Int.reduceNe, Int.reduceAdd, Int.reduceSub, Int.reduceMul, Int.reduceNeg, bd16, h1, h2, Int.natCast_nonneg, Int.toNat_natCast, Option.getD_some, Option.getD_none, List.drop_zero, Nat.sub_zero, Nat.zero_le, true_and, and_true, Nat.le_refl, chk_of]
  · simp (maxSteps := 2000000) (disch := omega) only [go_sem, doCall, doCallQ, doCallP, Nat.reduceAdd, Nat.reduceMul, Nat.reduceSub, Nat.reduceDiv, Nat.reduceMod, Nat.reduceLT, Nat.reduceLeDiff, Nat.reduceEqDiff, Nat.reduceBEq, Nat.reduceBNe, Int.reduceToNat, Int.reduceLT, Int.reduceLE, Int.reduceEq, Int.reduceNe, Int.reduceAdd, Int.reduceSub, Int.reduceMul, Int.reduceNeg, bd16, h1, h2, Int.natCast_nonneg, Int.toNat_natCast, Option.getD_some, Option.getD_none, List.drop_zero, Nat.sub_zero, Nat.zero_le, true_and, and_true, Nat.le_refl, chk_of]
/-- Gone. -/
theorem t_ap_gone (a : List Hd) (ha : sml a) (hr : rtR a = true) (o : Int) : call ir 16 [vHs a, .d (.list 10 [[.int .i64 o, .bool false, .bool true, .int .i64 0, .int .i64 0, .str [], .int .i64 0, .int .i64 0, .list 4 [], .list 1 []]])] [] = (if (fndO o a).isSome then some (.tup [.own 0 6 0 (a.filter (noO o)).length false, dI 0], [.arr 6 ((a.filter (noO o)).map hdRow)]) else some (.tup [.own 0 6 0 0 false, dI 8], [.arr 6 []])) := by
  rw [call_eq (fn := ir16) rfl, evF_bnd]
  have hlen := ha.1
  have h1 := t_right48 a (by omega) (sml_b ha)
  rw [hr] at h1
  have h2 := t_rise1 o true []
  have hlm : (a.map hdRow).length = a.length := List.length_map ..
  have hcl := c_cloneH a (by omega)
  have hf := t_findO o a (by omega)
  have hd := c_delH 34 [.int .i64 o, .bool false, .bool true, .int .i64 0, .int .i64 0, .str [], .int .i64 0, .int .i64 0, .list 4 [], .list 1 []] o (fun d => c_own1 o d _ _ _ _ _ _ _ _ _) a (by omega)
  have hp := ((rt_iff a).1 hr)
  have hpf : (a.filter (noO o)).Pairwise (fun x y => x.ob < y.ob) := hp.2.filter _
  have hle : (a.filter (noO o)).length ≤ a.length := List.length_filter_le ..
  have hs := c_sortH48 (a.filter (noO o)) (by omega) (nod_of hpf) [] false
  rw [srt_same hpf, List.append_nil] at hs
  have hrF : rtR (a.filter (noO o)) = true := (rt_iff _).2 ⟨fun d hd => hp.1 d (List.mem_filter.1 hd).1, hpf⟩
  have h3 := t_rightO (a.filter (noO o)) false (by omega) (fun d hd => sml_b ha d (List.mem_filter.1 hd).1) []
  rw [hrF, List.append_nil] at h3
  generalize a.filter (noO o) = F at hd hs h3 hle ⊢
  have hlF : (F.map hdRow).length = F.length := List.length_map ..
  have htk : ((F.map hdRow).take F.length) = F.map hdRow := by rw [← hlF, List.take_length]
  have hla : F.length ≤ (F.map hdRow).length := by omega
  cases hfo : fndO o a with
  | none =>
    rw [hfo] at hf
    simp only [Option.isSome_none, Option.getD_none] at hf
    rw [if_neg (by simp)]
    simp (maxSteps := 2000000) (disch := omega) only [go_sem, doCall, doCallQ, doCallP, Nat.reduceAdd, Nat.reduceMul, Nat.reduceSub, Nat.reduceDiv, Nat.reduceMod, Nat.reduceLT, Nat.reduceLeDiff, Nat.reduceEqDiff, Nat.reduceBEq, Nat.reduceBNe, Int.reduceToNat, Int.reduceLT, Int.reduceLE, Int.reduceEq, Int.reduceNe, Int.reduceAdd, Int.reduceSub, Int.reduceMul, Int.reduceNeg, bd16, h1, h2, hcl, hlm, Int.natCast_nonneg, Int.toNat_natCast, Option.getD_some, Option.getD_none, List.drop_zero, Nat.sub_zero, Nat.zero_le, true_and, and_true, Nat.le_refl, chk_of]
    rw [loop_step1]; simp (maxSteps := 2000000) only [go_sem, doCall, doCallQ, doCallP, Nat.reduceAdd, Nat.reduceMul, Nat.reduceSub, Nat.reduceDiv, Nat.reduceMod, Nat.reduceLT, Nat.reduceLeDiff, Nat.reduceEqDiff, Nat.reduceBEq, Nat.reduceBNe, Int.reduceToNat, Int.reduceLT, Int.reduceLE, Int.reduceEq, Int.reduceNe, Int.reduceAdd, Int.reduceSub, Int.reduceMul, Int.reduceNeg]
    refine (lp_apc a (by omega) (sml_c ha) _ _ 0 (Nat.zero_le _)).trans ?_
    simp (maxSteps := 2000000) (disch := omega) only [go_sem, doCall, doCallQ, doCallP, Nat.reduceAdd, Nat.reduceMul, Nat.reduceSub, Nat.reduceDiv, Nat.reduceMod, Nat.reduceLT, Nat.reduceLeDiff, Nat.reduceEqDiff, Nat.reduceBEq, Nat.reduceBNe, Int.reduceToNat, Int.reduceLT, Int.reduceLE, Int.reduceEq, Int.reduceNe, Int.reduceAdd, Int.reduceSub, Int.reduceMul, Int.reduceNeg, List.length_cons, List.length_nil, Nat.zero_add, Int.natCast_nonneg, Int.toNat_natCast, Option.getD_some, Option.getD_none, List.drop_zero, Nat.sub_zero, Nat.zero_le, true_and, and_true, Nat.le_refl, chk_of]
    rw [loop_step1]
    simp (maxSteps := 2000000) (disch := omega) only [go_sem, doCall, doCallQ, doCallP, Nat.reduceAdd, Nat.reduceMul, Nat.reduceSub, Nat.reduceDiv, Nat.reduceMod, Nat.reduceLT, Nat.reduceLeDiff, Nat.reduceEqDiff, Nat.reduceBEq, Nat.reduceBNe, Int.reduceToNat, Int.reduceLT, Int.reduceLE, Int.reduceEq, Int.reduceNe, Int.reduceAdd, Int.reduceSub, Int.reduceMul, Int.reduceNeg, u16_1, lb16_1, hf, List.length_cons, List.length_nil, Nat.zero_add, List.getD_cons_zero, List.set_cons_zero, List.set_cons_succ, d0, Int.natCast_nonneg, Int.toNat_natCast, Option.getD_some, Option.getD_none, List.drop_zero, Nat.sub_zero, Nat.zero_le, true_and, and_true, Nat.le_refl, chk_of]
  | some d =>
    rw [hfo] at hf
    simp only [Option.isSome_some, Option.getD_some] at hf
    rw [if_pos (show (some d).isSome = true from rfl)]
    simp (maxSteps := 2000000) (disch := omega) only [go_sem, doCall, doCallQ, doCallP, Nat.reduceAdd, Nat.reduceMul, Nat.reduceSub, Nat.reduceDiv, Nat.reduceMod, Nat.reduceLT, Nat.reduceLeDiff, Nat.reduceEqDiff, Nat.reduceBEq, Nat.reduceBNe, Int.reduceToNat, Int.reduceLT, Int.reduceLE, Int.reduceEq, Int.reduceNe, Int.reduceAdd, Int.reduceSub, Int.reduceMul, Int.reduceNeg, bd16, h1, h2, hcl, hlm, Int.natCast_nonneg, Int.toNat_natCast, Option.getD_some, Option.getD_none, List.drop_zero, Nat.sub_zero, Nat.zero_le, true_and, and_true, Nat.le_refl, chk_of]
    rw [loop_step1]; simp (maxSteps := 2000000) only [go_sem, doCall, doCallQ, doCallP, Nat.reduceAdd, Nat.reduceMul, Nat.reduceSub, Nat.reduceDiv, Nat.reduceMod, Nat.reduceLT, Nat.reduceLeDiff, Nat.reduceEqDiff, Nat.reduceBEq, Nat.reduceBNe, Int.reduceToNat, Int.reduceLT, Int.reduceLE, Int.reduceEq, Int.reduceNe, Int.reduceAdd, Int.reduceSub, Int.reduceMul, Int.reduceNeg]
    refine (lp_apc a (by omega) (sml_c ha) _ _ 0 (Nat.zero_le _)).trans ?_
    simp (maxSteps := 2000000) (disch := omega) only [go_sem, doCall, doCallQ, doCallP, Nat.reduceAdd, Nat.reduceMul, Nat.reduceSub, Nat.reduceDiv, Nat.reduceMod, Nat.reduceLT, Nat.reduceLeDiff, Nat.reduceEqDiff, Nat.reduceBEq, Nat.reduceBNe, Int.reduceToNat, Int.reduceLT, Int.reduceLE, Int.reduceEq, Int.reduceNe, Int.reduceAdd, Int.reduceSub, Int.reduceMul, Int.reduceNeg, List.length_cons, List.length_nil, Nat.zero_add, Int.natCast_nonneg, Int.toNat_natCast, Option.getD_some, Option.getD_none, List.drop_zero, Nat.sub_zero, Nat.zero_le, true_and, and_true, Nat.le_refl, chk_of]
    rw [loop_step1]
    simp (maxSteps := 2000000) (disch := omega) only [go_sem, doCall, doCallQ, doCallP, Nat.reduceAdd, Nat.reduceMul, Nat.reduceSub, Nat.reduceDiv, Nat.reduceMod, Nat.reduceLT, Nat.reduceLeDiff, Nat.reduceEqDiff, Nat.reduceBEq, Nat.reduceBNe, Int.reduceToNat, Int.reduceLT, Int.reduceLE, Int.reduceEq, Int.reduceNe, Int.reduceAdd, Int.reduceSub, Int.reduceMul, Int.reduceNeg, u16_1, lb16_1, hf, hd, w1, List.length_cons, List.length_nil, Nat.zero_add, List.getD_cons_zero, List.set_cons_zero, List.set_cons_succ, Int.natCast_nonneg, Int.toNat_natCast, Option.getD_some, Option.getD_none, List.drop_zero, Nat.sub_zero, Nat.zero_le, true_and, and_true, Nat.le_refl, chk_of]
    rw [loop_step1]
    simp (maxSteps := 2000000) (disch := omega) only [go_sem, doCall, doCallQ, doCallP, Nat.reduceAdd, Nat.reduceMul, Nat.reduceSub, Nat.reduceDiv, Nat.reduceMod, Nat.reduceLT, Nat.reduceLeDiff, Nat.reduceEqDiff, Nat.reduceBEq, Nat.reduceBNe, Int.reduceToNat, Int.reduceLT, Int.reduceLE, Int.reduceEq, Int.reduceNe, Int.reduceAdd, Int.reduceSub, Int.reduceMul, Int.reduceNeg, u16_1, lb16_1, hs, h3, hlF, w1, Int.lt_irrefl, List.length_cons, List.length_nil, Nat.zero_add, List.getD_cons_zero, List.set_cons_zero, List.set_cons_succ, Int.natCast_nonneg, Int.toNat_natCast, Option.getD_some, Option.getD_none, List.drop_zero, Nat.sub_zero, Nat.zero_le, true_and, and_true, Nat.le_refl, chk_of]
end Go.Proofs.Ytbcpffhialoliaa
namespace Go.Proofs.Ytbcpffhialoliaa
open Go Go.Ev Go.Proofs.Ytbcpffhialoliaa.Ir
set_option maxRecDepth 100000
set_option maxHeartbeats 4000000
set_option linter.unusedSimpArgs false
set_option linter.unusedVariables false
def pcD (p : Pc) : D := .agg [.int .i64 p.ob, .int .i64 p.ge, .int .i64 p.ix, .list 1 (bB p.bd)]
def pcE (p : Pc) : Int × D := (p.ix, pcD p)
theorem putM_end {α : Type} {k : Int} {v : α} : ∀ {l : List (Int × α)}, (∀ q ∈ l, q.1 < k) → putM k v l = l ++ [(k, v)]
  | [], _ => rfl
  | (a, d) :: l, h => by
    have := h _ (.head _)
    simp only at this
    rw [putM, if_neg (by omega), if_neg (by omega), putM_end fun q hq => h q (.tail _ hq)]
    rfl
def rises (l : List Pc) : Prop := l.Pairwise (fun a b => a.ix < b.ix)
theorem put_next {l : List Pc} (hl : rises l) {i : Nat} (h : i < l.length) : putM l[i].ix (pcD l[i]) ((l.take i).map pcE) = (l.take (i + 1)).map pcE := by
  rw [List.take_succ_eq_append_getElem h, List.map_append]
  apply putM_end
  intro q hq
  obtain ⟨p, hp, rfl⟩ := List.mem_map.1 hq
  obtain ⟨j, hj, rfl⟩ := List.mem_iff_getElem.1 hp
  rw [List.getElem_take]
  rw [List.length_take] at hj
  exact List.pairwise_iff_getElem.1 hl j i (by omega) h (by omega)
theorem lp_bod (l : List Pc) (hl : l.length ≤ 1000000) (hr : rises l) (k : Ex → St → Option (AV × Heap)) (i : Nat) (hi : i ≤ l.length) :
    (bnd (evC (call ir) (loop ir) lp41_0 (st41_0 0 (.mref 0) (vPs l) (dI l.length) (dI i) [.mp ((l.take i).map pcE)])) (lpC (call ir) (loop ir) [3, 7, 8, 9] lp41_0 k)) = k (.exit 0) (clean [3] (st41_0 0 (.mref 0) .unk .unk .unk [.mp (l.map pcE)])) := by
  by_cases h : i = l.length
  · have hx : ¬ (i : Int) < l.length := by omega
    rw [h] at hx
    rw [h, List.take_length]
    simp (maxSteps := 2000000) (disch := omega) only [go_sem, doCall, doCallQ, doCallP, Nat.reduceAdd, Nat.reduceMul, Nat.reduceSub, Nat.reduceDiv, Nat.reduceMod, Nat.reduceLT, Nat.reduceLeDiff, Nat.reduceEqDiff, Nat.reduceBEq, Nat.reduceBNe, Int.reduceToNat, Int.reduceLT, Int.reduceLE, Int.reduceEq, Int.reduceNe, Int.reduceAdd, Int.reduceSub, Int.reduceMul, Int.reduceNeg, u41_0, lb41_0, hx]
  · have hlt : (i : Int) < l.length := by omega
    have hi' : i < l.length := by omega
    have hw := wr_succ (i := i) (by omega)
    have hg := getPc l hi'
    have hp := put_next hr hi'
    unfold pcD at hp
    have hlm : (l.map pcRow).length = l.length := List.length_map ..
    have ih := lp_bod l hl hr k (i + 1) (by omega)
    simp (maxSteps := 2000000) (disch := omega) only [go_sem, doCall, doCallQ, doCallP, Nat.reduceAdd, Nat.reduceMul, Nat.reduceSub, Nat.reduceDiv, Nat.reduceMod, Nat.reduceLT, Nat.reduceLeDiff, Nat.reduceEqDiff, Nat.reduceBEq, Nat.reduceBNe, Int.reduceToNat, Int.reduceLT, Int.reduceLE, Int.reduceEq, Int.reduceNe, Int.reduceAdd, Int.reduceSub, Int.reduceMul, Int.reduceNeg, u41_0, lb41_0, hlt, hi', hw, hg, hp, hlm, Nat.zero_add, List.set_cons_zero, List.set_cons_succ, Int.natCast_nonneg, Int.toNat_natCast, Option.getD_some, Option.getD_none, List.drop_zero, Nat.sub_zero, Nat.zero_le, true_and, and_true, Nat.le_refl, chk_of]
    rw [loop_step1]; simp (maxSteps := 2000000) only [go_sem, doCall, doCallQ, doCallP, Nat.reduceAdd, Nat.reduceMul, Nat.reduceSub, Nat.reduceDiv, Nat.reduceMod, Nat.reduceLT, Nat.reduceLeDiff, Nat.reduceEqDiff, Nat.reduceBEq, Nat.reduceBNe, Int.reduceToNat, Int.reduceLT, Int.reduceLE, Int.reduceEq, Int.reduceNe, Int.reduceAdd, Int.reduceSub, Int.reduceMul, Int.reduceNeg]; exact ih
termination_by l.length - i
theorem t_bodies (l : List Pc) (hl : l.length ≤ 1000000) (hr : rises l) : call ir 41 [vPs l] [] = some (.mref 0, [.mp (l.map pcE)]) := by
  rw [call_eq (fn := ir41) rfl, evF_bnd]
  have hlm : (l.map pcRow).length = l.length := List.length_map ..
  simp (maxSteps := 2000000) (disch := omega) only [go_sem, doCall, doCallQ, doCallP, Nat.reduceAdd, Nat.reduceMul, Nat.reduceSub, Nat.reduceDiv, Nat.reduceMod, Nat.reduceLT, Nat.reduceLeDiff, Nat.reduceEqDiff, Nat.reduceBEq, Nat.reduceBNe, Int.reduceToNat, Int.reduceLT, Int.reduceLE, Int.reduceEq, Int.reduceNe, Int.reduceAdd, Int.reduceSub, Int.reduceMul, Int.reduceNeg, bd41, hlm, Int.natCast_nonneg, Int.toNat_natCast, Option.getD_some, Option.getD_none, List.drop_zero, Nat.sub_zero, Nat.zero_le, true_and, and_true, Nat.le_refl, chk_of]
  rw [loop_step1]; simp (maxSteps := 2000000) only [go_sem, doCall, doCallQ, doCallP, Nat.reduceAdd, Nat.reduceMul, Nat.reduceSub, Nat.reduceDiv, Nat.reduceMod, Nat.reduceLT, Nat.reduceLeDiff, Nat.reduceEqDiff, Nat.reduceBEq, Nat.reduceBNe, Int.reduceToNat, Int.reduceLT, Int.reduceLE, Int.reduceEq, Int.reduceNe, Int.reduceAdd, Int.reduceSub, Int.reduceMul, Int.reduceNeg]
  refine (lp_bod l hl hr _ 0 (Nat.zero_le _)).trans ?_
  simp (maxSteps := 2000000) (disch := omega) only [go_sem, doCall, doCallQ, doCallP, Nat.reduceAdd, Nat.reduceMul, Nat.reduceSub, Nat.reduceDiv, Nat.reduceMod, Nat.reduceLT, Nat.reduceLeDiff, Nat.reduceEqDiff, Nat.reduceBEq, Nat.reduceBNe, Int.reduceToNat, Int.reduceLT, Int.reduceLE, Int.reduceEq, Int.reduceNe, Int.reduceAdd, Int.reduceSub, Int.reduceMul, Int.reduceNeg]
theorem t_bod0 : call ir 41 [.d (.list 4 [])] [] = some (.mref 0, [.mp []]) := t_bodies [] (by simp) .nil
/-- Whether a place is a piece's. -/
def atP (i : Int) (l : List Pc) : Bool := l.any fun p => decide (p.ix = i)
theorem find_at (i : Int) : ∀ l : List Pc, (findM i (l.map pcE)).isSome = atP i l
  | [] => rfl
  | p :: l => by
    have ih := find_at i l
    unfold atP at *
    rw [List.map_cons, List.any_cons, ← ih]
    show (findM i ((p.ix, pcD p) :: l.map pcE)).isSome = _
    rw [findM]
    by_cases h : p.ix = i
    · rw [if_pos h, decide_eq_true h]; rfl
    · rw [if_neg h, decide_eq_false h]; rfl
def noI (i : Int) (p : Pc) : Bool := !decide (p.ix = i)
theorem del_at {i : Int} : ∀ {l : List Pc}, rises l → delM i (l.map pcE) = (l.filter (noI i)).map pcE
  | [], _ => rfl
  | p :: l, h => by
    have h2 := List.pairwise_cons.1 h
    show delM i ((p.ix, pcD p) :: l.map pcE) = _
    rw [delM]
    by_cases e : p.ix = i
    · rw [if_pos e, List.filter_cons, if_neg (by unfold noI; simp [e])]
      congr 1
      rw [List.filter_eq_self.2]
      intro q hq
      have := h2.1 q hq
      unfold noI
      simp; omega
    · rw [if_neg e, List.filter_cons, if_pos (by unfold noI; simp [e]), del_at h2.2]
      rfl
theorem t_chg_none (h : Hd) (o i : Int) : call ir 36 [vHd h, dT false, .agg [.d (.int .i64 o), .d (.bool false), .d (.bool false), .d (.int .i64 0), .d (.int .i64 0), .d (.str []), .d (.int .i64 0), .d (.int .i64 0), .d (.list 4 []), .d (.list 1 [[.int .i64 i]])]] [] = some (.tup [vHd h, dI 8], []) := by
  rw [call_eq (fn := ir36) rfl, evF_bnd]
  simp (maxSteps := 2000000) (disch := omega) only [go_sem, doCall, doCallQ, doCallP, Nat.reduceAdd, Nat.reduceMul, Nat.reduceSub, Nat.reduceDiv, Nat.reduceMod, Nat.reduceLT, Nat.reduceLeDiff, Nat.reduceEqDiff, Nat.reduceBEq, Nat.reduceBNe, Int.reduceToNat, Int.reduceLT, Int.reduceLE, Int.reduceEq, Int.reduceNe, Int.reduceAdd, Int.reduceSub, Int.reduceMul, Int.reduceNeg, bd36, Int.natCast_nonneg, Int.toNat_natCast, Option.getD_some, Option.getD_none, List.drop_zero, Nat.sub_zero, Nat.zero_le, true_and, and_true, Nat.le_refl, chk_of]
theorem t_chg_no (h : Hd) (hl : h.ps.length ≤ 1000000) (hr : rises h.ps) (o i : Int) (hf : findM i (h.ps.map pcE) = none) : call ir 36 [vHd h, dT true, .agg [.d (.int .i64 o), .d (.bool false), .d (.bool false), .d (.int .i64 0), .d (.int .i64 0), .d (.str []), .d (.int .i64 0), .d (.int .i64 0), .d (.list 4 []), .d (.list 1 [[.int .i64 i]])]] [] = some (.tup [vHd h, dI 8], []) := by
  rw [call_eq (fn := ir36) rfl, evF_bnd]
  have hb := t_bodies h.ps hl hr
  simp (maxSteps := 2000000) (disch := omega) only [go_sem, doCall, doCallQ, doCallP, Nat.reduceAdd, Nat.reduceMul, Nat.reduceSub, Nat.reduceDiv, Nat.reduceMod, Nat.reduceLT, Nat.reduceLeDiff, Nat.reduceEqDiff, Nat.reduceBEq, Nat.reduceBNe, Int.reduceToNat, Int.reduceLT, Int.reduceLE, Int.reduceEq, Int.reduceNe, Int.reduceAdd, Int.reduceSub, Int.reduceMul, Int.reduceNeg, bd36, hb, List.length_cons, List.length_nil, Int.natCast_nonneg, Int.toNat_natCast, Option.getD_some, Option.getD_none, List.drop_zero, Nat.sub_zero, Nat.zero_le, true_and, and_true, Nat.le_refl, chk_of]
  rw [loop_step1]
  simp (maxSteps := 2000000) (disch := omega) only [go_sem, doCall, doCallQ, doCallP, Nat.reduceAdd, Nat.reduceMul, Nat.reduceSub, Nat.reduceDiv, Nat.reduceMod, Nat.reduceLT, Nat.reduceLeDiff, Nat.reduceEqDiff, Nat.reduceBEq, Nat.reduceBNe, Int.reduceToNat, Int.reduceLT, Int.reduceLE, Int.reduceEq, Int.reduceNe, Int.reduceAdd, Int.reduceSub, Int.reduceMul, Int.reduceNeg, u36_0, lb36_0, hf, Option.isSome_none, Option.isSome_some, Bool.not_false, Bool.not_true, List.length_cons, List.length_nil, Nat.zero_add, List.getD_cons_zero, List.set_cons_zero, List.set_cons_succ, Int.natCast_nonneg, Int.toNat_natCast, Option.getD_some, Option.getD_none, List.drop_zero, Nat.sub_zero, Nat.zero_le, true_and, and_true, Nat.le_refl, chk_of]
end Go.Proofs.Ytbcpffhialoliaa
