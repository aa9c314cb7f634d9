/- Spans: spenceref04.Merge, the first loop. Own work. -/
import Derived.Test.YtjcnmaogegfkoaaSpnO
namespace Go.Proofs.Ytjcnmaogegfkoaa
open Go Go.Ev Go.Proofs.Ytjcnmaogegfkoaa.Ir
set_option maxRecDepth 100000
set_option maxHeartbeats 4000000
set_option linter.unusedSimpArgs false
set_option linter.unusedVariables false
/-- Where it goes. -/
def pos (O : List (Int × Int)) (f : Int) : Nat → Nat
  | 0 => 0
  | i + 1 => if (O.getD i (0, 0)).1 > f then pos O f i else i + 1
theorem pos_le (O : List (Int × Int)) (f : Int) : ∀ i, pos O f i ≤ i
  | 0 => Nat.le_refl _
  | i + 1 => by unfold pos; have := pos_le O f i; split <;> omega
def insP (O : List (Int × Int)) (s : Int × Int) : List (Int × Int) := O.take (pos O s.1 O.length) ++ s :: O.drop (pos O s.1 O.length)
theorem insP_len (O : List (Int × Int)) (s : Int × Int) : (insP O s).length = O.length + 1 := by
  have := pos_le O s.1 O.length
  simp [insP]; omega
theorem lp_pos (g : Int) (l O : List (Int × Int)) (hO : O.length ≤ 1000) (s : Int × Int) (j : Int) (k : Ex → St → Option (AV × Heap)) (i : Nat) (hi : i ≤ O.length) :
    bnd (evC (call ir) (loop ir) lp8_1 (st8_1 0 (.d (.int .i64 g)) (.own 0 2 0 O.length false) (.ptr 1 0) (.d (.int .i64 i)) (.d (.list 2 (l.map eP))) (.d (.int .i64 l.length)) (.d (.int .i64 j)) [.arr 2 (O.map eP), .dbox (eP s)])) (lpC (call ir) (loop ir) [1, 5, 7, 8, 14, 15, 16] lp8_1 k) =
      k (.exit 2) (clean [1, 5, 7, 8, 14, 15, 16] (st8_1 0 (.d (.int .i64 g)) (.own 0 2 0 O.length false) (.ptr 1 0) (.d (.int .i64 (pos O s.1 i))) (.d (.list 2 (l.map eP))) (.d (.int .i64 l.length)) (.d (.int .i64 j)) [.arr 2 (O.map eP), .dbox (eP s)])) := by
  have hol : (O.map eP).length = O.length := List.length_map ..
  cases i with
  | zero =>
    simp (maxSteps := 2000000) (disch := omega) only [go_sem, doCall, doCallQ, Nat.reduceAdd, Nat.reduceMul, Nat.reduceSub, Nat.reduceDiv, Nat.reduceMod, Nat.reduceLT, Nat.reduceLeDiff, Nat.reduceEqDiff, Nat.reduceBEq, Nat.reduceBNe, Int.reduceToNat, Int.reduceLT, Int.reduceLE, Int.reduceEq, Int.reduceNe, Int.reduceAdd, Int.reduceSub, Int.reduceMul, Int.reduceNeg, u8_1, lb8_1, Int.natCast_zero, chk_of, pos]
  | succ i =>
    have hi' : i < O.length := by omega
    have hz : (0 : Int) < ((i + 1 : Nat) : Int) := by omega
    have hp := wr_pred (i := i + 1) (by omega) (by omega)
    rw [Nat.add_sub_cancel] at hp
    have hg := get_eP O i hi'
    unfold pos
    rw [getD_of hi']
    by_cases hc : O[i].1 > s.1
    · have hc' : s.1 < O[i].1 := hc
      have ih := lp_pos g l O hO s j k i (by omega)
      rw [if_pos hc]
      simp (maxSteps := 2000000) (disch := omega) only [go_sem, doCall, doCallQ, Nat.reduceAdd, Nat.reduceMul, Nat.reduceSub, Nat.reduceDiv, Nat.reduceMod, Nat.reduceLT, Nat.reduceLeDiff, Nat.reduceEqDiff, Nat.reduceBEq, Nat.reduceBNe, Int.reduceToNat, Int.reduceLT, Int.reduceLE, Int.reduceEq, Int.reduceNe, Int.reduceAdd, Int.reduceSub, Int.reduceMul, Int.reduceNeg, u8_1, lb8_1, hz, hp, hg, hol, hc', Int.toNat_natCast, Nat.zero_add, chk_of]
      rw [loop_step1]
      simp (maxSteps := 2000000) only [go_sem, doCall, doCallQ, Nat.reduceAdd, Nat.reduceMul, Nat.reduceSub, Nat.reduceDiv, Nat.reduceMod, Nat.reduceLT, Nat.reduceLeDiff, Nat.reduceEqDiff, Nat.reduceBEq, Nat.reduceBNe, Int.reduceToNat, Int.reduceLT, Int.reduceLE, Int.reduceEq, Int.reduceNe, Int.reduceAdd, Int.reduceSub, Int.reduceMul, Int.reduceNeg]
      exact ih
    · have hc' : ¬ s.1 < O[i].1 := hc
      rw [if_neg hc]
      simp (maxSteps := 2000000) (disch := omega) only [go_sem, doCall, doCallQ, Nat.reduceAdd, Nat.reduceMul, Nat.reduceSub, Nat.reduceDiv, Nat.reduceMod, Nat.reduceLT, Nat.reduceLeDiff, Nat.reduceEqDiff, Nat.reduceBEq, Nat.reduceBNe, Int.reduceToNat, Int.reduceLT, Int.reduceLE, Int.reduceEq, Int.reduceNe, Int.reduceAdd, Int.reduceSub, Int.reduceMul, Int.reduceNeg, u8_1, lb8_1, hz, hp, hg, hol, hc', Int.toNat_natCast, Nat.zero_add, chk_of]
theorem lp_ins (g : Int) (l : List (Int × Int)) (hl : l.length ≤ 1000) (k : Ex → St → Option (AV × Heap)) (j : Nat) (hj : j ≤ l.length) (O : List (Int × Int)) (hO : O.length ≤ j) :
    bnd (evC (call ir) (loop ir) lp8_0 (st8_0 0 (.d (.int .i64 g)) (.own 0 2 0 O.length false) (.d (.list 2 (l.map eP))) (.d (.int .i64 l.length)) (.d (.int .i64 j)) [.arr 2 (O.map eP)])) (lpC (call ir) (loop ir) [1, 5, 14, 15, 16] lp8_0 k) =
      k (.exit 0) (clean [1, 5] (st8_0 0 (.d (.int .i64 g)) (.own 0 2 0 (((l.drop j).filter rp).foldl insP O).length false) .unk .unk .unk [.arr 2 ((((l.drop j).filter rp).foldl insP O).map eP)])) := by
  by_cases h : j = l.length
  · have hx : ¬ (j : Int) < l.length := by omega
    simp (maxSteps := 2000000) (disch := omega) only [go_sem, doCall, doCallQ, Nat.reduceAdd, Nat.reduceMul, Nat.reduceSub, Nat.reduceDiv, Nat.reduceMod, Nat.reduceLT, Nat.reduceLeDiff, Nat.reduceEqDiff, Nat.reduceBEq, Nat.reduceBNe, Int.reduceToNat, Int.reduceLT, Int.reduceLE, Int.reduceEq, Int.reduceNe, Int.reduceAdd, Int.reduceSub, Int.reduceMul, Int.reduceNeg, u8_0, lb8_0, hx]
    rw [h, List.drop_length]; rfl
  · have hlt : (j : Int) < l.length := by omega
    have hj' : j < l.length := by omega
    have hw := wr_succ (i := j) (by omega)
    rw [List.drop_eq_getElem_cons hj']
    by_cases hin : RP l[j].1 l[j].2
    · have hr := rp_t hin
      have ih := lp_ins g l hl k (j + 1) (by omega) (insP O l[j]) (by rw [insP_len]; omega)
      have hpl := pos_le O l[j].1 O.length
      have hI : insP O l[j] = O.take (pos O l[j].1 O.length) ++ l[j] :: O.drop (pos O l[j].1 O.length) := rfl
      have hL := insP_len O l[j]
      have hLP := fun k => lp_pos g l O (by omega) l[j] j k O.length (Nat.le_refl _)
      generalize pos O l[j].1 O.length = p at hpl hI hLP
      have hpz : (0 : Int) ≤ (p : Int) := Int.natCast_nonneg _
      have hadd : p + (O.length - p) = O.length := by omega
      have htk : ((O.map eP).drop p).take (O.length - p) = (O.drop p).map eP := by rw [List.map_drop, List.take_of_length_le (by simp)]
      have htk2 : (O.map eP).take p = (O.take p).map eP := by rw [List.map_take]
      have hdl : ((O.drop p).map eP).length = O.length - p := by simp
      have hol : (O.map eP).length = O.length := List.length_map ..
      rw [List.filter_cons, if_pos hr, List.foldl_cons]
      simp (maxSteps := 2000000) (disch := omega) only [go_sem, doCall, doCallQ, Nat.reduceAdd, Nat.reduceMul, Nat.reduceSub, Nat.reduceDiv, Nat.reduceMod, Nat.reduceLT, Nat.reduceLeDiff, Nat.reduceEqDiff, Nat.reduceBEq, Nat.reduceBNe, Int.reduceToNat, Int.reduceLT, Int.reduceLE, Int.reduceEq, Int.reduceNe, Int.reduceAdd, Int.reduceSub, Int.reduceMul, Int.reduceNeg, u8_0, lb8_0, hlt, get_eP, t_rright, hin, Int.toNat_natCast, Nat.zero_add, chk_of]
      rw [loop_step1]
      simp (maxSteps := 2000000) only [go_sem, doCall, doCallQ, Nat.reduceAdd, Nat.reduceMul, Nat.reduceSub, Nat.reduceDiv, Nat.reduceMod, Nat.reduceLT, Nat.reduceLeDiff, Nat.reduceEqDiff, Nat.reduceBEq, Nat.reduceBNe, Int.reduceToNat, Int.reduceLT, Int.reduceLE, Int.reduceEq, Int.reduceNe, Int.reduceAdd, Int.reduceSub, Int.reduceMul, Int.reduceNeg]
      refine Eq.trans (hLP _) ?_
      have htk3 : ∀ x : List D, (x :: (O.drop p).map eP).take (1 + (O.length - p)) = x :: (O.drop p).map eP := fun x => List.take_of_length_le (by simp; omega)
      have hz1 : (1 + (O.length - p)) * 16 ≤ 70368744177664 := by omega
      have hz2 : (p + (1 + (O.length - p))) * 16 ≤ 70368744177664 := by omega
      have hz3 : p + (1 + (O.length - p)) = O.length + 1 := by omega
      have hz4 : 0 < 1 + (O.length - p) := by omega
      have hz5 : (O.length - p) + 1 = 1 + (O.length - p) := by omega
      have hmp : (insP O l[j]).map eP = (O.take p).map eP ++ [D.int .i64 l[j].1, D.int .i64 l[j].2] :: (O.drop p).map eP := by rw [hI]; simp
      rw [hL, hmp] at ih
      by_cases hc : 0 < O.length - p
      · simp (maxSteps := 2000000) (disch := omega) only [go_sem, doCall, doCallQ, Nat.reduceAdd, Nat.reduceMul, Nat.reduceSub, Nat.reduceDiv, Nat.reduceMod, Nat.reduceLT, Nat.reduceLeDiff, Nat.reduceEqDiff, Nat.reduceBEq, Nat.reduceBNe, Int.reduceToNat, Int.reduceLT, Int.reduceLE, Int.reduceEq, Int.reduceNe, Int.reduceAdd, Int.reduceSub, Int.reduceMul, Int.reduceNeg, hpz, hpl, hol, hadd, htk, htk2, htk3, hdl, hz1, hz2, hz3, hz4, hz5, hc, Int.toNat_natCast, Nat.zero_add, Nat.sub_zero, beq_self_eq_true, List.length_cons, Nat.le_refl, chk_of]
        rw [loop_step1]
        simp (maxSteps := 2000000) only [go_sem, doCall, doCallQ, Nat.reduceAdd, Nat.reduceMul, Nat.reduceSub, Nat.reduceDiv, Nat.reduceMod, Nat.reduceLT, Nat.reduceLeDiff, Nat.reduceEqDiff, Nat.reduceBEq, Nat.reduceBNe, Int.reduceToNat, Int.reduceLT, Int.reduceLE, Int.reduceEq, Int.reduceNe, Int.reduceAdd, Int.reduceSub, Int.reduceMul, Int.reduceNeg, hw]
        exact ih
      · simp (maxSteps := 2000000) (disch := omega) only [go_sem, doCall, doCallQ, Nat.reduceAdd, Nat.reduceMul, Nat.reduceSub, Nat.reduceDiv, Nat.reduceMod, Nat.reduceLT, Nat.reduceLeDiff, Nat.reduceEqDiff, Nat.reduceBEq, Nat.reduceBNe, Int.reduceToNat, Int.reduceLT, Int.reduceLE, Int.reduceEq, Int.reduceNe, Int.reduceAdd, Int.reduceSub, Int.reduceMul, Int.reduceNeg, hpz, hpl, hol, hadd, htk, htk2, htk3, hdl, hz1, hz2, hz3, hz4, hz5, hc, Int.toNat_natCast, Nat.zero_add, Nat.sub_zero, beq_self_eq_true, List.length_cons, Nat.le_refl, chk_of]
        rw [loop_step1]
        simp (maxSteps := 2000000) only [go_sem, doCall, doCallQ, Nat.reduceAdd, Nat.reduceMul, Nat.reduceSub, Nat.reduceDiv, Nat.reduceMod, Nat.reduceLT, Nat.reduceLeDiff, Nat.reduceEqDiff, Nat.reduceBEq, Nat.reduceBNe, Int.reduceToNat, Int.reduceLT, Int.reduceLE, Int.reduceEq, Int.reduceNe, Int.reduceAdd, Int.reduceSub, Int.reduceMul, Int.reduceNeg, hw]
        exact ih
    · have hr := rp_f hin
      have ih := lp_ins g l hl k (j + 1) (by omega) O (by omega)
      rw [List.filter_cons, if_neg (by rw [hr]; simp)]
      simp (maxSteps := 2000000) (disch := omega) only [go_sem, doCall, doCallQ, Nat.reduceAdd, Nat.reduceMul, Nat.reduceSub, Nat.reduceDiv, Nat.reduceMod, Nat.reduceLT, Nat.reduceLeDiff, Nat.reduceEqDiff, Nat.reduceBEq, Nat.reduceBNe, Int.reduceToNat, Int.reduceLT, Int.reduceLE, Int.reduceEq, Int.reduceNe, Int.reduceAdd, Int.reduceSub, Int.reduceMul, Int.reduceNeg, u8_0, lb8_0, hlt, get_eP, t_rright, hin, Int.toNat_natCast, Nat.zero_add, chk_of]
      rw [loop_step1]
      simp (maxSteps := 2000000) only [go_sem, doCall, doCallQ, Nat.reduceAdd, Nat.reduceMul, Nat.reduceSub, Nat.reduceDiv, Nat.reduceMod, Nat.reduceLT, Nat.reduceLeDiff, Nat.reduceEqDiff, Nat.reduceBEq, Nat.reduceBNe, Int.reduceToNat, Int.reduceLT, Int.reduceLE, Int.reduceEq, Int.reduceNe, Int.reduceAdd, Int.reduceSub, Int.reduceMul, Int.reduceNeg, hw]
      exact ih
termination_by l.length - j
end Go.Proofs.Ytjcnmaogegfkoaa
