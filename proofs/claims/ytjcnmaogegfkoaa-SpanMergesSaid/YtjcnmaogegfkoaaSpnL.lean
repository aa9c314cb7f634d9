/- SpanMerges: the law function. Own work. -/
import Derived.Test.YtjcnmaogegfkoaaSpnT
namespace Go.Proofs.Ytjcnmaogegfkoaa
open Go Go.Ev Go.Proofs.Ytjcnmaogegfkoaa.Ir
set_option maxRecDepth 100000
set_option maxHeartbeats 4000000
set_option linter.unusedSimpArgs false
set_option linter.unusedVariables false
theorem t_awakeM : call ir 4 [] [] = some (.d (.bool true), []) := call_of (n := 60) (by kernel_rfl)
theorem lp_same (M : List (Int × Int)) (hM : M.length ≤ 1000) (k : Ex → St → Option (AV × Heap)) (i : Nat) (hi : i ≤ M.length) :
    bnd (evC (call ir) (loop ir) lp7_0 (st7_0 0 (.d (.list 2 (M.map eP))) (.d (.list 2 (M.map eP))) (.d (.int .i64 M.length)) (.d (.int .i64 i)) [])) (lpC (call ir) (loop ir) [0, 1, 12, 13] lp7_0 k) =
      k (.exit 0) (clean [] (st7_0 0 .unk .unk .unk .unk [])) := by
  by_cases h : i = M.length
  · have hx : ¬ (i : Int) < M.length := by omega
    simp (maxSteps := 2000000) (disch := omega) only [go_sem, doCall, doCallQ, Nat.reduceAdd, Nat.reduceMul, Nat.reduceSub, Nat.reduceDiv, Nat.reduceMod, Nat.reduceLT, Nat.reduceLeDiff, Nat.reduceEqDiff, Nat.reduceBEq, Nat.reduceBNe, Int.reduceToNat, Int.reduceLT, Int.reduceLE, Int.reduceEq, Int.reduceNe, Int.reduceAdd, Int.reduceSub, Int.reduceMul, Int.reduceNeg, u7_0, lb7_0, hx]
  · have hlt : (i : Int) < M.length := by omega
    have hi' : i < M.length := by omega
    have hw := wr_succ (i := i) (by omega)
    have ih := lp_same M hM k (i + 1) (by omega)
    simp (maxSteps := 2000000) (disch := omega) only [go_sem, doCall, doCallQ, Nat.reduceAdd, Nat.reduceMul, Nat.reduceSub, Nat.reduceDiv, Nat.reduceMod, Nat.reduceLT, Nat.reduceLeDiff, Nat.reduceEqDiff, Nat.reduceBEq, Nat.reduceBNe, Int.reduceToNat, Int.reduceLT, Int.reduceLE, Int.reduceEq, Int.reduceNe, Int.reduceAdd, Int.reduceSub, Int.reduceMul, Int.reduceNeg, u7_0, lb7_0, hlt, Int.toNat_natCast, get_eP, chk_of, decide_true, beq_self_eq_true, Bool.not_true, Bool.and_self]
    rw [loop_step1]; simp (maxSteps := 2000000) only [go_sem, doCall, doCallQ, Nat.reduceAdd, Nat.reduceMul, Nat.reduceSub, Nat.reduceDiv, Nat.reduceMod, Nat.reduceLT, Nat.reduceLeDiff, Nat.reduceEqDiff, Nat.reduceBEq, Nat.reduceBNe, Int.reduceToNat, Int.reduceLT, Int.reduceLE, Int.reduceEq, Int.reduceNe, Int.reduceAdd, Int.reduceSub, Int.reduceMul, Int.reduceNeg, hw]; exact ih
termination_by M.length - i
theorem t_spans (M : List (Int × Int)) (hM : M.length ≤ 1000) : call ir 7 [.d (.list 2 (M.map eP)), .d (.list 2 (M.map eP))] [] = some (.d (.bool true), []) := by
  rw [call_eq (fn := ir7) rfl, evF_bnd]
  simp (maxSteps := 2000000) (disch := omega) only [go_sem, doCall, doCallQ, Nat.reduceAdd, Nat.reduceMul, Nat.reduceSub, Nat.reduceDiv, Nat.reduceMod, Nat.reduceLT, Nat.reduceLeDiff, Nat.reduceEqDiff, Nat.reduceBEq, Nat.reduceBNe, Int.reduceToNat, Int.reduceLT, Int.reduceLE, Int.reduceEq, Int.reduceNe, Int.reduceAdd, Int.reduceSub, Int.reduceMul, Int.reduceNeg, bd7]
  rw [loop_step1]
  simp (maxSteps := 2000000) only [go_sem, doCall, doCallQ, Nat.reduceAdd, Nat.reduceMul, Nat.reduceSub, Nat.reduceDiv, Nat.reduceMod, Nat.reduceLT, Nat.reduceLeDiff, Nat.reduceEqDiff, Nat.reduceBEq, Nat.reduceBNe, Int.reduceToNat, Int.reduceLT, Int.reduceLE, Int.reduceEq, Int.reduceNe, Int.reduceAdd, Int.reduceSub, Int.reduceMul, Int.reduceNeg]
  refine Eq.trans (lp_same M hM _ 0 (by omega)) ?_
  simp (maxSteps := 2000000) only [go_sem, doCall, doCallQ, Nat.reduceAdd, Nat.reduceMul, Nat.reduceSub, Nat.reduceDiv, Nat.reduceMod, Nat.reduceLT, Nat.reduceLeDiff, Nat.reduceEqDiff, Nat.reduceBEq, Nat.reduceBNe, Int.reduceToNat, Int.reduceLT, Int.reduceLE, Int.reduceEq, Int.reduceNe, Int.reduceAdd, Int.reduceSub, Int.reduceMul, Int.reduceNeg]
theorem lp_cut (s : Int × Int) (C : List (Int × Int)) (hC : AP C) (hl : C.length ≤ 1000) (at' w inn : AV) (ht : at'.refs = [] ∧ w.refs = [] ∧ inn.refs = []) (k : Ex → St → Option (AV × Heap)) (i : Nat) (hi : i ≤ C.length) (A W I : D) (hA : at' = .d A ∧ w = .d W ∧ inn = .d I) :
    bnd (evC (call ir) (loop ir) lp3_0 (st3_0 0 (.d A) (.ptr 0 0) (.d (.list 2 (C.map eP))) (.d W) (.d I) (.d (.list 2 (C.map eP))) (.d (.int .i64 C.length)) (.d (.int .i64 i)) [.dbox (eP s)])) (lpC (call ir) (loop ir) [3, 6, 10, 11, 12, 49, 50, 51] lp3_0 k) =
      k (.exit 0) (clean [3, 6, 10, 11, 12] (st3_0 0 (.d A) (.ptr 0 0) (.d (.list 2 (C.map eP))) (.d W) (.d I) .unk .unk .unk [.dbox (eP s)])) := by
  by_cases h : i = C.length
  · have hx : ¬ (i : Int) < C.length := by omega
    simp (maxSteps := 2000000) (disch := omega) only [go_sem, doCall, doCallQ, Nat.reduceAdd, Nat.reduceMul, Nat.reduceSub, Nat.reduceDiv, Nat.reduceMod, Nat.reduceLT, Nat.reduceLeDiff, Nat.reduceEqDiff, Nat.reduceBEq, Nat.reduceBNe, Int.reduceToNat, Int.reduceLT, Int.reduceLE, Int.reduceEq, Int.reduceNe, Int.reduceAdd, Int.reduceSub, Int.reduceMul, Int.reduceNeg, u3_0, lb3_0, hx]
  · have hlt : (i : Int) < C.length := by omega
    have hi' : i < C.length := by omega
    have hw := wr_succ (i := i) (by omega)
    have ih := lp_cut s C hC hl at' w inn ht k (i + 1) (by omega) A W I hA
    have hok := ap_okA hC hi'
    have hr := hok.1
    rw [getD_of hi'] at hr
    by_cases h0 : i = 0
    · have hz : ¬ (0 : Int) < i := by omega
      simp (maxSteps := 2000000) (disch := omega) only [go_sem, doCall, doCallQ, Nat.reduceAdd, Nat.reduceMul, Nat.reduceSub, Nat.reduceDiv, Nat.reduceMod, Nat.reduceLT, Nat.reduceLeDiff, Nat.reduceEqDiff, Nat.reduceBEq, Nat.reduceBNe, Int.reduceToNat, Int.reduceLT, Int.reduceLE, Int.reduceEq, Int.reduceNe, Int.reduceAdd, Int.reduceSub, Int.reduceMul, Int.reduceNeg, u3_0, lb3_0, hlt, Int.toNat_natCast, get_eP, t_rright, hr, hz, chk_of]
      rw [loop_step1]; simp (maxSteps := 2000000) only [go_sem, doCall, doCallQ, Nat.reduceAdd, Nat.reduceMul, Nat.reduceSub, Nat.reduceDiv, Nat.reduceMod, Nat.reduceLT, Nat.reduceLeDiff, Nat.reduceEqDiff, Nat.reduceBEq, Nat.reduceBNe, Int.reduceToNat, Int.reduceLT, Int.reduceLE, Int.reduceEq, Int.reduceNe, Int.reduceAdd, Int.reduceSub, Int.reduceMul, Int.reduceNeg, hw]; exact ih
    · have hz : (0 : Int) < i := by omega
      have hp := wr_pred (i := i) (by omega) (by omega)
      have h2 := hok.2
      rw [getD_of hi', getD_of (show i - 1 < C.length by omega)] at h2
      have h3 : ¬ C[i].1 ≤ C[i - 1].2 := by omega
      simp (maxSteps := 2000000) (disch := omega) only [go_sem, doCall, doCallQ, Nat.reduceAdd, Nat.reduceMul, Nat.reduceSub, Nat.reduceDiv, Nat.reduceMod, Nat.reduceLT, Nat.reduceLeDiff, Nat.reduceEqDiff, Nat.reduceBEq, Nat.reduceBNe, Int.reduceToNat, Int.reduceLT, Int.reduceLE, Int.reduceEq, Int.reduceNe, Int.reduceAdd, Int.reduceSub, Int.reduceMul, Int.reduceNeg, u3_0, lb3_0, hlt, Int.toNat_natCast, get_eP, t_rright, hr, hz, hp, h3, chk_of]
      rw [loop_step1]; simp (maxSteps := 2000000) only [go_sem, doCall, doCallQ, Nat.reduceAdd, Nat.reduceMul, Nat.reduceSub, Nat.reduceDiv, Nat.reduceMod, Nat.reduceLT, Nat.reduceLeDiff, Nat.reduceEqDiff, Nat.reduceBEq, Nat.reduceBNe, Int.reduceToNat, Int.reduceLT, Int.reduceLE, Int.reduceEq, Int.reduceNe, Int.reduceAdd, Int.reduceSub, Int.reduceMul, Int.reduceNeg, hw]; exact ih
termination_by C.length - i
theorem view_own (X : List (Int × Int)) : (X.map eP).take X.length = X.map eP := List.take_of_length_le (by simp)
theorem t_SpanMerges (l : List (Int × Int)) (hb : l.length ≤ 9223372036854775807) (gap : Int) (s : Int × Int) (at' : Int) : call ir 3 [.d (.list 2 (l.map eP)), .d (.int .i64 gap), vP s, .d (.int .i64 at')] [] = some (.d (.bool true), []) := by
  rw [call_eq (fn := ir3) rfl, evF_bnd]
  simp (maxSteps := 2000000) (disch := omega) only [go_sem, doCall, doCallQ, Nat.reduceAdd, Nat.reduceMul, Nat.reduceSub, Nat.reduceDiv, Nat.reduceMod, Nat.reduceLT, Nat.reduceLeDiff, Nat.reduceEqDiff, Nat.reduceBEq, Nat.reduceBNe, Int.reduceToNat, Int.reduceLT, Int.reduceLE, Int.reduceEq, Int.reduceNe, Int.reduceAdd, Int.reduceSub, Int.reduceMul, Int.reduceNeg, bd3, t_awakeM]
  apply two_cases
  · intro h; simp (maxSteps := 2000000) (disch := omega) only [go_sem, doCall, doCallQ, Nat.reduceAdd, Nat.reduceMul, Nat.reduceSub, Nat.reduceDiv, Nat.reduceMod, Nat.reduceLT, Nat.reduceLeDiff, Nat.reduceEqDiff, Nat.reduceBEq, Nat.reduceBNe, Int.reduceToNat, Int.reduceLT, Int.reduceLE, Int.reduceEq, Int.reduceNe, Int.reduceAdd, Int.reduceSub, Int.reduceMul, Int.reduceNeg, h]
  · intro h
    have hl : l.length ≤ 30 := by omega
    have hm := t_merge l (by omega) gap
    have hrm := c_rmerge l (by omega) gap
    have hw := t_merge l (by omega) 0
    have hww := t_merge (mrg 0 l) (by have := mrg_len 0 l; omega) 0
    have hmi := t_minus l (by omega) s
    obtain ⟨a1, a2⟩ := mrg_all l
    obtain ⟨b1, b2⟩ := minus_all l s
    rw [show max (0 : Int) 0 = 0 from rfl] at hw hww
    rw [mrg_idem] at hww
    have hl1 := mrg_len (max gap 0) l
    have hl2 := mrg_len 0 l
    have hl3 := minus_len l s
    have hap := t_apart (mrg 0 l) (by omega)
    rw [ap_apTo a1] at hap
    have hh1 := t_has (mrg 0 l) (by omega) at'
    have hh2 := t_has (minusL l s) (by omega) at'
    have hh3 := t_rhas l (by omega) at'
    have hh4 := t_rhas [s] (by simp) at'
    rw [a2 at'] at hh1
    rw [b2 at'] at hh2
    rw [hasb_one] at hh4
    simp only [List.map_cons, List.map_nil] at hh4
    have hs1 := t_spans (mrg (max gap 0) l) (by omega)
    have hs2 := t_spans (mrg 0 l) (by omega)
    have v1 := view_own (mrg (max gap 0) l)
    have v2 := view_own (mrg 0 l)
    have v3 := view_own (minusL l s)
    have m1 : ((mrg (max gap 0) l).map eP).length = (mrg (max gap 0) l).length := List.length_map ..
    have m2 : ((mrg 0 l).map eP).length = (mrg 0 l).length := List.length_map ..
    have m3 : ((minusL l s).map eP).length = (minusL l s).length := List.length_map ..
    simp (maxSteps := 2000000) (disch := omega) only [go_sem, doCall, doCallQ, Nat.reduceAdd, Nat.reduceMul, Nat.reduceSub, Nat.reduceDiv, Nat.reduceMod, Nat.reduceLT, Nat.reduceLeDiff, Nat.reduceEqDiff, Nat.reduceBEq, Nat.reduceBNe, Int.reduceToNat, Int.reduceLT, Int.reduceLE, Int.reduceEq, Int.reduceNe, Int.reduceAdd, Int.reduceSub, Int.reduceMul, Int.reduceNeg, h, hm, hrm, hw, hww, hmi, hap, hs1, hs2, hh3, v1, v2, v3, m1, m2, m3, Nat.zero_add, Nat.le_refl, chk_of]
    rw [loop_step1]
    simp (maxSteps := 2000000) only [go_sem, doCall, doCallQ, Nat.reduceAdd, Nat.reduceMul, Nat.reduceSub, Nat.reduceDiv, Nat.reduceMod, Nat.reduceLT, Nat.reduceLeDiff, Nat.reduceEqDiff, Nat.reduceBEq, Nat.reduceBNe, Int.reduceToNat, Int.reduceLT, Int.reduceLE, Int.reduceEq, Int.reduceNe, Int.reduceAdd, Int.reduceSub, Int.reduceMul, Int.reduceNeg]
    refine Eq.trans (lp_cut s (minusL l s) b1 (by omega) _ _ _ ⟨rfl, rfl, rfl⟩ _ 0 (by omega) _ _ _ ⟨rfl, rfl, rfl⟩) ?_
    simp (maxSteps := 2000000) (disch := omega) only [go_sem, doCall, doCallQ, Nat.reduceAdd, Nat.reduceMul, Nat.reduceSub, Nat.reduceDiv, Nat.reduceMod, Nat.reduceLT, Nat.reduceLeDiff, Nat.reduceEqDiff, Nat.reduceBEq, Nat.reduceBNe, Int.reduceToNat, Int.reduceLT, Int.reduceLE, Int.reduceEq, Int.reduceNe, Int.reduceAdd, Int.reduceSub, Int.reduceMul, Int.reduceNeg, hh1, hh2, hh4, beq_self_eq_true]
    generalize hasb l at' = B
    cases B
    · simp (maxSteps := 2000000) (disch := omega) only [go_sem, doCall, doCallQ, Nat.reduceAdd, Nat.reduceMul, Nat.reduceSub, Nat.reduceDiv, Nat.reduceMod, Nat.reduceLT, Nat.reduceLeDiff, Nat.reduceEqDiff, Nat.reduceBEq, Nat.reduceBNe, Int.reduceToNat, Int.reduceLT, Int.reduceLE, Int.reduceEq, Int.reduceNe, Int.reduceAdd, Int.reduceSub, Int.reduceMul, Int.reduceNeg, hh4, beq_self_eq_true, Bool.false_and]
    · simp (maxSteps := 2000000) (disch := omega) only [go_sem, doCall, doCallQ, Nat.reduceAdd, Nat.reduceMul, Nat.reduceSub, Nat.reduceDiv, Nat.reduceMod, Nat.reduceLT, Nat.reduceLeDiff, Nat.reduceEqDiff, Nat.reduceBEq, Nat.reduceBNe, Int.reduceToNat, Int.reduceLT, Int.reduceLE, Int.reduceEq, Int.reduceNe, Int.reduceAdd, Int.reduceSub, Int.reduceMul, Int.reduceNeg, hh4, beq_self_eq_true, Bool.true_and]
end Go.Proofs.Ytjcnmaogegfkoaa
