/- SpanTells: the law function. Own work. -/
import Derived.Test.YtefcgdcmhhgfgaaSpn
namespace Go.Proofs.Ytefcgdcmhhgfgaa
open Go Go.Ev Go.Proofs.Ytefcgdcmhhgfgaa.Ir
set_option maxRecDepth 100000
set_option maxHeartbeats 4000000
set_option linter.unusedSimpArgs false
set_option linter.unusedVariables false
theorem t_awake : call ir 18 [] [] = some (.d (.bool true), []) := call_of (n := 60) (by kernel_rfl)
theorem tot_take (l : List (Int × Int)) (i : Nat) (h : i < l.length) : tot (l.take (i + 1)) = tot (l.take i) + slen l[i].1 l[i].2 := by
  rw [List.take_succ_eq_append_getElem h]; simp only [tot, List.map_append, List.sum_append, List.map_cons, List.map_nil, List.sum_cons, List.sum_nil]; omega
theorem wru {n : Int} (h : 0 ≤ n ∧ n ≤ 9223372036854775807) : wr .u64 n = n := wr_u64 (by omega)
theorem lp_tells (l : List (Int × Int)) (hl : l.length ≤ 1000) (a b : Int × Int) (at' : D) (k : Ex → St → Option (AV × Heap)) (i : Nat) (hi : i ≤ l.length) :
    bnd (evC (call ir) (loop ir) lp6_0 (st6_0 0 (.d (.list 2 (l.map eP))) (.d at') (.ptr 0 0) (.ptr 1 0) (.d (.int .u64 (min 4611686018427387903 (tot (l.take i))))) (.d (.bool (apTo l i))) (.d (.list 2 (l.map eP))) (.d (.int .i64 l.length)) (.d (.int .i64 i)) [.dbox (eP a), .dbox (eP b)])) (lpC (call ir) (loop ir) [0, 3, 5, 6, 9, 10, 22, 23, 24] lp6_0 k) =
      k (.exit 0) (clean [0, 3, 5, 6, 9, 10] (st6_0 0 (.d (.list 2 (l.map eP))) (.d at') (.ptr 0 0) (.ptr 1 0) (.d (.int .u64 (min 4611686018427387903 (tot l)))) (.d (.bool (apTo l l.length))) (.d (.list 2 (l.map eP))) (.d (.int .i64 l.length)) (.d (.int .i64 i)) [.dbox (eP a), .dbox (eP b)])) := by
  by_cases h : i = l.length
  · have hx : ¬ (i : Int) < l.length := by omega
    simp (disch := omega) only [go_sem, doCall, doCallQ, Nat.reduceAdd, Nat.reduceMul, Nat.reduceSub, Nat.reduceDiv, Nat.reduceMod, Nat.reduceLT, Nat.reduceLeDiff, Nat.reduceEqDiff, Nat.reduceBEq, Nat.reduceBNe, Int.reduceToNat, Int.reduceLT, Int.reduceLE, Int.reduceEq, Int.reduceNe, Int.reduceAdd, Int.reduceSub, Int.reduceMul, Int.reduceNeg, u6_0, lb6_0, hx]
    rw [h, List.take_length]
  · have hlt : (i : Int) < l.length := by omega
    have hi' : i < l.length := by omega
    have hw := wr_succ (i := i) (by omega)
    have ih := lp_tells l hl a b at' k (i + 1) (by omega)
    have ht := tot_nn (l.take i)
    rw [tot_take l i hi', apTo_succ] at ih
    generalize tot (l.take i) = t at ih ht ⊢
    have hm : 0 ≤ min 4611686018427387903 t ∧ min 4611686018427387903 t ≤ 4611686018427387903 := by omega
    have hs := slen_nn l[i].1 l[i].2
    have hst : min 4611686018427387903 (t + slen l[i].1 l[i].2) = min 4611686018427387903 (min 4611686018427387903 t + slen l[i].1 l[i].2) := by omega
    rw [hst] at ih
    generalize min 4611686018427387903 t = m at ih hm ⊢
    have hp : i ≠ 0 → wr .i64 ((i : Int) - 1) = ((i - 1 : Nat) : Int) := fun h => wr_pred (by omega) (by omega)
    have hz : ((i : Int) = 0) = (i = 0) := by apply propext; omega
    have hpr : l.getD (i - 1) (0, 0) = l[i - 1]'(by omega) := getD_of (by omega)
    by_cases hr : RP l[i].1 l[i].2
    · have hsl : slen l[i].1 l[i].2 = l[i].2 - l[i].1 := if_pos hr
      rw [hsl] at ih hs
      have w1 : wr .i64 (l[i].2 - l[i].1) = l[i].2 - l[i].1 := wr_id (by omega)
      have w2 : wr .u64 (l[i].2 - l[i].1) = l[i].2 - l[i].1 := wru (by omega)
      have w3 : wr .u64 (m + (l[i].2 - l[i].1)) = m + (l[i].2 - l[i].1) := wru (by omega)
      have key : ∀ v : Int, v = min 4611686018427387903 (m + (l[i].2 - l[i].1)) → True := fun _ _ => trivial
      by_cases hc : 4611686018427387903 < m + (l[i].2 - l[i].1)
      · rw [show min 4611686018427387903 (m + (l[i].2 - l[i].1)) = 4611686018427387903 by omega] at ih
        cases hap : apTo l i
        · rw [hap, Bool.false_and] at ih
          simp (disch := omega) only [go_sem, doCall, doCallQ, Nat.reduceAdd, Nat.reduceMul, Nat.reduceSub, Nat.reduceDiv, Nat.reduceMod, Nat.reduceLT, Nat.reduceLeDiff, Nat.reduceEqDiff, Nat.reduceBEq, Nat.reduceBNe, Int.reduceToNat, Int.reduceLT, Int.reduceLE, Int.reduceEq, Int.reduceNe, Int.reduceAdd, Int.reduceSub, Int.reduceMul, Int.reduceNeg, u6_0, lb6_0, hlt, Int.toNat_natCast, get_eP, t_rright, hr, w1, w2, w3, hc, chk_of]; rw [loop_step1]; simp only [go_sem, doCall, doCallQ, Nat.reduceAdd, Nat.reduceMul, Nat.reduceSub, Nat.reduceDiv, Nat.reduceMod, Nat.reduceLT, Nat.reduceLeDiff, Nat.reduceEqDiff, Nat.reduceBEq, Nat.reduceBNe, Int.reduceToNat, Int.reduceLT, Int.reduceLE, Int.reduceEq, Int.reduceNe, Int.reduceAdd, Int.reduceSub, Int.reduceMul, Int.reduceNeg, hw]; exact ih
        · rw [hap, Bool.true_and] at ih
          by_cases h0 : i = 0
          · rw [decide_eq_true (show okA l i from ⟨by rw [getD_of hi']; exact hr, .inl h0⟩)] at ih
            have hzt : ((i : Int) = 0) = True := eq_true (by omega)
            simp (disch := omega) only [go_sem, doCall, doCallQ, Nat.reduceAdd, Nat.reduceMul, Nat.reduceSub, Nat.reduceDiv, Nat.reduceMod, Nat.reduceLT, Nat.reduceLeDiff, Nat.reduceEqDiff, Nat.reduceBEq, Nat.reduceBNe, Int.reduceToNat, Int.reduceLT, Int.reduceLE, Int.reduceEq, Int.reduceNe, Int.reduceAdd, Int.reduceSub, Int.reduceMul, Int.reduceNeg, u6_0, lb6_0, hlt, Int.toNat_natCast, get_eP, t_rright, hr, w1, w2, w3, hc, chk_of, hzt]; rw [loop_step1]; simp only [go_sem, doCall, doCallQ, Nat.reduceAdd, Nat.reduceMul, Nat.reduceSub, Nat.reduceDiv, Nat.reduceMod, Nat.reduceLT, Nat.reduceLeDiff, Nat.reduceEqDiff, Nat.reduceBEq, Nat.reduceBNe, Int.reduceToNat, Int.reduceLT, Int.reduceLE, Int.reduceEq, Int.reduceNe, Int.reduceAdd, Int.reduceSub, Int.reduceMul, Int.reduceNeg, hw]; exact ih
          · have e : decide (okA l i) = decide (l[i - 1].2 < l[i].1) := by
              apply decide_eq_decide.2; unfold okA; rw [getD_of hi', hpr]; exact ⟨fun h => h.2.resolve_left h0, fun h => ⟨hr, .inr h⟩⟩
            rw [e] at ih
            have hzf : ((i : Int) = 0) = False := eq_false (by omega)
            simp (disch := omega) only [go_sem, doCall, doCallQ, Nat.reduceAdd, Nat.reduceMul, Nat.reduceSub, Nat.reduceDiv, Nat.reduceMod, Nat.reduceLT, Nat.reduceLeDiff, Nat.reduceEqDiff, Nat.reduceBEq, Nat.reduceBNe, Int.reduceToNat, Int.reduceLT, Int.reduceLE, Int.reduceEq, Int.reduceNe, Int.reduceAdd, Int.reduceSub, Int.reduceMul, Int.reduceNeg, u6_0, lb6_0, hlt, Int.toNat_natCast, get_eP, t_rright, hr, w1, w2, w3, hc, chk_of, hzf, hp h0]; rw [loop_step1]; simp only [go_sem, doCall, doCallQ, Nat.reduceAdd, Nat.reduceMul, Nat.reduceSub, Nat.reduceDiv, Nat.reduceMod, Nat.reduceLT, Nat.reduceLeDiff, Nat.reduceEqDiff, Nat.reduceBEq, Nat.reduceBNe, Int.reduceToNat, Int.reduceLT, Int.reduceLE, Int.reduceEq, Int.reduceNe, Int.reduceAdd, Int.reduceSub, Int.reduceMul, Int.reduceNeg, hw]; exact ih
      · rw [show min 4611686018427387903 (m + (l[i].2 - l[i].1)) = m + (l[i].2 - l[i].1) by omega] at ih
        cases hap : apTo l i
        · rw [hap, Bool.false_and] at ih
          simp (disch := omega) only [go_sem, doCall, doCallQ, Nat.reduceAdd, Nat.reduceMul, Nat.reduceSub, Nat.reduceDiv, Nat.reduceMod, Nat.reduceLT, Nat.reduceLeDiff, Nat.reduceEqDiff, Nat.reduceBEq, Nat.reduceBNe, Int.reduceToNat, Int.reduceLT, Int.reduceLE, Int.reduceEq, Int.reduceNe, Int.reduceAdd, Int.reduceSub, Int.reduceMul, Int.reduceNeg, u6_0, lb6_0, hlt, Int.toNat_natCast, get_eP, t_rright, hr, w1, w2, w3, hc, chk_of]; rw [loop_step1]; simp only [go_sem, doCall, doCallQ, Nat.reduceAdd, Nat.reduceMul, Nat.reduceSub, Nat.reduceDiv, Nat.reduceMod, Nat.reduceLT, Nat.reduceLeDiff, Nat.reduceEqDiff, Nat.reduceBEq, Nat.reduceBNe, Int.reduceToNat, Int.reduceLT, Int.reduceLE, Int.reduceEq, Int.reduceNe, Int.reduceAdd, Int.reduceSub, Int.reduceMul, Int.reduceNeg, hw]; exact ih
        · rw [hap, Bool.true_and] at ih
          by_cases h0 : i = 0
          · rw [decide_eq_true (show okA l i from ⟨by rw [getD_of hi']; exact hr, .inl h0⟩)] at ih
            have hzt : ((i : Int) = 0) = True := eq_true (by omega)
            simp (disch := omega) only [go_sem, doCall, doCallQ, Nat.reduceAdd, Nat.reduceMul, Nat.reduceSub, Nat.reduceDiv, Nat.reduceMod, Nat.reduceLT, Nat.reduceLeDiff, Nat.reduceEqDiff, Nat.reduceBEq, Nat.reduceBNe, Int.reduceToNat, Int.reduceLT, Int.reduceLE, Int.reduceEq, Int.reduceNe, Int.reduceAdd, Int.reduceSub, Int.reduceMul, Int.reduceNeg, u6_0, lb6_0, hlt, Int.toNat_natCast, get_eP, t_rright, hr, w1, w2, w3, hc, chk_of, hzt]; rw [loop_step1]; simp only [go_sem, doCall, doCallQ, Nat.reduceAdd, Nat.reduceMul, Nat.reduceSub, Nat.reduceDiv, Nat.reduceMod, Nat.reduceLT, Nat.reduceLeDiff, Nat.reduceEqDiff, Nat.reduceBEq, Nat.reduceBNe, Int.reduceToNat, Int.reduceLT, Int.reduceLE, Int.reduceEq, Int.reduceNe, Int.reduceAdd, Int.reduceSub, Int.reduceMul, Int.reduceNeg, hw]; exact ih
          · have e : decide (okA l i) = decide (l[i - 1].2 < l[i].1) := by
              apply decide_eq_decide.2; unfold okA; rw [getD_of hi', hpr]; exact ⟨fun h => h.2.resolve_left h0, fun h => ⟨hr, .inr h⟩⟩
            rw [e] at ih
            have hzf : ((i : Int) = 0) = False := eq_false (by omega)
            simp (disch := omega) only [go_sem, doCall, doCallQ, Nat.reduceAdd, Nat.reduceMul, Nat.reduceSub, Nat.reduceDiv, Nat.reduceMod, Nat.reduceLT, Nat.reduceLeDiff, Nat.reduceEqDiff, Nat.reduceBEq, Nat.reduceBNe, Int.reduceToNat, Int.reduceLT, Int.reduceLE, Int.reduceEq, Int.reduceNe, Int.reduceAdd, Int.reduceSub, Int.reduceMul, Int.reduceNeg, u6_0, lb6_0, hlt, Int.toNat_natCast, get_eP, t_rright, hr, w1, w2, w3, hc, chk_of, hzf, hp h0]; rw [loop_step1]; simp only [go_sem, doCall, doCallQ, Nat.reduceAdd, Nat.reduceMul, Nat.reduceSub, Nat.reduceDiv, Nat.reduceMod, Nat.reduceLT, Nat.reduceLeDiff, Nat.reduceEqDiff, Nat.reduceBEq, Nat.reduceBNe, Int.reduceToNat, Int.reduceLT, Int.reduceLE, Int.reduceEq, Int.reduceNe, Int.reduceAdd, Int.reduceSub, Int.reduceMul, Int.reduceNeg, hw]; exact ih
    · have hsl : slen l[i].1 l[i].2 = 0 := if_neg hr
      have hc : ¬ 4611686018427387903 < m := by omega
      have w1 : True := trivial
      have w2 : True := trivial
      have w3 : True := trivial
      rw [hsl, Int.add_zero, show min 4611686018427387903 m = m by omega, decide_eq_false (show ¬ okA l i from fun h => hr (by have := h.1; rwa [getD_of hi'] at this)), Bool.and_false] at ih
      cases hap : apTo l i
      · simp (disch := omega) only [go_sem, doCall, doCallQ, Nat.reduceAdd, Nat.reduceMul, Nat.reduceSub, Nat.reduceDiv, Nat.reduceMod, Nat.reduceLT, Nat.reduceLeDiff, Nat.reduceEqDiff, Nat.reduceBEq, Nat.reduceBNe, Int.reduceToNat, Int.reduceLT, Int.reduceLE, Int.reduceEq, Int.reduceNe, Int.reduceAdd, Int.reduceSub, Int.reduceMul, Int.reduceNeg, u6_0, lb6_0, hlt, Int.toNat_natCast, get_eP, t_rright, hr, w1, w2, w3, hc, chk_of]; rw [loop_step1]; simp only [go_sem, doCall, doCallQ, Nat.reduceAdd, Nat.reduceMul, Nat.reduceSub, Nat.reduceDiv, Nat.reduceMod, Nat.reduceLT, Nat.reduceLeDiff, Nat.reduceEqDiff, Nat.reduceBEq, Nat.reduceBNe, Int.reduceToNat, Int.reduceLT, Int.reduceLE, Int.reduceEq, Int.reduceNe, Int.reduceAdd, Int.reduceSub, Int.reduceMul, Int.reduceNeg, hw]; exact ih
      · simp (disch := omega) only [go_sem, doCall, doCallQ, Nat.reduceAdd, Nat.reduceMul, Nat.reduceSub, Nat.reduceDiv, Nat.reduceMod, Nat.reduceLT, Nat.reduceLeDiff, Nat.reduceEqDiff, Nat.reduceBEq, Nat.reduceBNe, Int.reduceToNat, Int.reduceLT, Int.reduceLE, Int.reduceEq, Int.reduceNe, Int.reduceAdd, Int.reduceSub, Int.reduceMul, Int.reduceNeg, u6_0, lb6_0, hlt, Int.toNat_natCast, get_eP, t_rright, hr, w1, w2, w3, hc, chk_of]; rw [loop_step1]; simp only [go_sem, doCall, doCallQ, Nat.reduceAdd, Nat.reduceMul, Nat.reduceSub, Nat.reduceDiv, Nat.reduceMod, Nat.reduceLT, Nat.reduceLeDiff, Nat.reduceEqDiff, Nat.reduceBEq, Nat.reduceBNe, Int.reduceToNat, Int.reduceLT, Int.reduceLE, Int.reduceEq, Int.reduceNe, Int.reduceAdd, Int.reduceSub, Int.reduceMul, Int.reduceNeg, hw]; exact ih
termination_by l.length - i

theorem t_SpanTells (l : List (Int × Int)) (hb : l.length ≤ 9223372036854775807) (a b : Int × Int) (at' : Int) : call ir 6 [.d (.list 2 (l.map eP)), vP a, vP b, .d (.int .i64 at')] [] = some (.d (.bool true), []) := by
  rw [call_eq (fn := ir6) rfl, evF_bnd]
  simp (disch := omega) only [go_sem, doCall, doCallQ, Nat.reduceAdd, Nat.reduceMul, Nat.reduceSub, Nat.reduceDiv, Nat.reduceMod, Nat.reduceLT, Nat.reduceLeDiff, Nat.reduceEqDiff, Nat.reduceBEq, Nat.reduceBNe, Int.reduceToNat, Int.reduceLT, Int.reduceLE, Int.reduceEq, Int.reduceNe, Int.reduceAdd, Int.reduceSub, Int.reduceMul, Int.reduceNeg, bd6, t_awake]
  apply two_cases
  · intro h; simp (disch := omega) only [go_sem, doCall, doCallQ, Nat.reduceAdd, Nat.reduceMul, Nat.reduceSub, Nat.reduceDiv, Nat.reduceMod, Nat.reduceLT, Nat.reduceLeDiff, Nat.reduceEqDiff, Nat.reduceBEq, Nat.reduceBNe, Int.reduceToNat, Int.reduceLT, Int.reduceLE, Int.reduceEq, Int.reduceNe, Int.reduceAdd, Int.reduceSub, Int.reduceMul, Int.reduceNeg, h]
  · intro h
    simp (disch := omega) only [go_sem, doCall, doCallQ, Nat.reduceAdd, Nat.reduceMul, Nat.reduceSub, Nat.reduceDiv, Nat.reduceMod, Nat.reduceLT, Nat.reduceLeDiff, Nat.reduceEqDiff, Nat.reduceBEq, Nat.reduceBNe, Int.reduceToNat, Int.reduceLT, Int.reduceLE, Int.reduceEq, Int.reduceNe, Int.reduceAdd, Int.reduceSub, Int.reduceMul, Int.reduceNeg, h]
    rw [loop_step1]
    simp only [go_sem, doCall, doCallQ, Nat.reduceAdd, Nat.reduceMul, Nat.reduceSub, Nat.reduceDiv, Nat.reduceMod, Nat.reduceLT, Nat.reduceLeDiff, Nat.reduceEqDiff, Nat.reduceBEq, Nat.reduceBNe, Int.reduceToNat, Int.reduceLT, Int.reduceLE, Int.reduceEq, Int.reduceNe, Int.reduceAdd, Int.reduceSub, Int.reduceMul, Int.reduceNeg]
    have hl : l.length ≤ 1000 := by omega
    have e0 : min 4611686018427387903 (tot (l.take 0)) = 0 := by simp only [List.take_zero, tot, List.map_nil, List.sum_nil]; omega
    have := fun k => lp_tells l hl a b (.int .i64 at') k 0 (by omega)
    simp only [e0] at this
    refine Eq.trans (this _) ?_
    have hm : 0 ≤ min 4611686018427387903 (tot l) ∧ min 4611686018427387903 (tot l) ≤ 4611686018427387903 := by have := tot_nn l; omega
    have wm : wr .u64 (min 4611686018427387903 (tot l)) = min 4611686018427387903 (tot l) := wru (by omega)
    have hmt : (0 < (meet a b).2) = (meets a b) := by
      apply propext; unfold meet meets
      split
      · rename_i hh; exact ⟨fun _ => hh, fun _ => by have := hh.2.2; unfold RP at this; simp only; omega⟩
      · rename_i hh; exact ⟨fun h => absurd h (by simp), fun h => absurd h hh⟩
    by_cases hr : RP a.1 a.2
    · have hsl : slen a.1 a.2 = a.2 - a.1 := if_pos hr
      have w1 : wr .i64 (a.2 - a.1) = a.2 - a.1 := by unfold RP at hr; exact wr_id (by omega)
      simp (disch := omega) only [go_sem, doCall, doCallQ, Nat.reduceAdd, Nat.reduceMul, Nat.reduceSub, Nat.reduceDiv, Nat.reduceMod, Nat.reduceLT, Nat.reduceLeDiff, Nat.reduceEqDiff, Nat.reduceBEq, Nat.reduceBNe, Int.reduceToNat, Int.reduceLT, Int.reduceLE, Int.reduceEq, Int.reduceNe, Int.reduceAdd, Int.reduceSub, Int.reduceMul, Int.reduceNeg, t_rright, hr, t_meet, t_rmeet, t_right, t_len, hsl, w1, t_total l hl, wm, t_has l hl, t_rhas l hl, t_apart l hl, hmt, beq_self_eq_true]
    · have hsl : slen a.1 a.2 = 0 := if_neg hr
      simp (disch := omega) only [go_sem, doCall, doCallQ, Nat.reduceAdd, Nat.reduceMul, Nat.reduceSub, Nat.reduceDiv, Nat.reduceMod, Nat.reduceLT, Nat.reduceLeDiff, Nat.reduceEqDiff, Nat.reduceBEq, Nat.reduceBNe, Int.reduceToNat, Int.reduceLT, Int.reduceLE, Int.reduceEq, Int.reduceNe, Int.reduceAdd, Int.reduceSub, Int.reduceMul, Int.reduceNeg, t_rright, hr, t_meet, t_rmeet, t_right, t_len, hsl, t_total l hl, wm, t_has l hl, t_rhas l hl, t_apart l hl, hmt, beq_self_eq_true]
end Go.Proofs.Ytefcgdcmhhgfgaa
