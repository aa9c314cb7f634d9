/- AdmitDoes: the law function. Own work. -/
import Derived.Test.YtefcgdcmhhgfgaaAdm
namespace Go.Proofs.Ytefcgdcmhhgfgaa
open Go Go.Ev Go.Proofs.Ytefcgdcmhhgfgaa.Ir
set_option maxRecDepth 100000
set_option maxHeartbeats 4000000
set_option linter.unusedSimpArgs false
set_option linter.unusedVariables false
theorem lp_halve (g : Nat → Int) (s1 s2 s3 s11 s23 s24 s25 : D) (z : List D) (k : Ex → St → Option (AV × Heap)) (i : Nat) (hi : i ≤ 16) :
    bnd (evC (call ir) (loop ir) lp3_1 (st3_1 0 (.d s1) (.d s2) (.d s3) (.ptr 0 0) (.ptr 1 0) (.d s11) (.d s23) (.d s24) (.d s25) (.d (.int .i64 i)) [.dbox z, .dbox (iarr 16 (halve g i))])) (lpC (call ir) (loop ir) [1, 2, 3, 9, 10, 11, 23, 24, 25, 48] lp3_1 k) =
      k (.exit 2) (clean [1, 2, 3, 9, 10, 11, 23, 24, 25] (st3_1 0 (.d s1) (.d s2) (.d s3) (.ptr 0 0) (.ptr 1 0) (.d s11) (.d s23) (.d s24) (.d s25) (.d (.int .i64 i)) [.dbox z, .dbox (iarr 16 (halve g 16))])) := by
  by_cases h : i = 16
  · have hx : ¬ (i : Int) < 16 := by omega
    simp (disch := omega) only [go_sem, doCall, doCallQ, Nat.reduceAdd, Nat.reduceMul, Nat.reduceSub, Nat.reduceDiv, Nat.reduceMod, Nat.reduceLT, Nat.reduceLeDiff, Nat.reduceEqDiff, Nat.reduceBEq, Nat.reduceBNe, Int.reduceToNat, Int.reduceLT, Int.reduceLE, Int.reduceEq, Int.reduceNe, Int.reduceAdd, Int.reduceSub, Int.reduceMul, Int.reduceNeg, u3_1, lb3_1, hx]
    rw [h]
  · have hlt : (i : Int) < 16 := by omega
    have hw := wr_succ (i := i) (by omega)
    simp (disch := omega) only [go_sem, doCall, doCallQ, Nat.reduceAdd, Nat.reduceMul, Nat.reduceSub, Nat.reduceDiv, Nat.reduceMod, Nat.reduceLT, Nat.reduceLeDiff, Nat.reduceEqDiff, Nat.reduceBEq, Nat.reduceBNe, Int.reduceToNat, Int.reduceLT, Int.reduceLE, Int.reduceEq, Int.reduceNe, Int.reduceAdd, Int.reduceSub, Int.reduceMul, Int.reduceNeg, u3_1, lb3_1, hlt, arr_len, Nat.mul_one, Nat.zero_add, Nat.add_zero, Int.toNat_natCast, arr_getD, arr_put, upd_int, halve_step, chk_of]
    rw [loop_step1]
    simp only [go_sem, doCall, doCallQ, Nat.reduceAdd, Nat.reduceMul, Nat.reduceSub, Nat.reduceDiv, Nat.reduceMod, Nat.reduceLT, Nat.reduceLeDiff, Nat.reduceEqDiff, Nat.reduceBEq, Nat.reduceBNe, Int.reduceToNat, Int.reduceLT, Int.reduceLE, Int.reduceEq, Int.reduceNe, Int.reduceAdd, Int.reduceSub, Int.reduceMul, Int.reduceNeg, hw]
    have := lp_halve g s1 s2 s3 s11 s23 s24 s25 z k (i + 1) (by omega)
    simp only [go_sem, doCall, doCallQ, Nat.reduceAdd, Nat.reduceMul, Nat.reduceSub, Nat.reduceDiv, Nat.reduceMod, Nat.reduceLT, Nat.reduceLeDiff, Nat.reduceEqDiff, Nat.reduceBEq, Nat.reduceBNe, Int.reduceToNat, Int.reduceLT, Int.reduceLE, Int.reduceEq, Int.reduceNe, Int.reduceAdd, Int.reduceSub, Int.reduceMul, Int.reduceNeg] at this
    exact this
termination_by 16 - i
theorem arr16 (g : Nat → Int) (v : Int) : iarr 16 (upd g 16 v) = iarr 16 g := arr_ext fun i hi => by simp only [upd, if_neg (show ¬ i = 16 by omega)]
theorem arr16s (g : Nat → Int) (x : Int) : (arr 16 fun j => D.int .i64 (upd g x.toNat (wr .i64 (g x.toNat + 1)) j)) = iarr 16 (seen1 g x) := (arr16 _ _).symm
theorem lp_does (l : List Int) (hl : l.length ≤ 1000) (s1 s2 s3 : D) (k : Ex → St → Option (AV × Heap)) (i : Nat) (hi : i ≤ l.length) :
    bnd (evC (call ir) (loop ir) lp3_0 (st3_0 0 (.d s1) (.d s2) (.d s3) (.ptr 0 0) (.ptr 1 0) (.d (.int .i64 (notes (l.take i) 16))) (.d (.list 1 (l.map eI))) (.d (.int .i64 l.length)) (.d (.int .i64 i)) [.dbox (iarr 17 (notes (l.take i))), .dbox (iarr 16 (notes (l.take i)))])) (lpC (call ir) (loop ir) [1, 2, 3, 9, 10, 11, 23, 24, 25] lp3_0 k) =
      k (.exit 0) (clean [1, 2, 3, 9, 10, 11] (st3_0 0 (.d s1) (.d s2) (.d s3) (.ptr 0 0) (.ptr 1 0) (.d (.int .i64 (notes l 16))) (.d (.list 1 (l.map eI))) (.d (.int .i64 l.length)) (.d (.int .i64 i)) [.dbox (iarr 17 (notes l)), .dbox (iarr 16 (notes l))])) := by
  by_cases h : i = l.length
  · have hx : ¬ (i : Int) < l.length := by omega
    simp (disch := omega) only [go_sem, doCall, doCallQ, Nat.reduceAdd, Nat.reduceMul, Nat.reduceSub, Nat.reduceDiv, Nat.reduceMod, Nat.reduceLT, Nat.reduceLeDiff, Nat.reduceEqDiff, Nat.reduceBEq, Nat.reduceBNe, Int.reduceToNat, Int.reduceLT, Int.reduceLE, Int.reduceEq, Int.reduceNe, Int.reduceAdd, Int.reduceSub, Int.reduceMul, Int.reduceNeg, u3_0, lb3_0, hx]
    rw [h, List.take_length]
  · have hlt : (i : Int) < l.length := by omega
    have hi' : i < l.length := by omega
    have hw := wr_succ (i := i) (by omega)
    have ih := lp_does l hl s1 s2 s3 k (i + 1) (by omega)
    have hs := notes_succ l i hi'
    generalize hq : notes (l.take (i + 1)) = q at hs ih
    generalize notes (l.take i) = g at hs ⊢
    simp (disch := omega) only [go_sem, doCall, doCallQ, Nat.reduceAdd, Nat.reduceMul, Nat.reduceSub, Nat.reduceDiv, Nat.reduceMod, Nat.reduceLT, Nat.reduceLeDiff, Nat.reduceEqDiff, Nat.reduceBEq, Nat.reduceBNe, Int.reduceToNat, Int.reduceLT, Int.reduceLE, Int.reduceEq, Int.reduceNe, Int.reduceAdd, Int.reduceSub, Int.reduceMul, Int.reduceNeg, u3_0, lb3_0, hlt, arr_len, arr_take, arr_drop, Int.toNat_natCast, get_eI, t_note, ← hs, chk_of]
    have hn : l[i] < 0 → q = g := fun hx => by rw [hs, note, if_neg (by omega)]
    have hn2 : 15 < l[i] → q = g := fun hx => by rw [hs, note, if_neg (by omega)]
    apply two_cases
    · intro he
      simp only [go_sem, doCall, doCallQ, Nat.reduceAdd, Nat.reduceMul, Nat.reduceSub, Nat.reduceDiv, Nat.reduceMod, Nat.reduceLT, Nat.reduceLeDiff, Nat.reduceEqDiff, Nat.reduceBEq, Nat.reduceBNe, Int.reduceToNat, Int.reduceLT, Int.reduceLE, Int.reduceEq, Int.reduceNe, Int.reduceAdd, Int.reduceSub, Int.reduceMul, Int.reduceNeg, he]
      rw [loop_step1]
      simp only [go_sem, doCall, doCallQ, Nat.reduceAdd, Nat.reduceMul, Nat.reduceSub, Nat.reduceDiv, Nat.reduceMod, Nat.reduceLT, Nat.reduceLeDiff, Nat.reduceEqDiff, Nat.reduceBEq, Nat.reduceBNe, Int.reduceToNat, Int.reduceLT, Int.reduceLE, Int.reduceEq, Int.reduceNe, Int.reduceAdd, Int.reduceSub, Int.reduceMul, Int.reduceNeg, hw]
      rw [hn he] at ih ⊢
      exact ih
    · intro he
      simp only [go_sem, doCall, doCallQ, Nat.reduceAdd, Nat.reduceMul, Nat.reduceSub, Nat.reduceDiv, Nat.reduceMod, Nat.reduceLT, Nat.reduceLeDiff, Nat.reduceEqDiff, Nat.reduceBEq, Nat.reduceBNe, Int.reduceToNat, Int.reduceLT, Int.reduceLE, Int.reduceEq, Int.reduceNe, Int.reduceAdd, Int.reduceSub, Int.reduceMul, Int.reduceNeg, he]
      apply two_cases
      · intro he2
        simp only [go_sem, doCall, doCallQ, Nat.reduceAdd, Nat.reduceMul, Nat.reduceSub, Nat.reduceDiv, Nat.reduceMod, Nat.reduceLT, Nat.reduceLeDiff, Nat.reduceEqDiff, Nat.reduceBEq, Nat.reduceBNe, Int.reduceToNat, Int.reduceLT, Int.reduceLE, Int.reduceEq, Int.reduceNe, Int.reduceAdd, Int.reduceSub, Int.reduceMul, Int.reduceNeg, he2]
        rw [loop_step1]
        simp only [go_sem, doCall, doCallQ, Nat.reduceAdd, Nat.reduceMul, Nat.reduceSub, Nat.reduceDiv, Nat.reduceMod, Nat.reduceLT, Nat.reduceLeDiff, Nat.reduceEqDiff, Nat.reduceBEq, Nat.reduceBNe, Int.reduceToNat, Int.reduceLT, Int.reduceLE, Int.reduceEq, Int.reduceNe, Int.reduceAdd, Int.reduceSub, Int.reduceMul, Int.reduceNeg, hw]
        rw [hn2 he2] at ih ⊢
        exact ih
      · intro he2
        have hc : ¬¬(0 ≤ l[i] ∧ l[i] < 16) := by omega
        have h16 : wr .i64 (g 16 + 1) = seen1 g l[i] 16 := by simp only [seen1, upd, if_true]
        simp (disch := omega) only [go_sem, doCall, doCallQ, Nat.reduceAdd, Nat.reduceMul, Nat.reduceSub, Nat.reduceDiv, Nat.reduceMod, Nat.reduceLT, Nat.reduceLeDiff, Nat.reduceEqDiff, Nat.reduceBEq, Nat.reduceBNe, Int.reduceToNat, Int.reduceLT, Int.reduceLE, Int.reduceEq, Int.reduceNe, Int.reduceAdd, Int.reduceSub, Int.reduceMul, Int.reduceNeg, he2, arr_len, arr_getD, Nat.mul_one, Nat.zero_add, Nat.add_zero, arr_put, upd_int, chk_of]
        apply two_cases
        · intro h32
          have e : q = halve (seen1 g l[i]) 16 := by rw [hs, note, if_pos (by omega), if_pos (by rw [← h16]; exact h32)]
          simp only [go_sem, doCall, doCallQ, Nat.reduceAdd, Nat.reduceMul, Nat.reduceSub, Nat.reduceDiv, Nat.reduceMod, Nat.reduceLT, Nat.reduceLeDiff, Nat.reduceEqDiff, Nat.reduceBEq, Nat.reduceBNe, Int.reduceToNat, Int.reduceLT, Int.reduceLE, Int.reduceEq, Int.reduceNe, Int.reduceAdd, Int.reduceSub, Int.reduceMul, Int.reduceNeg, h32]
          rw [loop_step1]
          have := lp_halve (seen1 g l[i]) s1 s2 s3 (.int .i64 (seen1 g l[i] 16)) (.list 1 (l.map eI)) (.int .i64 l.length) (.int .i64 i) (iarr 17 q)
          simp only [go_sem, doCall, doCallQ, Nat.reduceAdd, Nat.reduceMul, Nat.reduceSub, Nat.reduceDiv, Nat.reduceMod, Nat.reduceLT, Nat.reduceLeDiff, Nat.reduceEqDiff, Nat.reduceBEq, Nat.reduceBNe, Int.reduceToNat, Int.reduceLT, Int.reduceLE, Int.reduceEq, Int.reduceNe, Int.reduceAdd, Int.reduceSub, Int.reduceMul, Int.reduceNeg] at this
          simp only [go_sem, doCall, doCallQ, Nat.reduceAdd, Nat.reduceMul, Nat.reduceSub, Nat.reduceDiv, Nat.reduceMod, Nat.reduceLT, Nat.reduceLeDiff, Nat.reduceEqDiff, Nat.reduceBEq, Nat.reduceBNe, Int.reduceToNat, Int.reduceLT, Int.reduceLE, Int.reduceEq, Int.reduceNe, Int.reduceAdd, Int.reduceSub, Int.reduceMul, Int.reduceNeg]
          rw [arr16s, h16]
          have e0 : iarr 16 (seen1 g l[i]) = iarr 16 (halve (seen1 g l[i]) 0) := by rw [halve_zero]
          rw [e0]
          refine Eq.trans (this _ 0 (by omega)) ?_
          simp only [go_sem, doCall, doCallQ, Nat.reduceAdd, Nat.reduceMul, Nat.reduceSub, Nat.reduceDiv, Nat.reduceMod, Nat.reduceLT, Nat.reduceLeDiff, Nat.reduceEqDiff, Nat.reduceBEq, Nat.reduceBNe, Int.reduceToNat, Int.reduceLT, Int.reduceLE, Int.reduceEq, Int.reduceNe, Int.reduceAdd, Int.reduceSub, Int.reduceMul, Int.reduceNeg]
          rw [loop_step1]
          simp only [go_sem, doCall, doCallQ, Nat.reduceAdd, Nat.reduceMul, Nat.reduceSub, Nat.reduceDiv, Nat.reduceMod, Nat.reduceLT, Nat.reduceLeDiff, Nat.reduceEqDiff, Nat.reduceBEq, Nat.reduceBNe, Int.reduceToNat, Int.reduceLT, Int.reduceLE, Int.reduceEq, Int.reduceNe, Int.reduceAdd, Int.reduceSub, Int.reduceMul, Int.reduceNeg, hw]
          have e16 : q 16 = seen1 g l[i] 16 := by rw [e]; simp only [halve, Nat.lt_irrefl, if_false]
          rw [← e16, ← e]
          exact ih
        · intro h32
          have e : q = seen1 g l[i] := by rw [hs, note, if_pos (by omega), if_neg (by rw [← h16]; exact h32)]
          simp only [go_sem, doCall, doCallQ, Nat.reduceAdd, Nat.reduceMul, Nat.reduceSub, Nat.reduceDiv, Nat.reduceMod, Nat.reduceLT, Nat.reduceLeDiff, Nat.reduceEqDiff, Nat.reduceBEq, Nat.reduceBNe, Int.reduceToNat, Int.reduceLT, Int.reduceLE, Int.reduceEq, Int.reduceNe, Int.reduceAdd, Int.reduceSub, Int.reduceMul, Int.reduceNeg, h32]
          rw [loop_step1]
          simp only [go_sem, doCall, doCallQ, Nat.reduceAdd, Nat.reduceMul, Nat.reduceSub, Nat.reduceDiv, Nat.reduceMod, Nat.reduceLT, Nat.reduceLeDiff, Nat.reduceEqDiff, Nat.reduceBEq, Nat.reduceBNe, Int.reduceToNat, Int.reduceLT, Int.reduceLE, Int.reduceEq, Int.reduceNe, Int.reduceAdd, Int.reduceSub, Int.reduceMul, Int.reduceNeg, hw]
          rw [arr16s, h16, ← e]
          exact ih
termination_by l.length - i
theorem lp_same (g : Nat → Int) (s1 s2 s3 s11 : D) (k : Ex → St → Option (AV × Heap)) (i : Nat) (hi : i ≤ 16) :
    bnd (evC (call ir) (loop ir) lp3_2 (st3_2 0 (.d s1) (.d s2) (.d s3) (.ptr 0 0) (.ptr 1 0) (.d s11) (.d (.int .i64 i)) [.dbox (iarr 17 g), .dbox (iarr 16 g)])) (lpC (call ir) (loop ir) [1, 2, 3, 9, 10, 11, 59] lp3_2 k) =
      k (.exit 4) (clean [1, 2, 3, 9, 10, 11] (st3_2 0 (.d s1) (.d s2) (.d s3) (.ptr 0 0) (.ptr 1 0) (.d s11) (.d (.int .i64 i)) [.dbox (iarr 17 g), .dbox (iarr 16 g)])) := by
  by_cases h : i = 16
  · have hx : ¬ (i : Int) < 16 := by omega
    simp (disch := omega) only [go_sem, doCall, doCallQ, Nat.reduceAdd, Nat.reduceMul, Nat.reduceSub, Nat.reduceDiv, Nat.reduceMod, Nat.reduceLT, Nat.reduceLeDiff, Nat.reduceEqDiff, Nat.reduceBEq, Nat.reduceBNe, Int.reduceToNat, Int.reduceLT, Int.reduceLE, Int.reduceEq, Int.reduceNe, Int.reduceAdd, Int.reduceSub, Int.reduceMul, Int.reduceNeg, u3_2, lb3_2, hx]
  · have hlt : (i : Int) < 16 := by omega
    have hw := wr_succ (i := i) (by omega)
    have hs : seen g i = g i := by rw [seen, if_pos (by omega), Int.toNat_natCast]
    simp (disch := omega) only [go_sem, doCall, doCallQ, Nat.reduceAdd, Nat.reduceMul, Nat.reduceSub, Nat.reduceDiv, Nat.reduceMod, Nat.reduceLT, Nat.reduceLeDiff, Nat.reduceEqDiff, Nat.reduceBEq, Nat.reduceBNe, Int.reduceToNat, Int.reduceLT, Int.reduceLE, Int.reduceEq, Int.reduceNe, Int.reduceAdd, Int.reduceSub, Int.reduceMul, Int.reduceNeg, u3_2, lb3_2, hlt, arr_len, arr_take, arr_drop, Nat.mul_one, Nat.zero_add, Nat.add_zero, Int.toNat_natCast, arr_getD, arr_put, upd_int, t_seen, hs, chk_of]
    rw [loop_step1]
    simp only [go_sem, doCall, doCallQ, Nat.reduceAdd, Nat.reduceMul, Nat.reduceSub, Nat.reduceDiv, Nat.reduceMod, Nat.reduceLT, Nat.reduceLeDiff, Nat.reduceEqDiff, Nat.reduceBEq, Nat.reduceBNe, Int.reduceToNat, Int.reduceLT, Int.reduceLE, Int.reduceEq, Int.reduceNe, Int.reduceAdd, Int.reduceSub, Int.reduceMul, Int.reduceNeg, hw]
    have := lp_same g s1 s2 s3 s11 k (i + 1) (by omega)
    simp only [go_sem, doCall, doCallQ, Nat.reduceAdd, Nat.reduceMul, Nat.reduceSub, Nat.reduceDiv, Nat.reduceMod, Nat.reduceLT, Nat.reduceLeDiff, Nat.reduceEqDiff, Nat.reduceBEq, Nat.reduceBNe, Int.reduceToNat, Int.reduceLT, Int.reduceLE, Int.reduceEq, Int.reduceNe, Int.reduceAdd, Int.reduceSub, Int.reduceMul, Int.reduceNeg] at this
    exact this
termination_by 16 - i
theorem t_AdmitDoes (l : List Int) (hb : l.length ≤ 9223372036854775807) (o n m : Int) : call ir 3 [.d (.list 1 (l.map eI)), .d (.int .i64 o), .d (.int .i64 n), .d (.int .i64 m)] [] = some (.d (.bool true), []) := by
  rw [call_eq (fn := ir3) rfl, evF_bnd]
  simp (disch := omega) only [go_sem, doCall, doCallQ, Nat.reduceAdd, Nat.reduceMul, Nat.reduceSub, Nat.reduceDiv, Nat.reduceMod, Nat.reduceLT, Nat.reduceLeDiff, Nat.reduceEqDiff, Nat.reduceBEq, Nat.reduceBNe, Int.reduceToNat, Int.reduceLT, Int.reduceLE, Int.reduceEq, Int.reduceNe, Int.reduceAdd, Int.reduceSub, Int.reduceMul, Int.reduceNeg, bd3, t_awake]
  apply two_cases
  · intro h; simp (disch := omega) only [go_sem, doCall, doCallQ, Nat.reduceAdd, Nat.reduceMul, Nat.reduceSub, Nat.reduceDiv, Nat.reduceMod, Nat.reduceLT, Nat.reduceLeDiff, Nat.reduceEqDiff, Nat.reduceBEq, Nat.reduceBNe, Int.reduceToNat, Int.reduceLT, Int.reduceLE, Int.reduceEq, Int.reduceNe, Int.reduceAdd, Int.reduceSub, Int.reduceMul, Int.reduceNeg, h]
  · intro h
    simp (disch := omega) only [go_sem, doCall, doCallQ, Nat.reduceAdd, Nat.reduceMul, Nat.reduceSub, Nat.reduceDiv, Nat.reduceMod, Nat.reduceLT, Nat.reduceLeDiff, Nat.reduceEqDiff, Nat.reduceBEq, Nat.reduceBNe, Int.reduceToNat, Int.reduceLT, Int.reduceLE, Int.reduceEq, Int.reduceNe, Int.reduceAdd, Int.reduceSub, Int.reduceMul, Int.reduceNeg, h, t_new, arr_take, arr_len, arr_drop, chk_of]
    rw [loop_step1]
    simp only [go_sem, doCall, doCallQ, Nat.reduceAdd, Nat.reduceMul, Nat.reduceSub, Nat.reduceDiv, Nat.reduceMod, Nat.reduceLT, Nat.reduceLeDiff, Nat.reduceEqDiff, Nat.reduceBEq, Nat.reduceBNe, Int.reduceToNat, Int.reduceLT, Int.reduceLE, Int.reduceEq, Int.reduceNe, Int.reduceAdd, Int.reduceSub, Int.reduceMul, Int.reduceNeg]
    have hl : l.length ≤ 1000 := by omega
    have hz : ([D.int .i64 0, D.int .i64 0, D.int .i64 0, D.int .i64 0, D.int .i64 0, D.int .i64 0, D.int .i64 0, D.int .i64 0, D.int .i64 0, D.int .i64 0, D.int .i64 0, D.int .i64 0, D.int .i64 0, D.int .i64 0, D.int .i64 0, D.int .i64 0] : List D) = iarr 16 fun _ => 0 := rfl
    rw [hz]
    refine Eq.trans (lp_does l hl _ _ _ _ 0 (by omega)) ?_
    generalize notes l = g
    simp only [go_sem, doCall, doCallQ, Nat.reduceAdd, Nat.reduceMul, Nat.reduceSub, Nat.reduceDiv, Nat.reduceMod, Nat.reduceLT, Nat.reduceLeDiff, Nat.reduceEqDiff, Nat.reduceBEq, Nat.reduceBNe, Int.reduceToNat, Int.reduceLT, Int.reduceLE, Int.reduceEq, Int.reduceNe, Int.reduceAdd, Int.reduceSub, Int.reduceMul, Int.reduceNeg]
    rw [loop_step1]
    simp only [go_sem, doCall, doCallQ, Nat.reduceAdd, Nat.reduceMul, Nat.reduceSub, Nat.reduceDiv, Nat.reduceMod, Nat.reduceLT, Nat.reduceLeDiff, Nat.reduceEqDiff, Nat.reduceBEq, Nat.reduceBNe, Int.reduceToNat, Int.reduceLT, Int.reduceLE, Int.reduceEq, Int.reduceNe, Int.reduceAdd, Int.reduceSub, Int.reduceMul, Int.reduceNeg]
    refine Eq.trans (lp_same g _ _ _ _ _ 0 (by omega)) ?_
    simp (disch := omega) only [go_sem, doCall, doCallQ, Nat.reduceAdd, Nat.reduceMul, Nat.reduceSub, Nat.reduceDiv, Nat.reduceMod, Nat.reduceLT, Nat.reduceLeDiff, Nat.reduceEqDiff, Nat.reduceBEq, Nat.reduceBNe, Int.reduceToNat, Int.reduceLT, Int.reduceLE, Int.reduceEq, Int.reduceNe, Int.reduceAdd, Int.reduceSub, Int.reduceMul, Int.reduceNeg]
    have hs1 : 0 ≤ o ∧ o < 16 → seen g o = g o.toNat := fun h => if_pos h
    have hs2 : ¬ (0 ≤ o ∧ o < 16) → seen g o = 0 := fun h => if_neg h
    repeat' (apply two_cases <;> intro q <;> simp (disch := omega) only [go_sem, doCall, doCallQ, Nat.reduceAdd, Nat.reduceMul, Nat.reduceSub, Nat.reduceDiv, Nat.reduceMod, Nat.reduceLT, Nat.reduceLeDiff, Nat.reduceEqDiff, Nat.reduceBEq, Nat.reduceBNe, Int.reduceToNat, Int.reduceLT, Int.reduceLE, Int.reduceEq, Int.reduceNe, Int.reduceAdd, Int.reduceSub, Int.reduceMul, Int.reduceNeg, t_admit, arr_take, arr_len, arr_drop, arr_getD, Nat.mul_one, Nat.zero_add, Nat.add_zero, t_note, t_count, t_seen, chk_of, q])
    all_goals first | (simp; done) | (exfalso; have := hs1 (by omega); contradiction) | (exfalso; have := hs2 (by omega); omega) | (exfalso; omega) | trace_state
end Go.Proofs.Ytefcgdcmhhgfgaa
