/- One object that is not bound in the document's index. Own work. -/
import Derived.Test.YtoipfdbdifoecaaGreatDoorLik2
namespace Go.Proofs.YtoipfdbdifoecaaGreatDoor
open Go Go.Ev Go.Proofs.YtoipfdbdifoecaaGreatDoor.Ir
set_option maxRecDepth 100000
set_option maxHeartbeats 8000000
set_option linter.unusedSimpArgs false
set_option linter.unusedVariables false
theorem lk_f_pos (x y : Nat → Sl) (hx : okXM x) (hy : okXM y) (k : Nat) (hk : k < 16) (V : Bool) (hb : (y k).b = false) (c0 :  (y k).fl < (y k).g) (hO : objL x k = objL y k)
    (ih : objL x (k + 1) = objL y (k + 1) → bnd (evC (call ir) (loop ir) lp8_0 (st8_0 1 (.ptr 0 0) (.ptr 1 0) (.own 2 1 0 (objL y (k + 1)).length false) (.d (.int .i64 ((k + 1) : Nat))) [.dbox (idxR y), .dbox (idxC x), .arr 1 (iRows (objL y (k + 1)))])) (lpC (call ir) (loop ir) [1, 2, 5, 6] lp8_0 (bk 0 (sq (call ir) (loop ir) (.seq (.reg [⟨some 176, none, .ld (.s 2) 192 true, .none⟩, ⟨some 177, none, .call 30 [.s 176] 2, .none⟩, ⟨some 178, none, .mv (.s 5), .none⟩, ⟨some 179, none, .call 27 [.s 177, .s 178] 0, .none⟩, ⟨some 4, none, .mv (.s 179), .none⟩]) (.ret none)) (fin ir8)))) = some (.d (.bool V), [.dbox (idxR y)])) :
    bnd (evC (call ir) (loop ir) lp8_0 (st8_0 1 (.ptr 0 0) (.ptr 1 0) (.own 2 1 0 (objL y k).length false) (.d (.int .i64 (k : Nat))) [.dbox (idxR y), .dbox (idxC x), .arr 1 (iRows (objL y k))])) (lpC (call ir) (loop ir) [1, 2, 5, 6] lp8_0 (bk 0 (sq (call ir) (loop ir) (.seq (.reg [⟨some 176, none, .ld (.s 2) 192 true, .none⟩, ⟨some 177, none, .call 30 [.s 176] 2, .none⟩, ⟨some 178, none, .mv (.s 5), .none⟩, ⟨some 179, none, .call 27 [.s 177, .s 178] 0, .none⟩, ⟨some 4, none, .mv (.s 179), .none⟩]) (.ret none)) (fin ir8)))) = some (.d (.bool (slEq (x k) (y k) && V)), [.dbox (idxR y)]) := by
  have h1 := eq_true (show (k : Int) ≤ 16 by omega)
  have hl := iRows_len (objL y k)
  have hle := objL_le y k
  have t0 : List.take (objL y k).length (iRows (objL y k)) = iRows (objL y k) := List.take_of_length_le (by omega)
  have cut : ∀ b, slEq (x k) (y k) = b → (slEq (x k) (y k) && V) = (b && V) := fun b h => by rw [h]
  have e1 := eq_true (show (0 : Int) ≤ k by omega)
  have e2 := eq_true (show (k : Int) < 16 by omega)
  have hg := get_idr y k hk
  have sx := slF_in x hk
  have sy := slF_in y hk
  have hw := wr_succ (i := k) (by omega)
  have e0 := eq_true c0
  simp (maxSteps := 2000000) (disch := omega) only [go_sem, doCall, doCallQ, Nat.reduceAdd, Nat.reduceMul, Nat.reduceSub, Nat.reduceDiv, Nat.reduceMod, Nat.reduceLT, Nat.reduceLeDiff, Nat.reduceEqDiff, Nat.reduceBEq, Nat.reduceBNe, Int.reduceToNat, Int.reduceLT, Int.reduceLE, Int.reduceEq, Int.reduceNe, Int.reduceAdd, Int.reduceSub, Int.reduceMul, Int.reduceNeg, u8_0, lb8_0, h1, e1, e2, hg, Sl.rs, hb, e0, hl, t0, Nat.le_refl, List.drop_zero, c_iget, c_where, c_tomb, sx, idxC_len, idxD_len, cs_len, av_len, map_cs, map_idx, idxC_take, idxC_drop, plain_av, plain_idx, box_idx, refs_av, owns_av, view_av, ren_av, refs_idx, owns_idx, view_idx, ren_idx, idxR_len, rs_len, Int.toNat_natCast, Nat.zero_add, chk_of]
  cases c1 : (x k).b
  case true =>
    rw [cut false (by simp [slEq, hb, c1])]
    simp (maxSteps := 2000000) only [go_sem, doCall, doCallQ, Nat.reduceAdd, Nat.reduceMul, Nat.reduceSub, Nat.reduceDiv, Nat.reduceMod, Nat.reduceLT, Nat.reduceLeDiff, Nat.reduceEqDiff, Nat.reduceBEq, Nat.reduceBNe, Int.reduceToNat, Int.reduceLT, Int.reduceLE, Int.reduceEq, Int.reduceNe, Int.reduceAdd, Int.reduceSub, Int.reduceMul, Int.reduceNeg, c1]
  cases c2 : ((x k).o == (y k).o && ((x k).g == (y k).g && ((x k).tag == (y k).tag && ((x k).len == (y k).len && (x k).tick == (y k).tick))))
  · rw [cut false (by simp only [slEq, c2, Bool.false_and, Bool.and_false])]
    simp (maxSteps := 2000000) only [go_sem, doCall, doCallQ, Nat.reduceAdd, Nat.reduceMul, Nat.reduceSub, Nat.reduceDiv, Nat.reduceMod, Nat.reduceLT, Nat.reduceLeDiff, Nat.reduceEqDiff, Nat.reduceBEq, Nat.reduceBNe, Int.reduceToNat, Int.reduceLT, Int.reduceLE, Int.reduceEq, Int.reduceNe, Int.reduceAdd, Int.reduceSub, Int.reduceMul, Int.reduceNeg, c1, c2]
  cases c3 : ((x k).a1 == (y k).a1 && (x k).a2 == (y k).a2)
  · rw [cut false (by simp only [slEq, c3, Bool.false_and, Bool.and_false])]
    simp (maxSteps := 2000000) only [go_sem, doCall, doCallQ, Nat.reduceAdd, Nat.reduceMul, Nat.reduceSub, Nat.reduceDiv, Nat.reduceMod, Nat.reduceLT, Nat.reduceLeDiff, Nat.reduceEqDiff, Nat.reduceBEq, Nat.reduceBNe, Int.reduceToNat, Int.reduceLT, Int.reduceLE, Int.reduceEq, Int.reduceNe, Int.reduceAdd, Int.reduceSub, Int.reduceMul, Int.reduceNeg, c1, c2, c3]
  cases c5 : ((x k).t1 == (y k).t1 && (x k).t2 == (y k).t2)
  · rw [cut false (by simp only [slEq, c5, Bool.false_and, Bool.and_false])]
    simp (maxSteps := 2000000) only [go_sem, doCall, doCallQ, Nat.reduceAdd, Nat.reduceMul, Nat.reduceSub, Nat.reduceDiv, Nat.reduceMod, Nat.reduceLT, Nat.reduceLeDiff, Nat.reduceEqDiff, Nat.reduceBEq, Nat.reduceBNe, Int.reduceToNat, Int.reduceLT, Int.reduceLE, Int.reduceEq, Int.reduceNe, Int.reduceAdd, Int.reduceSub, Int.reduceMul, Int.reduceNeg, c1, c2, c3, c5]
  by_cases c4 : (x k).fl = (y k).fl
  case neg =>
    rw [cut false (by simp only [slEq, c4, decide_false, Bool.false_and, Bool.and_false])]
    have c4' := eq_false c4
    by_cases c7 : (decide (0 < (x k).fl) = decide (0 < (y k).fl))
    · simp (maxSteps := 2000000) (disch := omega) only [go_sem, doCall, doCallQ, Nat.reduceAdd, Nat.reduceMul, Nat.reduceSub, Nat.reduceDiv, Nat.reduceMod, Nat.reduceLT, Nat.reduceLeDiff, Nat.reduceEqDiff, Nat.reduceBEq, Nat.reduceBNe, Int.reduceToNat, Int.reduceLT, Int.reduceLE, Int.reduceEq, Int.reduceNe, Int.reduceAdd, Int.reduceSub, Int.reduceMul, Int.reduceNeg, c1, c2, c3, c5, c7, beq_self_eq_true, bne_self_eq_false, Bool.not_true, c_floor, sx, c4', idxC_len, idxD_len, cs_len, av_len, map_cs, map_idx, idxC_take, idxC_drop, plain_av, plain_idx, box_idx, refs_av, owns_av, view_av, ren_av, refs_idx, owns_idx, view_idx, ren_idx, idxR_len, rs_len, Int.toNat_natCast, Nat.zero_add, chk_of]
    · have c7' : (decide (0 < (x k).fl) == decide (0 < (y k).fl)) = false := by simpa using c7
      simp (maxSteps := 2000000) (disch := omega) only [go_sem, doCall, doCallQ, Nat.reduceAdd, Nat.reduceMul, Nat.reduceSub, Nat.reduceDiv, Nat.reduceMod, Nat.reduceLT, Nat.reduceLeDiff, Nat.reduceEqDiff, Nat.reduceBEq, Nat.reduceBNe, Int.reduceToNat, Int.reduceLT, Int.reduceLE, Int.reduceEq, Int.reduceNe, Int.reduceAdd, Int.reduceSub, Int.reduceMul, Int.reduceNeg, c1, c2, c3, c5, c7', Bool.not_false, idxC_len, idxD_len, cs_len, av_len, map_cs, map_idx, idxC_take, idxC_drop, plain_av, plain_idx, box_idx, refs_av, owns_av, view_av, ren_av, refs_idx, owns_idx, view_idx, ren_idx, idxR_len, rs_len, Int.toNat_natCast, Nat.zero_add, chk_of]
  have cg : (x k).g = (y k).g := by simp only [Bool.and_eq_true, beq_iff_eq] at c2; exact c2.2.1
  have hm : max (y k).fl (x k).g = (y k).g := by rw [cg]; omega
  have hpl := plR_len (pmK (x k).pm)
  have hrl := pmR_len (pmK (y k).pm)
  have t1 : List.take (pmK (x k).pm).length (plR (pmK (x k).pm)) = plR (pmK (x k).pm) := List.take_of_length_le (by omega)
  have cp := c_places x k (okF hx _).1 (okF hx _).2
  rw [sx] at cp
  by_cases c6 : (pmK (x k).pm).length = (pmK (y k).pm).length
  case neg =>
    have c8 : pmL (x k).pm ≠ pmL (y k).pm := fun h => c6 (by rw [pmK_pmL, pmK_pmL, h])
    rw [cut false (by simp only [slEq, c8, decide_false, Bool.false_and, Bool.and_false])]
    have c6' := eq_false (show ¬ ((pmK (x k).pm).length : Int) = (pmK (y k).pm).length by omega)
    simp (maxSteps := 2000000) (disch := omega) only [go_sem, doCall, doCallQ, Nat.reduceAdd, Nat.reduceMul, Nat.reduceSub, Nat.reduceDiv, Nat.reduceMod, Nat.reduceLT, Nat.reduceLeDiff, Nat.reduceEqDiff, Nat.reduceBEq, Nat.reduceBNe, Int.reduceToNat, Int.reduceLT, Int.reduceLE, Int.reduceEq, Int.reduceNe, Int.reduceAdd, Int.reduceSub, Int.reduceMul, Int.reduceNeg, c1, c2, c3, c5, c4, hm, hpl, hrl, t1, cp, c_floor, c_last, sx, Nat.le_refl, List.drop_zero, beq_self_eq_true, bne_self_eq_false, Bool.not_true, ne_eq, not_true_eq_false, decide_false, c6', idxC_len, idxD_len, cs_len, av_len, map_cs, map_idx, idxC_take, idxC_drop, plain_av, plain_idx, box_idx, refs_av, owns_av, view_av, ren_av, refs_idx, owns_idx, view_idx, ren_idx, idxR_len, rs_len, Int.toNat_natCast, Nat.zero_add, chk_of]
  have c6' := eq_true (show ((pmK (x k).pm).length : Int) = (pmK (y k).pm).length by omega)
  simp (maxSteps := 2000000) (disch := omega) only [go_sem, doCall, doCallQ, Nat.reduceAdd, Nat.reduceMul, Nat.reduceSub, Nat.reduceDiv, Nat.reduceMod, Nat.reduceLT, Nat.reduceLeDiff, Nat.reduceEqDiff, Nat.reduceBEq, Nat.reduceBNe, Int.reduceToNat, Int.reduceLT, Int.reduceLE, Int.reduceEq, Int.reduceNe, Int.reduceAdd, Int.reduceSub, Int.reduceMul, Int.reduceNeg, c1, c2, c3, c5, c4, hm, hpl, hrl, t1, cp, c_floor, c_last, sx, Nat.le_refl, List.drop_zero, beq_self_eq_true, bne_self_eq_false, Bool.not_true, ne_eq, not_true_eq_false, decide_false, c6', idxC_len, idxD_len, cs_len, av_len, map_cs, map_idx, idxC_take, idxC_drop, plain_av, plain_idx, box_idx, refs_av, owns_av, view_av, ren_av, refs_idx, owns_idx, view_idx, ren_idx, idxR_len, rs_len, Int.toNat_natCast, Nat.zero_add, chk_of]
  rw [loop_step1]
  simp (maxSteps := 2000000) (disch := omega) only [go_sem, doCall, doCallQ, Nat.reduceAdd, Nat.reduceMul, Nat.reduceSub, Nat.reduceDiv, Nat.reduceMod, Nat.reduceLT, Nat.reduceLeDiff, Nat.reduceEqDiff, Nat.reduceBEq, Nat.reduceBNe, Int.reduceToNat, Int.reduceLT, Int.reduceLE, Int.reduceEq, Int.reduceNe, Int.reduceAdd, Int.reduceSub, Int.reduceMul, Int.reduceNeg, idxC_len, idxD_len, cs_len, av_len, map_cs, map_idx, idxC_take, idxC_drop, plain_av, plain_idx, box_idx, refs_av, owns_av, view_av, ren_av, refs_idx, owns_idx, view_idx, ren_idx, idxR_len, rs_len, Int.toNat_natCast, Nat.zero_add, chk_of]
  have hX : pmL (slF x (k : Int)).pm = pmK (x k).pm := by rw [sx, pmK_pmL]
  have hlX : (pmK (x k).pm).length ≤ 1000000 := (hx k hk).1.1
  have hlY : (pmK (y k).pm).length ≤ 1000000 := (hy k hk).1.1
  refine (lp_inner x (idxR y) (iRows (objL y k)) (objL y k).length k (pmK (x k).pm) (pmK (y k).pm) hX c6 hlX _ 0 (Nat.zero_le _)).trans ?_
  simp only [List.drop_zero]
  have hgi := good_iff (hx k hk).2 c6
  cases hgd : goodL (pmK (x k).pm) (pmK (x k).pm) (pmK (y k).pm)
  · have c8 : pmL (x k).pm ≠ pmL (y k).pm := fun h => by
      have := hgi.2 (by rw [pmK_pmL, pmK_pmL, h])
      rw [hgd] at this; simp at this
    rw [cut false (by simp only [slEq, c8, decide_false, Bool.false_and, Bool.and_false])]
    simp only [Bool.false_eq_true, if_false]
    simp (maxSteps := 2000000) (disch := omega) only [go_sem, doCall, doCallQ, Nat.reduceAdd, Nat.reduceMul, Nat.reduceSub, Nat.reduceDiv, Nat.reduceMod, Nat.reduceLT, Nat.reduceLeDiff, Nat.reduceEqDiff, Nat.reduceBEq, Nat.reduceBNe, Int.reduceToNat, Int.reduceLT, Int.reduceLE, Int.reduceEq, Int.reduceNe, Int.reduceAdd, Int.reduceSub, Int.reduceMul, Int.reduceNeg, Bool.false_and, idxC_len, idxD_len, cs_len, av_len, map_cs, map_idx, idxC_take, idxC_drop, plain_av, plain_idx, box_idx, refs_av, owns_av, view_av, ren_av, refs_idx, owns_idx, view_idx, ren_idx, idxR_len, rs_len, Int.toNat_natCast, Nat.zero_add, chk_of]
  · rw [hgd] at hgi
    have hS := c_slicesF x (k : Int) (okF hx _).1
    rw [sx] at hS
    have hLi := c_list (hx k hk)
    have hIn := c_ints ((pmK (x k).pm).map (·.1)) ((pmK (y k).pm).map (·.1)) (by simpa using hlX) (by simpa using hlY)
    have hky := iRows_len ((pmK (y k).pm).map (·.1))
    have t2 : List.take (pmK (y k).pm).length (iRows ((pmK (y k).pm).map (·.1))) = iRows ((pmK (y k).pm).map (·.1)) := List.take_of_length_le (by rw [hky, List.length_map]; exact Nat.le_refl _)
    rw [List.length_map] at hky
    simp only [if_true]
    by_cases c9 : (pmK (x k).pm).map (·.1) = (pmK (y k).pm).map (·.1)
    case neg =>
      have c8 : pmL (x k).pm ≠ pmL (y k).pm := fun h => c9 (by rw [pmK_pmL, pmK_pmL, h])
      rw [cut false (by simp only [slEq, c8, decide_false, Bool.false_and, Bool.and_false])]
      rw [decide_eq_false c9] at hIn
      simp (maxSteps := 2000000) (disch := omega) only [go_sem, doCall, doCallQ, Nat.reduceAdd, Nat.reduceMul, Nat.reduceSub, Nat.reduceDiv, Nat.reduceMod, Nat.reduceLT, Nat.reduceLeDiff, Nat.reduceEqDiff, Nat.reduceBEq, Nat.reduceBNe, Int.reduceToNat, Int.reduceLT, Int.reduceLE, Int.reduceEq, Int.reduceNe, Int.reduceAdd, Int.reduceSub, Int.reduceMul, Int.reduceNeg, hS, hLi, hIn, hky, t2, Nat.le_refl, List.drop_zero, w65_len, w65_take, w65_drop, w65_plain, w65_box, w65_mlen, w65_refs, w65_owns, w65_view, w65_ren, idxC_len, idxD_len, cs_len, av_len, map_cs, map_idx, idxC_take, idxC_drop, plain_av, plain_idx, box_idx, refs_av, owns_av, view_av, ren_av, refs_idx, owns_idx, view_idx, ren_idx, idxR_len, rs_len, Int.toNat_natCast, Nat.zero_add, chk_of]
    have hXY := hgi.1 ⟨rfl, c9⟩
    rw [decide_eq_true c9] at hIn
    have c8 : pmL (x k).pm = pmL (y k).pm := by rw [← pmK_pmL, ← pmK_pmL, hXY]
    rw [cut true (by simp only [slEq, c1, hb, c2, c3, c4, c5, c8, decide_true, beq_self_eq_true, Bool.and_true]), Bool.true_and]
    have hOk : objL x (k + 1) = objL y (k + 1) := by rw [objL_succ, objL_succ, sx, sy, c1, hb, hO]
    have ih := ih hOk
    simp only [Int.toNat_natCast, objL_succ y k, sy, hb, if_true, Bool.false_eq_true, if_false, iRows_app, List.length_append, List.length_cons, List.length_nil, Nat.zero_add] at ih
    simp (maxSteps := 2000000) (disch := omega) only [go_sem, doCall, doCallQ, Nat.reduceAdd, Nat.reduceMul, Nat.reduceSub, Nat.reduceDiv, Nat.reduceMod, Nat.reduceLT, Nat.reduceLeDiff, Nat.reduceEqDiff, Nat.reduceBEq, Nat.reduceBNe, Int.reduceToNat, Int.reduceLT, Int.reduceLE, Int.reduceEq, Int.reduceNe, Int.reduceAdd, Int.reduceSub, Int.reduceMul, Int.reduceNeg, hS, hLi, hIn, hky, t2, Nat.le_refl, List.drop_zero, w65_len, w65_take, w65_drop, w65_plain, w65_box, w65_mlen, w65_refs, w65_owns, w65_view, w65_ren, idxC_len, idxD_len, cs_len, av_len, map_cs, map_idx, idxC_take, idxC_drop, plain_av, plain_idx, box_idx, refs_av, owns_av, view_av, ren_av, refs_idx, owns_idx, view_idx, ren_idx, idxR_len, rs_len, Int.toNat_natCast, Nat.zero_add, chk_of]
    rw [loop_step1]
    simp (maxSteps := 2000000) (disch := omega) only [go_sem, doCall, doCallQ, Nat.reduceAdd, Nat.reduceMul, Nat.reduceSub, Nat.reduceDiv, Nat.reduceMod, Nat.reduceLT, Nat.reduceLeDiff, Nat.reduceEqDiff, Nat.reduceBEq, Nat.reduceBNe, Int.reduceToNat, Int.reduceLT, Int.reduceLE, Int.reduceEq, Int.reduceNe, Int.reduceAdd, Int.reduceSub, Int.reduceMul, Int.reduceNeg, hw, w65_len, w65_take, w65_drop, w65_plain, w65_box, w65_mlen, w65_refs, w65_owns, w65_view, w65_ren, idxC_len, idxD_len, cs_len, av_len, map_cs, map_idx, idxC_take, idxC_drop, plain_av, plain_idx, box_idx, refs_av, owns_av, view_av, ren_av, refs_idx, owns_idx, view_idx, ren_idx, idxR_len, rs_len, Int.toNat_natCast, Nat.zero_add, chk_of]
    try simp (maxSteps := 2000000) only [go_sem, doCall, doCallQ, Nat.reduceAdd, Nat.reduceMul, Nat.reduceSub, Nat.reduceDiv, Nat.reduceMod, Nat.reduceLT, Nat.reduceLeDiff, Nat.reduceEqDiff, Nat.reduceBEq, Nat.reduceBNe, Int.reduceToNat, Int.reduceLT, Int.reduceLE, Int.reduceEq, Int.reduceNe, Int.reduceAdd, Int.reduceSub, Int.reduceMul, Int.reduceNeg] at ih
    exact ih
theorem lk_f_neg (x y : Nat → Sl) (hx : okXM x) (hy : okXM y) (k : Nat) (hk : k < 16) (V : Bool) (hb : (y k).b = false) (c0 : ¬ (y k).fl < (y k).g) (hO : objL x k = objL y k)
    (ih : objL x (k + 1) = objL y (k + 1) → bnd (evC (call ir) (loop ir) lp8_0 (st8_0 1 (.ptr 0 0) (.ptr 1 0) (.own 2 1 0 (objL y (k + 1)).length false) (.d (.int .i64 ((k + 1) : Nat))) [.dbox (idxR y), .dbox (idxC x), .arr 1 (iRows (objL y (k + 1)))])) (lpC (call ir) (loop ir) [1, 2, 5, 6] lp8_0 (bk 0 (sq (call ir) (loop ir) (.seq (.reg [⟨some 176, none, .ld (.s 2) 192 true, .none⟩, ⟨some 177, none, .call 30 [.s 176] 2, .none⟩, ⟨some 178, none, .mv (.s 5), .none⟩, ⟨some 179, none, .call 27 [.s 177, .s 178] 0, .none⟩, ⟨some 4, none, .mv (.s 179), .none⟩]) (.ret none)) (fin ir8)))) = some (.d (.bool V), [.dbox (idxR y)])) :
    bnd (evC (call ir) (loop ir) lp8_0 (st8_0 1 (.ptr 0 0) (.ptr 1 0) (.own 2 1 0 (objL y k).length false) (.d (.int .i64 (k : Nat))) [.dbox (idxR y), .dbox (idxC x), .arr 1 (iRows (objL y k))])) (lpC (call ir) (loop ir) [1, 2, 5, 6] lp8_0 (bk 0 (sq (call ir) (loop ir) (.seq (.reg [⟨some 176, none, .ld (.s 2) 192 true, .none⟩, ⟨some 177, none, .call 30 [.s 176] 2, .none⟩, ⟨some 178, none, .mv (.s 5), .none⟩, ⟨some 179, none, .call 27 [.s 177, .s 178] 0, .none⟩, ⟨some 4, none, .mv (.s 179), .none⟩]) (.ret none)) (fin ir8)))) = some (.d (.bool (slEq (x k) (y k) && V)), [.dbox (idxR y)]) := by
  have h1 := eq_true (show (k : Int) ≤ 16 by omega)
  have hl := iRows_len (objL y k)
  have hle := objL_le y k
  have t0 : List.take (objL y k).length (iRows (objL y k)) = iRows (objL y k) := List.take_of_length_le (by omega)
  have cut : ∀ b, slEq (x k) (y k) = b → (slEq (x k) (y k) && V) = (b && V) := fun b h => by rw [h]
  have e1 := eq_true (show (0 : Int) ≤ k by omega)
  have e2 := eq_true (show (k : Int) < 16 by omega)
  have hg := get_idr y k hk
  have sx := slF_in x hk
  have sy := slF_in y hk
  have hw := wr_succ (i := k) (by omega)
  have e0 := eq_false c0
  simp (maxSteps := 2000000) (disch := omega) only [go_sem, doCall, doCallQ, Nat.reduceAdd, Nat.reduceMul, Nat.reduceSub, Nat.reduceDiv, Nat.reduceMod, Nat.reduceLT, Nat.reduceLeDiff, Nat.reduceEqDiff, Nat.reduceBEq, Nat.reduceBNe, Int.reduceToNat, Int.reduceLT, Int.reduceLE, Int.reduceEq, Int.reduceNe, Int.reduceAdd, Int.reduceSub, Int.reduceMul, Int.reduceNeg, u8_0, lb8_0, h1, e1, e2, hg, Sl.rs, hb, e0, hl, t0, Nat.le_refl, List.drop_zero, c_iget, c_where, c_tomb, sx, idxC_len, idxD_len, cs_len, av_len, map_cs, map_idx, idxC_take, idxC_drop, plain_av, plain_idx, box_idx, refs_av, owns_av, view_av, ren_av, refs_idx, owns_idx, view_idx, ren_idx, idxR_len, rs_len, Int.toNat_natCast, Nat.zero_add, chk_of]
  cases c1 : (x k).b
  case true =>
    rw [cut false (by simp [slEq, hb, c1])]
    simp (maxSteps := 2000000) only [go_sem, doCall, doCallQ, Nat.reduceAdd, Nat.reduceMul, Nat.reduceSub, Nat.reduceDiv, Nat.reduceMod, Nat.reduceLT, Nat.reduceLeDiff, Nat.reduceEqDiff, Nat.reduceBEq, Nat.reduceBNe, Int.reduceToNat, Int.reduceLT, Int.reduceLE, Int.reduceEq, Int.reduceNe, Int.reduceAdd, Int.reduceSub, Int.reduceMul, Int.reduceNeg, c1]
  cases c2 : ((x k).o == (y k).o && ((x k).g == (y k).g && ((x k).tag == (y k).tag && ((x k).len == (y k).len && (x k).tick == (y k).tick))))
  · rw [cut false (by simp only [slEq, c2, Bool.false_and, Bool.and_false])]
    simp (maxSteps := 2000000) only [go_sem, doCall, doCallQ, Nat.reduceAdd, Nat.reduceMul, Nat.reduceSub, Nat.reduceDiv, Nat.reduceMod, Nat.reduceLT, Nat.reduceLeDiff, Nat.reduceEqDiff, Nat.reduceBEq, Nat.reduceBNe, Int.reduceToNat, Int.reduceLT, Int.reduceLE, Int.reduceEq, Int.reduceNe, Int.reduceAdd, Int.reduceSub, Int.reduceMul, Int.reduceNeg, c1, c2]
  cases c3 : ((x k).a1 == (y k).a1 && (x k).a2 == (y k).a2)
  · rw [cut false (by simp only [slEq, c3, Bool.false_and, Bool.and_false])]
    simp (maxSteps := 2000000) only [go_sem, doCall, doCallQ, Nat.reduceAdd, Nat.reduceMul, Nat.reduceSub, Nat.reduceDiv, Nat.reduceMod, Nat.reduceLT, Nat.reduceLeDiff, Nat.reduceEqDiff, Nat.reduceBEq, Nat.reduceBNe, Int.reduceToNat, Int.reduceLT, Int.reduceLE, Int.reduceEq, Int.reduceNe, Int.reduceAdd, Int.reduceSub, Int.reduceMul, Int.reduceNeg, c1, c2, c3]
  cases c5 : ((x k).t1 == (y k).t1 && (x k).t2 == (y k).t2)
  · rw [cut false (by simp only [slEq, c5, Bool.false_and, Bool.and_false])]
    simp (maxSteps := 2000000) only [go_sem, doCall, doCallQ, Nat.reduceAdd, Nat.reduceMul, Nat.reduceSub, Nat.reduceDiv, Nat.reduceMod, Nat.reduceLT, Nat.reduceLeDiff, Nat.reduceEqDiff, Nat.reduceBEq, Nat.reduceBNe, Int.reduceToNat, Int.reduceLT, Int.reduceLE, Int.reduceEq, Int.reduceNe, Int.reduceAdd, Int.reduceSub, Int.reduceMul, Int.reduceNeg, c1, c2, c3, c5]
  by_cases c4 : (x k).fl = (y k).fl
  case neg =>
    rw [cut false (by simp only [slEq, c4, decide_false, Bool.false_and, Bool.and_false])]
    have c4' := eq_false c4
    by_cases c7 : (decide (0 < (x k).fl) = decide (0 < (y k).fl))
    · simp (maxSteps := 2000000) (disch := omega) only [go_sem, doCall, doCallQ, Nat.reduceAdd, Nat.reduceMul, Nat.reduceSub, Nat.reduceDiv, Nat.reduceMod, Nat.reduceLT, Nat.reduceLeDiff, Nat.reduceEqDiff, Nat.reduceBEq, Nat.reduceBNe, Int.reduceToNat, Int.reduceLT, Int.reduceLE, Int.reduceEq, Int.reduceNe, Int.reduceAdd, Int.reduceSub, Int.reduceMul, Int.reduceNeg, c1, c2, c3, c5, c7, beq_self_eq_true, bne_self_eq_false, Bool.not_true, c_floor, sx, c4', idxC_len, idxD_len, cs_len, av_len, map_cs, map_idx, idxC_take, idxC_drop, plain_av, plain_idx, box_idx, refs_av, owns_av, view_av, ren_av, refs_idx, owns_idx, view_idx, ren_idx, idxR_len, rs_len, Int.toNat_natCast, Nat.zero_add, chk_of]
    · have c7' : (decide (0 < (x k).fl) == decide (0 < (y k).fl)) = false := by simpa using c7
      simp (maxSteps := 2000000) (disch := omega) only [go_sem, doCall, doCallQ, Nat.reduceAdd, Nat.reduceMul, Nat.reduceSub, Nat.reduceDiv, Nat.reduceMod, Nat.reduceLT, Nat.reduceLeDiff, Nat.reduceEqDiff, Nat.reduceBEq, Nat.reduceBNe, Int.reduceToNat, Int.reduceLT, Int.reduceLE, Int.reduceEq, Int.reduceNe, Int.reduceAdd, Int.reduceSub, Int.reduceMul, Int.reduceNeg, c1, c2, c3, c5, c7', Bool.not_false, idxC_len, idxD_len, cs_len, av_len, map_cs, map_idx, idxC_take, idxC_drop, plain_av, plain_idx, box_idx, refs_av, owns_av, view_av, ren_av, refs_idx, owns_idx, view_idx, ren_idx, idxR_len, rs_len, Int.toNat_natCast, Nat.zero_add, chk_of]
  have cg : (x k).g = (y k).g := by simp only [Bool.and_eq_true, beq_iff_eq] at c2; exact c2.2.1
  have hm : max (y k).fl (x k).g = (y k).fl := by rw [cg]; omega
  have hpl := plR_len (pmK (x k).pm)
  have hrl := pmR_len (pmK (y k).pm)
  have t1 : List.take (pmK (x k).pm).length (plR (pmK (x k).pm)) = plR (pmK (x k).pm) := List.take_of_length_le (by omega)
  have cp := c_places x k (okF hx _).1 (okF hx _).2
  rw [sx] at cp
  by_cases c6 : (pmK (x k).pm).length = (pmK (y k).pm).length
  case neg =>
    have c8 : pmL (x k).pm ≠ pmL (y k).pm := fun h => c6 (by rw [pmK_pmL, pmK_pmL, h])
    rw [cut false (by simp only [slEq, c8, decide_false, Bool.false_and, Bool.and_false])]
    have c6' := eq_false (show ¬ ((pmK (x k).pm).length : Int) = (pmK (y k).pm).length by omega)
    simp (maxSteps := 2000000) (disch := omega) only [go_sem, doCall, doCallQ, Nat.reduceAdd, Nat.reduceMul, Nat.reduceSub, Nat.reduceDiv, Nat.reduceMod, Nat.reduceLT, Nat.reduceLeDiff, Nat.reduceEqDiff, Nat.reduceBEq, Nat.reduceBNe, Int.reduceToNat, Int.reduceLT, Int.reduceLE, Int.reduceEq, Int.reduceNe, Int.reduceAdd, Int.reduceSub, Int.reduceMul, Int.reduceNeg, c1, c2, c3, c5, c4, hm, hpl, hrl, t1, cp, c_floor, c_last, sx, Nat.le_refl, List.drop_zero, beq_self_eq_true, bne_self_eq_false, Bool.not_true, ne_eq, not_true_eq_false, decide_false, c6', idxC_len, idxD_len, cs_len, av_len, map_cs, map_idx, idxC_take, idxC_drop, plain_av, plain_idx, box_idx, refs_av, owns_av, view_av, ren_av, refs_idx, owns_idx, view_idx, ren_idx, idxR_len, rs_len, Int.toNat_natCast, Nat.zero_add, chk_of]
  have c6' := eq_true (show ((pmK (x k).pm).length : Int) = (pmK (y k).pm).length by omega)
  simp (maxSteps := 2000000) (disch := omega) only [go_sem, doCall, doCallQ, Nat.reduceAdd, Nat.reduceMul, Nat.reduceSub, Nat.reduceDiv, Nat.reduceMod, Nat.reduceLT, Nat.reduceLeDiff, Nat.reduceEqDiff, Nat.reduceBEq, Nat.reduceBNe, Int.reduceToNat, Int.reduceLT, Int.reduceLE, Int.reduceEq, Int.reduceNe, Int.reduceAdd, Int.reduceSub, Int.reduceMul, Int.reduceNeg, c1, c2, c3, c5, c4, hm, hpl, hrl, t1, cp, c_floor, c_last, sx, Nat.le_refl, List.drop_zero, beq_self_eq_true, bne_self_eq_false, Bool.not_true, ne_eq, not_true_eq_false, decide_false, c6', idxC_len, idxD_len, cs_len, av_len, map_cs, map_idx, idxC_take, idxC_drop, plain_av, plain_idx, box_idx, refs_av, owns_av, view_av, ren_av, refs_idx, owns_idx, view_idx, ren_idx, idxR_len, rs_len, Int.toNat_natCast, Nat.zero_add, chk_of]
  rw [loop_step1]
  simp (maxSteps := 2000000) (disch := omega) only [go_sem, doCall, doCallQ, Nat.reduceAdd, Nat.reduceMul, Nat.reduceSub, Nat.reduceDiv, Nat.reduceMod, Nat.reduceLT, Nat.reduceLeDiff, Nat.reduceEqDiff, Nat.reduceBEq, Nat.reduceBNe, Int.reduceToNat, Int.reduceLT, Int.reduceLE, Int.reduceEq, Int.reduceNe, Int.reduceAdd, Int.reduceSub, Int.reduceMul, Int.reduceNeg, idxC_len, idxD_len, cs_len, av_len, map_cs, map_idx, idxC_take, idxC_drop, plain_av, plain_idx, box_idx, refs_av, owns_av, view_av, ren_av, refs_idx, owns_idx, view_idx, ren_idx, idxR_len, rs_len, Int.toNat_natCast, Nat.zero_add, chk_of]
  have hX : pmL (slF x (k : Int)).pm = pmK (x k).pm := by rw [sx, pmK_pmL]
  have hlX : (pmK (x k).pm).length ≤ 1000000 := (hx k hk).1.1
  have hlY : (pmK (y k).pm).length ≤ 1000000 := (hy k hk).1.1
  refine (lp_inner x (idxR y) (iRows (objL y k)) (objL y k).length k (pmK (x k).pm) (pmK (y k).pm) hX c6 hlX _ 0 (Nat.zero_le _)).trans ?_
  simp only [List.drop_zero]
  have hgi := good_iff (hx k hk).2 c6
  cases hgd : goodL (pmK (x k).pm) (pmK (x k).pm) (pmK (y k).pm)
  · have c8 : pmL (x k).pm ≠ pmL (y k).pm := fun h => by
      have := hgi.2 (by rw [pmK_pmL, pmK_pmL, h])
      rw [hgd] at this; simp at this
    rw [cut false (by simp only [slEq, c8, decide_false, Bool.false_and, Bool.and_false])]
    simp only [Bool.false_eq_true, if_false]
    simp (maxSteps := 2000000) (disch := omega) only [go_sem, doCall, doCallQ, Nat.reduceAdd, Nat.reduceMul, Nat.reduceSub, Nat.reduceDiv, Nat.reduceMod, Nat.reduceLT, Nat.reduceLeDiff, Nat.reduceEqDiff, Nat.reduceBEq, Nat.reduceBNe, Int.reduceToNat, Int.reduceLT, Int.reduceLE, Int.reduceEq, Int.reduceNe, Int.reduceAdd, Int.reduceSub, Int.reduceMul, Int.reduceNeg, Bool.false_and, idxC_len, idxD_len, cs_len, av_len, map_cs, map_idx, idxC_take, idxC_drop, plain_av, plain_idx, box_idx, refs_av, owns_av, view_av, ren_av, refs_idx, owns_idx, view_idx, ren_idx, idxR_len, rs_len, Int.toNat_natCast, Nat.zero_add, chk_of]
  · rw [hgd] at hgi
    have hS := c_slicesF x (k : Int) (okF hx _).1
    rw [sx] at hS
    have hLi := c_list (hx k hk)
    have hIn := c_ints ((pmK (x k).pm).map (·.1)) ((pmK (y k).pm).map (·.1)) (by simpa using hlX) (by simpa using hlY)
    have hky := iRows_len ((pmK (y k).pm).map (·.1))
    have t2 : List.take (pmK (y k).pm).length (iRows ((pmK (y k).pm).map (·.1))) = iRows ((pmK (y k).pm).map (·.1)) := List.take_of_length_le (by rw [hky, List.length_map]; exact Nat.le_refl _)
    rw [List.length_map] at hky
    simp only [if_true]
    by_cases c9 : (pmK (x k).pm).map (·.1) = (pmK (y k).pm).map (·.1)
    case neg =>
      have c8 : pmL (x k).pm ≠ pmL (y k).pm := fun h => c9 (by rw [pmK_pmL, pmK_pmL, h])
      rw [cut false (by simp only [slEq, c8, decide_false, Bool.false_and, Bool.and_false])]
      rw [decide_eq_false c9] at hIn
      simp (maxSteps := 2000000) (disch := omega) only [go_sem, doCall, doCallQ, Nat.reduceAdd, Nat.reduceMul, Nat.reduceSub, Nat.reduceDiv, Nat.reduceMod, Nat.reduceLT, Nat.reduceLeDiff, Nat.reduceEqDiff, Nat.reduceBEq, Nat.reduceBNe, Int.reduceToNat, Int.reduceLT, Int.reduceLE, Int.reduceEq, Int.reduceNe, Int.reduceAdd, Int.reduceSub, Int.reduceMul, Int.reduceNeg, hS, hLi, hIn, hky, t2, Nat.le_refl, List.drop_zero, w65_len, w65_take, w65_drop, w65_plain, w65_box, w65_mlen, w65_refs, w65_owns, w65_view, w65_ren, idxC_len, idxD_len, cs_len, av_len, map_cs, map_idx, idxC_take, idxC_drop, plain_av, plain_idx, box_idx, refs_av, owns_av, view_av, ren_av, refs_idx, owns_idx, view_idx, ren_idx, idxR_len, rs_len, Int.toNat_natCast, Nat.zero_add, chk_of]
    have hXY := hgi.1 ⟨rfl, c9⟩
    rw [decide_eq_true c9] at hIn
    have c8 : pmL (x k).pm = pmL (y k).pm := by rw [← pmK_pmL, ← pmK_pmL, hXY]
    rw [cut true (by simp only [slEq, c1, hb, c2, c3, c4, c5, c8, decide_true, beq_self_eq_true, Bool.and_true]), Bool.true_and]
    have hOk : objL x (k + 1) = objL y (k + 1) := by rw [objL_succ, objL_succ, sx, sy, c1, hb, hO]
    have ih := ih hOk
    simp only [Int.toNat_natCast, objL_succ y k, sy, hb, if_true, Bool.false_eq_true, if_false, iRows_app, List.length_append, List.length_cons, List.length_nil, Nat.zero_add] at ih
    simp (maxSteps := 2000000) (disch := omega) only [go_sem, doCall, doCallQ, Nat.reduceAdd, Nat.reduceMul, Nat.reduceSub, Nat.reduceDiv, Nat.reduceMod, Nat.reduceLT, Nat.reduceLeDiff, Nat.reduceEqDiff, Nat.reduceBEq, Nat.reduceBNe, Int.reduceToNat, Int.reduceLT, Int.reduceLE, Int.reduceEq, Int.reduceNe, Int.reduceAdd, Int.reduceSub, Int.reduceMul, Int.reduceNeg, hS, hLi, hIn, hky, t2, Nat.le_refl, List.drop_zero, w65_len, w65_take, w65_drop, w65_plain, w65_box, w65_mlen, w65_refs, w65_owns, w65_view, w65_ren, idxC_len, idxD_len, cs_len, av_len, map_cs, map_idx, idxC_take, idxC_drop, plain_av, plain_idx, box_idx, refs_av, owns_av, view_av, ren_av, refs_idx, owns_idx, view_idx, ren_idx, idxR_len, rs_len, Int.toNat_natCast, Nat.zero_add, chk_of]
    rw [loop_step1]
    simp (maxSteps := 2000000) (disch := omega) only [go_sem, doCall, doCallQ, Nat.reduceAdd, Nat.reduceMul, Nat.reduceSub, Nat.reduceDiv, Nat.reduceMod, Nat.reduceLT, Nat.reduceLeDiff, Nat.reduceEqDiff, Nat.reduceBEq, Nat.reduceBNe, Int.reduceToNat, Int.reduceLT, Int.reduceLE, Int.reduceEq, Int.reduceNe, Int.reduceAdd, Int.reduceSub, Int.reduceMul, Int.reduceNeg, hw, w65_len, w65_take, w65_drop, w65_plain, w65_box, w65_mlen, w65_refs, w65_owns, w65_view, w65_ren, idxC_len, idxD_len, cs_len, av_len, map_cs, map_idx, idxC_take, idxC_drop, plain_av, plain_idx, box_idx, refs_av, owns_av, view_av, ren_av, refs_idx, owns_idx, view_idx, ren_idx, idxR_len, rs_len, Int.toNat_natCast, Nat.zero_add, chk_of]
    try simp (maxSteps := 2000000) only [go_sem, doCall, doCallQ, Nat.reduceAdd, Nat.reduceMul, Nat.reduceSub, Nat.reduceDiv, Nat.reduceMod, Nat.reduceLT, Nat.reduceLeDiff, Nat.reduceEqDiff, Nat.reduceBEq, Nat.reduceBNe, Int.reduceToNat, Int.reduceLT, Int.reduceLE, Int.reduceEq, Int.reduceNe, Int.reduceAdd, Int.reduceSub, Int.reduceMul, Int.reduceNeg] at ih
    exact ih
end Go.Proofs.YtoipfdbdifoecaaGreatDoor
