/- Chapter 20's example. Own work. Any records as an index: the law. Own work. -/
import Derived.Test.YtoipfdbdifoecaaGreatDoorSame
import Derived.Test.YtoipfdbdifoecaaGreatDoorROf
import Derived.Test.YtoipfdbdifoecaaGreatDoorLik3
namespace Go.Proofs.YtoipfdbdifoecaaGreatDoor
open Go Go.Ev Go.Proofs.YtoipfdbdifoecaaGreatDoor.Ir
theorem c_awake20 : call ir 4 [] [] = some (.d (.bool true), []) := call_of (n := 200) (by kernel_rfl)
end Go.Proofs.YtoipfdbdifoecaaGreatDoor
namespace Go.Proofs.YtoipfdbdifoecaaGreatDoor
open Go Go.Ev Go.Proofs.YtoipfdbdifoecaaGreatDoor.Ir
set_option maxRecDepth 100000
set_option maxHeartbeats 8000000
set_option linter.unusedSimpArgs false
set_option linter.unusedVariables false
theorem mostF_snoc (n : Int) (l : List En) (e : En) : mostF n (l ++ [e]) = max (mostF n l) (genF e) := by simp [mostF, List.foldl_append]
theorem lp_rl (x : Nat → Sl) {n : Nat} (hi : InvS n x) (hn : n ≤ 100000) (l : List En) (hl : l.length ≤ 1000) (hd : ∀ e ∈ l, e.d.length ≤ 1000) (E : List D) (o : Int) (K : Ex → St → Option (AV × Heap)) (j : Nat) (hj : j ≤ l.length) :
    bnd (evC (call ir) (loop ir) lp3_0 (st3_0 0 (.d (.list 6 (l.map En.cs))) (.d (.int .i64 o)) (.ptr 0 0) (.ptr 1 0) (.ptr 2 0) (.own 3 6 0 (ofL o (l.take j)).length false) (.d (.int .i64 (mostF 0 (ofL o (l.take j))))) (.d (.list 6 (l.map En.cs))) (.d (.int .i64 l.length)) (.d (.int .i64 j)) [.dbox E, .dbox (idxC x), .dbox (idxR x), .arr 6 ((ofL o (l.take j)).map En.cs)]))
      (lpC (call ir) (loop ir) [0, 2, 4, 7, 8, 9, 10, 36, 37, 38] lp3_0 K) =
    K (.exit 0) (clean [0, 2, 4, 7, 8, 9, 10] (st3_0 0 (.d (.list 6 (l.map En.cs))) (.d (.int .i64 o)) (.ptr 0 0) (.ptr 1 0) (.ptr 2 0) (.own 3 6 0 (ofL o l).length false) (.d (.int .i64 (mostF 0 (ofL o l)))) .unk .unk .unk [.dbox E, .dbox (idxC x), .dbox (idxR x), .arr 6 ((ofL o l).map En.cs)])) := by
  have hlm : (l.map En.cs).length = l.length := List.length_map ..
  by_cases h : j = l.length
  · have hx := eq_false (show ¬ (l.length : Int) < l.length by omega)
    subst h
    rw [List.take_length]
    simp (maxSteps := 2000000) (disch := omega) only [go_sem, doCall, doCallQ, Nat.reduceAdd, Nat.reduceMul, Nat.reduceSub, Nat.reduceDiv, Nat.reduceMod, Nat.reduceLT, Nat.reduceLeDiff, Nat.reduceEqDiff, Nat.reduceBEq, Nat.reduceBNe, Int.reduceToNat, Int.reduceLT, Int.reduceLE, Int.reduceEq, Int.reduceNe, Int.reduceAdd, Int.reduceSub, Int.reduceMul, Int.reduceNeg, u3_0, lb3_0, hx, idxC_len, idxD_len, cs_len, av_len, map_cs, map_idx, idxC_take, idxC_drop, plain_av, plain_idx, box_idx, refs_av, owns_av, view_av, ren_av, refs_idx, owns_idx, view_idx, ren_idx, idxR_len, rs_len, Int.toNat_natCast, Nat.zero_add, chk_of]
  · have hlt := eq_true (show (j : Int) < l.length by omega)
    have hj' : j < l.length := by omega
    have hw := wr_succ (i := j) (by omega)
    have hr := En.rows l hj'
    have hdj := hd _ (List.getElem_mem hj')
    have q1 := c_live x l[j] hdj
    have q2 := r_live x hi hn l[j] hdj
    have q3 := r_owner l[j] hdj
    simp only [En.av] at q1 q2 q3
    have ih := lp_rl x hi hn l hl hd E o K (j + 1) (by omega)
    have hle := ofL_le o (l.take j)
    have htl : (l.take j).length ≤ j := by simp; omega
    have ham : ((ofL o (l.take j)).map En.cs).length = (ofL o (l.take j)).length := List.length_map ..
    have t0 : List.take (ofL o (l.take j)).length ((ofL o (l.take j)).map En.cs) = (ofL o (l.take j)).map En.cs := List.take_of_length_le (by omega)
    rw [ofL_succ o l hj'] at ih
    cases hq : ownF l[j] with
    | none =>
      have hb : ofB o l[j] = false := by unfold ofB; rw [hq]
      rw [hq] at q3
      rw [hb] at ih
      simp only [Bool.false_eq_true, if_false] at ih
      simp (maxSteps := 2000000) (disch := omega) only [go_sem, doCall, doCallQ, Nat.reduceAdd, Nat.reduceMul, Nat.reduceSub, Nat.reduceDiv, Nat.reduceMod, Nat.reduceLT, Nat.reduceLeDiff, Nat.reduceEqDiff, Nat.reduceBEq, Nat.reduceBNe, Int.reduceToNat, Int.reduceLT, Int.reduceLE, Int.reduceEq, Int.reduceNe, Int.reduceAdd, Int.reduceSub, Int.reduceMul, Int.reduceNeg, u3_0, lb3_0, hlt, hr, hlm, q1, q2, q3, beq_self_eq_true, bne_self_eq_false, Bool.not_true, idxC_len, idxD_len, cs_len, av_len, map_cs, map_idx, idxC_take, idxC_drop, plain_av, plain_idx, box_idx, refs_av, owns_av, view_av, ren_av, refs_idx, owns_idx, view_idx, ren_idx, idxR_len, rs_len, Int.toNat_natCast, Nat.zero_add, chk_of]
      rw [loop_step1]
      simp (maxSteps := 2000000) (disch := omega) only [go_sem, doCall, doCallQ, Nat.reduceAdd, Nat.reduceMul, Nat.reduceSub, Nat.reduceDiv, Nat.reduceMod, Nat.reduceLT, Nat.reduceLeDiff, Nat.reduceEqDiff, Nat.reduceBEq, Nat.reduceBNe, Int.reduceToNat, Int.reduceLT, Int.reduceLE, Int.reduceEq, Int.reduceNe, Int.reduceAdd, Int.reduceSub, Int.reduceMul, Int.reduceNeg, hw, idxC_len, idxD_len, cs_len, av_len, map_cs, map_idx, idxC_take, idxC_drop, plain_av, plain_idx, box_idx, refs_av, owns_av, view_av, ren_av, refs_idx, owns_idx, view_idx, ren_idx, idxR_len, rs_len, Int.toNat_natCast, Nat.zero_add, chk_of]
      try simp (maxSteps := 2000000) only [go_sem, doCall, doCallQ, Nat.reduceAdd, Nat.reduceMul, Nat.reduceSub, Nat.reduceDiv, Nat.reduceMod, Nat.reduceLT, Nat.reduceLeDiff, Nat.reduceEqDiff, Nat.reduceBEq, Nat.reduceBNe, Int.reduceToNat, Int.reduceLT, Int.reduceLE, Int.reduceEq, Int.reduceNe, Int.reduceAdd, Int.reduceSub, Int.reduceMul, Int.reduceNeg] at ih
      exact ih
    | some r =>
      obtain ⟨k, g⟩ := r
      rw [hq] at q3
      simp only at q3
      by_cases hk : k = o
      · have hb : ofB o l[j] = true := by unfold ofB; rw [hq]; exact decide_eq_true hk
        have hgn : genF l[j] = g := by unfold genF; rw [hq]
        rw [hb] at ih
        simp only [if_true, mostF_snoc, hgn, List.map_append, List.map_cons, List.map_nil, List.length_append, List.length_cons, List.length_nil, Nat.zero_add, En.cs] at ih
        simp (maxSteps := 2000000) (disch := omega) only [go_sem, doCall, doCallQ, Nat.reduceAdd, Nat.reduceMul, Nat.reduceSub, Nat.reduceDiv, Nat.reduceMod, Nat.reduceLT, Nat.reduceLeDiff, Nat.reduceEqDiff, Nat.reduceBEq, Nat.reduceBNe, Int.reduceToNat, Int.reduceLT, Int.reduceLE, Int.reduceEq, Int.reduceNe, Int.reduceAdd, Int.reduceSub, Int.reduceMul, Int.reduceNeg, u3_0, lb3_0, hlt, hr, hlm, q1, q2, q3, eq_true hk, ham, t0, Nat.le_refl, List.drop_zero, beq_self_eq_true, bne_self_eq_false, Bool.not_true, En.cs, idxC_len, idxD_len, cs_len, av_len, map_cs, map_idx, idxC_take, idxC_drop, plain_av, plain_idx, box_idx, refs_av, owns_av, view_av, ren_av, refs_idx, owns_idx, view_idx, ren_idx, idxR_len, rs_len, Int.toNat_natCast, Nat.zero_add, chk_of]
        rw [loop_step1]
        simp (maxSteps := 2000000) (disch := omega) only [go_sem, doCall, doCallQ, Nat.reduceAdd, Nat.reduceMul, Nat.reduceSub, Nat.reduceDiv, Nat.reduceMod, Nat.reduceLT, Nat.reduceLeDiff, Nat.reduceEqDiff, Nat.reduceBEq, Nat.reduceBNe, Int.reduceToNat, Int.reduceLT, Int.reduceLE, Int.reduceEq, Int.reduceNe, Int.reduceAdd, Int.reduceSub, Int.reduceMul, Int.reduceNeg, hw, idxC_len, idxD_len, cs_len, av_len, map_cs, map_idx, idxC_take, idxC_drop, plain_av, plain_idx, box_idx, refs_av, owns_av, view_av, ren_av, refs_idx, owns_idx, view_idx, ren_idx, idxR_len, rs_len, Int.toNat_natCast, Nat.zero_add, chk_of]
        try simp (maxSteps := 2000000) only [go_sem, doCall, doCallQ, Nat.reduceAdd, Nat.reduceMul, Nat.reduceSub, Nat.reduceDiv, Nat.reduceMod, Nat.reduceLT, Nat.reduceLeDiff, Nat.reduceEqDiff, Nat.reduceBEq, Nat.reduceBNe, Int.reduceToNat, Int.reduceLT, Int.reduceLE, Int.reduceEq, Int.reduceNe, Int.reduceAdd, Int.reduceSub, Int.reduceMul, Int.reduceNeg] at ih
        exact ih
      · have hb : ofB o l[j] = false := by unfold ofB; rw [hq]; exact decide_eq_false hk
        rw [hb] at ih
        simp only [Bool.false_eq_true, if_false] at ih
        simp (maxSteps := 2000000) (disch := omega) only [go_sem, doCall, doCallQ, Nat.reduceAdd, Nat.reduceMul, Nat.reduceSub, Nat.reduceDiv, Nat.reduceMod, Nat.reduceLT, Nat.reduceLeDiff, Nat.reduceEqDiff, Nat.reduceBEq, Nat.reduceBNe, Int.reduceToNat, Int.reduceLT, Int.reduceLE, Int.reduceEq, Int.reduceNe, Int.reduceAdd, Int.reduceSub, Int.reduceMul, Int.reduceNeg, u3_0, lb3_0, hlt, hr, hlm, q1, q2, q3, eq_false hk, beq_self_eq_true, bne_self_eq_false, Bool.not_true, idxC_len, idxD_len, cs_len, av_len, map_cs, map_idx, idxC_take, idxC_drop, plain_av, plain_idx, box_idx, refs_av, owns_av, view_av, ren_av, refs_idx, owns_idx, view_idx, ren_idx, idxR_len, rs_len, Int.toNat_natCast, Nat.zero_add, chk_of]
        rw [loop_step1]
        simp (maxSteps := 2000000) (disch := omega) only [go_sem, doCall, doCallQ, Nat.reduceAdd, Nat.reduceMul, Nat.reduceSub, Nat.reduceDiv, Nat.reduceMod, Nat.reduceLT, Nat.reduceLeDiff, Nat.reduceEqDiff, Nat.reduceBEq, Nat.reduceBNe, Int.reduceToNat, Int.reduceLT, Int.reduceLE, Int.reduceEq, Int.reduceNe, Int.reduceAdd, Int.reduceSub, Int.reduceMul, Int.reduceNeg, hw, idxC_len, idxD_len, cs_len, av_len, map_cs, map_idx, idxC_take, idxC_drop, plain_av, plain_idx, box_idx, refs_av, owns_av, view_av, ren_av, refs_idx, owns_idx, view_idx, ren_idx, idxR_len, rs_len, Int.toNat_natCast, Nat.zero_add, chk_of]
        try simp (maxSteps := 2000000) only [go_sem, doCall, doCallQ, Nat.reduceAdd, Nat.reduceMul, Nat.reduceSub, Nat.reduceDiv, Nat.reduceMod, Nat.reduceLT, Nat.reduceLeDiff, Nat.reduceEqDiff, Nat.reduceBEq, Nat.reduceBNe, Int.reduceToNat, Int.reduceLT, Int.reduceLE, Int.reduceEq, Int.reduceNe, Int.reduceAdd, Int.reduceSub, Int.reduceMul, Int.reduceNeg] at ih
        exact ih
termination_by l.length - j
theorem okXM_inv {n : Nat} {x : Nat → Sl} (hi : InvS n x) (hn : n ≤ 1000000) : okXM x := fun k _ => ⟨⟨by have := (hi k).2.1; omega, (hi k).2.2⟩, (hi k).1⟩
theorem t_rall (l : List En) (hl : l.length ≤ 4611686018427387903) (e : En) (o : Int) : call ir 3 [.d (.list 6 (l.map En.cs)), .agg (e.cs.map .d), .d (.int .i64 o)] [] = some (.d (.bool true), []) := by
  have hlm : (l.map En.cs).length = l.length := List.length_map ..
  obtain ⟨b, hb, hf⟩ := t_few l hl
  have hel : ((rB e.d).length : Int) = e.d.length := by rw [rB_len]
  rw [call_eq (fn := ir3) rfl, evF_bnd]
  cases hbb : b
  · rw [hbb] at hb
    simp (maxSteps := 2000000) (disch := omega) only [go_sem, doCall, doCallQ, Nat.reduceAdd, Nat.reduceMul, Nat.reduceSub, Nat.reduceDiv, Nat.reduceMod, Nat.reduceLT, Nat.reduceLeDiff, Nat.reduceEqDiff, Nat.reduceBEq, Nat.reduceBNe, Int.reduceToNat, Int.reduceLT, Int.reduceLE, Int.reduceEq, Int.reduceNe, Int.reduceAdd, Int.reduceSub, Int.reduceMul, Int.reduceNeg, bd3, c_awake20, hb, hlm, En.cs, idxC_len, idxD_len, cs_len, av_len, map_cs, map_idx, idxC_take, idxC_drop, plain_av, plain_idx, box_idx, refs_av, owns_av, view_av, ren_av, refs_idx, owns_idx, view_idx, ren_idx, idxR_len, rs_len, Int.toNat_natCast, Nat.zero_add, chk_of]
  · rw [hbb] at hb
    obtain ⟨⟨hl40, hd200⟩, _⟩ := hf hbb
    by_cases h2 : (e.d.length : Int) > 200
    · simp (maxSteps := 2000000) (disch := omega) only [go_sem, doCall, doCallQ, Nat.reduceAdd, Nat.reduceMul, Nat.reduceSub, Nat.reduceDiv, Nat.reduceMod, Nat.reduceLT, Nat.reduceLeDiff, Nat.reduceEqDiff, Nat.reduceBEq, Nat.reduceBNe, Int.reduceToNat, Int.reduceLT, Int.reduceLE, Int.reduceEq, Int.reduceNe, Int.reduceAdd, Int.reduceSub, Int.reduceMul, Int.reduceNeg, bd3, c_awake20, hb, hlm, hel, eq_true h2, En.cs, idxC_len, idxD_len, cs_len, av_len, map_cs, map_idx, idxC_take, idxC_drop, plain_av, plain_idx, box_idx, refs_av, owns_av, view_av, ren_av, refs_idx, owns_idx, view_idx, ren_idx, idxR_len, rs_len, Int.toNat_natCast, Nat.zero_add, chk_of]
    · have hd : ∀ f ∈ l, f.d.length ≤ 1000 := fun f hf => by have := hd200 f hf; omega
      have hed : e.d.length ≤ 1000 := by omega
      have hi := invS_all l
      have hi2 := invS_oneF hi e
      have a1 := c_all l (by omega) hd
      have a2 := r_all l (by omega) hd
      have L1 := c_like (allF l) (allF l) (okXM_inv hi (by omega)) (okXM_inv hi (by omega))
      have L2 := c_like (oneF (allF l) e) (oneF (allF l) e) (okXM_inv hi2 (by omega)) (okXM_inv hi2 (by omega))
      rw [sameK_refl] at L1 L2
      have o1 := x_one (allF l) e hed
      have o2 := r_one (allF l) hi (by omega) e hed
      simp only [En.av] at o1 o2
      have f1 := c_rof l (by omega) hd o
      have f2 := c_most l (by omega) hd o
      have hle := ofL_le o l
      have f3 := c_rsame (ofL o l) (by omega) (fun f hf => hd f (ofL_own hf).1)
      have ham : ((ofL o l).map En.cs).length = (ofL o l).length := List.length_map ..
      have t0 : List.take (ofL o l).length ((ofL o l).map En.cs) = (ofL o l).map En.cs := List.take_of_length_le (by omega)
      simp (maxSteps := 2000000) (disch := omega) only [go_sem, doCall, doCallQ, Nat.reduceAdd, Nat.reduceMul, Nat.reduceSub, Nat.reduceDiv, Nat.reduceMod, Nat.reduceLT, Nat.reduceLeDiff, Nat.reduceEqDiff, Nat.reduceBEq, Nat.reduceBNe, Int.reduceToNat, Int.reduceLT, Int.reduceLE, Int.reduceEq, Int.reduceNe, Int.reduceAdd, Int.reduceSub, Int.reduceMul, Int.reduceNeg, bd3, c_awake20, hb, hlm, hel, eq_false h2, a1, a2, L1, En.cs, idxC_len, idxD_len, cs_len, av_len, map_cs, map_idx, idxC_take, idxC_drop, plain_av, plain_idx, box_idx, refs_av, owns_av, view_av, ren_av, refs_idx, owns_idx, view_idx, ren_idx, idxR_len, rs_len, Int.toNat_natCast, Nat.zero_add, chk_of]
      rw [loop_step1]
      simp (maxSteps := 2000000) (disch := omega) only [go_sem, doCall, doCallQ, Nat.reduceAdd, Nat.reduceMul, Nat.reduceSub, Nat.reduceDiv, Nat.reduceMod, Nat.reduceLT, Nat.reduceLeDiff, Nat.reduceEqDiff, Nat.reduceBEq, Nat.reduceBNe, Int.reduceToNat, Int.reduceLT, Int.reduceLE, Int.reduceEq, Int.reduceNe, Int.reduceAdd, Int.reduceSub, Int.reduceMul, Int.reduceNeg, idxC_len, idxD_len, cs_len, av_len, map_cs, map_idx, idxC_take, idxC_drop, plain_av, plain_idx, box_idx, refs_av, owns_av, view_av, ren_av, refs_idx, owns_idx, view_idx, ren_idx, idxR_len, rs_len, Int.toNat_natCast, Nat.zero_add, chk_of]
      have hlp := fun K => lp_rl (allF l) hi (by omega) l (by omega) hd e.cs o K 0 (Nat.zero_le _)
      refine (hlp _).trans ?_
      simp only [En.cs]
      simp (maxSteps := 2000000) (disch := omega) only [go_sem, doCall, doCallQ, Nat.reduceAdd, Nat.reduceMul, Nat.reduceSub, Nat.reduceDiv, Nat.reduceMod, Nat.reduceLT, Nat.reduceLeDiff, Nat.reduceEqDiff, Nat.reduceBEq, Nat.reduceBNe, Int.reduceToNat, Int.reduceLT, Int.reduceLE, Int.reduceEq, Int.reduceNe, Int.reduceAdd, Int.reduceSub, Int.reduceMul, Int.reduceNeg, o1, o2, L2, f1, f2, f3, ham, t0, Nat.le_refl, List.drop_zero, En.cs, idxC_len, idxD_len, cs_len, av_len, map_cs, map_idx, idxC_take, idxC_drop, plain_av, plain_idx, box_idx, refs_av, owns_av, view_av, ren_av, refs_idx, owns_idx, view_idx, ren_idx, idxR_len, rs_len, Int.toNat_natCast, Nat.zero_add, chk_of]
end Go.Proofs.YtoipfdbdifoecaaGreatDoor
