/- What a deed is, among the arguments. Own work. IndexDoes and IndexSame, behind the loops. Own work. -/
import Derived.Test.YtoipfdbdifoecaaDoorMad
import Derived.Test.YtoipfdbdifoecaaDoorLik3
namespace Go.Proofs.YtoipfdbdifoecaaDoor
open Go Go.Ev Go.Proofs.YtoipfdbdifoecaaDoor.Ir
set_option maxRecDepth 100000
set_option linter.unusedSimpArgs false
set_option linter.unusedVariables false
abbrev deSh : Sh := .i .i64 (.i .i64 (.i .i64 (.s (.i .i64 (.i .i64 (.i .i64 (.i .i64 (.i .i64 .nil))))))))
theorem de_of {q : List D} (h : deSh.ok q) : ∃ d : De, q = d.cs := by
  obtain ⟨a1, _, rfl, _, _, h⟩ := ok_i h
  obtain ⟨a2, _, rfl, _, _, h⟩ := ok_i h
  obtain ⟨a3, _, rfl, _, _, h⟩ := ok_i h
  obtain ⟨a4, _, rfl, _, h⟩ := ok_s h
  obtain ⟨a5, _, rfl, _, _, h⟩ := ok_i h
  obtain ⟨a6, _, rfl, _, _, h⟩ := ok_i h
  obtain ⟨a7, _, rfl, _, _, h⟩ := ok_i h
  obtain ⟨a8, _, rfl, _, _, h⟩ := ok_i h
  obtain ⟨a9, _, rfl, _, _, h⟩ := ok_i h
  obtain rfl := ok_n h
  exact ⟨⟨a1, a2, a3, a4, a5, a6, a7, a8, a9⟩, rfl⟩
theorem des_of {xs : List (List D)} (h : ∀ q, q ∈ xs → deSh.ok q) : ∃ l : List De, xs = l.map De.cs := by
  obtain ⟨l, hl, _⟩ := rows_map (f := De.cs) (R := fun _ => True) (fun q h => by obtain ⟨d, hd⟩ := de_of h; exact ⟨d, hd, trivial⟩) h
  exact ⟨l, hl⟩
end Go.Proofs.YtoipfdbdifoecaaDoor
namespace Go.Proofs.YtoipfdbdifoecaaDoor
open Go Go.Ev Go.Proofs.YtoipfdbdifoecaaDoor.Ir
set_option maxRecDepth 100000
set_option maxHeartbeats 8000000
set_option linter.unusedSimpArgs false
set_option linter.unusedVariables false
theorem c_awake19 : call ir 5 [] [] = some (.d (.bool true), []) := call_of (n := 200) (by kernel_rfl)
theorem okXM_md (l : List De) (h : l.length ≤ 1000) : okXM (mdF l) := fun k _ => by
  have := invS_fold l InvS.start k
  exact ⟨⟨by have := this.2.1; unfold mdF; omega, this.2.2⟩, this.1⟩
theorem c_atS (x : Nat → Sl) (o i : Int) : call ir 7 [.agg (idxD x), .d (.int .i64 o), .d (.int .i64 i)] [] =
    some (.tup [.agg [.d (.int .i64 ((findM i (pmK (slF x o).pm)).getD (0, 0)).1), .d (.int .i64 ((findM i (pmK (slF x o).pm)).getD (0, 0)).2)], .d (.bool (findM i (pmK (slF x o).pm)).isSome)], []) := by
  rw [c_at, atF, pmK_pmL]
theorem lp_does (x : Nat → Sl) (hx : okXM x) (k : Nat) (hk : k < 16) (i a1 a2 : Int) (b : Bool) (hb : b = (findM i (pmK (x k).pm)).isSome) (h1 : a1 = ((findM i (pmK (x k).pm)).getD (0, 0)).1) (h2 : a2 = ((findM i (pmK (x k).pm)).getD (0, 0)).2)
    (j : Nat) (hj : j ≤ (pmK (x k).pm).length) (hn : ∀ p ∈ (pmK (x k).pm).take j, p.1 ≠ i) :
    bnd (evC (call ir) (loop ir) lp3_0 (st3_0 0 (.d (.int .i64 i)) (.ptr 0 0) (.ptr 1 0) (.ptr 2 0) (.d (.bool b)) (.d (.list 3 (pmR (pmK (x k).pm)))) (.d (.int .i64 (pmK (x k).pm).length)) (.d (.int .i64 j)) [.dbox (idxC x), .dbox (idxR x), .dbox [.int .i64 a1, .int .i64 a2]]))
      (lpC (call ir) (loop ir) [2, 7, 8, 9, 10, 54, 55, 56] lp3_0 (bk 0 (sq (call ir) (loop ir) (.seq (.reg [⟨some 77, none, .ld (.s 7) 192 true, .none⟩, ⟨some 78, none, .mv (.s 8), .none⟩, ⟨some 79, none, .call 8 [.s 77, .s 78] 0, .none⟩, ⟨some 80, none, .mv (.s 79), .none⟩, ⟨some 81, some (80, true), .mv (.s 10), .none⟩, ⟨some 82, some (80, true), .un .not (.s 81), .none⟩, ⟨some 83, none, .pick (.s 80) (.s 82) (.c (.d (.bool false))), .none⟩, ⟨some 6, none, .mv (.s 83), .none⟩]) (.ret none)) (fin ir3)))) =
    some (.d (.bool true), []) := by
  have hl := pmR_len (pmK (x k).pm)
  have hL := c_like x x hx hx
  rw [sameK_refl] at hL
  have hlen := (hx k hk).1.1
  by_cases hz : j = (pmK (x k).pm).length
  · have e1 := eq_false (show ¬ (j : Int) < ((pmK (x k).pm).length : Nat) by omega)
    have hf : findM i (pmK (x k).pm) = none := findM_none (by rw [hz, List.take_of_length_le (Nat.le_refl _)] at hn; exact hn)
    rw [hf] at hb
    simp only [Option.isSome_none] at hb
    subst hb
    simp (maxSteps := 2000000) (disch := omega) only [go_sem, doCall, doCallQ, Nat.reduceAdd, Nat.reduceMul, Nat.reduceSub, Nat.reduceDiv, Nat.reduceMod, Nat.reduceLT, Nat.reduceLeDiff, Nat.reduceEqDiff, Nat.reduceBEq, Nat.reduceBNe, Int.reduceToNat, Int.reduceLT, Int.reduceLE, Int.reduceEq, Int.reduceNe, Int.reduceAdd, Int.reduceSub, Int.reduceMul, Int.reduceNeg, u3_0, lb3_0, e1, hL, idxC_len, idxD_len, cs_len, av_len, map_cs, map_idx, idxC_take, idxC_drop, plain_av, plain_idx, box_idx, refs_av, owns_av, view_av, ren_av, refs_idx, owns_idx, view_idx, ren_idx, idxR_len, rs_len, Int.toNat_natCast, Nat.zero_add, chk_of]
  · have hj' : j < (pmK (x k).pm).length := by omega
    have e1 := eq_true (show (j : Int) < ((pmK (x k).pm).length : Nat) by omega)
    have hw := wr_succ (i := j) (by omega)
    have hr := pmR_get (pmK (x k).pm) hj'
    by_cases c : (pmK (x k).pm)[j].1 = i
    · have hf := findM_get (hx k hk).2 hj'
      rw [c] at hf
      rw [hf] at hb h1 h2
      simp only [Option.isSome_some, Option.getD_some] at hb h1 h2
      subst hb
      rw [h1, h2]
      simp (maxSteps := 2000000) (disch := omega) only [go_sem, doCall, doCallQ, Nat.reduceAdd, Nat.reduceMul, Nat.reduceSub, Nat.reduceDiv, Nat.reduceMod, Nat.reduceLT, Nat.reduceLeDiff, Nat.reduceEqDiff, Nat.reduceBEq, Nat.reduceBNe, Int.reduceToNat, Int.reduceLT, Int.reduceLE, Int.reduceEq, Int.reduceNe, Int.reduceAdd, Int.reduceSub, Int.reduceMul, Int.reduceNeg, u3_0, lb3_0, e1, hr, hl, eq_true c, hL, beq_self_eq_true, Bool.and_self, idxC_len, idxD_len, cs_len, av_len, map_cs, map_idx, idxC_take, idxC_drop, plain_av, plain_idx, box_idx, refs_av, owns_av, view_av, ren_av, refs_idx, owns_idx, view_idx, ren_idx, idxR_len, rs_len, Int.toNat_natCast, Nat.zero_add, chk_of]
    · have ih := lp_does x hx k hk i a1 a2 b hb h1 h2 (j + 1) (by omega) (fun p hp => by
        rw [List.take_add_one, List.getElem?_eq_getElem hj'] at hp
        rcases List.mem_append.1 hp with hp | hp
        · exact hn p hp
        · simp at hp; rw [hp]; exact c)
      simp (maxSteps := 2000000) (disch := omega) only [go_sem, doCall, doCallQ, Nat.reduceAdd, Nat.reduceMul, Nat.reduceSub, Nat.reduceDiv, Nat.reduceMod, Nat.reduceLT, Nat.reduceLeDiff, Nat.reduceEqDiff, Nat.reduceBEq, Nat.reduceBNe, Int.reduceToNat, Int.reduceLT, Int.reduceLE, Int.reduceEq, Int.reduceNe, Int.reduceAdd, Int.reduceSub, Int.reduceMul, Int.reduceNeg, u3_0, lb3_0, e1, hr, hl, eq_false c, idxC_len, idxD_len, cs_len, av_len, map_cs, map_idx, idxC_take, idxC_drop, plain_av, plain_idx, box_idx, refs_av, owns_av, view_av, ren_av, refs_idx, owns_idx, view_idx, ren_idx, idxR_len, rs_len, Int.toNat_natCast, Nat.zero_add, chk_of]
      rw [loop_step1]
      simp (maxSteps := 2000000) (disch := omega) only [go_sem, doCall, doCallQ, Nat.reduceAdd, Nat.reduceMul, Nat.reduceSub, Nat.reduceDiv, Nat.reduceMod, Nat.reduceLT, Nat.reduceLeDiff, Nat.reduceEqDiff, Nat.reduceBEq, Nat.reduceBNe, Int.reduceToNat, Int.reduceLT, Int.reduceLE, Int.reduceEq, Int.reduceNe, Int.reduceAdd, Int.reduceSub, Int.reduceMul, Int.reduceNeg, hw, idxC_len, idxD_len, cs_len, av_len, map_cs, map_idx, idxC_take, idxC_drop, plain_av, plain_idx, box_idx, refs_av, owns_av, view_av, ren_av, refs_idx, owns_idx, view_idx, ren_idx, idxR_len, rs_len, Int.toNat_natCast, Nat.zero_add, chk_of]
      try simp (maxSteps := 2000000) only [go_sem, doCall, doCallQ, Nat.reduceAdd, Nat.reduceMul, Nat.reduceSub, Nat.reduceDiv, Nat.reduceMod, Nat.reduceLT, Nat.reduceLeDiff, Nat.reduceEqDiff, Nat.reduceBEq, Nat.reduceBNe, Int.reduceToNat, Int.reduceLT, Int.reduceLE, Int.reduceEq, Int.reduceNe, Int.reduceAdd, Int.reduceSub, Int.reduceMul, Int.reduceNeg] at ih
      exact ih
termination_by (pmK (x k).pm).length - j
theorem t_does (l : List De) (hl : l.length ≤ 4611686018427387903) (o i : Int) : call ir 3 [.d (.list 9 (l.map De.cs)), .d (.int .i64 o), .d (.int .i64 i)] [] = some (.d (.bool true), []) := by
  have hlm : (l.map De.cs).length = l.length := List.length_map ..
  rw [call_eq (fn := ir3) rfl, evF_bnd]
  by_cases h : (l.length : Int) > 60
  · simp (maxSteps := 2000000) (disch := omega) only [go_sem, doCall, doCallQ, Nat.reduceAdd, Nat.reduceMul, Nat.reduceSub, Nat.reduceDiv, Nat.reduceMod, Nat.reduceLT, Nat.reduceLeDiff, Nat.reduceEqDiff, Nat.reduceBEq, Nat.reduceBNe, Int.reduceToNat, Int.reduceLT, Int.reduceLE, Int.reduceEq, Int.reduceNe, Int.reduceAdd, Int.reduceSub, Int.reduceMul, Int.reduceNeg, bd3, c_awake19, hlm, eq_true h]
  · have m1 := c_made l (by omega)
    have hx := okXM_md l (by omega)
    have ha := c_atS (mdF l) o i
    have hL := c_like (mdF l) (mdF l) hx hx
    rw [sameK_refl] at hL
    have t0 : List.take l.length (l.map De.cs) = l.map De.cs := List.take_of_length_le (by omega)
    by_cases h0 : o < 0
    · have hs : slF (mdF l) o = S0 := by unfold slF; rw [if_neg (by omega)]
      rw [hs] at ha
      simp only [S0, pmK, findM, Option.isSome_none, Option.getD_none] at ha
      simp (maxSteps := 2000000) (disch := omega) only [go_sem, doCall, doCallQ, Nat.reduceAdd, Nat.reduceMul, Nat.reduceSub, Nat.reduceDiv, Nat.reduceMod, Nat.reduceLT, Nat.reduceLeDiff, Nat.reduceEqDiff, Nat.reduceBEq, Nat.reduceBNe, Int.reduceToNat, Int.reduceLT, Int.reduceLE, Int.reduceEq, Int.reduceNe, Int.reduceAdd, Int.reduceSub, Int.reduceMul, Int.reduceNeg, bd3, c_awake19, hlm, eq_false h, m1, ha, hL, eq_true h0, t0, Nat.le_refl, List.drop_zero, beq_self_eq_true, Bool.and_self, idxC_len, idxD_len, cs_len, av_len, map_cs, map_idx, idxC_take, idxC_drop, plain_av, plain_idx, box_idx, refs_av, owns_av, view_av, ren_av, refs_idx, owns_idx, view_idx, ren_idx, idxR_len, rs_len, Int.toNat_natCast, Nat.zero_add, chk_of]
    · by_cases h15 : 15 < o
      · have hs : slF (mdF l) o = S0 := by unfold slF; rw [if_neg (by omega)]
        rw [hs] at ha
        simp only [S0, pmK, findM, Option.isSome_none, Option.getD_none] at ha
        simp (maxSteps := 2000000) (disch := omega) only [go_sem, doCall, doCallQ, Nat.reduceAdd, Nat.reduceMul, Nat.reduceSub, Nat.reduceDiv, Nat.reduceMod, Nat.reduceLT, Nat.reduceLeDiff, Nat.reduceEqDiff, Nat.reduceBEq, Nat.reduceBNe, Int.reduceToNat, Int.reduceLT, Int.reduceLE, Int.reduceEq, Int.reduceNe, Int.reduceAdd, Int.reduceSub, Int.reduceMul, Int.reduceNeg, bd3, c_awake19, hlm, eq_false h, m1, ha, hL, eq_false h0, eq_true h15, t0, Nat.le_refl, List.drop_zero, beq_self_eq_true, Bool.and_self, idxC_len, idxD_len, cs_len, av_len, map_cs, map_idx, idxC_take, idxC_drop, plain_av, plain_idx, box_idx, refs_av, owns_av, view_av, ren_av, refs_idx, owns_idx, view_idx, ren_idx, idxR_len, rs_len, Int.toNat_natCast, Nat.zero_add, chk_of]
      · obtain ⟨k, rfl⟩ : ∃ k : Nat, o = k := ⟨o.toNat, by omega⟩
        have hk : k < 16 := by omega
        have e1 := eq_true (show (0 : Int) ≤ k by omega)
        have e2 := eq_true (show (k : Int) < 16 by omega)
        have sx := slF_in (mdF l) hk
        rw [sx] at ha
        have gs := at_sl (mdF l) k hk
        have hb12 : k * 12 < 192 := by omega
        have hpl := pmR_len (pmK (mdF l k).pm)
        simp (maxSteps := 2000000) (disch := omega) only [go_sem, doCall, doCallQ, Nat.reduceAdd, Nat.reduceMul, Nat.reduceSub, Nat.reduceDiv, Nat.reduceMod, Nat.reduceLT, Nat.reduceLeDiff, Nat.reduceEqDiff, Nat.reduceBEq, Nat.reduceBNe, Int.reduceToNat, Int.reduceLT, Int.reduceLE, Int.reduceEq, Int.reduceNe, Int.reduceAdd, Int.reduceSub, Int.reduceMul, Int.reduceNeg, bd3, c_awake19, hlm, eq_false h, m1, ha, eq_false h0, eq_false h15, e1, e2, gs, hpl, t0, Nat.le_refl, List.drop_zero, beq_self_eq_true, Bool.and_self, idxC_len, idxD_len, cs_len, av_len, map_cs, map_idx, idxC_take, idxC_drop, plain_av, plain_idx, box_idx, refs_av, owns_av, view_av, ren_av, refs_idx, owns_idx, view_idx, ren_idx, idxR_len, rs_len, Int.toNat_natCast, Nat.zero_add, chk_of]
        rw [loop_step1]
        simp (maxSteps := 2000000) (disch := omega) only [go_sem, doCall, doCallQ, Nat.reduceAdd, Nat.reduceMul, Nat.reduceSub, Nat.reduceDiv, Nat.reduceMod, Nat.reduceLT, Nat.reduceLeDiff, Nat.reduceEqDiff, Nat.reduceBEq, Nat.reduceBNe, Int.reduceToNat, Int.reduceLT, Int.reduceLE, Int.reduceEq, Int.reduceNe, Int.reduceAdd, Int.reduceSub, Int.reduceMul, Int.reduceNeg, idxC_len, idxD_len, cs_len, av_len, map_cs, map_idx, idxC_take, idxC_drop, plain_av, plain_idx, box_idx, refs_av, owns_av, view_av, ren_av, refs_idx, owns_idx, view_idx, ren_idx, idxR_len, rs_len, Int.toNat_natCast, Nat.zero_add, chk_of]
        exact lp_does (mdF l) hx k hk i _ _ _ rfl rfl rfl 0 (Nat.zero_le _) (fun p hp => by simp at hp)
end Go.Proofs.YtoipfdbdifoecaaDoor
