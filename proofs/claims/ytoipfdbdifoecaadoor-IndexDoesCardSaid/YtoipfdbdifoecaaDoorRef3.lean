/- The document's index: a slice. Own work. -/
import Derived.Test.YtoipfdbdifoecaaDoorRef2
namespace Go.Proofs.YtoipfdbdifoecaaDoor
open Go Go.Ev Go.Proofs.YtoipfdbdifoecaaDoor.Ir
set_option maxRecDepth 100000
set_option maxHeartbeats 4000000
set_option linter.unusedSimpArgs false
set_option linter.unusedVariables false
theorem putM_le (i : Int) (v : Int × Int) : ∀ l : List (Int × Int × Int), (putM i v l).length ≤ l.length + 1
  | [] => Nat.le_refl _
  | (a, d) :: l => by
    have := putM_le i v l
    rw [putM]
    split
    · simp
    · split
      · simp
      · simp only [List.length_cons]; omega
theorem r_piece (x : Nat → Sl) (k : Nat) (hk : k < 16) (hs : SrtM (pmK (x k).pm)) (hL : (pmK (x k).pm).length ≤ 100000) (gen i a1 a2 : Int) : call ir 18 [.ptr 0 0, .d (.int .i64 k), .d (.int .i64 gen), .d (.int .i64 i), .agg [.d (.int .i64 a1), .d (.int .i64 a2)]] [.dbox (idxR x)] =
    some (.tup [], [.dbox (idxR (xs x k (pie (x k) gen i a1 a2)))]) := by
  have h0 := eq_true (show (0 : Int) ≤ k by omega); have h1 := eq_true (show (k : Int) < 16 by omega); have n0 := eq_false (show ¬ (k : Int) < 0 by omega); have n1 := eq_false (show ¬ (15 : Int) < k by omega); have hg := get_idr x k hk
  have gb := at_b x k hk
  have gg := at_g x k hk
  have gs := at_sl x k hk
  have hb12 : k * 12 < 192 := by omega
  have hm := pmR_len (pmK (x k).pm)
  rw [call_eq (fn := ir18) rfl, evF_bnd]
  cases c1 : (x k).b
  · have e : pie (x k) gen i a1 a2 = x k := if_pos (.inl c1)
    rw [e, xs_id]
    simp (disch := omega) only [go_sem, doCall, doCallQ, Nat.reduceAdd, Nat.reduceMul, Nat.reduceSub, Nat.reduceDiv, Nat.reduceMod, Nat.reduceLT, Nat.reduceLeDiff, Nat.reduceEqDiff, Nat.reduceBEq, Nat.reduceBNe, Int.reduceToNat, Int.reduceLT, Int.reduceLE, Int.reduceEq, Int.reduceNe, Int.reduceAdd, Int.reduceSub, Int.reduceMul, Int.reduceNeg, bd18, h0, h1, n0, n1, gb, gg, c1, idxR_len, rs_len, Int.toNat_natCast, Nat.zero_add, Nat.add_zero, chk_of]
  · by_cases c2 : (x k).g = gen
    case neg =>
      have e : pie (x k) gen i a1 a2 = x k := if_pos (.inr (.inl c2))
      rw [e, xs_id]
      simp (disch := omega) only [go_sem, doCall, doCallQ, Nat.reduceAdd, Nat.reduceMul, Nat.reduceSub, Nat.reduceDiv, Nat.reduceMod, Nat.reduceLT, Nat.reduceLeDiff, Nat.reduceEqDiff, Nat.reduceBEq, Nat.reduceBNe, Int.reduceToNat, Int.reduceLT, Int.reduceLE, Int.reduceEq, Int.reduceNe, Int.reduceAdd, Int.reduceSub, Int.reduceMul, Int.reduceNeg, bd18, h0, h1, n0, n1, gb, gg, c1, eq_false c2, idxR_len, rs_len, Int.toNat_natCast, Nat.zero_add, Nat.add_zero, chk_of]
    by_cases c3 : i < 0
    · have e : pie (x k) gen i a1 a2 = x k := if_pos (.inr (.inr (.inl c3)))
      rw [e, xs_id]
      simp (disch := omega) only [go_sem, doCall, doCallQ, Nat.reduceAdd, Nat.reduceMul, Nat.reduceSub, Nat.reduceDiv, Nat.reduceMod, Nat.reduceLT, Nat.reduceLeDiff, Nat.reduceEqDiff, Nat.reduceBEq, Nat.reduceBNe, Int.reduceToNat, Int.reduceLT, Int.reduceLE, Int.reduceEq, Int.reduceNe, Int.reduceAdd, Int.reduceSub, Int.reduceMul, Int.reduceNeg, bd18, h0, h1, n0, n1, gb, gg, c1, eq_true c2, eq_true c3, idxR_len, rs_len, Int.toNat_natCast, Nat.zero_add, Nat.add_zero, chk_of]
    · by_cases c4 : i > 4096
      · have e : pie (x k) gen i a1 a2 = x k := if_pos (.inr (.inr (.inr c4)))
        rw [e, xs_id]
        simp (disch := omega) only [go_sem, doCall, doCallQ, Nat.reduceAdd, Nat.reduceMul, Nat.reduceSub, Nat.reduceDiv, Nat.reduceMod, Nat.reduceLT, Nat.reduceLeDiff, Nat.reduceEqDiff, Nat.reduceBEq, Nat.reduceBNe, Int.reduceToNat, Int.reduceLT, Int.reduceLE, Int.reduceEq, Int.reduceNe, Int.reduceAdd, Int.reduceSub, Int.reduceMul, Int.reduceNeg, bd18, h0, h1, n0, n1, gb, gg, c1, eq_true c2, eq_false c3, eq_true c4, idxR_len, rs_len, Int.toNat_natCast, Nat.zero_add, Nat.add_zero, chk_of]
      · have e : pie (x k) gen i a1 a2 = { x k with pm := some (putM i (a1, a2) (pmK (x k).pm)) } := by
          unfold pie
          rw [if_neg (by simp only [not_or]; exact ⟨by simp [c1], by simp [c2], c3, c4⟩)]
          cases (x k).pm <;> rfl
        have hp := put_sl x (putM i (a1, a2) (pmK (x k).pm)) k hk
        rw [e, ← hp]
        have hw : ((0 : Nat) : Int) = 0 := rfl
        simp (disch := omega) only [go_sem, doCall, doCallQ, Nat.reduceAdd, Nat.reduceMul, Nat.reduceSub, Nat.reduceDiv, Nat.reduceMod, Nat.reduceLT, Nat.reduceLeDiff, Nat.reduceEqDiff, Nat.reduceBEq, Nat.reduceBNe, Int.reduceToNat, Int.reduceLT, Int.reduceLE, Int.reduceEq, Int.reduceNe, Int.reduceAdd, Int.reduceSub, Int.reduceMul, Int.reduceNeg, bd18, h0, h1, n0, n1, gb, gg, gs, c1, eq_true c2, eq_false c3, eq_false c4, hm, idxR_len, rs_len, Int.toNat_natCast, Nat.zero_add, Nat.add_zero, chk_of]
        rw [loop_step1]
        simp only [go_sem, doCall, doCallQ, Nat.reduceAdd, Nat.reduceMul, Nat.reduceSub, Nat.reduceDiv, Nat.reduceMod, Nat.reduceLT, Nat.reduceLeDiff, Nat.reduceEqDiff, Nat.reduceBEq, Nat.reduceBNe, Int.reduceToNat, Int.reduceLT, Int.reduceLE, Int.reduceEq, Int.reduceNe, Int.reduceAdd, Int.reduceSub, Int.reduceMul, Int.reduceNeg]
        refine (lp_rp _ _ i a1 a2 (pmK (x k).pm) hL _ 0 (Nat.zero_le _) [] false (Nat.le_refl _)).trans ?_
        simp only [List.drop_zero]
        rcases stp_put i (a1, a2) (pmK (x k).pm) [] hs with ⟨q1, q2⟩ | ⟨q1, q2⟩
        · rw [q1, q2]
          simp only [List.nil_append]
          have l1 := pmR_len (putM i (a1, a2) (pmK (x k).pm))
          have t1 : List.take (putM i (a1, a2) (pmK (x k).pm)).length (pmR (putM i (a1, a2) (pmK (x k).pm))) = pmR (putM i (a1, a2) (pmK (x k).pm)) := List.take_of_length_le (by omega)
          simp (disch := omega) only [go_sem, doCall, doCallQ, Nat.reduceAdd, Nat.reduceMul, Nat.reduceSub, Nat.reduceDiv, Nat.reduceMod, Nat.reduceLT, Nat.reduceLeDiff, Nat.reduceEqDiff, Nat.reduceBEq, Nat.reduceBNe, Int.reduceToNat, Int.reduceLT, Int.reduceLE, Int.reduceEq, Int.reduceNe, Int.reduceAdd, Int.reduceSub, Int.reduceMul, Int.reduceNeg, h0, h1, l1, t1, Nat.le_refl, List.drop_zero, idxR_len, rs_len, Int.toNat_natCast, Nat.zero_add, Nat.add_zero, chk_of]
        · rw [q1]
          simp only [List.nil_append] at q2
          generalize ((pmK (x k).pm).foldl (stp i (a1, a2)) ([], false)).1 = R at q2
          have l0 := pmR_len R
          have l1 : (pmR R ++ [[D.int .i64 i, .int .i64 a1, .int .i64 a2]]).length = R.length + 1 := by simp [l0]
          have t0 : List.take R.length (pmR R) = pmR R := List.take_of_length_le (by omega)
          have t1 : List.take (R.length + 1) (pmR R ++ [[D.int .i64 i, .int .i64 a1, .int .i64 a2]]) = pmR R ++ [[D.int .i64 i, .int .i64 a1, .int .i64 a2]] := List.take_of_length_le (by omega)
          have hlen : R.length + 1 = (putM i (a1, a2) (pmK (x k).pm)).length := by rw [← q2]; simp
          have c5 := eq_true (show (R.length + 1) * 24 ≤ 70368744177664 by have := putM_le i (a1, a2) (pmK (x k).pm); omega)
          have q3 : pmR R ++ [[D.int .i64 i, .int .i64 a1, .int .i64 a2]] = pmR (putM i (a1, a2) (pmK (x k).pm)) := by rw [← q2, pmR_app]; rfl
          simp (disch := omega) only [go_sem, doCall, doCallQ, Nat.reduceAdd, Nat.reduceMul, Nat.reduceSub, Nat.reduceDiv, Nat.reduceMod, Nat.reduceLT, Nat.reduceLeDiff, Nat.reduceEqDiff, Nat.reduceBEq, Nat.reduceBNe, Int.reduceToNat, Int.reduceLT, Int.reduceLE, Int.reduceEq, Int.reduceNe, Int.reduceAdd, Int.reduceSub, Int.reduceMul, Int.reduceNeg, h0, h1, l0, l1, t0, t1, c5, Nat.le_refl, List.drop_zero, idxR_len, rs_len, Int.toNat_natCast, Nat.zero_add, Nat.add_zero, chk_of]
          rw [q3]
/-- An object that may not be. -/
theorem r_out (x : Nat → Sl) (o : Int) (ho : ¬ (0 ≤ o ∧ o < 16)) (g i a1 a2 : Int) (tag : List UInt8) (len tick : Int) :
    call ir 20 [.ptr 0 0, .agg [.d (.int .i64 o), .d (.int .i64 g), .d (.str tag), .d (.int .i64 len), .d (.int .i64 tick)], .agg [.d (.int .i64 a1), .d (.int .i64 a2)]] [.dbox (idxR x)] = some (.tup [], [.dbox (idxR x)]) ∧
    call ir 19 [.ptr 0 0, .d (.int .i64 o), .d (.int .i64 g), .agg [.d (.int .i64 a1), .d (.int .i64 a2)]] [.dbox (idxR x)] = some (.tup [], [.dbox (idxR x)]) ∧
    call ir 18 [.ptr 0 0, .d (.int .i64 o), .d (.int .i64 g), .d (.int .i64 i), .agg [.d (.int .i64 a1), .d (.int .i64 a2)]] [.dbox (idxR x)] = some (.tup [], [.dbox (idxR x)]) := by
  by_cases c1 : o < 0
  · refine ⟨?_, ?_, ?_⟩
    · rw [call_eq (fn := ir20) rfl, evF_bnd]; simp (disch := omega) only [go_sem, doCall, doCallQ, Nat.reduceAdd, Nat.reduceMul, Nat.reduceSub, Nat.reduceDiv, Nat.reduceMod, Nat.reduceLT, Nat.reduceLeDiff, Nat.reduceEqDiff, Nat.reduceBEq, Nat.reduceBNe, Int.reduceToNat, Int.reduceLT, Int.reduceLE, Int.reduceEq, Int.reduceNe, Int.reduceAdd, Int.reduceSub, Int.reduceMul, Int.reduceNeg, bd20, eq_true c1, idxR_len, rs_len, Int.toNat_natCast, Nat.zero_add, Nat.add_zero, chk_of]
    · rw [call_eq (fn := ir19) rfl, evF_bnd]; simp (disch := omega) only [go_sem, doCall, doCallQ, Nat.reduceAdd, Nat.reduceMul, Nat.reduceSub, Nat.reduceDiv, Nat.reduceMod, Nat.reduceLT, Nat.reduceLeDiff, Nat.reduceEqDiff, Nat.reduceBEq, Nat.reduceBNe, Int.reduceToNat, Int.reduceLT, Int.reduceLE, Int.reduceEq, Int.reduceNe, Int.reduceAdd, Int.reduceSub, Int.reduceMul, Int.reduceNeg, bd19, eq_true c1, idxR_len, rs_len, Int.toNat_natCast, Nat.zero_add, Nat.add_zero, chk_of]
    · rw [call_eq (fn := ir18) rfl, evF_bnd]; simp (disch := omega) only [go_sem, doCall, doCallQ, Nat.reduceAdd, Nat.reduceMul, Nat.reduceSub, Nat.reduceDiv, Nat.reduceMod, Nat.reduceLT, Nat.reduceLeDiff, Nat.reduceEqDiff, Nat.reduceBEq, Nat.reduceBNe, Int.reduceToNat, Int.reduceLT, Int.reduceLE, Int.reduceEq, Int.reduceNe, Int.reduceAdd, Int.reduceSub, Int.reduceMul, Int.reduceNeg, bd18, eq_true c1, idxR_len, rs_len, Int.toNat_natCast, Nat.zero_add, Nat.add_zero, chk_of]
  · have c2 : 15 < o := by omega
    refine ⟨?_, ?_, ?_⟩
    · rw [call_eq (fn := ir20) rfl, evF_bnd]; simp (disch := omega) only [go_sem, doCall, doCallQ, Nat.reduceAdd, Nat.reduceMul, Nat.reduceSub, Nat.reduceDiv, Nat.reduceMod, Nat.reduceLT, Nat.reduceLeDiff, Nat.reduceEqDiff, Nat.reduceBEq, Nat.reduceBNe, Int.reduceToNat, Int.reduceLT, Int.reduceLE, Int.reduceEq, Int.reduceNe, Int.reduceAdd, Int.reduceSub, Int.reduceMul, Int.reduceNeg, bd20, eq_false c1, eq_true c2, idxR_len, rs_len, Int.toNat_natCast, Nat.zero_add, Nat.add_zero, chk_of]
    · rw [call_eq (fn := ir19) rfl, evF_bnd]; simp (disch := omega) only [go_sem, doCall, doCallQ, Nat.reduceAdd, Nat.reduceMul, Nat.reduceSub, Nat.reduceDiv, Nat.reduceMod, Nat.reduceLT, Nat.reduceLeDiff, Nat.reduceEqDiff, Nat.reduceBEq, Nat.reduceBNe, Int.reduceToNat, Int.reduceLT, Int.reduceLE, Int.reduceEq, Int.reduceNe, Int.reduceAdd, Int.reduceSub, Int.reduceMul, Int.reduceNeg, bd19, eq_false c1, eq_true c2, idxR_len, rs_len, Int.toNat_natCast, Nat.zero_add, Nat.add_zero, chk_of]
    · rw [call_eq (fn := ir18) rfl, evF_bnd]; simp (disch := omega) only [go_sem, doCall, doCallQ, Nat.reduceAdd, Nat.reduceMul, Nat.reduceSub, Nat.reduceDiv, Nat.reduceMod, Nat.reduceLT, Nat.reduceLeDiff, Nat.reduceEqDiff, Nat.reduceBEq, Nat.reduceBNe, Int.reduceToNat, Int.reduceLT, Int.reduceLE, Int.reduceEq, Int.reduceNe, Int.reduceAdd, Int.reduceSub, Int.reduceMul, Int.reduceNeg, bd18, eq_false c1, eq_true c2, idxR_len, rs_len, Int.toNat_natCast, Nat.zero_add, Nat.add_zero, chk_of]
end Go.Proofs.YtoipfdbdifoecaaDoor
