/- What an index tells. Own work. -/
import Derived.Test.YtoipfdbdifoecaaDoorSame
namespace Go.Proofs.YtoipfdbdifoecaaDoor
open Go Go.Ev Go.Proofs.YtoipfdbdifoecaaDoor.Ir
set_option maxRecDepth 100000
set_option maxHeartbeats 4000000
set_option linter.unusedSimpArgs false
set_option linter.unusedVariables false
def slF (x : Nat → Sl) (o : Int) : Sl := if 0 ≤ o ∧ o < 16 then x o.toNat else S0
theorem c_slot (x : Nat → Sl) (o : Int) : call ir 21 [.agg (idxD x), .d (.int .i64 o)] [] = some (.agg (slF x o).av, []) := by
  rw [call_eq (fn := ir21) rfl, evF_bnd]
  by_cases h : 0 ≤ o ∧ o < 16
  · have h2 : o = (o.toNat : Int) := by omega
    have hk : o.toNat < 16 := by omega
    have hm := c_may16 o
    rw [decide_eq_true h] at hm
    have hg := get_idx x o.toNat hk
    have h0 := eq_true (show (0 : Int) ≤ o.toNat by omega)
    have h1 := eq_true (show (o.toNat : Int) < 16 by omega)
    simp only [slF, h, and_self, if_true]
    rw [h2] at hm ⊢
    simp only [Int.toNat_natCast] at hm ⊢
    simp (disch := omega) only [go_sem, doCall, doCallQ, Nat.reduceAdd, Nat.reduceMul, Nat.reduceSub, Nat.reduceDiv, Nat.reduceMod, Nat.reduceLT, Nat.reduceLeDiff, Nat.reduceEqDiff, Nat.reduceBEq, Nat.reduceBNe, Int.reduceToNat, Int.reduceLT, Int.reduceLE, Int.reduceEq, Int.reduceNe, Int.reduceAdd, Int.reduceSub, Int.reduceMul, Int.reduceNeg, bd21, hm, hg, h0, h1, idxC_len, idxD_len, cs_len, av_len, map_cs, map_idx, idxC_take, idxC_drop, plain_av, plain_idx, box_idx, refs_av, owns_av, view_av, ren_av, refs_idx, owns_idx, view_idx, ren_idx, Int.toNat_natCast, Nat.zero_add, chk_of]
    rfl
  · have hm := c_may16 o
    rw [decide_eq_false h] at hm
    simp only [slF, h, if_false]
    simp (disch := omega) only [go_sem, doCall, doCallQ, Nat.reduceAdd, Nat.reduceMul, Nat.reduceSub, Nat.reduceDiv, Nat.reduceMod, Nat.reduceLT, Nat.reduceLeDiff, Nat.reduceEqDiff, Nat.reduceBEq, Nat.reduceBNe, Int.reduceToNat, Int.reduceLT, Int.reduceLE, Int.reduceEq, Int.reduceNe, Int.reduceAdd, Int.reduceSub, Int.reduceMul, Int.reduceNeg, bd21, hm, idxC_len, idxD_len, cs_len, av_len, map_cs, map_idx, idxC_take, idxC_drop, plain_av, plain_idx, box_idx, refs_av, owns_av, view_av, ren_av, refs_idx, owns_idx, view_idx, ren_idx, Int.toNat_natCast, Nat.zero_add, chk_of]
    rfl
theorem c_iget (x : Nat → Sl) (o : Int) : call ir 15 [.agg (idxD x), .d (.int .i64 o)] [] =
    some (.tup [.agg [.d (.int .i64 (slF x o).o), .d (.int .i64 (slF x o).g), .d (.str (slF x o).tag), .d (.int .i64 (slF x o).len), .d (.int .i64 (slF x o).tick)], .d (.bool (slF x o).b)], []) := by
  rw [call_eq (fn := ir15) rfl, evF_bnd]
  simp (disch := omega) only [go_sem, doCall, doCallQ, Nat.reduceAdd, Nat.reduceMul, Nat.reduceSub, Nat.reduceDiv, Nat.reduceMod, Nat.reduceLT, Nat.reduceLeDiff, Nat.reduceEqDiff, Nat.reduceBEq, Nat.reduceBNe, Int.reduceToNat, Int.reduceLT, Int.reduceLE, Int.reduceEq, Int.reduceNe, Int.reduceAdd, Int.reduceSub, Int.reduceMul, Int.reduceNeg, bd15, c_slot, Sl.av, idxC_len, idxD_len, cs_len, av_len, map_cs, map_idx, idxC_take, idxC_drop, plain_av, plain_idx, box_idx, refs_av, owns_av, view_av, ren_av, refs_idx, owns_idx, view_idx, ren_idx, Int.toNat_natCast, Nat.zero_add, chk_of]
theorem c_where (x : Nat → Sl) (o : Int) : call ir 22 [.agg (idxD x), .d (.int .i64 o)] [] = some (.tup [.agg [.d (.int .i64 (slF x o).a1), .d (.int .i64 (slF x o).a2)], .d (.bool (slF x o).b)], []) := by
  rw [call_eq (fn := ir22) rfl, evF_bnd]
  simp (disch := omega) only [go_sem, doCall, doCallQ, Nat.reduceAdd, Nat.reduceMul, Nat.reduceSub, Nat.reduceDiv, Nat.reduceMod, Nat.reduceLT, Nat.reduceLeDiff, Nat.reduceEqDiff, Nat.reduceBEq, Nat.reduceBNe, Int.reduceToNat, Int.reduceLT, Int.reduceLE, Int.reduceEq, Int.reduceNe, Int.reduceAdd, Int.reduceSub, Int.reduceMul, Int.reduceNeg, bd22, c_slot, Sl.av, idxC_len, idxD_len, cs_len, av_len, map_cs, map_idx, idxC_take, idxC_drop, plain_av, plain_idx, box_idx, refs_av, owns_av, view_av, ren_av, refs_idx, owns_idx, view_idx, ren_idx, Int.toNat_natCast, Nat.zero_add, chk_of]
theorem c_tomb (x : Nat → Sl) (o : Int) : call ir 23 [.agg (idxD x), .d (.int .i64 o)] [] = some (.tup [.agg [.d (.int .i64 (slF x o).t1), .d (.int .i64 (slF x o).t2)], .d (.bool (decide (0 < (slF x o).fl)))], []) := by
  rw [call_eq (fn := ir23) rfl, evF_bnd]
  simp (disch := omega) only [go_sem, doCall, doCallQ, Nat.reduceAdd, Nat.reduceMul, Nat.reduceSub, Nat.reduceDiv, Nat.reduceMod, Nat.reduceLT, Nat.reduceLeDiff, Nat.reduceEqDiff, Nat.reduceBEq, Nat.reduceBNe, Int.reduceToNat, Int.reduceLT, Int.reduceLE, Int.reduceEq, Int.reduceNe, Int.reduceAdd, Int.reduceSub, Int.reduceMul, Int.reduceNeg, bd23, c_slot, Sl.av, idxC_len, idxD_len, cs_len, av_len, map_cs, map_idx, idxC_take, idxC_drop, plain_av, plain_idx, box_idx, refs_av, owns_av, view_av, ren_av, refs_idx, owns_idx, view_idx, ren_idx, Int.toNat_natCast, Nat.zero_add, chk_of]
theorem c_floor (x : Nat → Sl) (o : Int) : call ir 17 [.agg (idxD x), .d (.int .i64 o)] [] = some (.d (.int .i64 (slF x o).fl), []) := by
  rw [call_eq (fn := ir17) rfl, evF_bnd]
  simp (disch := omega) only [go_sem, doCall, doCallQ, Nat.reduceAdd, Nat.reduceMul, Nat.reduceSub, Nat.reduceDiv, Nat.reduceMod, Nat.reduceLT, Nat.reduceLeDiff, Nat.reduceEqDiff, Nat.reduceBEq, Nat.reduceBNe, Int.reduceToNat, Int.reduceLT, Int.reduceLE, Int.reduceEq, Int.reduceNe, Int.reduceAdd, Int.reduceSub, Int.reduceMul, Int.reduceNeg, bd17, c_slot, Sl.av, idxC_len, idxD_len, cs_len, av_len, map_cs, map_idx, idxC_take, idxC_drop, plain_av, plain_idx, box_idx, refs_av, owns_av, view_av, ren_av, refs_idx, owns_idx, view_idx, ren_idx, Int.toNat_natCast, Nat.zero_add, chk_of]
def atF (p : PM) (i : Int) : Option (Int × Int) := findM i (pmL p)
theorem c_at (x : Nat → Sl) (o i : Int) : call ir 7 [.agg (idxD x), .d (.int .i64 o), .d (.int .i64 i)] [] =
    some (.tup [.agg [.d (.int .i64 ((atF (slF x o).pm i).getD (0, 0)).1), .d (.int .i64 ((atF (slF x o).pm i).getD (0, 0)).2)], .d (.bool (atF (slF x o).pm i).isSome)], []) := by
  rw [call_eq (fn := ir7) rfl, evF_bnd]
  unfold atF
  cases hpm : (slF x o).pm with
  | none => simp (disch := omega) only [go_sem, doCall, doCallQ, Nat.reduceAdd, Nat.reduceMul, Nat.reduceSub, Nat.reduceDiv, Nat.reduceMod, Nat.reduceLT, Nat.reduceLeDiff, Nat.reduceEqDiff, Nat.reduceBEq, Nat.reduceBNe, Int.reduceToNat, Int.reduceLT, Int.reduceLE, Int.reduceEq, Int.reduceNe, Int.reduceAdd, Int.reduceSub, Int.reduceMul, Int.reduceNeg, bd7, c_slot, Sl.av, hpm, pmD, pmL, Option.isSome_none, idxC_len, idxD_len, cs_len, av_len, map_cs, map_idx, idxC_take, idxC_drop, plain_av, plain_idx, box_idx, refs_av, owns_av, view_av, ren_av, refs_idx, owns_idx, view_idx, ren_idx, Int.toNat_natCast, Nat.zero_add, chk_of]
  | some l =>
    have hf := find_mpD i l
    simp only [pmL]
    cases hq : findM i l with
    | none =>
      rw [hq] at hf
      simp only [Option.map_none] at hf
      simp (disch := omega) only [go_sem, doCall, doCallQ, Nat.reduceAdd, Nat.reduceMul, Nat.reduceSub, Nat.reduceDiv, Nat.reduceMod, Nat.reduceLT, Nat.reduceLeDiff, Nat.reduceEqDiff, Nat.reduceBEq, Nat.reduceBNe, Int.reduceToNat, Int.reduceLT, Int.reduceLE, Int.reduceEq, Int.reduceNe, Int.reduceAdd, Int.reduceSub, Int.reduceMul, Int.reduceNeg, bd7, c_slot, Sl.av, hpm, pmD, hf, Option.isSome_none, idxC_len, idxD_len, cs_len, av_len, map_cs, map_idx, idxC_take, idxC_drop, plain_av, plain_idx, box_idx, refs_av, owns_av, view_av, ren_av, refs_idx, owns_idx, view_idx, ren_idx, Int.toNat_natCast, Nat.zero_add, chk_of]
    | some p =>
      rw [hq] at hf
      simp only [Option.map_some, adD] at hf
      simp (disch := omega) only [go_sem, doCall, doCallQ, Nat.reduceAdd, Nat.reduceMul, Nat.reduceSub, Nat.reduceDiv, Nat.reduceMod, Nat.reduceLT, Nat.reduceLeDiff, Nat.reduceEqDiff, Nat.reduceBEq, Nat.reduceBNe, Int.reduceToNat, Int.reduceLT, Int.reduceLE, Int.reduceEq, Int.reduceNe, Int.reduceAdd, Int.reduceSub, Int.reduceMul, Int.reduceNeg, bd7, c_slot, Sl.av, hpm, pmD, hf, Option.isSome_some, idxC_len, idxD_len, cs_len, av_len, map_cs, map_idx, idxC_take, idxC_drop, plain_av, plain_idx, box_idx, refs_av, owns_av, view_av, ren_av, refs_idx, owns_idx, view_idx, ren_idx, Int.toNat_natCast, Nat.zero_add, chk_of]

theorem slF_in (x : Nat → Sl) {k : Nat} (hk : k < 16) : slF x k = x k := by
  have h : (0 : Int) ≤ k ∧ (k : Int) < 16 := by omega
  simp only [slF, h, and_self, if_true, Int.toNat_natCast]
end Go.Proofs.YtoipfdbdifoecaaDoor
