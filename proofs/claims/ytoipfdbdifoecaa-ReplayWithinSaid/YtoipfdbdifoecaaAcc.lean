/- What an index tells. Own work. -/
import Derived.Test.YtoipfdbdifoecaaOrder
namespace Go.Proofs.Ytoipfdbdifoecaa
open Go Go.Ev Go.Proofs.Ytoipfdbdifoecaa.Ir
set_option maxRecDepth 100000
set_option maxHeartbeats 4000000
set_option linter.unusedSimpArgs false
set_option linter.unusedVariables false
def slF (x : Nat → Sl) (o : Int) : Sl := if 0 ≤ o ∧ o < 16 then x o.toNat else S0
theorem c_slot (x : Nat → Sl) (o : Int) : call ir 40 [.agg (idxD x), .d (.int .i64 o)] [] = some (.agg (slF x o).av, []) := by
  rw [call_eq (fn := ir40) rfl, evF_bnd]
  by_cases h : 0 ≤ o ∧ o < 16
  · have h2 : o = (o.toNat : Int) := by omega
    have hk : o.toNat < 16 := by omega
    have hm := c_may16 o
    rw [decide_eq_true h] at hm
    have hg := get_idx x o.toNat hk
    have h0 := eq_true (show (0 : Int) ≤ o.toNat by omega)
    have h1 := eq_true (show (o.toNat : Int) < 16 by omega)
    simp only [slF, h, and_self, if_true]
    rw [h2] at hm ⊢
    simp only [Int.toNat_natCast] at hm ⊢
    simp (disch := omega) only [go_sem, doCall, doCallQ, Nat.reduceAdd, Nat.reduceMul, Nat.reduceSub, Nat.reduceDiv, Nat.reduceMod, Nat.reduceLT, Nat.reduceLeDiff, Nat.reduceEqDiff, Nat.reduceBEq, Nat.reduceBNe, Int.reduceToNat, Int.reduceLT, Int.reduceLE, Int.reduceEq, Int.reduceNe, Int.reduceAdd, Int.reduceSub, Int.reduceMul, Int.reduceNeg, bd40, hm, hg, h0, h1, idxC_len, idxD_len, cs_len, av_len, map_cs, map_idx, idxC_take, idxC_drop, plain_av, plain_idx, box_idx, refs_av, owns_av, view_av, ren_av, refs_idx, owns_idx, view_idx, ren_idx, Int.toNat_natCast, Nat.zero_add, chk_of]
    rfl
  · have hm := c_may16 o
    rw [decide_eq_false h] at hm
    simp only [slF, h, if_false]
    simp (disch := omega) only [go_sem, doCall, doCallQ, Nat.reduceAdd, Nat.reduceMul, Nat.reduceSub, Nat.reduceDiv, Nat.reduceMod, Nat.reduceLT, Nat.reduceLeDiff, Nat.reduceEqDiff, Nat.reduceBEq, Nat.reduceBNe, Int.reduceToNat, Int.reduceLT, Int.reduceLE, Int.reduceEq, Int.reduceNe, Int.reduceAdd, Int.reduceSub, Int.reduceMul, Int.reduceNeg, bd40, hm, idxC_len, idxD_len, cs_len, av_len, map_cs, map_idx, idxC_take, idxC_drop, plain_av, plain_idx, box_idx, refs_av, owns_av, view_av, ren_av, refs_idx, owns_idx, view_idx, ren_idx, Int.toNat_natCast, Nat.zero_add, chk_of]
    rfl
theorem c_iget (x : Nat → Sl) (o : Int) : call ir 14 [.agg (idxD x), .d (.int .i64 o)] [] =
    some (.tup [.agg [.d (.int .i64 (slF x o).o), .d (.int .i64 (slF x o).g), .d (.str (slF x o).tag), .d (.int .i64 (slF x o).len), .d (.int .i64 (slF x o).tick)], .d (.bool (slF x o).b)], []) := by
  rw [call_eq (fn := ir14) rfl, evF_bnd]
  simp (disch := omega) only [go_sem, doCall, doCallQ, Nat.reduceAdd, Nat.reduceMul, Nat.reduceSub, Nat.reduceDiv, Nat.reduceMod, Nat.reduceLT, Nat.reduceLeDiff, Nat.reduceEqDiff, Nat.reduceBEq, Nat.reduceBNe, Int.reduceToNat, Int.reduceLT, Int.reduceLE, Int.reduceEq, Int.reduceNe, Int.reduceAdd, Int.reduceSub, Int.reduceMul, Int.reduceNeg, bd14, c_slot, Sl.av, idxC_len, idxD_len, cs_len, av_len, map_cs, map_idx, idxC_take, idxC_drop, plain_av, plain_idx, box_idx, refs_av, owns_av, view_av, ren_av, refs_idx, owns_idx, view_idx, ren_idx, Int.toNat_natCast, Nat.zero_add, chk_of]
theorem c_where (x : Nat → Sl) (o : Int) : call ir 26 [.agg (idxD x), .d (.int .i64 o)] [] = some (.tup [.agg [.d (.int .i64 (slF x o).a1), .d (.int .i64 (slF x o).a2)], .d (.bool (slF x o).b)], []) := by
  rw [call_eq (fn := ir26) rfl, evF_bnd]
  simp (disch := omega) only [go_sem, doCall, doCallQ, Nat.reduceAdd, Nat.reduceMul, Nat.reduceSub, Nat.reduceDiv, Nat.reduceMod, Nat.reduceLT, Nat.reduceLeDiff, Nat.reduceEqDiff, Nat.reduceBEq, Nat.reduceBNe, Int.reduceToNat, Int.reduceLT, Int.reduceLE, Int.reduceEq, Int.reduceNe, Int.reduceAdd, Int.reduceSub, Int.reduceMul, Int.reduceNeg, bd26, c_slot, Sl.av, idxC_len, idxD_len, cs_len, av_len, map_cs, map_idx, idxC_take, idxC_drop, plain_av, plain_idx, box_idx, refs_av, owns_av, view_av, ren_av, refs_idx, owns_idx, view_idx, ren_idx, Int.toNat_natCast, Nat.zero_add, chk_of]
theorem c_tomb (x : Nat → Sl) (o : Int) : call ir 31 [.agg (idxD x), .d (.int .i64 o)] [] = some (.tup [.agg [.d (.int .i64 (slF x o).t1), .d (.int .i64 (slF x o).t2)], .d (.bool (decide (0 < (slF x o).fl)))], []) := by
  rw [call_eq (fn := ir31) rfl, evF_bnd]
  simp (disch := omega) only [go_sem, doCall, doCallQ, Nat.reduceAdd, Nat.reduceMul, Nat.reduceSub, Nat.reduceDiv, Nat.reduceMod, Nat.reduceLT, Nat.reduceLeDiff, Nat.reduceEqDiff, Nat.reduceBEq, Nat.reduceBNe, Int.reduceToNat, Int.reduceLT, Int.reduceLE, Int.reduceEq, Int.reduceNe, Int.reduceAdd, Int.reduceSub, Int.reduceMul, Int.reduceNeg, bd31, c_slot, Sl.av, idxC_len, idxD_len, cs_len, av_len, map_cs, map_idx, idxC_take, idxC_drop, plain_av, plain_idx, box_idx, refs_av, owns_av, view_av, ren_av, refs_idx, owns_idx, view_idx, ren_idx, Int.toNat_natCast, Nat.zero_add, chk_of]
theorem c_floor (x : Nat → Sl) (o : Int) : call ir 15 [.agg (idxD x), .d (.int .i64 o)] [] = some (.d (.int .i64 (slF x o).fl), []) := by
  rw [call_eq (fn := ir15) rfl, evF_bnd]
  simp (disch := omega) only [go_sem, doCall, doCallQ, Nat.reduceAdd, Nat.reduceMul, Nat.reduceSub, Nat.reduceDiv, Nat.reduceMod, Nat.reduceLT, Nat.reduceLeDiff, Nat.reduceEqDiff, Nat.reduceBEq, Nat.reduceBNe, Int.reduceToNat, Int.reduceLT, Int.reduceLE, Int.reduceEq, Int.reduceNe, Int.reduceAdd, Int.reduceSub, Int.reduceMul, Int.reduceNeg, bd15, c_slot, Sl.av, idxC_len, idxD_len, cs_len, av_len, map_cs, map_idx, idxC_take, idxC_drop, plain_av, plain_idx, box_idx, refs_av, owns_av, view_av, ren_av, refs_idx, owns_idx, view_idx, ren_idx, Int.toNat_natCast, Nat.zero_add, chk_of]
theorem c_here (a1 a2 : Int) (b : Bool) (e : En) : call ir 27 [.agg [.d (.int .i64 a1), .d (.int .i64 a2)], .d (.bool b), .agg e.av] [] = some (.d (.bool (b && (a1 == e.a1 && a2 == e.a2))), []) := by
  rw [call_eq (fn := ir27) rfl, evF_bnd]
  cases b
  · simp (disch := omega) only [go_sem, doCall, doCallQ, Nat.reduceAdd, Nat.reduceMul, Nat.reduceSub, Nat.reduceDiv, Nat.reduceMod, Nat.reduceLT, Nat.reduceLeDiff, Nat.reduceEqDiff, Nat.reduceBEq, Nat.reduceBNe, Int.reduceToNat, Int.reduceLT, Int.reduceLE, Int.reduceEq, Int.reduceNe, Int.reduceAdd, Int.reduceSub, Int.reduceMul, Int.reduceNeg, bd27, En.av, idxC_len, idxD_len, cs_len, av_len, map_cs, map_idx, idxC_take, idxC_drop, plain_av, plain_idx, box_idx, refs_av, owns_av, view_av, ren_av, refs_idx, owns_idx, view_idx, ren_idx, Int.toNat_natCast, Nat.zero_add, chk_of]
  · simp (disch := omega) only [go_sem, doCall, doCallQ, Nat.reduceAdd, Nat.reduceMul, Nat.reduceSub, Nat.reduceDiv, Nat.reduceMod, Nat.reduceLT, Nat.reduceLeDiff, Nat.reduceEqDiff, Nat.reduceBEq, Nat.reduceBNe, Int.reduceToNat, Int.reduceLT, Int.reduceLE, Int.reduceEq, Int.reduceNe, Int.reduceAdd, Int.reduceSub, Int.reduceMul, Int.reduceNeg, bd27, En.av, idxC_len, idxD_len, cs_len, av_len, map_cs, map_idx, idxC_take, idxC_drop, plain_av, plain_idx, box_idx, refs_av, owns_av, view_av, ren_av, refs_idx, owns_idx, view_idx, ren_idx, Int.toNat_natCast, Nat.zero_add, chk_of]
def atF (p : PM) (i : Int) : Option (Int × Int) := findM i (pmL p)
theorem c_at (x : Nat → Sl) (o i : Int) : call ir 29 [.agg (idxD x), .d (.int .i64 o), .d (.int .i64 i)] [] =
    some (.tup [.agg [.d (.int .i64 ((atF (slF x o).pm i).getD (0, 0)).1), .d (.int .i64 ((atF (slF x o).pm i).getD (0, 0)).2)], .d (.bool (atF (slF x o).pm i).isSome)], []) := by
  rw [call_eq (fn := ir29) rfl, evF_bnd]
  unfold atF
  cases hpm : (slF x o).pm with
  | none => simp (disch := omega) only [go_sem, doCall, doCallQ, Nat.reduceAdd, Nat.reduceMul, Nat.reduceSub, Nat.reduceDiv, Nat.reduceMod, Nat.reduceLT, Nat.reduceLeDiff, Nat.reduceEqDiff, Nat.reduceBEq, Nat.reduceBNe, Int.reduceToNat, Int.reduceLT, Int.reduceLE, Int.reduceEq, Int.reduceNe, Int.reduceAdd, Int.reduceSub, Int.reduceMul, Int.reduceNeg, bd29, c_slot, Sl.av, hpm, pmD, pmL, Option.isSome_none, idxC_len, idxD_len, cs_len, av_len, map_cs, map_idx, idxC_take, idxC_drop, plain_av, plain_idx, box_idx, refs_av, owns_av, view_av, ren_av, refs_idx, owns_idx, view_idx, ren_idx, Int.toNat_natCast, Nat.zero_add, chk_of]
  | some l =>
    have hf := find_mpD i l
    simp only [pmL]
    cases hq : findM i l with
    | none =>
      rw [hq] at hf
      simp only [Option.map_none] at hf
      simp (disch := omega) only [go_sem, doCall, doCallQ, Nat.reduceAdd, Nat.reduceMul, Nat.reduceSub, Nat.reduceDiv, Nat.reduceMod, Nat.reduceLT, Nat.reduceLeDiff, Nat.reduceEqDiff, Nat.reduceBEq, Nat.reduceBNe, Int.reduceToNat, Int.reduceLT, Int.reduceLE, Int.reduceEq, Int.reduceNe, Int.reduceAdd, Int.reduceSub, Int.reduceMul, Int.reduceNeg, bd29, c_slot, Sl.av, hpm, pmD, hf, Option.isSome_none, idxC_len, idxD_len, cs_len, av_len, map_cs, map_idx, idxC_take, idxC_drop, plain_av, plain_idx, box_idx, refs_av, owns_av, view_av, ren_av, refs_idx, owns_idx, view_idx, ren_idx, Int.toNat_natCast, Nat.zero_add, chk_of]
    | some p =>
      rw [hq] at hf
      simp only [Option.map_some, adD] at hf
      simp (disch := omega) only [go_sem, doCall, doCallQ, Nat.reduceAdd, Nat.reduceMul, Nat.reduceSub, Nat.reduceDiv, Nat.reduceMod, Nat.reduceLT, Nat.reduceLeDiff, Nat.reduceEqDiff, Nat.reduceBEq, Nat.reduceBNe, Int.reduceToNat, Int.reduceLT, Int.reduceLE, Int.reduceEq, Int.reduceNe, Int.reduceAdd, Int.reduceSub, Int.reduceMul, Int.reduceNeg, bd29, c_slot, Sl.av, hpm, pmD, hf, Option.isSome_some, idxC_len, idxD_len, cs_len, av_len, map_cs, map_idx, idxC_take, idxC_drop, plain_av, plain_idx, box_idx, refs_av, owns_av, view_av, ren_av, refs_idx, owns_idx, view_idx, ren_idx, Int.toNat_natCast, Nat.zero_add, chk_of]

/-! ### which records are needed -/
def ownF (e : En) : Option (Int × Int) :=
  if e.kind = 2 then (gbind e.d).map fun r => (r.1, r.2.1)
  else if e.kind = 3 then (gpiece e.d).map fun r => (r.1, r.2.1)
  else if e.kind = 4 ∨ e.kind = 5 then gdrop e.d
  else none
theorem c_object (k : Int) (d : List UInt8) (hd : d.length ≤ 1000) : ∃ o, call ir 24 [.d (.int .u8 k), .d (.list 1 (rB d))] [] = some (.tup [.d (.int .i64 o), .d (.bool (ownF ⟨0, 0, 0, 0, k, d⟩).isSome)], []) ∧ ∀ r, ownF ⟨0, 0, 0, 0, k, d⟩ = some r → r.1 = o := by
  have qb := c_getbind d hd
  have qp := c_getpiece d hd
  have qd := fun k => c_getdrop k d hd
  rw [call_eq (fn := ir24) rfl, evF_bnd]
  unfold ownF
  by_cases k2 : k = 2
  · subst k2
    simp only [if_true]
    cases hg : gbind d with
    | none => rw [hg] at qb; exact ⟨0, by simp (disch := omega) only [go_sem, doCall, doCallQ, Nat.reduceAdd, Nat.reduceMul, Nat.reduceSub, Nat.reduceDiv, Nat.reduceMod, Nat.reduceLT, Nat.reduceLeDiff, Nat.reduceEqDiff, Nat.reduceBEq, Nat.reduceBNe, Int.reduceToNat, Int.reduceLT, Int.reduceLE, Int.reduceEq, Int.reduceNe, Int.reduceAdd, Int.reduceSub, Int.reduceMul, Int.reduceNeg, bd24, qb, Option.isSome_none, idxC_len, idxD_len, cs_len, av_len, map_cs, map_idx, idxC_take, idxC_drop, plain_av, plain_idx, box_idx, refs_av, owns_av, view_av, ren_av, refs_idx, owns_idx, view_idx, ren_idx, Int.toNat_natCast, Nat.zero_add, chk_of], by simp⟩
    | some r => rw [hg] at qb; exact ⟨r.1, by simp (disch := omega) only [go_sem, doCall, doCallQ, Nat.reduceAdd, Nat.reduceMul, Nat.reduceSub, Nat.reduceDiv, Nat.reduceMod, Nat.reduceLT, Nat.reduceLeDiff, Nat.reduceEqDiff, Nat.reduceBEq, Nat.reduceBNe, Int.reduceToNat, Int.reduceLT, Int.reduceLE, Int.reduceEq, Int.reduceNe, Int.reduceAdd, Int.reduceSub, Int.reduceMul, Int.reduceNeg, bd24, qb, Option.isSome_some, idxC_len, idxD_len, cs_len, av_len, map_cs, map_idx, idxC_take, idxC_drop, plain_av, plain_idx, box_idx, refs_av, owns_av, view_av, ren_av, refs_idx, owns_idx, view_idx, ren_idx, Int.toNat_natCast, Nat.zero_add, chk_of], by simp⟩
  · by_cases k3 : k = 3
    · subst k3
      simp only [show ¬ (3 : Int) = 2 by decide, if_true, if_false]
      cases hg : gpiece d with
      | none => rw [hg] at qp; exact ⟨0, by simp (disch := omega) only [go_sem, doCall, doCallQ, Nat.reduceAdd, Nat.reduceMul, Nat.reduceSub, Nat.reduceDiv, Nat.reduceMod, Nat.reduceLT, Nat.reduceLeDiff, Nat.reduceEqDiff, Nat.reduceBEq, Nat.reduceBNe, Int.reduceToNat, Int.reduceLT, Int.reduceLE, Int.reduceEq, Int.reduceNe, Int.reduceAdd, Int.reduceSub, Int.reduceMul, Int.reduceNeg, bd24, qp, Option.isSome_none, idxC_len, idxD_len, cs_len, av_len, map_cs, map_idx, idxC_take, idxC_drop, plain_av, plain_idx, box_idx, refs_av, owns_av, view_av, ren_av, refs_idx, owns_idx, view_idx, ren_idx, Int.toNat_natCast, Nat.zero_add, chk_of], by simp⟩
      | some r => rw [hg] at qp; exact ⟨r.1, by simp (disch := omega) only [go_sem, doCall, doCallQ, Nat.reduceAdd, Nat.reduceMul, Nat.reduceSub, Nat.reduceDiv, Nat.reduceMod, Nat.reduceLT, Nat.reduceLeDiff, Nat.reduceEqDiff, Nat.reduceBEq, Nat.reduceBNe, Int.reduceToNat, Int.reduceLT, Int.reduceLE, Int.reduceEq, Int.reduceNe, Int.reduceAdd, Int.reduceSub, Int.reduceMul, Int.reduceNeg, bd24, qp, Option.isSome_some, idxC_len, idxD_len, cs_len, av_len, map_cs, map_idx, idxC_take, idxC_drop, plain_av, plain_idx, box_idx, refs_av, owns_av, view_av, ren_av, refs_idx, owns_idx, view_idx, ren_idx, Int.toNat_natCast, Nat.zero_add, chk_of], by simp⟩
    · by_cases k4 : k = 4
      · subst k4
        simp only [show ¬ (4 : Int) = 2 by decide, show ¬ (4 : Int) = 3 by decide, if_true, if_false, true_or]
        cases hg : gdrop d with
        | none => rw [hg] at qd; exact ⟨0, by simp (disch := omega) only [go_sem, doCall, doCallQ, Nat.reduceAdd, Nat.reduceMul, Nat.reduceSub, Nat.reduceDiv, Nat.reduceMod, Nat.reduceLT, Nat.reduceLeDiff, Nat.reduceEqDiff, Nat.reduceBEq, Nat.reduceBNe, Int.reduceToNat, Int.reduceLT, Int.reduceLE, Int.reduceEq, Int.reduceNe, Int.reduceAdd, Int.reduceSub, Int.reduceMul, Int.reduceNeg, bd24, qd, Option.isSome_none, idxC_len, idxD_len, cs_len, av_len, map_cs, map_idx, idxC_take, idxC_drop, plain_av, plain_idx, box_idx, refs_av, owns_av, view_av, ren_av, refs_idx, owns_idx, view_idx, ren_idx, Int.toNat_natCast, Nat.zero_add, chk_of], by simp⟩
        | some r => rw [hg] at qd; exact ⟨r.1, by simp (disch := omega) only [go_sem, doCall, doCallQ, Nat.reduceAdd, Nat.reduceMul, Nat.reduceSub, Nat.reduceDiv, Nat.reduceMod, Nat.reduceLT, Nat.reduceLeDiff, Nat.reduceEqDiff, Nat.reduceBEq, Nat.reduceBNe, Int.reduceToNat, Int.reduceLT, Int.reduceLE, Int.reduceEq, Int.reduceNe, Int.reduceAdd, Int.reduceSub, Int.reduceMul, Int.reduceNeg, bd24, qd, Option.isSome_some, idxC_len, idxD_len, cs_len, av_len, map_cs, map_idx, idxC_take, idxC_drop, plain_av, plain_idx, box_idx, refs_av, owns_av, view_av, ren_av, refs_idx, owns_idx, view_idx, ren_idx, Int.toNat_natCast, Nat.zero_add, chk_of], by simp⟩
      · by_cases k5 : k = 5
        · subst k5
          simp only [show ¬ (5 : Int) = 2 by decide, show ¬ (5 : Int) = 3 by decide, if_true, if_false, or_true]
          cases hg : gdrop d with
          | none => rw [hg] at qd; exact ⟨0, by simp (disch := omega) only [go_sem, doCall, doCallQ, Nat.reduceAdd, Nat.reduceMul, Nat.reduceSub, Nat.reduceDiv, Nat.reduceMod, Nat.reduceLT, Nat.reduceLeDiff, Nat.reduceEqDiff, Nat.reduceBEq, Nat.reduceBNe, Int.reduceToNat, Int.reduceLT, Int.reduceLE, Int.reduceEq, Int.reduceNe, Int.reduceAdd, Int.reduceSub, Int.reduceMul, Int.reduceNeg, bd24, qd, Option.isSome_none, idxC_len, idxD_len, cs_len, av_len, map_cs, map_idx, idxC_take, idxC_drop, plain_av, plain_idx, box_idx, refs_av, owns_av, view_av, ren_av, refs_idx, owns_idx, view_idx, ren_idx, Int.toNat_natCast, Nat.zero_add, chk_of], by simp⟩
          | some r => rw [hg] at qd; exact ⟨r.1, by simp (disch := omega) only [go_sem, doCall, doCallQ, Nat.reduceAdd, Nat.reduceMul, Nat.reduceSub, Nat.reduceDiv, Nat.reduceMod, Nat.reduceLT, Nat.reduceLeDiff, Nat.reduceEqDiff, Nat.reduceBEq, Nat.reduceBNe, Int.reduceToNat, Int.reduceLT, Int.reduceLE, Int.reduceEq, Int.reduceNe, Int.reduceAdd, Int.reduceSub, Int.reduceMul, Int.reduceNeg, bd24, qd, Option.isSome_some, idxC_len, idxD_len, cs_len, av_len, map_cs, map_idx, idxC_take, idxC_drop, plain_av, plain_idx, box_idx, refs_av, owns_av, view_av, ren_av, refs_idx, owns_idx, view_idx, ren_idx, Int.toNat_natCast, Nat.zero_add, chk_of], by simp⟩
        · simp only [k2, k3, k4, k5, if_false, or_self]
          exact ⟨0, by simp (disch := omega) only [go_sem, doCall, doCallQ, Nat.reduceAdd, Nat.reduceMul, Nat.reduceSub, Nat.reduceDiv, Nat.reduceMod, Nat.reduceLT, Nat.reduceLeDiff, Nat.reduceEqDiff, Nat.reduceBEq, Nat.reduceBNe, Int.reduceToNat, Int.reduceLT, Int.reduceLE, Int.reduceEq, Int.reduceNe, Int.reduceAdd, Int.reduceSub, Int.reduceMul, Int.reduceNeg, bd24, eq_false k2, eq_false k3, eq_false k4, eq_false k5, Option.isSome_none, idxC_len, idxD_len, cs_len, av_len, map_cs, map_idx, idxC_take, idxC_drop, plain_av, plain_idx, box_idx, refs_av, owns_av, view_av, ren_av, refs_idx, owns_idx, view_idx, ren_idx, Int.toNat_natCast, Nat.zero_add, chk_of], by simp⟩
def liveF (x : Nat → Sl) (e : En) : Bool :=
  if e.kind = 2 then match gbind e.d with
    | some (o, g, _) => ((slF x o).b && ((slF x o).a1 == e.a1 && (slF x o).a2 == e.a2)) && decide ((slF x o).g = g)
    | none => false
  else if e.kind = 3 then match gpiece e.d with
    | some (o, g, i, _) => ((atF (slF x o).pm i).isSome && (((atF (slF x o).pm i).getD (0, 0)).1 == e.a1 && ((atF (slF x o).pm i).getD (0, 0)).2 == e.a2)) && decide ((slF x o).g = g)
    | none => false
  else if e.kind = 4 ∨ e.kind = 5 then match gdrop e.d with
    | some (o, g) => (decide (0 < (slF x o).fl) && ((slF x o).t1 == e.a1 && (slF x o).t2 == e.a2)) && decide ((slF x o).fl = g)
    | none => false
  else false
theorem c_live (x : Nat → Sl) (e : En) (hd : e.d.length ≤ 1000) : call ir 11 [.agg (idxD x), .agg e.av] [] = some (.d (.bool (liveF x e)), []) := by
  have hh := fun a1 a2 b => c_here a1 a2 b e
  obtain ⟨oo, qo, qe⟩ := c_object e.kind e.d hd
  obtain ⟨a1, a2, seq, pages, kind, d⟩ := e
  simp only at qo qe hd
  have qb := c_getbind d hd
  have qp := c_getpiece d hd
  have qd := fun k => c_getdrop k d hd
  simp only [En.av] at hh
  simp only [liveF, En.av]
  unfold ownF at qo qe
  rw [call_eq (fn := ir11) rfl, evF_bnd]
  by_cases k2 : kind = 2
  · subst k2
    simp only [if_true] at qo qe ⊢
    cases hg : gbind d with
    | none =>
      rw [hg] at qb qo
      simp (disch := omega) only [go_sem, doCall, doCallQ, Nat.reduceAdd, Nat.reduceMul, Nat.reduceSub, Nat.reduceDiv, Nat.reduceMod, Nat.reduceLT, Nat.reduceLeDiff, Nat.reduceEqDiff, Nat.reduceBEq, Nat.reduceBNe, Int.reduceToNat, Int.reduceLT, Int.reduceLE, Int.reduceEq, Int.reduceNe, Int.reduceAdd, Int.reduceSub, Int.reduceMul, Int.reduceNeg, bd11, qo, qb, c_where, c_iget, c_at, c_tomb, c_floor, hh, Option.isSome_none, Option.isSome_some, idxC_len, idxD_len, cs_len, av_len, map_cs, map_idx, idxC_take, idxC_drop, plain_av, plain_idx, box_idx, refs_av, owns_av, view_av, ren_av, refs_idx, owns_idx, view_idx, ren_idx, Int.toNat_natCast, Nat.zero_add, chk_of]
    | some r =>
      obtain ⟨o, g, s, l, t⟩ := r
      rw [hg] at qb qo
      rw [← qe (o, g) (by rw [hg]; rfl)] at qo
      simp only [Option.map_some, Option.isSome_some] at qo
      simp (disch := omega) only [go_sem, doCall, doCallQ, Nat.reduceAdd, Nat.reduceMul, Nat.reduceSub, Nat.reduceDiv, Nat.reduceMod, Nat.reduceLT, Nat.reduceLeDiff, Nat.reduceEqDiff, Nat.reduceBEq, Nat.reduceBNe, Int.reduceToNat, Int.reduceLT, Int.reduceLE, Int.reduceEq, Int.reduceNe, Int.reduceAdd, Int.reduceSub, Int.reduceMul, Int.reduceNeg, bd11, qo, qb, c_where, c_iget, c_at, c_tomb, c_floor, hh, Option.isSome_none, Option.isSome_some, idxC_len, idxD_len, cs_len, av_len, map_cs, map_idx, idxC_take, idxC_drop, plain_av, plain_idx, box_idx, refs_av, owns_av, view_av, ren_av, refs_idx, owns_idx, view_idx, ren_idx, Int.toNat_natCast, Nat.zero_add, chk_of]
      cases ((slF x o).b && ((slF x o).a1 == a1 && (slF x o).a2 == a2)) <;> simp only [go_sem, doCall, doCallQ, Nat.reduceAdd, Nat.reduceMul, Nat.reduceSub, Nat.reduceDiv, Nat.reduceMod, Nat.reduceLT, Nat.reduceLeDiff, Nat.reduceEqDiff, Nat.reduceBEq, Nat.reduceBNe, Int.reduceToNat, Int.reduceLT, Int.reduceLE, Int.reduceEq, Int.reduceNe, Int.reduceAdd, Int.reduceSub, Int.reduceMul, Int.reduceNeg]
  · by_cases k3 : kind = 3
    · subst k3
      simp only [show ¬ (3 : Int) = 2 by decide, if_true, if_false] at qo qe ⊢
      cases hg : gpiece d with
      | none =>
        rw [hg] at qp qo
        simp (disch := omega) only [go_sem, doCall, doCallQ, Nat.reduceAdd, Nat.reduceMul, Nat.reduceSub, Nat.reduceDiv, Nat.reduceMod, Nat.reduceLT, Nat.reduceLeDiff, Nat.reduceEqDiff, Nat.reduceBEq, Nat.reduceBNe, Int.reduceToNat, Int.reduceLT, Int.reduceLE, Int.reduceEq, Int.reduceNe, Int.reduceAdd, Int.reduceSub, Int.reduceMul, Int.reduceNeg, bd11, qo, qp, c_where, c_iget, c_at, c_tomb, c_floor, hh, Option.isSome_none, Option.isSome_some, idxC_len, idxD_len, cs_len, av_len, map_cs, map_idx, idxC_take, idxC_drop, plain_av, plain_idx, box_idx, refs_av, owns_av, view_av, ren_av, refs_idx, owns_idx, view_idx, ren_idx, Int.toNat_natCast, Nat.zero_add, chk_of]
      | some r =>
        obtain ⟨o, g, i, s⟩ := r
        rw [hg] at qp qo
        rw [← qe (o, g) (by rw [hg]; rfl)] at qo
        simp only [Option.map_some, Option.isSome_some] at qo
        simp (disch := omega) only [go_sem, doCall, doCallQ, Nat.reduceAdd, Nat.reduceMul, Nat.reduceSub, Nat.reduceDiv, Nat.reduceMod, Nat.reduceLT, Nat.reduceLeDiff, Nat.reduceEqDiff, Nat.reduceBEq, Nat.reduceBNe, Int.reduceToNat, Int.reduceLT, Int.reduceLE, Int.reduceEq, Int.reduceNe, Int.reduceAdd, Int.reduceSub, Int.reduceMul, Int.reduceNeg, bd11, qo, qp, c_where, c_iget, c_at, c_tomb, c_floor, hh, Option.isSome_none, Option.isSome_some, idxC_len, idxD_len, cs_len, av_len, map_cs, map_idx, idxC_take, idxC_drop, plain_av, plain_idx, box_idx, refs_av, owns_av, view_av, ren_av, refs_idx, owns_idx, view_idx, ren_idx, Int.toNat_natCast, Nat.zero_add, chk_of]
        cases ((atF (slF x o).pm i).isSome && (((atF (slF x o).pm i).getD (0, 0)).1 == a1 && ((atF (slF x o).pm i).getD (0, 0)).2 == a2)) <;> simp only [go_sem, doCall, doCallQ, Nat.reduceAdd, Nat.reduceMul, Nat.reduceSub, Nat.reduceDiv, Nat.reduceMod, Nat.reduceLT, Nat.reduceLeDiff, Nat.reduceEqDiff, Nat.reduceBEq, Nat.reduceBNe, Int.reduceToNat, Int.reduceLT, Int.reduceLE, Int.reduceEq, Int.reduceNe, Int.reduceAdd, Int.reduceSub, Int.reduceMul, Int.reduceNeg]
    · by_cases k4 : kind = 4
      · subst k4
        simp only [show ¬ (4 : Int) = 2 by decide, show ¬ (4 : Int) = 3 by decide, if_true, if_false, true_or] at qo qe ⊢
        cases hg : gdrop d with
        | none =>
          rw [hg] at qd qo
          simp (disch := omega) only [go_sem, doCall, doCallQ, Nat.reduceAdd, Nat.reduceMul, Nat.reduceSub, Nat.reduceDiv, Nat.reduceMod, Nat.reduceLT, Nat.reduceLeDiff, Nat.reduceEqDiff, Nat.reduceBEq, Nat.reduceBNe, Int.reduceToNat, Int.reduceLT, Int.reduceLE, Int.reduceEq, Int.reduceNe, Int.reduceAdd, Int.reduceSub, Int.reduceMul, Int.reduceNeg, bd11, qo, qd, c_where, c_iget, c_at, c_tomb, c_floor, hh, Option.isSome_none, Option.isSome_some, idxC_len, idxD_len, cs_len, av_len, map_cs, map_idx, idxC_take, idxC_drop, plain_av, plain_idx, box_idx, refs_av, owns_av, view_av, ren_av, refs_idx, owns_idx, view_idx, ren_idx, Int.toNat_natCast, Nat.zero_add, chk_of]
        | some r =>
          obtain ⟨o, g⟩ := r
          rw [hg] at qd qo
          rw [← qe (o, g) hg] at qo
          simp only [Option.isSome_some] at qo
          simp (disch := omega) only [go_sem, doCall, doCallQ, Nat.reduceAdd, Nat.reduceMul, Nat.reduceSub, Nat.reduceDiv, Nat.reduceMod, Nat.reduceLT, Nat.reduceLeDiff, Nat.reduceEqDiff, Nat.reduceBEq, Nat.reduceBNe, Int.reduceToNat, Int.reduceLT, Int.reduceLE, Int.reduceEq, Int.reduceNe, Int.reduceAdd, Int.reduceSub, Int.reduceMul, Int.reduceNeg, bd11, qo, qd, c_where, c_iget, c_at, c_tomb, c_floor, hh, Option.isSome_none, Option.isSome_some, idxC_len, idxD_len, cs_len, av_len, map_cs, map_idx, idxC_take, idxC_drop, plain_av, plain_idx, box_idx, refs_av, owns_av, view_av, ren_av, refs_idx, owns_idx, view_idx, ren_idx, Int.toNat_natCast, Nat.zero_add, chk_of]
          cases (decide (0 < (slF x o).fl) && ((slF x o).t1 == a1 && (slF x o).t2 == a2)) <;> simp (disch := omega) only [go_sem, doCall, doCallQ, Nat.reduceAdd, Nat.reduceMul, Nat.reduceSub, Nat.reduceDiv, Nat.reduceMod, Nat.reduceLT, Nat.reduceLeDiff, Nat.reduceEqDiff, Nat.reduceBEq, Nat.reduceBNe, Int.reduceToNat, Int.reduceLT, Int.reduceLE, Int.reduceEq, Int.reduceNe, Int.reduceAdd, Int.reduceSub, Int.reduceMul, Int.reduceNeg, c_where, c_iget, c_at, c_tomb, c_floor, hh, Option.isSome_none, Option.isSome_some, idxC_len, idxD_len, cs_len, av_len, map_cs, map_idx, idxC_take, idxC_drop, plain_av, plain_idx, box_idx, refs_av, owns_av, view_av, ren_av, refs_idx, owns_idx, view_idx, ren_idx, Int.toNat_natCast, Nat.zero_add, chk_of]
      · by_cases k5 : kind = 5
        · subst k5
          simp only [show ¬ (5 : Int) = 2 by decide, show ¬ (5 : Int) = 3 by decide, if_true, if_false, or_true] at qo qe ⊢
          cases hg : gdrop d with
          | none =>
            rw [hg] at qd qo
            simp (disch := omega) only [go_sem, doCall, doCallQ, Nat.reduceAdd, Nat.reduceMul, Nat.reduceSub, Nat.reduceDiv, Nat.reduceMod, Nat.reduceLT, Nat.reduceLeDiff, Nat.reduceEqDiff, Nat.reduceBEq, Nat.reduceBNe, Int.reduceToNat, Int.reduceLT, Int.reduceLE, Int.reduceEq, Int.reduceNe, Int.reduceAdd, Int.reduceSub, Int.reduceMul, Int.reduceNeg, bd11, qo, qd, c_where, c_iget, c_at, c_tomb, c_floor, hh, Option.isSome_none, Option.isSome_some, idxC_len, idxD_len, cs_len, av_len, map_cs, map_idx, idxC_take, idxC_drop, plain_av, plain_idx, box_idx, refs_av, owns_av, view_av, ren_av, refs_idx, owns_idx, view_idx, ren_idx, Int.toNat_natCast, Nat.zero_add, chk_of]
          | some r =>
            obtain ⟨o, g⟩ := r
            rw [hg] at qd qo
            rw [← qe (o, g) hg] at qo
            simp only [Option.isSome_some] at qo
            simp (disch := omega) only [go_sem, doCall, doCallQ, Nat.reduceAdd, Nat.reduceMul, Nat.reduceSub, Nat.reduceDiv, Nat.reduceMod, Nat.reduceLT, Nat.reduceLeDiff, Nat.reduceEqDiff, Nat.reduceBEq, Nat.reduceBNe, Int.reduceToNat, Int.reduceLT, Int.reduceLE, Int.reduceEq, Int.reduceNe, Int.reduceAdd, Int.reduceSub, Int.reduceMul, Int.reduceNeg, bd11, qo, qd, c_where, c_iget, c_at, c_tomb, c_floor, hh, Option.isSome_none, Option.isSome_some, idxC_len, idxD_len, cs_len, av_len, map_cs, map_idx, idxC_take, idxC_drop, plain_av, plain_idx, box_idx, refs_av, owns_av, view_av, ren_av, refs_idx, owns_idx, view_idx, ren_idx, Int.toNat_natCast, Nat.zero_add, chk_of]
            cases (decide (0 < (slF x o).fl) && ((slF x o).t1 == a1 && (slF x o).t2 == a2)) <;> simp (disch := omega) only [go_sem, doCall, doCallQ, Nat.reduceAdd, Nat.reduceMul, Nat.reduceSub, Nat.reduceDiv, Nat.reduceMod, Nat.reduceLT, Nat.reduceLeDiff, Nat.reduceEqDiff, Nat.reduceBEq, Nat.reduceBNe, Int.reduceToNat, Int.reduceLT, Int.reduceLE, Int.reduceEq, Int.reduceNe, Int.reduceAdd, Int.reduceSub, Int.reduceMul, Int.reduceNeg, c_where, c_iget, c_at, c_tomb, c_floor, hh, Option.isSome_none, Option.isSome_some, idxC_len, idxD_len, cs_len, av_len, map_cs, map_idx, idxC_take, idxC_drop, plain_av, plain_idx, box_idx, refs_av, owns_av, view_av, ren_av, refs_idx, owns_idx, view_idx, ren_idx, Int.toNat_natCast, Nat.zero_add, chk_of]
        · simp only [k2, k3, k4, k5, if_false, or_self] at qo ⊢
          simp (disch := omega) only [go_sem, doCall, doCallQ, Nat.reduceAdd, Nat.reduceMul, Nat.reduceSub, Nat.reduceDiv, Nat.reduceMod, Nat.reduceLT, Nat.reduceLeDiff, Nat.reduceEqDiff, Nat.reduceBEq, Nat.reduceBNe, Int.reduceToNat, Int.reduceLT, Int.reduceLE, Int.reduceEq, Int.reduceNe, Int.reduceAdd, Int.reduceSub, Int.reduceMul, Int.reduceNeg, bd11, qo, c_where, c_iget, c_at, c_tomb, c_floor, hh, Option.isSome_none, Option.isSome_some, idxC_len, idxD_len, cs_len, av_len, map_cs, map_idx, idxC_take, idxC_drop, plain_av, plain_idx, box_idx, refs_av, owns_av, view_av, ren_av, refs_idx, owns_idx, view_idx, ren_idx, Int.toNat_natCast, Nat.zero_add, chk_of]
end Go.Proofs.Ytoipfdbdifoecaa
