/- find at data; whether a change is empty. Own work. diff.Of: what is gone. Own work. diff.Of: what has changed. Own work. diff.Of. Own work. Plain facts: maps of pieces put together, what is lost, what a change leaves. Own work. What a change leaves of what was held. Own work. Changes applied one behind the other. Own work. What has changed, applied to what was, is what is. Own work. The law's like; DiffApplies. Own work. The law's has; how many changes; changes are the same as themselves. Own work. The law's loops over one change. Own work. What comes behind the first inner loop. Own work. -/
import Derived.Test.YtbcpffhialoliaaDfR
namespace Go.Proofs.Ytbcpffhialoliaa
open Go Go.Ev Go.Proofs.Ytbcpffhialoliaa.Ir
set_option maxRecDepth 100000
set_option maxHeartbeats 4000000
set_option linter.unusedSimpArgs false
set_option linter.unusedVariables false
theorem lp_ixD (o : Int) (l : List Hd) (hl : l.length ≤ 1000000) (i : Nat) (hi : i ≤ l.length) (hp : (l.take i).filter (noO o) = l.take i) :
    ∃ r : Int, (bnd (evC (call ir) (loop ir) lp40_0 (st40_0 1 (vHs l) (.clo (.func 39) [] [.ptr 0 0]) (dI l.length) (dI i) [.dbox [.int .i64 o]])) (lpC (call ir) (loop ir) [0, 1, 7, 8] lp40_0 (bk 0 (sq (call ir) (loop ir) (.seq (.reg [⟨some 4, none, .mv (.c (.d (.int .i64 (-1)))), .none⟩]) (.ret none)) (fin ir40))))) =
      some (dI r, [.dbox [.int .i64 o]]) ∧ ((r = -1 ∧ l.filter (noO o) = l) ∨ ∃ n : Nat, r = n ∧ n < l.length ∧ (l.take n).filter (noO o) = l.take n ∧ isO o (l.getD n default) = true) := by
  by_cases h : i = l.length
  · have hx : ¬ (i : Int) < l.length := by omega
    refine ⟨-1, ?_, .inl ⟨rfl, by rw [h, List.take_length] at hp; exact hp⟩⟩
    simp (maxSteps := 2000000) (disch := omega) only [go_sem, doCall, doCallQ, doCallP, Nat.reduceAdd, Nat.reduceMul, Nat.reduceSub, Nat.reduceDiv, Nat.reduceMod, Nat.reduceLT, Nat.reduceLeDiff, Nat.reduceEqDiff, Nat.reduceBEq, Nat.reduceBNe, Int.reduceToNat, Int.reduceLT, Int.reduceLE, Int.reduceEq, Int.reduceNe, Int.reduceAdd, Int.reduceSub, Int.reduceMul, Int.reduceNeg, u40_0, lb40_0, hx]
  · have hlt : (i : Int) < l.length := by omega
    have hi' : i < l.length := by omega
    have hw := wr_succ (i := i) (by omega)
    have hlm : (l.map hdRow).length = l.length := List.length_map ..
    have hg := getHd l hi'
    have hcc := c_find1 o l[i]
    cases hin : isO o l[i]
    · rw [hin] at hcc
      obtain ⟨r, ih, hr2⟩ := lp_ixD o l hl (i + 1) (by omega) (by rw [List.take_succ_eq_append_getElem hi', List.filter_append, hp, List.filter_cons, if_pos (by unfold noO; rw [hin]; rfl)]; rfl)
      refine ⟨r, ?_, hr2⟩
      simp (maxSteps := 2000000) (disch := omega) only [go_sem, doCall, doCallQ, doCallP, Nat.reduceAdd, Nat.reduceMul, Nat.reduceSub, Nat.reduceDiv, Nat.reduceMod, Nat.reduceLT, Nat.reduceLeDiff, Nat.reduceEqDiff, Nat.reduceBEq, Nat.reduceBNe, Int.reduceToNat, Int.reduceLT, Int.reduceLE, Int.reduceEq, Int.reduceNe, Int.reduceAdd, Int.reduceSub, Int.reduceMul, Int.reduceNeg, u40_0, lb40_0, hlt, hi', hg, hlm, hcc, Nat.zero_add, Int.natCast_nonneg, Int.toNat_natCast, Option.getD_some, Option.getD_none, List.drop_zero, Nat.sub_zero, Nat.zero_le, true_and, and_true, Nat.le_refl, chk_of]
      rw [loop_step1]
      simp (maxSteps := 2000000) only [go_sem, doCall, doCallQ, doCallP, Nat.reduceAdd, Nat.reduceMul, Nat.reduceSub, Nat.reduceDiv, Nat.reduceMod, Nat.reduceLT, Nat.reduceLeDiff, Nat.reduceEqDiff, Nat.reduceBEq, Nat.reduceBNe, Int.reduceToNat, Int.reduceLT, Int.reduceLE, Int.reduceEq, Int.reduceNe, Int.reduceAdd, Int.reduceSub, Int.reduceMul, Int.reduceNeg, hw]
      exact ih
    · rw [hin] at hcc
      refine ⟨i, ?_, .inr ⟨i, rfl, hi', hp, by rw [gH hi']; exact hin⟩⟩
      simp (maxSteps := 2000000) (disch := omega) only [go_sem, doCall, doCallQ, doCallP, Nat.reduceAdd, Nat.reduceMul, Nat.reduceSub, Nat.reduceDiv, Nat.reduceMod, Nat.reduceLT, Nat.reduceLeDiff, Nat.reduceEqDiff, Nat.reduceBEq, Nat.reduceBNe, Int.reduceToNat, Int.reduceLT, Int.reduceLE, Int.reduceEq, Int.reduceNe, Int.reduceAdd, Int.reduceSub, Int.reduceMul, Int.reduceNeg, u40_0, lb40_0, hlt, hi', hg, hlm, hcc, Nat.zero_add, Int.natCast_nonneg, Int.toNat_natCast, Option.getD_some, Option.getD_none, List.drop_zero, Nat.sub_zero, Nat.zero_le, true_and, and_true, Nat.le_refl, chk_of]
termination_by l.length - i
theorem t_findD (o : Int) (l : List Hd) (hl : l.length ≤ 1000000) : call ir 18 [vHs l, dI o] [] = some (.tup [vHd ((fndO o l).getD d0), dT (fndO o l).isSome], []) := by
  have hlm : (l.map hdRow).length = l.length := List.length_map ..
  obtain ⟨r, h1, h⟩ := lp_ixD o l hl 0 (by omega) rfl
  have e1 : call ir 40 [vHs l, .clo (.func 39) [] [.ptr 0 0]] [.dbox [.int .i64 o]] = some (dI r, [.dbox [.int .i64 o]]) := by
    rw [call_eq (fn := ir40) rfl, evF_bnd]
    simp (maxSteps := 2000000) (disch := omega) only [go_sem, doCall, doCallQ, doCallP, Nat.reduceAdd, Nat.reduceMul, Nat.reduceSub, Nat.reduceDiv, Nat.reduceMod, Nat.reduceLT, Nat.reduceLeDiff, Nat.reduceEqDiff, Nat.reduceBEq, Nat.reduceBNe, Int.reduceToNat, Int.reduceLT, Int.reduceLE, Int.reduceEq, Int.reduceNe, Int.reduceAdd, Int.reduceSub, Int.reduceMul, Int.reduceNeg, bd40, hlm, Int.natCast_nonneg, Int.toNat_natCast, Option.getD_some, Option.getD_none, List.drop_zero, Nat.sub_zero, Nat.zero_le, true_and, and_true, Nat.le_refl, chk_of]
    rw [loop_step1]
    simp (maxSteps := 2000000) only [go_sem, doCall, doCallQ, doCallP, Nat.reduceAdd, Nat.reduceMul, Nat.reduceSub, Nat.reduceDiv, Nat.reduceMod, Nat.reduceLT, Nat.reduceLeDiff, Nat.reduceEqDiff, Nat.reduceBEq, Nat.reduceBNe, Int.reduceToNat, Int.reduceLT, Int.reduceLE, Int.reduceEq, Int.reduceNe, Int.reduceAdd, Int.reduceSub, Int.reduceMul, Int.reduceNeg]
    exact h1
  rw [call_eq (fn := ir18) rfl, evF_bnd]
  rcases h with ⟨rfl, h⟩ | ⟨n, rfl, hn, h1, h2⟩
  · rw [fnd_none h]
    simp (maxSteps := 2000000) (disch := omega) only [go_sem, doCall, doCallQ, doCallP, Nat.reduceAdd, Nat.reduceMul, Nat.reduceSub, Nat.reduceDiv, Nat.reduceMod, Nat.reduceLT, Nat.reduceLeDiff, Nat.reduceEqDiff, Nat.reduceBEq, Nat.reduceBNe, Int.reduceToNat, Int.reduceLT, Int.reduceLE, Int.reduceEq, Int.reduceNe, Int.reduceAdd, Int.reduceSub, Int.reduceMul, Int.reduceNeg, bd18, e1, hlm, Int.natCast_nonneg, Int.toNat_natCast, Option.getD_some, Option.getD_none, List.drop_zero, Nat.sub_zero, Nat.zero_le, true_and, and_true, Nat.le_refl, chk_of]
    rfl
  · rw [gH hn] at h2
    have hg := getHd l hn
    have hx := eq_false (show ¬ (n : Int) < 0 by omega)
    rw [fnd_of hn h1 h2]
    simp (maxSteps := 2000000) (disch := omega) only [go_sem, doCall, doCallQ, doCallP, Nat.reduceAdd, Nat.reduceMul, Nat.reduceSub, Nat.reduceDiv, Nat.reduceMod, Nat.reduceLT, Nat.reduceLeDiff, Nat.reduceEqDiff, Nat.reduceBEq, Nat.reduceBNe, Int.reduceToNat, Int.reduceLT, Int.reduceLE, Int.reduceEq, Int.reduceNe, Int.reduceAdd, Int.reduceSub, Int.reduceMul, Int.reduceNeg, bd18, e1, hlm, hx, hn, hg, Nat.zero_add, Int.natCast_nonneg, Int.toNat_natCast, Option.getD_some, Option.getD_none, List.drop_zero, Nat.sub_zero, Nat.zero_le, true_and, and_true, Nat.le_refl, chk_of]
    rfl
/-- Whether nothing has changed. -/
def emp (c : Ch) : Bool := !c.bo && (!c.go && (decide (c.ps.length = 0) && decide (c.ls.length = 0)))
theorem t_empty (c : Ch) : call ir 20 [vCh c] [] = some (dT (emp c), []) := by
  rw [call_eq (fn := ir20) rfl, evF_bnd]
  have h1 : (c.ps.map pcRow).length = c.ps.length := List.length_map ..
  have h2 := kR_len c.ls
  obtain ⟨ob, bo, go, b1, b2, b3, b4, b5, ps, ls⟩ := c
  unfold emp
  simp only at h1 h2 ⊢
  cases bo
  · cases go
    · by_cases c1 : ps.length = 0
      · have c1' : ((ps.length : Int) = 0) = True := eq_true (by omega)
        have d1 : ((ps.length : Int) == 0) = true := by simp [c1]
        rw [decide_eq_true c1]
        by_cases c2 : ls.length = 0
        · have c2' : ((ls.length : Int) = 0) = True := eq_true (by omega)
          have d2 : ((ls.length : Int) == 0) = true := by simp [c2]
          rw [decide_eq_true c2]
          simp (maxSteps := 2000000) (disch := omega) only [go_sem, doCall, doCallQ, doCallP, Nat.reduceAdd, Nat.reduceMul, Nat.reduceSub, Nat.reduceDiv, Nat.reduceMod, Nat.reduceLT, Nat.reduceLeDiff, Nat.reduceEqDiff, Nat.reduceBEq, Nat.reduceBNe, Int.reduceToNat, Int.reduceLT, Int.reduceLE, Int.reduceEq, Int.reduceNe, Int.reduceAdd, Int.reduceSub, Int.reduceMul, Int.reduceNeg, bd20, h1, h2, c1', d1, c2', d2, Bool.not_false, Bool.not_true, Bool.true_and, Bool.false_and, Int.natCast_nonneg, Int.toNat_natCast, Option.getD_some, Option.getD_none, List.drop_zero, Nat.sub_zero, Nat.zero_le, true_and, and_true, Nat.le_refl, chk_of]
        · have c2' : ((ls.length : Int) = 0) = False := eq_false (by omega)
          have d2 : ((ls.length : Int) == 0) = false := by rw [beq_eq_false_iff_ne]; omega
          rw [decide_eq_false c2]
          simp (maxSteps := 2000000) (disch := omega) only [go_sem, doCall, doCallQ, doCallP, Nat.reduceAdd, Nat.reduceMul, Nat.reduceSub, Nat.reduceDiv, Nat.reduceMod, Nat.reduceLT, Nat.reduceLeDiff, Nat.reduceEqDiff, Nat.reduceBEq, Nat.reduceBNe, Int.reduceToNat, Int.reduceLT, Int.reduceLE, Int.reduceEq, Int.reduceNe, Int.reduceAdd, Int.reduceSub, Int.reduceMul, Int.reduceNeg, bd20, h1, h2, c1', d1, c2', d2, Bool.not_false, Bool.not_true, Bool.true_and, Bool.false_and, Int.natCast_nonneg, Int.toNat_natCast, Option.getD_some, Option.getD_none, List.drop_zero, Nat.sub_zero, Nat.zero_le, true_and, and_true, Nat.le_refl, chk_of]
      · have c1' : ((ps.length : Int) = 0) = False := eq_false (by omega)
        have d1 : ((ps.length : Int) == 0) = false := by rw [beq_eq_false_iff_ne]; omega
        rw [decide_eq_false c1]
        simp (maxSteps := 2000000) (disch := omega) only [go_sem, doCall, doCallQ, doCallP, Nat.reduceAdd, Nat.reduceMul, Nat.reduceSub, Nat.reduceDiv, Nat.reduceMod, Nat.reduceLT, Nat.reduceLeDiff, Nat.reduceEqDiff, Nat.reduceBEq, Nat.reduceBNe, Int.reduceToNat, Int.reduceLT, Int.reduceLE, Int.reduceEq, Int.reduceNe, Int.reduceAdd, Int.reduceSub, Int.reduceMul, Int.reduceNeg, bd20, h1, h2, c1', d1, Bool.not_false, Bool.not_true, Bool.true_and, Bool.false_and, Int.natCast_nonneg, Int.toNat_natCast, Option.getD_some, Option.getD_none, List.drop_zero, Nat.sub_zero, Nat.zero_le, true_and, and_true, Nat.le_refl, chk_of]
    · simp (maxSteps := 2000000) (disch := omega) only [go_sem, doCall, doCallQ, doCallP, Nat.reduceAdd, Nat.reduceMul, Nat.reduceSub, Nat.reduceDiv, Nat.reduceMod, Nat.reduceLT, Nat.reduceLeDiff, Nat.reduceEqDiff, Nat.reduceBEq, Nat.reduceBNe, Int.reduceToNat, Int.reduceLT, Int.reduceLE, Int.reduceEq, Int.reduceNe, Int.reduceAdd, Int.reduceSub, Int.reduceMul, Int.reduceNeg, bd20, h1, h2, Bool.not_false, Bool.not_true, Bool.true_and, Bool.false_and, Int.natCast_nonneg, Int.toNat_natCast, Option.getD_some, Option.getD_none, List.drop_zero, Nat.sub_zero, Nat.zero_le, true_and, and_true, Nat.le_refl, chk_of]
  · simp (maxSteps := 2000000) (disch := omega) only [go_sem, doCall, doCallQ, doCallP, Nat.reduceAdd, Nat.reduceMul, Nat.reduceSub, Nat.reduceDiv, Nat.reduceMod, Nat.reduceLT, Nat.reduceLeDiff, Nat.reduceEqDiff, Nat.reduceBEq, Nat.reduceBNe, Int.reduceToNat, Int.reduceLT, Int.reduceLE, Int.reduceEq, Int.reduceNe, Int.reduceAdd, Int.reduceSub, Int.reduceMul, Int.reduceNeg, bd20, h1, h2, Bool.not_false, Bool.not_true, Bool.true_and, Bool.false_and, Int.natCast_nonneg, Int.toNat_natCast, Option.getD_some, Option.getD_none, List.drop_zero, Nat.sub_zero, Nat.zero_le, true_and, and_true, Nat.le_refl, chk_of]
end Go.Proofs.Ytbcpffhialoliaa
namespace Go.Proofs.Ytbcpffhialoliaa
open Go Go.Ev Go.Proofs.Ytbcpffhialoliaa.Ir
set_option maxRecDepth 100000
set_option maxHeartbeats 4000000
set_option linter.unusedSimpArgs false
set_option linter.unusedVariables false
def gonC (d : Hd) : Ch := ⟨d.ob, false, true, 0, 0, [], 0, 0, [], []⟩
def gonL (b l : List Hd) : List Ch := (l.filter fun d => !(fndO d.ob b).isSome).map gonC
theorem gonL_drop (b : List Hd) {l : List Hd} {i : Nat} (h : i < l.length) : gonL b (l.drop i) = (if (fndO l[i].ob b).isSome then [] else [gonC l[i]]) ++ gonL b (l.drop (i + 1)) := by
  unfold gonL
  rw [List.drop_eq_getElem_cons h, List.filter_cons]
  cases (fndO l[i].ob b).isSome <;> rfl
theorem lp_of0 (a b : List Hd) (hl : a.length ≤ 1000000) (hlb : b.length ≤ 1000000) (i : Nat) (hi : i ≤ a.length) (O : List Ch) (hO : O.length ≤ i) (z : Bool) :
    ∃ z' : Bool, ∀ (k : Ex → St → Option (AV × Heap)), (bnd (evC (call ir) (loop ir) lp9_0 (st9_0 0 (vHs a) (vHs b) (.own 0 10 0 O.length z) (vHs a) (dI a.length) (dI i) [.arr 10 (O.map chRow)])) (lpC (call ir) (loop ir) [0, 1, 5, 23, 24, 25] lp9_0 k)) =
      k (.exit 0) (clean [0, 1, 5] (st9_0 0 (vHs a) (vHs b) (.own 0 10 0 (O ++ gonL b (a.drop i)).length z') .unk .unk .unk [.arr 10 ((O ++ gonL b (a.drop i)).map chRow)])) := by
  by_cases h : i = a.length
  · have hx : ¬ (i : Int) < a.length := by omega
    rw [h] at hx
    have e0 : gonL b [] = [] := rfl
    rw [h, List.drop_length, e0, List.append_nil]
    refine ⟨z, fun k => ?_⟩
    simp (maxSteps := 2000000) (disch := omega) only [go_sem, doCall, doCallQ, doCallP, Nat.reduceAdd, Nat.reduceMul, Nat.reduceSub, Nat.reduceDiv, Nat.reduceMod, Nat.reduceLT, Nat.reduceLeDiff, Nat.reduceEqDiff, Nat.reduceBEq, Nat.reduceBNe, Int.reduceToNat, Int.reduceLT, Int.reduceLE, Int.reduceEq, Int.reduceNe, Int.reduceAdd, Int.reduceSub, Int.reduceMul, Int.reduceNeg, u9_0, lb9_0, hx]
  · have hlt : (i : Int) < a.length := by omega
    have hi' : i < a.length := by omega
    have hw := wr_succ (i := i) (by omega)
    have hg := getHd a hi'
    have hlm : (a.map hdRow).length = a.length := List.length_map ..
    have hfd := t_findD a[i].ob b hlb
    have hlO : (O.map chRow).length = O.length := List.length_map ..
    have htk : (O.map chRow).take O.length = O.map chRow := by rw [← hlO, List.take_length]
    have hap : O.map chRow ++ [[.int .i64 a[i].ob, .bool false, .bool true, .int .i64 0, .int .i64 0, .str [], .int .i64 0, .int .i64 0, .list 4 [], .list 1 []]] = (O ++ [gonC a[i]]).map chRow := by rw [List.map_append]; rfl
    rw [gonL_drop b hi']
    cases hq : fndO a[i].ob b with
    | none =>
      rw [hq] at hfd
      simp only [Option.isSome_none, Option.getD_none, Bool.false_eq_true, if_false] at hfd ⊢
      obtain ⟨z', ih⟩ := lp_of0 a b hl hlb (i + 1) (by omega) (O ++ [gonC a[i]]) (by simp; omega) false
      refine ⟨z', fun k => ?_⟩
      have ih := ih k
      rw [← List.append_assoc]
      generalize hR : (k (.exit 0) (clean [0, 1, 5] (st9_0 0 (vHs a) (vHs b) (.own 0 10 0 (O ++ [gonC a[i]] ++ gonL b (a.drop (i + 1))).length z') .unk .unk .unk [.arr 10 ((O ++ [gonC a[i]] ++ gonL b (a.drop (i + 1))).map chRow)]))) = R at ih ⊢
      rw [List.length_append] at ih
      cases z
      · simp (maxSteps := 2000000) (disch := omega) only [go_sem, doCall, doCallQ, doCallP, Nat.reduceAdd, Nat.reduceMul, Nat.reduceSub, Nat.reduceDiv, Nat.reduceMod, Nat.reduceLT, Nat.reduceLeDiff, Nat.reduceEqDiff, Nat.reduceBEq, Nat.reduceBNe, Int.reduceToNat, Int.reduceLT, Int.reduceLE, Int.reduceEq, Int.reduceNe, Int.reduceAdd, Int.reduceSub, Int.reduceMul, Int.reduceNeg, u9_0, lb9_0, hlt, hi', hw, hg, hlm, hfd, d0, hlO, htk, hap, Option.isSome_none, Option.isSome_some, Bool.not_false, Bool.not_true, List.length_cons, List.length_nil, Nat.zero_add, List.getD_cons_zero, List.set_cons_zero, List.set_cons_succ, Int.natCast_nonneg, Int.toNat_natCast, Option.getD_some, Option.getD_none, List.drop_zero, Nat.sub_zero, Nat.zero_le, true_and, and_true, Nat.le_refl, chk_of]
        rw [loop_step1]; simp (maxSteps := 2000000) (disch := omega) only [go_sem, doCall, doCallQ, doCallP, Nat.reduceAdd, Nat.reduceMul, Nat.reduceSub, Nat.reduceDiv, Nat.reduceMod, Nat.reduceLT, Nat.reduceLeDiff, Nat.reduceEqDiff, Nat.reduceBEq, Nat.reduceBNe, Int.reduceToNat, Int.reduceLT, Int.reduceLE, Int.reduceEq, Int.reduceNe, Int.reduceAdd, Int.reduceSub, Int.reduceMul, Int.reduceNeg]; exact ih
      · simp (maxSteps := 2000000) (disch := omega) only [go_sem, doCall, doCallQ, doCallP, Nat.reduceAdd, Nat.reduceMul, Nat.reduceSub, Nat.reduceDiv, Nat.reduceMod, Nat.reduceLT, Nat.reduceLeDiff, Nat.reduceEqDiff, Nat.reduceBEq, Nat.reduceBNe, Int.reduceToNat, Int.reduceLT, Int.reduceLE, Int.reduceEq, Int.reduceNe, Int.reduceAdd, Int.reduceSub, Int.reduceMul, Int.reduceNeg, u9_0, lb9_0, hlt, hi', hw, hg, hlm, hfd, d0, hlO, htk, hap, Option.isSome_none, Option.isSome_some, Bool.not_false, Bool.not_true, List.length_cons, List.length_nil, Nat.zero_add, List.getD_cons_zero, List.set_cons_zero, List.set_cons_succ, Int.natCast_nonneg, Int.toNat_natCast, Option.getD_some, Option.getD_none, List.drop_zero, Nat.sub_zero, Nat.zero_le, true_and, and_true, Nat.le_refl, chk_of]
        rw [loop_step1]; simp (maxSteps := 2000000) (disch := omega) only [go_sem, doCall, doCallQ, doCallP, Nat.reduceAdd, Nat.reduceMul, Nat.reduceSub, Nat.reduceDiv, Nat.reduceMod, Nat.reduceLT, Nat.reduceLeDiff, Nat.reduceEqDiff, Nat.reduceBEq, Nat.reduceBNe, Int.reduceToNat, Int.reduceLT, Int.reduceLE, Int.reduceEq, Int.reduceNe, Int.reduceAdd, Int.reduceSub, Int.reduceMul, Int.reduceNeg]; exact ih
    | some d =>
      rw [hq] at hfd
      simp only [Option.isSome_some, Option.getD_some, if_true, List.nil_append] at hfd ⊢
      obtain ⟨z', ih⟩ := lp_of0 a b hl hlb (i + 1) (by omega) O (by omega) z
      refine ⟨z', fun k => ?_⟩
      have ih := ih k
      generalize hR : (k (.exit 0) (clean [0, 1, 5] (st9_0 0 (vHs a) (vHs b) (.own 0 10 0 (O ++ gonL b (a.drop (i + 1))).length z') .unk .unk .unk [.arr 10 ((O ++ gonL b (a.drop (i + 1))).map chRow)]))) = R at ih ⊢
      simp (maxSteps := 2000000) (disch := omega) only [go_sem, doCall, doCallQ, doCallP, Nat.reduceAdd, Nat.reduceMul, Nat.reduceSub, Nat.reduceDiv, Nat.reduceMod, Nat.reduceLT, Nat.reduceLeDiff, Nat.reduceEqDiff, Nat.reduceBEq, Nat.reduceBNe, Int.reduceToNat, Int.reduceLT, Int.reduceLE, Int.reduceEq, Int.reduceNe, Int.reduceAdd, Int.reduceSub, Int.reduceMul, Int.reduceNeg, u9_0, lb9_0, hlt, hi', hw, hg, hlm, hfd, hlO, htk, Option.isSome_none, Option.isSome_some, Bool.not_false, Bool.not_true, List.length_cons, List.length_nil, Nat.zero_add, List.getD_cons_zero, List.set_cons_zero, List.set_cons_succ, Int.natCast_nonneg, Int.toNat_natCast, Option.getD_some, Option.getD_none, List.drop_zero, Nat.sub_zero, Nat.zero_le, true_and, and_true, Nat.le_refl, chk_of]
      rw [loop_step1]; simp (maxSteps := 2000000) (disch := omega) only [go_sem, doCall, doCallQ, doCallP, Nat.reduceAdd, Nat.reduceMul, Nat.reduceSub, Nat.reduceDiv, Nat.reduceMod, Nat.reduceLT, Nat.reduceLeDiff, Nat.reduceEqDiff, Nat.reduceBEq, Nat.reduceBNe, Int.reduceToNat, Int.reduceLT, Int.reduceLE, Int.reduceEq, Int.reduceNe, Int.reduceAdd, Int.reduceSub, Int.reduceMul, Int.reduceNeg]; exact ih
termination_by a.length - i
end Go.Proofs.Ytbcpffhialoliaa
namespace Go.Proofs.Ytbcpffhialoliaa
open Go Go.Ev Go.Proofs.Ytbcpffhialoliaa.Ir
set_option maxRecDepth 100000
set_option maxHeartbeats 4000000
set_option linter.unusedSimpArgs false
set_option linter.unusedVariables false
theorem t_chg (x y : Hd) (has : Bool) (hl : y.ps.length ≤ 1000000) (hlx : x.ps.length ≤ 1000000) (hb : ∀ p ∈ y.ps, p.bd.length ≤ 1000000) (hrx : has = true → rises x.ps) (hry : rises y.ps) :
    ∃ v H, call ir 19 [vHd x, vHd y, dT has] [] = some (v, H) ∧ v.scalar = false ∧ v.view H = vCh (chg x y has) := by
  cases has
  · exact ⟨_, _, t_chg0 x y hl hb, rfl, rfl⟩
  · by_cases hg : x.ge = y.ge
    · exact t_chgS x y hg hl hlx hb (hrx rfl) hry
    · exact ⟨_, _, t_chgG x y hg hl hb, rfl, rfl⟩
def chO (a : List Hd) (d : Hd) : Ch := chg ((fndO d.ob a).getD d0) d (fndO d.ob a).isSome
def chL (a l : List Hd) : List Ch := (l.map (chO a)).filter fun c => !emp c
theorem chL_drop (a : List Hd) {l : List Hd} {i : Nat} (h : i < l.length) : chL a (l.drop i) = (if emp (chO a l[i]) then [] else [chO a l[i]]) ++ chL a (l.drop (i + 1)) := by
  unfold chL
  rw [List.drop_eq_getElem_cons h, List.map_cons, List.filter_cons]
  cases emp (chO a l[i]) <;> rfl
theorem lp_of1 (a b : List Hd) (ha : sml a) (hb : sml b) (hra : ∀ d ∈ a, rises d.ps) (hrb : ∀ d ∈ b, rises d.ps) (i : Nat) (hi : i ≤ b.length) (O : List Ch) (hO : O.length ≤ 100000 + i) (z : Bool) :
    ∃ z' : Bool, ∀ (k : Ex → St → Option (AV × Heap)), (bnd (evC (call ir) (loop ir) lp9_1 (st9_1 0 (vHs a) (.own 0 10 0 O.length z) (vHs b) (dI b.length) (dI i) [.arr 10 (O.map chRow)])) (lpC (call ir) (loop ir) [0, 5, 47, 48, 49] lp9_1 k)) =
      k (.exit 2) (clean [5] (st9_1 0 .unk (.own 0 10 0 (O ++ chL a (b.drop i)).length z') .unk .unk .unk [.arr 10 ((O ++ chL a (b.drop i)).map chRow)])) := by
  have hlb := hb.1
  have hla := ha.1
  by_cases h : i = b.length
  · have hx : ¬ (i : Int) < b.length := by omega
    rw [h] at hx
    have e0 : chL a [] = [] := rfl
    rw [h, List.drop_length, e0, List.append_nil]
    refine ⟨z, fun k => ?_⟩
    simp (maxSteps := 2000000) (disch := omega) only [go_sem, doCall, doCallQ, doCallP, Nat.reduceAdd, Nat.reduceMul, Nat.reduceSub, Nat.reduceDiv, Nat.reduceMod, Nat.reduceLT, Nat.reduceLeDiff, Nat.reduceEqDiff, Nat.reduceBEq, Nat.reduceBNe, Int.reduceToNat, Int.reduceLT, Int.reduceLE, Int.reduceEq, Int.reduceNe, Int.reduceAdd, Int.reduceSub, Int.reduceMul, Int.reduceNeg, u9_1, lb9_1, hx]
  · have hlt : (i : Int) < b.length := by omega
    have hi' : i < b.length := by omega
    have hw := wr_succ (i := i) (by omega)
    have hg := getHd b hi'
    have hlm : (b.map hdRow).length = b.length := List.length_map ..
    have hfd := t_findD b[i].ob a (by omega)
    have hin := List.getElem_mem hi'
    have hsb := hb.2 _ hin
    have hxs : ((fndO b[i].ob a).getD d0).ps.length ≤ 1000000 ∧ ((fndO b[i].ob a).isSome = true → rises ((fndO b[i].ob a).getD d0).ps) := by
      cases hq : fndO b[i].ob a with
      | none => exact ⟨by simp [d0], fun h => by simp at h⟩
      | some d =>
        have := fnd_in hq
        exact ⟨by have := (ha.2 d this.1).1; simpa using (by omega : d.ps.length ≤ 1000000), fun _ => hra d this.1⟩
    obtain ⟨v, H, hv, hsc, hvw⟩ := t_chg ((fndO b[i].ob a).getD d0) b[i] (fndO b[i].ob a).isSome (by omega) hxs.1 (fun p hp => by have := hsb.2 p hp; omega) hxs.2 (hrb _ hin)
    have hlO : (O.map chRow).length = O.length := List.length_map ..
    have htk : (O.map chRow).take O.length = O.map chRow := by rw [← hlO, List.take_length]
    rw [chL_drop a hi']
    have ecc : chO a b[i] = chg ((fndO b[i].ob a).getD d0) b[i] (fndO b[i].ob a).isSome := rfl
    rw [← ecc] at hvw
    generalize chO a b[i] = c at hvw ⊢
    have hem := t_empty c
    have hap : O.map chRow ++ [[.int .i64 c.ob, .bool c.bo, .bool c.go, .int .i64 c.b1, .int .i64 c.b2, .str c.b3, .int .i64 c.b4, .int .i64 c.b5, .list 4 (c.ps.map pcRow), .list 1 (kR c.ls)]] = (O ++ [c]).map chRow := by rw [List.map_append]; rfl
    generalize (fndO b[i].ob a).getD d0 = x at hfd hv
    generalize (fndO b[i].ob a).isSome = has at hfd hv
    generalize b[i] = d at hg hfd hv
    cases hE : emp c
    · rw [hE] at hem
      simp only [Bool.false_eq_true, if_false]
      obtain ⟨z', ih⟩ := lp_of1 a b ha hb hra hrb (i + 1) (by omega) (O ++ [c]) (by simp; omega) false
      refine ⟨z', fun k => ?_⟩
      have ih := ih k
      rw [← List.append_assoc]
      generalize hR : (k (.exit 2) (clean [5] (st9_1 0 .unk (.own 0 10 0 (O ++ [c] ++ chL a (b.drop (i + 1))).length z') .unk .unk .unk [.arr 10 ((O ++ [c] ++ chL a (b.drop (i + 1))).map chRow)]))) = R at ih ⊢
      rw [List.length_append] at ih
      cases z
      · simp (maxSteps := 2000000) (disch := omega) only [go_sem, doCall, doCallQ, doCallP, Nat.reduceAdd, Nat.reduceMul, Nat.reduceSub, Nat.reduceDiv, Nat.reduceMod, Nat.reduceLT, Nat.reduceLeDiff, Nat.reduceEqDiff, Nat.reduceBEq, Nat.reduceBNe, Int.reduceToNat, Int.reduceLT, Int.reduceLE, Int.reduceEq, Int.reduceNe, Int.reduceAdd, Int.reduceSub, Int.reduceMul, Int.reduceNeg, u9_1, lb9_1, hlt, hi', hw, hg, hlm, hfd, hv, hsc, hvw, hem, hlO, htk, hap, Option.isSome_none, Option.isSome_some, Bool.not_false, Bool.not_true, List.length_cons, List.length_nil, Nat.zero_add, List.getD_cons_zero, List.set_cons_zero, List.set_cons_succ, Int.natCast_nonneg, Int.toNat_natCast, Option.getD_some, Option.getD_none, List.drop_zero, Nat.sub_zero, Nat.zero_le, true_and, and_true, Nat.le_refl, chk_of]
        rw [loop_step1]; simp (maxSteps := 2000000) (disch := omega) only [go_sem, doCall, doCallQ, doCallP, Nat.reduceAdd, Nat.reduceMul, Nat.reduceSub, Nat.reduceDiv, Nat.reduceMod, Nat.reduceLT, Nat.reduceLeDiff, Nat.reduceEqDiff, Nat.reduceBEq, Nat.reduceBNe, Int.reduceToNat, Int.reduceLT, Int.reduceLE, Int.reduceEq, Int.reduceNe, Int.reduceAdd, Int.reduceSub, Int.reduceMul, Int.reduceNeg]; exact ih
      · simp (maxSteps := 2000000) (disch := omega) only [go_sem, doCall, doCallQ, doCallP, Nat.reduceAdd, Nat.reduceMul, Nat.reduceSub, Nat.reduceDiv, Nat.reduceMod, Nat.reduceLT, Nat.reduceLeDiff, Nat.reduceEqDiff, Nat.reduceBEq, Nat.reduceBNe, Int.reduceToNat, Int.reduceLT, Int.reduceLE, Int.reduceEq, Int.reduceNe, Int.reduceAdd, Int.reduceSub, Int.reduceMul, Int.reduceNeg, u9_1, lb9_1, hlt, hi', hw, hg, hlm, hfd, hv, hsc, hvw, hem, hlO, htk, hap, Option.isSome_none, Option.isSome_some, Bool.not_false, Bool.not_true, List.length_cons, List.length_nil, Nat.zero_add, List.getD_cons_zero, List.set_cons_zero, List.set_cons_succ, Int.natCast_nonneg, Int.toNat_natCast, Option.getD_some, Option.getD_none, List.drop_zero, Nat.sub_zero, Nat.zero_le, true_and, and_true, Nat.le_refl, chk_of]
        rw [loop_step1]; simp (maxSteps := 2000000) (disch := omega) only [go_sem, doCall, doCallQ, doCallP, Nat.reduceAdd, Nat.reduceMul, Nat.reduceSub, Nat.reduceDiv, Nat.reduceMod, Nat.reduceLT, Nat.reduceLeDiff, Nat.reduceEqDiff, Nat.reduceBEq, Nat.reduceBNe, Int.reduceToNat, Int.reduceLT, Int.reduceLE, Int.reduceEq, Int.reduceNe, Int.reduceAdd, Int.reduceSub, Int.reduceMul, Int.reduceNeg]; exact ih
    · rw [hE] at hem
      simp only [if_true, List.nil_append]
      obtain ⟨z', ih⟩ := lp_of1 a b ha hb hra hrb (i + 1) (by omega) O (by omega) z
      refine ⟨z', fun k => ?_⟩
      have ih := ih k
      generalize hR : (k (.exit 2) (clean [5] (st9_1 0 .unk (.own 0 10 0 (O ++ chL a (b.drop (i + 1))).length z') .unk .unk .unk [.arr 10 ((O ++ chL a (b.drop (i + 1))).map chRow)]))) = R at ih ⊢
      simp (maxSteps := 2000000) (disch := omega) only [go_sem, doCall, doCallQ, doCallP, Nat.reduceAdd, Nat.reduceMul, Nat.reduceSub, Nat.reduceDiv, Nat.reduceMod, Nat.reduceLT, Nat.reduceLeDiff, Nat.reduceEqDiff, Nat.reduceBEq, Nat.reduceBNe, Int.reduceToNat, Int.reduceLT, Int.reduceLE, Int.reduceEq, Int.reduceNe, Int.reduceAdd, Int.reduceSub, Int.reduceMul, Int.reduceNeg, u9_1, lb9_1, hlt, hi', hw, hg, hlm, hfd, hv, hsc, hvw, hem, hlO, htk, Option.isSome_none, Option.isSome_some, Bool.not_false, Bool.not_true, List.length_cons, List.length_nil, Nat.zero_add, List.getD_cons_zero, List.set_cons_zero, List.set_cons_succ, Int.natCast_nonneg, Int.toNat_natCast, Option.getD_some, Option.getD_none, List.drop_zero, Nat.sub_zero, Nat.zero_le, true_and, and_true, Nat.le_refl, chk_of]
      rw [loop_step1]; simp (maxSteps := 2000000) (disch := omega) only [go_sem, doCall, doCallQ, doCallP, Nat.reduceAdd, Nat.reduceMul, Nat.reduceSub, Nat.reduceDiv, Nat.reduceMod, Nat.reduceLT, Nat.reduceLeDiff, Nat.reduceEqDiff, Nat.reduceBEq, Nat.reduceBNe, Int.reduceToNat, Int.reduceLT, Int.reduceLE, Int.reduceEq, Int.reduceNe, Int.reduceAdd, Int.reduceSub, Int.reduceMul, Int.reduceNeg]; exact ih
termination_by b.length - i
end Go.Proofs.Ytbcpffhialoliaa
namespace Go.Proofs.Ytbcpffhialoliaa
open Go Go.Ev Go.Proofs.Ytbcpffhialoliaa.Ir
set_option maxRecDepth 100000
set_option maxHeartbeats 4000000
set_option linter.unusedSimpArgs false
set_option linter.unusedVariables false
theorem keysC : ∀ l : List Ch, keysD kd0 (l.map chRow) = some (l.map (·.ob))
  | [] => rfl
  | h :: l => by rw [List.map_cons, keysD, keysC l]; rfl
theorem c_sortC48 (F : List Ch) (hl : F.length ≤ 1000000) (hn : (F.map (·.ob)).Nodup) (b : Bool) :
    call ir 21 [.own 0 10 0 F.length b, .clo (.func 22) [] []] [.arr 10 (F.map chRow)] = some (.tup [], [.arr 10 ((srtK (·.ob) F).map chRow)]) := by
  have hlen : (F.map chRow).length = F.length := List.length_map ..
  have htk : ((F.map chRow).drop 0).take F.length = F.map chRow := by rw [List.drop_zero, ← hlen, List.take_length]
  have e := natSK_eq 10 kd0 21 22 (i := 0) (o := 0) (n := F.length) (b := b) (H := [.arr 10 (F.map chRow)]) (xs := F.map chRow) (ns := F.map (·.ob)) rfl ⟨by simp, by omega⟩
    (by rw [htk]; exact keysC F) hn
  rw [call_nat (by rfl), nat_eq]
  refine (natOr_l e).trans ?_
  rw [htk, Nat.zero_add, ← hlen, List.drop_length, srtK_map, List.append_nil]
  rfl
theorem fnd_some_of {o : Int} {l : List Hd} {d : Hd} (h : d ∈ l) (e : d.ob = o) : (fndO o l).isSome = true := by
  unfold fndO
  rw [List.find?_isSome]
  exact ⟨d, h, decide_eq_true e⟩
theorem of_nod {a b : List Hd} (ha : a.Pairwise (fun (x y : Hd) => x.ob < y.ob)) (hb : b.Pairwise (fun (x y : Hd) => x.ob < y.ob)) : ((gonL b a ++ chL a b).map (·.ob)).Nodup := by
  have e1 : (gonL b a).map (·.ob) = (a.filter fun d => !(fndO d.ob b).isSome).map (·.ob) := by unfold gonL; rw [List.map_map]; rfl
  have e2 : ((chL a b).map (·.ob)).Sublist (b.map (·.ob)) := by
    have : (b.map (chO a)).map (·.ob) = b.map (·.ob) := by rw [List.map_map]; rfl
    rw [← this]
    exact List.filter_sublist.map _
  rw [List.map_append, List.nodup_append]
  refine ⟨by rw [e1]; exact nod_of (f := Hd.ob) (ha.filter _), e2.nodup (nod_of (f := Hd.ob) hb), fun x hx y hy => ?_⟩
  rw [e1] at hx
  obtain ⟨q, hq, rfl⟩ := List.mem_map.1 hx
  obtain ⟨p, hp, rfl⟩ := List.mem_map.1 (e2.subset hy)
  intro e
  have := (List.mem_filter.1 hq).2
  rw [fnd_some_of hp e.symm] at this
  simp at this
/-- The changes. -/
def ofR (a b : List Hd) : List Ch := if rtR a && rtR b then srtK (·.ob) (gonL b a ++ chL a b) else []
theorem t_of (a b : List Hd) (ha : sml a) (hb : sml b) : ∃ z : Bool, call ir 9 [vHs a, vHs b] [] = some (.own 0 10 0 (ofR a b).length z, [.arr 10 ((ofR a b).map chRow)]) := by
  have hla := ha.1
  have hlb := hb.1
  have h1 := t_right48 a (by omega) (sml_b ha)
  have h2 := t_right48 b (by omega) (sml_b hb)
  have hma : (a.map hdRow).length = a.length := List.length_map ..
  have hmb : (b.map hdRow).length = b.length := List.length_map ..
  unfold ofR
  cases hra : rtR a
  · rw [hra] at h1
    refine ⟨false, ?_⟩
    rw [call_eq (fn := ir9) rfl, evF_bnd]
    simp (maxSteps := 2000000) (disch := omega) only [go_sem, doCall, doCallQ, doCallP, Nat.reduceAdd, Nat.reduceMul, Nat.reduceSub, Nat.reduceDiv, Nat.reduceMod, Nat.reduceLT, Nat.reduceLeDiff, Nat.reduceEqDiff, Nat.reduceBEq, Nat.reduceBNe, Int.reduceToNat, Int.reduceLT, Int.reduceLE, Int.reduceEq, Int.reduceNe, Int.reduceAdd, Int.reduceSub, Int.reduceMul, Int.reduceNeg, bd9, h1, Int.natCast_nonneg, Int.toNat_natCast, Option.getD_some, Option.getD_none, List.drop_zero, Nat.sub_zero, Nat.zero_le, true_and, and_true, Nat.le_refl, chk_of]
  · cases hrb : rtR b
    · rw [hra] at h1
      rw [hrb] at h2
      refine ⟨false, ?_⟩
      rw [call_eq (fn := ir9) rfl, evF_bnd]
      simp (maxSteps := 2000000) (disch := omega) only [go_sem, doCall, doCallQ, doCallP, Nat.reduceAdd, Nat.reduceMul, Nat.reduceSub, Nat.reduceDiv, Nat.reduceMod, Nat.reduceLT, Nat.reduceLeDiff, Nat.reduceEqDiff, Nat.reduceBEq, Nat.reduceBNe, Int.reduceToNat, Int.reduceLT, Int.reduceLE, Int.reduceEq, Int.reduceNe, Int.reduceAdd, Int.reduceSub, Int.reduceMul, Int.reduceNeg, bd9, h1, h2, Int.natCast_nonneg, Int.toNat_natCast, Option.getD_some, Option.getD_none, List.drop_zero, Nat.sub_zero, Nat.zero_le, true_and, and_true, Nat.le_refl, chk_of]
    · have pa := (rt_iff a).1 hra
      have pb := (rt_iff b).1 hrb
      rw [hra] at h1
      rw [hrb] at h2
      have hn := of_nod pa.2 pb.2
      have hOl : (gonL b a ++ chL a b).length ≤ 1000000 := by
        have q1 : (gonL b a).length ≤ a.length := by unfold gonL; rw [List.length_map]; exact List.length_filter_le ..
        have q2 : (chL a b).length ≤ b.length := by unfold chL; exact Nat.le_trans (List.length_filter_le ..) (by rw [List.length_map]; exact Nat.le_refl _)
        rw [List.length_append]; omega
      have hgl : (gonL b a).length ≤ 100000 := by
        have q1 : (gonL b a).length ≤ a.length := by unfold gonL; rw [List.length_map]; exact List.length_filter_le ..
        omega
      obtain ⟨z1, l1⟩ := lp_of0 a b (by omega) (by omega) 0 (Nat.zero_le _) [] (Nat.le_refl _) false
      obtain ⟨z2, l2⟩ := lp_of1 a b ha hb (fun d hd => ((one_iff d).1 (pa.1 d hd)).2) (fun d hd => ((one_iff d).1 (pb.1 d hd)).2) 0 (Nat.zero_le _) (gonL b a) (by omega) z1
      rw [List.drop_zero] at l1 l2
      rw [List.nil_append] at l1
      have hs := c_sortC48 _ hOl hn z2
      have hsl := srtK_len (fun c : Ch => c.ob) (gonL b a ++ chL a b)
      refine ⟨z2, ?_⟩
      simp only [Bool.and_self, if_true]
      rw [hsl]
      generalize gonL b a ++ chL a b = O at l2 hs
      generalize gonL b a = G at l1 l2
      rw [call_eq (fn := ir9) rfl, evF_bnd]
      simp (maxSteps := 2000000) (disch := omega) only [go_sem, doCall, doCallQ, doCallP, Nat.reduceAdd, Nat.reduceMul, Nat.reduceSub, Nat.reduceDiv, Nat.reduceMod, Nat.reduceLT, Nat.reduceLeDiff, Nat.reduceEqDiff, Nat.reduceBEq, Nat.reduceBNe, Int.reduceToNat, Int.reduceLT, Int.reduceLE, Int.reduceEq, Int.reduceNe, Int.reduceAdd, Int.reduceSub, Int.reduceMul, Int.reduceNeg, bd9, h1, h2, hma, hmb, Int.natCast_nonneg, Int.toNat_natCast, Option.getD_some, Option.getD_none, List.drop_zero, Nat.sub_zero, Nat.zero_le, true_and, and_true, Nat.le_refl, chk_of]
      rw [loop_step1]; simp (maxSteps := 2000000) (disch := omega) only [go_sem, doCall, doCallQ, doCallP, Nat.reduceAdd, Nat.reduceMul, Nat.reduceSub, Nat.reduceDiv, Nat.reduceMod, Nat.reduceLT, Nat.reduceLeDiff, Nat.reduceEqDiff, Nat.reduceBEq, Nat.reduceBNe, Int.reduceToNat, Int.reduceLT, Int.reduceLE, Int.reduceEq, Int.reduceNe, Int.reduceAdd, Int.reduceSub, Int.reduceMul, Int.reduceNeg]
      refine (l1 _).trans ?_
      simp (maxSteps := 2000000) (disch := omega) only [go_sem, doCall, doCallQ, doCallP, Nat.reduceAdd, Nat.reduceMul, Nat.reduceSub, Nat.reduceDiv, Nat.reduceMod, Nat.reduceLT, Nat.reduceLeDiff, Nat.reduceEqDiff, Nat.reduceBEq, Nat.reduceBNe, Int.reduceToNat, Int.reduceLT, Int.reduceLE, Int.reduceEq, Int.reduceNe, Int.reduceAdd, Int.reduceSub, Int.reduceMul, Int.reduceNeg, hmb, Int.natCast_nonneg, Int.toNat_natCast, Option.getD_some, Option.getD_none, List.drop_zero, Nat.sub_zero, Nat.zero_le, true_and, and_true, Nat.le_refl, chk_of]
      rw [loop_step1]; simp (maxSteps := 2000000) (disch := omega) only [go_sem, doCall, doCallQ, doCallP, Nat.reduceAdd, Nat.reduceMul, Nat.reduceSub, Nat.reduceDiv, Nat.reduceMod, Nat.reduceLT, Nat.reduceLeDiff, Nat.reduceEqDiff, Nat.reduceBEq, Nat.reduceBNe, Int.reduceToNat, Int.reduceLT, Int.reduceLE, Int.reduceEq, Int.reduceNe, Int.reduceAdd, Int.reduceSub, Int.reduceMul, Int.reduceNeg]
      refine (l2 _).trans ?_
      simp (maxSteps := 2000000) (disch := omega) only [go_sem, doCall, doCallQ, doCallP, Nat.reduceAdd, Nat.reduceMul, Nat.reduceSub, Nat.reduceDiv, Nat.reduceMod, Nat.reduceLT, Nat.reduceLeDiff, Nat.reduceEqDiff, Nat.reduceBEq, Nat.reduceBNe, Int.reduceToNat, Int.reduceLT, Int.reduceLE, Int.reduceEq, Int.reduceNe, Int.reduceAdd, Int.reduceSub, Int.reduceMul, Int.reduceNeg, hs, Int.natCast_nonneg, Int.toNat_natCast, Option.getD_some, Option.getD_none, List.drop_zero, Nat.sub_zero, Nat.zero_le, true_and, and_true, Nat.le_refl, chk_of]
end Go.Proofs.Ytbcpffhialoliaa
namespace Go.Proofs.Ytbcpffhialoliaa
open Go Go.Ev Go.Proofs.Ytbcpffhialoliaa.Ir
set_option maxRecDepth 100000
set_option linter.unusedSimpArgs false
set_option linter.unusedVariables false
theorem findM_low {α : Type} {k : Int} : ∀ {l : List (Int × α)}, (∀ p ∈ l, k < p.1) → findM k l = none := fun h => findM_none fun p hp => by have := h p hp; omega
theorem srtM_ext {α : Type} : ∀ {l m : List (Int × α)}, SrtM l → SrtM m → (∀ k, findM k l = findM k m) → l = m
  | [], [], _, _, _ => rfl
  | [], (b, w) :: m, _, _, h => by have := h b; simp [findM] at this
  | (a, v) :: l, [], _, _, h => by have := h a; simp [findM] at this
  | (a, v) :: l, (b, w) :: m, hl, hm, h => by
    have h1 := List.pairwise_cons.1 hl
    have h2 := List.pairwise_cons.1 hm
    have ea : a = b := by
      rcases Int.lt_trichotomy a b with q | q | q
      · have := h a
        rw [findM, if_pos rfl, findM_low (l := (b, w) :: m) (fun p hp => by
          rcases List.mem_cons.1 hp with rfl | hp
          · exact q
          · have := h2.1 p hp; simp only at this; omega)] at this
        simp at this
      · exact q
      · have := h b
        rw [findM_low (l := (a, v) :: l) (fun p hp => by
          rcases List.mem_cons.1 hp with rfl | hp
          · exact q
          · have := h1.1 p hp; simp only at this; omega), findM, if_pos rfl] at this
        simp at this
    subst ea
    have ev : v = w := by have := h a; rw [findM, findM, if_pos rfl, if_pos rfl] at this; exact Option.some.inj this
    subst ev
    rw [srtM_ext h1.2 h2.2 (fun k => by
      by_cases e : a = k
      · subst e
        rw [findM_low (fun p hp => h1.1 p hp), findM_low (fun p hp => h2.1 p hp)]
      · have := h k
        rwa [findM, findM, if_neg e, if_neg e] at this)]
theorem findM_put {α : Type} (k j : Int) (v : α) : ∀ l : List (Int × α), findM k (putM j v l) = if j = k then some v else findM k l
  | [] => rfl
  | (a, d) :: l => by
    rw [putM]
    split
    · rw [findM]
    · rename_i h1
      split
      · rename_i h2
        subst h2
        rw [findM, findM]
        by_cases e : j = k
        · rw [if_pos e, if_pos e]
        · rw [if_neg e, if_neg e, if_neg e]
      · rename_i h2
        rw [findM, findM_put k j v l, findM]
        by_cases e : a = k
        · rw [if_pos e, if_pos e, if_neg (by omega)]
        · rw [if_neg e, if_neg e]
theorem findM_merge {α : Type} (k : Int) : ∀ (fs es : List (Int × α)), SrtM fs → findM k (mergeM es fs) = (match findM k fs with | some v => some v | none => findM k es)
  | [], es, _ => rfl
  | (a, v) :: fs, es, h => by
    have h1 := List.pairwise_cons.1 h
    have ih := findM_merge k fs (putM a v es) h1.2
    have e0 : mergeM es ((a, v) :: fs) = mergeM (putM a v es) fs := rfl
    rw [e0, ih, findM_put]
    by_cases e : a = k
    · subst e
      rw [findM_low (fun p hp => h1.1 p hp), if_pos rfl, findM, if_pos rfl]
    · rw [if_neg e]
      conv => rhs; rw [findM, if_neg e]
theorem findM_pc (k : Int) : ∀ l : List Pc, findM k (l.map pcE) = (l.find? fun p => decide (p.ix = k)).map pcD
  | [] => rfl
  | p :: l => by
    show findM k ((p.ix, pcD p) :: l.map pcE) = _
    rw [findM, List.find?_cons]
    by_cases e : p.ix = k
    · rw [if_pos e, decide_eq_true e]; rfl
    · rw [if_neg e, decide_eq_false e, findM_pc k l]
theorem srt_pc {l : List Pc} (h : rises l) : SrtM (l.map pcE) := by
  unfold SrtM
  rw [List.pairwise_map]
  exact h
/-- The only one at its place. -/
theorem find_the {l : List Pc} (h : rises l) {p : Pc} (hp : p ∈ l) : (l.find? fun q => decide (q.ix = p.ix)) = some p := by
  induction l with
  | nil => simp at hp
  | cons q l ih =>
    have h2 := List.pairwise_cons.1 h
    rw [List.find?_cons]
    rcases List.mem_cons.1 hp with rfl | hp
    · rw [decide_eq_true rfl]
    · have := h2.1 p hp
      rw [decide_eq_false (by omega)]
      exact ih h2.2 hp
theorem find_by {l : List Pc} {k : Int} {p : Pc} (h : (l.find? fun q => decide (q.ix = k)) = some p) : p ∈ l ∧ p.ix = k :=
  ⟨List.mem_of_find?_eq_some h, of_decide_eq_true (List.find?_some (p := fun q : Pc => decide (q.ix = k)) h)⟩
theorem find_no {l : List Pc} {k : Int} (h : (l.find? fun q => decide (q.ix = k)) = none) : ∀ p ∈ l, p.ix ≠ k := fun p hp e => by
  have := List.find?_eq_none.1 h p hp
  simp [e] at this
theorem at_iff (k : Int) (l : List Pc) : atP k l = true ↔ ∃ p ∈ l, p.ix = k := by
  unfold atP
  rw [List.any_eq_true]
  constructor
  · rintro ⟨p, h1, h2⟩; exact ⟨p, h1, of_decide_eq_true h2⟩
  · rintro ⟨p, h1, h2⟩; exact ⟨p, h1, decide_eq_true h2⟩
theorem isNew_iff {x : List Pc} (hx : rises x) (p : Pc) : isNew x p = true ↔ p ∉ x := by
  unfold isNew
  constructor
  · intro h hp
    rw [find_the hx hp] at h
    simp [same_refl] at h
  · intro h
    cases e : x.find? (fun q => decide (q.ix = p.ix)) with
    | none => rfl
    | some q =>
      simp only
      cases es : samePc p q
      · rfl
      · have := find_by e
        rw [← same_eq es] at this
        exact absurd this.1 h
/-- One behind the other lost. -/
def delG : List Int → List Pc → Option (List Pc)
  | [], F => some F
  | i :: l, F => if atP i F then delG l (F.filter (noI i)) else none
/-- What is kept and what is new, together, is what is. -/
theorem merge_is {x y : List Pc} (hx : rises x) (hy : rises y) : mergeM ((x.filter fun p => atP p.ix y).map pcE) ((y.filter (isNew x)).map pcE) = y.map pcE := by
  have s1 : rises (x.filter fun p => atP p.ix y) := hx.filter _
  have s2 : rises (y.filter (isNew x)) := hy.filter _
  apply srtM_ext (merge_srt (srt_pc s1)) (srt_pc hy)
  intro k
  rw [findM_merge k _ _ (srt_pc s2), findM_pc, findM_pc, findM_pc]
  cases ey : y.find? (fun p => decide (p.ix = k)) with
  | none =>
    have hno := find_no ey
    rw [List.find?_eq_none.2 (fun p hp => by simpa using hno p (List.mem_filter.1 hp).1)]
    rw [List.find?_eq_none.2 (fun p hp => by
      have h2 := (List.mem_filter.1 hp).2
      obtain ⟨q, hq, e⟩ := (at_iff _ _).1 h2
      have := hno q hq
      simp; omega)]
    rfl
  | some p =>
    obtain ⟨hp, rfl⟩ := find_by ey
    cases en : isNew x p
    · have hpx : p ∈ x := by
        have := isNew_iff hx p
        rw [en] at this
        simpa using this
      have hnone : (y.filter (isNew x)).find? (fun q => decide (q.ix = p.ix)) = none := List.find?_eq_none.2 (fun q hq => by
        have h2 := List.mem_filter.1 hq
        intro e
        have e := of_decide_eq_true e
        have := find_the hy h2.1
        rw [e, find_the hy hp] at this
        have := Option.some.inj this
        subst this
        rw [en] at h2
        simp at h2)
      rw [hnone, find_the s1 (List.mem_filter.2 ⟨hpx, (at_iff _ _).2 ⟨p, hp, rfl⟩⟩)]
      rfl
    · rw [find_the s2 (List.mem_filter.2 ⟨hp, en⟩)]
      rfl
/-- Nothing has changed just if both are the same. -/
theorem emp_iff {x y : Hd} (hx : oneR x = true) (hy : oneR y = true) : emp (chg x y true) = true ↔ x = y := by
  have px := (one_iff x).1 hx
  have py := (one_iff y).1 hy
  constructor
  · intro h
    unfold emp chg at h
    simp only [Bool.not_true, Bool.false_or, Bool.and_eq_true, Bool.not_eq_true', Bool.not_eq_false', decide_eq_true_iff, decide_eq_false_iff_not] at h
    obtain ⟨h1, _, h3, h4⟩ := h
    have hs : sameB x y = true := by simpa using h1
    unfold sameB at hs
    simp only [Bool.and_eq_true, beq_iff_eq] at hs
    obtain ⟨e1, e2, e3, e4, e5⟩ := hs
    rw [if_neg (fun h => h e2)] at h3 h4
    rw [List.length_map] at h4
    have h3 := List.length_eq_zero_iff.1 h3
    have h4 := List.length_eq_zero_iff.1 h4
    have := merge_is px.2 py.2
    rw [h3, List.filter_eq_self.2 (fun p hp => by
      have := List.filter_eq_nil_iff.1 h4 p hp
      simpa using this)] at this
    have e6 : x.ps.map pcE = y.ps.map pcE := this
    have e7 : x.ps = y.ps := by
      have inj : Function.Injective pcE := by
        intro a b h
        unfold pcE pcD at h
        injection h with _ h
        injection h with h
        injection h with h1 h
        injection h with h2 h
        injection h with h3 h
        injection h with h4 _
        injection h1 with _ h1
        injection h2 with _ h2
        injection h3 with _ h3
        injection h4 with _ h4
        have hb : a.bd = b.bd := by
          have : ∀ u v : List UInt8, bB u = bB v → u = v := by
            intro u
            induction u with
            | nil => intro v h; cases v with
              | nil => rfl
              | cons c v => simp [bB] at h
            | cons c u ih => intro v h; cases v with
              | nil => simp [bB] at h
              | cons e v =>
                simp only [bB, List.map_cons, List.cons.injEq, and_true] at h
                obtain ⟨h1, h2⟩ := h
                injection h1 with _ h1
                rw [ih v h2, UInt8.toNat_inj.1 (Int.ofNat.inj h1)]
          exact this _ _ h4
        cases a; cases b; simp_all
      exact (List.map_inj_right (fun a b h => inj h)).1 e6
    cases x; cases y; simp_all
  · rintro rfl
    unfold emp chg
    have hs : sameB x x = true := by unfold sameB; simp
    have hn : decide (x.ge ≠ x.ge) = false := decide_eq_false (fun h => h rfl)
    rw [hs, hn]
    simp only [Bool.not_true, Bool.not_false, Bool.false_or, Bool.false_eq_true, if_false, Bool.true_and, Bool.and_eq_true, decide_eq_true_iff, List.length_map, List.length_eq_zero_iff, List.filter_eq_nil_iff]
    exact ⟨fun p hp h => (isNew_iff px.2 p).1 h hp, fun p hp h => by
      rw [(at_iff _ _).2 ⟨p, hp, rfl⟩] at h
      simp at h⟩
theorem emp_new (x y : Hd) : emp (chg x y false) = false := rfl
end Go.Proofs.Ytbcpffhialoliaa
namespace Go.Proofs.Ytbcpffhialoliaa
open Go Go.Ev Go.Proofs.Ytbcpffhialoliaa.Ir
set_option maxRecDepth 100000
set_option maxHeartbeats 4000000
set_option linter.unusedSimpArgs false
set_option linter.unusedVariables false
theorem drop_getK (ls : List Int) {i : Nat} (h : i < ls.length) : (kR ls).getD i [] = [.int .i64 ls[i]] := by simp [List.getD_eq_getElem?_getD, h, kR]
def hdOf (h : Hd) (c : Ch) (R : List Pc) : Hd := if c.bo then ⟨c.b1, c.b2, c.b3, c.b4, c.b5, R⟩ else ⟨h.ob, h.ge, h.tg, h.le, h.ti, R⟩
end Go.Proofs.Ytbcpffhialoliaa
namespace Go.Proofs.Ytbcpffhialoliaa
open Go Go.Ev Go.Proofs.Ytbcpffhialoliaa.Ir
set_option maxRecDepth 100000
set_option maxHeartbeats 4000000
set_option linter.unusedSimpArgs false
set_option linter.unusedVariables false
instance : Inhabited Ch := ⟨⟨0, false, false, 0, 0, [], 0, 0, [], []⟩⟩
theorem getCh (l : List Ch) {i : Nat} (h : i < l.length) : (l.map chRow).getD i [] = [.int .i64 l[i].ob, .bool l[i].bo, .bool l[i].go, .int .i64 l[i].b1, .int .i64 l[i].b2, .str l[i].b3, .int .i64 l[i].b4, .int .i64 l[i].b5, .list 4 (l[i].ps.map pcRow), .list 1 (kR l[i].ls)] := by simp [List.getD_eq_getElem?_getD, h, chRow]
/-! ### what rises -/
def okC (l : List Ch) : Prop := l.Pairwise (fun x y => x.ob < y.ob) ∧ ∀ c ∈ l, c.bo = true → c.b1 = c.ob
/-! ### the second loop of Apply -/
def apS (b : List Hd) (O : List Hd) (c : Ch) : List Hd := O.filter (noO c.ob) ++ (if c.go then [] else [(fndO c.ob b).getD d0])
def apR (b : List Hd) (l : List Ch) (O : List Hd) : List Hd := l.foldl (apS b) O
/-- One change, as a whole. -/
def stepOk (a b : List Hd) (c : Ch) : Prop := (c.go = true ∧ (fndO c.ob a).isSome = true) ∨ (c.go = false ∧ ((fndO c.ob b).getD d0).ob = c.ob ∧ ∃ v H, call ir 36 [vHd ((fndO c.ob a).getD d0), dT (fndO c.ob a).isSome, vCh c] [] = some (v, H) ∧ v.scalar = false ∧ v.view H = .tup [vHd ((fndO c.ob b).getD d0), dI 0])
end Go.Proofs.Ytbcpffhialoliaa
namespace Go.Proofs.Ytbcpffhialoliaa
open Go Go.Ev Go.Proofs.Ytbcpffhialoliaa.Ir
set_option maxRecDepth 100000
set_option maxHeartbeats 4000000
set_option linter.unusedSimpArgs false
set_option linter.unusedVariables false
theorem fnd_the {l : List Hd} (h : l.Pairwise (fun x y => x.ob < y.ob)) {d : Hd} (hd : d ∈ l) : fndO d.ob l = some d := by
  induction l with
  | nil => simp at hd
  | cons q l ih =>
    have h2 := List.pairwise_cons.1 h
    unfold fndO at ih ⊢
    rw [List.find?_cons]
    rcases List.mem_cons.1 hd with rfl | hd
    · have : isO d.ob d = true := decide_eq_true rfl
      rw [this]
    · have := h2.1 d hd
      have e : isO d.ob q = false := decide_eq_false (by omega)
      rw [e]
      exact ih h2.2 hd
theorem srt_by {β : Type} (f : β → Int) {l m : List β} (hl : l.Pairwise (fun a b => f a < f b)) (hm : m.Pairwise (fun a b => f a < f b)) (h : ∀ x, x ∈ l ↔ x ∈ m) : l = m := by
  induction l generalizing m with
  | nil =>
    cases m with
    | nil => rfl
    | cons y m => exact absurd ((h y).2 (.head _)) (by simp)
  | cons x l ih =>
    cases m with
    | nil => exact absurd ((h x).1 (.head _)) (by simp)
    | cons y m =>
      have h1 := List.pairwise_cons.1 hl
      have h2 := List.pairwise_cons.1 hm
      have e : x = y := by
        rcases List.mem_cons.1 ((h x).1 (.head _)) with e | hx
        · exact e
        · rcases List.mem_cons.1 ((h y).2 (.head _)) with e | hy
          · exact e.symm
          · have a1 := h2.1 x hx
            have a2 := h1.1 y hy
            omega
      subst e
      rw [ih h1.2 h2.2 (fun z => by
        constructor
        · intro hz
          rcases List.mem_cons.1 ((h z).1 (.tail _ hz)) with rfl | q
          · have := h1.1 z hz; omega
          · exact q
        · intro hz
          rcases List.mem_cons.1 ((h z).2 (.tail _ hz)) with rfl | q
          · have := h2.1 z hz; omega
          · exact q)]
/-! ### the changes -/
theorem of_mem {a b : List Hd} {c : Ch} : c ∈ gonL b a ++ chL a b ↔ (∃ d ∈ a, fndO d.ob b = none ∧ c = gonC d) ∨ (∃ d ∈ b, c = chO a d ∧ emp c = false) := by
  rw [List.mem_append]
  unfold gonL chL
  constructor
  · rintro (h | h)
    · obtain ⟨d, hd, rfl⟩ := List.mem_map.1 h
      have h2 := List.mem_filter.1 hd
      refine .inl ⟨d, h2.1, ?_, rfl⟩
      cases e : fndO d.ob b with
      | none => rfl
      | some q => rw [e] at h2; simp at h2
    · have h2 := List.mem_filter.1 h
      obtain ⟨d, hd, e⟩ := List.mem_map.1 h2.1
      exact .inr ⟨d, hd, e.symm, by simpa using h2.2⟩
  · rintro (⟨d, hd, h1, rfl⟩ | ⟨d, hd, rfl, h1⟩)
    · exact .inl (List.mem_map.2 ⟨d, List.mem_filter.2 ⟨hd, by rw [h1]; rfl⟩, rfl⟩)
    · exact .inr (List.mem_filter.2 ⟨List.mem_map.2 ⟨d, hd, rfl⟩, by rw [h1]; rfl⟩)
structure RtA (a : List Hd) : Prop where
  sm : sml a
  rt : rtR a = true
  ok : ∀ d ∈ a, okI d.ps
theorem RtA.srt {a : List Hd} (h : RtA a) : a.Pairwise (fun x y => x.ob < y.ob) := ((rt_iff a).1 h.rt).2
theorem RtA.one {a : List Hd} (h : RtA a) {d : Hd} (hd : d ∈ a) : oneR d = true := ((rt_iff a).1 h.rt).1 d hd
theorem RtA.ri {a : List Hd} (h : RtA a) {d : Hd} (hd : d ∈ a) : rises d.ps := ((one_iff d).1 (h.one hd)).2
/-! ### all changes -/
theorem apR_mem (b : List Hd) (x : Hd) : ∀ (L : List Ch) (O : List Hd), (L.map (·.ob)).Nodup → (∀ c ∈ L, c.go = false → ((fndO c.ob b).getD d0).ob = c.ob) →
    (x ∈ apR b L O ↔ (x ∈ O ∧ ∀ c ∈ L, x.ob ≠ c.ob) ∨ ∃ c ∈ L, c.go = false ∧ x = (fndO c.ob b).getD d0)
  | [], O, _, _ => by
    show x ∈ O ↔ _
    constructor
    · intro h; exact .inl ⟨h, fun c hc => by simp at hc⟩
    · rintro (h | ⟨c, hc, _⟩)
      · exact h.1
      · simp at hc
  | c :: L, O, hn, hb => by
    rw [List.map_cons, List.nodup_cons] at hn
    have e : apR b (c :: L) O = apR b L (apS b O c) := rfl
    rw [e, apR_mem b x L (apS b O c) hn.2 (fun c hc => hb c (.tail _ hc))]
    have hno : ∀ d : Hd, noO c.ob d = true ↔ d.ob ≠ c.ob := fun d => by unfold noO isO; simp
    have hmem : x ∈ apS b O c ↔ (x ∈ O ∧ x.ob ≠ c.ob) ∨ (c.go = false ∧ x = (fndO c.ob b).getD d0) := by
      unfold apS
      rw [List.mem_append, List.mem_filter, hno]
      cases hg : c.go <;> simp
    rw [hmem]
    constructor
    · rintro (⟨h1 | h1, h2⟩ | ⟨c', h1, h2⟩)
      · exact .inl ⟨h1.1, fun c' hc' => by
          rcases List.mem_cons.1 hc' with rfl | hc'
          · exact h1.2
          · exact h2 c' hc'⟩
      · exact .inr ⟨c, .head _, h1⟩
      · exact .inr ⟨c', .tail _ h1, h2⟩
    · rintro (⟨h1, h2⟩ | ⟨c', h1, h2⟩)
      · exact .inl ⟨.inl ⟨h1, h2 c (.head _)⟩, fun c' hc' => h2 c' (.tail _ hc')⟩
      · rcases List.mem_cons.1 h1 with rfl | h1
        · refine .inl ⟨.inr h2, fun q hq e => ?_⟩
          have := hb c' (.head _) h2.1
          rw [← h2.2, e] at this
          exact hn.1 (List.mem_map.2 ⟨q, hq, this⟩)
        · exact .inr ⟨c', h1, h2⟩
theorem apS_nod {b O : List Hd} {c : Ch} (hb : c.go = false → ((fndO c.ob b).getD d0).ob = c.ob) (h : (O.map (·.ob)).Nodup) : ((apS b O c).map (·.ob)).Nodup := by
  unfold apS
  rw [List.map_append, List.nodup_append]
  refine ⟨(List.filter_sublist.map _).nodup h, ?_, fun x hx y hy e => ?_⟩
  · split <;> simp
  · obtain ⟨q, hq, rfl⟩ := List.mem_map.1 hx
    have h1 := (List.mem_filter.1 hq).2
    cases hg : c.go
    · rw [hg, if_neg (by simp)] at hy
      have hy : y = ((fndO c.ob b).getD d0).ob := by simpa using hy
      rw [hb hg] at hy
      unfold noO isO at h1
      simp at h1
      omega
    · rw [hg, if_pos rfl] at hy
      simp at hy
theorem apR_nod {b : List Hd} : ∀ (L : List Ch) (O : List Hd), (∀ c ∈ L, c.go = false → ((fndO c.ob b).getD d0).ob = c.ob) → (O.map (·.ob)).Nodup → ((apR b L O).map (·.ob)).Nodup
  | [], O, _, h => h
  | c :: L, O, hb, h => apR_nod L (apS b O c) (fun c hc => hb c (.tail _ hc)) (apS_nod (hb c (.head _)) h)
theorem of_bind {a b : List Hd} (hb : RtA b) {c : Ch} (hc : c ∈ gonL b a ++ chL a b) : c.go = false → ((fndO c.ob b).getD d0).ob = c.ob := by
  intro hg
  rcases of_mem.1 hc with ⟨d, hd, h1, rfl⟩ | ⟨d, hd, rfl, h1⟩
  · simp [gonC] at hg
  · show ((fndO d.ob b).getD d0).ob = d.ob
    rw [fnd_the hb.srt hd]; rfl
theorem applied {a b : List Hd} (ha : RtA a) (hb : RtA b) : srtK (·.ob) (apR b (ofR a b) a) = b := by
  have hof : ofR a b = srtK (·.ob) (gonL b a ++ chL a b) := by unfold ofR; rw [ha.rt, hb.rt]; rfl
  have hp := srtK_perm (·.ob) (gonL b a ++ chL a b)
  have hn : ((ofR a b).map (·.ob)).Nodup := by rw [hof]; exact (hp.map _).nodup_iff.2 (of_nod ha.srt hb.srt)
  have hm : ∀ c, c ∈ ofR a b ↔ c ∈ gonL b a ++ chL a b := fun c => by rw [hof]; exact hp.mem_iff
  have hbd : ∀ c ∈ ofR a b, c.go = false → ((fndO c.ob b).getD d0).ob = c.ob := fun c hc => of_bind hb ((hm c).1 hc)
  have hnA := apR_nod (b := b) (ofR a b) a hbd (nod_of (f := Hd.ob) ha.srt)
  refine srt_by (β := Hd) (fun d => d.ob) (srt_strict (f := fun d : Hd => d.ob) hnA) hb.srt ?_
  intro x
  rw [(srtK_perm (·.ob) (apR b (ofR a b) a)).mem_iff, apR_mem b x _ _ hn hbd]
  constructor
  · rintro (⟨h1, h2⟩ | ⟨c, hc, hg, rfl⟩)
    · cases hq : fndO x.ob b with
      | none => exact absurd rfl (h2 (gonC x) ((hm _).2 (of_mem.2 (.inl ⟨x, h1, hq, rfl⟩))))
      | some y =>
        obtain ⟨hy, hyo⟩ := fnd_in hq
        have hfa : fndO y.ob a = some x := by rw [hyo]; exact fnd_the ha.srt h1
        cases he : emp (chO a y)
        · exact absurd hyo.symm (h2 (chO a y) ((hm _).2 (of_mem.2 (.inr ⟨y, hy, rfl, he⟩))))
        · unfold chO at he
          rw [hfa] at he
          have := (emp_iff (ha.one h1) (hb.one hy)).1 he
          rw [this]; exact hy
    · rcases of_mem.1 ((hm c).1 hc) with ⟨d, hd, h1, rfl⟩ | ⟨d, hd, rfl, h1⟩
      · simp [gonC] at hg
      · show (fndO d.ob b).getD d0 ∈ b
        rw [fnd_the hb.srt hd]; exact hd
  · intro hx
    cases he : emp (chO a x)
    · refine .inr ⟨chO a x, (hm _).2 (of_mem.2 (.inr ⟨x, hx, rfl, he⟩)), rfl, ?_⟩
      show x = (fndO x.ob b).getD d0
      rw [fnd_the hb.srt hx]; rfl
    · unfold chO at he
      cases hq : fndO x.ob a with
      | none => rw [hq] at he; exact absurd he (by rw [Option.isSome_none, emp_new]; simp)
      | some y =>
        rw [hq] at he
        obtain ⟨hy, hyo⟩ := fnd_in hq
        have := (emp_iff (ha.one hy) (hb.one hx)).1 he
        subst this
        refine .inl ⟨hy, fun c hc e => ?_⟩
        rcases of_mem.1 ((hm c).1 hc) with ⟨d, hd, h1, rfl⟩ | ⟨d, hd, rfl, h1⟩
        · have : fndO d.ob b = some y := by
            rw [show d.ob = y.ob from e.symm]; exact fnd_the hb.srt hx
          rw [this] at h1; simp at h1
        · have e : y.ob = d.ob := e
          have h2 := fnd_the hb.srt hx
          rw [e, fnd_the hb.srt hd] at h2
          injection h2 with h2
          subst h2
          unfold chO at h1
          rw [hq] at h1
          rw [show emp (chg ((some d).getD d0) d (some d).isSome) = emp (chg d d true) from rfl, (emp_iff (hb.one hx) (hb.one hx)).2 rfl] at h1
          simp at h1
theorem of_okC {a b : List Hd} (ha : RtA a) (hb : RtA b) : okC (ofR a b) := by
  have hof : ofR a b = srtK (·.ob) (gonL b a ++ chL a b) := by unfold ofR; rw [ha.rt, hb.rt]; rfl
  have hp := srtK_perm (·.ob) (gonL b a ++ chL a b)
  refine ⟨by rw [hof]; exact srt_strict (of_nod ha.srt hb.srt), fun c hc hbo => ?_⟩
  rw [hof] at hc
  rcases of_mem.1 (hp.mem_iff.1 hc) with ⟨d, hd, h1, rfl⟩ | ⟨d, hd, rfl, h1⟩
  · simp [gonC] at hbo
  · unfold chO chg at hbo ⊢
    simp only at hbo ⊢
    rw [if_pos hbo]
theorem of_len {a b : List Hd} (ha : RtA a) (hb : RtA b) : (ofR a b).length ≤ 200000 := by
  have hof : ofR a b = srtK (·.ob) (gonL b a ++ chL a b) := by unfold ofR; rw [ha.rt, hb.rt]; rfl
  rw [hof, srtK_len, List.length_append]
  have q1 : (gonL b a).length ≤ a.length := by unfold gonL; rw [List.length_map]; exact List.length_filter_le ..
  have q2 : (chL a b).length ≤ b.length := by unfold chL; exact Nat.le_trans (List.length_filter_le ..) (by rw [List.length_map]; exact Nat.le_refl _)
  have := ha.sm.1
  have := hb.sm.1
  omega
end Go.Proofs.Ytbcpffhialoliaa
namespace Go.Proofs.Ytbcpffhialoliaa
open Go Go.Ev Go.Proofs.Ytbcpffhialoliaa.Ir
set_option maxRecDepth 100000
set_option maxHeartbeats 4000000
set_option linter.unusedSimpArgs false
set_option linter.unusedVariables false
instance : DecidableEq Pc := fun a b => decidable_of_iff (samePc a b = true) ⟨same_eq, fun h => by rw [h]; exact same_refl b⟩
theorem hd_eq (x y : Hd) : x = y ↔ sameB x y = true ∧ x.ps.length = y.ps.length ∧ x.ps = y.ps := by
  unfold sameB
  simp only [Bool.and_eq_true, beq_iff_eq]
  constructor
  · rintro rfl; exact ⟨⟨rfl, rfl, rfl, rfl, rfl⟩, rfl, rfl⟩
  · rintro ⟨⟨h1, h2, h3, h4, h5⟩, _, h6⟩; cases x; cases y; simp_all
instance : DecidableEq Hd := fun a b => decidable_of_iff (sameB a b = true ∧ a.ps.length = b.ps.length ∧ a.ps = b.ps) (hd_eq a b).symm
theorem few_two (a : List Hd) (h : (fwH a && decide (a.length ≤ 20)) = true) : sml a := by
  rw [Bool.and_eq_true, decide_eq_true_iff] at h
  exact sml_of h.1 h.2
end Go.Proofs.Ytbcpffhialoliaa
namespace Go.Proofs.Ytbcpffhialoliaa
open Go Go.Ev Go.Proofs.Ytbcpffhialoliaa.Ir
set_option maxRecDepth 100000
set_option maxHeartbeats 4000000
set_option linter.unusedSimpArgs false
set_option linter.unusedVariables false
def hasP (l : List Pc) (p : Pc) : Bool := l.any fun x => samePc x p
theorem hasP_iff (l : List Pc) (p : Pc) : hasP l p = true ↔ p ∈ l := by
  unfold hasP
  rw [List.any_eq_true]
  constructor
  · rintro ⟨x, h1, h2⟩; rw [← same_eq h2]; exact h1
  · intro h; exact ⟨p, h, same_refl p⟩
theorem hasP_no (l : List Pc) (p : Pc) : hasP l p = false ↔ p ∉ l := by rw [← hasP_iff]; simp
theorem hasP_drop {l : List Pc} {p : Pc} {i : Nat} (h : i < l.length) : hasP (l.drop i) p = if samePc l[i] p then true else hasP (l.drop (i + 1)) p := by
  rw [List.drop_eq_getElem_cons h]
  unfold hasP
  rw [List.any_cons]
  cases samePc l[i] p <;> rfl
theorem lp_has (l : List Pc) (p : Pc) (hl : l.length ≤ 1000000) (hb : ∀ q ∈ l, q.bd.length ≤ 1000000000) (k : Ex → St → Option (AV × Heap)) (i : Nat) (hi : i ≤ l.length) :
    (bnd (evC (call ir) (loop ir) lp11_0 (st11_0 0 (.ptr 0 0) (vPs l) (dI l.length) (dI i) [.dbox [.int .i64 p.ob, .int .i64 p.ge, .int .i64 p.ix, .list 1 (bB p.bd)]])) (lpC (call ir) (loop ir) [3, 7, 8, 9] lp11_0 k)) = (if hasP (l.drop i) p then k .ret (clean [4] ⟨0, [.unk, .unk, .unk, .unk, dT true, .unk, .unk, .unk, .unk, .unk, .unk, .unk, .unk, .unk, .unk, .unk, .unk], []⟩)
      else k (.exit 0) (clean [] (st11_0 0 .unk .unk .unk .unk []))) := by
  by_cases h : i = l.length
  · have hx : ¬ (i : Int) < l.length := by omega
    rw [h] at hx
    rw [h, List.drop_length]
    show _ = k (.exit 0) _
    simp (maxSteps := 2000000) (disch := omega) only [go_sem, doCall, doCallQ, doCallP, Nat.reduceAdd, Nat.reduceMul, Nat.reduceSub, Nat.reduceDiv, Nat.reduceMod, Nat.reduceLT, Nat.reduceLeDiff, Nat.reduceEqDiff, Nat.reduceBEq, Nat.reduceBNe, Int.reduceToNat, Int.reduceLT, Int.reduceLE, Int.reduceEq, Int.reduceNe, Int.reduceAdd, Int.reduceSub, Int.reduceMul, Int.reduceNeg, u11_0, lb11_0, hx]
  · have hlt : (i : Int) < l.length := by omega
    have hi' : i < l.length := by omega
    have hw := wr_succ (i := i) (by omega)
    have hg := getPc l hi'
    have hlm : (l.map pcRow).length = l.length := List.length_map ..
    have ih := lp_has l p hl hb k (i + 1) (by omega)
    have hsm := t_samep l[i] p (hb _ (List.getElem_mem hi'))
    rw [hasP_drop hi']
    cases e : samePc l[i] p
    · rw [e] at hsm
      simp only [Bool.false_eq_true, if_false]
      simp (maxSteps := 2000000) (disch := omega) only [go_sem, doCall, doCallQ, doCallP, Nat.reduceAdd, Nat.reduceMul, Nat.reduceSub, Nat.reduceDiv, Nat.reduceMod, Nat.reduceLT, Nat.reduceLeDiff, Nat.reduceEqDiff, Nat.reduceBEq, Nat.reduceBNe, Int.reduceToNat, Int.reduceLT, Int.reduceLE, Int.reduceEq, Int.reduceNe, Int.reduceAdd, Int.reduceSub, Int.reduceMul, Int.reduceNeg, u11_0, lb11_0, hlt, hi', hw, hg, hlm, hsm, Option.isSome_none, Option.isSome_some, Bool.not_false, Bool.not_true, List.length_cons, List.length_nil, Nat.zero_add, List.getD_cons_zero, List.set_cons_zero, List.set_cons_succ, Int.natCast_nonneg, Int.toNat_natCast, Option.getD_some, Option.getD_none, List.drop_zero, Nat.sub_zero, Nat.zero_le, true_and, and_true, Nat.le_refl, chk_of]
      rw [loop_step1]; simp (maxSteps := 2000000) (disch := omega) only [go_sem, doCall, doCallQ, doCallP, Nat.reduceAdd, Nat.reduceMul, Nat.reduceSub, Nat.reduceDiv, Nat.reduceMod, Nat.reduceLT, Nat.reduceLeDiff, Nat.reduceEqDiff, Nat.reduceBEq, Nat.reduceBNe, Int.reduceToNat, Int.reduceLT, Int.reduceLE, Int.reduceEq, Int.reduceNe, Int.reduceAdd, Int.reduceSub, Int.reduceMul, Int.reduceNeg]; exact ih
    · rw [e] at hsm
      rw [if_pos rfl, if_pos rfl]
      simp (maxSteps := 2000000) (disch := omega) only [go_sem, doCall, doCallQ, doCallP, Nat.reduceAdd, Nat.reduceMul, Nat.reduceSub, Nat.reduceDiv, Nat.reduceMod, Nat.reduceLT, Nat.reduceLeDiff, Nat.reduceEqDiff, Nat.reduceBEq, Nat.reduceBNe, Int.reduceToNat, Int.reduceLT, Int.reduceLE, Int.reduceEq, Int.reduceNe, Int.reduceAdd, Int.reduceSub, Int.reduceMul, Int.reduceNeg, u11_0, lb11_0, hlt, hi', hw, hg, hlm, hsm, Option.isSome_none, Option.isSome_some, Bool.not_false, Bool.not_true, List.length_cons, List.length_nil, Nat.zero_add, List.getD_cons_zero, List.set_cons_zero, List.set_cons_succ, Int.natCast_nonneg, Int.toNat_natCast, Option.getD_some, Option.getD_none, List.drop_zero, Nat.sub_zero, Nat.zero_le, true_and, and_true, Nat.le_refl, chk_of]
termination_by l.length - i
theorem t_lhas (l : List Pc) (p : Pc) (hl : l.length ≤ 1000000) (hb : ∀ q ∈ l, q.bd.length ≤ 1000000000) : call ir 11 [vPs l, vPc p] [] = some (dT (hasP l p), []) := by
  rw [call_eq (fn := ir11) rfl, evF_bnd]
  have hlm : (l.map pcRow).length = l.length := List.length_map ..
  simp (maxSteps := 2000000) (disch := omega) only [go_sem, doCall, doCallQ, doCallP, Nat.reduceAdd, Nat.reduceMul, Nat.reduceSub, Nat.reduceDiv, Nat.reduceMod, Nat.reduceLT, Nat.reduceLeDiff, Nat.reduceEqDiff, Nat.reduceBEq, Nat.reduceBNe, Int.reduceToNat, Int.reduceLT, Int.reduceLE, Int.reduceEq, Int.reduceNe, Int.reduceAdd, Int.reduceSub, Int.reduceMul, Int.reduceNeg, bd11, hlm, Int.natCast_nonneg, Int.toNat_natCast, Option.getD_some, Option.getD_none, List.drop_zero, Nat.sub_zero, Nat.zero_le, true_and, and_true, Nat.le_refl, chk_of]
  rw [loop_step1]; simp (maxSteps := 2000000) (disch := omega) only [go_sem, doCall, doCallQ, doCallP, Nat.reduceAdd, Nat.reduceMul, Nat.reduceSub, Nat.reduceDiv, Nat.reduceMod, Nat.reduceLT, Nat.reduceLeDiff, Nat.reduceEqDiff, Nat.reduceBEq, Nat.reduceBNe, Int.reduceToNat, Int.reduceLT, Int.reduceLE, Int.reduceEq, Int.reduceNe, Int.reduceAdd, Int.reduceSub, Int.reduceMul, Int.reduceNeg]
  refine (lp_has l p hl hb _ 0 (Nat.zero_le _)).trans ?_
  rw [List.drop_zero]
  cases hasP l p
  · rw [if_neg (by simp)]
    simp (maxSteps := 2000000) (disch := omega) only [go_sem, doCall, doCallQ, doCallP, Nat.reduceAdd, Nat.reduceMul, Nat.reduceSub, Nat.reduceDiv, Nat.reduceMod, Nat.reduceLT, Nat.reduceLeDiff, Nat.reduceEqDiff, Nat.reduceBEq, Nat.reduceBNe, Int.reduceToNat, Int.reduceLT, Int.reduceLE, Int.reduceEq, Int.reduceNe, Int.reduceAdd, Int.reduceSub, Int.reduceMul, Int.reduceNeg]
  · rw [if_pos rfl]
    simp (maxSteps := 2000000) (disch := omega) only [go_sem, doCall, doCallQ, doCallP, Nat.reduceAdd, Nat.reduceMul, Nat.reduceSub, Nat.reduceDiv, Nat.reduceMod, Nat.reduceLT, Nat.reduceLeDiff, Nat.reduceEqDiff, Nat.reduceBEq, Nat.reduceBNe, Int.reduceToNat, Int.reduceLT, Int.reduceLE, Int.reduceEq, Int.reduceNe, Int.reduceAdd, Int.reduceSub, Int.reduceMul, Int.reduceNeg]
/-! ### how many -/
def cnt (l : List Ch) : Nat := (l.map fun c => 1 + c.ps.length + c.ls.length).sum
theorem cnt_take {l : List Ch} {i : Nat} (h : i < l.length) : cnt (l.take (i + 1)) = cnt (l.take i) + (1 + l[i].ps.length + l[i].ls.length) := by
  unfold cnt
  rw [List.take_succ_eq_append_getElem h, List.map_append, List.sum_append]
  simp
def smC (l : List Ch) : Prop := l.length ≤ 200000 ∧ ∀ c ∈ l, c.ps.length ≤ 100000 ∧ c.ls.length ≤ 100000
theorem cnt_le {l : List Ch} (h : smC l) : ∀ i, i ≤ l.length → cnt (l.take i) ≤ i * 200001
  | 0, _ => by simp [cnt]
  | i + 1, hi => by
    have ih := cnt_le h i (by omega)
    have hc := h.2 l[i] (List.getElem_mem (by omega))
    rw [cnt_take (by omega)]
    omega
abbrev vCs (l : List Ch) : AV := .d (.list 10 (l.map chRow))
theorem lp_cnt (l : List Ch) (hs : smC l) (k : Ex → St → Option (AV × Heap)) (i : Nat) (hi : i ≤ l.length) :
    (bnd (evC (call ir) (loop ir) lp13_0 (st13_0 0 (dI (cnt (l.take i))) (vCs l) (dI l.length) (dI i) [])) (lpC (call ir) (loop ir) [3, 6, 7, 8] lp13_0 k)) = k (.exit 0) (clean [3] (st13_0 0 (dI (cnt l)) .unk .unk .unk [])) := by
  have hl := hs.1
  by_cases h : i = l.length
  · have hx : ¬ (i : Int) < l.length := by omega
    rw [h] at hx
    rw [h, List.take_length]
    simp (maxSteps := 2000000) (disch := omega) only [go_sem, doCall, doCallQ, doCallP, Nat.reduceAdd, Nat.reduceMul, Nat.reduceSub, Nat.reduceDiv, Nat.reduceMod, Nat.reduceLT, Nat.reduceLeDiff, Nat.reduceEqDiff, Nat.reduceBEq, Nat.reduceBNe, Int.reduceToNat, Int.reduceLT, Int.reduceLE, Int.reduceEq, Int.reduceNe, Int.reduceAdd, Int.reduceSub, Int.reduceMul, Int.reduceNeg, u13_0, lb13_0, hx]
  · have hlt : (i : Int) < l.length := by omega
    have hi' : i < l.length := by omega
    have hw := wr_succ (i := i) (by omega)
    have hg := getCh l hi'
    have hlm : (l.map chRow).length = l.length := List.length_map ..
    have hle := cnt_le hs i hi
    have hc := hs.2 l[i] (List.getElem_mem hi')
    have ih := lp_cnt l hs k (i + 1) (by omega)
    rw [show ((cnt (l.take (i + 1)) : Nat) : Int) = (cnt (l.take i) : Int) + (1 + (l[i].ps.length : Int) + (l[i].ls.length : Int)) by rw [cnt_take hi']; omega] at ih
    have hq1 : wr .i64 (1 + (l[i].ps.length : Int)) = 1 + (l[i].ps.length : Int) := wr_id (by omega)
    have hq2 : wr .i64 (1 + (l[i].ps.length : Int) + (l[i].ls.length : Int)) = 1 + (l[i].ps.length : Int) + (l[i].ls.length : Int) := wr_id (by omega)
    have hq3 : wr .i64 ((cnt (l.take i) : Int) + (1 + (l[i].ps.length : Int) + (l[i].ls.length : Int))) = (cnt (l.take i) : Int) + (1 + (l[i].ps.length : Int) + (l[i].ls.length : Int)) := wr_id (by omega)
    have h1 : (l[i].ps.map pcRow).length = l[i].ps.length := List.length_map ..
    have h2 := kR_len l[i].ls
    simp (maxSteps := 2000000) (disch := omega) only [go_sem, doCall, doCallQ, doCallP, Nat.reduceAdd, Nat.reduceMul, Nat.reduceSub, Nat.reduceDiv, Nat.reduceMod, Nat.reduceLT, Nat.reduceLeDiff, Nat.reduceEqDiff, Nat.reduceBEq, Nat.reduceBNe, Int.reduceToNat, Int.reduceLT, Int.reduceLE, Int.reduceEq, Int.reduceNe, Int.reduceAdd, Int.reduceSub, Int.reduceMul, Int.reduceNeg, u13_0, lb13_0, hlt, hi', hw, hg, hlm, h1, h2, hq1, hq2, hq3, Option.isSome_none, Option.isSome_some, Bool.not_false, Bool.not_true, List.length_cons, List.length_nil, Nat.zero_add, List.getD_cons_zero, List.set_cons_zero, List.set_cons_succ, Int.natCast_nonneg, Int.toNat_natCast, Option.getD_some, Option.getD_none, List.drop_zero, Nat.sub_zero, Nat.zero_le, true_and, and_true, Nat.le_refl, chk_of]
    rw [loop_step1]; simp (maxSteps := 2000000) only [go_sem, doCall, doCallQ, doCallP, Nat.reduceAdd, Nat.reduceMul, Nat.reduceSub, Nat.reduceDiv, Nat.reduceMod, Nat.reduceLT, Nat.reduceLeDiff, Nat.reduceEqDiff, Nat.reduceBEq, Nat.reduceBNe, Int.reduceToNat, Int.reduceLT, Int.reduceLE, Int.reduceEq, Int.reduceNe, Int.reduceAdd, Int.reduceSub, Int.reduceMul, Int.reduceNeg]; exact ih
termination_by l.length - i
theorem t_count (l : List Ch) (hs : smC l) : call ir 13 [vCs l] [] = some (dI (cnt l), []) := by
  rw [call_eq (fn := ir13) rfl, evF_bnd]
  have hlm : (l.map chRow).length = l.length := List.length_map ..
  simp (maxSteps := 2000000) (disch := omega) only [go_sem, doCall, doCallQ, doCallP, Nat.reduceAdd, Nat.reduceMul, Nat.reduceSub, Nat.reduceDiv, Nat.reduceMod, Nat.reduceLT, Nat.reduceLeDiff, Nat.reduceEqDiff, Nat.reduceBEq, Nat.reduceBNe, Int.reduceToNat, Int.reduceLT, Int.reduceLE, Int.reduceEq, Int.reduceNe, Int.reduceAdd, Int.reduceSub, Int.reduceMul, Int.reduceNeg, bd13, hlm, Int.natCast_nonneg, Int.toNat_natCast, Option.getD_some, Option.getD_none, List.drop_zero, Nat.sub_zero, Nat.zero_le, true_and, and_true, Nat.le_refl, chk_of]
  rw [loop_step1]; simp (maxSteps := 2000000) (disch := omega) only [go_sem, doCall, doCallQ, doCallP, Nat.reduceAdd, Nat.reduceMul, Nat.reduceSub, Nat.reduceDiv, Nat.reduceMod, Nat.reduceLT, Nat.reduceLeDiff, Nat.reduceEqDiff, Nat.reduceBEq, Nat.reduceBNe, Int.reduceToNat, Int.reduceLT, Int.reduceLE, Int.reduceEq, Int.reduceNe, Int.reduceAdd, Int.reduceSub, Int.reduceMul, Int.reduceNeg]
  refine (lp_cnt l hs _ 0 (Nat.zero_le _)).trans ?_
  simp (maxSteps := 2000000) (disch := omega) only [go_sem, doCall, doCallQ, doCallP, Nat.reduceAdd, Nat.reduceMul, Nat.reduceSub, Nat.reduceDiv, Nat.reduceMod, Nat.reduceLT, Nat.reduceLeDiff, Nat.reduceEqDiff, Nat.reduceBEq, Nat.reduceBNe, Int.reduceToNat, Int.reduceLT, Int.reduceLE, Int.reduceEq, Int.reduceNe, Int.reduceAdd, Int.reduceSub, Int.reduceMul, Int.reduceNeg]
/-! ### the same -/
theorem lp_eqi (l : List Int) (hl : l.length ≤ 1000000) (k : Ex → St → Option (AV × Heap)) (i : Nat) (hi : i ≤ l.length) :
    (bnd (evC (call ir) (loop ir) lp29_0 (st29_0 0 (.d (.list 1 (kR l))) (.d (.list 1 (kR l))) (dI l.length) (dI i) [])) (lpC (call ir) (loop ir) [0, 1, 12, 13] lp29_0 k)) = k (.exit 0) (clean [] (st29_0 0 .unk .unk .unk .unk [])) := by
  by_cases h : i = l.length
  · have hx : ¬ (i : Int) < l.length := by omega
    rw [h] at hx
    rw [h]
    simp (maxSteps := 2000000) (disch := omega) only [go_sem, doCall, doCallQ, doCallP, Nat.reduceAdd, Nat.reduceMul, Nat.reduceSub, Nat.reduceDiv, Nat.reduceMod, Nat.reduceLT, Nat.reduceLeDiff, Nat.reduceEqDiff, Nat.reduceBEq, Nat.reduceBNe, Int.reduceToNat, Int.reduceLT, Int.reduceLE, Int.reduceEq, Int.reduceNe, Int.reduceAdd, Int.reduceSub, Int.reduceMul, Int.reduceNeg, u29_0, lb29_0, hx]
  · have hlt : (i : Int) < l.length := by omega
    have hi' : i < l.length := by omega
    have hw := wr_succ (i := i) (by omega)
    have hg := drop_getK l hi'
    have hlm := kR_len l
    have hne : (l[i] != l[i]) = false := by simp
    have ih := lp_eqi l hl k (i + 1) (by omega)
    simp (maxSteps := 2000000) (disch := omega) only [go_sem, doCall, doCallQ, doCallP, Nat.reduceAdd, Nat.reduceMul, Nat.reduceSub, Nat.reduceDiv, Nat.reduceMod, Nat.reduceLT, Nat.reduceLeDiff, Nat.reduceEqDiff, Nat.reduceBEq, Nat.reduceBNe, Int.reduceToNat, Int.reduceLT, Int.reduceLE, Int.reduceEq, Int.reduceNe, Int.reduceAdd, Int.reduceSub, Int.reduceMul, Int.reduceNeg, u29_0, lb29_0, hlt, hi', hw, hg, hlm, hne, not_true, Option.isSome_none, Option.isSome_some, Bool.not_false, Bool.not_true, List.length_cons, List.length_nil, Nat.zero_add, List.getD_cons_zero, List.set_cons_zero, List.set_cons_succ, Int.natCast_nonneg, Int.toNat_natCast, Option.getD_some, Option.getD_none, List.drop_zero, Nat.sub_zero, Nat.zero_le, true_and, and_true, Nat.le_refl, chk_of]
    rw [loop_step1]; simp (maxSteps := 2000000) only [go_sem, doCall, doCallQ, doCallP, Nat.reduceAdd, Nat.reduceMul, Nat.reduceSub, Nat.reduceDiv, Nat.reduceMod, Nat.reduceLT, Nat.reduceLeDiff, Nat.reduceEqDiff, Nat.reduceBEq, Nat.reduceBNe, Int.reduceToNat, Int.reduceLT, Int.reduceLE, Int.reduceEq, Int.reduceNe, Int.reduceAdd, Int.reduceSub, Int.reduceMul, Int.reduceNeg]; exact ih
termination_by l.length - i
theorem t_eqi (l : List Int) (hl : l.length ≤ 1000000) : call ir 29 [.d (.list 1 (kR l)), .d (.list 1 (kR l))] [] = some (dT true, []) := by
  rw [call_eq (fn := ir29) rfl, evF_bnd]
  have hlm := kR_len l
  have hne : ((l.length : Int) != (l.length : Int)) = false := by simp
  simp (maxSteps := 2000000) (disch := omega) only [go_sem, doCall, doCallQ, doCallP, Nat.reduceAdd, Nat.reduceMul, Nat.reduceSub, Nat.reduceDiv, Nat.reduceMod, Nat.reduceLT, Nat.reduceLeDiff, Nat.reduceEqDiff, Nat.reduceBEq, Nat.reduceBNe, Int.reduceToNat, Int.reduceLT, Int.reduceLE, Int.reduceEq, Int.reduceNe, Int.reduceAdd, Int.reduceSub, Int.reduceMul, Int.reduceNeg, bd29, hlm, hne, not_true, Int.natCast_nonneg, Int.toNat_natCast, Option.getD_some, Option.getD_none, List.drop_zero, Nat.sub_zero, Nat.zero_le, true_and, and_true, Nat.le_refl, chk_of]
  rw [loop_step1]; simp (maxSteps := 2000000) (disch := omega) only [go_sem, doCall, doCallQ, doCallP, Nat.reduceAdd, Nat.reduceMul, Nat.reduceSub, Nat.reduceDiv, Nat.reduceMod, Nat.reduceLT, Nat.reduceLeDiff, Nat.reduceEqDiff, Nat.reduceBEq, Nat.reduceBNe, Int.reduceToNat, Int.reduceLT, Int.reduceLE, Int.reduceEq, Int.reduceNe, Int.reduceAdd, Int.reduceSub, Int.reduceMul, Int.reduceNeg]
  refine (lp_eqi l hl _ 0 (Nat.zero_le _)).trans ?_
  simp (maxSteps := 2000000) (disch := omega) only [go_sem, doCall, doCallQ, doCallP, Nat.reduceAdd, Nat.reduceMul, Nat.reduceSub, Nat.reduceDiv, Nat.reduceMod, Nat.reduceLT, Nat.reduceLeDiff, Nat.reduceEqDiff, Nat.reduceBEq, Nat.reduceBNe, Int.reduceToNat, Int.reduceLT, Int.reduceLE, Int.reduceEq, Int.reduceNe, Int.reduceAdd, Int.reduceSub, Int.reduceMul, Int.reduceNeg]
theorem lp_eqp (l : List Pc) (hl : l.length ≤ 1000000) (k : Ex → St → Option (AV × Heap)) (i : Nat) (hi : i ≤ l.length) :
    (bnd (evC (call ir) (loop ir) lp27_0 (st27_0 0 (vPs l) (.clo (.func 28) [] []) (vPs l) (dI l.length) (dI i) [])) (lpC (call ir) (loop ir) [1, 2, 15, 16, 17] lp27_0 k)) = k (.exit 0) (clean [] (st27_0 0 .unk .unk .unk .unk .unk [])) := by
  by_cases h : i = l.length
  · have hx : ¬ (i : Int) < l.length := by omega
    rw [h] at hx
    rw [h]
    simp (maxSteps := 2000000) (disch := omega) only [go_sem, doCall, doCallQ, doCallP, Nat.reduceAdd, Nat.reduceMul, Nat.reduceSub, Nat.reduceDiv, Nat.reduceMod, Nat.reduceLT, Nat.reduceLeDiff, Nat.reduceEqDiff, Nat.reduceBEq, Nat.reduceBNe, Int.reduceToNat, Int.reduceLT, Int.reduceLE, Int.reduceEq, Int.reduceNe, Int.reduceAdd, Int.reduceSub, Int.reduceMul, Int.reduceNeg, u27_0, lb27_0, hx]
  · have hlt : (i : Int) < l.length := by omega
    have hi' : i < l.length := by omega
    have hw := wr_succ (i := i) (by omega)
    have hg := getPc l hi'
    have hlm : (l.map pcRow).length = l.length := List.length_map ..
    have hlk := t_like28 l[i] l[i]
    rw [same_refl] at hlk
    have ih := lp_eqp l hl k (i + 1) (by omega)
    simp (maxSteps := 2000000) (disch := omega) only [go_sem, doCall, doCallQ, doCallP, Nat.reduceAdd, Nat.reduceMul, Nat.reduceSub, Nat.reduceDiv, Nat.reduceMod, Nat.reduceLT, Nat.reduceLeDiff, Nat.reduceEqDiff, Nat.reduceBEq, Nat.reduceBNe, Int.reduceToNat, Int.reduceLT, Int.reduceLE, Int.reduceEq, Int.reduceNe, Int.reduceAdd, Int.reduceSub, Int.reduceMul, Int.reduceNeg, u27_0, lb27_0, hlt, hi', hw, hg, hlm, hlk, not_true, Option.isSome_none, Option.isSome_some, Bool.not_false, Bool.not_true, List.length_cons, List.length_nil, Nat.zero_add, List.getD_cons_zero, List.set_cons_zero, List.set_cons_succ, Int.natCast_nonneg, Int.toNat_natCast, Option.getD_some, Option.getD_none, List.drop_zero, Nat.sub_zero, Nat.zero_le, true_and, and_true, Nat.le_refl, chk_of]
    rw [loop_step1]; simp (maxSteps := 2000000) (disch := omega) only [go_sem, doCall, doCallQ, doCallP, Nat.reduceAdd, Nat.reduceMul, Nat.reduceSub, Nat.reduceDiv, Nat.reduceMod, Nat.reduceLT, Nat.reduceLeDiff, Nat.reduceEqDiff, Nat.reduceBEq, Nat.reduceBNe, Int.reduceToNat, Int.reduceLT, Int.reduceLE, Int.reduceEq, Int.reduceNe, Int.reduceAdd, Int.reduceSub, Int.reduceMul, Int.reduceNeg]; exact ih
termination_by l.length - i
theorem t_eqp (l : List Pc) (hl : l.length ≤ 1000000) : call ir 27 [vPs l, vPs l, .clo (.func 28) [] []] [] = some (dT true, []) := by
  rw [call_eq (fn := ir27) rfl, evF_bnd]
  have hlm : (l.map pcRow).length = l.length := List.length_map ..
  have hne : ((l.length : Int) != (l.length : Int)) = false := by simp
  simp (maxSteps := 2000000) (disch := omega) only [go_sem, doCall, doCallQ, doCallP, Nat.reduceAdd, Nat.reduceMul, Nat.reduceSub, Nat.reduceDiv, Nat.reduceMod, Nat.reduceLT, Nat.reduceLeDiff, Nat.reduceEqDiff, Nat.reduceBEq, Nat.reduceBNe, Int.reduceToNat, Int.reduceLT, Int.reduceLE, Int.reduceEq, Int.reduceNe, Int.reduceAdd, Int.reduceSub, Int.reduceMul, Int.reduceNeg, bd27, hlm, hne, not_true, Int.natCast_nonneg, Int.toNat_natCast, Option.getD_some, Option.getD_none, List.drop_zero, Nat.sub_zero, Nat.zero_le, true_and, and_true, Nat.le_refl, chk_of]
  rw [loop_step1]; simp (maxSteps := 2000000) (disch := omega) only [go_sem, doCall, doCallQ, doCallP, Nat.reduceAdd, Nat.reduceMul, Nat.reduceSub, Nat.reduceDiv, Nat.reduceMod, Nat.reduceLT, Nat.reduceLeDiff, Nat.reduceEqDiff, Nat.reduceBEq, Nat.reduceBNe, Int.reduceToNat, Int.reduceLT, Int.reduceLE, Int.reduceEq, Int.reduceNe, Int.reduceAdd, Int.reduceSub, Int.reduceMul, Int.reduceNeg]
  refine (lp_eqp l hl _ 0 (Nat.zero_le _)).trans ?_
  simp (maxSteps := 2000000) (disch := omega) only [go_sem, doCall, doCallQ, doCallP, Nat.reduceAdd, Nat.reduceMul, Nat.reduceSub, Nat.reduceDiv, Nat.reduceMod, Nat.reduceLT, Nat.reduceLeDiff, Nat.reduceEqDiff, Nat.reduceBEq, Nat.reduceBNe, Int.reduceToNat, Int.reduceLT, Int.reduceLE, Int.reduceEq, Int.reduceNe, Int.reduceAdd, Int.reduceSub, Int.reduceMul, Int.reduceNeg]
theorem t_same1 (c : Ch) (h1 : c.ps.length ≤ 1000000) (h2 : c.ls.length ≤ 1000000) : call ir 26 [vCh c, vCh c] [] = some (dT true, []) := by
  rw [call_eq (fn := ir26) rfl, evF_bnd]
  have e1 := t_eqp c.ps h1
  have e2 := t_eqi c.ls h2
  simp (maxSteps := 2000000) (disch := omega) only [go_sem, doCall, doCallQ, doCallP, Nat.reduceAdd, Nat.reduceMul, Nat.reduceSub, Nat.reduceDiv, Nat.reduceMod, Nat.reduceLT, Nat.reduceLeDiff, Nat.reduceEqDiff, Nat.reduceBEq, Nat.reduceBNe, Int.reduceToNat, Int.reduceLT, Int.reduceLE, Int.reduceEq, Int.reduceNe, Int.reduceAdd, Int.reduceSub, Int.reduceMul, Int.reduceNeg, bd26, e1, e2, beq_self_eq_true, Bool.and_self, Option.isSome_none, Option.isSome_some, Bool.not_false, Bool.not_true, List.length_cons, List.length_nil, Nat.zero_add, List.getD_cons_zero, List.set_cons_zero, List.set_cons_succ, Int.natCast_nonneg, Int.toNat_natCast, Option.getD_some, Option.getD_none, List.drop_zero, Nat.sub_zero, Nat.zero_le, true_and, and_true, Nat.le_refl, chk_of]
theorem lp_eqc (l : List Ch) (hs : smC l) (k : Ex → St → Option (AV × Heap)) (i : Nat) (hi : i ≤ l.length) :
    (bnd (evC (call ir) (loop ir) lp25_0 (st25_0 0 (vCs l) (.clo (.func 26) [] []) (vCs l) (dI l.length) (dI i) [])) (lpC (call ir) (loop ir) [1, 2, 15, 16, 17] lp25_0 k)) = k (.exit 0) (clean [] (st25_0 0 .unk .unk .unk .unk .unk [])) := by
  have hl := hs.1
  by_cases h : i = l.length
  · have hx : ¬ (i : Int) < l.length := by omega
    rw [h] at hx
    rw [h]
    simp (maxSteps := 2000000) (disch := omega) only [go_sem, doCall, doCallQ, doCallP, Nat.reduceAdd, Nat.reduceMul, Nat.reduceSub, Nat.reduceDiv, Nat.reduceMod, Nat.reduceLT, Nat.reduceLeDiff, Nat.reduceEqDiff, Nat.reduceBEq, Nat.reduceBNe, Int.reduceToNat, Int.reduceLT, Int.reduceLE, Int.reduceEq, Int.reduceNe, Int.reduceAdd, Int.reduceSub, Int.reduceMul, Int.reduceNeg, u25_0, lb25_0, hx]
  · have hlt : (i : Int) < l.length := by omega
    have hi' : i < l.length := by omega
    have hw := wr_succ (i := i) (by omega)
    have hg := getCh l hi'
    have hlm : (l.map chRow).length = l.length := List.length_map ..
    have hc := hs.2 l[i] (List.getElem_mem hi')
    have hlk := t_same1 l[i] (by omega) (by omega)
    have ih := lp_eqc l hs k (i + 1) (by omega)
    simp (maxSteps := 2000000) (disch := omega) only [go_sem, doCall, doCallQ, doCallP, Nat.reduceAdd, Nat.reduceMul, Nat.reduceSub, Nat.reduceDiv, Nat.reduceMod, Nat.reduceLT, Nat.reduceLeDiff, Nat.reduceEqDiff, Nat.reduceBEq, Nat.reduceBNe, Int.reduceToNat, Int.reduceLT, Int.reduceLE, Int.reduceEq, Int.reduceNe, Int.reduceAdd, Int.reduceSub, Int.reduceMul, Int.reduceNeg, u25_0, lb25_0, hlt, hi', hw, hg, hlm, hlk, not_true, Option.isSome_none, Option.isSome_some, Bool.not_false, Bool.not_true, List.length_cons, List.length_nil, Nat.zero_add, List.getD_cons_zero, List.set_cons_zero, List.set_cons_succ, Int.natCast_nonneg, Int.toNat_natCast, Option.getD_some, Option.getD_none, List.drop_zero, Nat.sub_zero, Nat.zero_le, true_and, and_true, Nat.le_refl, chk_of]
    rw [loop_step1]; simp (maxSteps := 2000000) (disch := omega) only [go_sem, doCall, doCallQ, doCallP, Nat.reduceAdd, Nat.reduceMul, Nat.reduceSub, Nat.reduceDiv, Nat.reduceMod, Nat.reduceLT, Nat.reduceLeDiff, Nat.reduceEqDiff, Nat.reduceBEq, Nat.reduceBNe, Int.reduceToNat, Int.reduceLT, Int.reduceLE, Int.reduceEq, Int.reduceNe, Int.reduceAdd, Int.reduceSub, Int.reduceMul, Int.reduceNeg]; exact ih
termination_by l.length - i
theorem t_same (l : List Ch) (hs : smC l) : call ir 14 [vCs l, vCs l] [] = some (dT true, []) := by
  have hlm : (l.map chRow).length = l.length := List.length_map ..
  have hne : ((l.length : Int) != (l.length : Int)) = false := by simp
  have e1 : call ir 25 [vCs l, vCs l, .clo (.func 26) [] []] [] = some (dT true, []) := by
    rw [call_eq (fn := ir25) rfl, evF_bnd]
    simp (maxSteps := 2000000) (disch := omega) only [go_sem, doCall, doCallQ, doCallP, Nat.reduceAdd, Nat.reduceMul, Nat.reduceSub, Nat.reduceDiv, Nat.reduceMod, Nat.reduceLT, Nat.reduceLeDiff, Nat.reduceEqDiff, Nat.reduceBEq, Nat.reduceBNe, Int.reduceToNat, Int.reduceLT, Int.reduceLE, Int.reduceEq, Int.reduceNe, Int.reduceAdd, Int.reduceSub, Int.reduceMul, Int.reduceNeg, bd25, hlm, hne, not_true, Int.natCast_nonneg, Int.toNat_natCast, Option.getD_some, Option.getD_none, List.drop_zero, Nat.sub_zero, Nat.zero_le, true_and, and_true, Nat.le_refl, chk_of]
    rw [loop_step1]; simp (maxSteps := 2000000) (disch := omega) only [go_sem, doCall, doCallQ, doCallP, Nat.reduceAdd, Nat.reduceMul, Nat.reduceSub, Nat.reduceDiv, Nat.reduceMod, Nat.reduceLT, Nat.reduceLeDiff, Nat.reduceEqDiff, Nat.reduceBEq, Nat.reduceBNe, Int.reduceToNat, Int.reduceLT, Int.reduceLE, Int.reduceEq, Int.reduceNe, Int.reduceAdd, Int.reduceSub, Int.reduceMul, Int.reduceNeg]
    refine (lp_eqc l hs _ 0 (Nat.zero_le _)).trans ?_
    simp (maxSteps := 2000000) (disch := omega) only [go_sem, doCall, doCallQ, doCallP, Nat.reduceAdd, Nat.reduceMul, Nat.reduceSub, Nat.reduceDiv, Nat.reduceMod, Nat.reduceLT, Nat.reduceLeDiff, Nat.reduceEqDiff, Nat.reduceBEq, Nat.reduceBNe, Int.reduceToNat, Int.reduceLT, Int.reduceLE, Int.reduceEq, Int.reduceNe, Int.reduceAdd, Int.reduceSub, Int.reduceMul, Int.reduceNeg]
  rw [call_eq (fn := ir14) rfl, evF_bnd]
  simp (maxSteps := 2000000) (disch := omega) only [go_sem, doCall, doCallQ, doCallP, Nat.reduceAdd, Nat.reduceMul, Nat.reduceSub, Nat.reduceDiv, Nat.reduceMod, Nat.reduceLT, Nat.reduceLeDiff, Nat.reduceEqDiff, Nat.reduceBEq, Nat.reduceBNe, Int.reduceToNat, Int.reduceLT, Int.reduceLE, Int.reduceEq, Int.reduceNe, Int.reduceAdd, Int.reduceSub, Int.reduceMul, Int.reduceNeg, bd14, e1, Int.natCast_nonneg, Int.toNat_natCast, Option.getD_some, Option.getD_none, List.drop_zero, Nat.sub_zero, Nat.zero_le, true_and, and_true, Nat.le_refl, chk_of]
end Go.Proofs.Ytbcpffhialoliaa
namespace Go.Proofs.Ytbcpffhialoliaa
open Go Go.Ev Go.Proofs.Ytbcpffhialoliaa.Ir
set_option maxRecDepth 100000
set_option maxHeartbeats 4000000
set_option linter.unusedSimpArgs false
set_option linter.unusedVariables false
def smP (l : List Pc) : Prop := l.length ≤ 100000 ∧ ∀ q ∈ l, q.bd.length ≤ 100000
theorem smP_l {l : List Pc} (h : smP l) : l.length ≤ 1000000 ∧ ∀ q ∈ l, q.bd.length ≤ 1000000000 := ⟨by have := h.1; omega, fun q hq => by have := h.2 q hq; omega⟩
theorem lp_t1 (a b : List Hd) (L : List Ch) (c : Ch) (x y : Hd) (is an : Bool) (n i0 : Nat) (sc : smP c.ps) (sx : smP x.ps) (sy : smP y.ps) (h6 : ∀ p ∈ y.ps, hasP c.ps p = (an || !hasP x.ps p)) (k : Ex → St → Option (AV × Heap)) (i : Nat) (hi : i ≤ y.ps.length) :
    (bnd (evC (call ir) (loop ir) lp3_1 (st3_1 0 (vHs a) (vHs b) (vCs L) (dI n) (.ptr 0 0) (.ptr 1 0) (.ptr 2 0) (dT is) (dT an) (vCs L) (dI L.length) (dI i0) (vPs y.ps) (dI y.ps.length) (dI i) [.dbox [.int .i64 c.ob, .bool c.bo, .bool c.go, .int .i64 c.b1, .int .i64 c.b2, .str c.b3, .int .i64 c.b4, .int .i64 c.b5, .list 4 (c.ps.map pcRow), .list 1 (kR c.ls)], .dbox [.int .i64 x.ob, .int .i64 x.ge, .str x.tg, .int .i64 x.le, .int .i64 x.ti, .list 4 (x.ps.map pcRow)], .dbox [.int .i64 y.ob, .int .i64 y.ge, .str y.tg, .int .i64 y.le, .int .i64 y.ti, .list 4 (y.ps.map pcRow)]])) (lpC (call ir) (loop ir) [0, 1, 5, 6, 8, 9, 11, 12, 13, 44, 45, 46, 155, 156, 157] lp3_1 k)) =
      k (.exit 2) (clean [0, 1, 5, 6, 8, 9, 11, 12, 13, 44, 45, 46] (st3_1 0 (vHs a) (vHs b) (vCs L) (dI n) (.ptr 0 0) (.ptr 1 0) (.ptr 2 0) (dT is) (dT an) (vCs L) (dI L.length) (dI i0) .unk .unk .unk [.dbox [.int .i64 c.ob, .bool c.bo, .bool c.go, .int .i64 c.b1, .int .i64 c.b2, .str c.b3, .int .i64 c.b4, .int .i64 c.b5, .list 4 (c.ps.map pcRow), .list 1 (kR c.ls)], .dbox [.int .i64 x.ob, .int .i64 x.ge, .str x.tg, .int .i64 x.le, .int .i64 x.ti, .list 4 (x.ps.map pcRow)], .dbox [.int .i64 y.ob, .int .i64 y.ge, .str y.tg, .int .i64 y.le, .int .i64 y.ti, .list 4 (y.ps.map pcRow)]])) := by
  have hl := sy.1
  by_cases h : i = y.ps.length
  · have hx : ¬ (i : Int) < y.ps.length := by omega
    rw [h] at hx
    rw [h]
    simp (maxSteps := 2000000) (disch := omega) only [go_sem, doCall, doCallQ, doCallP, Nat.reduceAdd, Nat.reduceMul, Nat.reduceSub, Nat.reduceDiv, Nat.reduceMod, Nat.reduceLT, Nat.reduceLeDiff, Nat.reduceEqDiff, Nat.reduceBEq, Nat.reduceBNe, Int.reduceToNat, Int.reduceLT, Int.reduceLE, Int.reduceEq, Int.reduceNe, Int.reduceAdd, Int.reduceSub, Int.reduceMul, Int.reduceNeg, u3_1, lb3_1, hx]
  · have hlt : (i : Int) < y.ps.length := by omega
    have hi' : i < y.ps.length := by omega
    have hw := wr_succ (i := i) (by omega)
    have hg := getPc y.ps hi'
    have hlm : (y.ps.map pcRow).length = y.ps.length := List.length_map ..
    have ih := lp_t1 a b L c x y is an n i0 sc sx sy h6 k (i + 1) (by omega)
    have e1 := t_lhas c.ps y.ps[i] (smP_l sc).1 (smP_l sc).2
    have e2 := t_lhas x.ps y.ps[i] (smP_l sx).1 (smP_l sx).2
    rw [h6 _ (List.getElem_mem hi')] at e1
    cases an
    · cases hh : hasP x.ps y.ps[i]
      · rw [hh] at e1 e2
        simp (maxSteps := 2000000) (disch := omega) only [go_sem, doCall, doCallQ, doCallP, Nat.reduceAdd, Nat.reduceMul, Nat.reduceSub, Nat.reduceDiv, Nat.reduceMod, Nat.reduceLT, Nat.reduceLeDiff, Nat.reduceEqDiff, Nat.reduceBEq, Nat.reduceBNe, Int.reduceToNat, Int.reduceLT, Int.reduceLE, Int.reduceEq, Int.reduceNe, Int.reduceAdd, Int.reduceSub, Int.reduceMul, Int.reduceNeg, u3_1, lb3_1, hlt, hi', hw, hg, hlm, e1, e2, Bool.false_or, beq_self_eq_true, Option.isSome_none, Option.isSome_some, Bool.not_false, Bool.not_true, List.length_cons, List.length_nil, Nat.zero_add, List.getD_cons_zero, List.set_cons_zero, List.set_cons_succ, Int.natCast_nonneg, Int.toNat_natCast, Option.getD_some, Option.getD_none, List.drop_zero, Nat.sub_zero, Nat.zero_le, true_and, and_true, Nat.le_refl, chk_of]
        rw [loop_step1]; simp (maxSteps := 2000000) (disch := omega) only [go_sem, doCall, doCallQ, doCallP, Nat.reduceAdd, Nat.reduceMul, Nat.reduceSub, Nat.reduceDiv, Nat.reduceMod, Nat.reduceLT, Nat.reduceLeDiff, Nat.reduceEqDiff, Nat.reduceBEq, Nat.reduceBNe, Int.reduceToNat, Int.reduceLT, Int.reduceLE, Int.reduceEq, Int.reduceNe, Int.reduceAdd, Int.reduceSub, Int.reduceMul, Int.reduceNeg]; exact ih
      · rw [hh] at e1 e2
        simp (maxSteps := 2000000) (disch := omega) only [go_sem, doCall, doCallQ, doCallP, Nat.reduceAdd, Nat.reduceMul, Nat.reduceSub, Nat.reduceDiv, Nat.reduceMod, Nat.reduceLT, Nat.reduceLeDiff, Nat.reduceEqDiff, Nat.reduceBEq, Nat.reduceBNe, Int.reduceToNat, Int.reduceLT, Int.reduceLE, Int.reduceEq, Int.reduceNe, Int.reduceAdd, Int.reduceSub, Int.reduceMul, Int.reduceNeg, u3_1, lb3_1, hlt, hi', hw, hg, hlm, e1, e2, Bool.false_or, beq_self_eq_true, Option.isSome_none, Option.isSome_some, Bool.not_false, Bool.not_true, List.length_cons, List.length_nil, Nat.zero_add, List.getD_cons_zero, List.set_cons_zero, List.set_cons_succ, Int.natCast_nonneg, Int.toNat_natCast, Option.getD_some, Option.getD_none, List.drop_zero, Nat.sub_zero, Nat.zero_le, true_and, and_true, Nat.le_refl, chk_of]
        rw [loop_step1]; simp (maxSteps := 2000000) (disch := omega) only [go_sem, doCall, doCallQ, doCallP, Nat.reduceAdd, Nat.reduceMul, Nat.reduceSub, Nat.reduceDiv, Nat.reduceMod, Nat.reduceLT, Nat.reduceLeDiff, Nat.reduceEqDiff, Nat.reduceBEq, Nat.reduceBNe, Int.reduceToNat, Int.reduceLT, Int.reduceLE, Int.reduceEq, Int.reduceNe, Int.reduceAdd, Int.reduceSub, Int.reduceMul, Int.reduceNeg]; exact ih
    · simp (maxSteps := 2000000) (disch := omega) only [go_sem, doCall, doCallQ, doCallP, Nat.reduceAdd, Nat.reduceMul, Nat.reduceSub, Nat.reduceDiv, Nat.reduceMod, Nat.reduceLT, Nat.reduceLeDiff, Nat.reduceEqDiff, Nat.reduceBEq, Nat.reduceBNe, Int.reduceToNat, Int.reduceLT, Int.reduceLE, Int.reduceEq, Int.reduceNe, Int.reduceAdd, Int.reduceSub, Int.reduceMul, Int.reduceNeg, u3_1, lb3_1, hlt, hi', hw, hg, hlm, e1, Bool.true_or, beq_self_eq_true, Option.isSome_none, Option.isSome_some, Bool.not_false, Bool.not_true, List.length_cons, List.length_nil, Nat.zero_add, List.getD_cons_zero, List.set_cons_zero, List.set_cons_succ, Int.natCast_nonneg, Int.toNat_natCast, Option.getD_some, Option.getD_none, List.drop_zero, Nat.sub_zero, Nat.zero_le, true_and, and_true, Nat.le_refl, chk_of]
      rw [loop_step1]; simp (maxSteps := 2000000) (disch := omega) only [go_sem, doCall, doCallQ, doCallP, Nat.reduceAdd, Nat.reduceMul, Nat.reduceSub, Nat.reduceDiv, Nat.reduceMod, Nat.reduceLT, Nat.reduceLeDiff, Nat.reduceEqDiff, Nat.reduceBEq, Nat.reduceBNe, Int.reduceToNat, Int.reduceLT, Int.reduceLE, Int.reduceEq, Int.reduceNe, Int.reduceAdd, Int.reduceSub, Int.reduceMul, Int.reduceNeg]; exact ih
termination_by y.ps.length - i
theorem lp_t2 (a b : List Hd) (L : List Ch) (c : Ch) (x y : Hd) (is an : Bool) (n i0 : Nat) (sc : smP c.ps) (sy : smP y.ps) (h7 : ∀ p ∈ c.ps, hasP y.ps p = true) (k : Ex → St → Option (AV × Heap)) (i : Nat) (hi : i ≤ c.ps.length) :
    (bnd (evC (call ir) (loop ir) lp3_2 (st3_2 0 (vHs a) (vHs b) (vCs L) (dI n) (.ptr 0 0) (.ptr 1 0) (.ptr 2 0) (dT is) (dT an) (vCs L) (dI L.length) (dI i0) (vPs c.ps) (dI c.ps.length) (dI i) [.dbox [.int .i64 c.ob, .bool c.bo, .bool c.go, .int .i64 c.b1, .int .i64 c.b2, .str c.b3, .int .i64 c.b4, .int .i64 c.b5, .list 4 (c.ps.map pcRow), .list 1 (kR c.ls)], .dbox [.int .i64 x.ob, .int .i64 x.ge, .str x.tg, .int .i64 x.le, .int .i64 x.ti, .list 4 (x.ps.map pcRow)], .dbox [.int .i64 y.ob, .int .i64 y.ge, .str y.tg, .int .i64 y.le, .int .i64 y.ti, .list 4 (y.ps.map pcRow)]])) (lpC (call ir) (loop ir) [0, 1, 5, 6, 8, 9, 11, 12, 13, 44, 45, 46, 176, 177, 178] lp3_2 k)) =
      k (.exit 4) (clean [0, 1, 5, 6, 8, 9, 11, 12, 13, 44, 45, 46] (st3_2 0 (vHs a) (vHs b) (vCs L) (dI n) (.ptr 0 0) (.ptr 1 0) (.ptr 2 0) (dT is) (dT an) (vCs L) (dI L.length) (dI i0) .unk .unk .unk [.dbox [.int .i64 c.ob, .bool c.bo, .bool c.go, .int .i64 c.b1, .int .i64 c.b2, .str c.b3, .int .i64 c.b4, .int .i64 c.b5, .list 4 (c.ps.map pcRow), .list 1 (kR c.ls)], .dbox [.int .i64 x.ob, .int .i64 x.ge, .str x.tg, .int .i64 x.le, .int .i64 x.ti, .list 4 (x.ps.map pcRow)], .dbox [.int .i64 y.ob, .int .i64 y.ge, .str y.tg, .int .i64 y.le, .int .i64 y.ti, .list 4 (y.ps.map pcRow)]])) := by
  have hl := sc.1
  by_cases h : i = c.ps.length
  · have hx : ¬ (i : Int) < c.ps.length := by omega
    rw [h] at hx
    rw [h]
    simp (maxSteps := 2000000) (disch := omega) only [go_sem, doCall, doCallQ, doCallP, Nat.reduceAdd, Nat.reduceMul, Nat.reduceSub, Nat.reduceDiv, Nat.reduceMod, Nat.reduceLT, Nat.reduceLeDiff, Nat.reduceEqDiff, Nat.reduceBEq, Nat.reduceBNe, Int.reduceToNat, Int.reduceLT, Int.reduceLE, Int.reduceEq, Int.reduceNe, Int.reduceAdd, Int.reduceSub, Int.reduceMul, Int.reduceNeg, u3_2, lb3_2, hx]
  · have hlt : (i : Int) < c.ps.length := by omega
    have hi' : i < c.ps.length := by omega
    have hw := wr_succ (i := i) (by omega)
    have hg := getPc c.ps hi'
    have hlm : (c.ps.map pcRow).length = c.ps.length := List.length_map ..
    have ih := lp_t2 a b L c x y is an n i0 sc sy h7 k (i + 1) (by omega)
    have e1 := t_lhas y.ps c.ps[i] (smP_l sy).1 (smP_l sy).2
    rw [h7 _ (List.getElem_mem hi')] at e1
    simp (maxSteps := 2000000) (disch := omega) only [go_sem, doCall, doCallQ, doCallP, Nat.reduceAdd, Nat.reduceMul, Nat.reduceSub, Nat.reduceDiv, Nat.reduceMod, Nat.reduceLT, Nat.reduceLeDiff, Nat.reduceEqDiff, Nat.reduceBEq, Nat.reduceBNe, Int.reduceToNat, Int.reduceLT, Int.reduceLE, Int.reduceEq, Int.reduceNe, Int.reduceAdd, Int.reduceSub, Int.reduceMul, Int.reduceNeg, u3_2, lb3_2, hlt, hi', hw, hg, hlm, e1, Option.isSome_none, Option.isSome_some, Bool.not_false, Bool.not_true, List.length_cons, List.length_nil, Nat.zero_add, List.getD_cons_zero, List.set_cons_zero, List.set_cons_succ, Int.natCast_nonneg, Int.toNat_natCast, Option.getD_some, Option.getD_none, List.drop_zero, Nat.sub_zero, Nat.zero_le, true_and, and_true, Nat.le_refl, chk_of]
    rw [loop_step1]; simp (maxSteps := 2000000) (disch := omega) only [go_sem, doCall, doCallQ, doCallP, Nat.reduceAdd, Nat.reduceMul, Nat.reduceSub, Nat.reduceDiv, Nat.reduceMod, Nat.reduceLT, Nat.reduceLeDiff, Nat.reduceEqDiff, Nat.reduceBEq, Nat.reduceBNe, Int.reduceToNat, Int.reduceLT, Int.reduceLE, Int.reduceEq, Int.reduceNe, Int.reduceAdd, Int.reduceSub, Int.reduceMul, Int.reduceNeg]; exact ih
termination_by c.ps.length - i
/-- What the law counts as lost. -/
def lsB (is an : Bool) (yp : List Pc) (p : Pc) : Bool := is && (!an && !atP p.ix yp)
def lsN (is an : Bool) (yp l : List Pc) : Nat := (l.filter (lsB is an yp)).length
theorem lsN_at {is an : Bool} {yp l : List Pc} {i : Nat} (h : i < l.length) : lsN is an yp (l.take (i + 1)) = lsN is an yp (l.take i) + (if lsB is an yp l[i] then 1 else 0) := by
  unfold lsN
  rw [List.take_succ_eq_append_getElem h, List.filter_append, List.length_append, List.filter_cons]
  cases lsB is an yp l[i] <;> rfl
theorem ls_get {is an : Bool} {yp l : List Pc} {i : Nat} {ls : List Int} (h : i < l.length) (hls : ls = (l.filter (lsB is an yp)).map (·.ix)) (hb : lsB is an yp l[i] = true) :
    ∃ hm : lsN is an yp (l.take i) < ls.length, ls[lsN is an yp (l.take i)] = l[i].ix := by
  have e : ls = ((l.take i).filter (lsB is an yp)).map (·.ix) ++ l[i].ix :: ((l.drop (i + 1)).filter (lsB is an yp)).map (·.ix) := by
    rw [hls]
    conv => lhs; rw [← List.take_append_drop i l, List.drop_eq_getElem_cons h, List.filter_append, List.filter_cons, if_pos hb, List.map_append, List.map_cons]
  have hlen : (((l.take i).filter (lsB is an yp)).map (·.ix)).length = lsN is an yp (l.take i) := by rw [List.length_map]; rfl
  subst e
  refine ⟨by rw [List.length_append, hlen, List.length_cons]; omega, ?_⟩
  rw [List.getElem_append_right (by omega)]
  simp [hlen]
theorem lp_t3 (a b : List Hd) (L : List Ch) (c : Ch) (x y : Hd) (is an : Bool) (n i0 : Nat) (sx : smP x.ps) (sy : smP y.ps) (hcl : c.ls.length ≤ 100000) (h8 : c.ls = (x.ps.filter (lsB is an y.ps)).map (·.ix)) (k : Ex → St → Option (AV × Heap)) (i : Nat) (hi : i ≤ x.ps.length) :
    (bnd (evC (call ir) (loop ir) lp3_3 (st3_3 0 (vHs a) (vHs b) (vCs L) (dI n) (.ptr 0 0) (.ptr 1 0) (dT is) (dT an) (dI (lsN is an y.ps (x.ps.take i))) (vCs L) (dI L.length) (dI i0) (vPs x.ps) (dI x.ps.length) (dI i) [.dbox [.int .i64 c.ob, .bool c.bo, .bool c.go, .int .i64 c.b1, .int .i64 c.b2, .str c.b3, .int .i64 c.b4, .int .i64 c.b5, .list 4 (c.ps.map pcRow), .list 1 (kR c.ls)], .dbox [.int .i64 y.ob, .int .i64 y.ge, .str y.tg, .int .i64 y.le, .int .i64 y.ti, .list 4 (y.ps.map pcRow)]])) (lpC (call ir) (loop ir) [0, 1, 5, 6, 8, 11, 12, 13, 18, 44, 45, 46, 189, 190, 191] lp3_3 k)) =
      k (.exit 6) (clean [0, 1, 5, 6, 8, 18, 44, 45, 46] (st3_3 0 (vHs a) (vHs b) (vCs L) (dI n) (.ptr 0 0) .unk .unk .unk (dI (lsN is an y.ps x.ps)) (vCs L) (dI L.length) (dI i0) .unk .unk .unk [.dbox [.int .i64 c.ob, .bool c.bo, .bool c.go, .int .i64 c.b1, .int .i64 c.b2, .str c.b3, .int .i64 c.b4, .int .i64 c.b5, .list 4 (c.ps.map pcRow), .list 1 (kR c.ls)], .dbox [.int .i64 y.ob, .int .i64 y.ge, .str y.tg, .int .i64 y.le, .int .i64 y.ti, .list 4 (y.ps.map pcRow)]])) := by
  have hl := sx.1
  have hly := sy.1
  by_cases h : i = x.ps.length
  · have hx : ¬ (i : Int) < x.ps.length := by omega
    rw [h] at hx
    rw [h, List.take_length]
    simp (maxSteps := 2000000) (disch := omega) only [go_sem, doCall, doCallQ, doCallP, Nat.reduceAdd, Nat.reduceMul, Nat.reduceSub, Nat.reduceDiv, Nat.reduceMod, Nat.reduceLT, Nat.reduceLeDiff, Nat.reduceEqDiff, Nat.reduceBEq, Nat.reduceBNe, Int.reduceToNat, Int.reduceLT, Int.reduceLE, Int.reduceEq, Int.reduceNe, Int.reduceAdd, Int.reduceSub, Int.reduceMul, Int.reduceNeg, u3_3, lb3_3, hx]
  · have hlt : (i : Int) < x.ps.length := by omega
    have hi' : i < x.ps.length := by omega
    have hw := wr_succ (i := i) (by omega)
    have hg := getPc x.ps hi'
    have hlm : (x.ps.map pcRow).length = x.ps.length := List.length_map ..
    have ih := lp_t3 a b L c x y is an n i0 sx sy hcl h8 k (i + 1) (by omega)
    rw [lsN_at hi'] at ih
    have e1 := t_at y.ps (by omega) x.ps[i].ix
    have hget := fun hb => ls_get (is := is) (an := an) (yp := y.ps) hi' h8 hb
    have hub : lsB is an y.ps x.ps[i] = (is && (!an && !atP x.ps[i].ix y.ps)) := rfl
    rw [hub] at ih hget
    cases is
    · simp only [Bool.false_and, Bool.false_eq_true, if_false, Nat.add_zero] at ih
      simp (maxSteps := 2000000) (disch := omega) only [go_sem, doCall, doCallQ, doCallP, Nat.reduceAdd, Nat.reduceMul, Nat.reduceSub, Nat.reduceDiv, Nat.reduceMod, Nat.reduceLT, Nat.reduceLeDiff, Nat.reduceEqDiff, Nat.reduceBEq, Nat.reduceBNe, Int.reduceToNat, Int.reduceLT, Int.reduceLE, Int.reduceEq, Int.reduceNe, Int.reduceAdd, Int.reduceSub, Int.reduceMul, Int.reduceNeg, u3_3, lb3_3, hlt, hi', hw, hg, hlm, Option.isSome_none, Option.isSome_some, Bool.not_false, Bool.not_true, List.length_cons, List.length_nil, Nat.zero_add, List.getD_cons_zero, List.set_cons_zero, List.set_cons_succ, Int.natCast_nonneg, Int.toNat_natCast, Option.getD_some, Option.getD_none, List.drop_zero, Nat.sub_zero, Nat.zero_le, true_and, and_true, Nat.le_refl, chk_of]
      rw [loop_step1]; simp (maxSteps := 2000000) (disch := omega) only [go_sem, doCall, doCallQ, doCallP, Nat.reduceAdd, Nat.reduceMul, Nat.reduceSub, Nat.reduceDiv, Nat.reduceMod, Nat.reduceLT, Nat.reduceLeDiff, Nat.reduceEqDiff, Nat.reduceBEq, Nat.reduceBNe, Int.reduceToNat, Int.reduceLT, Int.reduceLE, Int.reduceEq, Int.reduceNe, Int.reduceAdd, Int.reduceSub, Int.reduceMul, Int.reduceNeg]; exact ih
    · cases an
      · cases hA : atP x.ps[i].ix y.ps
        · rw [hA] at e1 ih hget
          simp only [Bool.not_false, Bool.and_self, if_true] at ih hget
          obtain ⟨hm, hge⟩ := hget trivial
          generalize lsN true false y.ps (x.ps.take i) = m at ih hm hge ⊢
          have hkl := kR_len c.ls
          have hm1 := eq_false (show ¬ (c.ls.length : Int) ≤ m by omega)
          have hgk := drop_getK c.ls hm
          rw [hge] at hgk
          have hne : (x.ps[i].ix != x.ps[i].ix) = false := by simp
          have hwm := wr_succ (i := m) (by omega)
          simp (maxSteps := 2000000) (disch := omega) only [go_sem, doCall, doCallQ, doCallP, Nat.reduceAdd, Nat.reduceMul, Nat.reduceSub, Nat.reduceDiv, Nat.reduceMod, Nat.reduceLT, Nat.reduceLeDiff, Nat.reduceEqDiff, Nat.reduceBEq, Nat.reduceBNe, Int.reduceToNat, Int.reduceLT, Int.reduceLE, Int.reduceEq, Int.reduceNe, Int.reduceAdd, Int.reduceSub, Int.reduceMul, Int.reduceNeg, u3_3, lb3_3, hlt, hi', hw, hg, hlm, e1, hkl, hm, hm1, hgk, hne, hwm, not_true, Option.isSome_none, Option.isSome_some, Bool.not_false, Bool.not_true, List.length_cons, List.length_nil, Nat.zero_add, List.getD_cons_zero, List.set_cons_zero, List.set_cons_succ, Int.natCast_nonneg, Int.toNat_natCast, Option.getD_some, Option.getD_none, List.drop_zero, Nat.sub_zero, Nat.zero_le, true_and, and_true, Nat.le_refl, chk_of]
          rw [loop_step1]; simp (maxSteps := 2000000) (disch := omega) only [go_sem, doCall, doCallQ, doCallP, Nat.reduceAdd, Nat.reduceMul, Nat.reduceSub, Nat.reduceDiv, Nat.reduceMod, Nat.reduceLT, Nat.reduceLeDiff, Nat.reduceEqDiff, Nat.reduceBEq, Nat.reduceBNe, Int.reduceToNat, Int.reduceLT, Int.reduceLE, Int.reduceEq, Int.reduceNe, Int.reduceAdd, Int.reduceSub, Int.reduceMul, Int.reduceNeg]; exact ih
        · rw [hA] at e1 ih
          simp only [Bool.not_true, Bool.not_false, Bool.and_false, Bool.false_eq_true, if_false, Nat.add_zero] at ih
          simp (maxSteps := 2000000) (disch := omega) only [go_sem, doCall, doCallQ, doCallP, Nat.reduceAdd, Nat.reduceMul, Nat.reduceSub, Nat.reduceDiv, Nat.reduceMod, Nat.reduceLT, Nat.reduceLeDiff, Nat.reduceEqDiff, Nat.reduceBEq, Nat.reduceBNe, Int.reduceToNat, Int.reduceLT, Int.reduceLE, Int.reduceEq, Int.reduceNe, Int.reduceAdd, Int.reduceSub, Int.reduceMul, Int.reduceNeg, u3_3, lb3_3, hlt, hi', hw, hg, hlm, e1, Option.isSome_none, Option.isSome_some, Bool.not_false, Bool.not_true, List.length_cons, List.length_nil, Nat.zero_add, List.getD_cons_zero, List.set_cons_zero, List.set_cons_succ, Int.natCast_nonneg, Int.toNat_natCast, Option.getD_some, Option.getD_none, List.drop_zero, Nat.sub_zero, Nat.zero_le, true_and, and_true, Nat.le_refl, chk_of]
          rw [loop_step1]; simp (maxSteps := 2000000) (disch := omega) only [go_sem, doCall, doCallQ, doCallP, Nat.reduceAdd, Nat.reduceMul, Nat.reduceSub, Nat.reduceDiv, Nat.reduceMod, Nat.reduceLT, Nat.reduceLeDiff, Nat.reduceEqDiff, Nat.reduceBEq, Nat.reduceBNe, Int.reduceToNat, Int.reduceLT, Int.reduceLE, Int.reduceEq, Int.reduceNe, Int.reduceAdd, Int.reduceSub, Int.reduceMul, Int.reduceNeg]; exact ih
      · simp only [Bool.not_true, Bool.false_and, Bool.and_false, Bool.false_eq_true, if_false, Nat.add_zero] at ih
        simp (maxSteps := 2000000) (disch := omega) only [go_sem, doCall, doCallQ, doCallP, Nat.reduceAdd, Nat.reduceMul, Nat.reduceSub, Nat.reduceDiv, Nat.reduceMod, Nat.reduceLT, Nat.reduceLeDiff, Nat.reduceEqDiff, Nat.reduceBEq, Nat.reduceBNe, Int.reduceToNat, Int.reduceLT, Int.reduceLE, Int.reduceEq, Int.reduceNe, Int.reduceAdd, Int.reduceSub, Int.reduceMul, Int.reduceNeg, u3_3, lb3_3, hlt, hi', hw, hg, hlm, Option.isSome_none, Option.isSome_some, Bool.not_false, Bool.not_true, List.length_cons, List.length_nil, Nat.zero_add, List.getD_cons_zero, List.set_cons_zero, List.set_cons_succ, Int.natCast_nonneg, Int.toNat_natCast, Option.getD_some, Option.getD_none, List.drop_zero, Nat.sub_zero, Nat.zero_le, true_and, and_true, Nat.le_refl, chk_of]
        rw [loop_step1]; simp (maxSteps := 2000000) (disch := omega) only [go_sem, doCall, doCallQ, doCallP, Nat.reduceAdd, Nat.reduceMul, Nat.reduceSub, Nat.reduceDiv, Nat.reduceMod, Nat.reduceLT, Nat.reduceLeDiff, Nat.reduceEqDiff, Nat.reduceBEq, Nat.reduceBNe, Int.reduceToNat, Int.reduceLT, Int.reduceLE, Int.reduceEq, Int.reduceNe, Int.reduceAdd, Int.reduceSub, Int.reduceMul, Int.reduceNeg]; exact ih
termination_by x.ps.length - i
end Go.Proofs.Ytbcpffhialoliaa
namespace Go.Proofs.Ytbcpffhialoliaa
open Go Go.Ev Go.Proofs.Ytbcpffhialoliaa.Ir
set_option maxRecDepth 100000
set_option maxHeartbeats 4000000
set_option linter.unusedSimpArgs false
set_option linter.unusedVariables false
theorem st_tail (a b : List Hd) (L : List Ch) (hl : L.length ≤ 200000) (i : Nat) (hi' : i < L.length) (c : Ch) (x y : Hd) (is an : Bool) (n : Nat) (hn : n ≤ 1000000000000) (sc : smP c.ps) (sl : c.ls.length ≤ 100000) (sx : smP x.ps) (sy : smP y.ps)
    (t6 : ∀ p ∈ y.ps, hasP c.ps p = (an || !hasP x.ps p)) (t7 : ∀ p ∈ c.ps, hasP y.ps p = true) (t8 : c.ls = (x.ps.filter (lsB is an y.ps)).map (·.ix))
    (k : Ex → St → Option (AV × Heap)) (R : Option (AV × Heap)) (ih : (bnd (evC (call ir) (loop ir) lp3_0 (st3_0 0 (vHs a) (vHs b) (vCs L) (dI ((n : Int) + (1 + (c.ps.length : Int) + (c.ls.length : Int)))) (vCs L) (dI L.length) (dI (i + 1 : Nat)) [])) (lpC (call ir) (loop ir) [0, 1, 5, 6, 44, 45, 46] lp3_0 k)) = R) :
    (bnd (evC (call ir) (loop ir) lp3_1 (st3_1 0 (vHs a) (vHs b) (vCs L) (dI n) (.ptr 0 0) (.ptr 1 0) (.ptr 2 0) (dT is) (dT an) (vCs L) (dI L.length) (dI i) (vPs y.ps) (dI y.ps.length) (dI 0) [.dbox [.int .i64 c.ob, .bool c.bo, .bool c.go, .int .i64 c.b1, .int .i64 c.b2, .str c.b3, .int .i64 c.b4, .int .i64 c.b5, .list 4 (c.ps.map pcRow), .list 1 (kR c.ls)], .dbox [.int .i64 x.ob, .int .i64 x.ge, .str x.tg, .int .i64 x.le, .int .i64 x.ti, .list 4 (x.ps.map pcRow)], .dbox [.int .i64 y.ob, .int .i64 y.ge, .str y.tg, .int .i64 y.le, .int .i64 y.ti, .list 4 (y.ps.map pcRow)]])) (lpC (call ir) (loop ir) [0, 1, 5, 6, 8, 9, 11, 12, 13, 44, 45, 46, 155, 156, 157] lp3_1 (bk 2 (sq (call ir) (loop ir) (.seq (.seq (.reg [⟨some 175, none, .fa (.s 8) 8, .none⟩, ⟨some 176, none, .ld (.s 175) 1 false, .none⟩, ⟨some 177, none, .len (.s 176), .none⟩, ⟨some 178, none, .mv (.c (.d (.int .i64 0))), .none⟩]) (.block 4 (.loop [0, 1, 5, 6, 8, 9, 11, 12, 13, 44, 45, 46, 176, 177, 178] lp3_2))) (.seq (.reg [⟨some 18, none, .mv (.c (.d (.int .i64 0))), .none⟩]) (.seq (.seq (.reg [⟨some 188, none, .fa (.s 9) 5, .none⟩, ⟨some 189, none, .ld (.s 188) 1 false, .none⟩, ⟨some 190, none, .len (.s 189), .none⟩, ⟨some 191, none, .mv (.c (.d (.int .i64 0))), .none⟩]) (.block 6 (.loop [0, 1, 5, 6, 8, 11, 12, 13, 18, 44, 45, 46, 189, 190, 191] lp3_3))) (.seq (.seq (.reg [⟨some 226, none, .mv (.s 18), .none⟩, ⟨some 227, none, .fa (.s 8) 9, .none⟩, ⟨some 228, none, .ld (.s 227) 1 false, .none⟩, ⟨some 229, none, .len (.s 228), .none⟩, ⟨some 230, none, .bin .neq (.s 226) (.s 229), .none⟩]) (.cond (.s 230) (.seq (.reg [⟨some 4, none, .mv (.c (.d (.bool false))), .none⟩]) (.ret (some [4]))) .skip)) (.reg [⟨some 231, none, .mv (.s 6), .none⟩, ⟨some 232, none, .fa (.s 8) 8, .none⟩, ⟨some 233, none, .ld (.s 232) 1 false, .none⟩, ⟨some 234, none, .len (.s 233), .none⟩, ⟨some 235, none, .bin .add (.c (.d (.int .i64 1))) (.s 234), .none⟩, ⟨some 236, none, .fa (.s 8) 9, .none⟩, ⟨some 237, none, .ld (.s 236) 1 false, .none⟩, ⟨some 238, none, .len (.s 237), .none⟩, ⟨some 239, none, .bin .add (.s 235) (.s 238), .none⟩, ⟨some 240, none, .bin .add (.s 231) (.s 239), .none⟩, ⟨some 6, none, .mv (.s 240), .none⟩]))))) (bk 1 (sq (call ir) (loop ir) (.reg [⟨some 241, none, .bin .add (.s 46) (.c (.d (.int .i64 1))), .none⟩, ⟨some 46, none, .mv (.s 241), .none⟩]) (lpC (call ir) (loop ir) [0, 1, 5, 6, 44, 45, 46] lp3_0 k))))))) = R := by
  have hw := wr_succ (i := i) (by omega)
  have hsc := sc.1
  have hq1 : wr .i64 (1 + (c.ps.length : Int)) = 1 + (c.ps.length : Int) := wr_id (by omega)
  have hq2 : wr .i64 (1 + (c.ps.length : Int) + (c.ls.length : Int)) = 1 + (c.ps.length : Int) + (c.ls.length : Int) := wr_id (by omega)
  have hq3 : wr .i64 ((n : Int) + (1 + (c.ps.length : Int) + (c.ls.length : Int))) = (n : Int) + (1 + (c.ps.length : Int) + (c.ls.length : Int)) := wr_id (by omega)
  have hcl : (c.ps.map pcRow).length = c.ps.length := List.length_map ..
  have hxl : (x.ps.map pcRow).length = x.ps.length := List.length_map ..
  have hkl := kR_len c.ls
  have hlt8 : ((lsN is an y.ps x.ps : Nat) : Int) = (c.ls.length : Int) := by
    have := congrArg List.length t8
    rw [List.length_map] at this
    unfold lsN
    omega
  have l1 := fun kk => lp_t1 a b L c x y is an n i sc sx sy t6 kk 0 (Nat.zero_le _)
  have l2 := fun kk => lp_t2 a b L c x y is an n i sc sy t7 kk 0 (Nat.zero_le _)
  have l3 := fun kk => lp_t3 a b L c x y is an n i sx sy sl t8 kk 0 (Nat.zero_le _)
  have e00 : lsN is an y.ps (List.take 0 x.ps) = 0 := rfl
  simp only [e00, Int.natCast_zero] at l3
  rw [hlt8] at l3
  have hne : ((c.ls.length : Int) != (c.ls.length : Int)) = false := by simp
  clear t6 t7 t8 hlt8 sc sx sy
  refine (l1 _).trans ?_
  simp (maxSteps := 2000000) (disch := omega) only [go_sem, doCall, doCallQ, doCallP, Nat.reduceAdd, Nat.reduceMul, Nat.reduceSub, Nat.reduceDiv, Nat.reduceMod, Nat.reduceLT, Nat.reduceLeDiff, Nat.reduceEqDiff, Nat.reduceBEq, Nat.reduceBNe, Int.reduceToNat, Int.reduceLT, Int.reduceLE, Int.reduceEq, Int.reduceNe, Int.reduceAdd, Int.reduceSub, Int.reduceMul, Int.reduceNeg, hcl, Option.isSome_none, Option.isSome_some, Bool.not_false, Bool.not_true, List.length_cons, List.length_nil, Nat.zero_add, List.getD_cons_zero, List.set_cons_zero, List.set_cons_succ, Int.natCast_nonneg, Int.toNat_natCast, Option.getD_some, Option.getD_none, List.drop_zero, Nat.sub_zero, Nat.zero_le, true_and, and_true, Nat.le_refl, chk_of]
  rw [loop_step1]; simp (maxSteps := 2000000) (disch := omega) only [go_sem, doCall, doCallQ, doCallP, Nat.reduceAdd, Nat.reduceMul, Nat.reduceSub, Nat.reduceDiv, Nat.reduceMod, Nat.reduceLT, Nat.reduceLeDiff, Nat.reduceEqDiff, Nat.reduceBEq, Nat.reduceBNe, Int.reduceToNat, Int.reduceLT, Int.reduceLE, Int.reduceEq, Int.reduceNe, Int.reduceAdd, Int.reduceSub, Int.reduceMul, Int.reduceNeg]
  refine (l2 _).trans ?_
  simp (maxSteps := 2000000) (disch := omega) only [go_sem, doCall, doCallQ, doCallP, Nat.reduceAdd, Nat.reduceMul, Nat.reduceSub, Nat.reduceDiv, Nat.reduceMod, Nat.reduceLT, Nat.reduceLeDiff, Nat.reduceEqDiff, Nat.reduceBEq, Nat.reduceBNe, Int.reduceToNat, Int.reduceLT, Int.reduceLE, Int.reduceEq, Int.reduceNe, Int.reduceAdd, Int.reduceSub, Int.reduceMul, Int.reduceNeg, hxl, Option.isSome_none, Option.isSome_some, Bool.not_false, Bool.not_true, List.length_cons, List.length_nil, Nat.zero_add, List.getD_cons_zero, List.set_cons_zero, List.set_cons_succ, Int.natCast_nonneg, Int.toNat_natCast, Option.getD_some, Option.getD_none, List.drop_zero, Nat.sub_zero, Nat.zero_le, true_and, and_true, Nat.le_refl, chk_of]
  rw [loop_step1]; simp (maxSteps := 2000000) (disch := omega) only [go_sem, doCall, doCallQ, doCallP, Nat.reduceAdd, Nat.reduceMul, Nat.reduceSub, Nat.reduceDiv, Nat.reduceMod, Nat.reduceLT, Nat.reduceLeDiff, Nat.reduceEqDiff, Nat.reduceBEq, Nat.reduceBNe, Int.reduceToNat, Int.reduceLT, Int.reduceLE, Int.reduceEq, Int.reduceNe, Int.reduceAdd, Int.reduceSub, Int.reduceMul, Int.reduceNeg]
  refine (l3 _).trans ?_
  simp (maxSteps := 2000000) (disch := omega) only [go_sem, doCall, doCallQ, doCallP, Nat.reduceAdd, Nat.reduceMul, Nat.reduceSub, Nat.reduceDiv, Nat.reduceMod, Nat.reduceLT, Nat.reduceLeDiff, Nat.reduceEqDiff, Nat.reduceBEq, Nat.reduceBNe, Int.reduceToNat, Int.reduceLT, Int.reduceLE, Int.reduceEq, Int.reduceNe, Int.reduceAdd, Int.reduceSub, Int.reduceMul, Int.reduceNeg, hkl, hcl, hne, hq1, hq2, hq3, hw, beq_self_eq_true, Bool.and_self, Bool.and_true, Bool.true_and, Bool.not_true, Bool.not_false, Bool.false_or, Bool.or_false, Bool.true_or, Bool.or_true, bne_self_eq_false, not_true, not_false_eq_true, Option.isSome_none, Option.isSome_some, Bool.not_false, Bool.not_true, List.length_cons, List.length_nil, Nat.zero_add, List.getD_cons_zero, List.set_cons_zero, List.set_cons_succ, Int.natCast_nonneg, Int.toNat_natCast, Option.getD_some, Option.getD_none, List.drop_zero, Nat.sub_zero, Nat.zero_le, true_and, and_true, Nat.le_refl, chk_of]
  rw [loop_step1]; simp (maxSteps := 2000000) (disch := omega) only [go_sem, doCall, doCallQ, doCallP, Nat.reduceAdd, Nat.reduceMul, Nat.reduceSub, Nat.reduceDiv, Nat.reduceMod, Nat.reduceLT, Nat.reduceLeDiff, Nat.reduceEqDiff, Nat.reduceBEq, Nat.reduceBNe, Int.reduceToNat, Int.reduceLT, Int.reduceLE, Int.reduceEq, Int.reduceNe, Int.reduceAdd, Int.reduceSub, Int.reduceMul, Int.reduceNeg]; exact ih
end Go.Proofs.Ytbcpffhialoliaa
