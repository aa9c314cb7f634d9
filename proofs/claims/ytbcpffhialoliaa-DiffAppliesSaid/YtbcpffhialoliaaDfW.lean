/- find at data; whether a change is empty. Own work. diff.Of: what is gone. Own work. diff.Of: what has changed. Own work. diff.Of. Own work. Plain facts: maps of pieces put together, what is lost, what a change leaves. Own work. -/
import Derived.Test.YtbcpffhialoliaaDfR
namespace Go.Proofs.Ytbcpffhialoliaa
open Go Go.Ev Go.Proofs.Ytbcpffhialoliaa.Ir
set_option maxRecDepth 100000
set_option maxHeartbeats 4000000
set_option linter.unusedSimpArgs false
set_option linter.unusedVariables false
theorem lp_ixD (o : Int) (l : List Hd) (hl : l.length ≤ 1000000) (i : Nat) (hi : i ≤ l.length) (hp : (l.take i).filter (noO o) = l.take i) :
    ∃ r : Int, (bnd (evC (call ir) (loop ir) lp40_0 (st40_0 1 (vHs l) (.clo (.func 39) [] [.ptr 0 0]) (dI l.length) (dI i) [.dbox [.int .i64 o]])) (lpC (call ir) (loop ir) [0, 1, 7, 8] lp40_0 (bk 0 (sq (call ir) (loop ir) (.seq (.reg [⟨some 4, none, .mv (.c (.d (.int .i64 (-1)))), .none⟩]) (.ret none)) (fin ir40))))) =
      some (dI r, [.dbox [.int .i64 o]]) ∧ ((r = -1 ∧ l.filter (noO o) = l) ∨ ∃ n : Nat, r = n ∧ n < l.length ∧ (l.take n).filter (noO o) = l.take n ∧ isO o (l.getD n default) = true) := by
  by_cases h : i = l.length
  · have hx : ¬ (i : Int) < l.length := by omega
    refine ⟨-1, ?_, .inl ⟨rfl, by rw [h, List.take_length] at hp; exact hp⟩⟩
    simp (maxSteps := 2000000) (disch := omega) only [go_sem, doCall, doCallQ, doCallP, Nat.reduceAdd, Nat.reduceMul, Nat.reduceSub, Nat.reduceDiv, Nat.reduceMod, Nat.reduceLT, Nat.reduceLeDiff, Nat.reduceEqDiff, Nat.reduceBEq, Nat.reduceBNe, Int.reduceToNat, Int.reduceLT, Int.reduceLE, Int.reduceEq, Int.reduceNe, Int.reduceAdd, Int.reduceSub, Int.reduceMul, Int.reduceNeg, u40_0, lb40_0, hx]
  · have hlt : (i : Int) < l.length := by omega
    have hi' : i < l.length := by omega
    have hw := wr_succ (i := i) (by omega)
    have hlm : (l.map hdRow).length = l.length := List.length_map ..
    have hg := getHd l hi'
    have hcc := c_find1 o l[i]
    cases hin : isO o l[i]
    · rw [hin] at hcc
      obtain ⟨r, ih, hr2⟩ := lp_ixD o l hl (i + 1) (by omega) (by rw [List.take_succ_eq_append_getElem hi', List.filter_append, hp, List.filter_cons, if_pos (by unfold noO; rw [hin]; rfl)]; rfl)
      refine ⟨r, ?_, hr2⟩
      simp (maxSteps := 2000000) (disch := omega) only [go_sem, doCall, doCallQ, doCallP, Nat.reduceAdd, Nat.reduceMul, Nat.reduceSub, Nat.reduceDiv, Nat.reduceMod, Nat.reduceLT, Nat.reduceLeDiff, Nat.reduceEqDiff, Nat.reduceBEq, Nat.reduceBNe, Int.reduceToNat, Int.reduceLT, Int.reduceLE, Int.reduceEq, Int.reduceNe, Int.reduceAdd, Int.reduceSub, Int.reduceMul, Int.reduceNeg, u40_0, lb40_0, hlt, hi', hg, hlm, hcc, Nat.zero_add, Int.natCast_nonneg, Int.toNat_natCast, Option.getD_some, Option.getD_none, List.drop_zero, Nat.sub_zero, Nat.zero_le, true_and, and_true, Nat.le_refl, chk_of]
      rw [loop_step1]
      simp (maxSteps := 2000000) only [go_sem, doCall, doCallQ, doCallP, Nat.reduceAdd, Nat.reduceMul, Nat.reduceSub, Nat.reduceDiv, Nat.reduceMod, Nat.reduceLT, Nat.reduceLeDiff, Nat.reduceEqDiff, Nat.reduceBEq, Nat.reduceBNe, Int.reduceToNat, Int.reduceLT, Int.reduceLE, Int.reduceEq, Int.reduceNe, Int.reduceAdd, Int.reduceSub, Int.reduceMul, Int.reduceNeg, hw]
      exact ih
    · rw [hin] at hcc
      refine ⟨i, ?_, .inr ⟨i, rfl, hi', hp, by rw [gH hi']; exact hin⟩⟩
      simp (maxSteps := 2000000) (disch := omega) only [go_sem, doCall, doCallQ, doCallP, Nat.reduceAdd, Nat.reduceMul, Nat.reduceSub, Nat.reduceDiv, Nat.reduceMod, Nat.reduceLT, Nat.reduceLeDiff, Nat.reduceEqDiff, Nat.reduceBEq, Nat.reduceBNe, Int.reduceToNat, Int.reduceLT, Int.reduceLE, Int.reduceEq, Int.reduceNe, Int.reduceAdd, Int.reduceSub, Int.reduceMul, Int.reduceNeg, u40_0, lb40_0, hlt, hi', hg, hlm, hcc, Nat.zero_add, Int.natCast_nonneg, Int.toNat_natCast, Option.getD_some, Option.getD_none, List.drop_zero, Nat.sub_zero, Nat.zero_le, true_and, and_true, Nat.le_refl, chk_of]
termination_by l.length - i
theorem t_findD (o : Int) (l : List Hd) (hl : l.length ≤ 1000000) : call ir 18 [vHs l, dI o] [] = some (.tup [vHd ((fndO o l).getD d0), dT (fndO o l).isSome], []) := by
  have hlm : (l.map hdRow).length = l.length := List.length_map ..
  obtain ⟨r, h1, h⟩ := lp_ixD o l hl 0 (by omega) rfl
  have e1 : call ir 40 [vHs l, .clo (.func 39) [] [.ptr 0 0]] [.dbox [.int .i64 o]] = some (dI r, [.dbox [.int .i64 o]]) := by
    rw [call_eq (fn := ir40) rfl, evF_bnd]
    simp (maxSteps := 2000000) (disch := omega) only [go_sem, doCall, doCallQ, doCallP, Nat.reduceAdd, Nat.reduceMul, Nat.reduceSub, Nat.reduceDiv, Nat.reduceMod, Nat.reduceLT, Nat.reduceLeDiff, Nat.reduceEqDiff, Nat.reduceBEq, Nat.reduceBNe, Int.reduceToNat, Int.reduceLT, Int.reduceLE, Int.reduceEq, Int.reduceNe, Int.reduceAdd, Int.reduceSub, Int.reduceMul, Int.reduceNeg, bd40, hlm, Int.natCast_nonneg, Int.toNat_natCast, Option.getD_some, Option.getD_none, List.drop_zero, Nat.sub_zero, Nat.zero_le, true_and, and_true, Nat.le_refl, chk_of]
    rw [loop_step1]
    simp (maxSteps := 2000000) only [go_sem, doCall, doCallQ, doCallP, Nat.reduceAdd, Nat.reduceMul, Nat.reduceSub, Nat.reduceDiv, Nat.reduceMod, Nat.reduceLT, Nat.reduceLeDiff, Nat.reduceEqDiff, Nat.reduceBEq, Nat.reduceBNe, Int.reduceToNat, Int.reduceLT, Int.reduceLE, Int.reduceEq, Int.reduceNe, Int.reduceAdd, Int.reduceSub, Int.reduceMul, Int.reduceNeg]
    exact h1
  rw [call_eq (fn := ir18) rfl, evF_bnd]
  rcases h with ⟨rfl, h⟩ | ⟨n, rfl, hn, h1, h2⟩
  · rw [fnd_none h]
    simp (maxSteps := 2000000) (disch := omega) only [go_sem, doCall, doCallQ, doCallP, Nat.reduceAdd, Nat.reduceMul, Nat.reduceSub, Nat.reduceDiv, Nat.reduceMod, Nat.reduceLT, Nat.reduceLeDiff, Nat.reduceEqDiff, Nat.reduceBEq, Nat.reduceBNe, Int.reduceToNat, Int.reduceLT, Int.reduceLE, Int.reduceEq, Int.reduceNe, Int.reduceAdd, Int.reduceSub, Int.reduceMul, Int.reduceNeg, bd18, e1, hlm, Int.natCast_nonneg, Int.toNat_natCast, Option.getD_some, Option.getD_none, List.drop_zero, Nat.sub_zero, Nat.zero_le, true_and, and_true, Nat.le_refl, chk_of]
    rfl
  · rw [gH hn] at h2
    have hg := getHd l hn
    have hx := eq_false (show ¬ (n : Int) < 0 by omega)
    rw [fnd_of hn h1 h2]
    simp (maxSteps := 2000000) (disch := omega) only [go_sem, doCall, doCallQ, doCallP, Nat.reduceAdd, Nat.reduceMul, Nat.reduceSub, Nat.reduceDiv, Nat.reduceMod, Nat.reduceLT, Nat.reduceLeDiff, Nat.reduceEqDiff, Nat.reduceBEq, Nat.reduceBNe, Int.reduceToNat, Int.reduceLT, Int.reduceLE, Int.reduceEq, Int.reduceNe, Int.reduceAdd, Int.reduceSub, Int.reduceMul, Int.reduceNeg, bd18, e1, hlm, hx, hn, hg, Nat.zero_add, Int.natCast_nonneg, Int.toNat_natCast, Option.getD_some, Option.getD_none, List.drop_zero, Nat.sub_zero, Nat.zero_le, true_and, and_true, Nat.le_refl, chk_of]
    rfl
/-- Whether nothing has changed. -/
def emp (c : Ch) : Bool := !c.bo && (!c.go && (decide (c.ps.length = 0) && decide (c.ls.length = 0)))
theorem t_empty (c : Ch) : call ir 20 [vCh c] [] = some (dT (emp c), []) := by
  rw [call_eq (fn := ir20) rfl, evF_bnd]
  have h1 : (c.ps.map pcRow).length = c.ps.length := List.length_map ..
  have h2 := kR_len c.ls
  obtain ⟨ob, bo, go, b1, b2, b3, b4, b5, ps, ls⟩ := c
  unfold emp
  simp only at h1 h2 ⊢
  cases bo
  · cases go
    · by_cases c1 : ps.length = 0
      · have c1' : ((ps.length : Int) = 0) = True := eq_true (by omega)
        have d1 : ((ps.length : Int) == 0) = true := by simp [c1]
        rw [decide_eq_true c1]
        by_cases c2 : ls.length = 0
        · have c2' : ((ls.length : Int) = 0) = True := eq_true (by omega)
          have d2 : ((ls.length : Int) == 0) = true := by simp [c2]
          rw [decide_eq_true c2]
          simp (maxSteps := 2000000) (disch := omega) only [go_sem, doCall, doCallQ, doCallP, Nat.reduceAdd, Nat.reduceMul, Nat.reduceSub, Nat.reduceDiv, Nat.reduceMod, Nat.reduceLT, Nat.reduceLeDiff, Nat.reduceEqDiff, Nat.reduceBEq, Nat.reduceBNe, Int.reduceToNat, Int.reduceLT, Int.reduceLE, Int.reduceEq, Int.reduceNe, Int.reduceAdd, Int.reduceSub, Int.reduceMul, Int.reduceNeg, bd20, h1, h2, c1', d1, c2', d2, Bool.not_false, Bool.not_true, Bool.true_and, Bool.false_and, Int.natCast_nonneg, Int.toNat_natCast, Option.getD_some, Option.getD_none, List.drop_zero, Nat.sub_zero, Nat.zero_le, true_and, and_true, Nat.le_refl, chk_of]
        · have c2' : ((ls.length : Int) = 0) = False := eq_false (by omega)
          have d2 : ((ls.length : Int) == 0) = false := by rw [beq_eq_false_iff_ne]; omega
          rw [decide_eq_false c2]
          simp (maxSteps := 2000000) (disch := omega) only [go_sem, doCall, doCallQ, doCallP, Nat.reduceAdd, Nat.reduceMul, Nat.reduceSub, Nat.reduceDiv, Nat.reduceMod, Nat.reduceLT, Nat.reduceLeDiff, Nat.reduceEqDiff, Nat.reduceBEq, Nat.reduceBNe, Int.reduceToNat, Int.reduceLT, Int.reduceLE, Int.reduceEq, Int.reduceNe, Int.reduceAdd, Int.reduceSub, Int.reduceMul, Int.reduceNeg, bd20, h1, h2, c1', d1, c2', d2, Bool.not_false, Bool.not_true, Bool.true_and, Bool.false_and, Int.natCast_nonneg, Int.toNat_natCast, Option.getD_some, Option.getD_none, List.drop_zero, Nat.sub_zero, Nat.zero_le, true_and, and_true, Nat.le_refl, chk_of]
      · have c1' : ((ps.length : Int) = 0) = False := eq_false (by omega)
        have d1 : ((ps.length : Int) == 0) = false := by rw [beq_eq_false_iff_ne]; omega
        rw [decide_eq_false c1]
        simp (maxSteps := 2000000) (disch := omega) only [go_sem, doCall, doCallQ, doCallP, Nat.reduceAdd, Nat.reduceMul, Nat.reduceSub, Nat.reduceDiv, Nat.reduceMod, Nat.reduceLT, Nat.reduceLeDiff, Nat.reduceEqDiff, Nat.reduceBEq, Nat.reduceBNe, Int.reduceToNat, Int.reduceLT, Int.reduceLE, Int.reduceEq, Int.reduceNe, Int.reduceAdd, Int.reduceSub, Int.reduceMul, Int.reduceNeg, bd20, h1, h2, c1', d1, Bool.not_false, Bool.not_true, Bool.true_and, Bool.false_and, Int.natCast_nonneg, Int.toNat_natCast, Option.getD_some, Option.getD_none, List.drop_zero, Nat.sub_zero, Nat.zero_le, true_and, and_true, Nat.le_refl, chk_of]
    · simp (maxSteps := 2000000) (disch := omega) only [go_sem, doCall, doCallQ, doCallP, Nat.reduceAdd, Nat.reduceMul, Nat.reduceSub, Nat.reduceDiv, Nat.reduceMod, Nat.reduceLT, Nat.reduceLeDiff, Nat.reduceEqDiff, Nat.reduceBEq, Nat.reduceBNe, Int.reduceToNat, Int.reduceLT, Int.reduceLE, Int.reduceEq, Int.reduceNe, Int.reduceAdd, Int.reduceSub, Int.reduceMul, Int.reduceNeg, bd20, h1, h2, Bool.not_false, Bool.not_true, Bool.true_and, Bool.false_and, Int.natCast_nonneg, Int.toNat_natCast, Option.getD_some, Option.getD_none, List.drop_zero, Nat.sub_zero, Nat.zero_le, true_and, and_true, Nat.le_refl, chk_of]
  · simp (maxSteps := 2000000) (disch := omega) only [go_sem, doCall, doCallQ, doCallP, Nat.reduceAdd, Nat.reduceMul, Nat.reduceSub, Nat.reduceDiv, Nat.reduceMod, Nat.reduceLT, Nat.reduceLeDiff, Nat.reduceEqDiff, Nat.reduceBEq, Nat.reduceBNe, Int.reduceToNat, Int.reduceLT, Int.reduceLE, Int.reduceEq, Int.reduceNe, Int.reduceAdd, Int.reduceSub, Int.reduceMul, Int.reduceNeg, bd20, h1, h2, Bool.not_false, Bool.not_true, Bool.true_and, Bool.false_and, Int.natCast_nonneg, Int.toNat_natCast, Option.getD_some, Option.getD_none, List.drop_zero, Nat.sub_zero, Nat.zero_le, true_and, and_true, Nat.le_refl, chk_of]
end Go.Proofs.Ytbcpffhialoliaa
namespace Go.Proofs.Ytbcpffhialoliaa
open Go Go.Ev Go.Proofs.Ytbcpffhialoliaa.Ir
set_option maxRecDepth 100000
set_option maxHeartbeats 4000000
set_option linter.unusedSimpArgs false
set_option linter.unusedVariables false
def gonC (d : Hd) : Ch := ⟨d.ob, false, true, 0, 0, [], 0, 0, [], []⟩
def gonL (b l : List Hd) : List Ch := (l.filter fun d => !(fndO d.ob b).isSome).map gonC
theorem gonL_drop (b : List Hd) {l : List Hd} {i : Nat} (h : i < l.length) : gonL b (l.drop i) = (if (fndO l[i].ob b).isSome then [] else [gonC l[i]]) ++ gonL b (l.drop (i + 1)) := by
  unfold gonL
  rw [List.drop_eq_getElem_cons h, List.filter_cons]
  cases (fndO l[i].ob b).isSome <;> rfl
theorem lp_of0 (a b : List Hd) (hl : a.length ≤ 1000000) (hlb : b.length ≤ 1000000) (i : Nat) (hi : i ≤ a.length) (O : List Ch) (hO : O.length ≤ i) (z : Bool) :
    ∃ z' : Bool, ∀ (k : Ex → St → Option (AV × Heap)), (bnd (evC (call ir) (loop ir) lp9_0 (st9_0 0 (vHs a) (vHs b) (.own 0 10 0 O.length z) (vHs a) (dI a.length) (dI i) [.arr 10 (O.map chRow)])) (lpC (call ir) (loop ir) [0, 1, 5, 23, 24, 25] lp9_0 k)) =
      k (.exit 0) (clean [0, 1, 5] (st9_0 0 (vHs a) (vHs b) (.own 0 10 0 (O ++ gonL b (a.drop i)).length z') .unk .unk .unk [.arr 10 ((O ++ gonL b (a.drop i)).map chRow)])) := by
  by_cases h : i = a.length
  · have hx : ¬ (i : Int) < a.length := by omega
    rw [h] at hx
    have e0 : gonL b [] = [] := rfl
    rw [h, List.drop_length, e0, List.append_nil]
    refine ⟨z, fun k => ?_⟩
    simp (maxSteps := 2000000) (disch := omega) only [go_sem, doCall, doCallQ, doCallP, Nat.reduceAdd, Nat.reduceMul, Nat.reduceSub, Nat.reduceDiv, Nat.reduceMod, Nat.reduceLT, Nat.reduceLeDiff, Nat.reduceEqDiff, Nat.reduceBEq, Nat.reduceBNe, Int.reduceToNat, Int.reduceLT, Int.reduceLE, Int.reduceEq, Int.reduceNe, Int.reduceAdd, Int.reduceSub, Int.reduceMul, Int.reduceNeg, u9_0, lb9_0, hx]
  · have hlt : (i : Int) < a.length := by omega
    have hi' : i < a.length := by omega
    have hw := wr_succ (i := i) (by omega)
    have hg := getHd a hi'
    have hlm : (a.map hdRow).length = a.length := List.length_map ..
    have hfd := t_findD a[i].ob b hlb
    have hlO : (O.map chRow).length = O.length := List.length_map ..
    have htk : (O.map chRow).take O.length = O.map chRow := by rw [← hlO, List.take_length]
    have hap : O.map chRow ++ [[.int .i64 a[i].ob, .bool false, .bool true, .int .i64 0, .int .i64 0, .str [], .int .i64 0, .int .i64 0, .list 4 [], .list 1 []]] = (O ++ [gonC a[i]]).map chRow := by rw [List.map_append]; rfl
    rw [gonL_drop b hi']
    cases hq : fndO a[i].ob b with
    | none =>
      rw [hq] at hfd
      simp only [Option.isSome_none, Option.getD_none, Bool.false_eq_true, if_false] at hfd ⊢
      obtain ⟨z', ih⟩ := lp_of0 a b hl hlb (i + 1) (by omega) (O ++ [gonC a[i]]) (by simp; omega) false
      refine ⟨z', fun k => ?_⟩
      have ih := ih k
      rw [← List.append_assoc]
      generalize hR : (k (.exit 0) (clean [0, 1, 5] (st9_0 0 (vHs a) (vHs b) (.own 0 10 0 (O ++ [gonC a[i]] ++ gonL b (a.drop (i + 1))).length z') .unk .unk .unk [.arr 10 ((O ++ [gonC a[i]] ++ gonL b (a.drop (i + 1))).map chRow)]))) = R at ih ⊢
      rw [List.length_append] at ih
      cases z
      · simp (maxSteps := 2000000) (disch := omega) only [go_sem, doCall, doCallQ, doCallP, Nat.reduceAdd, Nat.reduceMul, Nat.reduceSub, Nat.reduceDiv, Nat.reduceMod, Nat.reduceLT, Nat.reduceLeDiff, Nat.reduceEqDiff, Nat.reduceBEq, Nat.reduceBNe, Int.reduceToNat, Int.reduceLT, Int.reduceLE, Int.reduceEq, Int.reduceNe, Int.reduceAdd, Int.reduceSub, Int.reduceMul, Int.reduceNeg, u9_0, lb9_0, hlt, hi', hw, hg, hlm, hfd, d0, hlO, htk, hap, Option.isSome_none, Option.isSome_some, Bool.not_false, Bool.not_true, List.length_cons, List.length_nil, Nat.zero_add, List.getD_cons_zero, List.set_cons_zero, List.set_cons_succ, Int.natCast_nonneg, Int.toNat_natCast, Option.getD_some, Option.getD_none, List.drop_zero, Nat.sub_zero, Nat.zero_le, true_and, and_true, Nat.le_refl, chk_of]
        rw [loop_step1]; simp (maxSteps := 2000000) (disch := omega) only [go_sem, doCall, doCallQ, doCallP, Nat.reduceAdd, Nat.reduceMul, Nat.reduceSub, Nat.reduceDiv, Nat.reduceMod, Nat.reduceLT, Nat.reduceLeDiff, Nat.reduceEqDiff, Nat.reduceBEq, Nat.reduceBNe, Int.reduceToNat, Int.reduceLT, Int.reduceLE, Int.reduceEq, Int.reduceNe, Int.reduceAdd, Int.reduceSub, Int.reduceMul, Int.reduceNeg]; exact ih
      · simp (maxSteps := 2000000) (disch := omega) only [go_sem, doCall, doCallQ, doCallP, Nat.reduceAdd, Nat.reduceMul, Nat.reduceSub, Nat.reduceDiv, Nat.reduceMod, Nat.reduceLT, Nat.reduceLeDiff, Nat.reduceEqDiff, Nat.reduceBEq, Nat.reduceBNe, Int.reduceToNat, Int.reduceLT, Int.reduceLE, Int.reduceEq, Int.reduceNe, Int.reduceAdd, Int.reduceSub, Int.reduceMul, Int.reduceNeg, u9_0, lb9_0, hlt, hi', hw, hg, hlm, hfd, d0, hlO, htk, hap, Option.isSome_none, Option.isSome_some, Bool.not_false, Bool.not_true, List.length_cons, List.length_nil, Nat.zero_add, List.getD_cons_zero, List.set_cons_zero, List.set_cons_succ, Int.natCast_nonneg, Int.toNat_natCast, Option.getD_some, Option.getD_none, List.drop_zero, Nat.sub_zero, Nat.zero_le, true_and, and_true, Nat.le_refl, chk_of]
        rw [loop_step1]; simp (maxSteps := 2000000) (disch := omega) only [go_sem, doCall, doCallQ, doCallP, Nat.reduceAdd, Nat.reduceMul, Nat.reduceSub, Nat.reduceDiv, Nat.reduceMod, Nat.reduceLT, Nat.reduceLeDiff, Nat.reduceEqDiff, Nat.reduceBEq, Nat.reduceBNe, Int.reduceToNat, Int.reduceLT, Int.reduceLE, Int.reduceEq, Int.reduceNe, Int.reduceAdd, Int.reduceSub, Int.reduceMul, Int.reduceNeg]; exact ih
    | some d =>
      rw [hq] at hfd
      simp only [Option.isSome_some, Option.getD_some, if_true, List.nil_append] at hfd ⊢
      obtain ⟨z', ih⟩ := lp_of0 a b hl hlb (i + 1) (by omega) O (by omega) z
      refine ⟨z', fun k => ?_⟩
      have ih := ih k
      generalize hR : (k (.exit 0) (clean [0, 1, 5] (st9_0 0 (vHs a) (vHs b) (.own 0 10 0 (O ++ gonL b (a.drop (i + 1))).length z') .unk .unk .unk [.arr 10 ((O ++ gonL b (a.drop (i + 1))).map chRow)]))) = R at ih ⊢
      simp (maxSteps := 2000000) (disch := omega) only [go_sem, doCall, doCallQ, doCallP, Nat.reduceAdd, Nat.reduceMul, Nat.reduceSub, Nat.reduceDiv, Nat.reduceMod, Nat.reduceLT, Nat.reduceLeDiff, Nat.reduceEqDiff, Nat.reduceBEq, Nat.reduceBNe, Int.reduceToNat, Int.reduceLT, Int.reduceLE, Int.reduceEq, Int.reduceNe, Int.reduceAdd, Int.reduceSub, Int.reduceMul, Int.reduceNeg, u9_0, lb9_0, hlt, hi', hw, hg, hlm, hfd, hlO, htk, Option.isSome_none, Option.isSome_some, Bool.not_false, Bool.not_true, List.length_cons, List.length_nil, Nat.zero_add, List.getD_cons_zero, List.set_cons_zero, List.set_cons_succ, Int.natCast_nonneg, Int.toNat_natCast, Option.getD_some, Option.getD_none, List.drop_zero, Nat.sub_zero, Nat.zero_le, true_and, and_true, Nat.le_refl, chk_of]
      rw [loop_step1]; simp (maxSteps := 2000000) (disch := omega) only [go_sem, doCall, doCallQ, doCallP, Nat.reduceAdd, Nat.reduceMul, Nat.reduceSub, Nat.reduceDiv, Nat.reduceMod, Nat.reduceLT, Nat.reduceLeDiff, Nat.reduceEqDiff, Nat.reduceBEq, Nat.reduceBNe, Int.reduceToNat, Int.reduceLT, Int.reduceLE, Int.reduceEq, Int.reduceNe, Int.reduceAdd, Int.reduceSub, Int.reduceMul, Int.reduceNeg]; exact ih
termination_by a.length - i
end Go.Proofs.Ytbcpffhialoliaa
namespace Go.Proofs.Ytbcpffhialoliaa
open Go Go.Ev Go.Proofs.Ytbcpffhialoliaa.Ir
set_option maxRecDepth 100000
set_option maxHeartbeats 4000000
set_option linter.unusedSimpArgs false
set_option linter.unusedVariables false
theorem t_chg (x y : Hd) (has : Bool) (hl : y.ps.length ≤ 1000000) (hlx : x.ps.length ≤ 1000000) (hb : ∀ p ∈ y.ps, p.bd.length ≤ 1000000) (hrx : has = true → rises x.ps) (hry : rises y.ps) :
    ∃ v H, call ir 19 [vHd x, vHd y, dT has] [] = some (v, H) ∧ v.scalar = false ∧ v.view H = vCh (chg x y has) := by
  cases has
  · exact ⟨_, _, t_chg0 x y hl hb, rfl, rfl⟩
  · by_cases hg : x.ge = y.ge
    · exact t_chgS x y hg hl hlx hb (hrx rfl) hry
    · exact ⟨_, _, t_chgG x y hg hl hb, rfl, rfl⟩
def chO (a : List Hd) (d : Hd) : Ch := chg ((fndO d.ob a).getD d0) d (fndO d.ob a).isSome
def chL (a l : List Hd) : List Ch := (l.map (chO a)).filter fun c => !emp c
theorem chL_drop (a : List Hd) {l : List Hd} {i : Nat} (h : i < l.length) : chL a (l.drop i) = (if emp (chO a l[i]) then [] else [chO a l[i]]) ++ chL a (l.drop (i + 1)) := by
  unfold chL
  rw [List.drop_eq_getElem_cons h, List.map_cons, List.filter_cons]
  cases emp (chO a l[i]) <;> rfl
theorem lp_of1 (a b : List Hd) (ha : sml a) (hb : sml b) (hra : ∀ d ∈ a, rises d.ps) (hrb : ∀ d ∈ b, rises d.ps) (i : Nat) (hi : i ≤ b.length) (O : List Ch) (hO : O.length ≤ 100000 + i) (z : Bool) :
    ∃ z' : Bool, ∀ (k : Ex → St → Option (AV × Heap)), (bnd (evC (call ir) (loop ir) lp9_1 (st9_1 0 (vHs a) (.own 0 10 0 O.length z) (vHs b) (dI b.length) (dI i) [.arr 10 (O.map chRow)])) (lpC (call ir) (loop ir) [0, 5, 47, 48, 49] lp9_1 k)) =
      k (.exit 2) (clean [5] (st9_1 0 .unk (.own 0 10 0 (O ++ chL a (b.drop i)).length z') .unk .unk .unk [.arr 10 ((O ++ chL a (b.drop i)).map chRow)])) := by
  have hlb := hb.1
  have hla := ha.1
  by_cases h : i = b.length
  · have hx : ¬ (i : Int) < b.length := by omega
    rw [h] at hx
    have e0 : chL a [] = [] := rfl
    rw [h, List.drop_length, e0, List.append_nil]
    refine ⟨z, fun k => ?_⟩
    simp (maxSteps := 2000000) (disch := omega) only [go_sem, doCall, doCallQ, doCallP, Nat.reduceAdd, Nat.reduceMul, Nat.reduceSub, Nat.reduceDiv, Nat.reduceMod, Nat.reduceLT, Nat.reduceLeDiff, Nat.reduceEqDiff, Nat.reduceBEq, Nat.reduceBNe, Int.reduceToNat, Int.reduceLT, Int.reduceLE, Int.reduceEq, Int.reduceNe, Int.reduceAdd, Int.reduceSub, Int.reduceMul, Int.reduceNeg, u9_1, lb9_1, hx]
  · have hlt : (i : Int) < b.length := by omega
    have hi' : i < b.length := by omega
    have hw := wr_succ (i := i) (by omega)
    have hg := getHd b hi'
    have hlm : (b.map hdRow).length = b.length := List.length_map ..
    have hfd := t_findD b[i].ob a (by omega)
    have hin := List.getElem_mem hi'
    have hsb := hb.2 _ hin
    have hxs : ((fndO b[i].ob a).getD d0).ps.length ≤ 1000000 ∧ ((fndO b[i].ob a).isSome = true → rises ((fndO b[i].ob a).getD d0).ps) := by
      cases hq : fndO b[i].ob a with
      | none => exact ⟨by simp [d0], fun h => by simp at h⟩
      | some d =>
        have := fnd_in hq
        exact ⟨by have := (ha.2 d this.1).1; simpa using (by omega : d.ps.length ≤ 1000000), fun _ => hra d this.1⟩
    obtain ⟨v, H, hv, hsc, hvw⟩ := t_chg ((fndO b[i].ob a).getD d0) b[i] (fndO b[i].ob a).isSome (by omega) hxs.1 (fun p hp => by have := hsb.2 p hp; omega) hxs.2 (hrb _ hin)
    have hlO : (O.map chRow).length = O.length := List.length_map ..
    have htk : (O.map chRow).take O.length = O.map chRow := by rw [← hlO, List.take_length]
    rw [chL_drop a hi']
    have ecc : chO a b[i] = chg ((fndO b[i].ob a).getD d0) b[i] (fndO b[i].ob a).isSome := rfl
    rw [← ecc] at hvw
    generalize chO a b[i] = c at hvw ⊢
    have hem := t_empty c
    have hap : O.map chRow ++ [[.int .i64 c.ob, .bool c.bo, .bool c.go, .int .i64 c.b1, .int .i64 c.b2, .str c.b3, .int .i64 c.b4, .int .i64 c.b5, .list 4 (c.ps.map pcRow), .list 1 (kR c.ls)]] = (O ++ [c]).map chRow := by rw [List.map_append]; rfl
    generalize (fndO b[i].ob a).getD d0 = x at hfd hv
    generalize (fndO b[i].ob a).isSome = has at hfd hv
    generalize b[i] = d at hg hfd hv
    cases hE : emp c
    · rw [hE] at hem
      simp only [Bool.false_eq_true, if_false]
      obtain ⟨z', ih⟩ := lp_of1 a b ha hb hra hrb (i + 1) (by omega) (O ++ [c]) (by simp; omega) false
      refine ⟨z', fun k => ?_⟩
      have ih := ih k
      rw [← List.append_assoc]
      generalize hR : (k (.exit 2) (clean [5] (st9_1 0 .unk (.own 0 10 0 (O ++ [c] ++ chL a (b.drop (i + 1))).length z') .unk .unk .unk [.arr 10 ((O ++ [c] ++ chL a (b.drop (i + 1))).map chRow)]))) = R at ih ⊢
      rw [List.length_append] at ih
      cases z
      · simp (maxSteps := 2000000) (disch := omega) only [go_sem, doCall, doCallQ, doCallP, Nat.reduceAdd, Nat.reduceMul, Nat.reduceSub, Nat.reduceDiv, Nat.reduceMod, Nat.reduceLT, Nat.reduceLeDiff, Nat.reduceEqDiff, Nat.reduceBEq, Nat.reduceBNe, Int.reduceToNat, Int.reduceLT, Int.reduceLE, Int.reduceEq, Int.reduceNe, Int.reduceAdd, Int.reduceSub, Int.reduceMul, Int.reduceNeg, u9_1, lb9_1, hlt, hi', hw, hg, hlm, hfd, hv, hsc, hvw, hem, hlO, htk, hap, Option.isSome_none, Option.isSome_some, Bool.not_false, Bool.not_true, List.length_cons, List.length_nil, Nat.zero_add, List.getD_cons_zero, List.set_cons_zero, List.set_cons_succ, Int.natCast_nonneg, Int.toNat_natCast, Option.getD_some, Option.getD_none, List.drop_zero, Nat.sub_zero, Nat.zero_le, true_and, and_true, Nat.le_refl, chk_of]
        rw [loop_step1]; simp (maxSteps := 2000000) (disch := omega) only [go_sem, doCall, doCallQ, doCallP, Nat.reduceAdd, Nat.reduceMul, Nat.reduceSub, Nat.reduceDiv, Nat.reduceMod, Nat.reduceLT, Nat.reduceLeDiff, Nat.reduceEqDiff, Nat.reduceBEq, Nat.reduceBNe, Int.reduceToNat, Int.reduceLT, Int.reduceLE, Int.reduceEq, Int.reduceNe, Int.reduceAdd, Int.reduceSub, Int.reduceMul, Int.reduceNeg]; exact ih
      · simp (maxSteps := 2000000) (disch := omega) only [go_sem, doCall, doCallQ, doCallP, Nat.reduceAdd, Nat.reduceMul, Nat.reduceSub, Nat.reduceDiv, Nat.reduceMod, Nat.reduceLT, Nat.reduceLeDiff, Nat.reduceEqDiff, Nat.reduceBEq, Nat.reduceBNe, Int.reduceToNat, Int.reduceLT, Int.reduceLE, Int.reduceEq, Int.reduceNe, Int.reduceAdd, Int.reduceSub, Int.reduceMul, Int.reduceNeg, u9_1, lb9_1, hlt, hi', hw, hg, hlm, hfd, hv, hsc, hvw, hem, hlO, htk, hap, Option.isSome_none, Option.isSome_some, Bool.not_false, Bool.not_true, List.length_cons, List.length_nil, Nat.zero_add, List.getD_cons_zero, List.set_cons_zero, List.set_cons_succ, Int.natCast_nonneg, Int.toNat_natCast, Option.getD_some, Option.getD_none, List.drop_zero, Nat.sub_zero, Nat.zero_le, true_and, and_true, Nat.le_refl, chk_of]
        rw [loop_step1]; simp (maxSteps := 2000000) (disch := omega) only [go_sem, doCall, doCallQ, doCallP, Nat.reduceAdd, Nat.reduceMul, Nat.reduceSub, Nat.reduceDiv, Nat.reduceMod, Nat.reduceLT, Nat.reduceLeDiff, Nat.reduceEqDiff, Nat.reduceBEq, Nat.reduceBNe, Int.reduceToNat, Int.reduceLT, Int.reduceLE, Int.reduceEq, Int.reduceNe, Int.reduceAdd, Int.reduceSub, Int.reduceMul, Int.reduceNeg]; exact ih
    · rw [hE] at hem
      simp only [if_true, List.nil_append]
      obtain ⟨z', ih⟩ := lp_of1 a b ha hb hra hrb (i + 1) (by omega) O (by omega) z
      refine ⟨z', fun k => ?_⟩
      have ih := ih k
      generalize hR : (k (.exit 2) (clean [5] (st9_1 0 .unk (.own 0 10 0 (O ++ chL a (b.drop (i + 1))).length z') .unk .unk .unk [.arr 10 ((O ++ chL a (b.drop (i + 1))).map chRow)]))) = R at ih ⊢
      simp (maxSteps := 2000000) (disch := omega) only [go_sem, doCall, doCallQ, doCallP, Nat.reduceAdd, Nat.reduceMul, Nat.reduceSub, Nat.reduceDiv, Nat.reduceMod, Nat.reduceLT, Nat.reduceLeDiff, Nat.reduceEqDiff, Nat.reduceBEq, Nat.reduceBNe, Int.reduceToNat, Int.reduceLT, Int.reduceLE, Int.reduceEq, Int.reduceNe, Int.reduceAdd, Int.reduceSub, Int.reduceMul, Int.reduceNeg, u9_1, lb9_1, hlt, hi', hw, hg, hlm, hfd, hv, hsc, hvw, hem, hlO, htk, Option.isSome_none, Option.isSome_some, Bool.not_false, Bool.not_true, List.length_cons, List.length_nil, Nat.zero_add, List.getD_cons_zero, List.set_cons_zero, List.set_cons_succ, Int.natCast_nonneg, Int.toNat_natCast, Option.getD_some, Option.getD_none, List.drop_zero, Nat.sub_zero, Nat.zero_le, true_and, and_true, Nat.le_refl, chk_of]
      rw [loop_step1]; simp (maxSteps := 2000000) (disch := omega) only [go_sem, doCall, doCallQ, doCallP, Nat.reduceAdd, Nat.reduceMul, Nat.reduceSub, Nat.reduceDiv, Nat.reduceMod, Nat.reduceLT, Nat.reduceLeDiff, Nat.reduceEqDiff, Nat.reduceBEq, Nat.reduceBNe, Int.reduceToNat, Int.reduceLT, Int.reduceLE, Int.reduceEq, Int.reduceNe, Int.reduceAdd, Int.reduceSub, Int.reduceMul, Int.reduceNeg]; exact ih
termination_by b.length - i
end Go.Proofs.Ytbcpffhialoliaa
namespace Go.Proofs.Ytbcpffhialoliaa
open Go Go.Ev Go.Proofs.Ytbcpffhialoliaa.Ir
set_option maxRecDepth 100000
set_option maxHeartbeats 4000000
set_option linter.unusedSimpArgs false
set_option linter.unusedVariables false
theorem keysC : ∀ l : List Ch, keysD kd0 (l.map chRow) = some (l.map (·.ob))
  | [] => rfl
  | h :: l => by rw [List.map_cons, keysD, keysC l]; rfl
theorem c_sortC48 (F : List Ch) (hl : F.length ≤ 1000000) (hn : (F.map (·.ob)).Nodup) (b : Bool) :
    call ir 21 [.own 0 10 0 F.length b, .clo (.func 22) [] []] [.arr 10 (F.map chRow)] = some (.tup [], [.arr 10 ((srtK (·.ob) F).map chRow)]) := by
  have hlen : (F.map chRow).length = F.length := List.length_map ..
  have htk : ((F.map chRow).drop 0).take F.length = F.map chRow := by rw [List.drop_zero, ← hlen, List.take_length]
  have e := natSK_eq 10 kd0 21 22 (i := 0) (o := 0) (n := F.length) (b := b) (H := [.arr 10 (F.map chRow)]) (xs := F.map chRow) (ns := F.map (·.ob)) rfl ⟨by simp, by omega⟩
    (by rw [htk]; exact keysC F) hn
  rw [call_nat (by rfl), nat_eq]
  refine (natOr_l e).trans ?_
  rw [htk, Nat.zero_add, ← hlen, List.drop_length, srtK_map, List.append_nil]
  rfl
theorem fnd_some_of {o : Int} {l : List Hd} {d : Hd} (h : d ∈ l) (e : d.ob = o) : (fndO o l).isSome = true := by
  unfold fndO
  rw [List.find?_isSome]
  exact ⟨d, h, decide_eq_true e⟩
theorem of_nod {a b : List Hd} (ha : a.Pairwise (fun (x y : Hd) => x.ob < y.ob)) (hb : b.Pairwise (fun (x y : Hd) => x.ob < y.ob)) : ((gonL b a ++ chL a b).map (·.ob)).Nodup := by
  have e1 : (gonL b a).map (·.ob) = (a.filter fun d => !(fndO d.ob b).isSome).map (·.ob) := by unfold gonL; rw [List.map_map]; rfl
  have e2 : ((chL a b).map (·.ob)).Sublist (b.map (·.ob)) := by
    have : (b.map (chO a)).map (·.ob) = b.map (·.ob) := by rw [List.map_map]; rfl
    rw [← this]
    exact List.filter_sublist.map _
  rw [List.map_append, List.nodup_append]
  refine ⟨by rw [e1]; exact nod_of (f := Hd.ob) (ha.filter _), e2.nodup (nod_of (f := Hd.ob) hb), fun x hx y hy => ?_⟩
  rw [e1] at hx
  obtain ⟨q, hq, rfl⟩ := List.mem_map.1 hx
  obtain ⟨p, hp, rfl⟩ := List.mem_map.1 (e2.subset hy)
  intro e
  have := (List.mem_filter.1 hq).2
  rw [fnd_some_of hp e.symm] at this
  simp at this
/-- The changes. -/
def ofR (a b : List Hd) : List Ch := if rtR a && rtR b then srtK (·.ob) (gonL b a ++ chL a b) else []
theorem t_of (a b : List Hd) (ha : sml a) (hb : sml b) : ∃ z : Bool, call ir 9 [vHs a, vHs b] [] = some (.own 0 10 0 (ofR a b).length z, [.arr 10 ((ofR a b).map chRow)]) := by
  have hla := ha.1
  have hlb := hb.1
  have h1 := t_right48 a (by omega) (sml_b ha)
  have h2 := t_right48 b (by omega) (sml_b hb)
  have hma : (a.map hdRow).length = a.length := List.length_map ..
  have hmb : (b.map hdRow).length = b.length := List.length_map ..
  unfold ofR
  cases hra : rtR a
  · rw [hra] at h1
    refine ⟨false, ?_⟩
    rw [call_eq (fn := ir9) rfl, evF_bnd]
    simp (maxSteps := 2000000) (disch := omega) only [go_sem, doCall, doCallQ, doCallP, Nat.reduceAdd, Nat.reduceMul, Nat.reduceSub, Nat.reduceDiv, Nat.reduceMod, Nat.reduceLT, Nat.reduceLeDiff, Nat.reduceEqDiff, Nat.reduceBEq, Nat.reduceBNe, Int.reduceToNat, Int.reduceLT, Int.reduceLE, Int.reduceEq, Int.reduceNe, Int.reduceAdd, Int.reduceSub, Int.reduceMul, Int.reduceNeg, bd9, h1, Int.natCast_nonneg, Int.toNat_natCast, Option.getD_some, Option.getD_none, List.drop_zero, Nat.sub_zero, Nat.zero_le, true_and, and_true, Nat.le_refl, chk_of]
  · cases hrb : rtR b
    · rw [hra] at h1
      rw [hrb] at h2
      refine ⟨false, ?_⟩
      rw [call_eq (fn := ir9) rfl, evF_bnd]
      simp (maxSteps := 2000000) (disch := omega) only [go_sem, doCall, doCallQ, doCallP, Nat.reduceAdd, Nat.reduceMul, Nat.reduceSub, Nat.reduceDiv, Nat.reduceMod, Nat.reduceLT, Nat.reduceLeDiff, Nat.reduceEqDiff, Nat.reduceBEq, Nat.reduceBNe, Int.reduceToNat, Int.reduceLT, Int.reduceLE, Int.reduceEq, Int.reduceNe, Int.reduceAdd, Int.reduceSub, Int.reduceMul, Int.reduceNeg, bd9, h1, h2, Int.natCast_nonneg, Int.toNat_natCast, Option.getD_some, Option.getD_none, List.drop_zero, Nat.sub_zero, Nat.zero_le, true_and, and_true, Nat.le_refl, chk_of]
    · have pa := (rt_iff a).1 hra
      have pb := (rt_iff b).1 hrb
      rw [hra] at h1
      rw [hrb] at h2
      have hn := of_nod pa.2 pb.2
      have hOl : (gonL b a ++ chL a b).length ≤ 1000000 := by
        have q1 : (gonL b a).length ≤ a.length := by unfold gonL; rw [List.length_map]; exact List.length_filter_le ..
        have q2 : (chL a b).length ≤ b.length := by unfold chL; exact Nat.le_trans (List.length_filter_le ..) (by rw [List.length_map]; exact Nat.le_refl _)
        rw [List.length_append]; omega
      have hgl : (gonL b a).length ≤ 100000 := by
        have q1 : (gonL b a).length ≤ a.length := by unfold gonL; rw [List.length_map]; exact List.length_filter_le ..
        omega
      obtain ⟨z1, l1⟩ := lp_of0 a b (by omega) (by omega) 0 (Nat.zero_le _) [] (Nat.le_refl _) false
      obtain ⟨z2, l2⟩ := lp_of1 a b ha hb (fun d hd => ((one_iff d).1 (pa.1 d hd)).2) (fun d hd => ((one_iff d).1 (pb.1 d hd)).2) 0 (Nat.zero_le _) (gonL b a) (by omega) z1
      rw [List.drop_zero] at l1 l2
      rw [List.nil_append] at l1
      have hs := c_sortC48 _ hOl hn z2
      have hsl := srtK_len (fun c : Ch => c.ob) (gonL b a ++ chL a b)
      refine ⟨z2, ?_⟩
      simp only [Bool.and_self, if_true]
      rw [hsl]
      generalize gonL b a ++ chL a b = O at l2 hs
      generalize gonL b a = G at l1 l2
      rw [call_eq (fn := ir9) rfl, evF_bnd]
      simp (maxSteps := 2000000) (disch := omega) only [go_sem, doCall, doCallQ, doCallP, Nat.reduceAdd, Nat.reduceMul, Nat.reduceSub, Nat.reduceDiv, Nat.reduceMod, Nat.reduceLT, Nat.reduceLeDiff, Nat.reduceEqDiff, Nat.reduceBEq, Nat.reduceBNe, Int.reduceToNat, Int.reduceLT, Int.reduceLE, Int.reduceEq, Int.reduceNe, Int.reduceAdd, Int.reduceSub, Int.reduceMul, Int.reduceNeg, bd9, h1, h2, hma, hmb, Int.natCast_nonneg, Int.toNat_natCast, Option.getD_some, Option.getD_none, List.drop_zero, Nat.sub_zero, Nat.zero_le, true_and, and_true, Nat.le_refl, chk_of]
      rw [loop_step1]; simp (maxSteps := 2000000) (disch := omega) only [go_sem, doCall, doCallQ, doCallP, Nat.reduceAdd, Nat.reduceMul, Nat.reduceSub, Nat.reduceDiv, Nat.reduceMod, Nat.reduceLT, Nat.reduceLeDiff, Nat.reduceEqDiff, Nat.reduceBEq, Nat.reduceBNe, Int.reduceToNat, Int.reduceLT, Int.reduceLE, Int.reduceEq, Int.reduceNe, Int.reduceAdd, Int.reduceSub, Int.reduceMul, Int.reduceNeg]
      refine (l1 _).trans ?_
      simp (maxSteps := 2000000) (disch := omega) only [go_sem, doCall, doCallQ, doCallP, Nat.reduceAdd, Nat.reduceMul, Nat.reduceSub, Nat.reduceDiv, Nat.reduceMod, Nat.reduceLT, Nat.reduceLeDiff, Nat.reduceEqDiff, Nat.reduceBEq, Nat.reduceBNe, Int.reduceToNat, Int.reduceLT, Int.reduceLE, Int.reduceEq, Int.reduceNe, Int.reduceAdd, Int.reduceSub, Int.reduceMul, Int.reduceNeg, hmb, Int.natCast_nonneg, Int.toNat_natCast, Option.getD_some, Option.getD_none, List.drop_zero, Nat.sub_zero, Nat.zero_le, true_and, and_true, Nat.le_refl, chk_of]
      rw [loop_step1]; simp (maxSteps := 2000000) (disch := omega) only [go_sem, doCall, doCallQ, doCallP, Nat.reduceAdd, Nat.reduceMul, Nat.reduceSub, Nat.reduceDiv, Nat.reduceMod, Nat.reduceLT, Nat.reduceLeDiff, Nat.reduceEqDiff, Nat.reduceBEq, Nat.reduceBNe, Int.reduceToNat, Int.reduceLT, Int.reduceLE, Int.reduceEq, Int.reduceNe, Int.reduceAdd, Int.reduceSub, Int.reduceMul, Int.reduceNeg]
      refine (l2 _).trans ?_
      simp (maxSteps := 2000000) (disch := omega) only [go_sem, doCall, doCallQ, doCallP, Nat.reduceAdd, Nat.reduceMul, Nat.reduceSub, Nat.reduceDiv, Nat.reduceMod, Nat.reduceLT, Nat.reduceLeDiff, Nat.reduceEqDiff, Nat.reduceBEq, Nat.reduceBNe, Int.reduceToNat, Int.reduceLT, Int.reduceLE, Int.reduceEq, Int.reduceNe, Int.reduceAdd, Int.reduceSub, Int.reduceMul, Int.reduceNeg, hs, Int.natCast_nonneg, Int.toNat_natCast, Option.getD_some, Option.getD_none, List.drop_zero, Nat.sub_zero, Nat.zero_le, true_and, and_true, Nat.le_refl, chk_of]
end Go.Proofs.Ytbcpffhialoliaa
namespace Go.Proofs.Ytbcpffhialoliaa
open Go Go.Ev Go.Proofs.Ytbcpffhialoliaa.Ir
set_option maxRecDepth 100000
set_option linter.unusedSimpArgs false
set_option linter.unusedVariables false
theorem findM_low {α : Type} {k : Int} : ∀ {l : List (Int × α)}, (∀ p ∈ l, k < p.1) → findM k l = none := fun h => findM_none fun p hp => by have := h p hp; omega
theorem srtM_ext {α : Type} : ∀ {l m : List (Int × α)}, SrtM l → SrtM m → (∀ k, findM k l = findM k m) → l = m
  | [], [], _, _, _ => rfl
  | [], (b, w) :: m, _, _, h => by have := h b; simp [findM] at this
  | (a, v) :: l, [], _, _, h => by have := h a; simp [findM] at this
  | (a, v) :: l, (b, w) :: m, hl, hm, h => by
    have h1 := List.pairwise_cons.1 hl
    have h2 := List.pairwise_cons.1 hm
    have ea : a = b := by
      rcases Int.lt_trichotomy a b with q | q | q
      · have := h a
        rw [findM, if_pos rfl, findM_low (l := (b, w) :: m) (fun p hp => by
          rcases List.mem_cons.1 hp with rfl | hp
          · exact q
          · have := h2.1 p hp; simp only at this; omega)] at this
        simp at this
      · exact q
      · have := h b
        rw [findM_low (l := (a, v) :: l) (fun p hp => by
          rcases List.mem_cons.1 hp with rfl | hp
          · exact q
          · have := h1.1 p hp; simp only at this; omega), findM, if_pos rfl] at this
        simp at this
    subst ea
    have ev : v = w := by have := h a; rw [findM, findM, if_pos rfl, if_pos rfl] at this; exact Option.some.inj this
    subst ev
    rw [srtM_ext h1.2 h2.2 (fun k => by
      by_cases e : a = k
      · subst e
        rw [findM_low (fun p hp => h1.1 p hp), findM_low (fun p hp => h2.1 p hp)]
      · have := h k
        rwa [findM, findM, if_neg e, if_neg e] at this)]
theorem findM_put {α : Type} (k j : Int) (v : α) : ∀ l : List (Int × α), findM k (putM j v l) = if j = k then some v else findM k l
  | [] => rfl
  | (a, d) :: l => by
    rw [putM]
    split
    · rw [findM]
    · rename_i h1
      split
      · rename_i h2
        subst h2
        rw [findM, findM]
        by_cases e : j = k
        · rw [if_pos e, if_pos e]
        · rw [if_neg e, if_neg e, if_neg e]
      · rename_i h2
        rw [findM, findM_put k j v l, findM]
        by_cases e : a = k
        · rw [if_pos e, if_pos e, if_neg (by omega)]
        · rw [if_neg e, if_neg e]
theorem findM_merge {α : Type} (k : Int) : ∀ (fs es : List (Int × α)), SrtM fs → findM k (mergeM es fs) = (match findM k fs with | some v => some v | none => findM k es)
  | [], es, _ => rfl
  | (a, v) :: fs, es, h => by
    have h1 := List.pairwise_cons.1 h
    have ih := findM_merge k fs (putM a v es) h1.2
    have e0 : mergeM es ((a, v) :: fs) = mergeM (putM a v es) fs := rfl
    rw [e0, ih, findM_put]
    by_cases e : a = k
    · subst e
      rw [findM_low (fun p hp => h1.1 p hp), if_pos rfl, findM, if_pos rfl]
    · rw [if_neg e]
      conv => rhs; rw [findM, if_neg e]
theorem findM_pc (k : Int) : ∀ l : List Pc, findM k (l.map pcE) = (l.find? fun p => decide (p.ix = k)).map pcD
  | [] => rfl
  | p :: l => by
    show findM k ((p.ix, pcD p) :: l.map pcE) = _
    rw [findM, List.find?_cons]
    by_cases e : p.ix = k
    · rw [if_pos e, decide_eq_true e]; rfl
    · rw [if_neg e, decide_eq_false e, findM_pc k l]
theorem srt_pc {l : List Pc} (h : rises l) : SrtM (l.map pcE) := by
  unfold SrtM
  rw [List.pairwise_map]
  exact h
/-- The only one at its place. -/
theorem find_the {l : List Pc} (h : rises l) {p : Pc} (hp : p ∈ l) : (l.find? fun q => decide (q.ix = p.ix)) = some p := by
  induction l with
  | nil => simp at hp
  | cons q l ih =>
    have h2 := List.pairwise_cons.1 h
    rw [List.find?_cons]
    rcases List.mem_cons.1 hp with rfl | hp
    · rw [decide_eq_true rfl]
    · have := h2.1 p hp
      rw [decide_eq_false (by omega)]
      exact ih h2.2 hp
theorem find_by {l : List Pc} {k : Int} {p : Pc} (h : (l.find? fun q => decide (q.ix = k)) = some p) : p ∈ l ∧ p.ix = k :=
  ⟨List.mem_of_find?_eq_some h, of_decide_eq_true (List.find?_some (p := fun q : Pc => decide (q.ix = k)) h)⟩
theorem find_no {l : List Pc} {k : Int} (h : (l.find? fun q => decide (q.ix = k)) = none) : ∀ p ∈ l, p.ix ≠ k := fun p hp e => by
  have := List.find?_eq_none.1 h p hp
  simp [e] at this
theorem at_iff (k : Int) (l : List Pc) : atP k l = true ↔ ∃ p ∈ l, p.ix = k := by
  unfold atP
  rw [List.any_eq_true]
  constructor
  · rintro ⟨p, h1, h2⟩; exact ⟨p, h1, of_decide_eq_true h2⟩
  · rintro ⟨p, h1, h2⟩; exact ⟨p, h1, decide_eq_true h2⟩
theorem isNew_iff {x : List Pc} (hx : rises x) (p : Pc) : isNew x p = true ↔ p ∉ x := by
  unfold isNew
  constructor
  · intro h hp
    rw [find_the hx hp] at h
    simp [same_refl] at h
  · intro h
    cases e : x.find? (fun q => decide (q.ix = p.ix)) with
    | none => rfl
    | some q =>
      simp only
      cases es : samePc p q
      · rfl
      · have := find_by e
        rw [← same_eq es] at this
        exact absurd this.1 h
/-- One behind the other lost. -/
def delG : List Int → List Pc → Option (List Pc)
  | [], F => some F
  | i :: l, F => if atP i F then delG l (F.filter (noI i)) else none
theorem delG_ok : ∀ (ls : List Int) (F : List Pc), ls.Nodup → (∀ i ∈ ls, atP i F = true) → delG ls F = some (F.filter fun p => !ls.contains p.ix)
  | [], F, _, _ => by
    rw [delG]; exact congrArg some (List.filter_eq_self.2 (fun p _ => rfl)).symm
  | i :: l, F, hn, h => by
    have h2 := List.nodup_cons.1 hn
    rw [delG, if_pos (h i (.head _)), delG_ok l _ h2.2 (fun j hj => by
      obtain ⟨p, hp, e⟩ := (at_iff j F).1 (h j (.tail _ hj))
      refine (at_iff j _).2 ⟨p, List.mem_filter.2 ⟨hp, ?_⟩, e⟩
      unfold noI
      rw [e, decide_eq_false (show ¬ j = i from fun q => h2.1 (by rw [← q]; exact hj))]; rfl), List.filter_filter]
    congr 1
    apply List.filter_congr
    intro p _
    unfold noI
    rw [List.contains_cons]
    by_cases e : p.ix = i
    · simp [e]
    · rw [decide_eq_false e, show (p.ix == i) = false by simp [e]]
      simp
theorem lsF_nod {x y : List Pc} (hx : rises x) : (lsF y x).Nodup := by
  unfold lsF
  rw [List.nodup_iff_pairwise_ne, List.pairwise_map]
  exact (hx.filter _).imp fun h => by omega
theorem lsF_del {x y : List Pc} (hx : rises x) : delG (lsF y x) x = some (x.filter fun p => atP p.ix y) := by
  rw [delG_ok _ _ (lsF_nod hx) (fun i hi => by
    unfold lsF at hi
    obtain ⟨p, hp, rfl⟩ := List.mem_map.1 hi
    exact (at_iff _ _).2 ⟨p, (List.mem_filter.1 hp).1, rfl⟩)]
  congr 1
  apply List.filter_congr
  intro p hp
  cases e : atP p.ix y
  · have : (lsF y x).contains p.ix = true := by
      rw [List.contains_iff_mem]
      unfold lsF
      exact List.mem_map.2 ⟨p, List.mem_filter.2 ⟨hp, by simp [e]⟩, rfl⟩
    rw [this]; rfl
  · have : (lsF y x).contains p.ix = false := by
      rw [Bool.eq_false_iff]
      intro h
      rw [List.contains_iff_mem] at h
      unfold lsF at h
      obtain ⟨q, hq, e2⟩ := List.mem_map.1 h
      have := (List.mem_filter.1 hq).2
      rw [e2, e] at this
      simp at this
    rw [this]; rfl
/-- What is kept and what is new, together, is what is. -/
theorem merge_is {x y : List Pc} (hx : rises x) (hy : rises y) : mergeM ((x.filter fun p => atP p.ix y).map pcE) ((y.filter (isNew x)).map pcE) = y.map pcE := by
  have s1 : rises (x.filter fun p => atP p.ix y) := hx.filter _
  have s2 : rises (y.filter (isNew x)) := hy.filter _
  apply srtM_ext (merge_srt (srt_pc s1)) (srt_pc hy)
  intro k
  rw [findM_merge k _ _ (srt_pc s2), findM_pc, findM_pc, findM_pc]
  cases ey : y.find? (fun p => decide (p.ix = k)) with
  | none =>
    have hno := find_no ey
    rw [List.find?_eq_none.2 (fun p hp => by simpa using hno p (List.mem_filter.1 hp).1)]
    rw [List.find?_eq_none.2 (fun p hp => by
      have h2 := (List.mem_filter.1 hp).2
      obtain ⟨q, hq, e⟩ := (at_iff _ _).1 h2
      have := hno q hq
      simp; omega)]
    rfl
  | some p =>
    obtain ⟨hp, rfl⟩ := find_by ey
    cases en : isNew x p
    · have hpx : p ∈ x := by
        have := isNew_iff hx p
        rw [en] at this
        simpa using this
      have hnone : (y.filter (isNew x)).find? (fun q => decide (q.ix = p.ix)) = none := List.find?_eq_none.2 (fun q hq => by
        have h2 := List.mem_filter.1 hq
        intro e
        have e := of_decide_eq_true e
        have := find_the hy h2.1
        rw [e, find_the hy hp] at this
        have := Option.some.inj this
        subst this
        rw [en] at h2
        simp at h2)
      rw [hnone, find_the s1 (List.mem_filter.2 ⟨hpx, (at_iff _ _).2 ⟨p, hp, rfl⟩⟩)]
      rfl
    · rw [find_the s2 (List.mem_filter.2 ⟨hp, en⟩)]
      rfl
/-- Nothing has changed just if both are the same. -/
theorem emp_iff {x y : Hd} (hx : oneR x = true) (hy : oneR y = true) : emp (chg x y true) = true ↔ x = y := by
  have px := (one_iff x).1 hx
  have py := (one_iff y).1 hy
  constructor
  · intro h
    unfold emp chg at h
    simp only [Bool.not_true, Bool.false_or, Bool.and_eq_true, Bool.not_eq_true', Bool.not_eq_false', decide_eq_true_iff, decide_eq_false_iff_not] at h
    obtain ⟨h1, _, h3, h4⟩ := h
    have hs : sameB x y = true := by simpa using h1
    unfold sameB at hs
    simp only [Bool.and_eq_true, beq_iff_eq] at hs
    obtain ⟨e1, e2, e3, e4, e5⟩ := hs
    rw [if_neg (fun h => h e2)] at h3 h4
    rw [List.length_map] at h4
    have h3 := List.length_eq_zero_iff.1 h3
    have h4 := List.length_eq_zero_iff.1 h4
    have := merge_is px.2 py.2
    rw [h3, List.filter_eq_self.2 (fun p hp => by
      have := List.filter_eq_nil_iff.1 h4 p hp
      simpa using this)] at this
    have e6 : x.ps.map pcE = y.ps.map pcE := this
    have e7 : x.ps = y.ps := by
      have inj : Function.Injective pcE := by
        intro a b h
        unfold pcE pcD at h
        injection h with _ h
        injection h with h
        injection h with h1 h
        injection h with h2 h
        injection h with h3 h
        injection h with h4 _
        injection h1 with _ h1
        injection h2 with _ h2
        injection h3 with _ h3
        injection h4 with _ h4
        have hb : a.bd = b.bd := by
          have : ∀ u v : List UInt8, bB u = bB v → u = v := by
            intro u
            induction u with
            | nil => intro v h; cases v with
              | nil => rfl
              | cons c v => simp [bB] at h
            | cons c u ih => intro v h; cases v with
              | nil => simp [bB] at h
              | cons e v =>
                simp only [bB, List.map_cons, List.cons.injEq, and_true] at h
                obtain ⟨h1, h2⟩ := h
                injection h1 with _ h1
                rw [ih v h2, UInt8.toNat_inj.1 (Int.ofNat.inj h1)]
          exact this _ _ h4
        cases a; cases b; simp_all
      exact (List.map_inj_right (fun a b h => inj h)).1 e6
    cases x; cases y; simp_all
  · rintro rfl
    unfold emp chg
    have hs : sameB x x = true := by unfold sameB; simp
    have hn : decide (x.ge ≠ x.ge) = false := decide_eq_false (fun h => h rfl)
    rw [hs, hn]
    simp only [Bool.not_true, Bool.not_false, Bool.false_or, Bool.false_eq_true, if_false, Bool.true_and, Bool.and_eq_true, decide_eq_true_iff, List.length_map, List.length_eq_zero_iff, List.filter_eq_nil_iff]
    exact ⟨fun p hp h => (isNew_iff px.2 p).1 h hp, fun p hp h => by
      rw [(at_iff _ _).2 ⟨p, hp, rfl⟩] at h
      simp at h⟩
theorem emp_new (x y : Hd) : emp (chg x y false) = false := rfl
end Go.Proofs.Ytbcpffhialoliaa
