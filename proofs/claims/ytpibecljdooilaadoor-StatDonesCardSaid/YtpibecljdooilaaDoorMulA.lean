/- Many parts as one body: which may be, and bytes alike. Own work. -/
import Derived.Test.YtpibecljdooilaaDoorCnt
import Derived.Test.YtpibecljdooilaaDoorTokR
import Derived.Test.YtpibecljdooilaaDoorEvNatP
namespace Go.Proofs.YtpibecljdooilaaDoor
open Go Go.Ev Go.Proofs.YtpibecljdooilaaDoor.Ir
set_option maxRecDepth 100000
set_option maxHeartbeats 4000000
set_option linter.unusedSimpArgs false
set_option linter.unusedVariables false
abbrev vL (l : List PartD) : AV := .d (.list 3 (l.map partRow))
abbrev vB (b : List UInt8) : AV := .d (.list 1 (rB b))
def pOk (n : Int) (p : PartD) : Prop := RP p.1 p.2.1 ∧ p.2.1 ≤ n ∧ (p.2.2.length : Int) = p.2.1 - p.1
instance (n : Int) (p : PartD) : Decidable (pOk n p) := by unfold pOk; infer_instance
def allP (n : Int) : List PartD → Bool
  | [] => true
  | p :: l => if pOk n p then allP n l else false
def RtP (l : List PartD) (n : Int) : Prop := (1 ≤ l.length ∧ l.length ≤ 16) ∧ n ≤ 4611686018427387903 ∧ allP n l = true
instance (l : List PartD) (n : Int) : Decidable (RtP l n) := by unfold RtP; infer_instance
theorem getP (l : List PartD) {i : Nat} (h : i < l.length) : (l.map partRow).getD i [] = [.int .i64 l[i].1, .int .i64 l[i].2.1, .list 1 (rB l[i].2.2)] := by simp [List.getD_eq_getElem?_getD, h, partRow]
theorem allP_drop (n : Int) {l : List PartD} {i : Nat} (h : i < l.length) : allP n (l.drop i) = if pOk n l[i] then allP n (l.drop (i + 1)) else false := by
  rw [List.drop_eq_getElem_cons h]; rfl
theorem t_slen (x : Int × Int) (hx : RP x.1 x.2) : call ir 40 [vP x] [] = some (dI (x.2 - x.1), []) := by
  rw [call_eq (fn := ir40) rfl, evF_bnd]
  have h := t_right x.1 x.2
  rw [decide_eq_true hx] at h
  unfold RP at hx
  have hw : wr .i64 (x.2 - x.1) = x.2 - x.1 := wr_id (by omega)
  simp (maxSteps := 2000000) (disch := omega) only [go_sem, doCall, doCallQ, doCallP, Nat.reduceAdd, Nat.reduceMul, Nat.reduceSub, Nat.reduceDiv, Nat.reduceMod, Nat.reduceLT, Nat.reduceLeDiff, Nat.reduceEqDiff, Nat.reduceBEq, Nat.reduceBNe, Int.reduceToNat, Int.reduceLT, Int.reduceLE, Int.reduceEq, Int.reduceNe, Int.reduceAdd, Int.reduceSub, Int.reduceMul, Int.reduceNeg, bd40, h, hw, chk_of]
theorem lp_mright (l : List PartD) (n : Int) (hl : l.length ≤ 16) (k : Ex → St → Option (AV × Heap)) (i : Nat) (hi : i ≤ l.length) :
    (bnd (evC (call ir) (loop ir) lp13_0 (st13_0 0 (dI n) (vL l) (dI l.length) (dI i) [])) (lpC (call ir) (loop ir) [1, 15, 16, 17] lp13_0 k)) = (if allP n (l.drop i) then k (.exit 0) (clean [1] (st13_0 0 (dI n) .unk .unk .unk []))
      else k .ret (clean [4] ⟨0, [.unk, .unk, .unk, .unk, dT false, .unk, .unk, .unk, .unk, .unk, .unk, .unk, .unk, .unk, .unk, .unk, .unk, .unk, .unk, .unk, .unk, .unk, .unk, .unk, .unk, .unk, .unk, .unk, .unk, .unk, .unk, .unk, .unk, .unk, .unk, .unk, .unk, .unk, .unk, .unk, .unk, .unk, .unk, .unk], []⟩)) := by
  by_cases h : i = l.length
  · have hx : ¬ (i : Int) < l.length := by omega
    rw [h] at hx
    rw [h, List.drop_length]
    simp only [allP, if_true]
    simp (maxSteps := 2000000) (disch := omega) only [go_sem, doCall, doCallQ, doCallP, Nat.reduceAdd, Nat.reduceMul, Nat.reduceSub, Nat.reduceDiv, Nat.reduceMod, Nat.reduceLT, Nat.reduceLeDiff, Nat.reduceEqDiff, Nat.reduceBEq, Nat.reduceBNe, Int.reduceToNat, Int.reduceLT, Int.reduceLE, Int.reduceEq, Int.reduceNe, Int.reduceAdd, Int.reduceSub, Int.reduceMul, Int.reduceNeg, u13_0, lb13_0, hx]
  · have hlt : (i : Int) < l.length := by omega
    have hi' : i < l.length := by omega
    have hw := wr_succ (i := i) (by omega)
    have hg := getP l hi'
    have hlm : (l.map partRow).length = l.length := List.length_map ..
    have h1 := t_right l[i].1 l[i].2.1
    rw [allP_drop n hi']
    by_cases hr : RP l[i].1 l[i].2.1
    · rw [decide_eq_true hr] at h1
      have h2 := t_slen (l[i].1, l[i].2.1) hr
      by_cases ht : n < l[i].2.1
      · rw [if_neg (fun h : pOk n l[i] => by have := h.2.1; omega)]
        simp (maxSteps := 2000000) (disch := omega) only [go_sem, doCall, doCallQ, doCallP, Nat.reduceAdd, Nat.reduceMul, Nat.reduceSub, Nat.reduceDiv, Nat.reduceMod, Nat.reduceLT, Nat.reduceLeDiff, Nat.reduceEqDiff, Nat.reduceBEq, Nat.reduceBNe, Int.reduceToNat, Int.reduceLT, Int.reduceLE, Int.reduceEq, Int.reduceNe, Int.reduceAdd, Int.reduceSub, Int.reduceMul, Int.reduceNeg, u13_0, lb13_0, hlt, hi', hw, hg, hlm, h1, h2, eq_true ht, rB_len, Int.natCast_nonneg, Int.toNat_natCast, Option.getD_some, Option.getD_none, List.drop_zero, Nat.sub_zero, Nat.zero_le, true_and, and_true, Nat.le_refl, chk_of]
      · by_cases he : (l[i].2.2.length : Int) = l[i].2.1 - l[i].1
        · rw [if_pos (show pOk n l[i] from ⟨hr, by omega, he⟩)]
          have ih := lp_mright l n hl k (i + 1) (by omega)
          simp (maxSteps := 2000000) (disch := omega) only [go_sem, doCall, doCallQ, doCallP, Nat.reduceAdd, Nat.reduceMul, Nat.reduceSub, Nat.reduceDiv, Nat.reduceMod, Nat.reduceLT, Nat.reduceLeDiff, Nat.reduceEqDiff, Nat.reduceBEq, Nat.reduceBNe, Int.reduceToNat, Int.reduceLT, Int.reduceLE, Int.reduceEq, Int.reduceNe, Int.reduceAdd, Int.reduceSub, Int.reduceMul, Int.reduceNeg, u13_0, lb13_0, hlt, hi', hw, hg, hlm, h1, h2, eq_false ht, rB_len, eq_true he, Int.natCast_nonneg, Int.toNat_natCast, Option.getD_some, Option.getD_none, List.drop_zero, Nat.sub_zero, Nat.zero_le, true_and, and_true, Nat.le_refl, chk_of]
          rw [loop_step1]; simp (maxSteps := 2000000) only [go_sem, doCall, doCallQ, doCallP, Nat.reduceAdd, Nat.reduceMul, Nat.reduceSub, Nat.reduceDiv, Nat.reduceMod, Nat.reduceLT, Nat.reduceLeDiff, Nat.reduceEqDiff, Nat.reduceBEq, Nat.reduceBNe, Int.reduceToNat, Int.reduceLT, Int.reduceLE, Int.reduceEq, Int.reduceNe, Int.reduceAdd, Int.reduceSub, Int.reduceMul, Int.reduceNeg]; exact ih
        · rw [if_neg (fun h : pOk n l[i] => he h.2.2)]
          simp (maxSteps := 2000000) (disch := omega) only [go_sem, doCall, doCallQ, doCallP, Nat.reduceAdd, Nat.reduceMul, Nat.reduceSub, Nat.reduceDiv, Nat.reduceMod, Nat.reduceLT, Nat.reduceLeDiff, Nat.reduceEqDiff, Nat.reduceBEq, Nat.reduceBNe, Int.reduceToNat, Int.reduceLT, Int.reduceLE, Int.reduceEq, Int.reduceNe, Int.reduceAdd, Int.reduceSub, Int.reduceMul, Int.reduceNeg, u13_0, lb13_0, hlt, hi', hw, hg, hlm, h1, h2, eq_false ht, rB_len, eq_false he, Int.natCast_nonneg, Int.toNat_natCast, Option.getD_some, Option.getD_none, List.drop_zero, Nat.sub_zero, Nat.zero_le, true_and, and_true, Nat.le_refl, chk_of]
    · rw [decide_eq_false hr] at h1
      rw [if_neg (fun h : pOk n l[i] => hr h.1)]
      simp (maxSteps := 2000000) (disch := omega) only [go_sem, doCall, doCallQ, doCallP, Nat.reduceAdd, Nat.reduceMul, Nat.reduceSub, Nat.reduceDiv, Nat.reduceMod, Nat.reduceLT, Nat.reduceLeDiff, Nat.reduceEqDiff, Nat.reduceBEq, Nat.reduceBNe, Int.reduceToNat, Int.reduceLT, Int.reduceLE, Int.reduceEq, Int.reduceNe, Int.reduceAdd, Int.reduceSub, Int.reduceMul, Int.reduceNeg, u13_0, lb13_0, hlt, hi', hw, hg, hlm, h1, Int.natCast_nonneg, Int.toNat_natCast, Option.getD_some, Option.getD_none, List.drop_zero, Nat.sub_zero, Nat.zero_le, true_and, and_true, Nat.le_refl, chk_of]
termination_by l.length - i
theorem t_mright (l : List PartD) (n : Int) (hlen : l.length ≤ 1000000000) : call ir 13 [vL l, dI n] [] = some (dT (decide (RtP l n)), []) := by
  rw [call_eq (fn := ir13) rfl, evF_bnd]
  have hlm : (l.map partRow).length = l.length := List.length_map ..
  by_cases h1 : l.length = 0
  · have h1' := eq_true (show (l.length : Int) = 0 by omega)
    rw [decide_eq_false (fun h : RtP l n => by have := h.1; omega)]
    simp (maxSteps := 2000000) (disch := omega) only [go_sem, doCall, doCallQ, doCallP, Nat.reduceAdd, Nat.reduceMul, Nat.reduceSub, Nat.reduceDiv, Nat.reduceMod, Nat.reduceLT, Nat.reduceLeDiff, Nat.reduceEqDiff, Nat.reduceBEq, Nat.reduceBNe, Int.reduceToNat, Int.reduceLT, Int.reduceLE, Int.reduceEq, Int.reduceNe, Int.reduceAdd, Int.reduceSub, Int.reduceMul, Int.reduceNeg, bd13, hlm, h1', chk_of]
  · have h1' := eq_false (show ¬ (l.length : Int) = 0 by omega)
    by_cases h2 : l.length ≤ 16
    · have h2' := eq_false (show ¬ (16 : Int) < l.length by omega)
      simp (maxSteps := 2000000) (disch := omega) only [go_sem, doCall, doCallQ, doCallP, Nat.reduceAdd, Nat.reduceMul, Nat.reduceSub, Nat.reduceDiv, Nat.reduceMod, Nat.reduceLT, Nat.reduceLeDiff, Nat.reduceEqDiff, Nat.reduceBEq, Nat.reduceBNe, Int.reduceToNat, Int.reduceLT, Int.reduceLE, Int.reduceEq, Int.reduceNe, Int.reduceAdd, Int.reduceSub, Int.reduceMul, Int.reduceNeg, bd13, hlm, h1', h2', chk_of]
      rw [loop_step1]; simp (maxSteps := 2000000) only [go_sem, doCall, doCallQ, doCallP, Nat.reduceAdd, Nat.reduceMul, Nat.reduceSub, Nat.reduceDiv, Nat.reduceMod, Nat.reduceLT, Nat.reduceLeDiff, Nat.reduceEqDiff, Nat.reduceBEq, Nat.reduceBNe, Int.reduceToNat, Int.reduceLT, Int.reduceLE, Int.reduceEq, Int.reduceNe, Int.reduceAdd, Int.reduceSub, Int.reduceMul, Int.reduceNeg]
      refine (lp_mright l n h2 _ 0 (Nat.zero_le _)).trans ?_
      rw [List.drop_zero]
      by_cases h3 : allP n l = true
      · rw [if_pos h3]
        by_cases h4 : n ≤ 4611686018427387903
        · rw [decide_eq_true (show RtP l n from ⟨by omega, h4, h3⟩)]
          simp (maxSteps := 2000000) (disch := omega) only [go_sem, doCall, doCallQ, doCallP, Nat.reduceAdd, Nat.reduceMul, Nat.reduceSub, Nat.reduceDiv, Nat.reduceMod, Nat.reduceLT, Nat.reduceLeDiff, Nat.reduceEqDiff, Nat.reduceBEq, Nat.reduceBNe, Int.reduceToNat, Int.reduceLT, Int.reduceLE, Int.reduceEq, Int.reduceNe, Int.reduceAdd, Int.reduceSub, Int.reduceMul, Int.reduceNeg, eq_true h4]
        · rw [decide_eq_false (fun h : RtP l n => h4 h.2.1)]
          simp (maxSteps := 2000000) (disch := omega) only [go_sem, doCall, doCallQ, doCallP, Nat.reduceAdd, Nat.reduceMul, Nat.reduceSub, Nat.reduceDiv, Nat.reduceMod, Nat.reduceLT, Nat.reduceLeDiff, Nat.reduceEqDiff, Nat.reduceBEq, Nat.reduceBNe, Int.reduceToNat, Int.reduceLT, Int.reduceLE, Int.reduceEq, Int.reduceNe, Int.reduceAdd, Int.reduceSub, Int.reduceMul, Int.reduceNeg, eq_false h4]
      · rw [if_neg h3, decide_eq_false (fun h : RtP l n => h3 h.2.2)]
        simp (maxSteps := 2000000) (disch := omega) only [go_sem, doCall, doCallQ, doCallP, Nat.reduceAdd, Nat.reduceMul, Nat.reduceSub, Nat.reduceDiv, Nat.reduceMod, Nat.reduceLT, Nat.reduceLeDiff, Nat.reduceEqDiff, Nat.reduceBEq, Nat.reduceBNe, Int.reduceToNat, Int.reduceLT, Int.reduceLE, Int.reduceEq, Int.reduceNe, Int.reduceAdd, Int.reduceSub, Int.reduceMul, Int.reduceNeg]
    · have h2' := eq_true (show (16 : Int) < l.length by omega)
      rw [decide_eq_false (fun h : RtP l n => by have := h.1; omega)]
      simp (maxSteps := 2000000) (disch := omega) only [go_sem, doCall, doCallQ, doCallP, Nat.reduceAdd, Nat.reduceMul, Nat.reduceSub, Nat.reduceDiv, Nat.reduceMod, Nat.reduceLT, Nat.reduceLeDiff, Nat.reduceEqDiff, Nat.reduceBEq, Nat.reduceBNe, Int.reduceToNat, Int.reduceLT, Int.reduceLE, Int.reduceEq, Int.reduceNe, Int.reduceAdd, Int.reduceSub, Int.reduceMul, Int.reduceNeg, bd13, hlm, h1', h2', chk_of]
theorem lp_mrparts (l : List PartD) (n : Int) (hl : l.length ≤ 1000000000) (k : Ex → St → Option (AV × Heap)) (i : Nat) (hi : i ≤ l.length) :
    (bnd (evC (call ir) (loop ir) lp14_0 (st14_0 0 (vL l) (dI n) (vL l) (dI l.length) (dI i) [])) (lpC (call ir) (loop ir) [0, 1, 7, 8, 9] lp14_0 k)) = (if allP n (l.drop i) then k (.exit 0) (clean [0, 1] (st14_0 0 (vL l) (dI n) .unk .unk .unk []))
      else k .ret (clean [4] ⟨0, [.unk, .unk, .unk, .unk, dT false, .unk, .unk, .unk, .unk, .unk, .unk, .unk, .unk, .unk, .unk, .unk, .unk, .unk, .unk, .unk, .unk, .unk, .unk, .unk, .unk, .unk, .unk, .unk, .unk, .unk, .unk, .unk, .unk, .unk, .unk, .unk, .unk, .unk, .unk, .unk, .unk, .unk, .unk, .unk, .unk, .unk, .unk, .unk, .unk, .unk], []⟩)) := by
  by_cases h : i = l.length
  · have hx : ¬ (i : Int) < l.length := by omega
    rw [h] at hx
    rw [h, List.drop_length]
    simp only [allP, if_true]
    simp (maxSteps := 2000000) (disch := omega) only [go_sem, doCall, doCallQ, doCallP, Nat.reduceAdd, Nat.reduceMul, Nat.reduceSub, Nat.reduceDiv, Nat.reduceMod, Nat.reduceLT, Nat.reduceLeDiff, Nat.reduceEqDiff, Nat.reduceBEq, Nat.reduceBNe, Int.reduceToNat, Int.reduceLT, Int.reduceLE, Int.reduceEq, Int.reduceNe, Int.reduceAdd, Int.reduceSub, Int.reduceMul, Int.reduceNeg, u14_0, lb14_0, hx]
  · have hlt : (i : Int) < l.length := by omega
    have hi' : i < l.length := by omega
    have hw := wr_succ (i := i) (by omega)
    have hg := getP l hi'
    have hlm : (l.map partRow).length = l.length := List.length_map ..
    have h1 := t_rright l[i].1 l[i].2.1
    rw [allP_drop n hi']
    by_cases hr : RP l[i].1 l[i].2.1
    · rw [decide_eq_true hr] at h1
      have hr' := hr
      unfold RP at hr'
      have hw2 : wr .i64 (l[i].2.1 - l[i].1) = l[i].2.1 - l[i].1 := wr_id (by omega)
      by_cases ht : n < l[i].2.1
      · rw [if_neg (fun h : pOk n l[i] => by have := h.2.1; omega)]
        simp (maxSteps := 2000000) (disch := omega) only [go_sem, doCall, doCallQ, doCallP, Nat.reduceAdd, Nat.reduceMul, Nat.reduceSub, Nat.reduceDiv, Nat.reduceMod, Nat.reduceLT, Nat.reduceLeDiff, Nat.reduceEqDiff, Nat.reduceBEq, Nat.reduceBNe, Int.reduceToNat, Int.reduceLT, Int.reduceLE, Int.reduceEq, Int.reduceNe, Int.reduceAdd, Int.reduceSub, Int.reduceMul, Int.reduceNeg, u14_0, lb14_0, hlt, hi', hw, hg, hlm, h1, hw2, eq_true ht, rB_len, Int.natCast_nonneg, Int.toNat_natCast, Option.getD_some, Option.getD_none, List.drop_zero, Nat.sub_zero, Nat.zero_le, true_and, and_true, Nat.le_refl, chk_of]
      · by_cases he : l[i].2.1 - l[i].1 = (l[i].2.2.length : Int)
        · rw [if_pos (show pOk n l[i] from ⟨hr, by omega, he.symm⟩)]
          have ih := lp_mrparts l n hl k (i + 1) (by omega)
          simp (maxSteps := 2000000) (disch := omega) only [go_sem, doCall, doCallQ, doCallP, Nat.reduceAdd, Nat.reduceMul, Nat.reduceSub, Nat.reduceDiv, Nat.reduceMod, Nat.reduceLT, Nat.reduceLeDiff, Nat.reduceEqDiff, Nat.reduceBEq, Nat.reduceBNe, Int.reduceToNat, Int.reduceLT, Int.reduceLE, Int.reduceEq, Int.reduceNe, Int.reduceAdd, Int.reduceSub, Int.reduceMul, Int.reduceNeg, u14_0, lb14_0, hlt, hi', hw, hg, hlm, h1, hw2, eq_false ht, rB_len, eq_true he, Int.natCast_nonneg, Int.toNat_natCast, Option.getD_some, Option.getD_none, List.drop_zero, Nat.sub_zero, Nat.zero_le, true_and, and_true, Nat.le_refl, chk_of]
          rw [loop_step1]; simp (maxSteps := 2000000) only [go_sem, doCall, doCallQ, doCallP, Nat.reduceAdd, Nat.reduceMul, Nat.reduceSub, Nat.reduceDiv, Nat.reduceMod, Nat.reduceLT, Nat.reduceLeDiff, Nat.reduceEqDiff, Nat.reduceBEq, Nat.reduceBNe, Int.reduceToNat, Int.reduceLT, Int.reduceLE, Int.reduceEq, Int.reduceNe, Int.reduceAdd, Int.reduceSub, Int.reduceMul, Int.reduceNeg]; exact ih
        · rw [if_neg (fun h : pOk n l[i] => he h.2.2.symm)]
          simp (maxSteps := 2000000) (disch := omega) only [go_sem, doCall, doCallQ, doCallP, Nat.reduceAdd, Nat.reduceMul, Nat.reduceSub, Nat.reduceDiv, Nat.reduceMod, Nat.reduceLT, Nat.reduceLeDiff, Nat.reduceEqDiff, Nat.reduceBEq, Nat.reduceBNe, Int.reduceToNat, Int.reduceLT, Int.reduceLE, Int.reduceEq, Int.reduceNe, Int.reduceAdd, Int.reduceSub, Int.reduceMul, Int.reduceNeg, u14_0, lb14_0, hlt, hi', hw, hg, hlm, h1, hw2, eq_false ht, rB_len, eq_false he, Int.natCast_nonneg, Int.toNat_natCast, Option.getD_some, Option.getD_none, List.drop_zero, Nat.sub_zero, Nat.zero_le, true_and, and_true, Nat.le_refl, chk_of]
    · rw [decide_eq_false hr] at h1
      rw [if_neg (fun h : pOk n l[i] => hr h.1)]
      simp (maxSteps := 2000000) (disch := omega) only [go_sem, doCall, doCallQ, doCallP, Nat.reduceAdd, Nat.reduceMul, Nat.reduceSub, Nat.reduceDiv, Nat.reduceMod, Nat.reduceLT, Nat.reduceLeDiff, Nat.reduceEqDiff, Nat.reduceBEq, Nat.reduceBNe, Int.reduceToNat, Int.reduceLT, Int.reduceLE, Int.reduceEq, Int.reduceNe, Int.reduceAdd, Int.reduceSub, Int.reduceMul, Int.reduceNeg, u14_0, lb14_0, hlt, hi', hw, hg, hlm, h1, Int.natCast_nonneg, Int.toNat_natCast, Option.getD_some, Option.getD_none, List.drop_zero, Nat.sub_zero, Nat.zero_le, true_and, and_true, Nat.le_refl, chk_of]
termination_by l.length - i
theorem t_mrparts (l : List PartD) (n : Int) (hlen : l.length ≤ 1000000000) : call ir 14 [vL l, dI n] [] = some (dT (decide (RtP l n)), []) := by
  rw [call_eq (fn := ir14) rfl, evF_bnd]
  have hlm : (l.map partRow).length = l.length := List.length_map ..
  simp (maxSteps := 2000000) (disch := omega) only [go_sem, doCall, doCallQ, doCallP, Nat.reduceAdd, Nat.reduceMul, Nat.reduceSub, Nat.reduceDiv, Nat.reduceMod, Nat.reduceLT, Nat.reduceLeDiff, Nat.reduceEqDiff, Nat.reduceBEq, Nat.reduceBNe, Int.reduceToNat, Int.reduceLT, Int.reduceLE, Int.reduceEq, Int.reduceNe, Int.reduceAdd, Int.reduceSub, Int.reduceMul, Int.reduceNeg, bd14, hlm, chk_of]
  rw [loop_step1]; simp (maxSteps := 2000000) only [go_sem, doCall, doCallQ, doCallP, Nat.reduceAdd, Nat.reduceMul, Nat.reduceSub, Nat.reduceDiv, Nat.reduceMod, Nat.reduceLT, Nat.reduceLeDiff, Nat.reduceEqDiff, Nat.reduceBEq, Nat.reduceBNe, Int.reduceToNat, Int.reduceLT, Int.reduceLE, Int.reduceEq, Int.reduceNe, Int.reduceAdd, Int.reduceSub, Int.reduceMul, Int.reduceNeg]
  refine (lp_mrparts l n hlen _ 0 (Nat.zero_le _)).trans ?_
  rw [List.drop_zero]
  by_cases h3 : allP n l = true
  · rw [if_pos h3]
    by_cases h1 : 1 ≤ l.length
    · have h1' := eq_true (show (1 : Int) ≤ l.length by omega)
      by_cases h2 : l.length ≤ 16
      · have h2' := eq_true (show (l.length : Int) ≤ 16 by omega)
        by_cases h4 : n ≤ 4611686018427387903
        · rw [decide_eq_true (show RtP l n from ⟨⟨h1, h2⟩, h4, h3⟩)]
          simp (maxSteps := 2000000) (disch := omega) only [go_sem, doCall, doCallQ, doCallP, Nat.reduceAdd, Nat.reduceMul, Nat.reduceSub, Nat.reduceDiv, Nat.reduceMod, Nat.reduceLT, Nat.reduceLeDiff, Nat.reduceEqDiff, Nat.reduceBEq, Nat.reduceBNe, Int.reduceToNat, Int.reduceLT, Int.reduceLE, Int.reduceEq, Int.reduceNe, Int.reduceAdd, Int.reduceSub, Int.reduceMul, Int.reduceNeg, hlm, h1', h2', eq_true h4, chk_of]
        · rw [decide_eq_false (fun h : RtP l n => h4 h.2.1)]
          simp (maxSteps := 2000000) (disch := omega) only [go_sem, doCall, doCallQ, doCallP, Nat.reduceAdd, Nat.reduceMul, Nat.reduceSub, Nat.reduceDiv, Nat.reduceMod, Nat.reduceLT, Nat.reduceLeDiff, Nat.reduceEqDiff, Nat.reduceBEq, Nat.reduceBNe, Int.reduceToNat, Int.reduceLT, Int.reduceLE, Int.reduceEq, Int.reduceNe, Int.reduceAdd, Int.reduceSub, Int.reduceMul, Int.reduceNeg, hlm, h1', h2', eq_false h4, chk_of]
      · have h2' := eq_false (show ¬ (l.length : Int) ≤ 16 by omega)
        rw [decide_eq_false (fun h : RtP l n => h2 h.1.2)]
        simp (maxSteps := 2000000) (disch := omega) only [go_sem, doCall, doCallQ, doCallP, Nat.reduceAdd, Nat.reduceMul, Nat.reduceSub, Nat.reduceDiv, Nat.reduceMod, Nat.reduceLT, Nat.reduceLeDiff, Nat.reduceEqDiff, Nat.reduceBEq, Nat.reduceBNe, Int.reduceToNat, Int.reduceLT, Int.reduceLE, Int.reduceEq, Int.reduceNe, Int.reduceAdd, Int.reduceSub, Int.reduceMul, Int.reduceNeg, hlm, h1', h2', chk_of]
    · have h1' := eq_false (show ¬ (1 : Int) ≤ l.length by omega)
      rw [decide_eq_false (fun h : RtP l n => h1 h.1.1)]
      simp (maxSteps := 2000000) (disch := omega) only [go_sem, doCall, doCallQ, doCallP, Nat.reduceAdd, Nat.reduceMul, Nat.reduceSub, Nat.reduceDiv, Nat.reduceMod, Nat.reduceLT, Nat.reduceLeDiff, Nat.reduceEqDiff, Nat.reduceBEq, Nat.reduceBNe, Int.reduceToNat, Int.reduceLT, Int.reduceLE, Int.reduceEq, Int.reduceNe, Int.reduceAdd, Int.reduceSub, Int.reduceMul, Int.reduceNeg, hlm, h1', chk_of]
  · rw [if_neg h3, decide_eq_false (fun h : RtP l n => h3 h.2.2)]
    simp (maxSteps := 2000000) (disch := omega) only [go_sem, doCall, doCallQ, doCallP, Nat.reduceAdd, Nat.reduceMul, Nat.reduceSub, Nat.reduceDiv, Nat.reduceMod, Nat.reduceLT, Nat.reduceLeDiff, Nat.reduceEqDiff, Nat.reduceBEq, Nat.reduceBNe, Int.reduceToNat, Int.reduceLT, Int.reduceLE, Int.reduceEq, Int.reduceNe, Int.reduceAdd, Int.reduceSub, Int.reduceMul, Int.reduceNeg]
theorem lp_rbytes (b : List UInt8) (hb : b.length ≤ 1000000000) (j : Nat) (hj : j ≤ b.length) :
    bnd (evC (call ir) (loop ir) lp15_0 (st15_0 0 (.d (.list 1 (rB b))) (.d (.list 1 (rB b))) (.d (.int .i64 b.length)) (.d (.int .i64 j)) []))
      (lpC (call ir) (loop ir) [0, 1, 12, 13] lp15_0 (bk 0 (sq (call ir) (loop ir) (.seq (.reg [⟨some 4, none, .mv (.c (.d (.bool true))), .none⟩]) (.ret none)) (fin ir15)))) =
    some (.d (.bool true), []) := by
  by_cases h : j = b.length
  · have hx := eq_false (show ¬ (b.length : Int) < b.length by omega)
    subst h
    simp (maxSteps := 2000000) (disch := omega) only [go_sem, doCall, doCallQ, doCallP, Nat.reduceAdd, Nat.reduceMul, Nat.reduceSub, Nat.reduceDiv, Nat.reduceMod, Nat.reduceLT, Nat.reduceLeDiff, Nat.reduceEqDiff, Nat.reduceBEq, Nat.reduceBNe, Int.reduceToNat, Int.reduceLT, Int.reduceLE, Int.reduceEq, Int.reduceNe, Int.reduceAdd, Int.reduceSub, Int.reduceMul, Int.reduceNeg, u15_0, lb15_0, hx]
  · have hlt := eq_true (show (j : Int) < b.length by omega)
    have hj' : j < b.length := by omega
    have hw := wr_succ (i := j) (by omega)
    have hg := rB_getD hj'
    have ih := lp_rbytes b hb (j + 1) (by omega)
    simp (maxSteps := 2000000) (disch := omega) only [go_sem, doCall, doCallQ, doCallP, Nat.reduceAdd, Nat.reduceMul, Nat.reduceSub, Nat.reduceDiv, Nat.reduceMod, Nat.reduceLT, Nat.reduceLeDiff, Nat.reduceEqDiff, Nat.reduceBEq, Nat.reduceBNe, Int.reduceToNat, Int.reduceLT, Int.reduceLE, Int.reduceEq, Int.reduceNe, Int.reduceAdd, Int.reduceSub, Int.reduceMul, Int.reduceNeg, u15_0, lb15_0, hlt, hg, rB_len, hj', Int.toNat_natCast, chk_of]
    rw [loop_step1]
    simp (maxSteps := 2000000) only [go_sem, doCall, doCallQ, doCallP, Nat.reduceAdd, Nat.reduceMul, Nat.reduceSub, Nat.reduceDiv, Nat.reduceMod, Nat.reduceLT, Nat.reduceLeDiff, Nat.reduceEqDiff, Nat.reduceBEq, Nat.reduceBNe, Int.reduceToNat, Int.reduceLT, Int.reduceLE, Int.reduceEq, Int.reduceNe, Int.reduceAdd, Int.reduceSub, Int.reduceMul, Int.reduceNeg, hw]
    try simp (maxSteps := 2000000) only [go_sem, doCall, doCallQ, doCallP, Nat.reduceAdd, Nat.reduceMul, Nat.reduceSub, Nat.reduceDiv, Nat.reduceMod, Nat.reduceLT, Nat.reduceLeDiff, Nat.reduceEqDiff, Nat.reduceBEq, Nat.reduceBNe, Int.reduceToNat, Int.reduceLT, Int.reduceLE, Int.reduceEq, Int.reduceNe, Int.reduceAdd, Int.reduceSub, Int.reduceMul, Int.reduceNeg] at ih
    exact ih
termination_by b.length - j
theorem c_rbytes (b : List UInt8) (hb : b.length ≤ 1000000000) : call ir 15 [vB b, vB b] [] = some (.d (.bool true), []) := by
  rw [call_eq (fn := ir15) rfl, evF_bnd]
  simp (maxSteps := 2000000) (disch := omega) only [go_sem, doCall, doCallQ, doCallP, Nat.reduceAdd, Nat.reduceMul, Nat.reduceSub, Nat.reduceDiv, Nat.reduceMod, Nat.reduceLT, Nat.reduceLeDiff, Nat.reduceEqDiff, Nat.reduceBEq, Nat.reduceBNe, Int.reduceToNat, Int.reduceLT, Int.reduceLE, Int.reduceEq, Int.reduceNe, Int.reduceAdd, Int.reduceSub, Int.reduceMul, Int.reduceNeg, bd15, rB_len]
  rw [loop_step1]
  simp (maxSteps := 2000000) only [go_sem, doCall, doCallQ, doCallP, Nat.reduceAdd, Nat.reduceMul, Nat.reduceSub, Nat.reduceDiv, Nat.reduceMod, Nat.reduceLT, Nat.reduceLeDiff, Nat.reduceEqDiff, Nat.reduceBEq, Nat.reduceBNe, Int.reduceToNat, Int.reduceLT, Int.reduceLE, Int.reduceEq, Int.reduceNe, Int.reduceAdd, Int.reduceSub, Int.reduceMul, Int.reduceNeg]
  have h := lp_rbytes b hb 0 (Nat.zero_le _)
  try simp (maxSteps := 2000000) only [go_sem, doCall, doCallQ, doCallP, Nat.reduceAdd, Nat.reduceMul, Nat.reduceSub, Nat.reduceDiv, Nat.reduceMod, Nat.reduceLT, Nat.reduceLeDiff, Nat.reduceEqDiff, Nat.reduceBEq, Nat.reduceBNe, Int.reduceToNat, Int.reduceLT, Int.reduceLE, Int.reduceEq, Int.reduceNe, Int.reduceAdd, Int.reduceSub, Int.reduceMul, Int.reduceNeg] at h
  exact h
end Go.Proofs.YtpibecljdooilaaDoor
