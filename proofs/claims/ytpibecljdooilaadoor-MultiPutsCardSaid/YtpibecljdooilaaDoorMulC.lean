/- Many parts: Few, Type; the table with multi.Put in it. Own work. -/
import Derived.Test.YtpibecljdooilaaDoorMulB
namespace Go.Proofs.YtpibecljdooilaaDoor
open Go Go.Ev Go.Proofs.YtpibecljdooilaaDoor.Ir
set_option maxRecDepth 100000
set_option maxHeartbeats 4000000
set_option linter.unusedSimpArgs false
set_option linter.unusedVariables false
def sumB (l : List PartD) : Nat := (l.map fun p => p.2.2.length).sum
theorem sumB_drop {l : List PartD} {i : Nat} (h : i < l.length) : sumB (l.drop i) = l[i].2.2.length + sumB (l.drop (i + 1)) := by
  unfold sumB; rw [List.drop_eq_getElem_cons h, List.map_cons, List.sum_cons]
theorem lp_few8 (l : List PartD) (hl : l.length ≤ 1000000000000000) (hb : ∀ p ∈ l, p.2.2.length ≤ 1000000000000000) (k : Ex → St → Option (AV × Heap)) (i : Nat) (hi : i ≤ l.length) (c : Nat) (hc : c ≤ 2000) :
    (bnd (evC (call ir) (loop ir) lp10_0 (st10_0 0 (vL l) (dI c) (vL l) (dI l.length) (dI i) [])) (lpC (call ir) (loop ir) [0, 3, 6, 7, 8] lp10_0 k)) = (if c + sumB (l.drop i) ≤ 2000 then k (.exit 0) (clean [0] (st10_0 0 (vL l) .unk .unk .unk .unk []))
      else k .ret (clean [2] ⟨0, [.unk, .unk, dT false, .unk, .unk, .unk, .unk, .unk, .unk, .unk, .unk, .unk, .unk, .unk, .unk, .unk, .unk, .unk, .unk, .unk, .unk, .unk, .unk], []⟩)) := by
  by_cases h : i = l.length
  · have hx : ¬ (i : Int) < l.length := by omega
    rw [h] at hx
    rw [h, List.drop_length, if_pos (show c + sumB [] ≤ 2000 by simp [sumB]; exact hc)]
    simp (maxSteps := 2000000) (disch := omega) only [go_sem, doCall, doCallQ, Nat.reduceAdd, Nat.reduceMul, Nat.reduceSub, Nat.reduceDiv, Nat.reduceMod, Nat.reduceLT, Nat.reduceLeDiff, Nat.reduceEqDiff, Nat.reduceBEq, Nat.reduceBNe, Int.reduceToNat, Int.reduceLT, Int.reduceLE, Int.reduceEq, Int.reduceNe, Int.reduceAdd, Int.reduceSub, Int.reduceMul, Int.reduceNeg, u10_0, lb10_0, hx]
  · have hlt : (i : Int) < l.length := by omega
    have hi' : i < l.length := by omega
    have hw := wr_succ (i := i) (by omega)
    have hg := getP l hi'
    have hlm : (l.map partRow).length = l.length := List.length_map ..
    have hbi := hb _ (List.getElem_mem hi')
    have hw2 : wr .i64 ((c : Int) + (l[i].2.2.length : Int)) = ((c + l[i].2.2.length : Nat) : Int) := by rw [wr_id (by omega)]; omega
    rw [sumB_drop hi']
    by_cases h2 : c + l[i].2.2.length ≤ 2000
    · have h2' := eq_false (show ¬ (2000 : Int) < ((c + l[i].2.2.length : Nat) : Int) by omega)
      have ih := lp_few8 l hl hb k (i + 1) (by omega) (c + l[i].2.2.length) h2
      rw [Nat.add_assoc] at ih
      simp (maxSteps := 2000000) (disch := omega) only [go_sem, doCall, doCallQ, Nat.reduceAdd, Nat.reduceMul, Nat.reduceSub, Nat.reduceDiv, Nat.reduceMod, Nat.reduceLT, Nat.reduceLeDiff, Nat.reduceEqDiff, Nat.reduceBEq, Nat.reduceBNe, Int.reduceToNat, Int.reduceLT, Int.reduceLE, Int.reduceEq, Int.reduceNe, Int.reduceAdd, Int.reduceSub, Int.reduceMul, Int.reduceNeg, u10_0, lb10_0, hlt, hi', hw, hg, hlm, hw2, h2', rB_len, Int.natCast_nonneg, Int.toNat_natCast, Option.getD_some, Option.getD_none, List.drop_zero, Nat.sub_zero, Nat.zero_le, true_and, and_true, Nat.le_refl, chk_of]
      rw [loop_step1]; simp (maxSteps := 2000000) only [go_sem, doCall, doCallQ, Nat.reduceAdd, Nat.reduceMul, Nat.reduceSub, Nat.reduceDiv, Nat.reduceMod, Nat.reduceLT, Nat.reduceLeDiff, Nat.reduceEqDiff, Nat.reduceBEq, Nat.reduceBNe, Int.reduceToNat, Int.reduceLT, Int.reduceLE, Int.reduceEq, Int.reduceNe, Int.reduceAdd, Int.reduceSub, Int.reduceMul, Int.reduceNeg]; exact ih
    · have h2' := eq_true (show (2000 : Int) < ((c + l[i].2.2.length : Nat) : Int) by omega)
      rw [if_neg (by omega)]
      simp (maxSteps := 2000000) (disch := omega) only [go_sem, doCall, doCallQ, Nat.reduceAdd, Nat.reduceMul, Nat.reduceSub, Nat.reduceDiv, Nat.reduceMod, Nat.reduceLT, Nat.reduceLeDiff, Nat.reduceEqDiff, Nat.reduceBEq, Nat.reduceBNe, Int.reduceToNat, Int.reduceLT, Int.reduceLE, Int.reduceEq, Int.reduceNe, Int.reduceAdd, Int.reduceSub, Int.reduceMul, Int.reduceNeg, u10_0, lb10_0, hlt, hi', hw, hg, hlm, hw2, h2', rB_len, Int.natCast_nonneg, Int.toNat_natCast, Option.getD_some, Option.getD_none, List.drop_zero, Nat.sub_zero, Nat.zero_le, true_and, and_true, Nat.le_refl, chk_of]
termination_by l.length - i
theorem t_few8 (l : List PartD) (hl : l.length ≤ 1000000000000000) (hb : ∀ p ∈ l, p.2.2.length ≤ 1000000000000000) : call ir 10 [vL l] [] = some (dT (decide (sumB l ≤ 2000 ∧ l.length ≤ 20)), []) := by
  rw [call_eq (fn := ir10) rfl, evF_bnd]
  have hlm : (l.map partRow).length = l.length := List.length_map ..
  simp (maxSteps := 2000000) (disch := omega) only [go_sem, doCall, doCallQ, Nat.reduceAdd, Nat.reduceMul, Nat.reduceSub, Nat.reduceDiv, Nat.reduceMod, Nat.reduceLT, Nat.reduceLeDiff, Nat.reduceEqDiff, Nat.reduceBEq, Nat.reduceBNe, Int.reduceToNat, Int.reduceLT, Int.reduceLE, Int.reduceEq, Int.reduceNe, Int.reduceAdd, Int.reduceSub, Int.reduceMul, Int.reduceNeg, bd10, hlm, chk_of]
  rw [loop_step1]; simp (maxSteps := 2000000) only [go_sem, doCall, doCallQ, Nat.reduceAdd, Nat.reduceMul, Nat.reduceSub, Nat.reduceDiv, Nat.reduceMod, Nat.reduceLT, Nat.reduceLeDiff, Nat.reduceEqDiff, Nat.reduceBEq, Nat.reduceBNe, Int.reduceToNat, Int.reduceLT, Int.reduceLE, Int.reduceEq, Int.reduceNe, Int.reduceAdd, Int.reduceSub, Int.reduceMul, Int.reduceNeg]
  refine (lp_few8 l hl hb _ 0 (Nat.zero_le _) 0 (by omega)).trans ?_
  rw [List.drop_zero, Nat.zero_add]
  by_cases h1 : sumB l ≤ 2000
  · rw [if_pos h1]
    by_cases h2 : l.length ≤ 20
    · have h2' := eq_true (show (l.length : Int) ≤ 20 by omega)
      rw [decide_eq_true (show sumB l ≤ 2000 ∧ l.length ≤ 20 from ⟨h1, h2⟩)]
      simp (maxSteps := 2000000) (disch := omega) only [go_sem, doCall, doCallQ, Nat.reduceAdd, Nat.reduceMul, Nat.reduceSub, Nat.reduceDiv, Nat.reduceMod, Nat.reduceLT, Nat.reduceLeDiff, Nat.reduceEqDiff, Nat.reduceBEq, Nat.reduceBNe, Int.reduceToNat, Int.reduceLT, Int.reduceLE, Int.reduceEq, Int.reduceNe, Int.reduceAdd, Int.reduceSub, Int.reduceMul, Int.reduceNeg, hlm, h2', chk_of]
    · have h2' := eq_false (show ¬ (l.length : Int) ≤ 20 by omega)
      rw [decide_eq_false (fun h : sumB l ≤ 2000 ∧ l.length ≤ 20 => h2 h.2)]
      simp (maxSteps := 2000000) (disch := omega) only [go_sem, doCall, doCallQ, Nat.reduceAdd, Nat.reduceMul, Nat.reduceSub, Nat.reduceDiv, Nat.reduceMod, Nat.reduceLT, Nat.reduceLeDiff, Nat.reduceEqDiff, Nat.reduceBEq, Nat.reduceBNe, Int.reduceToNat, Int.reduceLT, Int.reduceLE, Int.reduceEq, Int.reduceNe, Int.reduceAdd, Int.reduceSub, Int.reduceMul, Int.reduceNeg, hlm, h2', chk_of]
  · rw [if_neg h1, decide_eq_false (fun h : sumB l ≤ 2000 ∧ l.length ≤ 20 => h1 h.1)]
    simp (maxSteps := 2000000) (disch := omega) only [go_sem, doCall, doCallQ, Nat.reduceAdd, Nat.reduceMul, Nat.reduceSub, Nat.reduceDiv, Nat.reduceMod, Nat.reduceLT, Nat.reduceLeDiff, Nat.reduceEqDiff, Nat.reduceBEq, Nat.reduceBNe, Int.reduceToNat, Int.reduceLT, Int.reduceLE, Int.reduceEq, Int.reduceNe, Int.reduceAdd, Int.reduceSub, Int.reduceMul, Int.reduceNeg]
/-- A body is short. -/
theorem putB_short (l : List PartD) (n : Int) (s : List UInt8) (h1 : sumB l ≤ 2000) (h2 : l.length ≤ 20) (h3 : s.length ≤ 100) : (putB l n s).length ≤ 1000000 := by
  have h : ∀ l : List PartD, (allBy s n l).length ≤ sumB l + l.length * 300 := by
    intro l
    induction l with
    | nil => simp [allBy]
    | cons p l ih =>
      have hc := cntS_len true p.1 p.2.1 n
      have e : (allBy s n (p :: l)).length = (headS s n p).length + p.2.2.length + 2 + (allBy s n l).length := by simp [allBy, oneB]; omega
      have e2 : (headS s n p).length = 4 + s.length + 15 + (cntS true p.1 p.2.1 n).length + 4 := by simp [headS]; omega
      have e3 : sumB (p :: l) = p.2.2.length + sumB l := by simp [sumB]
      rw [e, e2, e3, List.length_cons]; omega
  have := h l
  rw [putB_len]; omega
/-- The table with multi.Put in it. -/
def ir2 : IR := ⟨Ir.ir.fn, natPut 11 putR putB⟩
theorem tab2 : Tab Tryd.prog ir2 := ⟨Ir.tab.mixed, fun f fn h => Ir.tab.fns f fn h, putSnd⟩
end Go.Proofs.YtpibecljdooilaaDoor
