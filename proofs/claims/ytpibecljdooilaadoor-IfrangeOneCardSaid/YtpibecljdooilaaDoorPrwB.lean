/- Texts: small letters, pieces: what the functions do. Own work. -/
import Derived.Test.YtpibecljdooilaaDoorPrwA
namespace Go.Proofs.YtpibecljdooilaaDoor
open Go Go.Ev Go.Proofs.YtpibecljdooilaaDoor.Ir Go.Prs
set_option maxRecDepth 100000
set_option maxHeartbeats 4000000
set_option linter.unusedSimpArgs false
set_option linter.unusedVariables false
theorem b2s_1 (H : Heap) (b : UInt8) : b2sA (.arr 1 [[D.int .u8 b.toNat]] :: H) (.own 0 1 0 1 true) = some (.d (.str [b])) := b2s_own0 H [b] true
theorem b2s_l (H : Heap) (b : UInt8) : b2sA H (.d (.list 1 [[D.int .u8 b.toNat]])) = some (.d (.str [b])) := b2s_list H [b]
theorem low_w {b : UInt8} (h : 65 ≤ b.toNat ∧ b.toNat ≤ 90) : wr .u8 ((b.toNat : Int) + 32) = ((low b).toNat : Int) := by
  rw [low_up h, wr_u8 (by omega)]; omega
theorem low_w2 {b : UInt8} (h : 65 ≤ b.toNat ∧ b.toNat ≤ 90) : wr .u8 (wr .u8 ((b.toNat : Int) - 65) + 97) = ((low b).toNat : Int) := by
  rw [low_up h, wr_u8 (n := (b.toNat : Int) - 65) (by omega), wr_u8 (by omega)]; omega
theorem low_step {s : List UInt8} {i : Nat} (hi : i < s.length) : (s.take i).map low ++ [low s[i]] = (s.take (i + 1)).map low := by
  rw [List.take_succ_eq_append_getElem hi, List.map_append]; rfl
theorem lp_rlow (s : List UInt8) (hs : s.length ≤ 1000000000) (k : Ex → St → Option (AV × Heap)) (i : Nat) (hi : i ≤ s.length) :
    (bnd (evC (call ir) (loop ir) lp61_0 (st61_0 0 (dS s) (dS ((s.take i).map low)) (dI i) [])) (lpC (call ir) (loop ir) [0, 3, 4] lp61_0 k)) = k (.exit 0) (clean [3] (st61_0 0 .unk (dS (s.map low)) .unk [])) := by
  by_cases h : i = s.length
  · have hx : ¬ (i : Int) < s.length := by omega
    rw [h, List.take_length]
    rw [h] at hx
    simp (maxSteps := 2000000) (disch := omega) only [go_sem, doCall, doCallQ, Nat.reduceAdd, Nat.reduceMul, Nat.reduceSub, Nat.reduceDiv, Nat.reduceMod, Nat.reduceLT, Nat.reduceLeDiff, Nat.reduceEqDiff, Nat.reduceBEq, Nat.reduceBNe, Int.reduceToNat, Int.reduceLT, Int.reduceLE, Int.reduceEq, Int.reduceNe, Int.reduceAdd, Int.reduceSub, Int.reduceMul, Int.reduceNeg, u61_0, lb61_0, hx]
  · have hlt : (i : Int) < s.length := by omega
    have hi' : i < s.length := by omega
    have hw := wr_succ (i := i) (by omega)
    have hg := g8 hi'
    have ih := lp_rlow s hs k (i + 1) (by omega)
    rw [← low_step hi'] at ih
    have hl : ((s.take i).map low).length = i := by rw [List.length_map, List.length_take]; omega
    by_cases hu : 65 ≤ s[i].toNat ∧ s[i].toNat ≤ 90
    · have u1 : (65 : Int) ≤ s[i].toNat := by omega
      have u2 : (s[i].toNat : Int) ≤ 90 := by omega
      have hlw := low_w hu
      simp (maxSteps := 2000000) (disch := omega) only [go_sem, doCall, doCallQ, Nat.reduceAdd, Nat.reduceMul, Nat.reduceSub, Nat.reduceDiv, Nat.reduceMod, Nat.reduceLT, Nat.reduceLeDiff, Nat.reduceEqDiff, Nat.reduceBEq, Nat.reduceBNe, Int.reduceToNat, Int.reduceLT, Int.reduceLE, Int.reduceEq, Int.reduceNe, Int.reduceAdd, Int.reduceSub, Int.reduceMul, Int.reduceNeg, u61_0, lb61_0, hlt, hi', hw, hg, u1, u2, hlw, b2s_1, hl, List.length_cons, List.length_nil, Int.natCast_nonneg, Int.toNat_natCast, Option.getD_some, Option.getD_none, List.drop_zero, Nat.sub_zero, Nat.zero_le, true_and, and_true, Nat.le_refl, chk_of]
      rw [loop_step1]
      simp (maxSteps := 2000000) only [go_sem, doCall, doCallQ, Nat.reduceAdd, Nat.reduceMul, Nat.reduceSub, Nat.reduceDiv, Nat.reduceMod, Nat.reduceLT, Nat.reduceLeDiff, Nat.reduceEqDiff, Nat.reduceBEq, Nat.reduceBNe, Int.reduceToNat, Int.reduceLT, Int.reduceLE, Int.reduceEq, Int.reduceNe, Int.reduceAdd, Int.reduceSub, Int.reduceMul, Int.reduceNeg]
      exact ih
    · rw [low_id hu] at ih
      by_cases u1 : (65 : Int) ≤ s[i].toNat
      · have u2 : ¬ (s[i].toNat : Int) ≤ 90 := by omega
        simp (maxSteps := 2000000) (disch := omega) only [go_sem, doCall, doCallQ, Nat.reduceAdd, Nat.reduceMul, Nat.reduceSub, Nat.reduceDiv, Nat.reduceMod, Nat.reduceLT, Nat.reduceLeDiff, Nat.reduceEqDiff, Nat.reduceBEq, Nat.reduceBNe, Int.reduceToNat, Int.reduceLT, Int.reduceLE, Int.reduceEq, Int.reduceNe, Int.reduceAdd, Int.reduceSub, Int.reduceMul, Int.reduceNeg, u61_0, lb61_0, hlt, hi', hw, hg, u1, u2, b2s_1, hl, List.length_cons, List.length_nil, Int.natCast_nonneg, Int.toNat_natCast, Option.getD_some, Option.getD_none, List.drop_zero, Nat.sub_zero, Nat.zero_le, true_and, and_true, Nat.le_refl, chk_of]
        rw [loop_step1]
        simp (maxSteps := 2000000) only [go_sem, doCall, doCallQ, Nat.reduceAdd, Nat.reduceMul, Nat.reduceSub, Nat.reduceDiv, Nat.reduceMod, Nat.reduceLT, Nat.reduceLeDiff, Nat.reduceEqDiff, Nat.reduceBEq, Nat.reduceBNe, Int.reduceToNat, Int.reduceLT, Int.reduceLE, Int.reduceEq, Int.reduceNe, Int.reduceAdd, Int.reduceSub, Int.reduceMul, Int.reduceNeg]
        exact ih
      · simp (maxSteps := 2000000) (disch := omega) only [go_sem, doCall, doCallQ, Nat.reduceAdd, Nat.reduceMul, Nat.reduceSub, Nat.reduceDiv, Nat.reduceMod, Nat.reduceLT, Nat.reduceLeDiff, Nat.reduceEqDiff, Nat.reduceBEq, Nat.reduceBNe, Int.reduceToNat, Int.reduceLT, Int.reduceLE, Int.reduceEq, Int.reduceNe, Int.reduceAdd, Int.reduceSub, Int.reduceMul, Int.reduceNeg, u61_0, lb61_0, hlt, hi', hw, hg, u1, b2s_1, hl, List.length_cons, List.length_nil, Int.natCast_nonneg, Int.toNat_natCast, Option.getD_some, Option.getD_none, List.drop_zero, Nat.sub_zero, Nat.zero_le, true_and, and_true, Nat.le_refl, chk_of]
        rw [loop_step1]
        simp (maxSteps := 2000000) only [go_sem, doCall, doCallQ, Nat.reduceAdd, Nat.reduceMul, Nat.reduceSub, Nat.reduceDiv, Nat.reduceMod, Nat.reduceLT, Nat.reduceLeDiff, Nat.reduceEqDiff, Nat.reduceBEq, Nat.reduceBNe, Int.reduceToNat, Int.reduceLT, Int.reduceLE, Int.reduceEq, Int.reduceNe, Int.reduceAdd, Int.reduceSub, Int.reduceMul, Int.reduceNeg]
        exact ih
termination_by s.length - i
theorem t_rlower (s : List UInt8) (hs : s.length ≤ 1000000000) : call ir 61 [dS s] [] = some (dS (s.map low), []) := by
  rw [call_eq (fn := ir61) rfl, evF_bnd]
  simp (maxSteps := 2000000) only [go_sem, doCall, doCallQ, Nat.reduceAdd, Nat.reduceMul, Nat.reduceSub, Nat.reduceDiv, Nat.reduceMod, Nat.reduceLT, Nat.reduceLeDiff, Nat.reduceEqDiff, Nat.reduceBEq, Nat.reduceBNe, Int.reduceToNat, Int.reduceLT, Int.reduceLE, Int.reduceEq, Int.reduceNe, Int.reduceAdd, Int.reduceSub, Int.reduceMul, Int.reduceNeg, bd61]
  rw [loop_step1]
  simp (maxSteps := 2000000) only [go_sem, doCall, doCallQ, Nat.reduceAdd, Nat.reduceMul, Nat.reduceSub, Nat.reduceDiv, Nat.reduceMod, Nat.reduceLT, Nat.reduceLeDiff, Nat.reduceEqDiff, Nat.reduceBEq, Nat.reduceBNe, Int.reduceToNat, Int.reduceLT, Int.reduceLE, Int.reduceEq, Int.reduceNe, Int.reduceAdd, Int.reduceSub, Int.reduceMul, Int.reduceNeg]
  refine Eq.trans (lp_rlow s hs _ 0 (by omega)) ?_
  simp (maxSteps := 2000000) only [go_sem, doCall, doCallQ, Nat.reduceAdd, Nat.reduceMul, Nat.reduceSub, Nat.reduceDiv, Nat.reduceMod, Nat.reduceLT, Nat.reduceLeDiff, Nat.reduceEqDiff, Nat.reduceBEq, Nat.reduceBNe, Int.reduceToNat, Int.reduceLT, Int.reduceLE, Int.reduceEq, Int.reduceNe, Int.reduceAdd, Int.reduceSub, Int.reduceMul, Int.reduceNeg]
theorem lp_low (s : List UInt8) (hs : s.length ≤ 1000000000) (k : Ex → St → Option (AV × Heap)) (i : Nat) (hi : i ≤ s.length) :
    (bnd (evC (call ir) (loop ir) lp130_0 (st130_0 0 (.own 0 1 0 s.length false) (.own 0 1 0 s.length false) (dI s.length) (dI i) [.arr 1 (rB ((s.take i).map low ++ s.drop i))])) (lpC (call ir) (loop ir) [3, 8, 9, 10] lp130_0 k)) = k (.exit 0) (clean [3] (st130_0 0 (.own 0 1 0 s.length false) .unk .unk .unk [.arr 1 (rB (s.map low))])) := by
  by_cases h : i = s.length
  · have hx : ¬ (i : Int) < s.length := by omega
    rw [h] at hx
    rw [h, List.take_length, List.drop_length, List.append_nil]
    simp (maxSteps := 2000000) (disch := omega) only [go_sem, doCall, doCallQ, Nat.reduceAdd, Nat.reduceMul, Nat.reduceSub, Nat.reduceDiv, Nat.reduceMod, Nat.reduceLT, Nat.reduceLeDiff, Nat.reduceEqDiff, Nat.reduceBEq, Nat.reduceBNe, Int.reduceToNat, Int.reduceLT, Int.reduceLE, Int.reduceEq, Int.reduceNe, Int.reduceAdd, Int.reduceSub, Int.reduceMul, Int.reduceNeg, u130_0, lb130_0, hx]
  · have hlt : (i : Int) < s.length := by omega
    have hi' : i < s.length := by omega
    have hw := wr_succ (i := i) (by omega)
    have ih := lp_low s hs k (i + 1) (by omega)
    rw [← low_step hi'] at ih
    have hl : ((s.take i).map low).length = i := by rw [List.length_map, List.length_take]; omega
    have hX : ((s.take i).map low ++ s.drop i).length = s.length := by rw [List.length_append, hl, List.length_drop]; omega
    have hgX : ((s.take i).map low ++ s.drop i).getD i 0 = s[i] := by
      rw [List.getD_eq_getElem?_getD, List.getElem?_append_right (by omega), hl, Nat.sub_self, List.getElem?_drop, Nat.add_zero, List.getElem?_eq_getElem hi']; rfl
    have hrg := rB_getD (b := (s.take i).map low ++ s.drop i) (i := i) (by omega)
    rw [hgX] at hrg
    have hset : (rB ((s.take i).map low ++ s.drop i)).set i [D.int .u8 (low s[i]).toNat] = rB ((s.take i).map low ++ [low s[i]] ++ s.drop (i + 1)) := by
      unfold rB
      rw [show ([D.int .u8 (low s[i]).toNat] : List D) = (fun (c : UInt8) => [D.int .u8 c.toNat]) (low s[i]) from rfl, ← List.map_set]
      congr 1
      rw [List.set_append_right _ _ (by omega), hl, Nat.sub_self, List.drop_eq_getElem_cons hi', List.set_cons_zero]
      simp
    have hrl : (rB ((s.take i).map low ++ s.drop i)).length = s.length := by rw [rB_len, hX]
    by_cases hu : 65 ≤ s[i].toNat ∧ s[i].toNat ≤ 90
    · have u1 : (65 : Int) ≤ s[i].toNat := by omega
      have u2 : (s[i].toNat : Int) ≤ 90 := by omega
      have hlw := low_w2 hu
      simp (maxSteps := 2000000) (disch := omega) only [go_sem, doCall, doCallQ, Nat.reduceAdd, Nat.reduceMul, Nat.reduceSub, Nat.reduceDiv, Nat.reduceMod, Nat.reduceLT, Nat.reduceLeDiff, Nat.reduceEqDiff, Nat.reduceBEq, Nat.reduceBNe, Int.reduceToNat, Int.reduceLT, Int.reduceLE, Int.reduceEq, Int.reduceNe, Int.reduceAdd, Int.reduceSub, Int.reduceMul, Int.reduceNeg, u130_0, lb130_0, hlt, hi', hw, hrg, hrl, u1, u2, hlw, hset, Nat.zero_add, Int.natCast_nonneg, Int.toNat_natCast, Option.getD_some, Option.getD_none, List.drop_zero, Nat.sub_zero, Nat.zero_le, true_and, and_true, Nat.le_refl, chk_of]
      rw [loop_step1]
      simp (maxSteps := 2000000) only [go_sem, doCall, doCallQ, Nat.reduceAdd, Nat.reduceMul, Nat.reduceSub, Nat.reduceDiv, Nat.reduceMod, Nat.reduceLT, Nat.reduceLeDiff, Nat.reduceEqDiff, Nat.reduceBEq, Nat.reduceBNe, Int.reduceToNat, Int.reduceLT, Int.reduceLE, Int.reduceEq, Int.reduceNe, Int.reduceAdd, Int.reduceSub, Int.reduceMul, Int.reduceNeg]
      exact ih
    · have hsame : (s.take i).map low ++ s.drop i = (s.take i).map low ++ [s[i]] ++ s.drop (i + 1) := by rw [List.drop_eq_getElem_cons hi']; simp
      rw [low_id hu, ← hsame] at ih
      by_cases u1 : (65 : Int) ≤ s[i].toNat
      · have u2 : ¬ (s[i].toNat : Int) ≤ 90 := by omega
        simp (maxSteps := 2000000) (disch := omega) only [go_sem, doCall, doCallQ, Nat.reduceAdd, Nat.reduceMul, Nat.reduceSub, Nat.reduceDiv, Nat.reduceMod, Nat.reduceLT, Nat.reduceLeDiff, Nat.reduceEqDiff, Nat.reduceBEq, Nat.reduceBNe, Int.reduceToNat, Int.reduceLT, Int.reduceLE, Int.reduceEq, Int.reduceNe, Int.reduceAdd, Int.reduceSub, Int.reduceMul, Int.reduceNeg, u130_0, lb130_0, hlt, hi', hw, hrg, hrl, u1, u2, Nat.zero_add, Int.natCast_nonneg, Int.toNat_natCast, Option.getD_some, Option.getD_none, List.drop_zero, Nat.sub_zero, Nat.zero_le, true_and, and_true, Nat.le_refl, chk_of]
        rw [loop_step1]
        simp (maxSteps := 2000000) only [go_sem, doCall, doCallQ, Nat.reduceAdd, Nat.reduceMul, Nat.reduceSub, Nat.reduceDiv, Nat.reduceMod, Nat.reduceLT, Nat.reduceLeDiff, Nat.reduceEqDiff, Nat.reduceBEq, Nat.reduceBNe, Int.reduceToNat, Int.reduceLT, Int.reduceLE, Int.reduceEq, Int.reduceNe, Int.reduceAdd, Int.reduceSub, Int.reduceMul, Int.reduceNeg]
        exact ih
      · simp (maxSteps := 2000000) (disch := omega) only [go_sem, doCall, doCallQ, Nat.reduceAdd, Nat.reduceMul, Nat.reduceSub, Nat.reduceDiv, Nat.reduceMod, Nat.reduceLT, Nat.reduceLeDiff, Nat.reduceEqDiff, Nat.reduceBEq, Nat.reduceBNe, Int.reduceToNat, Int.reduceLT, Int.reduceLE, Int.reduceEq, Int.reduceNe, Int.reduceAdd, Int.reduceSub, Int.reduceMul, Int.reduceNeg, u130_0, lb130_0, hlt, hi', hw, hrg, hrl, u1, Nat.zero_add, Int.natCast_nonneg, Int.toNat_natCast, Option.getD_some, Option.getD_none, List.drop_zero, Nat.sub_zero, Nat.zero_le, true_and, and_true, Nat.le_refl, chk_of]
        rw [loop_step1]
        simp (maxSteps := 2000000) only [go_sem, doCall, doCallQ, Nat.reduceAdd, Nat.reduceMul, Nat.reduceSub, Nat.reduceDiv, Nat.reduceMod, Nat.reduceLT, Nat.reduceLeDiff, Nat.reduceEqDiff, Nat.reduceBEq, Nat.reduceBNe, Int.reduceToNat, Int.reduceLT, Int.reduceLE, Int.reduceEq, Int.reduceNe, Int.reduceAdd, Int.reduceSub, Int.reduceMul, Int.reduceNeg]
        exact ih
termination_by s.length - i
theorem t_lower (s : List UInt8) (hs : s.length ≤ 1000000000) : call ir 130 [dS s] [] = some (dS (s.map low), []) := by
  rw [call_eq (fn := ir130) rfl, evF_bnd]
  simp (maxSteps := 2000000) only [go_sem, doCall, doCallQ, Nat.reduceAdd, Nat.reduceMul, Nat.reduceSub, Nat.reduceDiv, Nat.reduceMod, Nat.reduceLT, Nat.reduceLeDiff, Nat.reduceEqDiff, Nat.reduceBEq, Nat.reduceBNe, Int.reduceToNat, Int.reduceLT, Int.reduceLE, Int.reduceEq, Int.reduceNe, Int.reduceAdd, Int.reduceSub, Int.reduceMul, Int.reduceNeg, bd130]
  rw [loop_step1]
  simp (maxSteps := 2000000) only [go_sem, doCall, doCallQ, Nat.reduceAdd, Nat.reduceMul, Nat.reduceSub, Nat.reduceDiv, Nat.reduceMod, Nat.reduceLT, Nat.reduceLeDiff, Nat.reduceEqDiff, Nat.reduceBEq, Nat.reduceBNe, Int.reduceToNat, Int.reduceLT, Int.reduceLE, Int.reduceEq, Int.reduceNe, Int.reduceAdd, Int.reduceSub, Int.reduceMul, Int.reduceNeg]
  have h0 := fun k => lp_low s hs k 0 (by omega)
  simp only [List.take_zero, List.map_nil, List.nil_append, List.drop_zero] at h0
  refine Eq.trans (h0 _) ?_
  have hl : (s.map low).length = s.length := List.length_map ..
  have hb := b2s_own0 [] (s.map low) false
  rw [hl] at hb
  simp (maxSteps := 2000000) (disch := omega) only [go_sem, doCall, doCallQ, Nat.reduceAdd, Nat.reduceMul, Nat.reduceSub, Nat.reduceDiv, Nat.reduceMod, Nat.reduceLT, Nat.reduceLeDiff, Nat.reduceEqDiff, Nat.reduceBEq, Nat.reduceBNe, Int.reduceToNat, Int.reduceLT, Int.reduceLE, Int.reduceEq, Int.reduceNe, Int.reduceAdd, Int.reduceSub, Int.reduceMul, Int.reduceNeg, hb, chk_of]
theorem t_fold (a b : List UInt8) (ha : a.length ≤ 1000000000) (hb : b.length ≤ 1000000000) : call ir 107 [dS a, dS b] [] = some (dT (decide (a.map low = b.map low)), []) := by
  rw [call_eq (fn := ir107) rfl, evF_bnd]
  simp (maxSteps := 2000000) (disch := omega) only [go_sem, doCall, doCallQ, Nat.reduceAdd, Nat.reduceMul, Nat.reduceSub, Nat.reduceDiv, Nat.reduceMod, Nat.reduceLT, Nat.reduceLeDiff, Nat.reduceEqDiff, Nat.reduceBEq, Nat.reduceBNe, Int.reduceToNat, Int.reduceLT, Int.reduceLE, Int.reduceEq, Int.reduceNe, Int.reduceAdd, Int.reduceSub, Int.reduceMul, Int.reduceNeg, bd107, t_lower a ha, t_lower b hb]
end Go.Proofs.YtpibecljdooilaaDoor
