/- Reading parts: what takes a text, and what takes to the end of a line. Own work. -/
import Derived.Test.YtpibecljdooilaaDoorAbb
import Derived.Test.YtpibecljdooilaaDoorIrR
import Derived.Test.YtpibecljdooilaaDoorEvNatW
namespace Go.Proofs.YtpibecljdooilaaDoor
open Go Go.Ev Go.Proofs.YtpibecljdooilaaDoor.Ir
set_option maxRecDepth 100000
set_option maxHeartbeats 4000000
set_option linter.unusedSimpArgs false
set_option linter.unusedVariables false
abbrev lB (b : List UInt8) : AV := .d (.list 1 (rB b))
theorem b_str {α : Type} (h : Heap) (b : List UInt8) (K : AV × Heap → Option α) : b2sA h (lB b) = some (dS b) := by simp [b2sA, AV.asStr, tailA, bytesOf_rB]
theorem t_equal (a b : List UInt8) : call ir 44 [lB a, lB b] [] = some (dT (decide (a = b)), []) := by
  rw [call_eq (fn := ir44) rfl, evF_bnd]
  simp (maxSteps := 2000000) (disch := omega) only [go_sem, doCall, doCallQ, doCallP, Nat.reduceAdd, Nat.reduceMul, Nat.reduceSub, Nat.reduceDiv, Nat.reduceMod, Nat.reduceLT, Nat.reduceLeDiff, Nat.reduceEqDiff, Nat.reduceBEq, Nat.reduceBNe, Int.reduceToNat, Int.reduceLT, Int.reduceLE, Int.reduceEq, Int.reduceNe, Int.reduceAdd, Int.reduceSub, Int.reduceMul, Int.reduceNeg, bd44, b2sA, AV.asStr, tailA, bytesOf_rB, if_true, chk_of]
def pre (p s : List UInt8) : Bool := decide (s.take p.length = p)
theorem rB_take' (b : List UInt8) (n : Nat) : (rB b).take n = rB (b.take n) := by simp [rB, List.map_take]
theorem rB_drop' (b : List UInt8) (n : Nat) : (rB b).drop n = rB (b.drop n) := by simp [rB, List.map_drop]
theorem pre_len {p s : List UInt8} (h : pre p s = true) : p.length ≤ s.length := by
  have := of_decide_eq_true h
  have h2 := congrArg List.length this
  rw [List.length_take] at h2; omega
theorem t_haspre (s p : List UInt8) (hs : s.length ≤ 1000000000) (hp : p.length ≤ 1000000000) : call ir 71 [lB s, lB p] [] = some (dT (pre p s), []) := by
  rw [call_eq (fn := ir71) rfl, evF_bnd]
  have he := t_equal (s.take p.length) p
  by_cases h : p.length ≤ s.length
  · have h' := eq_true (show (p.length : Int) ≤ s.length by omega)
    simp (maxSteps := 2000000) (disch := omega) only [go_sem, doCall, doCallQ, doCallP, Nat.reduceAdd, Nat.reduceMul, Nat.reduceSub, Nat.reduceDiv, Nat.reduceMod, Nat.reduceLT, Nat.reduceLeDiff, Nat.reduceEqDiff, Nat.reduceBEq, Nat.reduceBNe, Int.reduceToNat, Int.reduceLT, Int.reduceLE, Int.reduceEq, Int.reduceNe, Int.reduceAdd, Int.reduceSub, Int.reduceMul, Int.reduceNeg, bd71, rB_len, h', rB_take', he, Int.natCast_nonneg, Int.toNat_natCast, Option.getD_some, Option.getD_none, List.drop_zero, Nat.sub_zero, Nat.zero_le, true_and, and_true, Nat.le_refl, chk_of]
    rfl
  · have h' := eq_false (show ¬ (p.length : Int) ≤ s.length by omega)
    have hf : pre p s = false := by cases e : pre p s; rfl; exact absurd (pre_len e) h
    rw [hf]
    simp (maxSteps := 2000000) (disch := omega) only [go_sem, doCall, doCallQ, doCallP, Nat.reduceAdd, Nat.reduceMul, Nat.reduceSub, Nat.reduceDiv, Nat.reduceMod, Nat.reduceLT, Nat.reduceLeDiff, Nat.reduceEqDiff, Nat.reduceBEq, Nat.reduceBNe, Int.reduceToNat, Int.reduceLT, Int.reduceLE, Int.reduceEq, Int.reduceNe, Int.reduceAdd, Int.reduceSub, Int.reduceMul, Int.reduceNeg, bd71, rB_len, h', Int.natCast_nonneg, Int.toNat_natCast, Option.getD_some, Option.getD_none, List.drop_zero, Nat.sub_zero, Nat.zero_le, true_and, and_true, Nat.le_refl, chk_of]
theorem t_cutpre (s p : List UInt8) (hs : s.length ≤ 1000000000) (hp : p.length ≤ 1000000000) : call ir 100 [lB s, lB p] [] = some (.tup [lB (if pre p s then s.drop p.length else s), dT (pre p s)], []) := by
  rw [call_eq (fn := ir100) rfl, evF_bnd]
  have he := t_haspre s p hs hp
  cases h : pre p s
  · rw [h] at he
    rw [if_neg (by simp)]
    simp (maxSteps := 2000000) (disch := omega) only [go_sem, doCall, doCallQ, doCallP, Nat.reduceAdd, Nat.reduceMul, Nat.reduceSub, Nat.reduceDiv, Nat.reduceMod, Nat.reduceLT, Nat.reduceLeDiff, Nat.reduceEqDiff, Nat.reduceBEq, Nat.reduceBNe, Int.reduceToNat, Int.reduceLT, Int.reduceLE, Int.reduceEq, Int.reduceNe, Int.reduceAdd, Int.reduceSub, Int.reduceMul, Int.reduceNeg, bd100, he, chk_of]
  · rw [h] at he
    have hl := pre_len h
    have htk : List.take (s.length - p.length) (rB (s.drop p.length)) = rB (s.drop p.length) := List.take_of_length_le (by rw [rB_len, List.length_drop]; exact Nat.le_refl _)
    rw [if_pos rfl]
    simp (maxSteps := 2000000) (disch := omega) only [go_sem, doCall, doCallQ, doCallP, Nat.reduceAdd, Nat.reduceMul, Nat.reduceSub, Nat.reduceDiv, Nat.reduceMod, Nat.reduceLT, Nat.reduceLeDiff, Nat.reduceEqDiff, Nat.reduceBEq, Nat.reduceBNe, Int.reduceToNat, Int.reduceLT, Int.reduceLE, Int.reduceEq, Int.reduceNe, Int.reduceAdd, Int.reduceSub, Int.reduceMul, Int.reduceNeg, bd100, he, rB_len, rB_drop', htk, Int.natCast_nonneg, Int.toNat_natCast, Option.getD_some, Option.getD_none, List.drop_zero, Nat.sub_zero, Nat.zero_le, true_and, and_true, Nat.le_refl, chk_of]
abbrev rdB (b s : List UInt8) (n : Int) : Blk := .dbox [.list 1 (rB b), .str s, .int .i64 n]
abbrev bad3 : AV := .ifc 127 (.agg [dI 3])
theorem t_take (b s p : List UInt8) (n : Int) (hb : b.length ≤ 1000000) (hp : p.length ≤ 1000000) :
    call ir 70 [.ptr 0 0, dS p] [rdB b s n] = if pre p b then some (.d .nili, [rdB (b.drop p.length) s n]) else some (bad3, [rdB b s n]) := by
  rw [call_eq (fn := ir70) rfl, evF_bnd]
  have he := t_cutpre b p (by omega) (by omega)
  have hpl : List.take p.length (rB p) = rB p := List.take_of_length_le (by rw [rB_len]; exact Nat.le_refl _)
  have hrs : (p.map fun c => [D.int .u8 c.toNat]) = rB p := rfl
  cases h : pre p b
  · rw [h, if_neg (by simp)] at he
    rw [if_neg (by simp)]
    simp (maxSteps := 2000000) (disch := omega) only [go_sem, doCall, doCallQ, doCallP, Nat.reduceAdd, Nat.reduceMul, Nat.reduceSub, Nat.reduceDiv, Nat.reduceMod, Nat.reduceLT, Nat.reduceLeDiff, Nat.reduceEqDiff, Nat.reduceBEq, Nat.reduceBNe, Int.reduceToNat, Int.reduceLT, Int.reduceLE, Int.reduceEq, Int.reduceNe, Int.reduceAdd, Int.reduceSub, Int.reduceMul, Int.reduceNeg, bd70, he, hrs, hpl, rB_len, Nat.zero_add, if_true, Int.natCast_nonneg, Int.toNat_natCast, Option.getD_some, Option.getD_none, List.drop_zero, Nat.sub_zero, Nat.zero_le, true_and, and_true, Nat.le_refl, chk_of]
  · rw [h, if_pos rfl] at he
    rw [if_pos rfl]
    simp (maxSteps := 2000000) (disch := omega) only [go_sem, doCall, doCallQ, doCallP, Nat.reduceAdd, Nat.reduceMul, Nat.reduceSub, Nat.reduceDiv, Nat.reduceMod, Nat.reduceLT, Nat.reduceLeDiff, Nat.reduceEqDiff, Nat.reduceBEq, Nat.reduceBNe, Int.reduceToNat, Int.reduceLT, Int.reduceLE, Int.reduceEq, Int.reduceNe, Int.reduceAdd, Int.reduceSub, Int.reduceMul, Int.reduceNeg, bd70, he, hrs, hpl, rB_len, Nat.zero_add, if_true, Int.natCast_nonneg, Int.toNat_natCast, Option.getD_some, Option.getD_none, List.drop_zero, Nat.sub_zero, Nat.zero_le, true_and, and_true, Nat.le_refl, chk_of]
theorem t_bcut (b : List UInt8) (hb : b.length ≤ 1000000) : call ir 146 [lB b, .d (.list 1 [[.int .u8 13], [.int .u8 10]])] [] = some (.tup (cutD b [13, 10]), []) := by
  rw [call_nat (by rfl), nat_eq]
  refine (natOr_r (by rfl)).trans (natOr_l ?_)
  exact natCut_eq 146 b [13, 10] ⟨by simp, by simp; omega⟩
theorem t_until (b s : List UInt8) (n : Int) (hb : b.length ≤ 1000000) :
    call ir 125 [.ptr 0 0] [rdB b s n] = if 0 ≤ Lib.index b [13, 10] then some (.tup [dS (b.take (Lib.index b [13, 10]).toNat), .d .nili], [rdB (b.drop ((Lib.index b [13, 10]).toNat + 2)) s n])
      else some (.tup [dS [], bad3], [rdB b s n]) := by
  rw [call_eq (fn := ir125) rfl, evF_bnd]
  have he := t_bcut b hb
  unfold cutD at he
  by_cases h : 0 ≤ Lib.index b [13, 10]
  · rw [if_pos h] at he
    rw [if_pos h]
    generalize (Lib.index b [13, 10]).toNat = i at he
    simp (maxSteps := 2000000) (disch := omega) only [go_sem, doCall, doCallQ, doCallP, Nat.reduceAdd, Nat.reduceMul, Nat.reduceSub, Nat.reduceDiv, Nat.reduceMod, Nat.reduceLT, Nat.reduceLeDiff, Nat.reduceEqDiff, Nat.reduceBEq, Nat.reduceBNe, Int.reduceToNat, Int.reduceLT, Int.reduceLE, Int.reduceEq, Int.reduceNe, Int.reduceAdd, Int.reduceSub, Int.reduceMul, Int.reduceNeg, bd125, he, b2sA, AV.asStr, tailA, bytesOf_rB, List.length_cons, List.length_nil, Nat.zero_add, if_true, Int.natCast_nonneg, Int.toNat_natCast, Option.getD_some, Option.getD_none, List.drop_zero, Nat.sub_zero, Nat.zero_le, true_and, and_true, Nat.le_refl, chk_of]
  · rw [if_neg h] at he
    rw [if_neg h]
    simp (maxSteps := 2000000) (disch := omega) only [go_sem, doCall, doCallQ, doCallP, Nat.reduceAdd, Nat.reduceMul, Nat.reduceSub, Nat.reduceDiv, Nat.reduceMod, Nat.reduceLT, Nat.reduceLeDiff, Nat.reduceEqDiff, Nat.reduceBEq, Nat.reduceBNe, Int.reduceToNat, Int.reduceLT, Int.reduceLE, Int.reduceEq, Int.reduceNe, Int.reduceAdd, Int.reduceSub, Int.reduceMul, Int.reduceNeg, bd125, he, List.length_cons, List.length_nil, Nat.zero_add, if_true, Int.natCast_nonneg, Int.toNat_natCast, Option.getD_some, Option.getD_none, List.drop_zero, Nat.sub_zero, Nat.zero_le, true_and, and_true, Nat.le_refl, chk_of]
theorem t_bclone (b : List UInt8) (hb : b.length ≤ 1000000) (hpos : 0 < b.length) : call ir 47 [lB b] [] = some (.own 0 1 0 b.length false, [.arr 1 (rB b)]) := by
  rw [call_eq (fn := ir47) rfl, evF_bnd]
  simp (maxSteps := 2000000) (disch := omega) only [go_sem, doCall, doCallQ, doCallP, Nat.reduceAdd, Nat.reduceMul, Nat.reduceSub, Nat.reduceDiv, Nat.reduceMod, Nat.reduceLT, Nat.reduceLeDiff, Nat.reduceEqDiff, Nat.reduceBEq, Nat.reduceBNe, Int.reduceToNat, Int.reduceLT, Int.reduceLE, Int.reduceEq, Int.reduceNe, Int.reduceAdd, Int.reduceSub, Int.reduceMul, Int.reduceNeg, bd47, rB_len, hpos, Nat.zero_add, if_true, List.nil_append, Int.natCast_nonneg, Int.toNat_natCast, Option.getD_some, Option.getD_none, List.drop_zero, Nat.sub_zero, Nat.zero_le, true_and, and_true, Nat.le_refl, chk_of]
end Go.Proofs.YtpibecljdooilaaDoor
