/- Apply at the law's changes. Own work. -/
import Derived.Test.YtbcpffhialoliaaDfF
namespace Go.Proofs.Ytbcpffhialoliaa
open Go Go.Ev Go.Proofs.Ytbcpffhialoliaa.Ir
set_option maxRecDepth 100000
set_option maxHeartbeats 4000000
set_option linter.unusedSimpArgs false
set_option linter.unusedVariables false
/-- Bounds. -/
def sml (l : List Hd) : Prop := l.length ≤ 100000 ∧ ∀ d ∈ l, d.ps.length ≤ 100000 ∧ ∀ p ∈ d.ps, p.bd.length ≤ 100000
theorem sml_b {l : List Hd} (h : sml l) : ∀ d ∈ l, d.ps.length ≤ 1000000000 := fun d hd => by have := (h.2 d hd).1; omega
theorem sml_c {l : List Hd} (h : sml l) : ∀ d ∈ l, d.ps.length ≤ 1000000 ∧ ∀ p ∈ d.ps, p.bd.length ≤ 1000000 := fun d hd => ⟨by have := (h.2 d hd).1; omega, fun p hp => by have := (h.2 d hd).2 p hp; omega⟩
theorem t_ap_bad (a : List Hd) (ha : sml a) (hr : rtR a = false) (ch : List (List D)) : call ir 16 [vHs a, .d (.list 10 ch)] [] = some (.tup [.own 0 6 0 0 false, dI 1], [.arr 6 []]) := by
  rw [call_eq (fn := ir16) rfl, evF_bnd]
  have h1 := t_right48 a (by have := ha.1; omega) (sml_b ha)
  rw [hr] at h1
  simp (maxSteps := 2000000) (disch := omega) only [go_sem, doCall, doCallQ, doCallP, Nat.reduceAdd, Nat.reduceMul, Nat.reduceSub, Nat.reduceDiv, Nat.reduceMod, Nat.reduceLT, Nat.reduceLeDiff, Nat.reduceEqDiff, Nat.reduceBEq, Nat.reduceBNe, Int.reduceToNat, Int.reduceLT, Int.reduceLE, Int.reduceEq, Int.reduceNe, Int.reduceAdd, Int.reduceSub, Int.reduceMul, Int.reduceNeg, bd16, h1, Int.natCast_nonneg, Int.toNat_natCast, Option.getD_some, Option.getD_none, List.drop_zero, Nat.sub_zero, Nat.zero_le, true_and, and_true, Nat.le_refl, chk_of]
theorem t_ap_two (a : List Hd) (ha : sml a) (o : Int) : call ir 16 [vHs a, .d (.list 10 [[.int .i64 o, .bool false, .bool false, .int .i64 0, .int .i64 0, .str [], .int .i64 0, .int .i64 0, .list 4 [], .list 1 []], [.int .i64 o, .bool false, .bool false, .int .i64 0, .int .i64 0, .str [], .int .i64 0, .int .i64 0, .list 4 [], .list 1 []]])] [] = some (.tup [.own 0 6 0 0 false, dI 1], [.arr 6 []]) := by
  rw [call_eq (fn := ir16) rfl, evF_bnd]
  have h1 := t_right48 a (by have := ha.1; omega) (sml_b ha)
  have h2 := t_rise2 o
  cases hr : rtR a <;> rw [hr] at h1
  · simp (maxSteps := 2000000) (disch := omega) only [go_sem, doCall, doCallQ, doCallP, Nat.reduceAdd, Nat.reduceMul, Nat.reduceSub, Nat.reduceDiv, Nat.reduceMod, Nat.reduceLT, Nat.reduceLeDiff, Nat.reduceEqDiff, Nat.reduceBEq, Nat.reduceBNe, Int.reduceToNat, Int.reduceLT, Int.reduceLE, Int.reduceEq, Int.reduceNe, Int.reduceAdd, Int.reduceSub, Int.reduceMul, Int.reduceNeg, bd16, h1, h2, Int.natCast_nonneg, Int.toNat_natCast, Option.getD_some, Option.getD_none, List.drop_zero, Nat.sub_zero, Nat.zero_le, true_and, and_true, Nat.le_refl, chk_of]
  · simp (maxSteps := 2000000) (disch := omega) only [go_sem, doCall, doCallQ, doCallP, Nat.reduceAdd, Nat.reduceMul, Nat.reduceSub, Nat.reduceDiv, Nat.reduceMod, Nat.reduceLT, Nat.reduceLeDiff, Nat.reduceEqDiff, Nat.reduceBEq, Nat.reduceBNe, Int.reduceToNat, Int.reduceLT, Int.reduceLE, Int.reduceEq, Int.reduceNe, Int.reduceAdd, Int.reduceSub, Int.reduceMul, Int.reduceNeg, bd16, h1, h2, Int.natCast_nonneg, Int.toNat_natCast, Option.getD_some, Option.getD_none, List.drop_zero, Nat.sub_zero, Nat.zero_le, true_and, and_true, Nat.le_refl, chk_of]
/-- Gone. -/
theorem t_ap_gone (a : List Hd) (ha : sml a) (hr : rtR a = true) (o : Int) : call ir 16 [vHs a, .d (.list 10 [[.int .i64 o, .bool false, .bool true, .int .i64 0, .int .i64 0, .str [], .int .i64 0, .int .i64 0, .list 4 [], .list 1 []]])] [] = (if (fndO o a).isSome then some (.tup [.own 0 6 0 (a.filter (noO o)).length false, dI 0], [.arr 6 ((a.filter (noO o)).map hdRow)]) else some (.tup [.own 0 6 0 0 false, dI 8], [.arr 6 []])) := by
  rw [call_eq (fn := ir16) rfl, evF_bnd]
  have hlen := ha.1
  have h1 := t_right48 a (by omega) (sml_b ha)
  rw [hr] at h1
  have h2 := t_rise1 o true []
  have hlm : (a.map hdRow).length = a.length := List.length_map ..
  have hcl := c_cloneH a (by omega)
  have hf := t_findO o a (by omega)
  have hd := c_delH 34 [.int .i64 o, .bool false, .bool true, .int .i64 0, .int .i64 0, .str [], .int .i64 0, .int .i64 0, .list 4 [], .list 1 []] o (fun d => c_own1 o d _ _ _ _ _ _ _ _ _) a (by omega)
  have hp := ((rt_iff a).1 hr)
  have hpf : (a.filter (noO o)).Pairwise (fun x y => x.ob < y.ob) := hp.2.filter _
  have hle : (a.filter (noO o)).length ≤ a.length := List.length_filter_le ..
  have hs := c_sortH48 (a.filter (noO o)) (by omega) (nod_of hpf) [] false
  rw [srt_same hpf, List.append_nil] at hs
  have hrF : rtR (a.filter (noO o)) = true := (rt_iff _).2 ⟨fun d hd => hp.1 d (List.mem_filter.1 hd).1, hpf⟩
  have h3 := t_rightO (a.filter (noO o)) false (by omega) (fun d hd => sml_b ha d (List.mem_filter.1 hd).1) []
  rw [hrF, List.append_nil] at h3
  generalize a.filter (noO o) = F at hd hs h3 hle ⊢
  have hlF : (F.map hdRow).length = F.length := List.length_map ..
  have htk : ((F.map hdRow).take F.length) = F.map hdRow := by rw [← hlF, List.take_length]
  have hla : F.length ≤ (F.map hdRow).length := by omega
  cases hfo : fndO o a with
  | none =>
    rw [hfo] at hf
    simp only [Option.isSome_none, Option.getD_none] at hf
    rw [if_neg (by simp)]
    simp (maxSteps := 2000000) (disch := omega) only [go_sem, doCall, doCallQ, doCallP, Nat.reduceAdd, Nat.reduceMul, Nat.reduceSub, Nat.reduceDiv, Nat.reduceMod, Nat.reduceLT, Nat.reduceLeDiff, Nat.reduceEqDiff, Nat.reduceBEq, Nat.reduceBNe, Int.reduceToNat, Int.reduceLT, Int.reduceLE, Int.reduceEq, Int.reduceNe, Int.reduceAdd, Int.reduceSub, Int.reduceMul, Int.reduceNeg, bd16, h1, h2, hcl, hlm, Int.natCast_nonneg, Int.toNat_natCast, Option.getD_some, Option.getD_none, List.drop_zero, Nat.sub_zero, Nat.zero_le, true_and, and_true, Nat.le_refl, chk_of]
    rw [loop_step1]; simp (maxSteps := 2000000) only [go_sem, doCall, doCallQ, doCallP, Nat.reduceAdd, Nat.reduceMul, Nat.reduceSub, Nat.reduceDiv, Nat.reduceMod, Nat.reduceLT, Nat.reduceLeDiff, Nat.reduceEqDiff, Nat.reduceBEq, Nat.reduceBNe, Int.reduceToNat, Int.reduceLT, Int.reduceLE, Int.reduceEq, Int.reduceNe, Int.reduceAdd, Int.reduceSub, Int.reduceMul, Int.reduceNeg]
    refine (lp_apc a (by omega) (sml_c ha) _ _ 0 (Nat.zero_le _)).trans ?_
    simp (maxSteps := 2000000) (disch := omega) only [go_sem, doCall, doCallQ, doCallP, Nat.reduceAdd, Nat.reduceMul, Nat.reduceSub, Nat.reduceDiv, Nat.reduceMod, Nat.reduceLT, Nat.reduceLeDiff, Nat.reduceEqDiff, Nat.reduceBEq, Nat.reduceBNe, Int.reduceToNat, Int.reduceLT, Int.reduceLE, Int.reduceEq, Int.reduceNe, Int.reduceAdd, Int.reduceSub, Int.reduceMul, Int.reduceNeg, List.length_cons, List.length_nil, Nat.zero_add, Int.natCast_nonneg, Int.toNat_natCast, Option.getD_some, Option.getD_none, List.drop_zero, Nat.sub_zero, Nat.zero_le, true_and, and_true, Nat.le_refl, chk_of]
    rw [loop_step1]
    simp (maxSteps := 2000000) (disch := omega) only [go_sem, doCall, doCallQ, doCallP, Nat.reduceAdd, Nat.reduceMul, Nat.reduceSub, Nat.reduceDiv, Nat.reduceMod, Nat.reduceLT, Nat.reduceLeDiff, Nat.reduceEqDiff, Nat.reduceBEq, Nat.reduceBNe, Int.reduceToNat, Int.reduceLT, Int.reduceLE, Int.reduceEq, Int.reduceNe, Int.reduceAdd, Int.reduceSub, Int.reduceMul, Int.reduceNeg, u16_1, lb16_1, hf, List.length_cons, List.length_nil, Nat.zero_add, List.getD_cons_zero, List.set_cons_zero, List.set_cons_succ, d0, Int.natCast_nonneg, Int.toNat_natCast, Option.getD_some, Option.getD_none, List.drop_zero, Nat.sub_zero, Nat.zero_le, true_and, and_true, Nat.le_refl, chk_of]
  | some d =>
    rw [hfo] at hf
    simp only [Option.isSome_some, Option.getD_some] at hf
    rw [if_pos (show (some d).isSome = true from rfl)]
    simp (maxSteps := 2000000) (disch := omega) only [go_sem, doCall, doCallQ, doCallP, Nat.reduceAdd, Nat.reduceMul, Nat.reduceSub, Nat.reduceDiv, Nat.reduceMod, Nat.reduceLT, Nat.reduceLeDiff, Nat.reduceEqDiff, Nat.reduceBEq, Nat.reduceBNe, Int.reduceToNat, Int.reduceLT, Int.reduceLE, Int.reduceEq, Int.reduceNe, Int.reduceAdd, Int.reduceSub, Int.reduceMul, Int.reduceNeg, bd16, h1, h2, hcl, hlm, Int.natCast_nonneg, Int.toNat_natCast, Option.getD_some, Option.getD_none, List.drop_zero, Nat.sub_zero, Nat.zero_le, true_and, and_true, Nat.le_refl, chk_of]
    rw [loop_step1]; simp (maxSteps := 2000000) only [go_sem, doCall, doCallQ, doCallP, Nat.reduceAdd, Nat.reduceMul, Nat.reduceSub, Nat.reduceDiv, Nat.reduceMod, Nat.reduceLT, Nat.reduceLeDiff, Nat.reduceEqDiff, Nat.reduceBEq, Nat.reduceBNe, Int.reduceToNat, Int.reduceLT, Int.reduceLE, Int.reduceEq, Int.reduceNe, Int.reduceAdd, Int.reduceSub, Int.reduceMul, Int.reduceNeg]
    refine (lp_apc a (by omega) (sml_c ha) _ _ 0 (Nat.zero_le _)).trans ?_
    simp (maxSteps := 2000000) (disch := omega) only [go_sem, doCall, doCallQ, doCallP, Nat.reduceAdd, Nat.reduceMul, Nat.reduceSub, Nat.reduceDiv, Nat.reduceMod, Nat.reduceLT, Nat.reduceLeDiff, Nat.reduceEqDiff, Nat.reduceBEq, Nat.reduceBNe, Int.reduceToNat, Int.reduceLT, Int.reduceLE, Int.reduceEq, Int.reduceNe, Int.reduceAdd, Int.reduceSub, Int.reduceMul, Int.reduceNeg, List.length_cons, List.length_nil, Nat.zero_add, Int.natCast_nonneg, Int.toNat_natCast, Option.getD_some, Option.getD_none, List.drop_zero, Nat.sub_zero, Nat.zero_le, true_and, and_true, Nat.le_refl, chk_of]
    rw [loop_step1]
    simp (maxSteps := 2000000) (disch := omega) only [go_sem, doCall, doCallQ, doCallP, Nat.reduceAdd, Nat.reduceMul, Nat.reduceSub, Nat.reduceDiv, Nat.reduceMod, Nat.reduceLT, Nat.reduceLeDiff, Nat.reduceEqDiff, Nat.reduceBEq, Nat.reduceBNe, Int.reduceToNat, Int.reduceLT, Int.reduceLE, Int.reduceEq, Int.reduceNe, Int.reduceAdd, Int.reduceSub, Int.reduceMul, Int.reduceNeg, u16_1, lb16_1, hf, hd, w1, List.length_cons, List.length_nil, Nat.zero_add, List.getD_cons_zero, List.set_cons_zero, List.set_cons_succ, Int.natCast_nonneg, Int.toNat_natCast, Option.getD_some, Option.getD_none, List.drop_zero, Nat.sub_zero, Nat.zero_le, true_and, and_true, Nat.le_refl, chk_of]
    rw [loop_step1]
    simp (maxSteps := 2000000) (disch := omega) only [go_sem, doCall, doCallQ, doCallP, Nat.reduceAdd, Nat.reduceMul, Nat.reduceSub, Nat.reduceDiv, Nat.reduceMod, Nat.reduceLT, Nat.reduceLeDiff, Nat.reduceEqDiff, Nat.reduceBEq, Nat.reduceBNe, Int.reduceToNat, Int.reduceLT, Int.reduceLE, Int.reduceEq, Int.reduceNe, Int.reduceAdd, Int.reduceSub, Int.reduceMul, Int.reduceNeg, u16_1, lb16_1, hs, h3, hlF, w1, Int.lt_irrefl, List.length_cons, List.length_nil, Nat.zero_add, List.getD_cons_zero, List.set_cons_zero, List.set_cons_succ, Int.natCast_nonneg, Int.toNat_natCast, Option.getD_some, Option.getD_none, List.drop_zero, Nat.sub_zero, Nat.zero_le, true_and, and_true, Nat.le_refl, chk_of]
end Go.Proofs.Ytbcpffhialoliaa
