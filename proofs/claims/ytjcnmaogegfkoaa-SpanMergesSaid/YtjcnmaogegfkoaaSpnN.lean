/- Spans: span.Merge. Own work. -/
import Derived.Test.YtjcnmaogegfkoaaSpnM
namespace Go.Proofs.Ytjcnmaogegfkoaa
open Go Go.Ev Go.Proofs.Ytjcnmaogegfkoaa.Ir
set_option maxRecDepth 100000
set_option maxHeartbeats 4000000
set_option linter.unusedSimpArgs false
set_option linter.unusedVariables false
/-- A piece more, joined to the last one if the gap is small. -/
def mstep (g : Int) (O : List (Int × Int)) (s : Int × Int) : List (Int × Int) :=
  if 0 < O.length ∧ s.1 - (O.getD (O.length - 1) (0, 0)).2 ≤ g then O.set (O.length - 1) ((O.getD (O.length - 1) (0, 0)).1, max (O.getD (O.length - 1) (0, 0)).2 s.2) else O ++ [s]
def inB (l : List (Int × Int)) : Prop := ∀ x ∈ l, (0 ≤ x.1 ∧ x.1 ≤ 4611686018427387903) ∧ (0 ≤ x.2 ∧ x.2 ≤ 4611686018427387903)
theorem inB_get {l : List (Int × Int)} (h : inB l) {i : Nat} (hi : i < l.length) : (0 ≤ l[i].1 ∧ l[i].1 ≤ 4611686018427387903) ∧ (0 ≤ l[i].2 ∧ l[i].2 ≤ 4611686018427387903) := h _ (List.getElem_mem hi)
theorem inB_mstep {g : Int} {O : List (Int × Int)} {s : Int × Int} (h : inB O) (hs : (0 ≤ s.1 ∧ s.1 ≤ 4611686018427387903) ∧ (0 ≤ s.2 ∧ s.2 ≤ 4611686018427387903)) : inB (mstep g O s) := by
  unfold mstep
  split
  · rename_i hc
    intro x hx
    rcases List.mem_or_eq_of_mem_set hx with hx | rfl
    · exact h x hx
    · rw [getD_of (show O.length - 1 < O.length by omega)]
      have := inB_get h (show O.length - 1 < O.length by omega)
      exact ⟨this.1, by simp only; omega, by simp only; omega⟩
  · intro x hx
    rcases List.mem_append.1 hx with hx | hx
    · exact h x hx
    · rw [List.mem_singleton.1 hx]; exact hs
theorem len_mstep (g : Int) (O : List (Int × Int)) (s : Int × Int) : (mstep g O s).length ≤ O.length + 1 := by
  unfold mstep; split <;> simp
theorem lp_mg (g : Int) (A : List (Int × Int)) (hA : A.length ≤ 1000) (hB : inB A) (Z : List (List D)) (k : Ex → St → Option (AV × Heap)) (i : Nat) (hi : i ≤ A.length) (O : List (Int × Int)) (hO : inB O) (hl : O.length ≤ i) :
    bnd (evC (call ir) (loop ir) lp5_0 (st5_0 0 (.d (.int .i64 g)) (.own 0 2 0 O.length false) (.own 1 2 0 A.length false) (.d (.int .i64 A.length)) (.d (.int .i64 i)) [.arr 2 (O.map eP), .arr 2 (A.map eP ++ Z)])) (lpC (call ir) (loop ir) [1, 6, 17, 18, 19] lp5_0 k) =
      k (.exit 0) (clean [6] (st5_0 0 .unk (.own 0 2 0 ((A.drop i).foldl (mstep g) O).length false) .unk .unk .unk [.arr 2 (((A.drop i).foldl (mstep g) O).map eP)])) := by
  by_cases h : i = A.length
  · have hx : ¬ (i : Int) < A.length := by omega
    simp (maxSteps := 2000000) (disch := omega) only [go_sem, doCall, doCallQ, Nat.reduceAdd, Nat.reduceMul, Nat.reduceSub, Nat.reduceDiv, Nat.reduceMod, Nat.reduceLT, Nat.reduceLeDiff, Nat.reduceEqDiff, Nat.reduceBEq, Nat.reduceBNe, Int.reduceToNat, Int.reduceLT, Int.reduceLE, Int.reduceEq, Int.reduceNe, Int.reduceAdd, Int.reduceSub, Int.reduceMul, Int.reduceNeg, u5_0, lb5_0, hx]
    rw [h, List.drop_length]; rfl
  · have hlt : (i : Int) < A.length := by omega
    have hi' : i < A.length := by omega
    have hw := wr_succ (i := i) (by omega)
    have hb := inB_get hB hi'
    have ih := lp_mg g A hA hB Z k (i + 1) (by omega) (mstep g O A[i]) (inB_mstep hO hb) (by have := len_mstep g O A[i]; omega)
    rw [List.drop_eq_getElem_cons hi', List.foldl_cons]
    have hlr : (A.map eP ++ Z).length = A.length + Z.length := by simp
    have hle : A.length ≤ A.length + Z.length := by omega
    have hgr : (A.map eP ++ Z).getD i [] = eP A[i] := by
      rw [List.getD_eq_getElem?_getD, List.getElem?_append_left (by rw [List.length_map]; exact hi')]; simp [hi']
    have hol : (O.map eP).length = O.length := List.length_map ..
    by_cases h0 : O.length = 0
    · have hz : ¬ (0 : Int) < O.length := by omega
      have hm : mstep g O A[i] = O ++ [A[i]] := by unfold mstep; rw [if_neg (by omega)]
      rw [hm] at ih ⊢
      simp (maxSteps := 2000000) (disch := omega) only [go_sem, doCall, doCallQ, Nat.reduceAdd, Nat.reduceMul, Nat.reduceSub, Nat.reduceDiv, Nat.reduceMod, Nat.reduceLT, Nat.reduceLeDiff, Nat.reduceEqDiff, Nat.reduceBEq, Nat.reduceBNe, Int.reduceToNat, Int.reduceLT, Int.reduceLE, Int.reduceEq, Int.reduceNe, Int.reduceAdd, Int.reduceSub, Int.reduceMul, Int.reduceNeg, u5_0, lb5_0, hlt, hlr, hle, hgr, hol, hz, Int.toNat_natCast, Nat.zero_add, chk_of]
      rw [loop_step1]
      have hln : (O ++ [A[i]]).length = O.length + 1 := by simp
      have hmp : (O ++ [A[i]]).map eP = O.map eP ++ [[D.int .i64 A[i].1, D.int .i64 A[i].2]] := by simp
      rw [hln, hmp] at ih
      simp (maxSteps := 2000000) only [go_sem, doCall, doCallQ, Nat.reduceAdd, Nat.reduceMul, Nat.reduceSub, Nat.reduceDiv, Nat.reduceMod, Nat.reduceLT, Nat.reduceLeDiff, Nat.reduceEqDiff, Nat.reduceBEq, Nat.reduceBNe, Int.reduceToNat, Int.reduceLT, Int.reduceLE, Int.reduceEq, Int.reduceNe, Int.reduceAdd, Int.reduceSub, Int.reduceMul, Int.reduceNeg, hw]
      exact ih
    · have hz : (0 : Int) < O.length := by omega
      have hp := wr_pred (i := O.length) (by omega) (by omega)
      have hpl : O.length - 1 < O.length := by omega
      have hgo := get_eP O (O.length - 1) hpl
      have hbo := inB_get hO hpl
      have hws : wr .i64 (A[i].1 - O[O.length - 1].2) = A[i].1 - O[O.length - 1].2 := wr_id (by omega)
      by_cases hc : A[i].1 - O[O.length - 1].2 ≤ g
      · have hm : mstep g O A[i] = O.set (O.length - 1) (O[O.length - 1].1, max O[O.length - 1].2 A[i].2) := by unfold mstep; rw [getD_of hpl, if_pos ⟨by omega, hc⟩]
        rw [hm] at ih ⊢
        simp (maxSteps := 2000000) (disch := omega) only [go_sem, doCall, doCallQ, Nat.reduceAdd, Nat.reduceMul, Nat.reduceSub, Nat.reduceDiv, Nat.reduceMod, Nat.reduceLT, Nat.reduceLeDiff, Nat.reduceEqDiff, Nat.reduceBEq, Nat.reduceBNe, Int.reduceToNat, Int.reduceLT, Int.reduceLE, Int.reduceEq, Int.reduceNe, Int.reduceAdd, Int.reduceSub, Int.reduceMul, Int.reduceNeg, u5_0, lb5_0, hlt, hlr, hle, hgr, hol, hz, hp, hgo, hws, hc, Int.toNat_natCast, Nat.zero_add, chk_of]
        rw [loop_step1]
        have hln : (O.set (O.length - 1) (O[O.length - 1].1, max O[O.length - 1].2 A[i].2)).length = O.length := by simp
        have hmp : (O.set (O.length - 1) (O[O.length - 1].1, max O[O.length - 1].2 A[i].2)).map eP = (O.map eP).set (O.length - 1) [D.int .i64 O[O.length - 1].1, D.int .i64 (max O[O.length - 1].2 A[i].2)] := by rw [List.map_set]
        rw [hln, hmp] at ih
        simp (maxSteps := 2000000) only [go_sem, doCall, doCallQ, Nat.reduceAdd, Nat.reduceMul, Nat.reduceSub, Nat.reduceDiv, Nat.reduceMod, Nat.reduceLT, Nat.reduceLeDiff, Nat.reduceEqDiff, Nat.reduceBEq, Nat.reduceBNe, Int.reduceToNat, Int.reduceLT, Int.reduceLE, Int.reduceEq, Int.reduceNe, Int.reduceAdd, Int.reduceSub, Int.reduceMul, Int.reduceNeg, hw]
        exact ih
      · have hm : mstep g O A[i] = O ++ [A[i]] := by unfold mstep; rw [getD_of hpl, if_neg (fun h => hc h.2)]
        rw [hm] at ih ⊢
        simp (maxSteps := 2000000) (disch := omega) only [go_sem, doCall, doCallQ, Nat.reduceAdd, Nat.reduceMul, Nat.reduceSub, Nat.reduceDiv, Nat.reduceMod, Nat.reduceLT, Nat.reduceLeDiff, Nat.reduceEqDiff, Nat.reduceBEq, Nat.reduceBNe, Int.reduceToNat, Int.reduceLT, Int.reduceLE, Int.reduceEq, Int.reduceNe, Int.reduceAdd, Int.reduceSub, Int.reduceMul, Int.reduceNeg, u5_0, lb5_0, hlt, hlr, hle, hgr, hol, hz, hp, hgo, hws, hc, Int.toNat_natCast, Nat.zero_add, chk_of]
        rw [loop_step1]
        have hln : (O ++ [A[i]]).length = O.length + 1 := by simp
        have hmp : (O ++ [A[i]]).map eP = O.map eP ++ [[D.int .i64 A[i].1, D.int .i64 A[i].2]] := by simp
        rw [hln, hmp] at ih
        simp (maxSteps := 2000000) only [go_sem, doCall, doCallQ, Nat.reduceAdd, Nat.reduceMul, Nat.reduceSub, Nat.reduceDiv, Nat.reduceMod, Nat.reduceLT, Nat.reduceLeDiff, Nat.reduceEqDiff, Nat.reduceBEq, Nat.reduceBNe, Int.reduceToNat, Int.reduceLT, Int.reduceLE, Int.reduceEq, Int.reduceNe, Int.reduceAdd, Int.reduceSub, Int.reduceMul, Int.reduceNeg, hw]
        exact ih
termination_by A.length - i
end Go.Proofs.Ytjcnmaogegfkoaa
