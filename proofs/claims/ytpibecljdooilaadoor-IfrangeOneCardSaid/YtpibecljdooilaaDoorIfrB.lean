/- What specs mean of so many bytes: what the functions do. Own work. Validators: what the functions do. Own work. Which bytes a request asks for: what the functions do. Own work. -/
import Derived.Test.YtpibecljdooilaaDoorPrwG
import Derived.Test.YtpibecljdooilaaDoorSpnB
import Derived.Test.YtpibecljdooilaaDoorPrwA
import Derived.Test.YtpibecljdooilaaDoorSpnV
import Derived.Test.YtpibecljdooilaaDoorPrwI
namespace Go.Proofs.YtpibecljdooilaaDoor
open Go Go.Ev Go.Proofs.YtpibecljdooilaaDoor.Ir Go.Prs
set_option maxRecDepth 100000
set_option maxHeartbeats 4000000
set_option linter.unusedSimpArgs false
set_option linter.unusedVariables false
def SpecR (x : Sp3) : Prop := 0 ≤ x.2.1 ∧ ((x.1 = 2 ∧ x.2.1 ≤ x.2.2 ∧ x.2.2 ≤ 4611686018427387903) ∨ (x.1 = 1 ∧ x.2.1 ≤ 4611686018427387903 ∧ x.2.2 = 0) ∨ (x.1 = 3 ∧ x.2.1 ≤ 4611686018427387903 ∧ x.2.2 = 0))
instance (x : Sp3) : Decidable (SpecR x) := by unfold SpecR; infer_instance
abbrev v3 (x : Sp3) : AV := .agg [dI x.1, dI x.2.1, dI x.2.2]
theorem t_fits (a l h : Int) : call ir 79 [dI a, dI l, dI h] [] = some (dT (decide (l ≤ a ∧ a ≤ h)), []) := by
  rw [call_eq (fn := ir79) rfl, evF_bnd]
  by_cases h1 : l ≤ a
  · have h1' := eq_true h1
    simp (maxSteps := 2000000) only [go_sem, doCall, doCallQ, Nat.reduceAdd, Nat.reduceMul, Nat.reduceSub, Nat.reduceDiv, Nat.reduceMod, Nat.reduceLT, Nat.reduceLeDiff, Nat.reduceEqDiff, Nat.reduceBEq, Nat.reduceBNe, Int.reduceToNat, Int.reduceLT, Int.reduceLE, Int.reduceEq, Int.reduceNe, Int.reduceAdd, Int.reduceSub, Int.reduceMul, Int.reduceNeg, bd79, h1', true_and]
  · have h1' := eq_false h1
    simp (maxSteps := 2000000) only [go_sem, doCall, doCallQ, Nat.reduceAdd, Nat.reduceMul, Nat.reduceSub, Nat.reduceDiv, Nat.reduceMod, Nat.reduceLT, Nat.reduceLeDiff, Nat.reduceEqDiff, Nat.reduceBEq, Nat.reduceBNe, Int.reduceToNat, Int.reduceLT, Int.reduceLE, Int.reduceEq, Int.reduceNe, Int.reduceAdd, Int.reduceSub, Int.reduceMul, Int.reduceNeg, bd79, h1', false_and, decide_false]
theorem t_specRight (x : Sp3) : call ir 80 [v3 x] [] = some (dT (decide (SpecR x)), []) := by
  rw [call_eq (fn := ir80) rfl, evF_bnd]
  simp (maxSteps := 2000000) only [go_sem, doCall, doCallQ, Nat.reduceAdd, Nat.reduceMul, Nat.reduceSub, Nat.reduceDiv, Nat.reduceMod, Nat.reduceLT, Nat.reduceLeDiff, Nat.reduceEqDiff, Nat.reduceBEq, Nat.reduceBNe, Int.reduceToNat, Int.reduceLT, Int.reduceLE, Int.reduceEq, Int.reduceNe, Int.reduceAdd, Int.reduceSub, Int.reduceMul, Int.reduceNeg, bd80, t_fits]
  repeat' (apply two_cases <;> intro h <;> simp (maxSteps := 2000000) only [go_sem, doCall, doCallQ, Nat.reduceAdd, Nat.reduceMul, Nat.reduceSub, Nat.reduceDiv, Nat.reduceMod, Nat.reduceLT, Nat.reduceLeDiff, Nat.reduceEqDiff, Nat.reduceBEq, Nat.reduceBNe, Int.reduceToNat, Int.reduceLT, Int.reduceLE, Int.reduceEq, Int.reduceNe, Int.reduceAdd, Int.reduceSub, Int.reduceMul, Int.reduceNeg, h, t_fits])
  all_goals first | (apply dec_eq; unfold SpecR; omega) | (apply dec_f; unfold SpecR; omega) | (apply dec_t; unfold SpecR; omega)
theorem t_rspecRight (x : Sp3) : call ir 63 [v3 x] [] = some (dT (decide (SpecR x)), []) := by
  rw [call_eq (fn := ir63) rfl, evF_bnd]
  simp (maxSteps := 2000000) only [go_sem, doCall, doCallQ, Nat.reduceAdd, Nat.reduceMul, Nat.reduceSub, Nat.reduceDiv, Nat.reduceMod, Nat.reduceLT, Nat.reduceLeDiff, Nat.reduceEqDiff, Nat.reduceBEq, Nat.reduceBNe, Int.reduceToNat, Int.reduceLT, Int.reduceLE, Int.reduceEq, Int.reduceNe, Int.reduceAdd, Int.reduceSub, Int.reduceMul, Int.reduceNeg, bd63]
  repeat' (apply two_cases <;> intro h <;> simp (maxSteps := 2000000) only [go_sem, doCall, doCallQ, Nat.reduceAdd, Nat.reduceMul, Nat.reduceSub, Nat.reduceDiv, Nat.reduceMod, Nat.reduceLT, Nat.reduceLeDiff, Nat.reduceEqDiff, Nat.reduceBEq, Nat.reduceBNe, Int.reduceToNat, Int.reduceLT, Int.reduceLE, Int.reduceEq, Int.reduceNe, Int.reduceAdd, Int.reduceSub, Int.reduceMul, Int.reduceNeg, h])
  all_goals first | (apply dec_eq; unfold SpecR; omega) | (apply dec_f; unfold SpecR; omega) | (apply dec_t; unfold SpecR; omega)
/-- What a spec means of n bytes. -/
def oneP (x : Sp3) (n : Int) : Int × Int := if x.1 = 1 then (x.2.1, n) else if x.1 = 2 then (x.2.1, min x.2.2 (n - 1) + 1) else (n - min x.2.1 n, n)
theorem t_sone {x : Sp3} (hx : SpecR x) {n : Int} (hn : 1 ≤ n ∧ n ≤ 4611686018427387903) : call ir 81 [v3 x, dI n] [] = some (vP (oneP x n), []) := by
  rw [call_eq (fn := ir81) rfl, evF_bnd]
  have w1 : wr .i64 (n - 1) = n - 1 := wr_id (by omega)
  unfold oneP
  rcases hx with ⟨h0, ⟨h1, h2⟩ | ⟨h1, h2⟩ | ⟨h1, h2⟩⟩
  · have w2 : wr .i64 (min x.2.2 (n - 1) + 1) = min x.2.2 (n - 1) + 1 := wr_id (by omega)
    have c1 := eq_false (show ¬ x.1 = 1 by omega)
    have c2 := eq_true h1
    rw [if_neg (by omega), if_pos h1]
    simp (maxSteps := 2000000) (disch := omega) only [go_sem, doCall, doCallQ, Nat.reduceAdd, Nat.reduceMul, Nat.reduceSub, Nat.reduceDiv, Nat.reduceMod, Nat.reduceLT, Nat.reduceLeDiff, Nat.reduceEqDiff, Nat.reduceBEq, Nat.reduceBNe, Int.reduceToNat, Int.reduceLT, Int.reduceLE, Int.reduceEq, Int.reduceNe, Int.reduceAdd, Int.reduceSub, Int.reduceMul, Int.reduceNeg, bd81, c1, c2, w1, w2, chk_of]
  · have c1 := eq_true h1
    rw [if_pos h1]
    simp (maxSteps := 2000000) (disch := omega) only [go_sem, doCall, doCallQ, Nat.reduceAdd, Nat.reduceMul, Nat.reduceSub, Nat.reduceDiv, Nat.reduceMod, Nat.reduceLT, Nat.reduceLeDiff, Nat.reduceEqDiff, Nat.reduceBEq, Nat.reduceBNe, Int.reduceToNat, Int.reduceLT, Int.reduceLE, Int.reduceEq, Int.reduceNe, Int.reduceAdd, Int.reduceSub, Int.reduceMul, Int.reduceNeg, bd81, c1, chk_of]
  · have w2 : wr .i64 (n - min x.2.1 n) = n - min x.2.1 n := wr_id (by omega)
    have c1 := eq_false (show ¬ x.1 = 1 by omega)
    have c2 := eq_false (show ¬ x.1 = 2 by omega)
    rw [if_neg (by omega), if_neg (by omega)]
    simp (maxSteps := 2000000) (disch := omega) only [go_sem, doCall, doCallQ, Nat.reduceAdd, Nat.reduceMul, Nat.reduceSub, Nat.reduceDiv, Nat.reduceMod, Nat.reduceLT, Nat.reduceLeDiff, Nat.reduceEqDiff, Nat.reduceBEq, Nat.reduceBNe, Int.reduceToNat, Int.reduceLT, Int.reduceLE, Int.reduceEq, Int.reduceNe, Int.reduceAdd, Int.reduceSub, Int.reduceMul, Int.reduceNeg, bd81, c1, c2, w2, chk_of]
def res1 (n : Int) (x : Sp3) : List (Int × Int) := if SpecR x ∧ RP (oneP x n).1 (oneP x n).2 then [oneP x n] else []
def resL (l : List Sp3) (n : Int) : List (Int × Int) := if 1 ≤ n ∧ n ≤ 4611686018427387903 then l.flatMap (res1 n) else []
theorem res1_len (n : Int) (x : Sp3) : (res1 n x).length ≤ 1 := by unfold res1; split <;> simp
theorem fm_len (n : Int) : ∀ l : List Sp3, (l.flatMap (res1 n)).length ≤ l.length
  | [] => Nat.le_refl _
  | x :: l => by
    have := fm_len n l
    have := res1_len n x
    simp only [List.flatMap_cons, List.length_append, List.length_cons]; omega
theorem fm_take {n : Int} {l : List Sp3} {i : Nat} (h : i < l.length) : (l.take (i + 1)).flatMap (res1 n) = (l.take i).flatMap (res1 n) ++ res1 n l[i] := by
  rw [List.take_succ_eq_append_getElem h, List.flatMap_append]; simp
theorem get_r3 (l : List Sp3) (i : Nat) (h : i < l.length) : (r3 l).getD i [] = e3 (l[i]) := by simp [List.getD_eq_getElem?_getD, h]
abbrev r2 (l : List (Int × Int)) : List (List D) := l.map eP
theorem r2_len (l : List (Int × Int)) : (r2 l).length = l.length := List.length_map ..
theorem lp_res (l : List Sp3) (hl : l.length ≤ 1000000) (n : Int) (hn : 1 ≤ n ∧ n ≤ 4611686018427387903) (k : Ex → St → Option (AV × Heap)) (i : Nat) (hi : i ≤ l.length) (O : List (Int × Int)) (hO : O = (l.take i).flatMap (res1 n)) :
    (bnd (evC (call ir) (loop ir) lp54_0 (st54_0 0 (dI n) (.own 0 2 0 O.length false) (.d (.list 3 (r3 l))) (dI l.length) (dI i) [.arr 2 (r2 O)])) (lpC (call ir) (loop ir) [1, 5, 12, 13, 14] lp54_0 k)) = k (.exit 0) (clean [5] (st54_0 0 .unk (.own 0 2 0 (l.flatMap (res1 n)).length false) .unk .unk .unk [.arr 2 (r2 (l.flatMap (res1 n)))])) := by
  by_cases h : i = l.length
  · have hx : ¬ (i : Int) < l.length := by omega
    rw [h] at hx hO
    rw [List.take_length] at hO
    rw [h, ← hO]
    simp (maxSteps := 2000000) (disch := omega) only [go_sem, doCall, doCallQ, Nat.reduceAdd, Nat.reduceMul, Nat.reduceSub, Nat.reduceDiv, Nat.reduceMod, Nat.reduceLT, Nat.reduceLeDiff, Nat.reduceEqDiff, Nat.reduceBEq, Nat.reduceBNe, Int.reduceToNat, Int.reduceLT, Int.reduceLE, Int.reduceEq, Int.reduceNe, Int.reduceAdd, Int.reduceSub, Int.reduceMul, Int.reduceNeg, u54_0, lb54_0, hx]
  · have hlt : (i : Int) < l.length := by omega
    have hi' : i < l.length := by omega
    have hw := wr_succ (i := i) (by omega)
    have hg := get_r3 l i hi'
    have hsr := t_specRight l[i]
    have hOl : O.length ≤ i := by rw [hO]; exact Nat.le_trans (fm_len n _) (by rw [List.length_take]; omega)
    have hft := fm_take (n := n) hi'
    rw [← hO] at hft
    have hrl := r2_len O
    by_cases hs : SpecR l[i]
    · rw [decide_eq_true hs] at hsr
      have hso := t_sone hs hn
      have hri := t_right (oneP l[i] n).1 (oneP l[i] n).2
      generalize hz : oneP l[i] n = z at *
      by_cases hr : RP z.1 z.2
      · rw [decide_eq_true hr] at hri
        have h1 : res1 n l[i] = [z] := by unfold res1; rw [hz, if_pos ⟨hs, hr⟩]
        rw [h1] at hft
        have ih := lp_res l hl n hn k (i + 1) (by omega) (O ++ [z]) hft.symm
        have hl1 : (O ++ [z]).length = O.length + 1 := by simp
        have hm1 : r2 (O ++ [z]) = r2 O ++ [[D.int .i64 z.1, D.int .i64 z.2]] := by simp
        rw [hl1, hm1] at ih
        simp (maxSteps := 2000000) (disch := omega) only [go_sem, doCall, doCallQ, Nat.reduceAdd, Nat.reduceMul, Nat.reduceSub, Nat.reduceDiv, Nat.reduceMod, Nat.reduceLT, Nat.reduceLeDiff, Nat.reduceEqDiff, Nat.reduceBEq, Nat.reduceBNe, Int.reduceToNat, Int.reduceLT, Int.reduceLE, Int.reduceEq, Int.reduceNe, Int.reduceAdd, Int.reduceSub, Int.reduceMul, Int.reduceNeg, u54_0, lb54_0, hlt, hi', hw, hg, hsr, hso, hri, hrl, Int.natCast_nonneg, Int.toNat_natCast, Option.getD_some, Option.getD_none, List.drop_zero, Nat.sub_zero, Nat.zero_le, true_and, and_true, Nat.le_refl, Nat.zero_add, List.length_cons, List.length_nil, chk_of]
        rw [loop_step1]; simp (maxSteps := 2000000) only [go_sem, doCall, doCallQ, Nat.reduceAdd, Nat.reduceMul, Nat.reduceSub, Nat.reduceDiv, Nat.reduceMod, Nat.reduceLT, Nat.reduceLeDiff, Nat.reduceEqDiff, Nat.reduceBEq, Nat.reduceBNe, Int.reduceToNat, Int.reduceLT, Int.reduceLE, Int.reduceEq, Int.reduceNe, Int.reduceAdd, Int.reduceSub, Int.reduceMul, Int.reduceNeg]; exact ih
      · rw [decide_eq_false hr] at hri
        have h1 : res1 n l[i] = [] := by unfold res1; rw [hz, if_neg (fun h => hr h.2)]
        rw [h1, List.append_nil] at hft
        have ih := lp_res l hl n hn k (i + 1) (by omega) O hft.symm
        simp (maxSteps := 2000000) (disch := omega) only [go_sem, doCall, doCallQ, Nat.reduceAdd, Nat.reduceMul, Nat.reduceSub, Nat.reduceDiv, Nat.reduceMod, Nat.reduceLT, Nat.reduceLeDiff, Nat.reduceEqDiff, Nat.reduceBEq, Nat.reduceBNe, Int.reduceToNat, Int.reduceLT, Int.reduceLE, Int.reduceEq, Int.reduceNe, Int.reduceAdd, Int.reduceSub, Int.reduceMul, Int.reduceNeg, u54_0, lb54_0, hlt, hi', hw, hg, hsr, hso, hri, hrl, Int.natCast_nonneg, Int.toNat_natCast, Option.getD_some, Option.getD_none, List.drop_zero, Nat.sub_zero, Nat.zero_le, true_and, and_true, Nat.le_refl, Nat.zero_add, chk_of]
        rw [loop_step1]; simp (maxSteps := 2000000) only [go_sem, doCall, doCallQ, Nat.reduceAdd, Nat.reduceMul, Nat.reduceSub, Nat.reduceDiv, Nat.reduceMod, Nat.reduceLT, Nat.reduceLeDiff, Nat.reduceEqDiff, Nat.reduceBEq, Nat.reduceBNe, Int.reduceToNat, Int.reduceLT, Int.reduceLE, Int.reduceEq, Int.reduceNe, Int.reduceAdd, Int.reduceSub, Int.reduceMul, Int.reduceNeg]; exact ih
    · rw [decide_eq_false hs] at hsr
      have h1 : res1 n l[i] = [] := by unfold res1; rw [if_neg (fun h => hs h.1)]
      rw [h1, List.append_nil] at hft
      have ih := lp_res l hl n hn k (i + 1) (by omega) O hft.symm
      simp (maxSteps := 2000000) (disch := omega) only [go_sem, doCall, doCallQ, Nat.reduceAdd, Nat.reduceMul, Nat.reduceSub, Nat.reduceDiv, Nat.reduceMod, Nat.reduceLT, Nat.reduceLeDiff, Nat.reduceEqDiff, Nat.reduceBEq, Nat.reduceBNe, Int.reduceToNat, Int.reduceLT, Int.reduceLE, Int.reduceEq, Int.reduceNe, Int.reduceAdd, Int.reduceSub, Int.reduceMul, Int.reduceNeg, u54_0, lb54_0, hlt, hi', hw, hg, hsr, hrl, Int.natCast_nonneg, Int.toNat_natCast, Option.getD_some, Option.getD_none, List.drop_zero, Nat.sub_zero, Nat.zero_le, true_and, and_true, Nat.le_refl, Nat.zero_add, chk_of]
      rw [loop_step1]; simp (maxSteps := 2000000) only [go_sem, doCall, doCallQ, Nat.reduceAdd, Nat.reduceMul, Nat.reduceSub, Nat.reduceDiv, Nat.reduceMod, Nat.reduceLT, Nat.reduceLeDiff, Nat.reduceEqDiff, Nat.reduceBEq, Nat.reduceBNe, Int.reduceToNat, Int.reduceLT, Int.reduceLE, Int.reduceEq, Int.reduceNe, Int.reduceAdd, Int.reduceSub, Int.reduceMul, Int.reduceNeg]; exact ih
termination_by l.length - i
theorem t_resolve (l : List Sp3) (hl : l.length ≤ 1000000) (n : Int) : call ir 54 [.d (.list 3 (r3 l)), dI n] [] = some (.own 0 2 0 (resL l n).length false, [.arr 2 (r2 (resL l n))]) := by
  rw [call_eq (fn := ir54) rfl, evF_bnd]
  have hf := t_fits n 1 4611686018427387903
  unfold resL
  by_cases hn : 1 ≤ n ∧ n ≤ 4611686018427387903
  · rw [decide_eq_true hn] at hf
    rw [if_pos hn]
    have hrl := r3_len l
    simp (maxSteps := 2000000) (disch := omega) only [go_sem, doCall, doCallQ, Nat.reduceAdd, Nat.reduceMul, Nat.reduceSub, Nat.reduceDiv, Nat.reduceMod, Nat.reduceLT, Nat.reduceLeDiff, Nat.reduceEqDiff, Nat.reduceBEq, Nat.reduceBNe, Int.reduceToNat, Int.reduceLT, Int.reduceLE, Int.reduceEq, Int.reduceNe, Int.reduceAdd, Int.reduceSub, Int.reduceMul, Int.reduceNeg, bd54, hf, hrl]
    rw [loop_step1]; simp (maxSteps := 2000000) only [go_sem, doCall, doCallQ, Nat.reduceAdd, Nat.reduceMul, Nat.reduceSub, Nat.reduceDiv, Nat.reduceMod, Nat.reduceLT, Nat.reduceLeDiff, Nat.reduceEqDiff, Nat.reduceBEq, Nat.reduceBNe, Int.reduceToNat, Int.reduceLT, Int.reduceLE, Int.reduceEq, Int.reduceNe, Int.reduceAdd, Int.reduceSub, Int.reduceMul, Int.reduceNeg]
    have h0 := fun k => lp_res l hl n hn k 0 (by omega) [] rfl
    simp only [List.length_nil, List.map_nil] at h0
    refine Eq.trans (h0 _) ?_
    simp (maxSteps := 2000000) only [go_sem, doCall, doCallQ, Nat.reduceAdd, Nat.reduceMul, Nat.reduceSub, Nat.reduceDiv, Nat.reduceMod, Nat.reduceLT, Nat.reduceLeDiff, Nat.reduceEqDiff, Nat.reduceBEq, Nat.reduceBNe, Int.reduceToNat, Int.reduceLT, Int.reduceLE, Int.reduceEq, Int.reduceNe, Int.reduceAdd, Int.reduceSub, Int.reduceMul, Int.reduceNeg]
  · rw [decide_eq_false hn] at hf
    rw [if_neg hn]
    simp (maxSteps := 2000000) (disch := omega) only [go_sem, doCall, doCallQ, Nat.reduceAdd, Nat.reduceMul, Nat.reduceSub, Nat.reduceDiv, Nat.reduceMod, Nat.reduceLT, Nat.reduceLeDiff, Nat.reduceEqDiff, Nat.reduceBEq, Nat.reduceBNe, Int.reduceToNat, Int.reduceLT, Int.reduceLE, Int.reduceEq, Int.reduceNe, Int.reduceAdd, Int.reduceSub, Int.reduceMul, Int.reduceNeg, bd54, hf, List.length_nil, List.map_nil]
theorem lp_rres (l : List Sp3) (hl : l.length ≤ 1000000) (n : Int) (hn : 1 ≤ n ∧ n ≤ 4611686018427387903) (k : Ex → St → Option (AV × Heap)) (i : Nat) (hi : i ≤ l.length) (O : List (Int × Int)) (hO : O = (l.take i).flatMap (res1 n)) :
    (bnd (evC (call ir) (loop ir) lp30_0 (st30_0 0 (dI n) (.own 0 2 0 O.length false) (.d (.list 3 (r3 l))) (dI l.length) (dI i) [.arr 2 (r2 O)])) (lpC (call ir) (loop ir) [1, 5, 16, 17, 18] lp30_0 k)) = k (.exit 0) (clean [5] (st30_0 0 .unk (.own 0 2 0 (l.flatMap (res1 n)).length false) .unk .unk .unk [.arr 2 (r2 (l.flatMap (res1 n)))])) := by
  by_cases h : i = l.length
  · have hx : ¬ (i : Int) < l.length := by omega
    rw [h] at hx hO
    rw [List.take_length] at hO
    rw [h, ← hO]
    simp (maxSteps := 2000000) (disch := omega) only [go_sem, doCall, doCallQ, Nat.reduceAdd, Nat.reduceMul, Nat.reduceSub, Nat.reduceDiv, Nat.reduceMod, Nat.reduceLT, Nat.reduceLeDiff, Nat.reduceEqDiff, Nat.reduceBEq, Nat.reduceBNe, Int.reduceToNat, Int.reduceLT, Int.reduceLE, Int.reduceEq, Int.reduceNe, Int.reduceAdd, Int.reduceSub, Int.reduceMul, Int.reduceNeg, u30_0, lb30_0, hx]
  · have hlt : (i : Int) < l.length := by omega
    have hi' : i < l.length := by omega
    have hw := wr_succ (i := i) (by omega)
    have hg := get_r3 l i hi'
    have hsr := t_rspecRight l[i]
    have hOl : O.length ≤ i := by rw [hO]; exact Nat.le_trans (fm_len n _) (by rw [List.length_take]; omega)
    have hft := fm_take (n := n) hi'
    rw [← hO] at hft
    have hrl := r2_len O
    by_cases hs : SpecR l[i]
    · rw [decide_eq_true hs] at hsr
      have hri := t_rright (oneP l[i] n).1 (oneP l[i] n).2
      have w1 : wr .i64 (n - 1) = n - 1 := wr_id (by omega)
      have key : ∀ z, oneP l[i] n = z → (∀ v : Nat, True) → (RP z.1 z.2 → bnd (evC (call ir) (loop ir) lp30_0 (st30_0 0 (dI n) (.own 0 2 0 (O.length + 1) false) (.d (.list 3 (r3 l))) (dI l.length) (dI (i + 1 : Nat)) [.arr 2 (r2 O ++ [[D.int .i64 z.1, D.int .i64 z.2]])])) (lpC (call ir) (loop ir) [1, 5, 16, 17, 18] lp30_0 k) = k (.exit 0) (clean [5] (st30_0 0 .unk (.own 0 2 0 (l.flatMap (res1 n)).length false) .unk .unk .unk [.arr 2 (r2 (l.flatMap (res1 n)))]))) ∧
          (¬ RP z.1 z.2 → bnd (evC (call ir) (loop ir) lp30_0 (st30_0 0 (dI n) (.own 0 2 0 O.length false) (.d (.list 3 (r3 l))) (dI l.length) (dI (i + 1 : Nat)) [.arr 2 (r2 O)])) (lpC (call ir) (loop ir) [1, 5, 16, 17, 18] lp30_0 k) = k (.exit 0) (clean [5] (st30_0 0 .unk (.own 0 2 0 (l.flatMap (res1 n)).length false) .unk .unk .unk [.arr 2 (r2 (l.flatMap (res1 n)))]))) := by
        intro z hz _
        refine ⟨fun hr => ?_, fun hr => ?_⟩
        · have h1 : res1 n l[i] = [z] := by unfold res1; rw [hz, if_pos ⟨hs, hr⟩]
          rw [h1] at hft
          have ih := lp_rres l hl n hn k (i + 1) (by omega) (O ++ [z]) hft.symm
          have hl1 : (O ++ [z]).length = O.length + 1 := by simp
          have hm1 : r2 (O ++ [z]) = r2 O ++ [[D.int .i64 z.1, D.int .i64 z.2]] := by simp
          rw [hl1, hm1] at ih
          exact ih
        · have h1 : res1 n l[i] = [] := by unfold res1; rw [hz, if_neg (fun h => hr h.2)]
          rw [h1, List.append_nil] at hft
          exact lp_rres l hl n hn k (i + 1) (by omega) O hft.symm
      have hs' := hs
      rcases hs' with ⟨h0, ⟨h1, h2⟩ | ⟨h1, h2⟩ | ⟨h1, h2⟩⟩
      · have hc1 := eq_true h1
        have hc3 := eq_false (show ¬ l[i].1 = 3 by omega)
        have hz : oneP l[i] n = (l[i].2.1, min l[i].2.2 (n - 1) + 1) := by unfold oneP; rw [if_neg (by omega), if_pos h1]
        obtain ⟨k1, k2⟩ := key _ hz (fun _ => trivial)
        rw [hz] at hri
        by_cases h3 : l[i].2.2 < n - 1
        · have hm : min l[i].2.2 (n - 1) + 1 = l[i].2.2 + 1 := by omega
          have w2 : wr .i64 (l[i].2.2 + 1) = l[i].2.2 + 1 := wr_id (by omega)
          simp only [hm] at k1 k2 hri
          by_cases hr : RP l[i].2.1 (l[i].2.2 + 1)
          · rw [decide_eq_true hr] at hri
            simp (maxSteps := 2000000) (disch := omega) only [go_sem, doCall, doCallQ, Nat.reduceAdd, Nat.reduceMul, Nat.reduceSub, Nat.reduceDiv, Nat.reduceMod, Nat.reduceLT, Nat.reduceLeDiff, Nat.reduceEqDiff, Nat.reduceBEq, Nat.reduceBNe, Int.reduceToNat, Int.reduceLT, Int.reduceLE, Int.reduceEq, Int.reduceNe, Int.reduceAdd, Int.reduceSub, Int.reduceMul, Int.reduceNeg, u30_0, lb30_0, hlt, hi', hw, hg, hsr, w1, w2, hc1, hc3, h3, hri, hrl, Int.natCast_nonneg, Int.toNat_natCast, Option.getD_some, Option.getD_none, List.drop_zero, Nat.sub_zero, Nat.zero_le, true_and, and_true, Nat.le_refl, Nat.zero_add, List.length_cons, List.length_nil, chk_of]
            rw [loop_step1]; simp (maxSteps := 2000000) only [go_sem, doCall, doCallQ, Nat.reduceAdd, Nat.reduceMul, Nat.reduceSub, Nat.reduceDiv, Nat.reduceMod, Nat.reduceLT, Nat.reduceLeDiff, Nat.reduceEqDiff, Nat.reduceBEq, Nat.reduceBNe, Int.reduceToNat, Int.reduceLT, Int.reduceLE, Int.reduceEq, Int.reduceNe, Int.reduceAdd, Int.reduceSub, Int.reduceMul, Int.reduceNeg]; exact k1 hr
          · rw [decide_eq_false hr] at hri
            simp (maxSteps := 2000000) (disch := omega) only [go_sem, doCall, doCallQ, Nat.reduceAdd, Nat.reduceMul, Nat.reduceSub, Nat.reduceDiv, Nat.reduceMod, Nat.reduceLT, Nat.reduceLeDiff, Nat.reduceEqDiff, Nat.reduceBEq, Nat.reduceBNe, Int.reduceToNat, Int.reduceLT, Int.reduceLE, Int.reduceEq, Int.reduceNe, Int.reduceAdd, Int.reduceSub, Int.reduceMul, Int.reduceNeg, u30_0, lb30_0, hlt, hi', hw, hg, hsr, w1, w2, hc1, hc3, h3, hri, hrl, Int.natCast_nonneg, Int.toNat_natCast, Option.getD_some, Option.getD_none, List.drop_zero, Nat.sub_zero, Nat.zero_le, true_and, and_true, Nat.le_refl, Nat.zero_add, List.length_cons, List.length_nil, chk_of]
            rw [loop_step1]; simp (maxSteps := 2000000) only [go_sem, doCall, doCallQ, Nat.reduceAdd, Nat.reduceMul, Nat.reduceSub, Nat.reduceDiv, Nat.reduceMod, Nat.reduceLT, Nat.reduceLeDiff, Nat.reduceEqDiff, Nat.reduceBEq, Nat.reduceBNe, Int.reduceToNat, Int.reduceLT, Int.reduceLE, Int.reduceEq, Int.reduceNe, Int.reduceAdd, Int.reduceSub, Int.reduceMul, Int.reduceNeg]; exact k2 hr
        · have hm : min l[i].2.2 (n - 1) + 1 = n := by omega
          simp only [hm] at k1 k2 hri
          by_cases hr : RP l[i].2.1 n
          · rw [decide_eq_true hr] at hri
            simp (maxSteps := 2000000) (disch := omega) only [go_sem, doCall, doCallQ, Nat.reduceAdd, Nat.reduceMul, Nat.reduceSub, Nat.reduceDiv, Nat.reduceMod, Nat.reduceLT, Nat.reduceLeDiff, Nat.reduceEqDiff, Nat.reduceBEq, Nat.reduceBNe, Int.reduceToNat, Int.reduceLT, Int.reduceLE, Int.reduceEq, Int.reduceNe, Int.reduceAdd, Int.reduceSub, Int.reduceMul, Int.reduceNeg, u30_0, lb30_0, hlt, hi', hw, hg, hsr, w1, hc1, hc3, h3, hri, hrl, Int.natCast_nonneg, Int.toNat_natCast, Option.getD_some, Option.getD_none, List.drop_zero, Nat.sub_zero, Nat.zero_le, true_and, and_true, Nat.le_refl, Nat.zero_add, List.length_cons, List.length_nil, chk_of]
            rw [loop_step1]; simp (maxSteps := 2000000) only [go_sem, doCall, doCallQ, Nat.reduceAdd, Nat.reduceMul, Nat.reduceSub, Nat.reduceDiv, Nat.reduceMod, Nat.reduceLT, Nat.reduceLeDiff, Nat.reduceEqDiff, Nat.reduceBEq, Nat.reduceBNe, Int.reduceToNat, Int.reduceLT, Int.reduceLE, Int.reduceEq, Int.reduceNe, Int.reduceAdd, Int.reduceSub, Int.reduceMul, Int.reduceNeg]; exact k1 hr
          · rw [decide_eq_false hr] at hri
            simp (maxSteps := 2000000) (disch := omega) only [go_sem, doCall, doCallQ, Nat.reduceAdd, Nat.reduceMul, Nat.reduceSub, Nat.reduceDiv, Nat.reduceMod, Nat.reduceLT, Nat.reduceLeDiff, Nat.reduceEqDiff, Nat.reduceBEq, Nat.reduceBNe, Int.reduceToNat, Int.reduceLT, Int.reduceLE, Int.reduceEq, Int.reduceNe, Int.reduceAdd, Int.reduceSub, Int.reduceMul, Int.reduceNeg, u30_0, lb30_0, hlt, hi', hw, hg, hsr, w1, hc1, hc3, h3, hri, hrl, Int.natCast_nonneg, Int.toNat_natCast, Option.getD_some, Option.getD_none, List.drop_zero, Nat.sub_zero, Nat.zero_le, true_and, and_true, Nat.le_refl, Nat.zero_add, List.length_cons, List.length_nil, chk_of]
            rw [loop_step1]; simp (maxSteps := 2000000) only [go_sem, doCall, doCallQ, Nat.reduceAdd, Nat.reduceMul, Nat.reduceSub, Nat.reduceDiv, Nat.reduceMod, Nat.reduceLT, Nat.reduceLeDiff, Nat.reduceEqDiff, Nat.reduceBEq, Nat.reduceBNe, Int.reduceToNat, Int.reduceLT, Int.reduceLE, Int.reduceEq, Int.reduceNe, Int.reduceAdd, Int.reduceSub, Int.reduceMul, Int.reduceNeg]; exact k2 hr
      · have hc1 := eq_false (show ¬ l[i].1 = 2 by omega)
        have hc3 := eq_false (show ¬ l[i].1 = 3 by omega)
        have hz : oneP l[i] n = (l[i].2.1, n) := by unfold oneP; rw [if_pos h1]
        obtain ⟨k1, k2⟩ := key _ hz (fun _ => trivial)
        rw [hz] at hri
        simp only at k1 k2 hri
        by_cases hr : RP l[i].2.1 n
        · rw [decide_eq_true hr] at hri
          simp (maxSteps := 2000000) (disch := omega) only [go_sem, doCall, doCallQ, Nat.reduceAdd, Nat.reduceMul, Nat.reduceSub, Nat.reduceDiv, Nat.reduceMod, Nat.reduceLT, Nat.reduceLeDiff, Nat.reduceEqDiff, Nat.reduceBEq, Nat.reduceBNe, Int.reduceToNat, Int.reduceLT, Int.reduceLE, Int.reduceEq, Int.reduceNe, Int.reduceAdd, Int.reduceSub, Int.reduceMul, Int.reduceNeg, u30_0, lb30_0, hlt, hi', hw, hg, hsr, w1, hc1, hc3, hri, hrl, Int.natCast_nonneg, Int.toNat_natCast, Option.getD_some, Option.getD_none, List.drop_zero, Nat.sub_zero, Nat.zero_le, true_and, and_true, Nat.le_refl, Nat.zero_add, List.length_cons, List.length_nil, chk_of]
          rw [loop_step1]; simp (maxSteps := 2000000) only [go_sem, doCall, doCallQ, Nat.reduceAdd, Nat.reduceMul, Nat.reduceSub, Nat.reduceDiv, Nat.reduceMod, Nat.reduceLT, Nat.reduceLeDiff, Nat.reduceEqDiff, Nat.reduceBEq, Nat.reduceBNe, Int.reduceToNat, Int.reduceLT, Int.reduceLE, Int.reduceEq, Int.reduceNe, Int.reduceAdd, Int.reduceSub, Int.reduceMul, Int.reduceNeg]; exact k1 hr
        · rw [decide_eq_false hr] at hri
          simp (maxSteps := 2000000) (disch := omega) only [go_sem, doCall, doCallQ, Nat.reduceAdd, Nat.reduceMul, Nat.reduceSub, Nat.reduceDiv, Nat.reduceMod, Nat.reduceLT, Nat.reduceLeDiff, Nat.reduceEqDiff, Nat.reduceBEq, Nat.reduceBNe, Int.reduceToNat, Int.reduceLT, Int.reduceLE, Int.reduceEq, Int.reduceNe, Int.reduceAdd, Int.reduceSub, Int.reduceMul, Int.reduceNeg, u30_0, lb30_0, hlt, hi', hw, hg, hsr, w1, hc1, hc3, hri, hrl, Int.natCast_nonneg, Int.toNat_natCast, Option.getD_some, Option.getD_none, List.drop_zero, Nat.sub_zero, Nat.zero_le, true_and, and_true, Nat.le_refl, Nat.zero_add, List.length_cons, List.length_nil, chk_of]
          rw [loop_step1]; simp (maxSteps := 2000000) only [go_sem, doCall, doCallQ, Nat.reduceAdd, Nat.reduceMul, Nat.reduceSub, Nat.reduceDiv, Nat.reduceMod, Nat.reduceLT, Nat.reduceLeDiff, Nat.reduceEqDiff, Nat.reduceBEq, Nat.reduceBNe, Int.reduceToNat, Int.reduceLT, Int.reduceLE, Int.reduceEq, Int.reduceNe, Int.reduceAdd, Int.reduceSub, Int.reduceMul, Int.reduceNeg]; exact k2 hr
      · have hc1 := eq_false (show ¬ l[i].1 = 2 by omega)
        have hc3 := eq_true (show l[i].1 = 3 by omega)
        have hz : oneP l[i] n = (n - min l[i].2.1 n, n) := by unfold oneP; rw [if_neg (by omega), if_neg (by omega)]
        obtain ⟨k1, k2⟩ := key _ hz (fun _ => trivial)
        rw [hz] at hri
        by_cases h3 : l[i].2.1 < n
        · have hm : n - min l[i].2.1 n = n - l[i].2.1 := by omega
          have w2 : wr .i64 (n - l[i].2.1) = n - l[i].2.1 := wr_id (by omega)
          simp only [hm] at k1 k2 hri
          by_cases hr : RP (n - l[i].2.1) n
          · rw [decide_eq_true hr] at hri
            simp (maxSteps := 2000000) (disch := omega) only [go_sem, doCall, doCallQ, Nat.reduceAdd, Nat.reduceMul, Nat.reduceSub, Nat.reduceDiv, Nat.reduceMod, Nat.reduceLT, Nat.reduceLeDiff, Nat.reduceEqDiff, Nat.reduceBEq, Nat.reduceBNe, Int.reduceToNat, Int.reduceLT, Int.reduceLE, Int.reduceEq, Int.reduceNe, Int.reduceAdd, Int.reduceSub, Int.reduceMul, Int.reduceNeg, u30_0, lb30_0, hlt, hi', hw, hg, hsr, w1, w2, hc1, hc3, h3, hri, hrl, Int.natCast_nonneg, Int.toNat_natCast, Option.getD_some, Option.getD_none, List.drop_zero, Nat.sub_zero, Nat.zero_le, true_and, and_true, Nat.le_refl, Nat.zero_add, List.length_cons, List.length_nil, chk_of]
            rw [loop_step1]; simp (maxSteps := 2000000) only [go_sem, doCall, doCallQ, Nat.reduceAdd, Nat.reduceMul, Nat.reduceSub, Nat.reduceDiv, Nat.reduceMod, Nat.reduceLT, Nat.reduceLeDiff, Nat.reduceEqDiff, Nat.reduceBEq, Nat.reduceBNe, Int.reduceToNat, Int.reduceLT, Int.reduceLE, Int.reduceEq, Int.reduceNe, Int.reduceAdd, Int.reduceSub, Int.reduceMul, Int.reduceNeg]; exact k1 hr
          · rw [decide_eq_false hr] at hri
            simp (maxSteps := 2000000) (disch := omega) only [go_sem, doCall, doCallQ, Nat.reduceAdd, Nat.reduceMul, Nat.reduceSub, Nat.reduceDiv, Nat.reduceMod, Nat.reduceLT, Nat.reduceLeDiff, Nat.reduceEqDiff, Nat.reduceBEq, Nat.reduceBNe, Int.reduceToNat, Int.reduceLT, Int.reduceLE, Int.reduceEq, Int.reduceNe, Int.reduceAdd, Int.reduceSub, Int.reduceMul, Int.reduceNeg, u30_0, lb30_0, hlt, hi', hw, hg, hsr, w1, w2, hc1, hc3, h3, hri, hrl, Int.natCast_nonneg, Int.toNat_natCast, Option.getD_some, Option.getD_none, List.drop_zero, Nat.sub_zero, Nat.zero_le, true_and, and_true, Nat.le_refl, Nat.zero_add, List.length_cons, List.length_nil, chk_of]
            rw [loop_step1]; simp (maxSteps := 2000000) only [go_sem, doCall, doCallQ, Nat.reduceAdd, Nat.reduceMul, Nat.reduceSub, Nat.reduceDiv, Nat.reduceMod, Nat.reduceLT, Nat.reduceLeDiff, Nat.reduceEqDiff, Nat.reduceBEq, Nat.reduceBNe, Int.reduceToNat, Int.reduceLT, Int.reduceLE, Int.reduceEq, Int.reduceNe, Int.reduceAdd, Int.reduceSub, Int.reduceMul, Int.reduceNeg]; exact k2 hr
        · have hm : n - min l[i].2.1 n = 0 := by omega
          simp only [hm] at k1 k2 hri
          by_cases hr : RP 0 n
          · rw [decide_eq_true hr] at hri
            simp (maxSteps := 2000000) (disch := omega) only [go_sem, doCall, doCallQ, Nat.reduceAdd, Nat.reduceMul, Nat.reduceSub, Nat.reduceDiv, Nat.reduceMod, Nat.reduceLT, Nat.reduceLeDiff, Nat.reduceEqDiff, Nat.reduceBEq, Nat.reduceBNe, Int.reduceToNat, Int.reduceLT, Int.reduceLE, Int.reduceEq, Int.reduceNe, Int.reduceAdd, Int.reduceSub, Int.reduceMul, Int.reduceNeg, u30_0, lb30_0, hlt, hi', hw, hg, hsr, w1, hc1, hc3, h3, hri, hrl, Int.natCast_nonneg, Int.toNat_natCast, Option.getD_some, Option.getD_none, List.drop_zero, Nat.sub_zero, Nat.zero_le, true_and, and_true, Nat.le_refl, Nat.zero_add, List.length_cons, List.length_nil, chk_of]
            rw [loop_step1]; simp (maxSteps := 2000000) only [go_sem, doCall, doCallQ, Nat.reduceAdd, Nat.reduceMul, Nat.reduceSub, Nat.reduceDiv, Nat.reduceMod, Nat.reduceLT, Nat.reduceLeDiff, Nat.reduceEqDiff, Nat.reduceBEq, Nat.reduceBNe, Int.reduceToNat, Int.reduceLT, Int.reduceLE, Int.reduceEq, Int.reduceNe, Int.reduceAdd, Int.reduceSub, Int.reduceMul, Int.reduceNeg]; exact k1 hr
          · rw [decide_eq_false hr] at hri
            simp (maxSteps := 2000000) (disch := omega) only [go_sem, doCall, doCallQ, Nat.reduceAdd, Nat.reduceMul, Nat.reduceSub, Nat.reduceDiv, Nat.reduceMod, Nat.reduceLT, Nat.reduceLeDiff, Nat.reduceEqDiff, Nat.reduceBEq, Nat.reduceBNe, Int.reduceToNat, Int.reduceLT, Int.reduceLE, Int.reduceEq, Int.reduceNe, Int.reduceAdd, Int.reduceSub, Int.reduceMul, Int.reduceNeg, u30_0, lb30_0, hlt, hi', hw, hg, hsr, w1, hc1, hc3, h3, hri, hrl, Int.natCast_nonneg, Int.toNat_natCast, Option.getD_some, Option.getD_none, List.drop_zero, Nat.sub_zero, Nat.zero_le, true_and, and_true, Nat.le_refl, Nat.zero_add, List.length_cons, List.length_nil, chk_of]
            rw [loop_step1]; simp (maxSteps := 2000000) only [go_sem, doCall, doCallQ, Nat.reduceAdd, Nat.reduceMul, Nat.reduceSub, Nat.reduceDiv, Nat.reduceMod, Nat.reduceLT, Nat.reduceLeDiff, Nat.reduceEqDiff, Nat.reduceBEq, Nat.reduceBNe, Int.reduceToNat, Int.reduceLT, Int.reduceLE, Int.reduceEq, Int.reduceNe, Int.reduceAdd, Int.reduceSub, Int.reduceMul, Int.reduceNeg]; exact k2 hr
    · rw [decide_eq_false hs] at hsr
      have h1 : res1 n l[i] = [] := by unfold res1; rw [if_neg (fun h => hs h.1)]
      rw [h1, List.append_nil] at hft
      have ih := lp_rres l hl n hn k (i + 1) (by omega) O hft.symm
      simp (maxSteps := 2000000) (disch := omega) only [go_sem, doCall, doCallQ, Nat.reduceAdd, Nat.reduceMul, Nat.reduceSub, Nat.reduceDiv, Nat.reduceMod, Nat.reduceLT, Nat.reduceLeDiff, Nat.reduceEqDiff, Nat.reduceBEq, Nat.reduceBNe, Int.reduceToNat, Int.reduceLT, Int.reduceLE, Int.reduceEq, Int.reduceNe, Int.reduceAdd, Int.reduceSub, Int.reduceMul, Int.reduceNeg, u30_0, lb30_0, hlt, hi', hw, hg, hsr, hrl, Int.natCast_nonneg, Int.toNat_natCast, Option.getD_some, Option.getD_none, List.drop_zero, Nat.sub_zero, Nat.zero_le, true_and, and_true, Nat.le_refl, Nat.zero_add, chk_of]
      rw [loop_step1]; simp (maxSteps := 2000000) only [go_sem, doCall, doCallQ, Nat.reduceAdd, Nat.reduceMul, Nat.reduceSub, Nat.reduceDiv, Nat.reduceMod, Nat.reduceLT, Nat.reduceLeDiff, Nat.reduceEqDiff, Nat.reduceBEq, Nat.reduceBNe, Int.reduceToNat, Int.reduceLT, Int.reduceLE, Int.reduceEq, Int.reduceNe, Int.reduceAdd, Int.reduceSub, Int.reduceMul, Int.reduceNeg]; exact ih
termination_by l.length - i
theorem t_rresolve (l : List Sp3) (hl : l.length ≤ 1000000) (n : Int) : call ir 30 [.d (.list 3 (r3 l)), dI n] [] = some (.own 0 2 0 (resL l n).length false, [.arr 2 (r2 (resL l n))]) := by
  rw [call_eq (fn := ir30) rfl, evF_bnd]
  unfold resL
  by_cases hn : 1 ≤ n ∧ n ≤ 4611686018427387903
  · rw [if_pos hn]
    have h1 : ¬ n < 1 := by omega
    have h2 : ¬ (4611686018427387903 : Int) < n := by omega
    have hrl := r3_len l
    simp (maxSteps := 2000000) (disch := omega) only [go_sem, doCall, doCallQ, Nat.reduceAdd, Nat.reduceMul, Nat.reduceSub, Nat.reduceDiv, Nat.reduceMod, Nat.reduceLT, Nat.reduceLeDiff, Nat.reduceEqDiff, Nat.reduceBEq, Nat.reduceBNe, Int.reduceToNat, Int.reduceLT, Int.reduceLE, Int.reduceEq, Int.reduceNe, Int.reduceAdd, Int.reduceSub, Int.reduceMul, Int.reduceNeg, bd30, h1, h2, hrl]
    rw [loop_step1]; simp (maxSteps := 2000000) only [go_sem, doCall, doCallQ, Nat.reduceAdd, Nat.reduceMul, Nat.reduceSub, Nat.reduceDiv, Nat.reduceMod, Nat.reduceLT, Nat.reduceLeDiff, Nat.reduceEqDiff, Nat.reduceBEq, Nat.reduceBNe, Int.reduceToNat, Int.reduceLT, Int.reduceLE, Int.reduceEq, Int.reduceNe, Int.reduceAdd, Int.reduceSub, Int.reduceMul, Int.reduceNeg]
    have h0 := fun k => lp_rres l hl n hn k 0 (by omega) [] rfl
    simp only [List.length_nil, List.map_nil] at h0
    refine Eq.trans (h0 _) ?_
    simp (maxSteps := 2000000) only [go_sem, doCall, doCallQ, Nat.reduceAdd, Nat.reduceMul, Nat.reduceSub, Nat.reduceDiv, Nat.reduceMod, Nat.reduceLT, Nat.reduceLeDiff, Nat.reduceEqDiff, Nat.reduceBEq, Nat.reduceBNe, Int.reduceToNat, Int.reduceLT, Int.reduceLE, Int.reduceEq, Int.reduceNe, Int.reduceAdd, Int.reduceSub, Int.reduceMul, Int.reduceNeg]
  · rw [if_neg hn]
    by_cases h1 : n < 1
    · simp (maxSteps := 2000000) (disch := omega) only [go_sem, doCall, doCallQ, Nat.reduceAdd, Nat.reduceMul, Nat.reduceSub, Nat.reduceDiv, Nat.reduceMod, Nat.reduceLT, Nat.reduceLeDiff, Nat.reduceEqDiff, Nat.reduceBEq, Nat.reduceBNe, Int.reduceToNat, Int.reduceLT, Int.reduceLE, Int.reduceEq, Int.reduceNe, Int.reduceAdd, Int.reduceSub, Int.reduceMul, Int.reduceNeg, bd30, h1, List.length_nil, List.map_nil]
    · have h2 : (4611686018427387903 : Int) < n := by omega
      simp (maxSteps := 2000000) (disch := omega) only [go_sem, doCall, doCallQ, Nat.reduceAdd, Nat.reduceMul, Nat.reduceSub, Nat.reduceDiv, Nat.reduceMod, Nat.reduceLT, Nat.reduceLeDiff, Nat.reduceEqDiff, Nat.reduceBEq, Nat.reduceBNe, Int.reduceToNat, Int.reduceLT, Int.reduceLE, Int.reduceEq, Int.reduceNe, Int.reduceAdd, Int.reduceSub, Int.reduceMul, Int.reduceNeg, bd30, h1, h2, List.length_nil, List.map_nil]
end Go.Proofs.YtpibecljdooilaaDoor
namespace Go.Proofs.YtpibecljdooilaaDoor
open Go Go.Ev Go.Proofs.YtpibecljdooilaaDoor.Ir Go.Prs
set_option maxRecDepth 100000
set_option maxHeartbeats 4000000
set_option linter.unusedSimpArgs false
set_option linter.unusedVariables false
def mayB (b : UInt8) : Bool := decide (128 ≤ b.toNat ∨ b.toNat = 33 ∨ (b.toNat ≠ 127 ∧ 35 ≤ b.toNat))
theorem t_may (b : UInt8) : call ir 135 [dB b] [] = some (dT (mayB b), []) := by
  rw [call_eq (fn := ir135) rfl, evF_bnd]
  unfold mayB
  by_cases h1 : 128 ≤ b.toNat
  · have h1' : (128 : Int) ≤ b.toNat := by omega
    rw [decide_eq_true (.inl h1)]
    simp (maxSteps := 2000000) (disch := omega) only [go_sem, doCall, doCallQ, Nat.reduceAdd, Nat.reduceMul, Nat.reduceSub, Nat.reduceDiv, Nat.reduceMod, Nat.reduceLT, Nat.reduceLeDiff, Nat.reduceEqDiff, Nat.reduceBEq, Nat.reduceBNe, Int.reduceToNat, Int.reduceLT, Int.reduceLE, Int.reduceEq, Int.reduceNe, Int.reduceAdd, Int.reduceSub, Int.reduceMul, Int.reduceNeg, bd135, h1']
  · have h1' : ¬ (128 : Int) ≤ b.toNat := by omega
    by_cases h2 : b.toNat = 33
    · have h2' := eq_true (show (b.toNat : Int) = 33 by omega)
      rw [decide_eq_true (.inr (.inl h2))]
      simp (maxSteps := 2000000) (disch := omega) only [go_sem, doCall, doCallQ, Nat.reduceAdd, Nat.reduceMul, Nat.reduceSub, Nat.reduceDiv, Nat.reduceMod, Nat.reduceLT, Nat.reduceLeDiff, Nat.reduceEqDiff, Nat.reduceBEq, Nat.reduceBNe, Int.reduceToNat, Int.reduceLT, Int.reduceLE, Int.reduceEq, Int.reduceNe, Int.reduceAdd, Int.reduceSub, Int.reduceMul, Int.reduceNeg, bd135, h1', h2']
    · have h2' := eq_false (show ¬ (b.toNat : Int) = 33 by omega)
      by_cases h3 : b.toNat = 127
      · have h3' := eq_true (show (b.toNat : Int) = 127 by omega)
        rw [decide_eq_false (by omega)]
        simp (maxSteps := 2000000) (disch := omega) only [go_sem, doCall, doCallQ, Nat.reduceAdd, Nat.reduceMul, Nat.reduceSub, Nat.reduceDiv, Nat.reduceMod, Nat.reduceLT, Nat.reduceLeDiff, Nat.reduceEqDiff, Nat.reduceBEq, Nat.reduceBNe, Int.reduceToNat, Int.reduceLT, Int.reduceLE, Int.reduceEq, Int.reduceNe, Int.reduceAdd, Int.reduceSub, Int.reduceMul, Int.reduceNeg, bd135, h1', h2', h3']
      · have h3' := eq_false (show ¬ (b.toNat : Int) = 127 by omega)
        simp (maxSteps := 2000000) (disch := omega) only [go_sem, doCall, doCallQ, Nat.reduceAdd, Nat.reduceMul, Nat.reduceSub, Nat.reduceDiv, Nat.reduceMod, Nat.reduceLT, Nat.reduceLeDiff, Nat.reduceEqDiff, Nat.reduceBEq, Nat.reduceBNe, Int.reduceToNat, Int.reduceLT, Int.reduceLE, Int.reduceEq, Int.reduceNe, Int.reduceAdd, Int.reduceSub, Int.reduceMul, Int.reduceNeg, bd135, h1', h2', h3']
        apply dec_eq; omega
def plainT (s : List UInt8) : Bool := s.all mayB
theorem plain_drop {s : List UInt8} {i : Nat} (hi : i < s.length) : plainT (s.drop i) = (mayB s[i] && plainT (s.drop (i + 1))) := by
  unfold plainT; rw [List.drop_eq_getElem_cons hi]; rfl
theorem lp_plain (s : List UInt8) (hs : s.length ≤ 1000000000) (k : Ex → St → Option (AV × Heap)) (i : Nat) (hi : i ≤ s.length) :
    (bnd (evC (call ir) (loop ir) lp115_0 (st115_0 0 (dS s) (dI s.length) (dI i) [])) (lpC (call ir) (loop ir) [0, 5, 6] lp115_0 k)) = (if plainT (s.drop i) then k (.exit 0) (clean [] (st115_0 0 .unk .unk .unk []))
      else k .ret (clean [2] ⟨0, [.unk, .unk, dT false, .unk, .unk, .unk, .unk, .unk, .unk, .unk, .unk, .unk, .unk, .unk, .unk], []⟩)) := by
  by_cases h : i = s.length
  · have hx : ¬ (i : Int) < s.length := by omega
    rw [h] at hx
    rw [h, List.drop_length]
    simp only [plainT, List.all_nil, if_true]
    simp (maxSteps := 2000000) (disch := omega) only [go_sem, doCall, doCallQ, Nat.reduceAdd, Nat.reduceMul, Nat.reduceSub, Nat.reduceDiv, Nat.reduceMod, Nat.reduceLT, Nat.reduceLeDiff, Nat.reduceEqDiff, Nat.reduceBEq, Nat.reduceBNe, Int.reduceToNat, Int.reduceLT, Int.reduceLE, Int.reduceEq, Int.reduceNe, Int.reduceAdd, Int.reduceSub, Int.reduceMul, Int.reduceNeg, u115_0, lb115_0, hx]
  · have hlt : (i : Int) < s.length := by omega
    have hi' : i < s.length := by omega
    have hw := wr_succ (i := i) (by omega)
    have hg := g8 hi'
    have h1 := t_may s[i]
    rw [plain_drop hi']
    cases hd : mayB s[i]
    · rw [hd] at h1
      rw [if_neg (by simp)]
      simp (maxSteps := 2000000) (disch := omega) only [go_sem, doCall, doCallQ, Nat.reduceAdd, Nat.reduceMul, Nat.reduceSub, Nat.reduceDiv, Nat.reduceMod, Nat.reduceLT, Nat.reduceLeDiff, Nat.reduceEqDiff, Nat.reduceBEq, Nat.reduceBNe, Int.reduceToNat, Int.reduceLT, Int.reduceLE, Int.reduceEq, Int.reduceNe, Int.reduceAdd, Int.reduceSub, Int.reduceMul, Int.reduceNeg, u115_0, lb115_0, hlt, hi', hw, hg, h1, Int.natCast_nonneg, Int.toNat_natCast, Option.getD_some, Option.getD_none, List.drop_zero, Nat.sub_zero, Nat.zero_le, true_and, and_true, Nat.le_refl, chk_of]
    · rw [hd] at h1
      rw [Bool.true_and]
      have ih := lp_plain s hs k (i + 1) (by omega)
      simp (maxSteps := 2000000) (disch := omega) only [go_sem, doCall, doCallQ, Nat.reduceAdd, Nat.reduceMul, Nat.reduceSub, Nat.reduceDiv, Nat.reduceMod, Nat.reduceLT, Nat.reduceLeDiff, Nat.reduceEqDiff, Nat.reduceBEq, Nat.reduceBNe, Int.reduceToNat, Int.reduceLT, Int.reduceLE, Int.reduceEq, Int.reduceNe, Int.reduceAdd, Int.reduceSub, Int.reduceMul, Int.reduceNeg, u115_0, lb115_0, hlt, hi', hw, hg, h1, Int.natCast_nonneg, Int.toNat_natCast, Option.getD_some, Option.getD_none, List.drop_zero, Nat.sub_zero, Nat.zero_le, true_and, and_true, Nat.le_refl, chk_of]
      rw [loop_step1]; simp (maxSteps := 2000000) only [go_sem, doCall, doCallQ, Nat.reduceAdd, Nat.reduceMul, Nat.reduceSub, Nat.reduceDiv, Nat.reduceMod, Nat.reduceLT, Nat.reduceLeDiff, Nat.reduceEqDiff, Nat.reduceBEq, Nat.reduceBNe, Int.reduceToNat, Int.reduceLT, Int.reduceLE, Int.reduceEq, Int.reduceNe, Int.reduceAdd, Int.reduceSub, Int.reduceMul, Int.reduceNeg]; exact ih
termination_by s.length - i
theorem t_plain (s : List UInt8) (hs : s.length ≤ 1000000000) : call ir 115 [dS s] [] = some (dT (plainT s), []) := by
  rw [call_eq (fn := ir115) rfl, evF_bnd]
  simp (maxSteps := 2000000) (disch := omega) only [go_sem, doCall, doCallQ, Nat.reduceAdd, Nat.reduceMul, Nat.reduceSub, Nat.reduceDiv, Nat.reduceMod, Nat.reduceLT, Nat.reduceLeDiff, Nat.reduceEqDiff, Nat.reduceBEq, Nat.reduceBNe, Int.reduceToNat, Int.reduceLT, Int.reduceLE, Int.reduceEq, Int.reduceNe, Int.reduceAdd, Int.reduceSub, Int.reduceMul, Int.reduceNeg, bd115]
  rw [loop_step1]; simp (maxSteps := 2000000) only [go_sem, doCall, doCallQ, Nat.reduceAdd, Nat.reduceMul, Nat.reduceSub, Nat.reduceDiv, Nat.reduceMod, Nat.reduceLT, Nat.reduceLeDiff, Nat.reduceEqDiff, Nat.reduceBEq, Nat.reduceBNe, Int.reduceToNat, Int.reduceLT, Int.reduceLE, Int.reduceEq, Int.reduceNe, Int.reduceAdd, Int.reduceSub, Int.reduceMul, Int.reduceNeg]
  refine Eq.trans (lp_plain s hs _ 0 (by omega)) ?_
  rw [List.drop_zero]
  cases plainT s
  · simp only [Bool.false_eq_true, if_false]; simp (maxSteps := 2000000) only [go_sem, doCall, doCallQ, Nat.reduceAdd, Nat.reduceMul, Nat.reduceSub, Nat.reduceDiv, Nat.reduceMod, Nat.reduceLT, Nat.reduceLeDiff, Nat.reduceEqDiff, Nat.reduceBEq, Nat.reduceBNe, Int.reduceToNat, Int.reduceLT, Int.reduceLE, Int.reduceEq, Int.reduceNe, Int.reduceAdd, Int.reduceSub, Int.reduceMul, Int.reduceNeg]
  · simp only [if_true]; simp (maxSteps := 2000000) only [go_sem, doCall, doCallQ, Nat.reduceAdd, Nat.reduceMul, Nat.reduceSub, Nat.reduceDiv, Nat.reduceMod, Nat.reduceLT, Nat.reduceLeDiff, Nat.reduceEqDiff, Nat.reduceBEq, Nat.reduceBNe, Int.reduceToNat, Int.reduceLT, Int.reduceLE, Int.reduceEq, Int.reduceNe, Int.reduceAdd, Int.reduceSub, Int.reduceMul, Int.reduceNeg]
theorem t_tagRight (w : Bool) (t : List UInt8) (ht : t.length ≤ 1000000000) : call ir 116 [.agg [dT w, dS t]] [] = some (dT (plainT t && decide (t.length ≤ 40)), []) := by
  rw [call_eq (fn := ir116) rfl, evF_bnd]
  have hp := t_plain t ht
  cases h : plainT t
  · rw [h] at hp
    rw [Bool.false_and]
    simp (maxSteps := 2000000) (disch := omega) only [go_sem, doCall, doCallQ, Nat.reduceAdd, Nat.reduceMul, Nat.reduceSub, Nat.reduceDiv, Nat.reduceMod, Nat.reduceLT, Nat.reduceLeDiff, Nat.reduceEqDiff, Nat.reduceBEq, Nat.reduceBNe, Int.reduceToNat, Int.reduceLT, Int.reduceLE, Int.reduceEq, Int.reduceNe, Int.reduceAdd, Int.reduceSub, Int.reduceMul, Int.reduceNeg, bd116, hp]
  · rw [h] at hp
    rw [Bool.true_and]
    simp (maxSteps := 2000000) (disch := omega) only [go_sem, doCall, doCallQ, Nat.reduceAdd, Nat.reduceMul, Nat.reduceSub, Nat.reduceDiv, Nat.reduceMod, Nat.reduceLT, Nat.reduceLeDiff, Nat.reduceEqDiff, Nat.reduceBEq, Nat.reduceBNe, Int.reduceToNat, Int.reduceLT, Int.reduceLE, Int.reduceEq, Int.reduceNe, Int.reduceAdd, Int.reduceSub, Int.reduceMul, Int.reduceNeg, bd116, hp]
    apply dec_eq; omega
theorem t_strong (v w : Bool) (a b : List UInt8) : call ir 78 [.agg [dT v, dS a], .agg [dT w, dS b]] [] = some (dT (!v && (!w && decide (a = b))), []) := by
  have h : call ir 117 [.agg [dT v, dS a], .agg [dT w, dS b]] [] = some (dT (decide (a = b)), []) := by
    rw [call_eq (fn := ir117) rfl, evF_bnd]
    simp (maxSteps := 2000000) (disch := omega) only [go_sem, doCall, doCallQ, Nat.reduceAdd, Nat.reduceMul, Nat.reduceSub, Nat.reduceDiv, Nat.reduceMod, Nat.reduceLT, Nat.reduceLeDiff, Nat.reduceEqDiff, Nat.reduceBEq, Nat.reduceBNe, Int.reduceToNat, Int.reduceLT, Int.reduceLE, Int.reduceEq, Int.reduceNe, Int.reduceAdd, Int.reduceSub, Int.reduceMul, Int.reduceNeg, bd117]
  rw [call_eq (fn := ir78) rfl, evF_bnd]
  cases v <;> cases w
  · simp (maxSteps := 2000000) (disch := omega) only [go_sem, doCall, doCallQ, Nat.reduceAdd, Nat.reduceMul, Nat.reduceSub, Nat.reduceDiv, Nat.reduceMod, Nat.reduceLT, Nat.reduceLeDiff, Nat.reduceEqDiff, Nat.reduceBEq, Nat.reduceBNe, Int.reduceToNat, Int.reduceLT, Int.reduceLE, Int.reduceEq, Int.reduceNe, Int.reduceAdd, Int.reduceSub, Int.reduceMul, Int.reduceNeg, bd78, h]
  · simp (maxSteps := 2000000) (disch := omega) only [go_sem, doCall, doCallQ, Nat.reduceAdd, Nat.reduceMul, Nat.reduceSub, Nat.reduceDiv, Nat.reduceMod, Nat.reduceLT, Nat.reduceLeDiff, Nat.reduceEqDiff, Nat.reduceBEq, Nat.reduceBNe, Int.reduceToNat, Int.reduceLT, Int.reduceLE, Int.reduceEq, Int.reduceNe, Int.reduceAdd, Int.reduceSub, Int.reduceMul, Int.reduceNeg, bd78, h]
  · simp (maxSteps := 2000000) (disch := omega) only [go_sem, doCall, doCallQ, Nat.reduceAdd, Nat.reduceMul, Nat.reduceSub, Nat.reduceDiv, Nat.reduceMod, Nat.reduceLT, Nat.reduceLeDiff, Nat.reduceEqDiff, Nat.reduceBEq, Nat.reduceBNe, Int.reduceToNat, Int.reduceLT, Int.reduceLE, Int.reduceEq, Int.reduceNe, Int.reduceAdd, Int.reduceSub, Int.reduceMul, Int.reduceNeg, bd78, h]
  · simp (maxSteps := 2000000) (disch := omega) only [go_sem, doCall, doCallQ, Nat.reduceAdd, Nat.reduceMul, Nat.reduceSub, Nat.reduceDiv, Nat.reduceMod, Nat.reduceLT, Nat.reduceLeDiff, Nat.reduceEqDiff, Nat.reduceBEq, Nat.reduceBNe, Int.reduceToNat, Int.reduceLT, Int.reduceLE, Int.reduceEq, Int.reduceNe, Int.reduceAdd, Int.reduceSub, Int.reduceMul, Int.reduceNeg, bd78, h]
/-- Whether a text begins as weak validators do. -/
def hasW (s : List UInt8) : Prop := s.take 2 = [87, 47]
instance (s : List UInt8) : Decidable (hasW s) := by unfold hasW; infer_instance
theorem hasW_len {s : List UInt8} (h : hasW s) : 2 ≤ s.length := by
  have := congrArg List.length h
  simp at this; omega
theorem t_cutp (s : List UInt8) (hs : s.length ≤ 1000000000) : call ir 114 [dS s, dS [87, 47]] [] = some (.tup [dS (if hasW s then s.drop 2 else s), dT (decide (hasW s))], []) := by
  have hh : call ir 150 [dS s, dS [87, 47]] [] = some (dT (decide (hasW s)), []) := by
    rw [call_eq (fn := ir150) rfl, evF_bnd]
    by_cases h2 : 2 ≤ s.length
    · have h2' := eq_true (show (2 : Int) ≤ (s.length : Int) by omega)
      have h3 : (0 : Nat) ≤ 2 := by omega
      unfold hasW
      simp (maxSteps := 2000000) (disch := omega) only [go_sem, doCall, doCallQ, Nat.reduceAdd, Nat.reduceMul, Nat.reduceSub, Nat.reduceDiv, Nat.reduceMod, Nat.reduceLT, Nat.reduceLeDiff, Nat.reduceEqDiff, Nat.reduceBEq, Nat.reduceBNe, Int.reduceToNat, Int.reduceLT, Int.reduceLE, Int.reduceEq, Int.reduceNe, Int.reduceAdd, Int.reduceSub, Int.reduceMul, Int.reduceNeg, bd150, h2, h2', List.length_cons, List.length_nil, Int.natCast_nonneg, Int.toNat_natCast, Option.getD_some, Option.getD_none, List.drop_zero, Nat.sub_zero, Nat.zero_le, true_and, and_true, Nat.le_refl, chk_of]
    · have h2' := eq_false (show ¬ (2 : Int) ≤ (s.length : Int) by omega)
      rw [decide_eq_false (fun h => h2 (hasW_len h))]
      simp (maxSteps := 2000000) (disch := omega) only [go_sem, doCall, doCallQ, Nat.reduceAdd, Nat.reduceMul, Nat.reduceSub, Nat.reduceDiv, Nat.reduceMod, Nat.reduceLT, Nat.reduceLeDiff, Nat.reduceEqDiff, Nat.reduceBEq, Nat.reduceBNe, Int.reduceToNat, Int.reduceLT, Int.reduceLE, Int.reduceEq, Int.reduceNe, Int.reduceAdd, Int.reduceSub, Int.reduceMul, Int.reduceNeg, bd150, h2, h2', List.length_cons, List.length_nil, Int.natCast_nonneg, Int.toNat_natCast, Option.getD_some, Option.getD_none, List.drop_zero, Nat.sub_zero, Nat.zero_le, true_and, and_true, Nat.le_refl, chk_of]
  have hc : call ir 134 [dS s, dS [87, 47]] [] = some (.tup [dS (if hasW s then s.drop 2 else s), dT (decide (hasW s))], []) := by
    rw [call_eq (fn := ir134) rfl, evF_bnd]
    by_cases h : hasW s
    · have h2 := hasW_len h
      rw [decide_eq_true h] at hh
      rw [decide_eq_true h, if_pos h]
      have ht : (s.drop 2).take (s.length - 2) = s.drop 2 := List.take_of_length_le (by rw [List.length_drop]; exact Nat.le_refl _)
      simp (maxSteps := 2000000) (disch := omega) only [go_sem, doCall, doCallQ, Nat.reduceAdd, Nat.reduceMul, Nat.reduceSub, Nat.reduceDiv, Nat.reduceMod, Nat.reduceLT, Nat.reduceLeDiff, Nat.reduceEqDiff, Nat.reduceBEq, Nat.reduceBNe, Int.reduceToNat, Int.reduceLT, Int.reduceLE, Int.reduceEq, Int.reduceNe, Int.reduceAdd, Int.reduceSub, Int.reduceMul, Int.reduceNeg, bd134, hh, h2, ht, List.length_cons, List.length_nil, Int.natCast_nonneg, Int.toNat_natCast, Option.getD_some, Option.getD_none, List.drop_zero, Nat.sub_zero, Nat.zero_le, true_and, and_true, Nat.le_refl, chk_of]
    · rw [decide_eq_false h] at hh
      rw [decide_eq_false h, if_neg h]
      simp (maxSteps := 2000000) (disch := omega) only [go_sem, doCall, doCallQ, Nat.reduceAdd, Nat.reduceMul, Nat.reduceSub, Nat.reduceDiv, Nat.reduceMod, Nat.reduceLT, Nat.reduceLeDiff, Nat.reduceEqDiff, Nat.reduceBEq, Nat.reduceBNe, Int.reduceToNat, Int.reduceLT, Int.reduceLE, Int.reduceEq, Int.reduceNe, Int.reduceAdd, Int.reduceSub, Int.reduceMul, Int.reduceNeg, bd134, hh, chk_of]
  rw [call_eq (fn := ir114) rfl, evF_bnd]
  simp (maxSteps := 2000000) (disch := omega) only [go_sem, doCall, doCallQ, Nat.reduceAdd, Nat.reduceMul, Nat.reduceSub, Nat.reduceDiv, Nat.reduceMod, Nat.reduceLT, Nat.reduceLeDiff, Nat.reduceEqDiff, Nat.reduceBEq, Nat.reduceBNe, Int.reduceToNat, Int.reduceLT, Int.reduceLE, Int.reduceEq, Int.reduceNe, Int.reduceAdd, Int.reduceSub, Int.reduceMul, Int.reduceNeg, bd114, hc]
def quoted (t : List UInt8) : Prop := 2 ≤ t.length ∧ t.getD 0 0 = 34 ∧ t.getD (t.length - 1) 0 = 34
instance (t : List UInt8) : Decidable (quoted t) := by unfold quoted; infer_instance
def inner (t : List UInt8) : List UInt8 := (t.drop 1).take (t.length - 2)
/-- A validator of a text, and the error's number. -/
def tagE (s : List UInt8) : (Bool × List UInt8) × Int :=
  if ¬ quoted (if hasW s then s.drop 2 else s) then ((false, []), 3)
  else if plainT (inner (if hasW s then s.drop 2 else s)) = false then ((false, []), 3)
  else if 40 < (inner (if hasW s then s.drop 2 else s)).length then ((false, []), 10)
  else ((decide (hasW s), inner (if hasW s then s.drop 2 else s)), 0)
theorem u8_34 (b : UInt8) : ((b.toNat : Int) = 34) = (b = 34) := propext (u8_eq b 34 (by omega))
theorem t_etag (s : List UInt8) (hs : s.length ≤ 1000000000) : call ir 77 [dS s] [] = some (.tup [.agg [dT (tagE s).1.1, dS (tagE s).1.2], dI (tagE s).2], []) := by
  rw [call_eq (fn := ir77) rfl, evF_bnd]
  have hc := t_cutp s hs
  unfold tagE
  have hl : (if hasW s then s.drop 2 else s).length ≤ 1000000000 := by
    split
    · rw [List.length_drop]; omega
    · exact hs
  generalize (if hasW s then s.drop 2 else s) = t at *
  generalize decide (hasW s) = w at *
  by_cases hq : quoted t
  · rw [if_neg (fun h => h hq)]
    obtain ⟨h2, h3, h4⟩ := hq
    have c2 := eq_false (show ¬ (t.length : Int) < 2 by omega)
    have c3 := eq_true (show ((t.getD 0 0).toNat : Int) = 34 by rw [h3]; rfl)
    have c4 := eq_true (show ((t.getD (t.length - 1) 0).toNat : Int) = 34 by rw [h4]; rfl)
    have hpos : 0 < t.length := by omega
    have hlast : t.length - 1 < t.length := by omega
    have hw1 : wr .i64 ((t.length : Int) - 1) = ((t.length - 1 : Nat) : Int) := by rw [wr_id (by omega)]; omega
    have hb1 : 1 ≤ t.length - 1 := by omega
    have hb2 : t.length - 1 ≤ t.length := by omega
    have hin : (t.drop 1).take (t.length - 1 - 1) = inner t := by unfold inner; congr 1
    have hil : (inner t).length ≤ 1000000000 := by unfold inner; rw [List.length_take]; omega
    have hp := t_plain (inner t) hil
    have hr := t_tagRight w (inner t) hil
    cases hpl : plainT (inner t)
    · rw [hpl] at hp
      rw [if_pos rfl]
      simp (maxSteps := 2000000) (disch := omega) only [go_sem, doCall, doCallQ, Nat.reduceAdd, Nat.reduceMul, Nat.reduceSub, Nat.reduceDiv, Nat.reduceMod, Nat.reduceLT, Nat.reduceLeDiff, Nat.reduceEqDiff, Nat.reduceBEq, Nat.reduceBNe, Int.reduceToNat, Int.reduceLT, Int.reduceLE, Int.reduceEq, Int.reduceNe, Int.reduceAdd, Int.reduceSub, Int.reduceMul, Int.reduceNeg, bd77, hc, c2, c3, c4, hpos, hlast, hw1, hb1, hb2, hin, hp, Int.natCast_nonneg, Int.toNat_natCast, Option.getD_some, Option.getD_none, List.drop_zero, Nat.sub_zero, Nat.zero_le, true_and, and_true, Nat.le_refl, chk_of]
    · rw [hpl] at hp hr
      rw [if_neg (by simp)]
      by_cases h40 : 40 < (inner t).length
      · rw [decide_eq_false (by omega), Bool.and_false] at hr
        rw [if_pos h40]
        simp (maxSteps := 2000000) (disch := omega) only [go_sem, doCall, doCallQ, Nat.reduceAdd, Nat.reduceMul, Nat.reduceSub, Nat.reduceDiv, Nat.reduceMod, Nat.reduceLT, Nat.reduceLeDiff, Nat.reduceEqDiff, Nat.reduceBEq, Nat.reduceBNe, Int.reduceToNat, Int.reduceLT, Int.reduceLE, Int.reduceEq, Int.reduceNe, Int.reduceAdd, Int.reduceSub, Int.reduceMul, Int.reduceNeg, bd77, hc, c2, c3, c4, hpos, hlast, hw1, hb1, hb2, hin, hp, hr, Int.natCast_nonneg, Int.toNat_natCast, Option.getD_some, Option.getD_none, List.drop_zero, Nat.sub_zero, Nat.zero_le, true_and, and_true, Nat.le_refl, chk_of]
      · rw [decide_eq_true (by omega), Bool.and_true] at hr
        rw [if_neg h40]
        simp (maxSteps := 2000000) (disch := omega) only [go_sem, doCall, doCallQ, Nat.reduceAdd, Nat.reduceMul, Nat.reduceSub, Nat.reduceDiv, Nat.reduceMod, Nat.reduceLT, Nat.reduceLeDiff, Nat.reduceEqDiff, Nat.reduceBEq, Nat.reduceBNe, Int.reduceToNat, Int.reduceLT, Int.reduceLE, Int.reduceEq, Int.reduceNe, Int.reduceAdd, Int.reduceSub, Int.reduceMul, Int.reduceNeg, bd77, hc, c2, c3, c4, hpos, hlast, hw1, hb1, hb2, hin, hp, hr, Int.natCast_nonneg, Int.toNat_natCast, Option.getD_some, Option.getD_none, List.drop_zero, Nat.sub_zero, Nat.zero_le, true_and, and_true, Nat.le_refl, chk_of]
  · rw [if_pos hq]
    by_cases h2 : 2 ≤ t.length
    · have c2 := eq_false (show ¬ (t.length : Int) < 2 by omega)
      have hpos : 0 < t.length := by omega
      have hlast : t.length - 1 < t.length := by omega
      have hw1 : wr .i64 ((t.length : Int) - 1) = ((t.length - 1 : Nat) : Int) := by rw [wr_id (by omega)]; omega
      by_cases h3 : t.getD 0 0 = 34
      · have c3 := eq_true (show ((t.getD 0 0).toNat : Int) = 34 by rw [h3]; rfl)
        have c4 := eq_false (show ¬ ((t.getD (t.length - 1) 0).toNat : Int) = 34 by rw [u8_34]; exact fun h => hq ⟨h2, h3, h⟩)
        simp (maxSteps := 2000000) (disch := omega) only [go_sem, doCall, doCallQ, Nat.reduceAdd, Nat.reduceMul, Nat.reduceSub, Nat.reduceDiv, Nat.reduceMod, Nat.reduceLT, Nat.reduceLeDiff, Nat.reduceEqDiff, Nat.reduceBEq, Nat.reduceBNe, Int.reduceToNat, Int.reduceLT, Int.reduceLE, Int.reduceEq, Int.reduceNe, Int.reduceAdd, Int.reduceSub, Int.reduceMul, Int.reduceNeg, bd77, hc, c2, c3, c4, hpos, hlast, hw1, Int.natCast_nonneg, Int.toNat_natCast, Option.getD_some, Option.getD_none, List.drop_zero, Nat.sub_zero, Nat.zero_le, true_and, and_true, Nat.le_refl, chk_of]
      · have c3 := eq_false (show ¬ ((t.getD 0 0).toNat : Int) = 34 by rw [u8_34]; exact h3)
        simp (maxSteps := 2000000) (disch := omega) only [go_sem, doCall, doCallQ, Nat.reduceAdd, Nat.reduceMul, Nat.reduceSub, Nat.reduceDiv, Nat.reduceMod, Nat.reduceLT, Nat.reduceLeDiff, Nat.reduceEqDiff, Nat.reduceBEq, Nat.reduceBNe, Int.reduceToNat, Int.reduceLT, Int.reduceLE, Int.reduceEq, Int.reduceNe, Int.reduceAdd, Int.reduceSub, Int.reduceMul, Int.reduceNeg, bd77, hc, c2, c3, hpos, hlast, hw1, Int.natCast_nonneg, Int.toNat_natCast, Option.getD_some, Option.getD_none, List.drop_zero, Nat.sub_zero, Nat.zero_le, true_and, and_true, Nat.le_refl, chk_of]
    · have c2 := eq_true (show (t.length : Int) < 2 by omega)
      simp (maxSteps := 2000000) (disch := omega) only [go_sem, doCall, doCallQ, Nat.reduceAdd, Nat.reduceMul, Nat.reduceSub, Nat.reduceDiv, Nat.reduceMod, Nat.reduceLT, Nat.reduceLeDiff, Nat.reduceEqDiff, Nat.reduceBEq, Nat.reduceBNe, Int.reduceToNat, Int.reduceLT, Int.reduceLE, Int.reduceEq, Int.reduceNe, Int.reduceAdd, Int.reduceSub, Int.reduceMul, Int.reduceNeg, bd77, hc, c2, Int.natCast_nonneg, Int.toNat_natCast, Option.getD_some, Option.getD_none, List.drop_zero, Nat.sub_zero, Nat.zero_le, true_and, and_true, Nat.le_refl, chk_of]
/-- Whether ranges count. -/
def useE (cond tag : List UInt8) : Bool := decide (trim cond = []) || (decide ((tagE (trim cond)).2 = 0) && (!(tagE (trim cond)).1.1 && decide ((tagE (trim cond)).1.2 = tag)))
theorem t_use (cond tag : List UInt8) (hc : cond.length ≤ 1000000000) : call ir 52 [dS cond, dS tag] [] = some (dT (useE cond tag), []) := by
  rw [call_eq (fn := ir52) rfl, evF_bnd]
  have ht := t_trim cond hc
  have hl := trim_len cond
  have he := t_etag (trim cond) (by omega)
  have hst := t_strong (tagE (trim cond)).1.1 false (tagE (trim cond)).1.2 tag
  unfold useE
  generalize tagE (trim cond) = z at *
  by_cases h1 : trim cond = []
  · have h1' := eq_true h1
    rw [decide_eq_true h1, Bool.true_or]
    simp (maxSteps := 2000000) (disch := omega) only [go_sem, doCall, doCallQ, Nat.reduceAdd, Nat.reduceMul, Nat.reduceSub, Nat.reduceDiv, Nat.reduceMod, Nat.reduceLT, Nat.reduceLeDiff, Nat.reduceEqDiff, Nat.reduceBEq, Nat.reduceBNe, Int.reduceToNat, Int.reduceLT, Int.reduceLE, Int.reduceEq, Int.reduceNe, Int.reduceAdd, Int.reduceSub, Int.reduceMul, Int.reduceNeg, bd52, ht, h1', chk_of]
  · rw [decide_eq_false h1, Bool.false_or]
    by_cases h2 : z.2 = 0
    · have h2' := eq_true h2
      rw [decide_eq_true h2, Bool.true_and]
      simp (maxSteps := 2000000) (disch := omega) only [go_sem, doCall, doCallQ, Nat.reduceAdd, Nat.reduceMul, Nat.reduceSub, Nat.reduceDiv, Nat.reduceMod, Nat.reduceLT, Nat.reduceLeDiff, Nat.reduceEqDiff, Nat.reduceBEq, Nat.reduceBNe, Int.reduceToNat, Int.reduceLT, Int.reduceLE, Int.reduceEq, Int.reduceNe, Int.reduceAdd, Int.reduceSub, Int.reduceMul, Int.reduceNeg, bd52, ht, h1, he, h2', hst, Bool.not_false, Bool.true_and, chk_of]
    · rw [decide_eq_false h2, Bool.false_and]
      simp (maxSteps := 2000000) (disch := omega) only [go_sem, doCall, doCallQ, Nat.reduceAdd, Nat.reduceMul, Nat.reduceSub, Nat.reduceDiv, Nat.reduceMod, Nat.reduceLT, Nat.reduceLeDiff, Nat.reduceEqDiff, Nat.reduceBEq, Nat.reduceBNe, Int.reduceToNat, Int.reduceLT, Int.reduceLE, Int.reduceEq, Int.reduceNe, Int.reduceAdd, Int.reduceSub, Int.reduceMul, Int.reduceNeg, bd52, ht, h1, he, h2, chk_of]
end Go.Proofs.YtpibecljdooilaaDoor
namespace Go.Proofs.YtpibecljdooilaaDoor
open Go Go.Ev Go.Proofs.YtpibecljdooilaaDoor.Ir Go.Prs
set_option maxRecDepth 100000
set_option maxHeartbeats 4000000
set_option linter.unusedSimpArgs false
set_option linter.unusedVariables false
def meet (a b : Int × Int) : Int × Int := if RP a.1 a.2 ∧ RP b.1 b.2 ∧ RP (max a.1 b.1) (min a.2 b.2) then (max a.1 b.1, min a.2 b.2) else (0, 0)
def meets (a b : Int × Int) : Prop := RP a.1 a.2 ∧ RP b.1 b.2 ∧ RP (max a.1 b.1) (min a.2 b.2)
instance (a b : Int × Int) : Decidable (meets a b) := by unfold meets; infer_instance
theorem t_meet (a b : Int × Int) : call ir 83 [vP a, vP b] [] = some (.tup [vP (meet a b), .d (.bool (decide (meets a b)))], []) := by
  rw [call_eq (fn := ir83) rfl, evF_bnd]
  simp (maxSteps := 2000000) only [go_sem, doCall, doCallQ, Nat.reduceAdd, Nat.reduceMul, Nat.reduceSub, Nat.reduceDiv, Nat.reduceMod, Nat.reduceLT, Nat.reduceLeDiff, Nat.reduceEqDiff, Nat.reduceBEq, Nat.reduceBNe, Int.reduceToNat, Int.reduceLT, Int.reduceLE, Int.reduceEq, Int.reduceNe, Int.reduceAdd, Int.reduceSub, Int.reduceMul, Int.reduceNeg, bd83, t_right]
  repeat' (apply two_cases <;> intro h <;> simp (maxSteps := 2000000) only [go_sem, doCall, doCallQ, Nat.reduceAdd, Nat.reduceMul, Nat.reduceSub, Nat.reduceDiv, Nat.reduceMod, Nat.reduceLT, Nat.reduceLeDiff, Nat.reduceEqDiff, Nat.reduceBEq, Nat.reduceBNe, Int.reduceToNat, Int.reduceLT, Int.reduceLE, Int.reduceEq, Int.reduceNe, Int.reduceAdd, Int.reduceSub, Int.reduceMul, Int.reduceNeg, h, t_right])
  all_goals
    first
    | (rw [meet, if_neg (fun hh => by simp_all), decide_eq_false (fun hh : meets a b => by unfold meets at hh; simp_all)]; done)
    | (rw [meet, if_pos (by simp_all), decide_eq_true (show meets a b by unfold meets; simp_all)]; done)
    | trace_state
theorem t_clash1 (a b : Int × Int) : call ir 82 [vP b, .ptr 0 0] [.dbox (eP a)] = some (dT (decide (meets a b)), [.dbox (eP a)]) := by
  rw [call_eq (fn := ir82) rfl, evF_bnd]
  simp (maxSteps := 2000000) (disch := omega) only [go_sem, doCall, doCallQ, Nat.reduceAdd, Nat.reduceMul, Nat.reduceSub, Nat.reduceDiv, Nat.reduceMod, Nat.reduceLT, Nat.reduceLeDiff, Nat.reduceEqDiff, Nat.reduceBEq, Nat.reduceBNe, Int.reduceToNat, Int.reduceLT, Int.reduceLE, Int.reduceEq, Int.reduceNe, Int.reduceAdd, Int.reduceSub, Int.reduceMul, Int.reduceNeg, bd82, t_meet, chk_of]
abbrev cloC : AV := .clo (.func 82) [] [.ptr 0 0]
def anyM (a : Int × Int) (l : List (Int × Int)) : Bool := l.any fun b => decide (meets a b)
theorem anyM_drop {a : Int × Int} {l : List (Int × Int)} {i : Nat} (h : i < l.length) : anyM a (l.drop i) = (decide (meets a l[i]) || anyM a (l.drop (i + 1))) := by
  rw [List.drop_eq_getElem_cons h]; rfl
theorem lp_idxC (a : Int × Int) (l : List (Int × Int)) (hl : l.length ≤ 1000000) (k : Ex → St → Option (AV × Heap)) (i : Nat) (hi : i ≤ l.length) :
    ∃ r : Nat, (bnd (evC (call ir) (loop ir) lp118_0 (st118_0 1 (.d (.list 2 (r2 l))) cloC (dI l.length) (dI i) [.dbox (eP a)])) (lpC (call ir) (loop ir) [0, 1, 7, 8] lp118_0 k)) = (if anyM a (l.drop i) then k .ret (clean [4] ⟨1, [.unk, .unk, .unk, .unk, dI r, .unk, .unk, .unk, .unk, .unk, .unk, .unk, .unk, .unk, .unk, .unk, .unk, .unk, .unk], [.dbox (eP a)]⟩)
      else k (.exit 0) (clean [] (st118_0 1 .unk .unk .unk .unk [.dbox (eP a)]))) := by
  by_cases h : i = l.length
  · have hx : ¬ (i : Int) < l.length := by omega
    rw [h] at hx
    rw [h, List.drop_length]
    refine ⟨0, ?_⟩
    simp only [anyM, List.any_nil, Bool.false_eq_true, if_false]
    simp (maxSteps := 2000000) (disch := omega) only [go_sem, doCall, doCallQ, Nat.reduceAdd, Nat.reduceMul, Nat.reduceSub, Nat.reduceDiv, Nat.reduceMod, Nat.reduceLT, Nat.reduceLeDiff, Nat.reduceEqDiff, Nat.reduceBEq, Nat.reduceBNe, Int.reduceToNat, Int.reduceLT, Int.reduceLE, Int.reduceEq, Int.reduceNe, Int.reduceAdd, Int.reduceSub, Int.reduceMul, Int.reduceNeg, u118_0, lb118_0, hx]
  · have hlt : (i : Int) < l.length := by omega
    have hi' : i < l.length := by omega
    have hw := wr_succ (i := i) (by omega)
    have hg := get_eP l i hi'
    have hc := t_clash1 a l[i]
    rw [anyM_drop hi']
    by_cases hm : meets a l[i]
    · rw [decide_eq_true hm] at hc
      refine ⟨i, ?_⟩
      rw [decide_eq_true hm, Bool.true_or, if_pos rfl]
      simp (maxSteps := 2000000) (disch := omega) only [go_sem, doCall, doCallQ, Nat.reduceAdd, Nat.reduceMul, Nat.reduceSub, Nat.reduceDiv, Nat.reduceMod, Nat.reduceLT, Nat.reduceLeDiff, Nat.reduceEqDiff, Nat.reduceBEq, Nat.reduceBNe, Int.reduceToNat, Int.reduceLT, Int.reduceLE, Int.reduceEq, Int.reduceNe, Int.reduceAdd, Int.reduceSub, Int.reduceMul, Int.reduceNeg, u118_0, lb118_0, hlt, hi', hw, hg, hc, Int.natCast_nonneg, Int.toNat_natCast, Option.getD_some, Option.getD_none, List.drop_zero, Nat.sub_zero, Nat.zero_le, true_and, and_true, Nat.le_refl, chk_of]
    · rw [decide_eq_false hm] at hc
      obtain ⟨r, ih⟩ := lp_idxC a l hl k (i + 1) (by omega)
      refine ⟨r, ?_⟩
      rw [decide_eq_false hm, Bool.false_or]
      simp (maxSteps := 2000000) (disch := omega) only [go_sem, doCall, doCallQ, Nat.reduceAdd, Nat.reduceMul, Nat.reduceSub, Nat.reduceDiv, Nat.reduceMod, Nat.reduceLT, Nat.reduceLeDiff, Nat.reduceEqDiff, Nat.reduceBEq, Nat.reduceBNe, Int.reduceToNat, Int.reduceLT, Int.reduceLE, Int.reduceEq, Int.reduceNe, Int.reduceAdd, Int.reduceSub, Int.reduceMul, Int.reduceNeg, u118_0, lb118_0, hlt, hi', hw, hg, hc, Int.natCast_nonneg, Int.toNat_natCast, Option.getD_some, Option.getD_none, List.drop_zero, Nat.sub_zero, Nat.zero_le, true_and, and_true, Nat.le_refl, chk_of]
      rw [loop_step1]; simp (maxSteps := 2000000) only [go_sem, doCall, doCallQ, Nat.reduceAdd, Nat.reduceMul, Nat.reduceSub, Nat.reduceDiv, Nat.reduceMod, Nat.reduceLT, Nat.reduceLeDiff, Nat.reduceEqDiff, Nat.reduceBEq, Nat.reduceBNe, Int.reduceToNat, Int.reduceLT, Int.reduceLE, Int.reduceEq, Int.reduceNe, Int.reduceAdd, Int.reduceSub, Int.reduceMul, Int.reduceNeg]; exact ih
termination_by l.length - i
theorem t_contC (a : Int × Int) (l : List (Int × Int)) (hl : l.length ≤ 1000000) : call ir 84 [.d (.list 2 (r2 l)), cloC] [.dbox (eP a)] = some (dT (anyM a l), [.dbox (eP a)]) := by
  have hi : ∃ r : Int, call ir 118 [.d (.list 2 (r2 l)), cloC] [.dbox (eP a)] = some (dI r, [.dbox (eP a)]) ∧ decide (0 ≤ r) = anyM a l := by
    have h0 := fun k => lp_idxC a l hl k 0 (by omega)
    simp only [List.drop_zero] at h0
    obtain ⟨r, h1⟩ := h0 (bk 0 (sq (call ir) (loop ir) (.seq (.reg [⟨some 4, none, .mv (.c (.d (.int .i64 (-1)))), .none⟩]) (.ret none)) (fin ir118)))
    cases hm : anyM a l
    · refine ⟨-1, ?_, rfl⟩
      rw [hm] at h1
      simp only [Bool.false_eq_true, if_false] at h1
      rw [call_eq (fn := ir118) rfl, evF_bnd]
      simp (maxSteps := 2000000) (disch := omega) only [go_sem, doCall, doCallQ, Nat.reduceAdd, Nat.reduceMul, Nat.reduceSub, Nat.reduceDiv, Nat.reduceMod, Nat.reduceLT, Nat.reduceLeDiff, Nat.reduceEqDiff, Nat.reduceBEq, Nat.reduceBNe, Int.reduceToNat, Int.reduceLT, Int.reduceLE, Int.reduceEq, Int.reduceNe, Int.reduceAdd, Int.reduceSub, Int.reduceMul, Int.reduceNeg, bd118, List.length_map]
      rw [loop_step1]; simp (maxSteps := 2000000) only [go_sem, doCall, doCallQ, Nat.reduceAdd, Nat.reduceMul, Nat.reduceSub, Nat.reduceDiv, Nat.reduceMod, Nat.reduceLT, Nat.reduceLeDiff, Nat.reduceEqDiff, Nat.reduceBEq, Nat.reduceBNe, Int.reduceToNat, Int.reduceLT, Int.reduceLE, Int.reduceEq, Int.reduceNe, Int.reduceAdd, Int.reduceSub, Int.reduceMul, Int.reduceNeg]
      refine Eq.trans h1 ?_
      simp (maxSteps := 2000000) only [go_sem, doCall, doCallQ, Nat.reduceAdd, Nat.reduceMul, Nat.reduceSub, Nat.reduceDiv, Nat.reduceMod, Nat.reduceLT, Nat.reduceLeDiff, Nat.reduceEqDiff, Nat.reduceBEq, Nat.reduceBNe, Int.reduceToNat, Int.reduceLT, Int.reduceLE, Int.reduceEq, Int.reduceNe, Int.reduceAdd, Int.reduceSub, Int.reduceMul, Int.reduceNeg]
    · refine ⟨r, ?_, decide_eq_true (by omega)⟩
      rw [hm] at h1
      simp only [if_true] at h1
      rw [call_eq (fn := ir118) rfl, evF_bnd]
      simp (maxSteps := 2000000) (disch := omega) only [go_sem, doCall, doCallQ, Nat.reduceAdd, Nat.reduceMul, Nat.reduceSub, Nat.reduceDiv, Nat.reduceMod, Nat.reduceLT, Nat.reduceLeDiff, Nat.reduceEqDiff, Nat.reduceBEq, Nat.reduceBNe, Int.reduceToNat, Int.reduceLT, Int.reduceLE, Int.reduceEq, Int.reduceNe, Int.reduceAdd, Int.reduceSub, Int.reduceMul, Int.reduceNeg, bd118, List.length_map]
      rw [loop_step1]; simp (maxSteps := 2000000) only [go_sem, doCall, doCallQ, Nat.reduceAdd, Nat.reduceMul, Nat.reduceSub, Nat.reduceDiv, Nat.reduceMod, Nat.reduceLT, Nat.reduceLeDiff, Nat.reduceEqDiff, Nat.reduceBEq, Nat.reduceBNe, Int.reduceToNat, Int.reduceLT, Int.reduceLE, Int.reduceEq, Int.reduceNe, Int.reduceAdd, Int.reduceSub, Int.reduceMul, Int.reduceNeg]
      refine Eq.trans h1 ?_
      simp (maxSteps := 2000000) only [go_sem, doCall, doCallQ, Nat.reduceAdd, Nat.reduceMul, Nat.reduceSub, Nat.reduceDiv, Nat.reduceMod, Nat.reduceLT, Nat.reduceLeDiff, Nat.reduceEqDiff, Nat.reduceBEq, Nat.reduceBNe, Int.reduceToNat, Int.reduceLT, Int.reduceLE, Int.reduceEq, Int.reduceNe, Int.reduceAdd, Int.reduceSub, Int.reduceMul, Int.reduceNeg]
  obtain ⟨r, h1, h2⟩ := hi
  rw [call_eq (fn := ir84) rfl, evF_bnd]
  simp (maxSteps := 2000000) only [go_sem, doCall, doCallQ, Nat.reduceAdd, Nat.reduceMul, Nat.reduceSub, Nat.reduceDiv, Nat.reduceMod, Nat.reduceLT, Nat.reduceLeDiff, Nat.reduceEqDiff, Nat.reduceBEq, Nat.reduceBNe, Int.reduceToNat, Int.reduceLT, Int.reduceLE, Int.reduceEq, Int.reduceNe, Int.reduceAdd, Int.reduceSub, Int.reduceMul, Int.reduceNeg, bd84, h1, h2]
/-- Whether two have a byte in common. -/
def clashG : List (Int × Int) → List (Int × Int) → Bool
  | _, [] => false
  | p, x :: l => anyM x p || clashG (p ++ [x]) l
theorem clashG_drop {l : List (Int × Int)} {i : Nat} (h : i < l.length) : clashG (l.take i) (l.drop i) = (anyM l[i] (l.take i) || clashG (l.take (i + 1)) (l.drop (i + 1))) := by
  rw [List.drop_eq_getElem_cons h, List.take_succ_eq_append_getElem h]; rfl
theorem lp_clash (l : List (Int × Int)) (hl : l.length ≤ 1000000) (k : Ex → St → Option (AV × Heap)) (i : Nat) (hi : i ≤ l.length) :
    (bnd (evC (call ir) (loop ir) lp55_0 (st55_0 0 (.d (.list 2 (r2 l))) (.d (.list 2 (r2 l))) (dI l.length) (dI i) [])) (lpC (call ir) (loop ir) [0, 6, 7, 8] lp55_0 k)) = (if clashG (l.take i) (l.drop i) then k .ret (clean [2] ⟨0, [.unk, .unk, dT true, .unk, .unk, .unk, .unk, .unk, .unk, .unk, .unk, .unk, .unk, .unk, .unk, .unk, .unk, .unk, .unk, .unk], []⟩)
      else k (.exit 0) (clean [] (st55_0 0 .unk .unk .unk .unk []))) := by
  by_cases h : i = l.length
  · have hx : ¬ (i : Int) < l.length := by omega
    rw [h] at hx
    rw [h, List.drop_length]
    simp only [clashG, Bool.false_eq_true, if_false]
    simp (maxSteps := 2000000) (disch := omega) only [go_sem, doCall, doCallQ, Nat.reduceAdd, Nat.reduceMul, Nat.reduceSub, Nat.reduceDiv, Nat.reduceMod, Nat.reduceLT, Nat.reduceLeDiff, Nat.reduceEqDiff, Nat.reduceBEq, Nat.reduceBNe, Int.reduceToNat, Int.reduceLT, Int.reduceLE, Int.reduceEq, Int.reduceNe, Int.reduceAdd, Int.reduceSub, Int.reduceMul, Int.reduceNeg, u55_0, lb55_0, hx]
  · have hlt : (i : Int) < l.length := by omega
    have hi' : i < l.length := by omega
    have hw := wr_succ (i := i) (by omega)
    have hg := get_eP l i hi'
    have hrl := r2_len l
    have htk : (r2 l).take i = r2 (l.take i) := by
      show List.take i (List.map eP l) = List.map eP (List.take i l)
      rw [List.map_take]
    have hle : i ≤ l.length := by omega
    have hc := t_contC l[i] (l.take i) (by rw [List.length_take]; omega)
    rw [clashG_drop hi']
    cases hm : anyM l[i] (l.take i)
    · rw [hm] at hc
      have ih := lp_clash l hl k (i + 1) (by omega)
      rw [Bool.false_or]
      simp (maxSteps := 2000000) (disch := omega) only [go_sem, doCall, doCallQ, Nat.reduceAdd, Nat.reduceMul, Nat.reduceSub, Nat.reduceDiv, Nat.reduceMod, Nat.reduceLT, Nat.reduceLeDiff, Nat.reduceEqDiff, Nat.reduceBEq, Nat.reduceBNe, Int.reduceToNat, Int.reduceLT, Int.reduceLE, Int.reduceEq, Int.reduceNe, Int.reduceAdd, Int.reduceSub, Int.reduceMul, Int.reduceNeg, u55_0, lb55_0, hlt, hi', hw, hg, hrl, htk, hle, hc, Int.natCast_nonneg, Int.toNat_natCast, Option.getD_some, Option.getD_none, List.drop_zero, Nat.sub_zero, Nat.zero_le, true_and, and_true, Nat.le_refl, chk_of]
      rw [loop_step1]; simp (maxSteps := 2000000) only [go_sem, doCall, doCallQ, Nat.reduceAdd, Nat.reduceMul, Nat.reduceSub, Nat.reduceDiv, Nat.reduceMod, Nat.reduceLT, Nat.reduceLeDiff, Nat.reduceEqDiff, Nat.reduceBEq, Nat.reduceBNe, Int.reduceToNat, Int.reduceLT, Int.reduceLE, Int.reduceEq, Int.reduceNe, Int.reduceAdd, Int.reduceSub, Int.reduceMul, Int.reduceNeg]; exact ih
    · rw [hm] at hc
      rw [Bool.true_or, if_pos rfl]
      simp (maxSteps := 2000000) (disch := omega) only [go_sem, doCall, doCallQ, Nat.reduceAdd, Nat.reduceMul, Nat.reduceSub, Nat.reduceDiv, Nat.reduceMod, Nat.reduceLT, Nat.reduceLeDiff, Nat.reduceEqDiff, Nat.reduceBEq, Nat.reduceBNe, Int.reduceToNat, Int.reduceLT, Int.reduceLE, Int.reduceEq, Int.reduceNe, Int.reduceAdd, Int.reduceSub, Int.reduceMul, Int.reduceNeg, u55_0, lb55_0, hlt, hi', hw, hg, hrl, htk, hle, hc, Int.natCast_nonneg, Int.toNat_natCast, Option.getD_some, Option.getD_none, List.drop_zero, Nat.sub_zero, Nat.zero_le, true_and, and_true, Nat.le_refl, chk_of]
termination_by l.length - i
theorem t_clash (l : List (Int × Int)) (hl : l.length ≤ 1000000) : call ir 55 [.d (.list 2 (r2 l))] [] = some (dT (clashG [] l), []) := by
  rw [call_eq (fn := ir55) rfl, evF_bnd]
  have hrl := r2_len l
  simp (maxSteps := 2000000) (disch := omega) only [go_sem, doCall, doCallQ, Nat.reduceAdd, Nat.reduceMul, Nat.reduceSub, Nat.reduceDiv, Nat.reduceMod, Nat.reduceLT, Nat.reduceLeDiff, Nat.reduceEqDiff, Nat.reduceBEq, Nat.reduceBNe, Int.reduceToNat, Int.reduceLT, Int.reduceLE, Int.reduceEq, Int.reduceNe, Int.reduceAdd, Int.reduceSub, Int.reduceMul, Int.reduceNeg, bd55, hrl]
  rw [loop_step1]; simp (maxSteps := 2000000) only [go_sem, doCall, doCallQ, Nat.reduceAdd, Nat.reduceMul, Nat.reduceSub, Nat.reduceDiv, Nat.reduceMod, Nat.reduceLT, Nat.reduceLeDiff, Nat.reduceEqDiff, Nat.reduceBEq, Nat.reduceBNe, Int.reduceToNat, Int.reduceLT, Int.reduceLE, Int.reduceEq, Int.reduceNe, Int.reduceAdd, Int.reduceSub, Int.reduceMul, Int.reduceNeg]
  refine Eq.trans (lp_clash l hl _ 0 (by omega)) ?_
  rw [List.drop_zero, List.take_zero]
  cases clashG [] l
  · simp only [Bool.false_eq_true, if_false]; simp (maxSteps := 2000000) only [go_sem, doCall, doCallQ, Nat.reduceAdd, Nat.reduceMul, Nat.reduceSub, Nat.reduceDiv, Nat.reduceMod, Nat.reduceLT, Nat.reduceLeDiff, Nat.reduceEqDiff, Nat.reduceBEq, Nat.reduceBNe, Int.reduceToNat, Int.reduceLT, Int.reduceLE, Int.reduceEq, Int.reduceNe, Int.reduceAdd, Int.reduceSub, Int.reduceMul, Int.reduceNeg]
  · simp only [if_true]; simp (maxSteps := 2000000) only [go_sem, doCall, doCallQ, Nat.reduceAdd, Nat.reduceMul, Nat.reduceSub, Nat.reduceDiv, Nat.reduceMod, Nat.reduceLT, Nat.reduceLeDiff, Nat.reduceEqDiff, Nat.reduceBEq, Nat.reduceBNe, Int.reduceToNat, Int.reduceLT, Int.reduceLE, Int.reduceEq, Int.reduceNe, Int.reduceAdd, Int.reduceSub, Int.reduceMul, Int.reduceNeg]
theorem t_whole (n : Int) : call ir 53 [dI n] [] = some (.agg [dI 200, .d (.list 2 [])], []) := by
  rw [call_eq (fn := ir53) rfl, evF_bnd]
  simp (maxSteps := 2000000) (disch := omega) only [go_sem, doCall, doCallQ, Nat.reduceAdd, Nat.reduceMul, Nat.reduceSub, Nat.reduceDiv, Nat.reduceMod, Nat.reduceLT, Nat.reduceLeDiff, Nat.reduceEqDiff, Nat.reduceBEq, Nat.reduceBNe, Int.reduceToNat, Int.reduceLT, Int.reduceLE, Int.reduceEq, Int.reduceNe, Int.reduceAdd, Int.reduceSub, Int.reduceMul, Int.reduceNeg, bd53, chk_of]
theorem take_r2 (l : List (Int × Int)) : (r2 l).take l.length = r2 l := List.take_of_length_le (by rw [r2_len]; exact Nat.le_refl _)
theorem resL_len (l : List Sp3) (n : Int) : (resL l n).length ≤ l.length := by
  unfold resL
  split
  · exact fm_len n l
  · simp
theorem specL_len (s : List UInt8) : (specL s).length ≤ 16 := by
  cases h : elsOf s with
  | none => rw [specL_none h]; simp
  | some o =>
    rw [specL_some h]
    split
    · rename_i hh; rw [vals_len]; exact hh.2.2.2.2
    · simp
/-- What is chosen. -/
structure ChooseR (header cond tag : List UInt8) (n : Int) (st : Int) (L : List (Int × Int)) : Prop where
  all : (specL header = [] ∨ useE cond tag = false) → st = 200 ∧ L = []
  none : specL header ≠ [] → useE cond tag = true → resL (specL header) n = [] → st = 416 ∧ L = []
  some : specL header ≠ [] → useE cond tag = true → resL (specL header) n ≠ [] → st = 206 ∧ L.length ≤ 16 ∧ (clashG [] (resL (specL header) n) = false → L = resL (specL header) n) ∧
    (clashG [] (resL (specL header) n) = true → AP L ∧ ∀ t, hasb L t = hasb (resL (specL header) n) t)
theorem t_choose (header cond tag : List UInt8) (hh : header.length ≤ 100000000) (hc : cond.length ≤ 1000000000) (n : Int) :
    ∃ st L, ChooseR header cond tag n st L ∧ call ir 27 [dS header, dS cond, dS tag, dI n] [] = some (.agg [dI st, .d (.list 2 (r2 L))], []) := by
  have ha := t_asked header hh
  have hu := t_use cond tag hc
  have hw := t_whole n
  have hrl := r3_len (specL header)
  have hsl := specL_len header
  by_cases h1 : specL header = []
  · refine ⟨200, [], ⟨fun _ => ⟨rfl, rfl⟩, fun h => absurd h1 h, fun h => absurd h1 h⟩, ?_⟩
    rw [h1] at ha
    rw [call_eq (fn := ir27) rfl, evF_bnd]
    simp (maxSteps := 2000000) (disch := omega) only [go_sem, doCall, doCallQ, Nat.reduceAdd, Nat.reduceMul, Nat.reduceSub, Nat.reduceDiv, Nat.reduceMod, Nat.reduceLT, Nat.reduceLeDiff, Nat.reduceEqDiff, Nat.reduceBEq, Nat.reduceBNe, Int.reduceToNat, Int.reduceLT, Int.reduceLE, Int.reduceEq, Int.reduceNe, Int.reduceAdd, Int.reduceSub, Int.reduceMul, Int.reduceNeg, bd27, ha, hw, List.map_nil, List.length_nil, chk_of]
  · have hlz := eq_false (show ¬ ((specL header).length : Int) = 0 by have := List.length_pos_iff.2 h1; omega)
    cases h2 : useE cond tag
    · rw [h2] at hu
      refine ⟨200, [], ⟨fun _ => ⟨rfl, rfl⟩, fun _ h => by rw [h2] at h; simp at h, fun _ h => by rw [h2] at h; simp at h⟩, ?_⟩
      rw [call_eq (fn := ir27) rfl, evF_bnd]
      simp (maxSteps := 2000000) (disch := omega) only [go_sem, doCall, doCallQ, Nat.reduceAdd, Nat.reduceMul, Nat.reduceSub, Nat.reduceDiv, Nat.reduceMod, Nat.reduceLT, Nat.reduceLeDiff, Nat.reduceEqDiff, Nat.reduceBEq, Nat.reduceBNe, Int.reduceToNat, Int.reduceLT, Int.reduceLE, Int.reduceEq, Int.reduceNe, Int.reduceAdd, Int.reduceSub, Int.reduceMul, Int.reduceNeg, bd27, ha, hu, hw, hrl, hlz, chk_of, List.map_nil]
    · rw [h2] at hu
      have hr := t_resolve (specL header) (by omega) n
      have hrr := r2_len (resL (specL header) n)
      have htr := take_r2 (resL (specL header) n)
      have hll := resL_len (specL header) n
      by_cases h3 : resL (specL header) n = []
      · refine ⟨416, [], ⟨fun h => absurd h (by rw [h2]; simp [h1]), fun _ _ _ => ⟨rfl, rfl⟩, fun _ _ h => absurd h3 h⟩, ?_⟩
        rw [h3] at hr
        rw [call_eq (fn := ir27) rfl, evF_bnd]
        simp (maxSteps := 2000000) (disch := omega) only [go_sem, doCall, doCallQ, Nat.reduceAdd, Nat.reduceMul, Nat.reduceSub, Nat.reduceDiv, Nat.reduceMod, Nat.reduceLT, Nat.reduceLeDiff, Nat.reduceEqDiff, Nat.reduceBEq, Nat.reduceBNe, Int.reduceToNat, Int.reduceLT, Int.reduceLE, Int.reduceEq, Int.reduceNe, Int.reduceAdd, Int.reduceSub, Int.reduceMul, Int.reduceNeg, bd27, ha, hu, hw, hrl, hlz, hr, List.map_nil, List.length_nil, List.take_nil, Int.natCast_nonneg, Int.toNat_natCast, Option.getD_some, Option.getD_none, List.drop_zero, Nat.sub_zero, Nat.zero_le, true_and, and_true, Nat.le_refl, Nat.zero_add, chk_of]
      · have hlz2 := eq_false (show ¬ ((resL (specL header) n).length : Int) = 0 by have := List.length_pos_iff.2 h3; omega)
        have hcl := t_clash (resL (specL header) n) (by omega)
        cases h4 : clashG [] (resL (specL header) n)
        · rw [h4] at hcl
          refine ⟨206, resL (specL header) n, ⟨fun h => absurd h (by rw [h2]; simp [h1]), fun _ _ h => absurd h h3, fun _ _ _ => ⟨rfl, by omega, fun _ => rfl, fun h => by rw [h4] at h; simp at h⟩⟩, ?_⟩
          rw [call_eq (fn := ir27) rfl, evF_bnd]
          simp (maxSteps := 2000000) (disch := omega) only [go_sem, doCall, doCallQ, Nat.reduceAdd, Nat.reduceMul, Nat.reduceSub, Nat.reduceDiv, Nat.reduceMod, Nat.reduceLT, Nat.reduceLeDiff, Nat.reduceEqDiff, Nat.reduceBEq, Nat.reduceBNe, Int.reduceToNat, Int.reduceLT, Int.reduceLE, Int.reduceEq, Int.reduceNe, Int.reduceAdd, Int.reduceSub, Int.reduceMul, Int.reduceNeg, bd27, ha, hu, hw, hrl, hlz, hr, hrr, htr, hlz2, hcl, Int.natCast_nonneg, Int.toNat_natCast, Option.getD_some, Option.getD_none, List.drop_zero, Nat.sub_zero, Nat.zero_le, true_and, and_true, Nat.le_refl, Nat.zero_add, chk_of]
        · rw [h4] at hcl
          obtain ⟨L, m1, m2, m3, m4⟩ := t_mergeE (resL (specL header) n) (by omega)
          have hLl := r2_len L
          have hLt := take_r2 L
          refine ⟨206, L, ⟨fun h => absurd h (by rw [h2]; simp [h1]), fun _ _ h => absurd h h3, fun _ _ _ => ⟨rfl, by omega, fun h => by rw [h4] at h; simp at h, fun _ => ⟨m2, m3⟩⟩⟩, ?_⟩
          rw [call_eq (fn := ir27) rfl, evF_bnd]
          simp (maxSteps := 2000000) (disch := omega) only [go_sem, doCall, doCallQ, Nat.reduceAdd, Nat.reduceMul, Nat.reduceSub, Nat.reduceDiv, Nat.reduceMod, Nat.reduceLT, Nat.reduceLeDiff, Nat.reduceEqDiff, Nat.reduceBEq, Nat.reduceBNe, Int.reduceToNat, Int.reduceLT, Int.reduceLE, Int.reduceEq, Int.reduceNe, Int.reduceAdd, Int.reduceSub, Int.reduceMul, Int.reduceNeg, bd27, ha, hu, hw, hrl, hlz, hr, hrr, htr, hlz2, hcl, m4, hLl, hLt, Int.natCast_nonneg, Int.toNat_natCast, Option.getD_some, Option.getD_none, List.drop_zero, Nat.sub_zero, Nat.zero_le, true_and, and_true, Nat.le_refl, Nat.zero_add, chk_of]
end Go.Proofs.YtpibecljdooilaaDoor
