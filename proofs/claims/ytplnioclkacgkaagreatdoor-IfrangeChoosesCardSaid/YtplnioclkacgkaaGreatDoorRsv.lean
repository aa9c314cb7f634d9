/- What specs mean of so many bytes: what the functions do. Own work. -/
import Derived.Test.YtplnioclkacgkaaGreatDoorPrwI
import Derived.Test.YtplnioclkacgkaaGreatDoorSpnP
namespace Go.Proofs.YtplnioclkacgkaaGreatDoor
open Go Go.Ev Go.Proofs.YtplnioclkacgkaaGreatDoor.Ir Go.Prs
set_option maxRecDepth 100000
set_option maxHeartbeats 4000000
set_option linter.unusedSimpArgs false
set_option linter.unusedVariables false
def SpecR (x : Sp3) : Prop := 0 ≤ x.2.1 ∧ ((x.1 = 2 ∧ x.2.1 ≤ x.2.2 ∧ x.2.2 ≤ 4611686018427387903) ∨ (x.1 = 1 ∧ x.2.1 ≤ 4611686018427387903 ∧ x.2.2 = 0) ∨ (x.1 = 3 ∧ x.2.1 ≤ 4611686018427387903 ∧ x.2.2 = 0))
instance (x : Sp3) : Decidable (SpecR x) := by unfold SpecR; infer_instance
abbrev v3 (x : Sp3) : AV := .agg [dI x.1, dI x.2.1, dI x.2.2]
theorem t_fits (a l h : Int) : call ir 29 [dI a, dI l, dI h] [] = some (dT (decide (l ≤ a ∧ a ≤ h)), []) := by
  rw [call_eq (fn := ir29) rfl, evF_bnd]
  by_cases h1 : l ≤ a
  · have h1' := eq_true h1
    simp (maxSteps := 2000000) only [go_sem, doCall, doCallQ, doCallP, Nat.reduceAdd, Nat.reduceMul, Nat.reduceSub, Nat.reduceDiv, Nat.reduceMod, Nat.reduceLT, Nat.reduceLeDiff, Nat.reduceEqDiff, Nat.reduceBEq, Nat.reduceBNe, Int.reduceToNat, Int.reduceLT, Int.reduceLE, Int.reduceEq, Int.reduceNe, Int.reduceAdd, Int.reduceSub, Int.reduceMul, Int.reduceNeg, bd29, h1', true_and]
  · have h1' := eq_false h1
    simp (maxSteps := 2000000) only [go_sem, doCall, doCallQ, doCallP, Nat.reduceAdd, Nat.reduceMul, Nat.reduceSub, Nat.reduceDiv, Nat.reduceMod, Nat.reduceLT, Nat.reduceLeDiff, Nat.reduceEqDiff, Nat.reduceBEq, Nat.reduceBNe, Int.reduceToNat, Int.reduceLT, Int.reduceLE, Int.reduceEq, Int.reduceNe, Int.reduceAdd, Int.reduceSub, Int.reduceMul, Int.reduceNeg, bd29, h1', false_and, decide_false]
theorem t_specRight (x : Sp3) : call ir 30 [v3 x] [] = some (dT (decide (SpecR x)), []) := by
  rw [call_eq (fn := ir30) rfl, evF_bnd]
  simp (maxSteps := 2000000) only [go_sem, doCall, doCallQ, doCallP, Nat.reduceAdd, Nat.reduceMul, Nat.reduceSub, Nat.reduceDiv, Nat.reduceMod, Nat.reduceLT, Nat.reduceLeDiff, Nat.reduceEqDiff, Nat.reduceBEq, Nat.reduceBNe, Int.reduceToNat, Int.reduceLT, Int.reduceLE, Int.reduceEq, Int.reduceNe, Int.reduceAdd, Int.reduceSub, Int.reduceMul, Int.reduceNeg, bd30, t_fits]
  repeat' (apply two_cases <;> intro h <;> simp (maxSteps := 2000000) only [go_sem, doCall, doCallQ, doCallP, Nat.reduceAdd, Nat.reduceMul, Nat.reduceSub, Nat.reduceDiv, Nat.reduceMod, Nat.reduceLT, Nat.reduceLeDiff, Nat.reduceEqDiff, Nat.reduceBEq, Nat.reduceBNe, Int.reduceToNat, Int.reduceLT, Int.reduceLE, Int.reduceEq, Int.reduceNe, Int.reduceAdd, Int.reduceSub, Int.reduceMul, Int.reduceNeg, h, t_fits])
  all_goals first | (apply dec_eq; unfold SpecR; omega) | (apply dec_f; unfold SpecR; omega) | (apply dec_t; unfold SpecR; omega)
theorem t_rspecRight (x : Sp3) : call ir 47 [v3 x] [] = some (dT (decide (SpecR x)), []) := by
  rw [call_eq (fn := ir47) rfl, evF_bnd]
  simp (maxSteps := 2000000) only [go_sem, doCall, doCallQ, doCallP, Nat.reduceAdd, Nat.reduceMul, Nat.reduceSub, Nat.reduceDiv, Nat.reduceMod, Nat.reduceLT, Nat.reduceLeDiff, Nat.reduceEqDiff, Nat.reduceBEq, Nat.reduceBNe, Int.reduceToNat, Int.reduceLT, Int.reduceLE, Int.reduceEq, Int.reduceNe, Int.reduceAdd, Int.reduceSub, Int.reduceMul, Int.reduceNeg, bd47]
  repeat' (apply two_cases <;> intro h <;> simp (maxSteps := 2000000) only [go_sem, doCall, doCallQ, doCallP, Nat.reduceAdd, Nat.reduceMul, Nat.reduceSub, Nat.reduceDiv, Nat.reduceMod, Nat.reduceLT, Nat.reduceLeDiff, Nat.reduceEqDiff, Nat.reduceBEq, Nat.reduceBNe, Int.reduceToNat, Int.reduceLT, Int.reduceLE, Int.reduceEq, Int.reduceNe, Int.reduceAdd, Int.reduceSub, Int.reduceMul, Int.reduceNeg, h])
  all_goals first | (apply dec_eq; unfold SpecR; omega) | (apply dec_f; unfold SpecR; omega) | (apply dec_t; unfold SpecR; omega)
/-- What a spec means of n bytes. -/
def oneP (x : Sp3) (n : Int) : Int × Int := if x.1 = 1 then (x.2.1, n) else if x.1 = 2 then (x.2.1, min x.2.2 (n - 1) + 1) else (n - min x.2.1 n, n)
theorem t_sone {x : Sp3} (hx : SpecR x) {n : Int} (hn : 1 ≤ n ∧ n ≤ 4611686018427387903) : call ir 31 [v3 x, dI n] [] = some (vP (oneP x n), []) := by
  rw [call_eq (fn := ir31) rfl, evF_bnd]
  have w1 : wr .i64 (n - 1) = n - 1 := wr_id (by omega)
  unfold oneP
  rcases hx with ⟨h0, ⟨h1, h2⟩ | ⟨h1, h2⟩ | ⟨h1, h2⟩⟩
  · have w2 : wr .i64 (min x.2.2 (n - 1) + 1) = min x.2.2 (n - 1) + 1 := wr_id (by omega)
    have c1 := eq_false (show ¬ x.1 = 1 by omega)
    have c2 := eq_true h1
    rw [if_neg (by omega), if_pos h1]
    simp (maxSteps := 2000000) (disch := omega) only [go_sem, doCall, doCallQ, doCallP, Nat.reduceAdd, Nat.reduceMul, Nat.reduceSub, Nat.reduceDiv, Nat.reduceMod, Nat.reduceLT, Nat.reduceLeDiff, Nat.reduceEqDiff, Nat.reduceBEq, Nat.reduceBNe, Int.reduceToNat, Int.reduceLT, Int.reduceLE, Int.reduceEq, Int.reduceNe, Int.reduceAdd, Int.reduceSub, Int.reduceMul, Int.reduceNeg, bd31, c1, c2, w1, w2, chk_of]
  · have c1 := eq_true h1
    rw [if_pos h1]
    simp (maxSteps := 2000000) (disch := omega) only [go_sem, doCall, doCallQ, doCallP, Nat.reduceAdd, Nat.reduceMul, Nat.reduceSub, Nat.reduceDiv, Nat.reduceMod, Nat.reduceLT, Nat.reduceLeDiff, Nat.reduceEqDiff, Nat.reduceBEq, Nat.reduceBNe, Int.reduceToNat, Int.reduceLT, Int.reduceLE, Int.reduceEq, Int.reduceNe, Int.reduceAdd, Int.reduceSub, Int.reduceMul, Int.reduceNeg, bd31, c1, chk_of]
  · have w2 : wr .i64 (n - min x.2.1 n) = n - min x.2.1 n := wr_id (by omega)
    have c1 := eq_false (show ¬ x.1 = 1 by omega)
    have c2 := eq_false (show ¬ x.1 = 2 by omega)
    rw [if_neg (by omega), if_neg (by omega)]
    simp (maxSteps := 2000000) (disch := omega) only [go_sem, doCall, doCallQ, doCallP, Nat.reduceAdd, Nat.reduceMul, Nat.reduceSub, Nat.reduceDiv, Nat.reduceMod, Nat.reduceLT, Nat.reduceLeDiff, Nat.reduceEqDiff, Nat.reduceBEq, Nat.reduceBNe, Int.reduceToNat, Int.reduceLT, Int.reduceLE, Int.reduceEq, Int.reduceNe, Int.reduceAdd, Int.reduceSub, Int.reduceMul, Int.reduceNeg, bd31, c1, c2, w2, chk_of]
def res1 (n : Int) (x : Sp3) : List (Int × Int) := if SpecR x ∧ RP (oneP x n).1 (oneP x n).2 then [oneP x n] else []
def resL (l : List Sp3) (n : Int) : List (Int × Int) := if 1 ≤ n ∧ n ≤ 4611686018427387903 then l.flatMap (res1 n) else []
theorem res1_len (n : Int) (x : Sp3) : (res1 n x).length ≤ 1 := by unfold res1; split <;> simp
theorem fm_len (n : Int) : ∀ l : List Sp3, (l.flatMap (res1 n)).length ≤ l.length
  | [] => Nat.le_refl _
  | x :: l => by
    have := fm_len n l
    have := res1_len n x
    simp only [List.flatMap_cons, List.length_append, List.length_cons]; omega
theorem fm_take {n : Int} {l : List Sp3} {i : Nat} (h : i < l.length) : (l.take (i + 1)).flatMap (res1 n) = (l.take i).flatMap (res1 n) ++ res1 n l[i] := by
  rw [List.take_succ_eq_append_getElem h, List.flatMap_append]; simp
theorem get_r3 (l : List Sp3) (i : Nat) (h : i < l.length) : (r3 l).getD i [] = e3 (l[i]) := by simp [List.getD_eq_getElem?_getD, h]
abbrev r2 (l : List (Int × Int)) : List (List D) := l.map eP
theorem r2_len (l : List (Int × Int)) : (r2 l).length = l.length := List.length_map ..
theorem lp_res (l : List Sp3) (hl : l.length ≤ 1000000) (n : Int) (hn : 1 ≤ n ∧ n ≤ 4611686018427387903) (k : Ex → St → Option (AV × Heap)) (i : Nat) (hi : i ≤ l.length) (O : List (Int × Int)) (hO : O = (l.take i).flatMap (res1 n)) :
    (bnd (evC (call ir) (loop ir) lp16_0 (st16_0 0 (dI n) (.own 0 2 0 O.length false) (.d (.list 3 (r3 l))) (dI l.length) (dI i) [.arr 2 (r2 O)])) (lpC (call ir) (loop ir) [1, 5, 12, 13, 14] lp16_0 k)) = k (.exit 0) (clean [5] (st16_0 0 .unk (.own 0 2 0 (l.flatMap (res1 n)).length false) .unk .unk .unk [.arr 2 (r2 (l.flatMap (res1 n)))])) := by
  by_cases h : i = l.length
  · have hx : ¬ (i : Int) < l.length := by omega
    rw [h] at hx hO
    rw [List.take_length] at hO
    rw [h, ← hO]
    simp (maxSteps := 2000000) (disch := omega) only [go_sem, doCall, doCallQ, doCallP, Nat.reduceAdd, Nat.reduceMul, Nat.reduceSub, Nat.reduceDiv, Nat.reduceMod, Nat.reduceLT, Nat.reduceLeDiff, Nat.reduceEqDiff, Nat.reduceBEq, Nat.reduceBNe, Int.reduceToNat, Int.reduceLT, Int.reduceLE, Int.reduceEq, Int.reduceNe, Int.reduceAdd, Int.reduceSub, Int.reduceMul, Int.reduceNeg, u16_0, lb16_0, hx]
  · have hlt : (i : Int) < l.length := by omega
    have hi' : i < l.length := by omega
    have hw := wr_succ (i := i) (by omega)
    have hg := get_r3 l i hi'
    have hsr := t_specRight l[i]
    have hOl : O.length ≤ i := by rw [hO]; exact Nat.le_trans (fm_len n _) (by rw [List.length_take]; omega)
    have hft := fm_take (n := n) hi'
    rw [← hO] at hft
    have hrl := r2_len O
    by_cases hs : SpecR l[i]
    · rw [decide_eq_true hs] at hsr
      have hso := t_sone hs hn
      have hri := t_right (oneP l[i] n).1 (oneP l[i] n).2
      generalize hz : oneP l[i] n = z at *
      by_cases hr : RP z.1 z.2
      · rw [decide_eq_true hr] at hri
        have h1 : res1 n l[i] = [z] := by unfold res1; rw [hz, if_pos ⟨hs, hr⟩]
        rw [h1] at hft
        have ih := lp_res l hl n hn k (i + 1) (by omega) (O ++ [z]) hft.symm
        have hl1 : (O ++ [z]).length = O.length + 1 := by simp
        have hm1 : r2 (O ++ [z]) = r2 O ++ [[D.int .i64 z.1, D.int .i64 z.2]] := by simp
        rw [hl1, hm1] at ih
        simp (maxSteps := 2000000) (disch := omega) only [go_sem, doCall, doCallQ, doCallP, Nat.reduceAdd, Nat.reduceMul, Nat.reduceSub, Nat.reduceDiv, Nat.reduceMod, Nat.reduceLT, Nat.reduceLeDiff, Nat.reduceEqDiff, Nat.reduceBEq, Nat.reduceBNe, Int.reduceToNat, Int.reduceLT, Int.reduceLE, Int.reduceEq, Int.reduceNe, Int.reduceAdd, Int.reduceSub, Int.reduceMul, Int.reduceNeg, u16_0, lb16_0, hlt, hi', hw, hg, hsr, hso, hri, hrl, Int.natCast_nonneg, Int.toNat_natCast, Option.getD_some, Option.getD_none, List.drop_zero, Nat.sub_zero, Nat.zero_le, true_and, and_true, Nat.le_refl, Nat.zero_add, List.length_cons, List.length_nil, chk_of]
        rw [loop_step1]; simp (maxSteps := 2000000) only [go_sem, doCall, doCallQ, doCallP, Nat.reduceAdd, Nat.reduceMul, Nat.reduceSub, Nat.reduceDiv, Nat.reduceMod, Nat.reduceLT, Nat.reduceLeDiff, Nat.reduceEqDiff, Nat.reduceBEq, Nat.reduceBNe, Int.reduceToNat, Int.reduceLT, Int.reduceLE, Int.reduceEq, Int.reduceNe, Int.reduceAdd, Int.reduceSub, Int.reduceMul, Int.reduceNeg]; exact ih
      · rw [decide_eq_false hr] at hri
        have h1 : res1 n l[i] = [] := by unfold res1; rw [hz, if_neg (fun h => hr h.2)]
        rw [h1, List.append_nil] at hft
        have ih := lp_res l hl n hn k (i + 1) (by omega) O hft.symm
        simp (maxSteps := 2000000) (disch := omega) only [go_sem, doCall, doCallQ, doCallP, Nat.reduceAdd, Nat.reduceMul, Nat.reduceSub, Nat.reduceDiv, Nat.reduceMod, Nat.reduceLT, Nat.reduceLeDiff, Nat.reduceEqDiff, Nat.reduceBEq, Nat.reduceBNe, Int.reduceToNat, Int.reduceLT, Int.reduceLE, Int.reduceEq, Int.reduceNe, Int.reduceAdd, Int.reduceSub, Int.reduceMul, Int.reduceNeg, u16_0, lb16_0, hlt, hi', hw, hg, hsr, hso, hri, hrl, Int.natCast_nonneg, Int.toNat_natCast, Option.getD_some, Option.getD_none, List.drop_zero, Nat.sub_zero, Nat.zero_le, true_and, and_true, Nat.le_refl, Nat.zero_add, chk_of]
        rw [loop_step1]; simp (maxSteps := 2000000) only [go_sem, doCall, doCallQ, doCallP, Nat.reduceAdd, Nat.reduceMul, Nat.reduceSub, Nat.reduceDiv, Nat.reduceMod, Nat.reduceLT, Nat.reduceLeDiff, Nat.reduceEqDiff, Nat.reduceBEq, Nat.reduceBNe, Int.reduceToNat, Int.reduceLT, Int.reduceLE, Int.reduceEq, Int.reduceNe, Int.reduceAdd, Int.reduceSub, Int.reduceMul, Int.reduceNeg]; exact ih
    · rw [decide_eq_false hs] at hsr
      have h1 : res1 n l[i] = [] := by unfold res1; rw [if_neg (fun h => hs h.1)]
      rw [h1, List.append_nil] at hft
      have ih := lp_res l hl n hn k (i + 1) (by omega) O hft.symm
      simp (maxSteps := 2000000) (disch := omega) only [go_sem, doCall, doCallQ, doCallP, Nat.reduceAdd, Nat.reduceMul, Nat.reduceSub, Nat.reduceDiv, Nat.reduceMod, Nat.reduceLT, Nat.reduceLeDiff, Nat.reduceEqDiff, Nat.reduceBEq, Nat.reduceBNe, Int.reduceToNat, Int.reduceLT, Int.reduceLE, Int.reduceEq, Int.reduceNe, Int.reduceAdd, Int.reduceSub, Int.reduceMul, Int.reduceNeg, u16_0, lb16_0, hlt, hi', hw, hg, hsr, hrl, Int.natCast_nonneg, Int.toNat_natCast, Option.getD_some, Option.getD_none, List.drop_zero, Nat.sub_zero, Nat.zero_le, true_and, and_true, Nat.le_refl, Nat.zero_add, chk_of]
      rw [loop_step1]; simp (maxSteps := 2000000) only [go_sem, doCall, doCallQ, doCallP, Nat.reduceAdd, Nat.reduceMul, Nat.reduceSub, Nat.reduceDiv, Nat.reduceMod, Nat.reduceLT, Nat.reduceLeDiff, Nat.reduceEqDiff, Nat.reduceBEq, Nat.reduceBNe, Int.reduceToNat, Int.reduceLT, Int.reduceLE, Int.reduceEq, Int.reduceNe, Int.reduceAdd, Int.reduceSub, Int.reduceMul, Int.reduceNeg]; exact ih
termination_by l.length - i
theorem t_resolve (l : List Sp3) (hl : l.length ≤ 1000000) (n : Int) : call ir 16 [.d (.list 3 (r3 l)), dI n] [] = some (.own 0 2 0 (resL l n).length false, [.arr 2 (r2 (resL l n))]) := by
  rw [call_eq (fn := ir16) rfl, evF_bnd]
  have hf := t_fits n 1 4611686018427387903
  unfold resL
  by_cases hn : 1 ≤ n ∧ n ≤ 4611686018427387903
  · rw [decide_eq_true hn] at hf
    rw [if_pos hn]
    have hrl := r3_len l
    simp (maxSteps := 2000000) (disch := omega) only [go_sem, doCall, doCallQ, doCallP, Nat.reduceAdd, Nat.reduceMul, Nat.reduceSub, Nat.reduceDiv, Nat.reduceMod, Nat.reduceLT, Nat.reduceLeDiff, Nat.reduceEqDiff, Nat.reduceBEq, Nat.reduceBNe, Int.reduceToNat, Int.reduceLT, Int.reduceLE, Int.reduceEq, Int.reduceNe, Int.reduceAdd, Int.reduceSub, Int.reduceMul, Int.reduceNeg, bd16, hf, hrl]
    rw [loop_step1]; simp (maxSteps := 2000000) only [go_sem, doCall, doCallQ, doCallP, Nat.reduceAdd, Nat.reduceMul, Nat.reduceSub, Nat.reduceDiv, Nat.reduceMod, Nat.reduceLT, Nat.reduceLeDiff, Nat.reduceEqDiff, Nat.reduceBEq, Nat.reduceBNe, Int.reduceToNat, Int.reduceLT, Int.reduceLE, Int.reduceEq, Int.reduceNe, Int.reduceAdd, Int.reduceSub, Int.reduceMul, Int.reduceNeg]
    have h0 := fun k => lp_res l hl n hn k 0 (by omega) [] rfl
    simp only [List.length_nil, List.map_nil] at h0
    refine Eq.trans (h0 _) ?_
    simp (maxSteps := 2000000) only [go_sem, doCall, doCallQ, doCallP, Nat.reduceAdd, Nat.reduceMul, Nat.reduceSub, Nat.reduceDiv, Nat.reduceMod, Nat.reduceLT, Nat.reduceLeDiff, Nat.reduceEqDiff, Nat.reduceBEq, Nat.reduceBNe, Int.reduceToNat, Int.reduceLT, Int.reduceLE, Int.reduceEq, Int.reduceNe, Int.reduceAdd, Int.reduceSub, Int.reduceMul, Int.reduceNeg]
  · rw [decide_eq_false hn] at hf
    rw [if_neg hn]
    simp (maxSteps := 2000000) (disch := omega) only [go_sem, doCall, doCallQ, doCallP, Nat.reduceAdd, Nat.reduceMul, Nat.reduceSub, Nat.reduceDiv, Nat.reduceMod, Nat.reduceLT, Nat.reduceLeDiff, Nat.reduceEqDiff, Nat.reduceBEq, Nat.reduceBNe, Int.reduceToNat, Int.reduceLT, Int.reduceLE, Int.reduceEq, Int.reduceNe, Int.reduceAdd, Int.reduceSub, Int.reduceMul, Int.reduceNeg, bd16, hf, List.length_nil, List.map_nil]
theorem lp_rres (l : List Sp3) (hl : l.length ≤ 1000000) (n : Int) (hn : 1 ≤ n ∧ n ≤ 4611686018427387903) (k : Ex → St → Option (AV × Heap)) (i : Nat) (hi : i ≤ l.length) (O : List (Int × Int)) (hO : O = (l.take i).flatMap (res1 n)) :
    (bnd (evC (call ir) (loop ir) lp21_0 (st21_0 0 (dI n) (.own 0 2 0 O.length false) (.d (.list 3 (r3 l))) (dI l.length) (dI i) [.arr 2 (r2 O)])) (lpC (call ir) (loop ir) [1, 5, 16, 17, 18] lp21_0 k)) = k (.exit 0) (clean [5] (st21_0 0 .unk (.own 0 2 0 (l.flatMap (res1 n)).length false) .unk .unk .unk [.arr 2 (r2 (l.flatMap (res1 n)))])) := by
  by_cases h : i = l.length
  · have hx : ¬ (i : Int) < l.length := by omega
    rw [h] at hx hO
    rw [List.take_length] at hO
    rw [h, ← hO]
    simp (maxSteps := 2000000) (disch := omega) only [go_sem, doCall, doCallQ, doCallP, Nat.reduceAdd, Nat.reduceMul, Nat.reduceSub, Nat.reduceDiv, Nat.reduceMod, Nat.reduceLT, Nat.reduceLeDiff, Nat.reduceEqDiff, Nat.reduceBEq, Nat.reduceBNe, Int.reduceToNat, Int.reduceLT, Int.reduceLE, Int.reduceEq, Int.reduceNe, Int.reduceAdd, Int.reduceSub, Int.reduceMul, Int.reduceNeg, u21_0, lb21_0, hx]
  · have hlt : (i : Int) < l.length := by omega
    have hi' : i < l.length := by omega
    have hw := wr_succ (i := i) (by omega)
    have hg := get_r3 l i hi'
    have hsr := t_rspecRight l[i]
    have hOl : O.length ≤ i := by rw [hO]; exact Nat.le_trans (fm_len n _) (by rw [List.length_take]; omega)
    have hft := fm_take (n := n) hi'
    rw [← hO] at hft
    have hrl := r2_len O
    by_cases hs : SpecR l[i]
    · rw [decide_eq_true hs] at hsr
      have hri := t_rright (oneP l[i] n).1 (oneP l[i] n).2
      have w1 : wr .i64 (n - 1) = n - 1 := wr_id (by omega)
      have key : ∀ z, oneP l[i] n = z → (∀ v : Nat, True) → (RP z.1 z.2 → bnd (evC (call ir) (loop ir) lp21_0 (st21_0 0 (dI n) (.own 0 2 0 (O.length + 1) false) (.d (.list 3 (r3 l))) (dI l.length) (dI (i + 1 : Nat)) [.arr 2 (r2 O ++ [[D.int .i64 z.1, D.int .i64 z.2]])])) (lpC (call ir) (loop ir) [1, 5, 16, 17, 18] lp21_0 k) = k (.exit 0) (clean [5] (st21_0 0 .unk (.own 0 2 0 (l.flatMap (res1 n)).length false) .unk .unk .unk [.arr 2 (r2 (l.flatMap (res1 n)))]))) ∧
          (¬ RP z.1 z.2 → bnd (evC (call ir) (loop ir) lp21_0 (st21_0 0 (dI n) (.own 0 2 0 O.length false) (.d (.list 3 (r3 l))) (dI l.length) (dI (i + 1 : Nat)) [.arr 2 (r2 O)])) (lpC (call ir) (loop ir) [1, 5, 16, 17, 18] lp21_0 k) = k (.exit 0) (clean [5] (st21_0 0 .unk (.own 0 2 0 (l.flatMap (res1 n)).length false) .unk .unk .unk [.arr 2 (r2 (l.flatMap (res1 n)))]))) := by
        intro z hz _
        refine ⟨fun hr => ?_, fun hr => ?_⟩
        · have h1 : res1 n l[i] = [z] := by unfold res1; rw [hz, if_pos ⟨hs, hr⟩]
          rw [h1] at hft
          have ih := lp_rres l hl n hn k (i + 1) (by omega) (O ++ [z]) hft.symm
          have hl1 : (O ++ [z]).length = O.length + 1 := by simp
          have hm1 : r2 (O ++ [z]) = r2 O ++ [[D.int .i64 z.1, D.int .i64 z.2]] := by simp
          rw [hl1, hm1] at ih
          exact ih
        · have h1 : res1 n l[i] = [] := by unfold res1; rw [hz, if_neg (fun h => hr h.2)]
          rw [h1, List.append_nil] at hft
          exact lp_rres l hl n hn k (i + 1) (by omega) O hft.symm
      have hs' := hs
      rcases hs' with ⟨h0, ⟨h1, h2⟩ | ⟨h1, h2⟩ | ⟨h1, h2⟩⟩
      · have hc1 := eq_true h1
        have hc3 := eq_false (show ¬ l[i].1 = 3 by omega)
        have hz : oneP l[i] n = (l[i].2.1, min l[i].2.2 (n - 1) + 1) := by unfold oneP; rw [if_neg (by omega), if_pos h1]
        obtain ⟨k1, k2⟩ := key _ hz (fun _ => trivial)
        rw [hz] at hri
        by_cases h3 : l[i].2.2 < n - 1
        · have hm : min l[i].2.2 (n - 1) + 1 = l[i].2.2 + 1 := by omega
          have w2 : wr .i64 (l[i].2.2 + 1) = l[i].2.2 + 1 := wr_id (by omega)
          simp only [hm] at k1 k2 hri
          by_cases hr : RP l[i].2.1 (l[i].2.2 + 1)
          · rw [decide_eq_true hr] at hri
            simp (maxSteps := 2000000) (disch := omega) only [go_sem, doCall, doCallQ, doCallP, Nat.reduceAdd, Nat.reduceMul, Nat.reduceSub, Nat.reduceDiv, Nat.reduceMod, Nat.reduceLT, Nat.reduceLeDiff, Nat.reduceEqDiff, Nat.reduceBEq, Nat.reduceBNe, Int.reduceToNat, Int.reduceLT, Int.reduceLE, Int.reduceEq, Int.reduceNe, Int.reduceAdd, Int.reduceSub, Int.reduceMul, Int.reduceNeg, u21_0, lb21_0, hlt, hi', hw, hg, hsr, w1, w2, hc1, hc3, h3, hri, hrl, Int.natCast_nonneg, Int.toNat_natCast, Option.getD_some, Option.getD_none, List.drop_zero, Nat.sub_zero, Nat.zero_le, true_and, and_true, Nat.le_refl, Nat.zero_add, List.length_cons, List.length_nil, chk_of]
            rw [loop_step1]; simp (maxSteps := 2000000) only [go_sem, doCall, doCallQ, doCallP, Nat.reduceAdd, Nat.reduceMul, Nat.reduceSub, Nat.reduceDiv, Nat.reduceMod, Nat.reduceLT, Nat.reduceLeDiff, Nat.reduceEqDiff, Nat.reduceBEq, Nat.reduceBNe, Int.reduceToNat, Int.reduceLT, Int.reduceLE, Int.reduceEq, Int.reduceNe, Int.reduceAdd, Int.reduceSub, Int.reduceMul, Int.reduceNeg]; exact k1 hr
          · rw [decide_eq_false hr] at hri
            simp (maxSteps := 2000000) (disch := omega) only [go_sem, doCall, doCallQ, doCallP, Nat.reduceAdd, Nat.reduceMul, Nat.reduceSub, Nat.reduceDiv, Nat.reduceMod, Nat.reduceLT, Nat.reduceLeDiff, Nat.reduceEqDiff, Nat.reduceBEq, Nat.reduceBNe, Int.reduceToNat, Int.reduceLT, Int.reduceLE, Int.reduceEq, Int.reduceNe, Int.reduceAdd, Int.reduceSub, Int.reduceMul, Int.reduceNeg, u21_0, lb21_0, hlt, hi', hw, hg, hsr, w1, w2, hc1, hc3, h3, hri, hrl, Int.natCast_nonneg, Int.toNat_natCast, Option.getD_some, Option.getD_none, List.drop_zero, Nat.sub_zero, Nat.zero_le, true_and, and_true, Nat.le_refl, Nat.zero_add, List.length_cons, List.length_nil, chk_of]
            rw [loop_step1]; simp (maxSteps := 2000000) only [go_sem, doCall, doCallQ, doCallP, Nat.reduceAdd, Nat.reduceMul, Nat.reduceSub, Nat.reduceDiv, Nat.reduceMod, Nat.reduceLT, Nat.reduceLeDiff, Nat.reduceEqDiff, Nat.reduceBEq, Nat.reduceBNe, Int.reduceToNat, Int.reduceLT, Int.reduceLE, Int.reduceEq, Int.reduceNe, Int.reduceAdd, Int.reduceSub, Int.reduceMul, Int.reduceNeg]; exact k2 hr
        · have hm : min l[i].2.2 (n - 1) + 1 = n := by omega
          simp only [hm] at k1 k2 hri
          by_cases hr : RP l[i].2.1 n
          · rw [decide_eq_true hr] at hri
            simp (maxSteps := 2000000) (disch := omega) only [go_sem, doCall, doCallQ, doCallP, Nat.reduceAdd, Nat.reduceMul, Nat.reduceSub, Nat.reduceDiv, Nat.reduceMod, Nat.reduceLT, Nat.reduceLeDiff, Nat.reduceEqDiff, Nat.reduceBEq, Nat.reduceBNe, Int.reduceToNat, Int.reduceLT, Int.reduceLE, Int.reduceEq, Int.reduceNe, Int.reduceAdd, Int.reduceSub, Int.reduceMul, Int.reduceNeg, u21_0, lb21_0, hlt, hi', hw, hg, hsr, w1, hc1, hc3, h3, hri, hrl, Int.natCast_nonneg, Int.toNat_natCast, Option.getD_some, Option.getD_none, List.drop_zero, Nat.sub_zero, Nat.zero_le, true_and, and_true, Nat.le_refl, Nat.zero_add, List.length_cons, List.length_nil, chk_of]
            rw [loop_step1]; simp (maxSteps := 2000000) only [go_sem, doCall, doCallQ, doCallP, Nat.reduceAdd, Nat.reduceMul, Nat.reduceSub, Nat.reduceDiv, Nat.reduceMod, Nat.reduceLT, Nat.reduceLeDiff, Nat.reduceEqDiff, Nat.reduceBEq, Nat.reduceBNe, Int.reduceToNat, Int.reduceLT, Int.reduceLE, Int.reduceEq, Int.reduceNe, Int.reduceAdd, Int.reduceSub, Int.reduceMul, Int.reduceNeg]; exact k1 hr
          · rw [decide_eq_false hr] at hri
            simp (maxSteps := 2000000) (disch := omega) only [go_sem, doCall, doCallQ, doCallP, Nat.reduceAdd, Nat.reduceMul, Nat.reduceSub, Nat.reduceDiv, Nat.reduceMod, Nat.reduceLT, Nat.reduceLeDiff, Nat.reduceEqDiff, Nat.reduceBEq, Nat.reduceBNe, Int.reduceToNat, Int.reduceLT, Int.reduceLE, Int.reduceEq, Int.reduceNe, Int.reduceAdd, Int.reduceSub, Int.reduceMul, Int.reduceNeg, u21_0, lb21_0, hlt, hi', hw, hg, hsr, w1, hc1, hc3, h3, hri, hrl, Int.natCast_nonneg, Int.toNat_natCast, Option.getD_some, Option.getD_none, List.drop_zero, Nat.sub_zero, Nat.zero_le, true_and, and_true, Nat.le_refl, Nat.zero_add, List.length_cons, List.length_nil, chk_of]
            rw [loop_step1]; simp (maxSteps := 2000000) only [go_sem, doCall, doCallQ, doCallP, Nat.reduceAdd, Nat.reduceMul, Nat.reduceSub, Nat.reduceDiv, Nat.reduceMod, Nat.reduceLT, Nat.reduceLeDiff, Nat.reduceEqDiff, Nat.reduceBEq, Nat.reduceBNe, Int.reduceToNat, Int.reduceLT, Int.reduceLE, Int.reduceEq, Int.reduceNe, Int.reduceAdd, Int.reduceSub, Int.reduceMul, Int.reduceNeg]; exact k2 hr
      · have hc1 := eq_false (show ¬ l[i].1 = 2 by omega)
        have hc3 := eq_false (show ¬ l[i].1 = 3 by omega)
        have hz : oneP l[i] n = (l[i].2.1, n) := by unfold oneP; rw [if_pos h1]
        obtain ⟨k1, k2⟩ := key _ hz (fun _ => trivial)
        rw [hz] at hri
        simp only at k1 k2 hri
        by_cases hr : RP l[i].2.1 n
        · rw [decide_eq_true hr] at hri
          simp (maxSteps := 2000000) (disch := omega) only [go_sem, doCall, doCallQ, doCallP, Nat.reduceAdd, Nat.reduceMul, Nat.reduceSub, Nat.reduceDiv, Nat.reduceMod, Nat.reduceLT, Nat.reduceLeDiff, Nat.reduceEqDiff, Nat.reduceBEq, Nat.reduceBNe, Int.reduceToNat, Int.reduceLT, Int.reduceLE, Int.reduceEq, Int.reduceNe, Int.reduceAdd, Int.reduceSub, Int.reduceMul, Int.reduceNeg, u21_0, lb21_0, hlt, hi', hw, hg, hsr, w1, hc1, hc3, hri, hrl, Int.natCast_nonneg, Int.toNat_natCast, Option.getD_some, Option.getD_none, List.drop_zero, Nat.sub_zero, Nat.zero_le, true_and, and_true, Nat.le_refl, Nat.zero_add, List.length_cons, List.length_nil, chk_of]
          rw [loop_step1]; simp (maxSteps := 2000000) only [go_sem, doCall, doCallQ, doCallP, Nat.reduceAdd, Nat.reduceMul, Nat.reduceSub, Nat.reduceDiv, Nat.reduceMod, Nat.reduceLT, Nat.reduceLeDiff, Nat.reduceEqDiff, Nat.reduceBEq, Nat.reduceBNe, Int.reduceToNat, Int.reduceLT, Int.reduceLE, Int.reduceEq, Int.reduceNe, Int.reduceAdd, Int.reduceSub, Int.reduceMul, Int.reduceNeg]; exact k1 hr
        · rw [decide_eq_false hr] at hri
          simp (maxSteps := 2000000) (disch := omega) only [go_sem, doCall, doCallQ, doCallP, Nat.reduceAdd, Nat.reduceMul, Nat.reduceSub, Nat.reduceDiv, Nat.reduceMod, Nat.reduceLT, Nat.reduceLeDiff, Nat.reduceEqDiff, Nat.reduceBEq, Nat.reduceBNe, Int.reduceToNat, Int.reduceLT, Int.reduceLE, Int.reduceEq, Int.reduceNe, Int.reduceAdd, Int.reduceSub, Int.reduceMul, Int.reduceNeg, u21_0, lb21_0, hlt, hi', hw, hg, hsr, w1, hc1, hc3, hri, hrl, Int.natCast_nonneg, Int.toNat_natCast, Option.getD_some, Option.getD_none, List.drop_zero, Nat.sub_zero, Nat.zero_le, true_and, and_true, Nat.le_refl, Nat.zero_add, List.length_cons, List.length_nil, chk_of]
          rw [loop_step1]; simp (maxSteps := 2000000) only [go_sem, doCall, doCallQ, doCallP, Nat.reduceAdd, Nat.reduceMul, Nat.reduceSub, Nat.reduceDiv, Nat.reduceMod, Nat.reduceLT, Nat.reduceLeDiff, Nat.reduceEqDiff, Nat.reduceBEq, Nat.reduceBNe, Int.reduceToNat, Int.reduceLT, Int.reduceLE, Int.reduceEq, Int.reduceNe, Int.reduceAdd, Int.reduceSub, Int.reduceMul, Int.reduceNeg]; exact k2 hr
      · have hc1 := eq_false (show ¬ l[i].1 = 2 by omega)
        have hc3 := eq_true (show l[i].1 = 3 by omega)
        have hz : oneP l[i] n = (n - min l[i].2.1 n, n) := by unfold oneP; rw [if_neg (by omega), if_neg (by omega)]
        obtain ⟨k1, k2⟩ := key _ hz (fun _ => trivial)
        rw [hz] at hri
        by_cases h3 : l[i].2.1 < n
        · have hm : n - min l[i].2.1 n = n - l[i].2.1 := by omega
          have w2 : wr .i64 (n - l[i].2.1) = n - l[i].2.1 := wr_id (by omega)
          simp only [hm] at k1 k2 hri
          by_cases hr : RP (n - l[i].2.1) n
          · rw [decide_eq_true hr] at hri
            simp (maxSteps := 2000000) (disch := omega) only [go_sem, doCall, doCallQ, doCallP, Nat.reduceAdd, Nat.reduceMul, Nat.reduceSub, Nat.reduceDiv, Nat.reduceMod, Nat.reduceLT, Nat.reduceLeDiff, Nat.reduceEqDiff, Nat.reduceBEq, Nat.reduceBNe, Int.reduceToNat, Int.reduceLT, Int.reduceLE, Int.reduceEq, Int.reduceNe, Int.reduceAdd, Int.reduceSub, Int.reduceMul, Int.reduceNeg, u21_0, lb21_0, hlt, hi', hw, hg, hsr, w1, w2, hc1, hc3, h3, hri, hrl, Int.natCast_nonneg, Int.toNat_natCast, Option.getD_some, Option.getD_none, List.drop_zero, Nat.sub_zero, Nat.zero_le, true_and, and_true, Nat.le_refl, Nat.zero_add, List.length_cons, List.length_nil, chk_of]
            rw [loop_step1]; simp (maxSteps := 2000000) only [go_sem, doCall, doCallQ, doCallP, Nat.reduceAdd, Nat.reduceMul, Nat.reduceSub, Nat.reduceDiv, Nat.reduceMod, Nat.reduceLT, Nat.reduceLeDiff, Nat.reduceEqDiff, Nat.reduceBEq, Nat.reduceBNe, Int.reduceToNat, Int.reduceLT, Int.reduceLE, Int.reduceEq, Int.reduceNe, Int.reduceAdd, Int.reduceSub, Int.reduceMul, Int.reduceNeg]; exact k1 hr
          · rw [decide_eq_false hr] at hri
            simp (maxSteps := 2000000) (disch := omega) only [go_sem, doCall, doCallQ, doCallP, Nat.reduceAdd, Nat.reduceMul, Nat.reduceSub, Nat.reduceDiv, Nat.reduceMod, Nat.reduceLT, Nat.reduceLeDiff, Nat.reduceEqDiff, Nat.reduceBEq, Nat.reduceBNe, Int.reduceToNat, Int.reduceLT, Int.reduceLE, Int.reduceEq, Int.reduceNe, Int.reduceAdd, Int.reduceSub, Int.reduceMul, Int.reduceNeg, u21_0, lb21_0, hlt, hi', hw, hg, hsr, w1, w2, hc1, hc3, h3, hri, hrl, Int.natCast_nonneg, Int.toNat_natCast, Option.getD_some, Option.getD_none, List.drop_zero, Nat.sub_zero, Nat.zero_le, true_and, and_true, Nat.le_refl, Nat.zero_add, List.length_cons, List.length_nil, chk_of]
            rw [loop_step1]; simp (maxSteps := 2000000) only [go_sem, doCall, doCallQ, doCallP, Nat.reduceAdd, Nat.reduceMul, Nat.reduceSub, Nat.reduceDiv, Nat.reduceMod, Nat.reduceLT, Nat.reduceLeDiff, Nat.reduceEqDiff, Nat.reduceBEq, Nat.reduceBNe, Int.reduceToNat, Int.reduceLT, Int.reduceLE, Int.reduceEq, Int.reduceNe, Int.reduceAdd, Int.reduceSub, Int.reduceMul, Int.reduceNeg]; exact k2 hr
        · have hm : n - min l[i].2.1 n = 0 := by omega
          simp only [hm] at k1 k2 hri
          by_cases hr : RP 0 n
          · rw [decide_eq_true hr] at hri
            simp (maxSteps := 2000000) (disch := omega) only [go_sem, doCall, doCallQ, doCallP, Nat.reduceAdd, Nat.reduceMul, Nat.reduceSub, Nat.reduceDiv, Nat.reduceMod, Nat.reduceLT, Nat.reduceLeDiff, Nat.reduceEqDiff, Nat.reduceBEq, Nat.reduceBNe, Int.reduceToNat, Int.reduceLT, Int.reduceLE, Int.reduceEq, Int.reduceNe, Int.reduceAdd, Int.reduceSub, Int.reduceMul, Int.reduceNeg, u21_0, lb21_0, hlt, hi', hw, hg, hsr, w1, hc1, hc3, h3, hri, hrl, Int.natCast_nonneg, Int.toNat_natCast, Option.getD_some, Option.getD_none, List.drop_zero, Nat.sub_zero, Nat.zero_le, true_and, and_true, Nat.le_refl, Nat.zero_add, List.length_cons, List.length_nil, chk_of]
            rw [loop_step1]; simp (maxSteps := 2000000) only [go_sem, doCall, doCallQ, doCallP, Nat.reduceAdd, Nat.reduceMul, Nat.reduceSub, Nat.reduceDiv, Nat.reduceMod, Nat.reduceLT, Nat.reduceLeDiff, Nat.reduceEqDiff, Nat.reduceBEq, Nat.reduceBNe, Int.reduceToNat, Int.reduceLT, Int.reduceLE, Int.reduceEq, Int.reduceNe, Int.reduceAdd, Int.reduceSub, Int.reduceMul, Int.reduceNeg]; exact k1 hr
          · rw [decide_eq_false hr] at hri
            simp (maxSteps := 2000000) (disch := omega) only [go_sem, doCall, doCallQ, doCallP, Nat.reduceAdd, Nat.reduceMul, Nat.reduceSub, Nat.reduceDiv, Nat.reduceMod, Nat.reduceLT, Nat.reduceLeDiff, Nat.reduceEqDiff, Nat.reduceBEq, Nat.reduceBNe, Int.reduceToNat, Int.reduceLT, Int.reduceLE, Int.reduceEq, Int.reduceNe, Int.reduceAdd, Int.reduceSub, Int.reduceMul, Int.reduceNeg, u21_0, lb21_0, hlt, hi', hw, hg, hsr, w1, hc1, hc3, h3, hri, hrl, Int.natCast_nonneg, Int.toNat_natCast, Option.getD_some, Option.getD_none, List.drop_zero, Nat.sub_zero, Nat.zero_le, true_and, and_true, Nat.le_refl, Nat.zero_add, List.length_cons, List.length_nil, chk_of]
            rw [loop_step1]; simp (maxSteps := 2000000) only [go_sem, doCall, doCallQ, doCallP, Nat.reduceAdd, Nat.reduceMul, Nat.reduceSub, Nat.reduceDiv, Nat.reduceMod, Nat.reduceLT, Nat.reduceLeDiff, Nat.reduceEqDiff, Nat.reduceBEq, Nat.reduceBNe, Int.reduceToNat, Int.reduceLT, Int.reduceLE, Int.reduceEq, Int.reduceNe, Int.reduceAdd, Int.reduceSub, Int.reduceMul, Int.reduceNeg]; exact k2 hr
    · rw [decide_eq_false hs] at hsr
      have h1 : res1 n l[i] = [] := by unfold res1; rw [if_neg (fun h => hs h.1)]
      rw [h1, List.append_nil] at hft
      have ih := lp_rres l hl n hn k (i + 1) (by omega) O hft.symm
      simp (maxSteps := 2000000) (disch := omega) only [go_sem, doCall, doCallQ, doCallP, Nat.reduceAdd, Nat.reduceMul, Nat.reduceSub, Nat.reduceDiv, Nat.reduceMod, Nat.reduceLT, Nat.reduceLeDiff, Nat.reduceEqDiff, Nat.reduceBEq, Nat.reduceBNe, Int.reduceToNat, Int.reduceLT, Int.reduceLE, Int.reduceEq, Int.reduceNe, Int.reduceAdd, Int.reduceSub, Int.reduceMul, Int.reduceNeg, u21_0, lb21_0, hlt, hi', hw, hg, hsr, hrl, Int.natCast_nonneg, Int.toNat_natCast, Option.getD_some, Option.getD_none, List.drop_zero, Nat.sub_zero, Nat.zero_le, true_and, and_true, Nat.le_refl, Nat.zero_add, chk_of]
      rw [loop_step1]; simp (maxSteps := 2000000) only [go_sem, doCall, doCallQ, doCallP, Nat.reduceAdd, Nat.reduceMul, Nat.reduceSub, Nat.reduceDiv, Nat.reduceMod, Nat.reduceLT, Nat.reduceLeDiff, Nat.reduceEqDiff, Nat.reduceBEq, Nat.reduceBNe, Int.reduceToNat, Int.reduceLT, Int.reduceLE, Int.reduceEq, Int.reduceNe, Int.reduceAdd, Int.reduceSub, Int.reduceMul, Int.reduceNeg]; exact ih
termination_by l.length - i
theorem t_rresolve (l : List Sp3) (hl : l.length ≤ 1000000) (n : Int) : call ir 21 [.d (.list 3 (r3 l)), dI n] [] = some (.own 0 2 0 (resL l n).length false, [.arr 2 (r2 (resL l n))]) := by
  rw [call_eq (fn := ir21) rfl, evF_bnd]
  unfold resL
  by_cases hn : 1 ≤ n ∧ n ≤ 4611686018427387903
  · rw [if_pos hn]
    have h1 : ¬ n < 1 := by omega
    have h2 : ¬ (4611686018427387903 : Int) < n := by omega
    have hrl := r3_len l
    simp (maxSteps := 2000000) (disch := omega) only [go_sem, doCall, doCallQ, doCallP, Nat.reduceAdd, Nat.reduceMul, Nat.reduceSub, Nat.reduceDiv, Nat.reduceMod, Nat.reduceLT, Nat.reduceLeDiff, Nat.reduceEqDiff, Nat.reduceBEq, Nat.reduceBNe, Int.reduceToNat, Int.reduceLT, Int.reduceLE, Int.reduceEq, Int.reduceNe, Int.reduceAdd, Int.reduceSub, Int.reduceMul, Int.reduceNeg, bd21, h1, h2, hrl]
    rw [loop_step1]; simp (maxSteps := 2000000) only [go_sem, doCall, doCallQ, doCallP, Nat.reduceAdd, Nat.reduceMul, Nat.reduceSub, Nat.reduceDiv, Nat.reduceMod, Nat.reduceLT, Nat.reduceLeDiff, Nat.reduceEqDiff, Nat.reduceBEq, Nat.reduceBNe, Int.reduceToNat, Int.reduceLT, Int.reduceLE, Int.reduceEq, Int.reduceNe, Int.reduceAdd, Int.reduceSub, Int.reduceMul, Int.reduceNeg]
    have h0 := fun k => lp_rres l hl n hn k 0 (by omega) [] rfl
    simp only [List.length_nil, List.map_nil] at h0
    refine Eq.trans (h0 _) ?_
    simp (maxSteps := 2000000) only [go_sem, doCall, doCallQ, doCallP, Nat.reduceAdd, Nat.reduceMul, Nat.reduceSub, Nat.reduceDiv, Nat.reduceMod, Nat.reduceLT, Nat.reduceLeDiff, Nat.reduceEqDiff, Nat.reduceBEq, Nat.reduceBNe, Int.reduceToNat, Int.reduceLT, Int.reduceLE, Int.reduceEq, Int.reduceNe, Int.reduceAdd, Int.reduceSub, Int.reduceMul, Int.reduceNeg]
  · rw [if_neg hn]
    by_cases h1 : n < 1
    · simp (maxSteps := 2000000) (disch := omega) only [go_sem, doCall, doCallQ, doCallP, Nat.reduceAdd, Nat.reduceMul, Nat.reduceSub, Nat.reduceDiv, Nat.reduceMod, Nat.reduceLT, Nat.reduceLeDiff, Nat.reduceEqDiff, Nat.reduceBEq, Nat.reduceBNe, Int.reduceToNat, Int.reduceLT, Int.reduceLE, Int.reduceEq, Int.reduceNe, Int.reduceAdd, Int.reduceSub, Int.reduceMul, Int.reduceNeg, bd21, h1, List.length_nil, List.map_nil]
    · have h2 : (4611686018427387903 : Int) < n := by omega
      simp (maxSteps := 2000000) (disch := omega) only [go_sem, doCall, doCallQ, doCallP, Nat.reduceAdd, Nat.reduceMul, Nat.reduceSub, Nat.reduceDiv, Nat.reduceMod, Nat.reduceLT, Nat.reduceLeDiff, Nat.reduceEqDiff, Nat.reduceBEq, Nat.reduceBNe, Int.reduceToNat, Int.reduceLT, Int.reduceLE, Int.reduceEq, Int.reduceNe, Int.reduceAdd, Int.reduceSub, Int.reduceMul, Int.reduceNeg, bd21, h1, h2, List.length_nil, List.map_nil]
end Go.Proofs.YtplnioclkacgkaaGreatDoor
