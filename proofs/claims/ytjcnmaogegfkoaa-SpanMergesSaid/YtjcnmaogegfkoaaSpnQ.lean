/- Spans: span.Minus. Own work. -/
import Derived.Test.YtjcnmaogegfkoaaSpnP
namespace Go.Proofs.Ytjcnmaogegfkoaa
open Go Go.Ev Go.Proofs.Ytjcnmaogegfkoaa.Ir
set_option maxRecDepth 100000
set_option maxHeartbeats 4000000
set_option linter.unusedSimpArgs false
set_option linter.unusedVariables false
def one1 (x : Int × Int) : List (Int × Int) := if RP x.1 x.2 then [x] else []
theorem c_add_t (O : List (Int × Int)) (hO : O.length ≤ 3000) (a b : Int) (h : RP a b) : call ir 20 [.agg [.d (.int .i64 a), .d (.int .i64 b)], .ptr 0 0] [.box [.own 1 2 0 O.length false], .arr 2 (O.map eP)] = some (.tup [], [.box [.own 2 2 0 (O ++ [(a, b)]).length false], .dead, .arr 2 ((O ++ [(a, b)]).map eP)]) := by
  rw [call_eq (fn := ir20) rfl, evF_bnd]
  have hol : (O.map eP).length = O.length := List.length_map ..
  have e1 : (O ++ [(a, b)]).length = O.length + 1 := by simp
  have e2 : (O ++ [(a, b)]).map eP = O.map eP ++ [[D.int .i64 a, D.int .i64 b]] := by simp
  rw [e1, e2]
  simp (maxSteps := 2000000) (disch := omega) only [go_sem, doCall, doCallQ, Nat.reduceAdd, Nat.reduceMul, Nat.reduceSub, Nat.reduceDiv, Nat.reduceMod, Nat.reduceLT, Nat.reduceLeDiff, Nat.reduceEqDiff, Nat.reduceBEq, Nat.reduceBNe, Int.reduceToNat, Int.reduceLT, Int.reduceLE, Int.reduceEq, Int.reduceNe, Int.reduceAdd, Int.reduceSub, Int.reduceMul, Int.reduceNeg, bd20, t_right, h, hol, Nat.zero_add, chk_of]
theorem c_add_f (O : List (Int × Int)) (a b : Int) (h : ¬ RP a b) : call ir 20 [.agg [.d (.int .i64 a), .d (.int .i64 b)], .ptr 0 0] [.box [.own 1 2 0 O.length false], .arr 2 (O.map eP)] = some (.tup [], [.box [.own 1 2 0 O.length false], .arr 2 (O.map eP)]) := by
  rw [call_eq (fn := ir20) rfl, evF_bnd]
  simp (maxSteps := 2000000) (disch := omega) only [go_sem, doCall, doCallQ, Nat.reduceAdd, Nat.reduceMul, Nat.reduceSub, Nat.reduceDiv, Nat.reduceMod, Nat.reduceLT, Nat.reduceLeDiff, Nat.reduceEqDiff, Nat.reduceBEq, Nat.reduceBNe, Int.reduceToNat, Int.reduceLT, Int.reduceLE, Int.reduceEq, Int.reduceNe, Int.reduceAdd, Int.reduceSub, Int.reduceMul, Int.reduceNeg, bd20, t_right, h, chk_of]
def cutOf (s x : Int × Int) : List (Int × Int) := if RP s.1 s.2 then one1 (x.1, min x.2 s.1) ++ one1 (max x.1 s.2, x.2) else one1 x
theorem one1_t {x : Int × Int} (h : RP x.1 x.2) : one1 x = [x] := if_pos h
theorem one1_f {x : Int × Int} (h : ¬ RP x.1 x.2) : one1 x = [] := if_neg h
theorem one1_len (x : Int × Int) : (one1 x).length ≤ 1 := by unfold one1; split <;> simp
theorem cutOf_len (s x : Int × Int) : (cutOf s x).length ≤ 2 := by
  unfold cutOf
  have h1 := one1_len (x.1, min x.2 s.1)
  have h2 := one1_len (max x.1 s.2, x.2)
  have h3 := one1_len x
  split
  · rw [List.length_append]; omega
  · omega
theorem lp_minus (s : Int × Int) (M : List (Int × Int)) (hM : M.length ≤ 1000) (k : Ex → St → Option (AV × Heap)) (i : Nat) (hi : i ≤ M.length) (O : List (Int × Int)) (hO : O.length ≤ 2 * i) :
    bnd (evC (call ir) (loop ir) lp6_0 (st6_0 0 (.ptr 0 0) (.ptr 1 0) (.clo (.func 20) [] [.ptr 1 0]) (.d (.list 2 (M.map eP))) (.d (.int .i64 M.length)) (.d (.int .i64 i)) [.dbox (eP s), .box [.own 2 2 0 O.length false], .arr 2 (O.map eP)])) (lpC (call ir) (loop ir) [3, 5, 6, 11, 12, 13] lp6_0 k) =
      k (.exit 0) (clean [5] (st6_0 0 .unk (.ptr 0 0) .unk .unk .unk .unk [.box [.own 1 2 0 (O ++ (M.drop i).flatMap (cutOf s)).length false], .arr 2 ((O ++ (M.drop i).flatMap (cutOf s)).map eP)])) := by
  by_cases h : i = M.length
  · have hx : ¬ (i : Int) < M.length := by omega
    have hdr : M.drop i = [] := List.drop_eq_nil_of_le (by omega)
    rw [hdr, List.flatMap_nil, List.append_nil]
    simp (maxSteps := 2000000) (disch := omega) only [go_sem, doCall, doCallQ, Nat.reduceAdd, Nat.reduceMul, Nat.reduceSub, Nat.reduceDiv, Nat.reduceMod, Nat.reduceLT, Nat.reduceLeDiff, Nat.reduceEqDiff, Nat.reduceBEq, Nat.reduceBNe, Int.reduceToNat, Int.reduceLT, Int.reduceLE, Int.reduceEq, Int.reduceNe, Int.reduceAdd, Int.reduceSub, Int.reduceMul, Int.reduceNeg, u6_0, lb6_0, hx]
  · have hlt : (i : Int) < M.length := by omega
    have hi' : i < M.length := by omega
    have hw := wr_succ (i := i) (by omega)
    rw [List.drop_eq_getElem_cons hi', List.flatMap_cons, ← List.append_assoc]
    have hol2 : (O ++ cutOf s M[i]).length ≤ 2 * (i + 1) := by have := cutOf_len s M[i]; rw [List.length_append]; omega
    have ih := lp_minus s M hM k (i + 1) (by omega) (O ++ cutOf s M[i]) hol2
    clear hol2
    have hu : cutOf s M[i] = if RP s.1 s.2 then one1 (M[i].1, min M[i].2 s.1) ++ one1 (max M[i].1 s.2, M[i].2) else one1 M[i] := rfl
    generalize cutOf s M[i] = C at hu ih ⊢
    by_cases hs : RP s.1 s.2
    · rw [if_pos hs] at hu
      by_cases h1 : RP M[i].1 (min M[i].2 s.1)
      · have a1 := c_add_t O (by omega) M[i].1 (min M[i].2 s.1) h1
        rw [one1_t h1] at hu
        by_cases h2 : RP (max M[i].1 s.2) M[i].2
        · have a2 := c_add_t (O ++ [(M[i].1, min M[i].2 s.1)]) (by simp; omega) (max M[i].1 s.2) M[i].2 h2
          rw [one1_t h2] at hu
          rw [List.append_assoc] at a2
          subst hu
          simp (maxSteps := 2000000) (disch := omega) only [go_sem, doCall, doCallQ, Nat.reduceAdd, Nat.reduceMul, Nat.reduceSub, Nat.reduceDiv, Nat.reduceMod, Nat.reduceLT, Nat.reduceLeDiff, Nat.reduceEqDiff, Nat.reduceBEq, Nat.reduceBNe, Int.reduceToNat, Int.reduceLT, Int.reduceLE, Int.reduceEq, Int.reduceNe, Int.reduceAdd, Int.reduceSub, Int.reduceMul, Int.reduceNeg, u6_0, lb6_0, hlt, get_eP, t_right, hs, a1, a2, Int.toNat_natCast, Nat.zero_add, chk_of]
          rw [loop_step1]; simp (maxSteps := 2000000) only [go_sem, doCall, doCallQ, Nat.reduceAdd, Nat.reduceMul, Nat.reduceSub, Nat.reduceDiv, Nat.reduceMod, Nat.reduceLT, Nat.reduceLeDiff, Nat.reduceEqDiff, Nat.reduceBEq, Nat.reduceBNe, Int.reduceToNat, Int.reduceLT, Int.reduceLE, Int.reduceEq, Int.reduceNe, Int.reduceAdd, Int.reduceSub, Int.reduceMul, Int.reduceNeg, hw]; exact ih
        · have a2 := c_add_f (O ++ [(M[i].1, min M[i].2 s.1)]) (max M[i].1 s.2) M[i].2 h2
          rw [one1_f h2, List.append_nil] at hu
          subst hu
          simp (maxSteps := 2000000) (disch := omega) only [go_sem, doCall, doCallQ, Nat.reduceAdd, Nat.reduceMul, Nat.reduceSub, Nat.reduceDiv, Nat.reduceMod, Nat.reduceLT, Nat.reduceLeDiff, Nat.reduceEqDiff, Nat.reduceBEq, Nat.reduceBNe, Int.reduceToNat, Int.reduceLT, Int.reduceLE, Int.reduceEq, Int.reduceNe, Int.reduceAdd, Int.reduceSub, Int.reduceMul, Int.reduceNeg, u6_0, lb6_0, hlt, get_eP, t_right, hs, a1, a2, Int.toNat_natCast, Nat.zero_add, chk_of]
          rw [loop_step1]; simp (maxSteps := 2000000) only [go_sem, doCall, doCallQ, Nat.reduceAdd, Nat.reduceMul, Nat.reduceSub, Nat.reduceDiv, Nat.reduceMod, Nat.reduceLT, Nat.reduceLeDiff, Nat.reduceEqDiff, Nat.reduceBEq, Nat.reduceBNe, Int.reduceToNat, Int.reduceLT, Int.reduceLE, Int.reduceEq, Int.reduceNe, Int.reduceAdd, Int.reduceSub, Int.reduceMul, Int.reduceNeg, hw]; exact ih
      · have a1 := c_add_f O M[i].1 (min M[i].2 s.1) h1
        rw [one1_f h1, List.nil_append] at hu
        by_cases h2 : RP (max M[i].1 s.2) M[i].2
        · have a2 := c_add_t O (by omega) (max M[i].1 s.2) M[i].2 h2
          rw [one1_t h2] at hu
          subst hu
          simp (maxSteps := 2000000) (disch := omega) only [go_sem, doCall, doCallQ, Nat.reduceAdd, Nat.reduceMul, Nat.reduceSub, Nat.reduceDiv, Nat.reduceMod, Nat.reduceLT, Nat.reduceLeDiff, Nat.reduceEqDiff, Nat.reduceBEq, Nat.reduceBNe, Int.reduceToNat, Int.reduceLT, Int.reduceLE, Int.reduceEq, Int.reduceNe, Int.reduceAdd, Int.reduceSub, Int.reduceMul, Int.reduceNeg, u6_0, lb6_0, hlt, get_eP, t_right, hs, a1, a2, Int.toNat_natCast, Nat.zero_add, chk_of]
          rw [loop_step1]; simp (maxSteps := 2000000) only [go_sem, doCall, doCallQ, Nat.reduceAdd, Nat.reduceMul, Nat.reduceSub, Nat.reduceDiv, Nat.reduceMod, Nat.reduceLT, Nat.reduceLeDiff, Nat.reduceEqDiff, Nat.reduceBEq, Nat.reduceBNe, Int.reduceToNat, Int.reduceLT, Int.reduceLE, Int.reduceEq, Int.reduceNe, Int.reduceAdd, Int.reduceSub, Int.reduceMul, Int.reduceNeg, hw]; exact ih
        · have a2 := c_add_f O (max M[i].1 s.2) M[i].2 h2
          rw [one1_f h2] at hu
          subst hu
          rw [List.append_nil] at ih ⊢
          simp (maxSteps := 2000000) (disch := omega) only [go_sem, doCall, doCallQ, Nat.reduceAdd, Nat.reduceMul, Nat.reduceSub, Nat.reduceDiv, Nat.reduceMod, Nat.reduceLT, Nat.reduceLeDiff, Nat.reduceEqDiff, Nat.reduceBEq, Nat.reduceBNe, Int.reduceToNat, Int.reduceLT, Int.reduceLE, Int.reduceEq, Int.reduceNe, Int.reduceAdd, Int.reduceSub, Int.reduceMul, Int.reduceNeg, u6_0, lb6_0, hlt, get_eP, t_right, hs, a1, a2, Int.toNat_natCast, Nat.zero_add, chk_of]
          rw [loop_step1]; simp (maxSteps := 2000000) only [go_sem, doCall, doCallQ, Nat.reduceAdd, Nat.reduceMul, Nat.reduceSub, Nat.reduceDiv, Nat.reduceMod, Nat.reduceLT, Nat.reduceLeDiff, Nat.reduceEqDiff, Nat.reduceBEq, Nat.reduceBNe, Int.reduceToNat, Int.reduceLT, Int.reduceLE, Int.reduceEq, Int.reduceNe, Int.reduceAdd, Int.reduceSub, Int.reduceMul, Int.reduceNeg, hw]; exact ih
    · rw [if_neg hs] at hu
      by_cases h1 : RP M[i].1 M[i].2
      · have a1 := c_add_t O (by omega) M[i].1 M[i].2 h1
        rw [one1_t h1] at hu
        subst hu
        simp (maxSteps := 2000000) (disch := omega) only [go_sem, doCall, doCallQ, Nat.reduceAdd, Nat.reduceMul, Nat.reduceSub, Nat.reduceDiv, Nat.reduceMod, Nat.reduceLT, Nat.reduceLeDiff, Nat.reduceEqDiff, Nat.reduceBEq, Nat.reduceBNe, Int.reduceToNat, Int.reduceLT, Int.reduceLE, Int.reduceEq, Int.reduceNe, Int.reduceAdd, Int.reduceSub, Int.reduceMul, Int.reduceNeg, u6_0, lb6_0, hlt, get_eP, t_right, hs, a1, Int.toNat_natCast, Nat.zero_add, chk_of]
        rw [loop_step1]; simp (maxSteps := 2000000) only [go_sem, doCall, doCallQ, Nat.reduceAdd, Nat.reduceMul, Nat.reduceSub, Nat.reduceDiv, Nat.reduceMod, Nat.reduceLT, Nat.reduceLeDiff, Nat.reduceEqDiff, Nat.reduceBEq, Nat.reduceBNe, Int.reduceToNat, Int.reduceLT, Int.reduceLE, Int.reduceEq, Int.reduceNe, Int.reduceAdd, Int.reduceSub, Int.reduceMul, Int.reduceNeg, hw]; exact ih
      · have a1 := c_add_f O M[i].1 M[i].2 h1
        rw [one1_f h1] at hu
        subst hu
        rw [List.append_nil] at ih ⊢
        simp (maxSteps := 2000000) (disch := omega) only [go_sem, doCall, doCallQ, Nat.reduceAdd, Nat.reduceMul, Nat.reduceSub, Nat.reduceDiv, Nat.reduceMod, Nat.reduceLT, Nat.reduceLeDiff, Nat.reduceEqDiff, Nat.reduceBEq, Nat.reduceBNe, Int.reduceToNat, Int.reduceLT, Int.reduceLE, Int.reduceEq, Int.reduceNe, Int.reduceAdd, Int.reduceSub, Int.reduceMul, Int.reduceNeg, u6_0, lb6_0, hlt, get_eP, t_right, hs, a1, Int.toNat_natCast, Nat.zero_add, chk_of]
        rw [loop_step1]; simp (maxSteps := 2000000) only [go_sem, doCall, doCallQ, Nat.reduceAdd, Nat.reduceMul, Nat.reduceSub, Nat.reduceDiv, Nat.reduceMod, Nat.reduceLT, Nat.reduceLeDiff, Nat.reduceEqDiff, Nat.reduceBEq, Nat.reduceBNe, Int.reduceToNat, Int.reduceLT, Int.reduceLE, Int.reduceEq, Int.reduceNe, Int.reduceAdd, Int.reduceSub, Int.reduceMul, Int.reduceNeg, hw]; exact ih
termination_by M.length - i
def minusL (l : List (Int × Int)) (s : Int × Int) : List (Int × Int) := (mrg 0 l).flatMap (cutOf s)
theorem mrg_len (g : Int) (l : List (Int × Int)) : (mrg g l).length ≤ l.length := by
  have h : ∀ (S O : List (Int × Int)), (S.foldl (mstep g) O).length ≤ S.length + O.length := by
    intro S
    induction S with
    | nil => intro O; simp
    | cons x S ih => intro O; have := ih (mstep g O x); have := len_mstep g O x; rw [List.foldl_cons, List.length_cons]; omega
  have h1 := h (srtR l) []
  have h2 := (srtR_perm l).length_eq
  have h3 := List.length_filter_le rp l
  unfold mrg
  simp at h1; omega
theorem t_minus (l : List (Int × Int)) (hl : l.length ≤ 900) (s : Int × Int) : call ir 6 [.d (.list 2 (l.map eP)), vP s] [] = some (.own 0 2 0 (minusL l s).length false, [.arr 2 ((minusL l s).map eP)]) := by
  have hm := t_merge l (by omega) 0
  rw [show max (0 : Int) 0 = 0 from rfl] at hm
  have hlm := mrg_len 0 l
  have hp := fun k => lp_minus s (mrg 0 l) (by omega) k 0 (by omega) [] (by simp)
  simp only [List.drop_zero, List.nil_append] at hp
  rw [call_eq (fn := ir6) rfl, evF_bnd]
  have htk : ((mrg 0 l).map eP).take (mrg 0 l).length = (mrg 0 l).map eP := List.take_of_length_le (by simp)
  have hml : ((mrg 0 l).map eP).length = (mrg 0 l).length := List.length_map ..
  simp (maxSteps := 2000000) (disch := omega) only [go_sem, doCall, doCallQ, Nat.reduceAdd, Nat.reduceMul, Nat.reduceSub, Nat.reduceDiv, Nat.reduceMod, Nat.reduceLT, Nat.reduceLeDiff, Nat.reduceEqDiff, Nat.reduceBEq, Nat.reduceBNe, Int.reduceToNat, Int.reduceLT, Int.reduceLE, Int.reduceEq, Int.reduceNe, Int.reduceAdd, Int.reduceSub, Int.reduceMul, Int.reduceNeg, bd6, hm, htk, hml, Nat.zero_add, Nat.le_refl, chk_of]
  rw [loop_step1]
  simp (maxSteps := 2000000) only [go_sem, doCall, doCallQ, Nat.reduceAdd, Nat.reduceMul, Nat.reduceSub, Nat.reduceDiv, Nat.reduceMod, Nat.reduceLT, Nat.reduceLeDiff, Nat.reduceEqDiff, Nat.reduceBEq, Nat.reduceBNe, Int.reduceToNat, Int.reduceLT, Int.reduceLE, Int.reduceEq, Int.reduceNe, Int.reduceAdd, Int.reduceSub, Int.reduceMul, Int.reduceNeg]
  refine Eq.trans (hp _) ?_
  simp (maxSteps := 2000000) only [go_sem, doCall, doCallQ, Nat.reduceAdd, Nat.reduceMul, Nat.reduceSub, Nat.reduceDiv, Nat.reduceMod, Nat.reduceLT, Nat.reduceLeDiff, Nat.reduceEqDiff, Nat.reduceBEq, Nat.reduceBNe, Int.reduceToNat, Int.reduceLT, Int.reduceLE, Int.reduceEq, Int.reduceNe, Int.reduceAdd, Int.reduceSub, Int.reduceMul, Int.reduceNeg]
  rfl
end Go.Proofs.Ytjcnmaogegfkoaa
