/- Many parts as one body: the reference's, and Few. Own work. -/
import Derived.Test.YtpibecljdooilaaDoorPutN
namespace Go.Proofs.YtpibecljdooilaaDoor
open Go Go.Ev Go.Proofs.YtpibecljdooilaaDoor.Ir
set_option maxRecDepth 100000
set_option maxHeartbeats 4000000
set_option linter.unusedSimpArgs false
set_option linter.unusedVariables false
theorem rB_str (b : List UInt8) : (b.map fun c => [D.int .u8 c.toNat]) = rB b := rfl
theorem rB_crl : [[D.int .u8 13], [D.int .u8 10]] = rB [13, 10] := rfl
theorem lp_multi (l : List PartD) (n : Int) (s : List UInt8) (hs : s.length ≤ 40) (hl : l.length ≤ 16) (hp : allP n l = true) (k : Ex → St → Option (AV × Heap)) (i : Nat) (hi : i ≤ l.length) (out : List UInt8) (hO : out.length + (allBy s n (l.drop i)).length ≤ 1000000) :
    (bnd (evC (call ir) (loop ir) lp12_0 (st12_0 0 (dI n) (dS s) (.own 0 1 0 out.length false) (vL l) (dI l.length) (dI i) [.arr 1 (rB out)])) (lpC (call ir) (loop ir) [1, 2, 8, 26, 27, 28] lp12_0 k)) =
      k (.exit 0) (clean [2, 8] (st12_0 0 .unk (dS s) (.own 0 1 0 (out ++ allBy s n (l.drop i)).length false) .unk .unk .unk [.arr 1 (rB (out ++ allBy s n (l.drop i)))])) := by
  by_cases h : i = l.length
  · have hx : ¬ (i : Int) < l.length := by omega
    rw [h] at hx
    rw [h, List.drop_length]
    simp only [allBy, List.flatMap_nil, List.append_nil]
    simp (maxSteps := 2000000) (disch := omega) only [go_sem, doCall, doCallQ, Nat.reduceAdd, Nat.reduceMul, Nat.reduceSub, Nat.reduceDiv, Nat.reduceMod, Nat.reduceLT, Nat.reduceLeDiff, Nat.reduceEqDiff, Nat.reduceBEq, Nat.reduceBNe, Int.reduceToNat, Int.reduceLT, Int.reduceLE, Int.reduceEq, Int.reduceNe, Int.reduceAdd, Int.reduceSub, Int.reduceMul, Int.reduceNeg, u12_0, lb12_0, hx]
  · have hlt : (i : Int) < l.length := by omega
    have hi' : i < l.length := by omega
    have hw := wr_succ (i := i) (by omega)
    have hg := getP l hi'
    have hlm : (l.map partRow).length = l.length := List.length_map ..
    have h1 := t_rcprint true l[i].1 l[i].2.1 n
    have hcl := cntS_len true l[i].1 l[i].2.1 n
    have e : allBy s n (l.drop i) = headS s n l[i] ++ l[i].2.2 ++ [13, 10] ++ allBy s n (l.drop (i + 1)) := by
      unfold allBy; rw [List.drop_eq_getElem_cons hi', List.flatMap_cons]; simp [oneB]
    rw [e] at hO
    have hO2 : out.length + (4 + s.length + 15 + (cntS true l[i].1 l[i].2.1 n).length + 4) + l[i].2.2.length + 2 + (allBy s n (l.drop (i + 1))).length ≤ 1000000 := by simp [headS] at hO; omega
    have ih := lp_multi l n s hs hl hp k (i + 1) (by omega) (out ++ headS s n l[i] ++ l[i].2.2 ++ [13, 10]) (by simp [headS]; omega)
    have e2 : out ++ (headS s n l[i] ++ l[i].2.2 ++ [13, 10] ++ allBy s n (l.drop (i + 1))) = (out ++ headS s n l[i] ++ l[i].2.2 ++ [13, 10]) ++ allBy s n (l.drop (i + 1)) := by simp
    rw [e, e2]
    have hrow : rB out ++ [D.int .u8 ((UInt8.toNat 45 : Nat) : Int)] :: [D.int .u8 ((UInt8.toNat 45 : Nat) : Int)] :: List.map (fun b : UInt8 => [D.int .u8 (b.toNat : Int)]) (s ++ [13, 10, 67, 111, 110, 116, 101, 110, 116, 45, 82, 97, 110, 103, 101, 58, 32] ++ cntS true l[i].1 l[i].2.1 n ++ [13, 10, 13, 10]) ++ rB l[i].2.2 ++ [[D.int .u8 13], [D.int .u8 10]] = rB (out ++ headS s n l[i] ++ l[i].2.2 ++ [13, 10]) := by
      simp [rB, headS]
    have hlen : out.length + (s.length + 17 + (cntS true l[i].1 l[i].2.1 n).length + 4 + 1 + 1) + l[i].2.2.length + 2 = (out ++ headS s n l[i] ++ l[i].2.2 ++ [13, 10]).length := by
      simp [headS]; omega
    generalize out ++ headS s n l[i] ++ l[i].2.2 ++ [13, 10] = Y at ih hrow hlen ⊢
    simp only [List.length_append] at ih
    simp (maxSteps := 2000000) (disch := omega) only [go_sem, doCall, doCallQ, Nat.reduceAdd, Nat.reduceMul, Nat.reduceSub, Nat.reduceDiv, Nat.reduceMod, Nat.reduceLT, Nat.reduceLeDiff, Nat.reduceEqDiff, Nat.reduceBEq, Nat.reduceBNe, Int.reduceToNat, Int.reduceLT, Int.reduceLE, Int.reduceEq, Int.reduceNe, Int.reduceAdd, Int.reduceSub, Int.reduceMul, Int.reduceNeg, u12_0, lb12_0, hlt, hi', hw, hg, hlm, h1, rB_len, List.length_append, List.length_cons, List.length_nil, Nat.zero_add, false_and, if_false, Int.natCast_nonneg, Int.toNat_natCast, Option.getD_some, Option.getD_none, List.drop_zero, Nat.sub_zero, Nat.zero_le, true_and, and_true, Nat.le_refl, chk_of]
    rw [loop_step1]; simp (maxSteps := 2000000) only [go_sem, doCall, doCallQ, Nat.reduceAdd, Nat.reduceMul, Nat.reduceSub, Nat.reduceDiv, Nat.reduceMod, Nat.reduceLT, Nat.reduceLeDiff, Nat.reduceEqDiff, Nat.reduceBEq, Nat.reduceBNe, Int.reduceToNat, Int.reduceLT, Int.reduceLE, Int.reduceEq, Int.reduceNe, Int.reduceAdd, Int.reduceSub, Int.reduceMul, Int.reduceNeg]
    rw [hrow, hlen]
    exact ih
termination_by l.length - i
theorem putB_len (l : List PartD) (n : Int) (s : List UInt8) : (putB l n s).length = (allBy s n l).length + (s.length + 6) := by simp [putB, lastS]
theorem t_multi (l : List PartD) (n : Int) (s : List UInt8) (hl : l.length ≤ 1000000000) (hs : s.length ≤ 1000000000) (hp : (putB l n s).length ≤ 1000000) :
    call ir 12 [vL l, dI n, dS s] [] = if putR l n s then some (.tup [.own 0 1 0 (putB l n s).length false, dT true], [.arr 1 (rB (putB l n s))]) else some (.tup [.own 0 1 0 0 false, dT false], [.arr 1 []]) := by
  rw [call_eq (fn := ir12) rfl, evF_bnd]
  have hlm : (l.map partRow).length = l.length := List.length_map ..
  have h1 := t_rtoken s hs
  have h2 := t_mrparts l n hl
  unfold putR
  cases ht : isTok s
  · rw [ht] at h1
    rw [Bool.false_and, Bool.false_and]
    simp (maxSteps := 2000000) (disch := omega) only [go_sem, doCall, doCallQ, Nat.reduceAdd, Nat.reduceMul, Nat.reduceSub, Nat.reduceDiv, Nat.reduceMod, Nat.reduceLT, Nat.reduceLeDiff, Nat.reduceEqDiff, Nat.reduceBEq, Nat.reduceBNe, Int.reduceToNat, Int.reduceLT, Int.reduceLE, Int.reduceEq, Int.reduceNe, Int.reduceAdd, Int.reduceSub, Int.reduceMul, Int.reduceNeg, bd12, h1, chk_of]
  · rw [ht] at h1
    rw [Bool.true_and]
    by_cases h3 : s.length ≤ 40
    · have h3' := eq_false (show ¬ (40 : Int) < s.length by omega)
      rw [decide_eq_true h3, Bool.true_and]
      by_cases h4 : RtP l n
      · rw [decide_eq_true h4] at h2 ⊢
        simp (maxSteps := 2000000) (disch := omega) only [go_sem, doCall, doCallQ, Nat.reduceAdd, Nat.reduceMul, Nat.reduceSub, Nat.reduceDiv, Nat.reduceMod, Nat.reduceLT, Nat.reduceLeDiff, Nat.reduceEqDiff, Nat.reduceBEq, Nat.reduceBNe, Int.reduceToNat, Int.reduceLT, Int.reduceLE, Int.reduceEq, Int.reduceNe, Int.reduceAdd, Int.reduceSub, Int.reduceMul, Int.reduceNeg, bd12, h1, h2, h3', hlm, chk_of]
        rw [loop_step1]; simp (maxSteps := 2000000) only [go_sem, doCall, doCallQ, Nat.reduceAdd, Nat.reduceMul, Nat.reduceSub, Nat.reduceDiv, Nat.reduceMod, Nat.reduceLT, Nat.reduceLeDiff, Nat.reduceEqDiff, Nat.reduceBEq, Nat.reduceBNe, Int.reduceToNat, Int.reduceLT, Int.reduceLE, Int.reduceEq, Int.reduceNe, Int.reduceAdd, Int.reduceSub, Int.reduceMul, Int.reduceNeg]
        have hx := putB_len l n s
        refine (lp_multi l n s h3 h4.1.2 h4.2.2 _ 0 (Nat.zero_le _) [] (by rw [List.drop_zero]; simp; omega)).trans ?_
        rw [List.drop_zero, List.nil_append]
        simp (maxSteps := 2000000) (disch := omega) only [go_sem, doCall, doCallQ, Nat.reduceAdd, Nat.reduceMul, Nat.reduceSub, Nat.reduceDiv, Nat.reduceMod, Nat.reduceLT, Nat.reduceLeDiff, Nat.reduceEqDiff, Nat.reduceBEq, Nat.reduceBNe, Int.reduceToNat, Int.reduceLT, Int.reduceLE, Int.reduceEq, Int.reduceNe, Int.reduceAdd, Int.reduceSub, Int.reduceMul, Int.reduceNeg, rB_len, List.length_append, List.length_cons, List.length_nil, Nat.zero_add, chk_of]
        have e1 : rB (allBy s n l) ++ [D.int .u8 ((UInt8.toNat 45 : Nat) : Int)] :: [D.int .u8 ((UInt8.toNat 45 : Nat) : Int)] :: List.map (fun b : UInt8 => [D.int .u8 (b.toNat : Int)]) (s ++ [45, 45, 13, 10]) = rB (putB l n s) := by simp [rB, putB, lastS]
        rw [e1, show (allBy s n l).length + (s.length + 4 + 1 + 1) = (putB l n s).length by omega]
      · rw [decide_eq_false h4] at h2 ⊢
        simp (maxSteps := 2000000) (disch := omega) only [go_sem, doCall, doCallQ, Nat.reduceAdd, Nat.reduceMul, Nat.reduceSub, Nat.reduceDiv, Nat.reduceMod, Nat.reduceLT, Nat.reduceLeDiff, Nat.reduceEqDiff, Nat.reduceBEq, Nat.reduceBNe, Int.reduceToNat, Int.reduceLT, Int.reduceLE, Int.reduceEq, Int.reduceNe, Int.reduceAdd, Int.reduceSub, Int.reduceMul, Int.reduceNeg, bd12, h1, h2, h3', chk_of]
    · have h3' := eq_true (show (40 : Int) < s.length by omega)
      rw [decide_eq_false h3, Bool.false_and]
      simp (maxSteps := 2000000) (disch := omega) only [go_sem, doCall, doCallQ, Nat.reduceAdd, Nat.reduceMul, Nat.reduceSub, Nat.reduceDiv, Nat.reduceMod, Nat.reduceLT, Nat.reduceLeDiff, Nat.reduceEqDiff, Nat.reduceBEq, Nat.reduceBNe, Int.reduceToNat, Int.reduceLT, Int.reduceLE, Int.reduceEq, Int.reduceNe, Int.reduceAdd, Int.reduceSub, Int.reduceMul, Int.reduceNeg, bd12, h1, h3', chk_of]
end Go.Proofs.YtpibecljdooilaaDoor
