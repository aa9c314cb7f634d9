/- Spans: spenceref04.Merge, the second loop, and whole. Own work. -/
import Derived.Test.YtjcnmaogegfkoaaSpnR
namespace Go.Proofs.Ytjcnmaogegfkoaa
open Go Go.Ev Go.Proofs.Ytjcnmaogegfkoaa.Ir
set_option maxRecDepth 100000
set_option maxHeartbeats 4000000
set_option linter.unusedSimpArgs false
set_option linter.unusedVariables false
theorem mstep_end (g : Int) (Q : List (Int × Int)) (a b : Int × Int) : mstep g (Q ++ [a]) b = if b.1 - a.2 ≤ g then Q ++ [(a.1, max a.2 b.2)] else Q ++ [a] ++ [b] := by
  unfold mstep
  have e : (Q ++ [a]).getD ((Q ++ [a]).length - 1) (0, 0) = a := by simp [List.getD_eq_getElem?_getD]
  rw [e]
  have hl : 0 < (Q ++ [a]).length := by simp
  have hs : (Q ++ [a]).set ((Q ++ [a]).length - 1) (a.1, max a.2 b.2) = Q ++ [(a.1, max a.2 b.2)] := by simp [List.set_append]
  rw [hs]
  by_cases h : b.1 - a.2 ≤ g
  · rw [if_pos ⟨hl, h⟩, if_pos h]
  · rw [if_neg (fun hh => h hh.2), if_neg h]
abbrev bnd1 (a : Int × Int) : Prop := (0 ≤ a.1 ∧ a.1 ≤ 4611686018427387903) ∧ (0 ≤ a.2 ∧ a.2 ≤ 4611686018427387903)
theorem lp_join (g : Int) (k : Ex → St → Option (AV × Heap)) : ∀ (R Q : List (Int × Int)) (a : Int × Int), Q.length + (R.length + 1) ≤ 1000 → inB R → bnd1 a →
    bnd (evC (call ir) (loop ir) lp8_2 (st8_2 0 (.d (.int .i64 g)) (.own 0 2 0 (Q.length + (R.length + 1)) false) (.d (.int .i64 Q.length)) [.arr 2 (Q.map eP ++ eP a :: R.map eP)])) (lpC (call ir) (loop ir) [1, 5, 9] lp8_2 k) =
      k (.exit 4) (clean [5] (st8_2 0 .unk (.own 0 2 0 (R.foldl (mstep g) (Q ++ [a])).length false) .unk [.arr 2 ((R.foldl (mstep g) (Q ++ [a])).map eP)]))
  | [], Q, a, hl, hR, ha => by
    have hw := wr_succ (i := Q.length) (by omega)
    have hx : ¬ ((Q.length + 1 : Nat) : Int) < ((Q.length + 1 : Nat) : Int) := by omega
    have e1 : Q.length + (([] : List (Int × Int)).length + 1) = Q.length + 1 := rfl
    have e2 : (Q ++ [a]).length = Q.length + 1 := by simp
    have e3 : (Q ++ [a]).map eP = Q.map eP ++ [eP a] := by simp
    rw [List.foldl_nil, e1, e2, e3, List.map_nil]
    simp (maxSteps := 2000000) (disch := omega) only [go_sem, doCall, doCallQ, Nat.reduceAdd, Nat.reduceMul, Nat.reduceSub, Nat.reduceDiv, Nat.reduceMod, Nat.reduceLT, Nat.reduceLeDiff, Nat.reduceEqDiff, Nat.reduceBEq, Nat.reduceBNe, Int.reduceToNat, Int.reduceLT, Int.reduceLE, Int.reduceEq, Int.reduceNe, Int.reduceAdd, Int.reduceSub, Int.reduceMul, Int.reduceNeg, u8_2, lb8_2, hw, hx]
  | b :: R, Q, a, hl, hR, ha => by
    have hl' : Q.length + (R.length + 1 + 1) ≤ 1000 := by simpa using hl
    have hb : bnd1 b := hR b (List.mem_cons_self ..)
    have hR' : inB R := fun x hx => hR x (List.mem_cons_of_mem _ hx)
    have hw := wr_succ (i := Q.length) (by omega)
    have hx : ((Q.length + 1 : Nat) : Int) < ((Q.length + (R.length + 1 + 1) : Nat) : Int) := by omega
    have hql : (Q.map eP).length = Q.length := List.length_map ..
    have g1 : ∀ X : List (List D), (Q.map eP ++ eP a :: X).getD Q.length [] = eP a := fun X => by rw [List.getD_eq_getElem?_getD, List.getElem?_append_right (by rw [hql]; exact Nat.le_refl _), hql, Nat.sub_self]; rfl
    have g2 : ∀ X : List (List D), (Q.map eP ++ eP a :: eP b :: X).getD (Q.length + 1) [] = eP b := fun X => by rw [List.getD_eq_getElem?_getD, List.getElem?_append_right (by rw [hql]; omega), hql, Nat.add_sub_cancel_left]; rfl
    have hlen : (Q.map eP ++ eP a :: eP b :: R.map eP).length = Q.length + (R.length + 1 + 1) := by simp
    have hlt1 : Q.length < Q.length + (R.length + 1 + 1) := by omega
    have hlt2 : Q.length + 1 < Q.length + (R.length + 1 + 1) := by omega
    have hws : wr .i64 (b.1 - a.2) = b.1 - a.2 := wr_id (by omega)
    rw [List.foldl_cons, mstep_end, List.map_cons, List.length_cons]
    by_cases hc : b.1 - a.2 ≤ g
    · have hc' : ¬ g < b.1 - a.2 := by omega
      rw [if_pos hc]
      have ih := lp_join g k R Q (a.1, max a.2 b.2) (by omega) hR' ⟨ha.1, by simp only; omega⟩
      have hw2 : wr .i64 ((Q.length : Int) + 2) = ((Q.length + 2 : Nat) : Int) := by rw [wr_id (by omega)]; rfl
      have ht : ((Q.map eP ++ eP a :: eP b :: R.map eP).take Q.length) = Q.map eP := by rw [← hql, List.take_left]
      have hd : ((Q.map eP ++ eP a :: eP b :: R.map eP).drop (Q.length + 2)) = R.map eP := by
        rw [← hql, List.drop_append, Nat.add_sub_cancel_left, List.drop_eq_nil_of_le (Nat.le_add_right _ _)]; rfl
      have hrl : (R.map eP).length = R.length := List.length_map ..
      have ha2 : Q.length ≤ Q.length + (R.length + 1 + 1) := by omega
      have ha3 : Q.length + 2 ≤ Q.length + (R.length + 1 + 1) := by omega
      have ha4 : Q.length + (R.length + 1 + 1) - (Q.length + 2) = R.length := by omega
      have ha5 : (R.map eP).take R.length = R.map eP := by rw [← hrl, List.take_length]
      have ha6 : Q.length + 2 + R.length = Q.length + (R.length + 1 + 1) := by omega
      have hz : (0 : Int) ≤ ((Q.length + 2 : Nat) : Int) := Int.natCast_nonneg _
      have hz1 : (0 : Int) ≤ (Q.length : Int) := Int.natCast_nonneg _
      have ha7 : Q.length + 1 + R.length = Q.length + (R.length + 1) := by omega
      have hqx : ∀ x : List D, (Q.map eP ++ [x]).length = Q.length + 1 := fun x => by simp
      have hqa : ∀ x : List D, (Q.map eP ++ [x] ++ R.map eP) = Q.map eP ++ x :: R.map eP := fun x => by simp
      have hby : (Q.length + (R.length + 1)) * 16 ≤ 70368744177664 := by omega
      by_cases hm : b.2 > a.2
      · have hm' : a.2 < b.2 := hm
        rw [show max a.2 b.2 = b.2 by omega] at ih ⊢
        simp (maxSteps := 2000000) (disch := omega) only [go_sem, doCall, doCallQ, Nat.reduceAdd, Nat.reduceMul, Nat.reduceSub, Nat.reduceDiv, Nat.reduceMod, Nat.reduceLT, Nat.reduceLeDiff, Nat.reduceEqDiff, Nat.reduceBEq, Nat.reduceBNe, Int.reduceToNat, Int.reduceLT, Int.reduceLE, Int.reduceEq, Int.reduceNe, Int.reduceAdd, Int.reduceSub, Int.reduceMul, Int.reduceNeg, u8_2, lb8_2, hw, hw2, hx, g1, g2, hlen, hlt1, hlt2, hws, hc', hm', ht, hd, hrl, ha2, ha3, ha4, ha5, ha6, ha7, hqx, hqa, hby, false_and, hz, hz1, hql, beq_self_eq_true, Nat.sub_zero, Nat.le_refl, Int.toNat_natCast, Nat.zero_add, chk_of]
        rw [loop_step1]
        simp (maxSteps := 2000000) only [go_sem, doCall, doCallQ, Nat.reduceAdd, Nat.reduceMul, Nat.reduceSub, Nat.reduceDiv, Nat.reduceMod, Nat.reduceLT, Nat.reduceLeDiff, Nat.reduceEqDiff, Nat.reduceBEq, Nat.reduceBNe, Int.reduceToNat, Int.reduceLT, Int.reduceLE, Int.reduceEq, Int.reduceNe, Int.reduceAdd, Int.reduceSub, Int.reduceMul, Int.reduceNeg]
        exact ih
      · have hm' : ¬ a.2 < b.2 := hm
        rw [show max a.2 b.2 = a.2 by omega] at ih ⊢
        simp (maxSteps := 2000000) (disch := omega) only [go_sem, doCall, doCallQ, Nat.reduceAdd, Nat.reduceMul, Nat.reduceSub, Nat.reduceDiv, Nat.reduceMod, Nat.reduceLT, Nat.reduceLeDiff, Nat.reduceEqDiff, Nat.reduceBEq, Nat.reduceBNe, Int.reduceToNat, Int.reduceLT, Int.reduceLE, Int.reduceEq, Int.reduceNe, Int.reduceAdd, Int.reduceSub, Int.reduceMul, Int.reduceNeg, u8_2, lb8_2, hw, hw2, hx, g1, g2, hlen, hlt1, hlt2, hws, hc', hm', ht, hd, hrl, ha2, ha3, ha4, ha5, ha6, ha7, hqx, hqa, hby, false_and, hz, hz1, hql, beq_self_eq_true, Nat.sub_zero, Nat.le_refl, Int.toNat_natCast, Nat.zero_add, chk_of]
        rw [loop_step1]
        simp (maxSteps := 2000000) only [go_sem, doCall, doCallQ, Nat.reduceAdd, Nat.reduceMul, Nat.reduceSub, Nat.reduceDiv, Nat.reduceMod, Nat.reduceLT, Nat.reduceLeDiff, Nat.reduceEqDiff, Nat.reduceBEq, Nat.reduceBNe, Int.reduceToNat, Int.reduceLT, Int.reduceLE, Int.reduceEq, Int.reduceNe, Int.reduceAdd, Int.reduceSub, Int.reduceMul, Int.reduceNeg]
        exact ih
    · have hc' : g < b.1 - a.2 := by omega
      have ih := lp_join g k R (Q ++ [a]) b (by rw [List.length_append]; simp; omega) hR' hb
      rw [if_neg hc]
      have e1 : (Q ++ [a]).length + (R.length + 1) = Q.length + (R.length + 1 + 1) := by simp; omega
      have e2 : (Q ++ [a]).length = Q.length + 1 := by simp
      have e3 : (Q ++ [a]).map eP ++ eP b :: R.map eP = Q.map eP ++ eP a :: eP b :: R.map eP := by simp
      rw [e1, e2, e3] at ih
      simp (maxSteps := 2000000) (disch := omega) only [go_sem, doCall, doCallQ, Nat.reduceAdd, Nat.reduceMul, Nat.reduceSub, Nat.reduceDiv, Nat.reduceMod, Nat.reduceLT, Nat.reduceLeDiff, Nat.reduceEqDiff, Nat.reduceBEq, Nat.reduceBNe, Int.reduceToNat, Int.reduceLT, Int.reduceLE, Int.reduceEq, Int.reduceNe, Int.reduceAdd, Int.reduceSub, Int.reduceMul, Int.reduceNeg, u8_2, lb8_2, hw, hx, g1, g2, hlen, hlt1, hlt2, hws, hc', Int.toNat_natCast, Nat.zero_add, chk_of]
      rw [loop_step1]
      simp (maxSteps := 2000000) only [go_sem, doCall, doCallQ, Nat.reduceAdd, Nat.reduceMul, Nat.reduceSub, Nat.reduceDiv, Nat.reduceMod, Nat.reduceLT, Nat.reduceLeDiff, Nat.reduceEqDiff, Nat.reduceBEq, Nat.reduceBNe, Int.reduceToNat, Int.reduceLT, Int.reduceLE, Int.reduceEq, Int.reduceNe, Int.reduceAdd, Int.reduceSub, Int.reduceMul, Int.reduceNeg]
      exact ih
theorem insP_perm (O : List (Int × Int)) (s : Int × Int) : (insP O s).Perm (s :: O) := by
  unfold insP
  refine List.perm_middle.trans ?_
  rw [List.take_append_drop]
theorem insL_perm : ∀ (L O : List (Int × Int)), (L.foldl insP O).Perm (L ++ O)
  | [], O => List.Perm.refl _
  | x :: L, O => by
    rw [List.foldl_cons]
    exact (insL_perm L (insP O x)).trans (((insP_perm O x).append_left L).trans List.perm_middle)
def srtR (l : List (Int × Int)) : List (Int × Int) := (l.filter rp).foldl insP []
theorem srtR_perm (l : List (Int × Int)) : (srtR l).Perm (l.filter rp) := by
  have := insL_perm (l.filter rp) []
  rwa [List.append_nil] at this
def mrg (g : Int) (l : List (Int × Int)) : List (Int × Int) := (srtR l).foldl (mstep g) []
theorem c_rmerge (l : List (Int × Int)) (hl : l.length ≤ 900) (g : Int) : call ir 8 [.d (.list 2 (l.map eP)), .d (.int .i64 g)] [] =
    some (.own 0 2 0 (mrg (max g 0) l).length false, [.arr 2 ((mrg (max g 0) l).map eP)]) := by
  have hins := fun gg k => lp_ins gg l (by omega) k 0 (by omega) [] (by simp)
  simp only [List.drop_zero] at hins
  rw [show (l.filter rp).foldl insP [] = srtR l from rfl] at hins
  have hp := srtR_perm l
  have hB := inB_of hp
  have hf := List.length_filter_le rp l
  have hlen := hp.length_eq
  unfold mrg
  generalize srtR l = T at hins hp hB hlen
  rw [call_eq (fn := ir8) rfl, evF_bnd]
  have key : ∀ gg : Int, max g 0 = gg → bnd (evC (call ir) (loop ir) lp8_2 (st8_2 0 (.d (.int .i64 gg)) (.own 0 2 0 T.length false) (.d (.int .i64 0)) [.arr 2 (T.map eP)])) (lpC (call ir) (loop ir) [1, 5, 9] lp8_2 (bk 4 (sq (call ir) (loop ir) (.seq (.reg [⟨some 95, none, .mv (.s 5), .none⟩,
      ⟨some 4, none, .mv (.s 95), .none⟩])
  (.ret none)) (fin ir8)))) = some (.own 0 2 0 (T.foldl (mstep gg) []).length false, [.arr 2 ((T.foldl (mstep gg) []).map eP)]) := by
    intro gg _
    cases T with
    | nil =>
      have w1 : wr .i64 1 = 1 := wr_id (by omega)
      have w2 : ¬ (1 : Int) < 0 := by omega
      simp (maxSteps := 2000000) (disch := omega) only [go_sem, doCall, doCallQ, Nat.reduceAdd, Nat.reduceMul, Nat.reduceSub, Nat.reduceDiv, Nat.reduceMod, Nat.reduceLT, Nat.reduceLeDiff, Nat.reduceEqDiff, Nat.reduceBEq, Nat.reduceBNe, Int.reduceToNat, Int.reduceLT, Int.reduceLE, Int.reduceEq, Int.reduceNe, Int.reduceAdd, Int.reduceSub, Int.reduceMul, Int.reduceNeg, u8_2, lb8_2, w1, w2, List.map_nil, List.length_nil, List.foldl_nil]
    | cons a R =>
      have := lp_join gg (bk 4 (sq (call ir) (loop ir) (.seq (.reg [⟨some 95, none, .mv (.s 5), .none⟩,
      ⟨some 4, none, .mv (.s 95), .none⟩])
  (.ret none)) (fin ir8))) R [] a (by rw [List.length_nil]; simp at hlen; omega) (fun x hx => hB x (List.mem_cons_of_mem _ hx)) (hB a (List.mem_cons_self ..))
      have e1 : ([] : List (Int × Int)).length + (R.length + 1) = (a :: R).length := by simp
      have e2 : ([] : List (Int × Int)).map eP ++ eP a :: R.map eP = (a :: R).map eP := rfl
      have e3 : R.foldl (mstep gg) ([] ++ [a]) = (a :: R).foldl (mstep gg) [] := by rw [List.foldl_cons]; rfl
      rw [e1, e2, e3] at this
      refine Eq.trans this ?_
      simp (maxSteps := 2000000) only [go_sem, doCall, doCallQ, Nat.reduceAdd, Nat.reduceMul, Nat.reduceSub, Nat.reduceDiv, Nat.reduceMod, Nat.reduceLT, Nat.reduceLeDiff, Nat.reduceEqDiff, Nat.reduceBEq, Nat.reduceBNe, Int.reduceToNat, Int.reduceLT, Int.reduceLE, Int.reduceEq, Int.reduceNe, Int.reduceAdd, Int.reduceSub, Int.reduceMul, Int.reduceNeg]
  by_cases hg : g < 0
  · have hm : max g 0 = 0 := by omega
    have hk := key 0 hm
    rw [hm]
    simp (maxSteps := 2000000) (disch := omega) only [go_sem, doCall, doCallQ, Nat.reduceAdd, Nat.reduceMul, Nat.reduceSub, Nat.reduceDiv, Nat.reduceMod, Nat.reduceLT, Nat.reduceLeDiff, Nat.reduceEqDiff, Nat.reduceBEq, Nat.reduceBNe, Int.reduceToNat, Int.reduceLT, Int.reduceLE, Int.reduceEq, Int.reduceNe, Int.reduceAdd, Int.reduceSub, Int.reduceMul, Int.reduceNeg, bd8, hg]
    rw [loop_step1]
    simp (maxSteps := 2000000) only [go_sem, doCall, doCallQ, Nat.reduceAdd, Nat.reduceMul, Nat.reduceSub, Nat.reduceDiv, Nat.reduceMod, Nat.reduceLT, Nat.reduceLeDiff, Nat.reduceEqDiff, Nat.reduceBEq, Nat.reduceBNe, Int.reduceToNat, Int.reduceLT, Int.reduceLE, Int.reduceEq, Int.reduceNe, Int.reduceAdd, Int.reduceSub, Int.reduceMul, Int.reduceNeg]
    refine Eq.trans (hins 0 _) ?_
    simp (maxSteps := 2000000) only [go_sem, doCall, doCallQ, Nat.reduceAdd, Nat.reduceMul, Nat.reduceSub, Nat.reduceDiv, Nat.reduceMod, Nat.reduceLT, Nat.reduceLeDiff, Nat.reduceEqDiff, Nat.reduceBEq, Nat.reduceBNe, Int.reduceToNat, Int.reduceLT, Int.reduceLE, Int.reduceEq, Int.reduceNe, Int.reduceAdd, Int.reduceSub, Int.reduceMul, Int.reduceNeg]
    rw [loop_step1]
    simp (maxSteps := 2000000) only [go_sem, doCall, doCallQ, Nat.reduceAdd, Nat.reduceMul, Nat.reduceSub, Nat.reduceDiv, Nat.reduceMod, Nat.reduceLT, Nat.reduceLeDiff, Nat.reduceEqDiff, Nat.reduceBEq, Nat.reduceBNe, Int.reduceToNat, Int.reduceLT, Int.reduceLE, Int.reduceEq, Int.reduceNe, Int.reduceAdd, Int.reduceSub, Int.reduceMul, Int.reduceNeg]
    exact hk
  · have hm : max g 0 = g := by omega
    have hk := key g hm
    rw [hm]
    simp (maxSteps := 2000000) (disch := omega) only [go_sem, doCall, doCallQ, Nat.reduceAdd, Nat.reduceMul, Nat.reduceSub, Nat.reduceDiv, Nat.reduceMod, Nat.reduceLT, Nat.reduceLeDiff, Nat.reduceEqDiff, Nat.reduceBEq, Nat.reduceBNe, Int.reduceToNat, Int.reduceLT, Int.reduceLE, Int.reduceEq, Int.reduceNe, Int.reduceAdd, Int.reduceSub, Int.reduceMul, Int.reduceNeg, bd8, hg]
    rw [loop_step1]
    simp (maxSteps := 2000000) only [go_sem, doCall, doCallQ, Nat.reduceAdd, Nat.reduceMul, Nat.reduceSub, Nat.reduceDiv, Nat.reduceMod, Nat.reduceLT, Nat.reduceLeDiff, Nat.reduceEqDiff, Nat.reduceBEq, Nat.reduceBNe, Int.reduceToNat, Int.reduceLT, Int.reduceLE, Int.reduceEq, Int.reduceNe, Int.reduceAdd, Int.reduceSub, Int.reduceMul, Int.reduceNeg]
    refine Eq.trans (hins g _) ?_
    simp (maxSteps := 2000000) only [go_sem, doCall, doCallQ, Nat.reduceAdd, Nat.reduceMul, Nat.reduceSub, Nat.reduceDiv, Nat.reduceMod, Nat.reduceLT, Nat.reduceLeDiff, Nat.reduceEqDiff, Nat.reduceBEq, Nat.reduceBNe, Int.reduceToNat, Int.reduceLT, Int.reduceLE, Int.reduceEq, Int.reduceNe, Int.reduceAdd, Int.reduceSub, Int.reduceMul, Int.reduceNeg]
    rw [loop_step1]
    simp (maxSteps := 2000000) only [go_sem, doCall, doCallQ, Nat.reduceAdd, Nat.reduceMul, Nat.reduceSub, Nat.reduceDiv, Nat.reduceMod, Nat.reduceLT, Nat.reduceLeDiff, Nat.reduceEqDiff, Nat.reduceBEq, Nat.reduceBNe, Int.reduceToNat, Int.reduceLT, Int.reduceLE, Int.reduceEq, Int.reduceNe, Int.reduceAdd, Int.reduceSub, Int.reduceMul, Int.reduceNeg]
    exact hk
end Go.Proofs.Ytjcnmaogegfkoaa
