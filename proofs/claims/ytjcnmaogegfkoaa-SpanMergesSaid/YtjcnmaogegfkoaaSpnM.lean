/- Spans: slices.DeleteFunc at an own slice. Own work. -/
import Derived.Test.YtjcnmaogegfkoaaSpnB
namespace Go.Proofs.Ytjcnmaogegfkoaa
open Go Go.Ev Go.Proofs.Ytjcnmaogegfkoaa.Ir
set_option maxRecDepth 100000
set_option maxHeartbeats 4000000
set_option linter.unusedSimpArgs false
set_option linter.unusedVariables false
def rp (x : Int × Int) : Bool := decide (RP x.1 x.2)
abbrev cloM : AV := .clo (.func 16) [] []
theorem c_m1 (x : Int × Int) : call ir 16 [vP x] [] = some (.d (.bool (!rp x)), []) := by
  rw [call_eq (fn := ir16) rfl, evF_bnd]
  simp (maxSteps := 2000000) only [go_sem, doCall, doCallQ, Nat.reduceAdd, Nat.reduceMul, Nat.reduceSub, Nat.reduceDiv, Nat.reduceMod, Nat.reduceLT, Nat.reduceLeDiff, Nat.reduceEqDiff, Nat.reduceBEq, Nat.reduceBNe, Int.reduceToNat, Int.reduceLT, Int.reduceLE, Int.reduceEq, Int.reduceNe, Int.reduceAdd, Int.reduceSub, Int.reduceMul, Int.reduceNeg, bd16, t_right]
  simp only [rp, decide_not]
theorem rp_t {x : Int × Int} (h : RP x.1 x.2) : rp x = true := decide_eq_true h
theorem rp_f {x : Int × Int} (h : ¬ RP x.1 x.2) : rp x = false := decide_eq_false h
theorem lp_idxM (l : List (Int × Int)) (hl : l.length ≤ 1000) (i : Nat) (hi : i ≤ l.length) (hp : (l.take i).filter rp = l.take i) :
    ∃ r : Int, bnd (evC (call ir) (loop ir) lp26_0 (st26_0 1 (.own 0 2 0 l.length false) cloM (.d (.int .i64 l.length)) (.d (.int .i64 i)) [.arr 2 (l.map eP)])) (lpC (call ir) (loop ir) [0, 1, 7, 8] lp26_0 (bk 0 (sq (call ir) (loop ir) (.seq (.reg [⟨some 4, none, .mv (.c (.d (.int .i64 (-1)))), .none⟩]) (.ret none)) (fin ir26)))) =
      some (.d (.int .i64 r), [.arr 2 (l.map eP)]) ∧ ((r = -1 ∧ l.filter rp = l) ∨ ∃ n : Nat, r = n ∧ n < l.length ∧ (l.take n).filter rp = l.take n ∧ rp (l.getD n (0, 0)) = false) := by
  by_cases h : i = l.length
  · have hx : ¬ (i : Int) < l.length := by omega
    refine ⟨-1, ?_, .inl ⟨rfl, by rw [h, List.take_length] at hp; exact hp⟩⟩
    simp (maxSteps := 2000000) (disch := omega) only [go_sem, doCall, doCallQ, Nat.reduceAdd, Nat.reduceMul, Nat.reduceSub, Nat.reduceDiv, Nat.reduceMod, Nat.reduceLT, Nat.reduceLeDiff, Nat.reduceEqDiff, Nat.reduceBEq, Nat.reduceBNe, Int.reduceToNat, Int.reduceLT, Int.reduceLE, Int.reduceEq, Int.reduceNe, Int.reduceAdd, Int.reduceSub, Int.reduceMul, Int.reduceNeg, u26_0, lb26_0, hx]
  · have hlt : (i : Int) < l.length := by omega
    have hi' : i < l.length := by omega
    have hw := wr_succ (i := i) (by omega)
    have hl2 : (l.map eP).length = l.length := List.length_map ..
    by_cases hin : RP l[i].1 l[i].2
    · have hr := rp_t hin
      obtain ⟨r, ih, hr2⟩ := lp_idxM l hl (i + 1) (by omega) (by rw [List.take_succ_eq_append_getElem hi', List.filter_append, hp, List.filter_cons, if_pos hr]; rfl)
      refine ⟨r, ?_, hr2⟩
      simp (maxSteps := 2000000) (disch := omega) only [go_sem, doCall, doCallQ, Nat.reduceAdd, Nat.reduceMul, Nat.reduceSub, Nat.reduceDiv, Nat.reduceMod, Nat.reduceLT, Nat.reduceLeDiff, Nat.reduceEqDiff, Nat.reduceBEq, Nat.reduceBNe, Int.reduceToNat, Int.reduceLT, Int.reduceLE, Int.reduceEq, Int.reduceNe, Int.reduceAdd, Int.reduceSub, Int.reduceMul, Int.reduceNeg, u26_0, lb26_0, hlt, Int.toNat_natCast, get_eP, hl2, Nat.zero_add, c_m1, hr, chk_of]
      rw [loop_step1]
      simp (maxSteps := 2000000) only [go_sem, doCall, doCallQ, Nat.reduceAdd, Nat.reduceMul, Nat.reduceSub, Nat.reduceDiv, Nat.reduceMod, Nat.reduceLT, Nat.reduceLeDiff, Nat.reduceEqDiff, Nat.reduceBEq, Nat.reduceBNe, Int.reduceToNat, Int.reduceLT, Int.reduceLE, Int.reduceEq, Int.reduceNe, Int.reduceAdd, Int.reduceSub, Int.reduceMul, Int.reduceNeg, hw]
      exact ih
    · have hr := rp_f hin
      refine ⟨i, ?_, .inr ⟨i, rfl, hi', hp, by rw [getD_of hi']; exact hr⟩⟩
      simp (maxSteps := 2000000) (disch := omega) only [go_sem, doCall, doCallQ, Nat.reduceAdd, Nat.reduceMul, Nat.reduceSub, Nat.reduceDiv, Nat.reduceMod, Nat.reduceLT, Nat.reduceLeDiff, Nat.reduceEqDiff, Nat.reduceBEq, Nat.reduceBNe, Int.reduceToNat, Int.reduceLT, Int.reduceLE, Int.reduceEq, Int.reduceNe, Int.reduceAdd, Int.reduceSub, Int.reduceMul, Int.reduceNeg, u26_0, lb26_0, hlt, Int.toNat_natCast, get_eP, hl2, Nat.zero_add, c_m1, hr, chk_of]
termination_by l.length - i
theorem c_idxM (l : List (Int × Int)) (hl : l.length ≤ 1000) : ∃ r : Int, call ir 26 [.own 0 2 0 l.length false, cloM] [.arr 2 (l.map eP)] = some (.d (.int .i64 r), [.arr 2 (l.map eP)]) ∧ ((r = -1 ∧ l.filter rp = l) ∨ ∃ n : Nat, r = n ∧ n < l.length ∧ (l.take n).filter rp = l.take n ∧ rp (l.getD n (0, 0)) = false) := by
  obtain ⟨r, h1, h2⟩ := lp_idxM l hl 0 (by omega) rfl
  refine ⟨r, ?_, h2⟩
  rw [call_eq (fn := ir26) rfl, evF_bnd]
  simp (maxSteps := 2000000) only [go_sem, doCall, doCallQ, Nat.reduceAdd, Nat.reduceMul, Nat.reduceSub, Nat.reduceDiv, Nat.reduceMod, Nat.reduceLT, Nat.reduceLeDiff, Nat.reduceEqDiff, Nat.reduceBEq, Nat.reduceBNe, Int.reduceToNat, Int.reduceLT, Int.reduceLE, Int.reduceEq, Int.reduceNe, Int.reduceAdd, Int.reduceSub, Int.reduceMul, Int.reduceNeg, bd26]
  rw [loop_step1]
  simp (maxSteps := 2000000) only [go_sem, doCall, doCallQ, Nat.reduceAdd, Nat.reduceMul, Nat.reduceSub, Nat.reduceDiv, Nat.reduceMod, Nat.reduceLT, Nat.reduceLeDiff, Nat.reduceEqDiff, Nat.reduceBEq, Nat.reduceBNe, Int.reduceToNat, Int.reduceLT, Int.reduceLE, Int.reduceEq, Int.reduceNe, Int.reduceAdd, Int.reduceSub, Int.reduceMul, Int.reduceNeg]
  exact h1
theorem lp_del (l : List (Int × Int)) (hl : l.length ≤ 1000) (k : Ex → St → Option (AV × Heap)) (j : Nat) (hj : j ≤ l.length) (X : List (Int × Int)) (hX : X.length = l.length) (i : Nat) (hi : i < j)
    (h1 : X.take i = (l.take j).filter rp) (h2 : X.drop j = l.drop j) :
    ∃ X' : List (Int × Int), X'.length = l.length ∧ X'.take (l.filter rp).length = l.filter rp ∧
    bnd (evC (call ir) (loop ir) lp14_0 (st14_0 1 (.own 0 2 0 l.length false) cloM (.d (.int .i64 i)) (.d (.int .i64 j)) [.arr 2 (X.map eP)])) (lpC (call ir) (loop ir) [0, 1, 5, 6] lp14_0 k) =
      k (.exit 0) (clean [0, 5] (st14_0 1 (.own 0 2 0 l.length false) .unk (.d (.int .i64 (l.filter rp).length)) .unk [.arr 2 (X'.map eP)])) := by
  have hi2 : i = ((l.take j).filter rp).length := by rw [← h1, List.length_take]; omega
  by_cases h : j = l.length
  · have hx : ¬ (j : Int) < l.length := by omega
    rw [h, List.take_length] at h1 hi2
    refine ⟨X, hX, by rw [← hi2, h1], ?_⟩
    simp (maxSteps := 2000000) (disch := omega) only [go_sem, doCall, doCallQ, Nat.reduceAdd, Nat.reduceMul, Nat.reduceSub, Nat.reduceDiv, Nat.reduceMod, Nat.reduceLT, Nat.reduceLeDiff, Nat.reduceEqDiff, Nat.reduceBEq, Nat.reduceBNe, Int.reduceToNat, Int.reduceLT, Int.reduceLE, Int.reduceEq, Int.reduceNe, Int.reduceAdd, Int.reduceSub, Int.reduceMul, Int.reduceNeg, u14_0, lb14_0, hx]
    rw [hi2]
  · have hlt : (j : Int) < l.length := by omega
    have hj' : j < l.length := by omega
    have hjX : j < X.length := by omega
    have hw := wr_succ (i := j) (by omega)
    have hl2 : (X.map eP).length = l.length := by rw [List.length_map, hX]
    have he : X[j] = l[j] := by
      have := congrArg (fun t => t.getD 0 (0, 0)) h2
      simpa [List.getD_eq_getElem?_getD, hj', hjX] using this
    by_cases hin : RP l[j].1 l[j].2
    · have hr := rp_t hin
      have hiX : i < X.length := by omega
      have hwi := wr_succ (i := i) (by omega)
      have hset : (X.map eP).set i (eP l[j]) = (X.set i l[j]).map eP := by rw [List.map_set]
      obtain ⟨X', a1, a2, a3⟩ := lp_del l hl k (j + 1) (by omega) (X.set i l[j]) (by rw [List.length_set]; exact hX) (i + 1) (by omega)
        (by rw [List.take_succ_eq_append_getElem hj', List.filter_append, ← h1, List.filter_cons, if_pos hr, List.filter_nil,
              List.take_succ_eq_append_getElem (by rw [List.length_set]; exact hiX), List.getElem_set_self, List.take_set_of_le (Nat.le_refl _)])
        (by rw [List.drop_set_of_lt (by omega), ← List.drop_drop, h2, List.drop_drop])
      refine ⟨X', a1, a2, ?_⟩
      have hii : (i : Int) < l.length := by omega
      simp (maxSteps := 2000000) (disch := omega) only [go_sem, doCall, doCallQ, Nat.reduceAdd, Nat.reduceMul, Nat.reduceSub, Nat.reduceDiv, Nat.reduceMod, Nat.reduceLT, Nat.reduceLeDiff, Nat.reduceEqDiff, Nat.reduceBEq, Nat.reduceBNe, Int.reduceToNat, Int.reduceLT, Int.reduceLE, Int.reduceEq, Int.reduceNe, Int.reduceAdd, Int.reduceSub, Int.reduceMul, Int.reduceNeg, u14_0, lb14_0, hlt, hii, Int.toNat_natCast, get_eP, hl2, he, Nat.zero_add, c_m1, hr, chk_of]
      rw [loop_step1]
      simp (maxSteps := 2000000) only [go_sem, doCall, doCallQ, Nat.reduceAdd, Nat.reduceMul, Nat.reduceSub, Nat.reduceDiv, Nat.reduceMod, Nat.reduceLT, Nat.reduceLeDiff, Nat.reduceEqDiff, Nat.reduceBEq, Nat.reduceBNe, Int.reduceToNat, Int.reduceLT, Int.reduceLE, Int.reduceEq, Int.reduceNe, Int.reduceAdd, Int.reduceSub, Int.reduceMul, Int.reduceNeg, hw, hwi, hset]
      exact a3
    · have hr := rp_f hin
      obtain ⟨X', a1, a2, a3⟩ := lp_del l hl k (j + 1) (by omega) X hX i (by omega)
        (by rw [List.take_succ_eq_append_getElem hj', List.filter_append, ← h1, List.filter_cons, if_neg (by rw [hr]; simp)]; simp)
        (by rw [← List.drop_drop, h2, List.drop_drop])
      refine ⟨X', a1, a2, ?_⟩
      simp (maxSteps := 2000000) (disch := omega) only [go_sem, doCall, doCallQ, Nat.reduceAdd, Nat.reduceMul, Nat.reduceSub, Nat.reduceDiv, Nat.reduceMod, Nat.reduceLT, Nat.reduceLeDiff, Nat.reduceEqDiff, Nat.reduceBEq, Nat.reduceBNe, Int.reduceToNat, Int.reduceLT, Int.reduceLE, Int.reduceEq, Int.reduceNe, Int.reduceAdd, Int.reduceSub, Int.reduceMul, Int.reduceNeg, u14_0, lb14_0, hlt, Int.toNat_natCast, get_eP, hl2, he, Nat.zero_add, c_m1, hr, chk_of]
      rw [loop_step1]
      simp (maxSteps := 2000000) only [go_sem, doCall, doCallQ, Nat.reduceAdd, Nat.reduceMul, Nat.reduceSub, Nat.reduceDiv, Nat.reduceMod, Nat.reduceLT, Nat.reduceLeDiff, Nat.reduceEqDiff, Nat.reduceBEq, Nat.reduceBNe, Int.reduceToNat, Int.reduceLT, Int.reduceLE, Int.reduceEq, Int.reduceNe, Int.reduceAdd, Int.reduceSub, Int.reduceMul, Int.reduceNeg, hw]
      exact a3
termination_by l.length - j
/-- What DeleteFunc leaves: the right ones ahead, in their order. -/
theorem c_del (l : List (Int × Int)) (hl : l.length ≤ 1000) : ∃ Z : List (List D), call ir 14 [.own 0 2 0 l.length false, cloM] [.arr 2 (l.map eP)] = some (.own 0 2 0 (l.filter rp).length false, [.arr 2 ((l.filter rp).map eP ++ Z)]) := by
  obtain ⟨r, e1, h⟩ := c_idxM l hl
  have hl2 : (l.map eP).length = l.length := List.length_map ..
  rcases h with ⟨rfl, h⟩ | ⟨n, rfl, hn, h1, h2⟩
  · refine ⟨[], ?_⟩
    rw [h, List.append_nil, call_eq (fn := ir14) rfl, evF_bnd]
    simp (maxSteps := 2000000) (disch := omega) only [go_sem, doCall, doCallQ, Nat.reduceAdd, Nat.reduceMul, Nat.reduceSub, Nat.reduceDiv, Nat.reduceMod, Nat.reduceLT, Nat.reduceLeDiff, Nat.reduceEqDiff, Nat.reduceBEq, Nat.reduceBNe, Int.reduceToNat, Int.reduceLT, Int.reduceLE, Int.reduceEq, Int.reduceNe, Int.reduceAdd, Int.reduceSub, Int.reduceMul, Int.reduceNeg, bd14, e1]
  · have hw := wr_succ (i := n) (by omega)
    have hne : ¬ (n : Int) = -1 := by omega
    rw [getD_of hn] at h2
    have hf : (l.take (n + 1)).filter rp = l.take n := by
      rw [List.take_succ_eq_append_getElem hn, List.filter_append, h1, List.filter_cons, if_neg (by rw [h2]; simp)]; simp
    obtain ⟨X', a1, a2, a3⟩ := lp_del l hl (bk 0 (sq (call ir) (loop ir) (.seq (.reg [⟨some 36, none, .mv (.s 0), .none⟩,
      ⟨some 37, none, .mv (.s 5), .none⟩,
      ⟨some 38, none, .sl (.s 36) (some (.s 37)) none none 2, .none⟩,
      ⟨none, none, .bcall (.clr [.int .i64 0, .int .i64 0]) [.s 38], .none⟩])
  (.seq (.reg [⟨some 39, none, .mv (.s 0), .none⟩,
      ⟨some 40, none, .mv (.s 5), .none⟩,
      ⟨some 41, none, .sl (.s 39) none (some (.s 40)) none 2, .none⟩,
      ⟨some 4, none, .mv (.s 41), .none⟩])
  (.ret none))) (fin ir14))) (n + 1) (by omega) l rfl n (by omega) hf.symm rfl
    have hle : (l.filter rp).length ≤ l.length := List.length_filter_le ..
    refine ⟨List.replicate (l.length - (l.filter rp).length) [.int .i64 0, .int .i64 0], ?_⟩
    rw [call_eq (fn := ir14) rfl, evF_bnd]
    simp (maxSteps := 2000000) (disch := omega) only [go_sem, doCall, doCallQ, Nat.reduceAdd, Nat.reduceMul, Nat.reduceSub, Nat.reduceDiv, Nat.reduceMod, Nat.reduceLT, Nat.reduceLeDiff, Nat.reduceEqDiff, Nat.reduceBEq, Nat.reduceBNe, Int.reduceToNat, Int.reduceLT, Int.reduceLE, Int.reduceEq, Int.reduceNe, Int.reduceAdd, Int.reduceSub, Int.reduceMul, Int.reduceNeg, bd14, e1, hne]
    rw [loop_step1]
    simp (maxSteps := 2000000) only [go_sem, doCall, doCallQ, Nat.reduceAdd, Nat.reduceMul, Nat.reduceSub, Nat.reduceDiv, Nat.reduceMod, Nat.reduceLT, Nat.reduceLeDiff, Nat.reduceEqDiff, Nat.reduceBEq, Nat.reduceBNe, Int.reduceToNat, Int.reduceLT, Int.reduceLE, Int.reduceEq, Int.reduceNe, Int.reduceAdd, Int.reduceSub, Int.reduceMul, Int.reduceNeg, hw]
    refine Eq.trans a3 ?_
    have ht : (X'.map eP).take (l.filter rp).length = (l.filter rp).map eP := by rw [← List.map_take, a2]
    have hd : (X'.map eP).drop l.length = [] := List.drop_eq_nil_of_le (by rw [List.length_map]; omega)
    have hx2 : (X'.map eP).length = l.length := by rw [List.length_map, a1]
    have hadd : (l.filter rp).length + (l.length - (l.filter rp).length) = l.length := by omega
    have hz : (0 : Int) ≤ ((l.filter rp).length : Int) := Int.natCast_nonneg _
    simp (maxSteps := 2000000) (disch := omega) only [go_sem, doCall, doCallQ, Nat.reduceAdd, Nat.reduceMul, Nat.reduceSub, Nat.reduceDiv, Nat.reduceMod, Nat.reduceLT, Nat.reduceLeDiff, Nat.reduceEqDiff, Nat.reduceBEq, Nat.reduceBNe, Int.reduceToNat, Int.reduceLT, Int.reduceLE, Int.reduceEq, Int.reduceNe, Int.reduceAdd, Int.reduceSub, Int.reduceMul, Int.reduceNeg, hz, Int.toNat_natCast, Nat.le_refl, Nat.zero_add, Nat.sub_zero, chk_of, hle, ht, hd, hx2, hadd]
end Go.Proofs.Ytjcnmaogegfkoaa
