/- The document's index: drops, slices. Own work. -/
import Derived.Test.YtoipfdbdifoecaaRef
namespace Go.Proofs.Ytoipfdbdifoecaa
open Go Go.Ev Go.Proofs.Ytoipfdbdifoecaa.Ir
set_option maxRecDepth 100000
set_option maxHeartbeats 4000000
set_option linter.unusedSimpArgs false
set_option linter.unusedVariables false
theorem r_forget (x : Nat → Sl) (k : Nat) (hk : k < 16) (gen a1 a2 : Int) : call ir 37 [.ptr 0 0, .d (.int .i64 k), .d (.int .i64 gen), .agg [.d (.int .i64 a1), .d (.int .i64 a2)]] [.dbox (idxR x)] =
    some (.tup [], [.dbox (idxR (xs x k (forg (x k) gen a1 a2)))]) := by
  have h0 := eq_true (show (0 : Int) ≤ k by omega); have h1 := eq_true (show (k : Int) < 16 by omega); have n0 := eq_false (show ¬ (k : Int) < 0 by omega); have n1 := eq_false (show ¬ (15 : Int) < k by omega); have hg := get_idr x k hk
  rw [call_eq (fn := ir37) rfl, evF_bnd]
  have hp := fun s => put_idr x s k hk
  by_cases c1 : gen > 0
  · by_cases c2 : gen ≥ (x k).fl
    · have e1 : forg1 (x k) gen a1 a2 = { x k with fl := gen, t1 := a1, t2 := a2 } := if_pos ⟨c2, c1⟩
      cases c3 : (x k).b
      · have e2 : forg (x k) gen a1 a2 = { x k with fl := gen, t1 := a1, t2 := a2 } := by unfold forg forg2; rw [e1]; exact if_neg (by simp [c3])
        rw [e2, ← hp]
        simp (disch := omega) only [go_sem, doCall, doCallQ, Nat.reduceAdd, Nat.reduceMul, Nat.reduceSub, Nat.reduceDiv, Nat.reduceMod, Nat.reduceLT, Nat.reduceLeDiff, Nat.reduceEqDiff, Nat.reduceBEq, Nat.reduceBNe, Int.reduceToNat, Int.reduceLT, Int.reduceLE, Int.reduceEq, Int.reduceNe, Int.reduceAdd, Int.reduceSub, Int.reduceMul, Int.reduceNeg, bd37, h0, h1, n0, n1, hg, Sl.rs, eq_true c1, eq_true c2, c3, idxR_len, rs_len, Int.toNat_natCast, Nat.zero_add, chk_of]
      · by_cases c4 : (x k).g ≤ gen
        · have e2 : forg (x k) gen a1 a2 = ⟨false, 0, 0, [], 0, 0, 0, 0, none, gen, a1, a2⟩ := by unfold forg forg2; rw [e1]; exact if_pos ⟨c3, c4⟩
          rw [e2, ← hp]
          simp (disch := omega) only [go_sem, doCall, doCallQ, Nat.reduceAdd, Nat.reduceMul, Nat.reduceSub, Nat.reduceDiv, Nat.reduceMod, Nat.reduceLT, Nat.reduceLeDiff, Nat.reduceEqDiff, Nat.reduceBEq, Nat.reduceBNe, Int.reduceToNat, Int.reduceLT, Int.reduceLE, Int.reduceEq, Int.reduceNe, Int.reduceAdd, Int.reduceSub, Int.reduceMul, Int.reduceNeg, bd37, h0, h1, n0, n1, hg, Sl.rs, eq_true c1, eq_true c2, c3, eq_true c4, pmK, pmR, idxR_len, rs_len, Int.toNat_natCast, Nat.zero_add, chk_of]
        · have e2 : forg (x k) gen a1 a2 = { x k with fl := gen, t1 := a1, t2 := a2 } := by unfold forg forg2; rw [e1]; exact if_neg (fun h => c4 h.2)
          rw [e2, ← hp]
          simp (disch := omega) only [go_sem, doCall, doCallQ, Nat.reduceAdd, Nat.reduceMul, Nat.reduceSub, Nat.reduceDiv, Nat.reduceMod, Nat.reduceLT, Nat.reduceLeDiff, Nat.reduceEqDiff, Nat.reduceBEq, Nat.reduceBNe, Int.reduceToNat, Int.reduceLT, Int.reduceLE, Int.reduceEq, Int.reduceNe, Int.reduceAdd, Int.reduceSub, Int.reduceMul, Int.reduceNeg, bd37, h0, h1, n0, n1, hg, Sl.rs, eq_true c1, eq_true c2, c3, eq_false c4, idxR_len, rs_len, Int.toNat_natCast, Nat.zero_add, chk_of]
    · have e1 : forg1 (x k) gen a1 a2 = x k := if_neg (fun h => c2 h.1)
      cases c3 : (x k).b
      · have e2 : forg (x k) gen a1 a2 = x k := by unfold forg forg2; rw [e1]; exact if_neg (by simp [c3])
        rw [e2, ← hp]
        simp (disch := omega) only [go_sem, doCall, doCallQ, Nat.reduceAdd, Nat.reduceMul, Nat.reduceSub, Nat.reduceDiv, Nat.reduceMod, Nat.reduceLT, Nat.reduceLeDiff, Nat.reduceEqDiff, Nat.reduceBEq, Nat.reduceBNe, Int.reduceToNat, Int.reduceLT, Int.reduceLE, Int.reduceEq, Int.reduceNe, Int.reduceAdd, Int.reduceSub, Int.reduceMul, Int.reduceNeg, bd37, h0, h1, n0, n1, hg, Sl.rs, eq_true c1, eq_false c2, c3, idxR_len, rs_len, Int.toNat_natCast, Nat.zero_add, chk_of]
      · by_cases c4 : (x k).g ≤ gen
        · have e2 : forg (x k) gen a1 a2 = ⟨false, 0, 0, [], 0, 0, 0, 0, none, (x k).fl, (x k).t1, (x k).t2⟩ := by unfold forg forg2; rw [e1]; exact if_pos ⟨c3, c4⟩
          rw [e2, ← hp]
          simp (disch := omega) only [go_sem, doCall, doCallQ, Nat.reduceAdd, Nat.reduceMul, Nat.reduceSub, Nat.reduceDiv, Nat.reduceMod, Nat.reduceLT, Nat.reduceLeDiff, Nat.reduceEqDiff, Nat.reduceBEq, Nat.reduceBNe, Int.reduceToNat, Int.reduceLT, Int.reduceLE, Int.reduceEq, Int.reduceNe, Int.reduceAdd, Int.reduceSub, Int.reduceMul, Int.reduceNeg, bd37, h0, h1, n0, n1, hg, Sl.rs, eq_true c1, eq_false c2, c3, eq_true c4, pmK, pmR, idxR_len, rs_len, Int.toNat_natCast, Nat.zero_add, chk_of]
        · have e2 : forg (x k) gen a1 a2 = x k := by unfold forg forg2; rw [e1]; exact if_neg (fun h => c4 h.2)
          rw [e2, ← hp]
          simp (disch := omega) only [go_sem, doCall, doCallQ, Nat.reduceAdd, Nat.reduceMul, Nat.reduceSub, Nat.reduceDiv, Nat.reduceMod, Nat.reduceLT, Nat.reduceLeDiff, Nat.reduceEqDiff, Nat.reduceBEq, Nat.reduceBNe, Int.reduceToNat, Int.reduceLT, Int.reduceLE, Int.reduceEq, Int.reduceNe, Int.reduceAdd, Int.reduceSub, Int.reduceMul, Int.reduceNeg, bd37, h0, h1, n0, n1, hg, Sl.rs, eq_true c1, eq_false c2, c3, eq_false c4, idxR_len, rs_len, Int.toNat_natCast, Nat.zero_add, chk_of]
  · have e1 : forg1 (x k) gen a1 a2 = x k := if_neg (fun h => c1 h.2)
    cases c3 : (x k).b
    · have e2 : forg (x k) gen a1 a2 = x k := by unfold forg forg2; rw [e1]; exact if_neg (by simp [c3])
      rw [e2, ← hp]
      simp (disch := omega) only [go_sem, doCall, doCallQ, Nat.reduceAdd, Nat.reduceMul, Nat.reduceSub, Nat.reduceDiv, Nat.reduceMod, Nat.reduceLT, Nat.reduceLeDiff, Nat.reduceEqDiff, Nat.reduceBEq, Nat.reduceBNe, Int.reduceToNat, Int.reduceLT, Int.reduceLE, Int.reduceEq, Int.reduceNe, Int.reduceAdd, Int.reduceSub, Int.reduceMul, Int.reduceNeg, bd37, h0, h1, n0, n1, hg, Sl.rs, eq_false c1, c3, idxR_len, rs_len, Int.toNat_natCast, Nat.zero_add, chk_of]
    · by_cases c4 : (x k).g ≤ gen
      · have e2 : forg (x k) gen a1 a2 = ⟨false, 0, 0, [], 0, 0, 0, 0, none, (x k).fl, (x k).t1, (x k).t2⟩ := by unfold forg forg2; rw [e1]; exact if_pos ⟨c3, c4⟩
        rw [e2, ← hp]
        simp (disch := omega) only [go_sem, doCall, doCallQ, Nat.reduceAdd, Nat.reduceMul, Nat.reduceSub, Nat.reduceDiv, Nat.reduceMod, Nat.reduceLT, Nat.reduceLeDiff, Nat.reduceEqDiff, Nat.reduceBEq, Nat.reduceBNe, Int.reduceToNat, Int.reduceLT, Int.reduceLE, Int.reduceEq, Int.reduceNe, Int.reduceAdd, Int.reduceSub, Int.reduceMul, Int.reduceNeg, bd37, h0, h1, n0, n1, hg, Sl.rs, eq_false c1, c3, eq_true c4, pmK, pmR, idxR_len, rs_len, Int.toNat_natCast, Nat.zero_add, chk_of]
      · have e2 : forg (x k) gen a1 a2 = x k := by unfold forg forg2; rw [e1]; exact if_neg (fun h => c4 h.2)
        rw [e2, ← hp]
        simp (disch := omega) only [go_sem, doCall, doCallQ, Nat.reduceAdd, Nat.reduceMul, Nat.reduceSub, Nat.reduceDiv, Nat.reduceMod, Nat.reduceLT, Nat.reduceLeDiff, Nat.reduceEqDiff, Nat.reduceBEq, Nat.reduceBNe, Int.reduceToNat, Int.reduceLT, Int.reduceLE, Int.reduceEq, Int.reduceNe, Int.reduceAdd, Int.reduceSub, Int.reduceMul, Int.reduceNeg, bd37, h0, h1, n0, n1, hg, Sl.rs, eq_false c1, c3, eq_false c4, idxR_len, rs_len, Int.toNat_natCast, Nat.zero_add, chk_of]

/-! ### a slice: the list stays sorted -/
def stp (i : Int) (v : Int × Int) (s : List (Int × Int × Int) × Bool) (p : Int × Int × Int) : List (Int × Int × Int) × Bool :=
  let r := if p.1 ≥ i ∧ s.2 = false then (s.1 ++ [(i, v)], true) else s
  (if p.1 ≠ i then r.1 ++ [p] else r.1, r.2)
theorem stp_done (i : Int) (v : Int × Int) : ∀ (l out : List (Int × Int × Int)), (∀ p ∈ l, p.1 ≠ i) → l.foldl (stp i v) (out, true) = (out ++ l, true)
  | [], out, _ => by simp
  | p :: l, out, h => by
    have hp := h p (.head _)
    rw [List.foldl_cons]
    have e : stp i v (out, true) p = (out ++ [p], true) := by simp [stp, hp]
    rw [e, stp_done i v l _ (fun q hq => h q (.tail _ hq))]
    simp
theorem stp_put (i : Int) (v : Int × Int) : ∀ (l out : List (Int × Int × Int)), SrtM l → (l.foldl (stp i v) (out, false)).2 = true ∧ (l.foldl (stp i v) (out, false)).1 = out ++ putM i v l ∨
    (l.foldl (stp i v) (out, false)).2 = false ∧ (l.foldl (stp i v) (out, false)).1 ++ [(i, v)] = out ++ putM i v l
  | [], out, _ => .inr ⟨rfl, rfl⟩
  | (a, d) :: l, out, hs => by
    have hs' := List.pairwise_cons.1 hs
    rw [List.foldl_cons, putM]
    by_cases h1 : i < a
    · have hne : a ≠ i := by omega
      have hge : a ≥ i := by omega
      have e : stp i v (out, false) (a, d) = (out ++ [(i, v)] ++ [(a, d)], true) := by simp only [stp, hge, and_self, if_true, hne, ne_eq, not_false_eq_true]
      rw [e, stp_done i v l _ (fun q hq => by have := hs'.1 q hq; simp only at this; omega), if_pos h1]
      left; simp
    · rw [if_neg h1]
      by_cases h2 : i = a
      · subst h2
        have e : stp i v (out, false) (i, d) = (out ++ [(i, v)], true) := by simp [stp]
        rw [e, stp_done i v l _ (fun q hq => by have := hs'.1 q hq; simp only at this; omega), if_pos rfl]
        left; simp
      · rw [if_neg h2]
        have hne : a ≠ i := fun e => h2 e.symm
        have hlt : ¬ a ≥ i := by omega
        have e : stp i v (out, false) (a, d) = (out ++ [(a, d)], false) := by simp only [stp, hlt, false_and, if_false, hne, ne_eq, not_false_eq_true, if_true]
        rw [e]
        rcases stp_put i v l (out ++ [(a, d)]) hs'.2 with ⟨q1, q2⟩ | ⟨q1, q2⟩
        · left; exact ⟨q1, by rw [q2]; simp⟩
        · right; exact ⟨q1, by rw [q2]; simp⟩
theorem pmR_get (l : List (Int × Int × Int)) {j : Nat} (h : j < l.length) : (pmR l).getD j [] = [.int .i64 l[j].1, .int .i64 l[j].2.1, .int .i64 l[j].2.2] := by simp [pmR, List.getD_eq_getElem?_getD, h]
theorem pmR_app (a b : List (Int × Int × Int)) : pmR (a ++ b) = pmR a ++ pmR b := by simp [pmR]
theorem pmR_one (p : Int × Int × Int) : pmR [p] = [[.int .i64 p.1, .int .i64 p.2.1, .int .i64 p.2.2]] := rfl
theorem lp_rp (Z : List D) (o i a1 a2 : Int) (L : List (Int × Int × Int)) (hL : L.length ≤ 100000) (K : Ex → St → Option (AV × Heap)) (j : Nat) (hj : j ≤ L.length) (A : List (Int × Int × Int)) (dn : Bool) (hA : A.length ≤ 2 * j) :
    bnd (evC (call ir) (loop ir) lp35_0 (st35_0 1 (.ptr 0 0) (.d (.int .i64 o)) (.d (.int .i64 i)) (.ptr 1 0) (.own 2 3 0 A.length false) (.d (.bool dn)) (.d (.list 3 (pmR L))) (.d (.int .i64 L.length)) (.d (.int .i64 j)) [.dbox Z, .dbox [.int .i64 a1, .int .i64 a2], .arr 3 (pmR A)]))
      (lpC (call ir) (loop ir) [0, 1, 3, 9, 10, 11, 56, 57, 58] lp35_0 K) =
    K (.exit 0) (clean [0, 1, 3, 9, 10, 11] (st35_0 1 (.ptr 0 0) (.d (.int .i64 o)) (.d (.int .i64 i)) (.ptr 1 0) (.own 2 3 0 ((L.drop j).foldl (stp i (a1, a2)) (A, dn)).1.length false) (.d (.bool ((L.drop j).foldl (stp i (a1, a2)) (A, dn)).2)) .unk .unk .unk [.dbox Z, .dbox [.int .i64 a1, .int .i64 a2], .arr 3 (pmR ((L.drop j).foldl (stp i (a1, a2)) (A, dn)).1)])) := by
  have hlm := pmR_len L
  have hAm := pmR_len A
  by_cases h : j = L.length
  · have hx : ¬ (j : Int) < L.length := by omega
    subst h
    simp (disch := omega) only [go_sem, doCall, doCallQ, Nat.reduceAdd, Nat.reduceMul, Nat.reduceSub, Nat.reduceDiv, Nat.reduceMod, Nat.reduceLT, Nat.reduceLeDiff, Nat.reduceEqDiff, Nat.reduceBEq, Nat.reduceBNe, Int.reduceToNat, Int.reduceLT, Int.reduceLE, Int.reduceEq, Int.reduceNe, Int.reduceAdd, Int.reduceSub, Int.reduceMul, Int.reduceNeg, u35_0, lb35_0, hx, List.drop_length, List.foldl_nil]
  · have hlt : (j : Int) < L.length := by omega
    have hj' : j < L.length := by omega
    have hw := wr_succ (i := j) (by omega)
    have hr := pmR_get L hj'
    have hdl : L.drop j = L[j] :: L.drop (j + 1) := List.drop_eq_getElem_cons hj'
    rw [hdl, List.foldl_cons]
    have t1 : List.take (A.length + 1) (pmR A ++ [[D.int .i64 i, .int .i64 a1, .int .i64 a2]]) = pmR A ++ [[D.int .i64 i, .int .i64 a1, .int .i64 a2]] := List.take_of_length_le (by simp [hAm])
    have t1l : (pmR A ++ [[D.int .i64 i, .int .i64 a1, .int .i64 a2]]).length = A.length + 1 := by simp [hAm]
    have t0 : List.take A.length (pmR A) = pmR A := List.take_of_length_le (by simp [hAm])
    by_cases c1 : L[j].1 ≥ i
    · cases dn
      · by_cases c2 : L[j].1 = i
        · have e : stp i (a1, a2) (A, false) L[j] = (A ++ [(i, a1, a2)], true) := by simp [stp, c2]
          rw [e]
          have ih := lp_rp Z o i a1 a2 L hL K (j + 1) (by omega) (A ++ [(i, a1, a2)]) true (by simp; omega)
          rw [pmR_app, pmR_one] at ih
          simp only [List.length_append, List.length_cons, List.length_nil] at ih
          simp (disch := omega) only [go_sem, doCall, doCallQ, Nat.reduceAdd, Nat.reduceMul, Nat.reduceSub, Nat.reduceDiv, Nat.reduceMod, Nat.reduceLT, Nat.reduceLeDiff, Nat.reduceEqDiff, Nat.reduceBEq, Nat.reduceBNe, Int.reduceToNat, Int.reduceLT, Int.reduceLE, Int.reduceEq, Int.reduceNe, Int.reduceAdd, Int.reduceSub, Int.reduceMul, Int.reduceNeg, u35_0, lb35_0, hlt, hr, hlm, hAm, eq_true c1, eq_true c2, t0, t1, t1l, Nat.le_refl, List.drop_zero, Int.toNat_natCast, Nat.zero_add, chk_of]
          rw [loop_step1]
          simp only [go_sem, doCall, doCallQ, Nat.reduceAdd, Nat.reduceMul, Nat.reduceSub, Nat.reduceDiv, Nat.reduceMod, Nat.reduceLT, Nat.reduceLeDiff, Nat.reduceEqDiff, Nat.reduceBEq, Nat.reduceBNe, Int.reduceToNat, Int.reduceLT, Int.reduceLE, Int.reduceEq, Int.reduceNe, Int.reduceAdd, Int.reduceSub, Int.reduceMul, Int.reduceNeg, hw]
          exact ih
        · have e : stp i (a1, a2) (A, false) L[j] = (A ++ [(i, a1, a2)] ++ [L[j]], true) := by
            simp only [stp, c2, c1, and_self, if_true, ne_eq, not_false_eq_true]
          rw [e]
          have ih := lp_rp Z o i a1 a2 L hL K (j + 1) (by omega) (A ++ [(i, a1, a2)] ++ [L[j]]) true (by simp; omega)
          rw [pmR_app, pmR_app, pmR_one, pmR_one] at ih
          simp only [List.length_append, List.length_cons, List.length_nil, Nat.zero_add, Nat.add_zero] at ih
          simp (disch := omega) only [go_sem, doCall, doCallQ, Nat.reduceAdd, Nat.reduceMul, Nat.reduceSub, Nat.reduceDiv, Nat.reduceMod, Nat.reduceLT, Nat.reduceLeDiff, Nat.reduceEqDiff, Nat.reduceBEq, Nat.reduceBNe, Int.reduceToNat, Int.reduceLT, Int.reduceLE, Int.reduceEq, Int.reduceNe, Int.reduceAdd, Int.reduceSub, Int.reduceMul, Int.reduceNeg, u35_0, lb35_0, hlt, hr, hlm, hAm, eq_true c1, eq_false c2, t0, t1, t1l, Nat.le_refl, List.drop_zero, Int.toNat_natCast, Nat.zero_add, chk_of]
          rw [loop_step1]
          simp only [go_sem, doCall, doCallQ, Nat.reduceAdd, Nat.reduceMul, Nat.reduceSub, Nat.reduceDiv, Nat.reduceMod, Nat.reduceLT, Nat.reduceLeDiff, Nat.reduceEqDiff, Nat.reduceBEq, Nat.reduceBNe, Int.reduceToNat, Int.reduceLT, Int.reduceLE, Int.reduceEq, Int.reduceNe, Int.reduceAdd, Int.reduceSub, Int.reduceMul, Int.reduceNeg, hw]
          exact ih
      · by_cases c2 : L[j].1 = i
        · have e : stp i (a1, a2) (A, true) L[j] = (A, true) := by simp [stp, c2]
          rw [e]
          have ih := lp_rp Z o i a1 a2 L hL K (j + 1) (by omega) A true (by omega)
          simp (disch := omega) only [go_sem, doCall, doCallQ, Nat.reduceAdd, Nat.reduceMul, Nat.reduceSub, Nat.reduceDiv, Nat.reduceMod, Nat.reduceLT, Nat.reduceLeDiff, Nat.reduceEqDiff, Nat.reduceBEq, Nat.reduceBNe, Int.reduceToNat, Int.reduceLT, Int.reduceLE, Int.reduceEq, Int.reduceNe, Int.reduceAdd, Int.reduceSub, Int.reduceMul, Int.reduceNeg, u35_0, lb35_0, hlt, hr, hlm, hAm, eq_true c1, eq_true c2, t0, Nat.le_refl, List.drop_zero, Int.toNat_natCast, Nat.zero_add, chk_of]
          rw [loop_step1]
          simp only [go_sem, doCall, doCallQ, Nat.reduceAdd, Nat.reduceMul, Nat.reduceSub, Nat.reduceDiv, Nat.reduceMod, Nat.reduceLT, Nat.reduceLeDiff, Nat.reduceEqDiff, Nat.reduceBEq, Nat.reduceBNe, Int.reduceToNat, Int.reduceLT, Int.reduceLE, Int.reduceEq, Int.reduceNe, Int.reduceAdd, Int.reduceSub, Int.reduceMul, Int.reduceNeg, hw]
          exact ih
        · have e : stp i (a1, a2) (A, true) L[j] = (A ++ [L[j]], true) := by simp [stp, c2]
          rw [e]
          have ih := lp_rp Z o i a1 a2 L hL K (j + 1) (by omega) (A ++ [L[j]]) true (by simp; omega)
          rw [pmR_app, pmR_one] at ih
          simp only [List.length_append, List.length_cons, List.length_nil] at ih
          simp (disch := omega) only [go_sem, doCall, doCallQ, Nat.reduceAdd, Nat.reduceMul, Nat.reduceSub, Nat.reduceDiv, Nat.reduceMod, Nat.reduceLT, Nat.reduceLeDiff, Nat.reduceEqDiff, Nat.reduceBEq, Nat.reduceBNe, Int.reduceToNat, Int.reduceLT, Int.reduceLE, Int.reduceEq, Int.reduceNe, Int.reduceAdd, Int.reduceSub, Int.reduceMul, Int.reduceNeg, u35_0, lb35_0, hlt, hr, hlm, hAm, eq_true c1, eq_false c2, t0, Nat.le_refl, List.drop_zero, Int.toNat_natCast, Nat.zero_add, chk_of]
          rw [loop_step1]
          simp only [go_sem, doCall, doCallQ, Nat.reduceAdd, Nat.reduceMul, Nat.reduceSub, Nat.reduceDiv, Nat.reduceMod, Nat.reduceLT, Nat.reduceLeDiff, Nat.reduceEqDiff, Nat.reduceBEq, Nat.reduceBNe, Int.reduceToNat, Int.reduceLT, Int.reduceLE, Int.reduceEq, Int.reduceNe, Int.reduceAdd, Int.reduceSub, Int.reduceMul, Int.reduceNeg, hw]
          exact ih
    · have c2 : ¬ L[j].1 = i := by omega
      have e : stp i (a1, a2) (A, dn) L[j] = (A ++ [L[j]], dn) := by
        simp only [stp, c2, c1, false_and, if_false, ne_eq, not_false_eq_true, if_true]
      rw [e]
      have ih := lp_rp Z o i a1 a2 L hL K (j + 1) (by omega) (A ++ [L[j]]) dn (by simp; omega)
      rw [pmR_app, pmR_one] at ih
      simp only [List.length_append, List.length_cons, List.length_nil] at ih
      simp (disch := omega) only [go_sem, doCall, doCallQ, Nat.reduceAdd, Nat.reduceMul, Nat.reduceSub, Nat.reduceDiv, Nat.reduceMod, Nat.reduceLT, Nat.reduceLeDiff, Nat.reduceEqDiff, Nat.reduceBEq, Nat.reduceBNe, Int.reduceToNat, Int.reduceLT, Int.reduceLE, Int.reduceEq, Int.reduceNe, Int.reduceAdd, Int.reduceSub, Int.reduceMul, Int.reduceNeg, u35_0, lb35_0, hlt, hr, hlm, hAm, eq_false c1, eq_false c2, t0, Nat.le_refl, List.drop_zero, Int.toNat_natCast, Nat.zero_add, chk_of]
      rw [loop_step1]
      simp only [go_sem, doCall, doCallQ, Nat.reduceAdd, Nat.reduceMul, Nat.reduceSub, Nat.reduceDiv, Nat.reduceMod, Nat.reduceLT, Nat.reduceLeDiff, Nat.reduceEqDiff, Nat.reduceBEq, Nat.reduceBNe, Int.reduceToNat, Int.reduceLT, Int.reduceLE, Int.reduceEq, Int.reduceNe, Int.reduceAdd, Int.reduceSub, Int.reduceMul, Int.reduceNeg, hw]
      exact ih
termination_by L.length - j
end Go.Proofs.Ytoipfdbdifoecaa
