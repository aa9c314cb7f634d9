/- The document's index: one slot, sixteen slots. Own work. The document's index: drops, slices. Own work. The document's index: a slice. Own work. -/
import Derived.Test.YtoipfdbdifoecaaGreatDoorIdx2
namespace Go.Proofs.YtoipfdbdifoecaaGreatDoor
open Go Go.Ev Go.Proofs.YtoipfdbdifoecaaGreatDoor.Ir
set_option maxRecDepth 100000
set_option maxHeartbeats 4000000
set_option linter.unusedSimpArgs false
set_option linter.unusedVariables false
def pmK : PM → List (Int × Int × Int)
  | none => []
  | some l => l
def pmR (l : List (Int × Int × Int)) : List (List D) := l.map fun p => [.int .i64 p.1, .int .i64 p.2.1, .int .i64 p.2.2]
theorem pmR_len (l : List (Int × Int × Int)) : (pmR l).length = l.length := List.length_map ..
def Sl.rs (s : Sl) : List D := [.bool s.b, .int .i64 s.o, .int .i64 s.g, .str s.tag, .int .i64 s.len, .int .i64 s.tick, .int .i64 s.a1, .int .i64 s.a2, .list 3 (pmR (pmK s.pm)), .int .i64 s.fl, .int .i64 s.t1, .int .i64 s.t2]
def idxR (x : Nat → Sl) : List D := (x 0).rs ++ ((x 1).rs ++ ((x 2).rs ++ ((x 3).rs ++ ((x 4).rs ++ ((x 5).rs ++ ((x 6).rs ++ ((x 7).rs ++ ((x 8).rs ++ ((x 9).rs ++ ((x 10).rs ++ ((x 11).rs ++ ((x 12).rs ++ ((x 13).rs ++ ((x 14).rs ++ (x 15).rs))))))))))))))
theorem idxR_len (x : Nat → Sl) : (idxR x).length = 192 := rfl
theorem rs_len (s : Sl) : s.rs.length = 12 := rfl
theorem get_idr (x : Nat → Sl) : ∀ k, k < 16 → ((idxR x).drop (k * 12)).take 12 = (x k).rs
  | 0, _ => rfl | 1, _ => rfl | 2, _ => rfl | 3, _ => rfl | 4, _ => rfl | 5, _ => rfl | 6, _ => rfl | 7, _ => rfl
  | 8, _ => rfl | 9, _ => rfl | 10, _ => rfl | 11, _ => rfl | 12, _ => rfl | 13, _ => rfl | 14, _ => rfl | 15, _ => rfl
  | k + 16, h => by omega
theorem put_idr (x : Nat → Sl) (s : Sl) : ∀ k, k < 16 → (idxR x).take (k * 12) ++ s.rs ++ (idxR x).drop (k * 12 + 12) = idxR (xs x k s)
  | 0, _ => rfl | 1, _ => rfl | 2, _ => rfl | 3, _ => rfl | 4, _ => rfl | 5, _ => rfl | 6, _ => rfl | 7, _ => rfl
  | 8, _ => rfl | 9, _ => rfl | 10, _ => rfl | 11, _ => rfl | 12, _ => rfl | 13, _ => rfl | 14, _ => rfl | 15, _ => rfl
  | k + 16, h => by omega
theorem put_tick (x : Nat → Sl) (t : Int) : ∀ k, k < 16 → (idxR x).take (k * 12 + 1 + 4) ++ [D.int .i64 t] ++ (idxR x).drop (k * 12 + 1 + 4 + 1) = idxR (xs x k { x k with tick := t })
  | 0, _ => rfl | 1, _ => rfl | 2, _ => rfl | 3, _ => rfl | 4, _ => rfl | 5, _ => rfl | 6, _ => rfl | 7, _ => rfl
  | 8, _ => rfl | 9, _ => rfl | 10, _ => rfl | 11, _ => rfl | 12, _ => rfl | 13, _ => rfl | 14, _ => rfl | 15, _ => rfl
  | k + 16, h => by omega
theorem put_at (x : Nat → Sl) (a1 a2 : Int) : ∀ k, k < 16 → (idxR x).take (k * 12 + 6) ++ [D.int .i64 a1, D.int .i64 a2] ++ (idxR x).drop (k * 12 + 6 + 2) = idxR (xs x k { x k with a1 := a1, a2 := a2 })
  | 0, _ => rfl | 1, _ => rfl | 2, _ => rfl | 3, _ => rfl | 4, _ => rfl | 5, _ => rfl | 6, _ => rfl | 7, _ => rfl
  | 8, _ => rfl | 9, _ => rfl | 10, _ => rfl | 11, _ => rfl | 12, _ => rfl | 13, _ => rfl | 14, _ => rfl | 15, _ => rfl
  | k + 16, h => by omega
theorem put_sl (x : Nat → Sl) (l : List (Int × Int × Int)) : ∀ k, k < 16 → (idxR x).take (k * 12 + 8) ++ [D.list 3 (pmR l)] ++ (idxR x).drop (k * 12 + 8 + 1) = idxR (xs x k { x k with pm := some l })
  | 0, _ => rfl | 1, _ => rfl | 2, _ => rfl | 3, _ => rfl | 4, _ => rfl | 5, _ => rfl | 6, _ => rfl | 7, _ => rfl
  | 8, _ => rfl | 9, _ => rfl | 10, _ => rfl | 11, _ => rfl | 12, _ => rfl | 13, _ => rfl | 14, _ => rfl | 15, _ => rfl
  | k + 16, h => by omega
theorem one_b (x : Nat → Sl) : ∀ k, k < 16 → ((idxR x).drop (k * 12)).take 1 = [.bool (x k).b]
  | 0, _ => rfl | 1, _ => rfl | 2, _ => rfl | 3, _ => rfl | 4, _ => rfl | 5, _ => rfl | 6, _ => rfl | 7, _ => rfl
  | 8, _ => rfl | 9, _ => rfl | 10, _ => rfl | 11, _ => rfl | 12, _ => rfl | 13, _ => rfl | 14, _ => rfl | 15, _ => rfl
  | k + 16, h => by omega
theorem at_b (x : Nat → Sl) : ∀ k, k < 16 → (idxR x).getD (k * 12) .nilp = .bool (x k).b
  | 0, _ => rfl | 1, _ => rfl | 2, _ => rfl | 3, _ => rfl | 4, _ => rfl | 5, _ => rfl | 6, _ => rfl | 7, _ => rfl
  | 8, _ => rfl | 9, _ => rfl | 10, _ => rfl | 11, _ => rfl | 12, _ => rfl | 13, _ => rfl | 14, _ => rfl | 15, _ => rfl
  | k + 16, h => by omega
theorem at_g (x : Nat → Sl) : ∀ k, k < 16 → (idxR x).getD (k * 12 + 1 + 1) .nilp = .int .i64 (x k).g
  | 0, _ => rfl | 1, _ => rfl | 2, _ => rfl | 3, _ => rfl | 4, _ => rfl | 5, _ => rfl | 6, _ => rfl | 7, _ => rfl
  | 8, _ => rfl | 9, _ => rfl | 10, _ => rfl | 11, _ => rfl | 12, _ => rfl | 13, _ => rfl | 14, _ => rfl | 15, _ => rfl
  | k + 16, h => by omega
theorem at_sl (x : Nat → Sl) : ∀ k, k < 16 → (idxR x).getD (k * 12 + 8) .nilp = .list 3 (pmR (pmK (x k).pm))
  | 0, _ => rfl | 1, _ => rfl | 2, _ => rfl | 3, _ => rfl | 4, _ => rfl | 5, _ => rfl | 6, _ => rfl | 7, _ => rfl
  | 8, _ => rfl | 9, _ => rfl | 10, _ => rfl | 11, _ => rfl | 12, _ => rfl | 13, _ => rfl | 14, _ => rfl | 15, _ => rfl
  | k + 16, h => by omega
theorem xs_xs (x : Nat → Sl) (k : Nat) (s t : Sl) : xs (xs x k s) k t = xs x k t := by funext j; unfold xs; split <;> rfl
theorem xs_at (x : Nat → Sl) (k : Nat) (s : Sl) : xs x k s k = s := by simp [xs]
theorem xs_id (x : Nat → Sl) (k : Nat) : xs x k (x k) = x := by funext j; unfold xs; split <;> simp_all
theorem pl_rs (s : Sl) : boxOf.plainD (s.rs.map AV.d) = some s.rs := plainD_map _
theorem r_bound (x : Nat → Sl) (k : Nat) (hk : k < 16) (g : Int) (tag : List UInt8) (len tick a1 a2 : Int) : call ir 42 [.ptr 0 0, .agg [.d (.int .i64 k), .d (.int .i64 g), .d (.str tag), .d (.int .i64 len), .d (.int .i64 tick)], .agg [.d (.int .i64 a1), .d (.int .i64 a2)]] [.dbox (idxR x)] =
    some (.tup [], [.dbox (idxR (xs x k (bound (x k) k g tag len tick a1 a2)))]) := by
  have h0 := eq_true (show (0 : Int) ≤ k by omega); have h1 := eq_true (show (k : Int) < 16 by omega); have n0 := eq_false (show ¬ (k : Int) < 0 by omega); have n1 := eq_false (show ¬ (15 : Int) < k by omega); have hg := get_idr x k hk
  rw [call_eq (fn := ir42) rfl, evF_bnd]
  by_cases c1 : g ≤ (x k).fl
  · have e : bound (x k) k g tag len tick a1 a2 = x k := if_pos c1
    rw [e, xs_id]
    simp (maxSteps := 2000000) (disch := omega) only [go_sem, doCall, doCallQ, Nat.reduceAdd, Nat.reduceMul, Nat.reduceSub, Nat.reduceDiv, Nat.reduceMod, Nat.reduceLT, Nat.reduceLeDiff, Nat.reduceEqDiff, Nat.reduceBEq, Nat.reduceBNe, Int.reduceToNat, Int.reduceLT, Int.reduceLE, Int.reduceEq, Int.reduceNe, Int.reduceAdd, Int.reduceSub, Int.reduceMul, Int.reduceNeg, bd42, h0, h1, n0, n1, hg, Sl.rs, eq_true c1, idxR_len, rs_len, Int.toNat_natCast, Nat.zero_add, chk_of]
  · cases c2 : (x k).b
    · have e : bound (x k) k g tag len tick a1 a2 = ⟨true, k, g, tag, len, tick, a1, a2, none, (x k).fl, (x k).t1, (x k).t2⟩ := by unfold bound; rw [if_neg c1, if_pos (.inl c2)]
      rw [e, ← put_idr x _ k hk]
      simp (maxSteps := 2000000) (disch := omega) only [go_sem, doCall, doCallQ, Nat.reduceAdd, Nat.reduceMul, Nat.reduceSub, Nat.reduceDiv, Nat.reduceMod, Nat.reduceLT, Nat.reduceLeDiff, Nat.reduceEqDiff, Nat.reduceBEq, Nat.reduceBNe, Int.reduceToNat, Int.reduceLT, Int.reduceLE, Int.reduceEq, Int.reduceNe, Int.reduceAdd, Int.reduceSub, Int.reduceMul, Int.reduceNeg, bd42, h0, h1, n0, n1, hg, Sl.rs, eq_false c1, c2, pmK, pmR, idxR_len, rs_len, Int.toNat_natCast, Nat.zero_add, chk_of]
    · by_cases c3 : (x k).g < g
      · have e : bound (x k) k g tag len tick a1 a2 = ⟨true, k, g, tag, len, tick, a1, a2, none, (x k).fl, (x k).t1, (x k).t2⟩ := by unfold bound; rw [if_neg c1, if_pos (.inr c3)]
        rw [e, ← put_idr x _ k hk]
        simp (maxSteps := 2000000) (disch := omega) only [go_sem, doCall, doCallQ, Nat.reduceAdd, Nat.reduceMul, Nat.reduceSub, Nat.reduceDiv, Nat.reduceMod, Nat.reduceLT, Nat.reduceLeDiff, Nat.reduceEqDiff, Nat.reduceBEq, Nat.reduceBNe, Int.reduceToNat, Int.reduceLT, Int.reduceLE, Int.reduceEq, Int.reduceNe, Int.reduceAdd, Int.reduceSub, Int.reduceMul, Int.reduceNeg, bd42, h0, h1, n0, n1, hg, Sl.rs, eq_false c1, c2, eq_true c3, pmK, pmR, idxR_len, rs_len, Int.toNat_natCast, Nat.zero_add, chk_of]
      · by_cases c4 : g = (x k).g
        · by_cases c5 : tag = (x k).tag
          · by_cases c6 : len = (x k).len
            · by_cases c7 : (x k).tick ≤ tick
              · have e : bound (x k) k g tag len tick a1 a2 = { x k with tick := tick, a1 := a1, a2 := a2 } := by unfold bound; rw [if_neg c1, if_neg (by rw [c2]; simp; omega), if_pos ⟨c4.symm, c5.symm, c6.symm, c7⟩]
                have p1 := put_tick x tick k hk
                have p2 := put_at (xs x k { x k with tick := tick }) a1 a2 k hk
                rw [xs_xs, xs_at] at p2
                rw [e, ← p2, ← p1]
                simp (maxSteps := 2000000) (disch := omega) only [go_sem, doCall, doCallQ, Nat.reduceAdd, Nat.reduceMul, Nat.reduceSub, Nat.reduceDiv, Nat.reduceMod, Nat.reduceLT, Nat.reduceLeDiff, Nat.reduceEqDiff, Nat.reduceBEq, Nat.reduceBNe, Int.reduceToNat, Int.reduceLT, Int.reduceLE, Int.reduceEq, Int.reduceNe, Int.reduceAdd, Int.reduceSub, Int.reduceMul, Int.reduceNeg, bd42, h0, h1, n0, n1, hg, Sl.rs, eq_false c1, c2, eq_false c3, eq_true c4, eq_true c5, eq_true c6, eq_true c7, p1, idxR_len, rs_len, Int.toNat_natCast, Nat.zero_add, chk_of]
              · have e : bound (x k) k g tag len tick a1 a2 = x k := by unfold bound; rw [if_neg c1, if_neg (by rw [c2]; simp; omega), if_neg (fun h => c7 h.2.2.2)]
                rw [e, xs_id]
                simp (maxSteps := 2000000) (disch := omega) only [go_sem, doCall, doCallQ, Nat.reduceAdd, Nat.reduceMul, Nat.reduceSub, Nat.reduceDiv, Nat.reduceMod, Nat.reduceLT, Nat.reduceLeDiff, Nat.reduceEqDiff, Nat.reduceBEq, Nat.reduceBNe, Int.reduceToNat, Int.reduceLT, Int.reduceLE, Int.reduceEq, Int.reduceNe, Int.reduceAdd, Int.reduceSub, Int.reduceMul, Int.reduceNeg, bd42, h0, h1, n0, n1, hg, Sl.rs, eq_false c1, c2, eq_false c3, eq_true c4, eq_true c5, eq_true c6, eq_false c7, idxR_len, rs_len, Int.toNat_natCast, Nat.zero_add, chk_of]
            · have e : bound (x k) k g tag len tick a1 a2 = x k := by unfold bound; rw [if_neg c1, if_neg (by rw [c2]; simp; omega), if_neg (fun h => c6 h.2.2.1.symm)]
              rw [e, xs_id]
              simp (maxSteps := 2000000) (disch := omega) only [go_sem, doCall, doCallQ, Nat.reduceAdd, Nat.reduceMul, Nat.reduceSub, Nat.reduceDiv, Nat.reduceMod, Nat.reduceLT, Nat.reduceLeDiff, Nat.reduceEqDiff, Nat.reduceBEq, Nat.reduceBNe, Int.reduceToNat, Int.reduceLT, Int.reduceLE, Int.reduceEq, Int.reduceNe, Int.reduceAdd, Int.reduceSub, Int.reduceMul, Int.reduceNeg, bd42, h0, h1, n0, n1, hg, Sl.rs, eq_false c1, c2, eq_false c3, eq_true c4, eq_true c5, eq_false c6, idxR_len, rs_len, Int.toNat_natCast, Nat.zero_add, chk_of]
          · have e : bound (x k) k g tag len tick a1 a2 = x k := by unfold bound; rw [if_neg c1, if_neg (by rw [c2]; simp; omega), if_neg (fun h => c5 h.2.1.symm)]
            rw [e, xs_id]
            simp (maxSteps := 2000000) (disch := omega) only [go_sem, doCall, doCallQ, Nat.reduceAdd, Nat.reduceMul, Nat.reduceSub, Nat.reduceDiv, Nat.reduceMod, Nat.reduceLT, Nat.reduceLeDiff, Nat.reduceEqDiff, Nat.reduceBEq, Nat.reduceBNe, Int.reduceToNat, Int.reduceLT, Int.reduceLE, Int.reduceEq, Int.reduceNe, Int.reduceAdd, Int.reduceSub, Int.reduceMul, Int.reduceNeg, bd42, h0, h1, n0, n1, hg, Sl.rs, eq_false c1, c2, eq_false c3, eq_true c4, eq_false c5, idxR_len, rs_len, Int.toNat_natCast, Nat.zero_add, chk_of]
        · have e : bound (x k) k g tag len tick a1 a2 = x k := by unfold bound; rw [if_neg c1, if_neg (by rw [c2]; simp; omega), if_neg (fun h => c4 h.1.symm)]
          rw [e, xs_id]
          simp (maxSteps := 2000000) (disch := omega) only [go_sem, doCall, doCallQ, Nat.reduceAdd, Nat.reduceMul, Nat.reduceSub, Nat.reduceDiv, Nat.reduceMod, Nat.reduceLT, Nat.reduceLeDiff, Nat.reduceEqDiff, Nat.reduceBEq, Nat.reduceBNe, Int.reduceToNat, Int.reduceLT, Int.reduceLE, Int.reduceEq, Int.reduceNe, Int.reduceAdd, Int.reduceSub, Int.reduceMul, Int.reduceNeg, bd42, h0, h1, n0, n1, hg, Sl.rs, eq_false c1, c2, eq_false c3, eq_false c4, idxR_len, rs_len, Int.toNat_natCast, Nat.zero_add, chk_of]
end Go.Proofs.YtoipfdbdifoecaaGreatDoor
namespace Go.Proofs.YtoipfdbdifoecaaGreatDoor
open Go Go.Ev Go.Proofs.YtoipfdbdifoecaaGreatDoor.Ir
set_option maxRecDepth 100000
set_option maxHeartbeats 4000000
set_option linter.unusedSimpArgs false
set_option linter.unusedVariables false
theorem r_forget (x : Nat → Sl) (k : Nat) (hk : k < 16) (gen a1 a2 : Int) : call ir 44 [.ptr 0 0, .d (.int .i64 k), .d (.int .i64 gen), .agg [.d (.int .i64 a1), .d (.int .i64 a2)]] [.dbox (idxR x)] =
    some (.tup [], [.dbox (idxR (xs x k (forg (x k) gen a1 a2)))]) := by
  have h0 := eq_true (show (0 : Int) ≤ k by omega); have h1 := eq_true (show (k : Int) < 16 by omega); have n0 := eq_false (show ¬ (k : Int) < 0 by omega); have n1 := eq_false (show ¬ (15 : Int) < k by omega); have hg := get_idr x k hk
  rw [call_eq (fn := ir44) rfl, evF_bnd]
  have hp := fun s => put_idr x s k hk
  by_cases c1 : gen > 0
  · by_cases c2 : gen ≥ (x k).fl
    · have e1 : forg1 (x k) gen a1 a2 = { x k with fl := gen, t1 := a1, t2 := a2 } := if_pos ⟨c2, c1⟩
      cases c3 : (x k).b
      · have e2 : forg (x k) gen a1 a2 = { x k with fl := gen, t1 := a1, t2 := a2 } := by unfold forg forg2; rw [e1]; exact if_neg (by simp [c3])
        rw [e2, ← hp]
        simp (maxSteps := 2000000) (disch := omega) only [go_sem, doCall, doCallQ, Nat.reduceAdd, Nat.reduceMul, Nat.reduceSub, Nat.reduceDiv, Nat.reduceMod, Nat.reduceLT, Nat.reduceLeDiff, Nat.reduceEqDiff, Nat.reduceBEq, Nat.reduceBNe, Int.reduceToNat, Int.reduceLT, Int.reduceLE, Int.reduceEq, Int.reduceNe, Int.reduceAdd, Int.reduceSub, Int.reduceMul, Int.reduceNeg, bd44, h0, h1, n0, n1, hg, Sl.rs, eq_true c1, eq_true c2, c3, idxR_len, rs_len, Int.toNat_natCast, Nat.zero_add, chk_of]
      · by_cases c4 : (x k).g ≤ gen
        · have e2 : forg (x k) gen a1 a2 = ⟨false, 0, 0, [], 0, 0, 0, 0, none, gen, a1, a2⟩ := by unfold forg forg2; rw [e1]; exact if_pos ⟨c3, c4⟩
          rw [e2, ← hp]
          simp (maxSteps := 2000000) (disch := omega) only [go_sem, doCall, doCallQ, Nat.reduceAdd, Nat.reduceMul, Nat.reduceSub, Nat.reduceDiv, Nat.reduceMod, Nat.reduceLT, Nat.reduceLeDiff, Nat.reduceEqDiff, Nat.reduceBEq, Nat.reduceBNe, Int.reduceToNat, Int.reduceLT, Int.reduceLE, Int.reduceEq, Int.reduceNe, Int.reduceAdd, Int.reduceSub, Int.reduceMul, Int.reduceNeg, bd44, h0, h1, n0, n1, hg, Sl.rs, eq_true c1, eq_true c2, c3, eq_true c4, pmK, pmR, idxR_len, rs_len, Int.toNat_natCast, Nat.zero_add, chk_of]
        · have e2 : forg (x k) gen a1 a2 = { x k with fl := gen, t1 := a1, t2 := a2 } := by unfold forg forg2; rw [e1]; exact if_neg (fun h => c4 h.2)
          rw [e2, ← hp]
          simp (maxSteps := 2000000) (disch := omega) only [go_sem, doCall, doCallQ, Nat.reduceAdd, Nat.reduceMul, Nat.reduceSub, Nat.reduceDiv, Nat.reduceMod, Nat.reduceLT, Nat.reduceLeDiff, Nat.reduceEqDiff, Nat.reduceBEq, Nat.reduceBNe, Int.reduceToNat, Int.reduceLT, Int.reduceLE, Int.reduceEq, Int.reduceNe, Int.reduceAdd, Int.reduceSub, Int.reduceMul, Int.reduceNeg, bd44, h0, h1, n0, n1, hg, Sl.rs, eq_true c1, eq_true c2, c3, eq_false c4, idxR_len, rs_len, Int.toNat_natCast, Nat.zero_add, chk_of]
    · have e1 : forg1 (x k) gen a1 a2 = x k := if_neg (fun h => c2 h.1)
      cases c3 : (x k).b
      · have e2 : forg (x k) gen a1 a2 = x k := by unfold forg forg2; rw [e1]; exact if_neg (by simp [c3])
        rw [e2, ← hp]
        simp (maxSteps := 2000000) (disch := omega) only [go_sem, doCall, doCallQ, Nat.reduceAdd, Nat.reduceMul, Nat.reduceSub, Nat.reduceDiv, Nat.reduceMod, Nat.reduceLT, Nat.reduceLeDiff, Nat.reduceEqDiff, Nat.reduceBEq, Nat.reduceBNe, Int.reduceToNat, Int.reduceLT, Int.reduceLE, Int.reduceEq, Int.reduceNe, Int.reduceAdd, Int.reduceSub, Int.reduceMul, Int.reduceNeg, bd44, h0, h1, n0, n1, hg, Sl.rs, eq_true c1, eq_false c2, c3, idxR_len, rs_len, Int.toNat_natCast, Nat.zero_add, chk_of]
      · by_cases c4 : (x k).g ≤ gen
        · have e2 : forg (x k) gen a1 a2 = ⟨false, 0, 0, [], 0, 0, 0, 0, none, (x k).fl, (x k).t1, (x k).t2⟩ := by unfold forg forg2; rw [e1]; exact if_pos ⟨c3, c4⟩
          rw [e2, ← hp]
          simp (maxSteps := 2000000) (disch := omega) only [go_sem, doCall, doCallQ, Nat.reduceAdd, Nat.reduceMul, Nat.reduceSub, Nat.reduceDiv, Nat.reduceMod, Nat.reduceLT, Nat.reduceLeDiff, Nat.reduceEqDiff, Nat.reduceBEq, Nat.reduceBNe, Int.reduceToNat, Int.reduceLT, Int.reduceLE, Int.reduceEq, Int.reduceNe, Int.reduceAdd, Int.reduceSub, Int.reduceMul, Int.reduceNeg, bd44, h0, h1, n0, n1, hg, Sl.rs, eq_true c1, eq_false c2, c3, eq_true c4, pmK, pmR, idxR_len, rs_len, Int.toNat_natCast, Nat.zero_add, chk_of]
        · have e2 : forg (x k) gen a1 a2 = x k := by unfold forg forg2; rw [e1]; exact if_neg (fun h => c4 h.2)
          rw [e2, ← hp]
          simp (maxSteps := 2000000) (disch := omega) only [go_sem, doCall, doCallQ, Nat.reduceAdd, Nat.reduceMul, Nat.reduceSub, Nat.reduceDiv, Nat.reduceMod, Nat.reduceLT, Nat.reduceLeDiff, Nat.reduceEqDiff, Nat.reduceBEq, Nat.reduceBNe, Int.reduceToNat, Int.reduceLT, Int.reduceLE, Int.reduceEq, Int.reduceNe, Int.reduceAdd, Int.reduceSub, Int.reduceMul, Int.reduceNeg, bd44, h0, h1, n0, n1, hg, Sl.rs, eq_true c1, eq_false c2, c3, eq_false c4, idxR_len, rs_len, Int.toNat_natCast, Nat.zero_add, chk_of]
  · have e1 : forg1 (x k) gen a1 a2 = x k := if_neg (fun h => c1 h.2)
    cases c3 : (x k).b
    · have e2 : forg (x k) gen a1 a2 = x k := by unfold forg forg2; rw [e1]; exact if_neg (by simp [c3])
      rw [e2, ← hp]
      simp (maxSteps := 2000000) (disch := omega) only [go_sem, doCall, doCallQ, Nat.reduceAdd, Nat.reduceMul, Nat.reduceSub, Nat.reduceDiv, Nat.reduceMod, Nat.reduceLT, Nat.reduceLeDiff, Nat.reduceEqDiff, Nat.reduceBEq, Nat.reduceBNe, Int.reduceToNat, Int.reduceLT, Int.reduceLE, Int.reduceEq, Int.reduceNe, Int.reduceAdd, Int.reduceSub, Int.reduceMul, Int.reduceNeg, bd44, h0, h1, n0, n1, hg, Sl.rs, eq_false c1, c3, idxR_len, rs_len, Int.toNat_natCast, Nat.zero_add, chk_of]
    · by_cases c4 : (x k).g ≤ gen
      · have e2 : forg (x k) gen a1 a2 = ⟨false, 0, 0, [], 0, 0, 0, 0, none, (x k).fl, (x k).t1, (x k).t2⟩ := by unfold forg forg2; rw [e1]; exact if_pos ⟨c3, c4⟩
        rw [e2, ← hp]
        simp (maxSteps := 2000000) (disch := omega) only [go_sem, doCall, doCallQ, Nat.reduceAdd, Nat.reduceMul, Nat.reduceSub, Nat.reduceDiv, Nat.reduceMod, Nat.reduceLT, Nat.reduceLeDiff, Nat.reduceEqDiff, Nat.reduceBEq, Nat.reduceBNe, Int.reduceToNat, Int.reduceLT, Int.reduceLE, Int.reduceEq, Int.reduceNe, Int.reduceAdd, Int.reduceSub, Int.reduceMul, Int.reduceNeg, bd44, h0, h1, n0, n1, hg, Sl.rs, eq_false c1, c3, eq_true c4, pmK, pmR, idxR_len, rs_len, Int.toNat_natCast, Nat.zero_add, chk_of]
      · have e2 : forg (x k) gen a1 a2 = x k := by unfold forg forg2; rw [e1]; exact if_neg (fun h => c4 h.2)
        rw [e2, ← hp]
        simp (maxSteps := 2000000) (disch := omega) only [go_sem, doCall, doCallQ, Nat.reduceAdd, Nat.reduceMul, Nat.reduceSub, Nat.reduceDiv, Nat.reduceMod, Nat.reduceLT, Nat.reduceLeDiff, Nat.reduceEqDiff, Nat.reduceBEq, Nat.reduceBNe, Int.reduceToNat, Int.reduceLT, Int.reduceLE, Int.reduceEq, Int.reduceNe, Int.reduceAdd, Int.reduceSub, Int.reduceMul, Int.reduceNeg, bd44, h0, h1, n0, n1, hg, Sl.rs, eq_false c1, c3, eq_false c4, idxR_len, rs_len, Int.toNat_natCast, Nat.zero_add, chk_of]

/-! ### a slice: the list stays sorted -/
def stp (i : Int) (v : Int × Int) (s : List (Int × Int × Int) × Bool) (p : Int × Int × Int) : List (Int × Int × Int) × Bool :=
  let r := if p.1 ≥ i ∧ s.2 = false then (s.1 ++ [(i, v)], true) else s
  (if p.1 ≠ i then r.1 ++ [p] else r.1, r.2)
theorem stp_done (i : Int) (v : Int × Int) : ∀ (l out : List (Int × Int × Int)), (∀ p ∈ l, p.1 ≠ i) → l.foldl (stp i v) (out, true) = (out ++ l, true)
  | [], out, _ => by simp
  | p :: l, out, h => by
    have hp := h p (.head _)
    rw [List.foldl_cons]
    have e : stp i v (out, true) p = (out ++ [p], true) := by simp [stp, hp]
    rw [e, stp_done i v l _ (fun q hq => h q (.tail _ hq))]
    simp
theorem stp_put (i : Int) (v : Int × Int) : ∀ (l out : List (Int × Int × Int)), SrtM l → (l.foldl (stp i v) (out, false)).2 = true ∧ (l.foldl (stp i v) (out, false)).1 = out ++ putM i v l ∨
    (l.foldl (stp i v) (out, false)).2 = false ∧ (l.foldl (stp i v) (out, false)).1 ++ [(i, v)] = out ++ putM i v l
  | [], out, _ => .inr ⟨rfl, rfl⟩
  | (a, d) :: l, out, hs => by
    have hs' := List.pairwise_cons.1 hs
    rw [List.foldl_cons, putM]
    by_cases h1 : i < a
    · have hne : a ≠ i := by omega
      have hge : a ≥ i := by omega
      have e : stp i v (out, false) (a, d) = (out ++ [(i, v)] ++ [(a, d)], true) := by simp only [stp, hge, and_self, if_true, hne, ne_eq, not_false_eq_true]
      rw [e, stp_done i v l _ (fun q hq => by have := hs'.1 q hq; simp only at this; omega), if_pos h1]
      left; simp
    · rw [if_neg h1]
      by_cases h2 : i = a
      · subst h2
        have e : stp i v (out, false) (i, d) = (out ++ [(i, v)], true) := by simp [stp]
        rw [e, stp_done i v l _ (fun q hq => by have := hs'.1 q hq; simp only at this; omega), if_pos rfl]
        left; simp
      · rw [if_neg h2]
        have hne : a ≠ i := fun e => h2 e.symm
        have hlt : ¬ a ≥ i := by omega
        have e : stp i v (out, false) (a, d) = (out ++ [(a, d)], false) := by simp only [stp, hlt, false_and, if_false, hne, ne_eq, not_false_eq_true, if_true]
        rw [e]
        rcases stp_put i v l (out ++ [(a, d)]) hs'.2 with ⟨q1, q2⟩ | ⟨q1, q2⟩
        · left; exact ⟨q1, by rw [q2]; simp⟩
        · right; exact ⟨q1, by rw [q2]; simp⟩
theorem pmR_get (l : List (Int × Int × Int)) {j : Nat} (h : j < l.length) : (pmR l).getD j [] = [.int .i64 l[j].1, .int .i64 l[j].2.1, .int .i64 l[j].2.2] := by simp [pmR, List.getD_eq_getElem?_getD, h]
theorem pmR_app (a b : List (Int × Int × Int)) : pmR (a ++ b) = pmR a ++ pmR b := by simp [pmR]
theorem pmR_one (p : Int × Int × Int) : pmR [p] = [[.int .i64 p.1, .int .i64 p.2.1, .int .i64 p.2.2]] := rfl
theorem lp_rp (Z : List D) (o i a1 a2 : Int) (L : List (Int × Int × Int)) (hL : L.length ≤ 100000) (K : Ex → St → Option (AV × Heap)) (j : Nat) (hj : j ≤ L.length) (A : List (Int × Int × Int)) (dn : Bool) (hA : A.length ≤ 2 * j) :
    bnd (evC (call ir) (loop ir) lp43_0 (st43_0 1 (.ptr 0 0) (.d (.int .i64 o)) (.d (.int .i64 i)) (.ptr 1 0) (.own 2 3 0 A.length false) (.d (.bool dn)) (.d (.list 3 (pmR L))) (.d (.int .i64 L.length)) (.d (.int .i64 j)) [.dbox Z, .dbox [.int .i64 a1, .int .i64 a2], .arr 3 (pmR A)]))
      (lpC (call ir) (loop ir) [0, 1, 3, 9, 10, 11, 56, 57, 58] lp43_0 K) =
    K (.exit 0) (clean [0, 1, 3, 9, 10, 11] (st43_0 1 (.ptr 0 0) (.d (.int .i64 o)) (.d (.int .i64 i)) (.ptr 1 0) (.own 2 3 0 ((L.drop j).foldl (stp i (a1, a2)) (A, dn)).1.length false) (.d (.bool ((L.drop j).foldl (stp i (a1, a2)) (A, dn)).2)) .unk .unk .unk [.dbox Z, .dbox [.int .i64 a1, .int .i64 a2], .arr 3 (pmR ((L.drop j).foldl (stp i (a1, a2)) (A, dn)).1)])) := by
  have hlm := pmR_len L
  have hAm := pmR_len A
  by_cases h : j = L.length
  · have hx : ¬ (j : Int) < L.length := by omega
    subst h
    simp (maxSteps := 2000000) (disch := omega) only [go_sem, doCall, doCallQ, Nat.reduceAdd, Nat.reduceMul, Nat.reduceSub, Nat.reduceDiv, Nat.reduceMod, Nat.reduceLT, Nat.reduceLeDiff, Nat.reduceEqDiff, Nat.reduceBEq, Nat.reduceBNe, Int.reduceToNat, Int.reduceLT, Int.reduceLE, Int.reduceEq, Int.reduceNe, Int.reduceAdd, Int.reduceSub, Int.reduceMul, Int.reduceNeg, u43_0, lb43_0, hx, List.drop_length, List.foldl_nil]
  · have hlt : (j : Int) < L.length := by omega
    have hj' : j < L.length := by omega
    have hw := wr_succ (i := j) (by omega)
    have hr := pmR_get L hj'
    have hdl : L.drop j = L[j] :: L.drop (j + 1) := List.drop_eq_getElem_cons hj'
    rw [hdl, List.foldl_cons]
    have t1 : List.take (A.length + 1) (pmR A ++ [[D.int .i64 i, .int .i64 a1, .int .i64 a2]]) = pmR A ++ [[D.int .i64 i, .int .i64 a1, .int .i64 a2]] := List.take_of_length_le (by simp [hAm])
    have t1l : (pmR A ++ [[D.int .i64 i, .int .i64 a1, .int .i64 a2]]).length = A.length + 1 := by simp [hAm]
    have t0 : List.take A.length (pmR A) = pmR A := List.take_of_length_le (by simp [hAm])
    by_cases c1 : L[j].1 ≥ i
    · cases dn
      · by_cases c2 : L[j].1 = i
        · have e : stp i (a1, a2) (A, false) L[j] = (A ++ [(i, a1, a2)], true) := by simp [stp, c2]
          rw [e]
          have ih := lp_rp Z o i a1 a2 L hL K (j + 1) (by omega) (A ++ [(i, a1, a2)]) true (by simp; omega)
          rw [pmR_app, pmR_one] at ih
          simp only [List.length_append, List.length_cons, List.length_nil] at ih
          simp (maxSteps := 2000000) (disch := omega) only [go_sem, doCall, doCallQ, Nat.reduceAdd, Nat.reduceMul, Nat.reduceSub, Nat.reduceDiv, Nat.reduceMod, Nat.reduceLT, Nat.reduceLeDiff, Nat.reduceEqDiff, Nat.reduceBEq, Nat.reduceBNe, Int.reduceToNat, Int.reduceLT, Int.reduceLE, Int.reduceEq, Int.reduceNe, Int.reduceAdd, Int.reduceSub, Int.reduceMul, Int.reduceNeg, u43_0, lb43_0, hlt, hr, hlm, hAm, eq_true c1, eq_true c2, t0, t1, t1l, Nat.le_refl, List.drop_zero, Int.toNat_natCast, Nat.zero_add, chk_of]
          rw [loop_step1]
          simp (maxSteps := 2000000) only [go_sem, doCall, doCallQ, Nat.reduceAdd, Nat.reduceMul, Nat.reduceSub, Nat.reduceDiv, Nat.reduceMod, Nat.reduceLT, Nat.reduceLeDiff, Nat.reduceEqDiff, Nat.reduceBEq, Nat.reduceBNe, Int.reduceToNat, Int.reduceLT, Int.reduceLE, Int.reduceEq, Int.reduceNe, Int.reduceAdd, Int.reduceSub, Int.reduceMul, Int.reduceNeg, hw]
          exact ih
        · have e : stp i (a1, a2) (A, false) L[j] = (A ++ [(i, a1, a2)] ++ [L[j]], true) := by
            simp only [stp, c2, c1, and_self, if_true, ne_eq, not_false_eq_true]
          rw [e]
          have ih := lp_rp Z o i a1 a2 L hL K (j + 1) (by omega) (A ++ [(i, a1, a2)] ++ [L[j]]) true (by simp; omega)
          rw [pmR_app, pmR_app, pmR_one, pmR_one] at ih
          simp only [List.length_append, List.length_cons, List.length_nil, Nat.zero_add, Nat.add_zero] at ih
          simp (maxSteps := 2000000) (disch := omega) only [go_sem, doCall, doCallQ, Nat.reduceAdd, Nat.reduceMul, Nat.reduceSub, Nat.reduceDiv, Nat.reduceMod, Nat.reduceLT, Nat.reduceLeDiff, Nat.reduceEqDiff, Nat.reduceBEq, Nat.reduceBNe, Int.reduceToNat, Int.reduceLT, Int.reduceLE, Int.reduceEq, Int.reduceNe, Int.reduceAdd, Int.reduceSub, Int.reduceMul, Int.reduceNeg, u43_0, lb43_0, hlt, hr, hlm, hAm, eq_true c1, eq_false c2, t0, t1, t1l, Nat.le_refl, List.drop_zero, Int.toNat_natCast, Nat.zero_add, chk_of]
          rw [loop_step1]
          simp (maxSteps := 2000000) only [go_sem, doCall, doCallQ, Nat.reduceAdd, Nat.reduceMul, Nat.reduceSub, Nat.reduceDiv, Nat.reduceMod, Nat.reduceLT, Nat.reduceLeDiff, Nat.reduceEqDiff, Nat.reduceBEq, Nat.reduceBNe, Int.reduceToNat, Int.reduceLT, Int.reduceLE, Int.reduceEq, Int.reduceNe, Int.reduceAdd, Int.reduceSub, Int.reduceMul, Int.reduceNeg, hw]
          exact ih
      · by_cases c2 : L[j].1 = i
        · have e : stp i (a1, a2) (A, true) L[j] = (A, true) := by simp [stp, c2]
          rw [e]
          have ih := lp_rp Z o i a1 a2 L hL K (j + 1) (by omega) A true (by omega)
          simp (maxSteps := 2000000) (disch := omega) only [go_sem, doCall, doCallQ, Nat.reduceAdd, Nat.reduceMul, Nat.reduceSub, Nat.reduceDiv, Nat.reduceMod, Nat.reduceLT, Nat.reduceLeDiff, Nat.reduceEqDiff, Nat.reduceBEq, Nat.reduceBNe, Int.reduceToNat, Int.reduceLT, Int.reduceLE, Int.reduceEq, Int.reduceNe, Int.reduceAdd, Int.reduceSub, Int.reduceMul, Int.reduceNeg, u43_0, lb43_0, hlt, hr, hlm, hAm, eq_true c1, eq_true c2, t0, Nat.le_refl, List.drop_zero, Int.toNat_natCast, Nat.zero_add, chk_of]
          rw [loop_step1]
          simp (maxSteps := 2000000) only [go_sem, doCall, doCallQ, Nat.reduceAdd, Nat.reduceMul, Nat.reduceSub, Nat.reduceDiv, Nat.reduceMod, Nat.reduceLT, Nat.reduceLeDiff, Nat.reduceEqDiff, Nat.reduceBEq, Nat.reduceBNe, Int.reduceToNat, Int.reduceLT, Int.reduceLE, Int.reduceEq, Int.reduceNe, Int.reduceAdd, Int.reduceSub, Int.reduceMul, Int.reduceNeg, hw]
          exact ih
        · have e : stp i (a1, a2) (A, true) L[j] = (A ++ [L[j]], true) := by simp [stp, c2]
          rw [e]
          have ih := lp_rp Z o i a1 a2 L hL K (j + 1) (by omega) (A ++ [L[j]]) true (by simp; omega)
          rw [pmR_app, pmR_one] at ih
          simp only [List.length_append, List.length_cons, List.length_nil] at ih
          simp (maxSteps := 2000000) (disch := omega) only [go_sem, doCall, doCallQ, Nat.reduceAdd, Nat.reduceMul, Nat.reduceSub, Nat.reduceDiv, Nat.reduceMod, Nat.reduceLT, Nat.reduceLeDiff, Nat.reduceEqDiff, Nat.reduceBEq, Nat.reduceBNe, Int.reduceToNat, Int.reduceLT, Int.reduceLE, Int.reduceEq, Int.reduceNe, Int.reduceAdd, Int.reduceSub, Int.reduceMul, Int.reduceNeg, u43_0, lb43_0, hlt, hr, hlm, hAm, eq_true c1, eq_false c2, t0, Nat.le_refl, List.drop_zero, Int.toNat_natCast, Nat.zero_add, chk_of]
          rw [loop_step1]
          simp (maxSteps := 2000000) only [go_sem, doCall, doCallQ, Nat.reduceAdd, Nat.reduceMul, Nat.reduceSub, Nat.reduceDiv, Nat.reduceMod, Nat.reduceLT, Nat.reduceLeDiff, Nat.reduceEqDiff, Nat.reduceBEq, Nat.reduceBNe, Int.reduceToNat, Int.reduceLT, Int.reduceLE, Int.reduceEq, Int.reduceNe, Int.reduceAdd, Int.reduceSub, Int.reduceMul, Int.reduceNeg, hw]
          exact ih
    · have c2 : ¬ L[j].1 = i := by omega
      have e : stp i (a1, a2) (A, dn) L[j] = (A ++ [L[j]], dn) := by
        simp only [stp, c2, c1, false_and, if_false, ne_eq, not_false_eq_true, if_true]
      rw [e]
      have ih := lp_rp Z o i a1 a2 L hL K (j + 1) (by omega) (A ++ [L[j]]) dn (by simp; omega)
      rw [pmR_app, pmR_one] at ih
      simp only [List.length_append, List.length_cons, List.length_nil] at ih
      simp (maxSteps := 2000000) (disch := omega) only [go_sem, doCall, doCallQ, Nat.reduceAdd, Nat.reduceMul, Nat.reduceSub, Nat.reduceDiv, Nat.reduceMod, Nat.reduceLT, Nat.reduceLeDiff, Nat.reduceEqDiff, Nat.reduceBEq, Nat.reduceBNe, Int.reduceToNat, Int.reduceLT, Int.reduceLE, Int.reduceEq, Int.reduceNe, Int.reduceAdd, Int.reduceSub, Int.reduceMul, Int.reduceNeg, u43_0, lb43_0, hlt, hr, hlm, hAm, eq_false c1, eq_false c2, t0, Nat.le_refl, List.drop_zero, Int.toNat_natCast, Nat.zero_add, chk_of]
      rw [loop_step1]
      simp (maxSteps := 2000000) only [go_sem, doCall, doCallQ, Nat.reduceAdd, Nat.reduceMul, Nat.reduceSub, Nat.reduceDiv, Nat.reduceMod, Nat.reduceLT, Nat.reduceLeDiff, Nat.reduceEqDiff, Nat.reduceBEq, Nat.reduceBNe, Int.reduceToNat, Int.reduceLT, Int.reduceLE, Int.reduceEq, Int.reduceNe, Int.reduceAdd, Int.reduceSub, Int.reduceMul, Int.reduceNeg, hw]
      exact ih
termination_by L.length - j
end Go.Proofs.YtoipfdbdifoecaaGreatDoor
namespace Go.Proofs.YtoipfdbdifoecaaGreatDoor
open Go Go.Ev Go.Proofs.YtoipfdbdifoecaaGreatDoor.Ir
set_option maxRecDepth 100000
set_option maxHeartbeats 4000000
set_option linter.unusedSimpArgs false
set_option linter.unusedVariables false
theorem putM_le (i : Int) (v : Int × Int) : ∀ l : List (Int × Int × Int), (putM i v l).length ≤ l.length + 1
  | [] => Nat.le_refl _
  | (a, d) :: l => by
    have := putM_le i v l
    rw [putM]
    split
    · simp
    · split
      · simp
      · simp only [List.length_cons]; omega
theorem r_piece (x : Nat → Sl) (k : Nat) (hk : k < 16) (hs : SrtM (pmK (x k).pm)) (hL : (pmK (x k).pm).length ≤ 100000) (gen i a1 a2 : Int) : call ir 43 [.ptr 0 0, .d (.int .i64 k), .d (.int .i64 gen), .d (.int .i64 i), .agg [.d (.int .i64 a1), .d (.int .i64 a2)]] [.dbox (idxR x)] =
    some (.tup [], [.dbox (idxR (xs x k (pie (x k) gen i a1 a2)))]) := by
  have h0 := eq_true (show (0 : Int) ≤ k by omega); have h1 := eq_true (show (k : Int) < 16 by omega); have n0 := eq_false (show ¬ (k : Int) < 0 by omega); have n1 := eq_false (show ¬ (15 : Int) < k by omega); have hg := get_idr x k hk
  have gb := at_b x k hk
  have gg := at_g x k hk
  have gs := at_sl x k hk
  have hb12 : k * 12 < 192 := by omega
  have hm := pmR_len (pmK (x k).pm)
  rw [call_eq (fn := ir43) rfl, evF_bnd]
  cases c1 : (x k).b
  · have e : pie (x k) gen i a1 a2 = x k := if_pos (.inl c1)
    rw [e, xs_id]
    simp (maxSteps := 2000000) (disch := omega) only [go_sem, doCall, doCallQ, Nat.reduceAdd, Nat.reduceMul, Nat.reduceSub, Nat.reduceDiv, Nat.reduceMod, Nat.reduceLT, Nat.reduceLeDiff, Nat.reduceEqDiff, Nat.reduceBEq, Nat.reduceBNe, Int.reduceToNat, Int.reduceLT, Int.reduceLE, Int.reduceEq, Int.reduceNe, Int.reduceAdd, Int.reduceSub, Int.reduceMul, Int.reduceNeg, bd43, h0, h1, n0, n1, gb, gg, c1, idxR_len, rs_len, Int.toNat_natCast, Nat.zero_add, Nat.add_zero, chk_of]
  · by_cases c2 : (x k).g = gen
    case neg =>
      have e : pie (x k) gen i a1 a2 = x k := if_pos (.inr (.inl c2))
      rw [e, xs_id]
      simp (maxSteps := 2000000) (disch := omega) only [go_sem, doCall, doCallQ, Nat.reduceAdd, Nat.reduceMul, Nat.reduceSub, Nat.reduceDiv, Nat.reduceMod, Nat.reduceLT, Nat.reduceLeDiff, Nat.reduceEqDiff, Nat.reduceBEq, Nat.reduceBNe, Int.reduceToNat, Int.reduceLT, Int.reduceLE, Int.reduceEq, Int.reduceNe, Int.reduceAdd, Int.reduceSub, Int.reduceMul, Int.reduceNeg, bd43, h0, h1, n0, n1, gb, gg, c1, eq_false c2, idxR_len, rs_len, Int.toNat_natCast, Nat.zero_add, Nat.add_zero, chk_of]
    by_cases c3 : i < 0
    · have e : pie (x k) gen i a1 a2 = x k := if_pos (.inr (.inr (.inl c3)))
      rw [e, xs_id]
      simp (maxSteps := 2000000) (disch := omega) only [go_sem, doCall, doCallQ, Nat.reduceAdd, Nat.reduceMul, Nat.reduceSub, Nat.reduceDiv, Nat.reduceMod, Nat.reduceLT, Nat.reduceLeDiff, Nat.reduceEqDiff, Nat.reduceBEq, Nat.reduceBNe, Int.reduceToNat, Int.reduceLT, Int.reduceLE, Int.reduceEq, Int.reduceNe, Int.reduceAdd, Int.reduceSub, Int.reduceMul, Int.reduceNeg, bd43, h0, h1, n0, n1, gb, gg, c1, eq_true c2, eq_true c3, idxR_len, rs_len, Int.toNat_natCast, Nat.zero_add, Nat.add_zero, chk_of]
    · by_cases c4 : i > 4096
      · have e : pie (x k) gen i a1 a2 = x k := if_pos (.inr (.inr (.inr c4)))
        rw [e, xs_id]
        simp (maxSteps := 2000000) (disch := omega) only [go_sem, doCall, doCallQ, Nat.reduceAdd, Nat.reduceMul, Nat.reduceSub, Nat.reduceDiv, Nat.reduceMod, Nat.reduceLT, Nat.reduceLeDiff, Nat.reduceEqDiff, Nat.reduceBEq, Nat.reduceBNe, Int.reduceToNat, Int.reduceLT, Int.reduceLE, Int.reduceEq, Int.reduceNe, Int.reduceAdd, Int.reduceSub, Int.reduceMul, Int.reduceNeg, bd43, h0, h1, n0, n1, gb, gg, c1, eq_true c2, eq_false c3, eq_true c4, idxR_len, rs_len, Int.toNat_natCast, Nat.zero_add, Nat.add_zero, chk_of]
      · have e : pie (x k) gen i a1 a2 = { x k with pm := some (putM i (a1, a2) (pmK (x k).pm)) } := by
          unfold pie
          rw [if_neg (by simp only [not_or]; exact ⟨by simp [c1], by simp [c2], c3, c4⟩)]
          cases (x k).pm <;> rfl
        have hp := put_sl x (putM i (a1, a2) (pmK (x k).pm)) k hk
        rw [e, ← hp]
        have hw : ((0 : Nat) : Int) = 0 := rfl
        simp (maxSteps := 2000000) (disch := omega) only [go_sem, doCall, doCallQ, Nat.reduceAdd, Nat.reduceMul, Nat.reduceSub, Nat.reduceDiv, Nat.reduceMod, Nat.reduceLT, Nat.reduceLeDiff, Nat.reduceEqDiff, Nat.reduceBEq, Nat.reduceBNe, Int.reduceToNat, Int.reduceLT, Int.reduceLE, Int.reduceEq, Int.reduceNe, Int.reduceAdd, Int.reduceSub, Int.reduceMul, Int.reduceNeg, bd43, h0, h1, n0, n1, gb, gg, gs, c1, eq_true c2, eq_false c3, eq_false c4, hm, idxR_len, rs_len, Int.toNat_natCast, Nat.zero_add, Nat.add_zero, chk_of]
        rw [loop_step1]
        simp (maxSteps := 2000000) only [go_sem, doCall, doCallQ, Nat.reduceAdd, Nat.reduceMul, Nat.reduceSub, Nat.reduceDiv, Nat.reduceMod, Nat.reduceLT, Nat.reduceLeDiff, Nat.reduceEqDiff, Nat.reduceBEq, Nat.reduceBNe, Int.reduceToNat, Int.reduceLT, Int.reduceLE, Int.reduceEq, Int.reduceNe, Int.reduceAdd, Int.reduceSub, Int.reduceMul, Int.reduceNeg]
        refine (lp_rp _ _ i a1 a2 (pmK (x k).pm) hL _ 0 (Nat.zero_le _) [] false (Nat.le_refl _)).trans ?_
        simp only [List.drop_zero]
        rcases stp_put i (a1, a2) (pmK (x k).pm) [] hs with ⟨q1, q2⟩ | ⟨q1, q2⟩
        · rw [q1, q2]
          simp only [List.nil_append]
          have l1 := pmR_len (putM i (a1, a2) (pmK (x k).pm))
          have t1 : List.take (putM i (a1, a2) (pmK (x k).pm)).length (pmR (putM i (a1, a2) (pmK (x k).pm))) = pmR (putM i (a1, a2) (pmK (x k).pm)) := List.take_of_length_le (by omega)
          simp (maxSteps := 2000000) (disch := omega) only [go_sem, doCall, doCallQ, Nat.reduceAdd, Nat.reduceMul, Nat.reduceSub, Nat.reduceDiv, Nat.reduceMod, Nat.reduceLT, Nat.reduceLeDiff, Nat.reduceEqDiff, Nat.reduceBEq, Nat.reduceBNe, Int.reduceToNat, Int.reduceLT, Int.reduceLE, Int.reduceEq, Int.reduceNe, Int.reduceAdd, Int.reduceSub, Int.reduceMul, Int.reduceNeg, h0, h1, l1, t1, Nat.le_refl, List.drop_zero, idxR_len, rs_len, Int.toNat_natCast, Nat.zero_add, Nat.add_zero, chk_of]
        · rw [q1]
          simp only [List.nil_append] at q2
          generalize ((pmK (x k).pm).foldl (stp i (a1, a2)) ([], false)).1 = R at q2
          have l0 := pmR_len R
          have l1 : (pmR R ++ [[D.int .i64 i, .int .i64 a1, .int .i64 a2]]).length = R.length + 1 := by simp [l0]
          have t0 : List.take R.length (pmR R) = pmR R := List.take_of_length_le (by omega)
          have t1 : List.take (R.length + 1) (pmR R ++ [[D.int .i64 i, .int .i64 a1, .int .i64 a2]]) = pmR R ++ [[D.int .i64 i, .int .i64 a1, .int .i64 a2]] := List.take_of_length_le (by omega)
          have hlen : R.length + 1 = (putM i (a1, a2) (pmK (x k).pm)).length := by rw [← q2]; simp
          have c5 := eq_true (show (R.length + 1) * 24 ≤ 70368744177664 by have := putM_le i (a1, a2) (pmK (x k).pm); omega)
          have q3 : pmR R ++ [[D.int .i64 i, .int .i64 a1, .int .i64 a2]] = pmR (putM i (a1, a2) (pmK (x k).pm)) := by rw [← q2, pmR_app]; rfl
          simp (maxSteps := 2000000) (disch := omega) only [go_sem, doCall, doCallQ, Nat.reduceAdd, Nat.reduceMul, Nat.reduceSub, Nat.reduceDiv, Nat.reduceMod, Nat.reduceLT, Nat.reduceLeDiff, Nat.reduceEqDiff, Nat.reduceBEq, Nat.reduceBNe, Int.reduceToNat, Int.reduceLT, Int.reduceLE, Int.reduceEq, Int.reduceNe, Int.reduceAdd, Int.reduceSub, Int.reduceMul, Int.reduceNeg, h0, h1, l0, l1, t0, t1, c5, Nat.le_refl, List.drop_zero, idxR_len, rs_len, Int.toNat_natCast, Nat.zero_add, Nat.add_zero, chk_of]
          rw [q3]
/-- An object that may not be. -/
theorem r_out (x : Nat → Sl) (o : Int) (ho : ¬ (0 ≤ o ∧ o < 16)) (g i a1 a2 : Int) (tag : List UInt8) (len tick : Int) :
    call ir 42 [.ptr 0 0, .agg [.d (.int .i64 o), .d (.int .i64 g), .d (.str tag), .d (.int .i64 len), .d (.int .i64 tick)], .agg [.d (.int .i64 a1), .d (.int .i64 a2)]] [.dbox (idxR x)] = some (.tup [], [.dbox (idxR x)]) ∧
    call ir 44 [.ptr 0 0, .d (.int .i64 o), .d (.int .i64 g), .agg [.d (.int .i64 a1), .d (.int .i64 a2)]] [.dbox (idxR x)] = some (.tup [], [.dbox (idxR x)]) ∧
    call ir 43 [.ptr 0 0, .d (.int .i64 o), .d (.int .i64 g), .d (.int .i64 i), .agg [.d (.int .i64 a1), .d (.int .i64 a2)]] [.dbox (idxR x)] = some (.tup [], [.dbox (idxR x)]) := by
  by_cases c1 : o < 0
  · refine ⟨?_, ?_, ?_⟩
    · rw [call_eq (fn := ir42) rfl, evF_bnd]; simp (maxSteps := 2000000) (disch := omega) only [go_sem, doCall, doCallQ, Nat.reduceAdd, Nat.reduceMul, Nat.reduceSub, Nat.reduceDiv, Nat.reduceMod, Nat.reduceLT, Nat.reduceLeDiff, Nat.reduceEqDiff, Nat.reduceBEq, Nat.reduceBNe, Int.reduceToNat, Int.reduceLT, Int.reduceLE, Int.reduceEq, Int.reduceNe, Int.reduceAdd, Int.reduceSub, Int.reduceMul, Int.reduceNeg, bd42, eq_true c1, idxR_len, rs_len, Int.toNat_natCast, Nat.zero_add, Nat.add_zero, chk_of]
    · rw [call_eq (fn := ir44) rfl, evF_bnd]; simp (maxSteps := 2000000) (disch := omega) only [go_sem, doCall, doCallQ, Nat.reduceAdd, Nat.reduceMul, Nat.reduceSub, Nat.reduceDiv, Nat.reduceMod, Nat.reduceLT, Nat.reduceLeDiff, Nat.reduceEqDiff, Nat.reduceBEq, Nat.reduceBNe, Int.reduceToNat, Int.reduceLT, Int.reduceLE, Int.reduceEq, Int.reduceNe, Int.reduceAdd, Int.reduceSub, Int.reduceMul, Int.reduceNeg, bd44, eq_true c1, idxR_len, rs_len, Int.toNat_natCast, Nat.zero_add, Nat.add_zero, chk_of]
    · rw [call_eq (fn := ir43) rfl, evF_bnd]; simp (maxSteps := 2000000) (disch := omega) only [go_sem, doCall, doCallQ, Nat.reduceAdd, Nat.reduceMul, Nat.reduceSub, Nat.reduceDiv, Nat.reduceMod, Nat.reduceLT, Nat.reduceLeDiff, Nat.reduceEqDiff, Nat.reduceBEq, Nat.reduceBNe, Int.reduceToNat, Int.reduceLT, Int.reduceLE, Int.reduceEq, Int.reduceNe, Int.reduceAdd, Int.reduceSub, Int.reduceMul, Int.reduceNeg, bd43, eq_true c1, idxR_len, rs_len, Int.toNat_natCast, Nat.zero_add, Nat.add_zero, chk_of]
  · have c2 : 15 < o := by omega
    refine ⟨?_, ?_, ?_⟩
    · rw [call_eq (fn := ir42) rfl, evF_bnd]; simp (maxSteps := 2000000) (disch := omega) only [go_sem, doCall, doCallQ, Nat.reduceAdd, Nat.reduceMul, Nat.reduceSub, Nat.reduceDiv, Nat.reduceMod, Nat.reduceLT, Nat.reduceLeDiff, Nat.reduceEqDiff, Nat.reduceBEq, Nat.reduceBNe, Int.reduceToNat, Int.reduceLT, Int.reduceLE, Int.reduceEq, Int.reduceNe, Int.reduceAdd, Int.reduceSub, Int.reduceMul, Int.reduceNeg, bd42, eq_false c1, eq_true c2, idxR_len, rs_len, Int.toNat_natCast, Nat.zero_add, Nat.add_zero, chk_of]
    · rw [call_eq (fn := ir44) rfl, evF_bnd]; simp (maxSteps := 2000000) (disch := omega) only [go_sem, doCall, doCallQ, Nat.reduceAdd, Nat.reduceMul, Nat.reduceSub, Nat.reduceDiv, Nat.reduceMod, Nat.reduceLT, Nat.reduceLeDiff, Nat.reduceEqDiff, Nat.reduceBEq, Nat.reduceBNe, Int.reduceToNat, Int.reduceLT, Int.reduceLE, Int.reduceEq, Int.reduceNe, Int.reduceAdd, Int.reduceSub, Int.reduceMul, Int.reduceNeg, bd44, eq_false c1, eq_true c2, idxR_len, rs_len, Int.toNat_natCast, Nat.zero_add, Nat.add_zero, chk_of]
    · rw [call_eq (fn := ir43) rfl, evF_bnd]; simp (maxSteps := 2000000) (disch := omega) only [go_sem, doCall, doCallQ, Nat.reduceAdd, Nat.reduceMul, Nat.reduceSub, Nat.reduceDiv, Nat.reduceMod, Nat.reduceLT, Nat.reduceLeDiff, Nat.reduceEqDiff, Nat.reduceBEq, Nat.reduceBNe, Int.reduceToNat, Int.reduceLT, Int.reduceLE, Int.reduceEq, Int.reduceNe, Int.reduceAdd, Int.reduceSub, Int.reduceMul, Int.reduceNeg, bd43, eq_false c1, eq_true c2, idxR_len, rs_len, Int.toNat_natCast, Nat.zero_add, Nat.add_zero, chk_of]
end Go.Proofs.YtoipfdbdifoecaaGreatDoor
