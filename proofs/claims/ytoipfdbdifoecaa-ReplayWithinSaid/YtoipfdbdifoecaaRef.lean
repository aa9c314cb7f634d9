/- The document's index: one slot, sixteen slots. Own work. -/
import Derived.Test.YtoipfdbdifoecaaIdx2
namespace Go.Proofs.Ytoipfdbdifoecaa
open Go Go.Ev Go.Proofs.Ytoipfdbdifoecaa.Ir
set_option maxRecDepth 100000
set_option maxHeartbeats 4000000
set_option linter.unusedSimpArgs false
set_option linter.unusedVariables false
def pmK : PM → List (Int × Int × Int)
  | none => []
  | some l => l
def pmR (l : List (Int × Int × Int)) : List (List D) := l.map fun p => [.int .i64 p.1, .int .i64 p.2.1, .int .i64 p.2.2]
theorem pmR_len (l : List (Int × Int × Int)) : (pmR l).length = l.length := List.length_map ..
def Sl.rs (s : Sl) : List D := [.bool s.b, .int .i64 s.o, .int .i64 s.g, .str s.tag, .int .i64 s.len, .int .i64 s.tick, .int .i64 s.a1, .int .i64 s.a2, .list 3 (pmR (pmK s.pm)), .int .i64 s.fl, .int .i64 s.t1, .int .i64 s.t2]
def idxR (x : Nat → Sl) : List D := (x 0).rs ++ ((x 1).rs ++ ((x 2).rs ++ ((x 3).rs ++ ((x 4).rs ++ ((x 5).rs ++ ((x 6).rs ++ ((x 7).rs ++ ((x 8).rs ++ ((x 9).rs ++ ((x 10).rs ++ ((x 11).rs ++ ((x 12).rs ++ ((x 13).rs ++ ((x 14).rs ++ (x 15).rs))))))))))))))
theorem idxR_len (x : Nat → Sl) : (idxR x).length = 192 := rfl
theorem rs_len (s : Sl) : s.rs.length = 12 := rfl
theorem get_idr (x : Nat → Sl) : ∀ k, k < 16 → ((idxR x).drop (k * 12)).take 12 = (x k).rs
  | 0, _ => rfl | 1, _ => rfl | 2, _ => rfl | 3, _ => rfl | 4, _ => rfl | 5, _ => rfl | 6, _ => rfl | 7, _ => rfl
  | 8, _ => rfl | 9, _ => rfl | 10, _ => rfl | 11, _ => rfl | 12, _ => rfl | 13, _ => rfl | 14, _ => rfl | 15, _ => rfl
  | k + 16, h => by omega
theorem put_idr (x : Nat → Sl) (s : Sl) : ∀ k, k < 16 → (idxR x).take (k * 12) ++ s.rs ++ (idxR x).drop (k * 12 + 12) = idxR (xs x k s)
  | 0, _ => rfl | 1, _ => rfl | 2, _ => rfl | 3, _ => rfl | 4, _ => rfl | 5, _ => rfl | 6, _ => rfl | 7, _ => rfl
  | 8, _ => rfl | 9, _ => rfl | 10, _ => rfl | 11, _ => rfl | 12, _ => rfl | 13, _ => rfl | 14, _ => rfl | 15, _ => rfl
  | k + 16, h => by omega
theorem put_tick (x : Nat → Sl) (t : Int) : ∀ k, k < 16 → (idxR x).take (k * 12 + 1 + 4) ++ [D.int .i64 t] ++ (idxR x).drop (k * 12 + 1 + 4 + 1) = idxR (xs x k { x k with tick := t })
  | 0, _ => rfl | 1, _ => rfl | 2, _ => rfl | 3, _ => rfl | 4, _ => rfl | 5, _ => rfl | 6, _ => rfl | 7, _ => rfl
  | 8, _ => rfl | 9, _ => rfl | 10, _ => rfl | 11, _ => rfl | 12, _ => rfl | 13, _ => rfl | 14, _ => rfl | 15, _ => rfl
  | k + 16, h => by omega
theorem put_at (x : Nat → Sl) (a1 a2 : Int) : ∀ k, k < 16 → (idxR x).take (k * 12 + 6) ++ [D.int .i64 a1, D.int .i64 a2] ++ (idxR x).drop (k * 12 + 6 + 2) = idxR (xs x k { x k with a1 := a1, a2 := a2 })
  | 0, _ => rfl | 1, _ => rfl | 2, _ => rfl | 3, _ => rfl | 4, _ => rfl | 5, _ => rfl | 6, _ => rfl | 7, _ => rfl
  | 8, _ => rfl | 9, _ => rfl | 10, _ => rfl | 11, _ => rfl | 12, _ => rfl | 13, _ => rfl | 14, _ => rfl | 15, _ => rfl
  | k + 16, h => by omega
theorem put_sl (x : Nat → Sl) (l : List (Int × Int × Int)) : ∀ k, k < 16 → (idxR x).take (k * 12 + 8) ++ [D.list 3 (pmR l)] ++ (idxR x).drop (k * 12 + 8 + 1) = idxR (xs x k { x k with pm := some l })
  | 0, _ => rfl | 1, _ => rfl | 2, _ => rfl | 3, _ => rfl | 4, _ => rfl | 5, _ => rfl | 6, _ => rfl | 7, _ => rfl
  | 8, _ => rfl | 9, _ => rfl | 10, _ => rfl | 11, _ => rfl | 12, _ => rfl | 13, _ => rfl | 14, _ => rfl | 15, _ => rfl
  | k + 16, h => by omega
theorem one_b (x : Nat → Sl) : ∀ k, k < 16 → ((idxR x).drop (k * 12)).take 1 = [.bool (x k).b]
  | 0, _ => rfl | 1, _ => rfl | 2, _ => rfl | 3, _ => rfl | 4, _ => rfl | 5, _ => rfl | 6, _ => rfl | 7, _ => rfl
  | 8, _ => rfl | 9, _ => rfl | 10, _ => rfl | 11, _ => rfl | 12, _ => rfl | 13, _ => rfl | 14, _ => rfl | 15, _ => rfl
  | k + 16, h => by omega
theorem at_b (x : Nat → Sl) : ∀ k, k < 16 → (idxR x).getD (k * 12) .nilp = .bool (x k).b
  | 0, _ => rfl | 1, _ => rfl | 2, _ => rfl | 3, _ => rfl | 4, _ => rfl | 5, _ => rfl | 6, _ => rfl | 7, _ => rfl
  | 8, _ => rfl | 9, _ => rfl | 10, _ => rfl | 11, _ => rfl | 12, _ => rfl | 13, _ => rfl | 14, _ => rfl | 15, _ => rfl
  | k + 16, h => by omega
theorem at_g (x : Nat → Sl) : ∀ k, k < 16 → (idxR x).getD (k * 12 + 1 + 1) .nilp = .int .i64 (x k).g
  | 0, _ => rfl | 1, _ => rfl | 2, _ => rfl | 3, _ => rfl | 4, _ => rfl | 5, _ => rfl | 6, _ => rfl | 7, _ => rfl
  | 8, _ => rfl | 9, _ => rfl | 10, _ => rfl | 11, _ => rfl | 12, _ => rfl | 13, _ => rfl | 14, _ => rfl | 15, _ => rfl
  | k + 16, h => by omega
theorem at_sl (x : Nat → Sl) : ∀ k, k < 16 → (idxR x).getD (k * 12 + 8) .nilp = .list 3 (pmR (pmK (x k).pm))
  | 0, _ => rfl | 1, _ => rfl | 2, _ => rfl | 3, _ => rfl | 4, _ => rfl | 5, _ => rfl | 6, _ => rfl | 7, _ => rfl
  | 8, _ => rfl | 9, _ => rfl | 10, _ => rfl | 11, _ => rfl | 12, _ => rfl | 13, _ => rfl | 14, _ => rfl | 15, _ => rfl
  | k + 16, h => by omega
theorem xs_xs (x : Nat → Sl) (k : Nat) (s t : Sl) : xs (xs x k s) k t = xs x k t := by funext j; unfold xs; split <;> rfl
theorem xs_at (x : Nat → Sl) (k : Nat) (s : Sl) : xs x k s k = s := by simp [xs]
theorem xs_id (x : Nat → Sl) (k : Nat) : xs x k (x k) = x := by funext j; unfold xs; split <;> simp_all
theorem pl_rs (s : Sl) : boxOf.plainD (s.rs.map AV.d) = some s.rs := plainD_map _
theorem r_bound (x : Nat → Sl) (k : Nat) (hk : k < 16) (g : Int) (tag : List UInt8) (len tick a1 a2 : Int) : call ir 39 [.ptr 0 0, .agg [.d (.int .i64 k), .d (.int .i64 g), .d (.str tag), .d (.int .i64 len), .d (.int .i64 tick)], .agg [.d (.int .i64 a1), .d (.int .i64 a2)]] [.dbox (idxR x)] =
    some (.tup [], [.dbox (idxR (xs x k (bound (x k) k g tag len tick a1 a2)))]) := by
  have h0 := eq_true (show (0 : Int) ≤ k by omega); have h1 := eq_true (show (k : Int) < 16 by omega); have n0 := eq_false (show ¬ (k : Int) < 0 by omega); have n1 := eq_false (show ¬ (15 : Int) < k by omega); have hg := get_idr x k hk
  rw [call_eq (fn := ir39) rfl, evF_bnd]
  by_cases c1 : g ≤ (x k).fl
  · have e : bound (x k) k g tag len tick a1 a2 = x k := if_pos c1
    rw [e, xs_id]
    simp (disch := omega) only [go_sem, doCall, doCallQ, Nat.reduceAdd, Nat.reduceMul, Nat.reduceSub, Nat.reduceDiv, Nat.reduceMod, Nat.reduceLT, Nat.reduceLeDiff, Nat.reduceEqDiff, Nat.reduceBEq, Nat.reduceBNe, Int.reduceToNat, Int.reduceLT, Int.reduceLE, Int.reduceEq, Int.reduceNe, Int.reduceAdd, Int.reduceSub, Int.reduceMul, Int.reduceNeg, bd39, h0, h1, n0, n1, hg, Sl.rs, eq_true c1, idxR_len, rs_len, Int.toNat_natCast, Nat.zero_add, chk_of]
  · cases c2 : (x k).b
    · have e : bound (x k) k g tag len tick a1 a2 = ⟨true, k, g, tag, len, tick, a1, a2, none, (x k).fl, (x k).t1, (x k).t2⟩ := by unfold bound; rw [if_neg c1, if_pos (.inl c2)]
      rw [e, ← put_idr x _ k hk]
      simp (disch := omega) only [go_sem, doCall, doCallQ, Nat.reduceAdd, Nat.reduceMul, Nat.reduceSub, Nat.reduceDiv, Nat.reduceMod, Nat.reduceLT, Nat.reduceLeDiff, Nat.reduceEqDiff, Nat.reduceBEq, Nat.reduceBNe, Int.reduceToNat, Int.reduceLT, Int.reduceLE, Int.reduceEq, Int.reduceNe, Int.reduceAdd, Int.reduceSub, Int.reduceMul, Int.reduceNeg, bd39, h0, h1, n0, n1, hg, Sl.rs, eq_false c1, c2, pmK, pmR, idxR_len, rs_len, Int.toNat_natCast, Nat.zero_add, chk_of]
    · by_cases c3 : (x k).g < g
      · have e : bound (x k) k g tag len tick a1 a2 = ⟨true, k, g, tag, len, tick, a1, a2, none, (x k).fl, (x k).t1, (x k).t2⟩ := by unfold bound; rw [if_neg c1, if_pos (.inr c3)]
        rw [e, ← put_idr x _ k hk]
        simp (disch := omega) only [go_sem, doCall, doCallQ, Nat.reduceAdd, Nat.reduceMul, Nat.reduceSub, Nat.reduceDiv, Nat.reduceMod, Nat.reduceLT, Nat.reduceLeDiff, Nat.reduceEqDiff, Nat.reduceBEq, Nat.reduceBNe, Int.reduceToNat, Int.reduceLT, Int.reduceLE, Int.reduceEq, Int.reduceNe, Int.reduceAdd, Int.reduceSub, Int.reduceMul, Int.reduceNeg, bd39, h0, h1, n0, n1, hg, Sl.rs, eq_false c1, c2, eq_true c3, pmK, pmR, idxR_len, rs_len, Int.toNat_natCast, Nat.zero_add, chk_of]
      · by_cases c4 : g = (x k).g
        · by_cases c5 : tag = (x k).tag
          · by_cases c6 : len = (x k).len
            · by_cases c7 : (x k).tick ≤ tick
              · have e : bound (x k) k g tag len tick a1 a2 = { x k with tick := tick, a1 := a1, a2 := a2 } := by unfold bound; rw [if_neg c1, if_neg (by rw [c2]; simp; omega), if_pos ⟨c4.symm, c5.symm, c6.symm, c7⟩]
                have p1 := put_tick x tick k hk
                have p2 := put_at (xs x k { x k with tick := tick }) a1 a2 k hk
                rw [xs_xs, xs_at] at p2
                rw [e, ← p2, ← p1]
                simp (disch := omega) only [go_sem, doCall, doCallQ, Nat.reduceAdd, Nat.reduceMul, Nat.reduceSub, Nat.reduceDiv, Nat.reduceMod, Nat.reduceLT, Nat.reduceLeDiff, Nat.reduceEqDiff, Nat.reduceBEq, Nat.reduceBNe, Int.reduceToNat, Int.reduceLT, Int.reduceLE, Int.reduceEq, Int.reduceNe, Int.reduceAdd, Int.reduceSub, Int.reduceMul, Int.reduceNeg, bd39, h0, h1, n0, n1, hg, Sl.rs, eq_false c1, c2, eq_false c3, eq_true c4, eq_true c5, eq_true c6, eq_true c7, p1, idxR_len, rs_len, Int.toNat_natCast, Nat.zero_add, chk_of]
              · have e : bound (x k) k g tag len tick a1 a2 = x k := by unfold bound; rw [if_neg c1, if_neg (by rw [c2]; simp; omega), if_neg (fun h => c7 h.2.2.2)]
                rw [e, xs_id]
                simp (disch := omega) only [go_sem, doCall, doCallQ, Nat.reduceAdd, Nat.reduceMul, Nat.reduceSub, Nat.reduceDiv, Nat.reduceMod, Nat.reduceLT, Nat.reduceLeDiff, Nat.reduceEqDiff, Nat.reduceBEq, Nat.reduceBNe, Int.reduceToNat, Int.reduceLT, Int.reduceLE, Int.reduceEq, Int.reduceNe, Int.reduceAdd, Int.reduceSub, Int.reduceMul, Int.reduceNeg, bd39, h0, h1, n0, n1, hg, Sl.rs, eq_false c1, c2, eq_false c3, eq_true c4, eq_true c5, eq_true c6, eq_false c7, idxR_len, rs_len, Int.toNat_natCast, Nat.zero_add, chk_of]
            · have e : bound (x k) k g tag len tick a1 a2 = x k := by unfold bound; rw [if_neg c1, if_neg (by rw [c2]; simp; omega), if_neg (fun h => c6 h.2.2.1.symm)]
              rw [e, xs_id]
              simp (disch := omega) only [go_sem, doCall, doCallQ, Nat.reduceAdd, Nat.reduceMul, Nat.reduceSub, Nat.reduceDiv, Nat.reduceMod, Nat.reduceLT, Nat.reduceLeDiff, Nat.reduceEqDiff, Nat.reduceBEq, Nat.reduceBNe, Int.reduceToNat, Int.reduceLT, Int.reduceLE, Int.reduceEq, Int.reduceNe, Int.reduceAdd, Int.reduceSub, Int.reduceMul, Int.reduceNeg, bd39, h0, h1, n0, n1, hg, Sl.rs, eq_false c1, c2, eq_false c3, eq_true c4, eq_true c5, eq_false c6, idxR_len, rs_len, Int.toNat_natCast, Nat.zero_add, chk_of]
          · have e : bound (x k) k g tag len tick a1 a2 = x k := by unfold bound; rw [if_neg c1, if_neg (by rw [c2]; simp; omega), if_neg (fun h => c5 h.2.1.symm)]
            rw [e, xs_id]
            simp (disch := omega) only [go_sem, doCall, doCallQ, Nat.reduceAdd, Nat.reduceMul, Nat.reduceSub, Nat.reduceDiv, Nat.reduceMod, Nat.reduceLT, Nat.reduceLeDiff, Nat.reduceEqDiff, Nat.reduceBEq, Nat.reduceBNe, Int.reduceToNat, Int.reduceLT, Int.reduceLE, Int.reduceEq, Int.reduceNe, Int.reduceAdd, Int.reduceSub, Int.reduceMul, Int.reduceNeg, bd39, h0, h1, n0, n1, hg, Sl.rs, eq_false c1, c2, eq_false c3, eq_true c4, eq_false c5, idxR_len, rs_len, Int.toNat_natCast, Nat.zero_add, chk_of]
        · have e : bound (x k) k g tag len tick a1 a2 = x k := by unfold bound; rw [if_neg c1, if_neg (by rw [c2]; simp; omega), if_neg (fun h => c4 h.1.symm)]
          rw [e, xs_id]
          simp (disch := omega) only [go_sem, doCall, doCallQ, Nat.reduceAdd, Nat.reduceMul, Nat.reduceSub, Nat.reduceDiv, Nat.reduceMod, Nat.reduceLT, Nat.reduceLeDiff, Nat.reduceEqDiff, Nat.reduceBEq, Nat.reduceBNe, Int.reduceToNat, Int.reduceLT, Int.reduceLE, Int.reduceEq, Int.reduceNe, Int.reduceAdd, Int.reduceSub, Int.reduceMul, Int.reduceNeg, bd39, h0, h1, n0, n1, hg, Sl.rs, eq_false c1, c2, eq_false c3, eq_false c4, idxR_len, rs_len, Int.toNat_natCast, Nat.zero_add, chk_of]
end Go.Proofs.Ytoipfdbdifoecaa
