/- The index: sixteen slots. Own work. -/
import Derived.Test.YtoipfdbdifoecaaIdx
namespace Go.Proofs.Ytoipfdbdifoecaa
open Go Go.Ev Go.Proofs.Ytoipfdbdifoecaa.Ir
set_option maxRecDepth 100000
set_option maxHeartbeats 4000000
set_option linter.unusedSimpArgs false
set_option linter.unusedVariables false
def idxC (x : Nat → Sl) : List D := (x 0).cs ++ ((x 1).cs ++ ((x 2).cs ++ ((x 3).cs ++ ((x 4).cs ++ ((x 5).cs ++ ((x 6).cs ++ ((x 7).cs ++ ((x 8).cs ++ ((x 9).cs ++ ((x 10).cs ++ ((x 11).cs ++ ((x 12).cs ++ ((x 13).cs ++ ((x 14).cs ++ (x 15).cs))))))))))))))
def idxD (x : Nat → Sl) : List AV := (idxC x).map .d
def xs (x : Nat → Sl) (k : Nat) (s : Sl) : Nat → Sl := fun j => if j = k then s else x j
theorem idxC_len (x : Nat → Sl) : (idxC x).length = 192 := rfl
theorem idxD_len (x : Nat → Sl) : (idxD x).length = 192 := rfl
theorem cs_len (s : Sl) : s.cs.length = 12 := rfl
theorem av_len (s : Sl) : s.av.length = 12 := rfl
theorem map_cs (s : Sl) : s.cs.map AV.d = s.av := rfl
theorem map_idx (x : Nat → Sl) : (idxC x).map AV.d = idxD x := rfl
theorem idxC_take (x : Nat → Sl) : (idxC x).take 192 = idxC x := rfl
theorem idxC_drop (x : Nat → Sl) : (idxC x).drop 192 = [] := rfl
theorem plain_av (s : Sl) : boxOf.plainD s.av = some s.cs := plainD_map s.cs
theorem plain_idx (x : Nat → Sl) : boxOf.plainD (idxD x) = some (idxC x) := plainD_map _
theorem box_idx (x : Nat → Sl) : boxOf (idxD x) = .dbox (idxC x) := boxOf_map _
theorem get_idx (x : Nat → Sl) : ∀ k, k < 16 → ((idxC x).drop (k * 12)).take 12 = (x k).cs
  | 0, _ => rfl | 1, _ => rfl | 2, _ => rfl | 3, _ => rfl | 4, _ => rfl | 5, _ => rfl | 6, _ => rfl | 7, _ => rfl
  | 8, _ => rfl | 9, _ => rfl | 10, _ => rfl | 11, _ => rfl | 12, _ => rfl | 13, _ => rfl | 14, _ => rfl | 15, _ => rfl
  | k + 16, h => by omega
theorem put_idx (x : Nat → Sl) (s : Sl) : ∀ k, k < 16 → (idxC x).take (k * 12) ++ s.cs ++ (idxC x).drop (k * 12 + 12) = idxC (xs x k s)
  | 0, _ => rfl | 1, _ => rfl | 2, _ => rfl | 3, _ => rfl | 4, _ => rfl | 5, _ => rfl | 6, _ => rfl | 7, _ => rfl
  | 8, _ => rfl | 9, _ => rfl | 10, _ => rfl | 11, _ => rfl | 12, _ => rfl | 13, _ => rfl | 14, _ => rfl | 15, _ => rfl
  | k + 16, h => by omega
theorem refs_av (s : Sl) : AV.refsL s.av = [] := refsL_d s.cs
theorem owns_av (s : Sl) : AV.ownsL s.av = [] := ownsL_d s.cs
theorem view_av (H : Heap) (s : Sl) : AV.viewL H s.av = s.av := viewL_d H s.cs
theorem ren_av (f : Nat → Option Nat) (s : Sl) : AV.renL f s.av = s.av := renL_d f s.cs
theorem refs_idx (x : Nat → Sl) : AV.refsL (idxD x) = [] := refsL_d _
theorem owns_idx (x : Nat → Sl) : AV.ownsL (idxD x) = [] := ownsL_d _
theorem view_idx (H : Heap) (x : Nat → Sl) : AV.viewL H (idxD x) = idxD x := viewL_d H _
theorem ren_idx (f : Nat → Option Nat) (x : Nat → Sl) : AV.renL f (idxD x) = idxD x := renL_d f _
theorem c_may16 (o : Int) : call ir 58 [.d (.int .i64 o)] [] = some (.d (.bool (decide (0 ≤ o ∧ o < 16))), []) := by
  rw [call_eq (fn := ir58) rfl, evF_bnd]
  simp only [go_sem, doCall, doCallQ, Nat.reduceAdd, Nat.reduceMul, Nat.reduceSub, Nat.reduceDiv, Nat.reduceMod, Nat.reduceLT, Nat.reduceLeDiff, Nat.reduceEqDiff, Nat.reduceBEq, Nat.reduceBNe, Int.reduceToNat, Int.reduceLT, Int.reduceLE, Int.reduceEq, Int.reduceNe, Int.reduceAdd, Int.reduceSub, Int.reduceMul, Int.reduceNeg, bd58]
  repeat' (apply two_cases <;> intro h <;> simp only [go_sem, doCall, doCallQ, Nat.reduceAdd, Nat.reduceMul, Nat.reduceSub, Nat.reduceDiv, Nat.reduceMod, Nat.reduceLT, Nat.reduceLeDiff, Nat.reduceEqDiff, Nat.reduceBEq, Nat.reduceBNe, Int.reduceToNat, Int.reduceLT, Int.reduceLE, Int.reduceEq, Int.reduceNe, Int.reduceAdd, Int.reduceSub, Int.reduceMul, Int.reduceNeg, h, false_and, and_false])
theorem x_chForg (x : Nat → Sl) (k : Nat) (hk : k < 16) (gen a1 a2 : Int) : call ir 53 [.agg (idxD x), .d (.int .i64 k), .clo (.func 56) [] [.ptr 0 0, .ptr 1 0]] [.dbox [.int .i64 gen], .dbox [.int .i64 a1, .int .i64 a2]] =
    some (.agg (idxD (xs x k (forg (x k) gen a1 a2))), [.dbox [.int .i64 gen], .dbox [.int .i64 a1, .int .i64 a2]]) := by
  have h0 := eq_true (show (0 : Int) ≤ k by omega); have h1 := eq_true (show (k : Int) < 16 by omega); have hg := get_idx x k hk
  have hp := put_idx x (forg (x k) gen a1 a2) k hk
  rw [call_eq (fn := ir53) rfl, evF_bnd]
  simp (disch := omega) only [go_sem, doCall, doCallQ, Nat.reduceAdd, Nat.reduceMul, Nat.reduceSub, Nat.reduceDiv, Nat.reduceMod, Nat.reduceLT, Nat.reduceLeDiff, Nat.reduceEqDiff, Nat.reduceBEq, Nat.reduceBNe, Int.reduceToNat, Int.reduceLT, Int.reduceLE, Int.reduceEq, Int.reduceNe, Int.reduceAdd, Int.reduceSub, Int.reduceMul, Int.reduceNeg, bd53, c_may16, hg, hp, x_forg, h0, h1, idxC_len, idxD_len, cs_len, av_len, map_cs, map_idx, idxC_take, idxC_drop, plain_av, plain_idx, box_idx, refs_av, owns_av, view_av, ren_av, refs_idx, owns_idx, view_idx, ren_idx, Int.toNat_natCast, Nat.zero_add, chk_of]
theorem x_chBound (x : Nat → Sl) (k : Nat) (hk : k < 16) (o g : Int) (tag : List UInt8) (len tick a1 a2 : Int) : call ir 53 [.agg (idxD x), .d (.int .i64 k), .clo (.func 57) [] [.ptr 0 0, .ptr 1 0]] [.dbox [.int .i64 o, .int .i64 g, .str tag, .int .i64 len, .int .i64 tick], .dbox [.int .i64 a1, .int .i64 a2]] =
    some (.agg (idxD (xs x k (bound (x k) o g tag len tick a1 a2))), [.dbox [.int .i64 o, .int .i64 g, .str tag, .int .i64 len, .int .i64 tick], .dbox [.int .i64 a1, .int .i64 a2]]) := by
  have h0 := eq_true (show (0 : Int) ≤ k by omega); have h1 := eq_true (show (k : Int) < 16 by omega); have hg := get_idx x k hk
  have hp := put_idx x (bound (x k) o g tag len tick a1 a2) k hk
  rw [call_eq (fn := ir53) rfl, evF_bnd]
  simp (disch := omega) only [go_sem, doCall, doCallQ, Nat.reduceAdd, Nat.reduceMul, Nat.reduceSub, Nat.reduceDiv, Nat.reduceMod, Nat.reduceLT, Nat.reduceLeDiff, Nat.reduceEqDiff, Nat.reduceBEq, Nat.reduceBNe, Int.reduceToNat, Int.reduceLT, Int.reduceLE, Int.reduceEq, Int.reduceNe, Int.reduceAdd, Int.reduceSub, Int.reduceMul, Int.reduceNeg, bd53, c_may16, hg, hp, x_bound, h0, h1, idxC_len, idxD_len, cs_len, av_len, map_cs, map_idx, idxC_take, idxC_drop, plain_av, plain_idx, box_idx, refs_av, owns_av, view_av, ren_av, refs_idx, owns_idx, view_idx, ren_idx, Int.toNat_natCast, Nat.zero_add, chk_of]
theorem x_chPiece (x : Nat → Sl) (k : Nat) (hk : k < 16) (gen i a1 a2 : Int) : call ir 53 [.agg (idxD x), .d (.int .i64 k), .clo (.func 54) [] [.ptr 0 0, .ptr 1 0, .ptr 2 0]] [.dbox [.int .i64 gen], .dbox [.int .i64 i], .dbox [.int .i64 a1, .int .i64 a2]] =
    some (.agg (idxD (xs x k (pie (x k) gen i a1 a2))), [.dbox [.int .i64 gen], .dbox [.int .i64 i], .dbox [.int .i64 a1, .int .i64 a2]]) := by
  have h0 := eq_true (show (0 : Int) ≤ k by omega); have h1 := eq_true (show (k : Int) < 16 by omega); have hg := get_idx x k hk
  have hp := put_idx x (pie (x k) gen i a1 a2) k hk
  rw [call_eq (fn := ir53) rfl, evF_bnd]
  simp (disch := omega) only [go_sem, doCall, doCallQ, Nat.reduceAdd, Nat.reduceMul, Nat.reduceSub, Nat.reduceDiv, Nat.reduceMod, Nat.reduceLT, Nat.reduceLeDiff, Nat.reduceEqDiff, Nat.reduceBEq, Nat.reduceBNe, Int.reduceToNat, Int.reduceLT, Int.reduceLE, Int.reduceEq, Int.reduceNe, Int.reduceAdd, Int.reduceSub, Int.reduceMul, Int.reduceNeg, bd53, c_may16, hg, hp, x_piece, h0, h1, idxC_len, idxD_len, cs_len, av_len, map_cs, map_idx, idxC_take, idxC_drop, plain_av, plain_idx, box_idx, refs_av, owns_av, view_av, ren_av, refs_idx, owns_idx, view_idx, ren_idx, Int.toNat_natCast, Nat.zero_add, chk_of]
theorem x_bnd (x : Nat → Sl) (k : Nat) (hk : k < 16) (g : Int) (tag : List UInt8) (len tick a1 a2 : Int) : call ir 38 [.agg (idxD x), .agg [.d (.int .i64 k), .d (.int .i64 g), .d (.str tag), .d (.int .i64 len), .d (.int .i64 tick)], .agg [.d (.int .i64 a1), .d (.int .i64 a2)]] [] =
    some (.agg (idxD (xs x k (bound (x k) k g tag len tick a1 a2))), []) := by
  have h0 := eq_true (show (0 : Int) ≤ k by omega); have h1 := eq_true (show (k : Int) < 16 by omega); have hg := get_idx x k hk
  rw [call_eq (fn := ir38) rfl, evF_bnd]
  simp (disch := omega) only [go_sem, doCall, doCallQ, Nat.reduceAdd, Nat.reduceMul, Nat.reduceSub, Nat.reduceDiv, Nat.reduceMod, Nat.reduceLT, Nat.reduceLeDiff, Nat.reduceEqDiff, Nat.reduceBEq, Nat.reduceBNe, Int.reduceToNat, Int.reduceLT, Int.reduceLE, Int.reduceEq, Int.reduceNe, Int.reduceAdd, Int.reduceSub, Int.reduceMul, Int.reduceNeg, bd38, x_chBound x k hk, h0, h1, idxC_len, idxD_len, cs_len, av_len, map_cs, map_idx, idxC_take, idxC_drop, plain_av, plain_idx, box_idx, refs_av, owns_av, view_av, ren_av, refs_idx, owns_idx, view_idx, ren_idx, Int.toNat_natCast, Nat.zero_add, chk_of]
theorem x_pie (x : Nat → Sl) (k : Nat) (hk : k < 16) (gen i a1 a2 : Int) : call ir 34 [.agg (idxD x), .d (.int .i64 k), .d (.int .i64 gen), .d (.int .i64 i), .agg [.d (.int .i64 a1), .d (.int .i64 a2)]] [] =
    some (.agg (idxD (xs x k (pie (x k) gen i a1 a2))), []) := by
  have h0 := eq_true (show (0 : Int) ≤ k by omega); have h1 := eq_true (show (k : Int) < 16 by omega); have hg := get_idx x k hk
  rw [call_eq (fn := ir34) rfl, evF_bnd]
  simp (disch := omega) only [go_sem, doCall, doCallQ, Nat.reduceAdd, Nat.reduceMul, Nat.reduceSub, Nat.reduceDiv, Nat.reduceMod, Nat.reduceLT, Nat.reduceLeDiff, Nat.reduceEqDiff, Nat.reduceBEq, Nat.reduceBNe, Int.reduceToNat, Int.reduceLT, Int.reduceLE, Int.reduceEq, Int.reduceNe, Int.reduceAdd, Int.reduceSub, Int.reduceMul, Int.reduceNeg, bd34, x_chPiece x k hk, h0, h1, idxC_len, idxD_len, cs_len, av_len, map_cs, map_idx, idxC_take, idxC_drop, plain_av, plain_idx, box_idx, refs_av, owns_av, view_av, ren_av, refs_idx, owns_idx, view_idx, ren_idx, Int.toNat_natCast, Nat.zero_add, chk_of]
theorem x_for (x : Nat → Sl) (k : Nat) (hk : k < 16) (gen a1 a2 : Int) : call ir 36 [.agg (idxD x), .d (.int .i64 k), .d (.int .i64 gen), .agg [.d (.int .i64 a1), .d (.int .i64 a2)]] [] =
    some (.agg (idxD (xs x k (forg (x k) gen a1 a2))), []) := by
  have h0 := eq_true (show (0 : Int) ≤ k by omega); have h1 := eq_true (show (k : Int) < 16 by omega); have hg := get_idx x k hk
  rw [call_eq (fn := ir36) rfl, evF_bnd]
  simp (disch := omega) only [go_sem, doCall, doCallQ, Nat.reduceAdd, Nat.reduceMul, Nat.reduceSub, Nat.reduceDiv, Nat.reduceMod, Nat.reduceLT, Nat.reduceLeDiff, Nat.reduceEqDiff, Nat.reduceBEq, Nat.reduceBNe, Int.reduceToNat, Int.reduceLT, Int.reduceLE, Int.reduceEq, Int.reduceNe, Int.reduceAdd, Int.reduceSub, Int.reduceMul, Int.reduceNeg, bd36, x_chForg x k hk, h0, h1, idxC_len, idxD_len, cs_len, av_len, map_cs, map_idx, idxC_take, idxC_drop, plain_av, plain_idx, box_idx, refs_av, owns_av, view_av, ren_av, refs_idx, owns_idx, view_idx, ren_idx, Int.toNat_natCast, Nat.zero_add, chk_of]
end Go.Proofs.Ytoipfdbdifoecaa
