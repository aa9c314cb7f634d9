/- Sets held against each other. Own work. -/
import Derived.Test.YtoipfdbdifoecaaBit
namespace Go.Proofs.Ytoipfdbdifoecaa
open Go Go.Ev Go.Proofs.Ytoipfdbdifoecaa.Ir
set_option maxRecDepth 100000
set_option maxHeartbeats 4000000
set_option linter.unusedSimpArgs false
set_option linter.unusedVariables false
theorem c_and1 (a b : BitVec 64) : call ir 73 [.d (.int .u64 (a.toNat : Int)), .d (.int .u64 (b.toNat : Int))] [] = some (.d (.int .u64 ((a &&& b).toNat : Int)), []) := by
  have hw := wand a b
  rw [call_eq (fn := ir73) rfl, evF_bnd]
  simp (disch := omega) only [go_sem, doCall, doCallQ, Nat.reduceAdd, Nat.reduceMul, Nat.reduceSub, Nat.reduceDiv, Nat.reduceMod, Nat.reduceLT, Nat.reduceLeDiff, Nat.reduceEqDiff, Nat.reduceBEq, Nat.reduceBNe, Int.reduceToNat, Int.reduceLT, Int.reduceLE, Int.reduceEq, Int.reduceNe, Int.reduceAdd, Int.reduceSub, Int.reduceMul, Int.reduceNeg, bd73, hw]
def andW (k : Nat) (A B : Wd) : Wd := fun j => if j < k then A j &&& B j else A j
theorem andW_step (k : Nat) (A B : Wd) : upd (andW k A B) k (andW k A B k &&& B k) = andW (k + 1) A B := by
  funext j
  unfold upd andW
  by_cases h : j = k
  · subst h; simp
  · rw [if_neg h]
    by_cases h2 : j < k
    · rw [if_pos h2, if_pos (by omega)]
    · rw [if_neg h2, if_neg (by omega)]
theorem lp_and (A B : Wd) (Z : List D) (K : Ex → St → Option (AV × Heap)) : ∀ (n k : Nat), n + k = 65 →
    bnd (evC (call ir) (loop ir) lp72_0 (st72_0 0 (.clo (.func 73) [] []) (.ptr 0 0) (.ptr 1 0) (.ptr 2 0) (.d (.int .i64 k)) [.dbox (w65 (andW k A B)), .dbox (w65 B), .dbox Z]))
      (lpC (call ir) (loop ir) [2, 3, 4, 6, 8] lp72_0 K) =
    K (.exit 0) (clean [3, 6] (st72_0 0 .unk (.ptr 0 0) .unk (.ptr 1 0) .unk [.dbox (w65 (andW 65 A B)), .dbox Z]))
  | 0, k, h => by
    obtain rfl : k = 65 := by omega
    simp (disch := omega) only [go_sem, doCall, doCallQ, Nat.reduceAdd, Nat.reduceMul, Nat.reduceSub, Nat.reduceDiv, Nat.reduceMod, Nat.reduceLT, Nat.reduceLeDiff, Nat.reduceEqDiff, Nat.reduceBEq, Nat.reduceBNe, Int.reduceToNat, Int.reduceLT, Int.reduceLE, Int.reduceEq, Int.reduceNe, Int.reduceAdd, Int.reduceSub, Int.reduceMul, Int.reduceNeg, u72_0, lb72_0]
  | n + 1, k, h => by
    have hk : k < 65 := by omega
    have h0 := eq_true (show (0 : Int) ≤ k by omega)
    have h1 := eq_true (show (k : Int) < 65 by omega)
    have hw := wr_succ (i := k) (by omega)
    have ga : (w65 (andW k A B)).getD k .nilp = .int .u64 (andW k A B k).toNat := arr_getD hk _
    have gb : (w65 B).getD k .nilp = .int .u64 (B k).toNat := arr_getD hk _
    have q := c_and1 (andW k A B k) (B k)
    have hp : (w65 (andW k A B)).take k ++ [D.int .u64 ((andW k A B k &&& B k).toNat : Int)] ++ (w65 (andW k A B)).drop (k + 1) = w65 (andW (k + 1) A B) := by
      rw [← andW_step]
      unfold w65
      rw [arr_put hk, upd_w]
    have ih := lp_and A B Z K n (k + 1) (by omega)
    simp (disch := omega) only [go_sem, doCall, doCallQ, Nat.reduceAdd, Nat.reduceMul, Nat.reduceSub, Nat.reduceDiv, Nat.reduceMod, Nat.reduceLT, Nat.reduceLeDiff, Nat.reduceEqDiff, Nat.reduceBEq, Nat.reduceBNe, Int.reduceToNat, Int.reduceLT, Int.reduceLE, Int.reduceEq, Int.reduceNe, Int.reduceAdd, Int.reduceSub, Int.reduceMul, Int.reduceNeg, u72_0, lb72_0, h0, h1, ga, gb, q, hp, w65_len, w65_take, w65_drop, w65_plain, w65_box, w65_mlen, w65_refs, w65_owns, w65_view, w65_ren, Int.toNat_natCast, Nat.zero_add, Nat.mul_one, chk_of]
    rw [loop_step1]
    simp only [go_sem, doCall, doCallQ, Nat.reduceAdd, Nat.reduceMul, Nat.reduceSub, Nat.reduceDiv, Nat.reduceMod, Nat.reduceLT, Nat.reduceLeDiff, Nat.reduceEqDiff, Nat.reduceBEq, Nat.reduceBNe, Int.reduceToNat, Int.reduceLT, Int.reduceLE, Int.reduceEq, Int.reduceNe, Int.reduceAdd, Int.reduceSub, Int.reduceMul, Int.reduceNeg, hw]
    simp only [go_sem, doCall, doCallQ, Nat.reduceAdd, Nat.reduceMul, Nat.reduceSub, Nat.reduceDiv, Nat.reduceMod, Nat.reduceLT, Nat.reduceLeDiff, Nat.reduceEqDiff, Nat.reduceBEq, Nat.reduceBNe, Int.reduceToNat, Int.reduceLT, Int.reduceLE, Int.reduceEq, Int.reduceNe, Int.reduceAdd, Int.reduceSub, Int.reduceMul, Int.reduceNeg] at ih
    exact ih
theorem andW0 (A B : Wd) : andW 0 A B = A := by funext j; simp [andW]
theorem c_joined (A B : Wd) : call ir 72 [.agg ((w65 A).map .d), .agg ((w65 B).map .d), .clo (.func 73) [] []] [] = some (.agg ((w65 (andW 65 A B)).map .d), []) := by
  rw [call_eq (fn := ir72) rfl, evF_bnd]
  simp (disch := omega) only [go_sem, doCall, doCallQ, Nat.reduceAdd, Nat.reduceMul, Nat.reduceSub, Nat.reduceDiv, Nat.reduceMod, Nat.reduceLT, Nat.reduceLeDiff, Nat.reduceEqDiff, Nat.reduceBEq, Nat.reduceBNe, Int.reduceToNat, Int.reduceLT, Int.reduceLE, Int.reduceEq, Int.reduceNe, Int.reduceAdd, Int.reduceSub, Int.reduceMul, Int.reduceNeg, bd72, w65_len, w65_take, w65_drop, w65_plain, w65_box, w65_mlen, w65_refs, w65_owns, w65_view, w65_ren, Int.toNat_natCast, Nat.zero_add, Nat.mul_one, chk_of]
  rw [loop_step1]
  simp only [go_sem, doCall, doCallQ, Nat.reduceAdd, Nat.reduceMul, Nat.reduceSub, Nat.reduceDiv, Nat.reduceMod, Nat.reduceLT, Nat.reduceLeDiff, Nat.reduceEqDiff, Nat.reduceBEq, Nat.reduceBNe, Int.reduceToNat, Int.reduceLT, Int.reduceLE, Int.reduceEq, Int.reduceNe, Int.reduceAdd, Int.reduceSub, Int.reduceMul, Int.reduceNeg]
  have h := fun K => lp_and A B (List.replicate 65 (.int .u64 0)) K 65 0 rfl
  simp only [andW0] at h
  refine (h _).trans ?_
  simp (disch := omega) only [go_sem, doCall, doCallQ, Nat.reduceAdd, Nat.reduceMul, Nat.reduceSub, Nat.reduceDiv, Nat.reduceMod, Nat.reduceLT, Nat.reduceLeDiff, Nat.reduceEqDiff, Nat.reduceBEq, Nat.reduceBNe, Int.reduceToNat, Int.reduceLT, Int.reduceLE, Int.reduceEq, Int.reduceNe, Int.reduceAdd, Int.reduceSub, Int.reduceMul, Int.reduceNeg, w65_len, w65_take, w65_drop, w65_plain, w65_box, w65_mlen, w65_refs, w65_owns, w65_view, w65_ren, Int.toNat_natCast, Nat.zero_add, Nat.mul_one, chk_of]
theorem c_andm (A B : Wd) : call ir 63 [.agg ((w65 A).map .d), .agg ((w65 B).map .d)] [] = some (.agg ((w65 (andW 65 A B)).map .d), []) := by
  have q := c_joined A B
  rw [call_eq (fn := ir63) rfl, evF_bnd]
  simp (disch := omega) only [go_sem, doCall, doCallQ, Nat.reduceAdd, Nat.reduceMul, Nat.reduceSub, Nat.reduceDiv, Nat.reduceMod, Nat.reduceLT, Nat.reduceLeDiff, Nat.reduceEqDiff, Nat.reduceBEq, Nat.reduceBNe, Int.reduceToNat, Int.reduceLT, Int.reduceLE, Int.reduceEq, Int.reduceNe, Int.reduceAdd, Int.reduceSub, Int.reduceMul, Int.reduceNeg, bd63, q, w65_len, w65_take, w65_drop, w65_plain, w65_box, w65_mlen, w65_refs, w65_owns, w65_view, w65_ren, Int.toNat_natCast, Nat.zero_add, Nat.mul_one, chk_of]
theorem same_map (f g : Nat → BitVec 64) : ∀ l : List Nat, sameD (List.replicate l.length 1) (l.map fun j => D.int .u64 ((f j).toNat : Int)) (l.map fun j => D.int .u64 ((g j).toNat : Int)) = some (decide (∀ j ∈ l, f j = g j))
  | [] => by simp [sameD]
  | j :: l => by
    have h := same_map f g l
    have e : ((((f j).toNat : Int) == ((g j).toNat : Int)) = decide (f j = g j)) := by
      rw [Bool.eq_iff_iff]
      simp only [beq_iff_eq, decide_eq_true_eq]
      exact ⟨fun h => BitVec.eq_of_toNat_eq (by omega), fun h => by rw [h]⟩
    simp only [List.length_cons, List.replicate_succ, List.map_cons, sameD, h, D.same, e, if_true, List.mem_cons, forall_eq_or_imp, Bool.decide_and]
theorem w65_same (A B : Wd) (b : Bool) (hb : b = true ↔ ∀ k, k < 65 → A k = B k) : sameD [1, 1, 1, 1, 1, 1, 1, 1, 1, 1, 1, 1, 1, 1, 1, 1, 1, 1, 1, 1, 1, 1, 1, 1, 1, 1, 1, 1, 1, 1, 1, 1, 1, 1, 1, 1, 1, 1, 1, 1, 1, 1, 1, 1, 1, 1, 1, 1, 1, 1, 1, 1, 1, 1, 1, 1, 1, 1, 1, 1, 1, 1, 1, 1, 1] (w65 A) (w65 B) = some b := by
  have h := same_map A B (List.range 65)
  have e : decide (∀ j ∈ List.range 65, A j = B j) = b := by
    rw [Bool.eq_iff_iff, decide_eq_true_iff, hb]
    simp only [List.mem_range]
  rw [e] at h
  exact h
theorem c_bwithin (A B : Wd) (b : Bool) (hb : b = true ↔ ∀ k, k < 65 → A k &&& B k = A k) : call ir 45 [.agg ((w65 A).map .d), .agg ((w65 B).map .d)] [] = some (.d (.bool b), []) := by
  have q := c_andm A B
  have hs := w65_same (andW 65 A B) A b (hb.trans ⟨fun h k hk => by simpa only [andW, hk, if_true] using h k hk, fun h k hk => by have := h k hk; simpa only [andW, hk, if_true] using this⟩)
  rw [call_eq (fn := ir45) rfl, evF_bnd]
  simp (disch := omega) only [go_sem, doCall, doCallQ, Nat.reduceAdd, Nat.reduceMul, Nat.reduceSub, Nat.reduceDiv, Nat.reduceMod, Nat.reduceLT, Nat.reduceLeDiff, Nat.reduceEqDiff, Nat.reduceBEq, Nat.reduceBNe, Int.reduceToNat, Int.reduceLT, Int.reduceLE, Int.reduceEq, Int.reduceNe, Int.reduceAdd, Int.reduceSub, Int.reduceMul, Int.reduceNeg, bd45, q, hs, w65_len, w65_take, w65_drop, w65_plain, w65_box, w65_mlen, w65_refs, w65_owns, w65_view, w65_ren, Int.toNat_natCast, Nat.zero_add, Nat.mul_one, chk_of]
end Go.Proofs.Ytoipfdbdifoecaa
