/- The slices of an object as a set, and one index within another. Own work. -/
import Derived.Test.YtoipfdbdifoecaaBit2
import Derived.Test.YtoipfdbdifoecaaFloors
namespace Go.Proofs.Ytoipfdbdifoecaa
open Go Go.Ev Go.Proofs.Ytoipfdbdifoecaa.Ir
set_option maxRecDepth 100000
set_option maxHeartbeats 4000000
set_option linter.unusedSimpArgs false
set_option linter.unusedVariables false
def keysN (p : PM) : List Nat := (pmK p).map fun q => q.1.toNat
def okK (p : PM) : Prop := (pmK p).length ≤ 1000000 ∧ ∀ q ∈ pmK p, 0 ≤ q.1 ∧ q.1 ≤ 4096
theorem keysN_le {p : PM} (h : okK p) : ∀ i ∈ keysN p, i ≤ 4096 := by
  intro i hi
  obtain ⟨q, hq, rfl⟩ := List.mem_map.1 hi
  have := h.2 q hq
  omega
theorem keysN_len (p : PM) : (keysN p).length = (pmK p).length := List.length_map ..
theorem sortedA_pm (p : PM) : sortedA (pmD p) = some ((pmK p).map (·.1)) := by
  cases p with
  | none => rfl
  | some l => simp [pmD, pmK, sortedA, mpD]
theorem rows_keys {p : PM} (h : okK p) : intRows ((pmK p).map (·.1)) = natRows (keysN p) := by
  unfold intRows natRows keysN
  rw [List.map_map, List.map_map]
  refine List.map_congr_left fun q hq => ?_
  have := h.2 q hq
  show [D.int .i64 q.1] = [D.int .i64 (q.1.toNat : Int)]
  rw [Int.toNat_of_nonneg this.1]
theorem c_sorted (p : PM) (h : okK p) : call ir 42 [.clo (.func 62) [] [.ptr 0 0]] [.dbox [pmD p]] = some (.d (.list 1 (natRows (keysN p))), [.dbox [pmD p]]) := by
  rw [call_nat (by rfl)]
  show natOr _ _ _ _ _ = _
  have e := natSO_eq 42 62 (sortedA_pm p)
  rw [if_pos ⟨by rw [List.length_map]; exact h.1, fun k hk => by
    obtain ⟨q, hq, rfl⟩ := List.mem_map.1 hk
    have := h.2 q hq
    omega⟩, rows_keys h] at e
  unfold natOr
  rw [e]
theorem c_keys (p : PM) : call ir 43 [.d (pmD p)] [] = some (.clo (.func 62) [] [.ptr 0 0], [.dbox [pmD p]]) := by
  rw [call_eq (fn := ir43) rfl, evF_bnd]
  cases p <;> simp (disch := omega) only [go_sem, doCall, doCallQ, Nat.reduceAdd, Nat.reduceMul, Nat.reduceSub, Nat.reduceDiv, Nat.reduceMod, Nat.reduceLT, Nat.reduceLeDiff, Nat.reduceEqDiff, Nat.reduceBEq, Nat.reduceBNe, Int.reduceToNat, Int.reduceLT, Int.reduceLE, Int.reduceEq, Int.reduceNe, Int.reduceAdd, Int.reduceSub, Int.reduceMul, Int.reduceNeg, bd43, pmD]
theorem c_slices (x : Nat → Sl) (k : Nat) (hk : k < 16) (h : okK (x k).pm) : call ir 16 [.agg (idxD x), .d (.int .i64 k)] [] = some (.agg ((w65 (ofW (keysN (x k).pm))).map .d), []) := by
  have hs := c_slot x k
  rw [slF_in x hk] at hs
  have ck := c_keys (x k).pm
  have hc := c_sorted _ h
  have ho := c_of (keysN (x k).pm) (keysN_le h) (by rw [keysN_len]; exact h.1)
  rw [call_eq (fn := ir16) rfl, evF_bnd]
  simp (disch := omega) only [go_sem, doCall, doCallQ, Nat.reduceAdd, Nat.reduceMul, Nat.reduceSub, Nat.reduceDiv, Nat.reduceMod, Nat.reduceLT, Nat.reduceLeDiff, Nat.reduceEqDiff, Nat.reduceBEq, Nat.reduceBNe, Int.reduceToNat, Int.reduceLT, Int.reduceLE, Int.reduceEq, Int.reduceNe, Int.reduceAdd, Int.reduceSub, Int.reduceMul, Int.reduceNeg, bd16, hs, Sl.av, ck, hc, ho, natRows_len, w65_len, w65_take, w65_drop, w65_plain, w65_box, w65_mlen, w65_refs, w65_owns, w65_view, w65_ren, idxC_len, idxD_len, cs_len, av_len, map_cs, map_idx, idxC_take, idxC_drop, plain_av, plain_idx, box_idx, refs_av, owns_av, view_av, ren_av, refs_idx, owns_idx, view_idx, ren_idx, Int.toNat_natCast, Nat.zero_add, chk_of]
  try rfl
def subK (p q : PM) : Prop := ∀ i ∈ keysN p, i ∈ keysN q
instance (p q : PM) : Decidable (subK p q) := by unfold subK; infer_instance
def wi1 (s t : Sl) : Bool := decide (s.fl ≤ t.fl) && (!s.b || (decide (s.tick ≤ t.tick) && (t.b && ((s.o == t.o && (s.g == t.g && (s.tag == t.tag && s.len == t.len))) && decide (subK s.pm t.pm)))))
def wiK (x y : Nat → Sl) : Nat → Nat → Bool
  | 0, _ => true
  | n + 1, k => wi1 (x k) (y k) && wiK x y n (k + 1)
def okX (x : Nat → Sl) : Prop := ∀ k, k < 16 → okK (x k).pm
theorem lp_wi (x y : Nat → Sl) (hx : okX x) (hy : okX y) (K : Ex → St → Option (AV × Heap)) : ∀ (n k : Nat), n + k = 16 →
    bnd (evC (call ir) (loop ir) lp18_0 (st18_0 0 (.ptr 0 0) (.ptr 1 0) (.d (.int .i64 k)) [.dbox (idxC x), .dbox (idxC y)])) (lpC (call ir) (loop ir) [2, 3, 10] lp18_0 K) =
    if wiK x y n k = true then K (.exit 0) ⟨0, [.unk, .unk, .unk, .unk, .unk, .unk, .unk, .unk, .unk, .unk, .unk, .unk, .unk, .unk, .unk, .unk, .unk, .unk, .unk, .unk, .unk, .unk, .unk, .unk, .unk, .unk, .unk, .unk, .unk, .unk, .unk, .unk, .unk, .unk, .unk, .unk, .unk, .unk, .unk, .unk, .unk, .unk, .unk, .unk, .unk, .unk, .unk, .unk, .unk, .unk, .unk, .unk, .unk, .unk, .unk, .unk, .unk, .unk, .unk, .unk], []⟩ else K .ret ⟨0, [.unk, .unk, .unk, .unk, .d (.bool false), .unk, .unk, .unk, .unk, .unk, .unk, .unk, .unk, .unk, .unk, .unk, .unk, .unk, .unk, .unk, .unk, .unk, .unk, .unk, .unk, .unk, .unk, .unk, .unk, .unk, .unk, .unk, .unk, .unk, .unk, .unk, .unk, .unk, .unk, .unk, .unk, .unk, .unk, .unk, .unk, .unk, .unk, .unk, .unk, .unk, .unk, .unk, .unk, .unk, .unk, .unk, .unk, .unk, .unk, .unk], []⟩
  | 0, k, h => by
    obtain rfl : k = 16 := by omega
    simp (disch := omega) only [go_sem, doCall, doCallQ, Nat.reduceAdd, Nat.reduceMul, Nat.reduceSub, Nat.reduceDiv, Nat.reduceMod, Nat.reduceLT, Nat.reduceLeDiff, Nat.reduceEqDiff, Nat.reduceBEq, Nat.reduceBNe, Int.reduceToNat, Int.reduceLT, Int.reduceLE, Int.reduceEq, Int.reduceNe, Int.reduceAdd, Int.reduceSub, Int.reduceMul, Int.reduceNeg, u18_0, lb18_0]
    simp only [wiK, if_true]
  | n + 1, k, h => by
    have hk : k < 16 := by omega
    have h1 := eq_true (show (k : Int) < 16 by omega)
    have sx := slF_in x hk
    have sy := slF_in y hk
    have hw := wr_succ (i := k) (by omega)
    have cx := c_slices x k hk (hx k hk)
    have cy := c_slices y k hk (hy k hk)
    have cw := c_bwithin (ofW (keysN (x k).pm)) (ofW (keysN (y k).pm)) (decide (subK (x k).pm (y k).pm)) (decide_eq_true_iff.trans (within_of _ _ (keysN_le (hx k hk))).symm)
    have ih := lp_wi x y hx hy K n (k + 1) (by omega)
    have cut : ∀ b, wi1 (x k) (y k) = b → wiK x y (n + 1) k = (b && wiK x y n (k + 1)) := fun b h => by simp only [wiK, h]
    by_cases c1 : (x k).fl ≤ (y k).fl
    case neg =>
      have e1 := eq_true (show (y k).fl < (x k).fl by omega)
      simp (disch := omega) only [go_sem, doCall, doCallQ, Nat.reduceAdd, Nat.reduceMul, Nat.reduceSub, Nat.reduceDiv, Nat.reduceMod, Nat.reduceLT, Nat.reduceLeDiff, Nat.reduceEqDiff, Nat.reduceBEq, Nat.reduceBNe, Int.reduceToNat, Int.reduceLT, Int.reduceLE, Int.reduceEq, Int.reduceNe, Int.reduceAdd, Int.reduceSub, Int.reduceMul, Int.reduceNeg, u18_0, lb18_0, h1, c_iget, c_floor, sx, sy, e1, w65_len, w65_take, w65_drop, w65_plain, w65_box, w65_mlen, w65_refs, w65_owns, w65_view, w65_ren, idxC_len, idxD_len, cs_len, av_len, map_cs, map_idx, idxC_take, idxC_drop, plain_av, plain_idx, box_idx, refs_av, owns_av, view_av, ren_av, refs_idx, owns_idx, view_idx, ren_idx, Int.toNat_natCast, Nat.zero_add, chk_of]
      rw [cut false (by simp only [wi1, c1, decide_false, Bool.false_and])]
      rfl
    have e1 := eq_false (show ¬ (y k).fl < (x k).fl by omega)
    cases c2 : (x k).b
    · simp (disch := omega) only [go_sem, doCall, doCallQ, Nat.reduceAdd, Nat.reduceMul, Nat.reduceSub, Nat.reduceDiv, Nat.reduceMod, Nat.reduceLT, Nat.reduceLeDiff, Nat.reduceEqDiff, Nat.reduceBEq, Nat.reduceBNe, Int.reduceToNat, Int.reduceLT, Int.reduceLE, Int.reduceEq, Int.reduceNe, Int.reduceAdd, Int.reduceSub, Int.reduceMul, Int.reduceNeg, u18_0, lb18_0, h1, c_iget, c_floor, sx, sy, e1, c2, w65_len, w65_take, w65_drop, w65_plain, w65_box, w65_mlen, w65_refs, w65_owns, w65_view, w65_ren, idxC_len, idxD_len, cs_len, av_len, map_cs, map_idx, idxC_take, idxC_drop, plain_av, plain_idx, box_idx, refs_av, owns_av, view_av, ren_av, refs_idx, owns_idx, view_idx, ren_idx, Int.toNat_natCast, Nat.zero_add, chk_of]
      rw [cut true (by simp only [wi1, c1, c2, decide_true, Bool.not_false, Bool.true_or, Bool.and_true])]
      rw [loop_step1]
      simp only [go_sem, doCall, doCallQ, Nat.reduceAdd, Nat.reduceMul, Nat.reduceSub, Nat.reduceDiv, Nat.reduceMod, Nat.reduceLT, Nat.reduceLeDiff, Nat.reduceEqDiff, Nat.reduceBEq, Nat.reduceBNe, Int.reduceToNat, Int.reduceLT, Int.reduceLE, Int.reduceEq, Int.reduceNe, Int.reduceAdd, Int.reduceSub, Int.reduceMul, Int.reduceNeg, hw]
      simp only [go_sem, doCall, doCallQ, Nat.reduceAdd, Nat.reduceMul, Nat.reduceSub, Nat.reduceDiv, Nat.reduceMod, Nat.reduceLT, Nat.reduceLeDiff, Nat.reduceEqDiff, Nat.reduceBEq, Nat.reduceBNe, Int.reduceToNat, Int.reduceLT, Int.reduceLE, Int.reduceEq, Int.reduceNe, Int.reduceAdd, Int.reduceSub, Int.reduceMul, Int.reduceNeg] at ih
      exact ih
    by_cases c3 : (x k).tick ≤ (y k).tick
    case neg =>
      have e3 := eq_true (show (y k).tick < (x k).tick by omega)
      simp (disch := omega) only [go_sem, doCall, doCallQ, Nat.reduceAdd, Nat.reduceMul, Nat.reduceSub, Nat.reduceDiv, Nat.reduceMod, Nat.reduceLT, Nat.reduceLeDiff, Nat.reduceEqDiff, Nat.reduceBEq, Nat.reduceBNe, Int.reduceToNat, Int.reduceLT, Int.reduceLE, Int.reduceEq, Int.reduceNe, Int.reduceAdd, Int.reduceSub, Int.reduceMul, Int.reduceNeg, u18_0, lb18_0, h1, c_iget, c_floor, sx, sy, e1, c2, e3, w65_len, w65_take, w65_drop, w65_plain, w65_box, w65_mlen, w65_refs, w65_owns, w65_view, w65_ren, idxC_len, idxD_len, cs_len, av_len, map_cs, map_idx, idxC_take, idxC_drop, plain_av, plain_idx, box_idx, refs_av, owns_av, view_av, ren_av, refs_idx, owns_idx, view_idx, ren_idx, Int.toNat_natCast, Nat.zero_add, chk_of]
      rw [cut false (by simp only [wi1, c1, c2, c3, decide_false, decide_true, Bool.false_and, Bool.not_true, Bool.false_or, Bool.and_false])]
      rfl
    have e3 := eq_false (show ¬ (y k).tick < (x k).tick by omega)
    cases c4 : (y k).b
    · simp (disch := omega) only [go_sem, doCall, doCallQ, Nat.reduceAdd, Nat.reduceMul, Nat.reduceSub, Nat.reduceDiv, Nat.reduceMod, Nat.reduceLT, Nat.reduceLeDiff, Nat.reduceEqDiff, Nat.reduceBEq, Nat.reduceBNe, Int.reduceToNat, Int.reduceLT, Int.reduceLE, Int.reduceEq, Int.reduceNe, Int.reduceAdd, Int.reduceSub, Int.reduceMul, Int.reduceNeg, u18_0, lb18_0, h1, c_iget, c_floor, sx, sy, e1, c2, e3, c4, w65_len, w65_take, w65_drop, w65_plain, w65_box, w65_mlen, w65_refs, w65_owns, w65_view, w65_ren, idxC_len, idxD_len, cs_len, av_len, map_cs, map_idx, idxC_take, idxC_drop, plain_av, plain_idx, box_idx, refs_av, owns_av, view_av, ren_av, refs_idx, owns_idx, view_idx, ren_idx, Int.toNat_natCast, Nat.zero_add, chk_of]
      rw [cut false (by simp only [wi1, c4, Bool.false_and, Bool.and_false, c2, Bool.not_true, Bool.false_or])]
      rfl
    cases c5 : ((x k).o == (y k).o && ((x k).g == (y k).g && ((x k).tag == (y k).tag && (x k).len == (y k).len)))
    · simp (disch := omega) only [go_sem, doCall, doCallQ, Nat.reduceAdd, Nat.reduceMul, Nat.reduceSub, Nat.reduceDiv, Nat.reduceMod, Nat.reduceLT, Nat.reduceLeDiff, Nat.reduceEqDiff, Nat.reduceBEq, Nat.reduceBNe, Int.reduceToNat, Int.reduceLT, Int.reduceLE, Int.reduceEq, Int.reduceNe, Int.reduceAdd, Int.reduceSub, Int.reduceMul, Int.reduceNeg, u18_0, lb18_0, h1, c_iget, c_floor, sx, sy, e1, c2, e3, c4, c5, beq_self_eq_true, Bool.and_true, w65_len, w65_take, w65_drop, w65_plain, w65_box, w65_mlen, w65_refs, w65_owns, w65_view, w65_ren, idxC_len, idxD_len, cs_len, av_len, map_cs, map_idx, idxC_take, idxC_drop, plain_av, plain_idx, box_idx, refs_av, owns_av, view_av, ren_av, refs_idx, owns_idx, view_idx, ren_idx, Int.toNat_natCast, Nat.zero_add, chk_of]
      rw [cut false (by simp only [wi1, c2, c4, c5, Bool.false_and, Bool.and_false, Bool.not_true, Bool.false_or])]
      rfl
    by_cases c6 : subK (x k).pm (y k).pm
    case neg =>
      rw [decide_eq_false c6] at cw
      simp (disch := omega) only [go_sem, doCall, doCallQ, Nat.reduceAdd, Nat.reduceMul, Nat.reduceSub, Nat.reduceDiv, Nat.reduceMod, Nat.reduceLT, Nat.reduceLeDiff, Nat.reduceEqDiff, Nat.reduceBEq, Nat.reduceBNe, Int.reduceToNat, Int.reduceLT, Int.reduceLE, Int.reduceEq, Int.reduceNe, Int.reduceAdd, Int.reduceSub, Int.reduceMul, Int.reduceNeg, u18_0, lb18_0, h1, c_iget, c_floor, sx, sy, e1, c2, e3, c4, c5, beq_self_eq_true, Bool.and_true, cx, cy, cw, w65_len, w65_take, w65_drop, w65_plain, w65_box, w65_mlen, w65_refs, w65_owns, w65_view, w65_ren, idxC_len, idxD_len, cs_len, av_len, map_cs, map_idx, idxC_take, idxC_drop, plain_av, plain_idx, box_idx, refs_av, owns_av, view_av, ren_av, refs_idx, owns_idx, view_idx, ren_idx, Int.toNat_natCast, Nat.zero_add, chk_of]
      rw [cut false (by simp only [wi1, c6, decide_false, Bool.false_and, Bool.and_false, c2, Bool.not_true, Bool.false_or])]
      rfl
    rw [decide_eq_true c6] at cw
    simp (disch := omega) only [go_sem, doCall, doCallQ, Nat.reduceAdd, Nat.reduceMul, Nat.reduceSub, Nat.reduceDiv, Nat.reduceMod, Nat.reduceLT, Nat.reduceLeDiff, Nat.reduceEqDiff, Nat.reduceBEq, Nat.reduceBNe, Int.reduceToNat, Int.reduceLT, Int.reduceLE, Int.reduceEq, Int.reduceNe, Int.reduceAdd, Int.reduceSub, Int.reduceMul, Int.reduceNeg, u18_0, lb18_0, h1, c_iget, c_floor, sx, sy, e1, c2, e3, c4, c5, beq_self_eq_true, Bool.and_true, cx, cy, cw, w65_len, w65_take, w65_drop, w65_plain, w65_box, w65_mlen, w65_refs, w65_owns, w65_view, w65_ren, idxC_len, idxD_len, cs_len, av_len, map_cs, map_idx, idxC_take, idxC_drop, plain_av, plain_idx, box_idx, refs_av, owns_av, view_av, ren_av, refs_idx, owns_idx, view_idx, ren_idx, Int.toNat_natCast, Nat.zero_add, chk_of]
    rw [cut true (by simp only [wi1, c1, c2, c3, c4, c5, c6, decide_true, Bool.not_true, Bool.false_or, Bool.and_true])]
    rw [loop_step1]
    simp only [go_sem, doCall, doCallQ, Nat.reduceAdd, Nat.reduceMul, Nat.reduceSub, Nat.reduceDiv, Nat.reduceMod, Nat.reduceLT, Nat.reduceLeDiff, Nat.reduceEqDiff, Nat.reduceBEq, Nat.reduceBNe, Int.reduceToNat, Int.reduceLT, Int.reduceLE, Int.reduceEq, Int.reduceNe, Int.reduceAdd, Int.reduceSub, Int.reduceMul, Int.reduceNeg, hw]
    simp only [go_sem, doCall, doCallQ, Nat.reduceAdd, Nat.reduceMul, Nat.reduceSub, Nat.reduceDiv, Nat.reduceMod, Nat.reduceLT, Nat.reduceLeDiff, Nat.reduceEqDiff, Nat.reduceBEq, Nat.reduceBNe, Int.reduceToNat, Int.reduceLT, Int.reduceLE, Int.reduceEq, Int.reduceNe, Int.reduceAdd, Int.reduceSub, Int.reduceMul, Int.reduceNeg] at ih
    exact ih
theorem c_rwithin (x y : Nat → Sl) (hx : okX x) (hy : okX y) : call ir 18 [.agg (idxD x), .agg (idxD y)] [] = some (.d (.bool (wiK x y 16 0)), []) := by
  rw [call_eq (fn := ir18) rfl, evF_bnd]
  simp (disch := omega) only [go_sem, doCall, doCallQ, Nat.reduceAdd, Nat.reduceMul, Nat.reduceSub, Nat.reduceDiv, Nat.reduceMod, Nat.reduceLT, Nat.reduceLeDiff, Nat.reduceEqDiff, Nat.reduceBEq, Nat.reduceBNe, Int.reduceToNat, Int.reduceLT, Int.reduceLE, Int.reduceEq, Int.reduceNe, Int.reduceAdd, Int.reduceSub, Int.reduceMul, Int.reduceNeg, bd18, idxC_len, idxD_len, cs_len, av_len, map_cs, map_idx, idxC_take, idxC_drop, plain_av, plain_idx, box_idx, refs_av, owns_av, view_av, ren_av, refs_idx, owns_idx, view_idx, ren_idx, Int.toNat_natCast, Nat.zero_add, chk_of]
  rw [loop_step1]
  simp only [go_sem, doCall, doCallQ, Nat.reduceAdd, Nat.reduceMul, Nat.reduceSub, Nat.reduceDiv, Nat.reduceMod, Nat.reduceLT, Nat.reduceLeDiff, Nat.reduceEqDiff, Nat.reduceBEq, Nat.reduceBNe, Int.reduceToNat, Int.reduceLT, Int.reduceLE, Int.reduceEq, Int.reduceNe, Int.reduceAdd, Int.reduceSub, Int.reduceMul, Int.reduceNeg]
  refine (lp_wi x y hx hy _ 16 0 rfl).trans ?_
  cases hb : wiK x y 16 0
  · simp only [Bool.false_eq_true, if_false]
    simp (disch := omega) only [go_sem, doCall, doCallQ, Nat.reduceAdd, Nat.reduceMul, Nat.reduceSub, Nat.reduceDiv, Nat.reduceMod, Nat.reduceLT, Nat.reduceLeDiff, Nat.reduceEqDiff, Nat.reduceBEq, Nat.reduceBNe, Int.reduceToNat, Int.reduceLT, Int.reduceLE, Int.reduceEq, Int.reduceNe, Int.reduceAdd, Int.reduceSub, Int.reduceMul, Int.reduceNeg]
    try rfl
  · simp only [if_true]
    simp (disch := omega) only [go_sem, doCall, doCallQ, Nat.reduceAdd, Nat.reduceMul, Nat.reduceSub, Nat.reduceDiv, Nat.reduceMod, Nat.reduceLT, Nat.reduceLeDiff, Nat.reduceEqDiff, Nat.reduceBEq, Nat.reduceBNe, Int.reduceToNat, Int.reduceLT, Int.reduceLE, Int.reduceEq, Int.reduceNe, Int.reduceAdd, Int.reduceSub, Int.reduceMul, Int.reduceNeg]
    try rfl
end Go.Proofs.Ytoipfdbdifoecaa
