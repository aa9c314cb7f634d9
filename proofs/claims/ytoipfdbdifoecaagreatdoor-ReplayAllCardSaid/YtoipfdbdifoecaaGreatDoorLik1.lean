/- Lists of whole numbers alike; what an index tells more: its last generation, its places, its objects. Own work. The places and the objects of an index. Own work. -/
import Derived.Test.YtoipfdbdifoecaaGreatDoorBitS
namespace Go.Proofs.YtoipfdbdifoecaaGreatDoor
open Go Go.Ev Go.Proofs.YtoipfdbdifoecaaGreatDoor.Ir
set_option maxRecDepth 100000
set_option maxHeartbeats 4000000
set_option linter.unusedSimpArgs false
set_option linter.unusedVariables false
theorem c_last (x : Nat → Sl) (o : Int) : call ir 24 [.agg (idxD x), .d (.int .i64 o)] [] = some (.d (.int .i64 (max (slF x o).fl (slF x o).g)), []) := by
  rw [call_eq (fn := ir24) rfl, evF_bnd]
  simp (maxSteps := 2000000) (disch := omega) only [go_sem, doCall, doCallQ, Nat.reduceAdd, Nat.reduceMul, Nat.reduceSub, Nat.reduceDiv, Nat.reduceMod, Nat.reduceLT, Nat.reduceLeDiff, Nat.reduceEqDiff, Nat.reduceBEq, Nat.reduceBNe, Int.reduceToNat, Int.reduceLT, Int.reduceLE, Int.reduceEq, Int.reduceNe, Int.reduceAdd, Int.reduceSub, Int.reduceMul, Int.reduceNeg, bd24, c_slot, Sl.av, idxC_len, idxD_len, cs_len, av_len, map_cs, map_idx, idxC_take, idxC_drop, plain_av, plain_idx, box_idx, refs_av, owns_av, view_av, ren_av, refs_idx, owns_idx, view_idx, ren_idx, Int.toNat_natCast, Nat.zero_add, chk_of]
def iRows (l : List Int) : List (List D) := l.map fun i => [.int .i64 i]
theorem iRows_len (l : List Int) : (iRows l).length = l.length := List.length_map ..
theorem iRows_get (l : List Int) {j : Nat} (h : j < l.length) : (iRows l).getD j [] = [.int .i64 l[j]] := by simp [iRows, List.getD_eq_getElem?_getD, h]
theorem lp_ints (l r : List Int) (hl : l.length ≤ 1000000) (hlr : l.length = r.length) (j : Nat) (hj : j ≤ l.length) :
    bnd (evC (call ir) (loop ir) lp27_0 (st27_0 0 (.d (.list 1 (iRows l))) (.d (.list 1 (iRows r))) (.d (.int .i64 l.length)) (.d (.int .i64 j)) []))
      (lpC (call ir) (loop ir) [0, 1, 12, 13] lp27_0 (bk 0 (sq (call ir) (loop ir) (.seq (.reg [⟨some 4, none, .mv (.c (.d (.bool true))), .none⟩]) (.ret none)) (fin ir27)))) =
    some (.d (.bool (decide (l.drop j = r.drop j))), []) := by
  have hll := iRows_len l
  have hrl := iRows_len r
  by_cases h : j = l.length
  · have hx : ¬ (j : Int) < l.length := by omega
    have e : l.drop j = r.drop j := by rw [List.drop_eq_nil_of_le (by omega), List.drop_eq_nil_of_le (by omega)]
    rw [decide_eq_true e]
    simp (maxSteps := 2000000) (disch := omega) only [go_sem, doCall, doCallQ, Nat.reduceAdd, Nat.reduceMul, Nat.reduceSub, Nat.reduceDiv, Nat.reduceMod, Nat.reduceLT, Nat.reduceLeDiff, Nat.reduceEqDiff, Nat.reduceBEq, Nat.reduceBNe, Int.reduceToNat, Int.reduceLT, Int.reduceLE, Int.reduceEq, Int.reduceNe, Int.reduceAdd, Int.reduceSub, Int.reduceMul, Int.reduceNeg, u27_0, lb27_0, hx]
  · have hlt : (j : Int) < l.length := by omega
    have hj' : j < l.length := by omega
    have hjr : j < r.length := by omega
    have hw := wr_succ (i := j) (by omega)
    have ga := iRows_get l hj'
    have gb := iRows_get r hjr
    have e : (l.drop j = r.drop j) ↔ (l[j] = r[j] ∧ l.drop (j + 1) = r.drop (j + 1)) := by
      rw [List.drop_eq_getElem_cons hj', List.drop_eq_getElem_cons hjr, List.cons.injEq]
    have ih := lp_ints l r hl hlr (j + 1) (by omega)
    by_cases c : l[j] = r[j]
    · have e2 : decide (l.drop j = r.drop j) = decide (l.drop (j + 1) = r.drop (j + 1)) := by rw [decide_eq_decide, e]; simp [c]
      rw [e2]
      simp (maxSteps := 2000000) (disch := omega) only [go_sem, doCall, doCallQ, Nat.reduceAdd, Nat.reduceMul, Nat.reduceSub, Nat.reduceDiv, Nat.reduceMod, Nat.reduceLT, Nat.reduceLeDiff, Nat.reduceEqDiff, Nat.reduceBEq, Nat.reduceBNe, Int.reduceToNat, Int.reduceLT, Int.reduceLE, Int.reduceEq, Int.reduceNe, Int.reduceAdd, Int.reduceSub, Int.reduceMul, Int.reduceNeg, u27_0, lb27_0, hlt, ga, gb, hll, hrl, hjr, eq_true c, Int.toNat_natCast, chk_of]
      rw [loop_step1]
      simp (maxSteps := 2000000) only [go_sem, doCall, doCallQ, Nat.reduceAdd, Nat.reduceMul, Nat.reduceSub, Nat.reduceDiv, Nat.reduceMod, Nat.reduceLT, Nat.reduceLeDiff, Nat.reduceEqDiff, Nat.reduceBEq, Nat.reduceBNe, Int.reduceToNat, Int.reduceLT, Int.reduceLE, Int.reduceEq, Int.reduceNe, Int.reduceAdd, Int.reduceSub, Int.reduceMul, Int.reduceNeg, hw]
      try simp (maxSteps := 2000000) only [go_sem, doCall, doCallQ, Nat.reduceAdd, Nat.reduceMul, Nat.reduceSub, Nat.reduceDiv, Nat.reduceMod, Nat.reduceLT, Nat.reduceLeDiff, Nat.reduceEqDiff, Nat.reduceBEq, Nat.reduceBNe, Int.reduceToNat, Int.reduceLT, Int.reduceLE, Int.reduceEq, Int.reduceNe, Int.reduceAdd, Int.reduceSub, Int.reduceMul, Int.reduceNeg] at ih
      exact ih
    · have e2 : decide (l.drop j = r.drop j) = false := by rw [decide_eq_false_iff_not, e]; simp [c]
      rw [e2]
      simp (maxSteps := 2000000) (disch := omega) only [go_sem, doCall, doCallQ, Nat.reduceAdd, Nat.reduceMul, Nat.reduceSub, Nat.reduceDiv, Nat.reduceMod, Nat.reduceLT, Nat.reduceLeDiff, Nat.reduceEqDiff, Nat.reduceBEq, Nat.reduceBNe, Int.reduceToNat, Int.reduceLT, Int.reduceLE, Int.reduceEq, Int.reduceNe, Int.reduceAdd, Int.reduceSub, Int.reduceMul, Int.reduceNeg, u27_0, lb27_0, hlt, ga, gb, hll, hrl, hjr, eq_false c, Int.toNat_natCast, chk_of]
termination_by l.length - j
theorem c_ints (l r : List Int) (hl : l.length ≤ 1000000) (hr : r.length ≤ 1000000) : call ir 27 [.d (.list 1 (iRows l)), .d (.list 1 (iRows r))] [] = some (.d (.bool (decide (l = r))), []) := by
  have hll := iRows_len l
  have hrl := iRows_len r
  rw [call_eq (fn := ir27) rfl, evF_bnd]
  by_cases c : l.length = r.length
  · have c1 := eq_true (show (l.length : Int) = r.length by omega)
    simp (maxSteps := 2000000) (disch := omega) only [go_sem, doCall, doCallQ, Nat.reduceAdd, Nat.reduceMul, Nat.reduceSub, Nat.reduceDiv, Nat.reduceMod, Nat.reduceLT, Nat.reduceLeDiff, Nat.reduceEqDiff, Nat.reduceBEq, Nat.reduceBNe, Int.reduceToNat, Int.reduceLT, Int.reduceLE, Int.reduceEq, Int.reduceNe, Int.reduceAdd, Int.reduceSub, Int.reduceMul, Int.reduceNeg, bd27, hll, hrl, c1]
    rw [loop_step1]
    simp (maxSteps := 2000000) only [go_sem, doCall, doCallQ, Nat.reduceAdd, Nat.reduceMul, Nat.reduceSub, Nat.reduceDiv, Nat.reduceMod, Nat.reduceLT, Nat.reduceLeDiff, Nat.reduceEqDiff, Nat.reduceBEq, Nat.reduceBNe, Int.reduceToNat, Int.reduceLT, Int.reduceLE, Int.reduceEq, Int.reduceNe, Int.reduceAdd, Int.reduceSub, Int.reduceMul, Int.reduceNeg]
    have h := lp_ints l r hl c 0 (Nat.zero_le _)
    simp only [List.drop_zero] at h
    try simp (maxSteps := 2000000) only [go_sem, doCall, doCallQ, Nat.reduceAdd, Nat.reduceMul, Nat.reduceSub, Nat.reduceDiv, Nat.reduceMod, Nat.reduceLT, Nat.reduceLeDiff, Nat.reduceEqDiff, Nat.reduceBEq, Nat.reduceBNe, Int.reduceToNat, Int.reduceLT, Int.reduceLE, Int.reduceEq, Int.reduceNe, Int.reduceAdd, Int.reduceSub, Int.reduceMul, Int.reduceNeg] at h
    exact h
  · have c1 := eq_false (show ¬ (l.length : Int) = r.length by omega)
    have e : decide (l = r) = false := by rw [decide_eq_false_iff_not]; intro h; exact c (by rw [h])
    rw [e]
    simp (maxSteps := 2000000) (disch := omega) only [go_sem, doCall, doCallQ, Nat.reduceAdd, Nat.reduceMul, Nat.reduceSub, Nat.reduceDiv, Nat.reduceMod, Nat.reduceLT, Nat.reduceLeDiff, Nat.reduceEqDiff, Nat.reduceBEq, Nat.reduceBNe, Int.reduceToNat, Int.reduceLT, Int.reduceLE, Int.reduceEq, Int.reduceNe, Int.reduceAdd, Int.reduceSub, Int.reduceMul, Int.reduceNeg, bd27, hll, hrl, c1]
end Go.Proofs.YtoipfdbdifoecaaGreatDoor
namespace Go.Proofs.YtoipfdbdifoecaaGreatDoor
open Go Go.Ev Go.Proofs.YtoipfdbdifoecaaGreatDoor.Ir
set_option maxRecDepth 100000
set_option maxHeartbeats 4000000
set_option linter.unusedSimpArgs false
set_option linter.unusedVariables false
theorem findM_get : ∀ {l : List (Int × Int × Int)} (hs : SrtM l) {j : Nat} (hj : j < l.length), findM l[j].1 l = some l[j].2
  | [], _, j, hj => by simp at hj
  | (a, d) :: l, hs, 0, hj => by simp [findM]
  | (a, d) :: l, hs, j + 1, hj => by
    have hs' := List.pairwise_cons.1 hs
    have hj' : j < l.length := by simpa using hj
    have h := hs'.1 l[j] (List.getElem_mem hj')
    simp only at h
    have hne : ¬ a = l[j].1 := by omega
    show findM l[j].1 ((a, d) :: l) = some l[j].2
    rw [findM, if_neg (by omega)]
    exact findM_get hs'.2 hj'
def plR (l : List (Int × Int × Int)) : List (List D) := l.map fun p => [.int .i64 p.2.1, .int .i64 p.2.2]
theorem plR_len (l : List (Int × Int × Int)) : (plR l).length = l.length := List.length_map ..
theorem plR_get (l : List (Int × Int × Int)) {j : Nat} (h : j < l.length) : (plR l).getD j [] = [.int .i64 l[j].2.1, .int .i64 l[j].2.2] := by simp [plR, List.getD_eq_getElem?_getD, h]
theorem plR_succ (l : List (Int × Int × Int)) {j : Nat} (h : j < l.length) : plR (l.take (j + 1)) = plR (l.take j) ++ [[.int .i64 l[j].2.1, .int .i64 l[j].2.2]] := by
  rw [List.take_add_one, List.getElem?_eq_getElem h]; simp only [plR, List.map_append, Option.toList_some, List.map_cons, List.map_nil]
theorem keysN_get (p : PM) (h : okK p) {j : Nat} (hj : j < (pmK p).length) (hj2 : j < (keysN p).length) : (((keysN p)[j] : Nat) : Int) = (pmK p)[j].1 := by
  have := h.2 _ (List.getElem_mem hj)
  simp only [keysN, List.getElem_map]
  omega
theorem c_slicesF (x : Nat → Sl) (o : Int) (h : okK (slF x o).pm) : call ir 28 [.agg (idxD x), .d (.int .i64 o)] [] = some (.agg ((w65 (ofW (keysN (slF x o).pm))).map .d), []) := by
  have hs := c_slot x o
  have ck := c_keys (slF x o).pm
  have hc := c_sorted _ h
  have ho := c_of (keysN (slF x o).pm) (keysN_le h) (by rw [keysN_len]; exact h.1)
  rw [call_eq (fn := ir28) rfl, evF_bnd]
  simp (maxSteps := 2000000) (disch := omega) only [go_sem, doCall, doCallQ, Nat.reduceAdd, Nat.reduceMul, Nat.reduceSub, Nat.reduceDiv, Nat.reduceMod, Nat.reduceLT, Nat.reduceLeDiff, Nat.reduceEqDiff, Nat.reduceBEq, Nat.reduceBNe, Int.reduceToNat, Int.reduceLT, Int.reduceLE, Int.reduceEq, Int.reduceNe, Int.reduceAdd, Int.reduceSub, Int.reduceMul, Int.reduceNeg, bd28, hs, Sl.av, ck, hc, ho, natRows_len, w65_len, w65_take, w65_drop, w65_plain, w65_box, w65_mlen, w65_refs, w65_owns, w65_view, w65_ren, idxC_len, idxD_len, cs_len, av_len, map_cs, map_idx, idxC_take, idxC_drop, plain_av, plain_idx, box_idx, refs_av, owns_av, view_av, ren_av, refs_idx, owns_idx, view_idx, ren_idx, Int.toNat_natCast, Nat.zero_add, chk_of]
  try rfl
theorem lp_places (x : Nat → Sl) (o : Int) (h : okK (slF x o).pm) (hs : SrtM (pmK (slF x o).pm)) (K : Ex → St → Option (AV × Heap)) (j : Nat) (hj : j ≤ (pmK (slF x o).pm).length) (fr : Bool) :
    bnd (evC (call ir) (loop ir) lp25_0 (st25_0 0 (.own 0 2 0 j false) (.ptr 1 0) (.d (.list 1 (natRows (keysN (slF x o).pm)))) (.d (.int .i64 (keysN (slF x o).pm).length)) (.d (.int .i64 j)) [.arr 2 (plR ((pmK (slF x o).pm).take j)), .dbox (slF x o).cs]))
      (lpC (call ir) (loop ir) [5, 6, 15, 16, 17] lp25_0 K) =
    K (.exit 0) (clean [5] (st25_0 0 (.own 0 2 0 (pmK (slF x o).pm).length false) .unk .unk .unk .unk [.arr 2 (plR (pmK (slF x o).pm))])) := by
  have hkl := keysN_len (slF x o).pm
  have hnl := natRows_len (keysN (slF x o).pm)
  have hlen := h.1
  by_cases hx : j = (pmK (slF x o).pm).length
  · have h1 := eq_false (show ¬ (j : Int) < ((keysN (slF x o).pm).length : Nat) by omega)
    have ht : (pmK (slF x o).pm).take j = pmK (slF x o).pm := List.take_of_length_le (by omega)
    rw [ht, hx]
    rw [hx] at h1
    simp (maxSteps := 2000000) (disch := omega) only [go_sem, doCall, doCallQ, Nat.reduceAdd, Nat.reduceMul, Nat.reduceSub, Nat.reduceDiv, Nat.reduceMod, Nat.reduceLT, Nat.reduceLeDiff, Nat.reduceEqDiff, Nat.reduceBEq, Nat.reduceBNe, Int.reduceToNat, Int.reduceLT, Int.reduceLE, Int.reduceEq, Int.reduceNe, Int.reduceAdd, Int.reduceSub, Int.reduceMul, Int.reduceNeg, u25_0, lb25_0, h1, Sl.cs, idxC_len, idxD_len, cs_len, av_len, map_cs, map_idx, idxC_take, idxC_drop, plain_av, plain_idx, box_idx, refs_av, owns_av, view_av, ren_av, refs_idx, owns_idx, view_idx, ren_idx, Int.toNat_natCast, Nat.zero_add, chk_of]
  · have hj' : j < (pmK (slF x o).pm).length := by omega
    have hj2 : j < (keysN (slF x o).pm).length := by omega
    have h1 := eq_true (show (j : Int) < ((keysN (slF x o).pm).length : Nat) by omega)
    have hw := wr_succ (i := j) (by omega)
    have hr := natRows_get (keysN (slF x o).pm) hj2
    have hk := keysN_get _ h hj' hj2
    rw [hk] at hr
    have hf := findM_get hs hj'
    have hp := plR_succ (pmK (slF x o).pm) hj'
    have hl : (plR ((pmK (slF x o).pm).take j)).length = j := by rw [plR_len, List.length_take]; omega
    have t0 : List.take j (plR ((pmK (slF x o).pm).take j)) = plR ((pmK (slF x o).pm).take j) := List.take_of_length_le (by omega)
    have ih := lp_places x o h hs K (j + 1) (by omega) fr
    rw [hp] at ih
    cases hq : (slF x o).pm with
    | none => rw [hq] at hj'; simp [pmK] at hj'
    | some m =>
      have hm : pmK (slF x o).pm = m := by rw [hq]; rfl
      have hfm : findM (pmK (slF x o).pm)[j].1 (mpD m) = some (adD (pmK (slF x o).pm)[j].2) := by
        rw [find_mpD, ← hm, hf]; rfl
      have hgm : pmD (slF x o).pm = .mapv (mpD m) := by rw [hq]; rfl
      rw [← hq]
      simp (maxSteps := 2000000) (disch := omega) only [go_sem, doCall, doCallQ, Nat.reduceAdd, Nat.reduceMul, Nat.reduceSub, Nat.reduceDiv, Nat.reduceMod, Nat.reduceLT, Nat.reduceLeDiff, Nat.reduceEqDiff, Nat.reduceBEq, Nat.reduceBNe, Int.reduceToNat, Int.reduceLT, Int.reduceLE, Int.reduceEq, Int.reduceNe, Int.reduceAdd, Int.reduceSub, Int.reduceMul, Int.reduceNeg, u25_0, lb25_0, h1, hr, hnl, hgm, hfm, adD, hl, t0, Sl.cs, Nat.le_refl, List.drop_zero, idxC_len, idxD_len, cs_len, av_len, map_cs, map_idx, idxC_take, idxC_drop, plain_av, plain_idx, box_idx, refs_av, owns_av, view_av, ren_av, refs_idx, owns_idx, view_idx, ren_idx, Int.toNat_natCast, Nat.zero_add, chk_of]
      rw [loop_step1]
      simp (maxSteps := 2000000) only [go_sem, doCall, doCallQ, Nat.reduceAdd, Nat.reduceMul, Nat.reduceSub, Nat.reduceDiv, Nat.reduceMod, Nat.reduceLT, Nat.reduceLeDiff, Nat.reduceEqDiff, Nat.reduceBEq, Nat.reduceBNe, Int.reduceToNat, Int.reduceLT, Int.reduceLE, Int.reduceEq, Int.reduceNe, Int.reduceAdd, Int.reduceSub, Int.reduceMul, Int.reduceNeg, hw]
      simp only [Sl.cs, hgm] at ih
      try simp (maxSteps := 2000000) only [go_sem, doCall, doCallQ, Nat.reduceAdd, Nat.reduceMul, Nat.reduceSub, Nat.reduceDiv, Nat.reduceMod, Nat.reduceLT, Nat.reduceLeDiff, Nat.reduceEqDiff, Nat.reduceBEq, Nat.reduceBNe, Int.reduceToNat, Int.reduceLT, Int.reduceLE, Int.reduceEq, Int.reduceNe, Int.reduceAdd, Int.reduceSub, Int.reduceMul, Int.reduceNeg] at ih
      exact ih
termination_by (pmK (slF x o).pm).length - j
theorem c_places (x : Nat → Sl) (o : Int) (h : okK (slF x o).pm) (hs : SrtM (pmK (slF x o).pm)) : call ir 25 [.agg (idxD x), .d (.int .i64 o)] [] = some (.own 0 2 0 (pmK (slF x o).pm).length false, [.arr 2 (plR (pmK (slF x o).pm))]) := by
  have hc1 := c_slot x o
  have ck := c_keys (slF x o).pm
  have hc := c_sorted _ h
  have hl := plR_len (pmK (slF x o).pm)
  have t0 : List.take (pmK (slF x o).pm).length (plR (pmK (slF x o).pm)) = plR (pmK (slF x o).pm) := List.take_of_length_le (by omega)
  rw [call_eq (fn := ir25) rfl, evF_bnd]
  simp (maxSteps := 2000000) (disch := omega) only [go_sem, doCall, doCallQ, Nat.reduceAdd, Nat.reduceMul, Nat.reduceSub, Nat.reduceDiv, Nat.reduceMod, Nat.reduceLT, Nat.reduceLeDiff, Nat.reduceEqDiff, Nat.reduceBEq, Nat.reduceBNe, Int.reduceToNat, Int.reduceLT, Int.reduceLE, Int.reduceEq, Int.reduceNe, Int.reduceAdd, Int.reduceSub, Int.reduceMul, Int.reduceNeg, bd25, hc1, Sl.av, ck, hc, natRows_len, idxC_len, idxD_len, cs_len, av_len, map_cs, map_idx, idxC_take, idxC_drop, plain_av, plain_idx, box_idx, refs_av, owns_av, view_av, ren_av, refs_idx, owns_idx, view_idx, ren_idx, Int.toNat_natCast, Nat.zero_add, chk_of]
  rw [loop_step1]
  simp (maxSteps := 2000000) only [go_sem, doCall, doCallQ, Nat.reduceAdd, Nat.reduceMul, Nat.reduceSub, Nat.reduceDiv, Nat.reduceMod, Nat.reduceLT, Nat.reduceLeDiff, Nat.reduceEqDiff, Nat.reduceBEq, Nat.reduceBNe, Int.reduceToNat, Int.reduceLT, Int.reduceLE, Int.reduceEq, Int.reduceNe, Int.reduceAdd, Int.reduceSub, Int.reduceMul, Int.reduceNeg]
  refine (lp_places x o h hs _ 0 (Nat.zero_le _) true).trans ?_
  simp (maxSteps := 2000000) (disch := omega) only [go_sem, doCall, doCallQ, Nat.reduceAdd, Nat.reduceMul, Nat.reduceSub, Nat.reduceDiv, Nat.reduceMod, Nat.reduceLT, Nat.reduceLeDiff, Nat.reduceEqDiff, Nat.reduceBEq, Nat.reduceBNe, Int.reduceToNat, Int.reduceLT, Int.reduceLE, Int.reduceEq, Int.reduceNe, Int.reduceAdd, Int.reduceSub, Int.reduceMul, Int.reduceNeg, hl, t0, List.drop_zero, idxC_len, idxD_len, cs_len, av_len, map_cs, map_idx, idxC_take, idxC_drop, plain_av, plain_idx, box_idx, refs_av, owns_av, view_av, ren_av, refs_idx, owns_idx, view_idx, ren_idx, Int.toNat_natCast, Nat.zero_add, chk_of]
def objL (x : Nat → Sl) (k : Nat) : List Int := ((List.range k).filter fun (j : Nat) => (slF x (j : Int)).b).map fun (j : Nat) => (j : Int)
theorem objL_succ (x : Nat → Sl) (k : Nat) : objL x (k + 1) = if (slF x (k : Int)).b = true then objL x k ++ [(k : Int)] else objL x k := by
  unfold objL
  rw [List.range_succ, List.filter_append, List.map_append]
  split
  · rename_i h; simp [h]
  · rename_i h; simp [h]
theorem objL_le (x : Nat → Sl) (k : Nat) : (objL x k).length ≤ k := by
  unfold objL
  rw [List.length_map]
  exact Nat.le_trans (List.length_filter_le ..) (by simp)
theorem iRows_app (l : List Int) (a : Int) : iRows (l ++ [a]) = iRows l ++ [[.int .i64 a]] := by simp [iRows]
theorem get_idxD (x : Nat → Sl) : ∀ k, k < 16 → ((idxD x).drop (k * 12)).take 12 = (x k).av
  | 0, _ => rfl | 1, _ => rfl | 2, _ => rfl | 3, _ => rfl | 4, _ => rfl | 5, _ => rfl | 6, _ => rfl | 7, _ => rfl
  | 8, _ => rfl | 9, _ => rfl | 10, _ => rfl | 11, _ => rfl | 12, _ => rfl | 13, _ => rfl | 14, _ => rfl | 15, _ => rfl
  | k + 16, h => by omega
theorem lp_objects (x : Nat → Sl) (K : Ex → St → Option (AV × Heap)) : ∀ (n k : Nat), n + k = 16 →
    bnd (evC (call ir) (loop ir) lp30_0 (st30_0 0 (.own 0 1 0 (objL x k).length false) (.agg (idxD x)) (.d (.int .i64 k)) [.arr 1 (iRows (objL x k))]))
      (lpC (call ir) (loop ir) [3, 7, 8] lp30_0 K) =
    K (.exit 0) (clean [3] (st30_0 0 (.own 0 1 0 (objL x 16).length false) .unk .unk [.arr 1 (iRows (objL x 16))]))
  | 0, k, h => by
    obtain rfl : k = 16 := by omega
    simp (maxSteps := 2000000) (disch := omega) only [go_sem, doCall, doCallQ, Nat.reduceAdd, Nat.reduceMul, Nat.reduceSub, Nat.reduceDiv, Nat.reduceMod, Nat.reduceLT, Nat.reduceLeDiff, Nat.reduceEqDiff, Nat.reduceBEq, Nat.reduceBNe, Int.reduceToNat, Int.reduceLT, Int.reduceLE, Int.reduceEq, Int.reduceNe, Int.reduceAdd, Int.reduceSub, Int.reduceMul, Int.reduceNeg, u30_0, lb30_0, idxC_len, idxD_len, cs_len, av_len, map_cs, map_idx, idxC_take, idxC_drop, plain_av, plain_idx, box_idx, refs_av, owns_av, view_av, ren_av, refs_idx, owns_idx, view_idx, ren_idx, Int.toNat_natCast, Nat.zero_add, chk_of]
  | n + 1, k, h => by
    have hk : k < 16 := by omega
    have h0 := eq_true (show (0 : Int) ≤ k by omega)
    have h1 := eq_true (show (k : Int) < 16 by omega)
    have hg := get_idxD x k hk
    have hw := wr_succ (i := k) (by omega)
    have hs := slF_in x hk
    have hl := iRows_len (objL x k)
    have hle := objL_le x k
    have t0 : List.take (objL x k).length (iRows (objL x k)) = iRows (objL x k) := List.take_of_length_le (by omega)
    have ih := lp_objects x K n (k + 1) (by omega)
    rw [objL_succ, hs] at ih
    cases hb : (x k).b
    · rw [hb] at ih
      simp only [Bool.false_eq_true, if_false] at ih
      simp (maxSteps := 2000000) (disch := omega) only [go_sem, doCall, doCallQ, Nat.reduceAdd, Nat.reduceMul, Nat.reduceSub, Nat.reduceDiv, Nat.reduceMod, Nat.reduceLT, Nat.reduceLeDiff, Nat.reduceEqDiff, Nat.reduceBEq, Nat.reduceBNe, Int.reduceToNat, Int.reduceLT, Int.reduceLE, Int.reduceEq, Int.reduceNe, Int.reduceAdd, Int.reduceSub, Int.reduceMul, Int.reduceNeg, u30_0, lb30_0, h0, h1, hg, hb, Sl.av, idxC_len, idxD_len, cs_len, av_len, map_cs, map_idx, idxC_take, idxC_drop, plain_av, plain_idx, box_idx, refs_av, owns_av, view_av, ren_av, refs_idx, owns_idx, view_idx, ren_idx, Int.toNat_natCast, Nat.zero_add, chk_of]
      rw [loop_step1]
      simp (maxSteps := 2000000) (disch := omega) only [go_sem, doCall, doCallQ, Nat.reduceAdd, Nat.reduceMul, Nat.reduceSub, Nat.reduceDiv, Nat.reduceMod, Nat.reduceLT, Nat.reduceLeDiff, Nat.reduceEqDiff, Nat.reduceBEq, Nat.reduceBNe, Int.reduceToNat, Int.reduceLT, Int.reduceLE, Int.reduceEq, Int.reduceNe, Int.reduceAdd, Int.reduceSub, Int.reduceMul, Int.reduceNeg, hw, idxC_len, idxD_len, cs_len, av_len, map_cs, map_idx, idxC_take, idxC_drop, plain_av, plain_idx, box_idx, refs_av, owns_av, view_av, ren_av, refs_idx, owns_idx, view_idx, ren_idx, Int.toNat_natCast, Nat.zero_add, chk_of]
      try simp (maxSteps := 2000000) only [go_sem, doCall, doCallQ, Nat.reduceAdd, Nat.reduceMul, Nat.reduceSub, Nat.reduceDiv, Nat.reduceMod, Nat.reduceLT, Nat.reduceLeDiff, Nat.reduceEqDiff, Nat.reduceBEq, Nat.reduceBNe, Int.reduceToNat, Int.reduceLT, Int.reduceLE, Int.reduceEq, Int.reduceNe, Int.reduceAdd, Int.reduceSub, Int.reduceMul, Int.reduceNeg] at ih
      exact ih
    · rw [hb] at ih
      simp only [if_true, iRows_app, List.length_append, List.length_cons, List.length_nil, Nat.zero_add] at ih
      simp (maxSteps := 2000000) (disch := omega) only [go_sem, doCall, doCallQ, Nat.reduceAdd, Nat.reduceMul, Nat.reduceSub, Nat.reduceDiv, Nat.reduceMod, Nat.reduceLT, Nat.reduceLeDiff, Nat.reduceEqDiff, Nat.reduceBEq, Nat.reduceBNe, Int.reduceToNat, Int.reduceLT, Int.reduceLE, Int.reduceEq, Int.reduceNe, Int.reduceAdd, Int.reduceSub, Int.reduceMul, Int.reduceNeg, u30_0, lb30_0, h0, h1, hg, hb, Sl.av, hl, t0, Nat.le_refl, List.drop_zero, idxC_len, idxD_len, cs_len, av_len, map_cs, map_idx, idxC_take, idxC_drop, plain_av, plain_idx, box_idx, refs_av, owns_av, view_av, ren_av, refs_idx, owns_idx, view_idx, ren_idx, Int.toNat_natCast, Nat.zero_add, chk_of]
      rw [loop_step1]
      simp (maxSteps := 2000000) (disch := omega) only [go_sem, doCall, doCallQ, Nat.reduceAdd, Nat.reduceMul, Nat.reduceSub, Nat.reduceDiv, Nat.reduceMod, Nat.reduceLT, Nat.reduceLeDiff, Nat.reduceEqDiff, Nat.reduceBEq, Nat.reduceBNe, Int.reduceToNat, Int.reduceLT, Int.reduceLE, Int.reduceEq, Int.reduceNe, Int.reduceAdd, Int.reduceSub, Int.reduceMul, Int.reduceNeg, hw, idxC_len, idxD_len, cs_len, av_len, map_cs, map_idx, idxC_take, idxC_drop, plain_av, plain_idx, box_idx, refs_av, owns_av, view_av, ren_av, refs_idx, owns_idx, view_idx, ren_idx, Int.toNat_natCast, Nat.zero_add, chk_of]
      try simp (maxSteps := 2000000) only [go_sem, doCall, doCallQ, Nat.reduceAdd, Nat.reduceMul, Nat.reduceSub, Nat.reduceDiv, Nat.reduceMod, Nat.reduceLT, Nat.reduceLeDiff, Nat.reduceEqDiff, Nat.reduceBEq, Nat.reduceBNe, Int.reduceToNat, Int.reduceLT, Int.reduceLE, Int.reduceEq, Int.reduceNe, Int.reduceAdd, Int.reduceSub, Int.reduceMul, Int.reduceNeg] at ih
      exact ih
theorem c_objects (x : Nat → Sl) : call ir 30 [.agg (idxD x)] [] = some (.own 0 1 0 (objL x 16).length false, [.arr 1 (iRows (objL x 16))]) := by
  have hl := iRows_len (objL x 16)
  have t0 : List.take (objL x 16).length (iRows (objL x 16)) = iRows (objL x 16) := List.take_of_length_le (by omega)
  rw [call_eq (fn := ir30) rfl, evF_bnd]
  simp (maxSteps := 2000000) (disch := omega) only [go_sem, doCall, doCallQ, Nat.reduceAdd, Nat.reduceMul, Nat.reduceSub, Nat.reduceDiv, Nat.reduceMod, Nat.reduceLT, Nat.reduceLeDiff, Nat.reduceEqDiff, Nat.reduceBEq, Nat.reduceBNe, Int.reduceToNat, Int.reduceLT, Int.reduceLE, Int.reduceEq, Int.reduceNe, Int.reduceAdd, Int.reduceSub, Int.reduceMul, Int.reduceNeg, bd30, idxC_len, idxD_len, cs_len, av_len, map_cs, map_idx, idxC_take, idxC_drop, plain_av, plain_idx, box_idx, refs_av, owns_av, view_av, ren_av, refs_idx, owns_idx, view_idx, ren_idx, Int.toNat_natCast, Nat.zero_add, chk_of]
  rw [loop_step1]
  simp (maxSteps := 2000000) (disch := omega) only [go_sem, doCall, doCallQ, Nat.reduceAdd, Nat.reduceMul, Nat.reduceSub, Nat.reduceDiv, Nat.reduceMod, Nat.reduceLT, Nat.reduceLeDiff, Nat.reduceEqDiff, Nat.reduceBEq, Nat.reduceBNe, Int.reduceToNat, Int.reduceLT, Int.reduceLE, Int.reduceEq, Int.reduceNe, Int.reduceAdd, Int.reduceSub, Int.reduceMul, Int.reduceNeg, idxC_len, idxD_len, cs_len, av_len, map_cs, map_idx, idxC_take, idxC_drop, plain_av, plain_idx, box_idx, refs_av, owns_av, view_av, ren_av, refs_idx, owns_idx, view_idx, ren_idx, Int.toNat_natCast, Nat.zero_add, chk_of]
  refine (lp_objects x _ 16 0 rfl).trans ?_
  simp (maxSteps := 2000000) (disch := omega) only [go_sem, doCall, doCallQ, Nat.reduceAdd, Nat.reduceMul, Nat.reduceSub, Nat.reduceDiv, Nat.reduceMod, Nat.reduceLT, Nat.reduceLeDiff, Nat.reduceEqDiff, Nat.reduceBEq, Nat.reduceBNe, Int.reduceToNat, Int.reduceLT, Int.reduceLE, Int.reduceEq, Int.reduceNe, Int.reduceAdd, Int.reduceSub, Int.reduceMul, Int.reduceNeg, hl, t0, List.drop_zero, idxC_len, idxD_len, cs_len, av_len, map_cs, map_idx, idxC_take, idxC_drop, plain_av, plain_idx, box_idx, refs_av, owns_av, view_av, ren_av, refs_idx, owns_idx, view_idx, ren_idx, Int.toNat_natCast, Nat.zero_add, chk_of]
end Go.Proofs.YtoipfdbdifoecaaGreatDoor
