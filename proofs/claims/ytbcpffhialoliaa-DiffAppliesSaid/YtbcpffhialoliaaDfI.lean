/- changed, where a piece is lost. Own work. -/
import Derived.Test.YtbcpffhialoliaaDfH
namespace Go.Proofs.Ytbcpffhialoliaa
open Go Go.Ev Go.Proofs.Ytbcpffhialoliaa.Ir
set_option maxRecDepth 100000
set_option maxHeartbeats 4000000
set_option linter.unusedSimpArgs false
set_option linter.unusedVariables false
def okI (l : List Pc) : Prop := ∀ p ∈ l, -9223372036854775808 ≤ p.ix ∧ p.ix ≤ 9223372036854775807
theorem okMp_of {l : List Pc} (hl : l.length ≤ 1000000) (h : okI l) : okMp (l.map pcE) = true := by
  unfold okMp
  rw [Bool.and_eq_true, decide_eq_true_iff]
  refine ⟨by rw [List.length_map]; exact hl, List.all_eq_true.2 fun q hq => ?_⟩
  obtain ⟨p, hp, rfl⟩ := List.mem_map.1 hq
  rw [Bool.and_eq_true, decide_eq_true_iff]
  exact ⟨h p hp, rfl⟩
theorem t_mcp {l : List Pc} (hl : l.length ≤ 1000000) (h : okI l) : call ir 49 [.mref 0, .d (.mapv [])] [.mp (l.map pcE)] = some (.tup [], [.mp (l.map pcE)]) := by
  rw [call_nat (by rfl), nat_eq]
  refine (natOr_r (by rfl)).trans ((natOr_r (by rfl)).trans ((natOr_r (by rfl)).trans ((natOr_r (by rfl)).trans ((natOr_r (by rfl)).trans ((natOr_r (by rfl)).trans (natOr_l ?_))))))
  exact natMCp_eq _ (i := 0) (H := [.mp (l.map pcE)]) rfl (okMp_of hl h) (by rfl)
def kRows (l : List Pc) : List (List D) := l.map fun p => [.int .i64 p.ix]
theorem kRows_len (l : List Pc) : (kRows l).length = l.length := List.length_map ..
theorem c_keysP (l : List Pc) : call ir 51 [.d (.mapv (l.map pcE))] [] = some (.clo (.func 65) [] [.ptr 0 0], [.dbox [.mapv (l.map pcE)]]) := by
  rw [call_eq (fn := ir51) rfl, evF_bnd]
  simp (maxSteps := 2000000) (disch := omega) only [go_sem, doCall, doCallQ, doCallP, Nat.reduceAdd, Nat.reduceMul, Nat.reduceSub, Nat.reduceDiv, Nat.reduceMod, Nat.reduceLT, Nat.reduceLeDiff, Nat.reduceEqDiff, Nat.reduceBEq, Nat.reduceBNe, Int.reduceToNat, Int.reduceLT, Int.reduceLE, Int.reduceEq, Int.reduceNe, Int.reduceAdd, Int.reduceSub, Int.reduceMul, Int.reduceNeg, bd51]
theorem c_sortedP {l : List Pc} (hl : l.length ≤ 1000000) (h : okI l) : call ir 50 [.clo (.func 65) [] [.ptr 0 0]] [.dbox [.mapv (l.map pcE)]] = some (.d (.list 1 (kRows l)), [.dbox [.mapv (l.map pcE)]]) := by
  have e := natSO_eq 50 65 (show sortedA (.mapv (l.map pcE)) = some _ from rfl)
  have e2 : intRows ((l.map pcE).map (·.1)) = kRows l := by unfold intRows kRows; rw [List.map_map, List.map_map]; rfl
  rw [if_pos ⟨by rw [List.length_map, List.length_map]; exact hl, fun k hk => by
    obtain ⟨q, hq, rfl⟩ := List.mem_map.1 hk
    obtain ⟨p, hp, rfl⟩ := List.mem_map.1 hq
    exact h p hp⟩, e2] at e
  rw [call_nat (by rfl), nat_eq]
  exact (natOr_r (by rfl)).trans ((natOr_r (by rfl)).trans ((natOr_r (by rfl)).trans ((natOr_r (by rfl)).trans ((natOr_r (by rfl)).trans (natOr_l e)))))
theorem getK (l : List Pc) {i : Nat} (h : i < l.length) : (kRows l).getD i [] = [.int .i64 l[i].ix] := by simp [List.getD_eq_getElem?_getD, h, kRows]
theorem find_el {l : List Pc} (hr : rises l) {i : Nat} (h : i < l.length) : findM l[i].ix (l.map pcE) = some (pcD l[i]) := by
  apply findM_mem
  · unfold SrtM
    rw [List.pairwise_map]
    exact hr
  · exact List.mem_map.2 ⟨l[i], List.getElem_mem h, rfl⟩
theorem t_cp1 (p : Pc) (hb : p.bd.length ≤ 1000000) : call ir 33 [.d (.list 4 [[.int .i64 p.ob, .int .i64 p.ge, .int .i64 p.ix, .list 1 (bB p.bd)]])] [] = some (.own 0 4 0 1 false, [.arr 4 [[.int .i64 p.ob, .int .i64 p.ge, .int .i64 p.ix, .list 1 (bB p.bd)]]]) :=
  t_copied [p] (by simp) (by simpa using hb)
theorem take_pc (F : List Pc) {i : Nat} (h : i < F.length) : (F.take i).map pcRow ++ [[.int .i64 F[i].ob, .int .i64 F[i].ge, .int .i64 F[i].ix, .list 1 (bB F[i].bd)]] = (F.take (i + 1)).map pcRow := by
  rw [List.take_succ_eq_append_getElem h, List.map_append]; rfl
theorem lp_rb (h : Hd) (F : List Pc) (hl : F.length ≤ 1000000) (hr : rises F) (hb : ∀ p ∈ F, p.bd.length ≤ 1000000) (k : Ex → St → Option (AV × Heap)) (i : Nat) (hi0 : 0 < i) (hi : i ≤ F.length) :
    (bnd (evC (call ir) (loop ir) lp36_1 (st36_1 0 (.ptr 0 0) (.ptr 2 0) (.mref 3) (.d (.list 1 (kRows F))) (dI F.length) (dI i) [.box [.d (.int .i64 h.ob), .d (.int .i64 h.ge), .d (.str h.tg), .d (.int .i64 h.le), .d (.int .i64 h.ti), .own 1 4 0 i false], .arr 4 ((F.take i).map pcRow), .dbox [.int .i64 0, .int .i64 0, .str [], .int .i64 0, .int .i64 0, .list 4 []], .mfz (F.map pcE)])) (lpC (call ir) (loop ir) [3, 6, 8, 70, 71, 72] lp36_1 k)) =
      k (.exit 2) (clean [3, 6] (st36_1 0 (.ptr 0 0) (.ptr 2 0) .unk .unk .unk .unk [.box [.d (.int .i64 h.ob), .d (.int .i64 h.ge), .d (.str h.tg), .d (.int .i64 h.le), .d (.int .i64 h.ti), .own 1 4 0 F.length false], .arr 4 (F.map pcRow), .dbox [.int .i64 0, .int .i64 0, .str [], .int .i64 0, .int .i64 0, .list 4 []], .mfz (F.map pcE)])) := by
  by_cases h : i = F.length
  · have hx : ¬ (i : Int) < F.length := by omega
    rw [h] at hx
    rw [h, List.take_length]
    simp (maxSteps := 2000000) (disch := omega) only [go_sem, doCall, doCallQ, doCallP, Nat.reduceAdd, Nat.reduceMul, Nat.reduceSub, Nat.reduceDiv, Nat.reduceMod, Nat.reduceLT, Nat.reduceLeDiff, Nat.reduceEqDiff, Nat.reduceBEq, Nat.reduceBNe, Int.reduceToNat, Int.reduceLT, Int.reduceLE, Int.reduceEq, Int.reduceNe, Int.reduceAdd, Int.reduceSub, Int.reduceMul, Int.reduceNeg, u36_1, lb36_1, hx]
  · have hlt : (i : Int) < F.length := by omega
    have hi' : i < F.length := by omega
    have hw := wr_succ (i := i) (by omega)
    have hg := getK F hi'
    have hfe := find_el hr hi'
    unfold pcD at hfe
    have hcp := t_cp1 F[i] (hb _ (List.getElem_mem hi'))
    have hkl := kRows_len F
    have hap := take_pc F hi'
    have hli : ((F.take i).map pcRow).length = i := by rw [List.length_map, List.length_take]; omega
    have htk : ((F.take i).map pcRow).take i = (F.take i).map pcRow := List.take_of_length_le (by rw [hli]; exact Nat.le_refl _)
    have ih := lp_rb ‹Hd› F hl hr hb k (i + 1) (by omega) (by omega)
    simp (maxSteps := 2000000) (disch := omega) only [go_sem, doCall, doCallQ, doCallP, Nat.reduceAdd, Nat.reduceMul, Nat.reduceSub, Nat.reduceDiv, Nat.reduceMod, Nat.reduceLT, Nat.reduceLeDiff, Nat.reduceEqDiff, Nat.reduceBEq, Nat.reduceBNe, Int.reduceToNat, Int.reduceLT, Int.reduceLE, Int.reduceEq, Int.reduceNe, Int.reduceAdd, Int.reduceSub, Int.reduceMul, Int.reduceNeg, u36_1, lb36_1, hlt, hi', hg, hfe, hcp, hkl, hw, hap, hli, htk, Option.isSome_none, Option.isSome_some, Bool.not_false, Bool.not_true, List.length_cons, List.length_nil, Nat.zero_add, List.getD_cons_zero, List.set_cons_zero, List.set_cons_succ, List.take_succ_cons, List.take_zero, Int.natCast_nonneg, Int.toNat_natCast, Option.getD_some, Option.getD_none, List.drop_zero, Nat.sub_zero, Nat.zero_le, true_and, and_true, Nat.le_refl, chk_of]
    rw [loop_step1]
    simp (maxSteps := 2000000) (disch := omega) only [go_sem, doCall, doCallQ, doCallP, Nat.reduceAdd, Nat.reduceMul, Nat.reduceSub, Nat.reduceDiv, Nat.reduceMod, Nat.reduceLT, Nat.reduceLeDiff, Nat.reduceEqDiff, Nat.reduceBEq, Nat.reduceBNe, Int.reduceToNat, Int.reduceLT, Int.reduceLE, Int.reduceEq, Int.reduceNe, Int.reduceAdd, Int.reduceSub, Int.reduceMul, Int.reduceNeg]
    exact ih
termination_by F.length - i
theorem lp_rb0 (h : Hd) (F : List Pc) (hl : F.length ≤ 1000000) (hr : rises F) (hb : ∀ p ∈ F, p.bd.length ≤ 1000000) (h0 : 0 < F.length) (k : Ex → St → Option (AV × Heap)) :
    (bnd (evC (call ir) (loop ir) lp36_1 (st36_1 0 (.ptr 0 0) (.ptr 1 0) (.mref 2) (.d (.list 1 (kRows F))) (dI F.length) (dI 0) [.dbox [.int .i64 h.ob, .int .i64 h.ge, .str h.tg, .int .i64 h.le, .int .i64 h.ti, .nils], .dbox [.int .i64 0, .int .i64 0, .str [], .int .i64 0, .int .i64 0, .list 4 []], .mfz (F.map pcE)])) (lpC (call ir) (loop ir) [3, 6, 8, 70, 71, 72] lp36_1 k)) =
      k (.exit 2) (clean [3, 6] (st36_1 0 (.ptr 0 0) (.ptr 2 0) .unk .unk .unk .unk [.box [.d (.int .i64 h.ob), .d (.int .i64 h.ge), .d (.str h.tg), .d (.int .i64 h.le), .d (.int .i64 h.ti), .own 1 4 0 F.length false], .arr 4 (F.map pcRow), .dbox [.int .i64 0, .int .i64 0, .str [], .int .i64 0, .int .i64 0, .list 4 []], .mfz (F.map pcE)])) := by
  have hlt : (0 : Int) < F.length := by omega
  have hg := getK F h0
  have hfe := find_el hr h0
  unfold pcD at hfe
  have hcp := t_cp1 F[0] (hb _ (List.getElem_mem h0))
  have hkl := kRows_len F
  have ih := lp_rb h F hl hr hb k 1 (by omega) (by omega)
  rw [← take_pc F h0] at ih
  simp (maxSteps := 2000000) (disch := omega) only [go_sem, doCall, doCallQ, doCallP, Nat.reduceAdd, Nat.reduceMul, Nat.reduceSub, Nat.reduceDiv, Nat.reduceMod, Nat.reduceLT, Nat.reduceLeDiff, Nat.reduceEqDiff, Nat.reduceBEq, Nat.reduceBNe, Int.reduceToNat, Int.reduceLT, Int.reduceLE, Int.reduceEq, Int.reduceNe, Int.reduceAdd, Int.reduceSub, Int.reduceMul, Int.reduceNeg, u36_1, lb36_1, hlt, h0, hg, hfe, hcp, hkl, w1, Option.isSome_none, Option.isSome_some, Bool.not_false, Bool.not_true, List.length_cons, List.length_nil, Nat.zero_add, List.getD_cons_zero, List.set_cons_zero, List.set_cons_succ, Int.natCast_nonneg, Int.toNat_natCast, Option.getD_some, Option.getD_none, List.drop_zero, Nat.sub_zero, Nat.zero_le, true_and, and_true, Nat.le_refl, chk_of]
  rw [loop_step1]
  simp (maxSteps := 2000000) (disch := omega) only [go_sem, doCall, doCallQ, doCallP, Nat.reduceAdd, Nat.reduceMul, Nat.reduceSub, Nat.reduceDiv, Nat.reduceMod, Nat.reduceLT, Nat.reduceLeDiff, Nat.reduceEqDiff, Nat.reduceBEq, Nat.reduceBNe, Int.reduceToNat, Int.reduceLT, Int.reduceLE, Int.reduceEq, Int.reduceNe, Int.reduceAdd, Int.reduceSub, Int.reduceMul, Int.reduceNeg]
  exact ih
theorem lp_rbn (h : Hd) (k : Ex → St → Option (AV × Heap)) :
    (bnd (evC (call ir) (loop ir) lp36_1 (st36_1 0 (.ptr 0 0) (.ptr 1 0) (.mref 2) (.d (.list 1 [])) (dI 0) (dI 0) [.dbox [.int .i64 h.ob, .int .i64 h.ge, .str h.tg, .int .i64 h.le, .int .i64 h.ti, .nils], .dbox [.int .i64 0, .int .i64 0, .str [], .int .i64 0, .int .i64 0, .list 4 []], .mfz []])) (lpC (call ir) (loop ir) [3, 6, 8, 70, 71, 72] lp36_1 k)) =
      k (.exit 2) (clean [3, 6] (st36_1 0 (.ptr 0 0) (.ptr 1 0) .unk .unk .unk .unk [.dbox [.int .i64 h.ob, .int .i64 h.ge, .str h.tg, .int .i64 h.le, .int .i64 h.ti, .nils], .dbox [.int .i64 0, .int .i64 0, .str [], .int .i64 0, .int .i64 0, .list 4 []], .mfz []])) := by
  simp (maxSteps := 2000000) (disch := omega) only [go_sem, doCall, doCallQ, doCallP, Nat.reduceAdd, Nat.reduceMul, Nat.reduceSub, Nat.reduceDiv, Nat.reduceMod, Nat.reduceLT, Nat.reduceLeDiff, Nat.reduceEqDiff, Nat.reduceBEq, Nat.reduceBNe, Int.reduceToNat, Int.reduceLT, Int.reduceLE, Int.reduceEq, Int.reduceNe, Int.reduceAdd, Int.reduceSub, Int.reduceMul, Int.reduceNeg, u36_1, lb36_1, Int.lt_irrefl]
theorem t_chg_yes (h : Hd) (hl : h.ps.length ≤ 1000000) (hr : rises h.ps) (hk : okI h.ps) (hbd : ∀ p ∈ h.ps, p.bd.length ≤ 1000000) (o i : Int) (p : Pc) (hf : findM i (h.ps.map pcE) = some (.agg [.int .i64 p.ob, .int .i64 p.ge, .int .i64 p.ix, .list 1 (bB p.bd)])) : ∃ v H, call ir 36 [vHd h, dT true, .agg [.d (.int .i64 o), .d (.bool false), .d (.bool false), .d (.int .i64 0), .d (.int .i64 0), .d (.str []), .d (.int .i64 0), .d (.int .i64 0), .d (.list 4 []), .d (.list 1 [[.int .i64 i]])]] [] = some (v, H) ∧ v.scalar = false ∧ v.view H = .tup [vHd { h with ps := h.ps.filter (noI i) }, dI 0] := by
  rw [call_eq (fn := ir36) rfl, evF_bnd]
  have hb := t_bodies h.ps hl hr
  have hb0 := t_bod0
  have hdl := del_at (i := i) hr
  have hfl : (h.ps.filter (noI i)).length ≤ 1000000 := Nat.le_trans (List.length_filter_le ..) hl
  have hmc := t_mcp hfl (fun p hp => hk p (List.mem_filter.1 hp).1)
  have hsr := c_sortedP hfl (fun p hp => hk p (List.mem_filter.1 hp).1)
  have hrF : rises (h.ps.filter (noI i)) := hr.filter _
  have hbF : ∀ p ∈ h.ps.filter (noI i), p.bd.length ≤ 1000000 := fun p hp => hbd p (List.mem_filter.1 hp).1
  generalize h.ps.filter (noI i) = F at hdl hmc hfl hsr hrF hbF ⊢
  have hkk := c_keysP F
  have hkl := kRows_len F
  have hlF : (F.map pcRow).length = F.length := List.length_map ..
  have htk : (F.map pcRow).take F.length = F.map pcRow := by rw [← hlF, List.take_length]
  by_cases h0 : 0 < F.length
  · skip
    refine ⟨_, _, by
      simp (maxSteps := 2000000) (disch := omega) only [go_sem, doCall, doCallQ, doCallP, Nat.reduceAdd, Nat.reduceMul, Nat.reduceSub, Nat.reduceDiv, Nat.reduceMod, Nat.reduceLT, Nat.reduceLeDiff, Nat.reduceEqDiff, Nat.reduceBEq, Nat.reduceBNe, Int.reduceToNat, Int.reduceLT, Int.reduceLE, Int.reduceEq, Int.reduceNe, Int.reduceAdd, Int.reduceSub, Int.reduceMul, Int.reduceNeg, bd36, hb, List.length_cons, List.length_nil, Int.natCast_nonneg, Int.toNat_natCast, Option.getD_some, Option.getD_none, List.drop_zero, Nat.sub_zero, Nat.zero_le, true_and, and_true, Nat.le_refl, chk_of]
      rw [loop_step1]
      simp (maxSteps := 2000000) (disch := omega) only [go_sem, doCall, doCallQ, doCallP, Nat.reduceAdd, Nat.reduceMul, Nat.reduceSub, Nat.reduceDiv, Nat.reduceMod, Nat.reduceLT, Nat.reduceLeDiff, Nat.reduceEqDiff, Nat.reduceBEq, Nat.reduceBNe, Int.reduceToNat, Int.reduceLT, Int.reduceLE, Int.reduceEq, Int.reduceNe, Int.reduceAdd, Int.reduceSub, Int.reduceMul, Int.reduceNeg, u36_0, lb36_0, hf, hdl, Option.isSome_none, Option.isSome_some, Bool.not_false, Bool.not_true, w1, List.length_cons, List.length_nil, Nat.zero_add, List.getD_cons_zero, List.set_cons_zero, List.set_cons_succ, Int.natCast_nonneg, Int.toNat_natCast, Option.getD_some, Option.getD_none, List.drop_zero, Nat.sub_zero, Nat.zero_le, true_and, and_true, Nat.le_refl, chk_of]
      rw [loop_step1]
      simp (maxSteps := 2000000) (disch := omega) only [go_sem, doCall, doCallQ, doCallP, Nat.reduceAdd, Nat.reduceMul, Nat.reduceSub, Nat.reduceDiv, Nat.reduceMod, Nat.reduceLT, Nat.reduceLeDiff, Nat.reduceEqDiff, Nat.reduceBEq, Nat.reduceBNe, Int.reduceToNat, Int.reduceLT, Int.reduceLE, Int.reduceEq, Int.reduceNe, Int.reduceAdd, Int.reduceSub, Int.reduceMul, Int.reduceNeg, u36_0, lb36_0, hb0, hdl, hmc, hkk, hsr, hkl, w1, Int.lt_irrefl, List.length_cons, List.length_nil, Nat.zero_add, List.getD_cons_zero, List.set_cons_zero, List.set_cons_succ, Int.natCast_nonneg, Int.toNat_natCast, Option.getD_some, Option.getD_none, List.drop_zero, Nat.sub_zero, Nat.zero_le, true_and, and_true, Nat.le_refl, chk_of]
      rw [loop_step1]
      simp (maxSteps := 2000000) (disch := omega) only [go_sem, doCall, doCallQ, doCallP, Nat.reduceAdd, Nat.reduceMul, Nat.reduceSub, Nat.reduceDiv, Nat.reduceMod, Nat.reduceLT, Nat.reduceLeDiff, Nat.reduceEqDiff, Nat.reduceBEq, Nat.reduceBNe, Int.reduceToNat, Int.reduceLT, Int.reduceLE, Int.reduceEq, Int.reduceNe, Int.reduceAdd, Int.reduceSub, Int.reduceMul, Int.reduceNeg]
      refine (lp_rb0 h F hfl hrF hbF h0 _).trans ?_
      simp (maxSteps := 2000000) (disch := omega) only [go_sem, doCall, doCallQ, doCallP, Nat.reduceAdd, Nat.reduceMul, Nat.reduceSub, Nat.reduceDiv, Nat.reduceMod, Nat.reduceLT, Nat.reduceLeDiff, Nat.reduceEqDiff, Nat.reduceBEq, Nat.reduceBNe, Int.reduceToNat, Int.reduceLT, Int.reduceLE, Int.reduceEq, Int.reduceNe, Int.reduceAdd, Int.reduceSub, Int.reduceMul, Int.reduceNeg, hlF, htk, Nat.zero_add, List.getD_cons_zero, List.set_cons_zero, List.set_cons_succ, Int.natCast_nonneg, Int.toNat_natCast, Option.getD_some, Option.getD_none, List.drop_zero, Nat.sub_zero, Nat.zero_le, true_and, and_true, Nat.le_refl, chk_of]
      rfl, ?_, ?_⟩
    · rfl
    · simp [AV.view, AV.viewL, hlF, htk]
  · have e : F = [] := List.length_eq_zero_iff.1 (by omega)
    subst e
    have hk0 : kRows [] = [] := rfl
    simp only [List.map_nil, hk0, List.length_nil] at hdl hmc hsr hkk hkl
    refine ⟨_, _, by
      simp (maxSteps := 2000000) (disch := omega) only [go_sem, doCall, doCallQ, doCallP, Nat.reduceAdd, Nat.reduceMul, Nat.reduceSub, Nat.reduceDiv, Nat.reduceMod, Nat.reduceLT, Nat.reduceLeDiff, Nat.reduceEqDiff, Nat.reduceBEq, Nat.reduceBNe, Int.reduceToNat, Int.reduceLT, Int.reduceLE, Int.reduceEq, Int.reduceNe, Int.reduceAdd, Int.reduceSub, Int.reduceMul, Int.reduceNeg, bd36, hb, List.length_cons, List.length_nil, Int.natCast_nonneg, Int.toNat_natCast, Option.getD_some, Option.getD_none, List.drop_zero, Nat.sub_zero, Nat.zero_le, true_and, and_true, Nat.le_refl, chk_of]
      rw [loop_step1]
      simp (maxSteps := 2000000) (disch := omega) only [go_sem, doCall, doCallQ, doCallP, Nat.reduceAdd, Nat.reduceMul, Nat.reduceSub, Nat.reduceDiv, Nat.reduceMod, Nat.reduceLT, Nat.reduceLeDiff, Nat.reduceEqDiff, Nat.reduceBEq, Nat.reduceBNe, Int.reduceToNat, Int.reduceLT, Int.reduceLE, Int.reduceEq, Int.reduceNe, Int.reduceAdd, Int.reduceSub, Int.reduceMul, Int.reduceNeg, u36_0, lb36_0, hf, hdl, Option.isSome_none, Option.isSome_some, Bool.not_false, Bool.not_true, w1, List.length_cons, List.length_nil, Nat.zero_add, List.getD_cons_zero, List.set_cons_zero, List.set_cons_succ, Int.natCast_nonneg, Int.toNat_natCast, Option.getD_some, Option.getD_none, List.drop_zero, Nat.sub_zero, Nat.zero_le, true_and, and_true, Nat.le_refl, chk_of]
      rw [loop_step1]
      simp (maxSteps := 2000000) (disch := omega) only [go_sem, doCall, doCallQ, doCallP, Nat.reduceAdd, Nat.reduceMul, Nat.reduceSub, Nat.reduceDiv, Nat.reduceMod, Nat.reduceLT, Nat.reduceLeDiff, Nat.reduceEqDiff, Nat.reduceBEq, Nat.reduceBNe, Int.reduceToNat, Int.reduceLT, Int.reduceLE, Int.reduceEq, Int.reduceNe, Int.reduceAdd, Int.reduceSub, Int.reduceMul, Int.reduceNeg, u36_0, lb36_0, hb0, hdl, hmc, hkk, hsr, hkl, w1, Int.lt_irrefl, List.length_cons, List.length_nil, Nat.zero_add, List.getD_cons_zero, List.set_cons_zero, List.set_cons_succ, Int.natCast_nonneg, Int.toNat_natCast, Option.getD_some, Option.getD_none, List.drop_zero, Nat.sub_zero, Nat.zero_le, true_and, and_true, Nat.le_refl, chk_of]
      rw [loop_step1]
      simp (maxSteps := 2000000) (disch := omega) only [go_sem, doCall, doCallQ, doCallP, Nat.reduceAdd, Nat.reduceMul, Nat.reduceSub, Nat.reduceDiv, Nat.reduceMod, Nat.reduceLT, Nat.reduceLeDiff, Nat.reduceEqDiff, Nat.reduceBEq, Nat.reduceBNe, Int.reduceToNat, Int.reduceLT, Int.reduceLE, Int.reduceEq, Int.reduceNe, Int.reduceAdd, Int.reduceSub, Int.reduceMul, Int.reduceNeg]
      refine (lp_rbn h _).trans ?_
      simp (maxSteps := 2000000) (disch := omega) only [go_sem, doCall, doCallQ, doCallP, Nat.reduceAdd, Nat.reduceMul, Nat.reduceSub, Nat.reduceDiv, Nat.reduceMod, Nat.reduceLT, Nat.reduceLeDiff, Nat.reduceEqDiff, Nat.reduceBEq, Nat.reduceBNe, Int.reduceToNat, Int.reduceLT, Int.reduceLE, Int.reduceEq, Int.reduceNe, Int.reduceAdd, Int.reduceSub, Int.reduceMul, Int.reduceNeg, Nat.zero_add, List.getD_cons_zero, List.set_cons_zero, List.set_cons_succ, List.map_nil, List.length_nil, Int.natCast_nonneg, Int.toNat_natCast, Option.getD_some, Option.getD_none, List.drop_zero, Nat.sub_zero, Nat.zero_le, true_and, and_true, Nat.le_refl, chk_of]
      rfl, ?_, ?_⟩
    · rfl
    · rfl
end Go.Proofs.Ytbcpffhialoliaa
