/- DeleteFunc and the sort at what is held. Own work. -/
import Derived.Test.YtbcpffhialoliaaDfD
namespace Go.Proofs.Ytbcpffhialoliaa
open Go Go.Ev Go.Proofs.Ytbcpffhialoliaa.Ir
set_option maxRecDepth 100000
set_option maxHeartbeats 4000000
set_option linter.unusedSimpArgs false
set_option linter.unusedVariables false
theorem lp_delH (g : Nat) (cs : List D) (o : Int) (hc : ∀ d : Hd, call ir g [vHd d, .ptr 0 0] [.dbox cs] = some (dT (isO o d), [.dbox cs])) (l : List Hd) (hl : l.length ≤ 1000000) (k : Ex → St → Option (AV × Heap)) (j : Nat) (hj : j ≤ l.length) (X : List Hd) (hX : X.length = l.length) (i : Nat) (hi : i < j)
    (h1 : X.take i = (l.take j).filter (noO o)) (h2 : X.drop j = l.drop j) :
    ∃ X' : List Hd, X'.length = l.length ∧ X'.take (l.filter (noO o)).length = l.filter (noO o) ∧
    (bnd (evC (call ir) (loop ir) lp35_0 (st35_0 2 (.own 0 6 0 l.length false) (clH g) (dI i) (dI j) [.arr 6 (X.map hdRow), .dbox cs])) (lpC (call ir) (loop ir) [0, 1, 5, 6] lp35_0 k)) =
      k (.exit 0) (clean [0, 5] (st35_0 2 (.own 0 6 0 l.length false) .unk (dI (l.filter (noO o)).length) .unk [.arr 6 (X'.map hdRow), .dbox cs])) := by
  have hi2 : i = ((l.take j).filter (noO o)).length := by rw [← h1, List.length_take]; omega
  by_cases h : j = l.length
  · have hx : ¬ (j : Int) < l.length := by omega
    rw [h, List.take_length] at h1 hi2
    refine ⟨X, hX, by rw [← hi2, h1], ?_⟩
    simp (maxSteps := 2000000) (disch := omega) only [go_sem, doCall, doCallQ, doCallP, Nat.reduceAdd, Nat.reduceMul, Nat.reduceSub, Nat.reduceDiv, Nat.reduceMod, Nat.reduceLT, Nat.reduceLeDiff, Nat.reduceEqDiff, Nat.reduceBEq, Nat.reduceBNe, Int.reduceToNat, Int.reduceLT, Int.reduceLE, Int.reduceEq, Int.reduceNe, Int.reduceAdd, Int.reduceSub, Int.reduceMul, Int.reduceNeg, u35_0, lb35_0, hx]
    rw [hi2]
  · have hlt : (j : Int) < l.length := by omega
    have hj' : j < l.length := by omega
    have hjX : j < X.length := by omega
    have hw := wr_succ (i := j) (by omega)
    have hl2 : (X.map hdRow).length = l.length := by rw [List.length_map, hX]
    have he : X[j] = l[j] := by
      have := congrArg (fun t => t.getD 0 default) h2
      simpa [List.getD_eq_getElem?_getD, hj', hjX] using this
    have hg := getHd X hjX
    rw [he] at hg
    have hcc := hc l[j]
    cases hin : isO o l[j]
    · rw [hin] at hcc
      have hn : noO o l[j] = true := by unfold noO; rw [hin]; rfl
      have hiX : i < X.length := by omega
      have hwi := wr_succ (i := i) (by omega)
      have hset : (X.map hdRow).set i [.int .i64 l[j].ob, .int .i64 l[j].ge, .str l[j].tg, .int .i64 l[j].le, .int .i64 l[j].ti, .list 4 (l[j].ps.map pcRow)] = (X.set i l[j]).map hdRow := by rw [List.map_set]; rfl
      obtain ⟨X', a1, a2, a3⟩ := lp_delH g cs o hc l hl k (j + 1) (by omega) (X.set i l[j]) (by rw [List.length_set]; exact hX) (i + 1) (by omega)
        (by rw [List.take_succ_eq_append_getElem hj', List.filter_append, ← h1, List.filter_cons, if_pos hn, List.filter_nil,
              List.take_succ_eq_append_getElem (by rw [List.length_set]; exact hiX), List.getElem_set_self, List.take_set_of_le (Nat.le_refl _)])
        (by rw [List.drop_set_of_lt (by omega), ← List.drop_drop, h2, List.drop_drop])
      refine ⟨X', a1, a2, ?_⟩
      have hii : (i : Int) < l.length := by omega
      have hii' : i < l.length := by omega
      have hgi := getHd X hiX
      simp (maxSteps := 2000000) (disch := omega) only [go_sem, doCall, doCallQ, doCallP, Nat.reduceAdd, Nat.reduceMul, Nat.reduceSub, Nat.reduceDiv, Nat.reduceMod, Nat.reduceLT, Nat.reduceLeDiff, Nat.reduceEqDiff, Nat.reduceBEq, Nat.reduceBNe, Int.reduceToNat, Int.reduceLT, Int.reduceLE, Int.reduceEq, Int.reduceNe, Int.reduceAdd, Int.reduceSub, Int.reduceMul, Int.reduceNeg, u35_0, lb35_0, hlt, hii, hj', hii', hg, hgi, hset, hl2, hcc, Nat.zero_add, List.set_cons_zero, List.set_cons_succ, Int.natCast_nonneg, Int.toNat_natCast, Option.getD_some, Option.getD_none, List.drop_zero, Nat.sub_zero, Nat.zero_le, true_and, and_true, Nat.le_refl, chk_of]
      rw [loop_step1]
      simp (maxSteps := 2000000) only [go_sem, doCall, doCallQ, doCallP, Nat.reduceAdd, Nat.reduceMul, Nat.reduceSub, Nat.reduceDiv, Nat.reduceMod, Nat.reduceLT, Nat.reduceLeDiff, Nat.reduceEqDiff, Nat.reduceBEq, Nat.reduceBNe, Int.reduceToNat, Int.reduceLT, Int.reduceLE, Int.reduceEq, Int.reduceNe, Int.reduceAdd, Int.reduceSub, Int.reduceMul, Int.reduceNeg, hw, hwi, hset]
      exact a3
    · rw [hin] at hcc
      have hn : noO o l[j] = false := by unfold noO; rw [hin]; rfl
      obtain ⟨X', a1, a2, a3⟩ := lp_delH g cs o hc l hl k (j + 1) (by omega) X hX i (by omega)
        (by rw [List.take_succ_eq_append_getElem hj', List.filter_append, ← h1, List.filter_cons, if_neg (by rw [hn]; simp)]; simp)
        (by rw [← List.drop_drop, h2, List.drop_drop])
      refine ⟨X', a1, a2, ?_⟩
      simp (maxSteps := 2000000) (disch := omega) only [go_sem, doCall, doCallQ, doCallP, Nat.reduceAdd, Nat.reduceMul, Nat.reduceSub, Nat.reduceDiv, Nat.reduceMod, Nat.reduceLT, Nat.reduceLeDiff, Nat.reduceEqDiff, Nat.reduceBEq, Nat.reduceBNe, Int.reduceToNat, Int.reduceLT, Int.reduceLE, Int.reduceEq, Int.reduceNe, Int.reduceAdd, Int.reduceSub, Int.reduceMul, Int.reduceNeg, u35_0, lb35_0, hlt, hj', hg, hl2, hcc, Nat.zero_add, Int.natCast_nonneg, Int.toNat_natCast, Option.getD_some, Option.getD_none, List.drop_zero, Nat.sub_zero, Nat.zero_le, true_and, and_true, Nat.le_refl, chk_of]
      rw [loop_step1]
      simp (maxSteps := 2000000) only [go_sem, doCall, doCallQ, doCallP, Nat.reduceAdd, Nat.reduceMul, Nat.reduceSub, Nat.reduceDiv, Nat.reduceMod, Nat.reduceLT, Nat.reduceLeDiff, Nat.reduceEqDiff, Nat.reduceBEq, Nat.reduceBNe, Int.reduceToNat, Int.reduceLT, Int.reduceLE, Int.reduceEq, Int.reduceNe, Int.reduceAdd, Int.reduceSub, Int.reduceMul, Int.reduceNeg, hw]
      exact a3
termination_by l.length - j
theorem c_delH (g : Nat) (cs : List D) (o : Int) (hc : ∀ d : Hd, call ir g [vHd d, .ptr 0 0] [.dbox cs] = some (dT (isO o d), [.dbox cs])) (l : List Hd) (hl : l.length ≤ 1000000) :
    call ir 35 [.own 0 6 0 l.length false, clH g] [.arr 6 (l.map hdRow), .dbox cs] = some (.own 0 6 0 (l.filter (noO o)).length false, [.arr 6 ((l.filter (noO o)).map hdRow), .dbox cs]) := by
  obtain ⟨r, e1, h⟩ := c_ixH g cs o hc l false hl
  have hl2 : (l.map hdRow).length = l.length := List.length_map ..
  rcases h with ⟨rfl, h⟩ | ⟨n, rfl, hn, h1, h2⟩
  · rw [h, call_eq (fn := ir35) rfl, evF_bnd]
    simp (maxSteps := 2000000) (disch := omega) only [go_sem, doCall, doCallQ, doCallP, Nat.reduceAdd, Nat.reduceMul, Nat.reduceSub, Nat.reduceDiv, Nat.reduceMod, Nat.reduceLT, Nat.reduceLeDiff, Nat.reduceEqDiff, Nat.reduceBEq, Nat.reduceBNe, Int.reduceToNat, Int.reduceLT, Int.reduceLE, Int.reduceEq, Int.reduceNe, Int.reduceAdd, Int.reduceSub, Int.reduceMul, Int.reduceNeg, bd35, e1]
  · have hw := wr_succ (i := n) (by omega)
    have hne : ¬ (n : Int) = -1 := by omega
    rw [gH hn] at h2
    have hf : (l.take (n + 1)).filter (noO o) = l.take n := by
      rw [List.take_succ_eq_append_getElem hn, List.filter_append, h1, List.filter_cons, if_neg (by unfold noO; rw [h2]; simp)]; simp
    obtain ⟨X', a1, a2, a3⟩ := lp_delH g cs o hc l hl (bk 0 (sq (call ir) (loop ir) (.seq (.reg [⟨some 36, none, .mv (.s 0), .none⟩,
      ⟨some 37, none, .mv (.s 5), .none⟩,
      ⟨some 38, none, .sl (.s 36) (some (.s 37)) none none 6, .none⟩,
      ⟨none, none, .bcall (.clr [.int .i64 0, .int .i64 0, .str [], .int .i64 0, .int .i64 0, .nils]) [.s 38], .none⟩])
  (.seq (.reg [⟨some 39, none, .mv (.s 0), .none⟩,
      ⟨some 40, none, .mv (.s 5), .none⟩,
      ⟨some 41, none, .sl (.s 39) none (some (.s 40)) none 6, .none⟩,
      ⟨some 4, none, .mv (.s 41), .none⟩])
  (.ret none))) (fin ir35))) (n + 1) (by omega) l rfl n (by omega) hf.symm rfl
    have hle : (l.filter (noO o)).length ≤ l.length := List.length_filter_le ..
    rw [call_eq (fn := ir35) rfl, evF_bnd]
    simp (maxSteps := 2000000) (disch := omega) only [go_sem, doCall, doCallQ, doCallP, Nat.reduceAdd, Nat.reduceMul, Nat.reduceSub, Nat.reduceDiv, Nat.reduceMod, Nat.reduceLT, Nat.reduceLeDiff, Nat.reduceEqDiff, Nat.reduceBEq, Nat.reduceBNe, Int.reduceToNat, Int.reduceLT, Int.reduceLE, Int.reduceEq, Int.reduceNe, Int.reduceAdd, Int.reduceSub, Int.reduceMul, Int.reduceNeg, bd35, e1, hne]
    rw [loop_step1]
    simp (maxSteps := 2000000) only [go_sem, doCall, doCallQ, doCallP, Nat.reduceAdd, Nat.reduceMul, Nat.reduceSub, Nat.reduceDiv, Nat.reduceMod, Nat.reduceLT, Nat.reduceLeDiff, Nat.reduceEqDiff, Nat.reduceBEq, Nat.reduceBNe, Int.reduceToNat, Int.reduceLT, Int.reduceLE, Int.reduceEq, Int.reduceNe, Int.reduceAdd, Int.reduceSub, Int.reduceMul, Int.reduceNeg, hw]
    refine Eq.trans a3 ?_
    have ht : (X'.map hdRow).take (l.filter (noO o)).length = (l.filter (noO o)).map hdRow := by rw [← List.map_take, a2]
    have hd : (X'.map hdRow).drop l.length = [] := List.drop_eq_nil_of_le (by rw [List.length_map]; omega)
    have hx2 : (X'.map hdRow).length = l.length := by rw [List.length_map, a1]
    have hadd : (l.filter (noO o)).length + (l.length - (l.filter (noO o)).length) = l.length := by omega
    have hz : (0 : Int) ≤ ((l.filter (noO o)).length : Int) := Int.natCast_nonneg _
    simp (maxSteps := 2000000) (disch := omega) only [go_sem, doCall, doCallQ, doCallP, Nat.reduceAdd, Nat.reduceMul, Nat.reduceSub, Nat.reduceDiv, Nat.reduceMod, Nat.reduceLT, Nat.reduceLeDiff, Nat.reduceEqDiff, Nat.reduceBEq, Nat.reduceBNe, Int.reduceToNat, Int.reduceLT, Int.reduceLE, Int.reduceEq, Int.reduceNe, Int.reduceAdd, Int.reduceSub, Int.reduceMul, Int.reduceNeg, hz, Int.toNat_natCast, Nat.le_refl, Nat.zero_add, Nat.sub_zero, chk_of, hle, ht, hd, hx2, hadd]
/-! ### the sort -/
theorem keysH : ∀ l : List Hd, keysD kd0 (l.map hdRow) = some (l.map (·.ob))
  | [] => rfl
  | h :: l => by rw [List.map_cons, keysD, keysH l]; rfl
theorem c_sortH48 (F : List Hd) (hl : F.length ≤ 1000000) (hn : (F.map (·.ob)).Nodup) (Z : List (List D)) (b : Bool) :
    call ir 37 [.own 0 6 0 F.length b, .clo (.func 38) [] []] [.arr 6 (F.map hdRow ++ Z)] = some (.tup [], [.arr 6 ((srtK (·.ob) F).map hdRow ++ Z)]) := by
  have hlen : (F.map hdRow).length = F.length := List.length_map ..
  have htk : ((F.map hdRow ++ Z).drop 0).take F.length = F.map hdRow := by
    rw [List.drop_zero, List.take_append_of_le_length (by rw [hlen]; exact Nat.le_refl _), ← hlen, List.take_length]
  have e := natSK_eq 6 kd0 37 38 (i := 0) (o := 0) (n := F.length) (b := b) (H := [.arr 6 (F.map hdRow ++ Z)]) (xs := F.map hdRow ++ Z) (ns := F.map (·.ob)) rfl ⟨by simp, by omega⟩
    (by rw [htk]; exact keysH F) hn
  rw [call_nat (by rfl), nat_eq]
  refine (natOr_r (by rfl)).trans ((natOr_l e).trans ?_)
  rw [htk, Nat.zero_add, ← hlen, List.drop_left, srtK_map]
  rfl
/-! ### the first loop of Apply -/
theorem lp_apc (l : List Hd) (hl : l.length ≤ 1000000) (hb : ∀ d ∈ l, d.ps.length ≤ 1000000 ∧ ∀ p ∈ d.ps, p.bd.length ≤ 1000000) (ch : List (List D)) (k : Ex → St → Option (AV × Heap)) (i : Nat) (hi : i ≤ l.length) :
    (bnd (evC (call ir) (loop ir) lp16_0 (st16_0 0 (.d (.list 10 ch)) (.own 0 6 0 l.length false) (dI l.length) (dI i) [.arr 6 (l.map hdRow)])) (lpC (call ir) (loop ir) [1, 6, 25, 26] lp16_0 k)) = k (.exit 0) (clean [1, 6] (st16_0 0 (.d (.list 10 ch)) (.own 0 6 0 l.length false) .unk .unk [.arr 6 (l.map hdRow)])) := by
  by_cases h : i = l.length
  · have hx : ¬ (i : Int) < l.length := by omega
    rw [h] at hx
    rw [h]
    simp (maxSteps := 2000000) (disch := omega) only [go_sem, doCall, doCallQ, doCallP, Nat.reduceAdd, Nat.reduceMul, Nat.reduceSub, Nat.reduceDiv, Nat.reduceMod, Nat.reduceLT, Nat.reduceLeDiff, Nat.reduceEqDiff, Nat.reduceBEq, Nat.reduceBNe, Int.reduceToNat, Int.reduceLT, Int.reduceLE, Int.reduceEq, Int.reduceNe, Int.reduceAdd, Int.reduceSub, Int.reduceMul, Int.reduceNeg, u16_0, lb16_0, hx]
  · have hlt : (i : Int) < l.length := by omega
    have hi' : i < l.length := by omega
    have hw := wr_succ (i := i) (by omega)
    have hg := getHd l hi'
    have hs := setHd l hi'
    have hlm : (l.map hdRow).length = l.length := List.length_map ..
    have hbb := hb _ (List.getElem_mem hi')
    have hcp := t_copied l[i].ps hbb.1 hbb.2
    have hlp : (l[i].ps.map pcRow).length = l[i].ps.length := List.length_map ..
    have htk : (l[i].ps.map pcRow).take l[i].ps.length = l[i].ps.map pcRow := by rw [← hlp, List.take_length]
    have ih := lp_apc l hl hb ch k (i + 1) (by omega)
    simp (maxSteps := 2000000) (disch := omega) only [go_sem, doCall, doCallQ, doCallP, Nat.reduceAdd, Nat.reduceMul, Nat.reduceSub, Nat.reduceDiv, Nat.reduceMod, Nat.reduceLT, Nat.reduceLeDiff, Nat.reduceEqDiff, Nat.reduceBEq, Nat.reduceBNe, Int.reduceToNat, Int.reduceLT, Int.reduceLE, Int.reduceEq, Int.reduceNe, Int.reduceAdd, Int.reduceSub, Int.reduceMul, Int.reduceNeg, u16_0, lb16_0, hlt, hi', hw, hg, hs, hlm, hcp, hlp, htk, Nat.zero_add, List.set_cons_zero, List.set_cons_succ, Int.natCast_nonneg, Int.toNat_natCast, Option.getD_some, Option.getD_none, List.drop_zero, Nat.sub_zero, Nat.zero_le, true_and, and_true, Nat.le_refl, chk_of]
    rw [loop_step1]; simp (maxSteps := 2000000) only [go_sem, doCall, doCallQ, doCallP, Nat.reduceAdd, Nat.reduceMul, Nat.reduceSub, Nat.reduceDiv, Nat.reduceMod, Nat.reduceLT, Nat.reduceLeDiff, Nat.reduceEqDiff, Nat.reduceBEq, Nat.reduceBNe, Int.reduceToNat, Int.reduceLT, Int.reduceLE, Int.reduceEq, Int.reduceNe, Int.reduceAdd, Int.reduceSub, Int.reduceMul, Int.reduceNeg]; exact ih
termination_by l.length - i
end Go.Proofs.Ytbcpffhialoliaa
