/- All records. Own work. -/
import Derived.Test.YtoipfdbdifoecaaOne
namespace Go.Proofs.Ytoipfdbdifoecaa
open Go Go.Ev Go.Proofs.Ytoipfdbdifoecaa.Ir
set_option maxRecDepth 100000
set_option maxHeartbeats 4000000
set_option linter.unusedSimpArgs false
set_option linter.unusedVariables false
theorem En.map (e : En) : e.cs.map AV.d = e.av := rfl
theorem En.len (e : En) : e.cs.length = 6 := rfl
theorem En.rows (l : List En) {i : Nat} (h : i < l.length) : (l.map En.cs).getD i [] = [.int .i64 l[i].a1, .int .i64 l[i].a2, .int .u64 l[i].seq, .int .i64 l[i].pages, .int .u8 l[i].kind, .list 1 (rB l[i].d)] := by
  simp [List.getD_eq_getElem?_getD, h, En.cs]
def stepF (late : Bool) (x : Nat → Sl) (e : En) : Nat → Sl := if (decide (e.kind = 3) == late) = true then oneF x e else x
def passF (late : Bool) (x : Nat → Sl) (l : List En) : Nat → Sl := l.foldl (stepF late) x
theorem lp_in (Z : List D) (l : List En) (hl : l.length ≤ 1000) (hd : ∀ e ∈ l, e.d.length ≤ 1000) (late : Bool) (q : Nat) (k : Ex → St → Option (AV × Heap)) (x : Nat → Sl) (i : Nat) (hi : i ≤ l.length) :
    bnd (evC (call ir) (loop ir) lp10_1 (st10_1 0 (.d (.list 6 (l.map En.cs))) (.ptr 0 0) (.ptr 1 0) (.d (.bool late)) (.own 2 1 0 2 true) (.d (.int .i64 2)) (.d (.int .i64 q)) (.d (.list 6 (l.map En.cs))) (.d (.int .i64 l.length)) (.d (.int .i64 i)) [.dbox Z, .dbox (idxC x), .arr 1 [[.bool false], [.bool true]]]))
      (lpC (call ir) (loop ir) [0, 2, 3, 5, 9, 10, 11, 15, 16, 17] lp10_1 k) =
    k (.exit 2) (clean [0, 2, 3, 9, 10, 11] (st10_1 0 (.d (.list 6 (l.map En.cs))) (.ptr 0 0) (.ptr 1 0) (.d (.bool late)) (.own 2 1 0 2 true) (.d (.int .i64 2)) (.d (.int .i64 q)) (.d (.list 6 (l.map En.cs))) (.d (.int .i64 l.length)) (.d (.int .i64 l.length)) [.dbox Z, .dbox (idxC (passF late x (l.drop i))), .arr 1 [[.bool false], [.bool true]]])) := by
  by_cases h : i = l.length
  · have hx : ¬ (i : Int) < l.length := by omega
    subst h
    simp (disch := omega) only [go_sem, doCall, doCallQ, Nat.reduceAdd, Nat.reduceMul, Nat.reduceSub, Nat.reduceDiv, Nat.reduceMod, Nat.reduceLT, Nat.reduceLeDiff, Nat.reduceEqDiff, Nat.reduceBEq, Nat.reduceBNe, Int.reduceToNat, Int.reduceLT, Int.reduceLE, Int.reduceEq, Int.reduceNe, Int.reduceAdd, Int.reduceSub, Int.reduceMul, Int.reduceNeg, u10_1, lb10_1, hx]
    simp only [List.drop_length, passF, List.foldl_nil]
  · have hlt : (i : Int) < l.length := by omega
    have hi' : i < l.length := by omega
    have hw := wr_succ (i := i) (by omega)
    have hr := En.rows l hi'
    have hdl : l.drop i = l[i] :: l.drop (i + 1) := List.drop_eq_getElem_cons hi'
    have ho := x_one x l[i] (hd _ (List.getElem_mem hi'))
    simp only [En.av] at ho
    have hlm : (l.map En.cs).length = l.length := List.length_map ..
    have ep : passF late x (l.drop i) = passF late (stepF late x l[i]) (l.drop (i + 1)) := by rw [hdl]; rfl
    have ih := lp_in Z l hl hd late q k (stepF late x l[i]) (i + 1) (by omega)
    rw [ep]
    cases hs : (decide (l[i].kind = 3) == late)
    · have e1 : stepF late x l[i] = x := by simp [stepF, hs]
      rw [e1] at ih ⊢
      simp (disch := omega) only [go_sem, doCall, doCallQ, Nat.reduceAdd, Nat.reduceMul, Nat.reduceSub, Nat.reduceDiv, Nat.reduceMod, Nat.reduceLT, Nat.reduceLeDiff, Nat.reduceEqDiff, Nat.reduceBEq, Nat.reduceBNe, Int.reduceToNat, Int.reduceLT, Int.reduceLE, Int.reduceEq, Int.reduceNe, Int.reduceAdd, Int.reduceSub, Int.reduceMul, Int.reduceNeg, u10_1, lb10_1, hlt, hr, hs, hlm, idxC_len, idxD_len, cs_len, av_len, map_cs, map_idx, idxC_take, idxC_drop, plain_av, plain_idx, box_idx, refs_av, owns_av, view_av, ren_av, refs_idx, owns_idx, view_idx, ren_idx, Int.toNat_natCast, Nat.zero_add, chk_of]
      rw [loop_step1]
      simp only [go_sem, doCall, doCallQ, Nat.reduceAdd, Nat.reduceMul, Nat.reduceSub, Nat.reduceDiv, Nat.reduceMod, Nat.reduceLT, Nat.reduceLeDiff, Nat.reduceEqDiff, Nat.reduceBEq, Nat.reduceBNe, Int.reduceToNat, Int.reduceLT, Int.reduceLE, Int.reduceEq, Int.reduceNe, Int.reduceAdd, Int.reduceSub, Int.reduceMul, Int.reduceNeg, hw]
      simp only [go_sem, doCall, doCallQ, Nat.reduceAdd, Nat.reduceMul, Nat.reduceSub, Nat.reduceDiv, Nat.reduceMod, Nat.reduceLT, Nat.reduceLeDiff, Nat.reduceEqDiff, Nat.reduceBEq, Nat.reduceBNe, Int.reduceToNat, Int.reduceLT, Int.reduceLE, Int.reduceEq, Int.reduceNe, Int.reduceAdd, Int.reduceSub, Int.reduceMul, Int.reduceNeg] at ih
      exact ih
    · have e1 : stepF late x l[i] = oneF x l[i] := by simp [stepF, hs]
      rw [e1] at ih ⊢
      simp (disch := omega) only [go_sem, doCall, doCallQ, Nat.reduceAdd, Nat.reduceMul, Nat.reduceSub, Nat.reduceDiv, Nat.reduceMod, Nat.reduceLT, Nat.reduceLeDiff, Nat.reduceEqDiff, Nat.reduceBEq, Nat.reduceBNe, Int.reduceToNat, Int.reduceLT, Int.reduceLE, Int.reduceEq, Int.reduceNe, Int.reduceAdd, Int.reduceSub, Int.reduceMul, Int.reduceNeg, u10_1, lb10_1, hlt, hr, hs, hlm, ho, idxC_len, idxD_len, cs_len, av_len, map_cs, map_idx, idxC_take, idxC_drop, plain_av, plain_idx, box_idx, refs_av, owns_av, view_av, ren_av, refs_idx, owns_idx, view_idx, ren_idx, Int.toNat_natCast, Nat.zero_add, chk_of]
      rw [loop_step1]
      simp only [go_sem, doCall, doCallQ, Nat.reduceAdd, Nat.reduceMul, Nat.reduceSub, Nat.reduceDiv, Nat.reduceMod, Nat.reduceLT, Nat.reduceLeDiff, Nat.reduceEqDiff, Nat.reduceBEq, Nat.reduceBNe, Int.reduceToNat, Int.reduceLT, Int.reduceLE, Int.reduceEq, Int.reduceNe, Int.reduceAdd, Int.reduceSub, Int.reduceMul, Int.reduceNeg, hw]
      simp only [go_sem, doCall, doCallQ, Nat.reduceAdd, Nat.reduceMul, Nat.reduceSub, Nat.reduceDiv, Nat.reduceMod, Nat.reduceLT, Nat.reduceLeDiff, Nat.reduceEqDiff, Nat.reduceBEq, Nat.reduceBNe, Int.reduceToNat, Int.reduceLT, Int.reduceLE, Int.reduceEq, Int.reduceNe, Int.reduceAdd, Int.reduceSub, Int.reduceMul, Int.reduceNeg] at ih
      exact ih
termination_by l.length - i
def S0 : Sl := ⟨false, 0, 0, [], 0, 0, 0, 0, none, 0, 0, 0⟩
def X0 : Nat → Sl := fun _ => S0
def allF (l : List En) : Nat → Sl := passF true (passF false X0 l) l
theorem c_new : call ir 22 [] [] = some (.agg (idxD X0), []) := call_of (n := 5) (by kernel_rfl)
theorem c_all (l : List En) (hl : l.length ≤ 1000) (hd : ∀ e ∈ l, e.d.length ≤ 1000) : call ir 10 [.d (.list 6 (l.map En.cs))] [] = some (.agg (idxD (allF l)), []) := by
  have hlm : (l.map En.cs).length = l.length := List.length_map ..
  have w1 : wr .i64 1 = 1 := wr_id (by omega)
  have w2 : wr .i64 2 = 2 := wr_id (by omega)
  rw [call_eq (fn := ir10) rfl, evF_bnd]
  simp (disch := omega) only [go_sem, doCall, doCallQ, Nat.reduceAdd, Nat.reduceMul, Nat.reduceSub, Nat.reduceDiv, Nat.reduceMod, Nat.reduceLT, Nat.reduceLeDiff, Nat.reduceEqDiff, Nat.reduceBEq, Nat.reduceBNe, Int.reduceToNat, Int.reduceLT, Int.reduceLE, Int.reduceEq, Int.reduceNe, Int.reduceAdd, Int.reduceSub, Int.reduceMul, Int.reduceNeg, bd10, c_new, hlm, idxC_len, idxD_len, cs_len, av_len, map_cs, map_idx, idxC_take, idxC_drop, plain_av, plain_idx, box_idx, refs_av, owns_av, view_av, ren_av, refs_idx, owns_idx, view_idx, ren_idx, Int.toNat_natCast, Nat.zero_add, chk_of]
  rw [loop_step1]
  simp (disch := omega) only [go_sem, doCall, doCallQ, Nat.reduceAdd, Nat.reduceMul, Nat.reduceSub, Nat.reduceDiv, Nat.reduceMod, Nat.reduceLT, Nat.reduceLeDiff, Nat.reduceEqDiff, Nat.reduceBEq, Nat.reduceBNe, Int.reduceToNat, Int.reduceLT, Int.reduceLE, Int.reduceEq, Int.reduceNe, Int.reduceAdd, Int.reduceSub, Int.reduceMul, Int.reduceNeg, u10_0, lb10_0, hlm, w1, w2, idxC_len, idxD_len, cs_len, av_len, map_cs, map_idx, idxC_take, idxC_drop, plain_av, plain_idx, box_idx, refs_av, owns_av, view_av, ren_av, refs_idx, owns_idx, view_idx, ren_idx, Int.toNat_natCast, Nat.zero_add, chk_of]
  rw [loop_step1]
  simp only [go_sem, doCall, doCallQ, Nat.reduceAdd, Nat.reduceMul, Nat.reduceSub, Nat.reduceDiv, Nat.reduceMod, Nat.reduceLT, Nat.reduceLeDiff, Nat.reduceEqDiff, Nat.reduceBEq, Nat.reduceBNe, Int.reduceToNat, Int.reduceLT, Int.reduceLE, Int.reduceEq, Int.reduceNe, Int.reduceAdd, Int.reduceSub, Int.reduceMul, Int.reduceNeg]
  refine (lp_in _ l hl hd false 0 _ X0 0 (Nat.zero_le _)).trans ?_
  simp only [go_sem, doCall, doCallQ, Nat.reduceAdd, Nat.reduceMul, Nat.reduceSub, Nat.reduceDiv, Nat.reduceMod, Nat.reduceLT, Nat.reduceLeDiff, Nat.reduceEqDiff, Nat.reduceBEq, Nat.reduceBNe, Int.reduceToNat, Int.reduceLT, Int.reduceLE, Int.reduceEq, Int.reduceNe, Int.reduceAdd, Int.reduceSub, Int.reduceMul, Int.reduceNeg, List.drop_zero]
  rw [loop_step1]
  simp (disch := omega) only [go_sem, doCall, doCallQ, Nat.reduceAdd, Nat.reduceMul, Nat.reduceSub, Nat.reduceDiv, Nat.reduceMod, Nat.reduceLT, Nat.reduceLeDiff, Nat.reduceEqDiff, Nat.reduceBEq, Nat.reduceBNe, Int.reduceToNat, Int.reduceLT, Int.reduceLE, Int.reduceEq, Int.reduceNe, Int.reduceAdd, Int.reduceSub, Int.reduceMul, Int.reduceNeg, u10_0, lb10_0, hlm, w1, w2, idxC_len, idxD_len, cs_len, av_len, map_cs, map_idx, idxC_take, idxC_drop, plain_av, plain_idx, box_idx, refs_av, owns_av, view_av, ren_av, refs_idx, owns_idx, view_idx, ren_idx, Int.toNat_natCast, Nat.zero_add, chk_of]
  rw [loop_step1]
  simp only [go_sem, doCall, doCallQ, Nat.reduceAdd, Nat.reduceMul, Nat.reduceSub, Nat.reduceDiv, Nat.reduceMod, Nat.reduceLT, Nat.reduceLeDiff, Nat.reduceEqDiff, Nat.reduceBEq, Nat.reduceBNe, Int.reduceToNat, Int.reduceLT, Int.reduceLE, Int.reduceEq, Int.reduceNe, Int.reduceAdd, Int.reduceSub, Int.reduceMul, Int.reduceNeg]
  refine (lp_in _ l hl hd true 1 _ (passF false X0 l) 0 (Nat.zero_le _)).trans ?_
  simp only [go_sem, doCall, doCallQ, Nat.reduceAdd, Nat.reduceMul, Nat.reduceSub, Nat.reduceDiv, Nat.reduceMod, Nat.reduceLT, Nat.reduceLeDiff, Nat.reduceEqDiff, Nat.reduceBEq, Nat.reduceBNe, Int.reduceToNat, Int.reduceLT, Int.reduceLE, Int.reduceEq, Int.reduceNe, Int.reduceAdd, Int.reduceSub, Int.reduceMul, Int.reduceNeg, List.drop_zero]
  rw [loop_step1]
  simp (disch := omega) only [go_sem, doCall, doCallQ, Nat.reduceAdd, Nat.reduceMul, Nat.reduceSub, Nat.reduceDiv, Nat.reduceMod, Nat.reduceLT, Nat.reduceLeDiff, Nat.reduceEqDiff, Nat.reduceBEq, Nat.reduceBNe, Int.reduceToNat, Int.reduceLT, Int.reduceLE, Int.reduceEq, Int.reduceNe, Int.reduceAdd, Int.reduceSub, Int.reduceMul, Int.reduceNeg, u10_0, lb10_0, hlm, w1, w2, idxC_len, idxD_len, cs_len, av_len, map_cs, map_idx, idxC_take, idxC_drop, plain_av, plain_idx, box_idx, refs_av, owns_av, view_av, ren_av, refs_idx, owns_idx, view_idx, ren_idx, Int.toNat_natCast, Nat.zero_add, chk_of]
  rfl
/-! ### the plain law -/
theorem passF_eq (late : Bool) : ∀ (l : List En) (x : Nat → Sl), passF late x l = (l.filter fun e => decide (e.kind = 3) == late).foldl oneF x
  | [], x => rfl
  | e :: l, x => by
    simp only [passF, List.foldl_cons] at *
    cases h : (decide (e.kind = 3) == late)
    · rw [List.filter_cons_of_neg (by simp [h])]
      have e1 : stepF late x e = x := by simp [stepF, h]
      rw [e1]; exact passF_eq late l x
    · rw [List.filter_cons_of_pos (by simp [h]), List.foldl_cons]
      have e1 : stepF late x e = oneF x e := by simp [stepF, h]
      rw [e1]; exact passF_eq late l _
def slicesOf (l : List En) : List En := l.filter fun e => decide (e.kind = 3)
def othersOf (l : List En) : List En := l.filter fun e => !decide (e.kind = 3)
theorem allF_of {l m : List En} (h1 : slicesOf m = slicesOf l) (h2 : othersOf m = othersOf l) : allF m = allF l := by
  have key : ∀ (l : List En), allF l = (slicesOf l).foldl oneF ((othersOf l).foldl oneF X0) := fun l => by
    unfold allF
    rw [passF_eq, passF_eq]
    have e1 : (l.filter fun e => decide (e.kind = 3) == true) = slicesOf l := by unfold slicesOf; congr 1; funext e; cases decide (e.kind = 3) <;> rfl
    have e2 : (l.filter fun e => decide (e.kind = 3) == false) = othersOf l := by unfold othersOf; congr 1; funext e; cases decide (e.kind = 3) <;> rfl
    rw [e1, e2]
  rw [key, key, h1, h2]
theorem allF_turn (l : List En) : allF (othersOf l ++ slicesOf l) = allF l ∧ allF (slicesOf l ++ othersOf l) = allF l := by
  have a1 : slicesOf (othersOf l) = [] := by simp [slicesOf, othersOf, List.filter_filter]
  have a2 : slicesOf (slicesOf l) = slicesOf l := by simp [slicesOf, List.filter_filter]
  have a3 : othersOf (othersOf l) = othersOf l := by simp [othersOf, List.filter_filter]
  have a4 : othersOf (slicesOf l) = [] := by simp [slicesOf, othersOf, List.filter_filter]
  have s1 : ∀ a b, slicesOf (a ++ b) = slicesOf a ++ slicesOf b := fun a b => List.filter_append ..
  have s2 : ∀ a b, othersOf (a ++ b) = othersOf a ++ othersOf b := fun a b => List.filter_append ..
  exact ⟨allF_of (by rw [s1, a1, a2]; rfl) (by rw [s2, a3, a4, List.append_nil]), allF_of (by rw [s1, a2, a1, List.append_nil]) (by rw [s2, a4, a3]; rfl)⟩
end Go.Proofs.Ytoipfdbdifoecaa
