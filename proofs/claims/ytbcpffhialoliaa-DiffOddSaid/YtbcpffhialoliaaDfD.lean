/- Clones, copied, find, DeleteFunc and the sort at what is held. Own work. -/
import Derived.Test.YtbcpffhialoliaaDfC
import Derived.Test.YtbcpffhialoliaaEvNatX
namespace Go.Proofs.Ytbcpffhialoliaa
open Go Go.Ev Go.Proofs.Ytbcpffhialoliaa.Ir
set_option maxRecDepth 100000
set_option maxHeartbeats 4000000
set_option linter.unusedSimpArgs false
set_option linter.unusedVariables false
theorem c_cloneP (l : List Pc) (hl : l.length ≤ 1000000) : call ir 47 [vPs l] [] = some (.own 0 4 0 l.length false, [.arr 4 (l.map pcRow)]) := by
  have hlen : (l.map pcRow).length = l.length := List.length_map ..
  have e := natSC_eq 47 4 48 (xs := l.map pcRow) (by omega)
  rw [hlen] at e
  rw [call_nat (by rfl), nat_eq]
  exact (natOr_r (by rfl)).trans ((natOr_r (by rfl)).trans ((natOr_r (by rfl)).trans (natOr_l e)))
theorem c_cloneH (l : List Hd) (hl : l.length ≤ 1000000) : call ir 32 [vHs l] [] = some (.own 0 6 0 l.length false, [.arr 6 (l.map hdRow)]) := by
  have hlen : (l.map hdRow).length = l.length := List.length_map ..
  have e := natSC_eq 32 6 72 (xs := l.map hdRow) (by omega)
  rw [hlen] at e
  rw [call_nat (by rfl), nat_eq]
  exact (natOr_r (by rfl)).trans ((natOr_r (by rfl)).trans (natOr_l e))
theorem t_bcl (b : List UInt8) (hb : b.length ≤ 1000000) : call ir 48 [.d (.list 1 (bB b))] [] = some (.d (.list 1 (bB b)), []) := by
  rw [call_nat (by rfl), nat_eq]
  refine (natOr_r (by rfl)).trans ((natOr_r (by rfl)).trans ((natOr_r (by rfl)).trans ((natOr_r (by rfl)).trans (natOr_l ?_))))
  rw [natBC_eq _ (show u8s (bB b) = some _ from u8s_map b), if_pos (by simp; omega)]
theorem setPc (l : List Pc) {i : Nat} (h : i < l.length) : (l.map pcRow).set i [.int .i64 l[i].ob, .int .i64 l[i].ge, .int .i64 l[i].ix, .list 1 (bB l[i].bd)] = l.map pcRow := by
  apply List.ext_getElem
  · simp
  · intro j h1 h2
    rw [List.getElem_set]
    split
    · rename_i e; subst e; simp [pcRow]
    · rfl
theorem setHd (l : List Hd) {i : Nat} (h : i < l.length) : (l.map hdRow).set i [.int .i64 l[i].ob, .int .i64 l[i].ge, .str l[i].tg, .int .i64 l[i].le, .int .i64 l[i].ti, .list 4 (l[i].ps.map pcRow)] = l.map hdRow := by
  apply List.ext_getElem
  · simp
  · intro j h1 h2
    rw [List.getElem_set]
    split
    · rename_i e; subst e; simp [hdRow]
    · rfl
theorem lp_cpd (l : List Pc) (hl : l.length ≤ 1000000) (hb : ∀ p ∈ l, p.bd.length ≤ 1000000) (k : Ex → St → Option (AV × Heap)) (i : Nat) (hi : i ≤ l.length) :
    (bnd (evC (call ir) (loop ir) lp33_0 (st33_0 0 (.own 0 4 0 l.length false) (dI l.length) (dI i) [.arr 4 (l.map pcRow)])) (lpC (call ir) (loop ir) [3, 8, 9] lp33_0 k)) = k (.exit 0) (clean [3] (st33_0 0 (.own 0 4 0 l.length false) .unk .unk [.arr 4 (l.map pcRow)])) := by
  by_cases h : i = l.length
  · have hx : ¬ (i : Int) < l.length := by omega
    rw [h] at hx
    rw [h]
    simp (maxSteps := 2000000) (disch := omega) only [go_sem, doCall, doCallQ, doCallP, Nat.reduceAdd, Nat.reduceMul, Nat.reduceSub, Nat.reduceDiv, Nat.reduceMod, Nat.reduceLT, Nat.reduceLeDiff, Nat.reduceEqDiff, Nat.reduceBEq, Nat.reduceBNe, Int.reduceToNat, Int.reduceLT, Int.reduceLE, Int.reduceEq, Int.reduceNe, Int.reduceAdd, Int.reduceSub, Int.reduceMul, Int.reduceNeg, u33_0, lb33_0, hx]
  · have hlt : (i : Int) < l.length := by omega
    have hi' : i < l.length := by omega
    have hw := wr_succ (i := i) (by omega)
    have hg := getPc l hi'
    have hs := setPc l hi'
    have hlm : (l.map pcRow).length = l.length := List.length_map ..
    have hcl := t_bcl l[i].bd (hb _ (List.getElem_mem hi'))
    have ih := lp_cpd l hl hb k (i + 1) (by omega)
    simp (maxSteps := 2000000) (disch := omega) only [go_sem, doCall, doCallQ, doCallP, Nat.reduceAdd, Nat.reduceMul, Nat.reduceSub, Nat.reduceDiv, Nat.reduceMod, Nat.reduceLT, Nat.reduceLeDiff, Nat.reduceEqDiff, Nat.reduceBEq, Nat.reduceBNe, Int.reduceToNat, Int.reduceLT, Int.reduceLE, Int.reduceEq, Int.reduceNe, Int.reduceAdd, Int.reduceSub, Int.reduceMul, Int.reduceNeg, u33_0, lb33_0, hlt, hi', hw, hg, hs, hlm, hcl, Nat.zero_add, List.set_cons_zero, List.set_cons_succ, Int.natCast_nonneg, Int.toNat_natCast, Option.getD_some, Option.getD_none, List.drop_zero, Nat.sub_zero, Nat.zero_le, true_and, and_true, Nat.le_refl, chk_of]
    rw [loop_step1]; simp (maxSteps := 2000000) only [go_sem, doCall, doCallQ, doCallP, Nat.reduceAdd, Nat.reduceMul, Nat.reduceSub, Nat.reduceDiv, Nat.reduceMod, Nat.reduceLT, Nat.reduceLeDiff, Nat.reduceEqDiff, Nat.reduceBEq, Nat.reduceBNe, Int.reduceToNat, Int.reduceLT, Int.reduceLE, Int.reduceEq, Int.reduceNe, Int.reduceAdd, Int.reduceSub, Int.reduceMul, Int.reduceNeg]; exact ih
termination_by l.length - i
theorem t_copied (l : List Pc) (hl : l.length ≤ 1000000) (hb : ∀ p ∈ l, p.bd.length ≤ 1000000) : call ir 33 [vPs l] [] = some (.own 0 4 0 l.length false, [.arr 4 (l.map pcRow)]) := by
  rw [call_eq (fn := ir33) rfl, evF_bnd]
  have hlm : (l.map pcRow).length = l.length := List.length_map ..
  have hc := c_cloneP l hl
  simp (maxSteps := 2000000) (disch := omega) only [go_sem, doCall, doCallQ, doCallP, Nat.reduceAdd, Nat.reduceMul, Nat.reduceSub, Nat.reduceDiv, Nat.reduceMod, Nat.reduceLT, Nat.reduceLeDiff, Nat.reduceEqDiff, Nat.reduceBEq, Nat.reduceBNe, Int.reduceToNat, Int.reduceLT, Int.reduceLE, Int.reduceEq, Int.reduceNe, Int.reduceAdd, Int.reduceSub, Int.reduceMul, Int.reduceNeg, bd33, hc, hlm, Int.natCast_nonneg, Int.toNat_natCast, Option.getD_some, Option.getD_none, List.drop_zero, Nat.sub_zero, Nat.zero_le, true_and, and_true, Nat.le_refl, chk_of]
  rw [loop_step1]; simp (maxSteps := 2000000) only [go_sem, doCall, doCallQ, doCallP, Nat.reduceAdd, Nat.reduceMul, Nat.reduceSub, Nat.reduceDiv, Nat.reduceMod, Nat.reduceLT, Nat.reduceLeDiff, Nat.reduceEqDiff, Nat.reduceBEq, Nat.reduceBNe, Int.reduceToNat, Int.reduceLT, Int.reduceLE, Int.reduceEq, Int.reduceNe, Int.reduceAdd, Int.reduceSub, Int.reduceMul, Int.reduceNeg]
  refine (lp_cpd l hl hb _ 0 (Nat.zero_le _)).trans ?_
  simp (maxSteps := 2000000) (disch := omega) only [go_sem, doCall, doCallQ, doCallP, Nat.reduceAdd, Nat.reduceMul, Nat.reduceSub, Nat.reduceDiv, Nat.reduceMod, Nat.reduceLT, Nat.reduceLeDiff, Nat.reduceEqDiff, Nat.reduceBEq, Nat.reduceBNe, Int.reduceToNat, Int.reduceLT, Int.reduceLE, Int.reduceEq, Int.reduceNe, Int.reduceAdd, Int.reduceSub, Int.reduceMul, Int.reduceNeg]
/-! ### IndexFunc and DeleteFunc by the object -/
abbrev clH (g : Nat) : AV := .clo (.func g) [] [.ptr 1 0]
def isO (o : Int) (d : Hd) : Bool := decide (d.ob = o)
def noO (o : Int) (d : Hd) : Bool := !isO o d
theorem c_find1 (o : Int) (d : Hd) : call ir 39 [vHd d, .ptr 0 0] [.dbox [.int .i64 o]] = some (dT (isO o d), [.dbox [.int .i64 o]]) := by
  rw [call_eq (fn := ir39) rfl, evF_bnd]
  unfold isO
  by_cases h : d.ob = o
  · rw [decide_eq_true h]
    simp (maxSteps := 2000000) (disch := omega) only [go_sem, doCall, doCallQ, doCallP, Nat.reduceAdd, Nat.reduceMul, Nat.reduceSub, Nat.reduceDiv, Nat.reduceMod, Nat.reduceLT, Nat.reduceLeDiff, Nat.reduceEqDiff, Nat.reduceBEq, Nat.reduceBNe, Int.reduceToNat, Int.reduceLT, Int.reduceLE, Int.reduceEq, Int.reduceNe, Int.reduceAdd, Int.reduceSub, Int.reduceMul, Int.reduceNeg, bd39, show (d.ob == o) = true by simp [h], eq_true h, Int.natCast_nonneg, Int.toNat_natCast, Option.getD_some, Option.getD_none, List.drop_zero, Nat.sub_zero, Nat.zero_le, true_and, and_true, Nat.le_refl, chk_of]
  · rw [decide_eq_false h]
    simp (maxSteps := 2000000) (disch := omega) only [go_sem, doCall, doCallQ, doCallP, Nat.reduceAdd, Nat.reduceMul, Nat.reduceSub, Nat.reduceDiv, Nat.reduceMod, Nat.reduceLT, Nat.reduceLeDiff, Nat.reduceEqDiff, Nat.reduceBEq, Nat.reduceBNe, Int.reduceToNat, Int.reduceLT, Int.reduceLE, Int.reduceEq, Int.reduceNe, Int.reduceAdd, Int.reduceSub, Int.reduceMul, Int.reduceNeg, bd39, show (d.ob == o) = false by simp [h], eq_false h, Int.natCast_nonneg, Int.toNat_natCast, Option.getD_some, Option.getD_none, List.drop_zero, Nat.sub_zero, Nat.zero_le, true_and, and_true, Nat.le_refl, chk_of]
theorem c_own1 (o : Int) (d : Hd) (b1 b2 : Bool) (x1 x2 : Int) (s : List UInt8) (x3 x4 : Int) (L1 L2 : List (List D)) : call ir 34 [vHd d, .ptr 0 0] [.dbox [.int .i64 o, .bool b1, .bool b2, .int .i64 x1, .int .i64 x2, .str s, .int .i64 x3, .int .i64 x4, .list 4 L1, .list 1 L2]] =
    some (dT (isO o d), [.dbox [.int .i64 o, .bool b1, .bool b2, .int .i64 x1, .int .i64 x2, .str s, .int .i64 x3, .int .i64 x4, .list 4 L1, .list 1 L2]]) := by
  rw [call_eq (fn := ir34) rfl, evF_bnd]
  unfold isO
  by_cases h : d.ob = o
  · rw [decide_eq_true h]
    simp (maxSteps := 2000000) (disch := omega) only [go_sem, doCall, doCallQ, doCallP, Nat.reduceAdd, Nat.reduceMul, Nat.reduceSub, Nat.reduceDiv, Nat.reduceMod, Nat.reduceLT, Nat.reduceLeDiff, Nat.reduceEqDiff, Nat.reduceBEq, Nat.reduceBNe, Int.reduceToNat, Int.reduceLT, Int.reduceLE, Int.reduceEq, Int.reduceNe, Int.reduceAdd, Int.reduceSub, Int.reduceMul, Int.reduceNeg, bd34, show (d.ob == o) = true by simp [h], eq_true h, Int.natCast_nonneg, Int.toNat_natCast, Option.getD_some, Option.getD_none, List.drop_zero, Nat.sub_zero, Nat.zero_le, true_and, and_true, Nat.le_refl, chk_of]
  · rw [decide_eq_false h]
    simp (maxSteps := 2000000) (disch := omega) only [go_sem, doCall, doCallQ, doCallP, Nat.reduceAdd, Nat.reduceMul, Nat.reduceSub, Nat.reduceDiv, Nat.reduceMod, Nat.reduceLT, Nat.reduceLeDiff, Nat.reduceEqDiff, Nat.reduceBEq, Nat.reduceBNe, Int.reduceToNat, Int.reduceLT, Int.reduceLE, Int.reduceEq, Int.reduceNe, Int.reduceAdd, Int.reduceSub, Int.reduceMul, Int.reduceNeg, bd34, show (d.ob == o) = false by simp [h], eq_false h, Int.natCast_nonneg, Int.toNat_natCast, Option.getD_some, Option.getD_none, List.drop_zero, Nat.sub_zero, Nat.zero_le, true_and, and_true, Nat.le_refl, chk_of]
theorem lp_ixH (g : Nat) (cs : List D) (o : Int) (hc : ∀ d : Hd, call ir g [vHd d, .ptr 0 0] [.dbox cs] = some (dT (isO o d), [.dbox cs])) (l : List Hd) (b : Bool) (hl : l.length ≤ 1000000) (i : Nat) (hi : i ≤ l.length) (hp : (l.take i).filter (noO o) = l.take i) :
    ∃ r : Int, (bnd (evC (call ir) (loop ir) lp40_0 (st40_0 2 (.own 0 6 0 l.length b) (clH g) (dI l.length) (dI i) [.arr 6 (l.map hdRow), .dbox cs])) (lpC (call ir) (loop ir) [0, 1, 7, 8] lp40_0 (bk 0 (sq (call ir) (loop ir) (.seq (.reg [⟨some 4, none, .mv (.c (.d (.int .i64 (-1)))), .none⟩]) (.ret none)) (fin ir40))))) =
      some (dI r, [.arr 6 (l.map hdRow), .dbox cs]) ∧ ((r = -1 ∧ l.filter (noO o) = l) ∨ ∃ n : Nat, r = n ∧ n < l.length ∧ (l.take n).filter (noO o) = l.take n ∧ isO o (l.getD n default) = true) := by
  by_cases h : i = l.length
  · have hx : ¬ (i : Int) < l.length := by omega
    refine ⟨-1, ?_, .inl ⟨rfl, by rw [h, List.take_length] at hp; exact hp⟩⟩
    simp (maxSteps := 2000000) (disch := omega) only [go_sem, doCall, doCallQ, doCallP, Nat.reduceAdd, Nat.reduceMul, Nat.reduceSub, Nat.reduceDiv, Nat.reduceMod, Nat.reduceLT, Nat.reduceLeDiff, Nat.reduceEqDiff, Nat.reduceBEq, Nat.reduceBNe, Int.reduceToNat, Int.reduceLT, Int.reduceLE, Int.reduceEq, Int.reduceNe, Int.reduceAdd, Int.reduceSub, Int.reduceMul, Int.reduceNeg, u40_0, lb40_0, hx]
  · have hlt : (i : Int) < l.length := by omega
    have hi' : i < l.length := by omega
    have hw := wr_succ (i := i) (by omega)
    have hlm : (l.map hdRow).length = l.length := List.length_map ..
    have hg := getHd l hi'
    have hcc := hc l[i]
    cases hin : isO o l[i]
    · rw [hin] at hcc
      obtain ⟨r, ih, hr2⟩ := lp_ixH g cs o hc l b hl (i + 1) (by omega) (by rw [List.take_succ_eq_append_getElem hi', List.filter_append, hp, List.filter_cons, if_pos (by unfold noO; rw [hin]; rfl)]; rfl)
      refine ⟨r, ?_, hr2⟩
      simp (maxSteps := 2000000) (disch := omega) only [go_sem, doCall, doCallQ, doCallP, Nat.reduceAdd, Nat.reduceMul, Nat.reduceSub, Nat.reduceDiv, Nat.reduceMod, Nat.reduceLT, Nat.reduceLeDiff, Nat.reduceEqDiff, Nat.reduceBEq, Nat.reduceBNe, Int.reduceToNat, Int.reduceLT, Int.reduceLE, Int.reduceEq, Int.reduceNe, Int.reduceAdd, Int.reduceSub, Int.reduceMul, Int.reduceNeg, u40_0, lb40_0, hlt, hi', hg, hlm, hcc, Nat.zero_add, Int.natCast_nonneg, Int.toNat_natCast, Option.getD_some, Option.getD_none, List.drop_zero, Nat.sub_zero, Nat.zero_le, true_and, and_true, Nat.le_refl, chk_of]
      rw [loop_step1]
      simp (maxSteps := 2000000) only [go_sem, doCall, doCallQ, doCallP, Nat.reduceAdd, Nat.reduceMul, Nat.reduceSub, Nat.reduceDiv, Nat.reduceMod, Nat.reduceLT, Nat.reduceLeDiff, Nat.reduceEqDiff, Nat.reduceBEq, Nat.reduceBNe, Int.reduceToNat, Int.reduceLT, Int.reduceLE, Int.reduceEq, Int.reduceNe, Int.reduceAdd, Int.reduceSub, Int.reduceMul, Int.reduceNeg, hw]
      exact ih
    · rw [hin] at hcc
      refine ⟨i, ?_, .inr ⟨i, rfl, hi', hp, by rw [gH hi']; exact hin⟩⟩
      simp (maxSteps := 2000000) (disch := omega) only [go_sem, doCall, doCallQ, doCallP, Nat.reduceAdd, Nat.reduceMul, Nat.reduceSub, Nat.reduceDiv, Nat.reduceMod, Nat.reduceLT, Nat.reduceLeDiff, Nat.reduceEqDiff, Nat.reduceBEq, Nat.reduceBNe, Int.reduceToNat, Int.reduceLT, Int.reduceLE, Int.reduceEq, Int.reduceNe, Int.reduceAdd, Int.reduceSub, Int.reduceMul, Int.reduceNeg, u40_0, lb40_0, hlt, hi', hg, hlm, hcc, Nat.zero_add, Int.natCast_nonneg, Int.toNat_natCast, Option.getD_some, Option.getD_none, List.drop_zero, Nat.sub_zero, Nat.zero_le, true_and, and_true, Nat.le_refl, chk_of]
termination_by l.length - i
theorem c_ixH (g : Nat) (cs : List D) (o : Int) (hc : ∀ d : Hd, call ir g [vHd d, .ptr 0 0] [.dbox cs] = some (dT (isO o d), [.dbox cs])) (l : List Hd) (b : Bool) (hl : l.length ≤ 1000000) :
    ∃ r : Int, call ir 40 [.own 0 6 0 l.length b, clH g] [.arr 6 (l.map hdRow), .dbox cs] =
      some (dI r, [.arr 6 (l.map hdRow), .dbox cs]) ∧ ((r = -1 ∧ l.filter (noO o) = l) ∨ ∃ n : Nat, r = n ∧ n < l.length ∧ (l.take n).filter (noO o) = l.take n ∧ isO o (l.getD n default) = true) := by
  obtain ⟨r, h1, h2⟩ := lp_ixH g cs o hc l b hl 0 (by omega) rfl
  refine ⟨r, ?_, h2⟩
  have hlm : (l.map hdRow).length = l.length := List.length_map ..
  rw [call_eq (fn := ir40) rfl, evF_bnd]
  simp (maxSteps := 2000000) (disch := omega) only [go_sem, doCall, doCallQ, doCallP, Nat.reduceAdd, Nat.reduceMul, Nat.reduceSub, Nat.reduceDiv, Nat.reduceMod, Nat.reduceLT, Nat.reduceLeDiff, Nat.reduceEqDiff, Nat.reduceBEq, Nat.reduceBNe, Int.reduceToNat, Int.reduceLT, Int.reduceLE, Int.reduceEq, Int.reduceNe, Int.reduceAdd, Int.reduceSub, Int.reduceMul, Int.reduceNeg, bd40, hlm, Int.natCast_nonneg, Int.toNat_natCast, Option.getD_some, Option.getD_none, List.drop_zero, Nat.sub_zero, Nat.zero_le, true_and, and_true, Nat.le_refl, chk_of]
  rw [loop_step1]
  simp (maxSteps := 2000000) only [go_sem, doCall, doCallQ, doCallP, Nat.reduceAdd, Nat.reduceMul, Nat.reduceSub, Nat.reduceDiv, Nat.reduceMod, Nat.reduceLT, Nat.reduceLeDiff, Nat.reduceEqDiff, Nat.reduceBEq, Nat.reduceBNe, Int.reduceToNat, Int.reduceLT, Int.reduceLE, Int.reduceEq, Int.reduceNe, Int.reduceAdd, Int.reduceSub, Int.reduceMul, Int.reduceNeg]
  exact h1
/-- What is held of an object: the first. -/
def fndO (o : Int) (l : List Hd) : Option Hd := l.find? (isO o)
theorem fnd_of {o : Int} {l : List Hd} {n : Nat} (hn : n < l.length) (h1 : (l.take n).filter (noO o) = l.take n) (h2 : isO o l[n] = true) : fndO o l = some l[n] := by
  have e : l = l.take n ++ l[n] :: l.drop (n + 1) := by rw [← List.drop_eq_getElem_cons hn, List.take_append_drop]
  unfold fndO
  generalize l[n] = x at e h2 ⊢
  rw [e, List.find?_append]
  have h3 : (l.take n).find? (isO o) = none := by
    rw [List.find?_eq_none]
    intro x hx
    rw [← h1] at hx
    have := (List.mem_filter.1 hx).2
    unfold noO at this
    simpa using this
  rw [h3, Option.none_or, List.find?_cons_of_pos (by simpa using h2)]
theorem fnd_none {o : Int} {l : List Hd} (h : l.filter (noO o) = l) : fndO o l = none := by
  unfold fndO
  rw [List.find?_eq_none]
  intro x hx
  rw [← h] at hx
  have := (List.mem_filter.1 hx).2
  unfold noO at this
  simpa using this
def d0 : Hd := ⟨0, 0, [], 0, 0, []⟩
theorem t_findO (o : Int) (l : List Hd) (hl : l.length ≤ 1000000) : call ir 18 [.own 0 6 0 l.length false, dI o] [.arr 6 (l.map hdRow)] =
    some (.tup [vHd ((fndO o l).getD d0), dT (fndO o l).isSome], [.arr 6 (l.map hdRow)]) := by
  obtain ⟨r, e1, h⟩ := c_ixH 39 [.int .i64 o] o (c_find1 o) l false hl
  have hlm : (l.map hdRow).length = l.length := List.length_map ..
  rw [call_eq (fn := ir18) rfl, evF_bnd]
  rcases h with ⟨rfl, h⟩ | ⟨n, rfl, hn, h1, h2⟩
  · rw [fnd_none h]
    simp (maxSteps := 2000000) (disch := omega) only [go_sem, doCall, doCallQ, doCallP, Nat.reduceAdd, Nat.reduceMul, Nat.reduceSub, Nat.reduceDiv, Nat.reduceMod, Nat.reduceLT, Nat.reduceLeDiff, Nat.reduceEqDiff, Nat.reduceBEq, Nat.reduceBNe, Int.reduceToNat, Int.reduceLT, Int.reduceLE, Int.reduceEq, Int.reduceNe, Int.reduceAdd, Int.reduceSub, Int.reduceMul, Int.reduceNeg, bd18, e1, hlm, Int.natCast_nonneg, Int.toNat_natCast, Option.getD_some, Option.getD_none, List.drop_zero, Nat.sub_zero, Nat.zero_le, true_and, and_true, Nat.le_refl, chk_of]
    rfl
  · rw [gH hn] at h2
    have hg := getHd l hn
    have hx := eq_false (show ¬ (n : Int) < 0 by omega)
    rw [fnd_of hn h1 h2]
    simp (maxSteps := 2000000) (disch := omega) only [go_sem, doCall, doCallQ, doCallP, Nat.reduceAdd, Nat.reduceMul, Nat.reduceSub, Nat.reduceDiv, Nat.reduceMod, Nat.reduceLT, Nat.reduceLeDiff, Nat.reduceEqDiff, Nat.reduceBEq, Nat.reduceBNe, Int.reduceToNat, Int.reduceLT, Int.reduceLE, Int.reduceEq, Int.reduceNe, Int.reduceAdd, Int.reduceSub, Int.reduceMul, Int.reduceNeg, bd18, e1, hlm, hx, hn, hg, Nat.zero_add, Int.natCast_nonneg, Int.toNat_natCast, Option.getD_some, Option.getD_none, List.drop_zero, Nat.sub_zero, Nat.zero_le, true_and, and_true, Nat.le_refl, chk_of]
    rfl
end Go.Proofs.Ytbcpffhialoliaa
