/- The door: what each function does. Own work. -/
import Derived.Test.YtefcgdcmhhgfgaaIrX
import Derived.Test.YtefcgdcmhhgfgaaEvArg
namespace Go.Proofs.Ytefcgdcmhhgfgaa
open Go Go.Ev Go.Proofs.Ytefcgdcmhhgfgaa.Ir
set_option maxRecDepth 100000
set_option linter.unusedSimpArgs false
set_option linter.unusedVariables false
theorem may_eq (a : Int) : call ir 47 [.d (.int .i64 a)] [] = some (.d (.bool (decide (0 ≤ a ∧ a < 16))), []) := by
  rw [call_eq (fn := ir47) rfl, evF_bnd]
  simp only [go_sem, doCall, doCallQ, Nat.reduceAdd, Nat.reduceMul, Nat.reduceSub, Nat.reduceDiv, Nat.reduceMod, Nat.reduceLT, Nat.reduceLeDiff, Nat.reduceEqDiff, Nat.reduceBEq, Nat.reduceBNe, Int.reduceToNat, Int.reduceLT, Int.reduceLE, Int.reduceEq, Int.reduceNe, Int.reduceAdd, Int.reduceSub, Int.reduceMul, Int.reduceNeg, bd47]
  repeat' (apply two_cases <;> intro h <;> simp only [go_sem, doCall, doCallQ, Nat.reduceAdd, Nat.reduceMul, Nat.reduceSub, Nat.reduceDiv, Nat.reduceMod, Nat.reduceLT, Nat.reduceLeDiff, Nat.reduceEqDiff, Nat.reduceBEq, Nat.reduceBNe, Int.reduceToNat, Int.reduceLT, Int.reduceLE, Int.reduceEq, Int.reduceNe, Int.reduceAdd, Int.reduceSub, Int.reduceMul, Int.reduceNeg, h, false_and, and_false])
def halve (g : Nat → Int) (i : Nat) : Nat → Int := fun j => if j < i then wr .i64 ((g j).tdiv 2) else g j
def seen1 (g : Nat → Int) (x : Int) : Nat → Int := upd (upd g x.toNat (wr .i64 (g x.toNat + 1))) 16 (wr .i64 (g 16 + 1))
def note (g : Nat → Int) (x : Int) : Nat → Int := if 0 ≤ x ∧ x < 16 then (if (seen1 g x 16).tmod 32 = 0 then halve (seen1 g x) 16 else seen1 g x) else g
theorem halve_step (g : Nat → Int) (i : Nat) : upd (halve g i) i (wr .i64 ((halve g i i).tdiv 2)) = halve g (i + 1) := by
  funext j
  unfold upd halve
  by_cases h1 : j = i
  · subst h1; simp
  · by_cases h2 : j < i
    · have : j < i + 1 := by omega
      simp [h1, h2, this]
    · have : ¬ j < i + 1 := by omega
      simp [h1, h2, this]
theorem lp_note (g : Nat → Int) (z : List D) (k : Ex → St → Option (AV × Heap)) (i : Nat) (hi : i ≤ 16) :
    bnd (evC (call ir) (loop ir) lp14_0 (st14_0 0 (.ptr 0 0) (.ptr 1 0) (.d (.int .i64 i)) [.dbox (iarr 17 (halve g i)), .dbox z])) (lpC (call ir) (loop ir) [2, 4, 25] lp14_0 k) =
      k (.exit 0) (clean [2, 4] (st14_0 0 (.ptr 0 0) (.ptr 1 0) (.d (.int .i64 16)) [.dbox (iarr 17 (halve g 16)), .dbox z])) := by
  by_cases h : i = 16
  · have hx : ¬ (i : Int) < 16 := by omega
    simp (disch := omega) only [go_sem, doCall, doCallQ, Nat.reduceAdd, Nat.reduceMul, Nat.reduceSub, Nat.reduceDiv, Nat.reduceMod, Nat.reduceLT, Nat.reduceLeDiff, Nat.reduceEqDiff, Nat.reduceBEq, Nat.reduceBNe, Int.reduceToNat, Int.reduceLT, Int.reduceLE, Int.reduceEq, Int.reduceNe, Int.reduceAdd, Int.reduceSub, Int.reduceMul, Int.reduceNeg, u14_0, lb14_0, hx]
    rw [h]
  · have hlt : (i : Int) < 16 := by omega
    have hw := wr_succ (i := i) (by omega)
    simp (disch := omega) only [go_sem, doCall, doCallQ, Nat.reduceAdd, Nat.reduceMul, Nat.reduceSub, Nat.reduceDiv, Nat.reduceMod, Nat.reduceLT, Nat.reduceLeDiff, Nat.reduceEqDiff, Nat.reduceBEq, Nat.reduceBNe, Int.reduceToNat, Int.reduceLT, Int.reduceLE, Int.reduceEq, Int.reduceNe, Int.reduceAdd, Int.reduceSub, Int.reduceMul, Int.reduceNeg, u14_0, lb14_0, hlt, arr_len, Nat.mul_one, Nat.zero_add, Nat.add_zero, Int.toNat_natCast, arr_getD, arr_put, upd_int, halve_step, chk_of]
    rw [loop_step1]
    simp only [go_sem, doCall, doCallQ, Nat.reduceAdd, Nat.reduceMul, Nat.reduceSub, Nat.reduceDiv, Nat.reduceMod, Nat.reduceLT, Nat.reduceLeDiff, Nat.reduceEqDiff, Nat.reduceBEq, Nat.reduceBNe, Int.reduceToNat, Int.reduceLT, Int.reduceLE, Int.reduceEq, Int.reduceNe, Int.reduceAdd, Int.reduceSub, Int.reduceMul, Int.reduceNeg, hw]
    exact lp_note g z k (i + 1) (by omega)
termination_by 16 - i
theorem put16 (f : Nat → D) (v : D) : (arr 17 f).take 16 ++ [v] = arr 17 (upd f 16 v) := by
  have := arr_put (n := 17) (f := f) (i := 16) (by omega) v
  rwa [arr_drop, List.append_nil] at this
theorem halve_zero (g : Nat → Int) : halve g 0 = g := by
  funext j; simp [halve]
theorem t_note (g : Nat → Int) (x : Int) : call ir 14 [.agg ((iarr 17 g).map .d), .d (.int .i64 x)] [] = some (.agg ((iarr 17 (note g x)).map .d), []) := by
  rw [call_eq (fn := ir14) rfl, evF_bnd]
  simp only [go_sem, doCall, doCallQ, Nat.reduceAdd, Nat.reduceMul, Nat.reduceSub, Nat.reduceDiv, Nat.reduceMod, Nat.reduceLT, Nat.reduceLeDiff, Nat.reduceEqDiff, Nat.reduceBEq, Nat.reduceBNe, Int.reduceToNat, Int.reduceLT, Int.reduceLE, Int.reduceEq, Int.reduceNe, Int.reduceAdd, Int.reduceSub, Int.reduceMul, Int.reduceNeg, bd14, boxOf_map, may_eq, arr_len]
  apply two_cases
  · intro h
    simp (disch := omega) only [go_sem, doCall, doCallQ, Nat.reduceAdd, Nat.reduceMul, Nat.reduceSub, Nat.reduceDiv, Nat.reduceMod, Nat.reduceLT, Nat.reduceLeDiff, Nat.reduceEqDiff, Nat.reduceBEq, Nat.reduceBNe, Int.reduceToNat, Int.reduceLT, Int.reduceLE, Int.reduceEq, Int.reduceNe, Int.reduceAdd, Int.reduceSub, Int.reduceMul, Int.reduceNeg, h, arr_take, arr_len, plainD_arr, List.length_map, arr_drop, chk_of]
    simp only [note, if_neg h]
  · intro h
    have e16 : upd g x.toNat (wr .i64 (g x.toNat + 1)) 16 = g 16 := by unfold upd; rw [if_neg (by omega)]
    have es : upd (upd g x.toNat (wr .i64 (g x.toNat + 1))) 16 (wr .i64 (g 16 + 1)) = seen1 g x := rfl
    simp (disch := omega) only [go_sem, doCall, doCallQ, Nat.reduceAdd, Nat.reduceMul, Nat.reduceSub, Nat.reduceDiv, Nat.reduceMod, Nat.reduceLT, Nat.reduceLeDiff, Nat.reduceEqDiff, Nat.reduceBEq, Nat.reduceBNe, Int.reduceToNat, Int.reduceLT, Int.reduceLE, Int.reduceEq, Int.reduceNe, Int.reduceAdd, Int.reduceSub, Int.reduceMul, Int.reduceNeg, h, arr_take, arr_len, plainD_arr, List.length_map, arr_drop, Nat.mul_one, Nat.zero_add, arr_getD, arr_put, upd_int, put16, e16, es, chk_of]
    apply two_cases
    · intro h1
      simp (disch := omega) only [go_sem, doCall, doCallQ, Nat.reduceAdd, Nat.reduceMul, Nat.reduceSub, Nat.reduceDiv, Nat.reduceMod, Nat.reduceLT, Nat.reduceLeDiff, Nat.reduceEqDiff, Nat.reduceBEq, Nat.reduceBNe, Int.reduceToNat, Int.reduceLT, Int.reduceLE, Int.reduceEq, Int.reduceNe, Int.reduceAdd, Int.reduceSub, Int.reduceMul, Int.reduceNeg, h1, arr_take, arr_len, plainD_arr, arr_drop]
      rw [loop_step1]
      simp only [go_sem, doCall, doCallQ, Nat.reduceAdd, Nat.reduceMul, Nat.reduceSub, Nat.reduceDiv, Nat.reduceMod, Nat.reduceLT, Nat.reduceLeDiff, Nat.reduceEqDiff, Nat.reduceBEq, Nat.reduceBNe, Int.reduceToNat, Int.reduceLT, Int.reduceLE, Int.reduceEq, Int.reduceNe, Int.reduceAdd, Int.reduceSub, Int.reduceMul, Int.reduceNeg]
      have := lp_note (seen1 g x) [D.int IntKind.i64 0, D.int IntKind.i64 0, D.int IntKind.i64 0, D.int IntKind.i64 0, D.int IntKind.i64 0, D.int IntKind.i64 0, D.int IntKind.i64 0, D.int IntKind.i64 0, D.int IntKind.i64 0, D.int IntKind.i64 0, D.int IntKind.i64 0, D.int IntKind.i64 0, D.int IntKind.i64 0, D.int IntKind.i64 0, D.int IntKind.i64 0, D.int IntKind.i64 0, D.int IntKind.i64 0]
      rw [← halve_zero (seen1 g x)]
      refine Eq.trans (this _ 0 (by omega)) ?_
      simp (disch := omega) only [go_sem, doCall, doCallQ, Nat.reduceAdd, Nat.reduceMul, Nat.reduceSub, Nat.reduceDiv, Nat.reduceMod, Nat.reduceLT, Nat.reduceLeDiff, Nat.reduceEqDiff, Nat.reduceBEq, Nat.reduceBNe, Int.reduceToNat, Int.reduceLT, Int.reduceLE, Int.reduceEq, Int.reduceNe, Int.reduceAdd, Int.reduceSub, Int.reduceMul, Int.reduceNeg, arr_take, arr_len, plainD_arr, arr_drop]
      simp only [note, if_pos (Classical.not_not.1 h), if_pos h1, halve_zero]
    · intro h1
      simp (disch := omega) only [go_sem, doCall, doCallQ, Nat.reduceAdd, Nat.reduceMul, Nat.reduceSub, Nat.reduceDiv, Nat.reduceMod, Nat.reduceLT, Nat.reduceLeDiff, Nat.reduceEqDiff, Nat.reduceBEq, Nat.reduceBNe, Int.reduceToNat, Int.reduceLT, Int.reduceLE, Int.reduceEq, Int.reduceNe, Int.reduceAdd, Int.reduceSub, Int.reduceMul, Int.reduceNeg, h1, arr_take, arr_len, plainD_arr, arr_drop]
      simp only [note, if_pos (Classical.not_not.1 h), if_neg h1]
theorem t_new : call ir 13 [] [] = some (.agg ((iarr 17 fun _ => 0).map .d), []) := call_of (n := 40) (by kernel_rfl)
theorem t_awake : call ir 12 [] [] = some (.d (.bool true), []) := call_of (n := 60) (by kernel_rfl)
theorem t_count (g : Nat → Int) : call ir 16 [.agg ((iarr 17 g).map .d)] [] = some (.d (.int .i64 (g 16)), []) := by
  rw [call_eq (fn := ir16) rfl, evF_bnd]
  simp (disch := omega) only [go_sem, doCall, doCallQ, Nat.reduceAdd, Nat.reduceMul, Nat.reduceSub, Nat.reduceDiv, Nat.reduceMod, Nat.reduceLT, Nat.reduceLeDiff, Nat.reduceEqDiff, Nat.reduceBEq, Nat.reduceBNe, Int.reduceToNat, Int.reduceLT, Int.reduceLE, Int.reduceEq, Int.reduceNe, Int.reduceAdd, Int.reduceSub, Int.reduceMul, Int.reduceNeg, bd16, arr_len, arr_getD, chk_of]
def seen (g : Nat → Int) (x : Int) : Int := if 0 ≤ x ∧ x < 16 then g x.toNat else 0
theorem t_seen (g : Nat → Int) (x : Int) : call ir 15 [.agg ((iarr 17 g).map .d), .d (.int .i64 x)] [] = some (.d (.int .i64 (seen g x)), []) := by
  rw [call_eq (fn := ir15) rfl, evF_bnd]
  simp (disch := omega) only [go_sem, doCall, doCallQ, Nat.reduceAdd, Nat.reduceMul, Nat.reduceSub, Nat.reduceDiv, Nat.reduceMod, Nat.reduceLT, Nat.reduceLeDiff, Nat.reduceEqDiff, Nat.reduceBEq, Nat.reduceBNe, Int.reduceToNat, Int.reduceLT, Int.reduceLE, Int.reduceEq, Int.reduceNe, Int.reduceAdd, Int.reduceSub, Int.reduceMul, Int.reduceNeg, bd15, arr_len, may_eq]
  apply two_cases
  · intro h
    simp only [go_sem, doCall, doCallQ, Nat.reduceAdd, Nat.reduceMul, Nat.reduceSub, Nat.reduceDiv, Nat.reduceMod, Nat.reduceLT, Nat.reduceLeDiff, Nat.reduceEqDiff, Nat.reduceBEq, Nat.reduceBNe, Int.reduceToNat, Int.reduceLT, Int.reduceLE, Int.reduceEq, Int.reduceNe, Int.reduceAdd, Int.reduceSub, Int.reduceMul, Int.reduceNeg, h]
    simp only [seen, if_neg h]
  · intro h
    simp (disch := omega) only [go_sem, doCall, doCallQ, Nat.reduceAdd, Nat.reduceMul, Nat.reduceSub, Nat.reduceDiv, Nat.reduceMod, Nat.reduceLT, Nat.reduceLeDiff, Nat.reduceEqDiff, Nat.reduceBEq, Nat.reduceBNe, Int.reduceToNat, Int.reduceLT, Int.reduceLE, Int.reduceEq, Int.reduceNe, Int.reduceAdd, Int.reduceSub, Int.reduceMul, Int.reduceNeg, h, arr_len, arr_getD, Nat.mul_one, Nat.zero_add, chk_of]
    simp only [seen, if_pos (Classical.not_not.1 h)]
theorem t_admit (g : Nat → Int) (x n m : Int) : call ir 17 [.agg ((iarr 17 g).map .d), .d (.int .i64 x), .d (.int .i64 n), .d (.int .i64 m)] [] = some (.d (.bool (decide (0 ≤ x ∧ x < 16 ∧ 0 ≤ n ∧ n ≤ m ∧ 2 ≤ seen g x))), []) := by
  rw [call_eq (fn := ir17) rfl, evF_bnd]
  simp (disch := omega) only [go_sem, doCall, doCallQ, Nat.reduceAdd, Nat.reduceMul, Nat.reduceSub, Nat.reduceDiv, Nat.reduceMod, Nat.reduceLT, Nat.reduceLeDiff, Nat.reduceEqDiff, Nat.reduceBEq, Nat.reduceBNe, Int.reduceToNat, Int.reduceLT, Int.reduceLE, Int.reduceEq, Int.reduceNe, Int.reduceAdd, Int.reduceSub, Int.reduceMul, Int.reduceNeg, bd17, may_eq]
  repeat' (apply two_cases <;> intro h <;> simp (disch := omega) only [go_sem, doCall, doCallQ, Nat.reduceAdd, Nat.reduceMul, Nat.reduceSub, Nat.reduceDiv, Nat.reduceMod, Nat.reduceLT, Nat.reduceLeDiff, Nat.reduceEqDiff, Nat.reduceBEq, Nat.reduceBNe, Int.reduceToNat, Int.reduceLT, Int.reduceLE, Int.reduceEq, Int.reduceNe, Int.reduceAdd, Int.reduceSub, Int.reduceMul, Int.reduceNeg, h, may_eq, t_seen, arr_len, arr_take, false_and, and_false, chk_of])
  all_goals exact dec_f (fun hh => by omega)

abbrev eI (x : Int) : List D := [.int .i64 x]
theorem get_eI (l : List Int) (i : Nat) (h : i < l.length) : (l.map eI).getD i [] = eI (l[i]) := by simp [List.getD_eq_getElem?_getD, h]
def notes (l : List Int) : Nat → Int := l.foldl note fun _ => 0
theorem notes_succ (l : List Int) (i : Nat) (h : i < l.length) : notes (l.take (i + 1)) = note (notes (l.take i)) l[i] := by
  unfold notes
  rw [List.take_succ_eq_append_getElem h, List.foldl_append]; rfl
theorem count_succ (l : List Int) (o : Int) (i : Nat) (h : i < l.length) : (l.take (i + 1)).count o = (l.take i).count o + if l[i] = o then 1 else 0 := by
  rw [List.take_succ_eq_append_getElem h, List.count_append]
  congr 1
  by_cases e : l[i] = o
  · rw [e]; simp
  · rw [if_neg e]; simp [e]
theorem lp_twice (l : List Int) (hl : l.length ≤ 1000) (o n : Int) (k : Ex → St → Option (AV × Heap)) (i : Nat) (hi : i ≤ l.length) :
    bnd (evC (call ir) (loop ir) lp4_0 (st4_0 0 (.d (.int .i64 o)) (.d (.int .i64 n)) (.ptr 0 0) (.d (.int .i64 ((l.take i).count o : Nat))) (.d (.list 1 (l.map eI))) (.d (.int .i64 l.length)) (.d (.int .i64 i)) [.dbox (iarr 17 (notes (l.take i)))])) (lpC (call ir) (loop ir) [1, 2, 7, 8, 30, 31, 32] lp4_0 k) =
      k (.exit 0) (clean [1, 2, 7, 8] (st4_0 0 (.d (.int .i64 o)) (.d (.int .i64 n)) (.ptr 0 0) (.d (.int .i64 (l.count o : Nat))) (.d (.list 1 (l.map eI))) (.d (.int .i64 l.length)) (.d (.int .i64 i)) [.dbox (iarr 17 (notes l))])) := by
  by_cases h : i = l.length
  · have hx : ¬ (i : Int) < l.length := by omega
    simp (disch := omega) only [go_sem, doCall, doCallQ, Nat.reduceAdd, Nat.reduceMul, Nat.reduceSub, Nat.reduceDiv, Nat.reduceMod, Nat.reduceLT, Nat.reduceLeDiff, Nat.reduceEqDiff, Nat.reduceBEq, Nat.reduceBNe, Int.reduceToNat, Int.reduceLT, Int.reduceLE, Int.reduceEq, Int.reduceNe, Int.reduceAdd, Int.reduceSub, Int.reduceMul, Int.reduceNeg, u4_0, lb4_0, hx]
    rw [h, List.take_length]
  · have hlt : (i : Int) < l.length := by omega
    have hi' : i < l.length := by omega
    have hw := wr_succ (i := i) (by omega)
    have hc : (l.take i).count o ≤ i := Nat.le_trans List.count_le_length (by simp; omega)
    have hw2 := wr_succ (i := (l.take i).count o) (by omega)
    simp (disch := omega) only [go_sem, doCall, doCallQ, Nat.reduceAdd, Nat.reduceMul, Nat.reduceSub, Nat.reduceDiv, Nat.reduceMod, Nat.reduceLT, Nat.reduceLeDiff, Nat.reduceEqDiff, Nat.reduceBEq, Nat.reduceBNe, Int.reduceToNat, Int.reduceLT, Int.reduceLE, Int.reduceEq, Int.reduceNe, Int.reduceAdd, Int.reduceSub, Int.reduceMul, Int.reduceNeg, u4_0, lb4_0, hlt, arr_len, arr_take, arr_drop, Int.toNat_natCast, get_eI, t_note, ← notes_succ, chk_of]
    apply two_cases
    · intro he
      simp only [go_sem, doCall, doCallQ, Nat.reduceAdd, Nat.reduceMul, Nat.reduceSub, Nat.reduceDiv, Nat.reduceMod, Nat.reduceLT, Nat.reduceLeDiff, Nat.reduceEqDiff, Nat.reduceBEq, Nat.reduceBNe, Int.reduceToNat, Int.reduceLT, Int.reduceLE, Int.reduceEq, Int.reduceNe, Int.reduceAdd, Int.reduceSub, Int.reduceMul, Int.reduceNeg, he]
      rw [loop_step1]
      simp only [go_sem, doCall, doCallQ, Nat.reduceAdd, Nat.reduceMul, Nat.reduceSub, Nat.reduceDiv, Nat.reduceMod, Nat.reduceLT, Nat.reduceLeDiff, Nat.reduceEqDiff, Nat.reduceBEq, Nat.reduceBNe, Int.reduceToNat, Int.reduceLT, Int.reduceLE, Int.reduceEq, Int.reduceNe, Int.reduceAdd, Int.reduceSub, Int.reduceMul, Int.reduceNeg, hw, hw2]
      have := lp_twice l hl o n k (i + 1) (by omega)
      rw [count_succ l o i hi', if_pos he] at this
      exact this
    · intro he
      simp only [go_sem, doCall, doCallQ, Nat.reduceAdd, Nat.reduceMul, Nat.reduceSub, Nat.reduceDiv, Nat.reduceMod, Nat.reduceLT, Nat.reduceLeDiff, Nat.reduceEqDiff, Nat.reduceBEq, Nat.reduceBNe, Int.reduceToNat, Int.reduceLT, Int.reduceLE, Int.reduceEq, Int.reduceNe, Int.reduceAdd, Int.reduceSub, Int.reduceMul, Int.reduceNeg, he]
      rw [loop_step1]
      simp only [go_sem, doCall, doCallQ, Nat.reduceAdd, Nat.reduceMul, Nat.reduceSub, Nat.reduceDiv, Nat.reduceMod, Nat.reduceLT, Nat.reduceLeDiff, Nat.reduceEqDiff, Nat.reduceBEq, Nat.reduceBNe, Int.reduceToNat, Int.reduceLT, Int.reduceLE, Int.reduceEq, Int.reduceNe, Int.reduceAdd, Int.reduceSub, Int.reduceMul, Int.reduceNeg, hw, hw2]
      have := lp_twice l hl o n k (i + 1) (by omega)
      rw [count_succ l o i hi', if_neg he] at this
      exact this
termination_by l.length - i

/-- What holds of a door behind some notes. -/
def Ok (g : Nat → Int) (l : List Int) : Prop := (∀ j, j < 16 → 0 ≤ g j ∧ g j ≤ (l.count (j : Int) : Nat)) ∧ 0 ≤ g 16 ∧ g 16 ≤ l.length
theorem half {a : Int} (h0 : 0 ≤ a) (h1 : a ≤ 1000) : 0 ≤ wr .i64 (a.tdiv 2) ∧ wr .i64 (a.tdiv 2) ≤ a := by
  have h2 : a.tdiv 2 = a / 2 := Int.tdiv_eq_ediv_of_nonneg h0
  rw [h2, wr_id (by omega)]; omega
theorem ok_note {g : Nat → Int} {l : List Int} (hl : l.length < 1000) (h : Ok g l) (x : Int) : Ok (note g x) (l ++ [x]) := by
  obtain ⟨h1, h2, h3⟩ := h
  have hc : ∀ j : Nat, ((l ++ [x]).count (j : Int) : Nat) = l.count (j : Int) + if x = j then 1 else 0 := by
    intro j; rw [List.count_append]; congr 1
    by_cases e : x = j
    · rw [e]; simp
    · rw [if_neg e]; simp [e]
  unfold note
  split
  · rename_i hx
    have hs16 : seen1 g x 16 = g 16 + 1 := by simp only [seen1, upd, if_true]; exact wr_id (by omega)
    have hsj : ∀ j, j < 16 → 0 ≤ seen1 g x j ∧ seen1 g x j ≤ ((l ++ [x]).count (j : Int) : Nat) := by
      intro j hj
      obtain ⟨a1, a2⟩ := h1 j hj
      have hcj : l.count (j : Int) ≤ l.length := List.count_le_length
      rw [hc]
      simp only [seen1, upd, if_neg (show ¬ j = 16 by omega)]
      by_cases e : j = x.toNat
      · have e2 : x = j := by omega
        rw [if_pos e, if_pos e2, ← e, wr_id (by omega)]; omega
      · have e2 : ¬ x = j := by omega
        rw [if_neg e, if_neg e2]; omega
    split
    · refine ⟨fun j hj => ?_, ?_, ?_⟩
      · obtain ⟨b1, b2⟩ := hsj j hj
        have hcj : (l ++ [x]).count (j : Int) ≤ (l ++ [x]).length := List.count_le_length
        simp only [List.length_append, List.length_singleton] at hcj
        simp only [halve, if_pos hj]
        have := half b1 (by omega)
        omega
      · simp only [halve, Nat.lt_irrefl, if_false]; omega
      · simp only [halve, Nat.lt_irrefl, if_false, List.length_append, List.length_singleton]; omega
    · refine ⟨hsj, by omega, by simp only [List.length_append, List.length_singleton]; omega⟩
  · refine ⟨fun j hj => ?_, h2, by simp only [List.length_append, List.length_singleton]; omega⟩
    obtain ⟨a1, a2⟩ := h1 j hj
    rw [hc]; omega
theorem ok_take {l : List Int} (hl : l.length ≤ 1000) : ∀ i, i ≤ l.length → Ok (notes (l.take i)) (l.take i)
  | 0, _ => ⟨fun j _ => by simp [notes], by simp [notes], by simp [notes]⟩
  | i + 1, hi => by
    rw [notes_succ l i (by omega), List.take_succ_eq_append_getElem (by omega)]
    exact ok_note (by simp; omega) (ok_take hl i (by omega)) _
theorem ok_notes {l : List Int} (hl : l.length ≤ 1000) : Ok (notes l) l := by
  have := ok_take hl l.length (Nat.le_refl _)
  rwa [List.take_length] at this

theorem t_AdmitTwice (l : List Int) (hb : l.length ≤ 9223372036854775807) (o n : Int) (hn : n ≤ 9223372036854775807) : call ir 4 [.d (.list 1 (l.map eI)), .d (.int .i64 o), .d (.int .i64 n)] [] = some (.d (.bool true), []) := by
  rw [call_eq (fn := ir4) rfl, evF_bnd]
  simp (disch := omega) only [go_sem, doCall, doCallQ, Nat.reduceAdd, Nat.reduceMul, Nat.reduceSub, Nat.reduceDiv, Nat.reduceMod, Nat.reduceLT, Nat.reduceLeDiff, Nat.reduceEqDiff, Nat.reduceBEq, Nat.reduceBNe, Int.reduceToNat, Int.reduceLT, Int.reduceLE, Int.reduceEq, Int.reduceNe, Int.reduceAdd, Int.reduceSub, Int.reduceMul, Int.reduceNeg, bd4, t_awake]
  repeat' (apply two_cases <;> intro h <;> simp (disch := omega) only [go_sem, doCall, doCallQ, Nat.reduceAdd, Nat.reduceMul, Nat.reduceSub, Nat.reduceDiv, Nat.reduceMod, Nat.reduceLT, Nat.reduceLeDiff, Nat.reduceEqDiff, Nat.reduceBEq, Nat.reduceBNe, Int.reduceToNat, Int.reduceLT, Int.reduceLE, Int.reduceEq, Int.reduceNe, Int.reduceAdd, Int.reduceSub, Int.reduceMul, Int.reduceNeg, h])
  rename_i h1 h2 h3
  simp (disch := omega) only [go_sem, doCall, doCallQ, Nat.reduceAdd, Nat.reduceMul, Nat.reduceSub, Nat.reduceDiv, Nat.reduceMod, Nat.reduceLT, Nat.reduceLeDiff, Nat.reduceEqDiff, Nat.reduceBEq, Nat.reduceBNe, Int.reduceToNat, Int.reduceLT, Int.reduceLE, Int.reduceEq, Int.reduceNe, Int.reduceAdd, Int.reduceSub, Int.reduceMul, Int.reduceNeg, t_new, arr_take, arr_len, arr_drop, chk_of]
  rw [loop_step1]
  simp only [go_sem, doCall, doCallQ, Nat.reduceAdd, Nat.reduceMul, Nat.reduceSub, Nat.reduceDiv, Nat.reduceMod, Nat.reduceLT, Nat.reduceLeDiff, Nat.reduceEqDiff, Nat.reduceBEq, Nat.reduceBNe, Int.reduceToNat, Int.reduceLT, Int.reduceLE, Int.reduceEq, Int.reduceNe, Int.reduceAdd, Int.reduceSub, Int.reduceMul, Int.reduceNeg]
  have hl : l.length ≤ 1000 := by omega
  refine Eq.trans (lp_twice l hl o n _ 0 (by omega)) ?_
  obtain ⟨k1, k2, k3⟩ := ok_notes hl
  have hc : l.count o ≤ l.length := List.count_le_length
  have hso : seen (notes l) o = notes l o.toNat := if_pos (by omega)
  obtain ⟨j1, j2⟩ := k1 o.toNat (by omega)
  rw [Int.toNat_of_nonneg (by omega)] at j2
  generalize notes l = g at *
  -- two notes more
  have hA : seen (note (note g o) o) o = note (note g o) o o.toNat := if_pos (by omega)
  have hw1 : wr .i64 (n - 1) = n - 1 := wr_id (by omega)
  have hR : (32 ≤ note (note g o) o 16 ∧ (note (note g o) o 16).tmod 32 < 2) ∨ 2 ≤ note (note g o) o o.toNat := by
    have e1 : seen1 g o 16 = g 16 + 1 := by simp only [seen1, upd, if_true]; exact wr_id (by omega)
    have e2 : seen1 g o o.toNat = g o.toNat + 1 := by
      simp only [seen1, upd, if_neg (show ¬ o.toNat = 16 by omega), if_true]; exact wr_id (by omega)
    have f : ∀ g' : Nat → Int, 0 ≤ g' 16 → g' 16 ≤ 2000 → 0 ≤ g' o.toNat → g' o.toNat ≤ 2000 → seen1 g' o 16 = g' 16 + 1 ∧ seen1 g' o o.toNat = g' o.toNat + 1 := by
      intro g' a1 a2 a3 a4
      refine ⟨?_, ?_⟩
      · simp only [seen1, upd, if_true]; exact wr_id (by omega)
      · simp only [seen1, upd, if_neg (show ¬ o.toNat = 16 by omega), if_true]; exact wr_id (by omega)
    have n1 : ∀ g' : Nat → Int, note g' o = if (seen1 g' o 16).tmod 32 = 0 then halve (seen1 g' o) 16 else seen1 g' o := fun g' => if_pos (by omega)
    rw [n1 (note g o)]
    have m1 : (g 16 + 1).tmod 32 = (g 16 + 1) % 32 := Int.tmod_eq_emod_of_nonneg (by omega)
    have m2 : (g 16 + 2).tmod 32 = (g 16 + 2) % 32 := Int.tmod_eq_emod_of_nonneg (by omega)
    by_cases c1 : (seen1 g o 16).tmod 32 = 0
    · have e : note g o = halve (seen1 g o) 16 := by rw [n1, if_pos c1]
      have a1 : halve (seen1 g o) 16 16 = g 16 + 1 := by simp only [halve, Nat.lt_irrefl, if_false]; exact e1
      have a2 : halve (seen1 g o) 16 o.toNat = wr .i64 ((g o.toNat + 1).tdiv 2) := by simp only [halve, if_pos (show o.toNat < 16 by omega), e2]
      have a3 := half (a := g o.toNat + 1) (by omega) (by omega)
      rw [e]
      obtain ⟨b1, b2⟩ := f (halve (seen1 g o) 16) (by omega) (by omega) (by omega) (by omega)
      rw [a1] at b1
      rw [e1, m1] at c1
      have : ¬ (seen1 (halve (seen1 g o) 16) o 16).tmod 32 = 0 := by rw [b1, show g 16 + 1 + 1 = g 16 + 2 by omega, m2]; omega
      rw [if_neg this, b1]
      left
      rw [show g 16 + 1 + 1 = g 16 + 2 by omega, m2]; omega
    · have e : note g o = seen1 g o := by rw [n1, if_neg c1]
      rw [e]
      obtain ⟨b1, b2⟩ := f (seen1 g o) (by omega) (by omega) (by omega) (by omega)
      rw [e1] at b1
      rw [e2] at b2
      have b3 : (g 16 + 1 + 1) = g 16 + 2 := by omega
      rw [b1, b3, m2]
      split
      · rename_i c2
        left
        have : halve (seen1 (seen1 g o) o) 16 16 = g 16 + 2 := by simp only [halve, Nat.lt_irrefl, if_false]; rw [b1, b3]
        rw [this, m2]; omega
      · right; omega
  simp (disch := omega) only [go_sem, doCall, doCallQ, Nat.reduceAdd, Nat.reduceMul, Nat.reduceSub, Nat.reduceDiv, Nat.reduceMod, Nat.reduceLT, Nat.reduceLeDiff, Nat.reduceEqDiff, Nat.reduceBEq, Nat.reduceBNe, Int.reduceToNat, Int.reduceLT, Int.reduceLE, Int.reduceEq, Int.reduceNe, Int.reduceAdd, Int.reduceSub, Int.reduceMul, Int.reduceNeg, t_admit, arr_take, arr_len, arr_drop, t_note, t_count, hso, hA, hw1, chk_of]
  repeat' (apply two_cases <;> intro q <;> simp (disch := omega) only [go_sem, doCall, doCallQ, Nat.reduceAdd, Nat.reduceMul, Nat.reduceSub, Nat.reduceDiv, Nat.reduceMod, Nat.reduceLT, Nat.reduceLeDiff, Nat.reduceEqDiff, Nat.reduceBEq, Nat.reduceBNe, Int.reduceToNat, Int.reduceLT, Int.reduceLE, Int.reduceEq, Int.reduceNe, Int.reduceAdd, Int.reduceSub, Int.reduceMul, Int.reduceNeg, t_admit, arr_take, arr_len, arr_drop, t_note, t_count, hso, hA, hw1, chk_of, q])
  all_goals first | (exfalso; omega) | (rw [decide_eq_true (by omega)])
end Go.Proofs.Ytefcgdcmhhgfgaa
