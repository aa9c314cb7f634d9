/- Which bytes a request asks for: whether spans clash. Own work. Which bytes a request asks for: the document's way; both are one function. Own work. Which bytes a request asks for: both ways are one function. Own work. IfrangeChooses: what is told, and the law function. Own work. -/
import Derived.Test.YtplnioclkacgkaaGreatDoorSpnP
import Derived.Test.YtplnioclkacgkaaGreatDoorRsv
import Derived.Test.YtplnioclkacgkaaGreatDoorIfrA
import Derived.Test.YtplnioclkacgkaaGreatDoorPrwI
namespace Go.Proofs.YtplnioclkacgkaaGreatDoor
open Go Go.Ev Go.Proofs.YtplnioclkacgkaaGreatDoor.Ir Go.Prs
set_option maxRecDepth 100000
set_option maxHeartbeats 4000000
set_option linter.unusedSimpArgs false
set_option linter.unusedVariables false
def meet (a b : Int × Int) : Int × Int := if RP a.1 a.2 ∧ RP b.1 b.2 ∧ RP (max a.1 b.1) (min a.2 b.2) then (max a.1 b.1, min a.2 b.2) else (0, 0)
def meets (a b : Int × Int) : Prop := RP a.1 a.2 ∧ RP b.1 b.2 ∧ RP (max a.1 b.1) (min a.2 b.2)
instance (a b : Int × Int) : Decidable (meets a b) := by unfold meets; infer_instance
theorem t_meet (a b : Int × Int) : call ir 34 [vP a, vP b] [] = some (.tup [vP (meet a b), .d (.bool (decide (meets a b)))], []) := by
  rw [call_eq (fn := ir34) rfl, evF_bnd]
  simp (maxSteps := 2000000) only [go_sem, doCall, doCallQ, doCallP, Nat.reduceAdd, Nat.reduceMul, Nat.reduceSub, Nat.reduceDiv, Nat.reduceMod, Nat.reduceLT, Nat.reduceLeDiff, Nat.reduceEqDiff, Nat.reduceBEq, Nat.reduceBNe, Int.reduceToNat, Int.reduceLT, Int.reduceLE, Int.reduceEq, Int.reduceNe, Int.reduceAdd, Int.reduceSub, Int.reduceMul, Int.reduceNeg, bd34, t_right]
  repeat' (apply two_cases <;> intro h <;> simp (maxSteps := 2000000) only [go_sem, doCall, doCallQ, doCallP, Nat.reduceAdd, Nat.reduceMul, Nat.reduceSub, Nat.reduceDiv, Nat.reduceMod, Nat.reduceLT, Nat.reduceLeDiff, Nat.reduceEqDiff, Nat.reduceBEq, Nat.reduceBNe, Int.reduceToNat, Int.reduceLT, Int.reduceLE, Int.reduceEq, Int.reduceNe, Int.reduceAdd, Int.reduceSub, Int.reduceMul, Int.reduceNeg, h, t_right])
  all_goals
    first
    | (rw [meet, if_neg (fun hh => by simp_all), decide_eq_false (fun hh : meets a b => by unfold meets at hh; simp_all)]; done)
    | (rw [meet, if_pos (by simp_all), decide_eq_true (show meets a b by unfold meets; simp_all)]; done)
    | trace_state
theorem t_clash1 (a b : Int × Int) : call ir 33 [vP b, .ptr 0 0] [.dbox (eP a)] = some (dT (decide (meets a b)), [.dbox (eP a)]) := by
  rw [call_eq (fn := ir33) rfl, evF_bnd]
  simp (maxSteps := 2000000) (disch := omega) only [go_sem, doCall, doCallQ, doCallP, Nat.reduceAdd, Nat.reduceMul, Nat.reduceSub, Nat.reduceDiv, Nat.reduceMod, Nat.reduceLT, Nat.reduceLeDiff, Nat.reduceEqDiff, Nat.reduceBEq, Nat.reduceBNe, Int.reduceToNat, Int.reduceLT, Int.reduceLE, Int.reduceEq, Int.reduceNe, Int.reduceAdd, Int.reduceSub, Int.reduceMul, Int.reduceNeg, bd33, t_meet, chk_of]
abbrev cloC : AV := .clo (.func 33) [] [.ptr 0 0]
def anyM (a : Int × Int) (l : List (Int × Int)) : Bool := l.any fun b => decide (meets a b)
theorem anyM_drop {a : Int × Int} {l : List (Int × Int)} {i : Nat} (h : i < l.length) : anyM a (l.drop i) = (decide (meets a l[i]) || anyM a (l.drop (i + 1))) := by
  rw [List.drop_eq_getElem_cons h]; rfl
theorem lp_idxC (a : Int × Int) (l : List (Int × Int)) (hl : l.length ≤ 1000000) (k : Ex → St → Option (AV × Heap)) (i : Nat) (hi : i ≤ l.length) :
    ∃ r : Nat, (bnd (evC (call ir) (loop ir) lp61_0 (st61_0 1 (.d (.list 2 (r2 l))) cloC (dI l.length) (dI i) [.dbox (eP a)])) (lpC (call ir) (loop ir) [0, 1, 7, 8] lp61_0 k)) = (if anyM a (l.drop i) then k .ret (clean [4] ⟨1, [.unk, .unk, .unk, .unk, dI r, .unk, .unk, .unk, .unk, .unk, .unk, .unk, .unk, .unk, .unk, .unk, .unk, .unk, .unk], [.dbox (eP a)]⟩)
      else k (.exit 0) (clean [] (st61_0 1 .unk .unk .unk .unk [.dbox (eP a)]))) := by
  by_cases h : i = l.length
  · have hx : ¬ (i : Int) < l.length := by omega
    rw [h] at hx
    rw [h, List.drop_length]
    refine ⟨0, ?_⟩
    simp only [anyM, List.any_nil, Bool.false_eq_true, if_false]
    simp (maxSteps := 2000000) (disch := omega) only [go_sem, doCall, doCallQ, doCallP, Nat.reduceAdd, Nat.reduceMul, Nat.reduceSub, Nat.reduceDiv, Nat.reduceMod, Nat.reduceLT, Nat.reduceLeDiff, Nat.reduceEqDiff, Nat.reduceBEq, Nat.reduceBNe, Int.reduceToNat, Int.reduceLT, Int.reduceLE, Int.reduceEq, Int.reduceNe, Int.reduceAdd, Int.reduceSub, Int.reduceMul, Int.reduceNeg, u61_0, lb61_0, hx]
  · have hlt : (i : Int) < l.length := by omega
    have hi' : i < l.length := by omega
    have hw := wr_succ (i := i) (by omega)
    have hg := get_eP l i hi'
    have hc := t_clash1 a l[i]
    rw [anyM_drop hi']
    by_cases hm : meets a l[i]
    · rw [decide_eq_true hm] at hc
      refine ⟨i, ?_⟩
      rw [decide_eq_true hm, Bool.true_or, if_pos rfl]
      simp (maxSteps := 2000000) (disch := omega) only [go_sem, doCall, doCallQ, doCallP, Nat.reduceAdd, Nat.reduceMul, Nat.reduceSub, Nat.reduceDiv, Nat.reduceMod, Nat.reduceLT, Nat.reduceLeDiff, Nat.reduceEqDiff, Nat.reduceBEq, Nat.reduceBNe, Int.reduceToNat, Int.reduceLT, Int.reduceLE, Int.reduceEq, Int.reduceNe, Int.reduceAdd, Int.reduceSub, Int.reduceMul, Int.reduceNeg, u61_0, lb61_0, hlt, hi', hw, hg, hc, Int.natCast_nonneg, Int.toNat_natCast, Option.getD_some, Option.getD_none, List.drop_zero, Nat.sub_zero, Nat.zero_le, true_and, and_true, Nat.le_refl, chk_of]
    · rw [decide_eq_false hm] at hc
      obtain ⟨r, ih⟩ := lp_idxC a l hl k (i + 1) (by omega)
      refine ⟨r, ?_⟩
      rw [decide_eq_false hm, Bool.false_or]
      simp (maxSteps := 2000000) (disch := omega) only [go_sem, doCall, doCallQ, doCallP, Nat.reduceAdd, Nat.reduceMul, Nat.reduceSub, Nat.reduceDiv, Nat.reduceMod, Nat.reduceLT, Nat.reduceLeDiff, Nat.reduceEqDiff, Nat.reduceBEq, Nat.reduceBNe, Int.reduceToNat, Int.reduceLT, Int.reduceLE, Int.reduceEq, Int.reduceNe, Int.reduceAdd, Int.reduceSub, Int.reduceMul, Int.reduceNeg, u61_0, lb61_0, hlt, hi', hw, hg, hc, Int.natCast_nonneg, Int.toNat_natCast, Option.getD_some, Option.getD_none, List.drop_zero, Nat.sub_zero, Nat.zero_le, true_and, and_true, Nat.le_refl, chk_of]
      rw [loop_step1]; simp (maxSteps := 2000000) only [go_sem, doCall, doCallQ, doCallP, Nat.reduceAdd, Nat.reduceMul, Nat.reduceSub, Nat.reduceDiv, Nat.reduceMod, Nat.reduceLT, Nat.reduceLeDiff, Nat.reduceEqDiff, Nat.reduceBEq, Nat.reduceBNe, Int.reduceToNat, Int.reduceLT, Int.reduceLE, Int.reduceEq, Int.reduceNe, Int.reduceAdd, Int.reduceSub, Int.reduceMul, Int.reduceNeg]; exact ih
termination_by l.length - i
theorem t_contC (a : Int × Int) (l : List (Int × Int)) (hl : l.length ≤ 1000000) : call ir 35 [.d (.list 2 (r2 l)), cloC] [.dbox (eP a)] = some (dT (anyM a l), [.dbox (eP a)]) := by
  have hi : ∃ r : Int, call ir 61 [.d (.list 2 (r2 l)), cloC] [.dbox (eP a)] = some (dI r, [.dbox (eP a)]) ∧ decide (0 ≤ r) = anyM a l := by
    have h0 := fun k => lp_idxC a l hl k 0 (by omega)
    simp only [List.drop_zero] at h0
    obtain ⟨r, h1⟩ := h0 (bk 0 (sq (call ir) (loop ir) (.seq (.reg [⟨some 4, none, .mv (.c (.d (.int .i64 (-1)))), .none⟩]) (.ret none)) (fin ir61)))
    cases hm : anyM a l
    · refine ⟨-1, ?_, rfl⟩
      rw [hm] at h1
      simp only [Bool.false_eq_true, if_false] at h1
      rw [call_eq (fn := ir61) rfl, evF_bnd]
      simp (maxSteps := 2000000) (disch := omega) only [go_sem, doCall, doCallQ, doCallP, Nat.reduceAdd, Nat.reduceMul, Nat.reduceSub, Nat.reduceDiv, Nat.reduceMod, Nat.reduceLT, Nat.reduceLeDiff, Nat.reduceEqDiff, Nat.reduceBEq, Nat.reduceBNe, Int.reduceToNat, Int.reduceLT, Int.reduceLE, Int.reduceEq, Int.reduceNe, Int.reduceAdd, Int.reduceSub, Int.reduceMul, Int.reduceNeg, bd61, List.length_map]
      rw [loop_step1]; simp (maxSteps := 2000000) only [go_sem, doCall, doCallQ, doCallP, Nat.reduceAdd, Nat.reduceMul, Nat.reduceSub, Nat.reduceDiv, Nat.reduceMod, Nat.reduceLT, Nat.reduceLeDiff, Nat.reduceEqDiff, Nat.reduceBEq, Nat.reduceBNe, Int.reduceToNat, Int.reduceLT, Int.reduceLE, Int.reduceEq, Int.reduceNe, Int.reduceAdd, Int.reduceSub, Int.reduceMul, Int.reduceNeg]
      refine Eq.trans h1 ?_
      simp (maxSteps := 2000000) only [go_sem, doCall, doCallQ, doCallP, Nat.reduceAdd, Nat.reduceMul, Nat.reduceSub, Nat.reduceDiv, Nat.reduceMod, Nat.reduceLT, Nat.reduceLeDiff, Nat.reduceEqDiff, Nat.reduceBEq, Nat.reduceBNe, Int.reduceToNat, Int.reduceLT, Int.reduceLE, Int.reduceEq, Int.reduceNe, Int.reduceAdd, Int.reduceSub, Int.reduceMul, Int.reduceNeg]
    · refine ⟨r, ?_, decide_eq_true (by omega)⟩
      rw [hm] at h1
      simp only [if_true] at h1
      rw [call_eq (fn := ir61) rfl, evF_bnd]
      simp (maxSteps := 2000000) (disch := omega) only [go_sem, doCall, doCallQ, doCallP, Nat.reduceAdd, Nat.reduceMul, Nat.reduceSub, Nat.reduceDiv, Nat.reduceMod, Nat.reduceLT, Nat.reduceLeDiff, Nat.reduceEqDiff, Nat.reduceBEq, Nat.reduceBNe, Int.reduceToNat, Int.reduceLT, Int.reduceLE, Int.reduceEq, Int.reduceNe, Int.reduceAdd, Int.reduceSub, Int.reduceMul, Int.reduceNeg, bd61, List.length_map]
      rw [loop_step1]; simp (maxSteps := 2000000) only [go_sem, doCall, doCallQ, doCallP, Nat.reduceAdd, Nat.reduceMul, Nat.reduceSub, Nat.reduceDiv, Nat.reduceMod, Nat.reduceLT, Nat.reduceLeDiff, Nat.reduceEqDiff, Nat.reduceBEq, Nat.reduceBNe, Int.reduceToNat, Int.reduceLT, Int.reduceLE, Int.reduceEq, Int.reduceNe, Int.reduceAdd, Int.reduceSub, Int.reduceMul, Int.reduceNeg]
      refine Eq.trans h1 ?_
      simp (maxSteps := 2000000) only [go_sem, doCall, doCallQ, doCallP, Nat.reduceAdd, Nat.reduceMul, Nat.reduceSub, Nat.reduceDiv, Nat.reduceMod, Nat.reduceLT, Nat.reduceLeDiff, Nat.reduceEqDiff, Nat.reduceBEq, Nat.reduceBNe, Int.reduceToNat, Int.reduceLT, Int.reduceLE, Int.reduceEq, Int.reduceNe, Int.reduceAdd, Int.reduceSub, Int.reduceMul, Int.reduceNeg]
  obtain ⟨r, h1, h2⟩ := hi
  rw [call_eq (fn := ir35) rfl, evF_bnd]
  simp (maxSteps := 2000000) only [go_sem, doCall, doCallQ, doCallP, Nat.reduceAdd, Nat.reduceMul, Nat.reduceSub, Nat.reduceDiv, Nat.reduceMod, Nat.reduceLT, Nat.reduceLeDiff, Nat.reduceEqDiff, Nat.reduceBEq, Nat.reduceBNe, Int.reduceToNat, Int.reduceLT, Int.reduceLE, Int.reduceEq, Int.reduceNe, Int.reduceAdd, Int.reduceSub, Int.reduceMul, Int.reduceNeg, bd35, h1, h2]
/-- Whether two have a byte in common. -/
def clashG : List (Int × Int) → List (Int × Int) → Bool
  | _, [] => false
  | p, x :: l => anyM x p || clashG (p ++ [x]) l
theorem clashG_drop {l : List (Int × Int)} {i : Nat} (h : i < l.length) : clashG (l.take i) (l.drop i) = (anyM l[i] (l.take i) || clashG (l.take (i + 1)) (l.drop (i + 1))) := by
  rw [List.drop_eq_getElem_cons h, List.take_succ_eq_append_getElem h]; rfl
theorem lp_clash (l : List (Int × Int)) (hl : l.length ≤ 1000000) (k : Ex → St → Option (AV × Heap)) (i : Nat) (hi : i ≤ l.length) :
    (bnd (evC (call ir) (loop ir) lp17_0 (st17_0 0 (.d (.list 2 (r2 l))) (.d (.list 2 (r2 l))) (dI l.length) (dI i) [])) (lpC (call ir) (loop ir) [0, 6, 7, 8] lp17_0 k)) = (if clashG (l.take i) (l.drop i) then k .ret (clean [2] ⟨0, [.unk, .unk, dT true, .unk, .unk, .unk, .unk, .unk, .unk, .unk, .unk, .unk, .unk, .unk, .unk, .unk, .unk, .unk, .unk, .unk], []⟩)
      else k (.exit 0) (clean [] (st17_0 0 .unk .unk .unk .unk []))) := by
  by_cases h : i = l.length
  · have hx : ¬ (i : Int) < l.length := by omega
    rw [h] at hx
    rw [h, List.drop_length]
    simp only [clashG, Bool.false_eq_true, if_false]
    simp (maxSteps := 2000000) (disch := omega) only [go_sem, doCall, doCallQ, doCallP, Nat.reduceAdd, Nat.reduceMul, Nat.reduceSub, Nat.reduceDiv, Nat.reduceMod, Nat.reduceLT, Nat.reduceLeDiff, Nat.reduceEqDiff, Nat.reduceBEq, Nat.reduceBNe, Int.reduceToNat, Int.reduceLT, Int.reduceLE, Int.reduceEq, Int.reduceNe, Int.reduceAdd, Int.reduceSub, Int.reduceMul, Int.reduceNeg, u17_0, lb17_0, hx]
  · have hlt : (i : Int) < l.length := by omega
    have hi' : i < l.length := by omega
    have hw := wr_succ (i := i) (by omega)
    have hg := get_eP l i hi'
    have hrl := r2_len l
    have htk : (r2 l).take i = r2 (l.take i) := by
      show List.take i (List.map eP l) = List.map eP (List.take i l)
      rw [List.map_take]
    have hle : i ≤ l.length := by omega
    have hc := t_contC l[i] (l.take i) (by rw [List.length_take]; omega)
    rw [clashG_drop hi']
    cases hm : anyM l[i] (l.take i)
    · rw [hm] at hc
      have ih := lp_clash l hl k (i + 1) (by omega)
      rw [Bool.false_or]
      simp (maxSteps := 2000000) (disch := omega) only [go_sem, doCall, doCallQ, doCallP, Nat.reduceAdd, Nat.reduceMul, Nat.reduceSub, Nat.reduceDiv, Nat.reduceMod, Nat.reduceLT, Nat.reduceLeDiff, Nat.reduceEqDiff, Nat.reduceBEq, Nat.reduceBNe, Int.reduceToNat, Int.reduceLT, Int.reduceLE, Int.reduceEq, Int.reduceNe, Int.reduceAdd, Int.reduceSub, Int.reduceMul, Int.reduceNeg, u17_0, lb17_0, hlt, hi', hw, hg, hrl, htk, hle, hc, Int.natCast_nonneg, Int.toNat_natCast, Option.getD_some, Option.getD_none, List.drop_zero, Nat.sub_zero, Nat.zero_le, true_and, and_true, Nat.le_refl, chk_of]
      rw [loop_step1]; simp (maxSteps := 2000000) only [go_sem, doCall, doCallQ, doCallP, Nat.reduceAdd, Nat.reduceMul, Nat.reduceSub, Nat.reduceDiv, Nat.reduceMod, Nat.reduceLT, Nat.reduceLeDiff, Nat.reduceEqDiff, Nat.reduceBEq, Nat.reduceBNe, Int.reduceToNat, Int.reduceLT, Int.reduceLE, Int.reduceEq, Int.reduceNe, Int.reduceAdd, Int.reduceSub, Int.reduceMul, Int.reduceNeg]; exact ih
    · rw [hm] at hc
      rw [Bool.true_or, if_pos rfl]
      simp (maxSteps := 2000000) (disch := omega) only [go_sem, doCall, doCallQ, doCallP, Nat.reduceAdd, Nat.reduceMul, Nat.reduceSub, Nat.reduceDiv, Nat.reduceMod, Nat.reduceLT, Nat.reduceLeDiff, Nat.reduceEqDiff, Nat.reduceBEq, Nat.reduceBNe, Int.reduceToNat, Int.reduceLT, Int.reduceLE, Int.reduceEq, Int.reduceNe, Int.reduceAdd, Int.reduceSub, Int.reduceMul, Int.reduceNeg, u17_0, lb17_0, hlt, hi', hw, hg, hrl, htk, hle, hc, Int.natCast_nonneg, Int.toNat_natCast, Option.getD_some, Option.getD_none, List.drop_zero, Nat.sub_zero, Nat.zero_le, true_and, and_true, Nat.le_refl, chk_of]
termination_by l.length - i
theorem t_clash (l : List (Int × Int)) (hl : l.length ≤ 1000000) : call ir 17 [.d (.list 2 (r2 l))] [] = some (dT (clashG [] l), []) := by
  rw [call_eq (fn := ir17) rfl, evF_bnd]
  have hrl := r2_len l
  simp (maxSteps := 2000000) (disch := omega) only [go_sem, doCall, doCallQ, doCallP, Nat.reduceAdd, Nat.reduceMul, Nat.reduceSub, Nat.reduceDiv, Nat.reduceMod, Nat.reduceLT, Nat.reduceLeDiff, Nat.reduceEqDiff, Nat.reduceBEq, Nat.reduceBNe, Int.reduceToNat, Int.reduceLT, Int.reduceLE, Int.reduceEq, Int.reduceNe, Int.reduceAdd, Int.reduceSub, Int.reduceMul, Int.reduceNeg, bd17, hrl]
  rw [loop_step1]; simp (maxSteps := 2000000) only [go_sem, doCall, doCallQ, doCallP, Nat.reduceAdd, Nat.reduceMul, Nat.reduceSub, Nat.reduceDiv, Nat.reduceMod, Nat.reduceLT, Nat.reduceLeDiff, Nat.reduceEqDiff, Nat.reduceBEq, Nat.reduceBNe, Int.reduceToNat, Int.reduceLT, Int.reduceLE, Int.reduceEq, Int.reduceNe, Int.reduceAdd, Int.reduceSub, Int.reduceMul, Int.reduceNeg]
  refine Eq.trans (lp_clash l hl _ 0 (by omega)) ?_
  rw [List.drop_zero, List.take_zero]
  cases clashG [] l
  · simp only [Bool.false_eq_true, if_false]; simp (maxSteps := 2000000) only [go_sem, doCall, doCallQ, doCallP, Nat.reduceAdd, Nat.reduceMul, Nat.reduceSub, Nat.reduceDiv, Nat.reduceMod, Nat.reduceLT, Nat.reduceLeDiff, Nat.reduceEqDiff, Nat.reduceBEq, Nat.reduceBNe, Int.reduceToNat, Int.reduceLT, Int.reduceLE, Int.reduceEq, Int.reduceNe, Int.reduceAdd, Int.reduceSub, Int.reduceMul, Int.reduceNeg]
  · simp only [if_true]; simp (maxSteps := 2000000) only [go_sem, doCall, doCallQ, doCallP, Nat.reduceAdd, Nat.reduceMul, Nat.reduceSub, Nat.reduceDiv, Nat.reduceMod, Nat.reduceLT, Nat.reduceLeDiff, Nat.reduceEqDiff, Nat.reduceBEq, Nat.reduceBNe, Int.reduceToNat, Int.reduceLT, Int.reduceLE, Int.reduceEq, Int.reduceNe, Int.reduceAdd, Int.reduceSub, Int.reduceMul, Int.reduceNeg]
theorem t_whole (n : Int) : call ir 13 [dI n] [] = some (.agg [dI 200, .d (.list 2 [])], []) := by
  rw [call_eq (fn := ir13) rfl, evF_bnd]
  simp (maxSteps := 2000000) (disch := omega) only [go_sem, doCall, doCallQ, doCallP, Nat.reduceAdd, Nat.reduceMul, Nat.reduceSub, Nat.reduceDiv, Nat.reduceMod, Nat.reduceLT, Nat.reduceLeDiff, Nat.reduceEqDiff, Nat.reduceBEq, Nat.reduceBNe, Int.reduceToNat, Int.reduceLT, Int.reduceLE, Int.reduceEq, Int.reduceNe, Int.reduceAdd, Int.reduceSub, Int.reduceMul, Int.reduceNeg, bd13, chk_of]
theorem take_r2 (l : List (Int × Int)) : (r2 l).take l.length = r2 l := List.take_of_length_le (by rw [r2_len]; exact Nat.le_refl _)
theorem resL_len (l : List Sp3) (n : Int) : (resL l n).length ≤ l.length := by
  unfold resL
  split
  · exact fm_len n l
  · simp
theorem specL_len (s : List UInt8) : (specL s).length ≤ 16 := by
  cases h : elsOf s with
  | none => rw [specL_none h]; simp
  | some o =>
    rw [specL_some h]
    split
    · rename_i hh; rw [vals_len]; exact hh.2.2.2.2
    · simp
end Go.Proofs.YtplnioclkacgkaaGreatDoor
namespace Go.Proofs.YtplnioclkacgkaaGreatDoor
open Go Go.Ev Go.Proofs.YtplnioclkacgkaaGreatDoor.Ir Go.Prs
set_option maxRecDepth 100000
set_option maxHeartbeats 4000000
set_option linter.unusedSimpArgs false
set_option linter.unusedVariables false
theorem lp_rtag (s : List UInt8) (hs : s.length ≤ 1000000000) (k : Ex → St → Option (AV × Heap)) (i : Nat) (hi : i ≤ s.length) :
    (bnd (evC (call ir) (loop ir) lp67_0 (st67_0 0 (dS s) (dI i) [])) (lpC (call ir) (loop ir) [0, 3] lp67_0 k)) = (if plainT (s.drop i) then k (.exit 0) (clean [] (st67_0 0 .unk .unk []))
      else k .ret (clean [2] ⟨0, [.unk, .unk, dT false, .unk, .unk, .unk, .unk, .unk, .unk, .unk, .unk, .unk, .unk, .unk, .unk, .unk, .unk, .unk, .unk, .unk, .unk, .unk, .unk, .unk], []⟩)) := by
  by_cases h : i = s.length
  · have hx : ¬ (i : Int) < s.length := by omega
    rw [h] at hx
    rw [h, List.drop_length]
    simp only [plainT, List.all_nil, if_true]
    simp (maxSteps := 2000000) (disch := omega) only [go_sem, doCall, doCallQ, doCallP, Nat.reduceAdd, Nat.reduceMul, Nat.reduceSub, Nat.reduceDiv, Nat.reduceMod, Nat.reduceLT, Nat.reduceLeDiff, Nat.reduceEqDiff, Nat.reduceBEq, Nat.reduceBNe, Int.reduceToNat, Int.reduceLT, Int.reduceLE, Int.reduceEq, Int.reduceNe, Int.reduceAdd, Int.reduceSub, Int.reduceMul, Int.reduceNeg, u67_0, lb67_0, hx]
  · have hlt : (i : Int) < s.length := by omega
    have hi' : i < s.length := by omega
    have hw := wr_succ (i := i) (by omega)
    have hg := g8 hi'
    have ih := lp_rtag s hs k (i + 1) (by omega)
    rw [plain_drop hi']
    generalize s[i] = b at hg ⊢
    by_cases h33 : (b.toNat : Int) = 33
    · have h33' := eq_true h33
      have hm : mayB b = true := decide_eq_true (by omega)
      rw [hm, Bool.true_and]
      simp (maxSteps := 2000000) (disch := omega) only [go_sem, doCall, doCallQ, doCallP, Nat.reduceAdd, Nat.reduceMul, Nat.reduceSub, Nat.reduceDiv, Nat.reduceMod, Nat.reduceLT, Nat.reduceLeDiff, Nat.reduceEqDiff, Nat.reduceBEq, Nat.reduceBNe, Int.reduceToNat, Int.reduceLT, Int.reduceLE, Int.reduceEq, Int.reduceNe, Int.reduceAdd, Int.reduceSub, Int.reduceMul, Int.reduceNeg, u67_0, lb67_0, hlt, hi', hw, hg, h33', show ((b.toNat : Int) != 33) = false by simp [h33], Int.natCast_nonneg, Int.toNat_natCast, Option.getD_some, Option.getD_none, List.drop_zero, Nat.sub_zero, Nat.zero_le, true_and, and_true, Nat.le_refl, chk_of]
      rw [loop_step1]; simp (maxSteps := 2000000) only [go_sem, doCall, doCallQ, doCallP, Nat.reduceAdd, Nat.reduceMul, Nat.reduceSub, Nat.reduceDiv, Nat.reduceMod, Nat.reduceLT, Nat.reduceLeDiff, Nat.reduceEqDiff, Nat.reduceBEq, Nat.reduceBNe, Int.reduceToNat, Int.reduceLT, Int.reduceLE, Int.reduceEq, Int.reduceNe, Int.reduceAdd, Int.reduceSub, Int.reduceMul, Int.reduceNeg]; exact ih
    · have h33' := eq_false h33
      have n33 : ((b.toNat : Int) != 33) = true := by simp [h33]
      by_cases h35 : (b.toNat : Int) < 35
      · have h35' := eq_true h35
        have hm : mayB b = false := decide_eq_false (by omega)
        rw [hm, Bool.false_and, if_neg (by simp)]
        simp (maxSteps := 2000000) (disch := omega) only [go_sem, doCall, doCallQ, doCallP, Nat.reduceAdd, Nat.reduceMul, Nat.reduceSub, Nat.reduceDiv, Nat.reduceMod, Nat.reduceLT, Nat.reduceLeDiff, Nat.reduceEqDiff, Nat.reduceBEq, Nat.reduceBNe, Int.reduceToNat, Int.reduceLT, Int.reduceLE, Int.reduceEq, Int.reduceNe, Int.reduceAdd, Int.reduceSub, Int.reduceMul, Int.reduceNeg, u67_0, lb67_0, hlt, hi', hw, hg, h33', n33, h35', Int.natCast_nonneg, Int.toNat_natCast, Option.getD_some, Option.getD_none, List.drop_zero, Nat.sub_zero, Nat.zero_le, true_and, and_true, Nat.le_refl, chk_of]
      · have h35' := eq_false h35
        by_cases h127 : (b.toNat : Int) = 127
        · have h127' := eq_true h127
          have hm : mayB b = false := decide_eq_false (by omega)
          rw [hm, Bool.false_and, if_neg (by simp)]
          simp (maxSteps := 2000000) (disch := omega) only [go_sem, doCall, doCallQ, doCallP, Nat.reduceAdd, Nat.reduceMul, Nat.reduceSub, Nat.reduceDiv, Nat.reduceMod, Nat.reduceLT, Nat.reduceLeDiff, Nat.reduceEqDiff, Nat.reduceBEq, Nat.reduceBNe, Int.reduceToNat, Int.reduceLT, Int.reduceLE, Int.reduceEq, Int.reduceNe, Int.reduceAdd, Int.reduceSub, Int.reduceMul, Int.reduceNeg, u67_0, lb67_0, hlt, hi', hw, hg, h33', n33, h35', h127', Int.natCast_nonneg, Int.toNat_natCast, Option.getD_some, Option.getD_none, List.drop_zero, Nat.sub_zero, Nat.zero_le, true_and, and_true, Nat.le_refl, chk_of]
        · have h127' := eq_false h127
          have hm : mayB b = true := decide_eq_true (by omega)
          rw [hm, Bool.true_and]
          simp (maxSteps := 2000000) (disch := omega) only [go_sem, doCall, doCallQ, doCallP, Nat.reduceAdd, Nat.reduceMul, Nat.reduceSub, Nat.reduceDiv, Nat.reduceMod, Nat.reduceLT, Nat.reduceLeDiff, Nat.reduceEqDiff, Nat.reduceBEq, Nat.reduceBNe, Int.reduceToNat, Int.reduceLT, Int.reduceLE, Int.reduceEq, Int.reduceNe, Int.reduceAdd, Int.reduceSub, Int.reduceMul, Int.reduceNeg, u67_0, lb67_0, hlt, hi', hw, hg, h33', n33, h35', h127', Int.natCast_nonneg, Int.toNat_natCast, Option.getD_some, Option.getD_none, List.drop_zero, Nat.sub_zero, Nat.zero_le, true_and, and_true, Nat.le_refl, chk_of]
          rw [loop_step1]; simp (maxSteps := 2000000) only [go_sem, doCall, doCallQ, doCallP, Nat.reduceAdd, Nat.reduceMul, Nat.reduceSub, Nat.reduceDiv, Nat.reduceMod, Nat.reduceLT, Nat.reduceLeDiff, Nat.reduceEqDiff, Nat.reduceBEq, Nat.reduceBNe, Int.reduceToNat, Int.reduceLT, Int.reduceLE, Int.reduceEq, Int.reduceNe, Int.reduceAdd, Int.reduceSub, Int.reduceMul, Int.reduceNeg]; exact ih
termination_by s.length - i
theorem t_rtag (s : List UInt8) (hs : s.length ≤ 1000000000) : call ir 67 [dS s] [] = some (dT (plainT s), []) := by
  rw [call_eq (fn := ir67) rfl, evF_bnd]
  simp (maxSteps := 2000000) (disch := omega) only [go_sem, doCall, doCallQ, doCallP, Nat.reduceAdd, Nat.reduceMul, Nat.reduceSub, Nat.reduceDiv, Nat.reduceMod, Nat.reduceLT, Nat.reduceLeDiff, Nat.reduceEqDiff, Nat.reduceBEq, Nat.reduceBNe, Int.reduceToNat, Int.reduceLT, Int.reduceLE, Int.reduceEq, Int.reduceNe, Int.reduceAdd, Int.reduceSub, Int.reduceMul, Int.reduceNeg, bd67]
  rw [loop_step1]; simp (maxSteps := 2000000) only [go_sem, doCall, doCallQ, doCallP, Nat.reduceAdd, Nat.reduceMul, Nat.reduceSub, Nat.reduceDiv, Nat.reduceMod, Nat.reduceLT, Nat.reduceLeDiff, Nat.reduceEqDiff, Nat.reduceBEq, Nat.reduceBNe, Int.reduceToNat, Int.reduceLT, Int.reduceLE, Int.reduceEq, Int.reduceNe, Int.reduceAdd, Int.reduceSub, Int.reduceMul, Int.reduceNeg]
  refine Eq.trans (lp_rtag s hs _ 0 (by omega)) ?_
  rw [List.drop_zero]
  cases plainT s
  · simp only [Bool.false_eq_true, if_false]; simp (maxSteps := 2000000) only [go_sem, doCall, doCallQ, doCallP, Nat.reduceAdd, Nat.reduceMul, Nat.reduceSub, Nat.reduceDiv, Nat.reduceMod, Nat.reduceLT, Nat.reduceLeDiff, Nat.reduceEqDiff, Nat.reduceBEq, Nat.reduceBNe, Int.reduceToNat, Int.reduceLT, Int.reduceLE, Int.reduceEq, Int.reduceNe, Int.reduceAdd, Int.reduceSub, Int.reduceMul, Int.reduceNeg]
  · simp only [if_true]; simp (maxSteps := 2000000) only [go_sem, doCall, doCallQ, doCallP, Nat.reduceAdd, Nat.reduceMul, Nat.reduceSub, Nat.reduceDiv, Nat.reduceMod, Nat.reduceLT, Nat.reduceLeDiff, Nat.reduceEqDiff, Nat.reduceBEq, Nat.reduceBNe, Int.reduceToNat, Int.reduceLT, Int.reduceLE, Int.reduceEq, Int.reduceNe, Int.reduceAdd, Int.reduceSub, Int.reduceMul, Int.reduceNeg]
theorem hasW_iff (s : List UInt8) : hasW s ↔ (2 ≤ s.length ∧ (s.getD 0 0).toNat = 87 ∧ (s.getD 1 0).toNat = 47) := by
  unfold hasW
  match s with
  | [] => simp
  | [a] => simp
  | a :: b :: r =>
    simp [← UInt8.toNat_inj]
theorem t_retag (s : List UInt8) (hs : s.length ≤ 1000000000) : call ir 46 [dS s] [] = some (.tup [.agg [dT (tagE s).1.1, dS (tagE s).1.2], dI (tagE s).2], []) := by
  rw [call_eq (fn := ir46) rfl, evF_bnd]
  have hwi := hasW_iff s
  by_cases q2 : (2 : Int) ≤ s.length
  · have r2' : 0 < s.length := by omega
    have r1' : 1 < s.length := by omega
    by_cases q0 : ((s.getD 0 0).toNat : Int) = 87
    · by_cases q1 : ((s.getD 1 0).toNat : Int) = 47
      · have hyw : hasW s := hwi.2 (by omega)
        unfold tagE
        rw [if_pos hyw, decide_eq_true hyw]
        have hls : (s.drop 2).length = s.length - 2 := List.length_drop ..
        have hts : (s.drop 2).take (s.length - 2) = s.drop 2 := List.take_of_length_le (by omega)
        have q2n : 2 ≤ s.length := by omega
        have q2' := eq_true q2
        have q0' := eq_true q0
        have q1' := eq_true q1
        obtain ⟨t, ht0⟩ : ∃ t, s.drop 2 = t := ⟨_, rfl⟩
        rw [ht0] at hls hts ⊢
        have hlt : t.length ≤ 1000000000 := by omega
        unfold quoted
        by_cases h2 : 2 ≤ t.length
        · have c2 := eq_false (show ¬ (t.length : Int) < 2 by omega)
          have hpos : 0 < t.length := by omega
          have hlast : t.length - 1 < t.length := by omega
          have hb1 : 1 ≤ t.length - 1 := by omega
          have hb2 : t.length - 1 ≤ t.length := by omega
          have hw1 : wr .i64 ((t.length : Int) - 1) = ((t.length - 1 : Nat) : Int) := by rw [wr_id (by omega)]; omega
          have hin : (t.drop 1).take (t.length - 1 - 1) = inner t := by unfold inner; congr 1
          have hil : (inner t).length = t.length - 2 := by unfold inner; rw [List.length_take, List.length_drop]; omega
          have hp := t_rtag (inner t) (by omega)
          by_cases h3 : t.getD 0 0 = 34
          · have c3 := eq_true (show ((t.getD 0 0).toNat : Int) = 34 by rw [h3]; rfl)
            have d3 : (((t.getD 0 0).toNat : Int) != 34) = false := by rw [h3]; rfl
            by_cases h4 : t.getD (t.length - 1) 0 = 34
            · have c4 := eq_true (show ((t.getD (t.length - 1) 0).toNat : Int) = 34 by rw [h4]; rfl)
              have d4 : (((t.getD (t.length - 1) 0).toNat : Int) != 34) = false := by rw [h4]; rfl
              rw [if_neg (fun h => h ⟨h2, h3, h4⟩)]
              cases hpl : plainT (inner t)
              · rw [hpl] at hp
                rw [if_pos rfl]
                simp (maxSteps := 2000000) (disch := omega) only [go_sem, doCall, doCallQ, doCallP, Nat.reduceAdd, Nat.reduceMul, Nat.reduceSub, Nat.reduceDiv, Nat.reduceMod, Nat.reduceLT, Nat.reduceLeDiff, Nat.reduceEqDiff, Nat.reduceBEq, Nat.reduceBNe, Int.reduceToNat, Int.reduceLT, Int.reduceLE, Int.reduceEq, Int.reduceNe, Int.reduceAdd, Int.reduceSub, Int.reduceMul, Int.reduceNeg, bd46, q2', q0', q1', q2n, r2', r1', ht0, hts, c2, c3, d3, c4, d4, hpos, hlast, hw1, hb1, hb2, hin, hp, rB_len, Int.natCast_nonneg, Int.toNat_natCast, Option.getD_some, Option.getD_none, List.drop_zero, Nat.sub_zero, Nat.zero_le, true_and, and_true, Nat.le_refl, chk_of]
              · rw [hpl] at hp
                rw [if_neg (by simp)]
                by_cases h40 : 40 < (inner t).length
                · have c5 := eq_true (show (42 : Int) < t.length by omega)
                  rw [if_pos h40]
                  simp (maxSteps := 2000000) (disch := omega) only [go_sem, doCall, doCallQ, doCallP, Nat.reduceAdd, Nat.reduceMul, Nat.reduceSub, Nat.reduceDiv, Nat.reduceMod, Nat.reduceLT, Nat.reduceLeDiff, Nat.reduceEqDiff, Nat.reduceBEq, Nat.reduceBNe, Int.reduceToNat, Int.reduceLT, Int.reduceLE, Int.reduceEq, Int.reduceNe, Int.reduceAdd, Int.reduceSub, Int.reduceMul, Int.reduceNeg, bd46, q2', q0', q1', q2n, r2', r1', ht0, hts, c2, c3, d3, c4, d4, c5, hpos, hlast, hw1, hb1, hb2, hin, hp, rB_len, Int.natCast_nonneg, Int.toNat_natCast, Option.getD_some, Option.getD_none, List.drop_zero, Nat.sub_zero, Nat.zero_le, true_and, and_true, Nat.le_refl, chk_of]
                · have c5 := eq_false (show ¬ (42 : Int) < t.length by omega)
                  rw [if_neg h40]
                  simp (maxSteps := 2000000) (disch := omega) only [go_sem, doCall, doCallQ, doCallP, Nat.reduceAdd, Nat.reduceMul, Nat.reduceSub, Nat.reduceDiv, Nat.reduceMod, Nat.reduceLT, Nat.reduceLeDiff, Nat.reduceEqDiff, Nat.reduceBEq, Nat.reduceBNe, Int.reduceToNat, Int.reduceLT, Int.reduceLE, Int.reduceEq, Int.reduceNe, Int.reduceAdd, Int.reduceSub, Int.reduceMul, Int.reduceNeg, bd46, q2', q0', q1', q2n, r2', r1', ht0, hts, c2, c3, d3, c4, d4, c5, hpos, hlast, hw1, hb1, hb2, hin, hp, rB_len, Int.natCast_nonneg, Int.toNat_natCast, Option.getD_some, Option.getD_none, List.drop_zero, Nat.sub_zero, Nat.zero_le, true_and, and_true, Nat.le_refl, chk_of]
            · have c4 := eq_false (show ¬ ((t.getD (t.length - 1) 0).toNat : Int) = 34 by rw [u8_34]; exact h4)
              have d4 : (((t.getD (t.length - 1) 0).toNat : Int) != 34) = true := by rw [bne_iff_ne]; exact fun h => h4 (by rwa [u8_34] at h)
              rw [if_pos (fun h => h4 h.2.2)]
              simp (maxSteps := 2000000) (disch := omega) only [go_sem, doCall, doCallQ, doCallP, Nat.reduceAdd, Nat.reduceMul, Nat.reduceSub, Nat.reduceDiv, Nat.reduceMod, Nat.reduceLT, Nat.reduceLeDiff, Nat.reduceEqDiff, Nat.reduceBEq, Nat.reduceBNe, Int.reduceToNat, Int.reduceLT, Int.reduceLE, Int.reduceEq, Int.reduceNe, Int.reduceAdd, Int.reduceSub, Int.reduceMul, Int.reduceNeg, bd46, q2', q0', q1', q2n, r2', r1', ht0, hts, c2, c3, d3, c4, d4, hpos, hlast, hw1, rB_len, Int.natCast_nonneg, Int.toNat_natCast, Option.getD_some, Option.getD_none, List.drop_zero, Nat.sub_zero, Nat.zero_le, true_and, and_true, Nat.le_refl, chk_of]
          · have c3 := eq_false (show ¬ ((t.getD 0 0).toNat : Int) = 34 by rw [u8_34]; exact h3)
            have d3 : (((t.getD 0 0).toNat : Int) != 34) = true := by rw [bne_iff_ne]; exact fun h => h3 (by rwa [u8_34] at h)
            rw [if_pos (fun h => h3 h.2.1)]
            simp (maxSteps := 2000000) (disch := omega) only [go_sem, doCall, doCallQ, doCallP, Nat.reduceAdd, Nat.reduceMul, Nat.reduceSub, Nat.reduceDiv, Nat.reduceMod, Nat.reduceLT, Nat.reduceLeDiff, Nat.reduceEqDiff, Nat.reduceBEq, Nat.reduceBNe, Int.reduceToNat, Int.reduceLT, Int.reduceLE, Int.reduceEq, Int.reduceNe, Int.reduceAdd, Int.reduceSub, Int.reduceMul, Int.reduceNeg, bd46, q2', q0', q1', q2n, r2', r1', ht0, hts, c2, c3, d3, hpos, hlast, hw1, rB_len, Int.natCast_nonneg, Int.toNat_natCast, Option.getD_some, Option.getD_none, List.drop_zero, Nat.sub_zero, Nat.zero_le, true_and, and_true, Nat.le_refl, chk_of]
        · have c2 := eq_true (show (t.length : Int) < 2 by omega)
          rw [if_pos (fun h => h2 h.1)]
          simp (maxSteps := 2000000) (disch := omega) only [go_sem, doCall, doCallQ, doCallP, Nat.reduceAdd, Nat.reduceMul, Nat.reduceSub, Nat.reduceDiv, Nat.reduceMod, Nat.reduceLT, Nat.reduceLeDiff, Nat.reduceEqDiff, Nat.reduceBEq, Nat.reduceBNe, Int.reduceToNat, Int.reduceLT, Int.reduceLE, Int.reduceEq, Int.reduceNe, Int.reduceAdd, Int.reduceSub, Int.reduceMul, Int.reduceNeg, bd46, q2', q0', q1', q2n, r2', r1', ht0, hts, c2, rB_len, Int.natCast_nonneg, Int.toNat_natCast, Option.getD_some, Option.getD_none, List.drop_zero, Nat.sub_zero, Nat.zero_le, true_and, and_true, Nat.le_refl, chk_of]
      · have q2' := eq_true q2
        have q0' := eq_true q0
        have q1' := eq_false q1
        have hnw : ¬ hasW s := fun h => by have := hwi.1 h; omega
        unfold tagE
        rw [if_neg hnw, decide_eq_false hnw]
        generalize hts : s = t at *
        have hlt : t.length ≤ 1000000000 := by omega
        unfold quoted
        by_cases h2 : 2 ≤ t.length
        · have c2 := eq_false (show ¬ (t.length : Int) < 2 by omega)
          have hpos : 0 < t.length := by omega
          have hlast : t.length - 1 < t.length := by omega
          have hb1 : 1 ≤ t.length - 1 := by omega
          have hb2 : t.length - 1 ≤ t.length := by omega
          have hw1 : wr .i64 ((t.length : Int) - 1) = ((t.length - 1 : Nat) : Int) := by rw [wr_id (by omega)]; omega
          have hin : (t.drop 1).take (t.length - 1 - 1) = inner t := by unfold inner; congr 1
          have hil : (inner t).length = t.length - 2 := by unfold inner; rw [List.length_take, List.length_drop]; omega
          have hp := t_rtag (inner t) (by omega)
          by_cases h3 : t.getD 0 0 = 34
          · have c3 := eq_true (show ((t.getD 0 0).toNat : Int) = 34 by rw [h3]; rfl)
            have d3 : (((t.getD 0 0).toNat : Int) != 34) = false := by rw [h3]; rfl
            by_cases h4 : t.getD (t.length - 1) 0 = 34
            · have c4 := eq_true (show ((t.getD (t.length - 1) 0).toNat : Int) = 34 by rw [h4]; rfl)
              have d4 : (((t.getD (t.length - 1) 0).toNat : Int) != 34) = false := by rw [h4]; rfl
              rw [if_neg (fun h => h ⟨h2, h3, h4⟩)]
              cases hpl : plainT (inner t)
              · rw [hpl] at hp
                rw [if_pos rfl]
                simp (maxSteps := 2000000) (disch := omega) only [go_sem, doCall, doCallQ, doCallP, Nat.reduceAdd, Nat.reduceMul, Nat.reduceSub, Nat.reduceDiv, Nat.reduceMod, Nat.reduceLT, Nat.reduceLeDiff, Nat.reduceEqDiff, Nat.reduceBEq, Nat.reduceBNe, Int.reduceToNat, Int.reduceLT, Int.reduceLE, Int.reduceEq, Int.reduceNe, Int.reduceAdd, Int.reduceSub, Int.reduceMul, Int.reduceNeg, bd46, q2', q0', q1', r2', r1', c2, c3, d3, c4, d4, hpos, hlast, hw1, hb1, hb2, hin, hp, rB_len, Int.natCast_nonneg, Int.toNat_natCast, Option.getD_some, Option.getD_none, List.drop_zero, Nat.sub_zero, Nat.zero_le, true_and, and_true, Nat.le_refl, chk_of]
              · rw [hpl] at hp
                rw [if_neg (by simp)]
                by_cases h40 : 40 < (inner t).length
                · have c5 := eq_true (show (42 : Int) < t.length by omega)
                  rw [if_pos h40]
                  simp (maxSteps := 2000000) (disch := omega) only [go_sem, doCall, doCallQ, doCallP, Nat.reduceAdd, Nat.reduceMul, Nat.reduceSub, Nat.reduceDiv, Nat.reduceMod, Nat.reduceLT, Nat.reduceLeDiff, Nat.reduceEqDiff, Nat.reduceBEq, Nat.reduceBNe, Int.reduceToNat, Int.reduceLT, Int.reduceLE, Int.reduceEq, Int.reduceNe, Int.reduceAdd, Int.reduceSub, Int.reduceMul, Int.reduceNeg, bd46, q2', q0', q1', r2', r1', c2, c3, d3, c4, d4, c5, hpos, hlast, hw1, hb1, hb2, hin, hp, rB_len, Int.natCast_nonneg, Int.toNat_natCast, Option.getD_some, Option.getD_none, List.drop_zero, Nat.sub_zero, Nat.zero_le, true_and, and_true, Nat.le_refl, chk_of]
                · have c5 := eq_false (show ¬ (42 : Int) < t.length by omega)
                  rw [if_neg h40]
                  simp (maxSteps := 2000000) (disch := omega) only [go_sem, doCall, doCallQ, doCallP, Nat.reduceAdd, Nat.reduceMul, Nat.reduceSub, Nat.reduceDiv, Nat.reduceMod, Nat.reduceLT, Nat.reduceLeDiff, Nat.reduceEqDiff, Nat.reduceBEq, Nat.reduceBNe, Int.reduceToNat, Int.reduceLT, Int.reduceLE, Int.reduceEq, Int.reduceNe, Int.reduceAdd, Int.reduceSub, Int.reduceMul, Int.reduceNeg, bd46, q2', q0', q1', r2', r1', c2, c3, d3, c4, d4, c5, hpos, hlast, hw1, hb1, hb2, hin, hp, rB_len, Int.natCast_nonneg, Int.toNat_natCast, Option.getD_some, Option.getD_none, List.drop_zero, Nat.sub_zero, Nat.zero_le, true_and, and_true, Nat.le_refl, chk_of]
            · have c4 := eq_false (show ¬ ((t.getD (t.length - 1) 0).toNat : Int) = 34 by rw [u8_34]; exact h4)
              have d4 : (((t.getD (t.length - 1) 0).toNat : Int) != 34) = true := by rw [bne_iff_ne]; exact fun h => h4 (by rwa [u8_34] at h)
              rw [if_pos (fun h => h4 h.2.2)]
              simp (maxSteps := 2000000) (disch := omega) only [go_sem, doCall, doCallQ, doCallP, Nat.reduceAdd, Nat.reduceMul, Nat.reduceSub, Nat.reduceDiv, Nat.reduceMod, Nat.reduceLT, Nat.reduceLeDiff, Nat.reduceEqDiff, Nat.reduceBEq, Nat.reduceBNe, Int.reduceToNat, Int.reduceLT, Int.reduceLE, Int.reduceEq, Int.reduceNe, Int.reduceAdd, Int.reduceSub, Int.reduceMul, Int.reduceNeg, bd46, q2', q0', q1', r2', r1', c2, c3, d3, c4, d4, hpos, hlast, hw1, rB_len, Int.natCast_nonneg, Int.toNat_natCast, Option.getD_some, Option.getD_none, List.drop_zero, Nat.sub_zero, Nat.zero_le, true_and, and_true, Nat.le_refl, chk_of]
          · have c3 := eq_false (show ¬ ((t.getD 0 0).toNat : Int) = 34 by rw [u8_34]; exact h3)
            have d3 : (((t.getD 0 0).toNat : Int) != 34) = true := by rw [bne_iff_ne]; exact fun h => h3 (by rwa [u8_34] at h)
            rw [if_pos (fun h => h3 h.2.1)]
            simp (maxSteps := 2000000) (disch := omega) only [go_sem, doCall, doCallQ, doCallP, Nat.reduceAdd, Nat.reduceMul, Nat.reduceSub, Nat.reduceDiv, Nat.reduceMod, Nat.reduceLT, Nat.reduceLeDiff, Nat.reduceEqDiff, Nat.reduceBEq, Nat.reduceBNe, Int.reduceToNat, Int.reduceLT, Int.reduceLE, Int.reduceEq, Int.reduceNe, Int.reduceAdd, Int.reduceSub, Int.reduceMul, Int.reduceNeg, bd46, q2', q0', q1', r2', r1', c2, c3, d3, hpos, hlast, hw1, rB_len, Int.natCast_nonneg, Int.toNat_natCast, Option.getD_some, Option.getD_none, List.drop_zero, Nat.sub_zero, Nat.zero_le, true_and, and_true, Nat.le_refl, chk_of]
        · have c2 := eq_true (show (t.length : Int) < 2 by omega)
          rw [if_pos (fun h => h2 h.1)]
          simp (maxSteps := 2000000) (disch := omega) only [go_sem, doCall, doCallQ, doCallP, Nat.reduceAdd, Nat.reduceMul, Nat.reduceSub, Nat.reduceDiv, Nat.reduceMod, Nat.reduceLT, Nat.reduceLeDiff, Nat.reduceEqDiff, Nat.reduceBEq, Nat.reduceBNe, Int.reduceToNat, Int.reduceLT, Int.reduceLE, Int.reduceEq, Int.reduceNe, Int.reduceAdd, Int.reduceSub, Int.reduceMul, Int.reduceNeg, bd46, q2', q0', q1', r2', r1', c2, rB_len, Int.natCast_nonneg, Int.toNat_natCast, Option.getD_some, Option.getD_none, List.drop_zero, Nat.sub_zero, Nat.zero_le, true_and, and_true, Nat.le_refl, chk_of]
    · have q2' := eq_true q2
      have q0' := eq_false q0
      have hnw : ¬ hasW s := fun h => by have := hwi.1 h; omega
      unfold tagE
      rw [if_neg hnw, decide_eq_false hnw]
      generalize hts : s = t at *
      have hlt : t.length ≤ 1000000000 := by omega
      unfold quoted
      by_cases h2 : 2 ≤ t.length
      · have c2 := eq_false (show ¬ (t.length : Int) < 2 by omega)
        have hpos : 0 < t.length := by omega
        have hlast : t.length - 1 < t.length := by omega
        have hb1 : 1 ≤ t.length - 1 := by omega
        have hb2 : t.length - 1 ≤ t.length := by omega
        have hw1 : wr .i64 ((t.length : Int) - 1) = ((t.length - 1 : Nat) : Int) := by rw [wr_id (by omega)]; omega
        have hin : (t.drop 1).take (t.length - 1 - 1) = inner t := by unfold inner; congr 1
        have hil : (inner t).length = t.length - 2 := by unfold inner; rw [List.length_take, List.length_drop]; omega
        have hp := t_rtag (inner t) (by omega)
        by_cases h3 : t.getD 0 0 = 34
        · have c3 := eq_true (show ((t.getD 0 0).toNat : Int) = 34 by rw [h3]; rfl)
          have d3 : (((t.getD 0 0).toNat : Int) != 34) = false := by rw [h3]; rfl
          by_cases h4 : t.getD (t.length - 1) 0 = 34
          · have c4 := eq_true (show ((t.getD (t.length - 1) 0).toNat : Int) = 34 by rw [h4]; rfl)
            have d4 : (((t.getD (t.length - 1) 0).toNat : Int) != 34) = false := by rw [h4]; rfl
            rw [if_neg (fun h => h ⟨h2, h3, h4⟩)]
            cases hpl : plainT (inner t)
            · rw [hpl] at hp
              rw [if_pos rfl]
              simp (maxSteps := 2000000) (disch := omega) only [go_sem, doCall, doCallQ, doCallP, Nat.reduceAdd, Nat.reduceMul, Nat.reduceSub, Nat.reduceDiv, Nat.reduceMod, Nat.reduceLT, Nat.reduceLeDiff, Nat.reduceEqDiff, Nat.reduceBEq, Nat.reduceBNe, Int.reduceToNat, Int.reduceLT, Int.reduceLE, Int.reduceEq, Int.reduceNe, Int.reduceAdd, Int.reduceSub, Int.reduceMul, Int.reduceNeg, bd46, q2', q0', r2', r1', c2, c3, d3, c4, d4, hpos, hlast, hw1, hb1, hb2, hin, hp, rB_len, Int.natCast_nonneg, Int.toNat_natCast, Option.getD_some, Option.getD_none, List.drop_zero, Nat.sub_zero, Nat.zero_le, true_and, and_true, Nat.le_refl, chk_of]
            · rw [hpl] at hp
              rw [if_neg (by simp)]
              by_cases h40 : 40 < (inner t).length
              · have c5 := eq_true (show (42 : Int) < t.length by omega)
                rw [if_pos h40]
                simp (maxSteps := 2000000) (disch := omega) only [go_sem, doCall, doCallQ, doCallP, Nat.reduceAdd, Nat.reduceMul, Nat.reduceSub, Nat.reduceDiv, Nat.reduceMod, Nat.reduceLT, Nat.reduceLeDiff, Nat.reduceEqDiff, Nat.reduceBEq, Nat.reduceBNe, Int.reduceToNat, Int.reduceLT, Int.reduceLE, Int.reduceEq, Int.reduceNe, Int.reduceAdd, Int.reduceSub, Int.reduceMul, Int.reduceNeg, bd46, q2', q0', r2', r1', c2, c3, d3, c4, d4, c5, hpos, hlast, hw1, hb1, hb2, hin, hp, rB_len, Int.natCast_nonneg, Int.toNat_natCast, Option.getD_some, Option.getD_none, List.drop_zero, Nat.sub_zero, Nat.zero_le, true_and, and_true, Nat.le_refl, chk_of]
              · have c5 := eq_false (show ¬ (42 : Int) < t.length by omega)
                rw [if_neg h40]
                simp (maxSteps := 2000000) (disch := omega) only [go_sem, doCall, doCallQ, doCallP, Nat.reduceAdd, Nat.reduceMul, Nat.reduceSub, Nat.reduceDiv, Nat.reduceMod, Nat.reduceLT, Nat.reduceLeDiff, Nat.reduceEqDiff, Nat.reduceBEq, Nat.reduceBNe, Int.reduceToNat, Int.reduceLT, Int.reduceLE, Int.reduceEq, Int.reduceNe, Int.reduceAdd, Int.reduceSub, Int.reduceMul, Int.reduceNeg, bd46, q2', q0', r2', r1', c2, c3, d3, c4, d4, c5, hpos, hlast, hw1, hb1, hb2, hin, hp, rB_len, Int.natCast_nonneg, Int.toNat_natCast, Option.getD_some, Option.getD_none, List.drop_zero, Nat.sub_zero, Nat.zero_le, true_and, and_true, Nat.le_refl, chk_of]
          · have c4 := eq_false (show ¬ ((t.getD (t.length - 1) 0).toNat : Int) = 34 by rw [u8_34]; exact h4)
            have d4 : (((t.getD (t.length - 1) 0).toNat : Int) != 34) = true := by rw [bne_iff_ne]; exact fun h => h4 (by rwa [u8_34] at h)
            rw [if_pos (fun h => h4 h.2.2)]
            simp (maxSteps := 2000000) (disch := omega) only [go_sem, doCall, doCallQ, doCallP, Nat.reduceAdd, Nat.reduceMul, Nat.reduceSub, Nat.reduceDiv, Nat.reduceMod, Nat.reduceLT, Nat.reduceLeDiff, Nat.reduceEqDiff, Nat.reduceBEq, Nat.reduceBNe, Int.reduceToNat, Int.reduceLT, Int.reduceLE, Int.reduceEq, Int.reduceNe, Int.reduceAdd, Int.reduceSub, Int.reduceMul, Int.reduceNeg, bd46, q2', q0', r2', r1', c2, c3, d3, c4, d4, hpos, hlast, hw1, rB_len, Int.natCast_nonneg, Int.toNat_natCast, Option.getD_some, Option.getD_none, List.drop_zero, Nat.sub_zero, Nat.zero_le, true_and, and_true, Nat.le_refl, chk_of]
        · have c3 := eq_false (show ¬ ((t.getD 0 0).toNat : Int) = 34 by rw [u8_34]; exact h3)
          have d3 : (((t.getD 0 0).toNat : Int) != 34) = true := by rw [bne_iff_ne]; exact fun h => h3 (by rwa [u8_34] at h)
          rw [if_pos (fun h => h3 h.2.1)]
          simp (maxSteps := 2000000) (disch := omega) only [go_sem, doCall, doCallQ, doCallP, Nat.reduceAdd, Nat.reduceMul, Nat.reduceSub, Nat.reduceDiv, Nat.reduceMod, Nat.reduceLT, Nat.reduceLeDiff, Nat.reduceEqDiff, Nat.reduceBEq, Nat.reduceBNe, Int.reduceToNat, Int.reduceLT, Int.reduceLE, Int.reduceEq, Int.reduceNe, Int.reduceAdd, Int.reduceSub, Int.reduceMul, Int.reduceNeg, bd46, q2', q0', r2', r1', c2, c3, d3, hpos, hlast, hw1, rB_len, Int.natCast_nonneg, Int.toNat_natCast, Option.getD_some, Option.getD_none, List.drop_zero, Nat.sub_zero, Nat.zero_le, true_and, and_true, Nat.le_refl, chk_of]
      · have c2 := eq_true (show (t.length : Int) < 2 by omega)
        rw [if_pos (fun h => h2 h.1)]
        simp (maxSteps := 2000000) (disch := omega) only [go_sem, doCall, doCallQ, doCallP, Nat.reduceAdd, Nat.reduceMul, Nat.reduceSub, Nat.reduceDiv, Nat.reduceMod, Nat.reduceLT, Nat.reduceLeDiff, Nat.reduceEqDiff, Nat.reduceBEq, Nat.reduceBNe, Int.reduceToNat, Int.reduceLT, Int.reduceLE, Int.reduceEq, Int.reduceNe, Int.reduceAdd, Int.reduceSub, Int.reduceMul, Int.reduceNeg, bd46, q2', q0', r2', r1', c2, rB_len, Int.natCast_nonneg, Int.toNat_natCast, Option.getD_some, Option.getD_none, List.drop_zero, Nat.sub_zero, Nat.zero_le, true_and, and_true, Nat.le_refl, chk_of]
  · have q2' := eq_false q2
    have hnw : ¬ hasW s := fun h => by have := hwi.1 h; omega
    unfold tagE
    rw [if_neg hnw, decide_eq_false hnw]
    generalize hts : s = t at *
    have hlt : t.length ≤ 1000000000 := by omega
    unfold quoted
    by_cases h2 : 2 ≤ t.length
    · have c2 := eq_false (show ¬ (t.length : Int) < 2 by omega)
      have hpos : 0 < t.length := by omega
      have hlast : t.length - 1 < t.length := by omega
      have hb1 : 1 ≤ t.length - 1 := by omega
      have hb2 : t.length - 1 ≤ t.length := by omega
      have hw1 : wr .i64 ((t.length : Int) - 1) = ((t.length - 1 : Nat) : Int) := by rw [wr_id (by omega)]; omega
      have hin : (t.drop 1).take (t.length - 1 - 1) = inner t := by unfold inner; congr 1
      have hil : (inner t).length = t.length - 2 := by unfold inner; rw [List.length_take, List.length_drop]; omega
      have hp := t_rtag (inner t) (by omega)
      by_cases h3 : t.getD 0 0 = 34
      · have c3 := eq_true (show ((t.getD 0 0).toNat : Int) = 34 by rw [h3]; rfl)
        have d3 : (((t.getD 0 0).toNat : Int) != 34) = false := by rw [h3]; rfl
        by_cases h4 : t.getD (t.length - 1) 0 = 34
        · have c4 := eq_true (show ((t.getD (t.length - 1) 0).toNat : Int) = 34 by rw [h4]; rfl)
          have d4 : (((t.getD (t.length - 1) 0).toNat : Int) != 34) = false := by rw [h4]; rfl
          rw [if_neg (fun h => h ⟨h2, h3, h4⟩)]
          cases hpl : plainT (inner t)
          · rw [hpl] at hp
            rw [if_pos rfl]
            simp (maxSteps := 2000000) (disch := omega) only [go_sem, doCall, doCallQ, doCallP, Nat.reduceAdd, Nat.reduceMul, Nat.reduceSub, Nat.reduceDiv, Nat.reduceMod, Nat.reduceLT, Nat.reduceLeDiff, Nat.reduceEqDiff, Nat.reduceBEq, Nat.reduceBNe, Int.reduceToNat, Int.reduceLT, Int.reduceLE, Int.reduceEq, Int.reduceNe, Int.reduceAdd, Int.reduceSub, Int.reduceMul, Int.reduceNeg, bd46, q2', c2, c3, d3, c4, d4, hpos, hlast, hw1, hb1, hb2, hin, hp, rB_len, Int.natCast_nonneg, Int.toNat_natCast, Option.getD_some, Option.getD_none, List.drop_zero, Nat.sub_zero, Nat.zero_le, true_and, and_true, Nat.le_refl, chk_of]
          · rw [hpl] at hp
            rw [if_neg (by simp)]
            by_cases h40 : 40 < (inner t).length
            · have c5 := eq_true (show (42 : Int) < t.length by omega)
              rw [if_pos h40]
              simp (maxSteps := 2000000) (disch := omega) only [go_sem, doCall, doCallQ, doCallP, Nat.reduceAdd, Nat.reduceMul, Nat.reduceSub, Nat.reduceDiv, Nat.reduceMod, Nat.reduceLT, Nat.reduceLeDiff, Nat.reduceEqDiff, Nat.reduceBEq, Nat.reduceBNe, Int.reduceToNat, Int.reduceLT, Int.reduceLE, Int.reduceEq, Int.reduceNe, Int.reduceAdd, Int.reduceSub, Int.reduceMul, Int.reduceNeg, bd46, q2', c2, c3, d3, c4, d4, c5, hpos, hlast, hw1, hb1, hb2, hin, hp, rB_len, Int.natCast_nonneg, Int.toNat_natCast, Option.getD_some, Option.getD_none, List.drop_zero, Nat.sub_zero, Nat.zero_le, true_and, and_true, Nat.le_refl, chk_of]
            · have c5 := eq_false (show ¬ (42 : Int) < t.length by omega)
              rw [if_neg h40]
              simp (maxSteps := 2000000) (disch := omega) only [go_sem, doCall, doCallQ, doCallP, Nat.reduceAdd, Nat.reduceMul, Nat.reduceSub, Nat.reduceDiv, Nat.reduceMod, Nat.reduceLT, Nat.reduceLeDiff, Nat.reduceEqDiff, Nat.reduceBEq, Nat.reduceBNe, Int.reduceToNat, Int.reduceLT, Int.reduceLE, Int.reduceEq, Int.reduceNe, Int.reduceAdd, Int.reduceSub, Int.reduceMul, Int.reduceNeg, bd46, q2', c2, c3, d3, c4, d4, c5, hpos, hlast, hw1, hb1, hb2, hin, hp, rB_len, Int.natCast_nonneg, Int.toNat_natCast, Option.getD_some, Option.getD_none, List.drop_zero, Nat.sub_zero, Nat.zero_le, true_and, and_true, Nat.le_refl, chk_of]
        · have c4 := eq_false (show ¬ ((t.getD (t.length - 1) 0).toNat : Int) = 34 by rw [u8_34]; exact h4)
          have d4 : (((t.getD (t.length - 1) 0).toNat : Int) != 34) = true := by rw [bne_iff_ne]; exact fun h => h4 (by rwa [u8_34] at h)
          rw [if_pos (fun h => h4 h.2.2)]
          simp (maxSteps := 2000000) (disch := omega) only [go_sem, doCall, doCallQ, doCallP, Nat.reduceAdd, Nat.reduceMul, Nat.reduceSub, Nat.reduceDiv, Nat.reduceMod, Nat.reduceLT, Nat.reduceLeDiff, Nat.reduceEqDiff, Nat.reduceBEq, Nat.reduceBNe, Int.reduceToNat, Int.reduceLT, Int.reduceLE, Int.reduceEq, Int.reduceNe, Int.reduceAdd, Int.reduceSub, Int.reduceMul, Int.reduceNeg, bd46, q2', c2, c3, d3, c4, d4, hpos, hlast, hw1, rB_len, Int.natCast_nonneg, Int.toNat_natCast, Option.getD_some, Option.getD_none, List.drop_zero, Nat.sub_zero, Nat.zero_le, true_and, and_true, Nat.le_refl, chk_of]
      · have c3 := eq_false (show ¬ ((t.getD 0 0).toNat : Int) = 34 by rw [u8_34]; exact h3)
        have d3 : (((t.getD 0 0).toNat : Int) != 34) = true := by rw [bne_iff_ne]; exact fun h => h3 (by rwa [u8_34] at h)
        rw [if_pos (fun h => h3 h.2.1)]
        simp (maxSteps := 2000000) (disch := omega) only [go_sem, doCall, doCallQ, doCallP, Nat.reduceAdd, Nat.reduceMul, Nat.reduceSub, Nat.reduceDiv, Nat.reduceMod, Nat.reduceLT, Nat.reduceLeDiff, Nat.reduceEqDiff, Nat.reduceBEq, Nat.reduceBNe, Int.reduceToNat, Int.reduceLT, Int.reduceLE, Int.reduceEq, Int.reduceNe, Int.reduceAdd, Int.reduceSub, Int.reduceMul, Int.reduceNeg, bd46, q2', c2, c3, d3, hpos, hlast, hw1, rB_len, Int.natCast_nonneg, Int.toNat_natCast, Option.getD_some, Option.getD_none, List.drop_zero, Nat.sub_zero, Nat.zero_le, true_and, and_true, Nat.le_refl, chk_of]
    · have c2 := eq_true (show (t.length : Int) < 2 by omega)
      rw [if_pos (fun h => h2 h.1)]
      simp (maxSteps := 2000000) (disch := omega) only [go_sem, doCall, doCallQ, doCallP, Nat.reduceAdd, Nat.reduceMul, Nat.reduceSub, Nat.reduceDiv, Nat.reduceMod, Nat.reduceLT, Nat.reduceLeDiff, Nat.reduceEqDiff, Nat.reduceBEq, Nat.reduceBNe, Int.reduceToNat, Int.reduceLT, Int.reduceLE, Int.reduceEq, Int.reduceNe, Int.reduceAdd, Int.reduceSub, Int.reduceMul, Int.reduceNeg, bd46, q2', c2, rB_len, Int.natCast_nonneg, Int.toNat_natCast, Option.getD_some, Option.getD_none, List.drop_zero, Nat.sub_zero, Nat.zero_le, true_and, and_true, Nat.le_refl, chk_of]
theorem t_ruse (cond tag : List UInt8) (hc : cond.length ≤ 1000000000) : call ir 20 [dS cond, dS tag] [] = some (dT (useE cond tag), []) := by
  rw [call_eq (fn := ir20) rfl, evF_bnd]
  have ht := t_rtrim cond hc
  have hl := trim_len cond
  have he := t_retag (trim cond) (by omega)
  unfold useE
  generalize tagE (trim cond) = z at *
  by_cases h1 : trim cond = []
  · have h1' := eq_true h1
    rw [decide_eq_true h1, Bool.true_or]
    simp (maxSteps := 2000000) (disch := omega) only [go_sem, doCall, doCallQ, doCallP, Nat.reduceAdd, Nat.reduceMul, Nat.reduceSub, Nat.reduceDiv, Nat.reduceMod, Nat.reduceLT, Nat.reduceLeDiff, Nat.reduceEqDiff, Nat.reduceBEq, Nat.reduceBNe, Int.reduceToNat, Int.reduceLT, Int.reduceLE, Int.reduceEq, Int.reduceNe, Int.reduceAdd, Int.reduceSub, Int.reduceMul, Int.reduceNeg, bd20, ht, he, h1', chk_of]
  · rw [decide_eq_false h1, Bool.false_or]
    by_cases h2 : z.2 = 0
    · have h2' := eq_true h2
      rw [decide_eq_true h2, Bool.true_and]
      cases hz : z.1.1
      · rw [hz] at he
        simp (maxSteps := 2000000) (disch := omega) only [go_sem, doCall, doCallQ, doCallP, Nat.reduceAdd, Nat.reduceMul, Nat.reduceSub, Nat.reduceDiv, Nat.reduceMod, Nat.reduceLT, Nat.reduceLeDiff, Nat.reduceEqDiff, Nat.reduceBEq, Nat.reduceBNe, Int.reduceToNat, Int.reduceLT, Int.reduceLE, Int.reduceEq, Int.reduceNe, Int.reduceAdd, Int.reduceSub, Int.reduceMul, Int.reduceNeg, bd20, ht, h1, he, h2', hz, Bool.not_false, Bool.true_and, chk_of]
      · rw [hz] at he
        simp (maxSteps := 2000000) (disch := omega) only [go_sem, doCall, doCallQ, doCallP, Nat.reduceAdd, Nat.reduceMul, Nat.reduceSub, Nat.reduceDiv, Nat.reduceMod, Nat.reduceLT, Nat.reduceLeDiff, Nat.reduceEqDiff, Nat.reduceBEq, Nat.reduceBNe, Int.reduceToNat, Int.reduceLT, Int.reduceLE, Int.reduceEq, Int.reduceNe, Int.reduceAdd, Int.reduceSub, Int.reduceMul, Int.reduceNeg, bd20, ht, h1, he, h2', hz, Bool.not_true, Bool.false_and, chk_of]
    · rw [decide_eq_false h2, Bool.false_and]
      simp (maxSteps := 2000000) (disch := omega) only [go_sem, doCall, doCallQ, doCallP, Nat.reduceAdd, Nat.reduceMul, Nat.reduceSub, Nat.reduceDiv, Nat.reduceMod, Nat.reduceLT, Nat.reduceLeDiff, Nat.reduceEqDiff, Nat.reduceBEq, Nat.reduceBNe, Int.reduceToNat, Int.reduceLT, Int.reduceLE, Int.reduceEq, Int.reduceNe, Int.reduceAdd, Int.reduceSub, Int.reduceMul, Int.reduceNeg, bd20, ht, h1, he, h2, chk_of]
end Go.Proofs.YtplnioclkacgkaaGreatDoor
namespace Go.Proofs.YtplnioclkacgkaaGreatDoor
open Go Go.Ev Go.Proofs.YtplnioclkacgkaaGreatDoor.Ir Go.Prs
set_option maxRecDepth 100000
set_option maxHeartbeats 4000000
set_option linter.unusedSimpArgs false
set_option linter.unusedVariables false
theorem mstep_len (g : Int) (O : List (Int × Int)) (s : Int × Int) : (mstep g O s).length ≤ O.length + 1 := by
  unfold mstep; split <;> simp
theorem mfold_len (g : Int) : ∀ (S O : List (Int × Int)), (S.foldl (mstep g) O).length ≤ O.length + S.length
  | [], O => by simp
  | s :: S, O => by
    have h1 := mfold_len g S (mstep g O s)
    have h2 := mstep_len g O s
    rw [List.foldl_cons, List.length_cons]; omega
theorem mrg_len (g : Int) (l : List (Int × Int)) : (mrg g l).length ≤ l.length := by
  have h1 := mfold_len g (srtR l) []
  have h2 := (srtR_perm l).length_eq
  have h3 := List.length_filter_le rp l
  unfold mrg
  simp at h1; omega
/-- What is chosen: the status, and the spans. -/
def chS (header cond tag : List UInt8) (n : Int) : Int × List (Int × Int) :=
  if specL header = [] ∨ useE cond tag = false then (200, []) else if resL (specL header) n = [] then (416, [])
  else (206, if clashG [] (resL (specL header) n) then mrg 0 (resL (specL header) n) else resL (specL header) n)
theorem chS_len (header cond tag : List UInt8) (n : Int) : (chS header cond tag n).2.length ≤ 16 := by
  have h1 := specL_len header
  have h2 := resL_len (specL header) n
  have h3 := mrg_len 0 (resL (specL header) n)
  unfold chS
  split
  · simp
  · split
    · simp
    · simp only; split <;> omega
theorem t_chooseX (header cond tag : List UInt8) (hh : header.length ≤ 100000000) (hc : cond.length ≤ 1000000000) (n : Int) :
    call ir 5 [dS header, dS cond, dS tag, dI n] [] = some (.agg [dI (chS header cond tag n).1, .d (.list 2 (r2 (chS header cond tag n).2))], []) := by
  have ha := t_asked header hh
  have hu := t_use cond tag hc
  have hw := t_whole n
  have hrl := r3_len (specL header)
  have hsl := specL_len header
  unfold chS
  by_cases h1 : specL header = []
  · rw [if_pos (.inl h1)]
    rw [h1] at ha
    rw [call_eq (fn := ir5) rfl, evF_bnd]
    simp (maxSteps := 2000000) (disch := omega) only [go_sem, doCall, doCallQ, doCallP, Nat.reduceAdd, Nat.reduceMul, Nat.reduceSub, Nat.reduceDiv, Nat.reduceMod, Nat.reduceLT, Nat.reduceLeDiff, Nat.reduceEqDiff, Nat.reduceBEq, Nat.reduceBNe, Int.reduceToNat, Int.reduceLT, Int.reduceLE, Int.reduceEq, Int.reduceNe, Int.reduceAdd, Int.reduceSub, Int.reduceMul, Int.reduceNeg, bd5, ha, hw, List.map_nil, List.length_nil, chk_of]
  · have hlz := eq_false (show ¬ ((specL header).length : Int) = 0 by have := List.length_pos_iff.2 h1; omega)
    cases h2 : useE cond tag
    · rw [h2] at hu
      rw [if_pos (.inr rfl)]
      rw [call_eq (fn := ir5) rfl, evF_bnd]
      simp (maxSteps := 2000000) (disch := omega) only [go_sem, doCall, doCallQ, doCallP, Nat.reduceAdd, Nat.reduceMul, Nat.reduceSub, Nat.reduceDiv, Nat.reduceMod, Nat.reduceLT, Nat.reduceLeDiff, Nat.reduceEqDiff, Nat.reduceBEq, Nat.reduceBNe, Int.reduceToNat, Int.reduceLT, Int.reduceLE, Int.reduceEq, Int.reduceNe, Int.reduceAdd, Int.reduceSub, Int.reduceMul, Int.reduceNeg, bd5, ha, hu, hw, hrl, hlz, chk_of, List.map_nil]
    · rw [h2] at hu
      rw [if_neg (by simp [h1])]
      have hr := t_resolve (specL header) (by omega) n
      have hrr := r2_len (resL (specL header) n)
      have htr := take_r2 (resL (specL header) n)
      have hll := resL_len (specL header) n
      by_cases h3 : resL (specL header) n = []
      · rw [if_pos h3]
        rw [h3] at hr
        rw [call_eq (fn := ir5) rfl, evF_bnd]
        simp (maxSteps := 2000000) (disch := omega) only [go_sem, doCall, doCallQ, doCallP, Nat.reduceAdd, Nat.reduceMul, Nat.reduceSub, Nat.reduceDiv, Nat.reduceMod, Nat.reduceLT, Nat.reduceLeDiff, Nat.reduceEqDiff, Nat.reduceBEq, Nat.reduceBNe, Int.reduceToNat, Int.reduceLT, Int.reduceLE, Int.reduceEq, Int.reduceNe, Int.reduceAdd, Int.reduceSub, Int.reduceMul, Int.reduceNeg, bd5, ha, hu, hw, hrl, hlz, hr, List.map_nil, List.length_nil, List.take_nil, Int.natCast_nonneg, Int.toNat_natCast, Option.getD_some, Option.getD_none, List.drop_zero, Nat.sub_zero, Nat.zero_le, true_and, and_true, Nat.le_refl, Nat.zero_add, chk_of]
      · rw [if_neg h3]
        have hlz2 := eq_false (show ¬ ((resL (specL header) n).length : Int) = 0 by have := List.length_pos_iff.2 h3; omega)
        have hcl := t_clash (resL (specL header) n) (by omega)
        cases h4 : clashG [] (resL (specL header) n)
        · rw [h4] at hcl
          rw [if_neg (by simp)]
          rw [call_eq (fn := ir5) rfl, evF_bnd]
          simp (maxSteps := 2000000) (disch := omega) only [go_sem, doCall, doCallQ, doCallP, Nat.reduceAdd, Nat.reduceMul, Nat.reduceSub, Nat.reduceDiv, Nat.reduceMod, Nat.reduceLT, Nat.reduceLeDiff, Nat.reduceEqDiff, Nat.reduceBEq, Nat.reduceBNe, Int.reduceToNat, Int.reduceLT, Int.reduceLE, Int.reduceEq, Int.reduceNe, Int.reduceAdd, Int.reduceSub, Int.reduceMul, Int.reduceNeg, bd5, ha, hu, hw, hrl, hlz, hr, hrr, htr, hlz2, hcl, Int.natCast_nonneg, Int.toNat_natCast, Option.getD_some, Option.getD_none, List.drop_zero, Nat.sub_zero, Nat.zero_le, true_and, and_true, Nat.le_refl, Nat.zero_add, chk_of]
        · rw [h4] at hcl
          rw [if_pos rfl]
          have m4 := t_merge (resL (specL header) n) (by omega) 0
          have e0 : max (0 : Int) 0 = 0 := by omega
          rw [e0] at m4
          generalize hL : mrg 0 (resL (specL header) n) = L at m4
          have hLl := r2_len L
          have hLt := take_r2 L
          rw [call_eq (fn := ir5) rfl, evF_bnd]
          simp (maxSteps := 2000000) (disch := omega) only [go_sem, doCall, doCallQ, doCallP, Nat.reduceAdd, Nat.reduceMul, Nat.reduceSub, Nat.reduceDiv, Nat.reduceMod, Nat.reduceLT, Nat.reduceLeDiff, Nat.reduceEqDiff, Nat.reduceBEq, Nat.reduceBNe, Int.reduceToNat, Int.reduceLT, Int.reduceLE, Int.reduceEq, Int.reduceNe, Int.reduceAdd, Int.reduceSub, Int.reduceMul, Int.reduceNeg, bd5, ha, hu, hw, hrl, hlz, hr, hrr, htr, hlz2, hcl, m4, hLl, hLt, Int.natCast_nonneg, Int.toNat_natCast, Option.getD_some, Option.getD_none, List.drop_zero, Nat.sub_zero, Nat.zero_le, true_and, and_true, Nat.le_refl, Nat.zero_add, chk_of]
theorem meets_iff {a b : Int × Int} (ha : RP a.1 a.2) (hb : RP b.1 b.2) : meets a b ↔ (a.1 < b.2 ∧ b.1 < a.2) := by
  unfold meets RP at *
  omega
theorem anyM_step {a : Int × Int} {l : List (Int × Int)} {i k : Nat} (hi : i ≤ l.length) (hk : k < i) : anyM a ((l.take i).drop k) = (decide (meets a (l[k]'(by omega))) || anyM a ((l.take i).drop (k + 1))) := by
  have hl : k < (l.take i).length := by rw [List.length_take]; omega
  rw [List.drop_eq_getElem_cons hl]
  have e : (l.take i)[k] = l[k]'(by omega) := List.getElem_take
  show (decide (meets a (l.take i)[k]) || _) = _
  rw [e]; rfl
theorem lp_rin (l : List (Int × Int)) (hl : l.length ≤ 900) (hR : ∀ x ∈ l, RP x.1 x.2) (K : Ex → St → Option (AV × Heap)) (i : Nat) (hi : i < l.length) (k : Nat) (hk : k ≤ i) :
    (bnd (evC (call ir) (loop ir) lp6_1 (st6_1 0 (.d (.list 2 (r2 l))) (dI i) (dI k) (dI l.length) (dI i) [])) (lpC (call ir) (loop ir) [12, 13, 14, 36, 37] lp6_1 K)) =
      if anyM l[i] ((l.take i).drop k) then K .ret (clean [8, 9] ⟨0, [.unk, .unk, .unk, .unk, .unk, .unk, .unk, .unk, dI 206, .d (.list 2 (r2 (mrg 0 l))), .unk, .unk, .unk, .unk, .unk, .unk, .unk, .unk, .unk, .unk, .unk, .unk, .unk, .unk, .unk, .unk, .unk, .unk, .unk, .unk, .unk, .unk, .unk, .unk, .unk, .unk, .unk, .unk, .unk, .unk, .unk, .unk, .unk, .unk, .unk, .unk, .unk, .unk, .unk, .unk, .unk, .unk, .unk, .unk, .unk, .unk, .unk, .unk, .unk, .unk, .unk, .unk, .unk, .unk, .unk, .unk, .unk, .unk, .unk, .unk, .unk, .unk, .unk], []⟩)
      else K (.exit 2) (clean [12, 36, 37] (st6_1 0 (.d (.list 2 (r2 l))) .unk .unk (dI l.length) (dI i) [])) := by
  by_cases h : k = i
  · have hx : ¬ (k : Int) < (i : Int) := by omega
    rw [h] at hx
    have e : (l.take i).drop k = [] := List.drop_eq_nil_of_le (by rw [List.length_take]; omega)
    rw [e, h]
    have e2 : anyM l[i] [] = false := rfl
    rw [e2, if_neg (by simp)]
    simp (maxSteps := 2000000) (disch := omega) only [go_sem, doCall, doCallQ, doCallP, Nat.reduceAdd, Nat.reduceMul, Nat.reduceSub, Nat.reduceDiv, Nat.reduceMod, Nat.reduceLT, Nat.reduceLeDiff, Nat.reduceEqDiff, Nat.reduceBEq, Nat.reduceBNe, Int.reduceToNat, Int.reduceLT, Int.reduceLE, Int.reduceEq, Int.reduceNe, Int.reduceAdd, Int.reduceSub, Int.reduceMul, Int.reduceNeg, u6_1, lb6_1, hx]
  · have hlt : (k : Int) < (i : Int) := by omega
    have hk' : k < l.length := by omega
    have hw := wr_succ (i := k) (by omega)
    have hg := get_eP l k hk'
    have hgi := get_eP l i hi
    have hlm := r2_len l
    have ih := lp_rin l hl hR K i hi (k + 1) (by omega)
    have hm := c_rmerge l hl 0
    have e0 : max (0 : Int) 0 = 0 := by omega
    rw [e0] at hm
    have hLt := take_r2 (mrg 0 l)
    have hLl := r2_len (mrg 0 l)
    rw [anyM_step (by omega) (by omega)]
    have hme := meets_iff (hR _ (List.getElem_mem hi)) (hR _ (List.getElem_mem hk'))
    unfold eP at hg hgi
    generalize l[i] = a at hgi ih hme ⊢
    generalize l[k] = b at hg hme ⊢
    by_cases c1 : a.1 < b.2
    · have c1' := eq_true c1
      by_cases c2 : b.1 < a.2
      · have c2' := eq_true c2
        rw [decide_eq_true (hme.2 ⟨c1, c2⟩), Bool.true_or, if_pos rfl]
        simp (maxSteps := 2000000) (disch := omega) only [go_sem, doCall, doCallQ, doCallP, Nat.reduceAdd, Nat.reduceMul, Nat.reduceSub, Nat.reduceDiv, Nat.reduceMod, Nat.reduceLT, Nat.reduceLeDiff, Nat.reduceEqDiff, Nat.reduceBEq, Nat.reduceBNe, Int.reduceToNat, Int.reduceLT, Int.reduceLE, Int.reduceEq, Int.reduceNe, Int.reduceAdd, Int.reduceSub, Int.reduceMul, Int.reduceNeg, u6_1, lb6_1, hlt, hk', hi, hg, hgi, hlm, c1', c2', hm, hLt, hLl, Int.natCast_nonneg, Int.toNat_natCast, Option.getD_some, Option.getD_none, List.drop_zero, Nat.sub_zero, Nat.zero_le, true_and, and_true, Nat.le_refl, Nat.zero_add, chk_of]
      · have c2' := eq_false c2
        rw [decide_eq_false (fun h => c2 (hme.1 h).2), Bool.false_or]
        simp (maxSteps := 2000000) (disch := omega) only [go_sem, doCall, doCallQ, doCallP, Nat.reduceAdd, Nat.reduceMul, Nat.reduceSub, Nat.reduceDiv, Nat.reduceMod, Nat.reduceLT, Nat.reduceLeDiff, Nat.reduceEqDiff, Nat.reduceBEq, Nat.reduceBNe, Int.reduceToNat, Int.reduceLT, Int.reduceLE, Int.reduceEq, Int.reduceNe, Int.reduceAdd, Int.reduceSub, Int.reduceMul, Int.reduceNeg, u6_1, lb6_1, hlt, hk', hi, hg, hgi, hlm, c1', c2', hw, Int.natCast_nonneg, Int.toNat_natCast, Option.getD_some, Option.getD_none, List.drop_zero, Nat.sub_zero, Nat.zero_le, true_and, and_true, Nat.le_refl, chk_of]
        rw [loop_step1]; simp (maxSteps := 2000000) only [go_sem, doCall, doCallQ, doCallP, Nat.reduceAdd, Nat.reduceMul, Nat.reduceSub, Nat.reduceDiv, Nat.reduceMod, Nat.reduceLT, Nat.reduceLeDiff, Nat.reduceEqDiff, Nat.reduceBEq, Nat.reduceBNe, Int.reduceToNat, Int.reduceLT, Int.reduceLE, Int.reduceEq, Int.reduceNe, Int.reduceAdd, Int.reduceSub, Int.reduceMul, Int.reduceNeg]; exact ih
    · have c1' := eq_false c1
      rw [decide_eq_false (fun h => c1 (hme.1 h).1), Bool.false_or]
      simp (maxSteps := 2000000) (disch := omega) only [go_sem, doCall, doCallQ, doCallP, Nat.reduceAdd, Nat.reduceMul, Nat.reduceSub, Nat.reduceDiv, Nat.reduceMod, Nat.reduceLT, Nat.reduceLeDiff, Nat.reduceEqDiff, Nat.reduceBEq, Nat.reduceBNe, Int.reduceToNat, Int.reduceLT, Int.reduceLE, Int.reduceEq, Int.reduceNe, Int.reduceAdd, Int.reduceSub, Int.reduceMul, Int.reduceNeg, u6_1, lb6_1, hlt, hk', hi, hg, hgi, hlm, c1', hw, Int.natCast_nonneg, Int.toNat_natCast, Option.getD_some, Option.getD_none, List.drop_zero, Nat.sub_zero, Nat.zero_le, true_and, and_true, Nat.le_refl, chk_of]
      rw [loop_step1]; simp (maxSteps := 2000000) only [go_sem, doCall, doCallQ, doCallP, Nat.reduceAdd, Nat.reduceMul, Nat.reduceSub, Nat.reduceDiv, Nat.reduceMod, Nat.reduceLT, Nat.reduceLeDiff, Nat.reduceEqDiff, Nat.reduceBEq, Nat.reduceBNe, Int.reduceToNat, Int.reduceLT, Int.reduceLE, Int.reduceEq, Int.reduceNe, Int.reduceAdd, Int.reduceSub, Int.reduceMul, Int.reduceNeg]; exact ih
termination_by i - k
theorem lp_rout (l : List (Int × Int)) (hl : l.length ≤ 900) (hR : ∀ x ∈ l, RP x.1 x.2) (K : Ex → St → Option (AV × Heap)) (i : Nat) (hi : i ≤ l.length) :
    (bnd (evC (call ir) (loop ir) lp6_0 (st6_0 0 (.d (.list 2 (r2 l))) (dI l.length) (dI i) [])) (lpC (call ir) (loop ir) [12, 36, 37] lp6_0 K)) =
      if clashG (l.take i) (l.drop i) then K .ret (clean [8, 9] ⟨0, [.unk, .unk, .unk, .unk, .unk, .unk, .unk, .unk, dI 206, .d (.list 2 (r2 (mrg 0 l))), .unk, .unk, .unk, .unk, .unk, .unk, .unk, .unk, .unk, .unk, .unk, .unk, .unk, .unk, .unk, .unk, .unk, .unk, .unk, .unk, .unk, .unk, .unk, .unk, .unk, .unk, .unk, .unk, .unk, .unk, .unk, .unk, .unk, .unk, .unk, .unk, .unk, .unk, .unk, .unk, .unk, .unk, .unk, .unk, .unk, .unk, .unk, .unk, .unk, .unk, .unk, .unk, .unk, .unk, .unk, .unk, .unk, .unk, .unk, .unk, .unk, .unk, .unk], []⟩)
      else K (.exit 0) (clean [12] (st6_0 0 (.d (.list 2 (r2 l))) .unk .unk [])) := by
  by_cases h : i = l.length
  · have hx : ¬ (i : Int) < l.length := by omega
    rw [h] at hx
    rw [h, List.drop_length]
    have e : clashG (l.take l.length) [] = false := rfl
    rw [e, if_neg (by simp)]
    simp (maxSteps := 2000000) (disch := omega) only [go_sem, doCall, doCallQ, doCallP, Nat.reduceAdd, Nat.reduceMul, Nat.reduceSub, Nat.reduceDiv, Nat.reduceMod, Nat.reduceLT, Nat.reduceLeDiff, Nat.reduceEqDiff, Nat.reduceBEq, Nat.reduceBNe, Int.reduceToNat, Int.reduceLT, Int.reduceLE, Int.reduceEq, Int.reduceNe, Int.reduceAdd, Int.reduceSub, Int.reduceMul, Int.reduceNeg, u6_0, lb6_0, hx]
  · have hlt : (i : Int) < l.length := by omega
    have hi' : i < l.length := by omega
    have hw := wr_succ (i := i) (by omega)
    have ih := lp_rout l hl hR K (i + 1) (by omega)
    rw [clashG_drop hi']
    simp (maxSteps := 2000000) (disch := omega) only [go_sem, doCall, doCallQ, doCallP, Nat.reduceAdd, Nat.reduceMul, Nat.reduceSub, Nat.reduceDiv, Nat.reduceMod, Nat.reduceLT, Nat.reduceLeDiff, Nat.reduceEqDiff, Nat.reduceBEq, Nat.reduceBNe, Int.reduceToNat, Int.reduceLT, Int.reduceLE, Int.reduceEq, Int.reduceNe, Int.reduceAdd, Int.reduceSub, Int.reduceMul, Int.reduceNeg, u6_0, lb6_0, hlt, chk_of]
    rw [loop_step1]; simp (maxSteps := 2000000) only [go_sem, doCall, doCallQ, doCallP, Nat.reduceAdd, Nat.reduceMul, Nat.reduceSub, Nat.reduceDiv, Nat.reduceMod, Nat.reduceLT, Nat.reduceLeDiff, Nat.reduceEqDiff, Nat.reduceBEq, Nat.reduceBNe, Int.reduceToNat, Int.reduceLT, Int.reduceLE, Int.reduceEq, Int.reduceNe, Int.reduceAdd, Int.reduceSub, Int.reduceMul, Int.reduceNeg]
    refine (lp_rin l hl hR _ i hi' 0 (Nat.zero_le _)).trans ?_
    rw [List.drop_zero]
    cases hc : anyM l[i] (l.take i)
    · rw [Bool.false_or, if_neg (by simp)]
      simp (maxSteps := 2000000) (disch := omega) only [go_sem, doCall, doCallQ, doCallP, Nat.reduceAdd, Nat.reduceMul, Nat.reduceSub, Nat.reduceDiv, Nat.reduceMod, Nat.reduceLT, Nat.reduceLeDiff, Nat.reduceEqDiff, Nat.reduceBEq, Nat.reduceBNe, Int.reduceToNat, Int.reduceLT, Int.reduceLE, Int.reduceEq, Int.reduceNe, Int.reduceAdd, Int.reduceSub, Int.reduceMul, Int.reduceNeg, hw, chk_of]
      rw [loop_step1]; simp (maxSteps := 2000000) only [go_sem, doCall, doCallQ, doCallP, Nat.reduceAdd, Nat.reduceMul, Nat.reduceSub, Nat.reduceDiv, Nat.reduceMod, Nat.reduceLT, Nat.reduceLeDiff, Nat.reduceEqDiff, Nat.reduceBEq, Nat.reduceBNe, Int.reduceToNat, Int.reduceLT, Int.reduceLE, Int.reduceEq, Int.reduceNe, Int.reduceAdd, Int.reduceSub, Int.reduceMul, Int.reduceNeg]; exact ih
    · rw [Bool.true_or, if_pos rfl, if_pos rfl]
      simp (maxSteps := 2000000) (disch := omega) only [go_sem, doCall, doCallQ, doCallP, Nat.reduceAdd, Nat.reduceMul, Nat.reduceSub, Nat.reduceDiv, Nat.reduceMod, Nat.reduceLT, Nat.reduceLeDiff, Nat.reduceEqDiff, Nat.reduceBEq, Nat.reduceBNe, Int.reduceToNat, Int.reduceLT, Int.reduceLE, Int.reduceEq, Int.reduceNe, Int.reduceAdd, Int.reduceSub, Int.reduceMul, Int.reduceNeg, chk_of]
termination_by l.length - i
theorem res1_rp {n : Int} {x : Sp3} {s : Int × Int} (h : s ∈ res1 n x) : RP s.1 s.2 := by
  unfold res1 at h
  split at h
  · rename_i hh
    rw [List.mem_singleton] at h
    subst h; exact hh.2
  · simp at h
theorem resL_rp {n : Int} {l : List Sp3} {s : Int × Int} (h : s ∈ resL l n) : RP s.1 s.2 := by
  unfold resL at h
  split at h
  · rw [List.mem_flatMap] at h
    obtain ⟨x, _, hx⟩ := h
    exact res1_rp hx
  · simp at h
theorem t_rchooseX (header cond tag : List UInt8) (hh : header.length ≤ 100000000) (hc : cond.length ≤ 1000000000) (n : Int) :
    call ir 6 [dS header, dS cond, dS tag, dI n] [] = some (.tup [dI (chS header cond tag n).1, .d (.list 2 (r2 (chS header cond tag n).2))], []) := by
  obtain ⟨e, ha⟩ := t_rspecs header hh
  have hu := t_ruse cond tag hc
  have hrl := r3_len (specL header)
  have htl : (r3 (specL header)).take (specL header).length = r3 (specL header) := List.take_of_length_le (by rw [hrl]; exact Nat.le_refl _)
  have hsl := specL_len header
  unfold chS
  rw [call_eq (fn := ir6) rfl, evF_bnd]
  by_cases h1 : specL header = []
  · rw [if_pos (.inl h1)]
    rw [h1] at ha
    simp (maxSteps := 2000000) (disch := omega) only [go_sem, doCall, doCallQ, doCallP, Nat.reduceAdd, Nat.reduceMul, Nat.reduceSub, Nat.reduceDiv, Nat.reduceMod, Nat.reduceLT, Nat.reduceLeDiff, Nat.reduceEqDiff, Nat.reduceBEq, Nat.reduceBNe, Int.reduceToNat, Int.reduceLT, Int.reduceLE, Int.reduceEq, Int.reduceNe, Int.reduceAdd, Int.reduceSub, Int.reduceMul, Int.reduceNeg, bd6, ha, List.map_nil, List.length_nil, List.take_nil, Int.natCast_nonneg, Int.toNat_natCast, Option.getD_some, Option.getD_none, List.drop_zero, Nat.sub_zero, Nat.zero_le, true_and, and_true, Nat.le_refl, Nat.zero_add, chk_of]
  · have hlz := eq_false (show ¬ ((specL header).length : Int) = 0 by have := List.length_pos_iff.2 h1; omega)
    cases h2 : useE cond tag
    · rw [h2] at hu
      rw [if_pos (.inr rfl)]
      simp (maxSteps := 2000000) (disch := omega) only [go_sem, doCall, doCallQ, doCallP, Nat.reduceAdd, Nat.reduceMul, Nat.reduceSub, Nat.reduceDiv, Nat.reduceMod, Nat.reduceLT, Nat.reduceLeDiff, Nat.reduceEqDiff, Nat.reduceBEq, Nat.reduceBNe, Int.reduceToNat, Int.reduceLT, Int.reduceLE, Int.reduceEq, Int.reduceNe, Int.reduceAdd, Int.reduceSub, Int.reduceMul, Int.reduceNeg, bd6, ha, hu, hrl, htl, hlz, Int.natCast_nonneg, Int.toNat_natCast, Option.getD_some, Option.getD_none, List.drop_zero, Nat.sub_zero, Nat.zero_le, true_and, and_true, Nat.le_refl, Nat.zero_add, List.map_nil, chk_of]
    · rw [h2] at hu
      rw [if_neg (by simp [h1])]
      have hr := t_rresolve (specL header) (by omega) n
      have hrr := r2_len (resL (specL header) n)
      have htr := take_r2 (resL (specL header) n)
      have hll := resL_len (specL header) n
      by_cases h3 : resL (specL header) n = []
      · rw [if_pos h3]
        rw [h3] at hr
        simp (maxSteps := 2000000) (disch := omega) only [go_sem, doCall, doCallQ, doCallP, Nat.reduceAdd, Nat.reduceMul, Nat.reduceSub, Nat.reduceDiv, Nat.reduceMod, Nat.reduceLT, Nat.reduceLeDiff, Nat.reduceEqDiff, Nat.reduceBEq, Nat.reduceBNe, Int.reduceToNat, Int.reduceLT, Int.reduceLE, Int.reduceEq, Int.reduceNe, Int.reduceAdd, Int.reduceSub, Int.reduceMul, Int.reduceNeg, bd6, ha, hu, hrl, htl, hlz, hr, List.map_nil, List.length_nil, List.take_nil, Int.natCast_nonneg, Int.toNat_natCast, Option.getD_some, Option.getD_none, List.drop_zero, Nat.sub_zero, Nat.zero_le, true_and, and_true, Nat.le_refl, Nat.zero_add, chk_of]
      · rw [if_neg h3]
        have hlz2 := eq_false (show ¬ ((resL (specL header) n).length : Int) = 0 by have := List.length_pos_iff.2 h3; omega)
        simp (maxSteps := 2000000) (disch := omega) only [go_sem, doCall, doCallQ, doCallP, Nat.reduceAdd, Nat.reduceMul, Nat.reduceSub, Nat.reduceDiv, Nat.reduceMod, Nat.reduceLT, Nat.reduceLeDiff, Nat.reduceEqDiff, Nat.reduceBEq, Nat.reduceBNe, Int.reduceToNat, Int.reduceLT, Int.reduceLE, Int.reduceEq, Int.reduceNe, Int.reduceAdd, Int.reduceSub, Int.reduceMul, Int.reduceNeg, bd6, ha, hu, hrl, htl, hlz, hr, hrr, htr, hlz2, Int.natCast_nonneg, Int.toNat_natCast, Option.getD_some, Option.getD_none, List.drop_zero, Nat.sub_zero, Nat.zero_le, true_and, and_true, Nat.le_refl, Nat.zero_add, chk_of]
        rw [loop_step1]; simp (maxSteps := 2000000) only [go_sem, doCall, doCallQ, doCallP, Nat.reduceAdd, Nat.reduceMul, Nat.reduceSub, Nat.reduceDiv, Nat.reduceMod, Nat.reduceLT, Nat.reduceLeDiff, Nat.reduceEqDiff, Nat.reduceBEq, Nat.reduceBNe, Int.reduceToNat, Int.reduceLT, Int.reduceLE, Int.reduceEq, Int.reduceNe, Int.reduceAdd, Int.reduceSub, Int.reduceMul, Int.reduceNeg]
        refine (lp_rout (resL (specL header) n) (by omega) (fun x hx => resL_rp hx) _ 0 (Nat.zero_le _)).trans ?_
        rw [List.drop_zero, List.take_zero]
        cases h4 : clashG [] (resL (specL header) n)
        · rw [if_neg (by simp), if_neg (by simp)]
          simp (maxSteps := 2000000) (disch := omega) only [go_sem, doCall, doCallQ, doCallP, Nat.reduceAdd, Nat.reduceMul, Nat.reduceSub, Nat.reduceDiv, Nat.reduceMod, Nat.reduceLT, Nat.reduceLeDiff, Nat.reduceEqDiff, Nat.reduceBEq, Nat.reduceBNe, Int.reduceToNat, Int.reduceLT, Int.reduceLE, Int.reduceEq, Int.reduceNe, Int.reduceAdd, Int.reduceSub, Int.reduceMul, Int.reduceNeg, chk_of]
        · rw [if_pos rfl, if_pos rfl]
          simp (maxSteps := 2000000) (disch := omega) only [go_sem, doCall, doCallQ, doCallP, Nat.reduceAdd, Nat.reduceMul, Nat.reduceSub, Nat.reduceDiv, Nat.reduceMod, Nat.reduceLT, Nat.reduceLeDiff, Nat.reduceEqDiff, Nat.reduceBEq, Nat.reduceBNe, Int.reduceToNat, Int.reduceLT, Int.reduceLE, Int.reduceEq, Int.reduceNe, Int.reduceAdd, Int.reduceSub, Int.reduceMul, Int.reduceNeg, chk_of]
end Go.Proofs.YtplnioclkacgkaaGreatDoor
namespace Go.Proofs.YtplnioclkacgkaaGreatDoor
open Go Go.Ev Go.Proofs.YtplnioclkacgkaaGreatDoor.Ir Go.Prs
set_option maxRecDepth 100000
set_option maxHeartbeats 4000000
set_option linter.unusedSimpArgs false
set_option linter.unusedVariables false
abbrev vS (l : List (Int × Int)) : AV := .d (.list 2 (r2 l))
/-- A result that reads as these spans. -/
structure ReadsS (v : AV) (H : Heap) (l : List (Int × Int)) : Prop where
  sc : v.scalar = false
  vw : v.view H = vS l
def wantS (st : Int) (l : List (Int × Int)) (n : Int) : List (Int × Int) := if st = 206 then l else if st = 200 ∧ 0 < n then [(0, n)] else []
theorem wantS_len (st : Int) (l : List (Int × Int)) (n : Int) (h : l.length ≤ 16) : (wantS st l n).length ≤ 16 := by
  unfold wantS; split
  · exact h
  · split <;> simp
theorem t_rwants (st : Int) (l : List (Int × Int)) (n : Int) : ∃ v H, call ir 7 [dI st, vS l, dI n] [] = some (v, H) ∧ ReadsS v H (wantS st l n) := by
  rw [call_eq (fn := ir7) rfl, evF_bnd]
  unfold wantS
  by_cases h1 : st = 206
  · have h1' := eq_true h1
    rw [if_pos h1]
    refine ⟨_, _, by simp (maxSteps := 2000000) (disch := omega) only [go_sem, doCall, doCallQ, doCallP, Nat.reduceAdd, Nat.reduceMul, Nat.reduceSub, Nat.reduceDiv, Nat.reduceMod, Nat.reduceLT, Nat.reduceLeDiff, Nat.reduceEqDiff, Nat.reduceBEq, Nat.reduceBNe, Int.reduceToNat, Int.reduceLT, Int.reduceLE, Int.reduceEq, Int.reduceNe, Int.reduceAdd, Int.reduceSub, Int.reduceMul, Int.reduceNeg, bd7, h1', chk_of]; rfl, ?_⟩
    exact ⟨rfl, rfl⟩
  · have h1' := eq_false h1
    rw [if_neg h1]
    by_cases h2 : st = 200
    · have h2' := eq_true h2
      by_cases h3 : 0 < n
      · have h3' := eq_true h3
        rw [if_pos ⟨h2, h3⟩]
        refine ⟨_, _, by simp (maxSteps := 2000000) (disch := omega) only [go_sem, doCall, doCallQ, doCallP, Nat.reduceAdd, Nat.reduceMul, Nat.reduceSub, Nat.reduceDiv, Nat.reduceMod, Nat.reduceLT, Nat.reduceLeDiff, Nat.reduceEqDiff, Nat.reduceBEq, Nat.reduceBNe, Int.reduceToNat, Int.reduceLT, Int.reduceLE, Int.reduceEq, Int.reduceNe, Int.reduceAdd, Int.reduceSub, Int.reduceMul, Int.reduceNeg, bd7, h1', h2', h3', List.length_cons, List.length_nil, Nat.zero_add, chk_of]; rfl, ?_⟩
        exact ⟨rfl, rfl⟩
      · have h3' := eq_false h3
        rw [if_neg (fun h => h3 h.2)]
        refine ⟨_, _, by simp (maxSteps := 2000000) (disch := omega) only [go_sem, doCall, doCallQ, doCallP, Nat.reduceAdd, Nat.reduceMul, Nat.reduceSub, Nat.reduceDiv, Nat.reduceMod, Nat.reduceLT, Nat.reduceLeDiff, Nat.reduceEqDiff, Nat.reduceBEq, Nat.reduceBNe, Int.reduceToNat, Int.reduceLT, Int.reduceLE, Int.reduceEq, Int.reduceNe, Int.reduceAdd, Int.reduceSub, Int.reduceMul, Int.reduceNeg, bd7, h1', h2', h3', chk_of]; rfl, ?_⟩
        exact ⟨rfl, rfl⟩
    · have h2' := eq_false h2
      rw [if_neg (fun h => h2 h.1)]
      refine ⟨_, _, by simp (maxSteps := 2000000) (disch := omega) only [go_sem, doCall, doCallQ, doCallP, Nat.reduceAdd, Nat.reduceMul, Nat.reduceSub, Nat.reduceDiv, Nat.reduceMod, Nat.reduceLT, Nat.reduceLeDiff, Nat.reduceEqDiff, Nat.reduceBEq, Nat.reduceBNe, Int.reduceToNat, Int.reduceLT, Int.reduceLE, Int.reduceEq, Int.reduceNe, Int.reduceAdd, Int.reduceSub, Int.reduceMul, Int.reduceNeg, bd7, h1', h2', chk_of]; rfl, ?_⟩
      exact ⟨rfl, rfl⟩
theorem t_pwants (st : Int) (l : List (Int × Int)) (n : Int) (hl : l.length ≤ 1000) : ∃ v H, call ir 10 [.agg [dI st, vS l], dI n] [] = some (v, H) ∧ ReadsS v H (wantS st l n) := by
  rw [call_eq (fn := ir10) rfl, evF_bnd]
  have hcl := c_clone l hl
  have hlm := r2_len l
  have htk := take_r2 l
  unfold wantS
  by_cases h1 : st = 206
  · have h1' := eq_true h1
    rw [if_pos h1]
    refine ⟨vS l, [], by simp (maxSteps := 2000000) (disch := omega) only [go_sem, doCall, doCallQ, doCallP, Nat.reduceAdd, Nat.reduceMul, Nat.reduceSub, Nat.reduceDiv, Nat.reduceMod, Nat.reduceLT, Nat.reduceLeDiff, Nat.reduceEqDiff, Nat.reduceBEq, Nat.reduceBNe, Int.reduceToNat, Int.reduceLT, Int.reduceLE, Int.reduceEq, Int.reduceNe, Int.reduceAdd, Int.reduceSub, Int.reduceMul, Int.reduceNeg, bd10, hcl, hlm, htk, h1', Int.natCast_nonneg, Int.toNat_natCast, Option.getD_some, Option.getD_none, List.drop_zero, Nat.sub_zero, Nat.zero_le, true_and, and_true, Nat.le_refl, Nat.zero_add, chk_of], ?_⟩
    exact ⟨rfl, rfl⟩
  · have h1' := eq_false h1
    rw [if_neg h1]
    by_cases h2 : st = 200
    · have h2' := eq_true h2
      by_cases h3 : 0 < n
      · have h3' := eq_true h3
        rw [if_pos ⟨h2, h3⟩]
        refine ⟨_, _, by simp (maxSteps := 2000000) (disch := omega) only [go_sem, doCall, doCallQ, doCallP, Nat.reduceAdd, Nat.reduceMul, Nat.reduceSub, Nat.reduceDiv, Nat.reduceMod, Nat.reduceLT, Nat.reduceLeDiff, Nat.reduceEqDiff, Nat.reduceBEq, Nat.reduceBNe, Int.reduceToNat, Int.reduceLT, Int.reduceLE, Int.reduceEq, Int.reduceNe, Int.reduceAdd, Int.reduceSub, Int.reduceMul, Int.reduceNeg, bd10, h1', h2', h3', List.length_cons, List.length_nil, Nat.zero_add, chk_of]; rfl, ?_⟩
        exact ⟨rfl, rfl⟩
      · have h3' := eq_false h3
        rw [if_neg (fun h => h3 h.2)]
        refine ⟨_, _, by simp (maxSteps := 2000000) (disch := omega) only [go_sem, doCall, doCallQ, doCallP, Nat.reduceAdd, Nat.reduceMul, Nat.reduceSub, Nat.reduceDiv, Nat.reduceMod, Nat.reduceLT, Nat.reduceLeDiff, Nat.reduceEqDiff, Nat.reduceBEq, Nat.reduceBNe, Int.reduceToNat, Int.reduceLT, Int.reduceLE, Int.reduceEq, Int.reduceNe, Int.reduceAdd, Int.reduceSub, Int.reduceMul, Int.reduceNeg, bd10, h1', h2', h3', chk_of]; rfl, ?_⟩
        exact ⟨rfl, rfl⟩
    · have h2' := eq_false h2
      rw [if_neg (fun h => h2 h.1)]
      refine ⟨_, _, by simp (maxSteps := 2000000) (disch := omega) only [go_sem, doCall, doCallQ, doCallP, Nat.reduceAdd, Nat.reduceMul, Nat.reduceSub, Nat.reduceDiv, Nat.reduceMod, Nat.reduceLT, Nat.reduceLeDiff, Nat.reduceEqDiff, Nat.reduceBEq, Nat.reduceBNe, Int.reduceToNat, Int.reduceLT, Int.reduceLE, Int.reduceEq, Int.reduceNe, Int.reduceAdd, Int.reduceSub, Int.reduceMul, Int.reduceNeg, bd10, h1', h2', chk_of]; rfl, ?_⟩
      exact ⟨rfl, rfl⟩
theorem lp_spans (l : List (Int × Int)) (hl : l.length ≤ 1000) (K : Ex → St → Option (AV × Heap)) (i : Nat) (hi : i ≤ l.length) :
    (bnd (evC (call ir) (loop ir) lp9_0 (st9_0 0 (vS l) (vS l) (dI l.length) (dI i) [])) (lpC (call ir) (loop ir) [0, 1, 12, 13] lp9_0 K)) = K (.exit 0) (clean [] (st9_0 0 .unk .unk .unk .unk [])) := by
  by_cases h : i = l.length
  · have hx : ¬ (i : Int) < l.length := by omega
    rw [h] at hx
    rw [h]
    simp (maxSteps := 2000000) (disch := omega) only [go_sem, doCall, doCallQ, doCallP, Nat.reduceAdd, Nat.reduceMul, Nat.reduceSub, Nat.reduceDiv, Nat.reduceMod, Nat.reduceLT, Nat.reduceLeDiff, Nat.reduceEqDiff, Nat.reduceBEq, Nat.reduceBNe, Int.reduceToNat, Int.reduceLT, Int.reduceLE, Int.reduceEq, Int.reduceNe, Int.reduceAdd, Int.reduceSub, Int.reduceMul, Int.reduceNeg, u9_0, lb9_0, hx]
  · have hlt : (i : Int) < l.length := by omega
    have hi' : i < l.length := by omega
    have hw := wr_succ (i := i) (by omega)
    have hg := get_eP l i hi'
    unfold eP at hg
    have hlm := r2_len l
    have ih := lp_spans l hl K (i + 1) (by omega)
    simp (maxSteps := 2000000) (disch := omega) only [go_sem, doCall, doCallQ, doCallP, Nat.reduceAdd, Nat.reduceMul, Nat.reduceSub, Nat.reduceDiv, Nat.reduceMod, Nat.reduceLT, Nat.reduceLeDiff, Nat.reduceEqDiff, Nat.reduceBEq, Nat.reduceBNe, Int.reduceToNat, Int.reduceLT, Int.reduceLE, Int.reduceEq, Int.reduceNe, Int.reduceAdd, Int.reduceSub, Int.reduceMul, Int.reduceNeg, u9_0, lb9_0, hlt, hi', hw, hg, hlm, beq_self_eq_true, bne_self_eq_false, Int.natCast_nonneg, Int.toNat_natCast, Option.getD_some, Option.getD_none, List.drop_zero, Nat.sub_zero, Nat.zero_le, true_and, and_true, Nat.le_refl, chk_of]
    rw [loop_step1]; simp (maxSteps := 2000000) only [go_sem, doCall, doCallQ, doCallP, Nat.reduceAdd, Nat.reduceMul, Nat.reduceSub, Nat.reduceDiv, Nat.reduceMod, Nat.reduceLT, Nat.reduceLeDiff, Nat.reduceEqDiff, Nat.reduceBEq, Nat.reduceBNe, Int.reduceToNat, Int.reduceLT, Int.reduceLE, Int.reduceEq, Int.reduceNe, Int.reduceAdd, Int.reduceSub, Int.reduceMul, Int.reduceNeg]; exact ih
termination_by l.length - i
theorem t_spans (l : List (Int × Int)) (hl : l.length ≤ 1000) : call ir 9 [vS l, vS l] [] = some (dT true, []) := by
  rw [call_eq (fn := ir9) rfl, evF_bnd]
  have hlm := r2_len l
  simp (maxSteps := 2000000) (disch := omega) only [go_sem, doCall, doCallQ, doCallP, Nat.reduceAdd, Nat.reduceMul, Nat.reduceSub, Nat.reduceDiv, Nat.reduceMod, Nat.reduceLT, Nat.reduceLeDiff, Nat.reduceEqDiff, Nat.reduceBEq, Nat.reduceBNe, Int.reduceToNat, Int.reduceLT, Int.reduceLE, Int.reduceEq, Int.reduceNe, Int.reduceAdd, Int.reduceSub, Int.reduceMul, Int.reduceNeg, bd9, hlm, bne_self_eq_false, chk_of]
  rw [loop_step1]; simp (maxSteps := 2000000) only [go_sem, doCall, doCallQ, doCallP, Nat.reduceAdd, Nat.reduceMul, Nat.reduceSub, Nat.reduceDiv, Nat.reduceMod, Nat.reduceLT, Nat.reduceLeDiff, Nat.reduceEqDiff, Nat.reduceBEq, Nat.reduceBNe, Int.reduceToNat, Int.reduceLT, Int.reduceLE, Int.reduceEq, Int.reduceNe, Int.reduceAdd, Int.reduceSub, Int.reduceMul, Int.reduceNeg]
  refine (lp_spans l hl _ 0 (Nat.zero_le _)).trans ?_
  simp (maxSteps := 2000000) (disch := omega) only [go_sem, doCall, doCallQ, doCallP, Nat.reduceAdd, Nat.reduceMul, Nat.reduceSub, Nat.reduceDiv, Nat.reduceMod, Nat.reduceLT, Nat.reduceLeDiff, Nat.reduceEqDiff, Nat.reduceBEq, Nat.reduceBNe, Int.reduceToNat, Int.reduceLT, Int.reduceLE, Int.reduceEq, Int.reduceNe, Int.reduceAdd, Int.reduceSub, Int.reduceMul, Int.reduceNeg]
/-! ### how many bytes -/
def slen (a b : Int) : Int := if RP a b then b - a else 0
theorem t_len (a b : Int) : call ir 49 [.agg [.d (.int .i64 a), .d (.int .i64 b)]] [] = some (.d (.int .i64 (slen a b)), []) := by
  rw [call_eq (fn := ir49) rfl, evF_bnd]
  have h1 := t_right a b
  unfold slen
  by_cases h : RP a b
  · rw [decide_eq_true h] at h1
    rw [if_pos h]
    unfold RP at h
    have hw : wr .i64 (b - a) = b - a := wr_id (by omega)
    simp (maxSteps := 2000000) (disch := omega) only [go_sem, doCall, doCallQ, doCallP, Nat.reduceAdd, Nat.reduceMul, Nat.reduceSub, Nat.reduceDiv, Nat.reduceMod, Nat.reduceLT, Nat.reduceLeDiff, Nat.reduceEqDiff, Nat.reduceBEq, Nat.reduceBNe, Int.reduceToNat, Int.reduceLT, Int.reduceLE, Int.reduceEq, Int.reduceNe, Int.reduceAdd, Int.reduceSub, Int.reduceMul, Int.reduceNeg, bd49, h1, hw, chk_of]
  · rw [decide_eq_false h] at h1
    rw [if_neg h]
    simp (maxSteps := 2000000) (disch := omega) only [go_sem, doCall, doCallQ, doCallP, Nat.reduceAdd, Nat.reduceMul, Nat.reduceSub, Nat.reduceDiv, Nat.reduceMod, Nat.reduceLT, Nat.reduceLeDiff, Nat.reduceEqDiff, Nat.reduceBEq, Nat.reduceBNe, Int.reduceToNat, Int.reduceLT, Int.reduceLE, Int.reduceEq, Int.reduceNe, Int.reduceAdd, Int.reduceSub, Int.reduceMul, Int.reduceNeg, bd49, h1, chk_of]
def nadd (a b : Int) : Int × Int := if (0 ≤ a ∧ a ≤ 4611686018427387903) ∧ (0 ≤ b ∧ b ≤ 4611686018427387903) then (if a + b ≤ 4611686018427387903 then (a + b, 0) else (0, 9)) else (0, 1)
theorem t_nadd {a b : Int} (ha : 0 ≤ a ∧ a ≤ 4611686018427387903) (hb : 0 ≤ b ∧ b ≤ 4611686018427387903) : call ir 48 [dI a, dI b] [] = some (.tup [dI (nadd a b).1, dI (nadd a b).2], []) := by
  rw [call_eq (fn := ir48) rfl, evF_bnd]
  have f1 := t_fits a 0 4611686018427387903
  have f2 := t_fits b 0 4611686018427387903
  rw [decide_eq_true ha] at f1
  rw [decide_eq_true hb] at f2
  have w1 : wr .i64 (4611686018427387903 - b) = 4611686018427387903 - b := wr_id (by omega)
  have w2 : a + b ≤ 4611686018427387903 → wr .i64 (a + b) = a + b := fun h => wr_id (by omega)
  unfold nadd
  rw [if_pos ⟨ha, hb⟩]
  by_cases h : a + b ≤ 4611686018427387903
  · have h' := eq_false (show ¬ 4611686018427387903 - b < a by omega)
    have w2 := w2 h
    rw [if_pos h]
    simp (maxSteps := 2000000) (disch := omega) only [go_sem, doCall, doCallQ, doCallP, Nat.reduceAdd, Nat.reduceMul, Nat.reduceSub, Nat.reduceDiv, Nat.reduceMod, Nat.reduceLT, Nat.reduceLeDiff, Nat.reduceEqDiff, Nat.reduceBEq, Nat.reduceBNe, Int.reduceToNat, Int.reduceLT, Int.reduceLE, Int.reduceEq, Int.reduceNe, Int.reduceAdd, Int.reduceSub, Int.reduceMul, Int.reduceNeg, bd48, f1, f2, w1, w2, h', chk_of]
  · have h' := eq_true (show 4611686018427387903 - b < a by omega)
    rw [if_neg h]
    simp (maxSteps := 2000000) (disch := omega) only [go_sem, doCall, doCallQ, doCallP, Nat.reduceAdd, Nat.reduceMul, Nat.reduceSub, Nat.reduceDiv, Nat.reduceMod, Nat.reduceLT, Nat.reduceLeDiff, Nat.reduceEqDiff, Nat.reduceBEq, Nat.reduceBNe, Int.reduceToNat, Int.reduceLT, Int.reduceLE, Int.reduceEq, Int.reduceNe, Int.reduceAdd, Int.reduceSub, Int.reduceMul, Int.reduceNeg, bd48, f1, f2, w1, h', chk_of]
/-- All together, at most 4611686018427387903. -/
def tot (l : List (Int × Int)) : Int := (l.map fun x => slen x.1 x.2).sum
theorem slen_nn (a b : Int) : 0 ≤ slen a b ∧ slen a b ≤ 4611686018427387903 := by
  unfold slen; split
  · rename_i h; unfold RP at h; omega
  · omega
theorem tot_nn : ∀ l, 0 ≤ tot l
  | [] => by simp [tot]
  | x :: l => by have := tot_nn l; have := slen_nn x.1 x.2; simp only [tot, List.map_cons, List.sum_cons] at *; omega
theorem tot_drop (l : List (Int × Int)) (i : Nat) (h : i < l.length) : tot (l.drop i) = slen l[i].1 l[i].2 + tot (l.drop (i + 1)) := by
  rw [List.drop_eq_getElem_cons h]; simp only [tot, List.map_cons, List.sum_cons]
theorem lp_total (l : List (Int × Int)) (hl : l.length ≤ 1000) (K : Ex → St → Option (AV × Heap)) (c : Int) (hc : 0 ≤ c ∧ c ≤ 4611686018427387903) (i : Nat) (hi : i ≤ l.length) :
    (bnd (evC (call ir) (loop ir) lp24_0 (st24_0 0 (dI c) (vS l) (dI l.length) (dI i) [])) (lpC (call ir) (loop ir) [3, 8, 9, 10] lp24_0 K)) =
      if c + tot (l.drop i) ≤ 4611686018427387903 then K (.exit 0) (clean [3] (st24_0 0 (dI (c + tot (l.drop i))) .unk .unk .unk [])) else K .ret (clean [2] ⟨0, [.unk, .unk, dI 4611686018427387903, .unk, .unk, .unk, .unk, .unk, .unk, .unk, .unk, .unk, .unk, .unk, .unk, .unk, .unk, .unk, .unk, .unk, .unk, .unk, .unk, .unk, .unk, .unk], []⟩) := by
  by_cases h : i = l.length
  · have hx : ¬ (i : Int) < l.length := by omega
    rw [h] at hx
    rw [h, List.drop_length]
    have e : tot [] = 0 := rfl
    rw [e, Int.add_zero, if_pos hc.2]
    simp (maxSteps := 2000000) (disch := omega) only [go_sem, doCall, doCallQ, doCallP, Nat.reduceAdd, Nat.reduceMul, Nat.reduceSub, Nat.reduceDiv, Nat.reduceMod, Nat.reduceLT, Nat.reduceLeDiff, Nat.reduceEqDiff, Nat.reduceBEq, Nat.reduceBNe, Int.reduceToNat, Int.reduceLT, Int.reduceLE, Int.reduceEq, Int.reduceNe, Int.reduceAdd, Int.reduceSub, Int.reduceMul, Int.reduceNeg, u24_0, lb24_0, hx]
  · have hlt : (i : Int) < l.length := by omega
    have hi' : i < l.length := by omega
    have hw := wr_succ (i := i) (by omega)
    have hg := get_eP l i hi'
    have hlm := r2_len l
    unfold eP at hg
    have hs := slen_nn l[i].1 l[i].2
    have ht := tot_nn (l.drop (i + 1))
    have h1 := t_len l[i].1 l[i].2
    have h2 := t_nadd hc hs
    have ih := fun (h3 : c + slen l[i].1 l[i].2 ≤ 4611686018427387903) => lp_total l hl K (c + slen l[i].1 l[i].2) ⟨by omega, h3⟩ (i + 1) (by omega)
    rw [tot_drop l i hi', ← Int.add_assoc]
    generalize l[i] = a at hg hs h1 h2 ih ⊢
    by_cases h3 : c + slen a.1 a.2 ≤ 4611686018427387903
    · have ih := ih h3
      have e : nadd c (slen a.1 a.2) = (c + slen a.1 a.2, 0) := by unfold nadd; rw [if_pos ⟨hc, hs⟩, if_pos h3]
      rw [e] at h2
      simp (maxSteps := 2000000) (disch := omega) only [go_sem, doCall, doCallQ, doCallP, Nat.reduceAdd, Nat.reduceMul, Nat.reduceSub, Nat.reduceDiv, Nat.reduceMod, Nat.reduceLT, Nat.reduceLeDiff, Nat.reduceEqDiff, Nat.reduceBEq, Nat.reduceBNe, Int.reduceToNat, Int.reduceLT, Int.reduceLE, Int.reduceEq, Int.reduceNe, Int.reduceAdd, Int.reduceSub, Int.reduceMul, Int.reduceNeg, u24_0, lb24_0, hlt, hi', hw, hg, hlm, h1, h2, bne_self_eq_false, Int.natCast_nonneg, Int.toNat_natCast, Option.getD_some, Option.getD_none, List.drop_zero, Nat.sub_zero, Nat.zero_le, true_and, and_true, Nat.le_refl, chk_of]
      rw [loop_step1]; simp (maxSteps := 2000000) only [go_sem, doCall, doCallQ, doCallP, Nat.reduceAdd, Nat.reduceMul, Nat.reduceSub, Nat.reduceDiv, Nat.reduceMod, Nat.reduceLT, Nat.reduceLeDiff, Nat.reduceEqDiff, Nat.reduceBEq, Nat.reduceBNe, Int.reduceToNat, Int.reduceLT, Int.reduceLE, Int.reduceEq, Int.reduceNe, Int.reduceAdd, Int.reduceSub, Int.reduceMul, Int.reduceNeg]; exact ih
    · have e : nadd c (slen a.1 a.2) = (0, 9) := by unfold nadd; rw [if_pos ⟨hc, hs⟩, if_neg h3]
      rw [e] at h2
      rw [if_neg (by omega)]
      simp (maxSteps := 2000000) (disch := omega) only [go_sem, doCall, doCallQ, doCallP, Nat.reduceAdd, Nat.reduceMul, Nat.reduceSub, Nat.reduceDiv, Nat.reduceMod, Nat.reduceLT, Nat.reduceLeDiff, Nat.reduceEqDiff, Nat.reduceBEq, Nat.reduceBNe, Int.reduceToNat, Int.reduceLT, Int.reduceLE, Int.reduceEq, Int.reduceNe, Int.reduceAdd, Int.reduceSub, Int.reduceMul, Int.reduceNeg, u24_0, lb24_0, hlt, hi', hw, hg, hlm, h1, h2, Int.natCast_nonneg, Int.toNat_natCast, Option.getD_some, Option.getD_none, List.drop_zero, Nat.sub_zero, Nat.zero_le, true_and, and_true, Nat.le_refl, chk_of]
termination_by l.length - i
theorem t_total (l : List (Int × Int)) (hl : l.length ≤ 1000) : call ir 24 [vS l] [] = some (dI (min 4611686018427387903 (tot l)), []) := by
  rw [call_eq (fn := ir24) rfl, evF_bnd]
  have hlm := r2_len l
  simp (maxSteps := 2000000) (disch := omega) only [go_sem, doCall, doCallQ, doCallP, Nat.reduceAdd, Nat.reduceMul, Nat.reduceSub, Nat.reduceDiv, Nat.reduceMod, Nat.reduceLT, Nat.reduceLeDiff, Nat.reduceEqDiff, Nat.reduceBEq, Nat.reduceBNe, Int.reduceToNat, Int.reduceLT, Int.reduceLE, Int.reduceEq, Int.reduceNe, Int.reduceAdd, Int.reduceSub, Int.reduceMul, Int.reduceNeg, bd24, hlm, chk_of]
  rw [loop_step1]; simp (maxSteps := 2000000) only [go_sem, doCall, doCallQ, doCallP, Nat.reduceAdd, Nat.reduceMul, Nat.reduceSub, Nat.reduceDiv, Nat.reduceMod, Nat.reduceLT, Nat.reduceLeDiff, Nat.reduceEqDiff, Nat.reduceBEq, Nat.reduceBNe, Int.reduceToNat, Int.reduceLT, Int.reduceLE, Int.reduceEq, Int.reduceNe, Int.reduceAdd, Int.reduceSub, Int.reduceMul, Int.reduceNeg]
  refine (lp_total l hl _ 0 (by omega) 0 (Nat.zero_le _)).trans ?_
  rw [List.drop_zero, Int.zero_add]
  by_cases h : tot l ≤ 4611686018427387903
  · rw [if_pos h, Int.min_eq_right h]
    simp (maxSteps := 2000000) (disch := omega) only [go_sem, doCall, doCallQ, doCallP, Nat.reduceAdd, Nat.reduceMul, Nat.reduceSub, Nat.reduceDiv, Nat.reduceMod, Nat.reduceLT, Nat.reduceLeDiff, Nat.reduceEqDiff, Nat.reduceBEq, Nat.reduceBNe, Int.reduceToNat, Int.reduceLT, Int.reduceLE, Int.reduceEq, Int.reduceNe, Int.reduceAdd, Int.reduceSub, Int.reduceMul, Int.reduceNeg, chk_of]
  · rw [if_neg h, Int.min_eq_left (by omega)]
    simp (maxSteps := 2000000) (disch := omega) only [go_sem, doCall, doCallQ, doCallP, Nat.reduceAdd, Nat.reduceMul, Nat.reduceSub, Nat.reduceDiv, Nat.reduceMod, Nat.reduceLT, Nat.reduceLeDiff, Nat.reduceEqDiff, Nat.reduceBEq, Nat.reduceBNe, Int.reduceToNat, Int.reduceLT, Int.reduceLE, Int.reduceEq, Int.reduceNe, Int.reduceAdd, Int.reduceSub, Int.reduceMul, Int.reduceNeg, chk_of]
theorem t_bytes (st : Int) (l : List (Int × Int)) (n : Int) (hl : l.length ≤ 16) : call ir 12 [.agg [dI st, vS l], dI n] [] = some (dI (min 4611686018427387903 (tot (wantS st l n))), []) := by
  rw [call_eq (fn := ir12) rfl, evF_bnd]
  obtain ⟨v, H, hc, hr⟩ := t_pwants st l n (by omega)
  have hsc := hr.sc
  have hvw := hr.vw
  have ht := t_total (wantS st l n) (by have := wantS_len st l n hl; omega)
  simp (maxSteps := 2000000) (disch := omega) only [go_sem, doCall, doCallQ, doCallP, Nat.reduceAdd, Nat.reduceMul, Nat.reduceSub, Nat.reduceDiv, Nat.reduceMod, Nat.reduceLT, Nat.reduceLeDiff, Nat.reduceEqDiff, Nat.reduceBEq, Nat.reduceBNe, Int.reduceToNat, Int.reduceLT, Int.reduceLE, Int.reduceEq, Int.reduceNe, Int.reduceAdd, Int.reduceSub, Int.reduceMul, Int.reduceNeg, bd12, hc, hsc, hvw, ht, chk_of]
theorem t_many (st : Int) (l : List (Int × Int)) : call ir 11 [.agg [dI st, vS l]] [] = some (dT (decide (st = 206 ∧ 1 < l.length)), []) := by
  rw [call_eq (fn := ir11) rfl, evF_bnd]
  have hlm := r2_len l
  by_cases h1 : st = 206
  · have h1' := eq_true h1
    by_cases h2 : 1 < l.length
    · have h2' := eq_true (show (1 : Int) < l.length by omega)
      rw [decide_eq_true (show st = 206 ∧ 1 < l.length from ⟨h1, h2⟩)]
      simp (maxSteps := 2000000) (disch := omega) only [go_sem, doCall, doCallQ, doCallP, Nat.reduceAdd, Nat.reduceMul, Nat.reduceSub, Nat.reduceDiv, Nat.reduceMod, Nat.reduceLT, Nat.reduceLeDiff, Nat.reduceEqDiff, Nat.reduceBEq, Nat.reduceBNe, Int.reduceToNat, Int.reduceLT, Int.reduceLE, Int.reduceEq, Int.reduceNe, Int.reduceAdd, Int.reduceSub, Int.reduceMul, Int.reduceNeg, bd11, h1', h2', hlm, chk_of]
    · have h2' := eq_false (show ¬ (1 : Int) < l.length by omega)
      rw [decide_eq_false (fun h : st = 206 ∧ 1 < l.length => h2 h.2)]
      simp (maxSteps := 2000000) (disch := omega) only [go_sem, doCall, doCallQ, doCallP, Nat.reduceAdd, Nat.reduceMul, Nat.reduceSub, Nat.reduceDiv, Nat.reduceMod, Nat.reduceLT, Nat.reduceLeDiff, Nat.reduceEqDiff, Nat.reduceBEq, Nat.reduceBNe, Int.reduceToNat, Int.reduceLT, Int.reduceLE, Int.reduceEq, Int.reduceNe, Int.reduceAdd, Int.reduceSub, Int.reduceMul, Int.reduceNeg, bd11, h1', h2', hlm, chk_of]
  · have h1' := eq_false h1
    rw [decide_eq_false (fun h : st = 206 ∧ 1 < l.length => h1 h.1)]
    simp (maxSteps := 2000000) (disch := omega) only [go_sem, doCall, doCallQ, doCallP, Nat.reduceAdd, Nat.reduceMul, Nat.reduceSub, Nat.reduceDiv, Nat.reduceMod, Nat.reduceLT, Nat.reduceLeDiff, Nat.reduceEqDiff, Nat.reduceBEq, Nat.reduceBNe, Int.reduceToNat, Int.reduceLT, Int.reduceLE, Int.reduceEq, Int.reduceNe, Int.reduceAdd, Int.reduceSub, Int.reduceMul, Int.reduceNeg, bd11, h1', hlm, chk_of]
abbrev dU (n : Int) : AV := .d (.int .u64 n)
theorem lp_sum (n st st' : Int) (l L w : List (Int × Int)) (hl : w.length ≤ 1000) (K : Ex → St → Option (AV × Heap)) (c : Int) (hc : 0 ≤ c ∧ c ≤ 4611686018427387903) (i : Nat) (hi : i ≤ w.length) :
    (bnd (evC (call ir) (loop ir) lp3_0 (st3_0 0 (dI n) (.ptr 0 0) (dI st) (vS l) (vS w) (dU c) (vS w) (dI w.length) (dI i) [.dbox [.int .i64 st', .list 2 (r2 L)]])) (lpC (call ir) (loop ir) [3, 9, 10, 11, 12, 13, 48, 49, 50] lp3_0 K)) =
      K (.exit 0) (clean [3, 9, 10, 11, 12, 13] (st3_0 0 (dI n) (.ptr 0 0) (dI st) (vS l) (vS w) (dU (min 4611686018427387903 (c + tot (w.drop i)))) .unk .unk .unk [.dbox [.int .i64 st', .list 2 (r2 L)]])) := by
  by_cases h : i = w.length
  · have hx : ¬ (i : Int) < w.length := by omega
    rw [h] at hx
    rw [h, List.drop_length]
    have e : tot [] = 0 := rfl
    rw [e, Int.add_zero, Int.min_eq_right hc.2]
    simp (maxSteps := 2000000) (disch := omega) only [go_sem, doCall, doCallQ, doCallP, Nat.reduceAdd, Nat.reduceMul, Nat.reduceSub, Nat.reduceDiv, Nat.reduceMod, Nat.reduceLT, Nat.reduceLeDiff, Nat.reduceEqDiff, Nat.reduceBEq, Nat.reduceBNe, Int.reduceToNat, Int.reduceLT, Int.reduceLE, Int.reduceEq, Int.reduceNe, Int.reduceAdd, Int.reduceSub, Int.reduceMul, Int.reduceNeg, u3_0, lb3_0, hx]
  · have hlt : (i : Int) < w.length := by omega
    have hi' : i < w.length := by omega
    have hw := wr_succ (i := i) (by omega)
    have hg := get_eP w i hi'
    have hlm := r2_len w
    unfold eP at hg
    have hs := slen_nn w[i].1 w[i].2
    have ht := tot_nn (w.drop (i + 1))
    have h1 := t_rright w[i].1 w[i].2
    rw [tot_drop w i hi', ← Int.add_assoc]
    generalize w[i] = a at hg hs h1 ⊢
    unfold slen at hs ⊢
    by_cases hr : RP a.1 a.2
    · rw [decide_eq_true hr] at h1
      rw [if_pos hr] at hs ⊢
      have w1 : wr .i64 (a.2 - a.1) = a.2 - a.1 := wr_id (by unfold RP at hr; omega)
      have w2 : wr .u64 (a.2 - a.1) = a.2 - a.1 := wr_u64 (by omega)
      have w3 : wr .u64 (c + (a.2 - a.1)) = c + (a.2 - a.1) := wr_u64 (by omega)
      by_cases h3 : c + (a.2 - a.1) ≤ 4611686018427387903
      · have h3' := eq_false (show ¬ 4611686018427387903 < c + (a.2 - a.1) by omega)
        have ih := lp_sum n st st' l L w hl K (c + (a.2 - a.1)) ⟨by omega, h3⟩ (i + 1) (by omega)
        simp (maxSteps := 2000000) (disch := omega) only [go_sem, doCall, doCallQ, doCallP, Nat.reduceAdd, Nat.reduceMul, Nat.reduceSub, Nat.reduceDiv, Nat.reduceMod, Nat.reduceLT, Nat.reduceLeDiff, Nat.reduceEqDiff, Nat.reduceBEq, Nat.reduceBNe, Int.reduceToNat, Int.reduceLT, Int.reduceLE, Int.reduceEq, Int.reduceNe, Int.reduceAdd, Int.reduceSub, Int.reduceMul, Int.reduceNeg, u3_0, lb3_0, hlt, hi', hw, hg, hlm, h1, w1, w2, w3, h3', Int.natCast_nonneg, Int.toNat_natCast, Option.getD_some, Option.getD_none, List.drop_zero, Nat.sub_zero, Nat.zero_le, true_and, and_true, Nat.le_refl, chk_of]
        rw [loop_step1]; simp (maxSteps := 2000000) only [go_sem, doCall, doCallQ, doCallP, Nat.reduceAdd, Nat.reduceMul, Nat.reduceSub, Nat.reduceDiv, Nat.reduceMod, Nat.reduceLT, Nat.reduceLeDiff, Nat.reduceEqDiff, Nat.reduceBEq, Nat.reduceBNe, Int.reduceToNat, Int.reduceLT, Int.reduceLE, Int.reduceEq, Int.reduceNe, Int.reduceAdd, Int.reduceSub, Int.reduceMul, Int.reduceNeg]; exact ih
      · have h3' := eq_true (show 4611686018427387903 < c + (a.2 - a.1) by omega)
        have ih := lp_sum n st st' l L w hl K 4611686018427387903 ⟨by omega, by omega⟩ (i + 1) (by omega)
        rw [Int.min_eq_left (by omega)] at ih ⊢
        simp (maxSteps := 2000000) (disch := omega) only [go_sem, doCall, doCallQ, doCallP, Nat.reduceAdd, Nat.reduceMul, Nat.reduceSub, Nat.reduceDiv, Nat.reduceMod, Nat.reduceLT, Nat.reduceLeDiff, Nat.reduceEqDiff, Nat.reduceBEq, Nat.reduceBNe, Int.reduceToNat, Int.reduceLT, Int.reduceLE, Int.reduceEq, Int.reduceNe, Int.reduceAdd, Int.reduceSub, Int.reduceMul, Int.reduceNeg, u3_0, lb3_0, hlt, hi', hw, hg, hlm, h1, w1, w2, w3, h3', Int.natCast_nonneg, Int.toNat_natCast, Option.getD_some, Option.getD_none, List.drop_zero, Nat.sub_zero, Nat.zero_le, true_and, and_true, Nat.le_refl, chk_of]
        rw [loop_step1]; simp (maxSteps := 2000000) only [go_sem, doCall, doCallQ, doCallP, Nat.reduceAdd, Nat.reduceMul, Nat.reduceSub, Nat.reduceDiv, Nat.reduceMod, Nat.reduceLT, Nat.reduceLeDiff, Nat.reduceEqDiff, Nat.reduceBEq, Nat.reduceBNe, Int.reduceToNat, Int.reduceLT, Int.reduceLE, Int.reduceEq, Int.reduceNe, Int.reduceAdd, Int.reduceSub, Int.reduceMul, Int.reduceNeg]; exact ih
    · rw [decide_eq_false hr] at h1
      rw [if_neg hr] at hs ⊢
      rw [Int.add_zero]
      have h3' := eq_false (show ¬ 4611686018427387903 < c by omega)
      have ih := lp_sum n st st' l L w hl K c hc (i + 1) (by omega)
      simp (maxSteps := 2000000) (disch := omega) only [go_sem, doCall, doCallQ, doCallP, Nat.reduceAdd, Nat.reduceMul, Nat.reduceSub, Nat.reduceDiv, Nat.reduceMod, Nat.reduceLT, Nat.reduceLeDiff, Nat.reduceEqDiff, Nat.reduceBEq, Nat.reduceBNe, Int.reduceToNat, Int.reduceLT, Int.reduceLE, Int.reduceEq, Int.reduceNe, Int.reduceAdd, Int.reduceSub, Int.reduceMul, Int.reduceNeg, u3_0, lb3_0, hlt, hi', hw, hg, hlm, h1, h3', Int.natCast_nonneg, Int.toNat_natCast, Option.getD_some, Option.getD_none, List.drop_zero, Nat.sub_zero, Nat.zero_le, true_and, and_true, Nat.le_refl, chk_of]
      rw [loop_step1]; simp (maxSteps := 2000000) only [go_sem, doCall, doCallQ, doCallP, Nat.reduceAdd, Nat.reduceMul, Nat.reduceSub, Nat.reduceDiv, Nat.reduceMod, Nat.reduceLT, Nat.reduceLeDiff, Nat.reduceEqDiff, Nat.reduceBEq, Nat.reduceBNe, Int.reduceToNat, Int.reduceLT, Int.reduceLE, Int.reduceEq, Int.reduceNe, Int.reduceAdd, Int.reduceSub, Int.reduceMul, Int.reduceNeg]; exact ih
termination_by w.length - i
theorem t_awake09 : call ir 4 [] [] = some (.d (.bool true), []) := call_of (n := 200) (by kernel_rfl)
theorem t_Chooses (header cond tag : List UInt8) (hh : header.length ≤ 9223372036854775807) (hcc : cond.length ≤ 9223372036854775807) (ht : tag.length ≤ 9223372036854775807) (n : Int) :
    call ir 3 [dS header, dS cond, dS tag, dI n] [] = some (dT true, []) := by
  rw [call_eq (fn := ir3) rfl, evF_bnd]
  by_cases g1 : (600 : Int) < (header.length : Int)
  · simp (maxSteps := 2000000) (disch := omega) only [go_sem, doCall, doCallQ, doCallP, Nat.reduceAdd, Nat.reduceMul, Nat.reduceSub, Nat.reduceDiv, Nat.reduceMod, Nat.reduceLT, Nat.reduceLeDiff, Nat.reduceEqDiff, Nat.reduceBEq, Nat.reduceBNe, Int.reduceToNat, Int.reduceLT, Int.reduceLE, Int.reduceEq, Int.reduceNe, Int.reduceAdd, Int.reduceSub, Int.reduceMul, Int.reduceNeg, bd3, t_awake09, eq_true g1, chk_of]
  · by_cases g2 : (200 : Int) < (cond.length : Int)
    · simp (maxSteps := 2000000) (disch := omega) only [go_sem, doCall, doCallQ, doCallP, Nat.reduceAdd, Nat.reduceMul, Nat.reduceSub, Nat.reduceDiv, Nat.reduceMod, Nat.reduceLT, Nat.reduceLeDiff, Nat.reduceEqDiff, Nat.reduceBEq, Nat.reduceBNe, Int.reduceToNat, Int.reduceLT, Int.reduceLE, Int.reduceEq, Int.reduceNe, Int.reduceAdd, Int.reduceSub, Int.reduceMul, Int.reduceNeg, bd3, t_awake09, g1, eq_true g2, chk_of]
    · by_cases g3 : (100 : Int) < (tag.length : Int)
      · simp (maxSteps := 2000000) (disch := omega) only [go_sem, doCall, doCallQ, doCallP, Nat.reduceAdd, Nat.reduceMul, Nat.reduceSub, Nat.reduceDiv, Nat.reduceMod, Nat.reduceLT, Nat.reduceLeDiff, Nat.reduceEqDiff, Nat.reduceBEq, Nat.reduceBNe, Int.reduceToNat, Int.reduceLT, Int.reduceLE, Int.reduceEq, Int.reduceNe, Int.reduceAdd, Int.reduceSub, Int.reduceMul, Int.reduceNeg, bd3, t_awake09, g1, g2, eq_true g3, chk_of]
      · have c1 := t_chooseX header cond tag (by omega) (by omega) n
        have c2 := t_rchooseX header cond tag (by omega) (by omega) n
        have hl := chS_len header cond tag n
        generalize (chS header cond tag n).1 = st at c1 c2
        generalize (chS header cond tag n).2 = l at c1 c2 hl
        obtain ⟨v, H, w1, wr1⟩ := t_rwants st l n
        have s1 := wr1.sc
        have v1 := wr1.vw
        obtain ⟨v', H', w2, wr2⟩ := t_pwants st l n (by omega)
        have s2 := wr2.sc
        have v2 := wr2.vw
        have hb := t_bytes st l n hl
        have hm := t_many st l
        have hwl := wantS_len st l n hl
        have hsp1 := t_spans l (by omega)
        have hsp2 := t_spans (wantS st l n) (by omega)
        have hsum := fun K => lp_sum n st st l l (wantS st l n) (by omega) K 0 (by omega) 0 (Nat.zero_le _)
        have hnn := tot_nn (wantS st l n)
        generalize wantS st l n = W at *
        have hwm := r2_len W
        have hlm := r2_len l
        have hW := t_whole n
        simp (maxSteps := 2000000) (disch := omega) only [go_sem, doCall, doCallQ, doCallP, Nat.reduceAdd, Nat.reduceMul, Nat.reduceSub, Nat.reduceDiv, Nat.reduceMod, Nat.reduceLT, Nat.reduceLeDiff, Nat.reduceEqDiff, Nat.reduceBEq, Nat.reduceBNe, Int.reduceToNat, Int.reduceLT, Int.reduceLE, Int.reduceEq, Int.reduceNe, Int.reduceAdd, Int.reduceSub, Int.reduceMul, Int.reduceNeg, bd3, t_awake09, g1, g2, g3, c1, c2, w1, s1, v1, hwm, chk_of]
        rw [loop_step1]; simp (maxSteps := 2000000) only [go_sem, doCall, doCallQ, doCallP, Nat.reduceAdd, Nat.reduceMul, Nat.reduceSub, Nat.reduceDiv, Nat.reduceMod, Nat.reduceLT, Nat.reduceLeDiff, Nat.reduceEqDiff, Nat.reduceBEq, Nat.reduceBNe, Int.reduceToNat, Int.reduceLT, Int.reduceLE, Int.reduceEq, Int.reduceNe, Int.reduceAdd, Int.reduceSub, Int.reduceMul, Int.reduceNeg]
        refine (hsum _).trans ?_
        rw [List.drop_zero, Int.zero_add]
        have wu : wr .u64 (min 4611686018427387903 (tot W)) = min 4611686018427387903 (tot W) := wr_u64 (by omega)
        by_cases h1 : st = 206
        · have h1' := eq_true h1
          by_cases h2 : 1 < l.length
          · have h2' := eq_true (show (1 : Int) < l.length by omega)
            rw [decide_eq_true (show st = 206 ∧ 1 < l.length from ⟨h1, h2⟩)] at hm
            simp (maxSteps := 2000000) (disch := omega) only [go_sem, doCall, doCallQ, doCallP, Nat.reduceAdd, Nat.reduceMul, Nat.reduceSub, Nat.reduceDiv, Nat.reduceMod, Nat.reduceLT, Nat.reduceLeDiff, Nat.reduceEqDiff, Nat.reduceBEq, Nat.reduceBNe, Int.reduceToNat, Int.reduceLT, Int.reduceLE, Int.reduceEq, Int.reduceNe, Int.reduceAdd, Int.reduceSub, Int.reduceMul, Int.reduceNeg, hsp1, w2, s2, v2, hsp2, hm, h1', h2', hlm, hb, wu, hW, beq_self_eq_true, decide_true, chk_of]
          · have h2' := eq_false (show ¬ (1 : Int) < l.length by omega)
            rw [decide_eq_false (fun h : st = 206 ∧ 1 < l.length => h2 h.2)] at hm
            simp (maxSteps := 2000000) (disch := omega) only [go_sem, doCall, doCallQ, doCallP, Nat.reduceAdd, Nat.reduceMul, Nat.reduceSub, Nat.reduceDiv, Nat.reduceMod, Nat.reduceLT, Nat.reduceLeDiff, Nat.reduceEqDiff, Nat.reduceBEq, Nat.reduceBNe, Int.reduceToNat, Int.reduceLT, Int.reduceLE, Int.reduceEq, Int.reduceNe, Int.reduceAdd, Int.reduceSub, Int.reduceMul, Int.reduceNeg, hsp1, w2, s2, v2, hsp2, hm, h1', h2', hlm, hb, wu, hW, beq_self_eq_true, decide_true, chk_of]
        · have h1' := eq_false h1
          rw [decide_eq_false (fun h : st = 206 ∧ 1 < l.length => h1 h.1)] at hm
          simp (maxSteps := 2000000) (disch := omega) only [go_sem, doCall, doCallQ, doCallP, Nat.reduceAdd, Nat.reduceMul, Nat.reduceSub, Nat.reduceDiv, Nat.reduceMod, Nat.reduceLT, Nat.reduceLeDiff, Nat.reduceEqDiff, Nat.reduceBEq, Nat.reduceBNe, Int.reduceToNat, Int.reduceLT, Int.reduceLE, Int.reduceEq, Int.reduceNe, Int.reduceAdd, Int.reduceSub, Int.reduceMul, Int.reduceNeg, hsp1, w2, s2, v2, hsp2, hm, h1', hlm, hb, wu, hW, beq_self_eq_true, decide_true, chk_of]
end Go.Proofs.YtplnioclkacgkaaGreatDoor
