/- What is held, as rows; the law's own functions. Own work. Right, twice. Own work. -/
import Derived.Test.YtbcpffhialoliaaAbb
import Derived.Test.YtbcpffhialoliaaIrC
namespace Go.Proofs.Ytbcpffhialoliaa
open Go Go.Ev Go.Proofs.Ytbcpffhialoliaa.Ir
set_option maxRecDepth 100000
set_option maxHeartbeats 4000000
set_option linter.unusedSimpArgs false
set_option linter.unusedVariables false
def bB (s : List UInt8) : List (List D) := s.map fun b => [.int .u8 b.toNat]
theorem bB_len (s : List UInt8) : (bB s).length = s.length := List.length_map ..
structure Pc where
  ob : Int
  ge : Int
  ix : Int
  bd : List UInt8
structure Hd where
  ob : Int
  ge : Int
  tg : List UInt8
  le : Int
  ti : Int
  ps : List Pc
instance : Inhabited Pc := ⟨⟨0, 0, 0, []⟩⟩
instance : Inhabited Hd := ⟨⟨0, 0, [], 0, 0, []⟩⟩
def pcRow (p : Pc) : List D := [.int .i64 p.ob, .int .i64 p.ge, .int .i64 p.ix, .list 1 (bB p.bd)]
def hdRow (h : Hd) : List D := [.int .i64 h.ob, .int .i64 h.ge, .str h.tg, .int .i64 h.le, .int .i64 h.ti, .list 4 (h.ps.map pcRow)]
abbrev vPs (l : List Pc) : AV := .d (.list 4 (l.map pcRow))
abbrev vHs (l : List Hd) : AV := .d (.list 6 (l.map hdRow))
abbrev vHd (h : Hd) : AV := .agg [dI h.ob, dI h.ge, dS h.tg, dI h.le, dI h.ti, vPs h.ps]
theorem getPc (l : List Pc) {i : Nat} (h : i < l.length) : (l.map pcRow).getD i [] = [.int .i64 l[i].ob, .int .i64 l[i].ge, .int .i64 l[i].ix, .list 1 (bB l[i].bd)] := by simp [List.getD_eq_getElem?_getD, h, pcRow]
theorem getHd (l : List Hd) {i : Nat} (h : i < l.length) : (l.map hdRow).getD i [] = [.int .i64 l[i].ob, .int .i64 l[i].ge, .str l[i].tg, .int .i64 l[i].le, .int .i64 l[i].ti, .list 4 (l[i].ps.map pcRow)] := by simp [List.getD_eq_getElem?_getD, h, hdRow]
theorem gP {l : List Pc} {i : Nat} (h : i < l.length) : l.getD i default = l[i] := by simp [List.getD_eq_getElem?_getD, h]
theorem gH {l : List Hd} {i : Nat} (h : i < l.length) : l.getD i default = l[i] := by simp [List.getD_eq_getElem?_getD, h]
theorem pred_eq {i : Nat} (h : 0 < i) (h2 : i < 9223372036854775807) : wr .i64 ((i : Int) - 1) = ((i - 1 : Nat) : Int) := by rw [wr_id (by omega)]; omega
/-- Little is held. -/
def fwP : List Pc → Bool
  | [] => true
  | p :: l => if decide (p.bd.length ≤ 100) then fwP l else false
def fwH : List Hd → Bool
  | [] => true
  | h :: l => if decide (h.ps.length ≤ 20) && decide (h.tg.length ≤ 100) && fwP h.ps then fwH l else false
theorem fwP_drop {l : List Pc} {i : Nat} (h : i < l.length) : fwP (l.drop i) = if decide (l[i].bd.length ≤ 100) then fwP (l.drop (i + 1)) else false := by
  rw [List.drop_eq_getElem_cons h]; rfl
theorem fwH_drop {l : List Hd} {i : Nat} (h : i < l.length) : fwH (l.drop i) = if decide (l[i].ps.length ≤ 20) && decide (l[i].tg.length ≤ 100) && fwP l[i].ps then fwH (l.drop (i + 1)) else false := by
  rw [List.drop_eq_getElem_cons h]; rfl
theorem lp_fewP (L : List Hd) (n : Nat) (i0 : Nat) (l : List Pc) (hl : l.length ≤ 1000) (k : Ex → St → Option (AV × Heap)) (i : Nat) (hi : i ≤ l.length) :
    (bnd (evC (call ir) (loop ir) lp7_1 (st7_1 0 (vHs L) (vHs L) (dI n) (dI i0) (vPs l) (dI l.length) (dI i) [])) (lpC (call ir) (loop ir) [0, 7, 8, 9, 25, 26, 27] lp7_1 k)) = (if fwP (l.drop i) then k (.exit 2) (clean [0, 7, 8, 9] (st7_1 0 (vHs L) (vHs L) (dI n) (dI i0) .unk .unk .unk []))
      else k .ret (clean [2] ⟨0, [.unk, .unk, dT false, .unk, .unk, .unk, .unk, .unk, .unk, .unk, .unk, .unk, .unk, .unk, .unk, .unk, .unk, .unk, .unk, .unk, .unk, .unk, .unk, .unk, .unk, .unk, .unk, .unk, .unk, .unk, .unk, .unk, .unk, .unk, .unk, .unk, .unk, .unk, .unk, .unk], []⟩)) := by
  by_cases h : i = l.length
  · have hx : ¬ (i : Int) < l.length := by omega
    rw [h] at hx
    rw [h, List.drop_length]
    simp only [fwP, if_true]
    simp (maxSteps := 2000000) (disch := omega) only [go_sem, doCall, doCallQ, doCallP, Nat.reduceAdd, Nat.reduceMul, Nat.reduceSub, Nat.reduceDiv, Nat.reduceMod, Nat.reduceLT, Nat.reduceLeDiff, Nat.reduceEqDiff, Nat.reduceBEq, Nat.reduceBNe, Int.reduceToNat, Int.reduceLT, Int.reduceLE, Int.reduceEq, Int.reduceNe, Int.reduceAdd, Int.reduceSub, Int.reduceMul, Int.reduceNeg, u7_1, lb7_1, hx]
  · have hlt : (i : Int) < l.length := by omega
    have hi' : i < l.length := by omega
    have hw := wr_succ (i := i) (by omega)
    have hg := getPc l hi'
    have hlm : (l.map pcRow).length = l.length := List.length_map ..
    rw [fwP_drop hi']
    generalize l[i] = d at hg ⊢
    have ih := lp_fewP L n i0 l hl k (i + 1) (by omega)
    by_cases c1 : d.bd.length ≤ 100
    · have c1' := eq_false (show ¬ (100 : Int) < d.bd.length by omega)
      rw [decide_eq_true c1, if_pos rfl]
      simp (maxSteps := 2000000) (disch := omega) only [go_sem, doCall, doCallQ, doCallP, Nat.reduceAdd, Nat.reduceMul, Nat.reduceSub, Nat.reduceDiv, Nat.reduceMod, Nat.reduceLT, Nat.reduceLeDiff, Nat.reduceEqDiff, Nat.reduceBEq, Nat.reduceBNe, Int.reduceToNat, Int.reduceLT, Int.reduceLE, Int.reduceEq, Int.reduceNe, Int.reduceAdd, Int.reduceSub, Int.reduceMul, Int.reduceNeg, u7_1, lb7_1, hlt, hi', hw, hg, hlm, c1', bB_len, Int.natCast_nonneg, Int.toNat_natCast, Option.getD_some, Option.getD_none, List.drop_zero, Nat.sub_zero, Nat.zero_le, true_and, and_true, Nat.le_refl, chk_of]
      rw [loop_step1]; simp (maxSteps := 2000000) only [go_sem, doCall, doCallQ, doCallP, Nat.reduceAdd, Nat.reduceMul, Nat.reduceSub, Nat.reduceDiv, Nat.reduceMod, Nat.reduceLT, Nat.reduceLeDiff, Nat.reduceEqDiff, Nat.reduceBEq, Nat.reduceBNe, Int.reduceToNat, Int.reduceLT, Int.reduceLE, Int.reduceEq, Int.reduceNe, Int.reduceAdd, Int.reduceSub, Int.reduceMul, Int.reduceNeg]; exact ih
    · have c1' := eq_true (show (100 : Int) < d.bd.length by omega)
      rw [decide_eq_false c1, if_neg (by simp)]
      simp (maxSteps := 2000000) (disch := omega) only [go_sem, doCall, doCallQ, doCallP, Nat.reduceAdd, Nat.reduceMul, Nat.reduceSub, Nat.reduceDiv, Nat.reduceMod, Nat.reduceLT, Nat.reduceLeDiff, Nat.reduceEqDiff, Nat.reduceBEq, Nat.reduceBNe, Int.reduceToNat, Int.reduceLT, Int.reduceLE, Int.reduceEq, Int.reduceNe, Int.reduceAdd, Int.reduceSub, Int.reduceMul, Int.reduceNeg, u7_1, lb7_1, hlt, hi', hw, hg, hlm, c1', bB_len, Int.natCast_nonneg, Int.toNat_natCast, Option.getD_some, Option.getD_none, List.drop_zero, Nat.sub_zero, Nat.zero_le, true_and, and_true, Nat.le_refl, chk_of]
termination_by l.length - i
theorem lp_fewH (l : List Hd) (hl : l.length ≤ 1000000000000000) (k : Ex → St → Option (AV × Heap)) (i : Nat) (hi : i ≤ l.length) :
    (bnd (evC (call ir) (loop ir) lp7_0 (st7_0 0 (vHs l) (vHs l) (dI l.length) (dI i) [])) (lpC (call ir) (loop ir) [0, 7, 8, 9] lp7_0 k)) = (if fwH (l.drop i) then k (.exit 0) (clean [0] (st7_0 0 (vHs l) .unk .unk .unk []))
      else k .ret (clean [2] ⟨0, [.unk, .unk, dT false, .unk, .unk, .unk, .unk, .unk, .unk, .unk, .unk, .unk, .unk, .unk, .unk, .unk, .unk, .unk, .unk, .unk, .unk, .unk, .unk, .unk, .unk, .unk, .unk, .unk, .unk, .unk, .unk, .unk, .unk, .unk, .unk, .unk, .unk, .unk, .unk, .unk], []⟩)) := by
  by_cases h : i = l.length
  · have hx : ¬ (i : Int) < l.length := by omega
    rw [h] at hx
    rw [h, List.drop_length]
    simp only [fwH, if_true]
    simp (maxSteps := 2000000) (disch := omega) only [go_sem, doCall, doCallQ, doCallP, Nat.reduceAdd, Nat.reduceMul, Nat.reduceSub, Nat.reduceDiv, Nat.reduceMod, Nat.reduceLT, Nat.reduceLeDiff, Nat.reduceEqDiff, Nat.reduceBEq, Nat.reduceBNe, Int.reduceToNat, Int.reduceLT, Int.reduceLE, Int.reduceEq, Int.reduceNe, Int.reduceAdd, Int.reduceSub, Int.reduceMul, Int.reduceNeg, u7_0, lb7_0, hx]
  · have hlt : (i : Int) < l.length := by omega
    have hi' : i < l.length := by omega
    have hw := wr_succ (i := i) (by omega)
    have hg := getHd l hi'
    have hlm : (l.map hdRow).length = l.length := List.length_map ..
    rw [fwH_drop hi']
    generalize l[i] = d at hg ⊢
    have hlp : (d.ps.map pcRow).length = d.ps.length := List.length_map ..
    have ih := lp_fewH l hl k (i + 1) (by omega)
    by_cases c1 : d.ps.length ≤ 20
    · have c1' := eq_false (show ¬ (20 : Int) < d.ps.length by omega)
      rw [decide_eq_true c1, Bool.true_and]
      by_cases c2 : d.tg.length ≤ 100
      · have c2' := eq_false (show ¬ (100 : Int) < d.tg.length by omega)
        rw [decide_eq_true c2, Bool.true_and]
        simp (maxSteps := 2000000) (disch := omega) only [go_sem, doCall, doCallQ, doCallP, Nat.reduceAdd, Nat.reduceMul, Nat.reduceSub, Nat.reduceDiv, Nat.reduceMod, Nat.reduceLT, Nat.reduceLeDiff, Nat.reduceEqDiff, Nat.reduceBEq, Nat.reduceBNe, Int.reduceToNat, Int.reduceLT, Int.reduceLE, Int.reduceEq, Int.reduceNe, Int.reduceAdd, Int.reduceSub, Int.reduceMul, Int.reduceNeg, u7_0, lb7_0, hlt, hi', hw, hg, hlm, hlp, c1', c2', Int.natCast_nonneg, Int.toNat_natCast, Option.getD_some, Option.getD_none, List.drop_zero, Nat.sub_zero, Nat.zero_le, true_and, and_true, Nat.le_refl, chk_of]
        rw [loop_step1]; simp (maxSteps := 2000000) only [go_sem, doCall, doCallQ, doCallP, Nat.reduceAdd, Nat.reduceMul, Nat.reduceSub, Nat.reduceDiv, Nat.reduceMod, Nat.reduceLT, Nat.reduceLeDiff, Nat.reduceEqDiff, Nat.reduceBEq, Nat.reduceBNe, Int.reduceToNat, Int.reduceLT, Int.reduceLE, Int.reduceEq, Int.reduceNe, Int.reduceAdd, Int.reduceSub, Int.reduceMul, Int.reduceNeg]
        refine (lp_fewP l l.length i d.ps (by omega) _ 0 (Nat.zero_le _)).trans ?_
        rw [List.drop_zero]
        cases hf : fwP d.ps
        · rw [if_neg (by simp), if_neg (by simp)]
          simp (maxSteps := 2000000) (disch := omega) only [go_sem, doCall, doCallQ, doCallP, Nat.reduceAdd, Nat.reduceMul, Nat.reduceSub, Nat.reduceDiv, Nat.reduceMod, Nat.reduceLT, Nat.reduceLeDiff, Nat.reduceEqDiff, Nat.reduceBEq, Nat.reduceBNe, Int.reduceToNat, Int.reduceLT, Int.reduceLE, Int.reduceEq, Int.reduceNe, Int.reduceAdd, Int.reduceSub, Int.reduceMul, Int.reduceNeg]
        · rw [if_pos rfl, if_pos rfl]
          simp (maxSteps := 2000000) (disch := omega) only [go_sem, doCall, doCallQ, doCallP, Nat.reduceAdd, Nat.reduceMul, Nat.reduceSub, Nat.reduceDiv, Nat.reduceMod, Nat.reduceLT, Nat.reduceLeDiff, Nat.reduceEqDiff, Nat.reduceBEq, Nat.reduceBNe, Int.reduceToNat, Int.reduceLT, Int.reduceLE, Int.reduceEq, Int.reduceNe, Int.reduceAdd, Int.reduceSub, Int.reduceMul, Int.reduceNeg, hw]
          rw [loop_step1]; simp (maxSteps := 2000000) only [go_sem, doCall, doCallQ, doCallP, Nat.reduceAdd, Nat.reduceMul, Nat.reduceSub, Nat.reduceDiv, Nat.reduceMod, Nat.reduceLT, Nat.reduceLeDiff, Nat.reduceEqDiff, Nat.reduceBEq, Nat.reduceBNe, Int.reduceToNat, Int.reduceLT, Int.reduceLE, Int.reduceEq, Int.reduceNe, Int.reduceAdd, Int.reduceSub, Int.reduceMul, Int.reduceNeg]; exact ih
      · have c2' := eq_true (show (100 : Int) < d.tg.length by omega)
        rw [decide_eq_false c2, Bool.false_and, if_neg (by simp)]
        simp (maxSteps := 2000000) (disch := omega) only [go_sem, doCall, doCallQ, doCallP, Nat.reduceAdd, Nat.reduceMul, Nat.reduceSub, Nat.reduceDiv, Nat.reduceMod, Nat.reduceLT, Nat.reduceLeDiff, Nat.reduceEqDiff, Nat.reduceBEq, Nat.reduceBNe, Int.reduceToNat, Int.reduceLT, Int.reduceLE, Int.reduceEq, Int.reduceNe, Int.reduceAdd, Int.reduceSub, Int.reduceMul, Int.reduceNeg, u7_0, lb7_0, hlt, hi', hw, hg, hlm, hlp, c1', c2', Int.natCast_nonneg, Int.toNat_natCast, Option.getD_some, Option.getD_none, List.drop_zero, Nat.sub_zero, Nat.zero_le, true_and, and_true, Nat.le_refl, chk_of]
    · have c1' := eq_true (show (20 : Int) < d.ps.length by omega)
      rw [decide_eq_false c1, Bool.false_and, Bool.false_and, if_neg (by simp)]
      simp (maxSteps := 2000000) (disch := omega) only [go_sem, doCall, doCallQ, doCallP, Nat.reduceAdd, Nat.reduceMul, Nat.reduceSub, Nat.reduceDiv, Nat.reduceMod, Nat.reduceLT, Nat.reduceLeDiff, Nat.reduceEqDiff, Nat.reduceBEq, Nat.reduceBNe, Int.reduceToNat, Int.reduceLT, Int.reduceLE, Int.reduceEq, Int.reduceNe, Int.reduceAdd, Int.reduceSub, Int.reduceMul, Int.reduceNeg, u7_0, lb7_0, hlt, hi', hw, hg, hlm, hlp, c1', Int.natCast_nonneg, Int.toNat_natCast, Option.getD_some, Option.getD_none, List.drop_zero, Nat.sub_zero, Nat.zero_le, true_and, and_true, Nat.le_refl, chk_of]
termination_by l.length - i
theorem t_few48 (l : List Hd) (hl : l.length ≤ 1000000000000000) : call ir 7 [vHs l] [] = some (dT (fwH l && decide (l.length ≤ 20)), []) := by
  rw [call_eq (fn := ir7) rfl, evF_bnd]
  have hlm : (l.map hdRow).length = l.length := List.length_map ..
  simp (maxSteps := 2000000) (disch := omega) only [go_sem, doCall, doCallQ, doCallP, Nat.reduceAdd, Nat.reduceMul, Nat.reduceSub, Nat.reduceDiv, Nat.reduceMod, Nat.reduceLT, Nat.reduceLeDiff, Nat.reduceEqDiff, Nat.reduceBEq, Nat.reduceBNe, Int.reduceToNat, Int.reduceLT, Int.reduceLE, Int.reduceEq, Int.reduceNe, Int.reduceAdd, Int.reduceSub, Int.reduceMul, Int.reduceNeg, bd7, hlm, chk_of]
  rw [loop_step1]; simp (maxSteps := 2000000) only [go_sem, doCall, doCallQ, doCallP, Nat.reduceAdd, Nat.reduceMul, Nat.reduceSub, Nat.reduceDiv, Nat.reduceMod, Nat.reduceLT, Nat.reduceLeDiff, Nat.reduceEqDiff, Nat.reduceBEq, Nat.reduceBNe, Int.reduceToNat, Int.reduceLT, Int.reduceLE, Int.reduceEq, Int.reduceNe, Int.reduceAdd, Int.reduceSub, Int.reduceMul, Int.reduceNeg]
  refine (lp_fewH l hl _ 0 (Nat.zero_le _)).trans ?_
  rw [List.drop_zero]
  cases h1 : fwH l
  · rw [if_neg (by simp)]
    simp (maxSteps := 2000000) (disch := omega) only [go_sem, doCall, doCallQ, doCallP, Nat.reduceAdd, Nat.reduceMul, Nat.reduceSub, Nat.reduceDiv, Nat.reduceMod, Nat.reduceLT, Nat.reduceLeDiff, Nat.reduceEqDiff, Nat.reduceBEq, Nat.reduceBNe, Int.reduceToNat, Int.reduceLT, Int.reduceLE, Int.reduceEq, Int.reduceNe, Int.reduceAdd, Int.reduceSub, Int.reduceMul, Int.reduceNeg, Bool.false_and]
  · rw [if_pos rfl]
    by_cases h2 : l.length ≤ 20
    · have h2' := eq_true (show (l.length : Int) ≤ 20 by omega)
      rw [decide_eq_true h2]
      simp (maxSteps := 2000000) (disch := omega) only [go_sem, doCall, doCallQ, doCallP, Nat.reduceAdd, Nat.reduceMul, Nat.reduceSub, Nat.reduceDiv, Nat.reduceMod, Nat.reduceLT, Nat.reduceLeDiff, Nat.reduceEqDiff, Nat.reduceBEq, Nat.reduceBNe, Int.reduceToNat, Int.reduceLT, Int.reduceLE, Int.reduceEq, Int.reduceNe, Int.reduceAdd, Int.reduceSub, Int.reduceMul, Int.reduceNeg, hlm, h2', Bool.true_and, chk_of]
    · have h2' := eq_false (show ¬ (l.length : Int) ≤ 20 by omega)
      rw [decide_eq_false h2]
      simp (maxSteps := 2000000) (disch := omega) only [go_sem, doCall, doCallQ, doCallP, Nat.reduceAdd, Nat.reduceMul, Nat.reduceSub, Nat.reduceDiv, Nat.reduceMod, Nat.reduceLT, Nat.reduceLeDiff, Nat.reduceEqDiff, Nat.reduceBEq, Nat.reduceBNe, Int.reduceToNat, Int.reduceLT, Int.reduceLE, Int.reduceEq, Int.reduceNe, Int.reduceAdd, Int.reduceSub, Int.reduceMul, Int.reduceNeg, hlm, h2', Bool.true_and, chk_of]
/-- Right pieces, right things held. -/
def okP (ob ge : Int) (l : List Pc) (i : Nat) : Prop := (l.getD i default).ob = ob ∧ (l.getD i default).ge = ge ∧ (i = 0 ∨ (l.getD (i - 1) default).ix < (l.getD i default).ix)
instance (ob ge : Int) (l : List Pc) (i : Nat) : Decidable (okP ob ge l i) := by unfold okP; infer_instance
/-- From place i on. -/
def opF (ob ge : Int) (l : List Pc) (i : Nat) : Bool := if h : i < l.length then decide (okP ob ge l i) && opF ob ge l (i + 1) else true
termination_by l.length - i
def oneR (h : Hd) : Bool := opF h.ob h.ge h.ps 0
def okH (l : List Hd) (i : Nat) : Prop := i = 0 ∨ (l.getD (i - 1) default).ob < (l.getD i default).ob
instance (l : List Hd) (i : Nat) : Decidable (okH l i) := by unfold okH; infer_instance
def rtF (l : List Hd) (i : Nat) : Bool := if h : i < l.length then oneR l[i] && decide (okH l i) && rtF l (i + 1) else true
termination_by l.length - i
def rtR (l : List Hd) : Bool := rtF l 0
theorem opF_end (ob ge : Int) (l : List Pc) : opF ob ge l l.length = true := by rw [opF, dif_neg (by omega)]
theorem opF_at {ob ge : Int} {l : List Pc} {i : Nat} (h : i < l.length) : opF ob ge l i = (decide (okP ob ge l i) && opF ob ge l (i + 1)) := by rw [opF, dif_pos h]
theorem rtF_end (l : List Hd) : rtF l l.length = true := by rw [rtF, dif_neg (by omega)]
theorem rtF_at {l : List Hd} {i : Nat} (h : i < l.length) : rtF l i = (oneR l[i] && decide (okH l i) && rtF l (i + 1)) := by rw [rtF, dif_pos h]
end Go.Proofs.Ytbcpffhialoliaa
namespace Go.Proofs.Ytbcpffhialoliaa
open Go Go.Ev Go.Proofs.Ytbcpffhialoliaa.Ir
set_option maxRecDepth 100000
set_option maxHeartbeats 4000000
set_option linter.unusedSimpArgs false
set_option linter.unusedVariables false
theorem lp_rtP (L : List Hd) (n : Nat) (i0 : Nat) (d : Hd) (hl : d.ps.length ≤ 1000000000) (k : Ex → St → Option (AV × Heap)) (i : Nat) (hi : i ≤ d.ps.length) :
    (bnd (evC (call ir) (loop ir) lp8_1 (st8_1 0 (vHs L) (.ptr 0 0) (vHs L) (dI n) (dI i0) (vPs d.ps) (dI d.ps.length) (dI i) [.dbox [.int .i64 d.ob, .int .i64 d.ge, .str d.tg, .int .i64 d.le, .int .i64 d.ti, .list 4 (d.ps.map pcRow)]])) (lpC (call ir) (loop ir) [0, 4, 7, 8, 9, 30, 31, 32] lp8_1 k)) = (if opF d.ob d.ge d.ps i then k (.exit 2) (clean [0, 7, 8, 9] (st8_1 0 (vHs L) .unk (vHs L) (dI n) (dI i0) .unk .unk .unk []))
      else k .ret (clean [2] ⟨0, [.unk, .unk, dT false, .unk, .unk, .unk, .unk, .unk, .unk, .unk, .unk, .unk, .unk, .unk, .unk, .unk, .unk, .unk, .unk, .unk, .unk, .unk, .unk, .unk, .unk, .unk, .unk, .unk, .unk, .unk, .unk, .unk, .unk, .unk, .unk, .unk, .unk, .unk, .unk, .unk, .unk, .unk, .unk, .unk, .unk, .unk, .unk, .unk, .unk, .unk, .unk, .unk, .unk, .unk, .unk, .unk, .unk, .unk, .unk, .unk, .unk, .unk, .unk, .unk, .unk, .unk, .unk, .unk, .unk], []⟩)) := by
  by_cases h : i = d.ps.length
  · have hx : ¬ (i : Int) < d.ps.length := by omega
    rw [h] at hx
    rw [h, opF_end]
    simp only [if_true]
    simp (maxSteps := 2000000) (disch := omega) only [go_sem, doCall, doCallQ, doCallP, Nat.reduceAdd, Nat.reduceMul, Nat.reduceSub, Nat.reduceDiv, Nat.reduceMod, Nat.reduceLT, Nat.reduceLeDiff, Nat.reduceEqDiff, Nat.reduceBEq, Nat.reduceBNe, Int.reduceToNat, Int.reduceLT, Int.reduceLE, Int.reduceEq, Int.reduceNe, Int.reduceAdd, Int.reduceSub, Int.reduceMul, Int.reduceNeg, u8_1, lb8_1, hx]
  · have hlt : (i : Int) < d.ps.length := by omega
    have hi' : i < d.ps.length := by omega
    have hw := wr_succ (i := i) (by omega)
    have hg := getPc d.ps hi'
    have hlm : (d.ps.map pcRow).length = d.ps.length := List.length_map ..
    have ih := lp_rtP L n i0 d hl k (i + 1) (by omega)
    rw [opF_at hi']
    have hok : okP d.ob d.ge d.ps i ↔ (d.ps[i].ob = d.ob ∧ d.ps[i].ge = d.ge ∧ (i = 0 ∨ (d.ps.getD (i - 1) default).ix < d.ps[i].ix)) := by unfold okP; rw [gP hi']
    by_cases c1 : d.ps[i].ob = d.ob
    · by_cases c2 : d.ps[i].ge = d.ge
      · by_cases c3 : i = 0
        · have c3' := eq_false (show ¬ (0 : Int) < i by omega)
          rw [decide_eq_true (hok.2 ⟨c1, c2, .inl c3⟩), Bool.true_and]
          simp (maxSteps := 2000000) (disch := omega) only [go_sem, doCall, doCallQ, doCallP, Nat.reduceAdd, Nat.reduceMul, Nat.reduceSub, Nat.reduceDiv, Nat.reduceMod, Nat.reduceLT, Nat.reduceLeDiff, Nat.reduceEqDiff, Nat.reduceBEq, Nat.reduceBNe, Int.reduceToNat, Int.reduceLT, Int.reduceLE, Int.reduceEq, Int.reduceNe, Int.reduceAdd, Int.reduceSub, Int.reduceMul, Int.reduceNeg, u8_1, lb8_1, hlt, hi', hw, hg, hlm, c3', show (d.ps[i].ob != d.ob) = false by simp [c1], show (d.ps[i].ge != d.ge) = false by simp [c2], eq_true c1, eq_true c2, not_true, Int.natCast_nonneg, Int.toNat_natCast, Option.getD_some, Option.getD_none, List.drop_zero, Nat.sub_zero, Nat.zero_le, true_and, and_true, Nat.le_refl, chk_of]
          rw [loop_step1]; simp (maxSteps := 2000000) only [go_sem, doCall, doCallQ, doCallP, Nat.reduceAdd, Nat.reduceMul, Nat.reduceSub, Nat.reduceDiv, Nat.reduceMod, Nat.reduceLT, Nat.reduceLeDiff, Nat.reduceEqDiff, Nat.reduceBEq, Nat.reduceBNe, Int.reduceToNat, Int.reduceLT, Int.reduceLE, Int.reduceEq, Int.reduceNe, Int.reduceAdd, Int.reduceSub, Int.reduceMul, Int.reduceNeg]; exact ih
        · have c3' := eq_true (show (0 : Int) < i by omega)
          have hp := pred_eq (i := i) (by omega) (by omega)
          have hi2 : i - 1 < d.ps.length := by omega
          have hg2 := getPc d.ps hi2
          rw [gP hi2] at hok
          by_cases c4 : d.ps[i - 1].ix < d.ps[i].ix
          · have c4' := eq_false (show ¬ d.ps[i].ix ≤ d.ps[i - 1].ix by omega)
            rw [decide_eq_true (hok.2 ⟨c1, c2, .inr c4⟩), Bool.true_and]
            simp (maxSteps := 2000000) (disch := omega) only [go_sem, doCall, doCallQ, doCallP, Nat.reduceAdd, Nat.reduceMul, Nat.reduceSub, Nat.reduceDiv, Nat.reduceMod, Nat.reduceLT, Nat.reduceLeDiff, Nat.reduceEqDiff, Nat.reduceBEq, Nat.reduceBNe, Int.reduceToNat, Int.reduceLT, Int.reduceLE, Int.reduceEq, Int.reduceNe, Int.reduceAdd, Int.reduceSub, Int.reduceMul, Int.reduceNeg, u8_1, lb8_1, hlt, hi', hi2, hp, hw, hg, hg2, hlm, c3', c4', show (d.ps[i].ob != d.ob) = false by simp [c1], show (d.ps[i].ge != d.ge) = false by simp [c2], eq_true c1, eq_true c2, not_true, Int.natCast_nonneg, Int.toNat_natCast, Option.getD_some, Option.getD_none, List.drop_zero, Nat.sub_zero, Nat.zero_le, true_and, and_true, Nat.le_refl, chk_of]
            rw [loop_step1]; simp (maxSteps := 2000000) only [go_sem, doCall, doCallQ, doCallP, Nat.reduceAdd, Nat.reduceMul, Nat.reduceSub, Nat.reduceDiv, Nat.reduceMod, Nat.reduceLT, Nat.reduceLeDiff, Nat.reduceEqDiff, Nat.reduceBEq, Nat.reduceBNe, Int.reduceToNat, Int.reduceLT, Int.reduceLE, Int.reduceEq, Int.reduceNe, Int.reduceAdd, Int.reduceSub, Int.reduceMul, Int.reduceNeg]; exact ih
          · have c4' := eq_true (show d.ps[i].ix ≤ d.ps[i - 1].ix by omega)
            rw [decide_eq_false (fun h => by have := (hok.1 h).2.2; omega), Bool.false_and, if_neg (by simp)]
            simp (maxSteps := 2000000) (disch := omega) only [go_sem, doCall, doCallQ, doCallP, Nat.reduceAdd, Nat.reduceMul, Nat.reduceSub, Nat.reduceDiv, Nat.reduceMod, Nat.reduceLT, Nat.reduceLeDiff, Nat.reduceEqDiff, Nat.reduceBEq, Nat.reduceBNe, Int.reduceToNat, Int.reduceLT, Int.reduceLE, Int.reduceEq, Int.reduceNe, Int.reduceAdd, Int.reduceSub, Int.reduceMul, Int.reduceNeg, u8_1, lb8_1, hlt, hi', hi2, hp, hw, hg, hg2, hlm, c3', c4', show (d.ps[i].ob != d.ob) = false by simp [c1], show (d.ps[i].ge != d.ge) = false by simp [c2], eq_true c1, eq_true c2, not_true, Int.natCast_nonneg, Int.toNat_natCast, Option.getD_some, Option.getD_none, List.drop_zero, Nat.sub_zero, Nat.zero_le, true_and, and_true, Nat.le_refl, chk_of]
      · rw [decide_eq_false (fun h => c2 (hok.1 h).2.1), Bool.false_and, if_neg (by simp)]
        simp (maxSteps := 2000000) (disch := omega) only [go_sem, doCall, doCallQ, doCallP, Nat.reduceAdd, Nat.reduceMul, Nat.reduceSub, Nat.reduceDiv, Nat.reduceMod, Nat.reduceLT, Nat.reduceLeDiff, Nat.reduceEqDiff, Nat.reduceBEq, Nat.reduceBNe, Int.reduceToNat, Int.reduceLT, Int.reduceLE, Int.reduceEq, Int.reduceNe, Int.reduceAdd, Int.reduceSub, Int.reduceMul, Int.reduceNeg, u8_1, lb8_1, hlt, hi', hw, hg, hlm, show (d.ps[i].ob != d.ob) = false by simp [c1], show (d.ps[i].ge != d.ge) = true by simp [c2], eq_true c1, eq_false c2, not_true, not_false_eq_true, Int.natCast_nonneg, Int.toNat_natCast, Option.getD_some, Option.getD_none, List.drop_zero, Nat.sub_zero, Nat.zero_le, true_and, and_true, Nat.le_refl, chk_of]
    · rw [decide_eq_false (fun h => c1 (hok.1 h).1), Bool.false_and, if_neg (by simp)]
      simp (maxSteps := 2000000) (disch := omega) only [go_sem, doCall, doCallQ, doCallP, Nat.reduceAdd, Nat.reduceMul, Nat.reduceSub, Nat.reduceDiv, Nat.reduceMod, Nat.reduceLT, Nat.reduceLeDiff, Nat.reduceEqDiff, Nat.reduceBEq, Nat.reduceBNe, Int.reduceToNat, Int.reduceLT, Int.reduceLE, Int.reduceEq, Int.reduceNe, Int.reduceAdd, Int.reduceSub, Int.reduceMul, Int.reduceNeg, u8_1, lb8_1, hlt, hi', hw, hg, hlm, show (d.ps[i].ob != d.ob) = true by simp [c1], eq_false c1, not_true, not_false_eq_true, Int.natCast_nonneg, Int.toNat_natCast, Option.getD_some, Option.getD_none, List.drop_zero, Nat.sub_zero, Nat.zero_le, true_and, and_true, Nat.le_refl, chk_of]
termination_by d.ps.length - i
theorem t_one (d : Hd) (hl : d.ps.length ≤ 1000000000) : call ir 30 [vHd d] [] = some (dT (oneR d), []) := by
  have lp : ∀ (k : Ex → St → Option (AV × Heap)) (j : Nat) (i : Nat) (hj : d.ps.length - i = j) (hi : i ≤ d.ps.length),
      (bnd (evC (call ir) (loop ir) lp30_0 (st30_0 0 (.ptr 0 0) (vPs d.ps) (dI d.ps.length) (dI i) [.dbox [.int .i64 d.ob, .int .i64 d.ge, .str d.tg, .int .i64 d.le, .int .i64 d.ti, .list 4 (d.ps.map pcRow)]])) (lpC (call ir) (loop ir) [1, 6, 7, 8] lp30_0 k)) = (if opF d.ob d.ge d.ps i then k (.exit 0) (clean [] (st30_0 0 .unk .unk .unk .unk []))
        else k .ret (clean [2] ⟨0, [.unk, .unk, dT false, .unk, .unk, .unk, .unk, .unk, .unk, .unk, .unk, .unk, .unk, .unk, .unk, .unk, .unk, .unk, .unk, .unk, .unk, .unk, .unk, .unk, .unk, .unk, .unk, .unk, .unk, .unk, .unk, .unk, .unk, .unk, .unk, .unk, .unk, .unk, .unk, .unk, .unk, .unk, .unk, .unk], []⟩)) := by
    intro k j
    induction j with
    | zero =>
      intro i hj hi
      have h : i = d.ps.length := by omega
      have hx : ¬ (i : Int) < d.ps.length := by omega
      rw [h] at hx
      rw [h, opF_end]
      simp only [if_true]
      simp (maxSteps := 2000000) (disch := omega) only [go_sem, doCall, doCallQ, doCallP, Nat.reduceAdd, Nat.reduceMul, Nat.reduceSub, Nat.reduceDiv, Nat.reduceMod, Nat.reduceLT, Nat.reduceLeDiff, Nat.reduceEqDiff, Nat.reduceBEq, Nat.reduceBNe, Int.reduceToNat, Int.reduceLT, Int.reduceLE, Int.reduceEq, Int.reduceNe, Int.reduceAdd, Int.reduceSub, Int.reduceMul, Int.reduceNeg, u30_0, lb30_0, hx]
    | succ j ih =>
      intro i hj hi
      have hlt : (i : Int) < d.ps.length := by omega
      have hi' : i < d.ps.length := by omega
      have hw := wr_succ (i := i) (by omega)
      have hg := getPc d.ps hi'
      have hlm : (d.ps.map pcRow).length = d.ps.length := List.length_map ..
      have ih := ih (i + 1) (by omega) (by omega)
      rw [opF_at hi']
      have hok : okP d.ob d.ge d.ps i ↔ (d.ps[i].ob = d.ob ∧ d.ps[i].ge = d.ge ∧ (i = 0 ∨ (d.ps.getD (i - 1) default).ix < d.ps[i].ix)) := by unfold okP; rw [gP hi']
      by_cases c1 : d.ps[i].ob = d.ob
      · by_cases c2 : d.ps[i].ge = d.ge
        · by_cases c3 : i = 0
          · have c3' := eq_false (show ¬ (0 : Int) < i by omega)
            rw [decide_eq_true (hok.2 ⟨c1, c2, .inl c3⟩), Bool.true_and]
            simp (maxSteps := 2000000) (disch := omega) only [go_sem, doCall, doCallQ, doCallP, Nat.reduceAdd, Nat.reduceMul, Nat.reduceSub, Nat.reduceDiv, Nat.reduceMod, Nat.reduceLT, Nat.reduceLeDiff, Nat.reduceEqDiff, Nat.reduceBEq, Nat.reduceBNe, Int.reduceToNat, Int.reduceLT, Int.reduceLE, Int.reduceEq, Int.reduceNe, Int.reduceAdd, Int.reduceSub, Int.reduceMul, Int.reduceNeg, u30_0, lb30_0, hlt, hi', hw, hg, hlm, c3', show (d.ps[i].ob != d.ob) = false by simp [c1], show (d.ps[i].ge != d.ge) = false by simp [c2], eq_true c1, eq_true c2, not_true, Int.natCast_nonneg, Int.toNat_natCast, Option.getD_some, Option.getD_none, List.drop_zero, Nat.sub_zero, Nat.zero_le, true_and, and_true, Nat.le_refl, chk_of]
            rw [loop_step1]; simp (maxSteps := 2000000) only [go_sem, doCall, doCallQ, doCallP, Nat.reduceAdd, Nat.reduceMul, Nat.reduceSub, Nat.reduceDiv, Nat.reduceMod, Nat.reduceLT, Nat.reduceLeDiff, Nat.reduceEqDiff, Nat.reduceBEq, Nat.reduceBNe, Int.reduceToNat, Int.reduceLT, Int.reduceLE, Int.reduceEq, Int.reduceNe, Int.reduceAdd, Int.reduceSub, Int.reduceMul, Int.reduceNeg]; exact ih
          · have c3' := eq_true (show (0 : Int) < i by omega)
            have hp := pred_eq (i := i) (by omega) (by omega)
            have hi2 : i - 1 < d.ps.length := by omega
            have hg2 := getPc d.ps hi2
            rw [gP hi2] at hok
            by_cases c4 : d.ps[i - 1].ix < d.ps[i].ix
            · have c4' := eq_false (show ¬ d.ps[i].ix ≤ d.ps[i - 1].ix by omega)
              rw [decide_eq_true (hok.2 ⟨c1, c2, .inr c4⟩), Bool.true_and]
              simp (maxSteps := 2000000) (disch := omega) only [go_sem, doCall, doCallQ, doCallP, Nat.reduceAdd, Nat.reduceMul, Nat.reduceSub, Nat.reduceDiv, Nat.reduceMod, Nat.reduceLT, Nat.reduceLeDiff, Nat.reduceEqDiff, Nat.reduceBEq, Nat.reduceBNe, Int.reduceToNat, Int.reduceLT, Int.reduceLE, Int.reduceEq, Int.reduceNe, Int.reduceAdd, Int.reduceSub, Int.reduceMul, Int.reduceNeg, u30_0, lb30_0, hlt, hi', hi2, hp, hw, hg, hg2, hlm, c3', c4', show (d.ps[i].ob != d.ob) = false by simp [c1], show (d.ps[i].ge != d.ge) = false by simp [c2], eq_true c1, eq_true c2, not_true, Int.natCast_nonneg, Int.toNat_natCast, Option.getD_some, Option.getD_none, List.drop_zero, Nat.sub_zero, Nat.zero_le, true_and, and_true, Nat.le_refl, chk_of]
              rw [loop_step1]; simp (maxSteps := 2000000) only [go_sem, doCall, doCallQ, doCallP, Nat.reduceAdd, Nat.reduceMul, Nat.reduceSub, Nat.reduceDiv, Nat.reduceMod, Nat.reduceLT, Nat.reduceLeDiff, Nat.reduceEqDiff, Nat.reduceBEq, Nat.reduceBNe, Int.reduceToNat, Int.reduceLT, Int.reduceLE, Int.reduceEq, Int.reduceNe, Int.reduceAdd, Int.reduceSub, Int.reduceMul, Int.reduceNeg]; exact ih
            · have c4' := eq_true (show d.ps[i].ix ≤ d.ps[i - 1].ix by omega)
              rw [decide_eq_false (fun h => by have := (hok.1 h).2.2; omega), Bool.false_and, if_neg (by simp)]
              simp (maxSteps := 2000000) (disch := omega) only [go_sem, doCall, doCallQ, doCallP, Nat.reduceAdd, Nat.reduceMul, Nat.reduceSub, Nat.reduceDiv, Nat.reduceMod, Nat.reduceLT, Nat.reduceLeDiff, Nat.reduceEqDiff, Nat.reduceBEq, Nat.reduceBNe, Int.reduceToNat, Int.reduceLT, Int.reduceLE, Int.reduceEq, Int.reduceNe, Int.reduceAdd, Int.reduceSub, Int.reduceMul, Int.reduceNeg, u30_0, lb30_0, hlt, hi', hi2, hp, hw, hg, hg2, hlm, c3', c4', show (d.ps[i].ob != d.ob) = false by simp [c1], show (d.ps[i].ge != d.ge) = false by simp [c2], eq_true c1, eq_true c2, not_true, Int.natCast_nonneg, Int.toNat_natCast, Option.getD_some, Option.getD_none, List.drop_zero, Nat.sub_zero, Nat.zero_le, true_and, and_true, Nat.le_refl, chk_of]
        · rw [decide_eq_false (fun h => c2 (hok.1 h).2.1), Bool.false_and, if_neg (by simp)]
          simp (maxSteps := 2000000) (disch := omega) only [go_sem, doCall, doCallQ, doCallP, Nat.reduceAdd, Nat.reduceMul, Nat.reduceSub, Nat.reduceDiv, Nat.reduceMod, Nat.reduceLT, Nat.reduceLeDiff, Nat.reduceEqDiff, Nat.reduceBEq, Nat.reduceBNe, Int.reduceToNat, Int.reduceLT, Int.reduceLE, Int.reduceEq, Int.reduceNe, Int.reduceAdd, Int.reduceSub, Int.reduceMul, Int.reduceNeg, u30_0, lb30_0, hlt, hi', hw, hg, hlm, show (d.ps[i].ob != d.ob) = false by simp [c1], show (d.ps[i].ge != d.ge) = true by simp [c2], eq_true c1, eq_false c2, not_true, not_false_eq_true, Int.natCast_nonneg, Int.toNat_natCast, Option.getD_some, Option.getD_none, List.drop_zero, Nat.sub_zero, Nat.zero_le, true_and, and_true, Nat.le_refl, chk_of]
      · rw [decide_eq_false (fun h => c1 (hok.1 h).1), Bool.false_and, if_neg (by simp)]
        simp (maxSteps := 2000000) (disch := omega) only [go_sem, doCall, doCallQ, doCallP, Nat.reduceAdd, Nat.reduceMul, Nat.reduceSub, Nat.reduceDiv, Nat.reduceMod, Nat.reduceLT, Nat.reduceLeDiff, Nat.reduceEqDiff, Nat.reduceBEq, Nat.reduceBNe, Int.reduceToNat, Int.reduceLT, Int.reduceLE, Int.reduceEq, Int.reduceNe, Int.reduceAdd, Int.reduceSub, Int.reduceMul, Int.reduceNeg, u30_0, lb30_0, hlt, hi', hw, hg, hlm, show (d.ps[i].ob != d.ob) = true by simp [c1], eq_false c1, not_true, not_false_eq_true, Int.natCast_nonneg, Int.toNat_natCast, Option.getD_some, Option.getD_none, List.drop_zero, Nat.sub_zero, Nat.zero_le, true_and, and_true, Nat.le_refl, chk_of]
  rw [call_eq (fn := ir30) rfl, evF_bnd]
  have hlm : (d.ps.map pcRow).length = d.ps.length := List.length_map ..
  simp (maxSteps := 2000000) (disch := omega) only [go_sem, doCall, doCallQ, doCallP, Nat.reduceAdd, Nat.reduceMul, Nat.reduceSub, Nat.reduceDiv, Nat.reduceMod, Nat.reduceLT, Nat.reduceLeDiff, Nat.reduceEqDiff, Nat.reduceBEq, Nat.reduceBNe, Int.reduceToNat, Int.reduceLT, Int.reduceLE, Int.reduceEq, Int.reduceNe, Int.reduceAdd, Int.reduceSub, Int.reduceMul, Int.reduceNeg, bd30, hlm, Int.natCast_nonneg, Int.toNat_natCast, Option.getD_some, Option.getD_none, List.drop_zero, Nat.sub_zero, Nat.zero_le, true_and, and_true, Nat.le_refl, chk_of]
  rw [loop_step1]; simp (maxSteps := 2000000) only [go_sem, doCall, doCallQ, doCallP, Nat.reduceAdd, Nat.reduceMul, Nat.reduceSub, Nat.reduceDiv, Nat.reduceMod, Nat.reduceLT, Nat.reduceLeDiff, Nat.reduceEqDiff, Nat.reduceBEq, Nat.reduceBNe, Int.reduceToNat, Int.reduceLT, Int.reduceLE, Int.reduceEq, Int.reduceNe, Int.reduceAdd, Int.reduceSub, Int.reduceMul, Int.reduceNeg]
  refine (lp _ _ 0 rfl (Nat.zero_le _)).trans ?_
  unfold oneR
  cases opF d.ob d.ge d.ps 0
  · rw [if_neg (by simp)]
    simp (maxSteps := 2000000) (disch := omega) only [go_sem, doCall, doCallQ, doCallP, Nat.reduceAdd, Nat.reduceMul, Nat.reduceSub, Nat.reduceDiv, Nat.reduceMod, Nat.reduceLT, Nat.reduceLeDiff, Nat.reduceEqDiff, Nat.reduceBEq, Nat.reduceBNe, Int.reduceToNat, Int.reduceLT, Int.reduceLE, Int.reduceEq, Int.reduceNe, Int.reduceAdd, Int.reduceSub, Int.reduceMul, Int.reduceNeg]
  · rw [if_pos rfl]
    simp (maxSteps := 2000000) (disch := omega) only [go_sem, doCall, doCallQ, doCallP, Nat.reduceAdd, Nat.reduceMul, Nat.reduceSub, Nat.reduceDiv, Nat.reduceMod, Nat.reduceLT, Nat.reduceLeDiff, Nat.reduceEqDiff, Nat.reduceBEq, Nat.reduceBNe, Int.reduceToNat, Int.reduceLT, Int.reduceLE, Int.reduceEq, Int.reduceNe, Int.reduceAdd, Int.reduceSub, Int.reduceMul, Int.reduceNeg]
theorem lp_rtH (l : List Hd) (hl : l.length ≤ 1000000000) (hb : ∀ d ∈ l, d.ps.length ≤ 1000000000) (k : Ex → St → Option (AV × Heap)) (i : Nat) (hi : i ≤ l.length) :
    (bnd (evC (call ir) (loop ir) lp8_0 (st8_0 0 (vHs l) (vHs l) (dI l.length) (dI i) [])) (lpC (call ir) (loop ir) [0, 7, 8, 9] lp8_0 k)) = (if rtF l i then k (.exit 0) (clean [] (st8_0 0 .unk .unk .unk .unk []))
      else k .ret (clean [2] ⟨0, [.unk, .unk, dT false, .unk, .unk, .unk, .unk, .unk, .unk, .unk, .unk, .unk, .unk, .unk, .unk, .unk, .unk, .unk, .unk, .unk, .unk, .unk, .unk, .unk, .unk, .unk, .unk, .unk, .unk, .unk, .unk, .unk, .unk, .unk, .unk, .unk, .unk, .unk, .unk, .unk, .unk, .unk, .unk, .unk, .unk, .unk, .unk, .unk, .unk, .unk, .unk, .unk, .unk, .unk, .unk, .unk, .unk, .unk, .unk, .unk, .unk, .unk, .unk, .unk, .unk, .unk, .unk, .unk, .unk], []⟩)) := by
  by_cases h : i = l.length
  · have hx : ¬ (i : Int) < l.length := by omega
    rw [h] at hx
    rw [h, rtF_end]
    simp only [if_true]
    simp (maxSteps := 2000000) (disch := omega) only [go_sem, doCall, doCallQ, doCallP, Nat.reduceAdd, Nat.reduceMul, Nat.reduceSub, Nat.reduceDiv, Nat.reduceMod, Nat.reduceLT, Nat.reduceLeDiff, Nat.reduceEqDiff, Nat.reduceBEq, Nat.reduceBNe, Int.reduceToNat, Int.reduceLT, Int.reduceLE, Int.reduceEq, Int.reduceNe, Int.reduceAdd, Int.reduceSub, Int.reduceMul, Int.reduceNeg, u8_0, lb8_0, hx]
  · have hlt : (i : Int) < l.length := by omega
    have hi' : i < l.length := by omega
    have hw := wr_succ (i := i) (by omega)
    have hg := getHd l hi'
    have hlm : (l.map hdRow).length = l.length := List.length_map ..
    have ih := lp_rtH l hl hb k (i + 1) (by omega)
    have hbd := hb l[i] (List.getElem_mem hi')
    rw [rtF_at hi']
    have hok : okH l i ↔ (i = 0 ∨ (l.getD (i - 1) default).ob < l[i].ob) := by unfold okH; rw [gH hi']
    by_cases c3 : i = 0
    · have c3' := eq_false (show ¬ (0 : Int) < i by omega)
      rw [decide_eq_true (hok.2 (.inl c3)), Bool.and_true]
      generalize l[i] = d at hg hbd ⊢
      have hlp : (d.ps.map pcRow).length = d.ps.length := List.length_map ..
      simp (maxSteps := 2000000) (disch := omega) only [go_sem, doCall, doCallQ, doCallP, Nat.reduceAdd, Nat.reduceMul, Nat.reduceSub, Nat.reduceDiv, Nat.reduceMod, Nat.reduceLT, Nat.reduceLeDiff, Nat.reduceEqDiff, Nat.reduceBEq, Nat.reduceBNe, Int.reduceToNat, Int.reduceLT, Int.reduceLE, Int.reduceEq, Int.reduceNe, Int.reduceAdd, Int.reduceSub, Int.reduceMul, Int.reduceNeg, u8_0, lb8_0, hlt, hi', hw, hg, hlm, hlp, c3', Int.natCast_nonneg, Int.toNat_natCast, Option.getD_some, Option.getD_none, List.drop_zero, Nat.sub_zero, Nat.zero_le, true_and, and_true, Nat.le_refl, chk_of]
      rw [loop_step1]; simp (maxSteps := 2000000) only [go_sem, doCall, doCallQ, doCallP, Nat.reduceAdd, Nat.reduceMul, Nat.reduceSub, Nat.reduceDiv, Nat.reduceMod, Nat.reduceLT, Nat.reduceLeDiff, Nat.reduceEqDiff, Nat.reduceBEq, Nat.reduceBNe, Int.reduceToNat, Int.reduceLT, Int.reduceLE, Int.reduceEq, Int.reduceNe, Int.reduceAdd, Int.reduceSub, Int.reduceMul, Int.reduceNeg]
      refine (lp_rtP l l.length i d hbd _ 0 (Nat.zero_le _)).trans ?_
      unfold oneR
      cases opF d.ob d.ge d.ps 0
      · rw [if_neg (by simp), if_neg (by simp)]
        simp (maxSteps := 2000000) (disch := omega) only [go_sem, doCall, doCallQ, doCallP, Nat.reduceAdd, Nat.reduceMul, Nat.reduceSub, Nat.reduceDiv, Nat.reduceMod, Nat.reduceLT, Nat.reduceLeDiff, Nat.reduceEqDiff, Nat.reduceBEq, Nat.reduceBNe, Int.reduceToNat, Int.reduceLT, Int.reduceLE, Int.reduceEq, Int.reduceNe, Int.reduceAdd, Int.reduceSub, Int.reduceMul, Int.reduceNeg]
      · rw [if_pos rfl, Bool.true_and]
        simp (maxSteps := 2000000) (disch := omega) only [go_sem, doCall, doCallQ, doCallP, Nat.reduceAdd, Nat.reduceMul, Nat.reduceSub, Nat.reduceDiv, Nat.reduceMod, Nat.reduceLT, Nat.reduceLeDiff, Nat.reduceEqDiff, Nat.reduceBEq, Nat.reduceBNe, Int.reduceToNat, Int.reduceLT, Int.reduceLE, Int.reduceEq, Int.reduceNe, Int.reduceAdd, Int.reduceSub, Int.reduceMul, Int.reduceNeg, hw]
        rw [loop_step1]; simp (maxSteps := 2000000) only [go_sem, doCall, doCallQ, doCallP, Nat.reduceAdd, Nat.reduceMul, Nat.reduceSub, Nat.reduceDiv, Nat.reduceMod, Nat.reduceLT, Nat.reduceLeDiff, Nat.reduceEqDiff, Nat.reduceBEq, Nat.reduceBNe, Int.reduceToNat, Int.reduceLT, Int.reduceLE, Int.reduceEq, Int.reduceNe, Int.reduceAdd, Int.reduceSub, Int.reduceMul, Int.reduceNeg]; exact ih
    · have c3' := eq_true (show (0 : Int) < i by omega)
      have hp := pred_eq (i := i) (by omega) (by omega)
      have hi2 : i - 1 < l.length := by omega
      have hg2 := getHd l hi2
      rw [gH hi2] at hok
      by_cases c4 : l[i - 1].ob < l[i].ob
      · have c4' := eq_false (show ¬ l[i].ob ≤ l[i - 1].ob by omega)
        rw [decide_eq_true (hok.2 (.inr c4)), Bool.and_true]
        generalize l[i - 1] = d2 at hg2 c4'
        generalize l[i] = d at hg hbd c4' ⊢
        have hlp : (d.ps.map pcRow).length = d.ps.length := List.length_map ..
        simp (maxSteps := 2000000) (disch := omega) only [go_sem, doCall, doCallQ, doCallP, Nat.reduceAdd, Nat.reduceMul, Nat.reduceSub, Nat.reduceDiv, Nat.reduceMod, Nat.reduceLT, Nat.reduceLeDiff, Nat.reduceEqDiff, Nat.reduceBEq, Nat.reduceBNe, Int.reduceToNat, Int.reduceLT, Int.reduceLE, Int.reduceEq, Int.reduceNe, Int.reduceAdd, Int.reduceSub, Int.reduceMul, Int.reduceNeg, u8_0, lb8_0, hlt, hi', hi2, hp, hw, hg, hg2, hlm, hlp, c3', c4', Int.natCast_nonneg, Int.toNat_natCast, Option.getD_some, Option.getD_none, List.drop_zero, Nat.sub_zero, Nat.zero_le, true_and, and_true, Nat.le_refl, chk_of]
        rw [loop_step1]; simp (maxSteps := 2000000) only [go_sem, doCall, doCallQ, doCallP, Nat.reduceAdd, Nat.reduceMul, Nat.reduceSub, Nat.reduceDiv, Nat.reduceMod, Nat.reduceLT, Nat.reduceLeDiff, Nat.reduceEqDiff, Nat.reduceBEq, Nat.reduceBNe, Int.reduceToNat, Int.reduceLT, Int.reduceLE, Int.reduceEq, Int.reduceNe, Int.reduceAdd, Int.reduceSub, Int.reduceMul, Int.reduceNeg]
        refine (lp_rtP l l.length i d hbd _ 0 (Nat.zero_le _)).trans ?_
        unfold oneR
        cases opF d.ob d.ge d.ps 0
        · rw [if_neg (by simp), if_neg (by simp)]
          simp (maxSteps := 2000000) (disch := omega) only [go_sem, doCall, doCallQ, doCallP, Nat.reduceAdd, Nat.reduceMul, Nat.reduceSub, Nat.reduceDiv, Nat.reduceMod, Nat.reduceLT, Nat.reduceLeDiff, Nat.reduceEqDiff, Nat.reduceBEq, Nat.reduceBNe, Int.reduceToNat, Int.reduceLT, Int.reduceLE, Int.reduceEq, Int.reduceNe, Int.reduceAdd, Int.reduceSub, Int.reduceMul, Int.reduceNeg]
        · rw [if_pos rfl, Bool.true_and]
          simp (maxSteps := 2000000) (disch := omega) only [go_sem, doCall, doCallQ, doCallP, Nat.reduceAdd, Nat.reduceMul, Nat.reduceSub, Nat.reduceDiv, Nat.reduceMod, Nat.reduceLT, Nat.reduceLeDiff, Nat.reduceEqDiff, Nat.reduceBEq, Nat.reduceBNe, Int.reduceToNat, Int.reduceLT, Int.reduceLE, Int.reduceEq, Int.reduceNe, Int.reduceAdd, Int.reduceSub, Int.reduceMul, Int.reduceNeg, hw]
          rw [loop_step1]; simp (maxSteps := 2000000) only [go_sem, doCall, doCallQ, doCallP, Nat.reduceAdd, Nat.reduceMul, Nat.reduceSub, Nat.reduceDiv, Nat.reduceMod, Nat.reduceLT, Nat.reduceLeDiff, Nat.reduceEqDiff, Nat.reduceBEq, Nat.reduceBNe, Int.reduceToNat, Int.reduceLT, Int.reduceLE, Int.reduceEq, Int.reduceNe, Int.reduceAdd, Int.reduceSub, Int.reduceMul, Int.reduceNeg]; exact ih
      · have c4' := eq_true (show l[i].ob ≤ l[i - 1].ob by omega)
        rw [decide_eq_false (fun h => by have := hok.1 h; omega), Bool.and_false, Bool.false_and, if_neg (by simp)]
        generalize l[i - 1] = d2 at hg2 c4'
        generalize l[i] = d at hg c4'
        simp (maxSteps := 2000000) (disch := omega) only [go_sem, doCall, doCallQ, doCallP, Nat.reduceAdd, Nat.reduceMul, Nat.reduceSub, Nat.reduceDiv, Nat.reduceMod, Nat.reduceLT, Nat.reduceLeDiff, Nat.reduceEqDiff, Nat.reduceBEq, Nat.reduceBNe, Int.reduceToNat, Int.reduceLT, Int.reduceLE, Int.reduceEq, Int.reduceNe, Int.reduceAdd, Int.reduceSub, Int.reduceMul, Int.reduceNeg, u8_0, lb8_0, hlt, hi', hi2, hp, hw, hg, hg2, hlm, c3', c4', Int.natCast_nonneg, Int.toNat_natCast, Option.getD_some, Option.getD_none, List.drop_zero, Nat.sub_zero, Nat.zero_le, true_and, and_true, Nat.le_refl, chk_of]
termination_by l.length - i
theorem t_lright (l : List Hd) (hl : l.length ≤ 1000000000) (hb : ∀ d ∈ l, d.ps.length ≤ 1000000000) : call ir 8 [vHs l] [] = some (dT (rtR l), []) := by
  rw [call_eq (fn := ir8) rfl, evF_bnd]
  have hlm : (l.map hdRow).length = l.length := List.length_map ..
  simp (maxSteps := 2000000) (disch := omega) only [go_sem, doCall, doCallQ, doCallP, Nat.reduceAdd, Nat.reduceMul, Nat.reduceSub, Nat.reduceDiv, Nat.reduceMod, Nat.reduceLT, Nat.reduceLeDiff, Nat.reduceEqDiff, Nat.reduceBEq, Nat.reduceBNe, Int.reduceToNat, Int.reduceLT, Int.reduceLE, Int.reduceEq, Int.reduceNe, Int.reduceAdd, Int.reduceSub, Int.reduceMul, Int.reduceNeg, bd8, hlm, chk_of]
  rw [loop_step1]; simp (maxSteps := 2000000) only [go_sem, doCall, doCallQ, doCallP, Nat.reduceAdd, Nat.reduceMul, Nat.reduceSub, Nat.reduceDiv, Nat.reduceMod, Nat.reduceLT, Nat.reduceLeDiff, Nat.reduceEqDiff, Nat.reduceBEq, Nat.reduceBNe, Int.reduceToNat, Int.reduceLT, Int.reduceLE, Int.reduceEq, Int.reduceNe, Int.reduceAdd, Int.reduceSub, Int.reduceMul, Int.reduceNeg]
  refine (lp_rtH l hl hb _ 0 (Nat.zero_le _)).trans ?_
  unfold rtR
  cases rtF l 0
  · rw [if_neg (by simp)]
    simp (maxSteps := 2000000) (disch := omega) only [go_sem, doCall, doCallQ, doCallP, Nat.reduceAdd, Nat.reduceMul, Nat.reduceSub, Nat.reduceDiv, Nat.reduceMod, Nat.reduceLT, Nat.reduceLeDiff, Nat.reduceEqDiff, Nat.reduceBEq, Nat.reduceBNe, Int.reduceToNat, Int.reduceLT, Int.reduceLE, Int.reduceEq, Int.reduceNe, Int.reduceAdd, Int.reduceSub, Int.reduceMul, Int.reduceNeg]
  · rw [if_pos rfl]
    simp (maxSteps := 2000000) (disch := omega) only [go_sem, doCall, doCallQ, doCallP, Nat.reduceAdd, Nat.reduceMul, Nat.reduceSub, Nat.reduceDiv, Nat.reduceMod, Nat.reduceLT, Nat.reduceLeDiff, Nat.reduceEqDiff, Nat.reduceBEq, Nat.reduceBNe, Int.reduceToNat, Int.reduceLT, Int.reduceLE, Int.reduceEq, Int.reduceNe, Int.reduceAdd, Int.reduceSub, Int.reduceMul, Int.reduceNeg]
end Go.Proofs.Ytbcpffhialoliaa
