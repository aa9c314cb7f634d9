/- Short words for data, bytes as numbers. Own work. What is held, as rows; the law's own functions. Own work. Right, twice. Own work. diff.Right at data and at an own slice; find, at. Own work. Clones, copied, find, DeleteFunc and the sort at what is held. Own work. DeleteFunc and the sort at what is held. Own work. The law's changes: they rise or not; what is gone. Own work. Apply at the law's changes. Own work. Bodies; changed, where nothing is held. Own work. -/
import Derived.Test.YtbcpffhialoliaaEvArg
import Derived.Test.YtbcpffhialoliaaIrC
import Derived.Test.YtbcpffhialoliaaEvNatX
namespace Go.Proofs.Ytbcpffhialoliaa
open Go Go.Ev
set_option linter.unusedSimpArgs false
set_option linter.unusedVariables false
abbrev dB (b : UInt8) : AV := .d (.int .u8 b.toNat)
abbrev dS (s : List UInt8) : AV := .d (.str s)
abbrev dI (n : Int) : AV := .d (.int .i64 n)
abbrev dT (b : Bool) : AV := .d (.bool b)
theorem u8_u8 (b c : UInt8) : ((b.toNat : Int) = (c.toNat : Int)) = (b = c) := propext ⟨fun e => UInt8.toNat_inj.1 (by omega), fun e => by rw [e]⟩
end Go.Proofs.Ytbcpffhialoliaa
namespace Go.Proofs.Ytbcpffhialoliaa
open Go Go.Ev Go.Proofs.Ytbcpffhialoliaa.Ir
set_option maxRecDepth 100000
set_option maxHeartbeats 4000000
set_option linter.unusedSimpArgs false
set_option linter.unusedVariables false
def bB (s : List UInt8) : List (List D) := s.map fun b => [.int .u8 b.toNat]
theorem bB_len (s : List UInt8) : (bB s).length = s.length := List.length_map ..
structure Pc where
  ob : Int
  ge : Int
  ix : Int
  bd : List UInt8
structure Hd where
  ob : Int
  ge : Int
  tg : List UInt8
  le : Int
  ti : Int
  ps : List Pc
instance : Inhabited Pc := ⟨⟨0, 0, 0, []⟩⟩
instance : Inhabited Hd := ⟨⟨0, 0, [], 0, 0, []⟩⟩
def pcRow (p : Pc) : List D := [.int .i64 p.ob, .int .i64 p.ge, .int .i64 p.ix, .list 1 (bB p.bd)]
def hdRow (h : Hd) : List D := [.int .i64 h.ob, .int .i64 h.ge, .str h.tg, .int .i64 h.le, .int .i64 h.ti, .list 4 (h.ps.map pcRow)]
abbrev vPs (l : List Pc) : AV := .d (.list 4 (l.map pcRow))
abbrev vHs (l : List Hd) : AV := .d (.list 6 (l.map hdRow))
abbrev vHd (h : Hd) : AV := .agg [dI h.ob, dI h.ge, dS h.tg, dI h.le, dI h.ti, vPs h.ps]
theorem getPc (l : List Pc) {i : Nat} (h : i < l.length) : (l.map pcRow).getD i [] = [.int .i64 l[i].ob, .int .i64 l[i].ge, .int .i64 l[i].ix, .list 1 (bB l[i].bd)] := by simp [List.getD_eq_getElem?_getD, h, pcRow]
theorem getHd (l : List Hd) {i : Nat} (h : i < l.length) : (l.map hdRow).getD i [] = [.int .i64 l[i].ob, .int .i64 l[i].ge, .str l[i].tg, .int .i64 l[i].le, .int .i64 l[i].ti, .list 4 (l[i].ps.map pcRow)] := by simp [List.getD_eq_getElem?_getD, h, hdRow]
theorem gP {l : List Pc} {i : Nat} (h : i < l.length) : l.getD i default = l[i] := by simp [List.getD_eq_getElem?_getD, h]
theorem gH {l : List Hd} {i : Nat} (h : i < l.length) : l.getD i default = l[i] := by simp [List.getD_eq_getElem?_getD, h]
theorem pred_eq {i : Nat} (h : 0 < i) (h2 : i < 9223372036854775807) : wr .i64 ((i : Int) - 1) = ((i - 1 : Nat) : Int) := by rw [wr_id (by omega)]; omega
/-- Little is held. -/
def fwP : List Pc → Bool
  | [] => true
  | p :: l => if decide (p.bd.length ≤ 100) then fwP l else false
def fwH : List Hd → Bool
  | [] => true
  | h :: l => if decide (h.ps.length ≤ 20) && decide (h.tg.length ≤ 100) && fwP h.ps then fwH l else false
theorem fwP_drop {l : List Pc} {i : Nat} (h : i < l.length) : fwP (l.drop i) = if decide (l[i].bd.length ≤ 100) then fwP (l.drop (i + 1)) else false := by
  rw [List.drop_eq_getElem_cons h]; rfl
theorem fwH_drop {l : List Hd} {i : Nat} (h : i < l.length) : fwH (l.drop i) = if decide (l[i].ps.length ≤ 20) && decide (l[i].tg.length ≤ 100) && fwP l[i].ps then fwH (l.drop (i + 1)) else false := by
  rw [List.drop_eq_getElem_cons h]; rfl
theorem lp_fewP (L : List Hd) (n : Nat) (i0 : Nat) (l : List Pc) (hl : l.length ≤ 1000) (k : Ex → St → Option (AV × Heap)) (i : Nat) (hi : i ≤ l.length) :
    (bnd (evC (call ir) (loop ir) lp7_1 (st7_1 0 (vHs L) (vHs L) (dI n) (dI i0) (vPs l) (dI l.length) (dI i) [])) (lpC (call ir) (loop ir) [0, 7, 8, 9, 25, 26, 27] lp7_1 k)) = (if fwP (l.drop i) then k (.exit 2) (clean [0, 7, 8, 9] (st7_1 0 (vHs L) (vHs L) (dI n) (dI i0) .unk .unk .unk []))
      else k .ret (clean [2] ⟨0, [.unk, .unk, dT false, .unk, .unk, .unk, .unk, .unk, .unk, .unk, .unk, .unk, .unk, .unk, .unk, .unk, .unk, .unk, .unk, .unk, .unk, .unk, .unk, .unk, .unk, .unk, .unk, .unk, .unk, .unk, .unk, .unk, .unk, .unk, .unk, .unk, .unk, .unk, .unk, .unk], []⟩)) := by
  by_cases h : i = l.length
  · have hx : ¬ (i : Int) < l.length := by omega
    rw [h] at hx
    rw [h, List.drop_length]
    simp only [fwP, if_true]
    simp (maxSteps := 2000000) (disch := omega) only [go_sem, doCall, doCallQ, doCallP, Nat.reduceAdd, Nat.reduceMul, Nat.reduceSub, Nat.reduceDiv, Nat.reduceMod, Nat.reduceLT, Nat.reduceLeDiff, Nat.reduceEqDiff, Nat.reduceBEq, Nat.reduceBNe, Int.reduceToNat, Int.reduceLT, Int.reduceLE, Int.reduceEq, Int.reduceNe, Int.reduceAdd, Int.reduceSub, Int.reduceMul, Int.reduceNeg, u7_1, lb7_1, hx]
  · have hlt : (i : Int) < l.length := by omega
    have hi' : i < l.length := by omega
    have hw := wr_succ (i := i) (by omega)
    have hg := getPc l hi'
    have hlm : (l.map pcRow).length = l.length := List.length_map ..
    rw [fwP_drop hi']
    generalize l[i] = d at hg ⊢
    have ih := lp_fewP L n i0 l hl k (i + 1) (by omega)
    by_cases c1 : d.bd.length ≤ 100
    · have c1' := eq_false (show ¬ (100 : Int) < d.bd.length by omega)
      rw [decide_eq_true c1, if_pos rfl]
      simp (maxSteps := 2000000) (disch := omega) only [go_sem, doCall, doCallQ, doCallP, Nat.reduceAdd, Nat.reduceMul, Nat.reduceSub, Nat.reduceDiv, Nat.reduceMod, Nat.reduceLT, Nat.reduceLeDiff, Nat.reduceEqDiff, Nat.reduceBEq, Nat.reduceBNe, Int.reduceToNat, Int.reduceLT, Int.reduceLE, Int.reduceEq, Int.reduceNe, Int.reduceAdd, Int.reduceSub, Int.reduceMul, Int.reduceNeg, u7_1, lb7_1, hlt, hi', hw, hg, hlm, c1', bB_len, Int.natCast_nonneg, Int.toNat_natCast, Option.getD_some, Option.getD_none, List.drop_zero, Nat.sub_zero, Nat.zero_le, true_and, and_true, Nat.le_refl, chk_of]
      rw [loop_step1]; simp (maxSteps := 2000000) only [go_sem, doCall, doCallQ, doCallP, Nat.reduceAdd, Nat.reduceMul, Nat.reduceSub, Nat.reduceDiv, Nat.reduceMod, Nat.reduceLT, Nat.reduceLeDiff, Nat.reduceEqDiff, Nat.reduceBEq, Nat.reduceBNe, Int.reduceToNat, Int.reduceLT, Int.reduceLE, Int.reduceEq, Int.reduceNe, Int.reduceAdd, Int.reduceSub, Int.reduceMul, Int.reduceNeg]; exact ih
    · have c1' := eq_true (show (100 : Int) < d.bd.length by omega)
      rw [decide_eq_false c1, if_neg (by simp)]
      simp (maxSteps := 2000000) (disch := omega) only [go_sem, doCall, doCallQ, doCallP, Nat.reduceAdd, Nat.reduceMul, Nat.reduceSub, Nat.reduceDiv, Nat.reduceMod, Nat.reduceLT, Nat.reduceLeDiff, Nat.reduceEqDiff, Nat.reduceBEq, Nat.reduceBNe, Int.reduceToNat, Int.reduceLT, Int.reduceLE, Int.reduceEq, Int.reduceNe, Int.reduceAdd, Int.reduceSub, Int.reduceMul, Int.reduceNeg, u7_1, lb7_1, hlt, hi', hw, hg, hlm, c1', bB_len, Int.natCast_nonneg, Int.toNat_natCast, Option.getD_some, Option.getD_none, List.drop_zero, Nat.sub_zero, Nat.zero_le, true_and, and_true, Nat.le_refl, chk_of]
termination_by l.length - i
theorem lp_fewH (l : List Hd) (hl : l.length ≤ 1000000000000000) (k : Ex → St → Option (AV × Heap)) (i : Nat) (hi : i ≤ l.length) :
    (bnd (evC (call ir) (loop ir) lp7_0 (st7_0 0 (vHs l) (vHs l) (dI l.length) (dI i) [])) (lpC (call ir) (loop ir) [0, 7, 8, 9] lp7_0 k)) = (if fwH (l.drop i) then k (.exit 0) (clean [0] (st7_0 0 (vHs l) .unk .unk .unk []))
      else k .ret (clean [2] ⟨0, [.unk, .unk, dT false, .unk, .unk, .unk, .unk, .unk, .unk, .unk, .unk, .unk, .unk, .unk, .unk, .unk, .unk, .unk, .unk, .unk, .unk, .unk, .unk, .unk, .unk, .unk, .unk, .unk, .unk, .unk, .unk, .unk, .unk, .unk, .unk, .unk, .unk, .unk, .unk, .unk], []⟩)) := by
  by_cases h : i = l.length
  · have hx : ¬ (i : Int) < l.length := by omega
    rw [h] at hx
    rw [h, List.drop_length]
    simp only [fwH, if_true]
    simp (maxSteps := 2000000) (disch := omega) only [go_sem, doCall, doCallQ, doCallP, Nat.reduceAdd, Nat.reduceMul, Nat.reduceSub, Nat.reduceDiv, Nat.reduceMod, Nat.reduceLT, Nat.reduceLeDiff, Nat.reduceEqDiff, Nat.reduceBEq, Nat.reduceBNe, Int.reduceToNat, Int.reduceLT, Int.reduceLE, Int.reduceEq, Int.reduceNe, Int.reduceAdd, Int.reduceSub, Int.reduceMul, Int.reduceNeg, u7_0, lb7_0, hx]
  · have hlt : (i : Int) < l.length := by omega
    have hi' : i < l.length := by omega
    have hw := wr_succ (i := i) (by omega)
    have hg := getHd l hi'
    have hlm : (l.map hdRow).length = l.length := List.length_map ..
    rw [fwH_drop hi']
    generalize l[i] = d at hg ⊢
    have hlp : (d.ps.map pcRow).length = d.ps.length := List.length_map ..
    have ih := lp_fewH l hl k (i + 1) (by omega)
    by_cases c1 : d.ps.length ≤ 20
    · have c1' := eq_false (show ¬ (20 : Int) < d.ps.length by omega)
      rw [decide_eq_true c1, Bool.true_and]
      by_cases c2 : d.tg.length ≤ 100
      · have c2' := eq_false (show ¬ (100 : Int) < d.tg.length by omega)
        rw [decide_eq_true c2, Bool.true_and]
        simp (maxSteps := 2000000) (disch := omega) only [go_sem, doCall, doCallQ, doCallP, Nat.reduceAdd, Nat.reduceMul, Nat.reduceSub, Nat.reduceDiv, Nat.reduceMod, Nat.reduceLT, Nat.reduceLeDiff, Nat.reduceEqDiff, Nat.reduceBEq, Nat.reduceBNe, Int.reduceToNat, Int.reduceLT, Int.reduceLE, Int.reduceEq, Int.reduceNe, Int.reduceAdd, Int.reduceSub, Int.reduceMul, Int.reduceNeg, u7_0, lb7_0, hlt, hi', hw, hg, hlm, hlp, c1', c2', Int.natCast_nonneg, Int.toNat_natCast, Option.getD_some, Option.getD_none, List.drop_zero, Nat.sub_zero, Nat.zero_le, true_and, and_true, Nat.le_refl, chk_of]
        rw [loop_step1]; simp (maxSteps := 2000000) only [go_sem, doCall, doCallQ, doCallP, Nat.reduceAdd, Nat.reduceMul, Nat.reduceSub, Nat.reduceDiv, Nat.reduceMod, Nat.reduceLT, Nat.reduceLeDiff, Nat.reduceEqDiff, Nat.reduceBEq, Nat.reduceBNe, Int.reduceToNat, Int.reduceLT, Int.reduceLE, Int.reduceEq, Int.reduceNe, Int.reduceAdd, Int.reduceSub, Int.reduceMul, Int.reduceNeg]
        refine (lp_fewP l l.length i d.ps (by omega) _ 0 (Nat.zero_le _)).trans ?_
        rw [List.drop_zero]
        cases hf : fwP d.ps
        · rw [if_neg (by simp), if_neg (by simp)]
          simp (maxSteps := 2000000) (disch := omega) only [go_sem, doCall, doCallQ, doCallP, Nat.reduceAdd, Nat.reduceMul, Nat.reduceSub, Nat.reduceDiv, Nat.reduceMod, Nat.reduceLT, Nat.reduceLeDiff, Nat.reduceEqDiff, Nat.reduceBEq, Nat.reduceBNe, Int.reduceToNat, Int.reduceLT, Int.reduceLE, Int.reduceEq, Int.reduceNe, Int.reduceAdd, Int.reduceSub, Int.reduceMul, Int.reduceNeg]
        · rw [if_pos rfl, if_pos rfl]
          simp (maxSteps := 2000000) (disch := omega) only [go_sem, doCall, doCallQ, doCallP, Nat.reduceAdd, Nat.reduceMul, Nat.reduceSub, Nat.reduceDiv, Nat.reduceMod, Nat.reduceLT, Nat.reduceLeDiff, Nat.reduceEqDiff, Nat.reduceBEq, Nat.reduceBNe, Int.reduceToNat, Int.reduceLT, Int.reduceLE, Int.reduceEq, Int.reduceNe, Int.reduceAdd, Int.reduceSub, Int.reduceMul, Int.reduceNeg, hw]
          rw [loop_step1]; simp (maxSteps := 2000000) only [go_sem, doCall, doCallQ, doCallP, Nat.reduceAdd, Nat.reduceMul, Nat.reduceSub, Nat.reduceDiv, Nat.reduceMod, Nat.reduceLT, Nat.reduceLeDiff, Nat.reduceEqDiff, Nat.reduceBEq, Nat.reduceBNe, Int.reduceToNat, Int.reduceLT, Int.reduceLE, Int.reduceEq, Int.reduceNe, Int.reduceAdd, Int.reduceSub, Int.reduceMul, Int.reduceNeg]; exact ih
      · have c2' := eq_true (show (100 : Int) < d.tg.length by omega)
        rw [decide_eq_false c2, Bool.false_and, if_neg (by simp)]
        simp (maxSteps := 2000000) (disch := omega) only [go_sem, doCall, doCallQ, doCallP, Nat.reduceAdd, Nat.reduceMul, Nat.reduceSub, Nat.reduceDiv, Nat.reduceMod, Nat.reduceLT, Nat.reduceLeDiff, Nat.reduceEqDiff, Nat.reduceBEq, Nat.reduceBNe, Int.reduceToNat, Int.reduceLT, Int.reduceLE, Int.reduceEq, Int.reduceNe, Int.reduceAdd, Int.reduceSub, Int.reduceMul, Int.reduceNeg, u7_0, lb7_0, hlt, hi', hw, hg, hlm, hlp, c1', c2', Int.natCast_nonneg, Int.toNat_natCast, Option.getD_some, Option.getD_none, List.drop_zero, Nat.sub_zero, Nat.zero_le, true_and, and_true, Nat.le_refl, chk_of]
    · have c1' := eq_true (show (20 : Int) < d.ps.length by omega)
      rw [decide_eq_false c1, Bool.false_and, Bool.false_and, if_neg (by simp)]
      simp (maxSteps := 2000000) (disch := omega) only [go_sem, doCall, doCallQ, doCallP, Nat.reduceAdd, Nat.reduceMul, Nat.reduceSub, Nat.reduceDiv, Nat.reduceMod, Nat.reduceLT, Nat.reduceLeDiff, Nat.reduceEqDiff, Nat.reduceBEq, Nat.reduceBNe, Int.reduceToNat, Int.reduceLT, Int.reduceLE, Int.reduceEq, Int.reduceNe, Int.reduceAdd, Int.reduceSub, Int.reduceMul, Int.reduceNeg, u7_0, lb7_0, hlt, hi', hw, hg, hlm, hlp, c1', Int.natCast_nonneg, Int.toNat_natCast, Option.getD_some, Option.getD_none, List.drop_zero, Nat.sub_zero, Nat.zero_le, true_and, and_true, Nat.le_refl, chk_of]
termination_by l.length - i
theorem t_few48 (l : List Hd) (hl : l.length ≤ 1000000000000000) : call ir 7 [vHs l] [] = some (dT (fwH l && decide (l.length ≤ 20)), []) := by
  rw [call_eq (fn := ir7) rfl, evF_bnd]
  have hlm : (l.map hdRow).length = l.length := List.length_map ..
  simp (maxSteps := 2000000) (disch := omega) only [go_sem, doCall, doCallQ, doCallP, Nat.reduceAdd, Nat.reduceMul, Nat.reduceSub, Nat.reduceDiv, Nat.reduceMod, Nat.reduceLT, Nat.reduceLeDiff, Nat.reduceEqDiff, Nat.reduceBEq, Nat.reduceBNe, Int.reduceToNat, Int.reduceLT, Int.reduceLE, Int.reduceEq, Int.reduceNe, Int.reduceAdd, Int.reduceSub, Int.reduceMul, Int.reduceNeg, bd7, hlm, chk_of]
  rw [loop_step1]; simp (maxSteps := 2000000) only [go_sem, doCall, doCallQ, doCallP, Nat.reduceAdd, Nat.reduceMul, Nat.reduceSub, Nat.reduceDiv, Nat.reduceMod, Nat.reduceLT, Nat.reduceLeDiff, Nat.reduceEqDiff, Nat.reduceBEq, Nat.reduceBNe, Int.reduceToNat, Int.reduceLT, Int.reduceLE, Int.reduceEq, Int.reduceNe, Int.reduceAdd, Int.reduceSub, Int.reduceMul, Int.reduceNeg]
  refine (lp_fewH l hl _ 0 (Nat.zero_le _)).trans ?_
  rw [List.drop_zero]
  cases h1 : fwH l
  · rw [if_neg (by simp)]
    simp (maxSteps := 2000000) (disch := omega) only [go_sem, doCall, doCallQ, doCallP, Nat.reduceAdd, Nat.reduceMul, Nat.reduceSub, Nat.reduceDiv, Nat.reduceMod, Nat.reduceLT, Nat.reduceLeDiff, Nat.reduceEqDiff, Nat.reduceBEq, Nat.reduceBNe, Int.reduceToNat, Int.reduceLT, Int.reduceLE, Int.reduceEq, Int.reduceNe, Int.reduceAdd, Int.reduceSub, Int.reduceMul, Int.reduceNeg, Bool.false_and]
  · rw [if_pos rfl]
    by_cases h2 : l.length ≤ 20
    · have h2' := eq_true (show (l.length : Int) ≤ 20 by omega)
      rw [decide_eq_true h2]
      simp (maxSteps := 2000000) (disch := omega) only [go_sem, doCall, doCallQ, doCallP, Nat.reduceAdd, Nat.reduceMul, Nat.reduceSub, Nat.reduceDiv, Nat.reduceMod, Nat.reduceLT, Nat.reduceLeDiff, Nat.reduceEqDiff, Nat.reduceBEq, Nat.reduceBNe, Int.reduceToNat, Int.reduceLT, Int.reduceLE, Int.reduceEq, Int.reduceNe, Int.reduceAdd, Int.reduceSub, Int.reduceMul, Int.reduceNeg, hlm, h2', Bool.true_and, chk_of]
    · have h2' := eq_false (show ¬ (l.length : Int) ≤ 20 by omega)
      rw [decide_eq_false h2]
      simp (maxSteps := 2000000) (disch := omega) only [go_sem, doCall, doCallQ, doCallP, Nat.reduceAdd, Nat.reduceMul, Nat.reduceSub, Nat.reduceDiv, Nat.reduceMod, Nat.reduceLT, Nat.reduceLeDiff, Nat.reduceEqDiff, Nat.reduceBEq, Nat.reduceBNe, Int.reduceToNat, Int.reduceLT, Int.reduceLE, Int.reduceEq, Int.reduceNe, Int.reduceAdd, Int.reduceSub, Int.reduceMul, Int.reduceNeg, hlm, h2', Bool.true_and, chk_of]
/-- Right pieces, right things held. -/
def okP (ob ge : Int) (l : List Pc) (i : Nat) : Prop := (l.getD i default).ob = ob ∧ (l.getD i default).ge = ge ∧ (i = 0 ∨ (l.getD (i - 1) default).ix < (l.getD i default).ix)
instance (ob ge : Int) (l : List Pc) (i : Nat) : Decidable (okP ob ge l i) := by unfold okP; infer_instance
/-- From place i on. -/
def opF (ob ge : Int) (l : List Pc) (i : Nat) : Bool := if h : i < l.length then decide (okP ob ge l i) && opF ob ge l (i + 1) else true
termination_by l.length - i
def oneR (h : Hd) : Bool := opF h.ob h.ge h.ps 0
def okH (l : List Hd) (i : Nat) : Prop := i = 0 ∨ (l.getD (i - 1) default).ob < (l.getD i default).ob
instance (l : List Hd) (i : Nat) : Decidable (okH l i) := by unfold okH; infer_instance
def rtF (l : List Hd) (i : Nat) : Bool := if h : i < l.length then oneR l[i] && decide (okH l i) && rtF l (i + 1) else true
termination_by l.length - i
def rtR (l : List Hd) : Bool := rtF l 0
theorem opF_end (ob ge : Int) (l : List Pc) : opF ob ge l l.length = true := by rw [opF, dif_neg (by omega)]
theorem opF_at {ob ge : Int} {l : List Pc} {i : Nat} (h : i < l.length) : opF ob ge l i = (decide (okP ob ge l i) && opF ob ge l (i + 1)) := by rw [opF, dif_pos h]
theorem rtF_end (l : List Hd) : rtF l l.length = true := by rw [rtF, dif_neg (by omega)]
theorem rtF_at {l : List Hd} {i : Nat} (h : i < l.length) : rtF l i = (oneR l[i] && decide (okH l i) && rtF l (i + 1)) := by rw [rtF, dif_pos h]
end Go.Proofs.Ytbcpffhialoliaa
namespace Go.Proofs.Ytbcpffhialoliaa
open Go Go.Ev Go.Proofs.Ytbcpffhialoliaa.Ir
set_option maxRecDepth 100000
set_option maxHeartbeats 4000000
set_option linter.unusedSimpArgs false
set_option linter.unusedVariables false
theorem lp_rtP (L : List Hd) (n : Nat) (i0 : Nat) (d : Hd) (hl : d.ps.length ≤ 1000000000) (k : Ex → St → Option (AV × Heap)) (i : Nat) (hi : i ≤ d.ps.length) :
    (bnd (evC (call ir) (loop ir) lp8_1 (st8_1 0 (vHs L) (.ptr 0 0) (vHs L) (dI n) (dI i0) (vPs d.ps) (dI d.ps.length) (dI i) [.dbox [.int .i64 d.ob, .int .i64 d.ge, .str d.tg, .int .i64 d.le, .int .i64 d.ti, .list 4 (d.ps.map pcRow)]])) (lpC (call ir) (loop ir) [0, 4, 7, 8, 9, 30, 31, 32] lp8_1 k)) = (if opF d.ob d.ge d.ps i then k (.exit 2) (clean [0, 7, 8, 9] (st8_1 0 (vHs L) .unk (vHs L) (dI n) (dI i0) .unk .unk .unk []))
      else k .ret (clean [2] ⟨0, [.unk, .unk, dT false, .unk, .unk, .unk, .unk, .unk, .unk, .unk, .unk, .unk, .unk, .unk, .unk, .unk, .unk, .unk, .unk, .unk, .unk, .unk, .unk, .unk, .unk, .unk, .unk, .unk, .unk, .unk, .unk, .unk, .unk, .unk, .unk, .unk, .unk, .unk, .unk, .unk, .unk, .unk, .unk, .unk, .unk, .unk, .unk, .unk, .unk, .unk, .unk, .unk, .unk, .unk, .unk, .unk, .unk, .unk, .unk, .unk, .unk, .unk, .unk, .unk, .unk, .unk, .unk, .unk, .unk], []⟩)) := by
  by_cases h : i = d.ps.length
  · have hx : ¬ (i : Int) < d.ps.length := by omega
    rw [h] at hx
    rw [h, opF_end]
    simp only [if_true]
    simp (maxSteps := 2000000) (disch := omega) only [go_sem, doCall, doCallQ, doCallP, Nat.reduceAdd, Nat.reduceMul, Nat.reduceSub, Nat.reduceDiv, Nat.reduceMod, Nat.reduceLT, Nat.reduceLeDiff, Nat.reduceEqDiff, Nat.reduceBEq, Nat.reduceBNe, Int.reduceToNat, Int.reduceLT, Int.reduceLE, Int.reduceEq, Int.reduceNe, Int.reduceAdd, Int.reduceSub, Int.reduceMul, Int.reduceNeg, u8_1, lb8_1, hx]
  · have hlt : (i : Int) < d.ps.length := by omega
    have hi' : i < d.ps.length := by omega
    have hw := wr_succ (i := i) (by omega)
    have hg := getPc d.ps hi'
    have hlm : (d.ps.map pcRow).length = d.ps.length := List.length_map ..
    have ih := lp_rtP L n i0 d hl k (i + 1) (by omega)
    rw [opF_at hi']
    have hok : okP d.ob d.ge d.ps i ↔ (d.ps[i].ob = d.ob ∧ d.ps[i].ge = d.ge ∧ (i = 0 ∨ (d.ps.getD (i - 1) default).ix < d.ps[i].ix)) := by unfold okP; rw [gP hi']
    by_cases c1 : d.ps[i].ob = d.ob
    · by_cases c2 : d.ps[i].ge = d.ge
      · by_cases c3 : i = 0
        · have c3' := eq_false (show ¬ (0 : Int) < i by omega)
          rw [decide_eq_true (hok.2 ⟨c1, c2, .inl c3⟩), Bool.true_and]
          simp (maxSteps := 2000000) (disch := omega) only [go_sem, doCall, doCallQ, doCallP, Nat.reduceAdd, Nat.reduceMul, Nat.reduceSub, Nat.reduceDiv, Nat.reduceMod, Nat.reduceLT, Nat.reduceLeDiff, Nat.reduceEqDiff, Nat.reduceBEq, Nat.reduceBNe, Int.reduceToNat, Int.reduceLT, Int.reduceLE, Int.reduceEq, Int.reduceNe, Int.reduceAdd, Int.reduceSub, Int.reduceMul, Int.reduceNeg, u8_1, lb8_1, hlt, hi', hw, hg, hlm, c3', show (d.ps[i].ob != d.ob) = false by simp [c1], show (d.ps[i].ge != d.ge) = false by simp [c2], eq_true c1, eq_true c2, not_true, Int.natCast_nonneg, Int.toNat_natCast, Option.getD_some, Option.getD_none, List.drop_zero, Nat.sub_zero, Nat.zero_le, true_and, and_true, Nat.le_refl, chk_of]
          rw [loop_step1]; simp (maxSteps := 2000000) only [go_sem, doCall, doCallQ, doCallP, Nat.reduceAdd, Nat.reduceMul, Nat.reduceSub, Nat.reduceDiv, Nat.reduceMod, Nat.reduceLT, Nat.reduceLeDiff, Nat.reduceEqDiff, Nat.reduceBEq, Nat.reduceBNe, Int.reduceToNat, Int.reduceLT, Int.reduceLE, Int.reduceEq, Int.reduceNe, Int.reduceAdd, Int.reduceSub, Int.reduceMul, Int.reduceNeg]; exact ih
        · have c3' := eq_true (show (0 : Int) < i by omega)
          have hp := pred_eq (i := i) (by omega) (by omega)
          have hi2 : i - 1 < d.ps.length := by omega
          have hg2 := getPc d.ps hi2
          rw [gP hi2] at hok
          by_cases c4 : d.ps[i - 1].ix < d.ps[i].ix
          · have c4' := eq_false (show ¬ d.ps[i].ix ≤ d.ps[i - 1].ix by omega)
            rw [decide_eq_true (hok.2 ⟨c1, c2, .inr c4⟩), Bool.true_and]
            simp (maxSteps := 2000000) (disch := omega) only [go_sem, doCall, doCallQ, doCallP, Nat.reduceAdd, Nat.reduceMul, Nat.reduceSub, Nat.reduceDiv, Nat.reduceMod, Nat.reduceLT, Nat.reduceLeDiff, Nat.reduceEqDiff, Nat.reduceBEq, Nat.reduceBNe, Int.reduceToNat, Int.reduceLT, Int.reduceLE, Int.reduceEq, Int.reduceNe, Int.reduceAdd, Int.reduceSub, Int.reduceMul, Int.reduceNeg, u8_1, lb8_1, hlt, hi', hi2, hp, hw, hg, hg2, hlm, c3', c4', show (d.ps[i].ob != d.ob) = false by simp [c1], show (d.ps[i].ge != d.ge) = false by simp [c2], eq_true c1, eq_true c2, not_true, Int.natCast_nonneg, Int.toNat_natCast, Option.getD_some, Option.getD_none, List.drop_zero, Nat.sub_zero, Nat.zero_le, true_and, and_true, Nat.le_refl, chk_of]
            rw [loop_step1]; simp (maxSteps := 2000000) only [go_sem, doCall, doCallQ, doCallP, Nat.reduceAdd, Nat.reduceMul, Nat.reduceSub, Nat.reduceDiv, Nat.reduceMod, Nat.reduceLT, Nat.reduceLeDiff, Nat.reduceEqDiff, Nat.reduceBEq, Nat.reduceBNe, Int.reduceToNat, Int.reduceLT, Int.reduceLE, Int.reduceEq, Int.reduceNe, Int.reduceAdd, Int.reduceSub, Int.reduceMul, Int.reduceNeg]; exact ih
          · have c4' := eq_true (show d.ps[i].ix ≤ d.ps[i - 1].ix by omega)
            rw [decide_eq_false (fun h => by have := (hok.1 h).2.2; omega), Bool.false_and, if_neg (by simp)]
            simp (maxSteps := 2000000) (disch := omega) only [go_sem, doCall, doCallQ, doCallP, Nat.reduceAdd, Nat.reduceMul, Nat.reduceSub, Nat.reduceDiv, Nat.reduceMod, Nat.reduceLT, Nat.reduceLeDiff, Nat.reduceEqDiff, Nat.reduceBEq, Nat.reduceBNe, Int.reduceToNat, Int.reduceLT, Int.reduceLE, Int.reduceEq, Int.reduceNe, Int.reduceAdd, Int.reduceSub, Int.reduceMul, Int.reduceNeg, u8_1, lb8_1, hlt, hi', hi2, hp, hw, hg, hg2, hlm, c3', c4', show (d.ps[i].ob != d.ob) = false by simp [c1], show (d.ps[i].ge != d.ge) = false by simp [c2], eq_true c1, eq_true c2, not_true, Int.natCast_nonneg, Int.toNat_natCast, Option.getD_some, Option.getD_none, List.drop_zero, Nat.sub_zero, Nat.zero_le, true_and, and_true, Nat.le_refl, chk_of]
      · rw [decide_eq_false (fun h => c2 (hok.1 h).2.1), Bool.false_and, if_neg (by simp)]
        simp (maxSteps := 2000000) (disch := omega) only [go_sem, doCall, doCallQ, doCallP, Nat.reduceAdd, Nat.reduceMul, Nat.reduceSub, Nat.reduceDiv, Nat.reduceMod, Nat.reduceLT, Nat.reduceLeDiff, Nat.reduceEqDiff, Nat.reduceBEq, Nat.reduceBNe, Int.reduceToNat, Int.reduceLT, Int.reduceLE, Int.reduceEq, Int.reduceNe, Int.reduceAdd, Int.reduceSub, Int.reduceMul, Int.reduceNeg, u8_1, lb8_1, hlt, hi', hw, hg, hlm, show (d.ps[i].ob != d.ob) = false by simp [c1], show (d.ps[i].ge != d.ge) = true by simp [c2], eq_true c1, eq_false c2, not_true, not_false_eq_true, Int.natCast_nonneg, Int.toNat_natCast, Option.getD_some, Option.getD_none, List.drop_zero, Nat.sub_zero, Nat.zero_le, true_and, and_true, Nat.le_refl, chk_of]
    · rw [decide_eq_false (fun h => c1 (hok.1 h).1), Bool.false_and, if_neg (by simp)]
      simp (maxSteps := 2000000) (disch := omega) only [go_sem, doCall, doCallQ, doCallP, Nat.reduceAdd, Nat.reduceMul, Nat.reduceSub, Nat.reduceDiv, Nat.reduceMod, Nat.reduceLT, Nat.reduceLeDiff, Nat.reduceEqDiff, Nat.reduceBEq, Nat.reduceBNe, Int.reduceToNat, Int.reduceLT, Int.reduceLE, Int.reduceEq, Int.reduceNe, Int.reduceAdd, Int.reduceSub, Int.reduceMul, Int.reduceNeg, u8_1, lb8_1, hlt, hi', hw, hg, hlm, show (d.ps[i].ob != d.ob) = true by simp [c1], eq_false c1, not_true, not_false_eq_true, Int.natCast_nonneg, Int.toNat_natCast, Option.getD_some, Option.getD_none, List.drop_zero, Nat.sub_zero, Nat.zero_le, true_and, and_true, Nat.le_refl, chk_of]
termination_by d.ps.length - i
theorem t_one (d : Hd) (hl : d.ps.length ≤ 1000000000) : call ir 30 [vHd d] [] = some (dT (oneR d), []) := by
  have lp : ∀ (k : Ex → St → Option (AV × Heap)) (j : Nat) (i : Nat) (hj : d.ps.length - i = j) (hi : i ≤ d.ps.length),
      (bnd (evC (call ir) (loop ir) lp30_0 (st30_0 0 (.ptr 0 0) (vPs d.ps) (dI d.ps.length) (dI i) [.dbox [.int .i64 d.ob, .int .i64 d.ge, .str d.tg, .int .i64 d.le, .int .i64 d.ti, .list 4 (d.ps.map pcRow)]])) (lpC (call ir) (loop ir) [1, 6, 7, 8] lp30_0 k)) = (if opF d.ob d.ge d.ps i then k (.exit 0) (clean [] (st30_0 0 .unk .unk .unk .unk []))
        else k .ret (clean [2] ⟨0, [.unk, .unk, dT false, .unk, .unk, .unk, .unk, .unk, .unk, .unk, .unk, .unk, .unk, .unk, .unk, .unk, .unk, .unk, .unk, .unk, .unk, .unk, .unk, .unk, .unk, .unk, .unk, .unk, .unk, .unk, .unk, .unk, .unk, .unk, .unk, .unk, .unk, .unk, .unk, .unk, .unk, .unk, .unk, .unk], []⟩)) := by
    intro k j
    induction j with
    | zero =>
      intro i hj hi
      have h : i = d.ps.length := by omega
      have hx : ¬ (i : Int) < d.ps.length := by omega
      rw [h] at hx
      rw [h, opF_end]
      simp only [if_true]
      simp (maxSteps := 2000000) (disch := omega) only [go_sem, doCall, doCallQ, doCallP, Nat.reduceAdd, Nat.reduceMul, Nat.reduceSub, Nat.reduceDiv, Nat.reduceMod, Nat.reduceLT, Nat.reduceLeDiff, Nat.reduceEqDiff, Nat.reduceBEq, Nat.reduceBNe, Int.reduceToNat, Int.reduceLT, Int.reduceLE, Int.reduceEq, Int.reduceNe, Int.reduceAdd, Int.reduceSub, Int.reduceMul, Int.reduceNeg, u30_0, lb30_0, hx]
    | succ j ih =>
      intro i hj hi
      have hlt : (i : Int) < d.ps.length := by omega
      have hi' : i < d.ps.length := by omega
      have hw := wr_succ (i := i) (by omega)
      have hg := getPc d.ps hi'
      have hlm : (d.ps.map pcRow).length = d.ps.length := List.length_map ..
      have ih := ih (i + 1) (by omega) (by omega)
      rw [opF_at hi']
      have hok : okP d.ob d.ge d.ps i ↔ (d.ps[i].ob = d.ob ∧ d.ps[i].ge = d.ge ∧ (i = 0 ∨ (d.ps.getD (i - 1) default).ix < d.ps[i].ix)) := by unfold okP; rw [gP hi']
      by_cases c1 : d.ps[i].ob = d.ob
      · by_cases c2 : d.ps[i].ge = d.ge
        · by_cases c3 : i = 0
          · have c3' := eq_false (show ¬ (0 : Int) < i by omega)
            rw [decide_eq_true (hok.2 ⟨c1, c2, .inl c3⟩), Bool.true_and]
            simp (maxSteps := 2000000) (disch := omega) only [go_sem, doCall, doCallQ, doCallP, Nat.reduceAdd, Nat.reduceMul, Nat.reduceSub, Nat.reduceDiv, Nat.reduceMod, Nat.reduceLT, Nat.reduceLeDiff, Nat.reduceEqDiff, Nat.reduceBEq, Nat.reduceBNe, Int.reduceToNat, Int.reduceLT, Int.reduceLE, Int.reduceEq, Int.reduceNe, Int.reduceAdd, Int.reduceSub, Int.reduceMul, Int.reduceNeg, u30_0, lb30_0, hlt, hi', hw, hg, hlm, c3', show (d.ps[i].ob != d.ob) = false by simp [c1], show (d.ps[i].ge != d.ge) = false by simp [c2], eq_true c1, eq_true c2, not_true, Int.natCast_nonneg, Int.toNat_natCast, Option.getD_some, Option.getD_none, List.drop_zero, Nat.sub_zero, Nat.zero_le, true_and, and_true, Nat.le_refl, chk_of]
            rw [loop_step1]; simp (maxSteps := 2000000) only [go_sem, doCall, doCallQ, doCallP, Nat.reduceAdd, Nat.reduceMul, Nat.reduceSub, Nat.reduceDiv, Nat.reduceMod, Nat.reduceLT, Nat.reduceLeDiff, Nat.reduceEqDiff, Nat.reduceBEq, Nat.reduceBNe, Int.reduceToNat, Int.reduceLT, Int.reduceLE, Int.reduceEq, Int.reduceNe, Int.reduceAdd, Int.reduceSub, Int.reduceMul, Int.reduceNeg]; exact ih
          · have c3' := eq_true (show (0 : Int) < i by omega)
            have hp := pred_eq (i := i) (by omega) (by omega)
            have hi2 : i - 1 < d.ps.length := by omega
            have hg2 := getPc d.ps hi2
            rw [gP hi2] at hok
            by_cases c4 : d.ps[i - 1].ix < d.ps[i].ix
            · have c4' := eq_false (show ¬ d.ps[i].ix ≤ d.ps[i - 1].ix by omega)
              rw [decide_eq_true (hok.2 ⟨c1, c2, .inr c4⟩), Bool.true_and]
              simp (maxSteps := 2000000) (disch := omega) only [go_sem, doCall, doCallQ, doCallP, Nat.reduceAdd, Nat.reduceMul, Nat.reduceSub, Nat.reduceDiv, Nat.reduceMod, Nat.reduceLT, Nat.reduceLeDiff, Nat.reduceEqDiff, Nat.reduceBEq, Nat.reduceBNe, Int.reduceToNat, Int.reduceLT, Int.reduceLE, Int.reduceEq, Int.reduceNe, Int.reduceAdd, Int.reduceSub, Int.reduceMul, Int.reduceNeg, u30_0, lb30_0, hlt, hi', hi2, hp, hw, hg, hg2, hlm, c3', c4', show (d.ps[i].ob != d.ob) = false by simp [c1], show (d.ps[i].ge != d.ge) = false by simp [c2], eq_true c1, eq_true c2, not_true, Int.natCast_nonneg, Int.toNat_natCast, Option.getD_some, Option.getD_none, List.drop_zero, Nat.sub_zero, Nat.zero_le, true_and, and_true, Nat.le_refl, chk_of]
              rw [loop_step1]; simp (maxSteps := 2000000) only [go_sem, doCall, doCallQ, doCallP, Nat.reduceAdd, Nat.reduceMul, Nat.reduceSub, Nat.reduceDiv, Nat.reduceMod, Nat.reduceLT, Nat.reduceLeDiff, Nat.reduceEqDiff, Nat.reduceBEq, Nat.reduceBNe, Int.reduceToNat, Int.reduceLT, Int.reduceLE, Int.reduceEq, Int.reduceNe, Int.reduceAdd, Int.reduceSub, Int.reduceMul, Int.reduceNeg]; exact ih
            · have c4' := eq_true (show d.ps[i].ix ≤ d.ps[i - 1].ix by omega)
              rw [decide_eq_false (fun h => by have := (hok.1 h).2.2; omega), Bool.false_and, if_neg (by simp)]
              simp (maxSteps := 2000000) (disch := omega) only [go_sem, doCall, doCallQ, doCallP, Nat.reduceAdd, Nat.reduceMul, Nat.reduceSub, Nat.reduceDiv, Nat.reduceMod, Nat.reduceLT, Nat.reduceLeDiff, Nat.reduceEqDiff, Nat.reduceBEq, Nat.reduceBNe, Int.reduceToNat, Int.reduceLT, Int.reduceLE, Int.reduceEq, Int.reduceNe, Int.reduceAdd, Int.reduceSub, Int.reduceMul, Int.reduceNeg, u30_0, lb30_0, hlt, hi', hi2, hp, hw, hg, hg2, hlm, c3', c4', show (d.ps[i].ob != d.ob) = false by simp [c1], show (d.ps[i].ge != d.ge) = false by simp [c2], eq_true c1, eq_true c2, not_true, Int.natCast_nonneg, Int.toNat_natCast, Option.getD_some, Option.getD_none, List.drop_zero, Nat.sub_zero, Nat.zero_le, true_and, and_true, Nat.le_refl, chk_of]
        · rw [decide_eq_false (fun h => c2 (hok.1 h).2.1), Bool.false_and, if_neg (by simp)]
          simp (maxSteps := 2000000) (disch := omega) only [go_sem, doCall, doCallQ, doCallP, Nat.reduceAdd, Nat.reduceMul, Nat.reduceSub, Nat.reduceDiv, Nat.reduceMod, Nat.reduceLT, Nat.reduceLeDiff, Nat.reduceEqDiff, Nat.reduceBEq, Nat.reduceBNe, Int.reduceToNat, Int.reduceLT, Int.reduceLE, Int.reduceEq, Int.reduceNe, Int.reduceAdd, Int.reduceSub, Int.reduceMul, Int.reduceNeg, u30_0, lb30_0, hlt, hi', hw, hg, hlm, show (d.ps[i].ob != d.ob) = false by simp [c1], show (d.ps[i].ge != d.ge) = true by simp [c2], eq_true c1, eq_false c2, not_true, not_false_eq_true, Int.natCast_nonneg, Int.toNat_natCast, Option.getD_some, Option.getD_none, List.drop_zero, Nat.sub_zero, Nat.zero_le, true_and, and_true, Nat.le_refl, chk_of]
      · rw [decide_eq_false (fun h => c1 (hok.1 h).1), Bool.false_and, if_neg (by simp)]
        simp (maxSteps := 2000000) (disch := omega) only [go_sem, doCall, doCallQ, doCallP, Nat.reduceAdd, Nat.reduceMul, Nat.reduceSub, Nat.reduceDiv, Nat.reduceMod, Nat.reduceLT, Nat.reduceLeDiff, Nat.reduceEqDiff, Nat.reduceBEq, Nat.reduceBNe, Int.reduceToNat, Int.reduceLT, Int.reduceLE, Int.reduceEq, Int.reduceNe, Int.reduceAdd, Int.reduceSub, Int.reduceMul, Int.reduceNeg, u30_0, lb30_0, hlt, hi', hw, hg, hlm, show (d.ps[i].ob != d.ob) = true by simp [c1], eq_false c1, not_true, not_false_eq_true, Int.natCast_nonneg, Int.toNat_natCast, Option.getD_some, Option.getD_none, List.drop_zero, Nat.sub_zero, Nat.zero_le, true_and, and_true, Nat.le_refl, chk_of]
  rw [call_eq (fn := ir30) rfl, evF_bnd]
  have hlm : (d.ps.map pcRow).length = d.ps.length := List.length_map ..
  simp (maxSteps := 2000000) (disch := omega) only [go_sem, doCall, doCallQ, doCallP, Nat.reduceAdd, Nat.reduceMul, Nat.reduceSub, Nat.reduceDiv, Nat.reduceMod, Nat.reduceLT, Nat.reduceLeDiff, Nat.reduceEqDiff, Nat.reduceBEq, Nat.reduceBNe, Int.reduceToNat, Int.reduceLT, Int.reduceLE, Int.reduceEq, Int.reduceNe, Int.reduceAdd, Int.reduceSub, Int.reduceMul, Int.reduceNeg, bd30, hlm, Int.natCast_nonneg, Int.toNat_natCast, Option.getD_some, Option.getD_none, List.drop_zero, Nat.sub_zero, Nat.zero_le, true_and, and_true, Nat.le_refl, chk_of]
  rw [loop_step1]; simp (maxSteps := 2000000) only [go_sem, doCall, doCallQ, doCallP, Nat.reduceAdd, Nat.reduceMul, Nat.reduceSub, Nat.reduceDiv, Nat.reduceMod, Nat.reduceLT, Nat.reduceLeDiff, Nat.reduceEqDiff, Nat.reduceBEq, Nat.reduceBNe, Int.reduceToNat, Int.reduceLT, Int.reduceLE, Int.reduceEq, Int.reduceNe, Int.reduceAdd, Int.reduceSub, Int.reduceMul, Int.reduceNeg]
  refine (lp _ _ 0 rfl (Nat.zero_le _)).trans ?_
  unfold oneR
  cases opF d.ob d.ge d.ps 0
  · rw [if_neg (by simp)]
    simp (maxSteps := 2000000) (disch := omega) only [go_sem, doCall, doCallQ, doCallP, Nat.reduceAdd, Nat.reduceMul, Nat.reduceSub, Nat.reduceDiv, Nat.reduceMod, Nat.reduceLT, Nat.reduceLeDiff, Nat.reduceEqDiff, Nat.reduceBEq, Nat.reduceBNe, Int.reduceToNat, Int.reduceLT, Int.reduceLE, Int.reduceEq, Int.reduceNe, Int.reduceAdd, Int.reduceSub, Int.reduceMul, Int.reduceNeg]
  · rw [if_pos rfl]
    simp (maxSteps := 2000000) (disch := omega) only [go_sem, doCall, doCallQ, doCallP, Nat.reduceAdd, Nat.reduceMul, Nat.reduceSub, Nat.reduceDiv, Nat.reduceMod, Nat.reduceLT, Nat.reduceLeDiff, Nat.reduceEqDiff, Nat.reduceBEq, Nat.reduceBNe, Int.reduceToNat, Int.reduceLT, Int.reduceLE, Int.reduceEq, Int.reduceNe, Int.reduceAdd, Int.reduceSub, Int.reduceMul, Int.reduceNeg]
theorem lp_rtH (l : List Hd) (hl : l.length ≤ 1000000000) (hb : ∀ d ∈ l, d.ps.length ≤ 1000000000) (k : Ex → St → Option (AV × Heap)) (i : Nat) (hi : i ≤ l.length) :
    (bnd (evC (call ir) (loop ir) lp8_0 (st8_0 0 (vHs l) (vHs l) (dI l.length) (dI i) [])) (lpC (call ir) (loop ir) [0, 7, 8, 9] lp8_0 k)) = (if rtF l i then k (.exit 0) (clean [] (st8_0 0 .unk .unk .unk .unk []))
      else k .ret (clean [2] ⟨0, [.unk, .unk, dT false, .unk, .unk, .unk, .unk, .unk, .unk, .unk, .unk, .unk, .unk, .unk, .unk, .unk, .unk, .unk, .unk, .unk, .unk, .unk, .unk, .unk, .unk, .unk, .unk, .unk, .unk, .unk, .unk, .unk, .unk, .unk, .unk, .unk, .unk, .unk, .unk, .unk, .unk, .unk, .unk, .unk, .unk, .unk, .unk, .unk, .unk, .unk, .unk, .unk, .unk, .unk, .unk, .unk, .unk, .unk, .unk, .unk, .unk, .unk, .unk, .unk, .unk, .unk, .unk, .unk, .unk], []⟩)) := by
  by_cases h : i = l.length
  · have hx : ¬ (i : Int) < l.length := by omega
    rw [h] at hx
    rw [h, rtF_end]
    simp only [if_true]
    simp (maxSteps := 2000000) (disch := omega) only [go_sem, doCall, doCallQ, doCallP, Nat.reduceAdd, Nat.reduceMul, Nat.reduceSub, Nat.reduceDiv, Nat.reduceMod, Nat.reduceLT, Nat.reduceLeDiff, Nat.reduceEqDiff, Nat.reduceBEq, Nat.reduceBNe, Int.reduceToNat, Int.reduceLT, Int.reduceLE, Int.reduceEq, Int.reduceNe, Int.reduceAdd, Int.reduceSub, Int.reduceMul, Int.reduceNeg, u8_0, lb8_0, hx]
  · have hlt : (i : Int) < l.length := by omega
    have hi' : i < l.length := by omega
    have hw := wr_succ (i := i) (by omega)
    have hg := getHd l hi'
    have hlm : (l.map hdRow).length = l.length := List.length_map ..
    have ih := lp_rtH l hl hb k (i + 1) (by omega)
    have hbd := hb l[i] (List.getElem_mem hi')
    rw [rtF_at hi']
    have hok : okH l i ↔ (i = 0 ∨ (l.getD (i - 1) default).ob < l[i].ob) := by unfold okH; rw [gH hi']
    by_cases c3 : i = 0
    · have c3' := eq_false (show ¬ (0 : Int) < i by omega)
      rw [decide_eq_true (hok.2 (.inl c3)), Bool.and_true]
      generalize l[i] = d at hg hbd ⊢
      have hlp : (d.ps.map pcRow).length = d.ps.length := List.length_map ..
      simp (maxSteps := 2000000) (disch := omega) only [go_sem, doCall, doCallQ, doCallP, Nat.reduceAdd, Nat.reduceMul, Nat.reduceSub, Nat.reduceDiv, Nat.reduceMod, Nat.reduceLT, Nat.reduceLeDiff, Nat.reduceEqDiff, Nat.reduceBEq, Nat.reduceBNe, Int.reduceToNat, Int.reduceLT, Int.reduceLE, Int.reduceEq, Int.reduceNe, Int.reduceAdd, Int.reduceSub, Int.reduceMul, Int.reduceNeg, u8_0, lb8_0, hlt, hi', hw, hg, hlm, hlp, c3', Int.natCast_nonneg, Int.toNat_natCast, Option.getD_some, Option.getD_none, List.drop_zero, Nat.sub_zero, Nat.zero_le, true_and, and_true, Nat.le_refl, chk_of]
      rw [loop_step1]; simp (maxSteps := 2000000) only [go_sem, doCall, doCallQ, doCallP, Nat.reduceAdd, Nat.reduceMul, Nat.reduceSub, Nat.reduceDiv, Nat.reduceMod, Nat.reduceLT, Nat.reduceLeDiff, Nat.reduceEqDiff, Nat.reduceBEq, Nat.reduceBNe, Int.reduceToNat, Int.reduceLT, Int.reduceLE, Int.reduceEq, Int.reduceNe, Int.reduceAdd, Int.reduceSub, Int.reduceMul, Int.reduceNeg]
      refine (lp_rtP l l.length i d hbd _ 0 (Nat.zero_le _)).trans ?_
      unfold oneR
      cases opF d.ob d.ge d.ps 0
      · rw [if_neg (by simp), if_neg (by simp)]
        simp (maxSteps := 2000000) (disch := omega) only [go_sem, doCall, doCallQ, doCallP, Nat.reduceAdd, Nat.reduceMul, Nat.reduceSub, Nat.reduceDiv, Nat.reduceMod, Nat.reduceLT, Nat.reduceLeDiff, Nat.reduceEqDiff, Nat.reduceBEq, Nat.reduceBNe, Int.reduceToNat, Int.reduceLT, Int.reduceLE, Int.reduceEq, Int.reduceNe, Int.reduceAdd, Int.reduceSub, Int.reduceMul, Int.reduceNeg]
      · rw [if_pos rfl, Bool.true_and]
        simp (maxSteps := 2000000) (disch := omega) only [go_sem, doCall, doCallQ, doCallP, Nat.reduceAdd, Nat.reduceMul, Nat.reduceSub, Nat.reduceDiv, Nat.reduceMod, Nat.reduceLT, Nat.reduceLeDiff, Nat.reduceEqDiff, Nat.reduceBEq, Nat.reduceBNe, Int.reduceToNat, Int.reduceLT, Int.reduceLE, Int.reduceEq, Int.reduceNe, Int.reduceAdd, Int.reduceSub, Int.reduceMul, Int.reduceNeg, hw]
        rw [loop_step1]; simp (maxSteps := 2000000) only [go_sem, doCall, doCallQ, doCallP, Nat.reduceAdd, Nat.reduceMul, Nat.reduceSub, Nat.reduceDiv, Nat.reduceMod, Nat.reduceLT, Nat.reduceLeDiff, Nat.reduceEqDiff, Nat.reduceBEq, Nat.reduceBNe, Int.reduceToNat, Int.reduceLT, Int.reduceLE, Int.reduceEq, Int.reduceNe, Int.reduceAdd, Int.reduceSub, Int.reduceMul, Int.reduceNeg]; exact ih
    · have c3' := eq_true (show (0 : Int) < i by omega)
      have hp := pred_eq (i := i) (by omega) (by omega)
      have hi2 : i - 1 < l.length := by omega
      have hg2 := getHd l hi2
      rw [gH hi2] at hok
      by_cases c4 : l[i - 1].ob < l[i].ob
      · have c4' := eq_false (show ¬ l[i].ob ≤ l[i - 1].ob by omega)
        rw [decide_eq_true (hok.2 (.inr c4)), Bool.and_true]
        generalize l[i - 1] = d2 at hg2 c4'
        generalize l[i] = d at hg hbd c4' ⊢
        have hlp : (d.ps.map pcRow).length = d.ps.length := List.length_map ..
        simp (maxSteps := 2000000) (disch := omega) only [go_sem, doCall, doCallQ, doCallP, Nat.reduceAdd, Nat.reduceMul, Nat.reduceSub, Nat.reduceDiv, Nat.reduceMod, Nat.reduceLT, Nat.reduceLeDiff, Nat.reduceEqDiff, Nat.reduceBEq, Nat.reduceBNe, Int.reduceToNat, Int.reduceLT, Int.reduceLE, Int.reduceEq, Int.reduceNe, Int.reduceAdd, Int.reduceSub, Int.reduceMul, Int.reduceNeg, u8_0, lb8_0, hlt, hi', hi2, hp, hw, hg, hg2, hlm, hlp, c3', c4', Int.natCast_nonneg, Int.toNat_natCast, Option.getD_some, Option.getD_none, List.drop_zero, Nat.sub_zero, Nat.zero_le, true_and, and_true, Nat.le_refl, chk_of]
        rw [loop_step1]; simp (maxSteps := 2000000) only [go_sem, doCall, doCallQ, doCallP, Nat.reduceAdd, Nat.reduceMul, Nat.reduceSub, Nat.reduceDiv, Nat.reduceMod, Nat.reduceLT, Nat.reduceLeDiff, Nat.reduceEqDiff, Nat.reduceBEq, Nat.reduceBNe, Int.reduceToNat, Int.reduceLT, Int.reduceLE, Int.reduceEq, Int.reduceNe, Int.reduceAdd, Int.reduceSub, Int.reduceMul, Int.reduceNeg]
        refine (lp_rtP l l.length i d hbd _ 0 (Nat.zero_le _)).trans ?_
        unfold oneR
        cases opF d.ob d.ge d.ps 0
        · rw [if_neg (by simp), if_neg (by simp)]
          simp (maxSteps := 2000000) (disch := omega) only [go_sem, doCall, doCallQ, doCallP, Nat.reduceAdd, Nat.reduceMul, Nat.reduceSub, Nat.reduceDiv, Nat.reduceMod, Nat.reduceLT, Nat.reduceLeDiff, Nat.reduceEqDiff, Nat.reduceBEq, Nat.reduceBNe, Int.reduceToNat, Int.reduceLT, Int.reduceLE, Int.reduceEq, Int.reduceNe, Int.reduceAdd, Int.reduceSub, Int.reduceMul, Int.reduceNeg]
        · rw [if_pos rfl, Bool.true_and]
          simp (maxSteps := 2000000) (disch := omega) only [go_sem, doCall, doCallQ, doCallP, Nat.reduceAdd, Nat.reduceMul, Nat.reduceSub, Nat.reduceDiv, Nat.reduceMod, Nat.reduceLT, Nat.reduceLeDiff, Nat.reduceEqDiff, Nat.reduceBEq, Nat.reduceBNe, Int.reduceToNat, Int.reduceLT, Int.reduceLE, Int.reduceEq, Int.reduceNe, Int.reduceAdd, Int.reduceSub, Int.reduceMul, Int.reduceNeg, hw]
          rw [loop_step1]; simp (maxSteps := 2000000) only [go_sem, doCall, doCallQ, doCallP, Nat.reduceAdd, Nat.reduceMul, Nat.reduceSub, Nat.reduceDiv, Nat.reduceMod, Nat.reduceLT, Nat.reduceLeDiff, Nat.reduceEqDiff, Nat.reduceBEq, Nat.reduceBNe, Int.reduceToNat, Int.reduceLT, Int.reduceLE, Int.reduceEq, Int.reduceNe, Int.reduceAdd, Int.reduceSub, Int.reduceMul, Int.reduceNeg]; exact ih
      · have c4' := eq_true (show l[i].ob ≤ l[i - 1].ob by omega)
        rw [decide_eq_false (fun h => by have := hok.1 h; omega), Bool.and_false, Bool.false_and, if_neg (by simp)]
        generalize l[i - 1] = d2 at hg2 c4'
        generalize l[i] = d at hg c4'
        simp (maxSteps := 2000000) (disch := omega) only [go_sem, doCall, doCallQ, doCallP, Nat.reduceAdd, Nat.reduceMul, Nat.reduceSub, Nat.reduceDiv, Nat.reduceMod, Nat.reduceLT, Nat.reduceLeDiff, Nat.reduceEqDiff, Nat.reduceBEq, Nat.reduceBNe, Int.reduceToNat, Int.reduceLT, Int.reduceLE, Int.reduceEq, Int.reduceNe, Int.reduceAdd, Int.reduceSub, Int.reduceMul, Int.reduceNeg, u8_0, lb8_0, hlt, hi', hi2, hp, hw, hg, hg2, hlm, c3', c4', Int.natCast_nonneg, Int.toNat_natCast, Option.getD_some, Option.getD_none, List.drop_zero, Nat.sub_zero, Nat.zero_le, true_and, and_true, Nat.le_refl, chk_of]
termination_by l.length - i
theorem t_lright (l : List Hd) (hl : l.length ≤ 1000000000) (hb : ∀ d ∈ l, d.ps.length ≤ 1000000000) : call ir 8 [vHs l] [] = some (dT (rtR l), []) := by
  rw [call_eq (fn := ir8) rfl, evF_bnd]
  have hlm : (l.map hdRow).length = l.length := List.length_map ..
  simp (maxSteps := 2000000) (disch := omega) only [go_sem, doCall, doCallQ, doCallP, Nat.reduceAdd, Nat.reduceMul, Nat.reduceSub, Nat.reduceDiv, Nat.reduceMod, Nat.reduceLT, Nat.reduceLeDiff, Nat.reduceEqDiff, Nat.reduceBEq, Nat.reduceBNe, Int.reduceToNat, Int.reduceLT, Int.reduceLE, Int.reduceEq, Int.reduceNe, Int.reduceAdd, Int.reduceSub, Int.reduceMul, Int.reduceNeg, bd8, hlm, chk_of]
  rw [loop_step1]; simp (maxSteps := 2000000) only [go_sem, doCall, doCallQ, doCallP, Nat.reduceAdd, Nat.reduceMul, Nat.reduceSub, Nat.reduceDiv, Nat.reduceMod, Nat.reduceLT, Nat.reduceLeDiff, Nat.reduceEqDiff, Nat.reduceBEq, Nat.reduceBNe, Int.reduceToNat, Int.reduceLT, Int.reduceLE, Int.reduceEq, Int.reduceNe, Int.reduceAdd, Int.reduceSub, Int.reduceMul, Int.reduceNeg]
  refine (lp_rtH l hl hb _ 0 (Nat.zero_le _)).trans ?_
  unfold rtR
  cases rtF l 0
  · rw [if_neg (by simp)]
    simp (maxSteps := 2000000) (disch := omega) only [go_sem, doCall, doCallQ, doCallP, Nat.reduceAdd, Nat.reduceMul, Nat.reduceSub, Nat.reduceDiv, Nat.reduceMod, Nat.reduceLT, Nat.reduceLeDiff, Nat.reduceEqDiff, Nat.reduceBEq, Nat.reduceBNe, Int.reduceToNat, Int.reduceLT, Int.reduceLE, Int.reduceEq, Int.reduceNe, Int.reduceAdd, Int.reduceSub, Int.reduceMul, Int.reduceNeg]
  · rw [if_pos rfl]
    simp (maxSteps := 2000000) (disch := omega) only [go_sem, doCall, doCallQ, doCallP, Nat.reduceAdd, Nat.reduceMul, Nat.reduceSub, Nat.reduceDiv, Nat.reduceMod, Nat.reduceLT, Nat.reduceLeDiff, Nat.reduceEqDiff, Nat.reduceBEq, Nat.reduceBNe, Int.reduceToNat, Int.reduceLT, Int.reduceLE, Int.reduceEq, Int.reduceNe, Int.reduceAdd, Int.reduceSub, Int.reduceMul, Int.reduceNeg]
end Go.Proofs.Ytbcpffhialoliaa
namespace Go.Proofs.Ytbcpffhialoliaa
open Go Go.Ev Go.Proofs.Ytbcpffhialoliaa.Ir
set_option maxRecDepth 100000
set_option maxHeartbeats 4000000
set_option linter.unusedSimpArgs false
set_option linter.unusedVariables false
theorem lp_dr (l : List Hd) (hl : l.length ≤ 1000000000) (hb : ∀ d ∈ l, d.ps.length ≤ 1000000000) (k : Ex → St → Option (AV × Heap)) (i : Nat) (hi : i ≤ l.length) :
    (bnd (evC (call ir) (loop ir) lp15_0 (st15_0 0 (vHs l) (vHs l) (dI l.length) (dI i) [])) (lpC (call ir) (loop ir) [0, 5, 6, 7] lp15_0 k)) = (if rtF l i then k (.exit 0) (clean [] (st15_0 0 .unk .unk .unk .unk []))
      else k .ret (clean [2] ⟨0, [.unk, .unk, dT false, .unk, .unk, .unk, .unk, .unk, .unk, .unk, .unk, .unk, .unk, .unk, .unk, .unk, .unk, .unk, .unk, .unk, .unk, .unk, .unk, .unk, .unk, .unk, .unk, .unk, .unk, .unk, .unk, .unk, .unk], []⟩)) := by
  by_cases h : i = l.length
  · have hx : ¬ (i : Int) < l.length := by omega
    rw [h] at hx
    rw [h, rtF_end]
    simp only [if_true]
    simp (maxSteps := 2000000) (disch := omega) only [go_sem, doCall, doCallQ, doCallP, Nat.reduceAdd, Nat.reduceMul, Nat.reduceSub, Nat.reduceDiv, Nat.reduceMod, Nat.reduceLT, Nat.reduceLeDiff, Nat.reduceEqDiff, Nat.reduceBEq, Nat.reduceBNe, Int.reduceToNat, Int.reduceLT, Int.reduceLE, Int.reduceEq, Int.reduceNe, Int.reduceAdd, Int.reduceSub, Int.reduceMul, Int.reduceNeg, u15_0, lb15_0, hx]
  · have hlt : (i : Int) < l.length := by omega
    have hi' : i < l.length := by omega
    have hw := wr_succ (i := i) (by omega)
    have hg := getHd l hi'
    have hlm : (l.map hdRow).length = l.length := List.length_map ..
    have ih := lp_dr l hl hb k (i + 1) (by omega)
    have hone := t_one l[i] (hb l[i] (List.getElem_mem hi'))
    rw [rtF_at hi']
    have hok : okH l i ↔ (i = 0 ∨ (l.getD (i - 1) default).ob < l[i].ob) := by unfold okH; rw [gH hi']
    by_cases c3 : i = 0
    · have c3' := eq_false (show ¬ (0 : Int) < i by omega)
      rw [decide_eq_true (hok.2 (.inl c3)), Bool.and_true]
      generalize l[i] = d at hg hone ⊢
      cases hr : oneR d
      · rw [hr] at hone
        rw [Bool.false_and, if_neg (by simp)]
        simp (maxSteps := 2000000) (disch := omega) only [go_sem, doCall, doCallQ, doCallP, Nat.reduceAdd, Nat.reduceMul, Nat.reduceSub, Nat.reduceDiv, Nat.reduceMod, Nat.reduceLT, Nat.reduceLeDiff, Nat.reduceEqDiff, Nat.reduceBEq, Nat.reduceBNe, Int.reduceToNat, Int.reduceLT, Int.reduceLE, Int.reduceEq, Int.reduceNe, Int.reduceAdd, Int.reduceSub, Int.reduceMul, Int.reduceNeg, u15_0, lb15_0, hlt, hi', hw, hg, hlm, hone, c3', Int.natCast_nonneg, Int.toNat_natCast, Option.getD_some, Option.getD_none, List.drop_zero, Nat.sub_zero, Nat.zero_le, true_and, and_true, Nat.le_refl, chk_of]
      · rw [hr] at hone
        rw [Bool.true_and]
        simp (maxSteps := 2000000) (disch := omega) only [go_sem, doCall, doCallQ, doCallP, Nat.reduceAdd, Nat.reduceMul, Nat.reduceSub, Nat.reduceDiv, Nat.reduceMod, Nat.reduceLT, Nat.reduceLeDiff, Nat.reduceEqDiff, Nat.reduceBEq, Nat.reduceBNe, Int.reduceToNat, Int.reduceLT, Int.reduceLE, Int.reduceEq, Int.reduceNe, Int.reduceAdd, Int.reduceSub, Int.reduceMul, Int.reduceNeg, u15_0, lb15_0, hlt, hi', hw, hg, hlm, hone, c3', Int.natCast_nonneg, Int.toNat_natCast, Option.getD_some, Option.getD_none, List.drop_zero, Nat.sub_zero, Nat.zero_le, true_and, and_true, Nat.le_refl, chk_of]
        rw [loop_step1]; simp (maxSteps := 2000000) only [go_sem, doCall, doCallQ, doCallP, Nat.reduceAdd, Nat.reduceMul, Nat.reduceSub, Nat.reduceDiv, Nat.reduceMod, Nat.reduceLT, Nat.reduceLeDiff, Nat.reduceEqDiff, Nat.reduceBEq, Nat.reduceBNe, Int.reduceToNat, Int.reduceLT, Int.reduceLE, Int.reduceEq, Int.reduceNe, Int.reduceAdd, Int.reduceSub, Int.reduceMul, Int.reduceNeg]; exact ih
    · have c3' := eq_true (show (0 : Int) < i by omega)
      have hp := pred_eq (i := i) (by omega) (by omega)
      have hi2 : i - 1 < l.length := by omega
      have hg2 := getHd l hi2
      rw [gH hi2] at hok
      by_cases c4 : l[i - 1].ob < l[i].ob
      · have c4' := eq_false (show ¬ l[i].ob ≤ l[i - 1].ob by omega)
        rw [decide_eq_true (hok.2 (.inr c4)), Bool.and_true]
        generalize l[i - 1] = d2 at hg2 c4'
        generalize l[i] = d at hg hone c4' ⊢
        cases hr : oneR d
        · rw [hr] at hone
          rw [Bool.false_and, if_neg (by simp)]
          simp (maxSteps := 2000000) (disch := omega) only [go_sem, doCall, doCallQ, doCallP, Nat.reduceAdd, Nat.reduceMul, Nat.reduceSub, Nat.reduceDiv, Nat.reduceMod, Nat.reduceLT, Nat.reduceLeDiff, Nat.reduceEqDiff, Nat.reduceBEq, Nat.reduceBNe, Int.reduceToNat, Int.reduceLT, Int.reduceLE, Int.reduceEq, Int.reduceNe, Int.reduceAdd, Int.reduceSub, Int.reduceMul, Int.reduceNeg, u15_0, lb15_0, hlt, hi', hi2, hp, hw, hg, hg2, hlm, hone, c3', c4', Int.natCast_nonneg, Int.toNat_natCast, Option.getD_some, Option.getD_none, List.drop_zero, Nat.sub_zero, Nat.zero_le, true_and, and_true, Nat.le_refl, chk_of]
        · rw [hr] at hone
          rw [Bool.true_and]
          simp (maxSteps := 2000000) (disch := omega) only [go_sem, doCall, doCallQ, doCallP, Nat.reduceAdd, Nat.reduceMul, Nat.reduceSub, Nat.reduceDiv, Nat.reduceMod, Nat.reduceLT, Nat.reduceLeDiff, Nat.reduceEqDiff, Nat.reduceBEq, Nat.reduceBNe, Int.reduceToNat, Int.reduceLT, Int.reduceLE, Int.reduceEq, Int.reduceNe, Int.reduceAdd, Int.reduceSub, Int.reduceMul, Int.reduceNeg, u15_0, lb15_0, hlt, hi', hi2, hp, hw, hg, hg2, hlm, hone, c3', c4', Int.natCast_nonneg, Int.toNat_natCast, Option.getD_some, Option.getD_none, List.drop_zero, Nat.sub_zero, Nat.zero_le, true_and, and_true, Nat.le_refl, chk_of]
          rw [loop_step1]; simp (maxSteps := 2000000) only [go_sem, doCall, doCallQ, doCallP, Nat.reduceAdd, Nat.reduceMul, Nat.reduceSub, Nat.reduceDiv, Nat.reduceMod, Nat.reduceLT, Nat.reduceLeDiff, Nat.reduceEqDiff, Nat.reduceBEq, Nat.reduceBNe, Int.reduceToNat, Int.reduceLT, Int.reduceLE, Int.reduceEq, Int.reduceNe, Int.reduceAdd, Int.reduceSub, Int.reduceMul, Int.reduceNeg]; exact ih
      · have c4' := eq_true (show l[i].ob ≤ l[i - 1].ob by omega)
        rw [decide_eq_false (fun h => by have := hok.1 h; omega), Bool.and_false, Bool.false_and, if_neg (by simp)]
        generalize l[i - 1] = d2 at hg2 c4'
        generalize l[i] = d at hg hone c4'
        cases hr : oneR d
        · rw [hr] at hone
          simp (maxSteps := 2000000) (disch := omega) only [go_sem, doCall, doCallQ, doCallP, Nat.reduceAdd, Nat.reduceMul, Nat.reduceSub, Nat.reduceDiv, Nat.reduceMod, Nat.reduceLT, Nat.reduceLeDiff, Nat.reduceEqDiff, Nat.reduceBEq, Nat.reduceBNe, Int.reduceToNat, Int.reduceLT, Int.reduceLE, Int.reduceEq, Int.reduceNe, Int.reduceAdd, Int.reduceSub, Int.reduceMul, Int.reduceNeg, u15_0, lb15_0, hlt, hi', hi2, hp, hw, hg, hg2, hlm, hone, c3', c4', Int.natCast_nonneg, Int.toNat_natCast, Option.getD_some, Option.getD_none, List.drop_zero, Nat.sub_zero, Nat.zero_le, true_and, and_true, Nat.le_refl, chk_of]
        · rw [hr] at hone
          simp (maxSteps := 2000000) (disch := omega) only [go_sem, doCall, doCallQ, doCallP, Nat.reduceAdd, Nat.reduceMul, Nat.reduceSub, Nat.reduceDiv, Nat.reduceMod, Nat.reduceLT, Nat.reduceLeDiff, Nat.reduceEqDiff, Nat.reduceBEq, Nat.reduceBNe, Int.reduceToNat, Int.reduceLT, Int.reduceLE, Int.reduceEq, Int.reduceNe, Int.reduceAdd, Int.reduceSub, Int.reduceMul, Int.reduceNeg, u15_0, lb15_0, hlt, hi', hi2, hp, hw, hg, hg2, hlm, hone, c3', c4', Int.natCast_nonneg, Int.toNat_natCast, Option.getD_some, Option.getD_none, List.drop_zero, Nat.sub_zero, Nat.zero_le, true_and, and_true, Nat.le_refl, chk_of]
termination_by l.length - i
theorem t_right48 (l : List Hd) (hl : l.length ≤ 1000000000) (hb : ∀ d ∈ l, d.ps.length ≤ 1000000000) : call ir 15 [vHs l] [] = some (dT (rtR l), []) := by
  rw [call_eq (fn := ir15) rfl, evF_bnd]
  have hlm : (l.map hdRow).length = l.length := List.length_map ..
  simp (maxSteps := 2000000) (disch := omega) only [go_sem, doCall, doCallQ, doCallP, Nat.reduceAdd, Nat.reduceMul, Nat.reduceSub, Nat.reduceDiv, Nat.reduceMod, Nat.reduceLT, Nat.reduceLeDiff, Nat.reduceEqDiff, Nat.reduceBEq, Nat.reduceBNe, Int.reduceToNat, Int.reduceLT, Int.reduceLE, Int.reduceEq, Int.reduceNe, Int.reduceAdd, Int.reduceSub, Int.reduceMul, Int.reduceNeg, bd15, hlm, chk_of]
  rw [loop_step1]; simp (maxSteps := 2000000) only [go_sem, doCall, doCallQ, doCallP, Nat.reduceAdd, Nat.reduceMul, Nat.reduceSub, Nat.reduceDiv, Nat.reduceMod, Nat.reduceLT, Nat.reduceLeDiff, Nat.reduceEqDiff, Nat.reduceBEq, Nat.reduceBNe, Int.reduceToNat, Int.reduceLT, Int.reduceLE, Int.reduceEq, Int.reduceNe, Int.reduceAdd, Int.reduceSub, Int.reduceMul, Int.reduceNeg]
  refine (lp_dr l hl hb _ 0 (Nat.zero_le _)).trans ?_
  unfold rtR
  cases rtF l 0
  · rw [if_neg (by simp)]
    simp (maxSteps := 2000000) (disch := omega) only [go_sem, doCall, doCallQ, doCallP, Nat.reduceAdd, Nat.reduceMul, Nat.reduceSub, Nat.reduceDiv, Nat.reduceMod, Nat.reduceLT, Nat.reduceLeDiff, Nat.reduceEqDiff, Nat.reduceBEq, Nat.reduceBNe, Int.reduceToNat, Int.reduceLT, Int.reduceLE, Int.reduceEq, Int.reduceNe, Int.reduceAdd, Int.reduceSub, Int.reduceMul, Int.reduceNeg]
  · rw [if_pos rfl]
    simp (maxSteps := 2000000) (disch := omega) only [go_sem, doCall, doCallQ, doCallP, Nat.reduceAdd, Nat.reduceMul, Nat.reduceSub, Nat.reduceDiv, Nat.reduceMod, Nat.reduceLT, Nat.reduceLeDiff, Nat.reduceEqDiff, Nat.reduceBEq, Nat.reduceBNe, Int.reduceToNat, Int.reduceLT, Int.reduceLE, Int.reduceEq, Int.reduceNe, Int.reduceAdd, Int.reduceSub, Int.reduceMul, Int.reduceNeg]
end Go.Proofs.Ytbcpffhialoliaa
namespace Go.Proofs.Ytbcpffhialoliaa
open Go Go.Ev Go.Proofs.Ytbcpffhialoliaa.Ir
set_option maxRecDepth 100000
set_option maxHeartbeats 4000000
set_option linter.unusedSimpArgs false
set_option linter.unusedVariables false
theorem c_cloneP (l : List Pc) (hl : l.length ≤ 1000000) : call ir 47 [vPs l] [] = some (.own 0 4 0 l.length false, [.arr 4 (l.map pcRow)]) := by
  have hlen : (l.map pcRow).length = l.length := List.length_map ..
  have e := natSC_eq 47 4 48 (xs := l.map pcRow) (by omega)
  rw [hlen] at e
  rw [call_nat (by rfl), nat_eq]
  exact (natOr_r (by rfl)).trans ((natOr_r (by rfl)).trans ((natOr_r (by rfl)).trans (natOr_l e)))
theorem t_bcl (b : List UInt8) (hb : b.length ≤ 1000000) : call ir 48 [.d (.list 1 (bB b))] [] = some (.d (.list 1 (bB b)), []) := by
  rw [call_nat (by rfl), nat_eq]
  refine (natOr_r (by rfl)).trans ((natOr_r (by rfl)).trans ((natOr_r (by rfl)).trans ((natOr_r (by rfl)).trans (natOr_l ?_))))
  rw [natBC_eq _ (show u8s (bB b) = some _ from u8s_map b), if_pos (by simp; omega)]
theorem setPc (l : List Pc) {i : Nat} (h : i < l.length) : (l.map pcRow).set i [.int .i64 l[i].ob, .int .i64 l[i].ge, .int .i64 l[i].ix, .list 1 (bB l[i].bd)] = l.map pcRow := by
  apply List.ext_getElem
  · simp
  · intro j h1 h2
    rw [List.getElem_set]
    split
    · rename_i e; subst e; simp [pcRow]
    · rfl
theorem lp_cpd (l : List Pc) (hl : l.length ≤ 1000000) (hb : ∀ p ∈ l, p.bd.length ≤ 1000000) (k : Ex → St → Option (AV × Heap)) (i : Nat) (hi : i ≤ l.length) :
    (bnd (evC (call ir) (loop ir) lp33_0 (st33_0 0 (.own 0 4 0 l.length false) (dI l.length) (dI i) [.arr 4 (l.map pcRow)])) (lpC (call ir) (loop ir) [3, 8, 9] lp33_0 k)) = k (.exit 0) (clean [3] (st33_0 0 (.own 0 4 0 l.length false) .unk .unk [.arr 4 (l.map pcRow)])) := by
  by_cases h : i = l.length
  · have hx : ¬ (i : Int) < l.length := by omega
    rw [h] at hx
    rw [h]
    simp (maxSteps := 2000000) (disch := omega) only [go_sem, doCall, doCallQ, doCallP, Nat.reduceAdd, Nat.reduceMul, Nat.reduceSub, Nat.reduceDiv, Nat.reduceMod, Nat.reduceLT, Nat.reduceLeDiff, Nat.reduceEqDiff, Nat.reduceBEq, Nat.reduceBNe, Int.reduceToNat, Int.reduceLT, Int.reduceLE, Int.reduceEq, Int.reduceNe, Int.reduceAdd, Int.reduceSub, Int.reduceMul, Int.reduceNeg, u33_0, lb33_0, hx]
  · have hlt : (i : Int) < l.length := by omega
    have hi' : i < l.length := by omega
    have hw := wr_succ (i := i) (by omega)
    have hg := getPc l hi'
    have hs := setPc l hi'
    have hlm : (l.map pcRow).length = l.length := List.length_map ..
    have hcl := t_bcl l[i].bd (hb _ (List.getElem_mem hi'))
    have ih := lp_cpd l hl hb k (i + 1) (by omega)
    simp (maxSteps := 2000000) (disch := omega) only [go_sem, doCall, doCallQ, doCallP, Nat.reduceAdd, Nat.reduceMul, Nat.reduceSub, Nat.reduceDiv, Nat.reduceMod, Nat.reduceLT, Nat.reduceLeDiff, Nat.reduceEqDiff, Nat.reduceBEq, Nat.reduceBNe, Int.reduceToNat, Int.reduceLT, Int.reduceLE, Int.reduceEq, Int.reduceNe, Int.reduceAdd, Int.reduceSub, Int.reduceMul, Int.reduceNeg, u33_0, lb33_0, hlt, hi', hw, hg, hs, hlm, hcl, Nat.zero_add, List.set_cons_zero, List.set_cons_succ, Int.natCast_nonneg, Int.toNat_natCast, Option.getD_some, Option.getD_none, List.drop_zero, Nat.sub_zero, Nat.zero_le, true_and, and_true, Nat.le_refl, chk_of]
    rw [loop_step1]; simp (maxSteps := 2000000) only [go_sem, doCall, doCallQ, doCallP, Nat.reduceAdd, Nat.reduceMul, Nat.reduceSub, Nat.reduceDiv, Nat.reduceMod, Nat.reduceLT, Nat.reduceLeDiff, Nat.reduceEqDiff, Nat.reduceBEq, Nat.reduceBNe, Int.reduceToNat, Int.reduceLT, Int.reduceLE, Int.reduceEq, Int.reduceNe, Int.reduceAdd, Int.reduceSub, Int.reduceMul, Int.reduceNeg]; exact ih
termination_by l.length - i
theorem t_copied (l : List Pc) (hl : l.length ≤ 1000000) (hb : ∀ p ∈ l, p.bd.length ≤ 1000000) : call ir 33 [vPs l] [] = some (.own 0 4 0 l.length false, [.arr 4 (l.map pcRow)]) := by
  rw [call_eq (fn := ir33) rfl, evF_bnd]
  have hlm : (l.map pcRow).length = l.length := List.length_map ..
  have hc := c_cloneP l hl
  simp (maxSteps := 2000000) (disch := omega) only [go_sem, doCall, doCallQ, doCallP, Nat.reduceAdd, Nat.reduceMul, Nat.reduceSub, Nat.reduceDiv, Nat.reduceMod, Nat.reduceLT, Nat.reduceLeDiff, Nat.reduceEqDiff, Nat.reduceBEq, Nat.reduceBNe, Int.reduceToNat, Int.reduceLT, Int.reduceLE, Int.reduceEq, Int.reduceNe, Int.reduceAdd, Int.reduceSub, Int.reduceMul, Int.reduceNeg, bd33, hc, hlm, Int.natCast_nonneg, Int.toNat_natCast, Option.getD_some, Option.getD_none, List.drop_zero, Nat.sub_zero, Nat.zero_le, true_and, and_true, Nat.le_refl, chk_of]
  rw [loop_step1]; simp (maxSteps := 2000000) only [go_sem, doCall, doCallQ, doCallP, Nat.reduceAdd, Nat.reduceMul, Nat.reduceSub, Nat.reduceDiv, Nat.reduceMod, Nat.reduceLT, Nat.reduceLeDiff, Nat.reduceEqDiff, Nat.reduceBEq, Nat.reduceBNe, Int.reduceToNat, Int.reduceLT, Int.reduceLE, Int.reduceEq, Int.reduceNe, Int.reduceAdd, Int.reduceSub, Int.reduceMul, Int.reduceNeg]
  refine (lp_cpd l hl hb _ 0 (Nat.zero_le _)).trans ?_
  simp (maxSteps := 2000000) (disch := omega) only [go_sem, doCall, doCallQ, doCallP, Nat.reduceAdd, Nat.reduceMul, Nat.reduceSub, Nat.reduceDiv, Nat.reduceMod, Nat.reduceLT, Nat.reduceLeDiff, Nat.reduceEqDiff, Nat.reduceBEq, Nat.reduceBNe, Int.reduceToNat, Int.reduceLT, Int.reduceLE, Int.reduceEq, Int.reduceNe, Int.reduceAdd, Int.reduceSub, Int.reduceMul, Int.reduceNeg]
/-! ### IndexFunc and DeleteFunc by the object -/
abbrev clH (g : Nat) : AV := .clo (.func g) [] [.ptr 1 0]
def isO (o : Int) (d : Hd) : Bool := decide (d.ob = o)
def noO (o : Int) (d : Hd) : Bool := !isO o d
theorem c_find1 (o : Int) (d : Hd) : call ir 39 [vHd d, .ptr 0 0] [.dbox [.int .i64 o]] = some (dT (isO o d), [.dbox [.int .i64 o]]) := by
  rw [call_eq (fn := ir39) rfl, evF_bnd]
  unfold isO
  by_cases h : d.ob = o
  · rw [decide_eq_true h]
    simp (maxSteps := 2000000) (disch := omega) only [go_sem, doCall, doCallQ, doCallP, Nat.reduceAdd, Nat.reduceMul, Nat.reduceSub, Nat.reduceDiv, Nat.reduceMod, Nat.reduceLT, Nat.reduceLeDiff, Nat.reduceEqDiff, Nat.reduceBEq, Nat.reduceBNe, Int.reduceToNat, Int.reduceLT, Int.reduceLE, Int.reduceEq, Int.reduceNe, Int.reduceAdd, Int.reduceSub, Int.reduceMul, Int.reduceNeg, bd39, show (d.ob == o) = true by simp [h], eq_true h, Int.natCast_nonneg, Int.toNat_natCast, Option.getD_some, Option.getD_none, List.drop_zero, Nat.sub_zero, Nat.zero_le, true_and, and_true, Nat.le_refl, chk_of]
  · rw [decide_eq_false h]
    simp (maxSteps := 2000000) (disch := omega) only [go_sem, doCall, doCallQ, doCallP, Nat.reduceAdd, Nat.reduceMul, Nat.reduceSub, Nat.reduceDiv, Nat.reduceMod, Nat.reduceLT, Nat.reduceLeDiff, Nat.reduceEqDiff, Nat.reduceBEq, Nat.reduceBNe, Int.reduceToNat, Int.reduceLT, Int.reduceLE, Int.reduceEq, Int.reduceNe, Int.reduceAdd, Int.reduceSub, Int.reduceMul, Int.reduceNeg, bd39, show (d.ob == o) = false by simp [h], eq_false h, Int.natCast_nonneg, Int.toNat_natCast, Option.getD_some, Option.getD_none, List.drop_zero, Nat.sub_zero, Nat.zero_le, true_and, and_true, Nat.le_refl, chk_of]
/-- What is held of an object: the first. -/
def fndO (o : Int) (l : List Hd) : Option Hd := l.find? (isO o)
theorem fnd_of {o : Int} {l : List Hd} {n : Nat} (hn : n < l.length) (h1 : (l.take n).filter (noO o) = l.take n) (h2 : isO o l[n] = true) : fndO o l = some l[n] := by
  have e : l = l.take n ++ l[n] :: l.drop (n + 1) := by rw [← List.drop_eq_getElem_cons hn, List.take_append_drop]
  unfold fndO
  generalize l[n] = x at e h2 ⊢
  rw [e, List.find?_append]
  have h3 : (l.take n).find? (isO o) = none := by
    rw [List.find?_eq_none]
    intro x hx
    rw [← h1] at hx
    have := (List.mem_filter.1 hx).2
    unfold noO at this
    simpa using this
  rw [h3, Option.none_or, List.find?_cons_of_pos (by simpa using h2)]
theorem fnd_none {o : Int} {l : List Hd} (h : l.filter (noO o) = l) : fndO o l = none := by
  unfold fndO
  rw [List.find?_eq_none]
  intro x hx
  rw [← h] at hx
  have := (List.mem_filter.1 hx).2
  unfold noO at this
  simpa using this
def d0 : Hd := ⟨0, 0, [], 0, 0, []⟩
end Go.Proofs.Ytbcpffhialoliaa
namespace Go.Proofs.Ytbcpffhialoliaa
open Go Go.Ev Go.Proofs.Ytbcpffhialoliaa.Ir
set_option maxRecDepth 100000
set_option maxHeartbeats 4000000
set_option linter.unusedSimpArgs false
set_option linter.unusedVariables false
/-! ### the sort -/
/-! ### the first loop of Apply -/
end Go.Proofs.Ytbcpffhialoliaa
namespace Go.Proofs.Ytbcpffhialoliaa
open Go Go.Ev Go.Proofs.Ytbcpffhialoliaa.Ir
set_option maxRecDepth 100000
set_option maxHeartbeats 4000000
set_option linter.unusedSimpArgs false
set_option linter.unusedVariables false
/-! ### what rises -/
theorem adj_pair {β : Type} [Inhabited β] (f : β → Int) : ∀ (l : List β), (∀ j, 0 < j → j < l.length → f (l.getD (j - 1) default) < f (l.getD j default)) → l.Pairwise (fun a b => f a < f b)
  | [], _ => .nil
  | [x], _ => by simp
  | x :: y :: l, h => by
    have ih := adj_pair f (y :: l) (fun j h1 h2 => by
      have := h (j + 1) (by omega) (by simp at h2 ⊢; omega)
      obtain ⟨q, rfl⟩ : ∃ q, j = q + 1 := ⟨j - 1, by omega⟩
      simpa using this)
    have h0 : f x < f y := by simpa using h 1 (by omega) (by simp)
    refine List.pairwise_cons.2 ⟨fun z hz => ?_, ih⟩
    rcases List.mem_cons.1 hz with rfl | hz
    · exact h0
    · have := (List.pairwise_cons.1 ih).1 z hz
      omega
theorem pair_adj {β : Type} [Inhabited β] (f : β → Int) {l : List β} (h : l.Pairwise (fun a b => f a < f b)) {j : Nat} (h1 : 0 < j) (h2 : j < l.length) : f (l.getD (j - 1) default) < f (l.getD j default) := by
  have := List.pairwise_iff_getElem.1 h (j - 1) j (by omega) h2 (by omega)
  simpa [List.getD_eq_getElem?_getD, h2, show j - 1 < l.length by omega] using this
theorem op_all (ob ge : Int) (l : List Pc) : ∀ (n i : Nat), l.length - i = n → (opF ob ge l i = true ↔ ∀ j, i ≤ j → j < l.length → okP ob ge l j) := by
  intro n
  induction n with
  | zero =>
    intro i h
    rw [opF, dif_neg (by omega)]
    simp; intro j h1 h2; omega
  | succ n ih =>
    intro i h
    rw [opF_at (by omega), Bool.and_eq_true, ih (i + 1) (by omega), decide_eq_true_iff]
    constructor
    · intro h1 j h2 h3
      by_cases e : i = j
      · subst e; exact h1.1
      · exact h1.2 j (by omega) h3
    · intro h1
      exact ⟨h1 i (Nat.le_refl _) (by omega), fun j h2 h3 => h1 j (by omega) h3⟩
theorem rt_all (l : List Hd) : ∀ (n i : Nat), l.length - i = n → (rtF l i = true ↔ ∀ j, i ≤ j → j < l.length → oneR (l.getD j default) = true ∧ okH l j) := by
  intro n
  induction n with
  | zero =>
    intro i h
    rw [rtF, dif_neg (by omega)]
    simp; intro j h1 h2; omega
  | succ n ih =>
    intro i h
    rw [rtF_at (by omega), Bool.and_eq_true, ih (i + 1) (by omega), Bool.and_eq_true, decide_eq_true_iff, ← gH (show i < l.length by omega)]
    constructor
    · intro h1 j h2 h3
      by_cases e : i = j
      · subst e; exact h1.1
      · exact h1.2 j (by omega) h3
    · intro h1
      exact ⟨h1 i (Nat.le_refl _) (by omega), fun j h2 h3 => h1 j (by omega) h3⟩
theorem one_iff (d : Hd) : oneR d = true ↔ (∀ p ∈ d.ps, p.ob = d.ob ∧ p.ge = d.ge) ∧ d.ps.Pairwise (fun a b => a.ix < b.ix) := by
  unfold oneR
  rw [op_all d.ob d.ge d.ps _ 0 rfl]
  unfold okP
  constructor
  · intro h
    refine ⟨fun p hp => ?_, adj_pair (·.ix) d.ps fun j h1 h2 => ?_⟩
    · obtain ⟨j, hj, rfl⟩ := List.mem_iff_getElem.1 hp
      have := h j (Nat.zero_le _) hj
      rw [gP hj] at this
      exact ⟨this.1, this.2.1⟩
    · have := (h j (Nat.zero_le _) h2).2.2
      rcases this with h0 | h0
      · omega
      · exact h0
  · rintro ⟨h1, h2⟩ j _ hj
    have := h1 _ (List.getElem_mem hj)
    rw [gP hj]
    refine ⟨this.1, this.2, ?_⟩
    by_cases h0 : j = 0
    · exact .inl h0
    · have := pair_adj (·.ix) h2 (by omega) hj
      rw [gP hj] at this
      exact .inr this
theorem rt_iff (l : List Hd) : rtR l = true ↔ (∀ d ∈ l, oneR d = true) ∧ l.Pairwise (fun a b => a.ob < b.ob) := by
  unfold rtR
  rw [rt_all l _ 0 rfl]
  unfold okH
  constructor
  · intro h
    refine ⟨fun p hp => ?_, adj_pair (·.ob) l fun j h1 h2 => ?_⟩
    · obtain ⟨j, hj, rfl⟩ := List.mem_iff_getElem.1 hp
      have := h j (Nat.zero_le _) hj
      rw [gH hj] at this
      exact this.1
    · have := (h j (Nat.zero_le _) h2).2
      rcases this with h0 | h0
      · omega
      · exact h0
  · rintro ⟨h1, h2⟩ j _ hj
    rw [gH hj]
    refine ⟨h1 _ (List.getElem_mem hj), ?_⟩
    by_cases h0 : j = 0
    · exact .inl h0
    · have := pair_adj (·.ob) h2 (by omega) hj
      rw [gH hj] at this
      exact .inr this
theorem nod_of {β : Type} {f : β → Int} {l : List β} (h : l.Pairwise (fun a b => f a < f b)) : (l.map f).Nodup := by
  rw [List.nodup_iff_pairwise_ne, List.pairwise_map]
  exact h.imp fun h => by omega
theorem srt_strict {β : Type} {f : β → Int} {l : List β} (h : (l.map f).Nodup) : (srtK f l).Pairwise (fun a b => f a < f b) := by
  have h1 := srtK_sorted f l
  have h2 : ((srtK f l).map f).Nodup := ((srtK_perm f l).map f).nodup_iff.2 h
  rw [List.nodup_iff_pairwise_ne, List.pairwise_map] at h2
  exact (h1.and h2).imp fun h => by omega
/-! ### the changes -/
theorem w0 : wr .i64 0 = 0 := wr_id (by omega)
end Go.Proofs.Ytbcpffhialoliaa
namespace Go.Proofs.Ytbcpffhialoliaa
open Go Go.Ev Go.Proofs.Ytbcpffhialoliaa.Ir
set_option maxRecDepth 100000
set_option maxHeartbeats 4000000
set_option linter.unusedSimpArgs false
set_option linter.unusedVariables false
/-- Bounds. -/
def sml (l : List Hd) : Prop := l.length ≤ 100000 ∧ ∀ d ∈ l, d.ps.length ≤ 100000 ∧ ∀ p ∈ d.ps, p.bd.length ≤ 100000
theorem sml_b {l : List Hd} (h : sml l) : ∀ d ∈ l, d.ps.length ≤ 1000000000 := fun d hd => by have := (h.2 d hd).1; omega
end Go.Proofs.Ytbcpffhialoliaa
namespace Go.Proofs.Ytbcpffhialoliaa
open Go Go.Ev Go.Proofs.Ytbcpffhialoliaa.Ir
set_option maxRecDepth 100000
set_option maxHeartbeats 4000000
set_option linter.unusedSimpArgs false
set_option linter.unusedVariables false
def pcD (p : Pc) : D := .agg [.int .i64 p.ob, .int .i64 p.ge, .int .i64 p.ix, .list 1 (bB p.bd)]
def pcE (p : Pc) : Int × D := (p.ix, pcD p)
theorem putM_end {α : Type} {k : Int} {v : α} : ∀ {l : List (Int × α)}, (∀ q ∈ l, q.1 < k) → putM k v l = l ++ [(k, v)]
  | [], _ => rfl
  | (a, d) :: l, h => by
    have := h _ (.head _)
    simp only at this
    rw [putM, if_neg (by omega), if_neg (by omega), putM_end fun q hq => h q (.tail _ hq)]
    rfl
def rises (l : List Pc) : Prop := l.Pairwise (fun a b => a.ix < b.ix)
theorem put_next {l : List Pc} (hl : rises l) {i : Nat} (h : i < l.length) : putM l[i].ix (pcD l[i]) ((l.take i).map pcE) = (l.take (i + 1)).map pcE := by
  rw [List.take_succ_eq_append_getElem h, List.map_append]
  apply putM_end
  intro q hq
  obtain ⟨p, hp, rfl⟩ := List.mem_map.1 hq
  obtain ⟨j, hj, rfl⟩ := List.mem_iff_getElem.1 hp
  rw [List.getElem_take]
  rw [List.length_take] at hj
  exact List.pairwise_iff_getElem.1 hl j i (by omega) h (by omega)
theorem lp_bod (l : List Pc) (hl : l.length ≤ 1000000) (hr : rises l) (k : Ex → St → Option (AV × Heap)) (i : Nat) (hi : i ≤ l.length) :
    (bnd (evC (call ir) (loop ir) lp41_0 (st41_0 0 (.mref 0) (vPs l) (dI l.length) (dI i) [.mp ((l.take i).map pcE)])) (lpC (call ir) (loop ir) [3, 7, 8, 9] lp41_0 k)) = k (.exit 0) (clean [3] (st41_0 0 (.mref 0) .unk .unk .unk [.mp (l.map pcE)])) := by
  by_cases h : i = l.length
  · have hx : ¬ (i : Int) < l.length := by omega
    rw [h] at hx
    rw [h, List.take_length]
    simp (maxSteps := 2000000) (disch := omega) only [go_sem, doCall, doCallQ, doCallP, Nat.reduceAdd, Nat.reduceMul, Nat.reduceSub, Nat.reduceDiv, Nat.reduceMod, Nat.reduceLT, Nat.reduceLeDiff, Nat.reduceEqDiff, Nat.reduceBEq, Nat.reduceBNe, Int.reduceToNat, Int.reduceLT, Int.reduceLE, Int.reduceEq, Int.reduceNe, Int.reduceAdd, Int.reduceSub, Int.reduceMul, Int.reduceNeg, u41_0, lb41_0, hx]
  · have hlt : (i : Int) < l.length := by omega
    have hi' : i < l.length := by omega
    have hw := wr_succ (i := i) (by omega)
    have hg := getPc l hi'
    have hp := put_next hr hi'
    unfold pcD at hp
    have hlm : (l.map pcRow).length = l.length := List.length_map ..
    have ih := lp_bod l hl hr k (i + 1) (by omega)
    simp (maxSteps := 2000000) (disch := omega) only [go_sem, doCall, doCallQ, doCallP, Nat.reduceAdd, Nat.reduceMul, Nat.reduceSub, Nat.reduceDiv, Nat.reduceMod, Nat.reduceLT, Nat.reduceLeDiff, Nat.reduceEqDiff, Nat.reduceBEq, Nat.reduceBNe, Int.reduceToNat, Int.reduceLT, Int.reduceLE, Int.reduceEq, Int.reduceNe, Int.reduceAdd, Int.reduceSub, Int.reduceMul, Int.reduceNeg, u41_0, lb41_0, hlt, hi', hw, hg, hp, hlm, Nat.zero_add, List.set_cons_zero, List.set_cons_succ, Int.natCast_nonneg, Int.toNat_natCast, Option.getD_some, Option.getD_none, List.drop_zero, Nat.sub_zero, Nat.zero_le, true_and, and_true, Nat.le_refl, chk_of]
    rw [loop_step1]; simp (maxSteps := 2000000) only [go_sem, doCall, doCallQ, doCallP, Nat.reduceAdd, Nat.reduceMul, Nat.reduceSub, Nat.reduceDiv, Nat.reduceMod, Nat.reduceLT, Nat.reduceLeDiff, Nat.reduceEqDiff, Nat.reduceBEq, Nat.reduceBNe, Int.reduceToNat, Int.reduceLT, Int.reduceLE, Int.reduceEq, Int.reduceNe, Int.reduceAdd, Int.reduceSub, Int.reduceMul, Int.reduceNeg]; exact ih
termination_by l.length - i
theorem t_bodies (l : List Pc) (hl : l.length ≤ 1000000) (hr : rises l) : call ir 41 [vPs l] [] = some (.mref 0, [.mp (l.map pcE)]) := by
  rw [call_eq (fn := ir41) rfl, evF_bnd]
  have hlm : (l.map pcRow).length = l.length := List.length_map ..
  simp (maxSteps := 2000000) (disch := omega) only [go_sem, doCall, doCallQ, doCallP, Nat.reduceAdd, Nat.reduceMul, Nat.reduceSub, Nat.reduceDiv, Nat.reduceMod, Nat.reduceLT, Nat.reduceLeDiff, Nat.reduceEqDiff, Nat.reduceBEq, Nat.reduceBNe, Int.reduceToNat, Int.reduceLT, Int.reduceLE, Int.reduceEq, Int.reduceNe, Int.reduceAdd, Int.reduceSub, Int.reduceMul, Int.reduceNeg, bd41, hlm, Int.natCast_nonneg, Int.toNat_natCast, Option.getD_some, Option.getD_none, List.drop_zero, Nat.sub_zero, Nat.zero_le, true_and, and_true, Nat.le_refl, chk_of]
  rw [loop_step1]; simp (maxSteps := 2000000) only [go_sem, doCall, doCallQ, doCallP, Nat.reduceAdd, Nat.reduceMul, Nat.reduceSub, Nat.reduceDiv, Nat.reduceMod, Nat.reduceLT, Nat.reduceLeDiff, Nat.reduceEqDiff, Nat.reduceBEq, Nat.reduceBNe, Int.reduceToNat, Int.reduceLT, Int.reduceLE, Int.reduceEq, Int.reduceNe, Int.reduceAdd, Int.reduceSub, Int.reduceMul, Int.reduceNeg]
  refine (lp_bod l hl hr _ 0 (Nat.zero_le _)).trans ?_
  simp (maxSteps := 2000000) (disch := omega) only [go_sem, doCall, doCallQ, doCallP, Nat.reduceAdd, Nat.reduceMul, Nat.reduceSub, Nat.reduceDiv, Nat.reduceMod, Nat.reduceLT, Nat.reduceLeDiff, Nat.reduceEqDiff, Nat.reduceBEq, Nat.reduceBNe, Int.reduceToNat, Int.reduceLT, Int.reduceLE, Int.reduceEq, Int.reduceNe, Int.reduceAdd, Int.reduceSub, Int.reduceMul, Int.reduceNeg]
/-- Whether a place is a piece's. -/
def atP (i : Int) (l : List Pc) : Bool := l.any fun p => decide (p.ix = i)
theorem find_at (i : Int) : ∀ l : List Pc, (findM i (l.map pcE)).isSome = atP i l
  | [] => rfl
  | p :: l => by
    have ih := find_at i l
    unfold atP at *
    rw [List.map_cons, List.any_cons, ← ih]
    show (findM i ((p.ix, pcD p) :: l.map pcE)).isSome = _
    rw [findM]
    by_cases h : p.ix = i
    · rw [if_pos h, decide_eq_true h]; rfl
    · rw [if_neg h, decide_eq_false h]; rfl
def noI (i : Int) (p : Pc) : Bool := !decide (p.ix = i)
end Go.Proofs.Ytbcpffhialoliaa
