/- Whether two bodies, two pieces are the same. Own work. What has changed of an object: the parts of it that are new. Own work. The pieces that have changed. Own work. What is lost. Own work. -/
import Derived.Test.YtbcpffhialoliaaDfM
namespace Go.Proofs.Ytbcpffhialoliaa
open Go Go.Ev Go.Proofs.Ytbcpffhialoliaa.Ir
set_option maxRecDepth 100000
set_option maxHeartbeats 4000000
set_option linter.unusedSimpArgs false
set_option linter.unusedVariables false
abbrev vBd (b : List UInt8) : AV := .d (.list 1 (bB b))
theorem getBd (b : List UInt8) {i : Nat} (h : i < b.length) : (bB b).getD i [] = [.int .u8 b[i].toNat] := by simp [List.getD_eq_getElem?_getD, h, bB]
theorem lp_byt (a b : List UInt8) (hl : a.length = b.length) (hb : a.length ≤ 1000000000) (k : Ex → St → Option (AV × Heap)) (i : Nat) (hi : i ≤ a.length) :
    (bnd (evC (call ir) (loop ir) lp45_0 (st45_0 0 (vBd a) (vBd b) (dI a.length) (dI i) [])) (lpC (call ir) (loop ir) [0, 1, 12, 13] lp45_0 k)) = (if a.drop i = b.drop i then k (.exit 0) (clean [] (st45_0 0 .unk .unk .unk .unk []))
      else k .ret (clean [4] ⟨0, [.unk, .unk, .unk, .unk, dT false, .unk, .unk, .unk, .unk, .unk, .unk, .unk, .unk, .unk, .unk, .unk, .unk, .unk, .unk, .unk, .unk, .unk, .unk, .unk, .unk, .unk], []⟩)) := by
  by_cases h : i = a.length
  · have hx : ¬ (i : Int) < a.length := by omega
    rw [h] at hx
    rw [h, List.drop_length, hl, List.drop_length, if_pos rfl, ← hl]
    simp (maxSteps := 2000000) (disch := omega) only [go_sem, doCall, doCallQ, doCallP, Nat.reduceAdd, Nat.reduceMul, Nat.reduceSub, Nat.reduceDiv, Nat.reduceMod, Nat.reduceLT, Nat.reduceLeDiff, Nat.reduceEqDiff, Nat.reduceBEq, Nat.reduceBNe, Int.reduceToNat, Int.reduceLT, Int.reduceLE, Int.reduceEq, Int.reduceNe, Int.reduceAdd, Int.reduceSub, Int.reduceMul, Int.reduceNeg, u45_0, lb45_0, hx]
  · have hlt : (i : Int) < a.length := by omega
    have hi' : i < a.length := by omega
    have hib : i < b.length := by omega
    have hw := wr_succ (i := i) (by omega)
    have hg := getBd a hi'
    have hg2 := getBd b hib
    have h1 := bB_len a
    have h2 := bB_len b
    have ih := lp_byt a b hl hb k (i + 1) (by omega)
    rw [List.drop_eq_getElem_cons hi', List.drop_eq_getElem_cons hib]
    by_cases e : a[i] = b[i]
    · have e1 : ((a[i].toNat : Int) != (b[i].toNat : Int)) = false := by rw [e]; simp
      have e2 : ((a[i].toNat : Int) = (b[i].toNat : Int)) = True := by rw [e]; simp
      simp only [List.cons.injEq, e, true_and]
      simp (maxSteps := 2000000) (disch := omega) only [go_sem, doCall, doCallQ, doCallP, Nat.reduceAdd, Nat.reduceMul, Nat.reduceSub, Nat.reduceDiv, Nat.reduceMod, Nat.reduceLT, Nat.reduceLeDiff, Nat.reduceEqDiff, Nat.reduceBEq, Nat.reduceBNe, Int.reduceToNat, Int.reduceLT, Int.reduceLE, Int.reduceEq, Int.reduceNe, Int.reduceAdd, Int.reduceSub, Int.reduceMul, Int.reduceNeg, u45_0, lb45_0, hlt, hi', hib, hw, hg, hg2, h1, h2, e1, e2, e, not_true, Int.natCast_nonneg, Int.toNat_natCast, Option.getD_some, Option.getD_none, List.drop_zero, Nat.sub_zero, Nat.zero_le, true_and, and_true, Nat.le_refl, chk_of]
      rw [loop_step1]; simp (maxSteps := 2000000) only [go_sem, doCall, doCallQ, doCallP, Nat.reduceAdd, Nat.reduceMul, Nat.reduceSub, Nat.reduceDiv, Nat.reduceMod, Nat.reduceLT, Nat.reduceLeDiff, Nat.reduceEqDiff, Nat.reduceBEq, Nat.reduceBNe, Int.reduceToNat, Int.reduceLT, Int.reduceLE, Int.reduceEq, Int.reduceNe, Int.reduceAdd, Int.reduceSub, Int.reduceMul, Int.reduceNeg]; exact ih
    · have e1 : ((a[i].toNat : Int) != (b[i].toNat : Int)) = true := by simp [u8_u8, e]
      have e2 : ((a[i].toNat : Int) = (b[i].toNat : Int)) = False := by rw [u8_u8]; exact eq_false e
      rw [if_neg (show ¬ (a[i] :: a.drop (i + 1) = b[i] :: b.drop (i + 1)) from fun h => e (List.cons.inj h).1)]
      simp (maxSteps := 2000000) (disch := omega) only [go_sem, doCall, doCallQ, doCallP, Nat.reduceAdd, Nat.reduceMul, Nat.reduceSub, Nat.reduceDiv, Nat.reduceMod, Nat.reduceLT, Nat.reduceLeDiff, Nat.reduceEqDiff, Nat.reduceBEq, Nat.reduceBNe, Int.reduceToNat, Int.reduceLT, Int.reduceLE, Int.reduceEq, Int.reduceNe, Int.reduceAdd, Int.reduceSub, Int.reduceMul, Int.reduceNeg, u45_0, lb45_0, hlt, hi', hib, hw, hg, hg2, h1, h2, e1, e2, not_false_eq_true, Int.natCast_nonneg, Int.toNat_natCast, Option.getD_some, Option.getD_none, List.drop_zero, Nat.sub_zero, Nat.zero_le, true_and, and_true, Nat.le_refl, chk_of]
termination_by a.length - i
theorem t_byt (a b : List UInt8) (ha : a.length ≤ 1000000000) : call ir 45 [vBd a, vBd b] [] = some (dT (decide (a = b)), []) := by
  rw [call_eq (fn := ir45) rfl, evF_bnd]
  have h1 := bB_len a
  have h2 := bB_len b
  by_cases hl : a.length = b.length
  · have hl' : ((a.length : Int) = (b.length : Int)) = True := by rw [hl]; simp
    have hl2 : ((a.length : Int) != (b.length : Int)) = false := by rw [hl]; simp
    simp (maxSteps := 2000000) (disch := omega) only [go_sem, doCall, doCallQ, doCallP, Nat.reduceAdd, Nat.reduceMul, Nat.reduceSub, Nat.reduceDiv, Nat.reduceMod, Nat.reduceLT, Nat.reduceLeDiff, Nat.reduceEqDiff, Nat.reduceBEq, Nat.reduceBNe, Int.reduceToNat, Int.reduceLT, Int.reduceLE, Int.reduceEq, Int.reduceNe, Int.reduceAdd, Int.reduceSub, Int.reduceMul, Int.reduceNeg, bd45, h1, h2, hl', hl2, not_true, Int.natCast_nonneg, Int.toNat_natCast, Option.getD_some, Option.getD_none, List.drop_zero, Nat.sub_zero, Nat.zero_le, true_and, and_true, Nat.le_refl, chk_of]
    rw [loop_step1]; simp (maxSteps := 2000000) only [go_sem, doCall, doCallQ, doCallP, Nat.reduceAdd, Nat.reduceMul, Nat.reduceSub, Nat.reduceDiv, Nat.reduceMod, Nat.reduceLT, Nat.reduceLeDiff, Nat.reduceEqDiff, Nat.reduceBEq, Nat.reduceBNe, Int.reduceToNat, Int.reduceLT, Int.reduceLE, Int.reduceEq, Int.reduceNe, Int.reduceAdd, Int.reduceSub, Int.reduceMul, Int.reduceNeg]
    refine (lp_byt a b hl ha _ 0 (Nat.zero_le _)).trans ?_
    rw [List.drop_zero, List.drop_zero]
    by_cases e : a = b
    · rw [if_pos e, decide_eq_true e]
      simp (maxSteps := 2000000) (disch := omega) only [go_sem, doCall, doCallQ, doCallP, Nat.reduceAdd, Nat.reduceMul, Nat.reduceSub, Nat.reduceDiv, Nat.reduceMod, Nat.reduceLT, Nat.reduceLeDiff, Nat.reduceEqDiff, Nat.reduceBEq, Nat.reduceBNe, Int.reduceToNat, Int.reduceLT, Int.reduceLE, Int.reduceEq, Int.reduceNe, Int.reduceAdd, Int.reduceSub, Int.reduceMul, Int.reduceNeg]
    · rw [if_neg e, decide_eq_false e]
      simp (maxSteps := 2000000) (disch := omega) only [go_sem, doCall, doCallQ, doCallP, Nat.reduceAdd, Nat.reduceMul, Nat.reduceSub, Nat.reduceDiv, Nat.reduceMod, Nat.reduceLT, Nat.reduceLeDiff, Nat.reduceEqDiff, Nat.reduceBEq, Nat.reduceBNe, Int.reduceToNat, Int.reduceLT, Int.reduceLE, Int.reduceEq, Int.reduceNe, Int.reduceAdd, Int.reduceSub, Int.reduceMul, Int.reduceNeg]
  · have hl' : ((a.length : Int) = (b.length : Int)) = False := eq_false (by omega)
    have hl2 : ((a.length : Int) != (b.length : Int)) = true := by simp; omega
    rw [decide_eq_false (fun e => hl (by rw [e]))]
    simp (maxSteps := 2000000) (disch := omega) only [go_sem, doCall, doCallQ, doCallP, Nat.reduceAdd, Nat.reduceMul, Nat.reduceSub, Nat.reduceDiv, Nat.reduceMod, Nat.reduceLT, Nat.reduceLeDiff, Nat.reduceEqDiff, Nat.reduceBEq, Nat.reduceBNe, Int.reduceToNat, Int.reduceLT, Int.reduceLE, Int.reduceEq, Int.reduceNe, Int.reduceAdd, Int.reduceSub, Int.reduceMul, Int.reduceNeg, bd45, h1, h2, hl', hl2, not_false_eq_true, Int.natCast_nonneg, Int.toNat_natCast, Option.getD_some, Option.getD_none, List.drop_zero, Nat.sub_zero, Nat.zero_le, true_and, and_true, Nat.le_refl, chk_of]
theorem t_equalB (a b : List UInt8) : call ir 46 [vBd a, vBd b] [] = some (dT (decide (a = b)), []) := by
  rw [call_eq (fn := ir46) rfl, evF_bnd]
  have h1 : evO.bytesOf (bB a) = some a := bytesOf_rB a
  have h2 : evO.bytesOf (bB b) = some b := bytesOf_rB b
  simp (maxSteps := 2000000) (disch := omega) only [go_sem, doCall, doCallQ, doCallP, Nat.reduceAdd, Nat.reduceMul, Nat.reduceSub, Nat.reduceDiv, Nat.reduceMod, Nat.reduceLT, Nat.reduceLeDiff, Nat.reduceEqDiff, Nat.reduceBEq, Nat.reduceBNe, Int.reduceToNat, Int.reduceLT, Int.reduceLE, Int.reduceEq, Int.reduceNe, Int.reduceAdd, Int.reduceSub, Int.reduceMul, Int.reduceNeg, bd46, b2sA, AV.asStr, tailA, h1, h2, if_true, chk_of]
abbrev vPc (p : Pc) : AV := .agg [dI p.ob, dI p.ge, dI p.ix, vBd p.bd]
def samePc (p q : Pc) : Bool := decide (p.ob = q.ob) && (decide (p.ge = q.ge) && (decide (p.ix = q.ix) && decide (p.bd = q.bd)))
theorem t_like28 (p q : Pc) : call ir 28 [vPc p, vPc q] [] = some (dT (samePc p q), []) := by
  rw [call_eq (fn := ir28) rfl, evF_bnd]
  have he := t_equalB p.bd q.bd
  unfold samePc
  by_cases c1 : p.ob = q.ob
  · by_cases c2 : p.ge = q.ge
    · by_cases c3 : p.ix = q.ix
      · rw [decide_eq_true c1, decide_eq_true c2, decide_eq_true c3, Bool.true_and, Bool.true_and, Bool.true_and]
        simp (maxSteps := 2000000) (disch := omega) only [go_sem, doCall, doCallQ, doCallP, Nat.reduceAdd, Nat.reduceMul, Nat.reduceSub, Nat.reduceDiv, Nat.reduceMod, Nat.reduceLT, Nat.reduceLeDiff, Nat.reduceEqDiff, Nat.reduceBEq, Nat.reduceBNe, Int.reduceToNat, Int.reduceLT, Int.reduceLE, Int.reduceEq, Int.reduceNe, Int.reduceAdd, Int.reduceSub, Int.reduceMul, Int.reduceNeg, bd28, he, show (p.ob == q.ob) = true by simp [c1], show (p.ge == q.ge) = true by simp [c2], show (p.ix == q.ix) = true by simp [c3], eq_true c1, eq_true c2, eq_true c3, Int.natCast_nonneg, Int.toNat_natCast, Option.getD_some, Option.getD_none, List.drop_zero, Nat.sub_zero, Nat.zero_le, true_and, and_true, Nat.le_refl, chk_of]
      · rw [decide_eq_true c1, decide_eq_true c2, decide_eq_false c3, Bool.true_and, Bool.true_and, Bool.false_and]
        simp (maxSteps := 2000000) (disch := omega) only [go_sem, doCall, doCallQ, doCallP, Nat.reduceAdd, Nat.reduceMul, Nat.reduceSub, Nat.reduceDiv, Nat.reduceMod, Nat.reduceLT, Nat.reduceLeDiff, Nat.reduceEqDiff, Nat.reduceBEq, Nat.reduceBNe, Int.reduceToNat, Int.reduceLT, Int.reduceLE, Int.reduceEq, Int.reduceNe, Int.reduceAdd, Int.reduceSub, Int.reduceMul, Int.reduceNeg, bd28, he, show (p.ob == q.ob) = true by simp [c1], show (p.ge == q.ge) = true by simp [c2], show (p.ix == q.ix) = false by simp [c3], eq_true c1, eq_true c2, eq_false c3, Int.natCast_nonneg, Int.toNat_natCast, Option.getD_some, Option.getD_none, List.drop_zero, Nat.sub_zero, Nat.zero_le, true_and, and_true, Nat.le_refl, chk_of]
    · rw [decide_eq_true c1, decide_eq_false c2, Bool.true_and, Bool.false_and]
      simp (maxSteps := 2000000) (disch := omega) only [go_sem, doCall, doCallQ, doCallP, Nat.reduceAdd, Nat.reduceMul, Nat.reduceSub, Nat.reduceDiv, Nat.reduceMod, Nat.reduceLT, Nat.reduceLeDiff, Nat.reduceEqDiff, Nat.reduceBEq, Nat.reduceBNe, Int.reduceToNat, Int.reduceLT, Int.reduceLE, Int.reduceEq, Int.reduceNe, Int.reduceAdd, Int.reduceSub, Int.reduceMul, Int.reduceNeg, bd28, he, show (p.ob == q.ob) = true by simp [c1], show (p.ge == q.ge) = false by simp [c2], eq_true c1, eq_false c2, Int.natCast_nonneg, Int.toNat_natCast, Option.getD_some, Option.getD_none, List.drop_zero, Nat.sub_zero, Nat.zero_le, true_and, and_true, Nat.le_refl, chk_of]
  · rw [decide_eq_false c1, Bool.false_and]
    simp (maxSteps := 2000000) (disch := omega) only [go_sem, doCall, doCallQ, doCallP, Nat.reduceAdd, Nat.reduceMul, Nat.reduceSub, Nat.reduceDiv, Nat.reduceMod, Nat.reduceLT, Nat.reduceLeDiff, Nat.reduceEqDiff, Nat.reduceBEq, Nat.reduceBNe, Int.reduceToNat, Int.reduceLT, Int.reduceLE, Int.reduceEq, Int.reduceNe, Int.reduceAdd, Int.reduceSub, Int.reduceMul, Int.reduceNeg, bd28, he, show (p.ob == q.ob) = false by simp [c1], eq_false c1, Int.natCast_nonneg, Int.toNat_natCast, Option.getD_some, Option.getD_none, List.drop_zero, Nat.sub_zero, Nat.zero_le, true_and, and_true, Nat.le_refl, chk_of]
theorem t_samep (p q : Pc) (hb : p.bd.length ≤ 1000000000) : call ir 24 [vPc p, vPc q] [] = some (dT (samePc p q), []) := by
  rw [call_eq (fn := ir24) rfl, evF_bnd]
  have he := t_byt p.bd q.bd hb
  unfold samePc
  by_cases c1 : p.ob = q.ob
  · by_cases c2 : p.ge = q.ge
    · by_cases c3 : p.ix = q.ix
      · rw [decide_eq_true c1, decide_eq_true c2, decide_eq_true c3, Bool.true_and, Bool.true_and, Bool.true_and]
        simp (maxSteps := 2000000) (disch := omega) only [go_sem, doCall, doCallQ, doCallP, Nat.reduceAdd, Nat.reduceMul, Nat.reduceSub, Nat.reduceDiv, Nat.reduceMod, Nat.reduceLT, Nat.reduceLeDiff, Nat.reduceEqDiff, Nat.reduceBEq, Nat.reduceBNe, Int.reduceToNat, Int.reduceLT, Int.reduceLE, Int.reduceEq, Int.reduceNe, Int.reduceAdd, Int.reduceSub, Int.reduceMul, Int.reduceNeg, bd24, he, show (p.ob == q.ob) = true by simp [c1], show (p.ge == q.ge) = true by simp [c2], show (p.ix == q.ix) = true by simp [c3], eq_true c1, eq_true c2, eq_true c3, Int.natCast_nonneg, Int.toNat_natCast, Option.getD_some, Option.getD_none, List.drop_zero, Nat.sub_zero, Nat.zero_le, true_and, and_true, Nat.le_refl, chk_of]
      · rw [decide_eq_true c1, decide_eq_true c2, decide_eq_false c3, Bool.true_and, Bool.true_and, Bool.false_and]
        simp (maxSteps := 2000000) (disch := omega) only [go_sem, doCall, doCallQ, doCallP, Nat.reduceAdd, Nat.reduceMul, Nat.reduceSub, Nat.reduceDiv, Nat.reduceMod, Nat.reduceLT, Nat.reduceLeDiff, Nat.reduceEqDiff, Nat.reduceBEq, Nat.reduceBNe, Int.reduceToNat, Int.reduceLT, Int.reduceLE, Int.reduceEq, Int.reduceNe, Int.reduceAdd, Int.reduceSub, Int.reduceMul, Int.reduceNeg, bd24, he, show (p.ob == q.ob) = true by simp [c1], show (p.ge == q.ge) = true by simp [c2], show (p.ix == q.ix) = false by simp [c3], eq_true c1, eq_true c2, eq_false c3, Int.natCast_nonneg, Int.toNat_natCast, Option.getD_some, Option.getD_none, List.drop_zero, Nat.sub_zero, Nat.zero_le, true_and, and_true, Nat.le_refl, chk_of]
    · rw [decide_eq_true c1, decide_eq_false c2, Bool.true_and, Bool.false_and]
      simp (maxSteps := 2000000) (disch := omega) only [go_sem, doCall, doCallQ, doCallP, Nat.reduceAdd, Nat.reduceMul, Nat.reduceSub, Nat.reduceDiv, Nat.reduceMod, Nat.reduceLT, Nat.reduceLeDiff, Nat.reduceEqDiff, Nat.reduceBEq, Nat.reduceBNe, Int.reduceToNat, Int.reduceLT, Int.reduceLE, Int.reduceEq, Int.reduceNe, Int.reduceAdd, Int.reduceSub, Int.reduceMul, Int.reduceNeg, bd24, he, show (p.ob == q.ob) = true by simp [c1], show (p.ge == q.ge) = false by simp [c2], eq_true c1, eq_false c2, Int.natCast_nonneg, Int.toNat_natCast, Option.getD_some, Option.getD_none, List.drop_zero, Nat.sub_zero, Nat.zero_le, true_and, and_true, Nat.le_refl, chk_of]
  · rw [decide_eq_false c1, Bool.false_and]
    simp (maxSteps := 2000000) (disch := omega) only [go_sem, doCall, doCallQ, doCallP, Nat.reduceAdd, Nat.reduceMul, Nat.reduceSub, Nat.reduceDiv, Nat.reduceMod, Nat.reduceLT, Nat.reduceLeDiff, Nat.reduceEqDiff, Nat.reduceBEq, Nat.reduceBNe, Int.reduceToNat, Int.reduceLT, Int.reduceLE, Int.reduceEq, Int.reduceNe, Int.reduceAdd, Int.reduceSub, Int.reduceMul, Int.reduceNeg, bd24, he, show (p.ob == q.ob) = false by simp [c1], eq_false c1, Int.natCast_nonneg, Int.toNat_natCast, Option.getD_some, Option.getD_none, List.drop_zero, Nat.sub_zero, Nat.zero_le, true_and, and_true, Nat.le_refl, chk_of]
theorem same_eq {p q : Pc} (h : samePc p q = true) : p = q := by
  unfold samePc at h
  rw [Bool.and_eq_true, Bool.and_eq_true, Bool.and_eq_true, decide_eq_true_iff, decide_eq_true_iff, decide_eq_true_iff, decide_eq_true_iff] at h
  obtain ⟨h1, h2, h3, h4⟩ := h
  cases p; cases q; simp_all
theorem same_refl (p : Pc) : samePc p p = true := by simp [samePc]
end Go.Proofs.Ytbcpffhialoliaa
namespace Go.Proofs.Ytbcpffhialoliaa
open Go Go.Ev Go.Proofs.Ytbcpffhialoliaa.Ir
set_option maxRecDepth 100000
set_option maxHeartbeats 4000000
set_option linter.unusedSimpArgs false
set_option linter.unusedVariables false
/-- A change. -/
structure Ch where
  ob : Int
  bo : Bool
  go : Bool
  b1 : Int
  b2 : Int
  b3 : List UInt8
  b4 : Int
  b5 : Int
  ps : List Pc
  ls : List Int
def kR (l : List Int) : List (List D) := l.map fun i => [.int .i64 i]
def chRow (c : Ch) : List D := [.int .i64 c.ob, .bool c.bo, .bool c.go, .int .i64 c.b1, .int .i64 c.b2, .str c.b3, .int .i64 c.b4, .int .i64 c.b5, .list 4 (c.ps.map pcRow), .list 1 (kR c.ls)]
abbrev vCh (c : Ch) : AV := .agg [dI c.ob, dT c.bo, dT c.go, dI c.b1, dI c.b2, dS c.b3, dI c.b4, dI c.b5, vPs c.ps, .d (.list 1 (kR c.ls))]
def sameB (x y : Hd) : Bool := (x.ob == y.ob && (x.ge == y.ge && (x.tg == y.tg && (x.le == y.le && x.ti == y.ti))))
/-- Whether a piece is new to what was. -/
def isNew (olds : List Pc) (p : Pc) : Bool := match olds.find? (fun q => decide (q.ix = p.ix)) with
  | none => true
  | some q => !samePc p q
def chg (x y : Hd) (has : Bool) : Ch :=
  let b := !has || !sameB x y
  let anew := !has || decide (x.ge ≠ y.ge)
  { ob := y.ob, bo := b, go := false, b1 := if b then y.ob else 0, b2 := if b then y.ge else 0, b3 := if b then y.tg else [], b4 := if b then y.le else 0, b5 := if b then y.ti else 0,
    ps := if anew then y.ps else y.ps.filter (isNew x.ps), ls := if anew then [] else (x.ps.filter fun p => !atP p.ix y.ps).map (·.ix) }
theorem t_chg0 (x y : Hd) (hl : y.ps.length ≤ 1000000) (hb : ∀ p ∈ y.ps, p.bd.length ≤ 1000000) : call ir 19 [vHd x, vHd y, dT false] [] = some (vCh (chg x y false), []) := by
  rw [call_eq (fn := ir19) rfl, evF_bnd]
  have hc := t_copied y.ps hl hb
  have hlp : (y.ps.map pcRow).length = y.ps.length := List.length_map ..
  have htk : (y.ps.map pcRow).take y.ps.length = y.ps.map pcRow := by rw [← hlp, List.take_length]
  simp (maxSteps := 2000000) (disch := omega) only [go_sem, doCall, doCallQ, doCallP, Nat.reduceAdd, Nat.reduceMul, Nat.reduceSub, Nat.reduceDiv, Nat.reduceMod, Nat.reduceLT, Nat.reduceLeDiff, Nat.reduceEqDiff, Nat.reduceBEq, Nat.reduceBNe, Int.reduceToNat, Int.reduceLT, Int.reduceLE, Int.reduceEq, Int.reduceNe, Int.reduceAdd, Int.reduceSub, Int.reduceMul, Int.reduceNeg, bd19, hc, hlp, htk, Nat.zero_add, List.getD_cons_zero, List.set_cons_zero, List.set_cons_succ, if_true, Int.natCast_nonneg, Int.toNat_natCast, Option.getD_some, Option.getD_none, List.drop_zero, Nat.sub_zero, Nat.zero_le, true_and, and_true, Nat.le_refl, chk_of]
  rfl
theorem t_chgG (x y : Hd) (hg : x.ge ≠ y.ge) (hl : y.ps.length ≤ 1000000) (hb : ∀ p ∈ y.ps, p.bd.length ≤ 1000000) : call ir 19 [vHd x, vHd y, dT true] [] = some (vCh (chg x y true), []) := by
  rw [call_eq (fn := ir19) rfl, evF_bnd]
  have hc := t_copied y.ps hl hb
  have hlp : (y.ps.map pcRow).length = y.ps.length := List.length_map ..
  have htk : (y.ps.map pcRow).take y.ps.length = y.ps.map pcRow := by rw [← hlp, List.take_length]
  have hs : sameB x y = false := by
    cases e : sameB x y
    · rfl
    · unfold sameB at e; simp at e; exact absurd e.2.1 hg
  have hs' := hs
  unfold sameB at hs'
  have hg1 : (x.ge != y.ge) = true := by simp [hg]
  unfold chg
  rw [hs]
  simp only [Bool.not_true, Bool.not_false, Bool.false_or, if_true, decide_eq_true hg]
  simp (maxSteps := 2000000) (disch := omega) only [go_sem, doCall, doCallQ, doCallP, Nat.reduceAdd, Nat.reduceMul, Nat.reduceSub, Nat.reduceDiv, Nat.reduceMod, Nat.reduceLT, Nat.reduceLeDiff, Nat.reduceEqDiff, Nat.reduceBEq, Nat.reduceBNe, Int.reduceToNat, Int.reduceLT, Int.reduceLE, Int.reduceEq, Int.reduceNe, Int.reduceAdd, Int.reduceSub, Int.reduceMul, Int.reduceNeg, bd19, hs', Bool.not_false, hg1, eq_false hg, not_false_eq_true, hc, hlp, htk, Nat.zero_add, List.getD_cons_zero, List.set_cons_zero, List.set_cons_succ, if_true, Int.natCast_nonneg, Int.toNat_natCast, Option.getD_some, Option.getD_none, List.drop_zero, Nat.sub_zero, Nat.zero_le, true_and, and_true, Nat.le_refl, chk_of]
  all_goals first | rfl | trace_state
end Go.Proofs.Ytbcpffhialoliaa
namespace Go.Proofs.Ytbcpffhialoliaa
open Go Go.Ev Go.Proofs.Ytbcpffhialoliaa.Ir
set_option maxRecDepth 100000
set_option maxHeartbeats 4000000
set_option linter.unusedSimpArgs false
set_option linter.unusedVariables false
theorem findM_find (k : Int) : ∀ l : List Pc, findM k (l.map pcE) = (l.find? fun q => decide (q.ix = k)).map pcD
  | [] => rfl
  | p :: l => by
    show findM k ((p.ix, pcD p) :: l.map pcE) = _
    rw [findM, List.find?_cons]
    by_cases e : p.ix = k
    · rw [if_pos e, decide_eq_true e]; rfl
    · rw [if_neg e, decide_eq_false e]; exact findM_find k l
theorem isNew_n {o : List Pc} {p : Pc} (h : o.find? (fun q => decide (q.ix = p.ix)) = none) : isNew o p = true := by unfold isNew; rw [h]
theorem isNew_s {o : List Pc} {p q : Pc} (h : o.find? (fun q => decide (q.ix = p.ix)) = some q) : isNew o p = !samePc p q := by unfold isNew; rw [h]
theorem filt_at (f : Pc → Bool) {l : List Pc} {i : Nat} (h : i < l.length) : (l.take (i + 1)).filter f = (l.take i).filter f ++ (if f l[i] then [l[i]] else []) := by
  rw [List.take_succ_eq_append_getElem h, List.filter_append, List.filter_cons]
  split <;> rfl
theorem lp_chB (x : Hd) (c : Ch) (M9 : List (Int × D)) (l : List Pc) (hl : l.length ≤ 1000000) (hb : ∀ p ∈ l, p.bd.length ≤ 1000000) (k : Ex → St → Option (AV × Heap)) (i : Nat) (hi : i ≤ l.length) (F : List Pc) (hF : (l.take i).filter (isNew x.ps) = F) (hF0 : 0 < F.length) :
    (bnd (evC (call ir) (loop ir) lp19_0 (st19_0 0 (.ptr 0 0) (.ptr 1 0) (.ptr 2 0) (.d (.mapv (x.ps.map pcE))) (.d (.mapv M9)) (vPs l) (dI l.length) (dI i) [.dbox [.int .i64 x.ob, .int .i64 x.ge, .str x.tg, .int .i64 x.le, .int .i64 x.ti, .list 4 (x.ps.map pcRow)], .dbox [.int .i64 0, .bool false, .bool false, .int .i64 0, .int .i64 0, .str [], .int .i64 0, .int .i64 0, .list 4 [], .list 1 []], .box [.d (.int .i64 c.ob), .d (.bool c.bo), .d (.bool c.go), .d (.int .i64 c.b1), .d (.int .i64 c.b2), .d (.str c.b3), .d (.int .i64 c.b4), .d (.int .i64 c.b5), .own 3 4 0 F.length false, .d .nils], .arr 4 (F.map pcRow)])) (lpC (call ir) (loop ir) [3, 6, 7, 8, 9, 58, 59, 60] lp19_0 k)) =
      k (.exit 0) (clean [3, 6, 7, 9] (st19_0 0 (.ptr 0 0) (.ptr 1 0) (.ptr 2 0) .unk (.d (.mapv M9)) .unk .unk .unk [.dbox [.int .i64 x.ob, .int .i64 x.ge, .str x.tg, .int .i64 x.le, .int .i64 x.ti, .list 4 (x.ps.map pcRow)], .dbox [.int .i64 0, .bool false, .bool false, .int .i64 0, .int .i64 0, .str [], .int .i64 0, .int .i64 0, .list 4 [], .list 1 []], .box [.d (.int .i64 c.ob), .d (.bool c.bo), .d (.bool c.go), .d (.int .i64 c.b1), .d (.int .i64 c.b2), .d (.str c.b3), .d (.int .i64 c.b4), .d (.int .i64 c.b5), .own 3 4 0 (l.filter (isNew x.ps)).length false, .d .nils], .arr 4 ((l.filter (isNew x.ps)).map pcRow)])) := by
  by_cases h : i = l.length
  · have hx : ¬ (i : Int) < l.length := by omega
    rw [h, List.take_length] at hF
    rw [h] at hx
    rw [h, hF]
    simp (maxSteps := 2000000) (disch := omega) only [go_sem, doCall, doCallQ, doCallP, Nat.reduceAdd, Nat.reduceMul, Nat.reduceSub, Nat.reduceDiv, Nat.reduceMod, Nat.reduceLT, Nat.reduceLeDiff, Nat.reduceEqDiff, Nat.reduceBEq, Nat.reduceBNe, Int.reduceToNat, Int.reduceLT, Int.reduceLE, Int.reduceEq, Int.reduceNe, Int.reduceAdd, Int.reduceSub, Int.reduceMul, Int.reduceNeg, u19_0, lb19_0, hx]
  · have hlt : (i : Int) < l.length := by omega
    have hi' : i < l.length := by omega
    have hw := wr_succ (i := i) (by omega)
    have hg := getPc l hi'
    have hlm : (l.map pcRow).length = l.length := List.length_map ..
    have hfi := findM_find l[i].ix x.ps
    have hnx := filt_at (isNew x.ps) hi'
    have hcp := t_cp1 l[i] (hb _ (List.getElem_mem hi'))
    rw [hF] at hnx
    have ih := fun F h1 h2 => lp_chB x c M9 l hl hb k (i + 1) (by omega) F h1 h2
    have hlF : (F.map pcRow).length = F.length := List.length_map ..
    have htk : (F.map pcRow).take F.length = F.map pcRow := by rw [← hlF, List.take_length]
    have hap : F.map pcRow ++ [[.int .i64 l[i].ob, .int .i64 l[i].ge, .int .i64 l[i].ix, .list 1 (bB l[i].bd)]] = (F ++ [l[i]]).map pcRow := by rw [List.map_append]; rfl
    have hFl : F.length ≤ l.length := by rw [← hF]; exact Nat.le_trans (List.length_filter_le ..) (by rw [List.length_take]; omega)
    cases hq : x.ps.find? (fun q => decide (q.ix = l[i].ix)) with
    | none =>
      rw [isNew_n hq, if_pos rfl] at hnx
      rw [hq] at hfi
      simp only [Option.map_none] at hfi
      have ih := ih (F ++ [l[i]]) hnx (by simp)
      rw [List.length_append] at ih
      simp (maxSteps := 2000000) (disch := omega) only [go_sem, doCall, doCallQ, doCallP, Nat.reduceAdd, Nat.reduceMul, Nat.reduceSub, Nat.reduceDiv, Nat.reduceMod, Nat.reduceLT, Nat.reduceLeDiff, Nat.reduceEqDiff, Nat.reduceBEq, Nat.reduceBNe, Int.reduceToNat, Int.reduceLT, Int.reduceLE, Int.reduceEq, Int.reduceNe, Int.reduceAdd, Int.reduceSub, Int.reduceMul, Int.reduceNeg, u19_0, lb19_0, hlt, hi', hw, hg, hlm, hfi, hcp, hlF, htk, hap, Option.isSome_none, Option.isSome_some, Bool.not_false, Bool.not_true, List.length_cons, List.length_nil, Nat.zero_add, List.getD_cons_zero, List.set_cons_zero, List.set_cons_succ, Int.natCast_nonneg, Int.toNat_natCast, Option.getD_some, Option.getD_none, List.drop_zero, Nat.sub_zero, Nat.zero_le, true_and, and_true, Nat.le_refl, chk_of]
      rw [loop_step1]; simp (maxSteps := 2000000) (disch := omega) only [go_sem, doCall, doCallQ, doCallP, Nat.reduceAdd, Nat.reduceMul, Nat.reduceSub, Nat.reduceDiv, Nat.reduceMod, Nat.reduceLT, Nat.reduceLeDiff, Nat.reduceEqDiff, Nat.reduceBEq, Nat.reduceBNe, Int.reduceToNat, Int.reduceLT, Int.reduceLE, Int.reduceEq, Int.reduceNe, Int.reduceAdd, Int.reduceSub, Int.reduceMul, Int.reduceNeg]; exact ih
    | some q =>
      have hlk := t_like28 l[i] q
      rw [isNew_s hq] at hnx
      rw [hq] at hfi
      simp only [Option.map_some, pcD] at hfi
      cases hs : samePc l[i] q
      · rw [hs] at hnx hlk
        simp only [Bool.not_false, if_true] at hnx
        have ih := ih (F ++ [l[i]]) hnx (by simp)
        rw [List.length_append] at ih
        simp (maxSteps := 2000000) (disch := omega) only [go_sem, doCall, doCallQ, doCallP, Nat.reduceAdd, Nat.reduceMul, Nat.reduceSub, Nat.reduceDiv, Nat.reduceMod, Nat.reduceLT, Nat.reduceLeDiff, Nat.reduceEqDiff, Nat.reduceBEq, Nat.reduceBNe, Int.reduceToNat, Int.reduceLT, Int.reduceLE, Int.reduceEq, Int.reduceNe, Int.reduceAdd, Int.reduceSub, Int.reduceMul, Int.reduceNeg, u19_0, lb19_0, hlt, hi', hw, hg, hlm, hfi, hlk, hcp, hlF, htk, hap, Option.isSome_none, Option.isSome_some, Bool.not_false, Bool.not_true, List.length_cons, List.length_nil, Nat.zero_add, List.getD_cons_zero, List.set_cons_zero, List.set_cons_succ, Int.natCast_nonneg, Int.toNat_natCast, Option.getD_some, Option.getD_none, List.drop_zero, Nat.sub_zero, Nat.zero_le, true_and, and_true, Nat.le_refl, chk_of]
        rw [loop_step1]; simp (maxSteps := 2000000) (disch := omega) only [go_sem, doCall, doCallQ, doCallP, Nat.reduceAdd, Nat.reduceMul, Nat.reduceSub, Nat.reduceDiv, Nat.reduceMod, Nat.reduceLT, Nat.reduceLeDiff, Nat.reduceEqDiff, Nat.reduceBEq, Nat.reduceBNe, Int.reduceToNat, Int.reduceLT, Int.reduceLE, Int.reduceEq, Int.reduceNe, Int.reduceAdd, Int.reduceSub, Int.reduceMul, Int.reduceNeg]; exact ih
      · rw [hs] at hnx hlk
        simp only [Bool.not_true, Bool.false_eq_true, if_false, List.append_nil] at hnx
        have ih := ih F hnx hF0
        simp (maxSteps := 2000000) (disch := omega) only [go_sem, doCall, doCallQ, doCallP, Nat.reduceAdd, Nat.reduceMul, Nat.reduceSub, Nat.reduceDiv, Nat.reduceMod, Nat.reduceLT, Nat.reduceLeDiff, Nat.reduceEqDiff, Nat.reduceBEq, Nat.reduceBNe, Int.reduceToNat, Int.reduceLT, Int.reduceLE, Int.reduceEq, Int.reduceNe, Int.reduceAdd, Int.reduceSub, Int.reduceMul, Int.reduceNeg, u19_0, lb19_0, hlt, hi', hw, hg, hlm, hfi, hlk, hcp, hlF, htk, hap, Option.isSome_none, Option.isSome_some, Bool.not_false, Bool.not_true, List.length_cons, List.length_nil, Nat.zero_add, List.getD_cons_zero, List.set_cons_zero, List.set_cons_succ, Int.natCast_nonneg, Int.toNat_natCast, Option.getD_some, Option.getD_none, List.drop_zero, Nat.sub_zero, Nat.zero_le, true_and, and_true, Nat.le_refl, chk_of]
        rw [loop_step1]; simp (maxSteps := 2000000) (disch := omega) only [go_sem, doCall, doCallQ, doCallP, Nat.reduceAdd, Nat.reduceMul, Nat.reduceSub, Nat.reduceDiv, Nat.reduceMod, Nat.reduceLT, Nat.reduceLeDiff, Nat.reduceEqDiff, Nat.reduceBEq, Nat.reduceBNe, Int.reduceToNat, Int.reduceLT, Int.reduceLE, Int.reduceEq, Int.reduceNe, Int.reduceAdd, Int.reduceSub, Int.reduceMul, Int.reduceNeg]; exact ih
termination_by l.length - i
/-- The state's end: nothing is new, or something is. -/
def endC (x : Hd) (c : Ch) : List Pc → Heap
  | [] => [.dbox [.int .i64 x.ob, .int .i64 x.ge, .str x.tg, .int .i64 x.le, .int .i64 x.ti, .list 4 (x.ps.map pcRow)], .dbox [.int .i64 0, .bool false, .bool false, .int .i64 0, .int .i64 0, .str [], .int .i64 0, .int .i64 0, .list 4 [], .list 1 []], .dbox [.int .i64 c.ob, .bool c.bo, .bool c.go, .int .i64 c.b1, .int .i64 c.b2, .str c.b3, .int .i64 c.b4, .int .i64 c.b5, .nils, .nils]]
  | p :: F => [.dbox [.int .i64 x.ob, .int .i64 x.ge, .str x.tg, .int .i64 x.le, .int .i64 x.ti, .list 4 (x.ps.map pcRow)], .dbox [.int .i64 0, .bool false, .bool false, .int .i64 0, .int .i64 0, .str [], .int .i64 0, .int .i64 0, .list 4 [], .list 1 []], .box [.d (.int .i64 c.ob), .d (.bool c.bo), .d (.bool c.go), .d (.int .i64 c.b1), .d (.int .i64 c.b2), .d (.str c.b3), .d (.int .i64 c.b4), .d (.int .i64 c.b5), .own 3 4 0 (p :: F).length false, .d .nils], .arr 4 ((p :: F).map pcRow)]
theorem endC_pos (x : Hd) (c : Ch) {F : List Pc} (h : 0 < F.length) : endC x c F = [.dbox [.int .i64 x.ob, .int .i64 x.ge, .str x.tg, .int .i64 x.le, .int .i64 x.ti, .list 4 (x.ps.map pcRow)], .dbox [.int .i64 0, .bool false, .bool false, .int .i64 0, .int .i64 0, .str [], .int .i64 0, .int .i64 0, .list 4 [], .list 1 []], .box [.d (.int .i64 c.ob), .d (.bool c.bo), .d (.bool c.go), .d (.int .i64 c.b1), .d (.int .i64 c.b2), .d (.str c.b3), .d (.int .i64 c.b4), .d (.int .i64 c.b5), .own 3 4 0 F.length false, .d .nils], .arr 4 (F.map pcRow)] := by
  cases F with
  | nil => simp at h
  | cons p F => rfl
theorem lp_chA (x : Hd) (c : Ch) (M9 : List (Int × D)) (l : List Pc) (hl : l.length ≤ 1000000) (hb : ∀ p ∈ l, p.bd.length ≤ 1000000) (k : Ex → St → Option (AV × Heap)) (i : Nat) (hi : i ≤ l.length) (hF : (l.take i).filter (isNew x.ps) = []) :
    (bnd (evC (call ir) (loop ir) lp19_0 (st19_0 0 (.ptr 0 0) (.ptr 1 0) (.ptr 2 0) (.d (.mapv (x.ps.map pcE))) (.d (.mapv M9)) (vPs l) (dI l.length) (dI i) [.dbox [.int .i64 x.ob, .int .i64 x.ge, .str x.tg, .int .i64 x.le, .int .i64 x.ti, .list 4 (x.ps.map pcRow)], .dbox [.int .i64 0, .bool false, .bool false, .int .i64 0, .int .i64 0, .str [], .int .i64 0, .int .i64 0, .list 4 [], .list 1 []], .dbox [.int .i64 c.ob, .bool c.bo, .bool c.go, .int .i64 c.b1, .int .i64 c.b2, .str c.b3, .int .i64 c.b4, .int .i64 c.b5, .nils, .nils]])) (lpC (call ir) (loop ir) [3, 6, 7, 8, 9, 58, 59, 60] lp19_0 k)) =
      k (.exit 0) (clean [3, 6, 7, 9] (st19_0 0 (.ptr 0 0) (.ptr 1 0) (.ptr 2 0) .unk (.d (.mapv M9)) .unk .unk .unk (endC x c (l.filter (isNew x.ps))))) := by
  by_cases h : i = l.length
  · have hx : ¬ (i : Int) < l.length := by omega
    rw [h, List.take_length] at hF
    rw [h] at hx
    rw [h, hF]
    unfold endC
    simp (maxSteps := 2000000) (disch := omega) only [go_sem, doCall, doCallQ, doCallP, Nat.reduceAdd, Nat.reduceMul, Nat.reduceSub, Nat.reduceDiv, Nat.reduceMod, Nat.reduceLT, Nat.reduceLeDiff, Nat.reduceEqDiff, Nat.reduceBEq, Nat.reduceBNe, Int.reduceToNat, Int.reduceLT, Int.reduceLE, Int.reduceEq, Int.reduceNe, Int.reduceAdd, Int.reduceSub, Int.reduceMul, Int.reduceNeg, u19_0, lb19_0, hx]
  · have hlt : (i : Int) < l.length := by omega
    have hi' : i < l.length := by omega
    have hw := wr_succ (i := i) (by omega)
    have hg := getPc l hi'
    have hlm : (l.map pcRow).length = l.length := List.length_map ..
    have hfi := findM_find l[i].ix x.ps
    have hnx := filt_at (isNew x.ps) hi'
    have hcp := t_cp1 l[i] (hb _ (List.getElem_mem hi'))
    rw [hF, List.nil_append] at hnx
    have ih := fun h1 => lp_chA x c M9 l hl hb k (i + 1) (by omega) h1
    have ihB := fun h1 : (l.take (i + 1)).filter (isNew x.ps) = [l[i]] => lp_chB x c M9 l hl hb k (i + 1) (by omega) [l[i]] h1 (by simp)
    have hpos : (l.take (i + 1)).filter (isNew x.ps) = [l[i]] → 0 < (l.filter (isNew x.ps)).length := fun e => by
      have : ((l.take (i + 1)).filter (isNew x.ps)).Sublist (l.filter (isNew x.ps)) := (List.take_sublist ..).filter _
      have := this.length_le
      rw [e] at this
      simp only [List.length_cons, List.length_nil] at this
      omega
    generalize hR : (k (.exit 0) (clean [3, 6, 7, 9] (st19_0 0 (.ptr 0 0) (.ptr 1 0) (.ptr 2 0) .unk (.d (.mapv M9)) .unk .unk .unk (endC x c (l.filter (isNew x.ps)))))) = R at ih ⊢
    cases hq : x.ps.find? (fun q => decide (q.ix = l[i].ix)) with
    | none =>
      rw [isNew_n hq, if_pos rfl] at hnx
      rw [hq] at hfi
      simp only [Option.map_none] at hfi
      have ihB := ihB hnx
      rw [endC_pos x c (hpos hnx)] at hR
      simp (maxSteps := 2000000) (disch := omega) only [go_sem, doCall, doCallQ, doCallP, Nat.reduceAdd, Nat.reduceMul, Nat.reduceSub, Nat.reduceDiv, Nat.reduceMod, Nat.reduceLT, Nat.reduceLeDiff, Nat.reduceEqDiff, Nat.reduceBEq, Nat.reduceBNe, Int.reduceToNat, Int.reduceLT, Int.reduceLE, Int.reduceEq, Int.reduceNe, Int.reduceAdd, Int.reduceSub, Int.reduceMul, Int.reduceNeg, u19_0, lb19_0, hlt, hi', hw, hg, hlm, hfi, hcp, Option.isSome_none, Option.isSome_some, Bool.not_false, Bool.not_true, List.length_cons, List.length_nil, Nat.zero_add, List.getD_cons_zero, List.set_cons_zero, List.set_cons_succ, Int.natCast_nonneg, Int.toNat_natCast, Option.getD_some, Option.getD_none, List.drop_zero, Nat.sub_zero, Nat.zero_le, true_and, and_true, Nat.le_refl, chk_of]
      rw [loop_step1]; simp (maxSteps := 2000000) (disch := omega) only [go_sem, doCall, doCallQ, doCallP, Nat.reduceAdd, Nat.reduceMul, Nat.reduceSub, Nat.reduceDiv, Nat.reduceMod, Nat.reduceLT, Nat.reduceLeDiff, Nat.reduceEqDiff, Nat.reduceBEq, Nat.reduceBNe, Int.reduceToNat, Int.reduceLT, Int.reduceLE, Int.reduceEq, Int.reduceNe, Int.reduceAdd, Int.reduceSub, Int.reduceMul, Int.reduceNeg]; exact ihB.trans hR
    | some q =>
      have hlk := t_like28 l[i] q
      rw [isNew_s hq] at hnx
      rw [hq] at hfi
      simp only [Option.map_some, pcD] at hfi
      cases hs : samePc l[i] q
      · rw [hs] at hlk
        simp only [hs, Bool.not_false, if_true] at hnx
        have ihB := ihB hnx
        rw [endC_pos x c (hpos hnx)] at hR
        simp (maxSteps := 2000000) (disch := omega) only [go_sem, doCall, doCallQ, doCallP, Nat.reduceAdd, Nat.reduceMul, Nat.reduceSub, Nat.reduceDiv, Nat.reduceMod, Nat.reduceLT, Nat.reduceLeDiff, Nat.reduceEqDiff, Nat.reduceBEq, Nat.reduceBNe, Int.reduceToNat, Int.reduceLT, Int.reduceLE, Int.reduceEq, Int.reduceNe, Int.reduceAdd, Int.reduceSub, Int.reduceMul, Int.reduceNeg, u19_0, lb19_0, hlt, hi', hw, hg, hlm, hfi, hlk, hcp, Option.isSome_none, Option.isSome_some, Bool.not_false, Bool.not_true, List.length_cons, List.length_nil, Nat.zero_add, List.getD_cons_zero, List.set_cons_zero, List.set_cons_succ, Int.natCast_nonneg, Int.toNat_natCast, Option.getD_some, Option.getD_none, List.drop_zero, Nat.sub_zero, Nat.zero_le, true_and, and_true, Nat.le_refl, chk_of]
        rw [loop_step1]; simp (maxSteps := 2000000) (disch := omega) only [go_sem, doCall, doCallQ, doCallP, Nat.reduceAdd, Nat.reduceMul, Nat.reduceSub, Nat.reduceDiv, Nat.reduceMod, Nat.reduceLT, Nat.reduceLeDiff, Nat.reduceEqDiff, Nat.reduceBEq, Nat.reduceBNe, Int.reduceToNat, Int.reduceLT, Int.reduceLE, Int.reduceEq, Int.reduceNe, Int.reduceAdd, Int.reduceSub, Int.reduceMul, Int.reduceNeg]; exact ihB.trans hR
      · rw [hs] at hlk
        simp only [hs, Bool.not_true, Bool.false_eq_true, if_false] at hnx
        have ih := ih hnx
        simp (maxSteps := 2000000) (disch := omega) only [go_sem, doCall, doCallQ, doCallP, Nat.reduceAdd, Nat.reduceMul, Nat.reduceSub, Nat.reduceDiv, Nat.reduceMod, Nat.reduceLT, Nat.reduceLeDiff, Nat.reduceEqDiff, Nat.reduceBEq, Nat.reduceBNe, Int.reduceToNat, Int.reduceLT, Int.reduceLE, Int.reduceEq, Int.reduceNe, Int.reduceAdd, Int.reduceSub, Int.reduceMul, Int.reduceNeg, u19_0, lb19_0, hlt, hi', hw, hg, hlm, hfi, hlk, hcp, Option.isSome_none, Option.isSome_some, Bool.not_false, Bool.not_true, List.length_cons, List.length_nil, Nat.zero_add, List.getD_cons_zero, List.set_cons_zero, List.set_cons_succ, Int.natCast_nonneg, Int.toNat_natCast, Option.getD_some, Option.getD_none, List.drop_zero, Nat.sub_zero, Nat.zero_le, true_and, and_true, Nat.le_refl, chk_of]
        rw [loop_step1]; simp (maxSteps := 2000000) (disch := omega) only [go_sem, doCall, doCallQ, doCallP, Nat.reduceAdd, Nat.reduceMul, Nat.reduceSub, Nat.reduceDiv, Nat.reduceMod, Nat.reduceLT, Nat.reduceLeDiff, Nat.reduceEqDiff, Nat.reduceBEq, Nat.reduceBNe, Int.reduceToNat, Int.reduceLT, Int.reduceLE, Int.reduceEq, Int.reduceNe, Int.reduceAdd, Int.reduceSub, Int.reduceMul, Int.reduceNeg]; exact ih
termination_by l.length - i
end Go.Proofs.Ytbcpffhialoliaa
namespace Go.Proofs.Ytbcpffhialoliaa
open Go Go.Ev Go.Proofs.Ytbcpffhialoliaa.Ir
set_option maxRecDepth 100000
set_option maxHeartbeats 4000000
set_option linter.unusedSimpArgs false
set_option linter.unusedVariables false
theorem kR_len (l : List Int) : (kR l).length = l.length := List.length_map ..
theorem kR_app (l : List Int) (n : Int) : kR l ++ [[.int .i64 n]] = kR (l ++ [n]) := by unfold kR; rw [List.map_append]; rfl
def lsF (yp l : List Pc) : List Int := (l.filter fun p => !atP p.ix yp).map (·.ix)
theorem lsF_at (yp : List Pc) {l : List Pc} {i : Nat} (h : i < l.length) : lsF yp (l.take (i + 1)) = lsF yp (l.take i) ++ (if !atP l[i].ix yp then [l[i].ix] else []) := by
  unfold lsF
  rw [filt_at _ h, List.map_append]
  cases atP l[i].ix yp <;> rfl
theorem lsF_le (yp l : List Pc) : (lsF yp l).length ≤ l.length := by unfold lsF; rw [List.length_map]; exact List.length_filter_le ..
theorem lsF_pos (yp : List Pc) {l : List Pc} {i : Nat} (h : 0 < (lsF yp (l.take i)).length) : 0 < (lsF yp l).length := by
  unfold lsF at h ⊢
  rw [List.length_map] at h ⊢
  have : ((l.take i).filter fun p => !atP p.ix yp).Sublist (l.filter fun p => !atP p.ix yp) := (List.take_sublist ..).filter _
  exact Nat.lt_of_lt_of_le h this.length_le
theorem lp_lsB0 (c : Ch) (yp : List Pc) (l : List Pc) (hl : l.length ≤ 1000000) (k : Ex → St → Option (AV × Heap)) (i : Nat) (hi : i ≤ l.length) (F : List Int) (hF : lsF yp (l.take i) = F) (hF0 : 0 < F.length) :
    (bnd (evC (call ir) (loop ir) lp19_1 (st19_1 0 (.ptr 0 0) (.ptr 1 0) (.d (.mapv (yp.map pcE))) (vPs l) (dI l.length) (dI i) [.dbox [.int .i64 0, .bool false, .bool false, .int .i64 0, .int .i64 0, .str [], .int .i64 0, .int .i64 0, .list 4 [], .list 1 []], .box [.d (.int .i64 c.ob), .d (.bool c.bo), .d (.bool c.go), .d (.int .i64 c.b1), .d (.int .i64 c.b2), .d (.str c.b3), .d (.int .i64 c.b4), .d (.int .i64 c.b5), .d .nils, .own 2 1 0 (F).length false], .arr 1 (kR (F))])) (lpC (call ir) (loop ir) [6, 7, 9, 88, 89, 90] lp19_1 k)) = k (.exit 2) (clean [6, 7] (st19_1 0 (.ptr 0 0) (.ptr 1 0) .unk .unk .unk .unk [.dbox [.int .i64 0, .bool false, .bool false, .int .i64 0, .int .i64 0, .str [], .int .i64 0, .int .i64 0, .list 4 [], .list 1 []], .box [.d (.int .i64 c.ob), .d (.bool c.bo), .d (.bool c.go), .d (.int .i64 c.b1), .d (.int .i64 c.b2), .d (.str c.b3), .d (.int .i64 c.b4), .d (.int .i64 c.b5), .d .nils, .own 2 1 0 (lsF yp l).length false], .arr 1 (kR (lsF yp l))])) := by
  by_cases h : i = l.length
  · have hx : ¬ (i : Int) < l.length := by omega
    rw [h, List.take_length] at hF
    rw [h] at hx
    rw [h, hF]
    simp (maxSteps := 2000000) (disch := omega) only [go_sem, doCall, doCallQ, doCallP, Nat.reduceAdd, Nat.reduceMul, Nat.reduceSub, Nat.reduceDiv, Nat.reduceMod, Nat.reduceLT, Nat.reduceLeDiff, Nat.reduceEqDiff, Nat.reduceBEq, Nat.reduceBNe, Int.reduceToNat, Int.reduceLT, Int.reduceLE, Int.reduceEq, Int.reduceNe, Int.reduceAdd, Int.reduceSub, Int.reduceMul, Int.reduceNeg, u19_1, lb19_1, hx]
  · have hlt : (i : Int) < l.length := by omega
    have hi' : i < l.length := by omega
    have hw := wr_succ (i := i) (by omega)
    have hg := getPc l hi'
    have hlm : (l.map pcRow).length = l.length := List.length_map ..
    have hat := find_at l[i].ix yp
    have hnx := lsF_at yp hi'
    rw [hF] at hnx
    have ih := fun F h1 h2 => lp_lsB0 c yp l hl k (i + 1) (by omega) F h1 h2
    have hlF := kR_len F
    have htk : (kR F).take F.length = kR F := by rw [← hlF, List.take_length]
    have hap := kR_app F l[i].ix
    have hFl : F.length ≤ l.length := by rw [← hF]; exact Nat.le_trans (lsF_le yp _) (by rw [List.length_take]; omega)
    cases hq : findM l[i].ix (yp.map pcE) with
    | none =>
      rw [hq] at hat
      rw [← hat] at hnx
      have ih := ih (F ++ [l[i].ix]) hnx (by simp)
      rw [List.length_append] at ih
      simp (maxSteps := 2000000) (disch := omega) only [go_sem, doCall, doCallQ, doCallP, Nat.reduceAdd, Nat.reduceMul, Nat.reduceSub, Nat.reduceDiv, Nat.reduceMod, Nat.reduceLT, Nat.reduceLeDiff, Nat.reduceEqDiff, Nat.reduceBEq, Nat.reduceBNe, Int.reduceToNat, Int.reduceLT, Int.reduceLE, Int.reduceEq, Int.reduceNe, Int.reduceAdd, Int.reduceSub, Int.reduceMul, Int.reduceNeg, u19_1, lb19_1, hlt, hi', hw, hg, hlm, hq, hlF, htk, hap, Option.isSome_none, Option.isSome_some, Bool.not_false, Bool.not_true, List.length_cons, List.length_nil, Nat.zero_add, List.getD_cons_zero, List.set_cons_zero, List.set_cons_succ, Int.natCast_nonneg, Int.toNat_natCast, Option.getD_some, Option.getD_none, List.drop_zero, Nat.sub_zero, Nat.zero_le, true_and, and_true, Nat.le_refl, chk_of]
      rw [loop_step1]; simp (maxSteps := 2000000) (disch := omega) only [go_sem, doCall, doCallQ, doCallP, Nat.reduceAdd, Nat.reduceMul, Nat.reduceSub, Nat.reduceDiv, Nat.reduceMod, Nat.reduceLT, Nat.reduceLeDiff, Nat.reduceEqDiff, Nat.reduceBEq, Nat.reduceBNe, Int.reduceToNat, Int.reduceLT, Int.reduceLE, Int.reduceEq, Int.reduceNe, Int.reduceAdd, Int.reduceSub, Int.reduceMul, Int.reduceNeg]; exact ih
    | some d =>
      rw [hq] at hat
      rw [← hat] at hnx
      obtain ⟨q, rfl⟩ := find_pc hq
      have ih := ih F (by simpa using hnx) hF0
      simp (maxSteps := 2000000) (disch := omega) only [go_sem, doCall, doCallQ, doCallP, Nat.reduceAdd, Nat.reduceMul, Nat.reduceSub, Nat.reduceDiv, Nat.reduceMod, Nat.reduceLT, Nat.reduceLeDiff, Nat.reduceEqDiff, Nat.reduceBEq, Nat.reduceBNe, Int.reduceToNat, Int.reduceLT, Int.reduceLE, Int.reduceEq, Int.reduceNe, Int.reduceAdd, Int.reduceSub, Int.reduceMul, Int.reduceNeg, u19_1, lb19_1, hlt, hi', hw, hg, hlm, hq, hlF, htk, hap, Option.isSome_none, Option.isSome_some, Bool.not_false, Bool.not_true, List.length_cons, List.length_nil, Nat.zero_add, List.getD_cons_zero, List.set_cons_zero, List.set_cons_succ, Int.natCast_nonneg, Int.toNat_natCast, Option.getD_some, Option.getD_none, List.drop_zero, Nat.sub_zero, Nat.zero_le, true_and, and_true, Nat.le_refl, chk_of]
      rw [loop_step1]; simp (maxSteps := 2000000) (disch := omega) only [go_sem, doCall, doCallQ, doCallP, Nat.reduceAdd, Nat.reduceMul, Nat.reduceSub, Nat.reduceDiv, Nat.reduceMod, Nat.reduceLT, Nat.reduceLeDiff, Nat.reduceEqDiff, Nat.reduceBEq, Nat.reduceBNe, Int.reduceToNat, Int.reduceLT, Int.reduceLE, Int.reduceEq, Int.reduceNe, Int.reduceAdd, Int.reduceSub, Int.reduceMul, Int.reduceNeg]; exact ih
termination_by l.length - i
theorem lp_lsB1 (c : Ch) (yp : List Pc) (np : Nat) (X : List (List D)) (l : List Pc) (hl : l.length ≤ 1000000) (k : Ex → St → Option (AV × Heap)) (i : Nat) (hi : i ≤ l.length) (F : List Int) (hF : lsF yp (l.take i) = F) (hF0 : 0 < F.length) :
    (bnd (evC (call ir) (loop ir) lp19_1 (st19_1 0 (.ptr 0 0) (.ptr 1 0) (.d (.mapv (yp.map pcE))) (vPs l) (dI l.length) (dI i) [.dbox [.int .i64 0, .bool false, .bool false, .int .i64 0, .int .i64 0, .str [], .int .i64 0, .int .i64 0, .list 4 [], .list 1 []], .box [.d (.int .i64 c.ob), .d (.bool c.bo), .d (.bool c.go), .d (.int .i64 c.b1), .d (.int .i64 c.b2), .d (.str c.b3), .d (.int .i64 c.b4), .d (.int .i64 c.b5), .own 2 4 0 np false, .own 3 1 0 (F).length false], .arr 4 X, .arr 1 (kR (F))])) (lpC (call ir) (loop ir) [6, 7, 9, 88, 89, 90] lp19_1 k)) = k (.exit 2) (clean [6, 7] (st19_1 0 (.ptr 0 0) (.ptr 1 0) .unk .unk .unk .unk [.dbox [.int .i64 0, .bool false, .bool false, .int .i64 0, .int .i64 0, .str [], .int .i64 0, .int .i64 0, .list 4 [], .list 1 []], .box [.d (.int .i64 c.ob), .d (.bool c.bo), .d (.bool c.go), .d (.int .i64 c.b1), .d (.int .i64 c.b2), .d (.str c.b3), .d (.int .i64 c.b4), .d (.int .i64 c.b5), .own 2 4 0 np false, .own 3 1 0 (lsF yp l).length false], .arr 4 X, .arr 1 (kR (lsF yp l))])) := by
  by_cases h : i = l.length
  · have hx : ¬ (i : Int) < l.length := by omega
    rw [h, List.take_length] at hF
    rw [h] at hx
    rw [h, hF]
    simp (maxSteps := 2000000) (disch := omega) only [go_sem, doCall, doCallQ, doCallP, Nat.reduceAdd, Nat.reduceMul, Nat.reduceSub, Nat.reduceDiv, Nat.reduceMod, Nat.reduceLT, Nat.reduceLeDiff, Nat.reduceEqDiff, Nat.reduceBEq, Nat.reduceBNe, Int.reduceToNat, Int.reduceLT, Int.reduceLE, Int.reduceEq, Int.reduceNe, Int.reduceAdd, Int.reduceSub, Int.reduceMul, Int.reduceNeg, u19_1, lb19_1, hx]
  · have hlt : (i : Int) < l.length := by omega
    have hi' : i < l.length := by omega
    have hw := wr_succ (i := i) (by omega)
    have hg := getPc l hi'
    have hlm : (l.map pcRow).length = l.length := List.length_map ..
    have hat := find_at l[i].ix yp
    have hnx := lsF_at yp hi'
    rw [hF] at hnx
    have ih := fun F h1 h2 => lp_lsB1 c yp np X l hl k (i + 1) (by omega) F h1 h2
    have hlF := kR_len F
    have htk : (kR F).take F.length = kR F := by rw [← hlF, List.take_length]
    have hap := kR_app F l[i].ix
    have hFl : F.length ≤ l.length := by rw [← hF]; exact Nat.le_trans (lsF_le yp _) (by rw [List.length_take]; omega)
    cases hq : findM l[i].ix (yp.map pcE) with
    | none =>
      rw [hq] at hat
      rw [← hat] at hnx
      have ih := ih (F ++ [l[i].ix]) hnx (by simp)
      rw [List.length_append] at ih
      simp (maxSteps := 2000000) (disch := omega) only [go_sem, doCall, doCallQ, doCallP, Nat.reduceAdd, Nat.reduceMul, Nat.reduceSub, Nat.reduceDiv, Nat.reduceMod, Nat.reduceLT, Nat.reduceLeDiff, Nat.reduceEqDiff, Nat.reduceBEq, Nat.reduceBNe, Int.reduceToNat, Int.reduceLT, Int.reduceLE, Int.reduceEq, Int.reduceNe, Int.reduceAdd, Int.reduceSub, Int.reduceMul, Int.reduceNeg, u19_1, lb19_1, hlt, hi', hw, hg, hlm, hq, hlF, htk, hap, Option.isSome_none, Option.isSome_some, Bool.not_false, Bool.not_true, List.length_cons, List.length_nil, Nat.zero_add, List.getD_cons_zero, List.set_cons_zero, List.set_cons_succ, Int.natCast_nonneg, Int.toNat_natCast, Option.getD_some, Option.getD_none, List.drop_zero, Nat.sub_zero, Nat.zero_le, true_and, and_true, Nat.le_refl, chk_of]
      rw [loop_step1]; simp (maxSteps := 2000000) (disch := omega) only [go_sem, doCall, doCallQ, doCallP, Nat.reduceAdd, Nat.reduceMul, Nat.reduceSub, Nat.reduceDiv, Nat.reduceMod, Nat.reduceLT, Nat.reduceLeDiff, Nat.reduceEqDiff, Nat.reduceBEq, Nat.reduceBNe, Int.reduceToNat, Int.reduceLT, Int.reduceLE, Int.reduceEq, Int.reduceNe, Int.reduceAdd, Int.reduceSub, Int.reduceMul, Int.reduceNeg]; exact ih
    | some d =>
      rw [hq] at hat
      rw [← hat] at hnx
      obtain ⟨q, rfl⟩ := find_pc hq
      have ih := ih F (by simpa using hnx) hF0
      simp (maxSteps := 2000000) (disch := omega) only [go_sem, doCall, doCallQ, doCallP, Nat.reduceAdd, Nat.reduceMul, Nat.reduceSub, Nat.reduceDiv, Nat.reduceMod, Nat.reduceLT, Nat.reduceLeDiff, Nat.reduceEqDiff, Nat.reduceBEq, Nat.reduceBNe, Int.reduceToNat, Int.reduceLT, Int.reduceLE, Int.reduceEq, Int.reduceNe, Int.reduceAdd, Int.reduceSub, Int.reduceMul, Int.reduceNeg, u19_1, lb19_1, hlt, hi', hw, hg, hlm, hq, hlF, htk, hap, Option.isSome_none, Option.isSome_some, Bool.not_false, Bool.not_true, List.length_cons, List.length_nil, Nat.zero_add, List.getD_cons_zero, List.set_cons_zero, List.set_cons_succ, Int.natCast_nonneg, Int.toNat_natCast, Option.getD_some, Option.getD_none, List.drop_zero, Nat.sub_zero, Nat.zero_le, true_and, and_true, Nat.le_refl, chk_of]
      rw [loop_step1]; simp (maxSteps := 2000000) (disch := omega) only [go_sem, doCall, doCallQ, doCallP, Nat.reduceAdd, Nat.reduceMul, Nat.reduceSub, Nat.reduceDiv, Nat.reduceMod, Nat.reduceLT, Nat.reduceLeDiff, Nat.reduceEqDiff, Nat.reduceBEq, Nat.reduceBNe, Int.reduceToNat, Int.reduceLT, Int.reduceLE, Int.reduceEq, Int.reduceNe, Int.reduceAdd, Int.reduceSub, Int.reduceMul, Int.reduceNeg]; exact ih
termination_by l.length - i
end Go.Proofs.Ytbcpffhialoliaa
