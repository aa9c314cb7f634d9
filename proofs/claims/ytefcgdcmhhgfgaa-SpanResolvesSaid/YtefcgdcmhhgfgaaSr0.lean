import Derived.Test.YtefcgdcmhhgfgaaIrX
import Derived.Test.YtefcgdcmhhgfgaaEvLst
open Go Go.Ev Go.Proofs.Ytefcgdcmhhgfgaa.Ir
set_option maxRecDepth 100000
set_option linter.unusedSimpArgs false
theorem t25 (a b : Int) : call ir 25 [.agg [.d (.int .i64 a), .d (.int .i64 b)]] [] = some (.d (.bool (decide (0 ≤ a ∧ a < b ∧ b ≤ 4611686018427387903))), []) := by
  rw [call_eq (fn := ir25) rfl, evF_bnd]
  simp only [go_sem, doCall, doCallQ, Nat.reduceAdd, Nat.reduceMul, Nat.reduceSub, Nat.reduceDiv, Nat.reduceMod, Nat.reduceLT, Nat.reduceLeDiff, Nat.reduceEqDiff, Nat.reduceBEq, Nat.reduceBNe, Int.reduceToNat, Int.reduceLT, Int.reduceLE, Int.reduceEq, Int.reduceNe, Int.reduceAdd, Int.reduceSub, Int.reduceMul, Int.reduceNeg, bd25]
  repeat' (apply two_cases <;> intro h <;> simp only [go_sem, doCall, doCallQ, Nat.reduceAdd, Nat.reduceMul, Nat.reduceSub, Nat.reduceDiv, Nat.reduceMod, Nat.reduceLT, Nat.reduceLeDiff, Nat.reduceEqDiff, Nat.reduceBEq, Nat.reduceBNe, Int.reduceToNat, Int.reduceLT, Int.reduceLE, Int.reduceEq, Int.reduceNe, Int.reduceAdd, Int.reduceSub, Int.reduceMul, Int.reduceNeg, h, false_and, and_false])
theorem t22 (a b : Int) : call ir 22 [.agg [.d (.int .i64 a), .d (.int .i64 b)]] [] = some (.d (.bool (decide (0 ≤ a ∧ a < b ∧ b ≤ 4611686018427387903))), []) := by
  rw [call_eq (fn := ir22) rfl, evF_bnd]
  simp only [go_sem, doCall, doCallQ, Nat.reduceAdd, Nat.reduceMul, Nat.reduceSub, Nat.reduceDiv, Nat.reduceMod, Nat.reduceLT, Nat.reduceLeDiff, Nat.reduceEqDiff, Nat.reduceBEq, Nat.reduceBNe, Int.reduceToNat, Int.reduceLT, Int.reduceLE, Int.reduceEq, Int.reduceNe, Int.reduceAdd, Int.reduceSub, Int.reduceMul, Int.reduceNeg, bd22]
  repeat' (apply two_cases <;> intro h <;> simp only [go_sem, doCall, doCallQ, Nat.reduceAdd, Nat.reduceMul, Nat.reduceSub, Nat.reduceDiv, Nat.reduceMod, Nat.reduceLT, Nat.reduceLeDiff, Nat.reduceEqDiff, Nat.reduceBEq, Nat.reduceBNe, Int.reduceToNat, Int.reduceLT, Int.reduceLE, Int.reduceEq, Int.reduceNe, Int.reduceAdd, Int.reduceSub, Int.reduceMul, Int.reduceNeg, h, false_and, and_false])
theorem t48 (a l h : Int) : call ir 48 [.d (.int .i64 a), .d (.int .i64 l), .d (.int .i64 h)] [] = some (.d (.bool (decide (l ≤ a ∧ a ≤ h))), []) := by
  rw [call_eq (fn := ir48) rfl, evF_bnd]
  simp only [go_sem, doCall, doCallQ, Nat.reduceAdd, Nat.reduceMul, Nat.reduceSub, Nat.reduceDiv, Nat.reduceMod, Nat.reduceLT, Nat.reduceLeDiff, Nat.reduceEqDiff, Nat.reduceBEq, Nat.reduceBNe, Int.reduceToNat, Int.reduceLT, Int.reduceLE, Int.reduceEq, Int.reduceNe, Int.reduceAdd, Int.reduceSub, Int.reduceMul, Int.reduceNeg, bd48]
  repeat' (apply two_cases <;> intro h <;> simp only [go_sem, doCall, doCallQ, Nat.reduceAdd, Nat.reduceMul, Nat.reduceSub, Nat.reduceDiv, Nat.reduceMod, Nat.reduceLT, Nat.reduceLeDiff, Nat.reduceEqDiff, Nat.reduceBEq, Nat.reduceBNe, Int.reduceToNat, Int.reduceLT, Int.reduceLE, Int.reduceEq, Int.reduceNe, Int.reduceAdd, Int.reduceSub, Int.reduceMul, Int.reduceNeg, h, false_and, and_false])
def SpecR (k a b : Int) : Prop := 0 ≤ a ∧ ((k = 2 ∧ a ≤ b ∧ b ≤ 4611686018427387903) ∨ (k = 1 ∧ a ≤ 4611686018427387903 ∧ b = 0) ∨ (k = 3 ∧ a ≤ 4611686018427387903 ∧ b = 0))
instance (k a b : Int) : Decidable (SpecR k a b) := by unfold SpecR; infer_instance
theorem dec_eq {p q : Prop} [Decidable p] [Decidable q] (h : p ↔ q) : (some (AV.d (D.bool (decide p)), ([] : Heap))) = some (.d (.bool (decide q)), []) := by simp [h]
theorem dec_f {q : Prop} [Decidable q] (h : ¬q) : (some (AV.d (D.bool false), ([] : Heap))) = some (.d (.bool (decide q)), []) := by simp [h]
theorem t49 (k a b : Int) : call ir 49 [.agg [.d (.int .i64 k), .d (.int .i64 a), .d (.int .i64 b)]] [] = some (.d (.bool (decide (SpecR k a b))), []) := by
  rw [call_eq (fn := ir49) rfl, evF_bnd]
  simp only [go_sem, doCall, doCallQ, Nat.reduceAdd, Nat.reduceMul, Nat.reduceSub, Nat.reduceDiv, Nat.reduceMod, Nat.reduceLT, Nat.reduceLeDiff, Nat.reduceEqDiff, Nat.reduceBEq, Nat.reduceBNe, Int.reduceToNat, Int.reduceLT, Int.reduceLE, Int.reduceEq, Int.reduceNe, Int.reduceAdd, Int.reduceSub, Int.reduceMul, Int.reduceNeg, bd49]
  repeat' (apply two_cases <;> intro h <;> simp only [go_sem, doCall, doCallQ, Nat.reduceAdd, Nat.reduceMul, Nat.reduceSub, Nat.reduceDiv, Nat.reduceMod, Nat.reduceLT, Nat.reduceLeDiff, Nat.reduceEqDiff, Nat.reduceBEq, Nat.reduceBNe, Int.reduceToNat, Int.reduceLT, Int.reduceLE, Int.reduceEq, Int.reduceNe, Int.reduceAdd, Int.reduceSub, Int.reduceMul, Int.reduceNeg, h, t48])
  all_goals first | (apply dec_eq; unfold SpecR; omega) | (apply dec_f; unfold SpecR; omega)
def one3 (k a b n : Int) : Int × Int := if k = 1 then (a, n) else if k = 2 then (a, wr .i64 (min b (wr .i64 (n - 1)) + 1)) else (wr .i64 (n - min a n), n)
theorem t50 (k a b n : Int) : call ir 50 [.agg [.d (.int .i64 k), .d (.int .i64 a), .d (.int .i64 b)], .d (.int .i64 n)] [] = some (.agg [.d (.int .i64 (one3 k a b n).1), .d (.int .i64 (one3 k a b n).2)], []) := by
  rw [call_eq (fn := ir50) rfl, evF_bnd]
  simp only [go_sem, doCall, doCallQ, Nat.reduceAdd, Nat.reduceMul, Nat.reduceSub, Nat.reduceDiv, Nat.reduceMod, Nat.reduceLT, Nat.reduceLeDiff, Nat.reduceEqDiff, Nat.reduceBEq, Nat.reduceBNe, Int.reduceToNat, Int.reduceLT, Int.reduceLE, Int.reduceEq, Int.reduceNe, Int.reduceAdd, Int.reduceSub, Int.reduceMul, Int.reduceNeg, bd50]
  repeat' (apply two_cases <;> intro h <;> simp only [go_sem, doCall, doCallQ, Nat.reduceAdd, Nat.reduceMul, Nat.reduceSub, Nat.reduceDiv, Nat.reduceMod, Nat.reduceLT, Nat.reduceLeDiff, Nat.reduceEqDiff, Nat.reduceBEq, Nat.reduceBNe, Int.reduceToNat, Int.reduceLT, Int.reduceLE, Int.reduceEq, Int.reduceNe, Int.reduceAdd, Int.reduceSub, Int.reduceMul, Int.reduceNeg, h, one3])
  all_goals trace_state

abbrev Sp := Int × Int × Int
def eS (x : Sp) : List D := [.int .i64 x.1, .int .i64 x.2.1, .int .i64 x.2.2]
def eP (x : Int × Int) : List D := [.int .i64 x.1, .int .i64 x.2]
/-- What Resolve adds for one. -/
def add1 (n : Int) (x : Sp) : List (Int × Int) := if SpecR x.1 x.2.1 x.2.2 ∧ 0 ≤ (one3 x.1 x.2.1 x.2.2 n).1 ∧ (one3 x.1 x.2.1 x.2.2 n).1 < (one3 x.1 x.2.1 x.2.2 n).2 ∧ (one3 x.1 x.2.1 x.2.2 n).2 ≤ 4611686018427387903 then [one3 x.1 x.2.1 x.2.2 n] else []
def accV (r : List (Int × Int)) : AV := if r = [] then .d .nils else .own 0 2 0 r.length false
def accH (r : List (Int × Int)) : Heap := if r = [] then [] else [.arr 2 (r.map eP)]
theorem get_eS (l : List Sp) (i : Nat) (h : i < l.length) : (l.map eS).getD i [] = eS (l[i]) := by simp [List.getD_eq_getElem?_getD, h]


theorem wr_id {n : Int} (h : -9223372036854775808 ≤ n ∧ n ≤ 9223372036854775807) : wr .i64 n = n := by
  simp [wr, IntKind.wrap, IntKind.signed, IntKind.bits]
  omega
noncomputable abbrev LP (k : Ex → St → Option (AV × Heap)) (n : Int) (x : D) (len : Nat) (r : List (Int × Int)) (i : Nat) : Option (AV × Heap) :=
  bnd (evC (call ir) (loop ir) lp19_0 (st19_0 0 (.d (.int .i64 n)) (accV r) (.d x) (.d (.int .i64 len)) (.d (.int .i64 i)) (accH r))) (lpC (call ir) (loop ir) [1, 5, 12, 13, 14] lp19_0 k)
theorem stp (l : List Sp) (hl : l.length ≤ 1000) (x : D) (hx : Lst 3 (l.map eS) x) (n : Int) (r : List (Int × Int)) (i : Nat) (hi' : i < l.length) (k : Ex → St → Option (AV × Heap)) (hr : r.length ≤ i) :
    LP k n x l.length r i = LP k n x l.length (r ++ add1 n l[i]) (i + 1) := by
  have hw : wr .i64 ((i : Int) + 1) = ((i + 1 : Nat) : Int) := by rw [wr_id (by omega)]; omega
  have h : (i : Int) < (l.length : Int) := by omega
  generalize hR : LP k n x l.length (r ++ add1 n l[i]) (i + 1) = R
  by_cases hr0 : r = []
  · subst hr0
    simp only [LP, accV, accH]
    simp (disch := omega) only [go_sem, doCall, doCallQ, Nat.reduceAdd, Nat.reduceMul, Nat.reduceSub, Nat.reduceDiv, Nat.reduceMod, Nat.reduceLT, Nat.reduceLeDiff, Nat.reduceEqDiff, Nat.reduceBEq, Nat.reduceBNe, Int.reduceToNat, Int.reduceLT, Int.reduceLE, Int.reduceEq, Int.reduceNe, Int.reduceAdd, Int.reduceSub, Int.reduceMul, Int.reduceNeg, u19_0, lb19_0, h, hx.is, List.length_map, chk_of, get_eS, eS, Int.toNat_natCast, t49, t50, t25]
    apply two_cases
    · intro h1
      simp (disch := omega) only [go_sem, doCall, doCallQ, Nat.reduceAdd, Nat.reduceMul, Nat.reduceSub, Nat.reduceDiv, Nat.reduceMod, Nat.reduceLT, Nat.reduceLeDiff, Nat.reduceEqDiff, Nat.reduceBEq, Nat.reduceBNe, Int.reduceToNat, Int.reduceLT, Int.reduceLE, Int.reduceEq, Int.reduceNe, Int.reduceAdd, Int.reduceSub, Int.reduceMul, Int.reduceNeg, h1, loop_step1, hw]
      rw [← hR, show add1 n l[i] = [] from by unfold add1; rw [if_neg (fun hh => h1 hh.1)]]
      simp only [go_sem, doCall, doCallQ, Nat.reduceAdd, Nat.reduceMul, Nat.reduceSub, Nat.reduceDiv, Nat.reduceMod, Nat.reduceLT, Nat.reduceLeDiff, Nat.reduceEqDiff, Nat.reduceBEq, Nat.reduceBNe, Int.reduceToNat, Int.reduceLT, Int.reduceLE, Int.reduceEq, Int.reduceNe, Int.reduceAdd, Int.reduceSub, Int.reduceMul, Int.reduceNeg, LP, accV, accH]
    · intro h1
      simp (disch := omega) only [go_sem, doCall, doCallQ, Nat.reduceAdd, Nat.reduceMul, Nat.reduceSub, Nat.reduceDiv, Nat.reduceMod, Nat.reduceLT, Nat.reduceLeDiff, Nat.reduceEqDiff, Nat.reduceBEq, Nat.reduceBNe, Int.reduceToNat, Int.reduceLT, Int.reduceLE, Int.reduceEq, Int.reduceNe, Int.reduceAdd, Int.reduceSub, Int.reduceMul, Int.reduceNeg, h1, t50, t25]
      apply two_cases
      · intro h2
        simp (disch := omega) only [go_sem, doCall, doCallQ, Nat.reduceAdd, Nat.reduceMul, Nat.reduceSub, Nat.reduceDiv, Nat.reduceMod, Nat.reduceLT, Nat.reduceLeDiff, Nat.reduceEqDiff, Nat.reduceBEq, Nat.reduceBNe, Int.reduceToNat, Int.reduceLT, Int.reduceLE, Int.reduceEq, Int.reduceNe, Int.reduceAdd, Int.reduceSub, Int.reduceMul, Int.reduceNeg, h2, loop_step1, hw, chk_of]
        rw [← hR, show add1 n l[i] = [one3 l[i].1 l[i].2.1 l[i].2.2 n] from by unfold add1; rw [if_pos ⟨Classical.not_not.1 h1, h2⟩]]
        simp only [go_sem, doCall, doCallQ, Nat.reduceAdd, Nat.reduceMul, Nat.reduceSub, Nat.reduceDiv, Nat.reduceMod, Nat.reduceLT, Nat.reduceLeDiff, Nat.reduceEqDiff, Nat.reduceBEq, Nat.reduceBNe, Int.reduceToNat, Int.reduceLT, Int.reduceLE, Int.reduceEq, Int.reduceNe, Int.reduceAdd, Int.reduceSub, Int.reduceMul, Int.reduceNeg, LP, eP, accV, accH]
      · intro h2
        simp (disch := omega) only [go_sem, doCall, doCallQ, Nat.reduceAdd, Nat.reduceMul, Nat.reduceSub, Nat.reduceDiv, Nat.reduceMod, Nat.reduceLT, Nat.reduceLeDiff, Nat.reduceEqDiff, Nat.reduceBEq, Nat.reduceBNe, Int.reduceToNat, Int.reduceLT, Int.reduceLE, Int.reduceEq, Int.reduceNe, Int.reduceAdd, Int.reduceSub, Int.reduceMul, Int.reduceNeg, h2, loop_step1, hw]
        rw [← hR, show add1 n l[i] = [] from by unfold add1; rw [if_neg (fun hh => h2 hh.2)]]
        simp only [go_sem, doCall, doCallQ, Nat.reduceAdd, Nat.reduceMul, Nat.reduceSub, Nat.reduceDiv, Nat.reduceMod, Nat.reduceLT, Nat.reduceLeDiff, Nat.reduceEqDiff, Nat.reduceBEq, Nat.reduceBNe, Int.reduceToNat, Int.reduceLT, Int.reduceLE, Int.reduceEq, Int.reduceNe, Int.reduceAdd, Int.reduceSub, Int.reduceMul, Int.reduceNeg, LP, accV, accH]
  · have hv : accV r = .own 0 2 0 r.length false := if_neg hr0
    have hh : accH r = [.arr 2 (r.map eP)] := if_neg hr0
    simp only [LP, hv, hh]
    simp (disch := omega) only [go_sem, doCall, doCallQ, Nat.reduceAdd, Nat.reduceMul, Nat.reduceSub, Nat.reduceDiv, Nat.reduceMod, Nat.reduceLT, Nat.reduceLeDiff, Nat.reduceEqDiff, Nat.reduceBEq, Nat.reduceBNe, Int.reduceToNat, Int.reduceLT, Int.reduceLE, Int.reduceEq, Int.reduceNe, Int.reduceAdd, Int.reduceSub, Int.reduceMul, Int.reduceNeg, u19_0, lb19_0, h, hx.is, List.length_map, chk_of, get_eS, eS, Int.toNat_natCast, t49, t50, t25]
    apply two_cases
    · intro h1
      simp (disch := omega) only [go_sem, doCall, doCallQ, Nat.reduceAdd, Nat.reduceMul, Nat.reduceSub, Nat.reduceDiv, Nat.reduceMod, Nat.reduceLT, Nat.reduceLeDiff, Nat.reduceEqDiff, Nat.reduceBEq, Nat.reduceBNe, Int.reduceToNat, Int.reduceLT, Int.reduceLE, Int.reduceEq, Int.reduceNe, Int.reduceAdd, Int.reduceSub, Int.reduceMul, Int.reduceNeg, h1, loop_step1, hw]
      rw [← hR, show add1 n l[i] = [] from by unfold add1; rw [if_neg (fun hh => h1 hh.1)]]
      simp only [go_sem, doCall, doCallQ, Nat.reduceAdd, Nat.reduceMul, Nat.reduceSub, Nat.reduceDiv, Nat.reduceMod, Nat.reduceLT, Nat.reduceLeDiff, Nat.reduceEqDiff, Nat.reduceBEq, Nat.reduceBNe, Int.reduceToNat, Int.reduceLT, Int.reduceLE, Int.reduceEq, Int.reduceNe, Int.reduceAdd, Int.reduceSub, Int.reduceMul, Int.reduceNeg, LP, hv, hh]
    · intro h1
      simp (disch := omega) only [go_sem, doCall, doCallQ, Nat.reduceAdd, Nat.reduceMul, Nat.reduceSub, Nat.reduceDiv, Nat.reduceMod, Nat.reduceLT, Nat.reduceLeDiff, Nat.reduceEqDiff, Nat.reduceBEq, Nat.reduceBNe, Int.reduceToNat, Int.reduceLT, Int.reduceLE, Int.reduceEq, Int.reduceNe, Int.reduceAdd, Int.reduceSub, Int.reduceMul, Int.reduceNeg, h1, t50, t25]
      apply two_cases
      · intro h2
        simp (disch := omega) only [go_sem, doCall, doCallQ, Nat.reduceAdd, Nat.reduceMul, Nat.reduceSub, Nat.reduceDiv, Nat.reduceMod, Nat.reduceLT, Nat.reduceLeDiff, Nat.reduceEqDiff, Nat.reduceBEq, Nat.reduceBNe, Int.reduceToNat, Int.reduceLT, Int.reduceLE, Int.reduceEq, Int.reduceNe, Int.reduceAdd, Int.reduceSub, Int.reduceMul, Int.reduceNeg, h2, loop_step1, hw, chk_of, List.length_map]
        rw [← hR, show add1 n l[i] = [one3 l[i].1 l[i].2.1 l[i].2.2 n] from by unfold add1; rw [if_pos ⟨Classical.not_not.1 h1, h2⟩]]
        have hv' : accV (r ++ [one3 l[i].1 l[i].2.1 l[i].2.2 n]) = .own 0 2 0 (r.length + 1) false := by simp [accV]
        have hh' : accH (r ++ [one3 l[i].1 l[i].2.1 l[i].2.2 n]) = [.arr 2 (r.map eP ++ [eP (one3 l[i].1 l[i].2.1 l[i].2.2 n)])] := by simp [accH]
        simp only [LP, hv', hh', eP]
      · intro h2
        simp (disch := omega) only [go_sem, doCall, doCallQ, Nat.reduceAdd, Nat.reduceMul, Nat.reduceSub, Nat.reduceDiv, Nat.reduceMod, Nat.reduceLT, Nat.reduceLeDiff, Nat.reduceEqDiff, Nat.reduceBEq, Nat.reduceBNe, Int.reduceToNat, Int.reduceLT, Int.reduceLE, Int.reduceEq, Int.reduceNe, Int.reduceAdd, Int.reduceSub, Int.reduceMul, Int.reduceNeg, h2, loop_step1, hw]
        rw [← hR, show add1 n l[i] = [] from by unfold add1; rw [if_neg (fun hh => h2 hh.2)]]
        simp only [go_sem, doCall, doCallQ, Nat.reduceAdd, Nat.reduceMul, Nat.reduceSub, Nat.reduceDiv, Nat.reduceMod, Nat.reduceLT, Nat.reduceLeDiff, Nat.reduceEqDiff, Nat.reduceBEq, Nat.reduceBNe, Int.reduceToNat, Int.reduceLT, Int.reduceLE, Int.reduceEq, Int.reduceNe, Int.reduceAdd, Int.reduceSub, Int.reduceMul, Int.reduceNeg, LP, hv, hh]

/-- What is left of a loop that stops. -/
theorem stop (len : Nat) (x : D) (n : Int) (r : List (Int × Int)) (k : Ex → St → Option (AV × Heap)) :
    LP k n x len r len = k (.exit 0) ⟨0, [.unk, .unk, .unk, .unk, .unk, accV r, .unk, .unk, .unk, .unk, .unk, .unk, .unk, .unk, .unk, .unk, .unk, .unk, .unk, .unk, .unk, .unk, .unk, .unk, .unk, .unk, .unk, .unk, .unk, .unk, .unk, .unk], accH r⟩ := by
  by_cases hr0 : r = []
  · subst hr0
    simp only [LP, accV, accH]
    simp (disch := omega) only [go_sem, doCall, doCallQ, Nat.reduceAdd, Nat.reduceMul, Nat.reduceSub, Nat.reduceDiv, Nat.reduceMod, Nat.reduceLT, Nat.reduceLeDiff, Nat.reduceEqDiff, Nat.reduceBEq, Nat.reduceBNe, Int.reduceToNat, Int.reduceLT, Int.reduceLE, Int.reduceEq, Int.reduceNe, Int.reduceAdd, Int.reduceSub, Int.reduceMul, Int.reduceNeg, u19_0, lb19_0, Int.lt_irrefl]
  · have hv : accV r = .own 0 2 0 r.length false := if_neg hr0
    have hh : accH r = [.arr 2 (r.map eP)] := if_neg hr0
    simp only [LP, hv, hh]
    simp (disch := omega) only [go_sem, doCall, doCallQ, Nat.reduceAdd, Nat.reduceMul, Nat.reduceSub, Nat.reduceDiv, Nat.reduceMod, Nat.reduceLT, Nat.reduceLeDiff, Nat.reduceEqDiff, Nat.reduceBEq, Nat.reduceBNe, Int.reduceToNat, Int.reduceLT, Int.reduceLE, Int.reduceEq, Int.reduceNe, Int.reduceAdd, Int.reduceSub, Int.reduceMul, Int.reduceNeg, u19_0, lb19_0, Int.lt_irrefl]
theorem lpAll (l : List Sp) (hl : l.length ≤ 1000) (x : D) (hx : Lst 3 (l.map eS) x) (n : Int) (k : Ex → St → Option (AV × Heap)) : ∀ (m i : Nat) (r : List (Int × Int)), i + m = l.length → r.length ≤ i →
    LP k n x l.length r i = k (.exit 0) ⟨0, [.unk, .unk, .unk, .unk, .unk, accV (r ++ (l.drop i).flatMap (add1 n)), .unk, .unk, .unk, .unk, .unk, .unk, .unk, .unk, .unk, .unk, .unk, .unk, .unk, .unk, .unk, .unk, .unk, .unk, .unk, .unk, .unk, .unk, .unk, .unk, .unk, .unk], accH (r ++ (l.drop i).flatMap (add1 n))⟩
  | 0, i, r, hi, hr => by
    have : i = l.length := by omega
    subst this
    rw [stop]; simp
  | m + 1, i, r, hi, hr => by
    have hi' : i < l.length := by omega
    rw [stp l hl x hx n r i hi' k hr, lpAll l hl x hx n k m (i + 1) _ (by omega) (by
      have : (add1 n l[i]).length ≤ 1 := by unfold add1; split <;> simp
      simp; omega)]
    rw [List.drop_eq_getElem_cons hi', List.flatMap_cons, List.append_assoc]
def res (l : List Sp) (n : Int) : List (Int × Int) := if 1 ≤ n ∧ n ≤ 4611686018427387903 then l.flatMap (add1 n) else []
theorem t19 (l : List Sp) (hl : l.length ≤ 1000) (x : D) (hx : Lst 3 (l.map eS) x) (n : Int) : call ir 19 [.d x, .d (.int .i64 n)] [] = some (accV (res l n), accH (res l n)) := by
  rw [call_eq (fn := ir19) rfl, evF_bnd]
  simp only [go_sem, doCall, doCallQ, Nat.reduceAdd, Nat.reduceMul, Nat.reduceSub, Nat.reduceDiv, Nat.reduceMod, Nat.reduceLT, Nat.reduceLeDiff, Nat.reduceEqDiff, Nat.reduceBEq, Nat.reduceBNe, Int.reduceToNat, Int.reduceLT, Int.reduceLE, Int.reduceEq, Int.reduceNe, Int.reduceAdd, Int.reduceSub, Int.reduceMul, Int.reduceNeg, bd19, t48]
  apply two_cases
  · intro h
    simp only [go_sem, doCall, doCallQ, Nat.reduceAdd, Nat.reduceMul, Nat.reduceSub, Nat.reduceDiv, Nat.reduceMod, Nat.reduceLT, Nat.reduceLeDiff, Nat.reduceEqDiff, Nat.reduceBEq, Nat.reduceBNe, Int.reduceToNat, Int.reduceLT, Int.reduceLE, Int.reduceEq, Int.reduceNe, Int.reduceAdd, Int.reduceSub, Int.reduceMul, Int.reduceNeg, h]
    simp only [res, if_neg h]; rfl
  · intro h
    simp only [go_sem, doCall, doCallQ, Nat.reduceAdd, Nat.reduceMul, Nat.reduceSub, Nat.reduceDiv, Nat.reduceMod, Nat.reduceLT, Nat.reduceLeDiff, Nat.reduceEqDiff, Nat.reduceBEq, Nat.reduceBNe, Int.reduceToNat, Int.reduceLT, Int.reduceLE, Int.reduceEq, Int.reduceNe, Int.reduceAdd, Int.reduceSub, Int.reduceMul, Int.reduceNeg, h, hx.len, loop_step1, List.length_map]
    refine Eq.trans (lpAll l hl x hx n _ l.length 0 [] (by omega) (by simp)) ?_
    have hq : res l n = [] ++ (l.drop 0).flatMap (add1 n) := by simp [res, if_pos (Classical.not_not.1 h)]
    rw [← hq]
    generalize res l n = q
    by_cases hq0 : q = []
    · subst hq0
      simp only [go_sem, doCall, doCallQ, Nat.reduceAdd, Nat.reduceMul, Nat.reduceSub, Nat.reduceDiv, Nat.reduceMod, Nat.reduceLT, Nat.reduceLeDiff, Nat.reduceEqDiff, Nat.reduceBEq, Nat.reduceBNe, Int.reduceToNat, Int.reduceLT, Int.reduceLE, Int.reduceEq, Int.reduceNe, Int.reduceAdd, Int.reduceSub, Int.reduceMul, Int.reduceNeg, accV, accH]
    · have hv : accV q = .own 0 2 0 q.length false := if_neg hq0
      have hh : accH q = [.arr 2 (q.map eP)] := if_neg hq0
      simp only [go_sem, doCall, doCallQ, Nat.reduceAdd, Nat.reduceMul, Nat.reduceSub, Nat.reduceDiv, Nat.reduceMod, Nat.reduceLT, Nat.reduceLeDiff, Nat.reduceEqDiff, Nat.reduceBEq, Nat.reduceBNe, Int.reduceToNat, Int.reduceLT, Int.reduceLE, Int.reduceEq, Int.reduceNe, Int.reduceAdd, Int.reduceSub, Int.reduceMul, Int.reduceNeg, hv, hh]

theorem t51 (k a b : Int) : call ir 51 [.agg [.d (.int .i64 k), .d (.int .i64 a), .d (.int .i64 b)]] [] = some (.d (.bool (decide (SpecR k a b))), []) := by
  rw [call_eq (fn := ir51) rfl, evF_bnd]
  simp only [go_sem, doCall, doCallQ, Nat.reduceAdd, Nat.reduceMul, Nat.reduceSub, Nat.reduceDiv, Nat.reduceMod, Nat.reduceLT, Nat.reduceLeDiff, Nat.reduceEqDiff, Nat.reduceBEq, Nat.reduceBNe, Int.reduceToNat, Int.reduceLT, Int.reduceLE, Int.reduceEq, Int.reduceNe, Int.reduceAdd, Int.reduceSub, Int.reduceMul, Int.reduceNeg, bd51]
  repeat' (apply two_cases <;> intro h <;> simp only [go_sem, doCall, doCallQ, Nat.reduceAdd, Nat.reduceMul, Nat.reduceSub, Nat.reduceDiv, Nat.reduceMod, Nat.reduceLT, Nat.reduceLeDiff, Nat.reduceEqDiff, Nat.reduceBEq, Nat.reduceBNe, Int.reduceToNat, Int.reduceLT, Int.reduceLE, Int.reduceEq, Int.reduceNe, Int.reduceAdd, Int.reduceSub, Int.reduceMul, Int.reduceNeg, h])
  all_goals first | (apply dec_eq; unfold SpecR; omega) | (apply dec_f; unfold SpecR; omega)
/-- The reference's one. -/
def one3r (k a b n : Int) : Int × Int := (if k = 3 then (if a < n then wr .i64 (n - a) else 0) else a, if k = 2 ∧ b < wr .i64 (n - 1) then wr .i64 (b + 1) else n)
def add1r (n : Int) (x : Sp) : List (Int × Int) := if SpecR x.1 x.2.1 x.2.2 ∧ 0 ≤ (one3r x.1 x.2.1 x.2.2 n).1 ∧ (one3r x.1 x.2.1 x.2.2 n).1 < (one3r x.1 x.2.1 x.2.2 n).2 ∧ (one3r x.1 x.2.1 x.2.2 n).2 ≤ 4611686018427387903 then [one3r x.1 x.2.1 x.2.2 n] else []
noncomputable abbrev LR (k : Ex → St → Option (AV × Heap)) (n : Int) (x : D) (len : Nat) (r : List (Int × Int)) (i : Nat) : Option (AV × Heap) :=
  bnd (evC (call ir) (loop ir) lp21_0 (st21_0 0 (.d (.int .i64 n)) (accV r) (.d x) (.d (.int .i64 len)) (.d (.int .i64 i)) (accH r))) (lpC (call ir) (loop ir) [1, 5, 16, 17, 18] lp21_0 k)
theorem add1r_no {n : Int} {x : Sp} (h : ¬SpecR x.1 x.2.1 x.2.2) : add1r n x = [] := by unfold add1r; rw [if_neg (fun hh => h hh.1)]
theorem add1r_y {n s e : Int} {x : Sp} (h : ¬¬SpecR x.1 x.2.1 x.2.2) (h1 : one3r x.1 x.2.1 x.2.2 n = (s, e)) (h2 : 0 ≤ s ∧ s < e ∧ e ≤ 4611686018427387903) : add1r n x = [(s, e)] := by
  unfold add1r; rw [h1, if_pos ⟨Classical.not_not.1 h, h2⟩]
theorem add1r_n {n s e : Int} {x : Sp} (h : ¬¬SpecR x.1 x.2.1 x.2.2) (h1 : one3r x.1 x.2.1 x.2.2 n = (s, e)) (h2 : ¬(0 ≤ s ∧ s < e ∧ e ≤ 4611686018427387903)) : add1r n x = [] := by
  unfold add1r; rw [h1, if_neg (fun hh => h2 hh.2)]
theorem stpr (l : List Sp) (hl : l.length ≤ 1000) (x : D) (hx : Lst 3 (l.map eS) x) (n : Int) (i : Nat) (hi' : i < l.length) (k : Ex → St → Option (AV × Heap)) :
    LR k n x l.length [] i = LR k n x l.length ([] ++ add1r n l[i]) (i + 1) := by
  have hw : wr .i64 ((i : Int) + 1) = ((i + 1 : Nat) : Int) := by rw [wr_id (by omega)]; omega
  have h : (i : Int) < (l.length : Int) := by omega
  generalize hR : LR k n x l.length ([] ++ add1r n l[i]) (i + 1) = R
  simp only [LR, accV, accH]
  simp (disch := omega) only [go_sem, doCall, doCallQ, Nat.reduceAdd, Nat.reduceMul, Nat.reduceSub, Nat.reduceDiv, Nat.reduceMod, Nat.reduceLT, Nat.reduceLeDiff, Nat.reduceEqDiff, Nat.reduceBEq, Nat.reduceBNe, Int.reduceToNat, Int.reduceLT, Int.reduceLE, Int.reduceEq, Int.reduceNe, Int.reduceAdd, Int.reduceSub, Int.reduceMul, Int.reduceNeg, u21_0, lb21_0, h, hx.is, List.length_map, chk_of, get_eS, eS, Int.toNat_natCast, t51, t22]
  apply two_cases
  · intro h1
    simp (disch := omega) only [go_sem, doCall, doCallQ, Nat.reduceAdd, Nat.reduceMul, Nat.reduceSub, Nat.reduceDiv, Nat.reduceMod, Nat.reduceLT, Nat.reduceLeDiff, Nat.reduceEqDiff, Nat.reduceBEq, Nat.reduceBNe, Int.reduceToNat, Int.reduceLT, Int.reduceLE, Int.reduceEq, Int.reduceNe, Int.reduceAdd, Int.reduceSub, Int.reduceMul, Int.reduceNeg, h1, loop_step1, hw]
    rw [← hR, add1r_no h1]
    simp only [go_sem, doCall, doCallQ, Nat.reduceAdd, Nat.reduceMul, Nat.reduceSub, Nat.reduceDiv, Nat.reduceMod, Nat.reduceLT, Nat.reduceLeDiff, Nat.reduceEqDiff, Nat.reduceBEq, Nat.reduceBNe, Int.reduceToNat, Int.reduceLT, Int.reduceLE, Int.reduceEq, Int.reduceNe, Int.reduceAdd, Int.reduceSub, Int.reduceMul, Int.reduceNeg, LR, accV, accH]
  · intro h1
    simp (disch := omega) only [go_sem, doCall, doCallQ, Nat.reduceAdd, Nat.reduceMul, Nat.reduceSub, Nat.reduceDiv, Nat.reduceMod, Nat.reduceLT, Nat.reduceLeDiff, Nat.reduceEqDiff, Nat.reduceBEq, Nat.reduceBNe, Int.reduceToNat, Int.reduceLT, Int.reduceLE, Int.reduceEq, Int.reduceNe, Int.reduceAdd, Int.reduceSub, Int.reduceMul, Int.reduceNeg, h1]
    repeat' (apply two_cases <;> intro hh <;> simp (disch := omega) only [go_sem, doCall, doCallQ, Nat.reduceAdd, Nat.reduceMul, Nat.reduceSub, Nat.reduceDiv, Nat.reduceMod, Nat.reduceLT, Nat.reduceLeDiff, Nat.reduceEqDiff, Nat.reduceBEq, Nat.reduceBNe, Int.reduceToNat, Int.reduceLT, Int.reduceLE, Int.reduceEq, Int.reduceNe, Int.reduceAdd, Int.reduceSub, Int.reduceMul, Int.reduceNeg, hh, loop_step1, hw, chk_of, t22])
    all_goals subst hR
    all_goals first
      | (rw [add1r_y h1 (by simp only [one3r, *, Int.reduceEq, if_true, if_false, false_and, and_false, and_true, true_and]; rfl) (by first | assumption | exact ⟨Int.le_refl 0, hh⟩)]; simp only [go_sem, doCall, doCallQ, Nat.reduceAdd, Nat.reduceMul, Nat.reduceSub, Nat.reduceDiv, Nat.reduceMod, Nat.reduceLT, Nat.reduceLeDiff, Nat.reduceEqDiff, Nat.reduceBEq, Nat.reduceBNe, Int.reduceToNat, Int.reduceLT, Int.reduceLE, Int.reduceEq, Int.reduceNe, Int.reduceAdd, Int.reduceSub, Int.reduceMul, Int.reduceNeg, LR, eP, accV, accH]; done)
      | (rw [add1r_n h1 (by simp only [one3r, *, Int.reduceEq, if_true, if_false, false_and, and_false, and_true, true_and]; rfl) (by first | assumption | exact fun q => hh ⟨q.2.1, q.2.2⟩)]; simp only [go_sem, doCall, doCallQ, Nat.reduceAdd, Nat.reduceMul, Nat.reduceSub, Nat.reduceDiv, Nat.reduceMod, Nat.reduceLT, Nat.reduceLeDiff, Nat.reduceEqDiff, Nat.reduceBEq, Nat.reduceBNe, Int.reduceToNat, Int.reduceLT, Int.reduceLE, Int.reduceEq, Int.reduceNe, Int.reduceAdd, Int.reduceSub, Int.reduceMul, Int.reduceNeg, LR, eP, accV, accH]; done)
      | trace_state

theorem stpr2 (l : List Sp) (hl : l.length ≤ 1000) (x : D) (hx : Lst 3 (l.map eS) x) (n : Int) (r : List (Int × Int)) (hr0 : r ≠ []) (i : Nat) (hi' : i < l.length) (k : Ex → St → Option (AV × Heap)) (hr : r.length ≤ i) :
    LR k n x l.length r i = LR k n x l.length (r ++ add1r n l[i]) (i + 1) := by
  have hw : wr .i64 ((i : Int) + 1) = ((i + 1 : Nat) : Int) := by rw [wr_id (by omega)]; omega
  have h : (i : Int) < (l.length : Int) := by omega
  generalize hR : LR k n x l.length (r ++ add1r n l[i]) (i + 1) = R
  have hv : accV r = .own 0 2 0 r.length false := if_neg hr0
  have hh' : accH r = [.arr 2 (r.map eP)] := if_neg hr0
  have hv2 : ∀ p, accV (r ++ [p]) = .own 0 2 0 (r.length + 1) false := fun p => by simp [accV]
  have hh2 : ∀ p, accH (r ++ [p]) = [.arr 2 (r.map eP ++ [eP p])] := fun p => by simp [accH]
  simp only [LR, hv, hh']
  simp (disch := omega) only [go_sem, doCall, doCallQ, Nat.reduceAdd, Nat.reduceMul, Nat.reduceSub, Nat.reduceDiv, Nat.reduceMod, Nat.reduceLT, Nat.reduceLeDiff, Nat.reduceEqDiff, Nat.reduceBEq, Nat.reduceBNe, Int.reduceToNat, Int.reduceLT, Int.reduceLE, Int.reduceEq, Int.reduceNe, Int.reduceAdd, Int.reduceSub, Int.reduceMul, Int.reduceNeg, u21_0, lb21_0, h, hx.is, List.length_map, chk_of, get_eS, eS, Int.toNat_natCast, t51, t22]
  apply two_cases
  · intro h1
    simp (disch := omega) only [go_sem, doCall, doCallQ, Nat.reduceAdd, Nat.reduceMul, Nat.reduceSub, Nat.reduceDiv, Nat.reduceMod, Nat.reduceLT, Nat.reduceLeDiff, Nat.reduceEqDiff, Nat.reduceBEq, Nat.reduceBNe, Int.reduceToNat, Int.reduceLT, Int.reduceLE, Int.reduceEq, Int.reduceNe, Int.reduceAdd, Int.reduceSub, Int.reduceMul, Int.reduceNeg, h1, loop_step1, hw]
    rw [← hR, add1r_no h1]
    simp only [go_sem, doCall, doCallQ, Nat.reduceAdd, Nat.reduceMul, Nat.reduceSub, Nat.reduceDiv, Nat.reduceMod, Nat.reduceLT, Nat.reduceLeDiff, Nat.reduceEqDiff, Nat.reduceBEq, Nat.reduceBNe, Int.reduceToNat, Int.reduceLT, Int.reduceLE, Int.reduceEq, Int.reduceNe, Int.reduceAdd, Int.reduceSub, Int.reduceMul, Int.reduceNeg, LR, hv, hh']
  · intro h1
    simp (disch := omega) only [go_sem, doCall, doCallQ, Nat.reduceAdd, Nat.reduceMul, Nat.reduceSub, Nat.reduceDiv, Nat.reduceMod, Nat.reduceLT, Nat.reduceLeDiff, Nat.reduceEqDiff, Nat.reduceBEq, Nat.reduceBNe, Int.reduceToNat, Int.reduceLT, Int.reduceLE, Int.reduceEq, Int.reduceNe, Int.reduceAdd, Int.reduceSub, Int.reduceMul, Int.reduceNeg, h1]
    repeat' (apply two_cases <;> intro hh <;> simp (disch := omega) only [go_sem, doCall, doCallQ, Nat.reduceAdd, Nat.reduceMul, Nat.reduceSub, Nat.reduceDiv, Nat.reduceMod, Nat.reduceLT, Nat.reduceLeDiff, Nat.reduceEqDiff, Nat.reduceBEq, Nat.reduceBNe, Int.reduceToNat, Int.reduceLT, Int.reduceLE, Int.reduceEq, Int.reduceNe, Int.reduceAdd, Int.reduceSub, Int.reduceMul, Int.reduceNeg, hh, loop_step1, hw, chk_of, t22, List.length_map])
    all_goals subst hR
    all_goals first
      | (rw [add1r_y h1 (by simp only [one3r, *, Int.reduceEq, if_true, if_false, false_and, and_false, and_true, true_and]; rfl) (by first | assumption | exact ⟨Int.le_refl 0, hh⟩)]; simp only [LR, hv2, hh2, eP]; done)
      | (rw [add1r_n h1 (by simp only [one3r, *, Int.reduceEq, if_true, if_false, false_and, and_false, and_true, true_and]; rfl) (by first | assumption | exact fun q => hh ⟨q.2.1, q.2.2⟩)]; simp only [go_sem, doCall, doCallQ, Nat.reduceAdd, Nat.reduceMul, Nat.reduceSub, Nat.reduceDiv, Nat.reduceMod, Nat.reduceLT, Nat.reduceLeDiff, Nat.reduceEqDiff, Nat.reduceBEq, Nat.reduceBNe, Int.reduceToNat, Int.reduceLT, Int.reduceLE, Int.reduceEq, Int.reduceNe, Int.reduceAdd, Int.reduceSub, Int.reduceMul, Int.reduceNeg, LR, hv, hh']; done)
      | trace_state
theorem stopr (len : Nat) (x : D) (n : Int) (r : List (Int × Int)) (k : Ex → St → Option (AV × Heap)) :
    LR k n x len r len = k (.exit 0) (clean [5] (st21_0 0 (.d (.int .i64 n)) (accV r) (.d x) (.d (.int .i64 len)) (.d (.int .i64 len)) (accH r))) := by
  by_cases hr0 : r = []
  · subst hr0
    simp only [LR, accV, accH]
    simp (disch := omega) only [go_sem, doCall, doCallQ, Nat.reduceAdd, Nat.reduceMul, Nat.reduceSub, Nat.reduceDiv, Nat.reduceMod, Nat.reduceLT, Nat.reduceLeDiff, Nat.reduceEqDiff, Nat.reduceBEq, Nat.reduceBNe, Int.reduceToNat, Int.reduceLT, Int.reduceLE, Int.reduceEq, Int.reduceNe, Int.reduceAdd, Int.reduceSub, Int.reduceMul, Int.reduceNeg, u21_0, lb21_0, Int.lt_irrefl]
  · have hv : accV r = .own 0 2 0 r.length false := if_neg hr0
    have hh : accH r = [.arr 2 (r.map eP)] := if_neg hr0
    simp only [LR, hv, hh]
    simp (disch := omega) only [go_sem, doCall, doCallQ, Nat.reduceAdd, Nat.reduceMul, Nat.reduceSub, Nat.reduceDiv, Nat.reduceMod, Nat.reduceLT, Nat.reduceLeDiff, Nat.reduceEqDiff, Nat.reduceBEq, Nat.reduceBNe, Int.reduceToNat, Int.reduceLT, Int.reduceLE, Int.reduceEq, Int.reduceNe, Int.reduceAdd, Int.reduceSub, Int.reduceMul, Int.reduceNeg, u21_0, lb21_0, Int.lt_irrefl]
theorem lpAllr (l : List Sp) (hl : l.length ≤ 1000) (x : D) (hx : Lst 3 (l.map eS) x) (n : Int) (k : Ex → St → Option (AV × Heap)) : ∀ (m i : Nat) (r : List (Int × Int)), i + m = l.length → r.length ≤ i →
    LR k n x l.length r i = k (.exit 0) (clean [5] (st21_0 0 (.d (.int .i64 n)) (accV (r ++ (l.drop i).flatMap (add1r n))) (.d x) (.d (.int .i64 l.length)) (.d (.int .i64 l.length)) (accH (r ++ (l.drop i).flatMap (add1r n)))))
  | 0, i, r, hi, hr => by
    have : i = l.length := by omega
    subst this
    rw [stopr]; simp
  | m + 1, i, r, hi, hr => by
    have hi' : i < l.length := by omega
    have e : LR k n x l.length r i = LR k n x l.length (r ++ add1r n l[i]) (i + 1) := by
      by_cases hr0 : r = []
      · subst hr0; exact stpr l hl x hx n i hi' k
      · exact stpr2 l hl x hx n r hr0 i hi' k hr
    rw [e, lpAllr l hl x hx n k m (i + 1) _ (by omega) (by
      have : (add1r n l[i]).length ≤ 1 := by unfold add1r; split <;> simp
      simp; omega)]
    rw [List.drop_eq_getElem_cons hi', List.flatMap_cons, List.append_assoc]
def resr (l : List Sp) (n : Int) : List (Int × Int) := if 1 ≤ n ∧ n ≤ 4611686018427387903 then l.flatMap (add1r n) else []
theorem t21 (l : List Sp) (hl : l.length ≤ 1000) (x : D) (hx : Lst 3 (l.map eS) x) (n : Int) : call ir 21 [.d x, .d (.int .i64 n)] [] = some (accV (resr l n), accH (resr l n)) := by
  rw [call_eq (fn := ir21) rfl, evF_bnd]
  simp only [go_sem, doCall, doCallQ, Nat.reduceAdd, Nat.reduceMul, Nat.reduceSub, Nat.reduceDiv, Nat.reduceMod, Nat.reduceLT, Nat.reduceLeDiff, Nat.reduceEqDiff, Nat.reduceBEq, Nat.reduceBNe, Int.reduceToNat, Int.reduceLT, Int.reduceLE, Int.reduceEq, Int.reduceNe, Int.reduceAdd, Int.reduceSub, Int.reduceMul, Int.reduceNeg, bd21]
  apply two_cases
  · intro h
    simp only [go_sem, doCall, doCallQ, Nat.reduceAdd, Nat.reduceMul, Nat.reduceSub, Nat.reduceDiv, Nat.reduceMod, Nat.reduceLT, Nat.reduceLeDiff, Nat.reduceEqDiff, Nat.reduceBEq, Nat.reduceBNe, Int.reduceToNat, Int.reduceLT, Int.reduceLE, Int.reduceEq, Int.reduceNe, Int.reduceAdd, Int.reduceSub, Int.reduceMul, Int.reduceNeg, h]
    have : ¬(1 ≤ n ∧ n ≤ 4611686018427387903) := by omega
    simp only [resr, if_neg this]; rfl
  · intro h
    simp only [go_sem, doCall, doCallQ, Nat.reduceAdd, Nat.reduceMul, Nat.reduceSub, Nat.reduceDiv, Nat.reduceMod, Nat.reduceLT, Nat.reduceLeDiff, Nat.reduceEqDiff, Nat.reduceBEq, Nat.reduceBNe, Int.reduceToNat, Int.reduceLT, Int.reduceLE, Int.reduceEq, Int.reduceNe, Int.reduceAdd, Int.reduceSub, Int.reduceMul, Int.reduceNeg, h]
    apply two_cases
    · intro h'
      simp only [go_sem, doCall, doCallQ, Nat.reduceAdd, Nat.reduceMul, Nat.reduceSub, Nat.reduceDiv, Nat.reduceMod, Nat.reduceLT, Nat.reduceLeDiff, Nat.reduceEqDiff, Nat.reduceBEq, Nat.reduceBNe, Int.reduceToNat, Int.reduceLT, Int.reduceLE, Int.reduceEq, Int.reduceNe, Int.reduceAdd, Int.reduceSub, Int.reduceMul, Int.reduceNeg, h']
      have : ¬(1 ≤ n ∧ n ≤ 4611686018427387903) := by omega
      simp only [resr, if_neg this]; rfl
    · intro h'
      simp only [go_sem, doCall, doCallQ, Nat.reduceAdd, Nat.reduceMul, Nat.reduceSub, Nat.reduceDiv, Nat.reduceMod, Nat.reduceLT, Nat.reduceLeDiff, Nat.reduceEqDiff, Nat.reduceBEq, Nat.reduceBNe, Int.reduceToNat, Int.reduceLT, Int.reduceLE, Int.reduceEq, Int.reduceNe, Int.reduceAdd, Int.reduceSub, Int.reduceMul, Int.reduceNeg, h', hx.len, loop_step1, List.length_map]
      refine Eq.trans (lpAllr l hl x hx n _ l.length 0 [] (by omega) (by simp)) ?_
      have hq : resr l n = [] ++ (l.drop 0).flatMap (add1r n) := by simp [resr, show 1 ≤ n ∧ n ≤ 4611686018427387903 from by omega]
      rw [← hq]
      generalize resr l n = q
      by_cases hq0 : q = []
      · subst hq0
        simp only [go_sem, doCall, doCallQ, Nat.reduceAdd, Nat.reduceMul, Nat.reduceSub, Nat.reduceDiv, Nat.reduceMod, Nat.reduceLT, Nat.reduceLeDiff, Nat.reduceEqDiff, Nat.reduceBEq, Nat.reduceBNe, Int.reduceToNat, Int.reduceLT, Int.reduceLE, Int.reduceEq, Int.reduceNe, Int.reduceAdd, Int.reduceSub, Int.reduceMul, Int.reduceNeg, accV, accH]
      · have hv : accV q = .own 0 2 0 q.length false := if_neg hq0
        have hh : accH q = [.arr 2 (q.map eP)] := if_neg hq0
        simp only [go_sem, doCall, doCallQ, Nat.reduceAdd, Nat.reduceMul, Nat.reduceSub, Nat.reduceDiv, Nat.reduceMod, Nat.reduceLT, Nat.reduceLeDiff, Nat.reduceEqDiff, Nat.reduceBEq, Nat.reduceBNe, Int.reduceToNat, Int.reduceLT, Int.reduceLE, Int.reduceEq, Int.reduceNe, Int.reduceAdd, Int.reduceSub, Int.reduceMul, Int.reduceNeg, hv, hh]

theorem t18 : call ir 18 [] [] = some (.d (.bool true), []) := call_of (n := 40) (by kernel_rfl)
noncomputable abbrev LS (k : Ex → St → Option (AV × Heap)) (x y : D) (len : Nat) (i : Nat) : Option (AV × Heap) :=
  bnd (evC (call ir) (loop ir) lp20_0 (st20_0 0 (.d x) (.d y) (.d (.int .i64 len)) (.d (.int .i64 i)) [])) (lpC (call ir) (loop ir) [0, 1, 12, 13] lp20_0 k)
theorem get_eP (l : List (Int × Int)) (i : Nat) (h : i < l.length) : (l.map eP).getD i [] = eP (l[i]) := by simp [List.getD_eq_getElem?_getD, h]
theorem bne_dec (a b : Int × Int) : (!(a.1 == b.1 && a.2 == b.2)) = decide (a ≠ b) := by
  obtain ⟨a1, a2⟩ := a
  obtain ⟨b1, b2⟩ := b
  by_cases h1 : a1 = b1 <;> by_cases h2 : a2 = b2 <;> simp [h1, h2]
theorem lps (a b : List (Int × Int)) (hl : a.length ≤ 1000) (hab : a.length = b.length) (x y : D) (hx : Lst 2 (a.map eP) x) (hy : Lst 2 (b.map eP) y) (n : Nat) : ∀ (m i : Nat), i + m = a.length →
    LS (bk 0 (sq (call ir) (loop ir) (.seq (.reg [⟨some 4, none, .mv (.c (.d (.bool true)))⟩]) (.ret none)) (fin ir20))) x y a.length i = some (.d (.bool (decide (a.drop i = b.drop i))), [])
  | 0, i, hi => by
    have : i = a.length := by omega
    subst this
    simp only [LS]
    simp (disch := omega) only [go_sem, doCall, doCallQ, Nat.reduceAdd, Nat.reduceMul, Nat.reduceSub, Nat.reduceDiv, Nat.reduceMod, Nat.reduceLT, Nat.reduceLeDiff, Nat.reduceEqDiff, Nat.reduceBEq, Nat.reduceBNe, Int.reduceToNat, Int.reduceLT, Int.reduceLE, Int.reduceEq, Int.reduceNe, Int.reduceAdd, Int.reduceSub, Int.reduceMul, Int.reduceNeg, u20_0, lb20_0, Int.lt_irrefl]
    simp [hab]
  | m + 1, i, hi => by
    have hi1 : i < a.length := by omega
    have hi2 : i < b.length := by omega
    have hw : wr .i64 ((i : Int) + 1) = ((i + 1 : Nat) : Int) := by rw [wr_id (by omega)]; omega
    have h : (i : Int) < (a.length : Int) := by omega
    have e : (a.drop i = b.drop i) ↔ (a[i] = b[i] ∧ a.drop (i + 1) = b.drop (i + 1)) := by
      rw [List.drop_eq_getElem_cons hi1, List.drop_eq_getElem_cons hi2, List.cons.injEq]
    simp only [LS]
    simp (disch := omega) only [go_sem, doCall, doCallQ, Nat.reduceAdd, Nat.reduceMul, Nat.reduceSub, Nat.reduceDiv, Nat.reduceMod, Nat.reduceLT, Nat.reduceLeDiff, Nat.reduceEqDiff, Nat.reduceBEq, Nat.reduceBNe, Int.reduceToNat, Int.reduceLT, Int.reduceLE, Int.reduceEq, Int.reduceNe, Int.reduceAdd, Int.reduceSub, Int.reduceMul, Int.reduceNeg, u20_0, lb20_0, h, hx.is, hy.is, List.length_map, chk_of, get_eP, eP, Int.toNat_natCast, bne_dec]
    apply two_cases
    · intro h1
      simp (disch := omega) only [go_sem, doCall, doCallQ, Nat.reduceAdd, Nat.reduceMul, Nat.reduceSub, Nat.reduceDiv, Nat.reduceMod, Nat.reduceLT, Nat.reduceLeDiff, Nat.reduceEqDiff, Nat.reduceBEq, Nat.reduceBNe, Int.reduceToNat, Int.reduceLT, Int.reduceLE, Int.reduceEq, Int.reduceNe, Int.reduceAdd, Int.reduceSub, Int.reduceMul, Int.reduceNeg, h1]
      simp [e, h1]
    · intro h1
      simp (disch := omega) only [go_sem, doCall, doCallQ, Nat.reduceAdd, Nat.reduceMul, Nat.reduceSub, Nat.reduceDiv, Nat.reduceMod, Nat.reduceLT, Nat.reduceLeDiff, Nat.reduceEqDiff, Nat.reduceBEq, Nat.reduceBNe, Int.reduceToNat, Int.reduceLT, Int.reduceLE, Int.reduceEq, Int.reduceNe, Int.reduceAdd, Int.reduceSub, Int.reduceMul, Int.reduceNeg, h1, loop_step1, hw]
      have := lps a b hl hab x y hx hy n m (i + 1) (by omega)
      simp only [LS] at this
      rw [this]
      simp [e, Classical.not_not.1 h1]

theorem t20 (a b : List (Int × Int)) (hl : a.length ≤ 1000) (x y : D) (hx : Lst 2 (a.map eP) x) (hy : Lst 2 (b.map eP) y) : call ir 20 [.d x, .d y] [] = some (.d (.bool (decide (a = b))), []) := by
  rw [call_eq (fn := ir20) rfl, evF_bnd]
  simp only [go_sem, doCall, doCallQ, Nat.reduceAdd, Nat.reduceMul, Nat.reduceSub, Nat.reduceDiv, Nat.reduceMod, Nat.reduceLT, Nat.reduceLeDiff, Nat.reduceEqDiff, Nat.reduceBEq, Nat.reduceBNe, Int.reduceToNat, Int.reduceLT, Int.reduceLE, Int.reduceEq, Int.reduceNe, Int.reduceAdd, Int.reduceSub, Int.reduceMul, Int.reduceNeg, bd20, hx.len, hy.len, List.length_map]
  apply two_cases
  · intro h
    simp only [go_sem, doCall, doCallQ, Nat.reduceAdd, Nat.reduceMul, Nat.reduceSub, Nat.reduceDiv, Nat.reduceMod, Nat.reduceLT, Nat.reduceLeDiff, Nat.reduceEqDiff, Nat.reduceBEq, Nat.reduceBNe, Int.reduceToNat, Int.reduceLT, Int.reduceLE, Int.reduceEq, Int.reduceNe, Int.reduceAdd, Int.reduceSub, Int.reduceMul, Int.reduceNeg, h]
    have : a ≠ b := fun e => h (by rw [e])
    simp [this]
  · intro h
    simp only [go_sem, doCall, doCallQ, Nat.reduceAdd, Nat.reduceMul, Nat.reduceSub, Nat.reduceDiv, Nat.reduceMod, Nat.reduceLT, Nat.reduceLeDiff, Nat.reduceEqDiff, Nat.reduceBEq, Nat.reduceBNe, Int.reduceToNat, Int.reduceLT, Int.reduceLE, Int.reduceEq, Int.reduceNe, Int.reduceAdd, Int.reduceSub, Int.reduceMul, Int.reduceNeg, h, hx.len, hy.len, List.length_map, loop_step1]
    have := lps a b hl (by omega) x y hx hy 0 a.length 0 (by omega)
    simp only [LS, List.drop_zero] at this
    exact this

def dP (r : List (Int × Int)) : D := if r = [] then .nils else .list 2 (r.map eP)
theorem dP_lst (r : List (Int × Int)) : Lst 2 (r.map eP) (dP r) := by
  unfold dP; split
  · rename_i h; subst h; exact Lst.nil
  · exact Lst.mk
theorem q_acc {f : FuncId} {a1 a2 : D} {r : List (Int × Int)} (h : call ir f [.d a1, .d a2] [] = some (accV r, accH r)) (H : Heap) : doCall (call ir) f [.d a1, .d a2] 2 H = some (.d (dP r), H) := by
  by_cases h0 : r = []
  · subst h0
    simp only [go_sem, doCall, doCallQ, Nat.reduceAdd, Nat.reduceMul, Nat.reduceSub, Nat.reduceDiv, Nat.reduceMod, Nat.reduceLT, Nat.reduceLeDiff, Nat.reduceEqDiff, Nat.reduceBEq, Nat.reduceBNe, Int.reduceToNat, Int.reduceLT, Int.reduceLE, Int.reduceEq, Int.reduceNe, Int.reduceAdd, Int.reduceSub, Int.reduceMul, Int.reduceNeg, h, accV, accH, dP]
  · have hv : accV r = .own 0 2 0 r.length false := if_neg h0
    have hh : accH r = [.arr 2 (r.map eP)] := if_neg h0
    have hd : dP r = .list 2 (r.map eP) := if_neg h0
    rw [hv, hh] at h
    simp only [go_sem, doCall, doCallQ, Nat.reduceAdd, Nat.reduceMul, Nat.reduceSub, Nat.reduceDiv, Nat.reduceMod, Nat.reduceLT, Nat.reduceLeDiff, Nat.reduceEqDiff, Nat.reduceBEq, Nat.reduceBNe, Int.reduceToNat, Int.reduceLT, Int.reduceLE, Int.reduceEq, Int.reduceNe, Int.reduceAdd, Int.reduceSub, Int.reduceMul, Int.reduceNeg, h, hd, List.length_map, Nat.zero_add, Nat.le_refl, List.drop_zero]
    simp [List.take_of_length_le]

theorem add1_eq {n : Int} (hn : 1 ≤ n ∧ n ≤ 4611686018427387903) (x : Sp) : add1 n x = add1r n x := by
  by_cases h : SpecR x.1 x.2.1 x.2.2
  · have e : one3 x.1 x.2.1 x.2.2 n = one3r x.1 x.2.1 x.2.2 n := by
      obtain ⟨k, a, b⟩ := x
      unfold SpecR at h
      simp only [one3, one3r] at h ⊢
      have h1 : wr .i64 (n - 1) = n - 1 := wr_id (by omega)
      rw [h1]
      rcases h with ⟨h0, ⟨rfl, h2, h3⟩ | ⟨rfl, h2, h3⟩ | ⟨rfl, h2, h3⟩⟩
      · simp
        by_cases hb : b < n - 1
        · rw [if_pos hb, Int.min_eq_left (by omega)]
        · rw [if_neg hb, Int.min_eq_right (by omega), wr_id (by omega)]; omega
      · simp
      · simp
        by_cases hb : a < n
        · rw [if_pos hb, Int.min_eq_left (by omega)]
        · rw [if_neg hb, Int.min_eq_right (by omega), wr_id (by omega)]; omega
    unfold add1 add1r; rw [e]
  · rw [add1r_no h]; unfold add1; rw [if_neg (fun hh => h hh.1)]
theorem res_eq (l : List Sp) (n : Int) : res l n = resr l n := by
  unfold res resr
  split
  · rename_i h; congr 1; funext x; exact add1_eq h x
  · rfl

noncomputable abbrev LF (k : Ex → St → Option (AV × Heap)) (s0 : AV) (n : Int) (y : D) (len : Nat) (i : Nat) : Option (AV × Heap) :=
  bnd (evC (call ir) (loop ir) lp5_0 (st5_0 0 s0 (.d (.int .i64 n)) (.d y) (.d y) (.d (.int .i64 len)) (.d (.int .i64 i)) [])) (lpC (call ir) (loop ir) [0, 1, 5, 16, 17, 18] lp5_0 k)
theorem lpf (l : List Sp) (x : D) (q : List (Int × Int)) (hl : q.length ≤ 1000) (n : Int) (hq : ∀ p ∈ q, 0 ≤ p.1 ∧ p.1 < p.2 ∧ p.2 ≤ n) (y : D) (hy : Lst 2 (q.map eP) y) (k : Ex → St → Option (AV × Heap)) : ∀ (m i : Nat), i + m = q.length →
    LF k (.d x) n y q.length i = k (.exit 0) (clean [0, 1, 5] (st5_0 0 (.d x) (.d (.int .i64 n)) (.d y) (.d y) (.d (.int .i64 q.length)) (.d (.int .i64 q.length)) []))
  | 0, i, hi => by
    have : i = q.length := by omega
    subst this
    simp only [LF]
    simp (disch := omega) only [go_sem, doCall, doCallQ, Nat.reduceAdd, Nat.reduceMul, Nat.reduceSub, Nat.reduceDiv, Nat.reduceMod, Nat.reduceLT, Nat.reduceLeDiff, Nat.reduceEqDiff, Nat.reduceBEq, Nat.reduceBNe, Int.reduceToNat, Int.reduceLT, Int.reduceLE, Int.reduceEq, Int.reduceNe, Int.reduceAdd, Int.reduceSub, Int.reduceMul, Int.reduceNeg, u5_0, lb5_0, Int.lt_irrefl]
  | m + 1, i, hi => by
    have hi1 : i < q.length := by omega
    have hw : wr .i64 ((i : Int) + 1) = ((i + 1 : Nat) : Int) := by rw [wr_id (by omega)]; omega
    have h : (i : Int) < (q.length : Int) := by omega
    obtain ⟨h1, h2, h3⟩ := hq q[i] (List.getElem_mem hi1)
    have g1 : ¬ q[i].1 < 0 := by omega
    have g2 : ¬ q[i].2 ≤ q[i].1 := by omega
    have g3 : ¬ n < q[i].2 := by omega
    simp only [LF]
    simp (disch := omega) only [go_sem, doCall, doCallQ, Nat.reduceAdd, Nat.reduceMul, Nat.reduceSub, Nat.reduceDiv, Nat.reduceMod, Nat.reduceLT, Nat.reduceLeDiff, Nat.reduceEqDiff, Nat.reduceBEq, Nat.reduceBNe, Int.reduceToNat, Int.reduceLT, Int.reduceLE, Int.reduceEq, Int.reduceNe, Int.reduceAdd, Int.reduceSub, Int.reduceMul, Int.reduceNeg, u5_0, lb5_0, h, hy.is, List.length_map, chk_of, get_eP, eP, Int.toNat_natCast, g1, g2, g3]
    rw [loop_step1]
    simp only [go_sem, doCall, doCallQ, Nat.reduceAdd, Nat.reduceMul, Nat.reduceSub, Nat.reduceDiv, Nat.reduceMod, Nat.reduceLT, Nat.reduceLeDiff, Nat.reduceEqDiff, Nat.reduceBEq, Nat.reduceBNe, Int.reduceToNat, Int.reduceLT, Int.reduceLE, Int.reduceEq, Int.reduceNe, Int.reduceAdd, Int.reduceSub, Int.reduceMul, Int.reduceNeg, hw]
    have := lpf l x q hl n hq y hy k m (i + 1) (by omega)
    simp only [LF] at this
    exact this

theorem res_ok {l : List Sp} {n : Int} : ∀ p ∈ res l n, 0 ≤ p.1 ∧ p.1 < p.2 ∧ p.2 ≤ n := by
  intro p hp
  unfold res at hp
  split at hp
  · rename_i hn
    obtain ⟨x, hx, hp⟩ := List.mem_flatMap.1 hp
    unfold add1 at hp
    split at hp
    · rename_i h
      simp only [List.mem_singleton] at hp
      subst hp
      refine ⟨h.2.1, h.2.2.1, ?_⟩
      have h1 : wr .i64 (n - 1) = n - 1 := wr_id (by omega)
      obtain ⟨hs, _⟩ := h
      unfold SpecR at hs
      unfold one3
      rw [h1]
      split
      · exact Int.le_refl n
      · split
        · simp only
          rw [wr_id (by omega)]; omega
        · exact Int.le_refl n
    · simp at hp
  · simp at hp

theorem res_len (l : List Sp) (n : Int) : (res l n).length ≤ l.length := by
  unfold res; split
  · induction l with
    | nil => simp
    | cons x l ih =>
      have : (add1 n x).length ≤ 1 := by unfold add1; split <;> simp
      simp only [List.flatMap_cons, List.length_append, List.length_cons]; omega
  · simp
theorem t5 (l : List Sp) (hb : l.length ≤ 9223372036854775807) (x : D) (hx : Lst 3 (l.map eS) x) (n : Int) : call ir 5 [.d x, .d (.int .i64 n)] [] = some (.d (.bool true), []) := by
  rw [call_eq (fn := ir5) rfl, evF_bnd]
  simp only [go_sem, doCall, doCallQ, Nat.reduceAdd, Nat.reduceMul, Nat.reduceSub, Nat.reduceDiv, Nat.reduceMod, Nat.reduceLT, Nat.reduceLeDiff, Nat.reduceEqDiff, Nat.reduceBEq, Nat.reduceBNe, Int.reduceToNat, Int.reduceLT, Int.reduceLE, Int.reduceEq, Int.reduceNe, Int.reduceAdd, Int.reduceSub, Int.reduceMul, Int.reduceNeg, bd5, t18, hx.len, List.length_map]
  apply two_cases
  · intro h
    simp only [go_sem, doCall, doCallQ, Nat.reduceAdd, Nat.reduceMul, Nat.reduceSub, Nat.reduceDiv, Nat.reduceMod, Nat.reduceLT, Nat.reduceLeDiff, Nat.reduceEqDiff, Nat.reduceBEq, Nat.reduceBNe, Int.reduceToNat, Int.reduceLT, Int.reduceLE, Int.reduceEq, Int.reduceNe, Int.reduceAdd, Int.reduceSub, Int.reduceMul, Int.reduceNeg, h]
  · intro h
    have hl : l.length ≤ 1000 := by omega
    have hy := dP_lst (res l n)
    simp only [go_sem, Nat.reduceAdd, Nat.reduceMul, Nat.reduceSub, Nat.reduceDiv, Nat.reduceMod, Nat.reduceLT, Nat.reduceLeDiff, Nat.reduceEqDiff, Nat.reduceBEq, Nat.reduceBNe, Int.reduceToNat, Int.reduceLT, Int.reduceLE, Int.reduceEq, Int.reduceNe, Int.reduceAdd, Int.reduceSub, Int.reduceMul, Int.reduceNeg, h, q_acc (t19 l hl x hx n), hy.len, List.length_map]
    rw [loop_step1]
    simp only [go_sem, doCall, doCallQ, Nat.reduceAdd, Nat.reduceMul, Nat.reduceSub, Nat.reduceDiv, Nat.reduceMod, Nat.reduceLT, Nat.reduceLeDiff, Nat.reduceEqDiff, Nat.reduceBEq, Nat.reduceBNe, Int.reduceToNat, Int.reduceLT, Int.reduceLE, Int.reduceEq, Int.reduceNe, Int.reduceAdd, Int.reduceSub, Int.reduceMul, Int.reduceNeg]
    have hr := res_len l n
    refine Eq.trans (lpf l x (res l n) (by omega) n res_ok (dP (res l n)) hy _ (res l n).length 0 (by omega)) ?_
    simp only [go_sem, Nat.reduceAdd, Nat.reduceMul, Nat.reduceSub, Nat.reduceDiv, Nat.reduceMod, Nat.reduceLT, Nat.reduceLeDiff, Nat.reduceEqDiff, Nat.reduceBEq, Nat.reduceBNe, Int.reduceToNat, Int.reduceLT, Int.reduceLE, Int.reduceEq, Int.reduceNe, Int.reduceAdd, Int.reduceSub, Int.reduceMul, Int.reduceNeg, q_acc (t21 l hl x hx n)]
    have e := t20 (res l n) (resr l n) (by omega) _ _ hy (dP_lst _)
    rw [decide_eq_true (res_eq l n)] at e
    simp only [go_sem, doCall, doCallQ, Nat.reduceAdd, Nat.reduceMul, Nat.reduceSub, Nat.reduceDiv, Nat.reduceMod, Nat.reduceLT, Nat.reduceLeDiff, Nat.reduceEqDiff, Nat.reduceBEq, Nat.reduceBNe, Int.reduceToNat, Int.reduceLT, Int.reduceLE, Int.reduceEq, Int.reduceNe, Int.reduceAdd, Int.reduceSub, Int.reduceMul, Int.reduceNeg, e]
