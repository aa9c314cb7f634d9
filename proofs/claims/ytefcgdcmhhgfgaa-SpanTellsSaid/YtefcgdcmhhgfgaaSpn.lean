/- Spans: what the functions do. Own work. -/
import Derived.Test.YtefcgdcmhhgfgaaIrSp
import Derived.Test.YtefcgdcmhhgfgaaEvArg
namespace Go.Proofs.Ytefcgdcmhhgfgaa
open Go Go.Ev Go.Proofs.Ytefcgdcmhhgfgaa.Ir
set_option maxRecDepth 100000
set_option maxHeartbeats 4000000
set_option linter.unusedSimpArgs false
set_option linter.unusedVariables false
def RP (a b : Int) : Prop := 0 ≤ a ∧ a < b ∧ b ≤ 4611686018427387903
instance (a b : Int) : Decidable (RP a b) := by unfold RP; infer_instance
abbrev eP (x : Int × Int) : List D := [.int .i64 x.1, .int .i64 x.2]
theorem get_eP (l : List (Int × Int)) (i : Nat) (h : i < l.length) : (l.map eP).getD i [] = eP (l[i]) := by simp [List.getD_eq_getElem?_getD, h]
theorem t_right (a b : Int) : call ir 25 [.agg [.d (.int .i64 a), .d (.int .i64 b)]] [] = some (.d (.bool (decide (RP a b))), []) := by
  rw [call_eq (fn := ir25) rfl, evF_bnd]
  simp only [go_sem, doCall, doCallQ, Nat.reduceAdd, Nat.reduceMul, Nat.reduceSub, Nat.reduceDiv, Nat.reduceMod, Nat.reduceLT, Nat.reduceLeDiff, Nat.reduceEqDiff, Nat.reduceBEq, Nat.reduceBNe, Int.reduceToNat, Int.reduceLT, Int.reduceLE, Int.reduceEq, Int.reduceNe, Int.reduceAdd, Int.reduceSub, Int.reduceMul, Int.reduceNeg, bd25]
  repeat' (apply two_cases <;> intro h <;> simp only [go_sem, doCall, doCallQ, Nat.reduceAdd, Nat.reduceMul, Nat.reduceSub, Nat.reduceDiv, Nat.reduceMod, Nat.reduceLT, Nat.reduceLeDiff, Nat.reduceEqDiff, Nat.reduceBEq, Nat.reduceBNe, Int.reduceToNat, Int.reduceLT, Int.reduceLE, Int.reduceEq, Int.reduceNe, Int.reduceAdd, Int.reduceSub, Int.reduceMul, Int.reduceNeg, h, false_and, and_false])
  all_goals first | (apply dec_eq; unfold RP; omega) | (apply dec_f; unfold RP; omega)
theorem t_rright (a b : Int) : call ir 22 [.agg [.d (.int .i64 a), .d (.int .i64 b)]] [] = some (.d (.bool (decide (RP a b))), []) := by
  rw [call_eq (fn := ir22) rfl, evF_bnd]
  simp only [go_sem, doCall, doCallQ, Nat.reduceAdd, Nat.reduceMul, Nat.reduceSub, Nat.reduceDiv, Nat.reduceMod, Nat.reduceLT, Nat.reduceLeDiff, Nat.reduceEqDiff, Nat.reduceBEq, Nat.reduceBNe, Int.reduceToNat, Int.reduceLT, Int.reduceLE, Int.reduceEq, Int.reduceNe, Int.reduceAdd, Int.reduceSub, Int.reduceMul, Int.reduceNeg, bd22]
  repeat' (apply two_cases <;> intro h <;> simp only [go_sem, doCall, doCallQ, Nat.reduceAdd, Nat.reduceMul, Nat.reduceSub, Nat.reduceDiv, Nat.reduceMod, Nat.reduceLT, Nat.reduceLeDiff, Nat.reduceEqDiff, Nat.reduceBEq, Nat.reduceBNe, Int.reduceToNat, Int.reduceLT, Int.reduceLE, Int.reduceEq, Int.reduceNe, Int.reduceAdd, Int.reduceSub, Int.reduceMul, Int.reduceNeg, h, false_and, and_false])
  all_goals first | (apply dec_eq; unfold RP; omega) | (apply dec_f; unfold RP; omega)
theorem t_fits (a l h : Int) : call ir 48 [.d (.int .i64 a), .d (.int .i64 l), .d (.int .i64 h)] [] = some (.d (.bool (decide (l ≤ a ∧ a ≤ h))), []) := by
  rw [call_eq (fn := ir48) rfl, evF_bnd]
  simp only [go_sem, doCall, doCallQ, Nat.reduceAdd, Nat.reduceMul, Nat.reduceSub, Nat.reduceDiv, Nat.reduceMod, Nat.reduceLT, Nat.reduceLeDiff, Nat.reduceEqDiff, Nat.reduceBEq, Nat.reduceBNe, Int.reduceToNat, Int.reduceLT, Int.reduceLE, Int.reduceEq, Int.reduceNe, Int.reduceAdd, Int.reduceSub, Int.reduceMul, Int.reduceNeg, bd48]
  repeat' (apply two_cases <;> intro h <;> simp only [go_sem, doCall, doCallQ, Nat.reduceAdd, Nat.reduceMul, Nat.reduceSub, Nat.reduceDiv, Nat.reduceMod, Nat.reduceLT, Nat.reduceLeDiff, Nat.reduceEqDiff, Nat.reduceBEq, Nat.reduceBNe, Int.reduceToNat, Int.reduceLT, Int.reduceLE, Int.reduceEq, Int.reduceNe, Int.reduceAdd, Int.reduceSub, Int.reduceMul, Int.reduceNeg, h, false_and, and_false])
def slen (a b : Int) : Int := if RP a b then b - a else 0
theorem t_len (a b : Int) : call ir 26 [.agg [.d (.int .i64 a), .d (.int .i64 b)]] [] = some (.d (.int .i64 (slen a b)), []) := by
  rw [call_eq (fn := ir26) rfl, evF_bnd]
  simp only [go_sem, doCall, doCallQ, Nat.reduceAdd, Nat.reduceMul, Nat.reduceSub, Nat.reduceDiv, Nat.reduceMod, Nat.reduceLT, Nat.reduceLeDiff, Nat.reduceEqDiff, Nat.reduceBEq, Nat.reduceBNe, Int.reduceToNat, Int.reduceLT, Int.reduceLE, Int.reduceEq, Int.reduceNe, Int.reduceAdd, Int.reduceSub, Int.reduceMul, Int.reduceNeg, bd26, t_right]
  apply two_cases
  · intro h; simp only [go_sem, doCall, doCallQ, Nat.reduceAdd, Nat.reduceMul, Nat.reduceSub, Nat.reduceDiv, Nat.reduceMod, Nat.reduceLT, Nat.reduceLeDiff, Nat.reduceEqDiff, Nat.reduceBEq, Nat.reduceBNe, Int.reduceToNat, Int.reduceLT, Int.reduceLE, Int.reduceEq, Int.reduceNe, Int.reduceAdd, Int.reduceSub, Int.reduceMul, Int.reduceNeg, h]; simp only [slen, if_neg h]
  · intro h; simp only [go_sem, doCall, doCallQ, Nat.reduceAdd, Nat.reduceMul, Nat.reduceSub, Nat.reduceDiv, Nat.reduceMod, Nat.reduceLT, Nat.reduceLeDiff, Nat.reduceEqDiff, Nat.reduceBEq, Nat.reduceBNe, Int.reduceToNat, Int.reduceLT, Int.reduceLE, Int.reduceEq, Int.reduceNe, Int.reduceAdd, Int.reduceSub, Int.reduceMul, Int.reduceNeg, h]
    have h' := Classical.not_not.1 h
    simp only [slen, if_pos h']
    unfold RP at h'
    rw [wr_id (by omega)]
def nadd (a b : Int) : Int × Int := if (0 ≤ a ∧ a ≤ 4611686018427387903) ∧ (0 ≤ b ∧ b ≤ 4611686018427387903) then (if a + b ≤ 4611686018427387903 then (a + b, 0) else (0, 9)) else (0, 1)
theorem t_add (a b : Int) : call ir 52 [.d (.int .i64 a), .d (.int .i64 b)] [] = some (.tup [.d (.int .i64 (nadd a b).1), .d (.int .i64 (nadd a b).2)], []) := by
  rw [call_eq (fn := ir52) rfl, evF_bnd]
  simp only [go_sem, doCall, doCallQ, Nat.reduceAdd, Nat.reduceMul, Nat.reduceSub, Nat.reduceDiv, Nat.reduceMod, Nat.reduceLT, Nat.reduceLeDiff, Nat.reduceEqDiff, Nat.reduceBEq, Nat.reduceBNe, Int.reduceToNat, Int.reduceLT, Int.reduceLE, Int.reduceEq, Int.reduceNe, Int.reduceAdd, Int.reduceSub, Int.reduceMul, Int.reduceNeg, bd52, t_fits]
  apply two_cases
  · intro h; simp only [go_sem, doCall, doCallQ, Nat.reduceAdd, Nat.reduceMul, Nat.reduceSub, Nat.reduceDiv, Nat.reduceMod, Nat.reduceLT, Nat.reduceLeDiff, Nat.reduceEqDiff, Nat.reduceBEq, Nat.reduceBNe, Int.reduceToNat, Int.reduceLT, Int.reduceLE, Int.reduceEq, Int.reduceNe, Int.reduceAdd, Int.reduceSub, Int.reduceMul, Int.reduceNeg, h]; rw [nadd, if_neg (fun hh => h hh.1)]
  · intro h; simp only [go_sem, doCall, doCallQ, Nat.reduceAdd, Nat.reduceMul, Nat.reduceSub, Nat.reduceDiv, Nat.reduceMod, Nat.reduceLT, Nat.reduceLeDiff, Nat.reduceEqDiff, Nat.reduceBEq, Nat.reduceBNe, Int.reduceToNat, Int.reduceLT, Int.reduceLE, Int.reduceEq, Int.reduceNe, Int.reduceAdd, Int.reduceSub, Int.reduceMul, Int.reduceNeg, h, t_fits]
    apply two_cases
    · intro h2; simp only [go_sem, doCall, doCallQ, Nat.reduceAdd, Nat.reduceMul, Nat.reduceSub, Nat.reduceDiv, Nat.reduceMod, Nat.reduceLT, Nat.reduceLeDiff, Nat.reduceEqDiff, Nat.reduceBEq, Nat.reduceBNe, Int.reduceToNat, Int.reduceLT, Int.reduceLE, Int.reduceEq, Int.reduceNe, Int.reduceAdd, Int.reduceSub, Int.reduceMul, Int.reduceNeg, h2]; rw [nadd, if_neg (fun hh => h2 hh.2)]
    · intro h2; simp only [go_sem, doCall, doCallQ, Nat.reduceAdd, Nat.reduceMul, Nat.reduceSub, Nat.reduceDiv, Nat.reduceMod, Nat.reduceLT, Nat.reduceLeDiff, Nat.reduceEqDiff, Nat.reduceBEq, Nat.reduceBNe, Int.reduceToNat, Int.reduceLT, Int.reduceLE, Int.reduceEq, Int.reduceNe, Int.reduceAdd, Int.reduceSub, Int.reduceMul, Int.reduceNeg, h2]
      have h' := Classical.not_not.1 h
      have h2' := Classical.not_not.1 h2
      rw [wr_id (by omega)]
      apply two_cases
      · intro h3; simp only [go_sem, doCall, doCallQ, Nat.reduceAdd, Nat.reduceMul, Nat.reduceSub, Nat.reduceDiv, Nat.reduceMod, Nat.reduceLT, Nat.reduceLeDiff, Nat.reduceEqDiff, Nat.reduceBEq, Nat.reduceBNe, Int.reduceToNat, Int.reduceLT, Int.reduceLE, Int.reduceEq, Int.reduceNe, Int.reduceAdd, Int.reduceSub, Int.reduceMul, Int.reduceNeg, h3]; rw [nadd, if_pos ⟨h', h2'⟩, if_neg (by omega)]
      · intro h3; simp only [go_sem, doCall, doCallQ, Nat.reduceAdd, Nat.reduceMul, Nat.reduceSub, Nat.reduceDiv, Nat.reduceMod, Nat.reduceLT, Nat.reduceLeDiff, Nat.reduceEqDiff, Nat.reduceBEq, Nat.reduceBNe, Int.reduceToNat, Int.reduceLT, Int.reduceLE, Int.reduceEq, Int.reduceNe, Int.reduceAdd, Int.reduceSub, Int.reduceMul, Int.reduceNeg, h3]; rw [nadd, if_pos ⟨h', h2'⟩, if_pos (by omega), wr_id (by omega)]
/-- All together, at most 4611686018427387903. -/
def tot (l : List (Int × Int)) : Int := (l.map fun x => slen x.1 x.2).sum
theorem slen_nn (a b : Int) : 0 ≤ slen a b ∧ slen a b ≤ 4611686018427387903 := by
  unfold slen; split
  · rename_i h; unfold RP at h; omega
  · omega
theorem tot_nn : ∀ l, 0 ≤ tot l
  | [] => by simp [tot]
  | x :: l => by have := tot_nn l; have := slen_nn x.1 x.2; simp only [tot, List.map_cons, List.sum_cons] at *; omega
theorem tot_drop (l : List (Int × Int)) (i : Nat) (h : i < l.length) : tot (l.drop i) = slen l[i].1 l[i].2 + tot (l.drop (i + 1)) := by
  rw [List.drop_eq_getElem_cons h]; simp only [tot, List.map_cons, List.sum_cons]
theorem lp_total (l : List (Int × Int)) (hl : l.length ≤ 1000) (c : Int) (hc : 0 ≤ c ∧ c ≤ 4611686018427387903) (i : Nat) (hi : i ≤ l.length) :
    bnd (evC (call ir) (loop ir) lp27_0 (st27_0 0 (.d (.int .i64 c)) (.d (.list 2 (l.map eP))) (.d (.int .i64 l.length)) (.d (.int .i64 i)) [])) (lpC (call ir) (loop ir) [3, 8, 9, 10] lp27_0 (bk 0 (sq (call ir) (loop ir) (.seq (.reg [⟨some 25, none, .mv (.s 3), .none⟩, ⟨some 2, none, .mv (.s 25), .none⟩]) (.ret none)) (fin ir27)))) =
      some (.d (.int .i64 (min 4611686018427387903 (c + tot (l.drop i)))), []) := by
  by_cases h : i = l.length
  · have hx : ¬ (i : Int) < l.length := by omega
    simp (disch := omega) only [go_sem, doCall, doCallQ, Nat.reduceAdd, Nat.reduceMul, Nat.reduceSub, Nat.reduceDiv, Nat.reduceMod, Nat.reduceLT, Nat.reduceLeDiff, Nat.reduceEqDiff, Nat.reduceBEq, Nat.reduceBNe, Int.reduceToNat, Int.reduceLT, Int.reduceLE, Int.reduceEq, Int.reduceNe, Int.reduceAdd, Int.reduceSub, Int.reduceMul, Int.reduceNeg, u27_0, lb27_0, hx]
    rw [h]
    simp only [List.drop_length, tot, List.map_nil, List.sum_nil, Int.add_zero]
    rw [Int.min_eq_right hc.2]
  · have hlt : (i : Int) < l.length := by omega
    have hi' : i < l.length := by omega
    have hw := wr_succ (i := i) (by omega)
    have hs := slen_nn l[i].1 l[i].2
    have ht := tot_nn (l.drop (i + 1))
    have hd := tot_drop l i hi'
    simp (disch := omega) only [go_sem, doCall, doCallQ, Nat.reduceAdd, Nat.reduceMul, Nat.reduceSub, Nat.reduceDiv, Nat.reduceMod, Nat.reduceLT, Nat.reduceLeDiff, Nat.reduceEqDiff, Nat.reduceBEq, Nat.reduceBNe, Int.reduceToNat, Int.reduceLT, Int.reduceLE, Int.reduceEq, Int.reduceNe, Int.reduceAdd, Int.reduceSub, Int.reduceMul, Int.reduceNeg, u27_0, lb27_0, hlt, Int.toNat_natCast, get_eP, t_len, t_add, chk_of]
    by_cases h1 : c + slen l[i].1 l[i].2 ≤ 4611686018427387903
    · have e : nadd c (slen l[i].1 l[i].2) = (c + slen l[i].1 l[i].2, 0) := by rw [nadd, if_pos (by omega), if_pos h1]
      rw [e]
      simp only [go_sem, doCall, doCallQ, Nat.reduceAdd, Nat.reduceMul, Nat.reduceSub, Nat.reduceDiv, Nat.reduceMod, Nat.reduceLT, Nat.reduceLeDiff, Nat.reduceEqDiff, Nat.reduceBEq, Nat.reduceBNe, Int.reduceToNat, Int.reduceLT, Int.reduceLE, Int.reduceEq, Int.reduceNe, Int.reduceAdd, Int.reduceSub, Int.reduceMul, Int.reduceNeg]
      rw [loop_step1]
      simp only [go_sem, doCall, doCallQ, Nat.reduceAdd, Nat.reduceMul, Nat.reduceSub, Nat.reduceDiv, Nat.reduceMod, Nat.reduceLT, Nat.reduceLeDiff, Nat.reduceEqDiff, Nat.reduceBEq, Nat.reduceBNe, Int.reduceToNat, Int.reduceLT, Int.reduceLE, Int.reduceEq, Int.reduceNe, Int.reduceAdd, Int.reduceSub, Int.reduceMul, Int.reduceNeg, hw]
      have := lp_total l hl (c + slen l[i].1 l[i].2) (by omega) (i + 1) (by omega)
      rw [hd, ← Int.add_assoc, ← this]
    · have e : nadd c (slen l[i].1 l[i].2) = (0, 9) := by rw [nadd, if_pos (by omega), if_neg h1]
      rw [e]
      simp only [go_sem, doCall, doCallQ, Nat.reduceAdd, Nat.reduceMul, Nat.reduceSub, Nat.reduceDiv, Nat.reduceMod, Nat.reduceLT, Nat.reduceLeDiff, Nat.reduceEqDiff, Nat.reduceBEq, Nat.reduceBNe, Int.reduceToNat, Int.reduceLT, Int.reduceLE, Int.reduceEq, Int.reduceNe, Int.reduceAdd, Int.reduceSub, Int.reduceMul, Int.reduceNeg]
      rw [hd, Int.min_eq_left (by omega)]
termination_by l.length - i
theorem t_total (l : List (Int × Int)) (hl : l.length ≤ 1000) : call ir 27 [.d (.list 2 (l.map eP))] [] = some (.d (.int .i64 (min 4611686018427387903 (tot l))), []) := by
  rw [call_eq (fn := ir27) rfl, evF_bnd]
  simp only [go_sem, doCall, doCallQ, Nat.reduceAdd, Nat.reduceMul, Nat.reduceSub, Nat.reduceDiv, Nat.reduceMod, Nat.reduceLT, Nat.reduceLeDiff, Nat.reduceEqDiff, Nat.reduceBEq, Nat.reduceBNe, Int.reduceToNat, Int.reduceLT, Int.reduceLE, Int.reduceEq, Int.reduceNe, Int.reduceAdd, Int.reduceSub, Int.reduceMul, Int.reduceNeg, bd27]
  rw [loop_step1]
  simp only [go_sem, doCall, doCallQ, Nat.reduceAdd, Nat.reduceMul, Nat.reduceSub, Nat.reduceDiv, Nat.reduceMod, Nat.reduceLT, Nat.reduceLeDiff, Nat.reduceEqDiff, Nat.reduceBEq, Nat.reduceBNe, Int.reduceToNat, Int.reduceLT, Int.reduceLE, Int.reduceEq, Int.reduceNe, Int.reduceAdd, Int.reduceSub, Int.reduceMul, Int.reduceNeg]
  have := lp_total l hl 0 (by omega) 0 (by omega)
  rw [List.drop_zero, Int.zero_add] at this
  exact this

/-- What two have in common. -/
def meet (a b : Int × Int) : Int × Int := if RP a.1 a.2 ∧ RP b.1 b.2 ∧ RP (max a.1 b.1) (min a.2 b.2) then (max a.1 b.1, min a.2 b.2) else (0, 0)
def meets (a b : Int × Int) : Prop := RP a.1 a.2 ∧ RP b.1 b.2 ∧ RP (max a.1 b.1) (min a.2 b.2)
instance (a b : Int × Int) : Decidable (meets a b) := by unfold meets; infer_instance
abbrev vP (x : Int × Int) : AV := .agg [.d (.int .i64 x.1), .d (.int .i64 x.2)]
theorem t_meet (a b : Int × Int) : call ir 23 [vP a, vP b] [] = some (.tup [vP (meet a b), .d (.bool (decide (meets a b)))], []) := by
  rw [call_eq (fn := ir23) rfl, evF_bnd]
  simp only [go_sem, doCall, doCallQ, Nat.reduceAdd, Nat.reduceMul, Nat.reduceSub, Nat.reduceDiv, Nat.reduceMod, Nat.reduceLT, Nat.reduceLeDiff, Nat.reduceEqDiff, Nat.reduceBEq, Nat.reduceBNe, Int.reduceToNat, Int.reduceLT, Int.reduceLE, Int.reduceEq, Int.reduceNe, Int.reduceAdd, Int.reduceSub, Int.reduceMul, Int.reduceNeg, bd23, t_right]
  repeat' (apply two_cases <;> intro h <;> simp only [go_sem, doCall, doCallQ, Nat.reduceAdd, Nat.reduceMul, Nat.reduceSub, Nat.reduceDiv, Nat.reduceMod, Nat.reduceLT, Nat.reduceLeDiff, Nat.reduceEqDiff, Nat.reduceBEq, Nat.reduceBNe, Int.reduceToNat, Int.reduceLT, Int.reduceLE, Int.reduceEq, Int.reduceNe, Int.reduceAdd, Int.reduceSub, Int.reduceMul, Int.reduceNeg, h, t_right])
  all_goals
    first
    | (rw [meet, if_neg (fun hh => by simp_all), decide_eq_false (fun hh : meets a b => by unfold meets at hh; simp_all)]; done)
    | (rw [meet, if_pos (by simp_all), decide_eq_true (show meets a b by unfold meets; simp_all)]; done)
    | trace_state
theorem meet_eq {a b : Int × Int} {lo hi : Int} (h1 : RP a.1 a.2) (h2 : RP b.1 b.2) (h3 : RP lo hi) (e1 : max a.1 b.1 = lo) (e2 : min a.2 b.2 = hi) : meet a b = (lo, hi) := by
  subst e1; subst e2; exact if_pos ⟨h1, h2, h3⟩
theorem t_rmeet (a b : Int × Int) : call ir 24 [vP a, vP b] [] = some (vP (meet a b), []) := by
  rw [call_eq (fn := ir24) rfl, evF_bnd]
  simp only [go_sem, doCall, doCallQ, Nat.reduceAdd, Nat.reduceMul, Nat.reduceSub, Nat.reduceDiv, Nat.reduceMod, Nat.reduceLT, Nat.reduceLeDiff, Nat.reduceEqDiff, Nat.reduceBEq, Nat.reduceBNe, Int.reduceToNat, Int.reduceLT, Int.reduceLE, Int.reduceEq, Int.reduceNe, Int.reduceAdd, Int.reduceSub, Int.reduceMul, Int.reduceNeg, bd24, t_rright]
  repeat' (apply two_cases <;> intro h <;> simp only [go_sem, doCall, doCallQ, Nat.reduceAdd, Nat.reduceMul, Nat.reduceSub, Nat.reduceDiv, Nat.reduceMod, Nat.reduceLT, Nat.reduceLeDiff, Nat.reduceEqDiff, Nat.reduceBEq, Nat.reduceBNe, Int.reduceToNat, Int.reduceLT, Int.reduceLE, Int.reduceEq, Int.reduceNe, Int.reduceAdd, Int.reduceSub, Int.reduceMul, Int.reduceNeg, h, t_rright])
  all_goals
    first
    | (rw [meet, if_neg (fun hh => by unfold RP at *; omega)]; done)
    | (simp only [Classical.not_not] at *; rw [show meet a b = (b.1, b.2) from meet_eq (by assumption) (by assumption) (by unfold RP at *; omega) (by omega) (by omega)]; done)
    | (simp only [Classical.not_not] at *; rw [show meet a b = (b.1, a.2) from meet_eq (by assumption) (by assumption) (by unfold RP at *; omega) (by omega) (by omega)]; done)
    | (simp only [Classical.not_not] at *; rw [show meet a b = (a.1, b.2) from meet_eq (by assumption) (by assumption) (by unfold RP at *; omega) (by omega) (by omega)]; done)
    | (simp only [Classical.not_not] at *; rw [show meet a b = (a.1, a.2) from meet_eq (by assumption) (by assumption) (by unfold RP at *; omega) (by omega) (by omega)]; done)
    | trace_state
/-- Whether a byte is in one. -/
def isIn (at' : Int) (s : Int × Int) : Prop := RP s.1 s.2 ∧ s.1 ≤ at' ∧ at' < s.2
instance (at' : Int) (s : Int × Int) : Decidable (isIn at' s) := by unfold isIn; infer_instance
theorem t_has1 (s : Int × Int) (at' : Int) : call ir 54 [vP s, .ptr 0 0] [.dbox [.int .i64 at']] = some (.d (.bool (decide (isIn at' s))), [.dbox [.int .i64 at']]) := by
  rw [call_eq (fn := ir54) rfl, evF_bnd]
  simp only [go_sem, doCall, doCallQ, Nat.reduceAdd, Nat.reduceMul, Nat.reduceSub, Nat.reduceDiv, Nat.reduceMod, Nat.reduceLT, Nat.reduceLeDiff, Nat.reduceEqDiff, Nat.reduceBEq, Nat.reduceBNe, Int.reduceToNat, Int.reduceLT, Int.reduceLE, Int.reduceEq, Int.reduceNe, Int.reduceAdd, Int.reduceSub, Int.reduceMul, Int.reduceNeg, bd54, t_right]
  repeat' (apply two_cases <;> intro h <;> simp only [go_sem, doCall, doCallQ, Nat.reduceAdd, Nat.reduceMul, Nat.reduceSub, Nat.reduceDiv, Nat.reduceMod, Nat.reduceLT, Nat.reduceLeDiff, Nat.reduceEqDiff, Nat.reduceBEq, Nat.reduceBNe, Int.reduceToNat, Int.reduceLT, Int.reduceLE, Int.reduceEq, Int.reduceNe, Int.reduceAdd, Int.reduceSub, Int.reduceMul, Int.reduceNeg, h, t_right])
  all_goals unfold RP at *
  all_goals first | (apply dec_eq; unfold isIn RP; omega) | (apply dec_f; unfold isIn RP; omega) | trace_state
def hasb (l : List (Int × Int)) (at' : Int) : Bool := l.any fun s => decide (isIn at' s)
theorem hasb_drop (l : List (Int × Int)) (at' : Int) (i : Nat) (h : i < l.length) : hasb (l.drop i) at' = (decide (isIn at' l[i]) || hasb (l.drop (i + 1)) at') := by
  rw [List.drop_eq_getElem_cons h]; rfl
theorem lp_rhas (l : List (Int × Int)) (hl : l.length ≤ 1000) (at' : Int) (i : Nat) (hi : i ≤ l.length) :
    bnd (evC (call ir) (loop ir) lp29_0 (st29_0 0 (.d (.int .i64 at')) (.d (.list 2 (l.map eP))) (.d (.int .i64 l.length)) (.d (.int .i64 i)) [])) (lpC (call ir) (loop ir) [1, 7, 8, 9] lp29_0 (bk 0 (sq (call ir) (loop ir) (.seq (.reg [⟨some 4, none, .mv (.c (.d (.bool false))), .none⟩]) (.ret none)) (fin ir29)))) =
      some (.d (.bool (hasb (l.drop i) at')), []) := by
  by_cases h : i = l.length
  · have hx : ¬ (i : Int) < l.length := by omega
    simp (disch := omega) only [go_sem, doCall, doCallQ, Nat.reduceAdd, Nat.reduceMul, Nat.reduceSub, Nat.reduceDiv, Nat.reduceMod, Nat.reduceLT, Nat.reduceLeDiff, Nat.reduceEqDiff, Nat.reduceBEq, Nat.reduceBNe, Int.reduceToNat, Int.reduceLT, Int.reduceLE, Int.reduceEq, Int.reduceNe, Int.reduceAdd, Int.reduceSub, Int.reduceMul, Int.reduceNeg, u29_0, lb29_0, hx]
    rw [h, List.drop_length]; rfl
  · have hlt : (i : Int) < l.length := by omega
    have hi' : i < l.length := by omega
    have hw := wr_succ (i := i) (by omega)
    have ih := lp_rhas l hl at' (i + 1) (by omega)
    rw [hasb_drop l at' i hi']
    simp (disch := omega) only [go_sem, doCall, doCallQ, Nat.reduceAdd, Nat.reduceMul, Nat.reduceSub, Nat.reduceDiv, Nat.reduceMod, Nat.reduceLT, Nat.reduceLeDiff, Nat.reduceEqDiff, Nat.reduceBEq, Nat.reduceBNe, Int.reduceToNat, Int.reduceLT, Int.reduceLE, Int.reduceEq, Int.reduceNe, Int.reduceAdd, Int.reduceSub, Int.reduceMul, Int.reduceNeg, u29_0, lb29_0, hlt, Int.toNat_natCast, get_eP, t_rright, chk_of]
    by_cases hin : isIn at' l[i]
    · obtain ⟨q1, q2, q3⟩ := hin
      simp only [go_sem, doCall, doCallQ, Nat.reduceAdd, Nat.reduceMul, Nat.reduceSub, Nat.reduceDiv, Nat.reduceMod, Nat.reduceLT, Nat.reduceLeDiff, Nat.reduceEqDiff, Nat.reduceBEq, Nat.reduceBNe, Int.reduceToNat, Int.reduceLT, Int.reduceLE, Int.reduceEq, Int.reduceNe, Int.reduceAdd, Int.reduceSub, Int.reduceMul, Int.reduceNeg, q1, q2, q3]
      rw [decide_eq_true (show isIn at' l[i] from ⟨q1, q2, q3⟩)]; rfl
    · rw [decide_eq_false hin, Bool.false_or, ← ih]
      unfold isIn at hin
      repeat' (apply two_cases <;> intro h <;> simp only [go_sem, doCall, doCallQ, Nat.reduceAdd, Nat.reduceMul, Nat.reduceSub, Nat.reduceDiv, Nat.reduceMod, Nat.reduceLT, Nat.reduceLeDiff, Nat.reduceEqDiff, Nat.reduceBEq, Nat.reduceBNe, Int.reduceToNat, Int.reduceLT, Int.reduceLE, Int.reduceEq, Int.reduceNe, Int.reduceAdd, Int.reduceSub, Int.reduceMul, Int.reduceNeg, h])
      all_goals first
        | (rw [loop_step1]; simp only [go_sem, doCall, doCallQ, Nat.reduceAdd, Nat.reduceMul, Nat.reduceSub, Nat.reduceDiv, Nat.reduceMod, Nat.reduceLT, Nat.reduceLeDiff, Nat.reduceEqDiff, Nat.reduceBEq, Nat.reduceBNe, Int.reduceToNat, Int.reduceLT, Int.reduceLE, Int.reduceEq, Int.reduceNe, Int.reduceAdd, Int.reduceSub, Int.reduceMul, Int.reduceNeg, hw]; done)
        | (exfalso; unfold RP at *; omega)
termination_by l.length - i
theorem t_rhas (l : List (Int × Int)) (hl : l.length ≤ 1000) (at' : Int) : call ir 29 [.d (.list 2 (l.map eP)), .d (.int .i64 at')] [] = some (.d (.bool (hasb l at')), []) := by
  rw [call_eq (fn := ir29) rfl, evF_bnd]
  simp only [go_sem, doCall, doCallQ, Nat.reduceAdd, Nat.reduceMul, Nat.reduceSub, Nat.reduceDiv, Nat.reduceMod, Nat.reduceLT, Nat.reduceLeDiff, Nat.reduceEqDiff, Nat.reduceBEq, Nat.reduceBNe, Int.reduceToNat, Int.reduceLT, Int.reduceLE, Int.reduceEq, Int.reduceNe, Int.reduceAdd, Int.reduceSub, Int.reduceMul, Int.reduceNeg, bd29]
  rw [loop_step1]
  simp only [go_sem, doCall, doCallQ, Nat.reduceAdd, Nat.reduceMul, Nat.reduceSub, Nat.reduceDiv, Nat.reduceMod, Nat.reduceLT, Nat.reduceLeDiff, Nat.reduceEqDiff, Nat.reduceBEq, Nat.reduceBNe, Int.reduceToNat, Int.reduceLT, Int.reduceLE, Int.reduceEq, Int.reduceNe, Int.reduceAdd, Int.reduceSub, Int.reduceMul, Int.reduceNeg]
  have := lp_rhas l hl at' 0 (by omega)
  rw [List.drop_zero] at this
  exact this
abbrev clo1 : AV := .clo (.func 54) [] [.ptr 0 0]
theorem lp_idx (l : List (Int × Int)) (hl : l.length ≤ 1000) (at' : Int) (i : Nat) (hi : i ≤ l.length) :
    ∃ r : Int, bnd (evC (call ir) (loop ir) lp82_0 (st82_0 1 (.d (.list 2 (l.map eP))) clo1 (.d (.int .i64 l.length)) (.d (.int .i64 i)) [.dbox [.int .i64 at']])) (lpC (call ir) (loop ir) [0, 1, 7, 8] lp82_0 (bk 0 (sq (call ir) (loop ir) (.seq (.reg [⟨some 4, none, .mv (.c (.d (.int .i64 (-1)))), .none⟩]) (.ret none)) (fin ir82)))) =
      some (.d (.int .i64 r), [.dbox [.int .i64 at']]) ∧ decide (0 ≤ r) = hasb (l.drop i) at' := by
  by_cases h : i = l.length
  · have hx : ¬ (i : Int) < l.length := by omega
    refine ⟨-1, ?_, by rw [h, List.drop_length]; rfl⟩
    simp (disch := omega) only [go_sem, doCall, doCallQ, Nat.reduceAdd, Nat.reduceMul, Nat.reduceSub, Nat.reduceDiv, Nat.reduceMod, Nat.reduceLT, Nat.reduceLeDiff, Nat.reduceEqDiff, Nat.reduceBEq, Nat.reduceBNe, Int.reduceToNat, Int.reduceLT, Int.reduceLE, Int.reduceEq, Int.reduceNe, Int.reduceAdd, Int.reduceSub, Int.reduceMul, Int.reduceNeg, u82_0, lb82_0, hx]
  · have hlt : (i : Int) < l.length := by omega
    have hi' : i < l.length := by omega
    have hw := wr_succ (i := i) (by omega)
    obtain ⟨r, ih, hr⟩ := lp_idx l hl at' (i + 1) (by omega)
    by_cases hin : isIn at' l[i]
    · refine ⟨i, ?_, by rw [hasb_drop l at' i hi', decide_eq_true hin, decide_eq_true (by omega)]; rfl⟩
      simp (disch := omega) only [go_sem, doCall, doCallQ, Nat.reduceAdd, Nat.reduceMul, Nat.reduceSub, Nat.reduceDiv, Nat.reduceMod, Nat.reduceLT, Nat.reduceLeDiff, Nat.reduceEqDiff, Nat.reduceBEq, Nat.reduceBNe, Int.reduceToNat, Int.reduceLT, Int.reduceLE, Int.reduceEq, Int.reduceNe, Int.reduceAdd, Int.reduceSub, Int.reduceMul, Int.reduceNeg, u82_0, lb82_0, hlt, Int.toNat_natCast, get_eP, t_has1, hin, chk_of]
    · refine ⟨r, ?_, by rw [hr, hasb_drop l at' i hi', decide_eq_false hin, Bool.false_or]⟩
      simp (disch := omega) only [go_sem, doCall, doCallQ, Nat.reduceAdd, Nat.reduceMul, Nat.reduceSub, Nat.reduceDiv, Nat.reduceMod, Nat.reduceLT, Nat.reduceLeDiff, Nat.reduceEqDiff, Nat.reduceBEq, Nat.reduceBNe, Int.reduceToNat, Int.reduceLT, Int.reduceLE, Int.reduceEq, Int.reduceNe, Int.reduceAdd, Int.reduceSub, Int.reduceMul, Int.reduceNeg, u82_0, lb82_0, hlt, Int.toNat_natCast, get_eP, t_has1, hin, chk_of]
      rw [loop_step1]
      simp only [go_sem, doCall, doCallQ, Nat.reduceAdd, Nat.reduceMul, Nat.reduceSub, Nat.reduceDiv, Nat.reduceMod, Nat.reduceLT, Nat.reduceLeDiff, Nat.reduceEqDiff, Nat.reduceBEq, Nat.reduceBNe, Int.reduceToNat, Int.reduceLT, Int.reduceLE, Int.reduceEq, Int.reduceNe, Int.reduceAdd, Int.reduceSub, Int.reduceMul, Int.reduceNeg, hw]
      exact ih
termination_by l.length - i
theorem t_has (l : List (Int × Int)) (hl : l.length ≤ 1000) (at' : Int) : call ir 28 [.d (.list 2 (l.map eP)), .d (.int .i64 at')] [] = some (.d (.bool (hasb l at')), []) := by
  obtain ⟨r, h1, h2⟩ := lp_idx l hl at' 0 (by omega)
  rw [List.drop_zero] at h2
  have hi : call ir 82 [.d (.list 2 (l.map eP)), clo1] [.dbox [.int .i64 at']] = some (.d (.int .i64 r), [.dbox [.int .i64 at']]) := by
    rw [call_eq (fn := ir82) rfl, evF_bnd]
    simp only [go_sem, doCall, doCallQ, Nat.reduceAdd, Nat.reduceMul, Nat.reduceSub, Nat.reduceDiv, Nat.reduceMod, Nat.reduceLT, Nat.reduceLeDiff, Nat.reduceEqDiff, Nat.reduceBEq, Nat.reduceBNe, Int.reduceToNat, Int.reduceLT, Int.reduceLE, Int.reduceEq, Int.reduceNe, Int.reduceAdd, Int.reduceSub, Int.reduceMul, Int.reduceNeg, bd82]
    rw [loop_step1]
    simp only [go_sem, doCall, doCallQ, Nat.reduceAdd, Nat.reduceMul, Nat.reduceSub, Nat.reduceDiv, Nat.reduceMod, Nat.reduceLT, Nat.reduceLeDiff, Nat.reduceEqDiff, Nat.reduceBEq, Nat.reduceBNe, Int.reduceToNat, Int.reduceLT, Int.reduceLE, Int.reduceEq, Int.reduceNe, Int.reduceAdd, Int.reduceSub, Int.reduceMul, Int.reduceNeg]
    exact h1
  have hc : call ir 53 [.d (.list 2 (l.map eP)), clo1] [.dbox [.int .i64 at']] = some (.d (.bool (hasb l at')), [.dbox [.int .i64 at']]) := by
    rw [call_eq (fn := ir53) rfl, evF_bnd]
    simp only [go_sem, doCall, doCallQ, Nat.reduceAdd, Nat.reduceMul, Nat.reduceSub, Nat.reduceDiv, Nat.reduceMod, Nat.reduceLT, Nat.reduceLeDiff, Nat.reduceEqDiff, Nat.reduceBEq, Nat.reduceBNe, Int.reduceToNat, Int.reduceLT, Int.reduceLE, Int.reduceEq, Int.reduceNe, Int.reduceAdd, Int.reduceSub, Int.reduceMul, Int.reduceNeg, bd53, hi, h2]
  rw [call_eq (fn := ir28) rfl, evF_bnd]
  simp only [go_sem, doCall, doCallQ, Nat.reduceAdd, Nat.reduceMul, Nat.reduceSub, Nat.reduceDiv, Nat.reduceMod, Nat.reduceLT, Nat.reduceLeDiff, Nat.reduceEqDiff, Nat.reduceBEq, Nat.reduceBNe, Int.reduceToNat, Int.reduceLT, Int.reduceLE, Int.reduceEq, Int.reduceNe, Int.reduceAdd, Int.reduceSub, Int.reduceMul, Int.reduceNeg, bd28, hc]
/-- Right, and behind the one ahead. -/
def okA (l : List (Int × Int)) (i : Nat) : Prop := RP (l.getD i (0, 0)).1 (l.getD i (0, 0)).2 ∧ (i = 0 ∨ (l.getD (i - 1) (0, 0)).2 < (l.getD i (0, 0)).1)
instance (l : List (Int × Int)) (i : Nat) : Decidable (okA l i) := by unfold okA; infer_instance
def apTo (l : List (Int × Int)) (i : Nat) : Bool := (List.range i).all fun j => decide (okA l j)
theorem apTo_succ (l : List (Int × Int)) (i : Nat) : apTo l (i + 1) = (apTo l i && decide (okA l i)) := by
  simp [apTo, List.range_succ]
theorem apTo_false {l : List (Int × Int)} {i n : Nat} (hi : i < n) (h : ¬ okA l i) : apTo l n = false := by
  rw [← Bool.not_eq_true]
  intro hh
  exact h (of_decide_eq_true (List.all_eq_true.1 hh i (by simpa using hi)))
theorem getD_of {l : List (Int × Int)} {i : Nat} (h : i < l.length) : l.getD i (0, 0) = l[i] := by simp [List.getD_eq_getElem?_getD, h]
theorem wr_pred {i : Nat} (h : 0 < i) (h2 : i < 9223372036854775807) : wr .i64 ((i : Int) - 1) = ((i - 1 : Nat) : Int) := by rw [wr_id (by omega)]; omega
theorem lp_apart (l : List (Int × Int)) (hl : l.length ≤ 1000) (i : Nat) (hi : i ≤ l.length) (ha : apTo l i = true) :
    bnd (evC (call ir) (loop ir) lp30_0 (st30_0 0 (.d (.list 2 (l.map eP))) (.d (.list 2 (l.map eP))) (.d (.int .i64 l.length)) (.d (.int .i64 i)) [])) (lpC (call ir) (loop ir) [0, 5, 6, 7] lp30_0 (bk 0 (sq (call ir) (loop ir) (.seq (.reg [⟨some 2, none, .mv (.c (.d (.bool true))), .none⟩]) (.ret none)) (fin ir30)))) =
      some (.d (.bool (apTo l l.length)), []) := by
  by_cases h : i = l.length
  · have hx : ¬ (i : Int) < l.length := by omega
    simp (disch := omega) only [go_sem, doCall, doCallQ, Nat.reduceAdd, Nat.reduceMul, Nat.reduceSub, Nat.reduceDiv, Nat.reduceMod, Nat.reduceLT, Nat.reduceLeDiff, Nat.reduceEqDiff, Nat.reduceBEq, Nat.reduceBNe, Int.reduceToNat, Int.reduceLT, Int.reduceLE, Int.reduceEq, Int.reduceNe, Int.reduceAdd, Int.reduceSub, Int.reduceMul, Int.reduceNeg, u30_0, lb30_0, hx]
    rw [← h, ha]
  · have hlt : (i : Int) < l.length := by omega
    have hi' : i < l.length := by omega
    have hw := wr_succ (i := i) (by omega)
    by_cases hok : okA l i
    · have ih := lp_apart l hl (i + 1) (by omega) (by rw [apTo_succ, ha, decide_eq_true hok]; rfl)
      have hr := hok.1
      rw [getD_of hi'] at hr
      by_cases h0 : i = 0
      · have hz : ¬ (0 : Int) < i := by omega
        simp (disch := omega) only [go_sem, doCall, doCallQ, Nat.reduceAdd, Nat.reduceMul, Nat.reduceSub, Nat.reduceDiv, Nat.reduceMod, Nat.reduceLT, Nat.reduceLeDiff, Nat.reduceEqDiff, Nat.reduceBEq, Nat.reduceBNe, Int.reduceToNat, Int.reduceLT, Int.reduceLE, Int.reduceEq, Int.reduceNe, Int.reduceAdd, Int.reduceSub, Int.reduceMul, Int.reduceNeg, u30_0, lb30_0, hlt, Int.toNat_natCast, get_eP, t_right, hr, hz, chk_of]
        rw [loop_step1]; simp only [go_sem, doCall, doCallQ, Nat.reduceAdd, Nat.reduceMul, Nat.reduceSub, Nat.reduceDiv, Nat.reduceMod, Nat.reduceLT, Nat.reduceLeDiff, Nat.reduceEqDiff, Nat.reduceBEq, Nat.reduceBNe, Int.reduceToNat, Int.reduceLT, Int.reduceLE, Int.reduceEq, Int.reduceNe, Int.reduceAdd, Int.reduceSub, Int.reduceMul, Int.reduceNeg, hw]; exact ih
      · have hz : (0 : Int) < i := by omega
        have hp := wr_pred (i := i) (by omega) (by omega)
        have h2 := hok.2
        rw [getD_of hi', getD_of (show i - 1 < l.length by omega)] at h2
        have h3 : ¬ l[i].1 ≤ l[i - 1].2 := by omega
        simp (disch := omega) only [go_sem, doCall, doCallQ, Nat.reduceAdd, Nat.reduceMul, Nat.reduceSub, Nat.reduceDiv, Nat.reduceMod, Nat.reduceLT, Nat.reduceLeDiff, Nat.reduceEqDiff, Nat.reduceBEq, Nat.reduceBNe, Int.reduceToNat, Int.reduceLT, Int.reduceLE, Int.reduceEq, Int.reduceNe, Int.reduceAdd, Int.reduceSub, Int.reduceMul, Int.reduceNeg, u30_0, lb30_0, hlt, Int.toNat_natCast, get_eP, t_right, hr, hz, hp, h3, chk_of]
        rw [loop_step1]; simp only [go_sem, doCall, doCallQ, Nat.reduceAdd, Nat.reduceMul, Nat.reduceSub, Nat.reduceDiv, Nat.reduceMod, Nat.reduceLT, Nat.reduceLeDiff, Nat.reduceEqDiff, Nat.reduceBEq, Nat.reduceBNe, Int.reduceToNat, Int.reduceLT, Int.reduceLE, Int.reduceEq, Int.reduceNe, Int.reduceAdd, Int.reduceSub, Int.reduceMul, Int.reduceNeg, hw]; exact ih
    · rw [apTo_false (by omega) hok]
      unfold okA at hok
      rw [getD_of hi'] at hok
      by_cases hr : RP l[i].1 l[i].2
      · have h0 : ¬ i = 0 := fun h => hok ⟨hr, .inl h⟩
        have hz : (0 : Int) < i := by omega
        have hp := wr_pred (i := i) (by omega) (by omega)
        rw [getD_of (show i - 1 < l.length by omega)] at hok
        have h3 : l[i].1 ≤ l[i - 1].2 := by
          by_cases h : l[i - 1].2 < l[i].1
          · exact absurd ⟨hr, .inr h⟩ hok
          · omega
        simp (disch := omega) only [go_sem, doCall, doCallQ, Nat.reduceAdd, Nat.reduceMul, Nat.reduceSub, Nat.reduceDiv, Nat.reduceMod, Nat.reduceLT, Nat.reduceLeDiff, Nat.reduceEqDiff, Nat.reduceBEq, Nat.reduceBNe, Int.reduceToNat, Int.reduceLT, Int.reduceLE, Int.reduceEq, Int.reduceNe, Int.reduceAdd, Int.reduceSub, Int.reduceMul, Int.reduceNeg, u30_0, lb30_0, hlt, Int.toNat_natCast, get_eP, t_right, hr, hz, hp, h3, chk_of]
      · simp (disch := omega) only [go_sem, doCall, doCallQ, Nat.reduceAdd, Nat.reduceMul, Nat.reduceSub, Nat.reduceDiv, Nat.reduceMod, Nat.reduceLT, Nat.reduceLeDiff, Nat.reduceEqDiff, Nat.reduceBEq, Nat.reduceBNe, Int.reduceToNat, Int.reduceLT, Int.reduceLE, Int.reduceEq, Int.reduceNe, Int.reduceAdd, Int.reduceSub, Int.reduceMul, Int.reduceNeg, u30_0, lb30_0, hlt, Int.toNat_natCast, get_eP, t_right, hr, chk_of]
termination_by l.length - i
theorem t_apart (l : List (Int × Int)) (hl : l.length ≤ 1000) : call ir 30 [.d (.list 2 (l.map eP))] [] = some (.d (.bool (apTo l l.length)), []) := by
  rw [call_eq (fn := ir30) rfl, evF_bnd]
  simp only [go_sem, doCall, doCallQ, Nat.reduceAdd, Nat.reduceMul, Nat.reduceSub, Nat.reduceDiv, Nat.reduceMod, Nat.reduceLT, Nat.reduceLeDiff, Nat.reduceEqDiff, Nat.reduceBEq, Nat.reduceBNe, Int.reduceToNat, Int.reduceLT, Int.reduceLE, Int.reduceEq, Int.reduceNe, Int.reduceAdd, Int.reduceSub, Int.reduceMul, Int.reduceNeg, bd30]
  rw [loop_step1]
  simp only [go_sem, doCall, doCallQ, Nat.reduceAdd, Nat.reduceMul, Nat.reduceSub, Nat.reduceDiv, Nat.reduceMod, Nat.reduceLT, Nat.reduceLeDiff, Nat.reduceEqDiff, Nat.reduceBEq, Nat.reduceBNe, Int.reduceToNat, Int.reduceLT, Int.reduceLE, Int.reduceEq, Int.reduceNe, Int.reduceAdd, Int.reduceSub, Int.reduceMul, Int.reduceNeg]
  exact lp_apart l hl 0 (by omega) rfl
end Go.Proofs.Ytefcgdcmhhgfgaa
