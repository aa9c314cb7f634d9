/- Lines: what the functions do. Own work. -/
import Derived.Test.YtefcgdcmhhgfgaaDec
namespace Go.Proofs.Ytefcgdcmhhgfgaa
open Go Go.Ev Go.Proofs.Ytefcgdcmhhgfgaa.Ir
set_option maxRecDepth 100000
set_option maxHeartbeats 4000000
set_option linter.unusedSimpArgs false
set_option linter.unusedVariables false
theorem lp_llarge (k : Ex → St → Option (AV × Heap)) (u : Nat) (s : List UInt8) (hu : u ≤ 18446744073709551615) (q : Nat) (hq : u < 10 ^ (q + 1)) (hs : s.length + q ≤ 40) :
    bnd (evC (call ir) (loop ir) lp33_0 (st33_0 0 (.d (.int .u64 u)) (.d (.str s)) [])) (lpC (call ir) (loop ir) [0, 3] lp33_0 k) =
      k (.exit 0) (clean [3] (st33_0 0 (.d (.int .u64 0)) (.d (.str ((if u < 10 then [] else decs (u / 10)) ++ s))) [])) := by
  by_cases h : u < 10
  · have hx : ¬ (10 : Int) ≤ u := by omega
    rw [if_pos h]
    simp (disch := omega) only [go_sem, doCall, doCallQ, Nat.reduceAdd, Nat.reduceMul, Nat.reduceSub, Nat.reduceDiv, Nat.reduceMod, Nat.reduceLT, Nat.reduceLeDiff, Nat.reduceEqDiff, Nat.reduceBEq, Nat.reduceBNe, Int.reduceToNat, Int.reduceLT, Int.reduceLE, Int.reduceEq, Int.reduceNe, Int.reduceAdd, Int.reduceSub, Int.reduceMul, Int.reduceNeg, u33_0, lb33_0, hx]
  · have hx : (10 : Int) ≤ u := by omega
    rw [if_neg h]
    have hd := dg_val (u / 10)
    have hq10 := quo10 u hu
    cases q with
    | zero => simp at hq; omega
    | succ q =>
      have ih := lp_llarge k (u / 10) (dg (u / 10) :: s) (by omega) q (by rw [Nat.pow_succ] at hq; omega) (by simp; omega)
      have e : (if u / 10 < 10 then [] else decs (u / 10 / 10)) ++ dg (u / 10) :: s = decs (u / 10) ++ s := by
        by_cases h2 : u / 10 < 10
        · rw [if_pos h2, decs_lt h2]; simp
        · rw [if_neg h2, decs_ge h2]; simp
      rw [e] at ih
      simp (disch := omega) only [go_sem, doCall, doCallQ, Nat.reduceAdd, Nat.reduceMul, Nat.reduceSub, Nat.reduceDiv, Nat.reduceMod, Nat.reduceLT, Nat.reduceLeDiff, Nat.reduceEqDiff, Nat.reduceBEq, Nat.reduceBNe, Int.reduceToNat, Int.reduceLT, Int.reduceLE, Int.reduceEq, Int.reduceNe, Int.reduceAdd, Int.reduceSub, Int.reduceMul, Int.reduceNeg, u33_0, lb33_0, hx, hq10, hd, b2s_dg, List.length_cons, List.length_nil, chk_of]
      rw [loop_step1]
      simp only [go_sem, doCall, doCallQ, Nat.reduceAdd, Nat.reduceMul, Nat.reduceSub, Nat.reduceDiv, Nat.reduceMod, Nat.reduceLT, Nat.reduceLeDiff, Nat.reduceEqDiff, Nat.reduceBEq, Nat.reduceBNe, Int.reduceToNat, Int.reduceLT, Int.reduceLE, Int.reduceEq, Int.reduceNe, Int.reduceAdd, Int.reduceSub, Int.reduceMul, Int.reduceNeg]
      simp only [go_sem, doCall, doCallQ, Nat.reduceAdd, Nat.reduceMul, Nat.reduceSub, Nat.reduceDiv, Nat.reduceMod, Nat.reduceLT, Nat.reduceLeDiff, Nat.reduceEqDiff, Nat.reduceBEq, Nat.reduceBNe, Int.reduceToNat, Int.reduceLT, Int.reduceLE, Int.reduceEq, Int.reduceNe, Int.reduceAdd, Int.reduceSub, Int.reduceMul, Int.reduceNeg] at ih
      exact ih
theorem t_llarge (u : Nat) (hu : u ≤ 18446744073709551615) : call ir 33 [.d (.int .u64 u)] [] = some (.d (.str (decs u)), []) := by
  rw [call_eq (fn := ir33) rfl, evF_bnd]
  have hd := dg_val u
  simp (disch := omega) only [go_sem, doCall, doCallQ, Nat.reduceAdd, Nat.reduceMul, Nat.reduceSub, Nat.reduceDiv, Nat.reduceMod, Nat.reduceLT, Nat.reduceLeDiff, Nat.reduceEqDiff, Nat.reduceBEq, Nat.reduceBNe, Int.reduceToNat, Int.reduceLT, Int.reduceLE, Int.reduceEq, Int.reduceNe, Int.reduceAdd, Int.reduceSub, Int.reduceMul, Int.reduceNeg, bd33, hd, b2s_dg]
  rw [loop_step1]
  simp only [go_sem, doCall, doCallQ, Nat.reduceAdd, Nat.reduceMul, Nat.reduceSub, Nat.reduceDiv, Nat.reduceMod, Nat.reduceLT, Nat.reduceLeDiff, Nat.reduceEqDiff, Nat.reduceBEq, Nat.reduceBNe, Int.reduceToNat, Int.reduceLT, Int.reduceLE, Int.reduceEq, Int.reduceNe, Int.reduceAdd, Int.reduceSub, Int.reduceMul, Int.reduceNeg]
  refine Eq.trans (lp_llarge _ u [dg u] hu 19 (by omega) (by simp)) ?_
  have e : (if u < 10 then [] else decs (u / 10)) ++ [dg u] = decs u := by
    by_cases h : u < 10
    · rw [if_pos h, decs_lt h]; simp
    · rw [if_neg h, decs_ge h]
  rw [e]
  simp only [go_sem, doCall, doCallQ, Nat.reduceAdd, Nat.reduceMul, Nat.reduceSub, Nat.reduceDiv, Nat.reduceMod, Nat.reduceLT, Nat.reduceLeDiff, Nat.reduceEqDiff, Nat.reduceBEq, Nat.reduceBNe, Int.reduceToNat, Int.reduceLT, Int.reduceLE, Int.reduceEq, Int.reduceNe, Int.reduceAdd, Int.reduceSub, Int.reduceMul, Int.reduceNeg]

theorem t_join (l : List (List UInt8)) (sep : List UInt8) (h : joinOk l sep) : call ir 84 [.d (.list 1 (l.map fun s => [.str s])), .d (.str sep)] [] = some (.d (.str (Lib.join l sep)), []) := by
  rw [call_nat (f := 84) rfl]
  show natOr (natJoin 84) natNo 84 _ _ = _
  simp only [natOr, natJoin_eq, if_pos h]
theorem t_joined (l : List (List UInt8)) (h : joinOk l [32]) : call ir 58 [.d (.list 1 (l.map fun s => [.str s]))] [] = some (.d (.str (Lib.join l [32])), []) := by
  rw [call_eq (fn := ir58) rfl, evF_bnd]
  simp (disch := omega) only [go_sem, doCall, doCallQ, Nat.reduceAdd, Nat.reduceMul, Nat.reduceSub, Nat.reduceDiv, Nat.reduceMod, Nat.reduceLT, Nat.reduceLeDiff, Nat.reduceEqDiff, Nat.reduceBEq, Nat.reduceBNe, Int.reduceToNat, Int.reduceLT, Int.reduceLE, Int.reduceEq, Int.reduceNe, Int.reduceAdd, Int.reduceSub, Int.reduceMul, Int.reduceNeg, bd58, t_join l [32] h]
theorem t_large (u : Nat) (hu : u ≤ 18446744073709551615) : call ir 59 [.d (.int .u64 u)] [] = some (.d (.str (decs u)), []) := by
  rw [call_eq (fn := ir59) rfl, evF_bnd]
  simp (disch := omega) only [go_sem, doCall, doCallQ, Nat.reduceAdd, Nat.reduceMul, Nat.reduceSub, Nat.reduceDiv, Nat.reduceMod, Nat.reduceLT, Nat.reduceLeDiff, Nat.reduceEqDiff, Nat.reduceBEq, Nat.reduceBNe, Int.reduceToNat, Int.reduceLT, Int.reduceLE, Int.reduceEq, Int.reduceNe, Int.reduceAdd, Int.reduceSub, Int.reduceMul, Int.reduceNeg, bd59]
  apply two_cases
  · intro h
    have e : wr .i64 (u : Int) = u := wr_id (by omega)
    have hp : prn u = decs u := by rw [prn, if_neg (by omega), Int.toNat_natCast]
    simp (disch := omega) only [go_sem, doCall, doCallQ, Nat.reduceAdd, Nat.reduceMul, Nat.reduceSub, Nat.reduceDiv, Nat.reduceMod, Nat.reduceLT, Nat.reduceLeDiff, Nat.reduceEqDiff, Nat.reduceBEq, Nat.reduceBNe, Int.reduceToNat, Int.reduceLT, Int.reduceLE, Int.reduceEq, Int.reduceNe, Int.reduceAdd, Int.reduceSub, Int.reduceMul, Int.reduceNeg, h, e, t_print u (by omega), hp]
  · intro h
    have e1 := quo10 u hu
    have e2 : wr .i64 ((u / 10 : Nat) : Int) = ((u / 10 : Nat) : Int) := wr_id (by omega)
    have e3 : (u : Int).tmod 10 = ((u % 10 : Nat) : Int) := by rw [Int.tmod_eq_emod_of_nonneg (by omega)]; omega
    have e4 : wr .i64 ((u % 10 : Nat) : Int) = ((u % 10 : Nat) : Int) := wr_id (by omega)
    have p1 : prn ((u / 10 : Nat) : Int) = decs (u / 10) := by rw [prn, if_neg (by omega), Int.toNat_natCast]
    have p2 : prn ((u % 10 : Nat) : Int) = [dg u] := by
      rw [prn, if_neg (by omega), Int.toNat_natCast, decs_lt (by omega)]
      congr 1; unfold dg; congr 2; omega
    have hl := decs_len 19 (u / 10) (by omega)
    simp (disch := omega) only [go_sem, doCall, doCallQ, Nat.reduceAdd, Nat.reduceMul, Nat.reduceSub, Nat.reduceDiv, Nat.reduceMod, Nat.reduceLT, Nat.reduceLeDiff, Nat.reduceEqDiff, Nat.reduceBEq, Nat.reduceBNe, Int.reduceToNat, Int.reduceLT, Int.reduceLE, Int.reduceEq, Int.reduceNe, Int.reduceAdd, Int.reduceSub, Int.reduceMul, Int.reduceNeg, h, e1, e2, e3, e4, t_print ((u / 10 : Nat) : Int) (by omega), t_print ((u % 10 : Nat) : Int) (by omega), p1, p2, List.length_cons, List.length_nil, chk_of]
    rw [decs_ge (u := u) (by omega)]
def kindW (k : Int) : List UInt8 := if k = 1 then [104, 101, 97, 100] else if k = 2 then [98, 105, 110, 100] else if k = 3 then [112, 105, 101, 99, 101] else if k = 4 then [100, 114, 111, 112] else if k = 5 then [112, 117, 114, 103, 101] else []
theorem t_kind (k : Int) (h : 0 ≤ k ∧ k ≤ 255) : call ir 35 [.d (.int .u8 k)] [] = some (.d (.str (kindW k)), []) := by
  rw [call_eq (fn := ir35) rfl, evF_bnd]
  have e : wr .i64 k = k := wr_id (by omega)
  simp (disch := omega) only [go_sem, doCall, doCallQ, Nat.reduceAdd, Nat.reduceMul, Nat.reduceSub, Nat.reduceDiv, Nat.reduceMod, Nat.reduceLT, Nat.reduceLeDiff, Nat.reduceEqDiff, Nat.reduceBEq, Nat.reduceBNe, Int.reduceToNat, Int.reduceLT, Int.reduceLE, Int.reduceEq, Int.reduceNe, Int.reduceAdd, Int.reduceSub, Int.reduceMul, Int.reduceNeg, bd35, e]
  apply two_cases
  · intro h1
    simp (disch := omega) only [go_sem, doCall, doCallQ, Nat.reduceAdd, Nat.reduceMul, Nat.reduceSub, Nat.reduceDiv, Nat.reduceMod, Nat.reduceLT, Nat.reduceLeDiff, Nat.reduceEqDiff, Nat.reduceBEq, Nat.reduceBNe, Int.reduceToNat, Int.reduceLT, Int.reduceLE, Int.reduceEq, Int.reduceNe, Int.reduceAdd, Int.reduceSub, Int.reduceMul, Int.reduceNeg, h1]
    have e2 : kindW k = [] := by unfold kindW; repeat' (first | rw [if_neg (by omega)] | rfl)
    rw [e2]
  · intro h1
    simp (disch := omega) only [go_sem, doCall, doCallQ, Nat.reduceAdd, Nat.reduceMul, Nat.reduceSub, Nat.reduceDiv, Nat.reduceMod, Nat.reduceLT, Nat.reduceLeDiff, Nat.reduceEqDiff, Nat.reduceBEq, Nat.reduceBNe, Int.reduceToNat, Int.reduceLT, Int.reduceLE, Int.reduceEq, Int.reduceNe, Int.reduceAdd, Int.reduceSub, Int.reduceMul, Int.reduceNeg, h1, Nat.mul_one, Nat.zero_add, chk_of]
    have : k = 0 ∨ k = 1 ∨ k = 2 ∨ k = 3 ∨ k = 4 ∨ k = 5 := by omega
    rcases this with rfl | rfl | rfl | rfl | rfl | rfl <;> rfl
end Go.Proofs.Ytefcgdcmhhgfgaa
