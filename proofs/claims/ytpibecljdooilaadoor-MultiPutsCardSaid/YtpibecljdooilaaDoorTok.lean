/- Tokens: what the functions do. Own work. -/
import Derived.Test.YtpibecljdooilaaDoorIrP
import Derived.Test.YtpibecljdooilaaDoorAbb
namespace Go.Proofs.YtpibecljdooilaaDoor
open Go Go.Ev Go.Proofs.YtpibecljdooilaaDoor.Ir
set_option maxRecDepth 100000
set_option maxHeartbeats 4000000
set_option linter.unusedSimpArgs false
set_option linter.unusedVariables false
def marks : List UInt8 := [33, 35, 36, 37, 38, 39, 42, 43, 45, 46, 94, 95, 124, 126]
def digB (b : UInt8) : Bool := decide (48 ≤ b.toNat) && decide (b.toNat ≤ 57)
def okB (b : UInt8) : Bool := digB b || (decide (97 ≤ b.toNat) && decide (b.toNat ≤ 122)) || (decide (65 ≤ b.toNat) && decide (b.toNat ≤ 90)) || decide (b.toNat = 96)
def anyK (b : UInt8) : List UInt8 → Bool
  | [] => false
  | m :: l => if m = b then true else anyK b l
/-- A byte of a token. -/
def tokB (b : UInt8) : Bool := okB b || anyK b marks
def chkPart (n : Nat) : Bool := match callN ir 9 94 [.d (.int .u8 n)] [] with
  | some (.d (.bool b), []) => b == tokB (UInt8.ofNat n)
  | _ => false
theorem chkPart_all : ((List.range 256).all chkPart) = true := by kernel_rfl
theorem chkPart_inv {n : Nat} (h : chkPart n = true) : callN ir 9 94 [.d (.int .u8 n)] [] = some (dT (tokB (UInt8.ofNat n)), []) := by
  unfold chkPart at h
  split at h
  · rename_i b hb
    rw [hb]
    have : b = tokB (UInt8.ofNat n) := by simpa using h
    rw [this]
  · simp at h
theorem t_part (b : UInt8) : call ir 94 [dB b] [] = some (dT (tokB b), []) := by
  have h := chkPart_inv (List.all_eq_true.1 chkPart_all b.toNat (List.mem_range.2 b.toNat_lt))
  rw [UInt8.ofNat_toNat] at h
  exact call_of h
def allT (s : List UInt8) : Bool := s.all tokB
theorem allT_drop {s : List UInt8} {i : Nat} (hi : i < s.length) : allT (s.drop i) = (tokB s[i] && allT (s.drop (i + 1))) := by
  unfold allT; rw [List.drop_eq_getElem_cons hi]; rfl
theorem lp_token (s : List UInt8) (hs : s.length ≤ 1000000000) (k : Ex → St → Option (AV × Heap)) (i : Nat) (hi : i ≤ s.length) :
    (bnd (evC (call ir) (loop ir) lp65_0 (st65_0 0 (dS s) (dI s.length) (dI i) [])) (lpC (call ir) (loop ir) [0, 5, 6] lp65_0 k)) = (if allT (s.drop i) then k (.exit 0) (clean [0] (st65_0 0 (dS s) .unk .unk []))
      else k .ret (clean [2] ⟨0, [.unk, .unk, dT false, .unk, .unk, .unk, .unk, .unk, .unk, .unk, .unk, .unk, .unk, .unk, .unk, .unk, .unk], []⟩)) := by
  by_cases h : i = s.length
  · have hx : ¬ (i : Int) < s.length := by omega
    rw [h] at hx
    rw [h, List.drop_length]
    simp only [allT, List.all_nil, if_true]
    simp (maxSteps := 2000000) (disch := omega) only [go_sem, doCall, doCallQ, Nat.reduceAdd, Nat.reduceMul, Nat.reduceSub, Nat.reduceDiv, Nat.reduceMod, Nat.reduceLT, Nat.reduceLeDiff, Nat.reduceEqDiff, Nat.reduceBEq, Nat.reduceBNe, Int.reduceToNat, Int.reduceLT, Int.reduceLE, Int.reduceEq, Int.reduceNe, Int.reduceAdd, Int.reduceSub, Int.reduceMul, Int.reduceNeg, u65_0, lb65_0, hx]
  · have hlt : (i : Int) < s.length := by omega
    have hi' : i < s.length := by omega
    have hw := wr_succ (i := i) (by omega)
    have hg := g8 hi'
    have h1 := t_part s[i]
    rw [allT_drop hi']
    cases hd : tokB s[i]
    · rw [hd] at h1
      rw [if_neg (by simp)]
      simp (maxSteps := 2000000) (disch := omega) only [go_sem, doCall, doCallQ, Nat.reduceAdd, Nat.reduceMul, Nat.reduceSub, Nat.reduceDiv, Nat.reduceMod, Nat.reduceLT, Nat.reduceLeDiff, Nat.reduceEqDiff, Nat.reduceBEq, Nat.reduceBNe, Int.reduceToNat, Int.reduceLT, Int.reduceLE, Int.reduceEq, Int.reduceNe, Int.reduceAdd, Int.reduceSub, Int.reduceMul, Int.reduceNeg, u65_0, lb65_0, hlt, hi', hw, hg, h1, Int.natCast_nonneg, Int.toNat_natCast, Option.getD_some, Option.getD_none, List.drop_zero, Nat.sub_zero, Nat.zero_le, true_and, and_true, Nat.le_refl, chk_of]
    · rw [hd] at h1
      rw [Bool.true_and]
      have ih := lp_token s hs k (i + 1) (by omega)
      simp (maxSteps := 2000000) (disch := omega) only [go_sem, doCall, doCallQ, Nat.reduceAdd, Nat.reduceMul, Nat.reduceSub, Nat.reduceDiv, Nat.reduceMod, Nat.reduceLT, Nat.reduceLeDiff, Nat.reduceEqDiff, Nat.reduceBEq, Nat.reduceBNe, Int.reduceToNat, Int.reduceLT, Int.reduceLE, Int.reduceEq, Int.reduceNe, Int.reduceAdd, Int.reduceSub, Int.reduceMul, Int.reduceNeg, u65_0, lb65_0, hlt, hi', hw, hg, h1, Int.natCast_nonneg, Int.toNat_natCast, Option.getD_some, Option.getD_none, List.drop_zero, Nat.sub_zero, Nat.zero_le, true_and, and_true, Nat.le_refl, chk_of]
      rw [loop_step1]; simp (maxSteps := 2000000) only [go_sem, doCall, doCallQ, Nat.reduceAdd, Nat.reduceMul, Nat.reduceSub, Nat.reduceDiv, Nat.reduceMod, Nat.reduceLT, Nat.reduceLeDiff, Nat.reduceEqDiff, Nat.reduceBEq, Nat.reduceBNe, Int.reduceToNat, Int.reduceLT, Int.reduceLE, Int.reduceEq, Int.reduceNe, Int.reduceAdd, Int.reduceSub, Int.reduceMul, Int.reduceNeg]; exact ih
termination_by s.length - i
def isTok (s : List UInt8) : Bool := allT s && decide (s ≠ [])
theorem t_token (s : List UInt8) (hs : s.length ≤ 1000000000) : call ir 65 [dS s] [] = some (dT (isTok s), []) := by
  rw [call_eq (fn := ir65) rfl, evF_bnd]
  simp (maxSteps := 2000000) (disch := omega) only [go_sem, doCall, doCallQ, Nat.reduceAdd, Nat.reduceMul, Nat.reduceSub, Nat.reduceDiv, Nat.reduceMod, Nat.reduceLT, Nat.reduceLeDiff, Nat.reduceEqDiff, Nat.reduceBEq, Nat.reduceBNe, Int.reduceToNat, Int.reduceLT, Int.reduceLE, Int.reduceEq, Int.reduceNe, Int.reduceAdd, Int.reduceSub, Int.reduceMul, Int.reduceNeg, bd65]
  rw [loop_step1]; simp (maxSteps := 2000000) only [go_sem, doCall, doCallQ, Nat.reduceAdd, Nat.reduceMul, Nat.reduceSub, Nat.reduceDiv, Nat.reduceMod, Nat.reduceLT, Nat.reduceLeDiff, Nat.reduceEqDiff, Nat.reduceBEq, Nat.reduceBNe, Int.reduceToNat, Int.reduceLT, Int.reduceLE, Int.reduceEq, Int.reduceNe, Int.reduceAdd, Int.reduceSub, Int.reduceMul, Int.reduceNeg]
  refine Eq.trans (lp_token s hs _ 0 (by omega)) ?_
  rw [List.drop_zero]
  unfold isTok
  cases allT s
  · simp only [Bool.false_eq_true, if_false, Bool.false_and]; simp (maxSteps := 2000000) only [go_sem, doCall, doCallQ, Nat.reduceAdd, Nat.reduceMul, Nat.reduceSub, Nat.reduceDiv, Nat.reduceMod, Nat.reduceLT, Nat.reduceLeDiff, Nat.reduceEqDiff, Nat.reduceBEq, Nat.reduceBNe, Int.reduceToNat, Int.reduceLT, Int.reduceLE, Int.reduceEq, Int.reduceNe, Int.reduceAdd, Int.reduceSub, Int.reduceMul, Int.reduceNeg]
  · simp only [if_true, Bool.true_and]
    by_cases h : s = []
    · have h' := eq_true h
      rw [decide_eq_false (fun hh => hh h)]
      simp (maxSteps := 2000000) only [go_sem, doCall, doCallQ, Nat.reduceAdd, Nat.reduceMul, Nat.reduceSub, Nat.reduceDiv, Nat.reduceMod, Nat.reduceLT, Nat.reduceLeDiff, Nat.reduceEqDiff, Nat.reduceBEq, Nat.reduceBNe, Int.reduceToNat, Int.reduceLT, Int.reduceLE, Int.reduceEq, Int.reduceNe, Int.reduceAdd, Int.reduceSub, Int.reduceMul, Int.reduceNeg, h']
    · rw [decide_eq_true h]
      simp (maxSteps := 2000000) only [go_sem, doCall, doCallQ, Nat.reduceAdd, Nat.reduceMul, Nat.reduceSub, Nat.reduceDiv, Nat.reduceMod, Nat.reduceLT, Nat.reduceLeDiff, Nat.reduceEqDiff, Nat.reduceBEq, Nat.reduceBNe, Int.reduceToNat, Int.reduceLT, Int.reduceLE, Int.reduceEq, Int.reduceNe, Int.reduceAdd, Int.reduceSub, Int.reduceMul, Int.reduceNeg, h]
theorem t_may (s : List UInt8) (hs : s.length ≤ 1000000000) : call ir 33 [dS s] [] = some (dT (isTok s && decide (s.length ≤ 40)), []) := by
  rw [call_eq (fn := ir33) rfl, evF_bnd]
  have h := t_token s hs
  cases ht : isTok s
  · rw [ht] at h
    rw [Bool.false_and]
    simp (maxSteps := 2000000) (disch := omega) only [go_sem, doCall, doCallQ, Nat.reduceAdd, Nat.reduceMul, Nat.reduceSub, Nat.reduceDiv, Nat.reduceMod, Nat.reduceLT, Nat.reduceLeDiff, Nat.reduceEqDiff, Nat.reduceBEq, Nat.reduceBNe, Int.reduceToNat, Int.reduceLT, Int.reduceLE, Int.reduceEq, Int.reduceNe, Int.reduceAdd, Int.reduceSub, Int.reduceMul, Int.reduceNeg, bd33, h]
  · rw [ht] at h
    rw [Bool.true_and]
    simp (maxSteps := 2000000) (disch := omega) only [go_sem, doCall, doCallQ, Nat.reduceAdd, Nat.reduceMul, Nat.reduceSub, Nat.reduceDiv, Nat.reduceMod, Nat.reduceLT, Nat.reduceLeDiff, Nat.reduceEqDiff, Nat.reduceBEq, Nat.reduceBNe, Int.reduceToNat, Int.reduceLT, Int.reduceLE, Int.reduceEq, Int.reduceNe, Int.reduceAdd, Int.reduceSub, Int.reduceMul, Int.reduceNeg, bd33, h]
    apply dec_eq; omega
end Go.Proofs.YtpibecljdooilaaDoor
