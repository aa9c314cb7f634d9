/- Lines of moves: the law. Own work. -/
import Derived.Test.YtefcgdcmhhgfgaaTrc
namespace Go.Proofs.Ytefcgdcmhhgfgaa
open Go Go.Ev Go.Proofs.Ytefcgdcmhhgfgaa.Ir
set_option maxRecDepth 100000
set_option maxHeartbeats 4000000
set_option linter.unusedSimpArgs false
set_option linter.unusedVariables false
def phaseW (k : Int) : List UInt8 := if k = 0 then [97, 115, 107, 105, 110, 103] else if k = 1 then [112, 108, 97, 110, 110, 105, 110, 103] else if k = 2 then [102, 101, 116, 99, 104, 105, 110, 103] else if k = 3 then [101, 110, 100, 105, 110, 103] else if k = 4 then [111, 118, 101, 114] else []
theorem t_phase (k : Int) : call ir 36 [.d (.int .i64 k)] [] = some (.d (.str (phaseW k)), []) := by
  rw [call_eq (fn := ir36) rfl, evF_bnd]
  simp (disch := omega) only [go_sem, doCall, doCallQ, Nat.reduceAdd, Nat.reduceMul, Nat.reduceSub, Nat.reduceDiv, Nat.reduceMod, Nat.reduceLT, Nat.reduceLeDiff, Nat.reduceEqDiff, Nat.reduceBEq, Nat.reduceBNe, Int.reduceToNat, Int.reduceLT, Int.reduceLE, Int.reduceEq, Int.reduceNe, Int.reduceAdd, Int.reduceSub, Int.reduceMul, Int.reduceNeg, bd36]
  have hno : (k < 0 ∨ 5 ≤ k) → phaseW k = [] := fun h => by unfold phaseW; repeat' (first | rw [if_neg (by omega)] | rfl)
  apply two_cases
  · intro h1
    simp (disch := omega) only [go_sem, doCall, doCallQ, Nat.reduceAdd, Nat.reduceMul, Nat.reduceSub, Nat.reduceDiv, Nat.reduceMod, Nat.reduceLT, Nat.reduceLeDiff, Nat.reduceEqDiff, Nat.reduceBEq, Nat.reduceBNe, Int.reduceToNat, Int.reduceLT, Int.reduceLE, Int.reduceEq, Int.reduceNe, Int.reduceAdd, Int.reduceSub, Int.reduceMul, Int.reduceNeg, h1, hno (.inl h1)]
  · intro h1
    simp (disch := omega) only [go_sem, doCall, doCallQ, Nat.reduceAdd, Nat.reduceMul, Nat.reduceSub, Nat.reduceDiv, Nat.reduceMod, Nat.reduceLT, Nat.reduceLeDiff, Nat.reduceEqDiff, Nat.reduceBEq, Nat.reduceBNe, Int.reduceToNat, Int.reduceLT, Int.reduceLE, Int.reduceEq, Int.reduceNe, Int.reduceAdd, Int.reduceSub, Int.reduceMul, Int.reduceNeg, h1]
    apply two_cases
    · intro h2; simp (disch := omega) only [go_sem, doCall, doCallQ, Nat.reduceAdd, Nat.reduceMul, Nat.reduceSub, Nat.reduceDiv, Nat.reduceMod, Nat.reduceLT, Nat.reduceLeDiff, Nat.reduceEqDiff, Nat.reduceBEq, Nat.reduceBNe, Int.reduceToNat, Int.reduceLT, Int.reduceLE, Int.reduceEq, Int.reduceNe, Int.reduceAdd, Int.reduceSub, Int.reduceMul, Int.reduceNeg, h2, hno (.inr h2)]
    · intro h2
      simp (disch := omega) only [go_sem, doCall, doCallQ, Nat.reduceAdd, Nat.reduceMul, Nat.reduceSub, Nat.reduceDiv, Nat.reduceMod, Nat.reduceLT, Nat.reduceLeDiff, Nat.reduceEqDiff, Nat.reduceBEq, Nat.reduceBNe, Int.reduceToNat, Int.reduceLT, Int.reduceLE, Int.reduceEq, Int.reduceNe, Int.reduceAdd, Int.reduceSub, Int.reduceMul, Int.reduceNeg, h2, Nat.mul_one, Nat.zero_add, chk_of]
      have : k = 0 ∨ k = 1 ∨ k = 2 ∨ k = 3 ∨ k = 4 := by omega
      rcases this with rfl | rfl | rfl | rfl | rfl <;> rfl
def wordW (k : Int) : List UInt8 := if k = 1 then [115, 116, 101, 112] else if k = 2 then [116, 105, 99, 107] else if k = 3 then [116, 117, 114, 110] else if k = 4 then [102, 97, 117, 108, 116] else if k = 5 then [112, 117, 114, 103, 101] else []
theorem t_word (k : Int) : call ir 60 [.d (.int .i64 k)] [] = some (.d (.str (wordW k)), []) := by
  rw [call_eq (fn := ir60) rfl, evF_bnd]
  simp (disch := omega) only [go_sem, doCall, doCallQ, Nat.reduceAdd, Nat.reduceMul, Nat.reduceSub, Nat.reduceDiv, Nat.reduceMod, Nat.reduceLT, Nat.reduceLeDiff, Nat.reduceEqDiff, Nat.reduceBEq, Nat.reduceBNe, Int.reduceToNat, Int.reduceLT, Int.reduceLE, Int.reduceEq, Int.reduceNe, Int.reduceAdd, Int.reduceSub, Int.reduceMul, Int.reduceNeg, bd60]
  repeat' (apply two_cases <;> intro h <;> simp (disch := omega) only [go_sem, doCall, doCallQ, Nat.reduceAdd, Nat.reduceMul, Nat.reduceSub, Nat.reduceDiv, Nat.reduceMod, Nat.reduceLT, Nat.reduceLeDiff, Nat.reduceEqDiff, Nat.reduceBEq, Nat.reduceBNe, Int.reduceToNat, Int.reduceLT, Int.reduceLE, Int.reduceEq, Int.reduceNe, Int.reduceAdd, Int.reduceSub, Int.reduceMul, Int.reduceNeg, h])
  all_goals (try subst h)
  all_goals first | rfl | (unfold wordW; repeat' (first | rw [if_neg (by assumption)] | rfl))
def moveW (kind obj : Int) (rg ifr : List UInt8) (n : Int) (keep : Nat) (torn cut : Int) : List UInt8 :=
  if kind = 0 then [97, 115, 107, 32] ++ prn obj ++ (if rg = [] then [] else [32] ++ rg) ++ (if ifr = [] then [] else [32, 105, 102, 32] ++ ifr)
  else if kind = 6 then [99, 114, 97, 115, 104, 32] ++ decs keep ++ [32] ++ prn torn ++ [32] ++ prn cut
  else if kind = 7 then [115, 121, 110, 99]
  else if wordW kind = [] then [63] else wordW kind ++ [32] ++ prn n
theorem join2 (a b : List UInt8) : Lib.join [a, b] [32] = a ++ [32] ++ b := by simp [Lib.join, List.intercalate]
theorem join3 (a b c : List UInt8) : Lib.join [a, b, c] [32] = a ++ [32] ++ b ++ [32] ++ c := by simp [Lib.join, List.intercalate]
theorem join4 (a b c d : List UInt8) : Lib.join [a, b, c, d] [32] = a ++ [32] ++ b ++ [32] ++ c ++ [32] ++ d := by simp [Lib.join, List.intercalate]
theorem join5 (a b c d e : List UInt8) : Lib.join [a, b, c, d, e] [32] = a ++ [32] ++ b ++ [32] ++ c ++ [32] ++ d ++ [32] ++ e := by simp [Lib.join, List.intercalate]
theorem jok {l : List (List UInt8)} (h1 : l.length ≤ 1000) (h2 : (Lib.join l [32]).length ≤ 100000) : joinOk l [32] := ⟨by omega, by omega⟩
theorem j2 (a b : List UInt8) (h : a.length + b.length ≤ 5000) : call ir 58 [.d (.list 1 [[.str a], [.str b]])] [] = some (.d (.str (a ++ [32] ++ b)), []) := by
  have := t_joined [a, b] (jok (by simp) (by rw [join2]; simp; omega))
  rwa [join2] at this
theorem j3 (a b c : List UInt8) (h : a.length + b.length + c.length ≤ 5000) : call ir 58 [.d (.list 1 [[.str a], [.str b], [.str c]])] [] = some (.d (.str (a ++ [32] ++ b ++ [32] ++ c)), []) := by
  have := t_joined [a, b, c] (jok (by simp) (by rw [join3]; simp; omega))
  rwa [join3] at this
theorem j4 (a b c d : List UInt8) (h : a.length + b.length + c.length + d.length ≤ 5000) : call ir 58 [.d (.list 1 [[.str a], [.str b], [.str c], [.str d]])] [] = some (.d (.str (a ++ [32] ++ b ++ [32] ++ c ++ [32] ++ d)), []) := by
  have := t_joined [a, b, c, d] (jok (by simp) (by rw [join4]; simp; omega))
  rwa [join4] at this
theorem j5 (a b c d e : List UInt8) (h : a.length + b.length + c.length + d.length + e.length ≤ 5000) : call ir 58 [.d (.list 1 [[.str a], [.str b], [.str c], [.str d], [.str e]])] [] = some (.d (.str (a ++ [32] ++ b ++ [32] ++ c ++ [32] ++ d ++ [32] ++ e)), []) := by
  have := t_joined [a, b, c, d, e] (jok (by simp) (by rw [join5]; simp; omega))
  rwa [join5] at this
def I64 (n : Int) : Prop := -9223372036854775808 ≤ n ∧ n ≤ 9223372036854775807
theorem wordW_len (k : Int) : (wordW k).length ≤ 5 := by
  unfold wordW
  repeat' (first | (split <;> try (simp; done)) | simp)
theorem inl_add (x : List AV) (H : Heap) : call ir 57 x H = bnd (evC (call ir) (loop ir) ir57.body ⟨H.length, x ++ List.replicate (ir57.n - x.length) .unk, H⟩) (fin ir57) := by
  rw [call_eq (fn := ir57) rfl, evF_bnd]
theorem t_move (kind obj : Int) (rg ifr : List UInt8) (n : Int) (keep : Nat) (torn cut : Int) (h1 : I64 obj) (h2 : I64 n) (h3 : keep ≤ 18446744073709551615) (h4 : I64 torn) (h5 : I64 cut) (hr : rg.length ≤ 1000) (hi : ifr.length ≤ 1000) :
    call ir 34 [.agg [.d (.int .i64 kind), .d (.int .i64 obj), .d (.str rg), .d (.str ifr), .d (.int .i64 n), .d (.int .u64 keep), .d (.int .i64 torn), .d (.int .i64 cut)]] [] = some (.d (.str (moveW kind obj rg ifr n keep torn cut)), []) := by
  rw [call_eq (fn := ir34) rfl, evF_bnd]
  simp (disch := omega) only [go_sem, doCall, doCallQ, Nat.reduceAdd, Nat.reduceMul, Nat.reduceSub, Nat.reduceDiv, Nat.reduceMod, Nat.reduceLT, Nat.reduceLeDiff, Nat.reduceEqDiff, Nat.reduceBEq, Nat.reduceBNe, Int.reduceToNat, Int.reduceLT, Int.reduceLE, Int.reduceEq, Int.reduceNe, Int.reduceAdd, Int.reduceSub, Int.reduceMul, Int.reduceNeg, bd34]
  apply two_cases
  · intro hk
    have l1 := prn_len h1
    have e0 : moveW kind obj rg ifr n keep torn cut = [97, 115, 107, 32] ++ prn obj ++ (if rg = [] then [] else [32] ++ rg) ++ (if ifr = [] then [] else [32, 105, 102, 32] ++ ifr) := if_pos hk
    rw [e0]
    by_cases hrg : rg = []
    · by_cases hif : ifr = []
      · simp (disch := omega) only [go_sem, doCall, doCallQ, Nat.reduceAdd, Nat.reduceMul, Nat.reduceSub, Nat.reduceDiv, Nat.reduceMod, Nat.reduceLT, Nat.reduceLeDiff, Nat.reduceEqDiff, Nat.reduceBEq, Nat.reduceBNe, Int.reduceToNat, Int.reduceLT, Int.reduceLE, Int.reduceEq, Int.reduceNe, Int.reduceAdd, Int.reduceSub, Int.reduceMul, Int.reduceNeg, hk, t_print obj h1, inl_add, bd57, hrg, hif, wr_id, chk_of, j2 [97, 115, 107] (prn obj) (by simp; omega)]
      · simp (disch := omega) only [go_sem, doCall, doCallQ, Nat.reduceAdd, Nat.reduceMul, Nat.reduceSub, Nat.reduceDiv, Nat.reduceMod, Nat.reduceLT, Nat.reduceLeDiff, Nat.reduceEqDiff, Nat.reduceBEq, Nat.reduceBNe, Int.reduceToNat, Int.reduceLT, Int.reduceLE, Int.reduceEq, Int.reduceNe, Int.reduceAdd, Int.reduceSub, Int.reduceMul, Int.reduceNeg, hk, t_print obj h1, inl_add, bd57, hrg, hif, wr_id, chk_of, j4 [97, 115, 107] (prn obj) [105, 102] ifr (by simp; omega)]
        simp
    · by_cases hif : ifr = []
      · simp (disch := omega) only [go_sem, doCall, doCallQ, Nat.reduceAdd, Nat.reduceMul, Nat.reduceSub, Nat.reduceDiv, Nat.reduceMod, Nat.reduceLT, Nat.reduceLeDiff, Nat.reduceEqDiff, Nat.reduceBEq, Nat.reduceBNe, Int.reduceToNat, Int.reduceLT, Int.reduceLE, Int.reduceEq, Int.reduceNe, Int.reduceAdd, Int.reduceSub, Int.reduceMul, Int.reduceNeg, hk, t_print obj h1, inl_add, bd57, hrg, hif, wr_id, chk_of, j3 [97, 115, 107] (prn obj) rg (by simp; omega)]
        simp
      · simp (disch := omega) only [go_sem, doCall, doCallQ, Nat.reduceAdd, Nat.reduceMul, Nat.reduceSub, Nat.reduceDiv, Nat.reduceMod, Nat.reduceLT, Nat.reduceLeDiff, Nat.reduceEqDiff, Nat.reduceBEq, Nat.reduceBNe, Int.reduceToNat, Int.reduceLT, Int.reduceLE, Int.reduceEq, Int.reduceNe, Int.reduceAdd, Int.reduceSub, Int.reduceMul, Int.reduceNeg, hk, t_print obj h1, inl_add, bd57, hrg, hif, wr_id, chk_of, j5 [97, 115, 107] (prn obj) rg [105, 102] ifr (by simp; omega)]
        simp
  · intro hk
    simp (disch := omega) only [go_sem, doCall, doCallQ, Nat.reduceAdd, Nat.reduceMul, Nat.reduceSub, Nat.reduceDiv, Nat.reduceMod, Nat.reduceLT, Nat.reduceLeDiff, Nat.reduceEqDiff, Nat.reduceBEq, Nat.reduceBNe, Int.reduceToNat, Int.reduceLT, Int.reduceLE, Int.reduceEq, Int.reduceNe, Int.reduceAdd, Int.reduceSub, Int.reduceMul, Int.reduceNeg, hk]
    apply two_cases
    · intro hk2
      have l2 := decs_len 19 keep (by omega)
      have l3 := prn_len h4
      have l4 := prn_len h5
      simp (disch := omega) only [go_sem, doCall, doCallQ, Nat.reduceAdd, Nat.reduceMul, Nat.reduceSub, Nat.reduceDiv, Nat.reduceMod, Nat.reduceLT, Nat.reduceLeDiff, Nat.reduceEqDiff, Nat.reduceBEq, Nat.reduceBNe, Int.reduceToNat, Int.reduceLT, Int.reduceLE, Int.reduceEq, Int.reduceNe, Int.reduceAdd, Int.reduceSub, Int.reduceMul, Int.reduceNeg, hk2, t_large keep h3, t_print torn h4, t_print cut h5, chk_of, j4 [99, 114, 97, 115, 104] (decs keep) (prn torn) (prn cut) (by simp; omega)]
      subst hk2; simp [moveW]
    · intro hk2
      simp (disch := omega) only [go_sem, doCall, doCallQ, Nat.reduceAdd, Nat.reduceMul, Nat.reduceSub, Nat.reduceDiv, Nat.reduceMod, Nat.reduceLT, Nat.reduceLeDiff, Nat.reduceEqDiff, Nat.reduceBEq, Nat.reduceBNe, Int.reduceToNat, Int.reduceLT, Int.reduceLE, Int.reduceEq, Int.reduceNe, Int.reduceAdd, Int.reduceSub, Int.reduceMul, Int.reduceNeg, hk2]
      apply two_cases
      · intro hk3
        simp (disch := omega) only [go_sem, doCall, doCallQ, Nat.reduceAdd, Nat.reduceMul, Nat.reduceSub, Nat.reduceDiv, Nat.reduceMod, Nat.reduceLT, Nat.reduceLeDiff, Nat.reduceEqDiff, Nat.reduceBEq, Nat.reduceBNe, Int.reduceToNat, Int.reduceLT, Int.reduceLE, Int.reduceEq, Int.reduceNe, Int.reduceAdd, Int.reduceSub, Int.reduceMul, Int.reduceNeg, hk3]
        subst hk3; simp [moveW]
      · intro hk3
        have l2 := prn_len h2
        have l3 := wordW_len kind
        simp (disch := omega) only [go_sem, doCall, doCallQ, Nat.reduceAdd, Nat.reduceMul, Nat.reduceSub, Nat.reduceDiv, Nat.reduceMod, Nat.reduceLT, Nat.reduceLeDiff, Nat.reduceEqDiff, Nat.reduceBEq, Nat.reduceBNe, Int.reduceToNat, Int.reduceLT, Int.reduceLE, Int.reduceEq, Int.reduceNe, Int.reduceAdd, Int.reduceSub, Int.reduceMul, Int.reduceNeg, hk3, t_word]
        apply two_cases
        · intro hk4
          simp (disch := omega) only [go_sem, doCall, doCallQ, Nat.reduceAdd, Nat.reduceMul, Nat.reduceSub, Nat.reduceDiv, Nat.reduceMod, Nat.reduceLT, Nat.reduceLeDiff, Nat.reduceEqDiff, Nat.reduceBEq, Nat.reduceBNe, Int.reduceToNat, Int.reduceLT, Int.reduceLE, Int.reduceEq, Int.reduceNe, Int.reduceAdd, Int.reduceSub, Int.reduceMul, Int.reduceNeg, hk4, t_print n h2, chk_of, j2 (wordW kind) (prn n) (by omega)]
          rw [moveW, if_neg hk, if_neg hk2, if_neg hk3, if_neg hk4]
        · intro hk4
          simp (disch := omega) only [go_sem, doCall, doCallQ, Nat.reduceAdd, Nat.reduceMul, Nat.reduceSub, Nat.reduceDiv, Nat.reduceMod, Nat.reduceLT, Nat.reduceLeDiff, Nat.reduceEqDiff, Nat.reduceBEq, Nat.reduceBNe, Int.reduceToNat, Int.reduceLT, Int.reduceLE, Int.reduceEq, Int.reduceNe, Int.reduceAdd, Int.reduceSub, Int.reduceMul, Int.reduceNeg, hk4]
          rw [moveW, if_neg hk, if_neg hk2, if_neg hk3, if_pos (Classical.not_not.1 hk4)]
theorem t_awake : call ir 31 [] [] = some (.d (.bool true), []) := by
  rw [call_eq (fn := ir31) rfl, evF_bnd]
  have h1 := t_move 7 0 [] [] 0 0 0 0 (by unfold I64; omega) (by unfold I64; omega) (by omega) (by unfold I64; omega) (by unfold I64; omega) (by simp) (by simp)
  have h2 := t_kind 5 (by omega)
  have h3 : moveW 7 0 [] [] 0 0 0 0 = [115, 121, 110, 99] := by simp [moveW]
  have h4 : kindW 5 = [112, 117, 114, 103, 101] := by simp [kindW]
  rw [h3] at h1
  rw [h4] at h2
  simp only [Int.natCast_zero] at h1
  simp (disch := omega) only [go_sem, doCall, doCallQ, Nat.reduceAdd, Nat.reduceMul, Nat.reduceSub, Nat.reduceDiv, Nat.reduceMod, Nat.reduceLT, Nat.reduceLeDiff, Nat.reduceEqDiff, Nat.reduceBEq, Nat.reduceBNe, Int.reduceToNat, Int.reduceLT, Int.reduceLE, Int.reduceEq, Int.reduceNe, Int.reduceAdd, Int.reduceSub, Int.reduceMul, Int.reduceNeg, bd31, h1, h2]
end Go.Proofs.Ytefcgdcmhhgfgaa
