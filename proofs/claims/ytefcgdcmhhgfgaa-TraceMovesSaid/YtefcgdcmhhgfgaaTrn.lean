/- TraceMoves: the law function. Own work. -/
import Derived.Test.YtefcgdcmhhgfgaaTrm
namespace Go.Proofs.Ytefcgdcmhhgfgaa
open Go Go.Ev Go.Proofs.Ytefcgdcmhhgfgaa.Ir
set_option maxRecDepth 100000
set_option maxHeartbeats 4000000
set_option linter.unusedSimpArgs false
set_option linter.unusedVariables false
theorem kinds_get (k : Int) (h : 0 ≤ k ∧ k < 6) : (([[.str []], [.str [104, 101, 97, 100]], [.str [98, 105, 110, 100]], [.str [112, 105, 101, 99, 101]], [.str [100, 114, 111, 112]], [.str [112, 117, 114, 103, 101]]] : List (List D)).getD k.toNat []) = [.str (kindW k)] := by
  have : k = 0 ∨ k = 1 ∨ k = 2 ∨ k = 3 ∨ k = 4 ∨ k = 5 := by omega
  rcases this with rfl | rfl | rfl | rfl | rfl | rfl <;> rfl
theorem phases_get (k : Int) (h : 0 ≤ k ∧ k < 5) : (([[.str [97, 115, 107, 105, 110, 103]], [.str [112, 108, 97, 110, 110, 105, 110, 103]], [.str [102, 101, 116, 99, 104, 105, 110, 103]], [.str [101, 110, 100, 105, 110, 103]], [.str [111, 118, 101, 114]]] : List (List D)).getD k.toNat []) = [.str (phaseW k)] := by
  have : k = 0 ∨ k = 1 ∨ k = 2 ∨ k = 3 ∨ k = 4 := by omega
  rcases this with rfl | rfl | rfl | rfl | rfl <;> rfl
theorem words_get (k : Int) (h : 0 ≤ k ∧ k < 6) : (([[.str []], [.str [115, 116, 101, 112]], [.str [116, 105, 99, 107]], [.str [116, 117, 114, 110]], [.str [102, 97, 117, 108, 116]], [.str [112, 117, 114, 103, 101]]] : List (List D)).getD k.toNat []) = [.str (wordW k)] := by
  have : k = 0 ∨ k = 1 ∨ k = 2 ∨ k = 3 ∨ k = 4 ∨ k = 5 := by omega
  rcases this with rfl | rfl | rfl | rfl | rfl | rfl <;> rfl
theorem kindW_no (k : Int) (h : 6 ≤ k) : kindW k = [] := by unfold kindW; repeat' (first | rw [if_neg (by omega)] | rfl)
theorem phaseW_no (k : Int) (h : k < 0 ∨ 5 ≤ k) : phaseW k = [] := by unfold phaseW; repeat' (first | rw [if_neg (by omega)] | rfl)
theorem t_TraceMoves (kind obj : Int) (rg ifr : List UInt8) (n : Int) (keep : Nat) (torn cut : Int) (h1 : I64 obj) (h2 : I64 n) (h3 : keep ≤ 18446744073709551615) (h4 : I64 torn) (h5 : I64 cut) (hr : rg.length ≤ 9223372036854775807) (hi : ifr.length ≤ 9223372036854775807)
    (k ph : Int) (hk : 0 ≤ k ∧ k ≤ 255) :
    call ir 7 [.agg [.d (.int .i64 kind), .d (.int .i64 obj), .d (.str rg), .d (.str ifr), .d (.int .i64 n), .d (.int .u64 keep), .d (.int .i64 torn), .d (.int .i64 cut)], .d (.int .u8 k), .d (.int .i64 ph)] [] = some (.d (.bool true), []) := by
  rw [call_eq (fn := ir7) rfl, evF_bnd]
  have ek : wr .i64 k = k := wr_id (by omega)
  simp (disch := omega) only [go_sem, doCall, doCallQ, Nat.reduceAdd, Nat.reduceMul, Nat.reduceSub, Nat.reduceDiv, Nat.reduceMod, Nat.reduceLT, Nat.reduceLeDiff, Nat.reduceEqDiff, Nat.reduceBEq, Nat.reduceBNe, Int.reduceToNat, Int.reduceLT, Int.reduceLE, Int.reduceEq, Int.reduceNe, Int.reduceAdd, Int.reduceSub, Int.reduceMul, Int.reduceNeg, bd7, t_awake]
  by_cases hb : 200 < rg.length ∨ 200 < ifr.length
  · apply two_cases
    · intro h; simp (disch := omega) only [go_sem, doCall, doCallQ, Nat.reduceAdd, Nat.reduceMul, Nat.reduceSub, Nat.reduceDiv, Nat.reduceMod, Nat.reduceLT, Nat.reduceLeDiff, Nat.reduceEqDiff, Nat.reduceBEq, Nat.reduceBNe, Int.reduceToNat, Int.reduceLT, Int.reduceLE, Int.reduceEq, Int.reduceNe, Int.reduceAdd, Int.reduceSub, Int.reduceMul, Int.reduceNeg, h]
    · intro h
      have h' : (200 : Int) < ifr.length := by omega
      simp (disch := omega) only [go_sem, doCall, doCallQ, Nat.reduceAdd, Nat.reduceMul, Nat.reduceSub, Nat.reduceDiv, Nat.reduceMod, Nat.reduceLT, Nat.reduceLeDiff, Nat.reduceEqDiff, Nat.reduceBEq, Nat.reduceBNe, Int.reduceToNat, Int.reduceLT, Int.reduceLE, Int.reduceEq, Int.reduceNe, Int.reduceAdd, Int.reduceSub, Int.reduceMul, Int.reduceNeg, h, h']
  · have hb1 : ¬ (200 : Int) < rg.length := by omega
    have hb2 : ¬ (200 : Int) < ifr.length := by omega
    have tm := t_move kind obj rg ifr n keep torn cut h1 h2 h3 h4 h5 (by omega) (by omega)
    have tk := t_kind k hk
    have tp := t_phase ph
    have l1 := prn_len h1
    have l2 := prn_len h2
    have l3 := prn_len h4
    have l4 := prn_len h5
    have l5 := decs_len 19 keep (by omega)
    have l6 := wordW_len kind
    simp (disch := omega) only [go_sem, doCall, doCallQ, Nat.reduceAdd, Nat.reduceMul, Nat.reduceSub, Nat.reduceDiv, Nat.reduceMod, Nat.reduceLT, Nat.reduceLeDiff, Nat.reduceEqDiff, Nat.reduceBEq, Nat.reduceBNe, Int.reduceToNat, Int.reduceLT, Int.reduceLE, Int.reduceEq, Int.reduceNe, Int.reduceAdd, Int.reduceSub, Int.reduceMul, Int.reduceNeg, tm, tk, tp, t_rprint obj h1, t_rprint n h2, t_rprint torn h4, t_rprint cut h5, t_llarge keep h3, hb1, hb2, ek]
    apply two_z
    · intro q q2; simp (disch := omega) only [go_sem, doCall, doCallQ, Nat.reduceAdd, Nat.reduceMul, Nat.reduceSub, Nat.reduceDiv, Nat.reduceMod, Nat.reduceLT, Nat.reduceLeDiff, Nat.reduceEqDiff, Nat.reduceBEq, Nat.reduceBNe, Int.reduceToNat, Int.reduceLT, Int.reduceLE, Int.reduceEq, Int.reduceNe, Int.reduceAdd, Int.reduceSub, Int.reduceMul, Int.reduceNeg, tm, tk, tp, t_rprint obj h1, t_rprint n h2, t_rprint torn h4, t_rprint cut h5, t_llarge keep h3, hb1, hb2, ek, Nat.zero_add, kinds_get, phases_get, words_get, kindW_no, phaseW_no, List.length_cons, List.length_append, List.length_nil, chk_of, q2]; rfl
    · intro q q2; simp (disch := omega) only [go_sem, doCall, doCallQ, Nat.reduceAdd, Nat.reduceMul, Nat.reduceSub, Nat.reduceDiv, Nat.reduceMod, Nat.reduceLT, Nat.reduceLeDiff, Nat.reduceEqDiff, Nat.reduceBEq, Nat.reduceBNe, Int.reduceToNat, Int.reduceLT, Int.reduceLE, Int.reduceEq, Int.reduceNe, Int.reduceAdd, Int.reduceSub, Int.reduceMul, Int.reduceNeg, tm, tk, tp, t_rprint obj h1, t_rprint n h2, t_rprint torn h4, t_rprint cut h5, t_llarge keep h3, hb1, hb2, ek, Nat.zero_add, kinds_get, phases_get, words_get, kindW_no, phaseW_no, List.length_cons, List.length_append, List.length_nil, chk_of, q2]
    apply two_z
    · intro q q2; simp (disch := omega) only [go_sem, doCall, doCallQ, Nat.reduceAdd, Nat.reduceMul, Nat.reduceSub, Nat.reduceDiv, Nat.reduceMod, Nat.reduceLT, Nat.reduceLeDiff, Nat.reduceEqDiff, Nat.reduceBEq, Nat.reduceBNe, Int.reduceToNat, Int.reduceLT, Int.reduceLE, Int.reduceEq, Int.reduceNe, Int.reduceAdd, Int.reduceSub, Int.reduceMul, Int.reduceNeg, tm, tk, tp, t_rprint obj h1, t_rprint n h2, t_rprint torn h4, t_rprint cut h5, t_llarge keep h3, hb1, hb2, ek, Nat.zero_add, kinds_get, phases_get, words_get, kindW_no, phaseW_no, List.length_cons, List.length_append, List.length_nil, chk_of, q2]
      apply two_z
      · intro q q2; simp (disch := omega) only [go_sem, doCall, doCallQ, Nat.reduceAdd, Nat.reduceMul, Nat.reduceSub, Nat.reduceDiv, Nat.reduceMod, Nat.reduceLT, Nat.reduceLeDiff, Nat.reduceEqDiff, Nat.reduceBEq, Nat.reduceBNe, Int.reduceToNat, Int.reduceLT, Int.reduceLE, Int.reduceEq, Int.reduceNe, Int.reduceAdd, Int.reduceSub, Int.reduceMul, Int.reduceNeg, tm, tk, tp, t_rprint obj h1, t_rprint n h2, t_rprint torn h4, t_rprint cut h5, t_llarge keep h3, hb1, hb2, ek, Nat.zero_add, kinds_get, phases_get, words_get, kindW_no, phaseW_no, List.length_cons, List.length_append, List.length_nil, chk_of, q2]; rfl
      · intro q q2; simp (disch := omega) only [go_sem, doCall, doCallQ, Nat.reduceAdd, Nat.reduceMul, Nat.reduceSub, Nat.reduceDiv, Nat.reduceMod, Nat.reduceLT, Nat.reduceLeDiff, Nat.reduceEqDiff, Nat.reduceBEq, Nat.reduceBNe, Int.reduceToNat, Int.reduceLT, Int.reduceLE, Int.reduceEq, Int.reduceNe, Int.reduceAdd, Int.reduceSub, Int.reduceMul, Int.reduceNeg, tm, tk, tp, t_rprint obj h1, t_rprint n h2, t_rprint torn h4, t_rprint cut h5, t_llarge keep h3, hb1, hb2, ek, Nat.zero_add, kinds_get, phases_get, words_get, kindW_no, phaseW_no, List.length_cons, List.length_append, List.length_nil, chk_of, q2]
      · rfl
    · intro q q2; simp (disch := omega) only [go_sem, doCall, doCallQ, Nat.reduceAdd, Nat.reduceMul, Nat.reduceSub, Nat.reduceDiv, Nat.reduceMod, Nat.reduceLT, Nat.reduceLeDiff, Nat.reduceEqDiff, Nat.reduceBEq, Nat.reduceBNe, Int.reduceToNat, Int.reduceLT, Int.reduceLE, Int.reduceEq, Int.reduceNe, Int.reduceAdd, Int.reduceSub, Int.reduceMul, Int.reduceNeg, tm, tk, tp, t_rprint obj h1, t_rprint n h2, t_rprint torn h4, t_rprint cut h5, t_llarge keep h3, hb1, hb2, ek, Nat.zero_add, kinds_get, phases_get, words_get, kindW_no, phaseW_no, List.length_cons, List.length_append, List.length_nil, chk_of, q2]
    by_cases k0 : kind = 0
    · have e0 := eq_true k0
      by_cases hrg : rg = []
      · have er := eq_true hrg
        by_cases hif : ifr = []
        · have ef := eq_true hif
          have hm : moveW kind obj rg ifr n keep torn cut = [97, 115, 107, 32] ++ prn obj := by simp [moveW, k0, hrg, hif]
          simp (disch := omega) only [go_sem, doCall, doCallQ, Nat.reduceAdd, Nat.reduceMul, Nat.reduceSub, Nat.reduceDiv, Nat.reduceMod, Nat.reduceLT, Nat.reduceLeDiff, Nat.reduceEqDiff, Nat.reduceBEq, Nat.reduceBNe, Int.reduceToNat, Int.reduceLT, Int.reduceLE, Int.reduceEq, Int.reduceNe, Int.reduceAdd, Int.reduceSub, Int.reduceMul, Int.reduceNeg, tm, tk, tp, t_rprint obj h1, t_rprint n h2, t_rprint torn h4, t_rprint cut h5, t_llarge keep h3, hb1, hb2, ek, Nat.zero_add, kinds_get, phases_get, words_get, kindW_no, phaseW_no, List.length_cons, List.length_append, List.length_nil, chk_of, hm, e0, er, ef]
        · have ef := eq_false hif
          have hm : moveW kind obj rg ifr n keep torn cut = [97, 115, 107, 32] ++ prn obj ++ ([32, 105, 102, 32] ++ ifr) := by simp [moveW, k0, hrg, hif]
          simp (disch := omega) only [go_sem, doCall, doCallQ, Nat.reduceAdd, Nat.reduceMul, Nat.reduceSub, Nat.reduceDiv, Nat.reduceMod, Nat.reduceLT, Nat.reduceLeDiff, Nat.reduceEqDiff, Nat.reduceBEq, Nat.reduceBNe, Int.reduceToNat, Int.reduceLT, Int.reduceLE, Int.reduceEq, Int.reduceNe, Int.reduceAdd, Int.reduceSub, Int.reduceMul, Int.reduceNeg, tm, tk, tp, t_rprint obj h1, t_rprint n h2, t_rprint torn h4, t_rprint cut h5, t_llarge keep h3, hb1, hb2, ek, Nat.zero_add, kinds_get, phases_get, words_get, kindW_no, phaseW_no, List.length_cons, List.length_append, List.length_nil, chk_of, hm, e0, er, ef]
      · have er := eq_false hrg
        by_cases hif : ifr = []
        · have ef := eq_true hif
          have hm : moveW kind obj rg ifr n keep torn cut = [97, 115, 107, 32] ++ prn obj ++ ([32] ++ rg) := by simp [moveW, k0, hrg, hif]
          simp (disch := omega) only [go_sem, doCall, doCallQ, Nat.reduceAdd, Nat.reduceMul, Nat.reduceSub, Nat.reduceDiv, Nat.reduceMod, Nat.reduceLT, Nat.reduceLeDiff, Nat.reduceEqDiff, Nat.reduceBEq, Nat.reduceBNe, Int.reduceToNat, Int.reduceLT, Int.reduceLE, Int.reduceEq, Int.reduceNe, Int.reduceAdd, Int.reduceSub, Int.reduceMul, Int.reduceNeg, tm, tk, tp, t_rprint obj h1, t_rprint n h2, t_rprint torn h4, t_rprint cut h5, t_llarge keep h3, hb1, hb2, ek, Nat.zero_add, kinds_get, phases_get, words_get, kindW_no, phaseW_no, List.length_cons, List.length_append, List.length_nil, chk_of, hm, e0, er, ef]
        · have ef := eq_false hif
          have hm : moveW kind obj rg ifr n keep torn cut = [97, 115, 107, 32] ++ prn obj ++ ([32] ++ rg) ++ ([32, 105, 102, 32] ++ ifr) := by simp [moveW, k0, hrg, hif]
          simp (disch := omega) only [go_sem, doCall, doCallQ, Nat.reduceAdd, Nat.reduceMul, Nat.reduceSub, Nat.reduceDiv, Nat.reduceMod, Nat.reduceLT, Nat.reduceLeDiff, Nat.reduceEqDiff, Nat.reduceBEq, Nat.reduceBNe, Int.reduceToNat, Int.reduceLT, Int.reduceLE, Int.reduceEq, Int.reduceNe, Int.reduceAdd, Int.reduceSub, Int.reduceMul, Int.reduceNeg, tm, tk, tp, t_rprint obj h1, t_rprint n h2, t_rprint torn h4, t_rprint cut h5, t_llarge keep h3, hb1, hb2, ek, Nat.zero_add, kinds_get, phases_get, words_get, kindW_no, phaseW_no, List.length_cons, List.length_append, List.length_nil, chk_of, hm, e0, er, ef]
    have e0 := eq_false k0
    by_cases k1 : kind = 1
    · have e1 := eq_true k1
      have hw : wordW kind = [115, 116, 101, 112] := by simp [wordW, k1]
      have hm : moveW kind obj rg ifr n keep torn cut = [115, 116, 101, 112] ++ [32] ++ prn n := by simp [moveW, wordW, k1]
      simp (disch := omega) only [go_sem, doCall, doCallQ, Nat.reduceAdd, Nat.reduceMul, Nat.reduceSub, Nat.reduceDiv, Nat.reduceMod, Nat.reduceLT, Nat.reduceLeDiff, Nat.reduceEqDiff, Nat.reduceBEq, Nat.reduceBNe, Int.reduceToNat, Int.reduceLT, Int.reduceLE, Int.reduceEq, Int.reduceNe, Int.reduceAdd, Int.reduceSub, Int.reduceMul, Int.reduceNeg, tm, tk, tp, t_rprint obj h1, t_rprint n h2, t_rprint torn h4, t_rprint cut h5, t_llarge keep h3, hb1, hb2, ek, Nat.zero_add, kinds_get, phases_get, words_get, kindW_no, phaseW_no, List.length_cons, List.length_append, List.length_nil, chk_of, hm, e0, e1, hw]
    have e1 := eq_false k1
    by_cases k2 : kind = 2
    · have e2 := eq_true k2
      have hw : wordW kind = [116, 105, 99, 107] := by simp [wordW, k2]
      have hm : moveW kind obj rg ifr n keep torn cut = [116, 105, 99, 107] ++ [32] ++ prn n := by simp [moveW, wordW, k2]
      simp (disch := omega) only [go_sem, doCall, doCallQ, Nat.reduceAdd, Nat.reduceMul, Nat.reduceSub, Nat.reduceDiv, Nat.reduceMod, Nat.reduceLT, Nat.reduceLeDiff, Nat.reduceEqDiff, Nat.reduceBEq, Nat.reduceBNe, Int.reduceToNat, Int.reduceLT, Int.reduceLE, Int.reduceEq, Int.reduceNe, Int.reduceAdd, Int.reduceSub, Int.reduceMul, Int.reduceNeg, tm, tk, tp, t_rprint obj h1, t_rprint n h2, t_rprint torn h4, t_rprint cut h5, t_llarge keep h3, hb1, hb2, ek, Nat.zero_add, kinds_get, phases_get, words_get, kindW_no, phaseW_no, List.length_cons, List.length_append, List.length_nil, chk_of, hm, e0, e1, e2, hw]
    have e2 := eq_false k2
    by_cases k3 : kind = 3
    · have e3 := eq_true k3
      have hw : wordW kind = [116, 117, 114, 110] := by simp [wordW, k3]
      have hm : moveW kind obj rg ifr n keep torn cut = [116, 117, 114, 110] ++ [32] ++ prn n := by simp [moveW, wordW, k3]
      simp (disch := omega) only [go_sem, doCall, doCallQ, Nat.reduceAdd, Nat.reduceMul, Nat.reduceSub, Nat.reduceDiv, Nat.reduceMod, Nat.reduceLT, Nat.reduceLeDiff, Nat.reduceEqDiff, Nat.reduceBEq, Nat.reduceBNe, Int.reduceToNat, Int.reduceLT, Int.reduceLE, Int.reduceEq, Int.reduceNe, Int.reduceAdd, Int.reduceSub, Int.reduceMul, Int.reduceNeg, tm, tk, tp, t_rprint obj h1, t_rprint n h2, t_rprint torn h4, t_rprint cut h5, t_llarge keep h3, hb1, hb2, ek, Nat.zero_add, kinds_get, phases_get, words_get, kindW_no, phaseW_no, List.length_cons, List.length_append, List.length_nil, chk_of, hm, e0, e1, e2, e3, hw]
    have e3 := eq_false k3
    by_cases k4 : kind = 4
    · have e4 := eq_true k4
      have hw : wordW kind = [102, 97, 117, 108, 116] := by simp [wordW, k4]
      have hm : moveW kind obj rg ifr n keep torn cut = [102, 97, 117, 108, 116] ++ [32] ++ prn n := by simp [moveW, wordW, k4]
      simp (disch := omega) only [go_sem, doCall, doCallQ, Nat.reduceAdd, Nat.reduceMul, Nat.reduceSub, Nat.reduceDiv, Nat.reduceMod, Nat.reduceLT, Nat.reduceLeDiff, Nat.reduceEqDiff, Nat.reduceBEq, Nat.reduceBNe, Int.reduceToNat, Int.reduceLT, Int.reduceLE, Int.reduceEq, Int.reduceNe, Int.reduceAdd, Int.reduceSub, Int.reduceMul, Int.reduceNeg, tm, tk, tp, t_rprint obj h1, t_rprint n h2, t_rprint torn h4, t_rprint cut h5, t_llarge keep h3, hb1, hb2, ek, Nat.zero_add, kinds_get, phases_get, words_get, kindW_no, phaseW_no, List.length_cons, List.length_append, List.length_nil, chk_of, hm, e0, e1, e2, e3, e4, hw]
    have e4 := eq_false k4
    by_cases k5 : kind = 5
    · have e5 := eq_true k5
      have hw : wordW kind = [112, 117, 114, 103, 101] := by simp [wordW, k5]
      have hm : moveW kind obj rg ifr n keep torn cut = [112, 117, 114, 103, 101] ++ [32] ++ prn n := by simp [moveW, wordW, k5]
      simp (disch := omega) only [go_sem, doCall, doCallQ, Nat.reduceAdd, Nat.reduceMul, Nat.reduceSub, Nat.reduceDiv, Nat.reduceMod, Nat.reduceLT, Nat.reduceLeDiff, Nat.reduceEqDiff, Nat.reduceBEq, Nat.reduceBNe, Int.reduceToNat, Int.reduceLT, Int.reduceLE, Int.reduceEq, Int.reduceNe, Int.reduceAdd, Int.reduceSub, Int.reduceMul, Int.reduceNeg, tm, tk, tp, t_rprint obj h1, t_rprint n h2, t_rprint torn h4, t_rprint cut h5, t_llarge keep h3, hb1, hb2, ek, Nat.zero_add, kinds_get, phases_get, words_get, kindW_no, phaseW_no, List.length_cons, List.length_append, List.length_nil, chk_of, hm, e0, e1, e2, e3, e4, e5, hw]
    have e5 := eq_false k5
    by_cases k6 : kind = 6
    · have e6 := eq_true k6
      have hm : moveW kind obj rg ifr n keep torn cut = [99, 114, 97, 115, 104, 32] ++ decs keep ++ [32] ++ prn torn ++ [32] ++ prn cut := by simp [moveW, k6]
      simp (disch := omega) only [go_sem, doCall, doCallQ, Nat.reduceAdd, Nat.reduceMul, Nat.reduceSub, Nat.reduceDiv, Nat.reduceMod, Nat.reduceLT, Nat.reduceLeDiff, Nat.reduceEqDiff, Nat.reduceBEq, Nat.reduceBNe, Int.reduceToNat, Int.reduceLT, Int.reduceLE, Int.reduceEq, Int.reduceNe, Int.reduceAdd, Int.reduceSub, Int.reduceMul, Int.reduceNeg, tm, tk, tp, t_rprint obj h1, t_rprint n h2, t_rprint torn h4, t_rprint cut h5, t_llarge keep h3, hb1, hb2, ek, Nat.zero_add, kinds_get, phases_get, words_get, kindW_no, phaseW_no, List.length_cons, List.length_append, List.length_nil, chk_of, hm, e0, e1, e2, e3, e4, e5, e6]
    have e6 := eq_false k6
    by_cases k7 : kind = 7
    · have e7 := eq_true k7
      have hm : moveW kind obj rg ifr n keep torn cut = [115, 121, 110, 99] := by simp [moveW, k7]
      simp (disch := omega) only [go_sem, doCall, doCallQ, Nat.reduceAdd, Nat.reduceMul, Nat.reduceSub, Nat.reduceDiv, Nat.reduceMod, Nat.reduceLT, Nat.reduceLeDiff, Nat.reduceEqDiff, Nat.reduceBEq, Nat.reduceBNe, Int.reduceToNat, Int.reduceLT, Int.reduceLE, Int.reduceEq, Int.reduceNe, Int.reduceAdd, Int.reduceSub, Int.reduceMul, Int.reduceNeg, tm, tk, tp, t_rprint obj h1, t_rprint n h2, t_rprint torn h4, t_rprint cut h5, t_llarge keep h3, hb1, hb2, ek, Nat.zero_add, kinds_get, phases_get, words_get, kindW_no, phaseW_no, List.length_cons, List.length_append, List.length_nil, chk_of, hm, e0, e1, e2, e3, e4, e5, e6, e7]
    have e7 := eq_false k7
    have hm : moveW kind obj rg ifr n keep torn cut = [63] := by simp [moveW, wordW, k0, k1, k2, k3, k4, k5, k6, k7]
    simp (disch := omega) only [go_sem, doCall, doCallQ, Nat.reduceAdd, Nat.reduceMul, Nat.reduceSub, Nat.reduceDiv, Nat.reduceMod, Nat.reduceLT, Nat.reduceLeDiff, Nat.reduceEqDiff, Nat.reduceBEq, Nat.reduceBNe, Int.reduceToNat, Int.reduceLT, Int.reduceLE, Int.reduceEq, Int.reduceNe, Int.reduceAdd, Int.reduceSub, Int.reduceMul, Int.reduceNeg, tm, tk, tp, t_rprint obj h1, t_rprint n h2, t_rprint torn h4, t_rprint cut h5, t_llarge keep h3, hb1, hb2, ek, Nat.zero_add, kinds_get, phases_get, words_get, kindW_no, phaseW_no, List.length_cons, List.length_append, List.length_nil, chk_of, hm, e0, e1, e2, e3, e4, e5, e6, e7]
end Go.Proofs.Ytefcgdcmhhgfgaa
