/- TraceDones: the law function. Own work. -/
import Derived.Test.YtefcgdcmhhgfgaaTrm
namespace Go.Proofs.Ytefcgdcmhhgfgaa
open Go Go.Ev Go.Proofs.Ytefcgdcmhhgfgaa.Ir
set_option maxRecDepth 100000
set_option maxHeartbeats 4000000
set_option linter.unusedSimpArgs false
set_option linter.unusedVariables false
theorem join7 (x0 x1 x2 x3 x4 x5 x6 : List UInt8) : Lib.join [x0, x1, x2, x3, x4, x5, x6] [32] = x0 ++ [32] ++ x1 ++ [32] ++ x2 ++ [32] ++ x3 ++ [32] ++ x4 ++ [32] ++ x5 ++ [32] ++ x6 := by simp [Lib.join, List.intercalate]
theorem j7 (x0 x1 x2 x3 x4 x5 x6 : List UInt8) (h : x0.length + x1.length + x2.length + x3.length + x4.length + x5.length + x6.length ≤ 5000) : call ir 58 [.d (.list 1 [[.str x0], [.str x1], [.str x2], [.str x3], [.str x4], [.str x5], [.str x6]])] [] = some (.d (.str (x0 ++ [32] ++ x1 ++ [32] ++ x2 ++ [32] ++ x3 ++ [32] ++ x4 ++ [32] ++ x5 ++ [32] ++ x6)), []) := by
  have := t_joined [x0, x1, x2, x3, x4, x5, x6] (jok (by simp) (by rw [join7]; simp only [List.length_append, List.length_cons, List.length_nil]; omega))
  rwa [join7] at this
theorem join8 (x0 x1 x2 x3 x4 x5 x6 x7 : List UInt8) : Lib.join [x0, x1, x2, x3, x4, x5, x6, x7] [32] = x0 ++ [32] ++ x1 ++ [32] ++ x2 ++ [32] ++ x3 ++ [32] ++ x4 ++ [32] ++ x5 ++ [32] ++ x6 ++ [32] ++ x7 := by simp [Lib.join, List.intercalate]
theorem j8 (x0 x1 x2 x3 x4 x5 x6 x7 : List UInt8) (h : x0.length + x1.length + x2.length + x3.length + x4.length + x5.length + x6.length + x7.length ≤ 5000) : call ir 58 [.d (.list 1 [[.str x0], [.str x1], [.str x2], [.str x3], [.str x4], [.str x5], [.str x6], [.str x7]])] [] = some (.d (.str (x0 ++ [32] ++ x1 ++ [32] ++ x2 ++ [32] ++ x3 ++ [32] ++ x4 ++ [32] ++ x5 ++ [32] ++ x6 ++ [32] ++ x7)), []) := by
  have := t_joined [x0, x1, x2, x3, x4, x5, x6, x7] (jok (by simp) (by rw [join8]; simp only [List.length_append, List.length_cons, List.length_nil]; omega))
  rwa [join8] at this
theorem join9 (x0 x1 x2 x3 x4 x5 x6 x7 x8 : List UInt8) : Lib.join [x0, x1, x2, x3, x4, x5, x6, x7, x8] [32] = x0 ++ [32] ++ x1 ++ [32] ++ x2 ++ [32] ++ x3 ++ [32] ++ x4 ++ [32] ++ x5 ++ [32] ++ x6 ++ [32] ++ x7 ++ [32] ++ x8 := by simp [Lib.join, List.intercalate]
theorem j9 (x0 x1 x2 x3 x4 x5 x6 x7 x8 : List UInt8) (h : x0.length + x1.length + x2.length + x3.length + x4.length + x5.length + x6.length + x7.length + x8.length ≤ 5000) : call ir 58 [.d (.list 1 [[.str x0], [.str x1], [.str x2], [.str x3], [.str x4], [.str x5], [.str x6], [.str x7], [.str x8]])] [] = some (.d (.str (x0 ++ [32] ++ x1 ++ [32] ++ x2 ++ [32] ++ x3 ++ [32] ++ x4 ++ [32] ++ x5 ++ [32] ++ x6 ++ [32] ++ x7 ++ [32] ++ x8)), []) := by
  have := t_joined [x0, x1, x2, x3, x4, x5, x6, x7, x8] (jok (by simp) (by rw [join9]; simp only [List.length_append, List.length_cons, List.length_nil]; omega))
  rwa [join9] at this
theorem join10 (x0 x1 x2 x3 x4 x5 x6 x7 x8 x9 : List UInt8) : Lib.join [x0, x1, x2, x3, x4, x5, x6, x7, x8, x9] [32] = x0 ++ [32] ++ x1 ++ [32] ++ x2 ++ [32] ++ x3 ++ [32] ++ x4 ++ [32] ++ x5 ++ [32] ++ x6 ++ [32] ++ x7 ++ [32] ++ x8 ++ [32] ++ x9 := by simp [Lib.join, List.intercalate]
theorem j10 (x0 x1 x2 x3 x4 x5 x6 x7 x8 x9 : List UInt8) (h : x0.length + x1.length + x2.length + x3.length + x4.length + x5.length + x6.length + x7.length + x8.length + x9.length ≤ 5000) : call ir 58 [.d (.list 1 [[.str x0], [.str x1], [.str x2], [.str x3], [.str x4], [.str x5], [.str x6], [.str x7], [.str x8], [.str x9]])] [] = some (.d (.str (x0 ++ [32] ++ x1 ++ [32] ++ x2 ++ [32] ++ x3 ++ [32] ++ x4 ++ [32] ++ x5 ++ [32] ++ x6 ++ [32] ++ x7 ++ [32] ++ x8 ++ [32] ++ x9)), []) := by
  have := t_joined [x0, x1, x2, x3, x4, x5, x6, x7, x8, x9] (jok (by simp) (by rw [join10]; simp only [List.length_append, List.length_cons, List.length_nil]; omega))
  rwa [join10] at this

def useW (a b c d : Int) : List UInt8 := prn a ++ [32] ++ [108, 105, 118, 101] ++ [32] ++ prn b ++ [32] ++ [100, 101, 97, 100] ++ [32] ++ prn c ++ [32] ++ [102, 114, 101, 101] ++ [32] ++ prn d
theorem t_use (a b c d : Int) (h1 : I64 a) (h2 : I64 b) (h3 : I64 c) (h4 : I64 d) : call ir 38 [.agg [.d (.int .i64 a), .d (.int .i64 b), .d (.int .i64 c), .d (.int .i64 d)]] [] = some (.d (.str (useW a b c d)), []) := by
  rw [call_eq (fn := ir38) rfl, evF_bnd]
  have l1 := prn_len h1
  have l2 := prn_len h2
  have l3 := prn_len h3
  have l4 := prn_len h4
  simp (disch := omega) only [go_sem, doCall, doCallQ, Nat.reduceAdd, Nat.reduceMul, Nat.reduceSub, Nat.reduceDiv, Nat.reduceMod, Nat.reduceLT, Nat.reduceLeDiff, Nat.reduceEqDiff, Nat.reduceBEq, Nat.reduceBNe, Int.reduceToNat, Int.reduceLT, Int.reduceLE, Int.reduceEq, Int.reduceNe, Int.reduceAdd, Int.reduceSub, Int.reduceMul, Int.reduceNeg, bd38, t_print a h1, t_print b h2, t_print c h3, t_print d h4, chk_of, j7 (prn a) [108, 105, 118, 101] (prn b) [100, 101, 97, 100] (prn c) [102, 114, 101, 101] (prn d) (by simp only [List.length_cons, List.length_nil]; omega)]
  simp [useW]
def doneW (obj st be en : Int) (tag rg : List UInt8) (n : Nat) : List UInt8 :=
  prn obj ++ [32] ++ prn st ++ [32, 102, 114, 111, 109, 32] ++ prn be ++ [32, 116, 111, 32] ++ prn en ++ (if tag = [] then [] else [32] ++ tag) ++ (if rg = [] then [] else [32] ++ rg) ++ [32] ++ prn n ++ [32, 98, 121, 116, 101, 115]
abbrev doneA (obj : Int) (d1 d2 d3 d4 : D) (be en st : Int) (tag rg : List UInt8) (body : List (List D)) : List AV := [.d (.int .i64 obj), .d d1, .d d2, .d d3, .d d4, .d (.int .i64 be), .d (.int .i64 en), .d (.int .i64 st), .d (.str tag), .d (.str rg), .d (.list 1 body)]
theorem t_done (obj : Int) (d1 d2 d3 d4 : D) (be en st : Int) (tag rg : List UInt8) (body : List (List D)) (h1 : I64 obj) (h2 : I64 be) (h3 : I64 en) (h4 : I64 st) (ht : tag.length ≤ 200) (hr : rg.length ≤ 200) (hb : body.length ≤ 2000) :
    call ir 37 [.agg (doneA obj d1 d2 d3 d4 be en st tag rg body)] [] = some (.d (.str (doneW obj st be en tag rg body.length)), []) := by
  rw [call_eq (fn := ir37) rfl, evF_bnd]
  have h5 : I64 (body.length : Int) := by unfold I64; omega
  have l1 := prn_len h1
  have l2 := prn_len h2
  have l3 := prn_len h3
  have l4 := prn_len h4
  have l5 := prn_len h5
  by_cases ht0 : tag = []
  · have e1 := eq_true ht0
    by_cases hr0 : rg = []
    · have e2 := eq_true hr0
      simp (disch := omega) only [go_sem, doCall, doCallQ, Nat.reduceAdd, Nat.reduceMul, Nat.reduceSub, Nat.reduceDiv, Nat.reduceMod, Nat.reduceLT, Nat.reduceLeDiff, Nat.reduceEqDiff, Nat.reduceBEq, Nat.reduceBNe, Int.reduceToNat, Int.reduceLT, Int.reduceLE, Int.reduceEq, Int.reduceNe, Int.reduceAdd, Int.reduceSub, Int.reduceMul, Int.reduceNeg, bd37, t_print obj h1, t_print be h2, t_print en h3, t_print st h4, t_print body.length h5, loop_step1, u37_0, lb37_0, e1, e2, wr_id, chk_of, j8 (prn obj) (prn st) [102, 114, 111, 109] (prn be) [116, 111] (prn en) (prn body.length) [98, 121, 116, 101, 115] (by simp only [List.length_cons, List.length_nil]; omega)]
      simp [doneW, ht0, hr0]
    · have e2 := eq_false hr0
      simp (disch := omega) only [go_sem, doCall, doCallQ, Nat.reduceAdd, Nat.reduceMul, Nat.reduceSub, Nat.reduceDiv, Nat.reduceMod, Nat.reduceLT, Nat.reduceLeDiff, Nat.reduceEqDiff, Nat.reduceBEq, Nat.reduceBNe, Int.reduceToNat, Int.reduceLT, Int.reduceLE, Int.reduceEq, Int.reduceNe, Int.reduceAdd, Int.reduceSub, Int.reduceMul, Int.reduceNeg, bd37, t_print obj h1, t_print be h2, t_print en h3, t_print st h4, t_print body.length h5, loop_step1, u37_0, lb37_0, e1, e2, wr_id, chk_of, j9 (prn obj) (prn st) [102, 114, 111, 109] (prn be) [116, 111] (prn en) rg (prn body.length) [98, 121, 116, 101, 115] (by simp only [List.length_cons, List.length_nil]; omega)]
      simp [doneW, ht0, hr0]
  · have e1 := eq_false ht0
    by_cases hr0 : rg = []
    · have e2 := eq_true hr0
      simp (disch := omega) only [go_sem, doCall, doCallQ, Nat.reduceAdd, Nat.reduceMul, Nat.reduceSub, Nat.reduceDiv, Nat.reduceMod, Nat.reduceLT, Nat.reduceLeDiff, Nat.reduceEqDiff, Nat.reduceBEq, Nat.reduceBNe, Int.reduceToNat, Int.reduceLT, Int.reduceLE, Int.reduceEq, Int.reduceNe, Int.reduceAdd, Int.reduceSub, Int.reduceMul, Int.reduceNeg, bd37, t_print obj h1, t_print be h2, t_print en h3, t_print st h4, t_print body.length h5, loop_step1, u37_0, lb37_0, e1, e2, wr_id, chk_of, j9 (prn obj) (prn st) [102, 114, 111, 109] (prn be) [116, 111] (prn en) tag (prn body.length) [98, 121, 116, 101, 115] (by simp only [List.length_cons, List.length_nil]; omega)]
      simp [doneW, ht0, hr0]
    · have e2 := eq_false hr0
      simp (disch := omega) only [go_sem, doCall, doCallQ, Nat.reduceAdd, Nat.reduceMul, Nat.reduceSub, Nat.reduceDiv, Nat.reduceMod, Nat.reduceLT, Nat.reduceLeDiff, Nat.reduceEqDiff, Nat.reduceBEq, Nat.reduceBNe, Int.reduceToNat, Int.reduceLT, Int.reduceLE, Int.reduceEq, Int.reduceNe, Int.reduceAdd, Int.reduceSub, Int.reduceMul, Int.reduceNeg, bd37, t_print obj h1, t_print be h2, t_print en h3, t_print st h4, t_print body.length h5, loop_step1, u37_0, lb37_0, e1, e2, wr_id, chk_of, j10 (prn obj) (prn st) [102, 114, 111, 109] (prn be) [116, 111] (prn en) tag rg (prn body.length) [98, 121, 116, 101, 115] (by simp only [List.length_cons, List.length_nil]; omega)]
      simp [doneW, ht0, hr0]

theorem t_TraceDones (obj : Int) (d1 d2 d3 d4 : D) (be en st : Int) (tag rg : List UInt8) (body : List (List D)) (h1 : I64 obj) (h2 : I64 be) (h3 : I64 en) (h4 : I64 st) (a b c d : Int) (g1 : I64 a) (g2 : I64 b) (g3 : I64 c) (g4 : I64 d) :
    call ir 8 [.agg (doneA obj d1 d2 d3 d4 be en st tag rg body), .agg [.d (.int .i64 a), .d (.int .i64 b), .d (.int .i64 c), .d (.int .i64 d)]] [] = some (.d (.bool true), []) := by
  rw [call_eq (fn := ir8) rfl, evF_bnd]
  by_cases c1 : (200 : Int) < tag.length
  · simp (disch := omega) only [go_sem, doCall, doCallQ, Nat.reduceAdd, Nat.reduceMul, Nat.reduceSub, Nat.reduceDiv, Nat.reduceMod, Nat.reduceLT, Nat.reduceLeDiff, Nat.reduceEqDiff, Nat.reduceBEq, Nat.reduceBNe, Int.reduceToNat, Int.reduceLT, Int.reduceLE, Int.reduceEq, Int.reduceNe, Int.reduceAdd, Int.reduceSub, Int.reduceMul, Int.reduceNeg, bd8, t_awake, eq_true c1]
  by_cases c2 : (200 : Int) < rg.length
  · simp (disch := omega) only [go_sem, doCall, doCallQ, Nat.reduceAdd, Nat.reduceMul, Nat.reduceSub, Nat.reduceDiv, Nat.reduceMod, Nat.reduceLT, Nat.reduceLeDiff, Nat.reduceEqDiff, Nat.reduceBEq, Nat.reduceBNe, Int.reduceToNat, Int.reduceLT, Int.reduceLE, Int.reduceEq, Int.reduceNe, Int.reduceAdd, Int.reduceSub, Int.reduceMul, Int.reduceNeg, bd8, t_awake, eq_false c1, eq_true c2]
  by_cases c3 : (2000 : Int) < body.length
  · simp (disch := omega) only [go_sem, doCall, doCallQ, Nat.reduceAdd, Nat.reduceMul, Nat.reduceSub, Nat.reduceDiv, Nat.reduceMod, Nat.reduceLT, Nat.reduceLeDiff, Nat.reduceEqDiff, Nat.reduceBEq, Nat.reduceBNe, Int.reduceToNat, Int.reduceLT, Int.reduceLE, Int.reduceEq, Int.reduceNe, Int.reduceAdd, Int.reduceSub, Int.reduceMul, Int.reduceNeg, bd8, t_awake, eq_false c1, eq_false c2, eq_true c3]
  have h5 : I64 (body.length : Int) := by unfold I64; omega
  have l1 := prn_len h1
  have l2 := prn_len h2
  have l3 := prn_len h3
  have l4 := prn_len h4
  have l5 := prn_len h5
  have k1 := prn_len g1
  have k2 := prn_len g2
  have k3 := prn_len g3
  have k4 := prn_len g4
  have td := t_done obj d1 d2 d3 d4 be en st tag rg body h1 h2 h3 h4 (by omega) (by omega) (by omega)
  have tu := t_use a b c d g1 g2 g3 g4
  have hu : useW a b c d = prn a ++ [32, 108, 105, 118, 101, 32] ++ prn b ++ [32, 100, 101, 97, 100, 32] ++ prn c ++ [32, 102, 114, 101, 101, 32] ++ prn d := by simp [useW]
  by_cases ht0 : tag = []
  · have e1 := eq_true ht0
    by_cases hr0 : rg = []
    · have e2 := eq_true hr0
      have hm : doneW obj st be en tag rg body.length = prn obj ++ [32] ++ prn st ++ [32, 102, 114, 111, 109, 32] ++ prn be ++ [32, 116, 111, 32] ++ prn en ++ ([32] ++ prn body.length ++ [32, 98, 121, 116, 101, 115]) := by simp [doneW, ht0, hr0]
      simp (disch := omega) only [go_sem, doCall, doCallQ, Nat.reduceAdd, Nat.reduceMul, Nat.reduceSub, Nat.reduceDiv, Nat.reduceMod, Nat.reduceLT, Nat.reduceLeDiff, Nat.reduceEqDiff, Nat.reduceBEq, Nat.reduceBNe, Int.reduceToNat, Int.reduceLT, Int.reduceLE, Int.reduceEq, Int.reduceNe, Int.reduceAdd, Int.reduceSub, Int.reduceMul, Int.reduceNeg, bd8, t_awake, td, tu, t_rprint obj h1, t_rprint be h2, t_rprint en h3, t_rprint st h4, t_rprint body.length h5, t_rprint a g1, t_rprint b g2, t_rprint c g3, t_rprint d g4, eq_false c1, eq_false c2, eq_false c3, e1, e2, List.length_append, List.length_cons, List.length_nil, chk_of, hm, hu]
    · have e2 := eq_false hr0
      have hm : doneW obj st be en tag rg body.length = prn obj ++ [32] ++ prn st ++ [32, 102, 114, 111, 109, 32] ++ prn be ++ [32, 116, 111, 32] ++ prn en ++ ([32] ++ rg) ++ ([32] ++ prn body.length ++ [32, 98, 121, 116, 101, 115]) := by simp [doneW, ht0, hr0]
      simp (disch := omega) only [go_sem, doCall, doCallQ, Nat.reduceAdd, Nat.reduceMul, Nat.reduceSub, Nat.reduceDiv, Nat.reduceMod, Nat.reduceLT, Nat.reduceLeDiff, Nat.reduceEqDiff, Nat.reduceBEq, Nat.reduceBNe, Int.reduceToNat, Int.reduceLT, Int.reduceLE, Int.reduceEq, Int.reduceNe, Int.reduceAdd, Int.reduceSub, Int.reduceMul, Int.reduceNeg, bd8, t_awake, td, tu, t_rprint obj h1, t_rprint be h2, t_rprint en h3, t_rprint st h4, t_rprint body.length h5, t_rprint a g1, t_rprint b g2, t_rprint c g3, t_rprint d g4, eq_false c1, eq_false c2, eq_false c3, e1, e2, List.length_append, List.length_cons, List.length_nil, chk_of, hm, hu]
  · have e1 := eq_false ht0
    by_cases hr0 : rg = []
    · have e2 := eq_true hr0
      have hm : doneW obj st be en tag rg body.length = prn obj ++ [32] ++ prn st ++ [32, 102, 114, 111, 109, 32] ++ prn be ++ [32, 116, 111, 32] ++ prn en ++ ([32] ++ tag) ++ ([32] ++ prn body.length ++ [32, 98, 121, 116, 101, 115]) := by simp [doneW, ht0, hr0]
      simp (disch := omega) only [go_sem, doCall, doCallQ, Nat.reduceAdd, Nat.reduceMul, Nat.reduceSub, Nat.reduceDiv, Nat.reduceMod, Nat.reduceLT, Nat.reduceLeDiff, Nat.reduceEqDiff, Nat.reduceBEq, Nat.reduceBNe, Int.reduceToNat, Int.reduceLT, Int.reduceLE, Int.reduceEq, Int.reduceNe, Int.reduceAdd, Int.reduceSub, Int.reduceMul, Int.reduceNeg, bd8, t_awake, td, tu, t_rprint obj h1, t_rprint be h2, t_rprint en h3, t_rprint st h4, t_rprint body.length h5, t_rprint a g1, t_rprint b g2, t_rprint c g3, t_rprint d g4, eq_false c1, eq_false c2, eq_false c3, e1, e2, List.length_append, List.length_cons, List.length_nil, chk_of, hm, hu]
    · have e2 := eq_false hr0
      have hm : doneW obj st be en tag rg body.length = prn obj ++ [32] ++ prn st ++ [32, 102, 114, 111, 109, 32] ++ prn be ++ [32, 116, 111, 32] ++ prn en ++ ([32] ++ tag) ++ ([32] ++ rg) ++ ([32] ++ prn body.length ++ [32, 98, 121, 116, 101, 115]) := by simp [doneW, ht0, hr0]
      simp (disch := omega) only [go_sem, doCall, doCallQ, Nat.reduceAdd, Nat.reduceMul, Nat.reduceSub, Nat.reduceDiv, Nat.reduceMod, Nat.reduceLT, Nat.reduceLeDiff, Nat.reduceEqDiff, Nat.reduceBEq, Nat.reduceBNe, Int.reduceToNat, Int.reduceLT, Int.reduceLE, Int.reduceEq, Int.reduceNe, Int.reduceAdd, Int.reduceSub, Int.reduceMul, Int.reduceNeg, bd8, t_awake, td, tu, t_rprint obj h1, t_rprint be h2, t_rprint en h3, t_rprint st h4, t_rprint body.length h5, t_rprint a g1, t_rprint b g2, t_rprint c g3, t_rprint d g4, eq_false c1, eq_false c2, eq_false c3, e1, e2, List.length_append, List.length_cons, List.length_nil, chk_of, hm, hu]
end Go.Proofs.Ytefcgdcmhhgfgaa
