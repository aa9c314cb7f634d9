/- The document's codec answers as the program's. Own work. What an index tells. Own work. The document's replay: one record, its owner, whether it is needed. Own work. -/
import Derived.Test.YtoipfdbdifoecaaGreatDoorCod
import Derived.Test.YtoipfdbdifoecaaGreatDoorAll
import Derived.Test.YtoipfdbdifoecaaGreatDoorRef3
import Derived.Test.YtoipfdbdifoecaaGreatDoorBitS
import Derived.Test.YtoipfdbdifoecaaGreatDoorLik1
namespace Go.Proofs.YtoipfdbdifoecaaGreatDoor
open Go Go.Ev Go.Proofs.YtoipfdbdifoecaaGreatDoor.Ir
set_option maxRecDepth 100000
set_option maxHeartbeats 4000000
set_option linter.unusedSimpArgs false
set_option linter.unusedVariables false
theorem wr_nat (z : Int) : ∃ n : Nat, wr .u64 z = n ∧ n < 2 ^ 64 ∧ (n : Int) = z % 18446744073709551616 := by
  have h : wr .u64 z = z % 18446744073709551616 := by simp [wr, IntKind.wrap, IntKind.signed, IntKind.bits]
  refine ⟨(z % 18446744073709551616).toNat, ?_, ?_, ?_⟩ <;> omega
theorem gst_add (a : Int) (x : UInt8) : gst a x = wr .u64 (wr .u64 (a * 256) + wr .u64 (x.toNat : Int)) := by
  obtain ⟨n, e1, e2, e3⟩ := wr_nat (a * 256)
  have hx : x.toNat < 256 := x.toNat_lt
  have e4 : wr .u64 (x.toNat : Int) = x.toNat := by
    obtain ⟨m, f1, f2, f3⟩ := wr_nat (x.toNat : Int)
    rw [f1]; omega
  have e5 : wr .u64 (a * 2 ^ (min 8 64)) = n := e1
  unfold gst
  rw [e5, e1, e4]
  show wr .u64 (((BitVec.ofInt 64 (n : Int) ||| BitVec.ofInt 64 (x.toNat : Int)).toNat : Nat) : Int) = _
  have t1 : (BitVec.ofInt 64 (n : Int)).toNat = n := by rw [BitVec.toNat_ofInt]; omega
  have t2 : (BitVec.ofInt 64 (x.toNat : Int)).toNat = x.toNat := by rw [BitVec.toNat_ofInt]; omega
  rw [BitVec.toNat_or, t1, t2]
  obtain ⟨q, hq⟩ : ∃ q, n = 2 ^ 8 * q := ⟨n / 256, by omega⟩
  rw [hq, ← Nat.two_pow_add_eq_or_of_lt (by omega)]
  congr 1
theorem lp_rnum (b : List UInt8) (hb : b.length ≤ 1000) (a : Int) (i : Nat) (hi : i ≤ b.length) (k : Ex → St → Option (AV × Heap)) :
    bnd (evC (call ir) (loop ir) lp59_0 (st59_0 0 (.d (.int .u64 a)) (.d (.list 1 (rB b))) (.d (.int .i64 b.length)) (.d (.int .i64 i)) [])) (lpC (call ir) (loop ir) [3, 6, 7, 8] lp59_0 k) =
      k (.exit 0) (clean [3] (st59_0 0 (.d (.int .u64 ((b.drop i).foldl gst a))) .unk .unk .unk [])) := by
  by_cases h : i = b.length
  · have hx : ¬ (i : Int) < b.length := by omega
    subst h
    simp (maxSteps := 2000000) (disch := omega) only [go_sem, doCall, doCallQ, Nat.reduceAdd, Nat.reduceMul, Nat.reduceSub, Nat.reduceDiv, Nat.reduceMod, Nat.reduceLT, Nat.reduceLeDiff, Nat.reduceEqDiff, Nat.reduceBEq, Nat.reduceBNe, Int.reduceToNat, Int.reduceLT, Int.reduceLE, Int.reduceEq, Int.reduceNe, Int.reduceAdd, Int.reduceSub, Int.reduceMul, Int.reduceNeg, u59_0, lb59_0, hx]
    simp only [List.drop_length, List.foldl_nil]
  · have hlt : (i : Int) < b.length := by omega
    have hi' : i < b.length := by omega
    have hw := wr_succ (i := i) (by omega)
    have hg := rB_getD hi'
    have hd : b.drop i = b[i] :: b.drop (i + 1) := List.drop_eq_getElem_cons hi'
    have hbi : b.getD i 0 = b[i] := by simp [List.getD_eq_getElem?_getD, hi']
    have hst := gst_add a (b.getD i 0)
    have ih := lp_rnum b hb (gst a (b.getD i 0)) (i + 1) (by omega) k
    rw [hst] at ih
    simp (maxSteps := 2000000) (disch := omega) only [go_sem, doCall, doCallQ, Nat.reduceAdd, Nat.reduceMul, Nat.reduceSub, Nat.reduceDiv, Nat.reduceMod, Nat.reduceLT, Nat.reduceLeDiff, Nat.reduceEqDiff, Nat.reduceBEq, Nat.reduceBNe, Int.reduceToNat, Int.reduceLT, Int.reduceLE, Int.reduceEq, Int.reduceNe, Int.reduceAdd, Int.reduceSub, Int.reduceMul, Int.reduceNeg, u59_0, lb59_0, hlt, Int.toNat_natCast, hg, rB_len, chk_of]
    rw [loop_step1]
    simp (maxSteps := 2000000) only [go_sem, doCall, doCallQ, Nat.reduceAdd, Nat.reduceMul, Nat.reduceSub, Nat.reduceDiv, Nat.reduceMod, Nat.reduceLT, Nat.reduceLeDiff, Nat.reduceEqDiff, Nat.reduceBEq, Nat.reduceBNe, Int.reduceToNat, Int.reduceLT, Int.reduceLE, Int.reduceEq, Int.reduceNe, Int.reduceAdd, Int.reduceSub, Int.reduceMul, Int.reduceNeg, hw]
    rw [hd, List.foldl_cons, ← hbi, hst]
    try simp (maxSteps := 2000000) only [go_sem, doCall, doCallQ, Nat.reduceAdd, Nat.reduceMul, Nat.reduceSub, Nat.reduceDiv, Nat.reduceMod, Nat.reduceLT, Nat.reduceLeDiff, Nat.reduceEqDiff, Nat.reduceBEq, Nat.reduceBNe, Int.reduceToNat, Int.reduceLT, Int.reduceLE, Int.reduceEq, Int.reduceNe, Int.reduceAdd, Int.reduceSub, Int.reduceMul, Int.reduceNeg] at ih
    exact ih
termination_by b.length - i
theorem c_rnum (b : List UInt8) (hb : b.length ≤ 1000) : call ir 59 [.d (.list 1 (rB b))] [] = some (.d (.int .i64 (wr .i64 (gnum b))), []) := by
  rw [call_eq (fn := ir59) rfl, evF_bnd]
  simp (maxSteps := 2000000) (disch := omega) only [go_sem, doCall, doCallQ, Nat.reduceAdd, Nat.reduceMul, Nat.reduceSub, Nat.reduceDiv, Nat.reduceMod, Nat.reduceLT, Nat.reduceLeDiff, Nat.reduceEqDiff, Nat.reduceBEq, Nat.reduceBNe, Int.reduceToNat, Int.reduceLT, Int.reduceLE, Int.reduceEq, Int.reduceNe, Int.reduceAdd, Int.reduceSub, Int.reduceMul, Int.reduceNeg, bd59, rB_len]
  rw [loop_step1]
  simp (maxSteps := 2000000) only [go_sem, doCall, doCallQ, Nat.reduceAdd, Nat.reduceMul, Nat.reduceSub, Nat.reduceDiv, Nat.reduceMod, Nat.reduceLT, Nat.reduceLeDiff, Nat.reduceEqDiff, Nat.reduceBEq, Nat.reduceBNe, Int.reduceToNat, Int.reduceLT, Int.reduceLE, Int.reduceEq, Int.reduceNe, Int.reduceAdd, Int.reduceSub, Int.reduceMul, Int.reduceNeg]
  refine (lp_rnum b hb 0 0 (Nat.zero_le _) _).trans ?_
  simp (maxSteps := 2000000) only [go_sem, doCall, doCallQ, Nat.reduceAdd, Nat.reduceMul, Nat.reduceSub, Nat.reduceDiv, Nat.reduceMod, Nat.reduceLT, Nat.reduceLeDiff, Nat.reduceEqDiff, Nat.reduceBEq, Nat.reduceBNe, Int.reduceToNat, Int.reduceLT, Int.reduceLE, Int.reduceEq, Int.reduceNe, Int.reduceAdd, Int.reduceSub, Int.reduceMul, Int.reduceNeg, List.drop_zero]
  rfl
theorem c_rowner (o g : Int) : call ir 79 [.d (.int .i64 o), .d (.int .i64 g)] [] = some (.d (.bool (decide (OW o g))), []) := by
  rw [call_eq (fn := ir79) rfl, evF_bnd]
  by_cases h1 : 0 ≤ o
  · by_cases h2 : o ≤ 15
    · by_cases h3 : 1 ≤ g
      · by_cases h4 : g ≤ 2147483647
        · rw [decide_eq_true (show OW o g from ⟨⟨h1, h2⟩, h3, h4⟩)]; simp (maxSteps := 2000000) only [go_sem, doCall, doCallQ, Nat.reduceAdd, Nat.reduceMul, Nat.reduceSub, Nat.reduceDiv, Nat.reduceMod, Nat.reduceLT, Nat.reduceLeDiff, Nat.reduceEqDiff, Nat.reduceBEq, Nat.reduceBNe, Int.reduceToNat, Int.reduceLT, Int.reduceLE, Int.reduceEq, Int.reduceNe, Int.reduceAdd, Int.reduceSub, Int.reduceMul, Int.reduceNeg, bd79, eq_true h1, eq_true h2, eq_true h3, eq_true h4]
        · rw [decide_eq_false (show ¬ OW o g from fun h => h4 h.2.2)]; simp (maxSteps := 2000000) only [go_sem, doCall, doCallQ, Nat.reduceAdd, Nat.reduceMul, Nat.reduceSub, Nat.reduceDiv, Nat.reduceMod, Nat.reduceLT, Nat.reduceLeDiff, Nat.reduceEqDiff, Nat.reduceBEq, Nat.reduceBNe, Int.reduceToNat, Int.reduceLT, Int.reduceLE, Int.reduceEq, Int.reduceNe, Int.reduceAdd, Int.reduceSub, Int.reduceMul, Int.reduceNeg, bd79, eq_true h1, eq_true h2, eq_true h3, eq_false h4]
      · rw [decide_eq_false (show ¬ OW o g from fun h => h3 h.2.1)]; simp (maxSteps := 2000000) only [go_sem, doCall, doCallQ, Nat.reduceAdd, Nat.reduceMul, Nat.reduceSub, Nat.reduceDiv, Nat.reduceMod, Nat.reduceLT, Nat.reduceLeDiff, Nat.reduceEqDiff, Nat.reduceBEq, Nat.reduceBNe, Int.reduceToNat, Int.reduceLT, Int.reduceLE, Int.reduceEq, Int.reduceNe, Int.reduceAdd, Int.reduceSub, Int.reduceMul, Int.reduceNeg, bd79, eq_true h1, eq_true h2, eq_false h3]
    · rw [decide_eq_false (show ¬ OW o g from fun h => h2 h.1.2)]; simp (maxSteps := 2000000) only [go_sem, doCall, doCallQ, Nat.reduceAdd, Nat.reduceMul, Nat.reduceSub, Nat.reduceDiv, Nat.reduceMod, Nat.reduceLT, Nat.reduceLeDiff, Nat.reduceEqDiff, Nat.reduceBEq, Nat.reduceBNe, Int.reduceToNat, Int.reduceLT, Int.reduceLE, Int.reduceEq, Int.reduceNe, Int.reduceAdd, Int.reduceSub, Int.reduceMul, Int.reduceNeg, bd79, eq_true h1, eq_false h2]
  · rw [decide_eq_false (show ¬ OW o g from fun h => h1 h.1.1)]; simp (maxSteps := 2000000) only [go_sem, doCall, doCallQ, Nat.reduceAdd, Nat.reduceMul, Nat.reduceSub, Nat.reduceDiv, Nat.reduceMod, Nat.reduceLT, Nat.reduceLeDiff, Nat.reduceEqDiff, Nat.reduceBEq, Nat.reduceBNe, Int.reduceToNat, Int.reduceLT, Int.reduceLE, Int.reduceEq, Int.reduceNe, Int.reduceAdd, Int.reduceSub, Int.reduceMul, Int.reduceNeg, bd79, eq_false h1]
theorem lp_rtag (s : List UInt8) (hs : s.length ≤ 1000) (i : Nat) (hi : i ≤ s.length) :
    bnd (evC (call ir) (loop ir) lp80_0 (st80_0 0 (.d (.str s)) (.d (.int .i64 i)) [])) (lpC (call ir) (loop ir) [0, 3] lp80_0 (bk 0 (sq (call ir) (loop ir) (.seq (.reg [⟨some 2, none, .mv (.c (.d (.bool true))), .none⟩]) (.ret none)) (fin ir80)))) =
      some (.d (.bool (plainB (s.drop i))), []) := by
  by_cases h : i = s.length
  · have hx : ¬ (i : Int) < s.length := by omega
    simp (maxSteps := 2000000) (disch := omega) only [go_sem, doCall, doCallQ, Nat.reduceAdd, Nat.reduceMul, Nat.reduceSub, Nat.reduceDiv, Nat.reduceMod, Nat.reduceLT, Nat.reduceLeDiff, Nat.reduceEqDiff, Nat.reduceBEq, Nat.reduceBNe, Int.reduceToNat, Int.reduceLT, Int.reduceLE, Int.reduceEq, Int.reduceNe, Int.reduceAdd, Int.reduceSub, Int.reduceMul, Int.reduceNeg, u80_0, lb80_0, hx]
    rw [h, List.drop_length]; rfl
  · have hlt : (i : Int) < s.length := by omega
    have hi' : i < s.length := by omega
    have hw := wr_succ (i := i) (by omega)
    have hd : s.drop i = s[i] :: s.drop (i + 1) := List.drop_eq_getElem_cons hi'
    have hbi : s.getD i 0 = s[i] := by simp [List.getD_eq_getElem?_getD, hi']
    have e : plainB (s.drop i) = (mayI (s.getD i 0).toNat && plainB (s.drop (i + 1))) := by rw [hd, hbi]; rfl
    have ih := lp_rtag s hs (i + 1) (by omega)
    rw [e]
    have go : ∀ c : Int, c = ((s.getD i 0).toNat : Int) → True := fun _ _ => trivial
    by_cases c1 : ((s.getD i 0).toNat : Int) = 33
    · have hm : mayI (s.getD i 0).toNat = true := by rw [c1]; rfl
      rw [hm, Bool.true_and]
      simp (maxSteps := 2000000) (disch := omega) only [go_sem, doCall, doCallQ, Nat.reduceAdd, Nat.reduceMul, Nat.reduceSub, Nat.reduceDiv, Nat.reduceMod, Nat.reduceLT, Nat.reduceLeDiff, Nat.reduceEqDiff, Nat.reduceBEq, Nat.reduceBNe, Int.reduceToNat, Int.reduceLT, Int.reduceLE, Int.reduceEq, Int.reduceNe, Int.reduceAdd, Int.reduceSub, Int.reduceMul, Int.reduceNeg, u80_0, lb80_0, hlt, Int.toNat_natCast, eq_true c1, chk_of]
      rw [loop_step1]
      simp (maxSteps := 2000000) only [go_sem, doCall, doCallQ, Nat.reduceAdd, Nat.reduceMul, Nat.reduceSub, Nat.reduceDiv, Nat.reduceMod, Nat.reduceLT, Nat.reduceLeDiff, Nat.reduceEqDiff, Nat.reduceBEq, Nat.reduceBNe, Int.reduceToNat, Int.reduceLT, Int.reduceLE, Int.reduceEq, Int.reduceNe, Int.reduceAdd, Int.reduceSub, Int.reduceMul, Int.reduceNeg, hw]
      try simp (maxSteps := 2000000) only [go_sem, doCall, doCallQ, Nat.reduceAdd, Nat.reduceMul, Nat.reduceSub, Nat.reduceDiv, Nat.reduceMod, Nat.reduceLT, Nat.reduceLeDiff, Nat.reduceEqDiff, Nat.reduceBEq, Nat.reduceBNe, Int.reduceToNat, Int.reduceLT, Int.reduceLE, Int.reduceEq, Int.reduceNe, Int.reduceAdd, Int.reduceSub, Int.reduceMul, Int.reduceNeg] at ih
      exact ih
    · by_cases c2 : ((s.getD i 0).toNat : Int) < 35
      · have hm : mayI (s.getD i 0).toNat = false := by unfold mayI; rw [if_neg (by omega), if_neg c1, if_neg (by omega)]; exact decide_eq_false (by omega)
        rw [hm, Bool.false_and]
        simp (maxSteps := 2000000) (disch := omega) only [go_sem, doCall, doCallQ, Nat.reduceAdd, Nat.reduceMul, Nat.reduceSub, Nat.reduceDiv, Nat.reduceMod, Nat.reduceLT, Nat.reduceLeDiff, Nat.reduceEqDiff, Nat.reduceBEq, Nat.reduceBNe, Int.reduceToNat, Int.reduceLT, Int.reduceLE, Int.reduceEq, Int.reduceNe, Int.reduceAdd, Int.reduceSub, Int.reduceMul, Int.reduceNeg, u80_0, lb80_0, hlt, Int.toNat_natCast, eq_false c1, eq_true c2, chk_of]
      · by_cases c3 : ((s.getD i 0).toNat : Int) = 127
        · have hm : mayI (s.getD i 0).toNat = false := by rw [c3]; rfl
          rw [hm, Bool.false_and]
          simp (maxSteps := 2000000) (disch := omega) only [go_sem, doCall, doCallQ, Nat.reduceAdd, Nat.reduceMul, Nat.reduceSub, Nat.reduceDiv, Nat.reduceMod, Nat.reduceLT, Nat.reduceLeDiff, Nat.reduceEqDiff, Nat.reduceBEq, Nat.reduceBNe, Int.reduceToNat, Int.reduceLT, Int.reduceLE, Int.reduceEq, Int.reduceNe, Int.reduceAdd, Int.reduceSub, Int.reduceMul, Int.reduceNeg, u80_0, lb80_0, hlt, Int.toNat_natCast, eq_false c1, eq_false c2, eq_true c3, chk_of]
        · have hm : mayI (s.getD i 0).toNat = true := by
            unfold mayI
            by_cases c4 : ((s.getD i 0).toNat : Int) ≥ 128
            · rw [if_pos c4]
            · rw [if_neg c4, if_neg c1, if_neg c3]; exact decide_eq_true (by omega)
          rw [hm, Bool.true_and]
          simp (maxSteps := 2000000) (disch := omega) only [go_sem, doCall, doCallQ, Nat.reduceAdd, Nat.reduceMul, Nat.reduceSub, Nat.reduceDiv, Nat.reduceMod, Nat.reduceLT, Nat.reduceLeDiff, Nat.reduceEqDiff, Nat.reduceBEq, Nat.reduceBNe, Int.reduceToNat, Int.reduceLT, Int.reduceLE, Int.reduceEq, Int.reduceNe, Int.reduceAdd, Int.reduceSub, Int.reduceMul, Int.reduceNeg, u80_0, lb80_0, hlt, Int.toNat_natCast, eq_false c1, eq_false c2, eq_false c3, chk_of]
          rw [loop_step1]
          simp (maxSteps := 2000000) only [go_sem, doCall, doCallQ, Nat.reduceAdd, Nat.reduceMul, Nat.reduceSub, Nat.reduceDiv, Nat.reduceMod, Nat.reduceLT, Nat.reduceLeDiff, Nat.reduceEqDiff, Nat.reduceBEq, Nat.reduceBNe, Int.reduceToNat, Int.reduceLT, Int.reduceLE, Int.reduceEq, Int.reduceNe, Int.reduceAdd, Int.reduceSub, Int.reduceMul, Int.reduceNeg, hw]
          try simp (maxSteps := 2000000) only [go_sem, doCall, doCallQ, Nat.reduceAdd, Nat.reduceMul, Nat.reduceSub, Nat.reduceDiv, Nat.reduceMod, Nat.reduceLT, Nat.reduceLeDiff, Nat.reduceEqDiff, Nat.reduceBEq, Nat.reduceBNe, Int.reduceToNat, Int.reduceLT, Int.reduceLE, Int.reduceEq, Int.reduceNe, Int.reduceAdd, Int.reduceSub, Int.reduceMul, Int.reduceNeg] at ih
          exact ih
termination_by s.length - i
theorem c_rtag (s : List UInt8) (hs : s.length ≤ 1000) : call ir 80 [.d (.str s)] [] = some (.d (.bool (plainB s)), []) := by
  rw [call_eq (fn := ir80) rfl, evF_bnd]
  simp (maxSteps := 2000000) only [go_sem, doCall, doCallQ, Nat.reduceAdd, Nat.reduceMul, Nat.reduceSub, Nat.reduceDiv, Nat.reduceMod, Nat.reduceLT, Nat.reduceLeDiff, Nat.reduceEqDiff, Nat.reduceBEq, Nat.reduceBNe, Int.reduceToNat, Int.reduceLT, Int.reduceLE, Int.reduceEq, Int.reduceNe, Int.reduceAdd, Int.reduceSub, Int.reduceMul, Int.reduceNeg, bd80]
  rw [loop_step1]
  simp (maxSteps := 2000000) only [go_sem, doCall, doCallQ, Nat.reduceAdd, Nat.reduceMul, Nat.reduceSub, Nat.reduceDiv, Nat.reduceMod, Nat.reduceLT, Nat.reduceLeDiff, Nat.reduceEqDiff, Nat.reduceBEq, Nat.reduceBNe, Int.reduceToNat, Int.reduceLT, Int.reduceLE, Int.reduceEq, Int.reduceNe, Int.reduceAdd, Int.reduceSub, Int.reduceMul, Int.reduceNeg]
  exact lp_rtag s hs 0 (Nat.zero_le _)
theorem c_rbind (o g l t : Int) (s : List UInt8) (hs : s.length ≤ 1000) : call ir 61 [.agg [.d (.int .i64 o), .d (.int .i64 g), .d (.str s), .d (.int .i64 l), .d (.int .i64 t)]] [] = some (.d (.bool (decide (BD o g l t s))), []) := by
  have ho := c_rowner o g
  have ht := c_rtag s hs
  rw [call_eq (fn := ir61) rfl, evF_bnd]
  by_cases h1 : OW o g
  case neg => rw [decide_eq_false h1] at ho; rw [decide_eq_false (show ¬ BD o g l t s from fun h => h1 h.1.1)]; simp (maxSteps := 2000000) only [go_sem, doCall, doCallQ, Nat.reduceAdd, Nat.reduceMul, Nat.reduceSub, Nat.reduceDiv, Nat.reduceMod, Nat.reduceLT, Nat.reduceLeDiff, Nat.reduceEqDiff, Nat.reduceBEq, Nat.reduceBNe, Int.reduceToNat, Int.reduceLT, Int.reduceLE, Int.reduceEq, Int.reduceNe, Int.reduceAdd, Int.reduceSub, Int.reduceMul, Int.reduceNeg, bd61, ho]
  rw [decide_eq_true h1] at ho
  by_cases h2 : 0 ≤ l
  case neg => rw [decide_eq_false (show ¬ BD o g l t s from fun h => h2 h.1.2.1)]; simp (maxSteps := 2000000) only [go_sem, doCall, doCallQ, Nat.reduceAdd, Nat.reduceMul, Nat.reduceSub, Nat.reduceDiv, Nat.reduceMod, Nat.reduceLT, Nat.reduceLeDiff, Nat.reduceEqDiff, Nat.reduceBEq, Nat.reduceBNe, Int.reduceToNat, Int.reduceLT, Int.reduceLE, Int.reduceEq, Int.reduceNe, Int.reduceAdd, Int.reduceSub, Int.reduceMul, Int.reduceNeg, bd61, ho, eq_false h2]
  by_cases h3 : l ≤ 4096
  case neg => rw [decide_eq_false (show ¬ BD o g l t s from fun h => h3 h.1.2.2)]; simp (maxSteps := 2000000) only [go_sem, doCall, doCallQ, Nat.reduceAdd, Nat.reduceMul, Nat.reduceSub, Nat.reduceDiv, Nat.reduceMod, Nat.reduceLT, Nat.reduceLeDiff, Nat.reduceEqDiff, Nat.reduceBEq, Nat.reduceBNe, Int.reduceToNat, Int.reduceLT, Int.reduceLE, Int.reduceEq, Int.reduceNe, Int.reduceAdd, Int.reduceSub, Int.reduceMul, Int.reduceNeg, bd61, ho, eq_true h2, eq_false h3]
  by_cases h4 : 0 ≤ t
  case neg => rw [decide_eq_false (show ¬ BD o g l t s from fun h => h4 h.2.1.1)]; simp (maxSteps := 2000000) only [go_sem, doCall, doCallQ, Nat.reduceAdd, Nat.reduceMul, Nat.reduceSub, Nat.reduceDiv, Nat.reduceMod, Nat.reduceLT, Nat.reduceLeDiff, Nat.reduceEqDiff, Nat.reduceBEq, Nat.reduceBNe, Int.reduceToNat, Int.reduceLT, Int.reduceLE, Int.reduceEq, Int.reduceNe, Int.reduceAdd, Int.reduceSub, Int.reduceMul, Int.reduceNeg, bd61, ho, eq_true h2, eq_true h3, eq_false h4]
  by_cases h5 : t ≤ 4611686018427387903
  case neg => rw [decide_eq_false (show ¬ BD o g l t s from fun h => h5 h.2.1.2)]; simp (maxSteps := 2000000) only [go_sem, doCall, doCallQ, Nat.reduceAdd, Nat.reduceMul, Nat.reduceSub, Nat.reduceDiv, Nat.reduceMod, Nat.reduceLT, Nat.reduceLeDiff, Nat.reduceEqDiff, Nat.reduceBEq, Nat.reduceBNe, Int.reduceToNat, Int.reduceLT, Int.reduceLE, Int.reduceEq, Int.reduceNe, Int.reduceAdd, Int.reduceSub, Int.reduceMul, Int.reduceNeg, bd61, ho, eq_true h2, eq_true h3, eq_true h4, eq_false h5]
  by_cases h6 : (s.length : Int) ≤ 40
  case neg => rw [decide_eq_false (show ¬ BD o g l t s from fun h => h6 h.2.2.2)]; simp (maxSteps := 2000000) only [go_sem, doCall, doCallQ, Nat.reduceAdd, Nat.reduceMul, Nat.reduceSub, Nat.reduceDiv, Nat.reduceMod, Nat.reduceLT, Nat.reduceLeDiff, Nat.reduceEqDiff, Nat.reduceBEq, Nat.reduceBNe, Int.reduceToNat, Int.reduceLT, Int.reduceLE, Int.reduceEq, Int.reduceNe, Int.reduceAdd, Int.reduceSub, Int.reduceMul, Int.reduceNeg, bd61, ho, eq_true h2, eq_true h3, eq_true h4, eq_true h5, eq_false h6]
  cases h7 : plainB s
  · rw [h7] at ht
    rw [decide_eq_false (show ¬ BD o g l t s from fun h => by have := h.2.2.1; rw [h7] at this; cases this)]; simp (maxSteps := 2000000) only [go_sem, doCall, doCallQ, Nat.reduceAdd, Nat.reduceMul, Nat.reduceSub, Nat.reduceDiv, Nat.reduceMod, Nat.reduceLT, Nat.reduceLeDiff, Nat.reduceEqDiff, Nat.reduceBEq, Nat.reduceBNe, Int.reduceToNat, Int.reduceLT, Int.reduceLE, Int.reduceEq, Int.reduceNe, Int.reduceAdd, Int.reduceSub, Int.reduceMul, Int.reduceNeg, bd61, ho, eq_true h2, eq_true h3, eq_true h4, eq_true h5, eq_true h6, ht]
  · rw [h7] at ht
    rw [decide_eq_true (show BD o g l t s from ⟨⟨h1, h2, h3⟩, ⟨h4, h5⟩, h7, h6⟩)]; simp (maxSteps := 2000000) only [go_sem, doCall, doCallQ, Nat.reduceAdd, Nat.reduceMul, Nat.reduceSub, Nat.reduceDiv, Nat.reduceMod, Nat.reduceLT, Nat.reduceLeDiff, Nat.reduceEqDiff, Nat.reduceBEq, Nat.reduceBNe, Int.reduceToNat, Int.reduceLT, Int.reduceLE, Int.reduceEq, Int.reduceNe, Int.reduceAdd, Int.reduceSub, Int.reduceMul, Int.reduceNeg, bd61, ho, eq_true h2, eq_true h3, eq_true h4, eq_true h5, eq_true h6, ht]
theorem c_rpiece (o g i : Int) (b : List UInt8) (hb : b.length ≤ 1000) : call ir 60 [.agg [.d (.int .i64 o), .d (.int .i64 g), .d (.int .i64 i), .d (.list 1 (rB b))]] [] = some (.d (.bool (decide (PC o g i b.length))), []) := by
  have ho := c_rowner o g
  rw [call_eq (fn := ir60) rfl, evF_bnd]
  by_cases h1 : OW o g
  case neg => rw [decide_eq_false h1] at ho; rw [decide_eq_false (show ¬ PC o g i b.length from fun h => h1 h.1)]; simp (maxSteps := 2000000) only [go_sem, doCall, doCallQ, Nat.reduceAdd, Nat.reduceMul, Nat.reduceSub, Nat.reduceDiv, Nat.reduceMod, Nat.reduceLT, Nat.reduceLeDiff, Nat.reduceEqDiff, Nat.reduceBEq, Nat.reduceBNe, Int.reduceToNat, Int.reduceLT, Int.reduceLE, Int.reduceEq, Int.reduceNe, Int.reduceAdd, Int.reduceSub, Int.reduceMul, Int.reduceNeg, bd60, ho, rB_len]
  rw [decide_eq_true h1] at ho
  by_cases h2 : 0 ≤ i
  case neg => rw [decide_eq_false (show ¬ PC o g i b.length from fun h => h2 h.2.1.1)]; simp (maxSteps := 2000000) only [go_sem, doCall, doCallQ, Nat.reduceAdd, Nat.reduceMul, Nat.reduceSub, Nat.reduceDiv, Nat.reduceMod, Nat.reduceLT, Nat.reduceLeDiff, Nat.reduceEqDiff, Nat.reduceBEq, Nat.reduceBNe, Int.reduceToNat, Int.reduceLT, Int.reduceLE, Int.reduceEq, Int.reduceNe, Int.reduceAdd, Int.reduceSub, Int.reduceMul, Int.reduceNeg, bd60, ho, rB_len, eq_false h2]
  by_cases h3 : i ≤ 4096
  case neg => rw [decide_eq_false (show ¬ PC o g i b.length from fun h => h3 h.2.1.2)]; simp (maxSteps := 2000000) only [go_sem, doCall, doCallQ, Nat.reduceAdd, Nat.reduceMul, Nat.reduceSub, Nat.reduceDiv, Nat.reduceMod, Nat.reduceLT, Nat.reduceLeDiff, Nat.reduceEqDiff, Nat.reduceBEq, Nat.reduceBNe, Int.reduceToNat, Int.reduceLT, Int.reduceLE, Int.reduceEq, Int.reduceNe, Int.reduceAdd, Int.reduceSub, Int.reduceMul, Int.reduceNeg, bd60, ho, rB_len, eq_true h2, eq_false h3]
  by_cases h4 : 1 ≤ (b.length : Int)
  case neg => rw [decide_eq_false (show ¬ PC o g i b.length from fun h => h4 h.2.2.1)]; simp (maxSteps := 2000000) only [go_sem, doCall, doCallQ, Nat.reduceAdd, Nat.reduceMul, Nat.reduceSub, Nat.reduceDiv, Nat.reduceMod, Nat.reduceLT, Nat.reduceLeDiff, Nat.reduceEqDiff, Nat.reduceBEq, Nat.reduceBNe, Int.reduceToNat, Int.reduceLT, Int.reduceLE, Int.reduceEq, Int.reduceNe, Int.reduceAdd, Int.reduceSub, Int.reduceMul, Int.reduceNeg, bd60, ho, rB_len, eq_true h2, eq_true h3, eq_false h4]
  by_cases h5 : (b.length : Int) ≤ 64
  case neg => rw [decide_eq_false (show ¬ PC o g i b.length from fun h => h5 h.2.2.2)]; simp (maxSteps := 2000000) only [go_sem, doCall, doCallQ, Nat.reduceAdd, Nat.reduceMul, Nat.reduceSub, Nat.reduceDiv, Nat.reduceMod, Nat.reduceLT, Nat.reduceLeDiff, Nat.reduceEqDiff, Nat.reduceBEq, Nat.reduceBNe, Int.reduceToNat, Int.reduceLT, Int.reduceLE, Int.reduceEq, Int.reduceNe, Int.reduceAdd, Int.reduceSub, Int.reduceMul, Int.reduceNeg, bd60, ho, rB_len, eq_true h2, eq_true h3, eq_true h4, eq_false h5]
  rw [decide_eq_true (show PC o g i b.length from ⟨h1, ⟨h2, h3⟩, h4, h5⟩)]; simp (maxSteps := 2000000) only [go_sem, doCall, doCallQ, Nat.reduceAdd, Nat.reduceMul, Nat.reduceSub, Nat.reduceDiv, Nat.reduceMod, Nat.reduceLT, Nat.reduceLeDiff, Nat.reduceEqDiff, Nat.reduceBEq, Nat.reduceBNe, Int.reduceToNat, Int.reduceLT, Int.reduceLE, Int.reduceEq, Int.reduceNe, Int.reduceAdd, Int.reduceSub, Int.reduceMul, Int.reduceNeg, bd60, ho, rB_len, eq_true h2, eq_true h3, eq_true h4, eq_true h5]
theorem c_rdrop (o g : Int) (p : Bool) : call ir 62 [.agg [.d (.int .i64 o), .d (.int .i64 g), .d (.bool p)]] [] = some (.d (.bool (decide (OW o g))), []) := by
  have ho := c_rowner o g
  rw [call_eq (fn := ir62) rfl, evF_bnd]
  simp (maxSteps := 2000000) only [go_sem, doCall, doCallQ, Nat.reduceAdd, Nat.reduceMul, Nat.reduceSub, Nat.reduceDiv, Nat.reduceMod, Nat.reduceLT, Nat.reduceLeDiff, Nat.reduceEqDiff, Nat.reduceBEq, Nat.reduceBNe, Int.reduceToNat, Int.reduceLT, Int.reduceLE, Int.reduceEq, Int.reduceNe, Int.reduceAdd, Int.reduceSub, Int.reduceMul, Int.reduceNeg, bd62, ho]

/-! ### the bytes of a record, by their places -/
theorem nb_pos {b : List UInt8} {n : Nat} (h : n ≤ b.length) : nb b n = b.drop n := if_pos h
theorem nv_pos {b : List UInt8} {n : Nat} (h : n ≤ b.length) : nv b n = wr .i64 (gnum (b.take n)) := if_pos h
theorem nk_pos {b : List UInt8} {n : Nat} {ok : Bool} (h : n ≤ b.length) : nk b n ok = ok := if_pos h
theorem nk_neg {b : List UInt8} {n : Nat} {ok : Bool} (h : ¬ n ≤ b.length) : nk b n ok = false := if_neg h
theorem nk_false (b : List UInt8) (n : Nat) : nk b n false = false := by unfold nk; split <;> rfl
theorem one_byte {b : List UInt8} (h : 1 ≤ b.length) : wr .i64 ((b.getD 0 0).toNat : Int) = wr .i64 (gnum (b.take 1)) := by
  cases b with
  | nil => simp at h
  | cons x b =>
    have e : gnum ((x :: b).take 1) = (x.toNat : Int) := by
      show gst 0 x = _
      rw [gst_add]
      have hx : x.toNat < 256 := x.toNat_lt
      have e1 : wr .u64 (0 * 256) = 0 := rfl
      rw [e1]
      obtain ⟨m, f1, f2, f3⟩ := wr_nat (x.toNat : Int)
      obtain ⟨m2, g1, g2, g3⟩ := wr_nat (0 + wr .u64 (x.toNat : Int))
      rw [g1, g3, f1]; omega
    rw [e]; rfl
theorem gdrop_at {b : List UInt8} (h : b.length = 5) : gdrop b = if OW (wr .i64 (gnum (b.take 1))) (wr .i64 (gnum ((b.drop 1).take 4))) then some (wr .i64 (gnum (b.take 1)), wr .i64 (gnum ((b.drop 1).take 4))) else none := by
  have l1 : (b.drop 1).length = 4 := by simp [h]
  have e5 : (b.drop 1).drop 4 = [] := List.drop_eq_nil_of_le (by omega)
  unfold gdrop
  rw [nb_pos (show 1 ≤ b.length by omega), nv_pos (show 1 ≤ b.length by omega), nk_pos (show 1 ≤ b.length by omega), nb_pos (show 4 ≤ (b.drop 1).length by omega), nv_pos (show 4 ≤ (b.drop 1).length by omega), nk_pos (show 4 ≤ (b.drop 1).length by omega), e5]
  simp
theorem gdrop_no {b : List UInt8} (h : ¬ b.length = 5) : gdrop b = none := by
  unfold gdrop
  refine if_neg ?_
  rintro ⟨h1, h2, _⟩
  by_cases c1 : 1 ≤ b.length
  · rw [nb_pos c1, nk_pos c1] at h1
    rw [nb_pos c1] at h2
    by_cases c2 : 4 ≤ (b.drop 1).length
    · rw [nb_pos c2] at h2
      have := congrArg List.length h2
      simp at this c2
      omega
    · rw [nk_neg c2] at h1; cases h1
  · rw [nk_neg c1, nk_false] at h1; cases h1
theorem gpiece_at {b : List UInt8} (h : 7 ≤ b.length) : gpiece b = if PC (wr .i64 (gnum (b.take 1))) (wr .i64 (gnum ((b.drop 1).take 4))) (wr .i64 (gnum ((b.drop 5).take 2))) (b.drop 7).length then some (wr .i64 (gnum (b.take 1)), wr .i64 (gnum ((b.drop 1).take 4)), wr .i64 (gnum ((b.drop 5).take 2)), b.drop 7) else none := by
  have c2 : 4 ≤ (b.drop 1).length := by simp; omega
  have c3 : 2 ≤ (b.drop 5).length := by simp; omega
  have d1 : (b.drop 1).drop 4 = b.drop 5 := by rw [List.drop_drop]
  have d2 : (b.drop 5).drop 2 = b.drop 7 := by rw [List.drop_drop]
  unfold gpiece
  rw [nb_pos (show 1 ≤ b.length by omega), nv_pos (show 1 ≤ b.length by omega), nk_pos (show 1 ≤ b.length by omega), nb_pos c2, nv_pos c2, nk_pos c2, d1, nb_pos c3, nv_pos c3, nk_pos c3, d2]
  simp
theorem gpiece_no {b : List UInt8} (h : b.length < 7) : gpiece b = none := by
  unfold gpiece
  refine if_neg ?_
  rintro ⟨h1, _⟩
  by_cases c1 : 1 ≤ b.length
  · rw [nb_pos c1, nk_pos c1] at h1
    by_cases c2 : 4 ≤ (b.drop 1).length
    · rw [nb_pos c2, nk_pos c2] at h1
      rw [nk_neg (by simp at c2 ⊢; omega)] at h1; cases h1
    · rw [nk_neg c2, nk_false] at h1; cases h1
  · rw [nk_neg c1, nk_false, nk_false] at h1; cases h1
theorem gbind_at {b : List UInt8} (h : 15 ≤ b.length) : gbind b = if BD (wr .i64 (gnum (b.take 1))) (wr .i64 (gnum ((b.drop 1).take 4))) (wr .i64 (gnum ((b.drop 5).take 2))) (wr .i64 (gnum ((b.drop 7).take 8))) (b.drop 15) then some (wr .i64 (gnum (b.take 1)), wr .i64 (gnum ((b.drop 1).take 4)), b.drop 15, wr .i64 (gnum ((b.drop 5).take 2)), wr .i64 (gnum ((b.drop 7).take 8))) else none := by
  have c2 : 4 ≤ (b.drop 1).length := by simp; omega
  have c3 : 2 ≤ (b.drop 5).length := by simp; omega
  have c4 : 8 ≤ (b.drop 7).length := by simp; omega
  have d1 : (b.drop 1).drop 4 = b.drop 5 := by rw [List.drop_drop]
  have d2 : (b.drop 5).drop 2 = b.drop 7 := by rw [List.drop_drop]
  have d3 : (b.drop 7).drop 8 = b.drop 15 := by rw [List.drop_drop]
  unfold gbind
  rw [nb_pos (show 1 ≤ b.length by omega), nv_pos (show 1 ≤ b.length by omega), nk_pos (show 1 ≤ b.length by omega), nb_pos c2, nv_pos c2, nk_pos c2, d1, nb_pos c3, nv_pos c3, nk_pos c3, d2, nb_pos c4, nv_pos c4, nk_pos c4, d3]
  simp
theorem gbind_no {b : List UInt8} (h : b.length < 15) : gbind b = none := by
  unfold gbind
  refine if_neg ?_
  rintro ⟨h1, _⟩
  by_cases c1 : 1 ≤ b.length
  · rw [nb_pos c1, nk_pos c1] at h1
    by_cases c2 : 4 ≤ (b.drop 1).length
    · rw [nb_pos c2, nk_pos c2] at h1
      by_cases c3 : 2 ≤ ((b.drop 1).drop 4).length
      · rw [nb_pos c3, nk_pos c3] at h1
        rw [nk_neg (by simp at c3 ⊢; omega)] at h1; cases h1
      · rw [nk_neg c3, nk_false] at h1; cases h1
    · rw [nk_neg c2, nk_false, nk_false] at h1; cases h1
  · rw [nk_neg c1, nk_false, nk_false, nk_false] at h1; cases h1
theorem c_rgetdrop (k : Int) (b : List UInt8) (hb : b.length ≤ 1000) : call ir 38 [.d (.int .u8 k), .d (.list 1 (rB b))] [] =
    some (match gdrop b with
      | some (o, g) => .tup [.agg [.d (.int .i64 o), .d (.int .i64 g), .d (.bool (decide (k = 5)))], .d (.bool true)]
      | none => .tup [.agg [.d (.int .i64 0), .d (.int .i64 0), .d (.bool false)], .d (.bool false)], []) := by
  rw [call_eq (fn := ir38) rfl, evF_bnd]
  by_cases h : b.length = 5
  · have c1 := eq_true (show (b.length : Int) = 5 by omega)
    have q1 := c_rnum ((b.drop 1).take 4) (by simp; omega)
    have hg := rB_getD (show 0 < b.length by omega)
    have ob := one_byte (show 1 ≤ b.length by omega)
    have q2 := fun p => c_rdrop (wr .i64 (gnum (b.take 1))) (wr .i64 (gnum ((b.drop 1).take 4))) p
    have l5 := eq_true (show 5 ≤ b.length by omega)
    have l0 := eq_true (show 0 < b.length by omega)
    rw [gdrop_at h]
    by_cases c2 : OW (wr .i64 (gnum (b.take 1))) (wr .i64 (gnum ((b.drop 1).take 4)))
    · simp only [decide_eq_true c2] at q2
      rw [if_pos c2]
      simp (maxSteps := 2000000) (disch := omega) only [go_sem, doCall, doCallQ, Nat.reduceAdd, Nat.reduceMul, Nat.reduceSub, Nat.reduceDiv, Nat.reduceMod, Nat.reduceLT, Nat.reduceLeDiff, Nat.reduceEqDiff, Nat.reduceBEq, Nat.reduceBNe, Int.reduceToNat, Int.reduceLT, Int.reduceLE, Int.reduceEq, Int.reduceNe, Int.reduceAdd, Int.reduceSub, Int.reduceMul, Int.reduceNeg, bd38, c1, q1, q2, hg, ob, l5, l0, Int.toNat_natCast, Nat.zero_add, Nat.sub_zero, List.drop_zero, chk_of, rB_len, rB_take, rB_drop]
    · simp only [decide_eq_false c2] at q2
      rw [if_neg c2]
      simp (maxSteps := 2000000) (disch := omega) only [go_sem, doCall, doCallQ, Nat.reduceAdd, Nat.reduceMul, Nat.reduceSub, Nat.reduceDiv, Nat.reduceMod, Nat.reduceLT, Nat.reduceLeDiff, Nat.reduceEqDiff, Nat.reduceBEq, Nat.reduceBNe, Int.reduceToNat, Int.reduceLT, Int.reduceLE, Int.reduceEq, Int.reduceNe, Int.reduceAdd, Int.reduceSub, Int.reduceMul, Int.reduceNeg, bd38, c1, q1, q2, hg, ob, l5, l0, Int.toNat_natCast, Nat.zero_add, Nat.sub_zero, List.drop_zero, chk_of, rB_len, rB_take, rB_drop]
  · have c1 := eq_false (show ¬ (b.length : Int) = 5 by omega)
    rw [gdrop_no h]
    simp (maxSteps := 2000000) (disch := omega) only [go_sem, doCall, doCallQ, Nat.reduceAdd, Nat.reduceMul, Nat.reduceSub, Nat.reduceDiv, Nat.reduceMod, Nat.reduceLT, Nat.reduceLeDiff, Nat.reduceEqDiff, Nat.reduceBEq, Nat.reduceBNe, Int.reduceToNat, Int.reduceLT, Int.reduceLE, Int.reduceEq, Int.reduceNe, Int.reduceAdd, Int.reduceSub, Int.reduceMul, Int.reduceNeg, bd38, c1, Int.toNat_natCast, Nat.zero_add, Nat.sub_zero, List.drop_zero, chk_of, rB_len, rB_take, rB_drop]
theorem c_rgetpiece (b : List UInt8) (hb : b.length ≤ 1000) : call ir 36 [.d (.list 1 (rB b))] [] =
    some (match gpiece b with
      | some (o, g, i, x) => (.tup [.agg [.d (.int .i64 o), .d (.int .i64 g), .d (.int .i64 i), .own 0 1 0 x.length false], .d (.bool true)], [.arr 1 (rB x)])
      | none => (.tup [.agg [.d (.int .i64 0), .d (.int .i64 0), .d (.int .i64 0), .d (.list 1 [])], .d (.bool false)], [])) := by
  rw [call_eq (fn := ir36) rfl, evF_bnd]
  by_cases h : 7 ≤ b.length
  · have c1 := eq_false (show ¬ (b.length : Int) < 7 by omega)
    have q1 := c_rnum ((b.drop 1).take 4) (by simp; omega)
    have q3 := c_rnum ((b.drop 5).take 2) (by simp; omega)
    have hg := rB_getD (show 0 < b.length by omega)
    have ob := one_byte (show 1 ≤ b.length by omega)
    have q2 := c_rpiece (wr .i64 (gnum (b.take 1))) (wr .i64 (gnum ((b.drop 1).take 4))) (wr .i64 (gnum ((b.drop 5).take 2))) (b.drop 7) (by simp; omega)
    have l5 := eq_true (show 5 ≤ b.length by omega)
    have l7 := eq_true h
    have l0 := eq_true (show 0 < b.length by omega)
    have t1 : (b.drop 7).take (b.length - 7) = b.drop 7 := List.take_of_length_le (by simp)
    have hld : (b.drop 7).length = b.length - 7 := List.length_drop
    rw [gpiece_at h]
    by_cases c2 : PC (wr .i64 (gnum (b.take 1))) (wr .i64 (gnum ((b.drop 1).take 4))) (wr .i64 (gnum ((b.drop 5).take 2))) (b.drop 7).length
    · rw [decide_eq_true c2] at q2
      rw [if_pos c2]
      simp (maxSteps := 2000000) (disch := omega) only [go_sem, doCall, doCallQ, Nat.reduceAdd, Nat.reduceMul, Nat.reduceSub, Nat.reduceDiv, Nat.reduceMod, Nat.reduceLT, Nat.reduceLeDiff, Nat.reduceEqDiff, Nat.reduceBEq, Nat.reduceBNe, Int.reduceToNat, Int.reduceLT, Int.reduceLE, Int.reduceEq, Int.reduceNe, Int.reduceAdd, Int.reduceSub, Int.reduceMul, Int.reduceNeg, bd36, c1, q1, q2, q3, hg, ob, l5, l7, l0, t1, Nat.le_refl, List.take_length, Int.toNat_natCast, Nat.zero_add, Nat.sub_zero, List.drop_zero, chk_of, rB_len, rB_take, rB_drop]
    · rw [decide_eq_false c2] at q2
      rw [if_neg c2]
      simp (maxSteps := 2000000) (disch := omega) only [go_sem, doCall, doCallQ, Nat.reduceAdd, Nat.reduceMul, Nat.reduceSub, Nat.reduceDiv, Nat.reduceMod, Nat.reduceLT, Nat.reduceLeDiff, Nat.reduceEqDiff, Nat.reduceBEq, Nat.reduceBNe, Int.reduceToNat, Int.reduceLT, Int.reduceLE, Int.reduceEq, Int.reduceNe, Int.reduceAdd, Int.reduceSub, Int.reduceMul, Int.reduceNeg, bd36, c1, q1, q2, q3, hg, ob, l5, l7, l0, t1, Nat.le_refl, List.take_length, Int.toNat_natCast, Nat.zero_add, Nat.sub_zero, List.drop_zero, chk_of, rB_len, rB_take, rB_drop]
  · have c1 := eq_true (show (b.length : Int) < 7 by omega)
    rw [gpiece_no (by omega)]
    simp (maxSteps := 2000000) (disch := omega) only [go_sem, doCall, doCallQ, Nat.reduceAdd, Nat.reduceMul, Nat.reduceSub, Nat.reduceDiv, Nat.reduceMod, Nat.reduceLT, Nat.reduceLeDiff, Nat.reduceEqDiff, Nat.reduceBEq, Nat.reduceBNe, Int.reduceToNat, Int.reduceLT, Int.reduceLE, Int.reduceEq, Int.reduceNe, Int.reduceAdd, Int.reduceSub, Int.reduceMul, Int.reduceNeg, bd36, c1, Int.toNat_natCast, Nat.zero_add, Nat.sub_zero, List.drop_zero, chk_of, rB_len, rB_take, rB_drop]
theorem c_rgetbind (b : List UInt8) (hb : b.length ≤ 1000) : call ir 37 [.d (.list 1 (rB b))] [] =
    some (match gbind b with
      | some (o, g, s, l, t) => .tup [.agg [.d (.int .i64 o), .d (.int .i64 g), .d (.str s), .d (.int .i64 l), .d (.int .i64 t)], .d (.bool true)]
      | none => .tup [.agg [.d (.int .i64 0), .d (.int .i64 0), .d (.str []), .d (.int .i64 0), .d (.int .i64 0)], .d (.bool false)], []) := by
  rw [call_eq (fn := ir37) rfl, evF_bnd]
  by_cases h : 15 ≤ b.length
  · have c1 := eq_false (show ¬ (b.length : Int) < 15 by omega)
    have q1 := c_rnum ((b.drop 1).take 4) (by simp; omega)
    have q3 := c_rnum ((b.drop 5).take 2) (by simp; omega)
    have q4 := c_rnum ((b.drop 7).take 8) (by simp; omega)
    have hg := rB_getD (show 0 < b.length by omega)
    have ob := one_byte (show 1 ≤ b.length by omega)
    have q2 := c_rbind (wr .i64 (gnum (b.take 1))) (wr .i64 (gnum ((b.drop 1).take 4))) (wr .i64 (gnum ((b.drop 5).take 2))) (wr .i64 (gnum ((b.drop 7).take 8))) (b.drop 15) (by simp; omega)
    have l5 := eq_true (show 5 ≤ b.length by omega)
    have l7 := eq_true (show 7 ≤ b.length by omega)
    have l15 := eq_true h
    have l0 := eq_true (show 0 < b.length by omega)
    have t1 : (b.drop 15).take (b.length - 15) = b.drop 15 := List.take_of_length_le (by simp)
    rw [gbind_at h]
    by_cases c2 : BD (wr .i64 (gnum (b.take 1))) (wr .i64 (gnum ((b.drop 1).take 4))) (wr .i64 (gnum ((b.drop 5).take 2))) (wr .i64 (gnum ((b.drop 7).take 8))) (b.drop 15)
    · rw [decide_eq_true c2] at q2
      rw [if_pos c2]
      simp (maxSteps := 2000000) (disch := omega) only [go_sem, doCall, doCallQ, Nat.reduceAdd, Nat.reduceMul, Nat.reduceSub, Nat.reduceDiv, Nat.reduceMod, Nat.reduceLT, Nat.reduceLeDiff, Nat.reduceEqDiff, Nat.reduceBEq, Nat.reduceBNe, Int.reduceToNat, Int.reduceLT, Int.reduceLE, Int.reduceEq, Int.reduceNe, Int.reduceAdd, Int.reduceSub, Int.reduceMul, Int.reduceNeg, bd37, c1, q1, q2, q3, q4, hg, ob, l5, l7, l15, l0, t1, Int.toNat_natCast, Nat.zero_add, Nat.sub_zero, List.drop_zero, chk_of, rB_len, rB_take, rB_drop]
    · rw [decide_eq_false c2] at q2
      rw [if_neg c2]
      simp (maxSteps := 2000000) (disch := omega) only [go_sem, doCall, doCallQ, Nat.reduceAdd, Nat.reduceMul, Nat.reduceSub, Nat.reduceDiv, Nat.reduceMod, Nat.reduceLT, Nat.reduceLeDiff, Nat.reduceEqDiff, Nat.reduceBEq, Nat.reduceBNe, Int.reduceToNat, Int.reduceLT, Int.reduceLE, Int.reduceEq, Int.reduceNe, Int.reduceAdd, Int.reduceSub, Int.reduceMul, Int.reduceNeg, bd37, c1, q1, q2, q3, q4, hg, ob, l5, l7, l15, l0, t1, Int.toNat_natCast, Nat.zero_add, Nat.sub_zero, List.drop_zero, chk_of, rB_len, rB_take, rB_drop]
  · have c1 := eq_true (show (b.length : Int) < 15 by omega)
    rw [gbind_no (by omega)]
    simp (maxSteps := 2000000) (disch := omega) only [go_sem, doCall, doCallQ, Nat.reduceAdd, Nat.reduceMul, Nat.reduceSub, Nat.reduceDiv, Nat.reduceMod, Nat.reduceLT, Nat.reduceLeDiff, Nat.reduceEqDiff, Nat.reduceBEq, Nat.reduceBNe, Int.reduceToNat, Int.reduceLT, Int.reduceLE, Int.reduceEq, Int.reduceNe, Int.reduceAdd, Int.reduceSub, Int.reduceMul, Int.reduceNeg, bd37, c1, Int.toNat_natCast, Nat.zero_add, Nat.sub_zero, List.drop_zero, chk_of, rB_len, rB_take, rB_drop]
end Go.Proofs.YtoipfdbdifoecaaGreatDoor
namespace Go.Proofs.YtoipfdbdifoecaaGreatDoor
open Go Go.Ev Go.Proofs.YtoipfdbdifoecaaGreatDoor.Ir
set_option maxRecDepth 100000
set_option maxHeartbeats 4000000
set_option linter.unusedSimpArgs false
set_option linter.unusedVariables false
theorem c_here (a1 a2 : Int) (b : Bool) (e : En) : call ir 33 [.agg [.d (.int .i64 a1), .d (.int .i64 a2)], .d (.bool b), .agg e.av] [] = some (.d (.bool (b && (a1 == e.a1 && a2 == e.a2))), []) := by
  rw [call_eq (fn := ir33) rfl, evF_bnd]
  cases b
  · simp (maxSteps := 2000000) (disch := omega) only [go_sem, doCall, doCallQ, Nat.reduceAdd, Nat.reduceMul, Nat.reduceSub, Nat.reduceDiv, Nat.reduceMod, Nat.reduceLT, Nat.reduceLeDiff, Nat.reduceEqDiff, Nat.reduceBEq, Nat.reduceBNe, Int.reduceToNat, Int.reduceLT, Int.reduceLE, Int.reduceEq, Int.reduceNe, Int.reduceAdd, Int.reduceSub, Int.reduceMul, Int.reduceNeg, bd33, En.av, idxC_len, idxD_len, cs_len, av_len, map_cs, map_idx, idxC_take, idxC_drop, plain_av, plain_idx, box_idx, refs_av, owns_av, view_av, ren_av, refs_idx, owns_idx, view_idx, ren_idx, Int.toNat_natCast, Nat.zero_add, chk_of]
  · simp (maxSteps := 2000000) (disch := omega) only [go_sem, doCall, doCallQ, Nat.reduceAdd, Nat.reduceMul, Nat.reduceSub, Nat.reduceDiv, Nat.reduceMod, Nat.reduceLT, Nat.reduceLeDiff, Nat.reduceEqDiff, Nat.reduceBEq, Nat.reduceBNe, Int.reduceToNat, Int.reduceLT, Int.reduceLE, Int.reduceEq, Int.reduceNe, Int.reduceAdd, Int.reduceSub, Int.reduceMul, Int.reduceNeg, bd33, En.av, idxC_len, idxD_len, cs_len, av_len, map_cs, map_idx, idxC_take, idxC_drop, plain_av, plain_idx, box_idx, refs_av, owns_av, view_av, ren_av, refs_idx, owns_idx, view_idx, ren_idx, Int.toNat_natCast, Nat.zero_add, chk_of]
/-! ### which records are needed -/
def ownF (e : En) : Option (Int × Int) :=
  if e.kind = 2 then (gbind e.d).map fun r => (r.1, r.2.1)
  else if e.kind = 3 then (gpiece e.d).map fun r => (r.1, r.2.1)
  else if e.kind = 4 ∨ e.kind = 5 then gdrop e.d
  else none
theorem c_object (k : Int) (d : List UInt8) (hd : d.length ≤ 1000) : ∃ o, call ir 31 [.d (.int .u8 k), .d (.list 1 (rB d))] [] = some (.tup [.d (.int .i64 o), .d (.bool (ownF ⟨0, 0, 0, 0, k, d⟩).isSome)], []) ∧ ∀ r, ownF ⟨0, 0, 0, 0, k, d⟩ = some r → r.1 = o := by
  have qb := c_getbind d hd
  have qp := c_getpiece d hd
  have qd := fun k => c_getdrop k d hd
  rw [call_eq (fn := ir31) rfl, evF_bnd]
  unfold ownF
  by_cases k2 : k = 2
  · subst k2
    simp only [if_true]
    cases hg : gbind d with
    | none => rw [hg] at qb; exact ⟨0, by simp (maxSteps := 2000000) (disch := omega) only [go_sem, doCall, doCallQ, Nat.reduceAdd, Nat.reduceMul, Nat.reduceSub, Nat.reduceDiv, Nat.reduceMod, Nat.reduceLT, Nat.reduceLeDiff, Nat.reduceEqDiff, Nat.reduceBEq, Nat.reduceBNe, Int.reduceToNat, Int.reduceLT, Int.reduceLE, Int.reduceEq, Int.reduceNe, Int.reduceAdd, Int.reduceSub, Int.reduceMul, Int.reduceNeg, bd31, qb, Option.isSome_none, idxC_len, idxD_len, cs_len, av_len, map_cs, map_idx, idxC_take, idxC_drop, plain_av, plain_idx, box_idx, refs_av, owns_av, view_av, ren_av, refs_idx, owns_idx, view_idx, ren_idx, Int.toNat_natCast, Nat.zero_add, chk_of], by simp⟩
    | some r => rw [hg] at qb; exact ⟨r.1, by simp (maxSteps := 2000000) (disch := omega) only [go_sem, doCall, doCallQ, Nat.reduceAdd, Nat.reduceMul, Nat.reduceSub, Nat.reduceDiv, Nat.reduceMod, Nat.reduceLT, Nat.reduceLeDiff, Nat.reduceEqDiff, Nat.reduceBEq, Nat.reduceBNe, Int.reduceToNat, Int.reduceLT, Int.reduceLE, Int.reduceEq, Int.reduceNe, Int.reduceAdd, Int.reduceSub, Int.reduceMul, Int.reduceNeg, bd31, qb, Option.isSome_some, idxC_len, idxD_len, cs_len, av_len, map_cs, map_idx, idxC_take, idxC_drop, plain_av, plain_idx, box_idx, refs_av, owns_av, view_av, ren_av, refs_idx, owns_idx, view_idx, ren_idx, Int.toNat_natCast, Nat.zero_add, chk_of], by simp⟩
  · by_cases k3 : k = 3
    · subst k3
      simp only [show ¬ (3 : Int) = 2 by decide, if_true, if_false]
      cases hg : gpiece d with
      | none => rw [hg] at qp; exact ⟨0, by simp (maxSteps := 2000000) (disch := omega) only [go_sem, doCall, doCallQ, Nat.reduceAdd, Nat.reduceMul, Nat.reduceSub, Nat.reduceDiv, Nat.reduceMod, Nat.reduceLT, Nat.reduceLeDiff, Nat.reduceEqDiff, Nat.reduceBEq, Nat.reduceBNe, Int.reduceToNat, Int.reduceLT, Int.reduceLE, Int.reduceEq, Int.reduceNe, Int.reduceAdd, Int.reduceSub, Int.reduceMul, Int.reduceNeg, bd31, qp, Option.isSome_none, idxC_len, idxD_len, cs_len, av_len, map_cs, map_idx, idxC_take, idxC_drop, plain_av, plain_idx, box_idx, refs_av, owns_av, view_av, ren_av, refs_idx, owns_idx, view_idx, ren_idx, Int.toNat_natCast, Nat.zero_add, chk_of], by simp⟩
      | some r => rw [hg] at qp; exact ⟨r.1, by simp (maxSteps := 2000000) (disch := omega) only [go_sem, doCall, doCallQ, Nat.reduceAdd, Nat.reduceMul, Nat.reduceSub, Nat.reduceDiv, Nat.reduceMod, Nat.reduceLT, Nat.reduceLeDiff, Nat.reduceEqDiff, Nat.reduceBEq, Nat.reduceBNe, Int.reduceToNat, Int.reduceLT, Int.reduceLE, Int.reduceEq, Int.reduceNe, Int.reduceAdd, Int.reduceSub, Int.reduceMul, Int.reduceNeg, bd31, qp, Option.isSome_some, idxC_len, idxD_len, cs_len, av_len, map_cs, map_idx, idxC_take, idxC_drop, plain_av, plain_idx, box_idx, refs_av, owns_av, view_av, ren_av, refs_idx, owns_idx, view_idx, ren_idx, Int.toNat_natCast, Nat.zero_add, chk_of], by simp⟩
    · by_cases k4 : k = 4
      · subst k4
        simp only [show ¬ (4 : Int) = 2 by decide, show ¬ (4 : Int) = 3 by decide, if_true, if_false, true_or]
        cases hg : gdrop d with
        | none => rw [hg] at qd; exact ⟨0, by simp (maxSteps := 2000000) (disch := omega) only [go_sem, doCall, doCallQ, Nat.reduceAdd, Nat.reduceMul, Nat.reduceSub, Nat.reduceDiv, Nat.reduceMod, Nat.reduceLT, Nat.reduceLeDiff, Nat.reduceEqDiff, Nat.reduceBEq, Nat.reduceBNe, Int.reduceToNat, Int.reduceLT, Int.reduceLE, Int.reduceEq, Int.reduceNe, Int.reduceAdd, Int.reduceSub, Int.reduceMul, Int.reduceNeg, bd31, qd, Option.isSome_none, idxC_len, idxD_len, cs_len, av_len, map_cs, map_idx, idxC_take, idxC_drop, plain_av, plain_idx, box_idx, refs_av, owns_av, view_av, ren_av, refs_idx, owns_idx, view_idx, ren_idx, Int.toNat_natCast, Nat.zero_add, chk_of], by simp⟩
        | some r => rw [hg] at qd; exact ⟨r.1, by simp (maxSteps := 2000000) (disch := omega) only [go_sem, doCall, doCallQ, Nat.reduceAdd, Nat.reduceMul, Nat.reduceSub, Nat.reduceDiv, Nat.reduceMod, Nat.reduceLT, Nat.reduceLeDiff, Nat.reduceEqDiff, Nat.reduceBEq, Nat.reduceBNe, Int.reduceToNat, Int.reduceLT, Int.reduceLE, Int.reduceEq, Int.reduceNe, Int.reduceAdd, Int.reduceSub, Int.reduceMul, Int.reduceNeg, bd31, qd, Option.isSome_some, idxC_len, idxD_len, cs_len, av_len, map_cs, map_idx, idxC_take, idxC_drop, plain_av, plain_idx, box_idx, refs_av, owns_av, view_av, ren_av, refs_idx, owns_idx, view_idx, ren_idx, Int.toNat_natCast, Nat.zero_add, chk_of], by simp⟩
      · by_cases k5 : k = 5
        · subst k5
          simp only [show ¬ (5 : Int) = 2 by decide, show ¬ (5 : Int) = 3 by decide, if_true, if_false, or_true]
          cases hg : gdrop d with
          | none => rw [hg] at qd; exact ⟨0, by simp (maxSteps := 2000000) (disch := omega) only [go_sem, doCall, doCallQ, Nat.reduceAdd, Nat.reduceMul, Nat.reduceSub, Nat.reduceDiv, Nat.reduceMod, Nat.reduceLT, Nat.reduceLeDiff, Nat.reduceEqDiff, Nat.reduceBEq, Nat.reduceBNe, Int.reduceToNat, Int.reduceLT, Int.reduceLE, Int.reduceEq, Int.reduceNe, Int.reduceAdd, Int.reduceSub, Int.reduceMul, Int.reduceNeg, bd31, qd, Option.isSome_none, idxC_len, idxD_len, cs_len, av_len, map_cs, map_idx, idxC_take, idxC_drop, plain_av, plain_idx, box_idx, refs_av, owns_av, view_av, ren_av, refs_idx, owns_idx, view_idx, ren_idx, Int.toNat_natCast, Nat.zero_add, chk_of], by simp⟩
          | some r => rw [hg] at qd; exact ⟨r.1, by simp (maxSteps := 2000000) (disch := omega) only [go_sem, doCall, doCallQ, Nat.reduceAdd, Nat.reduceMul, Nat.reduceSub, Nat.reduceDiv, Nat.reduceMod, Nat.reduceLT, Nat.reduceLeDiff, Nat.reduceEqDiff, Nat.reduceBEq, Nat.reduceBNe, Int.reduceToNat, Int.reduceLT, Int.reduceLE, Int.reduceEq, Int.reduceNe, Int.reduceAdd, Int.reduceSub, Int.reduceMul, Int.reduceNeg, bd31, qd, Option.isSome_some, idxC_len, idxD_len, cs_len, av_len, map_cs, map_idx, idxC_take, idxC_drop, plain_av, plain_idx, box_idx, refs_av, owns_av, view_av, ren_av, refs_idx, owns_idx, view_idx, ren_idx, Int.toNat_natCast, Nat.zero_add, chk_of], by simp⟩
        · simp only [k2, k3, k4, k5, if_false, or_self]
          exact ⟨0, by simp (maxSteps := 2000000) (disch := omega) only [go_sem, doCall, doCallQ, Nat.reduceAdd, Nat.reduceMul, Nat.reduceSub, Nat.reduceDiv, Nat.reduceMod, Nat.reduceLT, Nat.reduceLeDiff, Nat.reduceEqDiff, Nat.reduceBEq, Nat.reduceBNe, Int.reduceToNat, Int.reduceLT, Int.reduceLE, Int.reduceEq, Int.reduceNe, Int.reduceAdd, Int.reduceSub, Int.reduceMul, Int.reduceNeg, bd31, eq_false k2, eq_false k3, eq_false k4, eq_false k5, Option.isSome_none, idxC_len, idxD_len, cs_len, av_len, map_cs, map_idx, idxC_take, idxC_drop, plain_av, plain_idx, box_idx, refs_av, owns_av, view_av, ren_av, refs_idx, owns_idx, view_idx, ren_idx, Int.toNat_natCast, Nat.zero_add, chk_of], by simp⟩
def liveF (x : Nat → Sl) (e : En) : Bool :=
  if e.kind = 2 then match gbind e.d with
    | some (o, g, _) => ((slF x o).b && ((slF x o).a1 == e.a1 && (slF x o).a2 == e.a2)) && decide ((slF x o).g = g)
    | none => false
  else if e.kind = 3 then match gpiece e.d with
    | some (o, g, i, _) => ((atF (slF x o).pm i).isSome && (((atF (slF x o).pm i).getD (0, 0)).1 == e.a1 && ((atF (slF x o).pm i).getD (0, 0)).2 == e.a2)) && decide ((slF x o).g = g)
    | none => false
  else if e.kind = 4 ∨ e.kind = 5 then match gdrop e.d with
    | some (o, g) => (decide (0 < (slF x o).fl) && ((slF x o).t1 == e.a1 && (slF x o).t2 == e.a2)) && decide ((slF x o).fl = g)
    | none => false
  else false
theorem c_live (x : Nat → Sl) (e : En) (hd : e.d.length ≤ 1000) : call ir 9 [.agg (idxD x), .agg e.av] [] = some (.d (.bool (liveF x e)), []) := by
  have hh := fun a1 a2 b => c_here a1 a2 b e
  obtain ⟨oo, qo, qe⟩ := c_object e.kind e.d hd
  obtain ⟨a1, a2, seq, pages, kind, d⟩ := e
  simp only at qo qe hd
  have qb := c_getbind d hd
  have qp := c_getpiece d hd
  have qd := fun k => c_getdrop k d hd
  simp only [En.av] at hh
  simp only [liveF, En.av]
  unfold ownF at qo qe
  rw [call_eq (fn := ir9) rfl, evF_bnd]
  by_cases k2 : kind = 2
  · subst k2
    simp only [if_true] at qo qe ⊢
    cases hg : gbind d with
    | none =>
      rw [hg] at qb qo
      simp (maxSteps := 2000000) (disch := omega) only [go_sem, doCall, doCallQ, Nat.reduceAdd, Nat.reduceMul, Nat.reduceSub, Nat.reduceDiv, Nat.reduceMod, Nat.reduceLT, Nat.reduceLeDiff, Nat.reduceEqDiff, Nat.reduceBEq, Nat.reduceBNe, Int.reduceToNat, Int.reduceLT, Int.reduceLE, Int.reduceEq, Int.reduceNe, Int.reduceAdd, Int.reduceSub, Int.reduceMul, Int.reduceNeg, bd9, qo, qb, c_where, c_iget, c_at, c_tomb, c_floor, hh, Option.isSome_none, Option.isSome_some, idxC_len, idxD_len, cs_len, av_len, map_cs, map_idx, idxC_take, idxC_drop, plain_av, plain_idx, box_idx, refs_av, owns_av, view_av, ren_av, refs_idx, owns_idx, view_idx, ren_idx, Int.toNat_natCast, Nat.zero_add, chk_of]
    | some r =>
      obtain ⟨o, g, s, l, t⟩ := r
      rw [hg] at qb qo
      rw [← qe (o, g) (by rw [hg]; rfl)] at qo
      simp only [Option.map_some, Option.isSome_some] at qo
      simp (maxSteps := 2000000) (disch := omega) only [go_sem, doCall, doCallQ, Nat.reduceAdd, Nat.reduceMul, Nat.reduceSub, Nat.reduceDiv, Nat.reduceMod, Nat.reduceLT, Nat.reduceLeDiff, Nat.reduceEqDiff, Nat.reduceBEq, Nat.reduceBNe, Int.reduceToNat, Int.reduceLT, Int.reduceLE, Int.reduceEq, Int.reduceNe, Int.reduceAdd, Int.reduceSub, Int.reduceMul, Int.reduceNeg, bd9, qo, qb, c_where, c_iget, c_at, c_tomb, c_floor, hh, Option.isSome_none, Option.isSome_some, idxC_len, idxD_len, cs_len, av_len, map_cs, map_idx, idxC_take, idxC_drop, plain_av, plain_idx, box_idx, refs_av, owns_av, view_av, ren_av, refs_idx, owns_idx, view_idx, ren_idx, Int.toNat_natCast, Nat.zero_add, chk_of]
      cases ((slF x o).b && ((slF x o).a1 == a1 && (slF x o).a2 == a2)) <;> simp (maxSteps := 2000000) only [go_sem, doCall, doCallQ, Nat.reduceAdd, Nat.reduceMul, Nat.reduceSub, Nat.reduceDiv, Nat.reduceMod, Nat.reduceLT, Nat.reduceLeDiff, Nat.reduceEqDiff, Nat.reduceBEq, Nat.reduceBNe, Int.reduceToNat, Int.reduceLT, Int.reduceLE, Int.reduceEq, Int.reduceNe, Int.reduceAdd, Int.reduceSub, Int.reduceMul, Int.reduceNeg]
  · by_cases k3 : kind = 3
    · subst k3
      simp only [show ¬ (3 : Int) = 2 by decide, if_true, if_false] at qo qe ⊢
      cases hg : gpiece d with
      | none =>
        rw [hg] at qp qo
        simp (maxSteps := 2000000) (disch := omega) only [go_sem, doCall, doCallQ, Nat.reduceAdd, Nat.reduceMul, Nat.reduceSub, Nat.reduceDiv, Nat.reduceMod, Nat.reduceLT, Nat.reduceLeDiff, Nat.reduceEqDiff, Nat.reduceBEq, Nat.reduceBNe, Int.reduceToNat, Int.reduceLT, Int.reduceLE, Int.reduceEq, Int.reduceNe, Int.reduceAdd, Int.reduceSub, Int.reduceMul, Int.reduceNeg, bd9, qo, qp, c_where, c_iget, c_at, c_tomb, c_floor, hh, Option.isSome_none, Option.isSome_some, idxC_len, idxD_len, cs_len, av_len, map_cs, map_idx, idxC_take, idxC_drop, plain_av, plain_idx, box_idx, refs_av, owns_av, view_av, ren_av, refs_idx, owns_idx, view_idx, ren_idx, Int.toNat_natCast, Nat.zero_add, chk_of]
      | some r =>
        obtain ⟨o, g, i, s⟩ := r
        rw [hg] at qp qo
        rw [← qe (o, g) (by rw [hg]; rfl)] at qo
        simp only [Option.map_some, Option.isSome_some] at qo
        simp (maxSteps := 2000000) (disch := omega) only [go_sem, doCall, doCallQ, Nat.reduceAdd, Nat.reduceMul, Nat.reduceSub, Nat.reduceDiv, Nat.reduceMod, Nat.reduceLT, Nat.reduceLeDiff, Nat.reduceEqDiff, Nat.reduceBEq, Nat.reduceBNe, Int.reduceToNat, Int.reduceLT, Int.reduceLE, Int.reduceEq, Int.reduceNe, Int.reduceAdd, Int.reduceSub, Int.reduceMul, Int.reduceNeg, bd9, qo, qp, c_where, c_iget, c_at, c_tomb, c_floor, hh, Option.isSome_none, Option.isSome_some, idxC_len, idxD_len, cs_len, av_len, map_cs, map_idx, idxC_take, idxC_drop, plain_av, plain_idx, box_idx, refs_av, owns_av, view_av, ren_av, refs_idx, owns_idx, view_idx, ren_idx, Int.toNat_natCast, Nat.zero_add, chk_of]
        cases ((atF (slF x o).pm i).isSome && (((atF (slF x o).pm i).getD (0, 0)).1 == a1 && ((atF (slF x o).pm i).getD (0, 0)).2 == a2)) <;> simp (maxSteps := 2000000) only [go_sem, doCall, doCallQ, Nat.reduceAdd, Nat.reduceMul, Nat.reduceSub, Nat.reduceDiv, Nat.reduceMod, Nat.reduceLT, Nat.reduceLeDiff, Nat.reduceEqDiff, Nat.reduceBEq, Nat.reduceBNe, Int.reduceToNat, Int.reduceLT, Int.reduceLE, Int.reduceEq, Int.reduceNe, Int.reduceAdd, Int.reduceSub, Int.reduceMul, Int.reduceNeg]
    · by_cases k4 : kind = 4
      · subst k4
        simp only [show ¬ (4 : Int) = 2 by decide, show ¬ (4 : Int) = 3 by decide, if_true, if_false, true_or] at qo qe ⊢
        cases hg : gdrop d with
        | none =>
          rw [hg] at qd qo
          simp (maxSteps := 2000000) (disch := omega) only [go_sem, doCall, doCallQ, Nat.reduceAdd, Nat.reduceMul, Nat.reduceSub, Nat.reduceDiv, Nat.reduceMod, Nat.reduceLT, Nat.reduceLeDiff, Nat.reduceEqDiff, Nat.reduceBEq, Nat.reduceBNe, Int.reduceToNat, Int.reduceLT, Int.reduceLE, Int.reduceEq, Int.reduceNe, Int.reduceAdd, Int.reduceSub, Int.reduceMul, Int.reduceNeg, bd9, qo, qd, c_where, c_iget, c_at, c_tomb, c_floor, hh, Option.isSome_none, Option.isSome_some, idxC_len, idxD_len, cs_len, av_len, map_cs, map_idx, idxC_take, idxC_drop, plain_av, plain_idx, box_idx, refs_av, owns_av, view_av, ren_av, refs_idx, owns_idx, view_idx, ren_idx, Int.toNat_natCast, Nat.zero_add, chk_of]
        | some r =>
          obtain ⟨o, g⟩ := r
          rw [hg] at qd qo
          rw [← qe (o, g) hg] at qo
          simp only [Option.isSome_some] at qo
          simp (maxSteps := 2000000) (disch := omega) only [go_sem, doCall, doCallQ, Nat.reduceAdd, Nat.reduceMul, Nat.reduceSub, Nat.reduceDiv, Nat.reduceMod, Nat.reduceLT, Nat.reduceLeDiff, Nat.reduceEqDiff, Nat.reduceBEq, Nat.reduceBNe, Int.reduceToNat, Int.reduceLT, Int.reduceLE, Int.reduceEq, Int.reduceNe, Int.reduceAdd, Int.reduceSub, Int.reduceMul, Int.reduceNeg, bd9, qo, qd, c_where, c_iget, c_at, c_tomb, c_floor, hh, Option.isSome_none, Option.isSome_some, idxC_len, idxD_len, cs_len, av_len, map_cs, map_idx, idxC_take, idxC_drop, plain_av, plain_idx, box_idx, refs_av, owns_av, view_av, ren_av, refs_idx, owns_idx, view_idx, ren_idx, Int.toNat_natCast, Nat.zero_add, chk_of]
          cases (decide (0 < (slF x o).fl) && ((slF x o).t1 == a1 && (slF x o).t2 == a2)) <;> simp (maxSteps := 2000000) (disch := omega) only [go_sem, doCall, doCallQ, Nat.reduceAdd, Nat.reduceMul, Nat.reduceSub, Nat.reduceDiv, Nat.reduceMod, Nat.reduceLT, Nat.reduceLeDiff, Nat.reduceEqDiff, Nat.reduceBEq, Nat.reduceBNe, Int.reduceToNat, Int.reduceLT, Int.reduceLE, Int.reduceEq, Int.reduceNe, Int.reduceAdd, Int.reduceSub, Int.reduceMul, Int.reduceNeg, c_where, c_iget, c_at, c_tomb, c_floor, hh, Option.isSome_none, Option.isSome_some, idxC_len, idxD_len, cs_len, av_len, map_cs, map_idx, idxC_take, idxC_drop, plain_av, plain_idx, box_idx, refs_av, owns_av, view_av, ren_av, refs_idx, owns_idx, view_idx, ren_idx, Int.toNat_natCast, Nat.zero_add, chk_of]
      · by_cases k5 : kind = 5
        · subst k5
          simp only [show ¬ (5 : Int) = 2 by decide, show ¬ (5 : Int) = 3 by decide, if_true, if_false, or_true] at qo qe ⊢
          cases hg : gdrop d with
          | none =>
            rw [hg] at qd qo
            simp (maxSteps := 2000000) (disch := omega) only [go_sem, doCall, doCallQ, Nat.reduceAdd, Nat.reduceMul, Nat.reduceSub, Nat.reduceDiv, Nat.reduceMod, Nat.reduceLT, Nat.reduceLeDiff, Nat.reduceEqDiff, Nat.reduceBEq, Nat.reduceBNe, Int.reduceToNat, Int.reduceLT, Int.reduceLE, Int.reduceEq, Int.reduceNe, Int.reduceAdd, Int.reduceSub, Int.reduceMul, Int.reduceNeg, bd9, qo, qd, c_where, c_iget, c_at, c_tomb, c_floor, hh, Option.isSome_none, Option.isSome_some, idxC_len, idxD_len, cs_len, av_len, map_cs, map_idx, idxC_take, idxC_drop, plain_av, plain_idx, box_idx, refs_av, owns_av, view_av, ren_av, refs_idx, owns_idx, view_idx, ren_idx, Int.toNat_natCast, Nat.zero_add, chk_of]
          | some r =>
            obtain ⟨o, g⟩ := r
            rw [hg] at qd qo
            rw [← qe (o, g) hg] at qo
            simp only [Option.isSome_some] at qo
            simp (maxSteps := 2000000) (disch := omega) only [go_sem, doCall, doCallQ, Nat.reduceAdd, Nat.reduceMul, Nat.reduceSub, Nat.reduceDiv, Nat.reduceMod, Nat.reduceLT, Nat.reduceLeDiff, Nat.reduceEqDiff, Nat.reduceBEq, Nat.reduceBNe, Int.reduceToNat, Int.reduceLT, Int.reduceLE, Int.reduceEq, Int.reduceNe, Int.reduceAdd, Int.reduceSub, Int.reduceMul, Int.reduceNeg, bd9, qo, qd, c_where, c_iget, c_at, c_tomb, c_floor, hh, Option.isSome_none, Option.isSome_some, idxC_len, idxD_len, cs_len, av_len, map_cs, map_idx, idxC_take, idxC_drop, plain_av, plain_idx, box_idx, refs_av, owns_av, view_av, ren_av, refs_idx, owns_idx, view_idx, ren_idx, Int.toNat_natCast, Nat.zero_add, chk_of]
            cases (decide (0 < (slF x o).fl) && ((slF x o).t1 == a1 && (slF x o).t2 == a2)) <;> simp (maxSteps := 2000000) (disch := omega) only [go_sem, doCall, doCallQ, Nat.reduceAdd, Nat.reduceMul, Nat.reduceSub, Nat.reduceDiv, Nat.reduceMod, Nat.reduceLT, Nat.reduceLeDiff, Nat.reduceEqDiff, Nat.reduceBEq, Nat.reduceBNe, Int.reduceToNat, Int.reduceLT, Int.reduceLE, Int.reduceEq, Int.reduceNe, Int.reduceAdd, Int.reduceSub, Int.reduceMul, Int.reduceNeg, c_where, c_iget, c_at, c_tomb, c_floor, hh, Option.isSome_none, Option.isSome_some, idxC_len, idxD_len, cs_len, av_len, map_cs, map_idx, idxC_take, idxC_drop, plain_av, plain_idx, box_idx, refs_av, owns_av, view_av, ren_av, refs_idx, owns_idx, view_idx, ren_idx, Int.toNat_natCast, Nat.zero_add, chk_of]
        · simp only [k2, k3, k4, k5, if_false, or_self] at qo ⊢
          simp (maxSteps := 2000000) (disch := omega) only [go_sem, doCall, doCallQ, Nat.reduceAdd, Nat.reduceMul, Nat.reduceSub, Nat.reduceDiv, Nat.reduceMod, Nat.reduceLT, Nat.reduceLeDiff, Nat.reduceEqDiff, Nat.reduceBEq, Nat.reduceBNe, Int.reduceToNat, Int.reduceLT, Int.reduceLE, Int.reduceEq, Int.reduceNe, Int.reduceAdd, Int.reduceSub, Int.reduceMul, Int.reduceNeg, bd9, qo, c_where, c_iget, c_at, c_tomb, c_floor, hh, Option.isSome_none, Option.isSome_some, idxC_len, idxD_len, cs_len, av_len, map_cs, map_idx, idxC_take, idxC_drop, plain_av, plain_idx, box_idx, refs_av, owns_av, view_av, ren_av, refs_idx, owns_idx, view_idx, ren_idx, Int.toNat_natCast, Nat.zero_add, chk_of]
end Go.Proofs.YtoipfdbdifoecaaGreatDoor
namespace Go.Proofs.YtoipfdbdifoecaaGreatDoor
open Go Go.Ev Go.Proofs.YtoipfdbdifoecaaGreatDoor.Ir
set_option maxRecDepth 100000
set_option maxHeartbeats 4000000
set_option linter.unusedSimpArgs false
set_option linter.unusedVariables false
theorem r_one (x : Nat → Sl) {n : Nat} (hi : InvS n x) (hn : n ≤ 100000) (e : En) (hd : e.d.length ≤ 1000) : call ir 13 [.ptr 0 0, .agg e.av] [.dbox (idxR x)] = some (.tup [], [.dbox (idxR (oneF x e))]) := by
  obtain ⟨a1, a2, seq, pages, kind, d⟩ := e
  have qb := c_rgetbind d hd
  have qp := c_rgetpiece d hd
  have qd := fun k => c_rgetdrop k d hd
  simp only [oneF, En.av]
  rw [call_eq (fn := ir13) rfl, evF_bnd]
  by_cases k2 : kind = 2
  · subst k2
    simp only [if_true]
    cases hg : gbind d with
    | none =>
      rw [hg] at qb
      simp (maxSteps := 2000000) (disch := omega) only [go_sem, doCall, doCallQ, Nat.reduceAdd, Nat.reduceMul, Nat.reduceSub, Nat.reduceDiv, Nat.reduceMod, Nat.reduceLT, Nat.reduceLeDiff, Nat.reduceEqDiff, Nat.reduceBEq, Nat.reduceBNe, Int.reduceToNat, Int.reduceLT, Int.reduceLE, Int.reduceEq, Int.reduceNe, Int.reduceAdd, Int.reduceSub, Int.reduceMul, Int.reduceNeg, bd13, qb, idxC_len, idxD_len, cs_len, av_len, map_cs, map_idx, idxC_take, idxC_drop, plain_av, plain_idx, box_idx, refs_av, owns_av, view_av, ren_av, refs_idx, owns_idx, view_idx, ren_idx, idxR_len, rs_len, Int.toNat_natCast, Nat.zero_add, chk_of]
    | some r =>
      obtain ⟨o, g, s, l, t⟩ := r
      obtain ⟨ho, hk⟩ := gbind_o hg
      rw [hg, ho] at qb
      simp (maxSteps := 2000000) (disch := omega) only [go_sem, doCall, doCallQ, Nat.reduceAdd, Nat.reduceMul, Nat.reduceSub, Nat.reduceDiv, Nat.reduceMod, Nat.reduceLT, Nat.reduceLeDiff, Nat.reduceEqDiff, Nat.reduceBEq, Nat.reduceBNe, Int.reduceToNat, Int.reduceLT, Int.reduceLE, Int.reduceEq, Int.reduceNe, Int.reduceAdd, Int.reduceSub, Int.reduceMul, Int.reduceNeg, bd13, qb, r_bound x o.toNat hk, idxC_len, idxD_len, cs_len, av_len, map_cs, map_idx, idxC_take, idxC_drop, plain_av, plain_idx, box_idx, refs_av, owns_av, view_av, ren_av, refs_idx, owns_idx, view_idx, ren_idx, idxR_len, rs_len, Int.toNat_natCast, Nat.zero_add, chk_of]
  · by_cases k3 : kind = 3
    · subst k3
      simp only [show ¬ (3 : Int) = 2 by decide, if_true, if_false]
      cases hg : gpiece d with
      | none =>
        rw [hg] at qp
        simp (maxSteps := 2000000) (disch := omega) only [go_sem, doCall, doCallQ, Nat.reduceAdd, Nat.reduceMul, Nat.reduceSub, Nat.reduceDiv, Nat.reduceMod, Nat.reduceLT, Nat.reduceLeDiff, Nat.reduceEqDiff, Nat.reduceBEq, Nat.reduceBNe, Int.reduceToNat, Int.reduceLT, Int.reduceLE, Int.reduceEq, Int.reduceNe, Int.reduceAdd, Int.reduceSub, Int.reduceMul, Int.reduceNeg, bd13, qp, idxC_len, idxD_len, cs_len, av_len, map_cs, map_idx, idxC_take, idxC_drop, plain_av, plain_idx, box_idx, refs_av, owns_av, view_av, ren_av, refs_idx, owns_idx, view_idx, ren_idx, idxR_len, rs_len, Int.toNat_natCast, Nat.zero_add, chk_of]
      | some r =>
        obtain ⟨o, g, i, s⟩ := r
        obtain ⟨ho, hk⟩ := gpiece_o hg
        rw [hg, ho] at qp
        have hx := hi o.toNat
        simp (maxSteps := 2000000) (disch := omega) only [go_sem, doCall, doCallQ, Nat.reduceAdd, Nat.reduceMul, Nat.reduceSub, Nat.reduceDiv, Nat.reduceMod, Nat.reduceLT, Nat.reduceLeDiff, Nat.reduceEqDiff, Nat.reduceBEq, Nat.reduceBNe, Int.reduceToNat, Int.reduceLT, Int.reduceLE, Int.reduceEq, Int.reduceNe, Int.reduceAdd, Int.reduceSub, Int.reduceMul, Int.reduceNeg, bd13, qp, rB_len, rB_take, List.take_length, Nat.le_refl, List.drop_zero, r_piece x o.toNat hk hx.1 (by have := hx.2.1; omega), idxC_len, idxD_len, cs_len, av_len, map_cs, map_idx, idxC_take, idxC_drop, plain_av, plain_idx, box_idx, refs_av, owns_av, view_av, ren_av, refs_idx, owns_idx, view_idx, ren_idx, idxR_len, rs_len, Int.toNat_natCast, Nat.zero_add, chk_of]
    · by_cases k4 : kind = 4
      · subst k4
        simp only [show ¬ (4 : Int) = 2 by decide, show ¬ (4 : Int) = 3 by decide, if_true, if_false, true_or]
        cases hg : gdrop d with
        | none =>
          rw [hg] at qd
          simp (maxSteps := 2000000) (disch := omega) only [go_sem, doCall, doCallQ, Nat.reduceAdd, Nat.reduceMul, Nat.reduceSub, Nat.reduceDiv, Nat.reduceMod, Nat.reduceLT, Nat.reduceLeDiff, Nat.reduceEqDiff, Nat.reduceBEq, Nat.reduceBNe, Int.reduceToNat, Int.reduceLT, Int.reduceLE, Int.reduceEq, Int.reduceNe, Int.reduceAdd, Int.reduceSub, Int.reduceMul, Int.reduceNeg, bd13, qd, idxC_len, idxD_len, cs_len, av_len, map_cs, map_idx, idxC_take, idxC_drop, plain_av, plain_idx, box_idx, refs_av, owns_av, view_av, ren_av, refs_idx, owns_idx, view_idx, ren_idx, idxR_len, rs_len, Int.toNat_natCast, Nat.zero_add, chk_of]
        | some r =>
          obtain ⟨o, g⟩ := r
          obtain ⟨ho, hk⟩ := gdrop_o hg
          rw [hg, ho] at qd
          simp (maxSteps := 2000000) (disch := omega) only [go_sem, doCall, doCallQ, Nat.reduceAdd, Nat.reduceMul, Nat.reduceSub, Nat.reduceDiv, Nat.reduceMod, Nat.reduceLT, Nat.reduceLeDiff, Nat.reduceEqDiff, Nat.reduceBEq, Nat.reduceBNe, Int.reduceToNat, Int.reduceLT, Int.reduceLE, Int.reduceEq, Int.reduceNe, Int.reduceAdd, Int.reduceSub, Int.reduceMul, Int.reduceNeg, bd13, qd, r_forget x o.toNat hk, idxC_len, idxD_len, cs_len, av_len, map_cs, map_idx, idxC_take, idxC_drop, plain_av, plain_idx, box_idx, refs_av, owns_av, view_av, ren_av, refs_idx, owns_idx, view_idx, ren_idx, idxR_len, rs_len, Int.toNat_natCast, Nat.zero_add, chk_of]
      · by_cases k5 : kind = 5
        · subst k5
          simp only [show ¬ (5 : Int) = 2 by decide, show ¬ (5 : Int) = 3 by decide, if_true, if_false, or_true]
          cases hg : gdrop d with
          | none =>
            rw [hg] at qd
            simp (maxSteps := 2000000) (disch := omega) only [go_sem, doCall, doCallQ, Nat.reduceAdd, Nat.reduceMul, Nat.reduceSub, Nat.reduceDiv, Nat.reduceMod, Nat.reduceLT, Nat.reduceLeDiff, Nat.reduceEqDiff, Nat.reduceBEq, Nat.reduceBNe, Int.reduceToNat, Int.reduceLT, Int.reduceLE, Int.reduceEq, Int.reduceNe, Int.reduceAdd, Int.reduceSub, Int.reduceMul, Int.reduceNeg, bd13, qd, idxC_len, idxD_len, cs_len, av_len, map_cs, map_idx, idxC_take, idxC_drop, plain_av, plain_idx, box_idx, refs_av, owns_av, view_av, ren_av, refs_idx, owns_idx, view_idx, ren_idx, idxR_len, rs_len, Int.toNat_natCast, Nat.zero_add, chk_of]
          | some r =>
            obtain ⟨o, g⟩ := r
            obtain ⟨ho, hk⟩ := gdrop_o hg
            rw [hg, ho] at qd
            simp (maxSteps := 2000000) (disch := omega) only [go_sem, doCall, doCallQ, Nat.reduceAdd, Nat.reduceMul, Nat.reduceSub, Nat.reduceDiv, Nat.reduceMod, Nat.reduceLT, Nat.reduceLeDiff, Nat.reduceEqDiff, Nat.reduceBEq, Nat.reduceBNe, Int.reduceToNat, Int.reduceLT, Int.reduceLE, Int.reduceEq, Int.reduceNe, Int.reduceAdd, Int.reduceSub, Int.reduceMul, Int.reduceNeg, bd13, qd, r_forget x o.toNat hk, idxC_len, idxD_len, cs_len, av_len, map_cs, map_idx, idxC_take, idxC_drop, plain_av, plain_idx, box_idx, refs_av, owns_av, view_av, ren_av, refs_idx, owns_idx, view_idx, ren_idx, idxR_len, rs_len, Int.toNat_natCast, Nat.zero_add, chk_of]
        · simp only [k2, k3, k4, k5, or_self, if_false]
          simp (maxSteps := 2000000) (disch := omega) only [go_sem, doCall, doCallQ, Nat.reduceAdd, Nat.reduceMul, Nat.reduceSub, Nat.reduceDiv, Nat.reduceMod, Nat.reduceLT, Nat.reduceLeDiff, Nat.reduceEqDiff, Nat.reduceBEq, Nat.reduceBNe, Int.reduceToNat, Int.reduceLT, Int.reduceLE, Int.reduceEq, Int.reduceNe, Int.reduceAdd, Int.reduceSub, Int.reduceMul, Int.reduceNeg, bd13, eq_false k2, eq_false k3, eq_false k4, eq_false k5, idxC_len, idxD_len, cs_len, av_len, map_cs, map_idx, idxC_take, idxC_drop, plain_av, plain_idx, box_idx, refs_av, owns_av, view_av, ren_av, refs_idx, owns_idx, view_idx, ren_idx, idxR_len, rs_len, Int.toNat_natCast, Nat.zero_add, chk_of]
theorem r_owner (e : En) (hd : e.d.length ≤ 1000) : call ir 11 [.agg e.av] [] = some (match ownF e with
    | some (o, g) => .tup [.d (.int .i64 o), .d (.int .i64 g), .d (.bool true)]
    | none => .tup [.d (.int .i64 0), .d (.int .i64 0), .d (.bool false)], []) := by
  obtain ⟨a1, a2, seq, pages, kind, d⟩ := e
  have qb := c_rgetbind d hd
  have qp := c_rgetpiece d hd
  have qd := fun k => c_rgetdrop k d hd
  simp only [ownF, En.av]
  rw [call_eq (fn := ir11) rfl, evF_bnd]
  by_cases k2 : kind = 2
  · subst k2
    simp only [if_true]
    cases hg : gbind d with
    | none => rw [hg] at qb; simp (maxSteps := 2000000) (disch := omega) only [go_sem, doCall, doCallQ, Nat.reduceAdd, Nat.reduceMul, Nat.reduceSub, Nat.reduceDiv, Nat.reduceMod, Nat.reduceLT, Nat.reduceLeDiff, Nat.reduceEqDiff, Nat.reduceBEq, Nat.reduceBNe, Int.reduceToNat, Int.reduceLT, Int.reduceLE, Int.reduceEq, Int.reduceNe, Int.reduceAdd, Int.reduceSub, Int.reduceMul, Int.reduceNeg, bd11, qb, Option.map_none, idxC_len, idxD_len, cs_len, av_len, map_cs, map_idx, idxC_take, idxC_drop, plain_av, plain_idx, box_idx, refs_av, owns_av, view_av, ren_av, refs_idx, owns_idx, view_idx, ren_idx, idxR_len, rs_len, Int.toNat_natCast, Nat.zero_add, chk_of]
    | some r =>
      obtain ⟨o, g, s, l, t⟩ := r
      rw [hg] at qb
      simp (maxSteps := 2000000) (disch := omega) only [go_sem, doCall, doCallQ, Nat.reduceAdd, Nat.reduceMul, Nat.reduceSub, Nat.reduceDiv, Nat.reduceMod, Nat.reduceLT, Nat.reduceLeDiff, Nat.reduceEqDiff, Nat.reduceBEq, Nat.reduceBNe, Int.reduceToNat, Int.reduceLT, Int.reduceLE, Int.reduceEq, Int.reduceNe, Int.reduceAdd, Int.reduceSub, Int.reduceMul, Int.reduceNeg, bd11, qb, Option.map_some, idxC_len, idxD_len, cs_len, av_len, map_cs, map_idx, idxC_take, idxC_drop, plain_av, plain_idx, box_idx, refs_av, owns_av, view_av, ren_av, refs_idx, owns_idx, view_idx, ren_idx, idxR_len, rs_len, Int.toNat_natCast, Nat.zero_add, chk_of]
  · by_cases k3 : kind = 3
    · subst k3
      simp only [show ¬ (3 : Int) = 2 by decide, if_true, if_false]
      cases hg : gpiece d with
      | none => rw [hg] at qp; simp (maxSteps := 2000000) (disch := omega) only [go_sem, doCall, doCallQ, Nat.reduceAdd, Nat.reduceMul, Nat.reduceSub, Nat.reduceDiv, Nat.reduceMod, Nat.reduceLT, Nat.reduceLeDiff, Nat.reduceEqDiff, Nat.reduceBEq, Nat.reduceBNe, Int.reduceToNat, Int.reduceLT, Int.reduceLE, Int.reduceEq, Int.reduceNe, Int.reduceAdd, Int.reduceSub, Int.reduceMul, Int.reduceNeg, bd11, qp, Option.map_none, idxC_len, idxD_len, cs_len, av_len, map_cs, map_idx, idxC_take, idxC_drop, plain_av, plain_idx, box_idx, refs_av, owns_av, view_av, ren_av, refs_idx, owns_idx, view_idx, ren_idx, idxR_len, rs_len, Int.toNat_natCast, Nat.zero_add, chk_of]
      | some r =>
        obtain ⟨o, g, i, s⟩ := r
        rw [hg] at qp
        simp (maxSteps := 2000000) (disch := omega) only [go_sem, doCall, doCallQ, Nat.reduceAdd, Nat.reduceMul, Nat.reduceSub, Nat.reduceDiv, Nat.reduceMod, Nat.reduceLT, Nat.reduceLeDiff, Nat.reduceEqDiff, Nat.reduceBEq, Nat.reduceBNe, Int.reduceToNat, Int.reduceLT, Int.reduceLE, Int.reduceEq, Int.reduceNe, Int.reduceAdd, Int.reduceSub, Int.reduceMul, Int.reduceNeg, bd11, qp, rB_len, rB_take, List.take_length, Nat.le_refl, List.drop_zero, Option.map_some, idxC_len, idxD_len, cs_len, av_len, map_cs, map_idx, idxC_take, idxC_drop, plain_av, plain_idx, box_idx, refs_av, owns_av, view_av, ren_av, refs_idx, owns_idx, view_idx, ren_idx, idxR_len, rs_len, Int.toNat_natCast, Nat.zero_add, chk_of]
    · by_cases k4 : kind = 4
      · subst k4
        simp only [show ¬ (4 : Int) = 2 by decide, show ¬ (4 : Int) = 3 by decide, if_true, if_false, true_or]
        cases hg : gdrop d with
        | none => rw [hg] at qd; simp (maxSteps := 2000000) (disch := omega) only [go_sem, doCall, doCallQ, Nat.reduceAdd, Nat.reduceMul, Nat.reduceSub, Nat.reduceDiv, Nat.reduceMod, Nat.reduceLT, Nat.reduceLeDiff, Nat.reduceEqDiff, Nat.reduceBEq, Nat.reduceBNe, Int.reduceToNat, Int.reduceLT, Int.reduceLE, Int.reduceEq, Int.reduceNe, Int.reduceAdd, Int.reduceSub, Int.reduceMul, Int.reduceNeg, bd11, qd, idxC_len, idxD_len, cs_len, av_len, map_cs, map_idx, idxC_take, idxC_drop, plain_av, plain_idx, box_idx, refs_av, owns_av, view_av, ren_av, refs_idx, owns_idx, view_idx, ren_idx, idxR_len, rs_len, Int.toNat_natCast, Nat.zero_add, chk_of]
        | some r =>
          obtain ⟨o, g⟩ := r
          rw [hg] at qd
          simp (maxSteps := 2000000) (disch := omega) only [go_sem, doCall, doCallQ, Nat.reduceAdd, Nat.reduceMul, Nat.reduceSub, Nat.reduceDiv, Nat.reduceMod, Nat.reduceLT, Nat.reduceLeDiff, Nat.reduceEqDiff, Nat.reduceBEq, Nat.reduceBNe, Int.reduceToNat, Int.reduceLT, Int.reduceLE, Int.reduceEq, Int.reduceNe, Int.reduceAdd, Int.reduceSub, Int.reduceMul, Int.reduceNeg, bd11, qd, idxC_len, idxD_len, cs_len, av_len, map_cs, map_idx, idxC_take, idxC_drop, plain_av, plain_idx, box_idx, refs_av, owns_av, view_av, ren_av, refs_idx, owns_idx, view_idx, ren_idx, idxR_len, rs_len, Int.toNat_natCast, Nat.zero_add, chk_of]
      · by_cases k5 : kind = 5
        · subst k5
          simp only [show ¬ (5 : Int) = 2 by decide, show ¬ (5 : Int) = 3 by decide, if_true, if_false, or_true]
          cases hg : gdrop d with
          | none => rw [hg] at qd; simp (maxSteps := 2000000) (disch := omega) only [go_sem, doCall, doCallQ, Nat.reduceAdd, Nat.reduceMul, Nat.reduceSub, Nat.reduceDiv, Nat.reduceMod, Nat.reduceLT, Nat.reduceLeDiff, Nat.reduceEqDiff, Nat.reduceBEq, Nat.reduceBNe, Int.reduceToNat, Int.reduceLT, Int.reduceLE, Int.reduceEq, Int.reduceNe, Int.reduceAdd, Int.reduceSub, Int.reduceMul, Int.reduceNeg, bd11, qd, idxC_len, idxD_len, cs_len, av_len, map_cs, map_idx, idxC_take, idxC_drop, plain_av, plain_idx, box_idx, refs_av, owns_av, view_av, ren_av, refs_idx, owns_idx, view_idx, ren_idx, idxR_len, rs_len, Int.toNat_natCast, Nat.zero_add, chk_of]
          | some r =>
            obtain ⟨o, g⟩ := r
            rw [hg] at qd
            simp (maxSteps := 2000000) (disch := omega) only [go_sem, doCall, doCallQ, Nat.reduceAdd, Nat.reduceMul, Nat.reduceSub, Nat.reduceDiv, Nat.reduceMod, Nat.reduceLT, Nat.reduceLeDiff, Nat.reduceEqDiff, Nat.reduceBEq, Nat.reduceBNe, Int.reduceToNat, Int.reduceLT, Int.reduceLE, Int.reduceEq, Int.reduceNe, Int.reduceAdd, Int.reduceSub, Int.reduceMul, Int.reduceNeg, bd11, qd, idxC_len, idxD_len, cs_len, av_len, map_cs, map_idx, idxC_take, idxC_drop, plain_av, plain_idx, box_idx, refs_av, owns_av, view_av, ren_av, refs_idx, owns_idx, view_idx, ren_idx, idxR_len, rs_len, Int.toNat_natCast, Nat.zero_add, chk_of]
        · simp only [k2, k3, k4, k5, or_self, if_false]
          simp (maxSteps := 2000000) (disch := omega) only [go_sem, doCall, doCallQ, Nat.reduceAdd, Nat.reduceMul, Nat.reduceSub, Nat.reduceDiv, Nat.reduceMod, Nat.reduceLT, Nat.reduceLeDiff, Nat.reduceEqDiff, Nat.reduceBEq, Nat.reduceBNe, Int.reduceToNat, Int.reduceLT, Int.reduceLE, Int.reduceEq, Int.reduceNe, Int.reduceAdd, Int.reduceSub, Int.reduceMul, Int.reduceNeg, bd11, eq_false k2, eq_false k3, eq_false k4, eq_false k5, idxC_len, idxD_len, cs_len, av_len, map_cs, map_idx, idxC_take, idxC_drop, plain_av, plain_idx, box_idx, refs_av, owns_av, view_av, ren_av, refs_idx, owns_idx, view_idx, ren_idx, idxR_len, rs_len, Int.toNat_natCast, Nat.zero_add, chk_of]
def atV (L : List (Int × Int × Int)) (i a1 a2 g gen : Int) : Bool := match findM i L with
  | some v => (v.1 == a1 && v.2 == a2) && decide (g = gen)
  | none => false
theorem lp_rlive (R : List D) (s : Sl) (hs : SrtM (pmK s.pm)) (hL : (pmK s.pm).length ≤ 1000000) (e : En) (pc : List D) (i gen : Int) (hpc : pc.length = 4) (hi : pc.getD 2 .nilp = .int .i64 i) (K : Ex → St → Option (AV × Heap))
    (h1 : K (.exit 1) ⟨1, [.unk, .unk, .unk, .unk, .unk, .unk, .unk, .unk, .unk, .unk, .unk, .unk, .unk, .unk, .unk, .unk, .unk, .unk, .unk, .unk, .unk, .unk, .unk, .unk, .unk, .unk, .unk, .unk, .unk, .unk, .unk, .unk, .unk, .unk, .unk, .unk, .unk, .unk, .unk, .unk, .unk, .unk, .unk, .unk, .unk, .unk, .unk, .unk, .unk, .unk, .unk, .unk, .unk, .unk, .unk, .unk, .unk, .unk, .unk, .unk, .unk, .unk, .unk, .unk, .unk, .unk, .unk, .unk, .unk, .unk, .unk, .unk, .unk, .unk, .unk, .unk, .unk, .unk, .unk, .unk, .unk, .unk, .unk, .unk, .unk, .unk, .unk, .unk, .unk, .unk, .unk, .unk, .unk, .unk, .unk, .unk], [.dbox R]⟩ = some (.d (.bool false), [.dbox R])) (h2 : ∀ b : Bool, K .ret ⟨1, [.unk, .unk, .unk, .unk, .d (.bool b), .unk, .unk, .unk, .unk, .unk, .unk, .unk, .unk, .unk, .unk, .unk, .unk, .unk, .unk, .unk, .unk, .unk, .unk, .unk, .unk, .unk, .unk, .unk, .unk, .unk, .unk, .unk, .unk, .unk, .unk, .unk, .unk, .unk, .unk, .unk, .unk, .unk, .unk, .unk, .unk, .unk, .unk, .unk, .unk, .unk, .unk, .unk, .unk, .unk, .unk, .unk, .unk, .unk, .unk, .unk, .unk, .unk, .unk, .unk, .unk, .unk, .unk, .unk, .unk, .unk, .unk, .unk, .unk, .unk, .unk, .unk, .unk, .unk, .unk, .unk, .unk, .unk, .unk, .unk, .unk, .unk, .unk, .unk, .unk, .unk, .unk, .unk, .unk, .unk, .unk, .unk], [.dbox R]⟩ = some (.d (.bool b), [.dbox R]))
    (j : Nat) (hj : j ≤ (pmK s.pm).length) (hn : ∀ p ∈ (pmK s.pm).take j, p.1 ≠ i) :
    bnd (evC (call ir) (loop ir) lp10_0 (st10_0 1 (.ptr 1 0) (.d (.int .i64 gen)) (.ptr 2 0) (.ptr 3 0) (.d (.list 3 (pmR (pmK s.pm)))) (.d (.int .i64 (pmK s.pm).length)) (.d (.int .i64 j)) [.dbox R, .dbox e.cs, .dbox s.rs, .dbox pc]))
      (lpC (call ir) (loop ir) [3, 6, 8, 9, 72, 73, 74] lp10_0 K) =
    some (.d (.bool (atV (pmK s.pm) i e.a1 e.a2 s.g gen)), [.dbox R]) := by
  have hl := pmR_len (pmK s.pm)
  by_cases hz : j = (pmK s.pm).length
  · have e1 := eq_false (show ¬ (j : Int) < ((pmK s.pm).length : Nat) by omega)
    have hf : findM i (pmK s.pm) = none := findM_none (by rw [hz, List.take_of_length_le (Nat.le_refl _)] at hn; exact hn)
    have ev : atV (pmK s.pm) i e.a1 e.a2 s.g gen = false := by unfold atV; rw [hf]
    rw [ev]
    simp (maxSteps := 2000000) (disch := omega) only [go_sem, doCall, doCallQ, Nat.reduceAdd, Nat.reduceMul, Nat.reduceSub, Nat.reduceDiv, Nat.reduceMod, Nat.reduceLT, Nat.reduceLeDiff, Nat.reduceEqDiff, Nat.reduceBEq, Nat.reduceBNe, Int.reduceToNat, Int.reduceLT, Int.reduceLE, Int.reduceEq, Int.reduceNe, Int.reduceAdd, Int.reduceSub, Int.reduceMul, Int.reduceNeg, u10_0, lb10_0, e1, idxC_len, idxD_len, cs_len, av_len, map_cs, map_idx, idxC_take, idxC_drop, plain_av, plain_idx, box_idx, refs_av, owns_av, view_av, ren_av, refs_idx, owns_idx, view_idx, ren_idx, idxR_len, rs_len, Int.toNat_natCast, Nat.zero_add, chk_of]
    exact h1
  · have hj' : j < (pmK s.pm).length := by omega
    have e1 := eq_true (show (j : Int) < ((pmK s.pm).length : Nat) by omega)
    have hw := wr_succ (i := j) (by omega)
    have hr := pmR_get (pmK s.pm) hj'
    have hcs : e.cs.length = 6 := rfl
    by_cases c : (pmK s.pm)[j].1 = i
    · have hf := findM_get hs hj'
      rw [c] at hf
      have ev : atV (pmK s.pm) i e.a1 e.a2 s.g gen = (((pmK s.pm)[j].2.1 == e.a1 && (pmK s.pm)[j].2.2 == e.a2) && decide (s.g = gen)) := by unfold atV; rw [hf]
      rw [ev]
      cases hq : ((pmK s.pm)[j].2.1 == e.a1 && (pmK s.pm)[j].2.2 == e.a2)
      · simp (maxSteps := 2000000) (disch := omega) only [go_sem, doCall, doCallQ, Nat.reduceAdd, Nat.reduceMul, Nat.reduceSub, Nat.reduceDiv, Nat.reduceMod, Nat.reduceLT, Nat.reduceLeDiff, Nat.reduceEqDiff, Nat.reduceBEq, Nat.reduceBNe, Int.reduceToNat, Int.reduceLT, Int.reduceLE, Int.reduceEq, Int.reduceNe, Int.reduceAdd, Int.reduceSub, Int.reduceMul, Int.reduceNeg, u10_0, lb10_0, e1, hr, hl, hpc, hi, eq_true c, hq, En.cs, Sl.rs, Bool.false_and, idxC_len, idxD_len, cs_len, av_len, map_cs, map_idx, idxC_take, idxC_drop, plain_av, plain_idx, box_idx, refs_av, owns_av, view_av, ren_av, refs_idx, owns_idx, view_idx, ren_idx, idxR_len, rs_len, Int.toNat_natCast, Nat.zero_add, chk_of]
        exact h2 _
      · simp (maxSteps := 2000000) (disch := omega) only [go_sem, doCall, doCallQ, Nat.reduceAdd, Nat.reduceMul, Nat.reduceSub, Nat.reduceDiv, Nat.reduceMod, Nat.reduceLT, Nat.reduceLeDiff, Nat.reduceEqDiff, Nat.reduceBEq, Nat.reduceBNe, Int.reduceToNat, Int.reduceLT, Int.reduceLE, Int.reduceEq, Int.reduceNe, Int.reduceAdd, Int.reduceSub, Int.reduceMul, Int.reduceNeg, u10_0, lb10_0, e1, hr, hl, hpc, hi, eq_true c, hq, En.cs, Sl.rs, Bool.true_and, idxC_len, idxD_len, cs_len, av_len, map_cs, map_idx, idxC_take, idxC_drop, plain_av, plain_idx, box_idx, refs_av, owns_av, view_av, ren_av, refs_idx, owns_idx, view_idx, ren_idx, idxR_len, rs_len, Int.toNat_natCast, Nat.zero_add, chk_of]
        exact h2 _
    · have ih := lp_rlive R s hs hL e pc i gen hpc hi K h1 h2 (j + 1) (by omega) (fun p hp => by
        rw [List.take_add_one, List.getElem?_eq_getElem hj'] at hp
        rcases List.mem_append.1 hp with hp | hp
        · exact hn p hp
        · simp at hp; rw [hp]; exact c)
      simp (maxSteps := 2000000) (disch := omega) only [go_sem, doCall, doCallQ, Nat.reduceAdd, Nat.reduceMul, Nat.reduceSub, Nat.reduceDiv, Nat.reduceMod, Nat.reduceLT, Nat.reduceLeDiff, Nat.reduceEqDiff, Nat.reduceBEq, Nat.reduceBNe, Int.reduceToNat, Int.reduceLT, Int.reduceLE, Int.reduceEq, Int.reduceNe, Int.reduceAdd, Int.reduceSub, Int.reduceMul, Int.reduceNeg, u10_0, lb10_0, e1, hr, hl, hpc, hi, eq_false c, idxC_len, idxD_len, cs_len, av_len, map_cs, map_idx, idxC_take, idxC_drop, plain_av, plain_idx, box_idx, refs_av, owns_av, view_av, ren_av, refs_idx, owns_idx, view_idx, ren_idx, idxR_len, rs_len, Int.toNat_natCast, Nat.zero_add, chk_of]
      rw [loop_step1]
      simp (maxSteps := 2000000) (disch := omega) only [go_sem, doCall, doCallQ, Nat.reduceAdd, Nat.reduceMul, Nat.reduceSub, Nat.reduceDiv, Nat.reduceMod, Nat.reduceLT, Nat.reduceLeDiff, Nat.reduceEqDiff, Nat.reduceBEq, Nat.reduceBNe, Int.reduceToNat, Int.reduceLT, Int.reduceLE, Int.reduceEq, Int.reduceNe, Int.reduceAdd, Int.reduceSub, Int.reduceMul, Int.reduceNeg, hw, idxC_len, idxD_len, cs_len, av_len, map_cs, map_idx, idxC_take, idxC_drop, plain_av, plain_idx, box_idx, refs_av, owns_av, view_av, ren_av, refs_idx, owns_idx, view_idx, ren_idx, idxR_len, rs_len, Int.toNat_natCast, Nat.zero_add, chk_of]
      try simp (maxSteps := 2000000) only [go_sem, doCall, doCallQ, Nat.reduceAdd, Nat.reduceMul, Nat.reduceSub, Nat.reduceDiv, Nat.reduceMod, Nat.reduceLT, Nat.reduceLeDiff, Nat.reduceEqDiff, Nat.reduceBEq, Nat.reduceBNe, Int.reduceToNat, Int.reduceLT, Int.reduceLE, Int.reduceEq, Int.reduceNe, Int.reduceAdd, Int.reduceSub, Int.reduceMul, Int.reduceNeg] at ih
      exact ih
termination_by (pmK s.pm).length - j
end Go.Proofs.YtoipfdbdifoecaaGreatDoor
