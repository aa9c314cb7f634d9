/- The index: one slot. Own work. The index: sixteen slots. Own work. -/
import Derived.Test.YtoipfdbdifoecaaGreatDoorIrZ
import Derived.Test.YtoipfdbdifoecaaGreatDoorEvArg
import Derived.Test.YtoipfdbdifoecaaGreatDoorEvNatM
namespace Go.Proofs.YtoipfdbdifoecaaGreatDoor
open Go Go.Ev Go.Proofs.YtoipfdbdifoecaaGreatDoor.Ir
set_option maxRecDepth 100000
set_option maxHeartbeats 4000000
set_option linter.unusedSimpArgs false
set_option linter.unusedVariables false
abbrev PM := Option (List (Int × Int × Int))
def adD (p : Int × Int) : D := .agg [.int .i64 p.1, .int .i64 p.2]
def mpD (l : List (Int × Int × Int)) : List (Int × D) := l.map fun p => (p.1, adD p.2)
def pmD : PM → D
  | none => .nilm
  | some l => .mapv (mpD l)
theorem put_mpD (k : Int) (v : Int × Int) : ∀ l : List (Int × Int × Int), putM k (adD v) (mpD l) = mpD (putM k v l)
  | [] => rfl
  | (a, d) :: l => by
    simp only [mpD, List.map_cons, putM]
    split
    · rfl
    · split
      · rfl
      · have := put_mpD k v l
        simp only [mpD] at this
        simp only [List.map_cons, this]
theorem find_mpD (k : Int) : ∀ l : List (Int × Int × Int), findM k (mpD l) = (findM k l).map adD
  | [] => rfl
  | (a, d) :: l => by
    simp only [mpD, List.map_cons, findM]
    split
    · rfl
    · exact find_mpD k l
/-- What there is of an object. -/
structure Sl where
  b : Bool
  o : Int
  g : Int
  tag : List UInt8
  len : Int
  tick : Int
  a1 : Int
  a2 : Int
  pm : PM
  fl : Int
  t1 : Int
  t2 : Int
def Sl.cs (s : Sl) : List D := [.bool s.b, .int .i64 s.o, .int .i64 s.g, .str s.tag, .int .i64 s.len, .int .i64 s.tick, .int .i64 s.a1, .int .i64 s.a2, pmD s.pm, .int .i64 s.fl, .int .i64 s.t1, .int .i64 s.t2]
def Sl.av (s : Sl) : List AV := [.d (.bool s.b), .d (.int .i64 s.o), .d (.int .i64 s.g), .d (.str s.tag), .d (.int .i64 s.len), .d (.int .i64 s.tick), .d (.int .i64 s.a1), .d (.int .i64 s.a2), .d (pmD s.pm), .d (.int .i64 s.fl), .d (.int .i64 s.t1), .d (.int .i64 s.t2)]
def forg1 (s : Sl) (gen a1 a2 : Int) : Sl := if gen ≥ s.fl ∧ gen > 0 then { s with fl := gen, t1 := a1, t2 := a2 } else s
def forg2 (s : Sl) (gen : Int) : Sl := if s.b = true ∧ s.g ≤ gen then { s with b := false, o := 0, g := 0, tag := [], len := 0, tick := 0, a1 := 0, a2 := 0, pm := none } else s
def forg (s : Sl) (gen a1 a2 : Int) : Sl := forg2 (forg1 s gen a1 a2) gen
theorem x_forg (s : Sl) (gen a1 a2 : Int) : call ir 67 [.agg s.av, .ptr 0 0, .ptr 1 0] [.dbox [.int .i64 gen], .dbox [.int .i64 a1, .int .i64 a2]] = some (.agg (forg s gen a1 a2).av, [.dbox [.int .i64 gen], .dbox [.int .i64 a1, .int .i64 a2]]) := by
  obtain ⟨b, o, g, tag, len, tick, b1, b2, pm, fl, t1, t2⟩ := s
  rw [call_eq (fn := ir67) rfl, evF_bnd]
  by_cases h1 : gen ≥ fl
  · by_cases h2 : gen > 0
    · cases b
      · simp only [forg, forg1, forg2, Sl.av, h1, h2, and_self, if_true, Bool.false_eq_true, false_and, if_false]
        simp (maxSteps := 2000000) only [go_sem, doCall, doCallQ, Nat.reduceAdd, Nat.reduceMul, Nat.reduceSub, Nat.reduceDiv, Nat.reduceMod, Nat.reduceLT, Nat.reduceLeDiff, Nat.reduceEqDiff, Nat.reduceBEq, Nat.reduceBNe, Int.reduceToNat, Int.reduceLT, Int.reduceLE, Int.reduceEq, Int.reduceNe, Int.reduceAdd, Int.reduceSub, Int.reduceMul, Int.reduceNeg, bd67, eq_true h1, eq_true h2]
      · by_cases h3 : g ≤ gen
        · simp only [forg, forg1, forg2, Sl.av, h1, h2, h3, and_self, if_true, pmD]
          simp (maxSteps := 2000000) only [go_sem, doCall, doCallQ, Nat.reduceAdd, Nat.reduceMul, Nat.reduceSub, Nat.reduceDiv, Nat.reduceMod, Nat.reduceLT, Nat.reduceLeDiff, Nat.reduceEqDiff, Nat.reduceBEq, Nat.reduceBNe, Int.reduceToNat, Int.reduceLT, Int.reduceLE, Int.reduceEq, Int.reduceNe, Int.reduceAdd, Int.reduceSub, Int.reduceMul, Int.reduceNeg, bd67, eq_true h1, eq_true h2, eq_true h3]
        · simp only [forg, forg1, forg2, Sl.av, h1, h2, h3, and_self, and_false, if_false, if_true]
          simp (maxSteps := 2000000) only [go_sem, doCall, doCallQ, Nat.reduceAdd, Nat.reduceMul, Nat.reduceSub, Nat.reduceDiv, Nat.reduceMod, Nat.reduceLT, Nat.reduceLeDiff, Nat.reduceEqDiff, Nat.reduceBEq, Nat.reduceBNe, Int.reduceToNat, Int.reduceLT, Int.reduceLE, Int.reduceEq, Int.reduceNe, Int.reduceAdd, Int.reduceSub, Int.reduceMul, Int.reduceNeg, bd67, eq_true h1, eq_true h2, eq_false h3]
    · cases b
      · simp only [forg, forg1, forg2, Sl.av, h1, h2, and_false, if_false, Bool.false_eq_true, false_and]
        simp (maxSteps := 2000000) only [go_sem, doCall, doCallQ, Nat.reduceAdd, Nat.reduceMul, Nat.reduceSub, Nat.reduceDiv, Nat.reduceMod, Nat.reduceLT, Nat.reduceLeDiff, Nat.reduceEqDiff, Nat.reduceBEq, Nat.reduceBNe, Int.reduceToNat, Int.reduceLT, Int.reduceLE, Int.reduceEq, Int.reduceNe, Int.reduceAdd, Int.reduceSub, Int.reduceMul, Int.reduceNeg, bd67, eq_true h1, eq_false h2]
      · by_cases h3 : g ≤ gen
        · simp only [forg, forg1, forg2, Sl.av, h1, h2, h3, and_false, if_false, and_self, if_true, pmD]
          simp (maxSteps := 2000000) only [go_sem, doCall, doCallQ, Nat.reduceAdd, Nat.reduceMul, Nat.reduceSub, Nat.reduceDiv, Nat.reduceMod, Nat.reduceLT, Nat.reduceLeDiff, Nat.reduceEqDiff, Nat.reduceBEq, Nat.reduceBNe, Int.reduceToNat, Int.reduceLT, Int.reduceLE, Int.reduceEq, Int.reduceNe, Int.reduceAdd, Int.reduceSub, Int.reduceMul, Int.reduceNeg, bd67, eq_true h1, eq_false h2, eq_true h3]
        · simp only [forg, forg1, forg2, Sl.av, h1, h2, h3, and_false, if_false]
          simp (maxSteps := 2000000) only [go_sem, doCall, doCallQ, Nat.reduceAdd, Nat.reduceMul, Nat.reduceSub, Nat.reduceDiv, Nat.reduceMod, Nat.reduceLT, Nat.reduceLeDiff, Nat.reduceEqDiff, Nat.reduceBEq, Nat.reduceBNe, Int.reduceToNat, Int.reduceLT, Int.reduceLE, Int.reduceEq, Int.reduceNe, Int.reduceAdd, Int.reduceSub, Int.reduceMul, Int.reduceNeg, bd67, eq_true h1, eq_false h2, eq_false h3]
  · cases b
    · simp only [forg, forg1, forg2, Sl.av, h1, false_and, if_false, Bool.false_eq_true]
      simp (maxSteps := 2000000) only [go_sem, doCall, doCallQ, Nat.reduceAdd, Nat.reduceMul, Nat.reduceSub, Nat.reduceDiv, Nat.reduceMod, Nat.reduceLT, Nat.reduceLeDiff, Nat.reduceEqDiff, Nat.reduceBEq, Nat.reduceBNe, Int.reduceToNat, Int.reduceLT, Int.reduceLE, Int.reduceEq, Int.reduceNe, Int.reduceAdd, Int.reduceSub, Int.reduceMul, Int.reduceNeg, bd67, eq_false h1]
    · by_cases h3 : g ≤ gen
      · simp only [forg, forg1, forg2, Sl.av, h1, h3, false_and, if_false, and_self, if_true, pmD]
        simp (maxSteps := 2000000) only [go_sem, doCall, doCallQ, Nat.reduceAdd, Nat.reduceMul, Nat.reduceSub, Nat.reduceDiv, Nat.reduceMod, Nat.reduceLT, Nat.reduceLeDiff, Nat.reduceEqDiff, Nat.reduceBEq, Nat.reduceBNe, Int.reduceToNat, Int.reduceLT, Int.reduceLE, Int.reduceEq, Int.reduceNe, Int.reduceAdd, Int.reduceSub, Int.reduceMul, Int.reduceNeg, bd67, eq_false h1, eq_true h3]
      · simp only [forg, forg1, forg2, Sl.av, h1, h3, false_and, and_false, if_false]
        simp (maxSteps := 2000000) only [go_sem, doCall, doCallQ, Nat.reduceAdd, Nat.reduceMul, Nat.reduceSub, Nat.reduceDiv, Nat.reduceMod, Nat.reduceLT, Nat.reduceLeDiff, Nat.reduceEqDiff, Nat.reduceBEq, Nat.reduceBNe, Int.reduceToNat, Int.reduceLT, Int.reduceLE, Int.reduceEq, Int.reduceNe, Int.reduceAdd, Int.reduceSub, Int.reduceMul, Int.reduceNeg, bd67, eq_false h1, eq_false h3]

def bound (s : Sl) (o g : Int) (tag : List UInt8) (len tick a1 a2 : Int) : Sl :=
  if g ≤ s.fl then s
  else if s.b = false ∨ s.g < g then { s with b := true, o := o, g := g, tag := tag, len := len, tick := tick, a1 := a1, a2 := a2, pm := none }
  else if s.g = g ∧ s.tag = tag ∧ s.len = len ∧ s.tick ≤ tick then { s with tick := tick, a1 := a1, a2 := a2 } else s
theorem x_bound (s : Sl) (o g : Int) (tag : List UInt8) (len tick a1 a2 : Int) : call ir 64 [.agg s.av, .ptr 0 0, .ptr 1 0] [.dbox [.int .i64 o, .int .i64 g, .str tag, .int .i64 len, .int .i64 tick], .dbox [.int .i64 a1, .int .i64 a2]] =
    some (.agg (bound s o g tag len tick a1 a2).av, [.dbox [.int .i64 o, .int .i64 g, .str tag, .int .i64 len, .int .i64 tick], .dbox [.int .i64 a1, .int .i64 a2]]) := by
  obtain ⟨b, o0, g0, tag0, len0, tick0, b1, b2, pm, fl, t1, t2⟩ := s
  rw [call_eq (fn := ir64) rfl, evF_bnd]
  by_cases h1 : g ≤ fl
  · simp only [bound, Sl.av, h1, if_true]
    simp (maxSteps := 2000000) only [go_sem, doCall, doCallQ, Nat.reduceAdd, Nat.reduceMul, Nat.reduceSub, Nat.reduceDiv, Nat.reduceMod, Nat.reduceLT, Nat.reduceLeDiff, Nat.reduceEqDiff, Nat.reduceBEq, Nat.reduceBNe, Int.reduceToNat, Int.reduceLT, Int.reduceLE, Int.reduceEq, Int.reduceNe, Int.reduceAdd, Int.reduceSub, Int.reduceMul, Int.reduceNeg, bd64, eq_true h1]
  · cases b
    · simp only [bound, Sl.av, h1, if_false, true_or, if_true, pmD]
      simp (maxSteps := 2000000) only [go_sem, doCall, doCallQ, Nat.reduceAdd, Nat.reduceMul, Nat.reduceSub, Nat.reduceDiv, Nat.reduceMod, Nat.reduceLT, Nat.reduceLeDiff, Nat.reduceEqDiff, Nat.reduceBEq, Nat.reduceBNe, Int.reduceToNat, Int.reduceLT, Int.reduceLE, Int.reduceEq, Int.reduceNe, Int.reduceAdd, Int.reduceSub, Int.reduceMul, Int.reduceNeg, bd64, eq_false h1]
    · by_cases h2 : g0 < g
      · simp only [bound, Sl.av, h1, h2, if_false, or_true, if_true, pmD]
        simp (maxSteps := 2000000) only [go_sem, doCall, doCallQ, Nat.reduceAdd, Nat.reduceMul, Nat.reduceSub, Nat.reduceDiv, Nat.reduceMod, Nat.reduceLT, Nat.reduceLeDiff, Nat.reduceEqDiff, Nat.reduceBEq, Nat.reduceBNe, Int.reduceToNat, Int.reduceLT, Int.reduceLE, Int.reduceEq, Int.reduceNe, Int.reduceAdd, Int.reduceSub, Int.reduceMul, Int.reduceNeg, bd64, eq_false h1, eq_true h2]
      · by_cases h3 : g0 = g
        · subst h3
          by_cases h4 : tag0 = tag
          · subst h4
            by_cases h5 : len0 = len
            · subst h5
              by_cases h6 : tick0 ≤ tick
              · simp only [bound, Sl.av, h1, h2, h6, if_false, Bool.true_eq_false, or_self, and_self, if_true]
                simp (maxSteps := 2000000) only [go_sem, doCall, doCallQ, Nat.reduceAdd, Nat.reduceMul, Nat.reduceSub, Nat.reduceDiv, Nat.reduceMod, Nat.reduceLT, Nat.reduceLeDiff, Nat.reduceEqDiff, Nat.reduceBEq, Nat.reduceBNe, Int.reduceToNat, Int.reduceLT, Int.reduceLE, Int.reduceEq, Int.reduceNe, Int.reduceAdd, Int.reduceSub, Int.reduceMul, Int.reduceNeg, bd64, eq_false h1, eq_false h2, beq_self_eq_true, eq_true h6]
              · simp only [bound, Sl.av, h1, h2, h6, if_false, Bool.true_eq_false, or_self, and_false]
                simp (maxSteps := 2000000) only [go_sem, doCall, doCallQ, Nat.reduceAdd, Nat.reduceMul, Nat.reduceSub, Nat.reduceDiv, Nat.reduceMod, Nat.reduceLT, Nat.reduceLeDiff, Nat.reduceEqDiff, Nat.reduceBEq, Nat.reduceBNe, Int.reduceToNat, Int.reduceLT, Int.reduceLE, Int.reduceEq, Int.reduceNe, Int.reduceAdd, Int.reduceSub, Int.reduceMul, Int.reduceNeg, bd64, eq_false h1, eq_false h2, beq_self_eq_true, eq_false h6]
            · simp only [bound, Sl.av, h1, h2, h5, if_false, Bool.true_eq_false, or_self, and_false, false_and]
              simp (maxSteps := 2000000) only [go_sem, doCall, doCallQ, Nat.reduceAdd, Nat.reduceMul, Nat.reduceSub, Nat.reduceDiv, Nat.reduceMod, Nat.reduceLT, Nat.reduceLeDiff, Nat.reduceEqDiff, Nat.reduceBEq, Nat.reduceBNe, Int.reduceToNat, Int.reduceLT, Int.reduceLE, Int.reduceEq, Int.reduceNe, Int.reduceAdd, Int.reduceSub, Int.reduceMul, Int.reduceNeg, bd64, eq_false h1, eq_false h2, beq_self_eq_true, eq_false h5]
          · have h4' : (tag0 == tag) = false := by simpa using h4
            simp only [bound, Sl.av, h1, h2, h4, if_false, Bool.true_eq_false, or_self, and_false, false_and]
            simp (maxSteps := 2000000) only [go_sem, doCall, doCallQ, Nat.reduceAdd, Nat.reduceMul, Nat.reduceSub, Nat.reduceDiv, Nat.reduceMod, Nat.reduceLT, Nat.reduceLeDiff, Nat.reduceEqDiff, Nat.reduceBEq, Nat.reduceBNe, Int.reduceToNat, Int.reduceLT, Int.reduceLE, Int.reduceEq, Int.reduceNe, Int.reduceAdd, Int.reduceSub, Int.reduceMul, Int.reduceNeg, bd64, eq_false h1, eq_false h2, h4', eq_false h4]
        · simp only [bound, Sl.av, h1, h2, h3, if_false, Bool.true_eq_false, or_self, false_and]
          simp (maxSteps := 2000000) only [go_sem, doCall, doCallQ, Nat.reduceAdd, Nat.reduceMul, Nat.reduceSub, Nat.reduceDiv, Nat.reduceMod, Nat.reduceLT, Nat.reduceLeDiff, Nat.reduceEqDiff, Nat.reduceBEq, Nat.reduceBNe, Int.reduceToNat, Int.reduceLT, Int.reduceLE, Int.reduceEq, Int.reduceNe, Int.reduceAdd, Int.reduceSub, Int.reduceMul, Int.reduceNeg, bd64, eq_false h1, eq_false h2, eq_false h3]

def pmPut (i a1 a2 : Int) : PM → PM
  | none => some [(i, a1, a2)]
  | some l => some (putM i (a1, a2) l)
def pie (s : Sl) (gen i a1 a2 : Int) : Sl := if s.b = false ∨ ¬ s.g = gen ∨ i < 0 ∨ i > 4096 then s else { s with pm := pmPut i a1 a2 s.pm }
theorem c_mclone_nil : call ir 66 [.d .nilm] [] = some (.d .nilm, []) := by
  rw [call_nat (by rfl)]; rfl
theorem c_mclone (es : List (Int × D)) : call ir 66 [.d (.mapv es)] [] = some (.mref 0, [.mp es]) := by
  rw [call_nat (by rfl)]; rfl
theorem x_piece (s : Sl) (gen i a1 a2 : Int) : call ir 65 [.agg s.av, .ptr 0 0, .ptr 1 0, .ptr 2 0] [.dbox [.int .i64 gen], .dbox [.int .i64 i], .dbox [.int .i64 a1, .int .i64 a2]] =
    some (.agg (pie s gen i a1 a2).av, [.dbox [.int .i64 gen], .dbox [.int .i64 i], .dbox [.int .i64 a1, .int .i64 a2]]) := by
  obtain ⟨b, o0, g0, tag0, len0, tick0, b1, b2, pm, fl, t1, t2⟩ := s
  rw [call_eq (fn := ir65) rfl, evF_bnd]
  cases b
  · simp only [pie, Sl.av, true_or, if_true]
    simp (maxSteps := 2000000) only [go_sem, doCall, doCallQ, Nat.reduceAdd, Nat.reduceMul, Nat.reduceSub, Nat.reduceDiv, Nat.reduceMod, Nat.reduceLT, Nat.reduceLeDiff, Nat.reduceEqDiff, Nat.reduceBEq, Nat.reduceBNe, Int.reduceToNat, Int.reduceLT, Int.reduceLE, Int.reduceEq, Int.reduceNe, Int.reduceAdd, Int.reduceSub, Int.reduceMul, Int.reduceNeg, bd65]
  · by_cases h1 : g0 = gen
    · by_cases h2 : i < 0
      · simp only [pie, Sl.av, h2, true_or, or_true, if_true]
        simp (maxSteps := 2000000) only [go_sem, doCall, doCallQ, Nat.reduceAdd, Nat.reduceMul, Nat.reduceSub, Nat.reduceDiv, Nat.reduceMod, Nat.reduceLT, Nat.reduceLeDiff, Nat.reduceEqDiff, Nat.reduceBEq, Nat.reduceBNe, Int.reduceToNat, Int.reduceLT, Int.reduceLE, Int.reduceEq, Int.reduceNe, Int.reduceAdd, Int.reduceSub, Int.reduceMul, Int.reduceNeg, bd65, eq_true h1, eq_true h2]
      · by_cases h3 : i > 4096
        · simp only [pie, Sl.av, h3, true_or, or_true, if_true]
          simp (maxSteps := 2000000) only [go_sem, doCall, doCallQ, Nat.reduceAdd, Nat.reduceMul, Nat.reduceSub, Nat.reduceDiv, Nat.reduceMod, Nat.reduceLT, Nat.reduceLeDiff, Nat.reduceEqDiff, Nat.reduceBEq, Nat.reduceBNe, Int.reduceToNat, Int.reduceLT, Int.reduceLE, Int.reduceEq, Int.reduceNe, Int.reduceAdd, Int.reduceSub, Int.reduceMul, Int.reduceNeg, bd65, eq_true h1, eq_false h2, eq_true h3]
        · simp only [pie, Sl.av, h1, h2, h3, Bool.true_eq_false, not_true_eq_false, or_self, if_false]
          cases pm with
          | none =>
            simp only [pmPut, pmD, mpD, List.map_cons, List.map_nil]
            simp (maxSteps := 2000000) only [go_sem, doCall, doCallQ, Nat.reduceAdd, Nat.reduceMul, Nat.reduceSub, Nat.reduceDiv, Nat.reduceMod, Nat.reduceLT, Nat.reduceLeDiff, Nat.reduceEqDiff, Nat.reduceBEq, Nat.reduceBNe, Int.reduceToNat, Int.reduceLT, Int.reduceLE, Int.reduceEq, Int.reduceNe, Int.reduceAdd, Int.reduceSub, Int.reduceMul, Int.reduceNeg, bd65, eq_true h1, eq_false h2, eq_false h3, c_mclone_nil, putM]
            rfl
          | some l =>
            simp only [pmPut, pmD, ← put_mpD]
            simp (maxSteps := 2000000) only [go_sem, doCall, doCallQ, Nat.reduceAdd, Nat.reduceMul, Nat.reduceSub, Nat.reduceDiv, Nat.reduceMod, Nat.reduceLT, Nat.reduceLeDiff, Nat.reduceEqDiff, Nat.reduceBEq, Nat.reduceBNe, Int.reduceToNat, Int.reduceLT, Int.reduceLE, Int.reduceEq, Int.reduceNe, Int.reduceAdd, Int.reduceSub, Int.reduceMul, Int.reduceNeg, bd65, eq_true h1, eq_false h2, eq_false h3, c_mclone]
            rfl
    · simp only [pie, Sl.av, h1, not_false_eq_true, true_or, or_true, if_true]
      simp (maxSteps := 2000000) only [go_sem, doCall, doCallQ, Nat.reduceAdd, Nat.reduceMul, Nat.reduceSub, Nat.reduceDiv, Nat.reduceMod, Nat.reduceLT, Nat.reduceLeDiff, Nat.reduceEqDiff, Nat.reduceBEq, Nat.reduceBNe, Int.reduceToNat, Int.reduceLT, Int.reduceLE, Int.reduceEq, Int.reduceNe, Int.reduceAdd, Int.reduceSub, Int.reduceMul, Int.reduceNeg, bd65, eq_false h1]
end Go.Proofs.YtoipfdbdifoecaaGreatDoor
namespace Go.Proofs.YtoipfdbdifoecaaGreatDoor
open Go Go.Ev Go.Proofs.YtoipfdbdifoecaaGreatDoor.Ir
set_option maxRecDepth 100000
set_option maxHeartbeats 4000000
set_option linter.unusedSimpArgs false
set_option linter.unusedVariables false
def idxC (x : Nat → Sl) : List D := (x 0).cs ++ ((x 1).cs ++ ((x 2).cs ++ ((x 3).cs ++ ((x 4).cs ++ ((x 5).cs ++ ((x 6).cs ++ ((x 7).cs ++ ((x 8).cs ++ ((x 9).cs ++ ((x 10).cs ++ ((x 11).cs ++ ((x 12).cs ++ ((x 13).cs ++ ((x 14).cs ++ (x 15).cs))))))))))))))
def idxD (x : Nat → Sl) : List AV := (idxC x).map .d
def xs (x : Nat → Sl) (k : Nat) (s : Sl) : Nat → Sl := fun j => if j = k then s else x j
theorem idxC_len (x : Nat → Sl) : (idxC x).length = 192 := rfl
theorem idxD_len (x : Nat → Sl) : (idxD x).length = 192 := rfl
theorem cs_len (s : Sl) : s.cs.length = 12 := rfl
theorem av_len (s : Sl) : s.av.length = 12 := rfl
theorem map_cs (s : Sl) : s.cs.map AV.d = s.av := rfl
theorem map_idx (x : Nat → Sl) : (idxC x).map AV.d = idxD x := rfl
theorem idxC_take (x : Nat → Sl) : (idxC x).take 192 = idxC x := rfl
theorem idxC_drop (x : Nat → Sl) : (idxC x).drop 192 = [] := rfl
theorem plain_av (s : Sl) : boxOf.plainD s.av = some s.cs := plainD_map s.cs
theorem plain_idx (x : Nat → Sl) : boxOf.plainD (idxD x) = some (idxC x) := plainD_map _
theorem box_idx (x : Nat → Sl) : boxOf (idxD x) = .dbox (idxC x) := boxOf_map _
theorem get_idx (x : Nat → Sl) : ∀ k, k < 16 → ((idxC x).drop (k * 12)).take 12 = (x k).cs
  | 0, _ => rfl | 1, _ => rfl | 2, _ => rfl | 3, _ => rfl | 4, _ => rfl | 5, _ => rfl | 6, _ => rfl | 7, _ => rfl
  | 8, _ => rfl | 9, _ => rfl | 10, _ => rfl | 11, _ => rfl | 12, _ => rfl | 13, _ => rfl | 14, _ => rfl | 15, _ => rfl
  | k + 16, h => by omega
theorem put_idx (x : Nat → Sl) (s : Sl) : ∀ k, k < 16 → (idxC x).take (k * 12) ++ s.cs ++ (idxC x).drop (k * 12 + 12) = idxC (xs x k s)
  | 0, _ => rfl | 1, _ => rfl | 2, _ => rfl | 3, _ => rfl | 4, _ => rfl | 5, _ => rfl | 6, _ => rfl | 7, _ => rfl
  | 8, _ => rfl | 9, _ => rfl | 10, _ => rfl | 11, _ => rfl | 12, _ => rfl | 13, _ => rfl | 14, _ => rfl | 15, _ => rfl
  | k + 16, h => by omega
theorem refs_av (s : Sl) : AV.refsL s.av = [] := refsL_d s.cs
theorem owns_av (s : Sl) : AV.ownsL s.av = [] := ownsL_d s.cs
theorem view_av (H : Heap) (s : Sl) : AV.viewL H s.av = s.av := viewL_d H s.cs
theorem ren_av (f : Nat → Option Nat) (s : Sl) : AV.renL f s.av = s.av := renL_d f s.cs
theorem refs_idx (x : Nat → Sl) : AV.refsL (idxD x) = [] := refsL_d _
theorem owns_idx (x : Nat → Sl) : AV.ownsL (idxD x) = [] := ownsL_d _
theorem view_idx (H : Heap) (x : Nat → Sl) : AV.viewL H (idxD x) = idxD x := viewL_d H _
theorem ren_idx (f : Nat → Option Nat) (x : Nat → Sl) : AV.renL f (idxD x) = idxD x := renL_d f _
theorem c_may16 (o : Int) : call ir 69 [.d (.int .i64 o)] [] = some (.d (.bool (decide (0 ≤ o ∧ o < 16))), []) := by
  rw [call_eq (fn := ir69) rfl, evF_bnd]
  simp (maxSteps := 2000000) only [go_sem, doCall, doCallQ, Nat.reduceAdd, Nat.reduceMul, Nat.reduceSub, Nat.reduceDiv, Nat.reduceMod, Nat.reduceLT, Nat.reduceLeDiff, Nat.reduceEqDiff, Nat.reduceBEq, Nat.reduceBNe, Int.reduceToNat, Int.reduceLT, Int.reduceLE, Int.reduceEq, Int.reduceNe, Int.reduceAdd, Int.reduceSub, Int.reduceMul, Int.reduceNeg, bd69]
  repeat' (apply two_cases <;> intro h <;> simp (maxSteps := 2000000) only [go_sem, doCall, doCallQ, Nat.reduceAdd, Nat.reduceMul, Nat.reduceSub, Nat.reduceDiv, Nat.reduceMod, Nat.reduceLT, Nat.reduceLeDiff, Nat.reduceEqDiff, Nat.reduceBEq, Nat.reduceBNe, Int.reduceToNat, Int.reduceLT, Int.reduceLE, Int.reduceEq, Int.reduceNe, Int.reduceAdd, Int.reduceSub, Int.reduceMul, Int.reduceNeg, h, false_and, and_false])
theorem x_chForg (x : Nat → Sl) (k : Nat) (hk : k < 16) (gen a1 a2 : Int) : call ir 63 [.agg (idxD x), .d (.int .i64 k), .clo (.func 67) [] [.ptr 0 0, .ptr 1 0]] [.dbox [.int .i64 gen], .dbox [.int .i64 a1, .int .i64 a2]] =
    some (.agg (idxD (xs x k (forg (x k) gen a1 a2))), [.dbox [.int .i64 gen], .dbox [.int .i64 a1, .int .i64 a2]]) := by
  have h0 := eq_true (show (0 : Int) ≤ k by omega); have h1 := eq_true (show (k : Int) < 16 by omega); have hg := get_idx x k hk
  have hp := put_idx x (forg (x k) gen a1 a2) k hk
  rw [call_eq (fn := ir63) rfl, evF_bnd]
  simp (maxSteps := 2000000) (disch := omega) only [go_sem, doCall, doCallQ, Nat.reduceAdd, Nat.reduceMul, Nat.reduceSub, Nat.reduceDiv, Nat.reduceMod, Nat.reduceLT, Nat.reduceLeDiff, Nat.reduceEqDiff, Nat.reduceBEq, Nat.reduceBNe, Int.reduceToNat, Int.reduceLT, Int.reduceLE, Int.reduceEq, Int.reduceNe, Int.reduceAdd, Int.reduceSub, Int.reduceMul, Int.reduceNeg, bd63, c_may16, hg, hp, x_forg, h0, h1, idxC_len, idxD_len, cs_len, av_len, map_cs, map_idx, idxC_take, idxC_drop, plain_av, plain_idx, box_idx, refs_av, owns_av, view_av, ren_av, refs_idx, owns_idx, view_idx, ren_idx, Int.toNat_natCast, Nat.zero_add, chk_of]
theorem x_chBound (x : Nat → Sl) (k : Nat) (hk : k < 16) (o g : Int) (tag : List UInt8) (len tick a1 a2 : Int) : call ir 63 [.agg (idxD x), .d (.int .i64 k), .clo (.func 64) [] [.ptr 0 0, .ptr 1 0]] [.dbox [.int .i64 o, .int .i64 g, .str tag, .int .i64 len, .int .i64 tick], .dbox [.int .i64 a1, .int .i64 a2]] =
    some (.agg (idxD (xs x k (bound (x k) o g tag len tick a1 a2))), [.dbox [.int .i64 o, .int .i64 g, .str tag, .int .i64 len, .int .i64 tick], .dbox [.int .i64 a1, .int .i64 a2]]) := by
  have h0 := eq_true (show (0 : Int) ≤ k by omega); have h1 := eq_true (show (k : Int) < 16 by omega); have hg := get_idx x k hk
  have hp := put_idx x (bound (x k) o g tag len tick a1 a2) k hk
  rw [call_eq (fn := ir63) rfl, evF_bnd]
  simp (maxSteps := 2000000) (disch := omega) only [go_sem, doCall, doCallQ, Nat.reduceAdd, Nat.reduceMul, Nat.reduceSub, Nat.reduceDiv, Nat.reduceMod, Nat.reduceLT, Nat.reduceLeDiff, Nat.reduceEqDiff, Nat.reduceBEq, Nat.reduceBNe, Int.reduceToNat, Int.reduceLT, Int.reduceLE, Int.reduceEq, Int.reduceNe, Int.reduceAdd, Int.reduceSub, Int.reduceMul, Int.reduceNeg, bd63, c_may16, hg, hp, x_bound, h0, h1, idxC_len, idxD_len, cs_len, av_len, map_cs, map_idx, idxC_take, idxC_drop, plain_av, plain_idx, box_idx, refs_av, owns_av, view_av, ren_av, refs_idx, owns_idx, view_idx, ren_idx, Int.toNat_natCast, Nat.zero_add, chk_of]
theorem x_chPiece (x : Nat → Sl) (k : Nat) (hk : k < 16) (gen i a1 a2 : Int) : call ir 63 [.agg (idxD x), .d (.int .i64 k), .clo (.func 65) [] [.ptr 0 0, .ptr 1 0, .ptr 2 0]] [.dbox [.int .i64 gen], .dbox [.int .i64 i], .dbox [.int .i64 a1, .int .i64 a2]] =
    some (.agg (idxD (xs x k (pie (x k) gen i a1 a2))), [.dbox [.int .i64 gen], .dbox [.int .i64 i], .dbox [.int .i64 a1, .int .i64 a2]]) := by
  have h0 := eq_true (show (0 : Int) ≤ k by omega); have h1 := eq_true (show (k : Int) < 16 by omega); have hg := get_idx x k hk
  have hp := put_idx x (pie (x k) gen i a1 a2) k hk
  rw [call_eq (fn := ir63) rfl, evF_bnd]
  simp (maxSteps := 2000000) (disch := omega) only [go_sem, doCall, doCallQ, Nat.reduceAdd, Nat.reduceMul, Nat.reduceSub, Nat.reduceDiv, Nat.reduceMod, Nat.reduceLT, Nat.reduceLeDiff, Nat.reduceEqDiff, Nat.reduceBEq, Nat.reduceBNe, Int.reduceToNat, Int.reduceLT, Int.reduceLE, Int.reduceEq, Int.reduceNe, Int.reduceAdd, Int.reduceSub, Int.reduceMul, Int.reduceNeg, bd63, c_may16, hg, hp, x_piece, h0, h1, idxC_len, idxD_len, cs_len, av_len, map_cs, map_idx, idxC_take, idxC_drop, plain_av, plain_idx, box_idx, refs_av, owns_av, view_av, ren_av, refs_idx, owns_idx, view_idx, ren_idx, Int.toNat_natCast, Nat.zero_add, chk_of]
theorem x_bnd (x : Nat → Sl) (k : Nat) (hk : k < 16) (g : Int) (tag : List UInt8) (len tick a1 a2 : Int) : call ir 39 [.agg (idxD x), .agg [.d (.int .i64 k), .d (.int .i64 g), .d (.str tag), .d (.int .i64 len), .d (.int .i64 tick)], .agg [.d (.int .i64 a1), .d (.int .i64 a2)]] [] =
    some (.agg (idxD (xs x k (bound (x k) k g tag len tick a1 a2))), []) := by
  have h0 := eq_true (show (0 : Int) ≤ k by omega); have h1 := eq_true (show (k : Int) < 16 by omega); have hg := get_idx x k hk
  rw [call_eq (fn := ir39) rfl, evF_bnd]
  simp (maxSteps := 2000000) (disch := omega) only [go_sem, doCall, doCallQ, Nat.reduceAdd, Nat.reduceMul, Nat.reduceSub, Nat.reduceDiv, Nat.reduceMod, Nat.reduceLT, Nat.reduceLeDiff, Nat.reduceEqDiff, Nat.reduceBEq, Nat.reduceBNe, Int.reduceToNat, Int.reduceLT, Int.reduceLE, Int.reduceEq, Int.reduceNe, Int.reduceAdd, Int.reduceSub, Int.reduceMul, Int.reduceNeg, bd39, x_chBound x k hk, h0, h1, idxC_len, idxD_len, cs_len, av_len, map_cs, map_idx, idxC_take, idxC_drop, plain_av, plain_idx, box_idx, refs_av, owns_av, view_av, ren_av, refs_idx, owns_idx, view_idx, ren_idx, Int.toNat_natCast, Nat.zero_add, chk_of]
theorem x_pie (x : Nat → Sl) (k : Nat) (hk : k < 16) (gen i a1 a2 : Int) : call ir 40 [.agg (idxD x), .d (.int .i64 k), .d (.int .i64 gen), .d (.int .i64 i), .agg [.d (.int .i64 a1), .d (.int .i64 a2)]] [] =
    some (.agg (idxD (xs x k (pie (x k) gen i a1 a2))), []) := by
  have h0 := eq_true (show (0 : Int) ≤ k by omega); have h1 := eq_true (show (k : Int) < 16 by omega); have hg := get_idx x k hk
  rw [call_eq (fn := ir40) rfl, evF_bnd]
  simp (maxSteps := 2000000) (disch := omega) only [go_sem, doCall, doCallQ, Nat.reduceAdd, Nat.reduceMul, Nat.reduceSub, Nat.reduceDiv, Nat.reduceMod, Nat.reduceLT, Nat.reduceLeDiff, Nat.reduceEqDiff, Nat.reduceBEq, Nat.reduceBNe, Int.reduceToNat, Int.reduceLT, Int.reduceLE, Int.reduceEq, Int.reduceNe, Int.reduceAdd, Int.reduceSub, Int.reduceMul, Int.reduceNeg, bd40, x_chPiece x k hk, h0, h1, idxC_len, idxD_len, cs_len, av_len, map_cs, map_idx, idxC_take, idxC_drop, plain_av, plain_idx, box_idx, refs_av, owns_av, view_av, ren_av, refs_idx, owns_idx, view_idx, ren_idx, Int.toNat_natCast, Nat.zero_add, chk_of]
theorem x_for (x : Nat → Sl) (k : Nat) (hk : k < 16) (gen a1 a2 : Int) : call ir 41 [.agg (idxD x), .d (.int .i64 k), .d (.int .i64 gen), .agg [.d (.int .i64 a1), .d (.int .i64 a2)]] [] =
    some (.agg (idxD (xs x k (forg (x k) gen a1 a2))), []) := by
  have h0 := eq_true (show (0 : Int) ≤ k by omega); have h1 := eq_true (show (k : Int) < 16 by omega); have hg := get_idx x k hk
  rw [call_eq (fn := ir41) rfl, evF_bnd]
  simp (maxSteps := 2000000) (disch := omega) only [go_sem, doCall, doCallQ, Nat.reduceAdd, Nat.reduceMul, Nat.reduceSub, Nat.reduceDiv, Nat.reduceMod, Nat.reduceLT, Nat.reduceLeDiff, Nat.reduceEqDiff, Nat.reduceBEq, Nat.reduceBNe, Int.reduceToNat, Int.reduceLT, Int.reduceLE, Int.reduceEq, Int.reduceNe, Int.reduceAdd, Int.reduceSub, Int.reduceMul, Int.reduceNeg, bd41, x_chForg x k hk, h0, h1, idxC_len, idxD_len, cs_len, av_len, map_cs, map_idx, idxC_take, idxC_drop, plain_av, plain_idx, box_idx, refs_av, owns_av, view_av, ren_av, refs_idx, owns_idx, view_idx, ren_idx, Int.toNat_natCast, Nat.zero_add, chk_of]
end Go.Proofs.YtoipfdbdifoecaaGreatDoor
