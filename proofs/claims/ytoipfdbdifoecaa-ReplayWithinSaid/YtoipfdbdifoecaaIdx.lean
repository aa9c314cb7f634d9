/- The index: one slot. Own work. -/
import Derived.Test.YtoipfdbdifoecaaCod
namespace Go.Proofs.Ytoipfdbdifoecaa
open Go Go.Ev Go.Proofs.Ytoipfdbdifoecaa.Ir
set_option maxRecDepth 100000
set_option maxHeartbeats 4000000
set_option linter.unusedSimpArgs false
set_option linter.unusedVariables false
abbrev PM := Option (List (Int × Int × Int))
def adD (p : Int × Int) : D := .agg [.int .i64 p.1, .int .i64 p.2]
def mpD (l : List (Int × Int × Int)) : List (Int × D) := l.map fun p => (p.1, adD p.2)
def pmD : PM → D
  | none => .nilm
  | some l => .mapv (mpD l)
theorem put_mpD (k : Int) (v : Int × Int) : ∀ l : List (Int × Int × Int), putM k (adD v) (mpD l) = mpD (putM k v l)
  | [] => rfl
  | (a, d) :: l => by
    simp only [mpD, List.map_cons, putM]
    split
    · rfl
    · split
      · rfl
      · have := put_mpD k v l
        simp only [mpD] at this
        simp only [List.map_cons, this]
theorem find_mpD (k : Int) : ∀ l : List (Int × Int × Int), findM k (mpD l) = (findM k l).map adD
  | [] => rfl
  | (a, d) :: l => by
    simp only [mpD, List.map_cons, findM]
    split
    · rfl
    · exact find_mpD k l
/-- What there is of an object. -/
structure Sl where
  b : Bool
  o : Int
  g : Int
  tag : List UInt8
  len : Int
  tick : Int
  a1 : Int
  a2 : Int
  pm : PM
  fl : Int
  t1 : Int
  t2 : Int
def Sl.cs (s : Sl) : List D := [.bool s.b, .int .i64 s.o, .int .i64 s.g, .str s.tag, .int .i64 s.len, .int .i64 s.tick, .int .i64 s.a1, .int .i64 s.a2, pmD s.pm, .int .i64 s.fl, .int .i64 s.t1, .int .i64 s.t2]
def Sl.av (s : Sl) : List AV := [.d (.bool s.b), .d (.int .i64 s.o), .d (.int .i64 s.g), .d (.str s.tag), .d (.int .i64 s.len), .d (.int .i64 s.tick), .d (.int .i64 s.a1), .d (.int .i64 s.a2), .d (pmD s.pm), .d (.int .i64 s.fl), .d (.int .i64 s.t1), .d (.int .i64 s.t2)]
def forg1 (s : Sl) (gen a1 a2 : Int) : Sl := if gen ≥ s.fl ∧ gen > 0 then { s with fl := gen, t1 := a1, t2 := a2 } else s
def forg2 (s : Sl) (gen : Int) : Sl := if s.b = true ∧ s.g ≤ gen then { s with b := false, o := 0, g := 0, tag := [], len := 0, tick := 0, a1 := 0, a2 := 0, pm := none } else s
def forg (s : Sl) (gen a1 a2 : Int) : Sl := forg2 (forg1 s gen a1 a2) gen
theorem x_forg (s : Sl) (gen a1 a2 : Int) : call ir 56 [.agg s.av, .ptr 0 0, .ptr 1 0] [.dbox [.int .i64 gen], .dbox [.int .i64 a1, .int .i64 a2]] = some (.agg (forg s gen a1 a2).av, [.dbox [.int .i64 gen], .dbox [.int .i64 a1, .int .i64 a2]]) := by
  obtain ⟨b, o, g, tag, len, tick, b1, b2, pm, fl, t1, t2⟩ := s
  rw [call_eq (fn := ir56) rfl, evF_bnd]
  by_cases h1 : gen ≥ fl
  · by_cases h2 : gen > 0
    · cases b
      · simp only [forg, forg1, forg2, Sl.av, h1, h2, and_self, if_true, Bool.false_eq_true, false_and, if_false]
        simp only [go_sem, doCall, doCallQ, Nat.reduceAdd, Nat.reduceMul, Nat.reduceSub, Nat.reduceDiv, Nat.reduceMod, Nat.reduceLT, Nat.reduceLeDiff, Nat.reduceEqDiff, Nat.reduceBEq, Nat.reduceBNe, Int.reduceToNat, Int.reduceLT, Int.reduceLE, Int.reduceEq, Int.reduceNe, Int.reduceAdd, Int.reduceSub, Int.reduceMul, Int.reduceNeg, bd56, eq_true h1, eq_true h2]
      · by_cases h3 : g ≤ gen
        · simp only [forg, forg1, forg2, Sl.av, h1, h2, h3, and_self, if_true, pmD]
          simp only [go_sem, doCall, doCallQ, Nat.reduceAdd, Nat.reduceMul, Nat.reduceSub, Nat.reduceDiv, Nat.reduceMod, Nat.reduceLT, Nat.reduceLeDiff, Nat.reduceEqDiff, Nat.reduceBEq, Nat.reduceBNe, Int.reduceToNat, Int.reduceLT, Int.reduceLE, Int.reduceEq, Int.reduceNe, Int.reduceAdd, Int.reduceSub, Int.reduceMul, Int.reduceNeg, bd56, eq_true h1, eq_true h2, eq_true h3]
        · simp only [forg, forg1, forg2, Sl.av, h1, h2, h3, and_self, and_false, if_false, if_true]
          simp only [go_sem, doCall, doCallQ, Nat.reduceAdd, Nat.reduceMul, Nat.reduceSub, Nat.reduceDiv, Nat.reduceMod, Nat.reduceLT, Nat.reduceLeDiff, Nat.reduceEqDiff, Nat.reduceBEq, Nat.reduceBNe, Int.reduceToNat, Int.reduceLT, Int.reduceLE, Int.reduceEq, Int.reduceNe, Int.reduceAdd, Int.reduceSub, Int.reduceMul, Int.reduceNeg, bd56, eq_true h1, eq_true h2, eq_false h3]
    · cases b
      · simp only [forg, forg1, forg2, Sl.av, h1, h2, and_false, if_false, Bool.false_eq_true, false_and]
        simp only [go_sem, doCall, doCallQ, Nat.reduceAdd, Nat.reduceMul, Nat.reduceSub, Nat.reduceDiv, Nat.reduceMod, Nat.reduceLT, Nat.reduceLeDiff, Nat.reduceEqDiff, Nat.reduceBEq, Nat.reduceBNe, Int.reduceToNat, Int.reduceLT, Int.reduceLE, Int.reduceEq, Int.reduceNe, Int.reduceAdd, Int.reduceSub, Int.reduceMul, Int.reduceNeg, bd56, eq_true h1, eq_false h2]
      · by_cases h3 : g ≤ gen
        · simp only [forg, forg1, forg2, Sl.av, h1, h2, h3, and_false, if_false, and_self, if_true, pmD]
          simp only [go_sem, doCall, doCallQ, Nat.reduceAdd, Nat.reduceMul, Nat.reduceSub, Nat.reduceDiv, Nat.reduceMod, Nat.reduceLT, Nat.reduceLeDiff, Nat.reduceEqDiff, Nat.reduceBEq, Nat.reduceBNe, Int.reduceToNat, Int.reduceLT, Int.reduceLE, Int.reduceEq, Int.reduceNe, Int.reduceAdd, Int.reduceSub, Int.reduceMul, Int.reduceNeg, bd56, eq_true h1, eq_false h2, eq_true h3]
        · simp only [forg, forg1, forg2, Sl.av, h1, h2, h3, and_false, if_false]
          simp only [go_sem, doCall, doCallQ, Nat.reduceAdd, Nat.reduceMul, Nat.reduceSub, Nat.reduceDiv, Nat.reduceMod, Nat.reduceLT, Nat.reduceLeDiff, Nat.reduceEqDiff, Nat.reduceBEq, Nat.reduceBNe, Int.reduceToNat, Int.reduceLT, Int.reduceLE, Int.reduceEq, Int.reduceNe, Int.reduceAdd, Int.reduceSub, Int.reduceMul, Int.reduceNeg, bd56, eq_true h1, eq_false h2, eq_false h3]
  · cases b
    · simp only [forg, forg1, forg2, Sl.av, h1, false_and, if_false, Bool.false_eq_true]
      simp only [go_sem, doCall, doCallQ, Nat.reduceAdd, Nat.reduceMul, Nat.reduceSub, Nat.reduceDiv, Nat.reduceMod, Nat.reduceLT, Nat.reduceLeDiff, Nat.reduceEqDiff, Nat.reduceBEq, Nat.reduceBNe, Int.reduceToNat, Int.reduceLT, Int.reduceLE, Int.reduceEq, Int.reduceNe, Int.reduceAdd, Int.reduceSub, Int.reduceMul, Int.reduceNeg, bd56, eq_false h1]
    · by_cases h3 : g ≤ gen
      · simp only [forg, forg1, forg2, Sl.av, h1, h3, false_and, if_false, and_self, if_true, pmD]
        simp only [go_sem, doCall, doCallQ, Nat.reduceAdd, Nat.reduceMul, Nat.reduceSub, Nat.reduceDiv, Nat.reduceMod, Nat.reduceLT, Nat.reduceLeDiff, Nat.reduceEqDiff, Nat.reduceBEq, Nat.reduceBNe, Int.reduceToNat, Int.reduceLT, Int.reduceLE, Int.reduceEq, Int.reduceNe, Int.reduceAdd, Int.reduceSub, Int.reduceMul, Int.reduceNeg, bd56, eq_false h1, eq_true h3]
      · simp only [forg, forg1, forg2, Sl.av, h1, h3, false_and, and_false, if_false]
        simp only [go_sem, doCall, doCallQ, Nat.reduceAdd, Nat.reduceMul, Nat.reduceSub, Nat.reduceDiv, Nat.reduceMod, Nat.reduceLT, Nat.reduceLeDiff, Nat.reduceEqDiff, Nat.reduceBEq, Nat.reduceBNe, Int.reduceToNat, Int.reduceLT, Int.reduceLE, Int.reduceEq, Int.reduceNe, Int.reduceAdd, Int.reduceSub, Int.reduceMul, Int.reduceNeg, bd56, eq_false h1, eq_false h3]

def bound (s : Sl) (o g : Int) (tag : List UInt8) (len tick a1 a2 : Int) : Sl :=
  if g ≤ s.fl then s
  else if s.b = false ∨ s.g < g then { s with b := true, o := o, g := g, tag := tag, len := len, tick := tick, a1 := a1, a2 := a2, pm := none }
  else if s.g = g ∧ s.tag = tag ∧ s.len = len ∧ s.tick ≤ tick then { s with tick := tick, a1 := a1, a2 := a2 } else s
theorem x_bound (s : Sl) (o g : Int) (tag : List UInt8) (len tick a1 a2 : Int) : call ir 57 [.agg s.av, .ptr 0 0, .ptr 1 0] [.dbox [.int .i64 o, .int .i64 g, .str tag, .int .i64 len, .int .i64 tick], .dbox [.int .i64 a1, .int .i64 a2]] =
    some (.agg (bound s o g tag len tick a1 a2).av, [.dbox [.int .i64 o, .int .i64 g, .str tag, .int .i64 len, .int .i64 tick], .dbox [.int .i64 a1, .int .i64 a2]]) := by
  obtain ⟨b, o0, g0, tag0, len0, tick0, b1, b2, pm, fl, t1, t2⟩ := s
  rw [call_eq (fn := ir57) rfl, evF_bnd]
  by_cases h1 : g ≤ fl
  · simp only [bound, Sl.av, h1, if_true]
    simp only [go_sem, doCall, doCallQ, Nat.reduceAdd, Nat.reduceMul, Nat.reduceSub, Nat.reduceDiv, Nat.reduceMod, Nat.reduceLT, Nat.reduceLeDiff, Nat.reduceEqDiff, Nat.reduceBEq, Nat.reduceBNe, Int.reduceToNat, Int.reduceLT, Int.reduceLE, Int.reduceEq, Int.reduceNe, Int.reduceAdd, Int.reduceSub, Int.reduceMul, Int.reduceNeg, bd57, eq_true h1]
  · cases b
    · simp only [bound, Sl.av, h1, if_false, true_or, if_true, pmD]
      simp only [go_sem, doCall, doCallQ, Nat.reduceAdd, Nat.reduceMul, Nat.reduceSub, Nat.reduceDiv, Nat.reduceMod, Nat.reduceLT, Nat.reduceLeDiff, Nat.reduceEqDiff, Nat.reduceBEq, Nat.reduceBNe, Int.reduceToNat, Int.reduceLT, Int.reduceLE, Int.reduceEq, Int.reduceNe, Int.reduceAdd, Int.reduceSub, Int.reduceMul, Int.reduceNeg, bd57, eq_false h1]
    · by_cases h2 : g0 < g
      · simp only [bound, Sl.av, h1, h2, if_false, or_true, if_true, pmD]
        simp only [go_sem, doCall, doCallQ, Nat.reduceAdd, Nat.reduceMul, Nat.reduceSub, Nat.reduceDiv, Nat.reduceMod, Nat.reduceLT, Nat.reduceLeDiff, Nat.reduceEqDiff, Nat.reduceBEq, Nat.reduceBNe, Int.reduceToNat, Int.reduceLT, Int.reduceLE, Int.reduceEq, Int.reduceNe, Int.reduceAdd, Int.reduceSub, Int.reduceMul, Int.reduceNeg, bd57, eq_false h1, eq_true h2]
      · by_cases h3 : g0 = g
        · subst h3
          by_cases h4 : tag0 = tag
          · subst h4
            by_cases h5 : len0 = len
            · subst h5
              by_cases h6 : tick0 ≤ tick
              · simp only [bound, Sl.av, h1, h2, h6, if_false, Bool.true_eq_false, or_self, and_self, if_true]
                simp only [go_sem, doCall, doCallQ, Nat.reduceAdd, Nat.reduceMul, Nat.reduceSub, Nat.reduceDiv, Nat.reduceMod, Nat.reduceLT, Nat.reduceLeDiff, Nat.reduceEqDiff, Nat.reduceBEq, Nat.reduceBNe, Int.reduceToNat, Int.reduceLT, Int.reduceLE, Int.reduceEq, Int.reduceNe, Int.reduceAdd, Int.reduceSub, Int.reduceMul, Int.reduceNeg, bd57, eq_false h1, eq_false h2, beq_self_eq_true, eq_true h6]
              · simp only [bound, Sl.av, h1, h2, h6, if_false, Bool.true_eq_false, or_self, and_false]
                simp only [go_sem, doCall, doCallQ, Nat.reduceAdd, Nat.reduceMul, Nat.reduceSub, Nat.reduceDiv, Nat.reduceMod, Nat.reduceLT, Nat.reduceLeDiff, Nat.reduceEqDiff, Nat.reduceBEq, Nat.reduceBNe, Int.reduceToNat, Int.reduceLT, Int.reduceLE, Int.reduceEq, Int.reduceNe, Int.reduceAdd, Int.reduceSub, Int.reduceMul, Int.reduceNeg, bd57, eq_false h1, eq_false h2, beq_self_eq_true, eq_false h6]
            · simp only [bound, Sl.av, h1, h2, h5, if_false, Bool.true_eq_false, or_self, and_false, false_and]
              simp only [go_sem, doCall, doCallQ, Nat.reduceAdd, Nat.reduceMul, Nat.reduceSub, Nat.reduceDiv, Nat.reduceMod, Nat.reduceLT, Nat.reduceLeDiff, Nat.reduceEqDiff, Nat.reduceBEq, Nat.reduceBNe, Int.reduceToNat, Int.reduceLT, Int.reduceLE, Int.reduceEq, Int.reduceNe, Int.reduceAdd, Int.reduceSub, Int.reduceMul, Int.reduceNeg, bd57, eq_false h1, eq_false h2, beq_self_eq_true, eq_false h5]
          · have h4' : (tag0 == tag) = false := by simpa using h4
            simp only [bound, Sl.av, h1, h2, h4, if_false, Bool.true_eq_false, or_self, and_false, false_and]
            simp only [go_sem, doCall, doCallQ, Nat.reduceAdd, Nat.reduceMul, Nat.reduceSub, Nat.reduceDiv, Nat.reduceMod, Nat.reduceLT, Nat.reduceLeDiff, Nat.reduceEqDiff, Nat.reduceBEq, Nat.reduceBNe, Int.reduceToNat, Int.reduceLT, Int.reduceLE, Int.reduceEq, Int.reduceNe, Int.reduceAdd, Int.reduceSub, Int.reduceMul, Int.reduceNeg, bd57, eq_false h1, eq_false h2, h4', eq_false h4]
        · simp only [bound, Sl.av, h1, h2, h3, if_false, Bool.true_eq_false, or_self, false_and]
          simp only [go_sem, doCall, doCallQ, Nat.reduceAdd, Nat.reduceMul, Nat.reduceSub, Nat.reduceDiv, Nat.reduceMod, Nat.reduceLT, Nat.reduceLeDiff, Nat.reduceEqDiff, Nat.reduceBEq, Nat.reduceBNe, Int.reduceToNat, Int.reduceLT, Int.reduceLE, Int.reduceEq, Int.reduceNe, Int.reduceAdd, Int.reduceSub, Int.reduceMul, Int.reduceNeg, bd57, eq_false h1, eq_false h2, eq_false h3]

def pmPut (i a1 a2 : Int) : PM → PM
  | none => some [(i, a1, a2)]
  | some l => some (putM i (a1, a2) l)
def pie (s : Sl) (gen i a1 a2 : Int) : Sl := if s.b = false ∨ ¬ s.g = gen ∨ i < 0 ∨ i > 4096 then s else { s with pm := pmPut i a1 a2 s.pm }
theorem c_mclone_nil : call ir 55 [.d .nilm] [] = some (.d .nilm, []) := by
  rw [call_nat (by rfl)]; rfl
theorem c_mclone (es : List (Int × D)) : call ir 55 [.d (.mapv es)] [] = some (.mref 0, [.mp es]) := by
  rw [call_nat (by rfl)]; rfl
theorem x_piece (s : Sl) (gen i a1 a2 : Int) : call ir 54 [.agg s.av, .ptr 0 0, .ptr 1 0, .ptr 2 0] [.dbox [.int .i64 gen], .dbox [.int .i64 i], .dbox [.int .i64 a1, .int .i64 a2]] =
    some (.agg (pie s gen i a1 a2).av, [.dbox [.int .i64 gen], .dbox [.int .i64 i], .dbox [.int .i64 a1, .int .i64 a2]]) := by
  obtain ⟨b, o0, g0, tag0, len0, tick0, b1, b2, pm, fl, t1, t2⟩ := s
  rw [call_eq (fn := ir54) rfl, evF_bnd]
  cases b
  · simp only [pie, Sl.av, true_or, if_true]
    simp only [go_sem, doCall, doCallQ, Nat.reduceAdd, Nat.reduceMul, Nat.reduceSub, Nat.reduceDiv, Nat.reduceMod, Nat.reduceLT, Nat.reduceLeDiff, Nat.reduceEqDiff, Nat.reduceBEq, Nat.reduceBNe, Int.reduceToNat, Int.reduceLT, Int.reduceLE, Int.reduceEq, Int.reduceNe, Int.reduceAdd, Int.reduceSub, Int.reduceMul, Int.reduceNeg, bd54]
  · by_cases h1 : g0 = gen
    · by_cases h2 : i < 0
      · simp only [pie, Sl.av, h2, true_or, or_true, if_true]
        simp only [go_sem, doCall, doCallQ, Nat.reduceAdd, Nat.reduceMul, Nat.reduceSub, Nat.reduceDiv, Nat.reduceMod, Nat.reduceLT, Nat.reduceLeDiff, Nat.reduceEqDiff, Nat.reduceBEq, Nat.reduceBNe, Int.reduceToNat, Int.reduceLT, Int.reduceLE, Int.reduceEq, Int.reduceNe, Int.reduceAdd, Int.reduceSub, Int.reduceMul, Int.reduceNeg, bd54, eq_true h1, eq_true h2]
      · by_cases h3 : i > 4096
        · simp only [pie, Sl.av, h3, true_or, or_true, if_true]
          simp only [go_sem, doCall, doCallQ, Nat.reduceAdd, Nat.reduceMul, Nat.reduceSub, Nat.reduceDiv, Nat.reduceMod, Nat.reduceLT, Nat.reduceLeDiff, Nat.reduceEqDiff, Nat.reduceBEq, Nat.reduceBNe, Int.reduceToNat, Int.reduceLT, Int.reduceLE, Int.reduceEq, Int.reduceNe, Int.reduceAdd, Int.reduceSub, Int.reduceMul, Int.reduceNeg, bd54, eq_true h1, eq_false h2, eq_true h3]
        · simp only [pie, Sl.av, h1, h2, h3, Bool.true_eq_false, not_true_eq_false, or_self, if_false]
          cases pm with
          | none =>
            simp only [pmPut, pmD, mpD, List.map_cons, List.map_nil]
            simp only [go_sem, doCall, doCallQ, Nat.reduceAdd, Nat.reduceMul, Nat.reduceSub, Nat.reduceDiv, Nat.reduceMod, Nat.reduceLT, Nat.reduceLeDiff, Nat.reduceEqDiff, Nat.reduceBEq, Nat.reduceBNe, Int.reduceToNat, Int.reduceLT, Int.reduceLE, Int.reduceEq, Int.reduceNe, Int.reduceAdd, Int.reduceSub, Int.reduceMul, Int.reduceNeg, bd54, eq_true h1, eq_false h2, eq_false h3, c_mclone_nil, putM]
            rfl
          | some l =>
            simp only [pmPut, pmD, ← put_mpD]
            simp only [go_sem, doCall, doCallQ, Nat.reduceAdd, Nat.reduceMul, Nat.reduceSub, Nat.reduceDiv, Nat.reduceMod, Nat.reduceLT, Nat.reduceLeDiff, Nat.reduceEqDiff, Nat.reduceBEq, Nat.reduceBNe, Int.reduceToNat, Int.reduceLT, Int.reduceLE, Int.reduceEq, Int.reduceNe, Int.reduceAdd, Int.reduceSub, Int.reduceMul, Int.reduceNeg, bd54, eq_true h1, eq_false h2, eq_false h3, c_mclone]
            rfl
    · simp only [pie, Sl.av, h1, not_false_eq_true, true_or, or_true, if_true]
      simp only [go_sem, doCall, doCallQ, Nat.reduceAdd, Nat.reduceMul, Nat.reduceSub, Nat.reduceDiv, Nat.reduceMod, Nat.reduceLT, Nat.reduceLeDiff, Nat.reduceEqDiff, Nat.reduceBEq, Nat.reduceBNe, Int.reduceToNat, Int.reduceLT, Int.reduceLE, Int.reduceEq, Int.reduceNe, Int.reduceAdd, Int.reduceSub, Int.reduceMul, Int.reduceNeg, bd54, eq_false h1]
end Go.Proofs.Ytoipfdbdifoecaa
