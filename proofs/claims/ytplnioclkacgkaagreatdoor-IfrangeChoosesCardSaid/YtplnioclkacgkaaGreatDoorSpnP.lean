/- Spans: Right, Has, Apart. Own work. Spans: slices.DeleteFunc at an own slice. Own work. Spans: span.Merge. Own work. Spans: span.Merge, whole. Own work. Spans: spenceref04.Merge, the first loop. Own work. Spans: spenceref04.Merge, the second loop, and whole. Own work. Spans: merging does not depend on the order of those that begin alike. Plain. Own work. -/
import Derived.Test.YtplnioclkacgkaaGreatDoorRp
namespace Go.Proofs.YtplnioclkacgkaaGreatDoor
open Go Go.Ev Go.Proofs.YtplnioclkacgkaaGreatDoor.Ir
set_option maxRecDepth 100000
set_option maxHeartbeats 4000000
set_option linter.unusedSimpArgs false
set_option linter.unusedVariables false
/-- Whether a byte is in one. -/
def isIn (at' : Int) (s : Int × Int) : Prop := RP s.1 s.2 ∧ s.1 ≤ at' ∧ at' < s.2
instance (at' : Int) (s : Int × Int) : Decidable (isIn at' s) := by unfold isIn; infer_instance
def hasb (l : List (Int × Int)) (at' : Int) : Bool := l.any fun s => decide (isIn at' s)
theorem hasb_drop (l : List (Int × Int)) (at' : Int) (i : Nat) (h : i < l.length) : hasb (l.drop i) at' = (decide (isIn at' l[i]) || hasb (l.drop (i + 1)) at') := by
  rw [List.drop_eq_getElem_cons h]; rfl
/-- Right, and behind the one ahead. -/
def okA (l : List (Int × Int)) (i : Nat) : Prop := RP (l.getD i (0, 0)).1 (l.getD i (0, 0)).2 ∧ (i = 0 ∨ (l.getD (i - 1) (0, 0)).2 < (l.getD i (0, 0)).1)
instance (l : List (Int × Int)) (i : Nat) : Decidable (okA l i) := by unfold okA; infer_instance
def apTo (l : List (Int × Int)) (i : Nat) : Bool := (List.range i).all fun j => decide (okA l j)
theorem apTo_succ (l : List (Int × Int)) (i : Nat) : apTo l (i + 1) = (apTo l i && decide (okA l i)) := by
  simp [apTo, List.range_succ]
theorem apTo_false {l : List (Int × Int)} {i n : Nat} (hi : i < n) (h : ¬ okA l i) : apTo l n = false := by
  rw [← Bool.not_eq_true]
  intro hh
  exact h (of_decide_eq_true (List.all_eq_true.1 hh i (by simpa using hi)))
theorem getD_of {l : List (Int × Int)} {i : Nat} (h : i < l.length) : l.getD i (0, 0) = l[i] := by simp [List.getD_eq_getElem?_getD, h]
theorem wr_pred {i : Nat} (h : 0 < i) (h2 : i < 9223372036854775807) : wr .i64 ((i : Int) - 1) = ((i - 1 : Nat) : Int) := by rw [wr_id (by omega)]; omega
end Go.Proofs.YtplnioclkacgkaaGreatDoor
namespace Go.Proofs.YtplnioclkacgkaaGreatDoor
open Go Go.Ev Go.Proofs.YtplnioclkacgkaaGreatDoor.Ir
set_option maxRecDepth 100000
set_option maxHeartbeats 4000000
set_option linter.unusedSimpArgs false
set_option linter.unusedVariables false
def rp (x : Int × Int) : Bool := decide (RP x.1 x.2)
abbrev cloM : AV := .clo (.func 37) [] []
theorem c_m1 (x : Int × Int) : call ir 37 [vP x] [] = some (.d (.bool (!rp x)), []) := by
  rw [call_eq (fn := ir37) rfl, evF_bnd]
  simp (maxSteps := 2000000) only [go_sem, doCall, doCallQ, doCallP, Nat.reduceAdd, Nat.reduceMul, Nat.reduceSub, Nat.reduceDiv, Nat.reduceMod, Nat.reduceLT, Nat.reduceLeDiff, Nat.reduceEqDiff, Nat.reduceBEq, Nat.reduceBNe, Int.reduceToNat, Int.reduceLT, Int.reduceLE, Int.reduceEq, Int.reduceNe, Int.reduceAdd, Int.reduceSub, Int.reduceMul, Int.reduceNeg, bd37, t_right]
  simp only [rp, decide_not]
theorem rp_t {x : Int × Int} (h : RP x.1 x.2) : rp x = true := decide_eq_true h
theorem rp_f {x : Int × Int} (h : ¬ RP x.1 x.2) : rp x = false := decide_eq_false h
theorem lp_idxM (l : List (Int × Int)) (hl : l.length ≤ 1000) (i : Nat) (hi : i ≤ l.length) (hp : (l.take i).filter rp = l.take i) :
    ∃ r : Int, bnd (evC (call ir) (loop ir) lp61_0 (st61_0 1 (.own 0 2 0 l.length false) cloM (.d (.int .i64 l.length)) (.d (.int .i64 i)) [.arr 2 (l.map eP)])) (lpC (call ir) (loop ir) [0, 1, 7, 8] lp61_0 (bk 0 (sq (call ir) (loop ir) (.seq (.reg [⟨some 4, none, .mv (.c (.d (.int .i64 (-1)))), .none⟩]) (.ret none)) (fin ir61)))) =
      some (.d (.int .i64 r), [.arr 2 (l.map eP)]) ∧ ((r = -1 ∧ l.filter rp = l) ∨ ∃ n : Nat, r = n ∧ n < l.length ∧ (l.take n).filter rp = l.take n ∧ rp (l.getD n (0, 0)) = false) := by
  by_cases h : i = l.length
  · have hx : ¬ (i : Int) < l.length := by omega
    refine ⟨-1, ?_, .inl ⟨rfl, by rw [h, List.take_length] at hp; exact hp⟩⟩
    simp (maxSteps := 2000000) (disch := omega) only [go_sem, doCall, doCallQ, doCallP, Nat.reduceAdd, Nat.reduceMul, Nat.reduceSub, Nat.reduceDiv, Nat.reduceMod, Nat.reduceLT, Nat.reduceLeDiff, Nat.reduceEqDiff, Nat.reduceBEq, Nat.reduceBNe, Int.reduceToNat, Int.reduceLT, Int.reduceLE, Int.reduceEq, Int.reduceNe, Int.reduceAdd, Int.reduceSub, Int.reduceMul, Int.reduceNeg, u61_0, lb61_0, hx]
  · have hlt : (i : Int) < l.length := by omega
    have hi' : i < l.length := by omega
    have hw := wr_succ (i := i) (by omega)
    have hl2 : (l.map eP).length = l.length := List.length_map ..
    by_cases hin : RP l[i].1 l[i].2
    · have hr := rp_t hin
      obtain ⟨r, ih, hr2⟩ := lp_idxM l hl (i + 1) (by omega) (by rw [List.take_succ_eq_append_getElem hi', List.filter_append, hp, List.filter_cons, if_pos hr]; rfl)
      refine ⟨r, ?_, hr2⟩
      simp (maxSteps := 2000000) (disch := omega) only [go_sem, doCall, doCallQ, doCallP, Nat.reduceAdd, Nat.reduceMul, Nat.reduceSub, Nat.reduceDiv, Nat.reduceMod, Nat.reduceLT, Nat.reduceLeDiff, Nat.reduceEqDiff, Nat.reduceBEq, Nat.reduceBNe, Int.reduceToNat, Int.reduceLT, Int.reduceLE, Int.reduceEq, Int.reduceNe, Int.reduceAdd, Int.reduceSub, Int.reduceMul, Int.reduceNeg, u61_0, lb61_0, hlt, Int.toNat_natCast, get_eP, hl2, Nat.zero_add, c_m1, hr, chk_of]
      rw [loop_step1]
      simp (maxSteps := 2000000) only [go_sem, doCall, doCallQ, doCallP, Nat.reduceAdd, Nat.reduceMul, Nat.reduceSub, Nat.reduceDiv, Nat.reduceMod, Nat.reduceLT, Nat.reduceLeDiff, Nat.reduceEqDiff, Nat.reduceBEq, Nat.reduceBNe, Int.reduceToNat, Int.reduceLT, Int.reduceLE, Int.reduceEq, Int.reduceNe, Int.reduceAdd, Int.reduceSub, Int.reduceMul, Int.reduceNeg, hw]
      exact ih
    · have hr := rp_f hin
      refine ⟨i, ?_, .inr ⟨i, rfl, hi', hp, by rw [getD_of hi']; exact hr⟩⟩
      simp (maxSteps := 2000000) (disch := omega) only [go_sem, doCall, doCallQ, doCallP, Nat.reduceAdd, Nat.reduceMul, Nat.reduceSub, Nat.reduceDiv, Nat.reduceMod, Nat.reduceLT, Nat.reduceLeDiff, Nat.reduceEqDiff, Nat.reduceBEq, Nat.reduceBNe, Int.reduceToNat, Int.reduceLT, Int.reduceLE, Int.reduceEq, Int.reduceNe, Int.reduceAdd, Int.reduceSub, Int.reduceMul, Int.reduceNeg, u61_0, lb61_0, hlt, Int.toNat_natCast, get_eP, hl2, Nat.zero_add, c_m1, hr, chk_of]
termination_by l.length - i
theorem c_idxM (l : List (Int × Int)) (hl : l.length ≤ 1000) : ∃ r : Int, call ir 61 [.own 0 2 0 l.length false, cloM] [.arr 2 (l.map eP)] = some (.d (.int .i64 r), [.arr 2 (l.map eP)]) ∧ ((r = -1 ∧ l.filter rp = l) ∨ ∃ n : Nat, r = n ∧ n < l.length ∧ (l.take n).filter rp = l.take n ∧ rp (l.getD n (0, 0)) = false) := by
  obtain ⟨r, h1, h2⟩ := lp_idxM l hl 0 (by omega) rfl
  refine ⟨r, ?_, h2⟩
  rw [call_eq (fn := ir61) rfl, evF_bnd]
  simp (maxSteps := 2000000) only [go_sem, doCall, doCallQ, doCallP, Nat.reduceAdd, Nat.reduceMul, Nat.reduceSub, Nat.reduceDiv, Nat.reduceMod, Nat.reduceLT, Nat.reduceLeDiff, Nat.reduceEqDiff, Nat.reduceBEq, Nat.reduceBNe, Int.reduceToNat, Int.reduceLT, Int.reduceLE, Int.reduceEq, Int.reduceNe, Int.reduceAdd, Int.reduceSub, Int.reduceMul, Int.reduceNeg, bd61]
  rw [loop_step1]
  simp (maxSteps := 2000000) only [go_sem, doCall, doCallQ, doCallP, Nat.reduceAdd, Nat.reduceMul, Nat.reduceSub, Nat.reduceDiv, Nat.reduceMod, Nat.reduceLT, Nat.reduceLeDiff, Nat.reduceEqDiff, Nat.reduceBEq, Nat.reduceBNe, Int.reduceToNat, Int.reduceLT, Int.reduceLE, Int.reduceEq, Int.reduceNe, Int.reduceAdd, Int.reduceSub, Int.reduceMul, Int.reduceNeg]
  exact h1
theorem lp_del (l : List (Int × Int)) (hl : l.length ≤ 1000) (k : Ex → St → Option (AV × Heap)) (j : Nat) (hj : j ≤ l.length) (X : List (Int × Int)) (hX : X.length = l.length) (i : Nat) (hi : i < j)
    (h1 : X.take i = (l.take j).filter rp) (h2 : X.drop j = l.drop j) :
    ∃ X' : List (Int × Int), X'.length = l.length ∧ X'.take (l.filter rp).length = l.filter rp ∧
    bnd (evC (call ir) (loop ir) lp36_0 (st36_0 1 (.own 0 2 0 l.length false) cloM (.d (.int .i64 i)) (.d (.int .i64 j)) [.arr 2 (X.map eP)])) (lpC (call ir) (loop ir) [0, 1, 5, 6] lp36_0 k) =
      k (.exit 0) (clean [0, 5] (st36_0 1 (.own 0 2 0 l.length false) .unk (.d (.int .i64 (l.filter rp).length)) .unk [.arr 2 (X'.map eP)])) := by
  have hi2 : i = ((l.take j).filter rp).length := by rw [← h1, List.length_take]; omega
  by_cases h : j = l.length
  · have hx : ¬ (j : Int) < l.length := by omega
    rw [h, List.take_length] at h1 hi2
    refine ⟨X, hX, by rw [← hi2, h1], ?_⟩
    simp (maxSteps := 2000000) (disch := omega) only [go_sem, doCall, doCallQ, doCallP, Nat.reduceAdd, Nat.reduceMul, Nat.reduceSub, Nat.reduceDiv, Nat.reduceMod, Nat.reduceLT, Nat.reduceLeDiff, Nat.reduceEqDiff, Nat.reduceBEq, Nat.reduceBNe, Int.reduceToNat, Int.reduceLT, Int.reduceLE, Int.reduceEq, Int.reduceNe, Int.reduceAdd, Int.reduceSub, Int.reduceMul, Int.reduceNeg, u36_0, lb36_0, hx]
    rw [hi2]
  · have hlt : (j : Int) < l.length := by omega
    have hj' : j < l.length := by omega
    have hjX : j < X.length := by omega
    have hw := wr_succ (i := j) (by omega)
    have hl2 : (X.map eP).length = l.length := by rw [List.length_map, hX]
    have he : X[j] = l[j] := by
      have := congrArg (fun t => t.getD 0 (0, 0)) h2
      simpa [List.getD_eq_getElem?_getD, hj', hjX] using this
    by_cases hin : RP l[j].1 l[j].2
    · have hr := rp_t hin
      have hiX : i < X.length := by omega
      have hwi := wr_succ (i := i) (by omega)
      have hset : (X.map eP).set i (eP l[j]) = (X.set i l[j]).map eP := by rw [List.map_set]
      obtain ⟨X', a1, a2, a3⟩ := lp_del l hl k (j + 1) (by omega) (X.set i l[j]) (by rw [List.length_set]; exact hX) (i + 1) (by omega)
        (by rw [List.take_succ_eq_append_getElem hj', List.filter_append, ← h1, List.filter_cons, if_pos hr, List.filter_nil,
              List.take_succ_eq_append_getElem (by rw [List.length_set]; exact hiX), List.getElem_set_self, List.take_set_of_le (Nat.le_refl _)])
        (by rw [List.drop_set_of_lt (by omega), ← List.drop_drop, h2, List.drop_drop])
      refine ⟨X', a1, a2, ?_⟩
      have hii : (i : Int) < l.length := by omega
      simp (maxSteps := 2000000) (disch := omega) only [go_sem, doCall, doCallQ, doCallP, Nat.reduceAdd, Nat.reduceMul, Nat.reduceSub, Nat.reduceDiv, Nat.reduceMod, Nat.reduceLT, Nat.reduceLeDiff, Nat.reduceEqDiff, Nat.reduceBEq, Nat.reduceBNe, Int.reduceToNat, Int.reduceLT, Int.reduceLE, Int.reduceEq, Int.reduceNe, Int.reduceAdd, Int.reduceSub, Int.reduceMul, Int.reduceNeg, u36_0, lb36_0, hlt, hii, Int.toNat_natCast, get_eP, hl2, he, Nat.zero_add, c_m1, hr, chk_of]
      rw [loop_step1]
      simp (maxSteps := 2000000) only [go_sem, doCall, doCallQ, doCallP, Nat.reduceAdd, Nat.reduceMul, Nat.reduceSub, Nat.reduceDiv, Nat.reduceMod, Nat.reduceLT, Nat.reduceLeDiff, Nat.reduceEqDiff, Nat.reduceBEq, Nat.reduceBNe, Int.reduceToNat, Int.reduceLT, Int.reduceLE, Int.reduceEq, Int.reduceNe, Int.reduceAdd, Int.reduceSub, Int.reduceMul, Int.reduceNeg, hw, hwi, hset]
      exact a3
    · have hr := rp_f hin
      obtain ⟨X', a1, a2, a3⟩ := lp_del l hl k (j + 1) (by omega) X hX i (by omega)
        (by rw [List.take_succ_eq_append_getElem hj', List.filter_append, ← h1, List.filter_cons, if_neg (by rw [hr]; simp)]; simp)
        (by rw [← List.drop_drop, h2, List.drop_drop])
      refine ⟨X', a1, a2, ?_⟩
      simp (maxSteps := 2000000) (disch := omega) only [go_sem, doCall, doCallQ, doCallP, Nat.reduceAdd, Nat.reduceMul, Nat.reduceSub, Nat.reduceDiv, Nat.reduceMod, Nat.reduceLT, Nat.reduceLeDiff, Nat.reduceEqDiff, Nat.reduceBEq, Nat.reduceBNe, Int.reduceToNat, Int.reduceLT, Int.reduceLE, Int.reduceEq, Int.reduceNe, Int.reduceAdd, Int.reduceSub, Int.reduceMul, Int.reduceNeg, u36_0, lb36_0, hlt, Int.toNat_natCast, get_eP, hl2, he, Nat.zero_add, c_m1, hr, chk_of]
      rw [loop_step1]
      simp (maxSteps := 2000000) only [go_sem, doCall, doCallQ, doCallP, Nat.reduceAdd, Nat.reduceMul, Nat.reduceSub, Nat.reduceDiv, Nat.reduceMod, Nat.reduceLT, Nat.reduceLeDiff, Nat.reduceEqDiff, Nat.reduceBEq, Nat.reduceBNe, Int.reduceToNat, Int.reduceLT, Int.reduceLE, Int.reduceEq, Int.reduceNe, Int.reduceAdd, Int.reduceSub, Int.reduceMul, Int.reduceNeg, hw]
      exact a3
termination_by l.length - j
/-- What DeleteFunc leaves: the right ones ahead, in their order. -/
theorem c_del (l : List (Int × Int)) (hl : l.length ≤ 1000) : ∃ Z : List (List D), call ir 36 [.own 0 2 0 l.length false, cloM] [.arr 2 (l.map eP)] = some (.own 0 2 0 (l.filter rp).length false, [.arr 2 ((l.filter rp).map eP ++ Z)]) := by
  obtain ⟨r, e1, h⟩ := c_idxM l hl
  have hl2 : (l.map eP).length = l.length := List.length_map ..
  rcases h with ⟨rfl, h⟩ | ⟨n, rfl, hn, h1, h2⟩
  · refine ⟨[], ?_⟩
    rw [h, List.append_nil, call_eq (fn := ir36) rfl, evF_bnd]
    simp (maxSteps := 2000000) (disch := omega) only [go_sem, doCall, doCallQ, doCallP, Nat.reduceAdd, Nat.reduceMul, Nat.reduceSub, Nat.reduceDiv, Nat.reduceMod, Nat.reduceLT, Nat.reduceLeDiff, Nat.reduceEqDiff, Nat.reduceBEq, Nat.reduceBNe, Int.reduceToNat, Int.reduceLT, Int.reduceLE, Int.reduceEq, Int.reduceNe, Int.reduceAdd, Int.reduceSub, Int.reduceMul, Int.reduceNeg, bd36, e1]
  · have hw := wr_succ (i := n) (by omega)
    have hne : ¬ (n : Int) = -1 := by omega
    rw [getD_of hn] at h2
    have hf : (l.take (n + 1)).filter rp = l.take n := by
      rw [List.take_succ_eq_append_getElem hn, List.filter_append, h1, List.filter_cons, if_neg (by rw [h2]; simp)]; simp
    obtain ⟨X', a1, a2, a3⟩ := lp_del l hl (bk 0 (sq (call ir) (loop ir) (.seq (.reg [⟨some 36, none, .mv (.s 0), .none⟩,
      ⟨some 37, none, .mv (.s 5), .none⟩,
      ⟨some 38, none, .sl (.s 36) (some (.s 37)) none none 2, .none⟩,
      ⟨none, none, .bcall (.clr [.int .i64 0, .int .i64 0]) [.s 38], .none⟩])
  (.seq (.reg [⟨some 39, none, .mv (.s 0), .none⟩,
      ⟨some 40, none, .mv (.s 5), .none⟩,
      ⟨some 41, none, .sl (.s 39) none (some (.s 40)) none 2, .none⟩,
      ⟨some 4, none, .mv (.s 41), .none⟩])
  (.ret none))) (fin ir36))) (n + 1) (by omega) l rfl n (by omega) hf.symm rfl
    have hle : (l.filter rp).length ≤ l.length := List.length_filter_le ..
    refine ⟨List.replicate (l.length - (l.filter rp).length) [.int .i64 0, .int .i64 0], ?_⟩
    rw [call_eq (fn := ir36) rfl, evF_bnd]
    simp (maxSteps := 2000000) (disch := omega) only [go_sem, doCall, doCallQ, doCallP, Nat.reduceAdd, Nat.reduceMul, Nat.reduceSub, Nat.reduceDiv, Nat.reduceMod, Nat.reduceLT, Nat.reduceLeDiff, Nat.reduceEqDiff, Nat.reduceBEq, Nat.reduceBNe, Int.reduceToNat, Int.reduceLT, Int.reduceLE, Int.reduceEq, Int.reduceNe, Int.reduceAdd, Int.reduceSub, Int.reduceMul, Int.reduceNeg, bd36, e1, hne]
    rw [loop_step1]
    simp (maxSteps := 2000000) only [go_sem, doCall, doCallQ, doCallP, Nat.reduceAdd, Nat.reduceMul, Nat.reduceSub, Nat.reduceDiv, Nat.reduceMod, Nat.reduceLT, Nat.reduceLeDiff, Nat.reduceEqDiff, Nat.reduceBEq, Nat.reduceBNe, Int.reduceToNat, Int.reduceLT, Int.reduceLE, Int.reduceEq, Int.reduceNe, Int.reduceAdd, Int.reduceSub, Int.reduceMul, Int.reduceNeg, hw]
    refine Eq.trans a3 ?_
    have ht : (X'.map eP).take (l.filter rp).length = (l.filter rp).map eP := by rw [← List.map_take, a2]
    have hd : (X'.map eP).drop l.length = [] := List.drop_eq_nil_of_le (by rw [List.length_map]; omega)
    have hx2 : (X'.map eP).length = l.length := by rw [List.length_map, a1]
    have hadd : (l.filter rp).length + (l.length - (l.filter rp).length) = l.length := by omega
    have hz : (0 : Int) ≤ ((l.filter rp).length : Int) := Int.natCast_nonneg _
    simp (maxSteps := 2000000) (disch := omega) only [go_sem, doCall, doCallQ, doCallP, Nat.reduceAdd, Nat.reduceMul, Nat.reduceSub, Nat.reduceDiv, Nat.reduceMod, Nat.reduceLT, Nat.reduceLeDiff, Nat.reduceEqDiff, Nat.reduceBEq, Nat.reduceBNe, Int.reduceToNat, Int.reduceLT, Int.reduceLE, Int.reduceEq, Int.reduceNe, Int.reduceAdd, Int.reduceSub, Int.reduceMul, Int.reduceNeg, hz, Int.toNat_natCast, Nat.le_refl, Nat.zero_add, Nat.sub_zero, chk_of, hle, ht, hd, hx2, hadd]
end Go.Proofs.YtplnioclkacgkaaGreatDoor
namespace Go.Proofs.YtplnioclkacgkaaGreatDoor
open Go Go.Ev Go.Proofs.YtplnioclkacgkaaGreatDoor.Ir
set_option maxRecDepth 100000
set_option maxHeartbeats 4000000
set_option linter.unusedSimpArgs false
set_option linter.unusedVariables false
/-- A piece more, joined to the last one if the gap is small. -/
def mstep (g : Int) (O : List (Int × Int)) (s : Int × Int) : List (Int × Int) :=
  if 0 < O.length ∧ s.1 - (O.getD (O.length - 1) (0, 0)).2 ≤ g then O.set (O.length - 1) ((O.getD (O.length - 1) (0, 0)).1, max (O.getD (O.length - 1) (0, 0)).2 s.2) else O ++ [s]
def inB (l : List (Int × Int)) : Prop := ∀ x ∈ l, (0 ≤ x.1 ∧ x.1 ≤ 4611686018427387903) ∧ (0 ≤ x.2 ∧ x.2 ≤ 4611686018427387903)
theorem inB_get {l : List (Int × Int)} (h : inB l) {i : Nat} (hi : i < l.length) : (0 ≤ l[i].1 ∧ l[i].1 ≤ 4611686018427387903) ∧ (0 ≤ l[i].2 ∧ l[i].2 ≤ 4611686018427387903) := h _ (List.getElem_mem hi)
theorem inB_mstep {g : Int} {O : List (Int × Int)} {s : Int × Int} (h : inB O) (hs : (0 ≤ s.1 ∧ s.1 ≤ 4611686018427387903) ∧ (0 ≤ s.2 ∧ s.2 ≤ 4611686018427387903)) : inB (mstep g O s) := by
  unfold mstep
  split
  · rename_i hc
    intro x hx
    rcases List.mem_or_eq_of_mem_set hx with hx | rfl
    · exact h x hx
    · rw [getD_of (show O.length - 1 < O.length by omega)]
      have := inB_get h (show O.length - 1 < O.length by omega)
      exact ⟨this.1, by simp only; omega, by simp only; omega⟩
  · intro x hx
    rcases List.mem_append.1 hx with hx | hx
    · exact h x hx
    · rw [List.mem_singleton.1 hx]; exact hs
theorem len_mstep (g : Int) (O : List (Int × Int)) (s : Int × Int) : (mstep g O s).length ≤ O.length + 1 := by
  unfold mstep; split <;> simp
theorem lp_mg (g : Int) (A : List (Int × Int)) (hA : A.length ≤ 1000) (hB : inB A) (Z : List (List D)) (k : Ex → St → Option (AV × Heap)) (i : Nat) (hi : i ≤ A.length) (O : List (Int × Int)) (hO : inB O) (hl : O.length ≤ i) :
    bnd (evC (call ir) (loop ir) lp18_0 (st18_0 0 (.d (.int .i64 g)) (.own 0 2 0 O.length false) (.own 1 2 0 A.length false) (.d (.int .i64 A.length)) (.d (.int .i64 i)) [.arr 2 (O.map eP), .arr 2 (A.map eP ++ Z)])) (lpC (call ir) (loop ir) [1, 6, 17, 18, 19] lp18_0 k) =
      k (.exit 0) (clean [6] (st18_0 0 .unk (.own 0 2 0 ((A.drop i).foldl (mstep g) O).length false) .unk .unk .unk [.arr 2 (((A.drop i).foldl (mstep g) O).map eP)])) := by
  by_cases h : i = A.length
  · have hx : ¬ (i : Int) < A.length := by omega
    simp (maxSteps := 2000000) (disch := omega) only [go_sem, doCall, doCallQ, doCallP, Nat.reduceAdd, Nat.reduceMul, Nat.reduceSub, Nat.reduceDiv, Nat.reduceMod, Nat.reduceLT, Nat.reduceLeDiff, Nat.reduceEqDiff, Nat.reduceBEq, Nat.reduceBNe, Int.reduceToNat, Int.reduceLT, Int.reduceLE, Int.reduceEq, Int.reduceNe, Int.reduceAdd, Int.reduceSub, Int.reduceMul, Int.reduceNeg, u18_0, lb18_0, hx]
    rw [h, List.drop_length]; rfl
  · have hlt : (i : Int) < A.length := by omega
    have hi' : i < A.length := by omega
    have hw := wr_succ (i := i) (by omega)
    have hb := inB_get hB hi'
    have ih := lp_mg g A hA hB Z k (i + 1) (by omega) (mstep g O A[i]) (inB_mstep hO hb) (by have := len_mstep g O A[i]; omega)
    rw [List.drop_eq_getElem_cons hi', List.foldl_cons]
    have hlr : (A.map eP ++ Z).length = A.length + Z.length := by simp
    have hle : A.length ≤ A.length + Z.length := by omega
    have hgr : (A.map eP ++ Z).getD i [] = eP A[i] := by
      rw [List.getD_eq_getElem?_getD, List.getElem?_append_left (by rw [List.length_map]; exact hi')]; simp [hi']
    have hol : (O.map eP).length = O.length := List.length_map ..
    by_cases h0 : O.length = 0
    · have hz : ¬ (0 : Int) < O.length := by omega
      have hm : mstep g O A[i] = O ++ [A[i]] := by unfold mstep; rw [if_neg (by omega)]
      rw [hm] at ih ⊢
      simp (maxSteps := 2000000) (disch := omega) only [go_sem, doCall, doCallQ, doCallP, Nat.reduceAdd, Nat.reduceMul, Nat.reduceSub, Nat.reduceDiv, Nat.reduceMod, Nat.reduceLT, Nat.reduceLeDiff, Nat.reduceEqDiff, Nat.reduceBEq, Nat.reduceBNe, Int.reduceToNat, Int.reduceLT, Int.reduceLE, Int.reduceEq, Int.reduceNe, Int.reduceAdd, Int.reduceSub, Int.reduceMul, Int.reduceNeg, u18_0, lb18_0, hlt, hlr, hle, hgr, hol, hz, Int.toNat_natCast, Nat.zero_add, chk_of]
      rw [loop_step1]
      have hln : (O ++ [A[i]]).length = O.length + 1 := by simp
      have hmp : (O ++ [A[i]]).map eP = O.map eP ++ [[D.int .i64 A[i].1, D.int .i64 A[i].2]] := by simp
      rw [hln, hmp] at ih
      simp (maxSteps := 2000000) only [go_sem, doCall, doCallQ, doCallP, Nat.reduceAdd, Nat.reduceMul, Nat.reduceSub, Nat.reduceDiv, Nat.reduceMod, Nat.reduceLT, Nat.reduceLeDiff, Nat.reduceEqDiff, Nat.reduceBEq, Nat.reduceBNe, Int.reduceToNat, Int.reduceLT, Int.reduceLE, Int.reduceEq, Int.reduceNe, Int.reduceAdd, Int.reduceSub, Int.reduceMul, Int.reduceNeg, hw]
      exact ih
    · have hz : (0 : Int) < O.length := by omega
      have hp := wr_pred (i := O.length) (by omega) (by omega)
      have hpl : O.length - 1 < O.length := by omega
      have hgo := get_eP O (O.length - 1) hpl
      have hbo := inB_get hO hpl
      have hws : wr .i64 (A[i].1 - O[O.length - 1].2) = A[i].1 - O[O.length - 1].2 := wr_id (by omega)
      by_cases hc : A[i].1 - O[O.length - 1].2 ≤ g
      · have hm : mstep g O A[i] = O.set (O.length - 1) (O[O.length - 1].1, max O[O.length - 1].2 A[i].2) := by unfold mstep; rw [getD_of hpl, if_pos ⟨by omega, hc⟩]
        rw [hm] at ih ⊢
        simp (maxSteps := 2000000) (disch := omega) only [go_sem, doCall, doCallQ, doCallP, Nat.reduceAdd, Nat.reduceMul, Nat.reduceSub, Nat.reduceDiv, Nat.reduceMod, Nat.reduceLT, Nat.reduceLeDiff, Nat.reduceEqDiff, Nat.reduceBEq, Nat.reduceBNe, Int.reduceToNat, Int.reduceLT, Int.reduceLE, Int.reduceEq, Int.reduceNe, Int.reduceAdd, Int.reduceSub, Int.reduceMul, Int.reduceNeg, u18_0, lb18_0, hlt, hlr, hle, hgr, hol, hz, hp, hgo, hws, hc, Int.toNat_natCast, Nat.zero_add, chk_of]
        rw [loop_step1]
        have hln : (O.set (O.length - 1) (O[O.length - 1].1, max O[O.length - 1].2 A[i].2)).length = O.length := by simp
        have hmp : (O.set (O.length - 1) (O[O.length - 1].1, max O[O.length - 1].2 A[i].2)).map eP = (O.map eP).set (O.length - 1) [D.int .i64 O[O.length - 1].1, D.int .i64 (max O[O.length - 1].2 A[i].2)] := by rw [List.map_set]
        rw [hln, hmp] at ih
        simp (maxSteps := 2000000) only [go_sem, doCall, doCallQ, doCallP, Nat.reduceAdd, Nat.reduceMul, Nat.reduceSub, Nat.reduceDiv, Nat.reduceMod, Nat.reduceLT, Nat.reduceLeDiff, Nat.reduceEqDiff, Nat.reduceBEq, Nat.reduceBNe, Int.reduceToNat, Int.reduceLT, Int.reduceLE, Int.reduceEq, Int.reduceNe, Int.reduceAdd, Int.reduceSub, Int.reduceMul, Int.reduceNeg, hw]
        exact ih
      · have hm : mstep g O A[i] = O ++ [A[i]] := by unfold mstep; rw [getD_of hpl, if_neg (fun h => hc h.2)]
        rw [hm] at ih ⊢
        simp (maxSteps := 2000000) (disch := omega) only [go_sem, doCall, doCallQ, doCallP, Nat.reduceAdd, Nat.reduceMul, Nat.reduceSub, Nat.reduceDiv, Nat.reduceMod, Nat.reduceLT, Nat.reduceLeDiff, Nat.reduceEqDiff, Nat.reduceBEq, Nat.reduceBNe, Int.reduceToNat, Int.reduceLT, Int.reduceLE, Int.reduceEq, Int.reduceNe, Int.reduceAdd, Int.reduceSub, Int.reduceMul, Int.reduceNeg, u18_0, lb18_0, hlt, hlr, hle, hgr, hol, hz, hp, hgo, hws, hc, Int.toNat_natCast, Nat.zero_add, chk_of]
        rw [loop_step1]
        have hln : (O ++ [A[i]]).length = O.length + 1 := by simp
        have hmp : (O ++ [A[i]]).map eP = O.map eP ++ [[D.int .i64 A[i].1, D.int .i64 A[i].2]] := by simp
        rw [hln, hmp] at ih
        simp (maxSteps := 2000000) only [go_sem, doCall, doCallQ, doCallP, Nat.reduceAdd, Nat.reduceMul, Nat.reduceSub, Nat.reduceDiv, Nat.reduceMod, Nat.reduceLT, Nat.reduceLeDiff, Nat.reduceEqDiff, Nat.reduceBEq, Nat.reduceBNe, Int.reduceToNat, Int.reduceLT, Int.reduceLE, Int.reduceEq, Int.reduceNe, Int.reduceAdd, Int.reduceSub, Int.reduceMul, Int.reduceNeg, hw]
        exact ih
termination_by A.length - i
end Go.Proofs.YtplnioclkacgkaaGreatDoor
namespace Go.Proofs.YtplnioclkacgkaaGreatDoor
open Go Go.Ev Go.Proofs.YtplnioclkacgkaaGreatDoor.Ir
set_option maxRecDepth 100000
set_option maxHeartbeats 4000000
set_option linter.unusedSimpArgs false
set_option linter.unusedVariables false
theorem dec_spans : ∀ (F : List (Int × Int)), (∀ x ∈ F, rp x = true) → ∃ L : List SpA, L.map (·.1) = F ∧ decL spanE (F.map eP) = some L
  | [], _ => ⟨[], rfl, rfl⟩
  | x :: F, h => by
    obtain ⟨L, h1, h2⟩ := dec_spans F fun y hy => h y (List.mem_cons_of_mem _ hy)
    have hx := of_decide_eq_true (h x (List.mem_cons_self ..))
    unfold RP at hx
    have hb : 0 ≤ x.1 ∧ x.1 ≤ 4611686018427387903 := by omega
    refine ⟨⟨x, hb⟩ :: L, by simp [h1], ?_⟩
    have hd : spanE.dec (eP x) = some ⟨x, hb⟩ := by simp only [spanE]; rw [dif_pos hb]
    rw [List.map_cons, decL, hd, h2]
theorem rows_spans (L : List SpA) : L.map spanE.row = (L.map (·.1)).map eP := by rw [List.map_map]; rfl
theorem c_sort (F : List (Int × Int)) (hF : ∀ x ∈ F, rp x = true) (hl : F.length ≤ 1000) (Z : List (List D)) : ∃ S : List (Int × Int), S.Perm F ∧ S.Pairwise (fun x y => x.1 ≤ y.1) ∧
    call ir 38 [.own 0 2 0 F.length false, .clo (.func 39) [] []] [.arr 2 (F.map eP ++ Z)] = some (.tup [], [.arr 2 (S.map eP ++ Z)]) := by
  obtain ⟨L, h1, h2⟩ := dec_spans F hF
  refine ⟨(spanS L).map (·.1), h1 ▸ (spanS_perm L).map _, (List.pairwise_map.2 (spanS_sorted L)), ?_⟩
  have hlen : (F.map eP).length = F.length := List.length_map ..
  have e := natSF_eq spanE spanS 38 39 (i := 0) (z := 2) (o := 0) (n := F.length) (b := false) (H := [.arr 2 (F.map eP ++ Z)]) (xs := F.map eP ++ Z) (l := L) rfl rfl ⟨by simp, by omega⟩
    (by rw [List.drop_zero, List.take_append_of_le_length (by rw [hlen]; exact Nat.le_refl _), ← hlen, List.take_length]; exact h2)
  rw [call_nat (by rfl)]
  show natOr _ _ _ _ _ = _
  unfold natOr
  rw [e, rows_spans, Nat.zero_add, ← hlen, List.drop_left]
  rfl
theorem c_clone (l : List (Int × Int)) (hl : l.length ≤ 1000) : call ir 23 [.d (.list 2 (l.map eP))] [] = some (.own 0 2 0 l.length false, [.arr 2 (l.map eP)]) := by
  have hlen : (l.map eP).length = l.length := List.length_map ..
  have e := natSC_eq 23 2 16 (xs := l.map eP) (by omega)
  rw [hlen] at e
  rw [call_nat (by rfl)]
  show natOr _ _ _ _ _ = _
  unfold natOr
  rw [e]
theorem filt_rp (l : List (Int × Int)) : ∀ x ∈ l.filter rp, rp x = true := fun x hx => (List.mem_filter.1 hx).2
theorem inB_of {S l : List (Int × Int)} (h : S.Perm (l.filter rp)) : inB S := fun x hx => by
  have := of_decide_eq_true (filt_rp l x (h.mem_iff.1 hx))
  unfold RP at this
  omega
theorem c_merge (l : List (Int × Int)) (hl : l.length ≤ 1000) (g : Int) : ∃ S : List (Int × Int), S.Perm (l.filter rp) ∧ S.Pairwise (fun x y => x.1 ≤ y.1) ∧
    call ir 18 [.d (.list 2 (l.map eP)), .d (.int .i64 g)] [] = some (.own 0 2 0 (S.foldl (mstep (max g 0)) []).length false, [.arr 2 ((S.foldl (mstep (max g 0)) []).map eP)]) := by
  have hf := List.length_filter_le rp l
  obtain ⟨Z, h1⟩ := c_del l hl
  obtain ⟨S, h2, h3, h4⟩ := c_sort (l.filter rp) (filt_rp l) (by omega) Z
  refine ⟨S, h2, h3, ?_⟩
  have hlen := h2.length_eq
  have hc := c_clone l hl
  have hlp := fun k => lp_mg (max g 0) S (by omega) (inB_of h2) Z k 0 (by omega) [] (by intro x hx; simp at hx) (by simp)
  rw [List.drop_zero] at hlp
  rw [← hlen] at h1 h4
  rw [call_eq (fn := ir18) rfl, evF_bnd]
  simp (maxSteps := 2000000) (disch := omega) only [go_sem, doCall, doCallQ, doCallP, Nat.reduceAdd, Nat.reduceMul, Nat.reduceSub, Nat.reduceDiv, Nat.reduceMod, Nat.reduceLT, Nat.reduceLeDiff, Nat.reduceEqDiff, Nat.reduceBEq, Nat.reduceBNe, Int.reduceToNat, Int.reduceLT, Int.reduceLE, Int.reduceEq, Int.reduceNe, Int.reduceAdd, Int.reduceSub, Int.reduceMul, Int.reduceNeg, bd18, hc, h1, h4]
  rw [loop_step1]
  simp (maxSteps := 2000000) only [go_sem, doCall, doCallQ, doCallP, Nat.reduceAdd, Nat.reduceMul, Nat.reduceSub, Nat.reduceDiv, Nat.reduceMod, Nat.reduceLT, Nat.reduceLeDiff, Nat.reduceEqDiff, Nat.reduceBEq, Nat.reduceBNe, Int.reduceToNat, Int.reduceLT, Int.reduceLE, Int.reduceEq, Int.reduceNe, Int.reduceAdd, Int.reduceSub, Int.reduceMul, Int.reduceNeg]
  refine Eq.trans (hlp _) ?_
  simp (maxSteps := 2000000) only [go_sem, doCall, doCallQ, doCallP, Nat.reduceAdd, Nat.reduceMul, Nat.reduceSub, Nat.reduceDiv, Nat.reduceMod, Nat.reduceLT, Nat.reduceLeDiff, Nat.reduceEqDiff, Nat.reduceBEq, Nat.reduceBNe, Int.reduceToNat, Int.reduceLT, Int.reduceLE, Int.reduceEq, Int.reduceNe, Int.reduceAdd, Int.reduceSub, Int.reduceMul, Int.reduceNeg]
end Go.Proofs.YtplnioclkacgkaaGreatDoor
namespace Go.Proofs.YtplnioclkacgkaaGreatDoor
open Go Go.Ev Go.Proofs.YtplnioclkacgkaaGreatDoor.Ir
set_option maxRecDepth 100000
set_option maxHeartbeats 4000000
set_option linter.unusedSimpArgs false
set_option linter.unusedVariables false
/-- Where it goes. -/
def pos (O : List (Int × Int)) (f : Int) : Nat → Nat
  | 0 => 0
  | i + 1 => if (O.getD i (0, 0)).1 > f then pos O f i else i + 1
theorem pos_le (O : List (Int × Int)) (f : Int) : ∀ i, pos O f i ≤ i
  | 0 => Nat.le_refl _
  | i + 1 => by unfold pos; have := pos_le O f i; split <;> omega
def insP (O : List (Int × Int)) (s : Int × Int) : List (Int × Int) := O.take (pos O s.1 O.length) ++ s :: O.drop (pos O s.1 O.length)
theorem insP_len (O : List (Int × Int)) (s : Int × Int) : (insP O s).length = O.length + 1 := by
  have := pos_le O s.1 O.length
  simp [insP]; omega
theorem lp_pos (g : Int) (l O : List (Int × Int)) (hO : O.length ≤ 1000) (s : Int × Int) (j : Int) (k : Ex → St → Option (AV × Heap)) (i : Nat) (hi : i ≤ O.length) :
    bnd (evC (call ir) (loop ir) lp22_1 (st22_1 0 (.d (.int .i64 g)) (.own 0 2 0 O.length false) (.ptr 1 0) (.d (.int .i64 i)) (.d (.list 2 (l.map eP))) (.d (.int .i64 l.length)) (.d (.int .i64 j)) [.arr 2 (O.map eP), .dbox (eP s)])) (lpC (call ir) (loop ir) [1, 5, 7, 8, 14, 15, 16] lp22_1 k) =
      k (.exit 2) (clean [1, 5, 7, 8, 14, 15, 16] (st22_1 0 (.d (.int .i64 g)) (.own 0 2 0 O.length false) (.ptr 1 0) (.d (.int .i64 (pos O s.1 i))) (.d (.list 2 (l.map eP))) (.d (.int .i64 l.length)) (.d (.int .i64 j)) [.arr 2 (O.map eP), .dbox (eP s)])) := by
  have hol : (O.map eP).length = O.length := List.length_map ..
  cases i with
  | zero =>
    simp (maxSteps := 2000000) (disch := omega) only [go_sem, doCall, doCallQ, doCallP, Nat.reduceAdd, Nat.reduceMul, Nat.reduceSub, Nat.reduceDiv, Nat.reduceMod, Nat.reduceLT, Nat.reduceLeDiff, Nat.reduceEqDiff, Nat.reduceBEq, Nat.reduceBNe, Int.reduceToNat, Int.reduceLT, Int.reduceLE, Int.reduceEq, Int.reduceNe, Int.reduceAdd, Int.reduceSub, Int.reduceMul, Int.reduceNeg, u22_1, lb22_1, Int.natCast_zero, chk_of, pos]
  | succ i =>
    have hi' : i < O.length := by omega
    have hz : (0 : Int) < ((i + 1 : Nat) : Int) := by omega
    have hp := wr_pred (i := i + 1) (by omega) (by omega)
    rw [Nat.add_sub_cancel] at hp
    have hg := get_eP O i hi'
    unfold pos
    rw [getD_of hi']
    by_cases hc : O[i].1 > s.1
    · have hc' : s.1 < O[i].1 := hc
      have ih := lp_pos g l O hO s j k i (by omega)
      rw [if_pos hc]
      simp (maxSteps := 2000000) (disch := omega) only [go_sem, doCall, doCallQ, doCallP, Nat.reduceAdd, Nat.reduceMul, Nat.reduceSub, Nat.reduceDiv, Nat.reduceMod, Nat.reduceLT, Nat.reduceLeDiff, Nat.reduceEqDiff, Nat.reduceBEq, Nat.reduceBNe, Int.reduceToNat, Int.reduceLT, Int.reduceLE, Int.reduceEq, Int.reduceNe, Int.reduceAdd, Int.reduceSub, Int.reduceMul, Int.reduceNeg, u22_1, lb22_1, hz, hp, hg, hol, hc', Int.toNat_natCast, Nat.zero_add, chk_of]
      rw [loop_step1]
      simp (maxSteps := 2000000) only [go_sem, doCall, doCallQ, doCallP, Nat.reduceAdd, Nat.reduceMul, Nat.reduceSub, Nat.reduceDiv, Nat.reduceMod, Nat.reduceLT, Nat.reduceLeDiff, Nat.reduceEqDiff, Nat.reduceBEq, Nat.reduceBNe, Int.reduceToNat, Int.reduceLT, Int.reduceLE, Int.reduceEq, Int.reduceNe, Int.reduceAdd, Int.reduceSub, Int.reduceMul, Int.reduceNeg]
      exact ih
    · have hc' : ¬ s.1 < O[i].1 := hc
      rw [if_neg hc]
      simp (maxSteps := 2000000) (disch := omega) only [go_sem, doCall, doCallQ, doCallP, Nat.reduceAdd, Nat.reduceMul, Nat.reduceSub, Nat.reduceDiv, Nat.reduceMod, Nat.reduceLT, Nat.reduceLeDiff, Nat.reduceEqDiff, Nat.reduceBEq, Nat.reduceBNe, Int.reduceToNat, Int.reduceLT, Int.reduceLE, Int.reduceEq, Int.reduceNe, Int.reduceAdd, Int.reduceSub, Int.reduceMul, Int.reduceNeg, u22_1, lb22_1, hz, hp, hg, hol, hc', Int.toNat_natCast, Nat.zero_add, chk_of]
theorem lp_ins (g : Int) (l : List (Int × Int)) (hl : l.length ≤ 1000) (k : Ex → St → Option (AV × Heap)) (j : Nat) (hj : j ≤ l.length) (O : List (Int × Int)) (hO : O.length ≤ j) :
    bnd (evC (call ir) (loop ir) lp22_0 (st22_0 0 (.d (.int .i64 g)) (.own 0 2 0 O.length false) (.d (.list 2 (l.map eP))) (.d (.int .i64 l.length)) (.d (.int .i64 j)) [.arr 2 (O.map eP)])) (lpC (call ir) (loop ir) [1, 5, 14, 15, 16] lp22_0 k) =
      k (.exit 0) (clean [1, 5] (st22_0 0 (.d (.int .i64 g)) (.own 0 2 0 (((l.drop j).filter rp).foldl insP O).length false) .unk .unk .unk [.arr 2 ((((l.drop j).filter rp).foldl insP O).map eP)])) := by
  by_cases h : j = l.length
  · have hx : ¬ (j : Int) < l.length := by omega
    simp (maxSteps := 2000000) (disch := omega) only [go_sem, doCall, doCallQ, doCallP, Nat.reduceAdd, Nat.reduceMul, Nat.reduceSub, Nat.reduceDiv, Nat.reduceMod, Nat.reduceLT, Nat.reduceLeDiff, Nat.reduceEqDiff, Nat.reduceBEq, Nat.reduceBNe, Int.reduceToNat, Int.reduceLT, Int.reduceLE, Int.reduceEq, Int.reduceNe, Int.reduceAdd, Int.reduceSub, Int.reduceMul, Int.reduceNeg, u22_0, lb22_0, hx]
    rw [h, List.drop_length]; rfl
  · have hlt : (j : Int) < l.length := by omega
    have hj' : j < l.length := by omega
    have hw := wr_succ (i := j) (by omega)
    rw [List.drop_eq_getElem_cons hj']
    by_cases hin : RP l[j].1 l[j].2
    · have hr := rp_t hin
      have ih := lp_ins g l hl k (j + 1) (by omega) (insP O l[j]) (by rw [insP_len]; omega)
      have hpl := pos_le O l[j].1 O.length
      have hI : insP O l[j] = O.take (pos O l[j].1 O.length) ++ l[j] :: O.drop (pos O l[j].1 O.length) := rfl
      have hL := insP_len O l[j]
      have hLP := fun k => lp_pos g l O (by omega) l[j] j k O.length (Nat.le_refl _)
      generalize pos O l[j].1 O.length = p at hpl hI hLP
      have hpz : (0 : Int) ≤ (p : Int) := Int.natCast_nonneg _
      have hadd : p + (O.length - p) = O.length := by omega
      have htk : ((O.map eP).drop p).take (O.length - p) = (O.drop p).map eP := by rw [List.map_drop, List.take_of_length_le (by simp)]
      have htk2 : (O.map eP).take p = (O.take p).map eP := by rw [List.map_take]
      have hdl : ((O.drop p).map eP).length = O.length - p := by simp
      have hol : (O.map eP).length = O.length := List.length_map ..
      rw [List.filter_cons, if_pos hr, List.foldl_cons]
      simp (maxSteps := 2000000) (disch := omega) only [go_sem, doCall, doCallQ, doCallP, Nat.reduceAdd, Nat.reduceMul, Nat.reduceSub, Nat.reduceDiv, Nat.reduceMod, Nat.reduceLT, Nat.reduceLeDiff, Nat.reduceEqDiff, Nat.reduceBEq, Nat.reduceBNe, Int.reduceToNat, Int.reduceLT, Int.reduceLE, Int.reduceEq, Int.reduceNe, Int.reduceAdd, Int.reduceSub, Int.reduceMul, Int.reduceNeg, u22_0, lb22_0, hlt, get_eP, t_rright, hin, Int.toNat_natCast, Nat.zero_add, chk_of]
      rw [loop_step1]
      simp (maxSteps := 2000000) only [go_sem, doCall, doCallQ, doCallP, Nat.reduceAdd, Nat.reduceMul, Nat.reduceSub, Nat.reduceDiv, Nat.reduceMod, Nat.reduceLT, Nat.reduceLeDiff, Nat.reduceEqDiff, Nat.reduceBEq, Nat.reduceBNe, Int.reduceToNat, Int.reduceLT, Int.reduceLE, Int.reduceEq, Int.reduceNe, Int.reduceAdd, Int.reduceSub, Int.reduceMul, Int.reduceNeg]
      refine Eq.trans (hLP _) ?_
      have htk3 : ∀ x : List D, (x :: (O.drop p).map eP).take (1 + (O.length - p)) = x :: (O.drop p).map eP := fun x => List.take_of_length_le (by simp; omega)
      have hz1 : (1 + (O.length - p)) * 16 ≤ 70368744177664 := by omega
      have hz2 : (p + (1 + (O.length - p))) * 16 ≤ 70368744177664 := by omega
      have hz3 : p + (1 + (O.length - p)) = O.length + 1 := by omega
      have hz4 : 0 < 1 + (O.length - p) := by omega
      have hz5 : (O.length - p) + 1 = 1 + (O.length - p) := by omega
      have hmp : (insP O l[j]).map eP = (O.take p).map eP ++ [D.int .i64 l[j].1, D.int .i64 l[j].2] :: (O.drop p).map eP := by rw [hI]; simp
      rw [hL, hmp] at ih
      by_cases hc : 0 < O.length - p
      · simp (maxSteps := 2000000) (disch := omega) only [go_sem, doCall, doCallQ, doCallP, Nat.reduceAdd, Nat.reduceMul, Nat.reduceSub, Nat.reduceDiv, Nat.reduceMod, Nat.reduceLT, Nat.reduceLeDiff, Nat.reduceEqDiff, Nat.reduceBEq, Nat.reduceBNe, Int.reduceToNat, Int.reduceLT, Int.reduceLE, Int.reduceEq, Int.reduceNe, Int.reduceAdd, Int.reduceSub, Int.reduceMul, Int.reduceNeg, hpz, hpl, hol, hadd, htk, htk2, htk3, hdl, hz1, hz2, hz3, hz4, hz5, hc, Int.toNat_natCast, Nat.zero_add, Nat.sub_zero, beq_self_eq_true, List.length_cons, Nat.le_refl, chk_of]
        rw [loop_step1]
        simp (maxSteps := 2000000) only [go_sem, doCall, doCallQ, doCallP, Nat.reduceAdd, Nat.reduceMul, Nat.reduceSub, Nat.reduceDiv, Nat.reduceMod, Nat.reduceLT, Nat.reduceLeDiff, Nat.reduceEqDiff, Nat.reduceBEq, Nat.reduceBNe, Int.reduceToNat, Int.reduceLT, Int.reduceLE, Int.reduceEq, Int.reduceNe, Int.reduceAdd, Int.reduceSub, Int.reduceMul, Int.reduceNeg, hw]
        exact ih
      · simp (maxSteps := 2000000) (disch := omega) only [go_sem, doCall, doCallQ, doCallP, Nat.reduceAdd, Nat.reduceMul, Nat.reduceSub, Nat.reduceDiv, Nat.reduceMod, Nat.reduceLT, Nat.reduceLeDiff, Nat.reduceEqDiff, Nat.reduceBEq, Nat.reduceBNe, Int.reduceToNat, Int.reduceLT, Int.reduceLE, Int.reduceEq, Int.reduceNe, Int.reduceAdd, Int.reduceSub, Int.reduceMul, Int.reduceNeg, hpz, hpl, hol, hadd, htk, htk2, htk3, hdl, hz1, hz2, hz3, hz4, hz5, hc, Int.toNat_natCast, Nat.zero_add, Nat.sub_zero, beq_self_eq_true, List.length_cons, Nat.le_refl, chk_of]
        rw [loop_step1]
        simp (maxSteps := 2000000) only [go_sem, doCall, doCallQ, doCallP, Nat.reduceAdd, Nat.reduceMul, Nat.reduceSub, Nat.reduceDiv, Nat.reduceMod, Nat.reduceLT, Nat.reduceLeDiff, Nat.reduceEqDiff, Nat.reduceBEq, Nat.reduceBNe, Int.reduceToNat, Int.reduceLT, Int.reduceLE, Int.reduceEq, Int.reduceNe, Int.reduceAdd, Int.reduceSub, Int.reduceMul, Int.reduceNeg, hw]
        exact ih
    · have hr := rp_f hin
      have ih := lp_ins g l hl k (j + 1) (by omega) O (by omega)
      rw [List.filter_cons, if_neg (by rw [hr]; simp)]
      simp (maxSteps := 2000000) (disch := omega) only [go_sem, doCall, doCallQ, doCallP, Nat.reduceAdd, Nat.reduceMul, Nat.reduceSub, Nat.reduceDiv, Nat.reduceMod, Nat.reduceLT, Nat.reduceLeDiff, Nat.reduceEqDiff, Nat.reduceBEq, Nat.reduceBNe, Int.reduceToNat, Int.reduceLT, Int.reduceLE, Int.reduceEq, Int.reduceNe, Int.reduceAdd, Int.reduceSub, Int.reduceMul, Int.reduceNeg, u22_0, lb22_0, hlt, get_eP, t_rright, hin, Int.toNat_natCast, Nat.zero_add, chk_of]
      rw [loop_step1]
      simp (maxSteps := 2000000) only [go_sem, doCall, doCallQ, doCallP, Nat.reduceAdd, Nat.reduceMul, Nat.reduceSub, Nat.reduceDiv, Nat.reduceMod, Nat.reduceLT, Nat.reduceLeDiff, Nat.reduceEqDiff, Nat.reduceBEq, Nat.reduceBNe, Int.reduceToNat, Int.reduceLT, Int.reduceLE, Int.reduceEq, Int.reduceNe, Int.reduceAdd, Int.reduceSub, Int.reduceMul, Int.reduceNeg, hw]
      exact ih
termination_by l.length - j
end Go.Proofs.YtplnioclkacgkaaGreatDoor
namespace Go.Proofs.YtplnioclkacgkaaGreatDoor
open Go Go.Ev Go.Proofs.YtplnioclkacgkaaGreatDoor.Ir
set_option maxRecDepth 100000
set_option maxHeartbeats 4000000
set_option linter.unusedSimpArgs false
set_option linter.unusedVariables false
theorem mstep_end (g : Int) (Q : List (Int × Int)) (a b : Int × Int) : mstep g (Q ++ [a]) b = if b.1 - a.2 ≤ g then Q ++ [(a.1, max a.2 b.2)] else Q ++ [a] ++ [b] := by
  unfold mstep
  have e : (Q ++ [a]).getD ((Q ++ [a]).length - 1) (0, 0) = a := by simp [List.getD_eq_getElem?_getD]
  rw [e]
  have hl : 0 < (Q ++ [a]).length := by simp
  have hs : (Q ++ [a]).set ((Q ++ [a]).length - 1) (a.1, max a.2 b.2) = Q ++ [(a.1, max a.2 b.2)] := by simp [List.set_append]
  rw [hs]
  by_cases h : b.1 - a.2 ≤ g
  · rw [if_pos ⟨hl, h⟩, if_pos h]
  · rw [if_neg (fun hh => h hh.2), if_neg h]
abbrev bnd1 (a : Int × Int) : Prop := (0 ≤ a.1 ∧ a.1 ≤ 4611686018427387903) ∧ (0 ≤ a.2 ∧ a.2 ≤ 4611686018427387903)
theorem lp_join (g : Int) (k : Ex → St → Option (AV × Heap)) : ∀ (R Q : List (Int × Int)) (a : Int × Int), Q.length + (R.length + 1) ≤ 1000 → inB R → bnd1 a →
    bnd (evC (call ir) (loop ir) lp22_2 (st22_2 0 (.d (.int .i64 g)) (.own 0 2 0 (Q.length + (R.length + 1)) false) (.d (.int .i64 Q.length)) [.arr 2 (Q.map eP ++ eP a :: R.map eP)])) (lpC (call ir) (loop ir) [1, 5, 9] lp22_2 k) =
      k (.exit 4) (clean [5] (st22_2 0 .unk (.own 0 2 0 (R.foldl (mstep g) (Q ++ [a])).length false) .unk [.arr 2 ((R.foldl (mstep g) (Q ++ [a])).map eP)]))
  | [], Q, a, hl, hR, ha => by
    have hw := wr_succ (i := Q.length) (by omega)
    have hx : ¬ ((Q.length + 1 : Nat) : Int) < ((Q.length + 1 : Nat) : Int) := by omega
    have e1 : Q.length + (([] : List (Int × Int)).length + 1) = Q.length + 1 := rfl
    have e2 : (Q ++ [a]).length = Q.length + 1 := by simp
    have e3 : (Q ++ [a]).map eP = Q.map eP ++ [eP a] := by simp
    rw [List.foldl_nil, e1, e2, e3, List.map_nil]
    simp (maxSteps := 2000000) (disch := omega) only [go_sem, doCall, doCallQ, doCallP, Nat.reduceAdd, Nat.reduceMul, Nat.reduceSub, Nat.reduceDiv, Nat.reduceMod, Nat.reduceLT, Nat.reduceLeDiff, Nat.reduceEqDiff, Nat.reduceBEq, Nat.reduceBNe, Int.reduceToNat, Int.reduceLT, Int.reduceLE, Int.reduceEq, Int.reduceNe, Int.reduceAdd, Int.reduceSub, Int.reduceMul, Int.reduceNeg, u22_2, lb22_2, hw, hx]
  | b :: R, Q, a, hl, hR, ha => by
    have hl' : Q.length + (R.length + 1 + 1) ≤ 1000 := by simpa using hl
    have hb : bnd1 b := hR b (List.mem_cons_self ..)
    have hR' : inB R := fun x hx => hR x (List.mem_cons_of_mem _ hx)
    have hw := wr_succ (i := Q.length) (by omega)
    have hx : ((Q.length + 1 : Nat) : Int) < ((Q.length + (R.length + 1 + 1) : Nat) : Int) := by omega
    have hql : (Q.map eP).length = Q.length := List.length_map ..
    have g1 : ∀ X : List (List D), (Q.map eP ++ eP a :: X).getD Q.length [] = eP a := fun X => by rw [List.getD_eq_getElem?_getD, List.getElem?_append_right (by rw [hql]; exact Nat.le_refl _), hql, Nat.sub_self]; rfl
    have g2 : ∀ X : List (List D), (Q.map eP ++ eP a :: eP b :: X).getD (Q.length + 1) [] = eP b := fun X => by rw [List.getD_eq_getElem?_getD, List.getElem?_append_right (by rw [hql]; omega), hql, Nat.add_sub_cancel_left]; rfl
    have hlen : (Q.map eP ++ eP a :: eP b :: R.map eP).length = Q.length + (R.length + 1 + 1) := by simp
    have hlt1 : Q.length < Q.length + (R.length + 1 + 1) := by omega
    have hlt2 : Q.length + 1 < Q.length + (R.length + 1 + 1) := by omega
    have hws : wr .i64 (b.1 - a.2) = b.1 - a.2 := wr_id (by omega)
    rw [List.foldl_cons, mstep_end, List.map_cons, List.length_cons]
    by_cases hc : b.1 - a.2 ≤ g
    · have hc' : ¬ g < b.1 - a.2 := by omega
      rw [if_pos hc]
      have ih := lp_join g k R Q (a.1, max a.2 b.2) (by omega) hR' ⟨ha.1, by simp only; omega⟩
      have hw2 : wr .i64 ((Q.length : Int) + 2) = ((Q.length + 2 : Nat) : Int) := by rw [wr_id (by omega)]; rfl
      have ht : ((Q.map eP ++ eP a :: eP b :: R.map eP).take Q.length) = Q.map eP := by rw [← hql, List.take_left]
      have hd : ((Q.map eP ++ eP a :: eP b :: R.map eP).drop (Q.length + 2)) = R.map eP := by
        rw [← hql, List.drop_append, Nat.add_sub_cancel_left, List.drop_eq_nil_of_le (Nat.le_add_right _ _)]; rfl
      have hrl : (R.map eP).length = R.length := List.length_map ..
      have ha2 : Q.length ≤ Q.length + (R.length + 1 + 1) := by omega
      have ha3 : Q.length + 2 ≤ Q.length + (R.length + 1 + 1) := by omega
      have ha4 : Q.length + (R.length + 1 + 1) - (Q.length + 2) = R.length := by omega
      have ha5 : (R.map eP).take R.length = R.map eP := by rw [← hrl, List.take_length]
      have ha6 : Q.length + 2 + R.length = Q.length + (R.length + 1 + 1) := by omega
      have hz : (0 : Int) ≤ ((Q.length + 2 : Nat) : Int) := Int.natCast_nonneg _
      have hz1 : (0 : Int) ≤ (Q.length : Int) := Int.natCast_nonneg _
      have ha7 : Q.length + 1 + R.length = Q.length + (R.length + 1) := by omega
      have hqx : ∀ x : List D, (Q.map eP ++ [x]).length = Q.length + 1 := fun x => by simp
      have hqa : ∀ x : List D, (Q.map eP ++ [x] ++ R.map eP) = Q.map eP ++ x :: R.map eP := fun x => by simp
      have hby : (Q.length + (R.length + 1)) * 16 ≤ 70368744177664 := by omega
      by_cases hm : b.2 > a.2
      · have hm' : a.2 < b.2 := hm
        rw [show max a.2 b.2 = b.2 by omega] at ih ⊢
        simp (maxSteps := 2000000) (disch := omega) only [go_sem, doCall, doCallQ, doCallP, Nat.reduceAdd, Nat.reduceMul, Nat.reduceSub, Nat.reduceDiv, Nat.reduceMod, Nat.reduceLT, Nat.reduceLeDiff, Nat.reduceEqDiff, Nat.reduceBEq, Nat.reduceBNe, Int.reduceToNat, Int.reduceLT, Int.reduceLE, Int.reduceEq, Int.reduceNe, Int.reduceAdd, Int.reduceSub, Int.reduceMul, Int.reduceNeg, u22_2, lb22_2, hw, hw2, hx, g1, g2, hlen, hlt1, hlt2, hws, hc', hm', ht, hd, hrl, ha2, ha3, ha4, ha5, ha6, ha7, hqx, hqa, hby, false_and, hz, hz1, hql, beq_self_eq_true, Nat.sub_zero, Nat.le_refl, Int.toNat_natCast, Nat.zero_add, chk_of]
        rw [loop_step1]
        simp (maxSteps := 2000000) only [go_sem, doCall, doCallQ, doCallP, Nat.reduceAdd, Nat.reduceMul, Nat.reduceSub, Nat.reduceDiv, Nat.reduceMod, Nat.reduceLT, Nat.reduceLeDiff, Nat.reduceEqDiff, Nat.reduceBEq, Nat.reduceBNe, Int.reduceToNat, Int.reduceLT, Int.reduceLE, Int.reduceEq, Int.reduceNe, Int.reduceAdd, Int.reduceSub, Int.reduceMul, Int.reduceNeg]
        exact ih
      · have hm' : ¬ a.2 < b.2 := hm
        rw [show max a.2 b.2 = a.2 by omega] at ih ⊢
        simp (maxSteps := 2000000) (disch := omega) only [go_sem, doCall, doCallQ, doCallP, Nat.reduceAdd, Nat.reduceMul, Nat.reduceSub, Nat.reduceDiv, Nat.reduceMod, Nat.reduceLT, Nat.reduceLeDiff, Nat.reduceEqDiff, Nat.reduceBEq, Nat.reduceBNe, Int.reduceToNat, Int.reduceLT, Int.reduceLE, Int.reduceEq, Int.reduceNe, Int.reduceAdd, Int.reduceSub, Int.reduceMul, Int.reduceNeg, u22_2, lb22_2, hw, hw2, hx, g1, g2, hlen, hlt1, hlt2, hws, hc', hm', ht, hd, hrl, ha2, ha3, ha4, ha5, ha6, ha7, hqx, hqa, hby, false_and, hz, hz1, hql, beq_self_eq_true, Nat.sub_zero, Nat.le_refl, Int.toNat_natCast, Nat.zero_add, chk_of]
        rw [loop_step1]
        simp (maxSteps := 2000000) only [go_sem, doCall, doCallQ, doCallP, Nat.reduceAdd, Nat.reduceMul, Nat.reduceSub, Nat.reduceDiv, Nat.reduceMod, Nat.reduceLT, Nat.reduceLeDiff, Nat.reduceEqDiff, Nat.reduceBEq, Nat.reduceBNe, Int.reduceToNat, Int.reduceLT, Int.reduceLE, Int.reduceEq, Int.reduceNe, Int.reduceAdd, Int.reduceSub, Int.reduceMul, Int.reduceNeg]
        exact ih
    · have hc' : g < b.1 - a.2 := by omega
      have ih := lp_join g k R (Q ++ [a]) b (by rw [List.length_append]; simp; omega) hR' hb
      rw [if_neg hc]
      have e1 : (Q ++ [a]).length + (R.length + 1) = Q.length + (R.length + 1 + 1) := by simp; omega
      have e2 : (Q ++ [a]).length = Q.length + 1 := by simp
      have e3 : (Q ++ [a]).map eP ++ eP b :: R.map eP = Q.map eP ++ eP a :: eP b :: R.map eP := by simp
      rw [e1, e2, e3] at ih
      simp (maxSteps := 2000000) (disch := omega) only [go_sem, doCall, doCallQ, doCallP, Nat.reduceAdd, Nat.reduceMul, Nat.reduceSub, Nat.reduceDiv, Nat.reduceMod, Nat.reduceLT, Nat.reduceLeDiff, Nat.reduceEqDiff, Nat.reduceBEq, Nat.reduceBNe, Int.reduceToNat, Int.reduceLT, Int.reduceLE, Int.reduceEq, Int.reduceNe, Int.reduceAdd, Int.reduceSub, Int.reduceMul, Int.reduceNeg, u22_2, lb22_2, hw, hx, g1, g2, hlen, hlt1, hlt2, hws, hc', Int.toNat_natCast, Nat.zero_add, chk_of]
      rw [loop_step1]
      simp (maxSteps := 2000000) only [go_sem, doCall, doCallQ, doCallP, Nat.reduceAdd, Nat.reduceMul, Nat.reduceSub, Nat.reduceDiv, Nat.reduceMod, Nat.reduceLT, Nat.reduceLeDiff, Nat.reduceEqDiff, Nat.reduceBEq, Nat.reduceBNe, Int.reduceToNat, Int.reduceLT, Int.reduceLE, Int.reduceEq, Int.reduceNe, Int.reduceAdd, Int.reduceSub, Int.reduceMul, Int.reduceNeg]
      exact ih
theorem insP_perm (O : List (Int × Int)) (s : Int × Int) : (insP O s).Perm (s :: O) := by
  unfold insP
  refine List.perm_middle.trans ?_
  rw [List.take_append_drop]
theorem insL_perm : ∀ (L O : List (Int × Int)), (L.foldl insP O).Perm (L ++ O)
  | [], O => List.Perm.refl _
  | x :: L, O => by
    rw [List.foldl_cons]
    exact (insL_perm L (insP O x)).trans (((insP_perm O x).append_left L).trans List.perm_middle)
def srtR (l : List (Int × Int)) : List (Int × Int) := (l.filter rp).foldl insP []
theorem srtR_perm (l : List (Int × Int)) : (srtR l).Perm (l.filter rp) := by
  have := insL_perm (l.filter rp) []
  rwa [List.append_nil] at this
def mrg (g : Int) (l : List (Int × Int)) : List (Int × Int) := (srtR l).foldl (mstep g) []
theorem c_rmerge (l : List (Int × Int)) (hl : l.length ≤ 900) (g : Int) : call ir 22 [.d (.list 2 (l.map eP)), .d (.int .i64 g)] [] =
    some (.own 0 2 0 (mrg (max g 0) l).length false, [.arr 2 ((mrg (max g 0) l).map eP)]) := by
  have hins := fun gg k => lp_ins gg l (by omega) k 0 (by omega) [] (by simp)
  simp only [List.drop_zero] at hins
  rw [show (l.filter rp).foldl insP [] = srtR l from rfl] at hins
  have hp := srtR_perm l
  have hB := inB_of hp
  have hf := List.length_filter_le rp l
  have hlen := hp.length_eq
  unfold mrg
  generalize srtR l = T at hins hp hB hlen
  rw [call_eq (fn := ir22) rfl, evF_bnd]
  have key : ∀ gg : Int, max g 0 = gg → bnd (evC (call ir) (loop ir) lp22_2 (st22_2 0 (.d (.int .i64 gg)) (.own 0 2 0 T.length false) (.d (.int .i64 0)) [.arr 2 (T.map eP)])) (lpC (call ir) (loop ir) [1, 5, 9] lp22_2 (bk 4 (sq (call ir) (loop ir) (.seq (.reg [⟨some 95, none, .mv (.s 5), .none⟩,
      ⟨some 4, none, .mv (.s 95), .none⟩])
  (.ret none)) (fin ir22)))) = some (.own 0 2 0 (T.foldl (mstep gg) []).length false, [.arr 2 ((T.foldl (mstep gg) []).map eP)]) := by
    intro gg _
    cases T with
    | nil =>
      have w1 : wr .i64 1 = 1 := wr_id (by omega)
      have w2 : ¬ (1 : Int) < 0 := by omega
      simp (maxSteps := 2000000) (disch := omega) only [go_sem, doCall, doCallQ, doCallP, Nat.reduceAdd, Nat.reduceMul, Nat.reduceSub, Nat.reduceDiv, Nat.reduceMod, Nat.reduceLT, Nat.reduceLeDiff, Nat.reduceEqDiff, Nat.reduceBEq, Nat.reduceBNe, Int.reduceToNat, Int.reduceLT, Int.reduceLE, Int.reduceEq, Int.reduceNe, Int.reduceAdd, Int.reduceSub, Int.reduceMul, Int.reduceNeg, u22_2, lb22_2, w1, w2, List.map_nil, List.length_nil, List.foldl_nil]
    | cons a R =>
      have := lp_join gg (bk 4 (sq (call ir) (loop ir) (.seq (.reg [⟨some 95, none, .mv (.s 5), .none⟩,
      ⟨some 4, none, .mv (.s 95), .none⟩])
  (.ret none)) (fin ir22))) R [] a (by rw [List.length_nil]; simp at hlen; omega) (fun x hx => hB x (List.mem_cons_of_mem _ hx)) (hB a (List.mem_cons_self ..))
      have e1 : ([] : List (Int × Int)).length + (R.length + 1) = (a :: R).length := by simp
      have e2 : ([] : List (Int × Int)).map eP ++ eP a :: R.map eP = (a :: R).map eP := rfl
      have e3 : R.foldl (mstep gg) ([] ++ [a]) = (a :: R).foldl (mstep gg) [] := by rw [List.foldl_cons]; rfl
      rw [e1, e2, e3] at this
      refine Eq.trans this ?_
      simp (maxSteps := 2000000) only [go_sem, doCall, doCallQ, doCallP, Nat.reduceAdd, Nat.reduceMul, Nat.reduceSub, Nat.reduceDiv, Nat.reduceMod, Nat.reduceLT, Nat.reduceLeDiff, Nat.reduceEqDiff, Nat.reduceBEq, Nat.reduceBNe, Int.reduceToNat, Int.reduceLT, Int.reduceLE, Int.reduceEq, Int.reduceNe, Int.reduceAdd, Int.reduceSub, Int.reduceMul, Int.reduceNeg]
  by_cases hg : g < 0
  · have hm : max g 0 = 0 := by omega
    have hk := key 0 hm
    rw [hm]
    simp (maxSteps := 2000000) (disch := omega) only [go_sem, doCall, doCallQ, doCallP, Nat.reduceAdd, Nat.reduceMul, Nat.reduceSub, Nat.reduceDiv, Nat.reduceMod, Nat.reduceLT, Nat.reduceLeDiff, Nat.reduceEqDiff, Nat.reduceBEq, Nat.reduceBNe, Int.reduceToNat, Int.reduceLT, Int.reduceLE, Int.reduceEq, Int.reduceNe, Int.reduceAdd, Int.reduceSub, Int.reduceMul, Int.reduceNeg, bd22, hg]
    rw [loop_step1]
    simp (maxSteps := 2000000) only [go_sem, doCall, doCallQ, doCallP, Nat.reduceAdd, Nat.reduceMul, Nat.reduceSub, Nat.reduceDiv, Nat.reduceMod, Nat.reduceLT, Nat.reduceLeDiff, Nat.reduceEqDiff, Nat.reduceBEq, Nat.reduceBNe, Int.reduceToNat, Int.reduceLT, Int.reduceLE, Int.reduceEq, Int.reduceNe, Int.reduceAdd, Int.reduceSub, Int.reduceMul, Int.reduceNeg]
    refine Eq.trans (hins 0 _) ?_
    simp (maxSteps := 2000000) only [go_sem, doCall, doCallQ, doCallP, Nat.reduceAdd, Nat.reduceMul, Nat.reduceSub, Nat.reduceDiv, Nat.reduceMod, Nat.reduceLT, Nat.reduceLeDiff, Nat.reduceEqDiff, Nat.reduceBEq, Nat.reduceBNe, Int.reduceToNat, Int.reduceLT, Int.reduceLE, Int.reduceEq, Int.reduceNe, Int.reduceAdd, Int.reduceSub, Int.reduceMul, Int.reduceNeg]
    rw [loop_step1]
    simp (maxSteps := 2000000) only [go_sem, doCall, doCallQ, doCallP, Nat.reduceAdd, Nat.reduceMul, Nat.reduceSub, Nat.reduceDiv, Nat.reduceMod, Nat.reduceLT, Nat.reduceLeDiff, Nat.reduceEqDiff, Nat.reduceBEq, Nat.reduceBNe, Int.reduceToNat, Int.reduceLT, Int.reduceLE, Int.reduceEq, Int.reduceNe, Int.reduceAdd, Int.reduceSub, Int.reduceMul, Int.reduceNeg]
    exact hk
  · have hm : max g 0 = g := by omega
    have hk := key g hm
    rw [hm]
    simp (maxSteps := 2000000) (disch := omega) only [go_sem, doCall, doCallQ, doCallP, Nat.reduceAdd, Nat.reduceMul, Nat.reduceSub, Nat.reduceDiv, Nat.reduceMod, Nat.reduceLT, Nat.reduceLeDiff, Nat.reduceEqDiff, Nat.reduceBEq, Nat.reduceBNe, Int.reduceToNat, Int.reduceLT, Int.reduceLE, Int.reduceEq, Int.reduceNe, Int.reduceAdd, Int.reduceSub, Int.reduceMul, Int.reduceNeg, bd22, hg]
    rw [loop_step1]
    simp (maxSteps := 2000000) only [go_sem, doCall, doCallQ, doCallP, Nat.reduceAdd, Nat.reduceMul, Nat.reduceSub, Nat.reduceDiv, Nat.reduceMod, Nat.reduceLT, Nat.reduceLeDiff, Nat.reduceEqDiff, Nat.reduceBEq, Nat.reduceBNe, Int.reduceToNat, Int.reduceLT, Int.reduceLE, Int.reduceEq, Int.reduceNe, Int.reduceAdd, Int.reduceSub, Int.reduceMul, Int.reduceNeg]
    refine Eq.trans (hins g _) ?_
    simp (maxSteps := 2000000) only [go_sem, doCall, doCallQ, doCallP, Nat.reduceAdd, Nat.reduceMul, Nat.reduceSub, Nat.reduceDiv, Nat.reduceMod, Nat.reduceLT, Nat.reduceLeDiff, Nat.reduceEqDiff, Nat.reduceBEq, Nat.reduceBNe, Int.reduceToNat, Int.reduceLT, Int.reduceLE, Int.reduceEq, Int.reduceNe, Int.reduceAdd, Int.reduceSub, Int.reduceMul, Int.reduceNeg]
    rw [loop_step1]
    simp (maxSteps := 2000000) only [go_sem, doCall, doCallQ, doCallP, Nat.reduceAdd, Nat.reduceMul, Nat.reduceSub, Nat.reduceDiv, Nat.reduceMod, Nat.reduceLT, Nat.reduceLeDiff, Nat.reduceEqDiff, Nat.reduceBEq, Nat.reduceBNe, Int.reduceToNat, Int.reduceLT, Int.reduceLE, Int.reduceEq, Int.reduceNe, Int.reduceAdd, Int.reduceSub, Int.reduceMul, Int.reduceNeg]
    exact hk
end Go.Proofs.YtplnioclkacgkaaGreatDoor
namespace Go.Proofs.YtplnioclkacgkaaGreatDoor
open Go Go.Ev
set_option linter.unusedSimpArgs false
set_option linter.unusedVariables false
theorem pos_above (O : List (Int × Int)) (f : Int) : ∀ i, ∀ j, pos O f i ≤ j → j < i → f < (O.getD j (0, 0)).1
  | 0, j, _, h => by omega
  | i + 1, j, h1, h2 => by
    unfold pos at h1
    split at h1
    · rename_i hc
      rcases Nat.lt_or_ge j i with h | h
      · exact pos_above O f i j h1 h
      · have : j = i := by omega
        subst this; exact hc
    · omega
theorem pos_below (O : List (Int × Int)) (f : Int) : ∀ i, pos O f i = 0 ∨ (O.getD (pos O f i - 1) (0, 0)).1 ≤ f
  | 0 => .inl rfl
  | i + 1 => by
    unfold pos
    split
    · exact pos_below O f i
    · rename_i hc
      right
      rw [Nat.add_sub_cancel]; omega
abbrev Srt (l : List (Int × Int)) : Prop := l.Pairwise fun x y => x.1 ≤ y.1
theorem insP_srt {O : List (Int × Int)} (h : Srt O) (s : Int × Int) : Srt (insP O s) := by
  have hp := pos_le O s.1 O.length
  have ha := pos_above O s.1 O.length
  have hb := pos_below O s.1 O.length
  unfold insP
  generalize pos O s.1 O.length = p at hp ha hb
  have hT : ∀ x ∈ O.take p, x.1 ≤ s.1 := by
    intro x hx
    obtain ⟨j, hj, rfl⟩ := List.getElem_of_mem hx
    rw [List.length_take] at hj
    rw [List.getElem_take]
    rcases hb with hb | hb
    · omega
    · rw [getD_of (show p - 1 < O.length by omega)] at hb
      rcases Nat.lt_or_ge j (p - 1) with h1 | h1
      · exact Int.le_trans ((List.pairwise_iff_getElem.1 h) j (p - 1) (by omega) (by omega) h1) hb
      · have : j = p - 1 := by omega
        subst this; exact hb
  have hD : ∀ x ∈ O.drop p, s.1 ≤ x.1 := by
    intro x hx
    obtain ⟨j, hj, rfl⟩ := List.getElem_of_mem hx
    rw [List.length_drop] at hj
    rw [List.getElem_drop]
    have := ha (p + j) (by omega) (by omega)
    rw [getD_of (show p + j < O.length by omega)] at this
    omega
  have h1 := List.pairwise_append.1 (by rw [List.take_append_drop]; exact h : Srt (O.take p ++ O.drop p))
  refine List.pairwise_append.2 ⟨h1.1, List.pairwise_cons.2 ⟨hD, h1.2.1⟩, ?_⟩
  intro x hx y hy
  rcases List.mem_cons.1 hy with rfl | hy
  · exact hT x hx
  · exact h1.2.2 x hx y hy
theorem insL_srt : ∀ (L O : List (Int × Int)), Srt O → Srt (L.foldl insP O)
  | [], O, h => h
  | x :: L, O, h => insL_srt L _ (insP_srt h x)
theorem srtR_srt (l : List (Int × Int)) : Srt (srtR l) := insL_srt _ _ List.Pairwise.nil
/-- The last one. -/
theorem snoc_of {α : Type} (l : List α) : l = [] ∨ ∃ q a, l = q ++ [a] := by
  rcases List.eq_nil_or_concat l with h | ⟨q, a, h⟩
  · exact .inl h
  · exact .inr ⟨q, a, by rw [h]; simp⟩
theorem mstep_nil (g : Int) (b : Int × Int) : mstep g [] b = [b] := rfl
/-- Two that begin alike may change places. -/
theorem mstep_comm {g : Int} (hg : 0 ≤ g) (O : List (Int × Int)) {x y : Int × Int} (hx : x.1 < x.2) (hy : y.1 < y.2) (h : x.1 = y.1) : mstep g (mstep g O x) y = mstep g (mstep g O y) x := by
  obtain ⟨x1, x2⟩ := x
  obtain ⟨y1, y2⟩ := y
  simp only at h hx hy
  subst h
  have two : ∀ Q : List (Int × Int), mstep g (Q ++ [(x1, x2)]) (x1, y2) = mstep g (Q ++ [(x1, y2)]) (x1, x2) := fun Q => by
    rw [mstep_end, mstep_end, if_pos (by simp only; omega), if_pos (by simp only; omega), Int.max_comm]
  rcases snoc_of O with rfl | ⟨Q, a, rfl⟩
  · exact two []
  · rw [mstep_end, mstep_end]
    simp only
    by_cases hc : x1 - a.2 ≤ g
    · rw [if_pos hc, if_pos hc, mstep_end, mstep_end, if_pos (by simp only; omega), if_pos (by simp only; omega)]
      simp only
      rw [show max (max a.2 x2) y2 = max (max a.2 y2) x2 by omega]
    · rw [if_neg hc, if_neg hc]
      exact two _
def okS (l : List (Int × Int)) : Prop := ∀ x ∈ l, x.1 < x.2
theorem fold_front {g : Int} (hg : 0 ≤ g) : ∀ (T1 T2 O : List (Int × Int)) (x : Int × Int), x.1 < x.2 → okS T1 → (∀ y ∈ T1, y.1 = x.1) → (T1 ++ x :: T2).foldl (mstep g) O = (x :: (T1 ++ T2)).foldl (mstep g) O
  | [], T2, O, x, hx, h1, h2 => rfl
  | y :: T1, T2, O, x, hx, h1, h2 => by
    rw [List.cons_append, List.foldl_cons, fold_front hg T1 T2 _ x hx (fun z hz => h1 z (List.mem_cons_of_mem _ hz)) (fun z hz => h2 z (List.mem_cons_of_mem _ hz))]
    rw [List.foldl_cons, List.foldl_cons, List.cons_append, List.foldl_cons, mstep_comm hg O (h1 y (List.mem_cons_self ..)) hx (h2 y (List.mem_cons_self ..))]
theorem fold_same {g : Int} (hg : 0 ≤ g) : ∀ (S T O : List (Int × Int)), S.Perm T → Srt S → Srt T → okS S → S.foldl (mstep g) O = T.foldl (mstep g) O
  | [], T, O, hp, _, _, _ => by rw [hp.nil_eq]
  | x :: S, T, O, hp, hS, hT, hk => by
    have hm : x ∈ T := hp.mem_iff.1 (List.mem_cons_self ..)
    obtain ⟨T1, T2, rfl⟩ := List.append_of_mem hm
    have hS' := List.pairwise_cons.1 hS
    have hT' := List.pairwise_append.1 hT
    have hkT : okS (T1 ++ x :: T2) := fun z hz => hk z (hp.mem_iff.2 hz)
    have heq : ∀ y ∈ T1, y.1 = x.1 := fun y hy => by
      have h1 : y.1 ≤ x.1 := hT'.2.2 y hy x (List.mem_cons_self ..)
      have h2 : x.1 ≤ y.1 := by
        have : y ∈ x :: S := hp.mem_iff.2 (List.mem_append_left _ hy)
        rcases List.mem_cons.1 this with rfl | h
        · exact Int.le_refl _
        · exact hS'.1 y h
      omega
    rw [fold_front hg T1 T2 O x (hk x (List.mem_cons_self ..)) (fun z hz => hkT z (List.mem_append_left _ hz)) heq]
    have hp2 : S.Perm (T1 ++ T2) := (hp.trans List.perm_middle).cons_inv
    have hT2 : Srt (T1 ++ T2) := List.pairwise_append.2 ⟨hT'.1, (List.pairwise_cons.1 hT'.2.1).2, fun a ha b hb => hT'.2.2 a ha b (List.mem_cons_of_mem _ hb)⟩
    rw [List.foldl_cons, List.foldl_cons]
    exact fold_same hg S (T1 ++ T2) _ hp2 hS'.2 hT2 fun z hz => hk z (List.mem_cons_of_mem _ hz)
theorem okS_rp (l : List (Int × Int)) : okS (l.filter rp) := fun x hx => by
  have := of_decide_eq_true (filt_rp l x hx)
  unfold RP at this; omega
theorem t_merge (l : List (Int × Int)) (hl : l.length ≤ 1000) (g : Int) : call Ir.ir 18 [.d (.list 2 (l.map eP)), .d (.int .i64 g)] [] = some (.own 0 2 0 (mrg (max g 0) l).length false, [.arr 2 ((mrg (max g 0) l).map eP)]) := by
  obtain ⟨S, h1, h2, h3⟩ := c_merge l hl g
  have hk : okS S := fun x hx => okS_rp l x (h1.mem_iff.1 hx)
  have := fold_same (g := max g 0) (by omega) S (srtR l) [] (h1.trans (srtR_perm l).symm) h2 (srtR_srt l) hk
  rw [this] at h3
  exact h3
end Go.Proofs.YtplnioclkacgkaaGreatDoor
