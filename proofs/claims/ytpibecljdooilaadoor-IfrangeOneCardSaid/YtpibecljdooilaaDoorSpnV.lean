/- Spans: slices.DeleteFunc at an own slice. Own work. Spans: span.Merge. Own work. Spans: span.Merge, whole. Own work. Spans: what is merged is apart and has the same bytes; without the reference's own merging. Own work. -/
import Derived.Test.YtpibecljdooilaaDoorSpnB
namespace Go.Proofs.YtpibecljdooilaaDoor
open Go Go.Ev Go.Proofs.YtpibecljdooilaaDoor.Ir
set_option maxRecDepth 100000
set_option maxHeartbeats 4000000
set_option linter.unusedSimpArgs false
set_option linter.unusedVariables false
def rp (x : Int × Int) : Bool := decide (RP x.1 x.2)
abbrev cloM : AV := .clo (.func 87) [] []
theorem c_m1 (x : Int × Int) : call ir 87 [vP x] [] = some (.d (.bool (!rp x)), []) := by
  rw [call_eq (fn := ir87) rfl, evF_bnd]
  simp (maxSteps := 2000000) only [go_sem, doCall, doCallQ, Nat.reduceAdd, Nat.reduceMul, Nat.reduceSub, Nat.reduceDiv, Nat.reduceMod, Nat.reduceLT, Nat.reduceLeDiff, Nat.reduceEqDiff, Nat.reduceBEq, Nat.reduceBNe, Int.reduceToNat, Int.reduceLT, Int.reduceLE, Int.reduceEq, Int.reduceNe, Int.reduceAdd, Int.reduceSub, Int.reduceMul, Int.reduceNeg, bd87, t_right]
  simp only [rp, decide_not]
theorem rp_t {x : Int × Int} (h : RP x.1 x.2) : rp x = true := decide_eq_true h
theorem rp_f {x : Int × Int} (h : ¬ RP x.1 x.2) : rp x = false := decide_eq_false h
theorem lp_idxM (l : List (Int × Int)) (hl : l.length ≤ 1000) (i : Nat) (hi : i ≤ l.length) (hp : (l.take i).filter rp = l.take i) :
    ∃ r : Int, bnd (evC (call ir) (loop ir) lp118_0 (st118_0 1 (.own 0 2 0 l.length false) cloM (.d (.int .i64 l.length)) (.d (.int .i64 i)) [.arr 2 (l.map eP)])) (lpC (call ir) (loop ir) [0, 1, 7, 8] lp118_0 (bk 0 (sq (call ir) (loop ir) (.seq (.reg [⟨some 4, none, .mv (.c (.d (.int .i64 (-1)))), .none⟩]) (.ret none)) (fin ir118)))) =
      some (.d (.int .i64 r), [.arr 2 (l.map eP)]) ∧ ((r = -1 ∧ l.filter rp = l) ∨ ∃ n : Nat, r = n ∧ n < l.length ∧ (l.take n).filter rp = l.take n ∧ rp (l.getD n (0, 0)) = false) := by
  by_cases h : i = l.length
  · have hx : ¬ (i : Int) < l.length := by omega
    refine ⟨-1, ?_, .inl ⟨rfl, by rw [h, List.take_length] at hp; exact hp⟩⟩
    simp (maxSteps := 2000000) (disch := omega) only [go_sem, doCall, doCallQ, Nat.reduceAdd, Nat.reduceMul, Nat.reduceSub, Nat.reduceDiv, Nat.reduceMod, Nat.reduceLT, Nat.reduceLeDiff, Nat.reduceEqDiff, Nat.reduceBEq, Nat.reduceBNe, Int.reduceToNat, Int.reduceLT, Int.reduceLE, Int.reduceEq, Int.reduceNe, Int.reduceAdd, Int.reduceSub, Int.reduceMul, Int.reduceNeg, u118_0, lb118_0, hx]
  · have hlt : (i : Int) < l.length := by omega
    have hi' : i < l.length := by omega
    have hw := wr_succ (i := i) (by omega)
    have hl2 : (l.map eP).length = l.length := List.length_map ..
    by_cases hin : RP l[i].1 l[i].2
    · have hr := rp_t hin
      obtain ⟨r, ih, hr2⟩ := lp_idxM l hl (i + 1) (by omega) (by rw [List.take_succ_eq_append_getElem hi', List.filter_append, hp, List.filter_cons, if_pos hr]; rfl)
      refine ⟨r, ?_, hr2⟩
      simp (maxSteps := 2000000) (disch := omega) only [go_sem, doCall, doCallQ, Nat.reduceAdd, Nat.reduceMul, Nat.reduceSub, Nat.reduceDiv, Nat.reduceMod, Nat.reduceLT, Nat.reduceLeDiff, Nat.reduceEqDiff, Nat.reduceBEq, Nat.reduceBNe, Int.reduceToNat, Int.reduceLT, Int.reduceLE, Int.reduceEq, Int.reduceNe, Int.reduceAdd, Int.reduceSub, Int.reduceMul, Int.reduceNeg, u118_0, lb118_0, hlt, Int.toNat_natCast, get_eP, hl2, Nat.zero_add, c_m1, hr, chk_of]
      rw [loop_step1]
      simp (maxSteps := 2000000) only [go_sem, doCall, doCallQ, Nat.reduceAdd, Nat.reduceMul, Nat.reduceSub, Nat.reduceDiv, Nat.reduceMod, Nat.reduceLT, Nat.reduceLeDiff, Nat.reduceEqDiff, Nat.reduceBEq, Nat.reduceBNe, Int.reduceToNat, Int.reduceLT, Int.reduceLE, Int.reduceEq, Int.reduceNe, Int.reduceAdd, Int.reduceSub, Int.reduceMul, Int.reduceNeg, hw]
      exact ih
    · have hr := rp_f hin
      refine ⟨i, ?_, .inr ⟨i, rfl, hi', hp, by rw [getD_of hi']; exact hr⟩⟩
      simp (maxSteps := 2000000) (disch := omega) only [go_sem, doCall, doCallQ, Nat.reduceAdd, Nat.reduceMul, Nat.reduceSub, Nat.reduceDiv, Nat.reduceMod, Nat.reduceLT, Nat.reduceLeDiff, Nat.reduceEqDiff, Nat.reduceBEq, Nat.reduceBNe, Int.reduceToNat, Int.reduceLT, Int.reduceLE, Int.reduceEq, Int.reduceNe, Int.reduceAdd, Int.reduceSub, Int.reduceMul, Int.reduceNeg, u118_0, lb118_0, hlt, Int.toNat_natCast, get_eP, hl2, Nat.zero_add, c_m1, hr, chk_of]
termination_by l.length - i
theorem c_idxM (l : List (Int × Int)) (hl : l.length ≤ 1000) : ∃ r : Int, call ir 118 [.own 0 2 0 l.length false, cloM] [.arr 2 (l.map eP)] = some (.d (.int .i64 r), [.arr 2 (l.map eP)]) ∧ ((r = -1 ∧ l.filter rp = l) ∨ ∃ n : Nat, r = n ∧ n < l.length ∧ (l.take n).filter rp = l.take n ∧ rp (l.getD n (0, 0)) = false) := by
  obtain ⟨r, h1, h2⟩ := lp_idxM l hl 0 (by omega) rfl
  refine ⟨r, ?_, h2⟩
  rw [call_eq (fn := ir118) rfl, evF_bnd]
  simp (maxSteps := 2000000) only [go_sem, doCall, doCallQ, Nat.reduceAdd, Nat.reduceMul, Nat.reduceSub, Nat.reduceDiv, Nat.reduceMod, Nat.reduceLT, Nat.reduceLeDiff, Nat.reduceEqDiff, Nat.reduceBEq, Nat.reduceBNe, Int.reduceToNat, Int.reduceLT, Int.reduceLE, Int.reduceEq, Int.reduceNe, Int.reduceAdd, Int.reduceSub, Int.reduceMul, Int.reduceNeg, bd118]
  rw [loop_step1]
  simp (maxSteps := 2000000) only [go_sem, doCall, doCallQ, Nat.reduceAdd, Nat.reduceMul, Nat.reduceSub, Nat.reduceDiv, Nat.reduceMod, Nat.reduceLT, Nat.reduceLeDiff, Nat.reduceEqDiff, Nat.reduceBEq, Nat.reduceBNe, Int.reduceToNat, Int.reduceLT, Int.reduceLE, Int.reduceEq, Int.reduceNe, Int.reduceAdd, Int.reduceSub, Int.reduceMul, Int.reduceNeg]
  exact h1
theorem lp_del (l : List (Int × Int)) (hl : l.length ≤ 1000) (k : Ex → St → Option (AV × Heap)) (j : Nat) (hj : j ≤ l.length) (X : List (Int × Int)) (hX : X.length = l.length) (i : Nat) (hi : i < j)
    (h1 : X.take i = (l.take j).filter rp) (h2 : X.drop j = l.drop j) :
    ∃ X' : List (Int × Int), X'.length = l.length ∧ X'.take (l.filter rp).length = l.filter rp ∧
    bnd (evC (call ir) (loop ir) lp85_0 (st85_0 1 (.own 0 2 0 l.length false) cloM (.d (.int .i64 i)) (.d (.int .i64 j)) [.arr 2 (X.map eP)])) (lpC (call ir) (loop ir) [0, 1, 5, 6] lp85_0 k) =
      k (.exit 0) (clean [0, 5] (st85_0 1 (.own 0 2 0 l.length false) .unk (.d (.int .i64 (l.filter rp).length)) .unk [.arr 2 (X'.map eP)])) := by
  have hi2 : i = ((l.take j).filter rp).length := by rw [← h1, List.length_take]; omega
  by_cases h : j = l.length
  · have hx : ¬ (j : Int) < l.length := by omega
    rw [h, List.take_length] at h1 hi2
    refine ⟨X, hX, by rw [← hi2, h1], ?_⟩
    simp (maxSteps := 2000000) (disch := omega) only [go_sem, doCall, doCallQ, Nat.reduceAdd, Nat.reduceMul, Nat.reduceSub, Nat.reduceDiv, Nat.reduceMod, Nat.reduceLT, Nat.reduceLeDiff, Nat.reduceEqDiff, Nat.reduceBEq, Nat.reduceBNe, Int.reduceToNat, Int.reduceLT, Int.reduceLE, Int.reduceEq, Int.reduceNe, Int.reduceAdd, Int.reduceSub, Int.reduceMul, Int.reduceNeg, u85_0, lb85_0, hx]
    rw [hi2]
  · have hlt : (j : Int) < l.length := by omega
    have hj' : j < l.length := by omega
    have hjX : j < X.length := by omega
    have hw := wr_succ (i := j) (by omega)
    have hl2 : (X.map eP).length = l.length := by rw [List.length_map, hX]
    have he : X[j] = l[j] := by
      have := congrArg (fun t => t.getD 0 (0, 0)) h2
      simpa [List.getD_eq_getElem?_getD, hj', hjX] using this
    by_cases hin : RP l[j].1 l[j].2
    · have hr := rp_t hin
      have hiX : i < X.length := by omega
      have hwi := wr_succ (i := i) (by omega)
      have hset : (X.map eP).set i (eP l[j]) = (X.set i l[j]).map eP := by rw [List.map_set]
      obtain ⟨X', a1, a2, a3⟩ := lp_del l hl k (j + 1) (by omega) (X.set i l[j]) (by rw [List.length_set]; exact hX) (i + 1) (by omega)
        (by rw [List.take_succ_eq_append_getElem hj', List.filter_append, ← h1, List.filter_cons, if_pos hr, List.filter_nil,
              List.take_succ_eq_append_getElem (by rw [List.length_set]; exact hiX), List.getElem_set_self, List.take_set_of_le (Nat.le_refl _)])
        (by rw [List.drop_set_of_lt (by omega), ← List.drop_drop, h2, List.drop_drop])
      refine ⟨X', a1, a2, ?_⟩
      have hii : (i : Int) < l.length := by omega
      simp (maxSteps := 2000000) (disch := omega) only [go_sem, doCall, doCallQ, Nat.reduceAdd, Nat.reduceMul, Nat.reduceSub, Nat.reduceDiv, Nat.reduceMod, Nat.reduceLT, Nat.reduceLeDiff, Nat.reduceEqDiff, Nat.reduceBEq, Nat.reduceBNe, Int.reduceToNat, Int.reduceLT, Int.reduceLE, Int.reduceEq, Int.reduceNe, Int.reduceAdd, Int.reduceSub, Int.reduceMul, Int.reduceNeg, u85_0, lb85_0, hlt, hii, Int.toNat_natCast, get_eP, hl2, he, Nat.zero_add, c_m1, hr, chk_of]
      rw [loop_step1]
      simp (maxSteps := 2000000) only [go_sem, doCall, doCallQ, Nat.reduceAdd, Nat.reduceMul, Nat.reduceSub, Nat.reduceDiv, Nat.reduceMod, Nat.reduceLT, Nat.reduceLeDiff, Nat.reduceEqDiff, Nat.reduceBEq, Nat.reduceBNe, Int.reduceToNat, Int.reduceLT, Int.reduceLE, Int.reduceEq, Int.reduceNe, Int.reduceAdd, Int.reduceSub, Int.reduceMul, Int.reduceNeg, hw, hwi, hset]
      exact a3
    · have hr := rp_f hin
      obtain ⟨X', a1, a2, a3⟩ := lp_del l hl k (j + 1) (by omega) X hX i (by omega)
        (by rw [List.take_succ_eq_append_getElem hj', List.filter_append, ← h1, List.filter_cons, if_neg (by rw [hr]; simp)]; simp)
        (by rw [← List.drop_drop, h2, List.drop_drop])
      refine ⟨X', a1, a2, ?_⟩
      simp (maxSteps := 2000000) (disch := omega) only [go_sem, doCall, doCallQ, Nat.reduceAdd, Nat.reduceMul, Nat.reduceSub, Nat.reduceDiv, Nat.reduceMod, Nat.reduceLT, Nat.reduceLeDiff, Nat.reduceEqDiff, Nat.reduceBEq, Nat.reduceBNe, Int.reduceToNat, Int.reduceLT, Int.reduceLE, Int.reduceEq, Int.reduceNe, Int.reduceAdd, Int.reduceSub, Int.reduceMul, Int.reduceNeg, u85_0, lb85_0, hlt, Int.toNat_natCast, get_eP, hl2, he, Nat.zero_add, c_m1, hr, chk_of]
      rw [loop_step1]
      simp (maxSteps := 2000000) only [go_sem, doCall, doCallQ, Nat.reduceAdd, Nat.reduceMul, Nat.reduceSub, Nat.reduceDiv, Nat.reduceMod, Nat.reduceLT, Nat.reduceLeDiff, Nat.reduceEqDiff, Nat.reduceBEq, Nat.reduceBNe, Int.reduceToNat, Int.reduceLT, Int.reduceLE, Int.reduceEq, Int.reduceNe, Int.reduceAdd, Int.reduceSub, Int.reduceMul, Int.reduceNeg, hw]
      exact a3
termination_by l.length - j
/-- What DeleteFunc leaves: the right ones ahead, in their order. -/
theorem c_del (l : List (Int × Int)) (hl : l.length ≤ 1000) : ∃ Z : List (List D), call ir 85 [.own 0 2 0 l.length false, cloM] [.arr 2 (l.map eP)] = some (.own 0 2 0 (l.filter rp).length false, [.arr 2 ((l.filter rp).map eP ++ Z)]) := by
  obtain ⟨r, e1, h⟩ := c_idxM l hl
  have hl2 : (l.map eP).length = l.length := List.length_map ..
  rcases h with ⟨rfl, h⟩ | ⟨n, rfl, hn, h1, h2⟩
  · refine ⟨[], ?_⟩
    rw [h, List.append_nil, call_eq (fn := ir85) rfl, evF_bnd]
    simp (maxSteps := 2000000) (disch := omega) only [go_sem, doCall, doCallQ, Nat.reduceAdd, Nat.reduceMul, Nat.reduceSub, Nat.reduceDiv, Nat.reduceMod, Nat.reduceLT, Nat.reduceLeDiff, Nat.reduceEqDiff, Nat.reduceBEq, Nat.reduceBNe, Int.reduceToNat, Int.reduceLT, Int.reduceLE, Int.reduceEq, Int.reduceNe, Int.reduceAdd, Int.reduceSub, Int.reduceMul, Int.reduceNeg, bd85, e1]
  · have hw := wr_succ (i := n) (by omega)
    have hne : ¬ (n : Int) = -1 := by omega
    rw [getD_of hn] at h2
    have hf : (l.take (n + 1)).filter rp = l.take n := by
      rw [List.take_succ_eq_append_getElem hn, List.filter_append, h1, List.filter_cons, if_neg (by rw [h2]; simp)]; simp
    obtain ⟨X', a1, a2, a3⟩ := lp_del l hl (bk 0 (sq (call ir) (loop ir) (.seq (.reg [⟨some 36, none, .mv (.s 0), .none⟩,
      ⟨some 37, none, .mv (.s 5), .none⟩,
      ⟨some 38, none, .sl (.s 36) (some (.s 37)) none none 2, .none⟩,
      ⟨none, none, .bcall (.clr [.int .i64 0, .int .i64 0]) [.s 38], .none⟩])
  (.seq (.reg [⟨some 39, none, .mv (.s 0), .none⟩,
      ⟨some 40, none, .mv (.s 5), .none⟩,
      ⟨some 41, none, .sl (.s 39) none (some (.s 40)) none 2, .none⟩,
      ⟨some 4, none, .mv (.s 41), .none⟩])
  (.ret none))) (fin ir85))) (n + 1) (by omega) l rfl n (by omega) hf.symm rfl
    have hle : (l.filter rp).length ≤ l.length := List.length_filter_le ..
    refine ⟨List.replicate (l.length - (l.filter rp).length) [.int .i64 0, .int .i64 0], ?_⟩
    rw [call_eq (fn := ir85) rfl, evF_bnd]
    simp (maxSteps := 2000000) (disch := omega) only [go_sem, doCall, doCallQ, Nat.reduceAdd, Nat.reduceMul, Nat.reduceSub, Nat.reduceDiv, Nat.reduceMod, Nat.reduceLT, Nat.reduceLeDiff, Nat.reduceEqDiff, Nat.reduceBEq, Nat.reduceBNe, Int.reduceToNat, Int.reduceLT, Int.reduceLE, Int.reduceEq, Int.reduceNe, Int.reduceAdd, Int.reduceSub, Int.reduceMul, Int.reduceNeg, bd85, e1, hne]
    rw [loop_step1]
    simp (maxSteps := 2000000) only [go_sem, doCall, doCallQ, Nat.reduceAdd, Nat.reduceMul, Nat.reduceSub, Nat.reduceDiv, Nat.reduceMod, Nat.reduceLT, Nat.reduceLeDiff, Nat.reduceEqDiff, Nat.reduceBEq, Nat.reduceBNe, Int.reduceToNat, Int.reduceLT, Int.reduceLE, Int.reduceEq, Int.reduceNe, Int.reduceAdd, Int.reduceSub, Int.reduceMul, Int.reduceNeg, hw]
    refine Eq.trans a3 ?_
    have ht : (X'.map eP).take (l.filter rp).length = (l.filter rp).map eP := by rw [← List.map_take, a2]
    have hd : (X'.map eP).drop l.length = [] := List.drop_eq_nil_of_le (by rw [List.length_map]; omega)
    have hx2 : (X'.map eP).length = l.length := by rw [List.length_map, a1]
    have hadd : (l.filter rp).length + (l.length - (l.filter rp).length) = l.length := by omega
    have hz : (0 : Int) ≤ ((l.filter rp).length : Int) := Int.natCast_nonneg _
    simp (maxSteps := 2000000) (disch := omega) only [go_sem, doCall, doCallQ, Nat.reduceAdd, Nat.reduceMul, Nat.reduceSub, Nat.reduceDiv, Nat.reduceMod, Nat.reduceLT, Nat.reduceLeDiff, Nat.reduceEqDiff, Nat.reduceBEq, Nat.reduceBNe, Int.reduceToNat, Int.reduceLT, Int.reduceLE, Int.reduceEq, Int.reduceNe, Int.reduceAdd, Int.reduceSub, Int.reduceMul, Int.reduceNeg, hz, Int.toNat_natCast, Nat.le_refl, Nat.zero_add, Nat.sub_zero, chk_of, hle, ht, hd, hx2, hadd]
end Go.Proofs.YtpibecljdooilaaDoor
namespace Go.Proofs.YtpibecljdooilaaDoor
open Go Go.Ev Go.Proofs.YtpibecljdooilaaDoor.Ir
set_option maxRecDepth 100000
set_option maxHeartbeats 4000000
set_option linter.unusedSimpArgs false
set_option linter.unusedVariables false
/-- A piece more, joined to the last one if the gap is small. -/
def mstep (g : Int) (O : List (Int × Int)) (s : Int × Int) : List (Int × Int) :=
  if 0 < O.length ∧ s.1 - (O.getD (O.length - 1) (0, 0)).2 ≤ g then O.set (O.length - 1) ((O.getD (O.length - 1) (0, 0)).1, max (O.getD (O.length - 1) (0, 0)).2 s.2) else O ++ [s]
def inB (l : List (Int × Int)) : Prop := ∀ x ∈ l, (0 ≤ x.1 ∧ x.1 ≤ 4611686018427387903) ∧ (0 ≤ x.2 ∧ x.2 ≤ 4611686018427387903)
theorem inB_get {l : List (Int × Int)} (h : inB l) {i : Nat} (hi : i < l.length) : (0 ≤ l[i].1 ∧ l[i].1 ≤ 4611686018427387903) ∧ (0 ≤ l[i].2 ∧ l[i].2 ≤ 4611686018427387903) := h _ (List.getElem_mem hi)
theorem inB_mstep {g : Int} {O : List (Int × Int)} {s : Int × Int} (h : inB O) (hs : (0 ≤ s.1 ∧ s.1 ≤ 4611686018427387903) ∧ (0 ≤ s.2 ∧ s.2 ≤ 4611686018427387903)) : inB (mstep g O s) := by
  unfold mstep
  split
  · rename_i hc
    intro x hx
    rcases List.mem_or_eq_of_mem_set hx with hx | rfl
    · exact h x hx
    · rw [getD_of (show O.length - 1 < O.length by omega)]
      have := inB_get h (show O.length - 1 < O.length by omega)
      exact ⟨this.1, by simp only; omega, by simp only; omega⟩
  · intro x hx
    rcases List.mem_append.1 hx with hx | hx
    · exact h x hx
    · rw [List.mem_singleton.1 hx]; exact hs
theorem len_mstep (g : Int) (O : List (Int × Int)) (s : Int × Int) : (mstep g O s).length ≤ O.length + 1 := by
  unfold mstep; split <;> simp
theorem lp_mg (g : Int) (A : List (Int × Int)) (hA : A.length ≤ 1000) (hB : inB A) (Z : List (List D)) (k : Ex → St → Option (AV × Heap)) (i : Nat) (hi : i ≤ A.length) (O : List (Int × Int)) (hO : inB O) (hl : O.length ≤ i) :
    bnd (evC (call ir) (loop ir) lp56_0 (st56_0 0 (.d (.int .i64 g)) (.own 0 2 0 O.length false) (.own 1 2 0 A.length false) (.d (.int .i64 A.length)) (.d (.int .i64 i)) [.arr 2 (O.map eP), .arr 2 (A.map eP ++ Z)])) (lpC (call ir) (loop ir) [1, 6, 17, 18, 19] lp56_0 k) =
      k (.exit 0) (clean [6] (st56_0 0 .unk (.own 0 2 0 ((A.drop i).foldl (mstep g) O).length false) .unk .unk .unk [.arr 2 (((A.drop i).foldl (mstep g) O).map eP)])) := by
  by_cases h : i = A.length
  · have hx : ¬ (i : Int) < A.length := by omega
    simp (maxSteps := 2000000) (disch := omega) only [go_sem, doCall, doCallQ, Nat.reduceAdd, Nat.reduceMul, Nat.reduceSub, Nat.reduceDiv, Nat.reduceMod, Nat.reduceLT, Nat.reduceLeDiff, Nat.reduceEqDiff, Nat.reduceBEq, Nat.reduceBNe, Int.reduceToNat, Int.reduceLT, Int.reduceLE, Int.reduceEq, Int.reduceNe, Int.reduceAdd, Int.reduceSub, Int.reduceMul, Int.reduceNeg, u56_0, lb56_0, hx]
    rw [h, List.drop_length]; rfl
  · have hlt : (i : Int) < A.length := by omega
    have hi' : i < A.length := by omega
    have hw := wr_succ (i := i) (by omega)
    have hb := inB_get hB hi'
    have ih := lp_mg g A hA hB Z k (i + 1) (by omega) (mstep g O A[i]) (inB_mstep hO hb) (by have := len_mstep g O A[i]; omega)
    rw [List.drop_eq_getElem_cons hi', List.foldl_cons]
    have hlr : (A.map eP ++ Z).length = A.length + Z.length := by simp
    have hle : A.length ≤ A.length + Z.length := by omega
    have hgr : (A.map eP ++ Z).getD i [] = eP A[i] := by
      rw [List.getD_eq_getElem?_getD, List.getElem?_append_left (by rw [List.length_map]; exact hi')]; simp [hi']
    have hol : (O.map eP).length = O.length := List.length_map ..
    by_cases h0 : O.length = 0
    · have hz : ¬ (0 : Int) < O.length := by omega
      have hm : mstep g O A[i] = O ++ [A[i]] := by unfold mstep; rw [if_neg (by omega)]
      rw [hm] at ih ⊢
      simp (maxSteps := 2000000) (disch := omega) only [go_sem, doCall, doCallQ, Nat.reduceAdd, Nat.reduceMul, Nat.reduceSub, Nat.reduceDiv, Nat.reduceMod, Nat.reduceLT, Nat.reduceLeDiff, Nat.reduceEqDiff, Nat.reduceBEq, Nat.reduceBNe, Int.reduceToNat, Int.reduceLT, Int.reduceLE, Int.reduceEq, Int.reduceNe, Int.reduceAdd, Int.reduceSub, Int.reduceMul, Int.reduceNeg, u56_0, lb56_0, hlt, hlr, hle, hgr, hol, hz, Int.toNat_natCast, Nat.zero_add, chk_of]
      rw [loop_step1]
      have hln : (O ++ [A[i]]).length = O.length + 1 := by simp
      have hmp : (O ++ [A[i]]).map eP = O.map eP ++ [[D.int .i64 A[i].1, D.int .i64 A[i].2]] := by simp
      rw [hln, hmp] at ih
      simp (maxSteps := 2000000) only [go_sem, doCall, doCallQ, Nat.reduceAdd, Nat.reduceMul, Nat.reduceSub, Nat.reduceDiv, Nat.reduceMod, Nat.reduceLT, Nat.reduceLeDiff, Nat.reduceEqDiff, Nat.reduceBEq, Nat.reduceBNe, Int.reduceToNat, Int.reduceLT, Int.reduceLE, Int.reduceEq, Int.reduceNe, Int.reduceAdd, Int.reduceSub, Int.reduceMul, Int.reduceNeg, hw]
      exact ih
    · have hz : (0 : Int) < O.length := by omega
      have hp := wr_pred (i := O.length) (by omega) (by omega)
      have hpl : O.length - 1 < O.length := by omega
      have hgo := get_eP O (O.length - 1) hpl
      have hbo := inB_get hO hpl
      have hws : wr .i64 (A[i].1 - O[O.length - 1].2) = A[i].1 - O[O.length - 1].2 := wr_id (by omega)
      by_cases hc : A[i].1 - O[O.length - 1].2 ≤ g
      · have hm : mstep g O A[i] = O.set (O.length - 1) (O[O.length - 1].1, max O[O.length - 1].2 A[i].2) := by unfold mstep; rw [getD_of hpl, if_pos ⟨by omega, hc⟩]
        rw [hm] at ih ⊢
        simp (maxSteps := 2000000) (disch := omega) only [go_sem, doCall, doCallQ, Nat.reduceAdd, Nat.reduceMul, Nat.reduceSub, Nat.reduceDiv, Nat.reduceMod, Nat.reduceLT, Nat.reduceLeDiff, Nat.reduceEqDiff, Nat.reduceBEq, Nat.reduceBNe, Int.reduceToNat, Int.reduceLT, Int.reduceLE, Int.reduceEq, Int.reduceNe, Int.reduceAdd, Int.reduceSub, Int.reduceMul, Int.reduceNeg, u56_0, lb56_0, hlt, hlr, hle, hgr, hol, hz, hp, hgo, hws, hc, Int.toNat_natCast, Nat.zero_add, chk_of]
        rw [loop_step1]
        have hln : (O.set (O.length - 1) (O[O.length - 1].1, max O[O.length - 1].2 A[i].2)).length = O.length := by simp
        have hmp : (O.set (O.length - 1) (O[O.length - 1].1, max O[O.length - 1].2 A[i].2)).map eP = (O.map eP).set (O.length - 1) [D.int .i64 O[O.length - 1].1, D.int .i64 (max O[O.length - 1].2 A[i].2)] := by rw [List.map_set]
        rw [hln, hmp] at ih
        simp (maxSteps := 2000000) only [go_sem, doCall, doCallQ, Nat.reduceAdd, Nat.reduceMul, Nat.reduceSub, Nat.reduceDiv, Nat.reduceMod, Nat.reduceLT, Nat.reduceLeDiff, Nat.reduceEqDiff, Nat.reduceBEq, Nat.reduceBNe, Int.reduceToNat, Int.reduceLT, Int.reduceLE, Int.reduceEq, Int.reduceNe, Int.reduceAdd, Int.reduceSub, Int.reduceMul, Int.reduceNeg, hw]
        exact ih
      · have hm : mstep g O A[i] = O ++ [A[i]] := by unfold mstep; rw [getD_of hpl, if_neg (fun h => hc h.2)]
        rw [hm] at ih ⊢
        simp (maxSteps := 2000000) (disch := omega) only [go_sem, doCall, doCallQ, Nat.reduceAdd, Nat.reduceMul, Nat.reduceSub, Nat.reduceDiv, Nat.reduceMod, Nat.reduceLT, Nat.reduceLeDiff, Nat.reduceEqDiff, Nat.reduceBEq, Nat.reduceBNe, Int.reduceToNat, Int.reduceLT, Int.reduceLE, Int.reduceEq, Int.reduceNe, Int.reduceAdd, Int.reduceSub, Int.reduceMul, Int.reduceNeg, u56_0, lb56_0, hlt, hlr, hle, hgr, hol, hz, hp, hgo, hws, hc, Int.toNat_natCast, Nat.zero_add, chk_of]
        rw [loop_step1]
        have hln : (O ++ [A[i]]).length = O.length + 1 := by simp
        have hmp : (O ++ [A[i]]).map eP = O.map eP ++ [[D.int .i64 A[i].1, D.int .i64 A[i].2]] := by simp
        rw [hln, hmp] at ih
        simp (maxSteps := 2000000) only [go_sem, doCall, doCallQ, Nat.reduceAdd, Nat.reduceMul, Nat.reduceSub, Nat.reduceDiv, Nat.reduceMod, Nat.reduceLT, Nat.reduceLeDiff, Nat.reduceEqDiff, Nat.reduceBEq, Nat.reduceBNe, Int.reduceToNat, Int.reduceLT, Int.reduceLE, Int.reduceEq, Int.reduceNe, Int.reduceAdd, Int.reduceSub, Int.reduceMul, Int.reduceNeg, hw]
        exact ih
termination_by A.length - i
end Go.Proofs.YtpibecljdooilaaDoor
namespace Go.Proofs.YtpibecljdooilaaDoor
open Go Go.Ev Go.Proofs.YtpibecljdooilaaDoor.Ir
set_option maxRecDepth 100000
set_option maxHeartbeats 4000000
set_option linter.unusedSimpArgs false
set_option linter.unusedVariables false
theorem dec_spans : ∀ (F : List (Int × Int)), (∀ x ∈ F, rp x = true) → ∃ L : List SpA, L.map (·.1) = F ∧ decL spanE (F.map eP) = some L
  | [], _ => ⟨[], rfl, rfl⟩
  | x :: F, h => by
    obtain ⟨L, h1, h2⟩ := dec_spans F fun y hy => h y (List.mem_cons_of_mem _ hy)
    have hx := of_decide_eq_true (h x (List.mem_cons_self ..))
    unfold RP at hx
    have hb : 0 ≤ x.1 ∧ x.1 ≤ 4611686018427387903 := by omega
    refine ⟨⟨x, hb⟩ :: L, by simp [h1], ?_⟩
    have hd : spanE.dec (eP x) = some ⟨x, hb⟩ := by simp only [spanE]; rw [dif_pos hb]
    rw [List.map_cons, decL, hd, h2]
theorem rows_spans (L : List SpA) : L.map spanE.row = (L.map (·.1)).map eP := by rw [List.map_map]; rfl
theorem c_sort (F : List (Int × Int)) (hF : ∀ x ∈ F, rp x = true) (hl : F.length ≤ 1000) (Z : List (List D)) : ∃ S : List (Int × Int), S.Perm F ∧ S.Pairwise (fun x y => x.1 ≤ y.1) ∧
    call ir 88 [.own 0 2 0 F.length false, .clo (.func 89) [] []] [.arr 2 (F.map eP ++ Z)] = some (.tup [], [.arr 2 (S.map eP ++ Z)]) := by
  obtain ⟨L, h1, h2⟩ := dec_spans F hF
  refine ⟨(spanS L).map (·.1), h1 ▸ (spanS_perm L).map _, (List.pairwise_map.2 (spanS_sorted L)), ?_⟩
  have hlen : (F.map eP).length = F.length := List.length_map ..
  have e := natSF_eq spanE spanS 88 89 (i := 0) (z := 2) (o := 0) (n := F.length) (b := false) (H := [.arr 2 (F.map eP ++ Z)]) (xs := F.map eP ++ Z) (l := L) rfl rfl ⟨by simp, by omega⟩
    (by rw [List.drop_zero, List.take_append_of_le_length (by rw [hlen]; exact Nat.le_refl _), ← hlen, List.take_length]; exact h2)
  rw [call_nat (by rfl)]
  show natOr _ _ _ _ _ = _
  unfold natOr
  rw [e, rows_spans, Nat.zero_add, ← hlen, List.drop_left]
  rfl
theorem c_clone (l : List (Int × Int)) (hl : l.length ≤ 1000) : call ir 86 [.d (.list 2 (l.map eP))] [] = some (.own 0 2 0 l.length false, [.arr 2 (l.map eP)]) := by
  have hlen : (l.map eP).length = l.length := List.length_map ..
  have e := natSC_eq 86 2 16 (xs := l.map eP) (by omega)
  rw [hlen] at e
  rw [call_nat (by rfl)]
  show natOr _ _ _ _ _ = _
  unfold natOr
  rw [e]
theorem filt_rp (l : List (Int × Int)) : ∀ x ∈ l.filter rp, rp x = true := fun x hx => (List.mem_filter.1 hx).2
theorem inB_of {S l : List (Int × Int)} (h : S.Perm (l.filter rp)) : inB S := fun x hx => by
  have := of_decide_eq_true (filt_rp l x (h.mem_iff.1 hx))
  unfold RP at this
  omega
theorem c_merge (l : List (Int × Int)) (hl : l.length ≤ 1000) (g : Int) : ∃ S : List (Int × Int), S.Perm (l.filter rp) ∧ S.Pairwise (fun x y => x.1 ≤ y.1) ∧
    call ir 56 [.d (.list 2 (l.map eP)), .d (.int .i64 g)] [] = some (.own 0 2 0 (S.foldl (mstep (max g 0)) []).length false, [.arr 2 ((S.foldl (mstep (max g 0)) []).map eP)]) := by
  have hf := List.length_filter_le rp l
  obtain ⟨Z, h1⟩ := c_del l hl
  obtain ⟨S, h2, h3, h4⟩ := c_sort (l.filter rp) (filt_rp l) (by omega) Z
  refine ⟨S, h2, h3, ?_⟩
  have hlen := h2.length_eq
  have hc := c_clone l hl
  have hlp := fun k => lp_mg (max g 0) S (by omega) (inB_of h2) Z k 0 (by omega) [] (by intro x hx; simp at hx) (by simp)
  rw [List.drop_zero] at hlp
  rw [← hlen] at h1 h4
  rw [call_eq (fn := ir56) rfl, evF_bnd]
  simp (maxSteps := 2000000) (disch := omega) only [go_sem, doCall, doCallQ, Nat.reduceAdd, Nat.reduceMul, Nat.reduceSub, Nat.reduceDiv, Nat.reduceMod, Nat.reduceLT, Nat.reduceLeDiff, Nat.reduceEqDiff, Nat.reduceBEq, Nat.reduceBNe, Int.reduceToNat, Int.reduceLT, Int.reduceLE, Int.reduceEq, Int.reduceNe, Int.reduceAdd, Int.reduceSub, Int.reduceMul, Int.reduceNeg, bd56, hc, h1, h4]
  rw [loop_step1]
  simp (maxSteps := 2000000) only [go_sem, doCall, doCallQ, Nat.reduceAdd, Nat.reduceMul, Nat.reduceSub, Nat.reduceDiv, Nat.reduceMod, Nat.reduceLT, Nat.reduceLeDiff, Nat.reduceEqDiff, Nat.reduceBEq, Nat.reduceBNe, Int.reduceToNat, Int.reduceLT, Int.reduceLE, Int.reduceEq, Int.reduceNe, Int.reduceAdd, Int.reduceSub, Int.reduceMul, Int.reduceNeg]
  refine Eq.trans (hlp _) ?_
  simp (maxSteps := 2000000) only [go_sem, doCall, doCallQ, Nat.reduceAdd, Nat.reduceMul, Nat.reduceSub, Nat.reduceDiv, Nat.reduceMod, Nat.reduceLT, Nat.reduceLeDiff, Nat.reduceEqDiff, Nat.reduceBEq, Nat.reduceBNe, Int.reduceToNat, Int.reduceLT, Int.reduceLE, Int.reduceEq, Int.reduceNe, Int.reduceAdd, Int.reduceSub, Int.reduceMul, Int.reduceNeg]
end Go.Proofs.YtpibecljdooilaaDoor
namespace Go.Proofs.YtpibecljdooilaaDoor
open Go Go.Ev Go.Proofs.YtpibecljdooilaaDoor.Ir
set_option linter.unusedSimpArgs false
set_option linter.unusedVariables false
abbrev Srt (l : List (Int × Int)) : Prop := l.Pairwise fun x y => x.1 ≤ y.1
theorem snoc_of {α : Type} (l : List α) : l = [] ∨ ∃ q a, l = q ++ [a] := by
  rcases List.eq_nil_or_concat l with h | ⟨q, a, h⟩
  · exact .inl h
  · exact .inr ⟨q, a, by rw [h]; simp⟩
theorem mstep_nil (g : Int) (b : Int × Int) : mstep g [] b = [b] := rfl
theorem mstep_end (g : Int) (Q : List (Int × Int)) (a b : Int × Int) : mstep g (Q ++ [a]) b = if b.1 - a.2 ≤ g then Q ++ [(a.1, max a.2 b.2)] else Q ++ [a] ++ [b] := by
  unfold mstep
  have e : (Q ++ [a]).getD ((Q ++ [a]).length - 1) (0, 0) = a := by simp [List.getD_eq_getElem?_getD]
  rw [e]
  have hl : 0 < (Q ++ [a]).length := by simp
  have hs : (Q ++ [a]).set ((Q ++ [a]).length - 1) (a.1, max a.2 b.2) = Q ++ [(a.1, max a.2 b.2)] := by simp [List.set_append]
  rw [hs]
  by_cases h : b.1 - a.2 ≤ g
  · rw [if_pos ⟨hl, h⟩, if_pos h]
  · rw [if_neg (fun hh => h hh.2), if_neg h]
def AP (O : List (Int × Int)) : Prop := (∀ x ∈ O, RP x.1 x.2) ∧ O.Pairwise fun x y => x.2 < y.1
theorem hasb_app (A B : List (Int × Int)) (t : Int) : hasb (A ++ B) t = (hasb A t || hasb B t) := by simp [hasb]
theorem hasb_one (a : Int × Int) (t : Int) : hasb [a] t = decide (isIn t a) := by simp [hasb]
theorem ap_step {O : List (Int × Int)} {b : Int × Int} (h : AP O) (hb : RP b.1 b.2) (hle : ∀ x ∈ O, x.1 ≤ b.1) :
    AP (mstep 0 O b) ∧ (∀ t, hasb (mstep 0 O b) t = (hasb O t || decide (isIn t b))) ∧ ∀ x ∈ mstep 0 O b, x.1 ≤ b.1 := by
  rcases snoc_of O with rfl | ⟨Q, a, rfl⟩
  · rw [mstep_nil]
    refine ⟨⟨fun x hx => by rw [List.mem_singleton.1 hx]; exact hb, List.pairwise_singleton ..⟩, fun t => by rw [hasb_one]; rfl, fun x hx => by rw [List.mem_singleton.1 hx]; exact Int.le_refl _⟩
  · obtain ⟨h1, h2⟩ := h
    have ha : RP a.1 a.2 := h1 a (by simp)
    have hab := hle a (by simp)
    have hP := List.pairwise_append.1 h2
    rw [mstep_end]
    by_cases hc : b.1 - a.2 ≤ 0
    · rw [if_pos hc]
      refine ⟨⟨fun x hx => ?_, ?_⟩, fun t => ?_, fun x hx => ?_⟩
      · rcases List.mem_append.1 hx with hx | hx
        · exact h1 x (List.mem_append_left _ hx)
        · rw [List.mem_singleton.1 hx]; unfold RP at *; simp only; omega
      · refine List.pairwise_append.2 ⟨hP.1, List.pairwise_singleton .., fun x hx y hy => ?_⟩
        rw [List.mem_singleton.1 hy]
        exact hP.2.2 x hx a (by simp)
      · rw [hasb_app, hasb_app, hasb_one, hasb_one, Bool.or_assoc]
        congr 1
        have : (isIn t (a.1, max a.2 b.2)) ↔ (isIn t a ∨ isIn t b) := by unfold isIn RP at *; simp only; omega
        by_cases q1 : isIn t a <;> by_cases q2 : isIn t b <;> simp [this, q1, q2]
      · rcases List.mem_append.1 hx with hx | hx
        · exact hle x (List.mem_append_left _ hx)
        · rw [List.mem_singleton.1 hx]; exact hab
    · rw [if_neg hc]
      refine ⟨⟨fun x hx => ?_, ?_⟩, fun t => ?_, fun x hx => ?_⟩
      · rcases List.mem_append.1 hx with hx | hx
        · exact h1 x hx
        · rw [List.mem_singleton.1 hx]; exact hb
      · refine List.pairwise_append.2 ⟨h2, List.pairwise_singleton .., fun x hx y hy => ?_⟩
        rw [List.mem_singleton.1 hy]
        rcases List.mem_append.1 hx with hx | hx
        · have := hP.2.2 x hx a (by simp); omega
        · rw [List.mem_singleton.1 hx]; omega
      · rw [hasb_app, hasb_one]
      · rcases List.mem_append.1 hx with hx | hx
        · exact hle x hx
        · rw [List.mem_singleton.1 hx]; exact Int.le_refl _
theorem ap_fold : ∀ (S O : List (Int × Int)), AP O → (∀ x ∈ S, RP x.1 x.2) → Srt S → (∀ x ∈ O, ∀ y ∈ S, x.1 ≤ y.1) → AP (S.foldl (mstep 0) O) ∧ ∀ t, hasb (S.foldl (mstep 0) O) t = (hasb O t || hasb S t)
  | [], O, h, _, _, _ => ⟨h, fun t => by simp [hasb]⟩
  | b :: S, O, h, hS, hs, hle => by
    obtain ⟨a1, a2, a3⟩ := ap_step h (hS b (List.mem_cons_self ..)) fun x hx => hle x hx b (List.mem_cons_self ..)
    have hs' := List.pairwise_cons.1 hs
    obtain ⟨b1, b2⟩ := ap_fold S (mstep 0 O b) a1 (fun x hx => hS x (List.mem_cons_of_mem _ hx)) hs'.2 fun x hx y hy => Int.le_trans (a3 x hx) (hs'.1 y hy)
    refine ⟨b1, fun t => ?_⟩
    rw [List.foldl_cons, b2, a2, Bool.or_assoc]
    rfl
theorem hasb_perm {A B : List (Int × Int)} (h : A.Perm B) (t : Int) : hasb A t = hasb B t := by
  rw [Bool.eq_iff_iff]
  unfold hasb
  rw [List.any_eq_true, List.any_eq_true]
  exact ⟨fun ⟨x, hx, hh⟩ => ⟨x, h.mem_iff.1 hx, hh⟩, fun ⟨x, hx, hh⟩ => ⟨x, h.mem_iff.2 hx, hh⟩⟩
theorem hasb_filt (l : List (Int × Int)) (t : Int) : hasb (l.filter rp) t = hasb l t := by
  rw [Bool.eq_iff_iff]
  unfold hasb
  rw [List.any_eq_true, List.any_eq_true]
  refine ⟨fun ⟨x, hx, hh⟩ => ⟨x, (List.mem_filter.1 hx).1, hh⟩, fun ⟨x, hx, hh⟩ => ⟨x, List.mem_filter.2 ⟨hx, ?_⟩, hh⟩⟩
  exact decide_eq_true (of_decide_eq_true hh).1
/-- What span.Merge gives, without its order. -/
theorem t_mergeE (l : List (Int × Int)) (hl : l.length ≤ 1000) : ∃ L : List (Int × Int), L.length ≤ l.length ∧ AP L ∧ (∀ t, hasb L t = hasb l t) ∧
    call ir 56 [.d (.list 2 (l.map eP)), .d (.int .i64 0)] [] = some (.own 0 2 0 L.length false, [.arr 2 (L.map eP)]) := by
  obtain ⟨S, h1, h2, h3⟩ := c_merge l hl 0
  have hr : ∀ x ∈ S, RP x.1 x.2 := fun x hx => of_decide_eq_true (filt_rp l x (h1.mem_iff.1 hx))
  obtain ⟨a1, a2⟩ := ap_fold S [] ⟨by simp, List.Pairwise.nil⟩ hr h2 (by simp)
  refine ⟨S.foldl (mstep 0) [], ?_, a1, fun t => ?_, h3⟩
  · have hfl : ∀ (S O : List (Int × Int)), (S.foldl (mstep 0) O).length ≤ O.length + S.length := by
      intro S
      induction S with
      | nil => intro O; simp
      | cons s S ih =>
        intro O
        have := ih (mstep 0 O s)
        have := len_mstep 0 O s
        simp only [List.foldl_cons, List.length_cons]; omega
    have := hfl S []
    have := h1.length_eq
    have := List.length_filter_le rp l
    simp at *; omega
  · have := a2 t
    rw [hasb_perm h1, hasb_filt] at this
    exact this
end Go.Proofs.YtpibecljdooilaaDoor
