/- The specs of a field: what the functions do. Own work. -/
import Derived.Test.YtpibecljdooilaaDoorPrwF
import Derived.Test.YtpibecljdooilaaDoorPrwD
namespace Go.Proofs.YtpibecljdooilaaDoor
open Go Go.Ev Go.Proofs.YtpibecljdooilaaDoor.Ir Go.Prs
set_option maxRecDepth 100000
set_option maxHeartbeats 4000000
set_option linter.unusedSimpArgs false
set_option linter.unusedVariables false
abbrev Sp3 := Int × Int × Int
abbrev e3 (x : Sp3) : List D := [.int .i64 x.1, .int .i64 x.2.1, .int .i64 x.2.2]
abbrev r3 (l : List Sp3) : List (List D) := l.map e3
theorem r3_len (l : List Sp3) : (r3 l).length = l.length := List.length_map ..
theorem els_mem : ∀ (fst : Bool) (ps : List (List UInt8)) (out o : List (List UInt8)), els fst ps out = some o → ∀ x ∈ o, x ∈ out ∨ ∃ p ∈ ps, x = trim p
  | _, [], out, o, h => by simp [els] at h; subst h; exact fun x hx => .inl hx
  | fst, p :: ps, out, o, h => by
    unfold els at h
    split at h
    · split at h
      · simp at h
      · intro x hx
        rcases els_mem false ps out o h x hx with h | ⟨p, hp, h⟩
        · exact .inl h
        · exact .inr ⟨p, List.mem_cons_of_mem _ hp, h⟩
    · split at h
      · simp at h
      · intro x hx
        rcases els_mem false ps _ o h x hx with h | ⟨p, hp, h⟩
        · rcases List.mem_append.1 h with h | h
          · exact .inl h
          · exact .inr ⟨p, List.mem_cons_self .., List.mem_singleton.1 h⟩
        · exact .inr ⟨p, List.mem_cons_of_mem _ hp, h⟩
theorem els_small {s : List UInt8} {o : List (List UInt8)} (h : els true (pcs s) [] = some o) : o.length ≤ s.length + 1 ∧ ∀ x ∈ o, x.length ≤ s.length := by
  refine ⟨?_, fun x hx => ?_⟩
  · have := els_len true (pcs s) [] o h
    have := pcs_len s
    simp at *; omega
  · rcases els_mem true (pcs s) [] o h x hx with h | ⟨p, hp, rfl⟩
    · simp at h
    · exact Nat.le_trans (trim_len p) (pcs_sum s p hp)
def any3 (o : List (List UInt8)) : Bool := o.any fun x => decide ((oneS x).2 = 3)
def anyE (o : List (List UInt8)) : Bool := o.any fun x => decide ((oneS x).2 ≠ 0)
def vals (o : List (List UInt8)) : List Sp3 := o.map fun x => (oneS x).1
theorem any3_drop {o : List (List UInt8)} {i : Nat} (h : i < o.length) : any3 (o.drop i) = (decide ((oneS o[i]).2 = 3) || any3 (o.drop (i + 1))) := by
  rw [List.drop_eq_getElem_cons h]; rfl
theorem anyE_drop {o : List (List UInt8)} {i : Nat} (h : i < o.length) : anyE (o.drop i) = (decide ((oneS o[i]).2 ≠ 0) || anyE (o.drop (i + 1))) := by
  rw [List.drop_eq_getElem_cons h]; rfl
theorem vals_take {o : List (List UInt8)} {i : Nat} (h : i < o.length) : vals (o.take (i + 1)) = vals (o.take i) ++ [(oneS o[i]).1] := by
  unfold vals; rw [List.take_succ_eq_append_getElem h, List.map_append]; rfl
theorem lp_rspecs (o : List (List UInt8)) (ho : o.length ≤ 1000000000) (hq : ∀ p ∈ o, p.length ≤ 1000000000) (k : Ex → St → Option (AV × Heap)) (i : Nat) (hi : i ≤ o.length) (b : Bool) :
    (bnd (evC (call ir) (loop ir) lp28_0 (st28_0 0 (.own 0 3 0 (vals (o.take i)).length false) (dT b) (dL o) (dI o.length) (dI i) [.arr 3 (r3 (vals (o.take i)))])) (lpC (call ir) (loop ir) [9, 10, 44, 45, 46] lp28_0 k)) = (if any3 (o.drop i) then k .ret (clean [2, 3] ⟨0, [.unk, .unk, .own 0 3 0 0 false, dI 3, .unk, .unk, .unk, .unk, .unk, .unk, .unk, .unk, .unk, .unk, .unk, .unk, .unk, .unk, .unk, .unk, .unk, .unk, .unk, .unk, .unk, .unk, .unk, .unk, .unk, .unk, .unk, .unk, .unk, .unk, .unk, .unk, .unk, .unk, .unk, .unk, .unk, .unk, .unk, .unk, .unk, .unk, .unk, .unk, .unk, .unk, .unk, .unk, .unk, .unk, .unk, .unk, .unk, .unk, .unk, .unk, .unk, .unk, .unk, .unk, .unk, .unk, .unk, .unk, .unk, .unk, .unk, .unk], [.arr 3 []]⟩)
      else k (.exit 0) (clean [9, 10] (st28_0 0 (.own 0 3 0 (vals o).length false) (dT (b || anyE (o.drop i))) .unk .unk .unk [.arr 3 (r3 (vals o))]))) := by
  by_cases h : i = o.length
  · have hx : ¬ (i : Int) < o.length := by omega
    rw [h] at hx
    rw [h, List.drop_length, List.take_length]
    simp only [any3, anyE, List.any_nil, Bool.false_eq_true, if_false, Bool.or_false]
    simp (maxSteps := 2000000) (disch := omega) only [go_sem, doCall, doCallQ, Nat.reduceAdd, Nat.reduceMul, Nat.reduceSub, Nat.reduceDiv, Nat.reduceMod, Nat.reduceLT, Nat.reduceLeDiff, Nat.reduceEqDiff, Nat.reduceBEq, Nat.reduceBNe, Int.reduceToNat, Int.reduceLT, Int.reduceLE, Int.reduceEq, Int.reduceNe, Int.reduceAdd, Int.reduceSub, Int.reduceMul, Int.reduceNeg, u28_0, lb28_0, hx]
  · have hlt : (i : Int) < o.length := by omega
    have hi' : i < o.length := by omega
    have hw := wr_succ (i := i) (by omega)
    have hg := rS_get hi'
    have ht := t_rone o[i] (hq _ (List.getElem_mem hi'))
    have hv := vals_take hi'
    have hl0 : (vals (o.take i)).length = i := by rw [vals, List.length_map, List.length_take]; omega
    have hrl := r3_len (vals (o.take i))
    have ih := fun b => lp_rspecs o ho hq k (i + 1) (by omega) b
    have hl1 : (vals (o.take i) ++ [(oneS o[i]).1]).length = (vals (o.take i)).length + 1 := by simp
    have hm1 : r3 (vals (o.take i) ++ [(oneS o[i]).1]) = r3 (vals (o.take i)) ++ [[D.int .i64 (oneS o[i]).1.1, D.int .i64 (oneS o[i]).1.2.1, D.int .i64 (oneS o[i]).1.2.2]] := by simp
    simp only [hv, hl1, hm1] at ih
    rw [any3_drop hi', anyE_drop hi']
    generalize oneS o[i] = z at *
    by_cases h3 : z.2 = 3
    · have h3' := eq_true h3
      rw [if_pos (by simp [h3])]
      simp (maxSteps := 2000000) (disch := omega) only [go_sem, doCall, doCallQ, Nat.reduceAdd, Nat.reduceMul, Nat.reduceSub, Nat.reduceDiv, Nat.reduceMod, Nat.reduceLT, Nat.reduceLeDiff, Nat.reduceEqDiff, Nat.reduceBEq, Nat.reduceBNe, Int.reduceToNat, Int.reduceLT, Int.reduceLE, Int.reduceEq, Int.reduceNe, Int.reduceAdd, Int.reduceSub, Int.reduceMul, Int.reduceNeg, u28_0, lb28_0, hlt, hi', hw, hg, ht, h3', Int.natCast_nonneg, Int.toNat_natCast, Option.getD_some, Option.getD_none, List.drop_zero, Nat.sub_zero, Nat.zero_le, true_and, and_true, Nat.le_refl, Nat.zero_add, chk_of]
    · have ih := ih (b || decide (z.2 ≠ 0))
      rw [Bool.or_assoc] at ih
      rw [decide_eq_false h3, Bool.false_or]
      cases b
      · by_cases h0 : z.2 = 0
        · have h0' := eq_true h0
          simp only [h0, ne_eq, not_true_eq_false, decide_false, Bool.or_false, Bool.false_or] at ih ⊢
          simp (maxSteps := 2000000) (disch := omega) only [go_sem, doCall, doCallQ, Nat.reduceAdd, Nat.reduceMul, Nat.reduceSub, Nat.reduceDiv, Nat.reduceMod, Nat.reduceLT, Nat.reduceLeDiff, Nat.reduceEqDiff, Nat.reduceBEq, Nat.reduceBNe, Int.reduceToNat, Int.reduceLT, Int.reduceLE, Int.reduceEq, Int.reduceNe, Int.reduceAdd, Int.reduceSub, Int.reduceMul, Int.reduceNeg, u28_0, lb28_0, hlt, hi', hw, hg, ht, h3, h0', hrl, Int.natCast_nonneg, Int.toNat_natCast, Option.getD_some, Option.getD_none, List.drop_zero, Nat.sub_zero, Nat.zero_le, true_and, and_true, Nat.le_refl, Nat.zero_add, List.length_cons, List.length_nil, chk_of]
          rw [loop_step1]; simp (maxSteps := 2000000) only [go_sem, doCall, doCallQ, Nat.reduceAdd, Nat.reduceMul, Nat.reduceSub, Nat.reduceDiv, Nat.reduceMod, Nat.reduceLT, Nat.reduceLeDiff, Nat.reduceEqDiff, Nat.reduceBEq, Nat.reduceBNe, Int.reduceToNat, Int.reduceLT, Int.reduceLE, Int.reduceEq, Int.reduceNe, Int.reduceAdd, Int.reduceSub, Int.reduceMul, Int.reduceNeg]; exact ih
        · simp only [h0, ne_eq, not_false_eq_true, decide_true, Bool.or_true, Bool.true_or, Bool.false_or] at ih ⊢
          simp (maxSteps := 2000000) (disch := omega) only [go_sem, doCall, doCallQ, Nat.reduceAdd, Nat.reduceMul, Nat.reduceSub, Nat.reduceDiv, Nat.reduceMod, Nat.reduceLT, Nat.reduceLeDiff, Nat.reduceEqDiff, Nat.reduceBEq, Nat.reduceBNe, Int.reduceToNat, Int.reduceLT, Int.reduceLE, Int.reduceEq, Int.reduceNe, Int.reduceAdd, Int.reduceSub, Int.reduceMul, Int.reduceNeg, u28_0, lb28_0, hlt, hi', hw, hg, ht, h3, h0, hrl, Int.natCast_nonneg, Int.toNat_natCast, Option.getD_some, Option.getD_none, List.drop_zero, Nat.sub_zero, Nat.zero_le, true_and, and_true, Nat.le_refl, Nat.zero_add, List.length_cons, List.length_nil, chk_of]
          rw [loop_step1]; simp (maxSteps := 2000000) only [go_sem, doCall, doCallQ, Nat.reduceAdd, Nat.reduceMul, Nat.reduceSub, Nat.reduceDiv, Nat.reduceMod, Nat.reduceLT, Nat.reduceLeDiff, Nat.reduceEqDiff, Nat.reduceBEq, Nat.reduceBNe, Int.reduceToNat, Int.reduceLT, Int.reduceLE, Int.reduceEq, Int.reduceNe, Int.reduceAdd, Int.reduceSub, Int.reduceMul, Int.reduceNeg]; exact ih
      · simp only [Bool.true_or] at ih ⊢
        simp (maxSteps := 2000000) (disch := omega) only [go_sem, doCall, doCallQ, Nat.reduceAdd, Nat.reduceMul, Nat.reduceSub, Nat.reduceDiv, Nat.reduceMod, Nat.reduceLT, Nat.reduceLeDiff, Nat.reduceEqDiff, Nat.reduceBEq, Nat.reduceBNe, Int.reduceToNat, Int.reduceLT, Int.reduceLE, Int.reduceEq, Int.reduceNe, Int.reduceAdd, Int.reduceSub, Int.reduceMul, Int.reduceNeg, u28_0, lb28_0, hlt, hi', hw, hg, ht, h3, hrl, Int.natCast_nonneg, Int.toNat_natCast, Option.getD_some, Option.getD_none, List.drop_zero, Nat.sub_zero, Nat.zero_le, true_and, and_true, Nat.le_refl, Nat.zero_add, List.length_cons, List.length_nil, chk_of]
        rw [loop_step1]; simp (maxSteps := 2000000) only [go_sem, doCall, doCallQ, Nat.reduceAdd, Nat.reduceMul, Nat.reduceSub, Nat.reduceDiv, Nat.reduceMod, Nat.reduceLT, Nat.reduceLeDiff, Nat.reduceEqDiff, Nat.reduceBEq, Nat.reduceBNe, Int.reduceToNat, Int.reduceLT, Int.reduceLE, Int.reduceEq, Int.reduceNe, Int.reduceAdd, Int.reduceSub, Int.reduceMul, Int.reduceNeg]; exact ih
termination_by o.length - i
def bad (o : List (List UInt8)) (e : Int) : Int := o.foldl (fun e x => worseE e (oneS x).2) e
theorem bad_drop {o : List (List UInt8)} {i : Nat} (h : i < o.length) (e : Int) : bad (o.drop i) e = bad (o.drop (i + 1)) (worseE e (oneS o[i]).2) := by
  rw [List.drop_eq_getElem_cons h]; rfl
theorem lp_specs (o : List (List UInt8)) (ho : o.length ≤ 1000000000) (hq : ∀ p ∈ o, p.length ≤ 1000000000) (k : Ex → St → Option (AV × Heap)) (i : Nat) (hi : i ≤ o.length) (e : Int) :
    (bnd (evC (call ir) (loop ir) lp75_0 (st75_0 0 (dL o) (.own 0 3 0 (vals (o.take i)).length false) (dI e) (dL o) (dI o.length) (dI i) [.arr 3 (r3 (vals (o.take i)))])) (lpC (call ir) (loop ir) [7, 9, 10, 43, 44, 45] lp75_0 k)) =
      k (.exit 0) (clean [7, 9, 10] (st75_0 0 (dL o) (.own 0 3 0 (vals o).length false) (dI (bad (o.drop i) e)) .unk .unk .unk [.arr 3 (r3 (vals o))])) := by
  by_cases h : i = o.length
  · have hx : ¬ (i : Int) < o.length := by omega
    rw [h] at hx
    rw [h, List.drop_length, List.take_length]
    simp only [bad, List.foldl_nil]
    simp (maxSteps := 2000000) (disch := omega) only [go_sem, doCall, doCallQ, Nat.reduceAdd, Nat.reduceMul, Nat.reduceSub, Nat.reduceDiv, Nat.reduceMod, Nat.reduceLT, Nat.reduceLeDiff, Nat.reduceEqDiff, Nat.reduceBEq, Nat.reduceBNe, Int.reduceToNat, Int.reduceLT, Int.reduceLE, Int.reduceEq, Int.reduceNe, Int.reduceAdd, Int.reduceSub, Int.reduceMul, Int.reduceNeg, u75_0, lb75_0, hx]
  · have hlt : (i : Int) < o.length := by omega
    have hi' : i < o.length := by omega
    have hw := wr_succ (i := i) (by omega)
    have hg := rS_get hi'
    have ht := t_one o[i] (hq _ (List.getElem_mem hi'))
    have hv := vals_take hi'
    have hl0 : (vals (o.take i)).length = i := by rw [vals, List.length_map, List.length_take]; omega
    have hrl := r3_len (vals (o.take i))
    have hl1 : (vals (o.take i) ++ [(oneS o[i]).1]).length = (vals (o.take i)).length + 1 := by simp
    have hm1 : r3 (vals (o.take i) ++ [(oneS o[i]).1]) = r3 (vals (o.take i)) ++ [[D.int .i64 (oneS o[i]).1.1, D.int .i64 (oneS o[i]).1.2.1, D.int .i64 (oneS o[i]).1.2.2]] := by simp
    have hwo := t_worse e (oneS o[i]).2
    rw [bad_drop hi']
    have ih := lp_specs o ho hq k (i + 1) (by omega) (worseE e (oneS o[i]).2)
    simp only [hv, hl1, hm1] at ih
    generalize oneS o[i] = z at *
    simp (maxSteps := 2000000) (disch := omega) only [go_sem, doCall, doCallQ, Nat.reduceAdd, Nat.reduceMul, Nat.reduceSub, Nat.reduceDiv, Nat.reduceMod, Nat.reduceLT, Nat.reduceLeDiff, Nat.reduceEqDiff, Nat.reduceBEq, Nat.reduceBNe, Int.reduceToNat, Int.reduceLT, Int.reduceLE, Int.reduceEq, Int.reduceNe, Int.reduceAdd, Int.reduceSub, Int.reduceMul, Int.reduceNeg, u75_0, lb75_0, hlt, hi', hw, hg, ht, hwo, hrl, Int.natCast_nonneg, Int.toNat_natCast, Option.getD_some, Option.getD_none, List.drop_zero, Nat.sub_zero, Nat.zero_le, true_and, and_true, Nat.le_refl, Nat.zero_add, List.length_cons, List.length_nil, chk_of]
    rw [loop_step1]; simp (maxSteps := 2000000) only [go_sem, doCall, doCallQ, Nat.reduceAdd, Nat.reduceMul, Nat.reduceSub, Nat.reduceDiv, Nat.reduceMod, Nat.reduceLT, Nat.reduceLeDiff, Nat.reduceEqDiff, Nat.reduceBEq, Nat.reduceBNe, Int.reduceToNat, Int.reduceLT, Int.reduceLE, Int.reduceEq, Int.reduceNe, Int.reduceAdd, Int.reduceSub, Int.reduceMul, Int.reduceNeg]; exact ih
termination_by o.length - i
theorem oneS_e (s : List UInt8) : (oneS s).2 = 0 ∨ (oneS s).2 = 3 ∨ (oneS s).2 = 9 := by
  unfold oneS
  split
  · exact .inr (.inl rfl)
  · split
    · split
      · rcases prs_cases (cut 45 s).2.1 with h | h | h
        · exact .inr (.inl h.1)
        · exact .inr (.inr h.1)
        · exact .inl h.1
      · exact .inl rfl
    · split
      · split
        · rcases prs_cases (cut 45 s).1 with h | h | h
          · exact .inr (.inl h.1)
          · exact .inr (.inr h.1)
          · exact .inl h.1
        · exact .inl rfl
      · split
        · exact .inr (.inl rfl)
        · split
          · exact .inr (.inr rfl)
          · exact .inl rfl
theorem bad3 : ∀ o : List (List UInt8), bad o 3 = 3
  | [] => rfl
  | x :: o => by
    show bad o (worseE 3 (oneS x).2) = 3
    rw [show worseE 3 (oneS x).2 = 3 by simp [worseE]]
    exact bad3 o
theorem bad9 : ∀ o : List (List UInt8), bad o 9 = if any3 o then 3 else 9
  | [] => rfl
  | x :: o => by
    show bad o (worseE 9 (oneS x).2) = if (decide ((oneS x).2 = 3) || any3 o) then 3 else 9
    rcases oneS_e x with h | h | h <;> rw [h]
    · exact bad9 o
    · rw [show worseE 9 3 = 3 from rfl, bad3]; simp
    · exact bad9 o
theorem bad0 : ∀ o : List (List UInt8), bad o 0 = if any3 o then 3 else if anyE o then 9 else 0
  | [] => rfl
  | x :: o => by
    show bad o (worseE 0 (oneS x).2) = if (decide ((oneS x).2 = 3) || any3 o) then 3 else if (decide ((oneS x).2 ≠ 0) || anyE o) then 9 else 0
    rcases oneS_e x with h | h | h <;> rw [h]
    · exact bad0 o
    · rw [show worseE 0 3 = 3 from rfl, bad3]; simp
    · rw [show worseE 0 9 = 9 from rfl, bad9]; simp
end Go.Proofs.YtpibecljdooilaaDoor
