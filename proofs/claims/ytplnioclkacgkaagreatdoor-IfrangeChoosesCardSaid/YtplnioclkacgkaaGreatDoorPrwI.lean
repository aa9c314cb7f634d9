/- The specs of a field: what the functions do. Own work. The specs of a field, whole. Own work. What a field asks for: spec.Asked. Own work. -/
import Derived.Test.YtplnioclkacgkaaGreatDoorPrwF
import Derived.Test.YtplnioclkacgkaaGreatDoorPrwD
namespace Go.Proofs.YtplnioclkacgkaaGreatDoor
open Go Go.Ev Go.Proofs.YtplnioclkacgkaaGreatDoor.Ir Go.Prs
set_option maxRecDepth 100000
set_option maxHeartbeats 4000000
set_option linter.unusedSimpArgs false
set_option linter.unusedVariables false
abbrev Sp3 := Int × Int × Int
abbrev e3 (x : Sp3) : List D := [.int .i64 x.1, .int .i64 x.2.1, .int .i64 x.2.2]
abbrev r3 (l : List Sp3) : List (List D) := l.map e3
theorem r3_len (l : List Sp3) : (r3 l).length = l.length := List.length_map ..
theorem els_mem : ∀ (fst : Bool) (ps : List (List UInt8)) (out o : List (List UInt8)), els fst ps out = some o → ∀ x ∈ o, x ∈ out ∨ ∃ p ∈ ps, x = trim p
  | _, [], out, o, h => by simp [els] at h; subst h; exact fun x hx => .inl hx
  | fst, p :: ps, out, o, h => by
    unfold els at h
    split at h
    · split at h
      · simp at h
      · intro x hx
        rcases els_mem false ps out o h x hx with h | ⟨p, hp, h⟩
        · exact .inl h
        · exact .inr ⟨p, List.mem_cons_of_mem _ hp, h⟩
    · split at h
      · simp at h
      · intro x hx
        rcases els_mem false ps _ o h x hx with h | ⟨p, hp, h⟩
        · rcases List.mem_append.1 h with h | h
          · exact .inl h
          · exact .inr ⟨p, List.mem_cons_self .., List.mem_singleton.1 h⟩
        · exact .inr ⟨p, List.mem_cons_of_mem _ hp, h⟩
theorem els_small {s : List UInt8} {o : List (List UInt8)} (h : els true (pcs s) [] = some o) : o.length ≤ s.length + 1 ∧ ∀ x ∈ o, x.length ≤ s.length := by
  refine ⟨?_, fun x hx => ?_⟩
  · have := els_len true (pcs s) [] o h
    have := pcs_len s
    simp at *; omega
  · rcases els_mem true (pcs s) [] o h x hx with h | ⟨p, hp, rfl⟩
    · simp at h
    · exact Nat.le_trans (trim_len p) (pcs_sum s p hp)
def any3 (o : List (List UInt8)) : Bool := o.any fun x => decide ((oneS x).2 = 3)
def anyE (o : List (List UInt8)) : Bool := o.any fun x => decide ((oneS x).2 ≠ 0)
def vals (o : List (List UInt8)) : List Sp3 := o.map fun x => (oneS x).1
theorem any3_drop {o : List (List UInt8)} {i : Nat} (h : i < o.length) : any3 (o.drop i) = (decide ((oneS o[i]).2 = 3) || any3 (o.drop (i + 1))) := by
  rw [List.drop_eq_getElem_cons h]; rfl
theorem anyE_drop {o : List (List UInt8)} {i : Nat} (h : i < o.length) : anyE (o.drop i) = (decide ((oneS o[i]).2 ≠ 0) || anyE (o.drop (i + 1))) := by
  rw [List.drop_eq_getElem_cons h]; rfl
theorem vals_take {o : List (List UInt8)} {i : Nat} (h : i < o.length) : vals (o.take (i + 1)) = vals (o.take i) ++ [(oneS o[i]).1] := by
  unfold vals; rw [List.take_succ_eq_append_getElem h, List.map_append]; rfl
theorem lp_rspecs (o : List (List UInt8)) (ho : o.length ≤ 1000000000) (hq : ∀ p ∈ o, p.length ≤ 1000000000) (k : Ex → St → Option (AV × Heap)) (i : Nat) (hi : i ≤ o.length) (b : Bool) :
    (bnd (evC (call ir) (loop ir) lp19_0 (st19_0 0 (.own 0 3 0 (vals (o.take i)).length false) (dT b) (dL o) (dI o.length) (dI i) [.arr 3 (r3 (vals (o.take i)))])) (lpC (call ir) (loop ir) [9, 10, 44, 45, 46] lp19_0 k)) = (if any3 (o.drop i) then k .ret (clean [2, 3] ⟨0, [.unk, .unk, .own 0 3 0 0 false, dI 3, .unk, .unk, .unk, .unk, .unk, .unk, .unk, .unk, .unk, .unk, .unk, .unk, .unk, .unk, .unk, .unk, .unk, .unk, .unk, .unk, .unk, .unk, .unk, .unk, .unk, .unk, .unk, .unk, .unk, .unk, .unk, .unk, .unk, .unk, .unk, .unk, .unk, .unk, .unk, .unk, .unk, .unk, .unk, .unk, .unk, .unk, .unk, .unk, .unk, .unk, .unk, .unk, .unk, .unk, .unk, .unk, .unk, .unk, .unk, .unk, .unk, .unk, .unk, .unk, .unk, .unk, .unk, .unk], [.arr 3 []]⟩)
      else k (.exit 0) (clean [9, 10] (st19_0 0 (.own 0 3 0 (vals o).length false) (dT (b || anyE (o.drop i))) .unk .unk .unk [.arr 3 (r3 (vals o))]))) := by
  by_cases h : i = o.length
  · have hx : ¬ (i : Int) < o.length := by omega
    rw [h] at hx
    rw [h, List.drop_length, List.take_length]
    simp only [any3, anyE, List.any_nil, Bool.false_eq_true, if_false, Bool.or_false]
    simp (maxSteps := 2000000) (disch := omega) only [go_sem, doCall, doCallQ, doCallP, Nat.reduceAdd, Nat.reduceMul, Nat.reduceSub, Nat.reduceDiv, Nat.reduceMod, Nat.reduceLT, Nat.reduceLeDiff, Nat.reduceEqDiff, Nat.reduceBEq, Nat.reduceBNe, Int.reduceToNat, Int.reduceLT, Int.reduceLE, Int.reduceEq, Int.reduceNe, Int.reduceAdd, Int.reduceSub, Int.reduceMul, Int.reduceNeg, u19_0, lb19_0, hx]
  · have hlt : (i : Int) < o.length := by omega
    have hi' : i < o.length := by omega
    have hw := wr_succ (i := i) (by omega)
    have hg := rS_get hi'
    have ht := t_rone o[i] (hq _ (List.getElem_mem hi'))
    have hv := vals_take hi'
    have hl0 : (vals (o.take i)).length = i := by rw [vals, List.length_map, List.length_take]; omega
    have hrl := r3_len (vals (o.take i))
    have ih := fun b => lp_rspecs o ho hq k (i + 1) (by omega) b
    have hl1 : (vals (o.take i) ++ [(oneS o[i]).1]).length = (vals (o.take i)).length + 1 := by simp
    have hm1 : r3 (vals (o.take i) ++ [(oneS o[i]).1]) = r3 (vals (o.take i)) ++ [[D.int .i64 (oneS o[i]).1.1, D.int .i64 (oneS o[i]).1.2.1, D.int .i64 (oneS o[i]).1.2.2]] := by simp
    simp only [hv, hl1, hm1] at ih
    rw [any3_drop hi', anyE_drop hi']
    generalize oneS o[i] = z at *
    by_cases h3 : z.2 = 3
    · have h3' := eq_true h3
      rw [if_pos (by simp [h3])]
      simp (maxSteps := 2000000) (disch := omega) only [go_sem, doCall, doCallQ, doCallP, Nat.reduceAdd, Nat.reduceMul, Nat.reduceSub, Nat.reduceDiv, Nat.reduceMod, Nat.reduceLT, Nat.reduceLeDiff, Nat.reduceEqDiff, Nat.reduceBEq, Nat.reduceBNe, Int.reduceToNat, Int.reduceLT, Int.reduceLE, Int.reduceEq, Int.reduceNe, Int.reduceAdd, Int.reduceSub, Int.reduceMul, Int.reduceNeg, u19_0, lb19_0, hlt, hi', hw, hg, ht, h3', Int.natCast_nonneg, Int.toNat_natCast, Option.getD_some, Option.getD_none, List.drop_zero, Nat.sub_zero, Nat.zero_le, true_and, and_true, Nat.le_refl, Nat.zero_add, chk_of]
    · have ih := ih (b || decide (z.2 ≠ 0))
      rw [Bool.or_assoc] at ih
      rw [decide_eq_false h3, Bool.false_or]
      cases b
      · by_cases h0 : z.2 = 0
        · have h0' := eq_true h0
          simp only [h0, ne_eq, not_true_eq_false, decide_false, Bool.or_false, Bool.false_or] at ih ⊢
          simp (maxSteps := 2000000) (disch := omega) only [go_sem, doCall, doCallQ, doCallP, Nat.reduceAdd, Nat.reduceMul, Nat.reduceSub, Nat.reduceDiv, Nat.reduceMod, Nat.reduceLT, Nat.reduceLeDiff, Nat.reduceEqDiff, Nat.reduceBEq, Nat.reduceBNe, Int.reduceToNat, Int.reduceLT, Int.reduceLE, Int.reduceEq, Int.reduceNe, Int.reduceAdd, Int.reduceSub, Int.reduceMul, Int.reduceNeg, u19_0, lb19_0, hlt, hi', hw, hg, ht, h3, h0', hrl, Int.natCast_nonneg, Int.toNat_natCast, Option.getD_some, Option.getD_none, List.drop_zero, Nat.sub_zero, Nat.zero_le, true_and, and_true, Nat.le_refl, Nat.zero_add, List.length_cons, List.length_nil, chk_of]
          rw [loop_step1]; simp (maxSteps := 2000000) only [go_sem, doCall, doCallQ, doCallP, Nat.reduceAdd, Nat.reduceMul, Nat.reduceSub, Nat.reduceDiv, Nat.reduceMod, Nat.reduceLT, Nat.reduceLeDiff, Nat.reduceEqDiff, Nat.reduceBEq, Nat.reduceBNe, Int.reduceToNat, Int.reduceLT, Int.reduceLE, Int.reduceEq, Int.reduceNe, Int.reduceAdd, Int.reduceSub, Int.reduceMul, Int.reduceNeg]; exact ih
        · simp only [h0, ne_eq, not_false_eq_true, decide_true, Bool.or_true, Bool.true_or, Bool.false_or] at ih ⊢
          simp (maxSteps := 2000000) (disch := omega) only [go_sem, doCall, doCallQ, doCallP, Nat.reduceAdd, Nat.reduceMul, Nat.reduceSub, Nat.reduceDiv, Nat.reduceMod, Nat.reduceLT, Nat.reduceLeDiff, Nat.reduceEqDiff, Nat.reduceBEq, Nat.reduceBNe, Int.reduceToNat, Int.reduceLT, Int.reduceLE, Int.reduceEq, Int.reduceNe, Int.reduceAdd, Int.reduceSub, Int.reduceMul, Int.reduceNeg, u19_0, lb19_0, hlt, hi', hw, hg, ht, h3, h0, hrl, Int.natCast_nonneg, Int.toNat_natCast, Option.getD_some, Option.getD_none, List.drop_zero, Nat.sub_zero, Nat.zero_le, true_and, and_true, Nat.le_refl, Nat.zero_add, List.length_cons, List.length_nil, chk_of]
          rw [loop_step1]; simp (maxSteps := 2000000) only [go_sem, doCall, doCallQ, doCallP, Nat.reduceAdd, Nat.reduceMul, Nat.reduceSub, Nat.reduceDiv, Nat.reduceMod, Nat.reduceLT, Nat.reduceLeDiff, Nat.reduceEqDiff, Nat.reduceBEq, Nat.reduceBNe, Int.reduceToNat, Int.reduceLT, Int.reduceLE, Int.reduceEq, Int.reduceNe, Int.reduceAdd, Int.reduceSub, Int.reduceMul, Int.reduceNeg]; exact ih
      · simp only [Bool.true_or] at ih ⊢
        simp (maxSteps := 2000000) (disch := omega) only [go_sem, doCall, doCallQ, doCallP, Nat.reduceAdd, Nat.reduceMul, Nat.reduceSub, Nat.reduceDiv, Nat.reduceMod, Nat.reduceLT, Nat.reduceLeDiff, Nat.reduceEqDiff, Nat.reduceBEq, Nat.reduceBNe, Int.reduceToNat, Int.reduceLT, Int.reduceLE, Int.reduceEq, Int.reduceNe, Int.reduceAdd, Int.reduceSub, Int.reduceMul, Int.reduceNeg, u19_0, lb19_0, hlt, hi', hw, hg, ht, h3, hrl, Int.natCast_nonneg, Int.toNat_natCast, Option.getD_some, Option.getD_none, List.drop_zero, Nat.sub_zero, Nat.zero_le, true_and, and_true, Nat.le_refl, Nat.zero_add, List.length_cons, List.length_nil, chk_of]
        rw [loop_step1]; simp (maxSteps := 2000000) only [go_sem, doCall, doCallQ, doCallP, Nat.reduceAdd, Nat.reduceMul, Nat.reduceSub, Nat.reduceDiv, Nat.reduceMod, Nat.reduceLT, Nat.reduceLeDiff, Nat.reduceEqDiff, Nat.reduceBEq, Nat.reduceBNe, Int.reduceToNat, Int.reduceLT, Int.reduceLE, Int.reduceEq, Int.reduceNe, Int.reduceAdd, Int.reduceSub, Int.reduceMul, Int.reduceNeg]; exact ih
termination_by o.length - i
def bad (o : List (List UInt8)) (e : Int) : Int := o.foldl (fun e x => worseE e (oneS x).2) e
theorem bad_drop {o : List (List UInt8)} {i : Nat} (h : i < o.length) (e : Int) : bad (o.drop i) e = bad (o.drop (i + 1)) (worseE e (oneS o[i]).2) := by
  rw [List.drop_eq_getElem_cons h]; rfl
theorem lp_specs (o : List (List UInt8)) (ho : o.length ≤ 1000000000) (hq : ∀ p ∈ o, p.length ≤ 1000000000) (k : Ex → St → Option (AV × Heap)) (i : Nat) (hi : i ≤ o.length) (e : Int) :
    (bnd (evC (call ir) (loop ir) lp25_0 (st25_0 0 (dL o) (.own 0 3 0 (vals (o.take i)).length false) (dI e) (dL o) (dI o.length) (dI i) [.arr 3 (r3 (vals (o.take i)))])) (lpC (call ir) (loop ir) [7, 9, 10, 43, 44, 45] lp25_0 k)) =
      k (.exit 0) (clean [7, 9, 10] (st25_0 0 (dL o) (.own 0 3 0 (vals o).length false) (dI (bad (o.drop i) e)) .unk .unk .unk [.arr 3 (r3 (vals o))])) := by
  by_cases h : i = o.length
  · have hx : ¬ (i : Int) < o.length := by omega
    rw [h] at hx
    rw [h, List.drop_length, List.take_length]
    simp only [bad, List.foldl_nil]
    simp (maxSteps := 2000000) (disch := omega) only [go_sem, doCall, doCallQ, doCallP, Nat.reduceAdd, Nat.reduceMul, Nat.reduceSub, Nat.reduceDiv, Nat.reduceMod, Nat.reduceLT, Nat.reduceLeDiff, Nat.reduceEqDiff, Nat.reduceBEq, Nat.reduceBNe, Int.reduceToNat, Int.reduceLT, Int.reduceLE, Int.reduceEq, Int.reduceNe, Int.reduceAdd, Int.reduceSub, Int.reduceMul, Int.reduceNeg, u25_0, lb25_0, hx]
  · have hlt : (i : Int) < o.length := by omega
    have hi' : i < o.length := by omega
    have hw := wr_succ (i := i) (by omega)
    have hg := rS_get hi'
    have ht := t_one o[i] (hq _ (List.getElem_mem hi'))
    have hv := vals_take hi'
    have hl0 : (vals (o.take i)).length = i := by rw [vals, List.length_map, List.length_take]; omega
    have hrl := r3_len (vals (o.take i))
    have hl1 : (vals (o.take i) ++ [(oneS o[i]).1]).length = (vals (o.take i)).length + 1 := by simp
    have hm1 : r3 (vals (o.take i) ++ [(oneS o[i]).1]) = r3 (vals (o.take i)) ++ [[D.int .i64 (oneS o[i]).1.1, D.int .i64 (oneS o[i]).1.2.1, D.int .i64 (oneS o[i]).1.2.2]] := by simp
    have hwo := t_worse e (oneS o[i]).2
    rw [bad_drop hi']
    have ih := lp_specs o ho hq k (i + 1) (by omega) (worseE e (oneS o[i]).2)
    simp only [hv, hl1, hm1] at ih
    generalize oneS o[i] = z at *
    simp (maxSteps := 2000000) (disch := omega) only [go_sem, doCall, doCallQ, doCallP, Nat.reduceAdd, Nat.reduceMul, Nat.reduceSub, Nat.reduceDiv, Nat.reduceMod, Nat.reduceLT, Nat.reduceLeDiff, Nat.reduceEqDiff, Nat.reduceBEq, Nat.reduceBNe, Int.reduceToNat, Int.reduceLT, Int.reduceLE, Int.reduceEq, Int.reduceNe, Int.reduceAdd, Int.reduceSub, Int.reduceMul, Int.reduceNeg, u25_0, lb25_0, hlt, hi', hw, hg, ht, hwo, hrl, Int.natCast_nonneg, Int.toNat_natCast, Option.getD_some, Option.getD_none, List.drop_zero, Nat.sub_zero, Nat.zero_le, true_and, and_true, Nat.le_refl, Nat.zero_add, List.length_cons, List.length_nil, chk_of]
    rw [loop_step1]; simp (maxSteps := 2000000) only [go_sem, doCall, doCallQ, doCallP, Nat.reduceAdd, Nat.reduceMul, Nat.reduceSub, Nat.reduceDiv, Nat.reduceMod, Nat.reduceLT, Nat.reduceLeDiff, Nat.reduceEqDiff, Nat.reduceBEq, Nat.reduceBNe, Int.reduceToNat, Int.reduceLT, Int.reduceLE, Int.reduceEq, Int.reduceNe, Int.reduceAdd, Int.reduceSub, Int.reduceMul, Int.reduceNeg]; exact ih
termination_by o.length - i
theorem oneS_e (s : List UInt8) : (oneS s).2 = 0 ∨ (oneS s).2 = 3 ∨ (oneS s).2 = 9 := by
  unfold oneS
  split
  · exact .inr (.inl rfl)
  · split
    · split
      · rcases prs_cases (cut 45 s).2.1 with h | h | h
        · exact .inr (.inl h.1)
        · exact .inr (.inr h.1)
        · exact .inl h.1
      · exact .inl rfl
    · split
      · split
        · rcases prs_cases (cut 45 s).1 with h | h | h
          · exact .inr (.inl h.1)
          · exact .inr (.inr h.1)
          · exact .inl h.1
        · exact .inl rfl
      · split
        · exact .inr (.inl rfl)
        · split
          · exact .inr (.inr rfl)
          · exact .inl rfl
theorem bad3 : ∀ o : List (List UInt8), bad o 3 = 3
  | [] => rfl
  | x :: o => by
    show bad o (worseE 3 (oneS x).2) = 3
    rw [show worseE 3 (oneS x).2 = 3 by simp [worseE]]
    exact bad3 o
theorem bad9 : ∀ o : List (List UInt8), bad o 9 = if any3 o then 3 else 9
  | [] => rfl
  | x :: o => by
    show bad o (worseE 9 (oneS x).2) = if (decide ((oneS x).2 = 3) || any3 o) then 3 else 9
    rcases oneS_e x with h | h | h <;> rw [h]
    · exact bad9 o
    · rw [show worseE 9 3 = 3 from rfl, bad3]; simp
    · exact bad9 o
theorem bad0 : ∀ o : List (List UInt8), bad o 0 = if any3 o then 3 else if anyE o then 9 else 0
  | [] => rfl
  | x :: o => by
    show bad o (worseE 0 (oneS x).2) = if (decide ((oneS x).2 = 3) || any3 o) then 3 else if (decide ((oneS x).2 ≠ 0) || anyE o) then 9 else 0
    rcases oneS_e x with h | h | h <;> rw [h]
    · exact bad0 o
    · rw [show worseE 0 3 = 3 from rfl, bad3]; simp
    · rw [show worseE 0 9 = 9 from rfl, bad9]; simp
end Go.Proofs.YtplnioclkacgkaaGreatDoor
namespace Go.Proofs.YtplnioclkacgkaaGreatDoor
open Go Go.Ev Go.Proofs.YtplnioclkacgkaaGreatDoor.Ir Go.Prs
set_option maxRecDepth 100000
set_option maxHeartbeats 4000000
set_option linter.unusedSimpArgs false
set_option linter.unusedVariables false
def bytesW : List UInt8 := [98, 121, 116, 101, 115]
/-- Whether a field begins as it must. -/
def unitOk (s : List UInt8) : Prop := (cut 61 (trim s)).2.2 = true ∧ (cut 61 (trim s)).1.map low = bytesW
instance (s : List UInt8) : Decidable (unitOk s) := by unfold unitOk; infer_instance
def elsOf (s : List UInt8) : Option (List (List UInt8)) := els true (pcs (cut 61 (trim s)).2.1) []
/-- The specs of a field. -/
def specL (s : List UInt8) : List Sp3 := match elsOf s with
  | none => []
  | some o => if unitOk s ∧ o ≠ [] ∧ any3 o = false ∧ anyE o = false ∧ o.length ≤ 16 then vals o else []
theorem specL_none {s : List UInt8} (h : elsOf s = none) : specL s = [] := by unfold specL; rw [h]
theorem specL_some {s : List UInt8} {o : List (List UInt8)} (h : elsOf s = some o) : specL s = if unitOk s ∧ o ≠ [] ∧ any3 o = false ∧ anyE o = false ∧ o.length ≤ 16 then vals o else [] := by unfold specL; rw [h]
theorem take_rS (l : List (List UInt8)) : (rS l).take l.length = rS l := List.take_of_length_le (by rw [rS_len]; exact Nat.le_refl _)
theorem take_r3 (l : List Sp3) : (r3 l).take l.length = r3 l := List.take_of_length_le (by rw [r3_len]; exact Nat.le_refl _)
theorem vals_len (o : List (List UInt8)) : (vals o).length = o.length := by rw [vals, List.length_map]
theorem low_bytes : bytesW.map low = bytesW := by decide
theorem t_rspecs (s : List UInt8) (hs : s.length ≤ 100000000) : ∃ e, call ir 19 [dS s] [] = some (.tup [.own 0 3 0 (specL s).length false, dI e], [.arr 3 (r3 (specL s))]) := by
  have h1 := t_rtrim s (by omega)
  have hl1 := trim_len s
  have h2 : call ir 40 [dS (trim s), .d (.int .u8 61)] [] = some (.tup [dS (cut 61 (trim s)).1, dS (cut 61 (trim s)).2.1, dT (cut 61 (trim s)).2.2], []) := t_rcut (trim s) (by omega) 61
  have hl2 := cut_len 61 (trim s)
  obtain ⟨b3, h3⟩ := t_pcs (cut 61 (trim s)).2.1 (by omega)
  have hp1 := pcs_len (cut 61 (trim s)).2.1
  have h4 := t_rlist (pcs (cut 61 (trim s)).2.1) (by omega) (fun p hp => by have := pcs_sum _ p hp; omega)
  have h5 := t_rlower (cut 61 (trim s)).1 (by omega)
  have hrl := rS_len (pcs (cut 61 (trim s)).2.1)
  have htk := take_rS (pcs (cut 61 (trim s)).2.1)
  have hun : unitOk s ↔ (cut 61 (trim s)).2.2 = true ∧ (cut 61 (trim s)).1.map low = bytesW := Iff.rfl
  have hsm := fun o h => els_small (s := (cut 61 (trim s)).2.1) (o := o) h
  have hel : elsOf s = els true (pcs (cut 61 (trim s)).2.1) [] := rfl
  generalize (cut 61 (trim s)).1 = a at *
  generalize (cut 61 (trim s)).2.1 = r at *
  rw [← hel] at h4 hsm
  cases he : elsOf s with
  | none =>
    rw [he] at h4
    rw [specL_none he]
    refine ⟨3, ?_⟩
    rw [call_eq (fn := ir19) rfl, evF_bnd]
    cases hm : (cut 61 (trim s)).2.2
    · rw [hm] at h2
      simp (maxSteps := 2000000) (disch := omega) only [go_sem, doCall, doCallQ, doCallP, Nat.reduceAdd, Nat.reduceMul, Nat.reduceSub, Nat.reduceDiv, Nat.reduceMod, Nat.reduceLT, Nat.reduceLeDiff, Nat.reduceEqDiff, Nat.reduceBEq, Nat.reduceBNe, Int.reduceToNat, Int.reduceLT, Int.reduceLE, Int.reduceEq, Int.reduceNe, Int.reduceAdd, Int.reduceSub, Int.reduceMul, Int.reduceNeg, bd19, h1, h2, h3, h4, hrl, htk, Int.natCast_nonneg, Int.toNat_natCast, Option.getD_some, Option.getD_none, List.drop_zero, Nat.sub_zero, Nat.zero_le, true_and, and_true, Nat.le_refl, Nat.zero_add, List.length_nil, chk_of]
    · rw [hm] at h2
      by_cases hb : a.map low = bytesW
      · have hb' := eq_true hb
        unfold bytesW at hb'
        simp (maxSteps := 2000000) (disch := omega) only [go_sem, doCall, doCallQ, doCallP, Nat.reduceAdd, Nat.reduceMul, Nat.reduceSub, Nat.reduceDiv, Nat.reduceMod, Nat.reduceLT, Nat.reduceLeDiff, Nat.reduceEqDiff, Nat.reduceBEq, Nat.reduceBNe, Int.reduceToNat, Int.reduceLT, Int.reduceLE, Int.reduceEq, Int.reduceNe, Int.reduceAdd, Int.reduceSub, Int.reduceMul, Int.reduceNeg, bd19, h1, h2, h3, h4, h5, hb', hrl, htk, Int.natCast_nonneg, Int.toNat_natCast, Option.getD_some, Option.getD_none, List.drop_zero, Nat.sub_zero, Nat.zero_le, true_and, and_true, Nat.le_refl, Nat.zero_add, List.length_nil, chk_of]
      · have hb' := eq_false hb
        unfold bytesW at hb'
        simp (maxSteps := 2000000) (disch := omega) only [go_sem, doCall, doCallQ, doCallP, Nat.reduceAdd, Nat.reduceMul, Nat.reduceSub, Nat.reduceDiv, Nat.reduceMod, Nat.reduceLT, Nat.reduceLeDiff, Nat.reduceEqDiff, Nat.reduceBEq, Nat.reduceBNe, Int.reduceToNat, Int.reduceLT, Int.reduceLE, Int.reduceEq, Int.reduceNe, Int.reduceAdd, Int.reduceSub, Int.reduceMul, Int.reduceNeg, bd19, h1, h2, h3, h4, h5, hb', hrl, htk, Int.natCast_nonneg, Int.toNat_natCast, Option.getD_some, Option.getD_none, List.drop_zero, Nat.sub_zero, Nat.zero_le, true_and, and_true, Nat.le_refl, Nat.zero_add, List.length_nil, chk_of]
  | some o =>
    rw [he] at h4
    have hso := hsm o he
    rw [specL_some he]
    have hro := rS_len o
    have hto := take_rS o
    have hpos : ∀ h : o ≠ [], 0 < o.length := fun h => List.length_pos_iff.2 h
    by_cases hu : unitOk s
    · obtain ⟨hu1, hu2⟩ := hun.1 hu
      rw [hu1] at h2
      have hb' := eq_true hu2
      unfold bytesW at hb'
      by_cases hn : o = []
      · subst hn
        rw [if_neg (fun h => h.2.1 rfl)]
        refine ⟨3, ?_⟩
        rw [call_eq (fn := ir19) rfl, evF_bnd]
        simp (maxSteps := 2000000) (disch := omega) only [go_sem, doCall, doCallQ, doCallP, Nat.reduceAdd, Nat.reduceMul, Nat.reduceSub, Nat.reduceDiv, Nat.reduceMod, Nat.reduceLT, Nat.reduceLeDiff, Nat.reduceEqDiff, Nat.reduceBEq, Nat.reduceBNe, Int.reduceToNat, Int.reduceLT, Int.reduceLE, Int.reduceEq, Int.reduceNe, Int.reduceAdd, Int.reduceSub, Int.reduceMul, Int.reduceNeg, bd19, h1, h2, h3, h4, h5, hb', hrl, htk, Int.natCast_nonneg, Int.toNat_natCast, Option.getD_some, Option.getD_none, List.drop_zero, Nat.sub_zero, Nat.zero_le, true_and, and_true, Nat.le_refl, Nat.zero_add, List.length_nil, List.map_nil, List.take_nil, chk_of]
      · have hlz := eq_false (show ¬ (o.length : Int) = 0 by have := hpos hn; omega)
        have hloop := fun k => lp_rspecs o (by omega) (fun p hp => by have := hso.2 p hp; omega) k 0 (by omega) false
        simp only [List.take_zero, List.drop_zero, Bool.false_or] at hloop
        have hv0 : vals ([] : List (List UInt8)) = [] := rfl
        simp only [hv0, List.length_nil, List.map_nil] at hloop
        cases h3o : any3 o
        · rw [h3o] at hloop
          simp only [Bool.false_eq_true, if_false] at hloop
          have hvl := vals_len o
          cases hEo : anyE o
          · rw [hEo] at hloop
            by_cases h16 : o.length ≤ 16
            · have h16' := eq_false (show ¬ (16 : Int) < (o.length : Int) by omega)
              rw [if_pos ⟨hu, hn, rfl, rfl, h16⟩]
              refine ⟨0, ?_⟩
              rw [call_eq (fn := ir19) rfl, evF_bnd]
              simp (maxSteps := 2000000) (disch := omega) only [go_sem, doCall, doCallQ, doCallP, Nat.reduceAdd, Nat.reduceMul, Nat.reduceSub, Nat.reduceDiv, Nat.reduceMod, Nat.reduceLT, Nat.reduceLeDiff, Nat.reduceEqDiff, Nat.reduceBEq, Nat.reduceBNe, Int.reduceToNat, Int.reduceLT, Int.reduceLE, Int.reduceEq, Int.reduceNe, Int.reduceAdd, Int.reduceSub, Int.reduceMul, Int.reduceNeg, bd19, h1, h2, h3, h4, h5, hb', hrl, htk, hro, hto, hlz, Int.natCast_nonneg, Int.toNat_natCast, Option.getD_some, Option.getD_none, List.drop_zero, Nat.sub_zero, Nat.zero_le, true_and, and_true, Nat.le_refl, Nat.zero_add, List.length_nil, chk_of]
              rw [loop_step1]; simp (maxSteps := 2000000) only [go_sem, doCall, doCallQ, doCallP, Nat.reduceAdd, Nat.reduceMul, Nat.reduceSub, Nat.reduceDiv, Nat.reduceMod, Nat.reduceLT, Nat.reduceLeDiff, Nat.reduceEqDiff, Nat.reduceBEq, Nat.reduceBNe, Int.reduceToNat, Int.reduceLT, Int.reduceLE, Int.reduceEq, Int.reduceNe, Int.reduceAdd, Int.reduceSub, Int.reduceMul, Int.reduceNeg]
              refine Eq.trans (hloop _) ?_
              rw [hvl]
              simp (maxSteps := 2000000) (disch := omega) only [go_sem, doCall, doCallQ, doCallP, Nat.reduceAdd, Nat.reduceMul, Nat.reduceSub, Nat.reduceDiv, Nat.reduceMod, Nat.reduceLT, Nat.reduceLeDiff, Nat.reduceEqDiff, Nat.reduceBEq, Nat.reduceBNe, Int.reduceToNat, Int.reduceLT, Int.reduceLE, Int.reduceEq, Int.reduceNe, Int.reduceAdd, Int.reduceSub, Int.reduceMul, Int.reduceNeg, h16', chk_of]
            · have h16' := eq_true (show (16 : Int) < (o.length : Int) by omega)
              rw [if_neg (fun h => h16 h.2.2.2.2)]
              refine ⟨10, ?_⟩
              rw [call_eq (fn := ir19) rfl, evF_bnd]
              simp (maxSteps := 2000000) (disch := omega) only [go_sem, doCall, doCallQ, doCallP, Nat.reduceAdd, Nat.reduceMul, Nat.reduceSub, Nat.reduceDiv, Nat.reduceMod, Nat.reduceLT, Nat.reduceLeDiff, Nat.reduceEqDiff, Nat.reduceBEq, Nat.reduceBNe, Int.reduceToNat, Int.reduceLT, Int.reduceLE, Int.reduceEq, Int.reduceNe, Int.reduceAdd, Int.reduceSub, Int.reduceMul, Int.reduceNeg, bd19, h1, h2, h3, h4, h5, hb', hrl, htk, hro, hto, hlz, Int.natCast_nonneg, Int.toNat_natCast, Option.getD_some, Option.getD_none, List.drop_zero, Nat.sub_zero, Nat.zero_le, true_and, and_true, Nat.le_refl, Nat.zero_add, List.length_nil, chk_of]
              rw [loop_step1]; simp (maxSteps := 2000000) only [go_sem, doCall, doCallQ, doCallP, Nat.reduceAdd, Nat.reduceMul, Nat.reduceSub, Nat.reduceDiv, Nat.reduceMod, Nat.reduceLT, Nat.reduceLeDiff, Nat.reduceEqDiff, Nat.reduceBEq, Nat.reduceBNe, Int.reduceToNat, Int.reduceLT, Int.reduceLE, Int.reduceEq, Int.reduceNe, Int.reduceAdd, Int.reduceSub, Int.reduceMul, Int.reduceNeg]
              refine Eq.trans (hloop _) ?_
              rw [hvl]
              simp (maxSteps := 2000000) (disch := omega) only [go_sem, doCall, doCallQ, doCallP, Nat.reduceAdd, Nat.reduceMul, Nat.reduceSub, Nat.reduceDiv, Nat.reduceMod, Nat.reduceLT, Nat.reduceLeDiff, Nat.reduceEqDiff, Nat.reduceBEq, Nat.reduceBNe, Int.reduceToNat, Int.reduceLT, Int.reduceLE, Int.reduceEq, Int.reduceNe, Int.reduceAdd, Int.reduceSub, Int.reduceMul, Int.reduceNeg, h16', chk_of, List.length_nil, List.map_nil]
          · rw [hEo] at hloop
            rw [if_neg (fun h => by simp at h)]
            refine ⟨9, ?_⟩
            rw [call_eq (fn := ir19) rfl, evF_bnd]
            simp (maxSteps := 2000000) (disch := omega) only [go_sem, doCall, doCallQ, doCallP, Nat.reduceAdd, Nat.reduceMul, Nat.reduceSub, Nat.reduceDiv, Nat.reduceMod, Nat.reduceLT, Nat.reduceLeDiff, Nat.reduceEqDiff, Nat.reduceBEq, Nat.reduceBNe, Int.reduceToNat, Int.reduceLT, Int.reduceLE, Int.reduceEq, Int.reduceNe, Int.reduceAdd, Int.reduceSub, Int.reduceMul, Int.reduceNeg, bd19, h1, h2, h3, h4, h5, hb', hrl, htk, hro, hto, hlz, Int.natCast_nonneg, Int.toNat_natCast, Option.getD_some, Option.getD_none, List.drop_zero, Nat.sub_zero, Nat.zero_le, true_and, and_true, Nat.le_refl, Nat.zero_add, List.length_nil, chk_of]
            rw [loop_step1]; simp (maxSteps := 2000000) only [go_sem, doCall, doCallQ, doCallP, Nat.reduceAdd, Nat.reduceMul, Nat.reduceSub, Nat.reduceDiv, Nat.reduceMod, Nat.reduceLT, Nat.reduceLeDiff, Nat.reduceEqDiff, Nat.reduceBEq, Nat.reduceBNe, Int.reduceToNat, Int.reduceLT, Int.reduceLE, Int.reduceEq, Int.reduceNe, Int.reduceAdd, Int.reduceSub, Int.reduceMul, Int.reduceNeg]
            refine Eq.trans (hloop _) ?_
            simp (maxSteps := 2000000) (disch := omega) only [go_sem, doCall, doCallQ, doCallP, Nat.reduceAdd, Nat.reduceMul, Nat.reduceSub, Nat.reduceDiv, Nat.reduceMod, Nat.reduceLT, Nat.reduceLeDiff, Nat.reduceEqDiff, Nat.reduceBEq, Nat.reduceBNe, Int.reduceToNat, Int.reduceLT, Int.reduceLE, Int.reduceEq, Int.reduceNe, Int.reduceAdd, Int.reduceSub, Int.reduceMul, Int.reduceNeg, chk_of, List.length_nil, List.map_nil]
        · rw [h3o] at hloop
          simp only [if_true] at hloop
          rw [if_neg (fun h => by simp at h)]
          refine ⟨3, ?_⟩
          rw [call_eq (fn := ir19) rfl, evF_bnd]
          simp (maxSteps := 2000000) (disch := omega) only [go_sem, doCall, doCallQ, doCallP, Nat.reduceAdd, Nat.reduceMul, Nat.reduceSub, Nat.reduceDiv, Nat.reduceMod, Nat.reduceLT, Nat.reduceLeDiff, Nat.reduceEqDiff, Nat.reduceBEq, Nat.reduceBNe, Int.reduceToNat, Int.reduceLT, Int.reduceLE, Int.reduceEq, Int.reduceNe, Int.reduceAdd, Int.reduceSub, Int.reduceMul, Int.reduceNeg, bd19, h1, h2, h3, h4, h5, hb', hrl, htk, hro, hto, hlz, Int.natCast_nonneg, Int.toNat_natCast, Option.getD_some, Option.getD_none, List.drop_zero, Nat.sub_zero, Nat.zero_le, true_and, and_true, Nat.le_refl, Nat.zero_add, List.length_nil, chk_of]
          rw [loop_step1]; simp (maxSteps := 2000000) only [go_sem, doCall, doCallQ, doCallP, Nat.reduceAdd, Nat.reduceMul, Nat.reduceSub, Nat.reduceDiv, Nat.reduceMod, Nat.reduceLT, Nat.reduceLeDiff, Nat.reduceEqDiff, Nat.reduceBEq, Nat.reduceBNe, Int.reduceToNat, Int.reduceLT, Int.reduceLE, Int.reduceEq, Int.reduceNe, Int.reduceAdd, Int.reduceSub, Int.reduceMul, Int.reduceNeg]
          refine Eq.trans (hloop _) ?_
          simp (maxSteps := 2000000) (disch := omega) only [go_sem, doCall, doCallQ, doCallP, Nat.reduceAdd, Nat.reduceMul, Nat.reduceSub, Nat.reduceDiv, Nat.reduceMod, Nat.reduceLT, Nat.reduceLeDiff, Nat.reduceEqDiff, Nat.reduceBEq, Nat.reduceBNe, Int.reduceToNat, Int.reduceLT, Int.reduceLE, Int.reduceEq, Int.reduceNe, Int.reduceAdd, Int.reduceSub, Int.reduceMul, Int.reduceNeg, chk_of, List.length_nil, List.map_nil]
    · rw [if_neg (fun h => hu h.1)]
      refine ⟨3, ?_⟩
      rw [call_eq (fn := ir19) rfl, evF_bnd]
      cases hm : (cut 61 (trim s)).2.2
      · rw [hm] at h2
        simp (maxSteps := 2000000) (disch := omega) only [go_sem, doCall, doCallQ, doCallP, Nat.reduceAdd, Nat.reduceMul, Nat.reduceSub, Nat.reduceDiv, Nat.reduceMod, Nat.reduceLT, Nat.reduceLeDiff, Nat.reduceEqDiff, Nat.reduceBEq, Nat.reduceBNe, Int.reduceToNat, Int.reduceLT, Int.reduceLE, Int.reduceEq, Int.reduceNe, Int.reduceAdd, Int.reduceSub, Int.reduceMul, Int.reduceNeg, bd19, h1, h2, h3, h4, hrl, htk, hro, hto, Int.natCast_nonneg, Int.toNat_natCast, Option.getD_some, Option.getD_none, List.drop_zero, Nat.sub_zero, Nat.zero_le, true_and, and_true, Nat.le_refl, Nat.zero_add, List.length_nil, List.map_nil, chk_of]
      · rw [hm] at h2
        have hb' := eq_false (fun h => hu (hun.2 ⟨hm, h⟩))
        unfold bytesW at hb'
        simp (maxSteps := 2000000) (disch := omega) only [go_sem, doCall, doCallQ, doCallP, Nat.reduceAdd, Nat.reduceMul, Nat.reduceSub, Nat.reduceDiv, Nat.reduceMod, Nat.reduceLT, Nat.reduceLeDiff, Nat.reduceEqDiff, Nat.reduceBEq, Nat.reduceBNe, Int.reduceToNat, Int.reduceLT, Int.reduceLE, Int.reduceEq, Int.reduceNe, Int.reduceAdd, Int.reduceSub, Int.reduceMul, Int.reduceNeg, bd19, h1, h2, h3, h4, h5, hb', hrl, htk, hro, hto, Int.natCast_nonneg, Int.toNat_natCast, Option.getD_some, Option.getD_none, List.drop_zero, Nat.sub_zero, Nat.zero_le, true_and, and_true, Nat.le_refl, Nat.zero_add, List.length_nil, List.map_nil, chk_of]
end Go.Proofs.YtplnioclkacgkaaGreatDoor
namespace Go.Proofs.YtplnioclkacgkaaGreatDoor
open Go Go.Ev Go.Proofs.YtplnioclkacgkaaGreatDoor.Ir Go.Prs
set_option maxRecDepth 100000
set_option maxHeartbeats 4000000
set_option linter.unusedSimpArgs false
set_option linter.unusedVariables false
theorem t_sparse (s : List UInt8) (hs : s.length ≤ 100000000) : ∃ e, call ir 25 [dS s] [] = some (.tup [.own 0 3 0 (specL s).length false, dI e], [.arr 3 (r3 (specL s))]) := by
  have h1 := t_trim s (by omega)
  have hl1 := trim_len s
  have h2 : call ir 50 [dS (trim s), .d (.int .u8 61)] [] = some (.tup [dS (cut 61 (trim s)).1, dS (cut 61 (trim s)).2.1, dT (cut 61 (trim s)).2.2], []) := t_cut (trim s) (by omega) 61
  have hl2 := cut_len 61 (trim s)
  have h4 := t_list (cut 61 (trim s)).2.1 (by omega)
  have h5 : call ir 52 [dS (cut 61 (trim s)).1, dS [98, 121, 116, 101, 115]] [] = some (dT (decide ((cut 61 (trim s)).1.map low = bytesW)), []) := t_fold (cut 61 (trim s)).1 bytesW (by omega) (by decide)
  have hun : unitOk s ↔ (cut 61 (trim s)).2.2 = true ∧ (cut 61 (trim s)).1.map low = bytesW := Iff.rfl
  have hsm := fun o h => els_small (s := (cut 61 (trim s)).2.1) (o := o) h
  have hel : elsOf s = els true (pcs (cut 61 (trim s)).2.1) [] := rfl
  generalize (cut 61 (trim s)).1 = a at *
  generalize (cut 61 (trim s)).2.1 = r at *
  rw [← hel] at h4 hsm
  cases he : elsOf s with
  | none =>
    rw [he] at h4
    rw [specL_none he]
    refine ⟨3, ?_⟩
    rw [call_eq (fn := ir25) rfl, evF_bnd]
    cases hm : (cut 61 (trim s)).2.2
    · rw [hm] at h2
      simp (maxSteps := 2000000) (disch := omega) only [go_sem, doCall, doCallQ, doCallP, Nat.reduceAdd, Nat.reduceMul, Nat.reduceSub, Nat.reduceDiv, Nat.reduceMod, Nat.reduceLT, Nat.reduceLeDiff, Nat.reduceEqDiff, Nat.reduceBEq, Nat.reduceBNe, Int.reduceToNat, Int.reduceLT, Int.reduceLE, Int.reduceEq, Int.reduceNe, Int.reduceAdd, Int.reduceSub, Int.reduceMul, Int.reduceNeg, bd25, h1, h2, h4, Int.natCast_nonneg, Int.toNat_natCast, Option.getD_some, Option.getD_none, List.drop_zero, Nat.sub_zero, Nat.zero_le, true_and, and_true, Nat.le_refl, Nat.zero_add, List.length_nil, chk_of]
    · rw [hm] at h2
      by_cases hb : a.map low = bytesW
      · rw [decide_eq_true hb] at h5
        simp (maxSteps := 2000000) (disch := omega) only [go_sem, doCall, doCallQ, doCallP, Nat.reduceAdd, Nat.reduceMul, Nat.reduceSub, Nat.reduceDiv, Nat.reduceMod, Nat.reduceLT, Nat.reduceLeDiff, Nat.reduceEqDiff, Nat.reduceBEq, Nat.reduceBNe, Int.reduceToNat, Int.reduceLT, Int.reduceLE, Int.reduceEq, Int.reduceNe, Int.reduceAdd, Int.reduceSub, Int.reduceMul, Int.reduceNeg, bd25, h1, h2, h4, h5, Int.natCast_nonneg, Int.toNat_natCast, Option.getD_some, Option.getD_none, List.drop_zero, Nat.sub_zero, Nat.zero_le, true_and, and_true, Nat.le_refl, Nat.zero_add, List.length_nil, chk_of]
      · rw [decide_eq_false hb] at h5
        simp (maxSteps := 2000000) (disch := omega) only [go_sem, doCall, doCallQ, doCallP, Nat.reduceAdd, Nat.reduceMul, Nat.reduceSub, Nat.reduceDiv, Nat.reduceMod, Nat.reduceLT, Nat.reduceLeDiff, Nat.reduceEqDiff, Nat.reduceBEq, Nat.reduceBNe, Int.reduceToNat, Int.reduceLT, Int.reduceLE, Int.reduceEq, Int.reduceNe, Int.reduceAdd, Int.reduceSub, Int.reduceMul, Int.reduceNeg, bd25, h1, h2, h4, h5, Int.natCast_nonneg, Int.toNat_natCast, Option.getD_some, Option.getD_none, List.drop_zero, Nat.sub_zero, Nat.zero_le, true_and, and_true, Nat.le_refl, Nat.zero_add, List.length_nil, chk_of]
  | some o =>
    rw [he] at h4
    have hso := hsm o he
    rw [specL_some he]
    have hro := rS_len o
    have hto := take_rS o
    have hpos : ∀ h : o ≠ [], 0 < o.length := fun h => List.length_pos_iff.2 h
    by_cases hu : unitOk s
    · obtain ⟨hu1, hu2⟩ := hun.1 hu
      rw [hu1] at h2
      rw [decide_eq_true hu2] at h5
      by_cases hn : o = []
      · subst hn
        rw [if_neg (fun h => h.2.1 rfl)]
        refine ⟨3, ?_⟩
        rw [call_eq (fn := ir25) rfl, evF_bnd]
        simp (maxSteps := 2000000) (disch := omega) only [go_sem, doCall, doCallQ, doCallP, Nat.reduceAdd, Nat.reduceMul, Nat.reduceSub, Nat.reduceDiv, Nat.reduceMod, Nat.reduceLT, Nat.reduceLeDiff, Nat.reduceEqDiff, Nat.reduceBEq, Nat.reduceBNe, Int.reduceToNat, Int.reduceLT, Int.reduceLE, Int.reduceEq, Int.reduceNe, Int.reduceAdd, Int.reduceSub, Int.reduceMul, Int.reduceNeg, bd25, h1, h2, h4, h5, Int.natCast_nonneg, Int.toNat_natCast, Option.getD_some, Option.getD_none, List.drop_zero, Nat.sub_zero, Nat.zero_le, true_and, and_true, Nat.le_refl, Nat.zero_add, List.length_nil, List.map_nil, List.take_nil, chk_of]
      · have hlz := eq_false (show ¬ (o.length : Int) = 0 by have := hpos hn; omega)
        have hloop := fun k => lp_specs o (by omega) (fun p hp => by have := hso.2 p hp; omega) k 0 (by omega) 0
        simp only [List.take_zero, List.drop_zero] at hloop
        have hv0 : vals ([] : List (List UInt8)) = [] := rfl
        simp only [hv0, List.length_nil, List.map_nil] at hloop
        have hvl := vals_len o
        rw [bad0] at hloop
        cases h3o : any3 o
        · rw [h3o] at hloop
          simp only [Bool.false_eq_true, if_false] at hloop
          cases hEo : anyE o
          · rw [hEo] at hloop
            simp only [Bool.false_eq_true, if_false] at hloop
            by_cases h16 : o.length ≤ 16
            · have h16' := eq_false (show ¬ (16 : Int) < (o.length : Int) by omega)
              rw [if_pos ⟨hu, hn, rfl, rfl, h16⟩]
              refine ⟨0, ?_⟩
              rw [call_eq (fn := ir25) rfl, evF_bnd]
              simp (maxSteps := 2000000) (disch := omega) only [go_sem, doCall, doCallQ, doCallP, Nat.reduceAdd, Nat.reduceMul, Nat.reduceSub, Nat.reduceDiv, Nat.reduceMod, Nat.reduceLT, Nat.reduceLeDiff, Nat.reduceEqDiff, Nat.reduceBEq, Nat.reduceBNe, Int.reduceToNat, Int.reduceLT, Int.reduceLE, Int.reduceEq, Int.reduceNe, Int.reduceAdd, Int.reduceSub, Int.reduceMul, Int.reduceNeg, bd25, h1, h2, h4, h5, hro, hto, hlz, Int.natCast_nonneg, Int.toNat_natCast, Option.getD_some, Option.getD_none, List.drop_zero, Nat.sub_zero, Nat.zero_le, true_and, and_true, Nat.le_refl, Nat.zero_add, List.length_nil, chk_of]
              rw [loop_step1]; simp (maxSteps := 2000000) only [go_sem, doCall, doCallQ, doCallP, Nat.reduceAdd, Nat.reduceMul, Nat.reduceSub, Nat.reduceDiv, Nat.reduceMod, Nat.reduceLT, Nat.reduceLeDiff, Nat.reduceEqDiff, Nat.reduceBEq, Nat.reduceBNe, Int.reduceToNat, Int.reduceLT, Int.reduceLE, Int.reduceEq, Int.reduceNe, Int.reduceAdd, Int.reduceSub, Int.reduceMul, Int.reduceNeg]
              refine Eq.trans (hloop _) ?_
              rw [hvl]
              simp (maxSteps := 2000000) (disch := omega) only [go_sem, doCall, doCallQ, doCallP, Nat.reduceAdd, Nat.reduceMul, Nat.reduceSub, Nat.reduceDiv, Nat.reduceMod, Nat.reduceLT, Nat.reduceLeDiff, Nat.reduceEqDiff, Nat.reduceBEq, Nat.reduceBNe, Int.reduceToNat, Int.reduceLT, Int.reduceLE, Int.reduceEq, Int.reduceNe, Int.reduceAdd, Int.reduceSub, Int.reduceMul, Int.reduceNeg, h16', hro, chk_of]
            · have h16' := eq_true (show (16 : Int) < (o.length : Int) by omega)
              rw [if_neg (fun h => h16 h.2.2.2.2)]
              refine ⟨10, ?_⟩
              rw [call_eq (fn := ir25) rfl, evF_bnd]
              simp (maxSteps := 2000000) (disch := omega) only [go_sem, doCall, doCallQ, doCallP, Nat.reduceAdd, Nat.reduceMul, Nat.reduceSub, Nat.reduceDiv, Nat.reduceMod, Nat.reduceLT, Nat.reduceLeDiff, Nat.reduceEqDiff, Nat.reduceBEq, Nat.reduceBNe, Int.reduceToNat, Int.reduceLT, Int.reduceLE, Int.reduceEq, Int.reduceNe, Int.reduceAdd, Int.reduceSub, Int.reduceMul, Int.reduceNeg, bd25, h1, h2, h4, h5, hro, hto, hlz, Int.natCast_nonneg, Int.toNat_natCast, Option.getD_some, Option.getD_none, List.drop_zero, Nat.sub_zero, Nat.zero_le, true_and, and_true, Nat.le_refl, Nat.zero_add, List.length_nil, chk_of]
              rw [loop_step1]; simp (maxSteps := 2000000) only [go_sem, doCall, doCallQ, doCallP, Nat.reduceAdd, Nat.reduceMul, Nat.reduceSub, Nat.reduceDiv, Nat.reduceMod, Nat.reduceLT, Nat.reduceLeDiff, Nat.reduceEqDiff, Nat.reduceBEq, Nat.reduceBNe, Int.reduceToNat, Int.reduceLT, Int.reduceLE, Int.reduceEq, Int.reduceNe, Int.reduceAdd, Int.reduceSub, Int.reduceMul, Int.reduceNeg]
              refine Eq.trans (hloop _) ?_
              rw [hvl]
              simp (maxSteps := 2000000) (disch := omega) only [go_sem, doCall, doCallQ, doCallP, Nat.reduceAdd, Nat.reduceMul, Nat.reduceSub, Nat.reduceDiv, Nat.reduceMod, Nat.reduceLT, Nat.reduceLeDiff, Nat.reduceEqDiff, Nat.reduceBEq, Nat.reduceBNe, Int.reduceToNat, Int.reduceLT, Int.reduceLE, Int.reduceEq, Int.reduceNe, Int.reduceAdd, Int.reduceSub, Int.reduceMul, Int.reduceNeg, h16', hro, chk_of, List.length_nil, List.map_nil]
          · rw [hEo] at hloop
            simp only [if_true] at hloop
            rw [if_neg (fun h => by simp at h)]
            refine ⟨9, ?_⟩
            rw [call_eq (fn := ir25) rfl, evF_bnd]
            simp (maxSteps := 2000000) (disch := omega) only [go_sem, doCall, doCallQ, doCallP, Nat.reduceAdd, Nat.reduceMul, Nat.reduceSub, Nat.reduceDiv, Nat.reduceMod, Nat.reduceLT, Nat.reduceLeDiff, Nat.reduceEqDiff, Nat.reduceBEq, Nat.reduceBNe, Int.reduceToNat, Int.reduceLT, Int.reduceLE, Int.reduceEq, Int.reduceNe, Int.reduceAdd, Int.reduceSub, Int.reduceMul, Int.reduceNeg, bd25, h1, h2, h4, h5, hro, hto, hlz, Int.natCast_nonneg, Int.toNat_natCast, Option.getD_some, Option.getD_none, List.drop_zero, Nat.sub_zero, Nat.zero_le, true_and, and_true, Nat.le_refl, Nat.zero_add, List.length_nil, chk_of]
            rw [loop_step1]; simp (maxSteps := 2000000) only [go_sem, doCall, doCallQ, doCallP, Nat.reduceAdd, Nat.reduceMul, Nat.reduceSub, Nat.reduceDiv, Nat.reduceMod, Nat.reduceLT, Nat.reduceLeDiff, Nat.reduceEqDiff, Nat.reduceBEq, Nat.reduceBNe, Int.reduceToNat, Int.reduceLT, Int.reduceLE, Int.reduceEq, Int.reduceNe, Int.reduceAdd, Int.reduceSub, Int.reduceMul, Int.reduceNeg]
            refine Eq.trans (hloop _) ?_
            simp (maxSteps := 2000000) (disch := omega) only [go_sem, doCall, doCallQ, doCallP, Nat.reduceAdd, Nat.reduceMul, Nat.reduceSub, Nat.reduceDiv, Nat.reduceMod, Nat.reduceLT, Nat.reduceLeDiff, Nat.reduceEqDiff, Nat.reduceBEq, Nat.reduceBNe, Int.reduceToNat, Int.reduceLT, Int.reduceLE, Int.reduceEq, Int.reduceNe, Int.reduceAdd, Int.reduceSub, Int.reduceMul, Int.reduceNeg, chk_of, List.length_nil, List.map_nil]
        · rw [h3o] at hloop
          simp only [if_true] at hloop
          rw [if_neg (fun h => by simp at h)]
          refine ⟨3, ?_⟩
          rw [call_eq (fn := ir25) rfl, evF_bnd]
          simp (maxSteps := 2000000) (disch := omega) only [go_sem, doCall, doCallQ, doCallP, Nat.reduceAdd, Nat.reduceMul, Nat.reduceSub, Nat.reduceDiv, Nat.reduceMod, Nat.reduceLT, Nat.reduceLeDiff, Nat.reduceEqDiff, Nat.reduceBEq, Nat.reduceBNe, Int.reduceToNat, Int.reduceLT, Int.reduceLE, Int.reduceEq, Int.reduceNe, Int.reduceAdd, Int.reduceSub, Int.reduceMul, Int.reduceNeg, bd25, h1, h2, h4, h5, hro, hto, hlz, Int.natCast_nonneg, Int.toNat_natCast, Option.getD_some, Option.getD_none, List.drop_zero, Nat.sub_zero, Nat.zero_le, true_and, and_true, Nat.le_refl, Nat.zero_add, List.length_nil, chk_of]
          rw [loop_step1]; simp (maxSteps := 2000000) only [go_sem, doCall, doCallQ, doCallP, Nat.reduceAdd, Nat.reduceMul, Nat.reduceSub, Nat.reduceDiv, Nat.reduceMod, Nat.reduceLT, Nat.reduceLeDiff, Nat.reduceEqDiff, Nat.reduceBEq, Nat.reduceBNe, Int.reduceToNat, Int.reduceLT, Int.reduceLE, Int.reduceEq, Int.reduceNe, Int.reduceAdd, Int.reduceSub, Int.reduceMul, Int.reduceNeg]
          refine Eq.trans (hloop _) ?_
          simp (maxSteps := 2000000) (disch := omega) only [go_sem, doCall, doCallQ, doCallP, Nat.reduceAdd, Nat.reduceMul, Nat.reduceSub, Nat.reduceDiv, Nat.reduceMod, Nat.reduceLT, Nat.reduceLeDiff, Nat.reduceEqDiff, Nat.reduceBEq, Nat.reduceBNe, Int.reduceToNat, Int.reduceLT, Int.reduceLE, Int.reduceEq, Int.reduceNe, Int.reduceAdd, Int.reduceSub, Int.reduceMul, Int.reduceNeg, chk_of, List.length_nil, List.map_nil]
    · rw [if_neg (fun h => hu h.1)]
      refine ⟨3, ?_⟩
      rw [call_eq (fn := ir25) rfl, evF_bnd]
      cases hm : (cut 61 (trim s)).2.2
      · rw [hm] at h2
        simp (maxSteps := 2000000) (disch := omega) only [go_sem, doCall, doCallQ, doCallP, Nat.reduceAdd, Nat.reduceMul, Nat.reduceSub, Nat.reduceDiv, Nat.reduceMod, Nat.reduceLT, Nat.reduceLeDiff, Nat.reduceEqDiff, Nat.reduceBEq, Nat.reduceBNe, Int.reduceToNat, Int.reduceLT, Int.reduceLE, Int.reduceEq, Int.reduceNe, Int.reduceAdd, Int.reduceSub, Int.reduceMul, Int.reduceNeg, bd25, h1, h2, h4, hro, hto, Int.natCast_nonneg, Int.toNat_natCast, Option.getD_some, Option.getD_none, List.drop_zero, Nat.sub_zero, Nat.zero_le, true_and, and_true, Nat.le_refl, Nat.zero_add, List.length_nil, List.map_nil, chk_of]
      · rw [hm] at h2
        rw [decide_eq_false (fun h => hu (hun.2 ⟨hm, h⟩))] at h5
        simp (maxSteps := 2000000) (disch := omega) only [go_sem, doCall, doCallQ, doCallP, Nat.reduceAdd, Nat.reduceMul, Nat.reduceSub, Nat.reduceDiv, Nat.reduceMod, Nat.reduceLT, Nat.reduceLeDiff, Nat.reduceEqDiff, Nat.reduceBEq, Nat.reduceBNe, Int.reduceToNat, Int.reduceLT, Int.reduceLE, Int.reduceEq, Int.reduceNe, Int.reduceAdd, Int.reduceSub, Int.reduceMul, Int.reduceNeg, bd25, h1, h2, h4, h5, hro, hto, Int.natCast_nonneg, Int.toNat_natCast, Option.getD_some, Option.getD_none, List.drop_zero, Nat.sub_zero, Nat.zero_le, true_and, and_true, Nat.le_refl, Nat.zero_add, List.length_nil, List.map_nil, chk_of]
theorem t_asked (s : List UInt8) (hs : s.length ≤ 100000000) : call ir 14 [dS s] [] = some (.d (.list 3 (r3 (specL s))), []) := by
  obtain ⟨e, h⟩ := t_sparse s hs
  rw [call_eq (fn := ir14) rfl, evF_bnd]
  have hrl := r3_len (specL s)
  have htk := take_r3 (specL s)
  simp (maxSteps := 2000000) (disch := omega) only [go_sem, doCall, doCallQ, doCallP, Nat.reduceAdd, Nat.reduceMul, Nat.reduceSub, Nat.reduceDiv, Nat.reduceMod, Nat.reduceLT, Nat.reduceLeDiff, Nat.reduceEqDiff, Nat.reduceBEq, Nat.reduceBNe, Int.reduceToNat, Int.reduceLT, Int.reduceLE, Int.reduceEq, Int.reduceNe, Int.reduceAdd, Int.reduceSub, Int.reduceMul, Int.reduceNeg, bd14, h, hrl, htk, Int.natCast_nonneg, Int.toNat_natCast, Option.getD_some, Option.getD_none, List.drop_zero, Nat.sub_zero, Nat.zero_le, true_and, and_true, Nat.le_refl, Nat.zero_add, chk_of]
end Go.Proofs.YtplnioclkacgkaaGreatDoor
