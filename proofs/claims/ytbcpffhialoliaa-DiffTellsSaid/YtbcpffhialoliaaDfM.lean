/- changed, where a piece is lost. Own work. Apply where a piece is lost. Own work. The law's find and at. Own work. DiffOdd. Own work. DiffOdd: the arguments. Own work. -/
import Derived.Test.YtbcpffhialoliaaDfH
namespace Go.Proofs.Ytbcpffhialoliaa
open Go Go.Ev Go.Proofs.Ytbcpffhialoliaa.Ir
set_option maxRecDepth 100000
set_option maxHeartbeats 4000000
set_option linter.unusedSimpArgs false
set_option linter.unusedVariables false
def okI (l : List Pc) : Prop := ∀ p ∈ l, -9223372036854775808 ≤ p.ix ∧ p.ix ≤ 9223372036854775807
def kRows (l : List Pc) : List (List D) := l.map fun p => [.int .i64 p.ix]
theorem t_cp1 (p : Pc) (hb : p.bd.length ≤ 1000000) : call ir 33 [.d (.list 4 [[.int .i64 p.ob, .int .i64 p.ge, .int .i64 p.ix, .list 1 (bB p.bd)]])] [] = some (.own 0 4 0 1 false, [.arr 4 [[.int .i64 p.ob, .int .i64 p.ge, .int .i64 p.ix, .list 1 (bB p.bd)]]]) :=
  t_copied [p] (by simp) (by simpa using hb)
end Go.Proofs.Ytbcpffhialoliaa
namespace Go.Proofs.Ytbcpffhialoliaa
open Go Go.Ev Go.Proofs.Ytbcpffhialoliaa.Ir
set_option maxRecDepth 100000
set_option maxHeartbeats 4000000
set_option linter.unusedSimpArgs false
set_option linter.unusedVariables false
theorem fnd_in {o : Int} {l : List Hd} {d : Hd} (h : fndO o l = some d) : d ∈ l ∧ d.ob = o := by
  unfold fndO at h
  have h1 := List.mem_of_find?_eq_some h
  have h2 := List.find?_some h
  exact ⟨h1, of_decide_eq_true h2⟩
theorem find_pc {i : Int} : ∀ {l : List Pc} {d : D}, findM i (l.map pcE) = some d → ∃ p : Pc, d = .agg [.int .i64 p.ob, .int .i64 p.ge, .int .i64 p.ix, .list 1 (bB p.bd)]
  | [], d, h => by simp [findM] at h
  | p :: l, d, h => by
    change findM i ((p.ix, pcD p) :: l.map pcE) = some d at h
    rw [findM] at h
    by_cases e : p.ix = i
    · rw [if_pos e] at h; injection h with h; exact ⟨p, h.symm⟩
    · rw [if_neg e] at h; exact find_pc (l := l) h
/-- What is found is lost of it. -/
def lostH (i : Int) (d : Hd) : Hd := { d with ps := d.ps.filter (noI i) }
/-- The error's number. -/
def lostE (i : Int) : Option Hd → Int
  | none => 8
  | some d => if atP i d.ps then 0 else 8
end Go.Proofs.Ytbcpffhialoliaa
namespace Go.Proofs.Ytbcpffhialoliaa
open Go Go.Ev Go.Proofs.Ytbcpffhialoliaa.Ir
set_option maxRecDepth 100000
set_option maxHeartbeats 4000000
set_option linter.unusedSimpArgs false
set_option linter.unusedVariables false
theorem fnd_drop {o : Int} {l : List Hd} {i : Nat} (h : i < l.length) : fndO o (l.drop i) = if isO o l[i] then some l[i] else fndO o (l.drop (i + 1)) := by
  rw [List.drop_eq_getElem_cons h]
  unfold fndO
  rw [List.find?_cons]
  cases isO o l[i] <;> rfl
theorem lp_lfind (l : List Hd) (hl : l.length ≤ 1000000) (o : Int) (k : Ex → St → Option (AV × Heap)) (i : Nat) (hi : i ≤ l.length) :
    (bnd (evC (call ir) (loop ir) lp10_0 (st10_0 0 (dI o) (.ptr 0 0) (vHs l) (dI l.length) (dI i) [.dbox [.int .i64 0, .int .i64 0, .str [], .int .i64 0, .int .i64 0, .list 4 []]])) (lpC (call ir) (loop ir) [1, 4, 8, 9, 10] lp10_0 k)) = (match fndO o (l.drop i) with
      | some d => k .ret (clean [4, 5] ⟨0, [.unk, .unk, .unk, .unk, .ptr 0 0, dT true, .unk, .unk, .unk, .unk, .unk, .unk, .unk, .unk, .unk, .unk, .unk, .unk, .unk, .unk, .unk, .unk], [.dbox [.int .i64 d.ob, .int .i64 d.ge, .str d.tg, .int .i64 d.le, .int .i64 d.ti, .list 4 (d.ps.map pcRow)]]⟩)
      | none => k (.exit 0) (clean [4] (st10_0 0 .unk (.ptr 0 0) .unk .unk .unk [.dbox [.int .i64 0, .int .i64 0, .str [], .int .i64 0, .int .i64 0, .list 4 []]]))) := by
  by_cases h : i = l.length
  · have hx : ¬ (i : Int) < l.length := by omega
    rw [h] at hx
    rw [h, List.drop_length]
    show _ = k (.exit 0) _
    simp (maxSteps := 2000000) (disch := omega) only [go_sem, doCall, doCallQ, doCallP, Nat.reduceAdd, Nat.reduceMul, Nat.reduceSub, Nat.reduceDiv, Nat.reduceMod, Nat.reduceLT, Nat.reduceLeDiff, Nat.reduceEqDiff, Nat.reduceBEq, Nat.reduceBNe, Int.reduceToNat, Int.reduceLT, Int.reduceLE, Int.reduceEq, Int.reduceNe, Int.reduceAdd, Int.reduceSub, Int.reduceMul, Int.reduceNeg, u10_0, lb10_0, hx]
  · have hlt : (i : Int) < l.length := by omega
    have hi' : i < l.length := by omega
    have hw := wr_succ (i := i) (by omega)
    have hg := getHd l hi'
    have hlm : (l.map hdRow).length = l.length := List.length_map ..
    have ih := lp_lfind l hl o k (i + 1) (by omega)
    rw [fnd_drop hi']
    generalize l[i] = d at hg ⊢
    unfold isO
    by_cases hd : d.ob = o
    · have hd' := eq_true hd
      rw [decide_eq_true hd, if_pos rfl]
      simp (maxSteps := 2000000) (disch := omega) only [go_sem, doCall, doCallQ, doCallP, Nat.reduceAdd, Nat.reduceMul, Nat.reduceSub, Nat.reduceDiv, Nat.reduceMod, Nat.reduceLT, Nat.reduceLeDiff, Nat.reduceEqDiff, Nat.reduceBEq, Nat.reduceBNe, Int.reduceToNat, Int.reduceLT, Int.reduceLE, Int.reduceEq, Int.reduceNe, Int.reduceAdd, Int.reduceSub, Int.reduceMul, Int.reduceNeg, u10_0, lb10_0, hlt, hi', hw, hg, hlm, hd', show (d.ob == o) = true by simp [hd], Nat.zero_add, List.getD_cons_zero, List.set_cons_zero, List.set_cons_succ, Int.natCast_nonneg, Int.toNat_natCast, Option.getD_some, Option.getD_none, List.drop_zero, Nat.sub_zero, Nat.zero_le, true_and, and_true, Nat.le_refl, chk_of]
    · have hd' := eq_false hd
      rw [decide_eq_false hd, if_neg (by simp)]
      simp (maxSteps := 2000000) (disch := omega) only [go_sem, doCall, doCallQ, doCallP, Nat.reduceAdd, Nat.reduceMul, Nat.reduceSub, Nat.reduceDiv, Nat.reduceMod, Nat.reduceLT, Nat.reduceLeDiff, Nat.reduceEqDiff, Nat.reduceBEq, Nat.reduceBNe, Int.reduceToNat, Int.reduceLT, Int.reduceLE, Int.reduceEq, Int.reduceNe, Int.reduceAdd, Int.reduceSub, Int.reduceMul, Int.reduceNeg, u10_0, lb10_0, hlt, hi', hw, hg, hlm, hd', show (d.ob == o) = false by simp [hd], Nat.zero_add, List.getD_cons_zero, List.set_cons_zero, List.set_cons_succ, Int.natCast_nonneg, Int.toNat_natCast, Option.getD_some, Option.getD_none, List.drop_zero, Nat.sub_zero, Nat.zero_le, true_and, and_true, Nat.le_refl, chk_of]
      rw [loop_step1]; simp (maxSteps := 2000000) only [go_sem, doCall, doCallQ, doCallP, Nat.reduceAdd, Nat.reduceMul, Nat.reduceSub, Nat.reduceDiv, Nat.reduceMod, Nat.reduceLT, Nat.reduceLeDiff, Nat.reduceEqDiff, Nat.reduceBEq, Nat.reduceBNe, Int.reduceToNat, Int.reduceLT, Int.reduceLE, Int.reduceEq, Int.reduceNe, Int.reduceAdd, Int.reduceSub, Int.reduceMul, Int.reduceNeg]; exact ih
termination_by l.length - i
theorem t_lfind (l : List Hd) (hl : l.length ≤ 1000000) (o : Int) : call ir 10 [vHs l, dI o] [] = some (.tup [vHd ((fndO o l).getD d0), dT (fndO o l).isSome], []) := by
  rw [call_eq (fn := ir10) rfl, evF_bnd]
  have hlm : (l.map hdRow).length = l.length := List.length_map ..
  simp (maxSteps := 2000000) (disch := omega) only [go_sem, doCall, doCallQ, doCallP, Nat.reduceAdd, Nat.reduceMul, Nat.reduceSub, Nat.reduceDiv, Nat.reduceMod, Nat.reduceLT, Nat.reduceLeDiff, Nat.reduceEqDiff, Nat.reduceBEq, Nat.reduceBNe, Int.reduceToNat, Int.reduceLT, Int.reduceLE, Int.reduceEq, Int.reduceNe, Int.reduceAdd, Int.reduceSub, Int.reduceMul, Int.reduceNeg, bd10, hlm, Int.natCast_nonneg, Int.toNat_natCast, Option.getD_some, Option.getD_none, List.drop_zero, Nat.sub_zero, Nat.zero_le, true_and, and_true, Nat.le_refl, chk_of]
  rw [loop_step1]; simp (maxSteps := 2000000) only [go_sem, doCall, doCallQ, doCallP, Nat.reduceAdd, Nat.reduceMul, Nat.reduceSub, Nat.reduceDiv, Nat.reduceMod, Nat.reduceLT, Nat.reduceLeDiff, Nat.reduceEqDiff, Nat.reduceBEq, Nat.reduceBNe, Int.reduceToNat, Int.reduceLT, Int.reduceLE, Int.reduceEq, Int.reduceNe, Int.reduceAdd, Int.reduceSub, Int.reduceMul, Int.reduceNeg]
  refine (lp_lfind l hl o _ 0 (Nat.zero_le _)).trans ?_
  rw [List.drop_zero]
  cases fndO o l with
  | none =>
    simp (maxSteps := 2000000) (disch := omega) only [go_sem, doCall, doCallQ, doCallP, Nat.reduceAdd, Nat.reduceMul, Nat.reduceSub, Nat.reduceDiv, Nat.reduceMod, Nat.reduceLT, Nat.reduceLeDiff, Nat.reduceEqDiff, Nat.reduceBEq, Nat.reduceBNe, Int.reduceToNat, Int.reduceLT, Int.reduceLE, Int.reduceEq, Int.reduceNe, Int.reduceAdd, Int.reduceSub, Int.reduceMul, Int.reduceNeg, Nat.zero_add, List.getD_cons_zero, List.set_cons_zero, List.set_cons_succ, Int.natCast_nonneg, Int.toNat_natCast, Option.getD_some, Option.getD_none, List.drop_zero, Nat.sub_zero, Nat.zero_le, true_and, and_true, Nat.le_refl, chk_of]
    rfl
  | some d =>
    simp (maxSteps := 2000000) (disch := omega) only [go_sem, doCall, doCallQ, doCallP, Nat.reduceAdd, Nat.reduceMul, Nat.reduceSub, Nat.reduceDiv, Nat.reduceMod, Nat.reduceLT, Nat.reduceLeDiff, Nat.reduceEqDiff, Nat.reduceBEq, Nat.reduceBNe, Int.reduceToNat, Int.reduceLT, Int.reduceLE, Int.reduceEq, Int.reduceNe, Int.reduceAdd, Int.reduceSub, Int.reduceMul, Int.reduceNeg, Nat.zero_add, List.getD_cons_zero, List.set_cons_zero, List.set_cons_succ, Int.natCast_nonneg, Int.toNat_natCast, Option.getD_some, Option.getD_none, List.drop_zero, Nat.sub_zero, Nat.zero_le, true_and, and_true, Nat.le_refl, chk_of]
    rfl
theorem at_drop {i0 : Int} {l : List Pc} {i : Nat} (h : i < l.length) : atP i0 (l.drop i) = if decide (l[i].ix = i0) then true else atP i0 (l.drop (i + 1)) := by
  rw [List.drop_eq_getElem_cons h]
  unfold atP
  rw [List.any_cons]
  cases decide (l[i].ix = i0) <;> rfl
theorem lp_at (l : List Pc) (hl : l.length ≤ 1000000) (o : Int) (k : Ex → St → Option (AV × Heap)) (i : Nat) (hi : i ≤ l.length) :
    (bnd (evC (call ir) (loop ir) lp12_0 (st12_0 0 (dI o) (vPs l) (dI l.length) (dI i) [])) (lpC (call ir) (loop ir) [1, 7, 8, 9] lp12_0 k)) = (if atP o (l.drop i) then k .ret (clean [4] ⟨0, [.unk, .unk, .unk, .unk, dT true, .unk, .unk, .unk, .unk, .unk, .unk, .unk, .unk, .unk, .unk, .unk, .unk, .unk], []⟩)
      else k (.exit 0) (clean [] (st12_0 0 .unk .unk .unk .unk []))) := by
  by_cases h : i = l.length
  · have hx : ¬ (i : Int) < l.length := by omega
    rw [h] at hx
    rw [h, List.drop_length]
    show _ = k (.exit 0) _
    simp (maxSteps := 2000000) (disch := omega) only [go_sem, doCall, doCallQ, doCallP, Nat.reduceAdd, Nat.reduceMul, Nat.reduceSub, Nat.reduceDiv, Nat.reduceMod, Nat.reduceLT, Nat.reduceLeDiff, Nat.reduceEqDiff, Nat.reduceBEq, Nat.reduceBNe, Int.reduceToNat, Int.reduceLT, Int.reduceLE, Int.reduceEq, Int.reduceNe, Int.reduceAdd, Int.reduceSub, Int.reduceMul, Int.reduceNeg, u12_0, lb12_0, hx]
  · have hlt : (i : Int) < l.length := by omega
    have hi' : i < l.length := by omega
    have hw := wr_succ (i := i) (by omega)
    have hg := getPc l hi'
    have hlm : (l.map pcRow).length = l.length := List.length_map ..
    have ih := lp_at l hl o k (i + 1) (by omega)
    rw [at_drop hi']
    generalize l[i] = d at hg ⊢
    by_cases hd : d.ix = o
    · have hd' := eq_true hd
      rw [decide_eq_true hd, if_pos rfl, if_pos rfl]
      simp (maxSteps := 2000000) (disch := omega) only [go_sem, doCall, doCallQ, doCallP, Nat.reduceAdd, Nat.reduceMul, Nat.reduceSub, Nat.reduceDiv, Nat.reduceMod, Nat.reduceLT, Nat.reduceLeDiff, Nat.reduceEqDiff, Nat.reduceBEq, Nat.reduceBNe, Int.reduceToNat, Int.reduceLT, Int.reduceLE, Int.reduceEq, Int.reduceNe, Int.reduceAdd, Int.reduceSub, Int.reduceMul, Int.reduceNeg, u12_0, lb12_0, hlt, hi', hw, hg, hlm, hd', show (d.ix == o) = true by simp [hd], Nat.zero_add, List.getD_cons_zero, List.set_cons_zero, List.set_cons_succ, Int.natCast_nonneg, Int.toNat_natCast, Option.getD_some, Option.getD_none, List.drop_zero, Nat.sub_zero, Nat.zero_le, true_and, and_true, Nat.le_refl, chk_of]
    · have hd' := eq_false hd
      rw [decide_eq_false hd]
      simp only [Bool.false_eq_true, if_false]
      simp (maxSteps := 2000000) (disch := omega) only [go_sem, doCall, doCallQ, doCallP, Nat.reduceAdd, Nat.reduceMul, Nat.reduceSub, Nat.reduceDiv, Nat.reduceMod, Nat.reduceLT, Nat.reduceLeDiff, Nat.reduceEqDiff, Nat.reduceBEq, Nat.reduceBNe, Int.reduceToNat, Int.reduceLT, Int.reduceLE, Int.reduceEq, Int.reduceNe, Int.reduceAdd, Int.reduceSub, Int.reduceMul, Int.reduceNeg, u12_0, lb12_0, hlt, hi', hw, hg, hlm, hd', show (d.ix == o) = false by simp [hd], Nat.zero_add, List.getD_cons_zero, List.set_cons_zero, List.set_cons_succ, Int.natCast_nonneg, Int.toNat_natCast, Option.getD_some, Option.getD_none, List.drop_zero, Nat.sub_zero, Nat.zero_le, true_and, and_true, Nat.le_refl, chk_of]
      rw [loop_step1]; simp (maxSteps := 2000000) only [go_sem, doCall, doCallQ, doCallP, Nat.reduceAdd, Nat.reduceMul, Nat.reduceSub, Nat.reduceDiv, Nat.reduceMod, Nat.reduceLT, Nat.reduceLeDiff, Nat.reduceEqDiff, Nat.reduceBEq, Nat.reduceBNe, Int.reduceToNat, Int.reduceLT, Int.reduceLE, Int.reduceEq, Int.reduceNe, Int.reduceAdd, Int.reduceSub, Int.reduceMul, Int.reduceNeg]; exact ih
termination_by l.length - i
theorem t_at (l : List Pc) (hl : l.length ≤ 1000000) (o : Int) : call ir 12 [vPs l, dI o] [] = some (dT (atP o l), []) := by
  rw [call_eq (fn := ir12) rfl, evF_bnd]
  have hlm : (l.map pcRow).length = l.length := List.length_map ..
  simp (maxSteps := 2000000) (disch := omega) only [go_sem, doCall, doCallQ, doCallP, Nat.reduceAdd, Nat.reduceMul, Nat.reduceSub, Nat.reduceDiv, Nat.reduceMod, Nat.reduceLT, Nat.reduceLeDiff, Nat.reduceEqDiff, Nat.reduceBEq, Nat.reduceBNe, Int.reduceToNat, Int.reduceLT, Int.reduceLE, Int.reduceEq, Int.reduceNe, Int.reduceAdd, Int.reduceSub, Int.reduceMul, Int.reduceNeg, bd12, hlm, Int.natCast_nonneg, Int.toNat_natCast, Option.getD_some, Option.getD_none, List.drop_zero, Nat.sub_zero, Nat.zero_le, true_and, and_true, Nat.le_refl, chk_of]
  rw [loop_step1]; simp (maxSteps := 2000000) only [go_sem, doCall, doCallQ, doCallP, Nat.reduceAdd, Nat.reduceMul, Nat.reduceSub, Nat.reduceDiv, Nat.reduceMod, Nat.reduceLT, Nat.reduceLeDiff, Nat.reduceEqDiff, Nat.reduceBEq, Nat.reduceBNe, Int.reduceToNat, Int.reduceLT, Int.reduceLE, Int.reduceEq, Int.reduceNe, Int.reduceAdd, Int.reduceSub, Int.reduceMul, Int.reduceNeg]
  refine (lp_at l hl o _ 0 (Nat.zero_le _)).trans ?_
  rw [List.drop_zero]
  cases atP o l
  · rw [if_neg (by simp)]
    simp (maxSteps := 2000000) (disch := omega) only [go_sem, doCall, doCallQ, doCallP, Nat.reduceAdd, Nat.reduceMul, Nat.reduceSub, Nat.reduceDiv, Nat.reduceMod, Nat.reduceLT, Nat.reduceLeDiff, Nat.reduceEqDiff, Nat.reduceBEq, Nat.reduceBNe, Int.reduceToNat, Int.reduceLT, Int.reduceLE, Int.reduceEq, Int.reduceNe, Int.reduceAdd, Int.reduceSub, Int.reduceMul, Int.reduceNeg]
  · rw [if_pos rfl]
    simp (maxSteps := 2000000) (disch := omega) only [go_sem, doCall, doCallQ, doCallP, Nat.reduceAdd, Nat.reduceMul, Nat.reduceSub, Nat.reduceDiv, Nat.reduceMod, Nat.reduceLT, Nat.reduceLeDiff, Nat.reduceEqDiff, Nat.reduceBEq, Nat.reduceBNe, Int.reduceToNat, Int.reduceLT, Int.reduceLE, Int.reduceEq, Int.reduceNe, Int.reduceAdd, Int.reduceSub, Int.reduceMul, Int.reduceNeg]
/-! ### plain facts -/
theorem few_h : ∀ {l : List Hd}, fwH l = true → ∀ d ∈ l, d.ps.length ≤ 20 ∧ fwP d.ps = true
  | h :: l, e, d, hd => by
    unfold fwH at e
    split at e
    · rename_i q
      rw [Bool.and_eq_true, Bool.and_eq_true, decide_eq_true_iff] at q
      rcases List.mem_cons.1 hd with rfl | hd
      · exact ⟨q.1.1, q.2⟩
      · exact few_h e d hd
    · simp at e
theorem few_p : ∀ {l : List Pc}, fwP l = true → ∀ p ∈ l, p.bd.length ≤ 100
  | h :: l, e, d, hd => by
    unfold fwP at e
    split at e
    · rename_i q
      rw [decide_eq_true_iff] at q
      rcases List.mem_cons.1 hd with rfl | hd
      · exact q
      · exact few_p e d hd
    · simp at e
theorem sml_of {l : List Hd} (h : fwH l = true) (h2 : l.length ≤ 20) : sml l :=
  ⟨by omega, fun d hd => ⟨by have := (few_h h d hd).1; omega, fun p hp => by have := few_p (few_h h d hd).2 p hp; omega⟩⟩
end Go.Proofs.Ytbcpffhialoliaa
namespace Go.Proofs.Ytbcpffhialoliaa
open Go Go.Ev Go.Proofs.Ytbcpffhialoliaa.Ir
set_option maxRecDepth 100000
set_option maxHeartbeats 4000000
set_option linter.unusedSimpArgs false
set_option linter.unusedVariables false
theorem c_awake48 : call ir 6 [] [] = some (.d (.bool true), []) := call_of (n := 200) (by kernel_rfl)
end Go.Proofs.Ytbcpffhialoliaa
namespace Go.Proofs.Ytbcpffhialoliaa
open Go Go.Ev Go.Proofs.Ytbcpffhialoliaa.Ir
set_option maxRecDepth 100000
set_option linter.unusedSimpArgs false
set_option linter.unusedVariables false
theorem bytes_of8 {xs : List (List D)} (h : ∀ q, q ∈ xs → Sh.ok (.i .u8 .nil) q) : ∃ d : List UInt8, xs = bB d := by
  obtain ⟨d, hd, _⟩ := rows_map (f := fun b : UInt8 => [D.int .u8 b.toNat]) (R := fun _ => True) (fun q h => by
    obtain ⟨n, _, rfl, h1, h2, h⟩ := ok_i h
    obtain rfl := ok_n h
    have e1 : IntKind.u8.min = 0 := rfl
    have e2 : IntKind.u8.max = 255 := rfl
    rw [e1] at h1; rw [e2] at h2
    refine ⟨UInt8.ofNat n.toNat, ?_, trivial⟩
    have : (UInt8.ofNat n.toNat).toNat = n.toNat := by simp; omega
    rw [this, Int.toNat_of_nonneg h1]) h
  exact ⟨d, hd⟩
theorem pcs_of {xs : List (List D)} (h : ∀ q, q ∈ xs → Sh.ok (.i .i64 (.i .i64 (.i .i64 (.sl (.i .u8 .nil) 1 .nil)))) q) : ∃ l : List Pc, xs = l.map pcRow ∧ okI l :=
  rows_map (f := pcRow) (R := fun p => -9223372036854775808 ≤ p.ix ∧ p.ix ≤ 9223372036854775807) (fun q h => by
    obtain ⟨ob, _, rfl, _, _, h⟩ := ok_i h
    obtain ⟨ge, _, rfl, _, _, h⟩ := ok_i h
    obtain ⟨ix, _, rfl, h1, h2, h⟩ := ok_i h
    obtain ⟨ds, _, rfl, hl, hd, h⟩ := ok_sl h
    obtain rfl := ok_n h
    obtain ⟨d, rfl⟩ := bytes_of8 hd
    have e1 : IntKind.i64.min = -9223372036854775808 := rfl
    have e2 : IntKind.i64.max = 9223372036854775807 := rfl
    rw [e1] at h1; rw [e2] at h2
    exact ⟨⟨ob, ge, ix, d⟩, rfl, h1, h2⟩) h
theorem helds_of {xs : List (List D)} (h : ∀ q, q ∈ xs → Sh.ok (.i .i64 (.i .i64 (.s (.i .i64 (.i .i64 (.sl (.i .i64 (.i .i64 (.i .i64 (.sl (.i .u8 .nil) 1 .nil)))) 48 .nil)))))) q) : ∃ l : List Hd, xs = l.map hdRow ∧ ∀ d ∈ l, okI d.ps :=
  rows_map (f := hdRow) (R := fun d => okI d.ps) (fun q h => by
    obtain ⟨ob, _, rfl, _, _, h⟩ := ok_i h
    obtain ⟨ge, _, rfl, _, _, h⟩ := ok_i h
    obtain ⟨tg, _, rfl, _, h⟩ := ok_s h
    obtain ⟨le, _, rfl, _, _, h⟩ := ok_i h
    obtain ⟨ti, _, rfl, _, _, h⟩ := ok_i h
    obtain ⟨ds, _, rfl, hl, hd, h⟩ := ok_sl h
    obtain rfl := ok_n h
    obtain ⟨d, rfl, hI⟩ := pcs_of hd
    exact ⟨⟨ob, ge, tg, le, ti, d⟩, rfl, hI⟩) h
end Go.Proofs.Ytbcpffhialoliaa
