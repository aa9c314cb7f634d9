/- The specs of a field, whole. Own work. What a field asks for: spec.Asked. Own work. -/
import Derived.Test.YtpibecljdooilaaDoorPrwG
namespace Go.Proofs.YtpibecljdooilaaDoor
open Go Go.Ev Go.Proofs.YtpibecljdooilaaDoor.Ir Go.Prs
set_option maxRecDepth 100000
set_option maxHeartbeats 4000000
set_option linter.unusedSimpArgs false
set_option linter.unusedVariables false
def bytesW : List UInt8 := [98, 121, 116, 101, 115]
/-- Whether a field begins as it must. -/
def unitOk (s : List UInt8) : Prop := (cut 61 (trim s)).2.2 = true ∧ (cut 61 (trim s)).1.map low = bytesW
instance (s : List UInt8) : Decidable (unitOk s) := by unfold unitOk; infer_instance
def elsOf (s : List UInt8) : Option (List (List UInt8)) := els true (pcs (cut 61 (trim s)).2.1) []
/-- The specs of a field. -/
def specL (s : List UInt8) : List Sp3 := match elsOf s with
  | none => []
  | some o => if unitOk s ∧ o ≠ [] ∧ any3 o = false ∧ anyE o = false ∧ o.length ≤ 16 then vals o else []
theorem specL_none {s : List UInt8} (h : elsOf s = none) : specL s = [] := by unfold specL; rw [h]
theorem specL_some {s : List UInt8} {o : List (List UInt8)} (h : elsOf s = some o) : specL s = if unitOk s ∧ o ≠ [] ∧ any3 o = false ∧ anyE o = false ∧ o.length ≤ 16 then vals o else [] := by unfold specL; rw [h]
theorem take_rS (l : List (List UInt8)) : (rS l).take l.length = rS l := List.take_of_length_le (by rw [rS_len]; exact Nat.le_refl _)
theorem take_r3 (l : List Sp3) : (r3 l).take l.length = r3 l := List.take_of_length_le (by rw [r3_len]; exact Nat.le_refl _)
theorem vals_len (o : List (List UInt8)) : (vals o).length = o.length := by rw [vals, List.length_map]
theorem low_bytes : bytesW.map low = bytesW := by decide
theorem t_rspecs (s : List UInt8) (hs : s.length ≤ 100000000) : ∃ e, call ir 28 [dS s] [] = some (.tup [.own 0 3 0 (specL s).length false, dI e], [.arr 3 (r3 (specL s))]) := by
  have h1 := t_rtrim s (by omega)
  have hl1 := trim_len s
  have h2 : call ir 57 [dS (trim s), .d (.int .u8 61)] [] = some (.tup [dS (cut 61 (trim s)).1, dS (cut 61 (trim s)).2.1, dT (cut 61 (trim s)).2.2], []) := t_rcut (trim s) (by omega) 61
  have hl2 := cut_len 61 (trim s)
  obtain ⟨b3, h3⟩ := t_pcs (cut 61 (trim s)).2.1 (by omega)
  have hp1 := pcs_len (cut 61 (trim s)).2.1
  have h4 := t_rlist (pcs (cut 61 (trim s)).2.1) (by omega) (fun p hp => by have := pcs_sum _ p hp; omega)
  have h5 := t_rlower (cut 61 (trim s)).1 (by omega)
  have hrl := rS_len (pcs (cut 61 (trim s)).2.1)
  have htk := take_rS (pcs (cut 61 (trim s)).2.1)
  have hun : unitOk s ↔ (cut 61 (trim s)).2.2 = true ∧ (cut 61 (trim s)).1.map low = bytesW := Iff.rfl
  have hsm := fun o h => els_small (s := (cut 61 (trim s)).2.1) (o := o) h
  have hel : elsOf s = els true (pcs (cut 61 (trim s)).2.1) [] := rfl
  generalize (cut 61 (trim s)).1 = a at *
  generalize (cut 61 (trim s)).2.1 = r at *
  rw [← hel] at h4 hsm
  cases he : elsOf s with
  | none =>
    rw [he] at h4
    rw [specL_none he]
    refine ⟨3, ?_⟩
    rw [call_eq (fn := ir28) rfl, evF_bnd]
    cases hm : (cut 61 (trim s)).2.2
    · rw [hm] at h2
      simp (maxSteps := 2000000) (disch := omega) only [go_sem, doCall, doCallQ, Nat.reduceAdd, Nat.reduceMul, Nat.reduceSub, Nat.reduceDiv, Nat.reduceMod, Nat.reduceLT, Nat.reduceLeDiff, Nat.reduceEqDiff, Nat.reduceBEq, Nat.reduceBNe, Int.reduceToNat, Int.reduceLT, Int.reduceLE, Int.reduceEq, Int.reduceNe, Int.reduceAdd, Int.reduceSub, Int.reduceMul, Int.reduceNeg, bd28, h1, h2, h3, h4, hrl, htk, Int.natCast_nonneg, Int.toNat_natCast, Option.getD_some, Option.getD_none, List.drop_zero, Nat.sub_zero, Nat.zero_le, true_and, and_true, Nat.le_refl, Nat.zero_add, List.length_nil, chk_of]
    · rw [hm] at h2
      by_cases hb : a.map low = bytesW
      · have hb' := eq_true hb
        unfold bytesW at hb'
        simp (maxSteps := 2000000) (disch := omega) only [go_sem, doCall, doCallQ, Nat.reduceAdd, Nat.reduceMul, Nat.reduceSub, Nat.reduceDiv, Nat.reduceMod, Nat.reduceLT, Nat.reduceLeDiff, Nat.reduceEqDiff, Nat.reduceBEq, Nat.reduceBNe, Int.reduceToNat, Int.reduceLT, Int.reduceLE, Int.reduceEq, Int.reduceNe, Int.reduceAdd, Int.reduceSub, Int.reduceMul, Int.reduceNeg, bd28, h1, h2, h3, h4, h5, hb', hrl, htk, Int.natCast_nonneg, Int.toNat_natCast, Option.getD_some, Option.getD_none, List.drop_zero, Nat.sub_zero, Nat.zero_le, true_and, and_true, Nat.le_refl, Nat.zero_add, List.length_nil, chk_of]
      · have hb' := eq_false hb
        unfold bytesW at hb'
        simp (maxSteps := 2000000) (disch := omega) only [go_sem, doCall, doCallQ, Nat.reduceAdd, Nat.reduceMul, Nat.reduceSub, Nat.reduceDiv, Nat.reduceMod, Nat.reduceLT, Nat.reduceLeDiff, Nat.reduceEqDiff, Nat.reduceBEq, Nat.reduceBNe, Int.reduceToNat, Int.reduceLT, Int.reduceLE, Int.reduceEq, Int.reduceNe, Int.reduceAdd, Int.reduceSub, Int.reduceMul, Int.reduceNeg, bd28, h1, h2, h3, h4, h5, hb', hrl, htk, Int.natCast_nonneg, Int.toNat_natCast, Option.getD_some, Option.getD_none, List.drop_zero, Nat.sub_zero, Nat.zero_le, true_and, and_true, Nat.le_refl, Nat.zero_add, List.length_nil, chk_of]
  | some o =>
    rw [he] at h4
    have hso := hsm o he
    rw [specL_some he]
    have hro := rS_len o
    have hto := take_rS o
    have hpos : ∀ h : o ≠ [], 0 < o.length := fun h => List.length_pos_iff.2 h
    by_cases hu : unitOk s
    · obtain ⟨hu1, hu2⟩ := hun.1 hu
      rw [hu1] at h2
      have hb' := eq_true hu2
      unfold bytesW at hb'
      by_cases hn : o = []
      · subst hn
        rw [if_neg (fun h => h.2.1 rfl)]
        refine ⟨3, ?_⟩
        rw [call_eq (fn := ir28) rfl, evF_bnd]
        simp (maxSteps := 2000000) (disch := omega) only [go_sem, doCall, doCallQ, Nat.reduceAdd, Nat.reduceMul, Nat.reduceSub, Nat.reduceDiv, Nat.reduceMod, Nat.reduceLT, Nat.reduceLeDiff, Nat.reduceEqDiff, Nat.reduceBEq, Nat.reduceBNe, Int.reduceToNat, Int.reduceLT, Int.reduceLE, Int.reduceEq, Int.reduceNe, Int.reduceAdd, Int.reduceSub, Int.reduceMul, Int.reduceNeg, bd28, h1, h2, h3, h4, h5, hb', hrl, htk, Int.natCast_nonneg, Int.toNat_natCast, Option.getD_some, Option.getD_none, List.drop_zero, Nat.sub_zero, Nat.zero_le, true_and, and_true, Nat.le_refl, Nat.zero_add, List.length_nil, List.map_nil, List.take_nil, chk_of]
      · have hlz := eq_false (show ¬ (o.length : Int) = 0 by have := hpos hn; omega)
        have hloop := fun k => lp_rspecs o (by omega) (fun p hp => by have := hso.2 p hp; omega) k 0 (by omega) false
        simp only [List.take_zero, List.drop_zero, Bool.false_or] at hloop
        have hv0 : vals ([] : List (List UInt8)) = [] := rfl
        simp only [hv0, List.length_nil, List.map_nil] at hloop
        cases h3o : any3 o
        · rw [h3o] at hloop
          simp only [Bool.false_eq_true, if_false] at hloop
          have hvl := vals_len o
          cases hEo : anyE o
          · rw [hEo] at hloop
            by_cases h16 : o.length ≤ 16
            · have h16' := eq_false (show ¬ (16 : Int) < (o.length : Int) by omega)
              rw [if_pos ⟨hu, hn, rfl, rfl, h16⟩]
              refine ⟨0, ?_⟩
              rw [call_eq (fn := ir28) rfl, evF_bnd]
              simp (maxSteps := 2000000) (disch := omega) only [go_sem, doCall, doCallQ, Nat.reduceAdd, Nat.reduceMul, Nat.reduceSub, Nat.reduceDiv, Nat.reduceMod, Nat.reduceLT, Nat.reduceLeDiff, Nat.reduceEqDiff, Nat.reduceBEq, Nat.reduceBNe, Int.reduceToNat, Int.reduceLT, Int.reduceLE, Int.reduceEq, Int.reduceNe, Int.reduceAdd, Int.reduceSub, Int.reduceMul, Int.reduceNeg, bd28, h1, h2, h3, h4, h5, hb', hrl, htk, hro, hto, hlz, Int.natCast_nonneg, Int.toNat_natCast, Option.getD_some, Option.getD_none, List.drop_zero, Nat.sub_zero, Nat.zero_le, true_and, and_true, Nat.le_refl, Nat.zero_add, List.length_nil, chk_of]
              rw [loop_step1]; simp (maxSteps := 2000000) only [go_sem, doCall, doCallQ, Nat.reduceAdd, Nat.reduceMul, Nat.reduceSub, Nat.reduceDiv, Nat.reduceMod, Nat.reduceLT, Nat.reduceLeDiff, Nat.reduceEqDiff, Nat.reduceBEq, Nat.reduceBNe, Int.reduceToNat, Int.reduceLT, Int.reduceLE, Int.reduceEq, Int.reduceNe, Int.reduceAdd, Int.reduceSub, Int.reduceMul, Int.reduceNeg]
              refine Eq.trans (hloop _) ?_
              rw [hvl]
              simp (maxSteps := 2000000) (disch := omega) only [go_sem, doCall, doCallQ, Nat.reduceAdd, Nat.reduceMul, Nat.reduceSub, Nat.reduceDiv, Nat.reduceMod, Nat.reduceLT, Nat.reduceLeDiff, Nat.reduceEqDiff, Nat.reduceBEq, Nat.reduceBNe, Int.reduceToNat, Int.reduceLT, Int.reduceLE, Int.reduceEq, Int.reduceNe, Int.reduceAdd, Int.reduceSub, Int.reduceMul, Int.reduceNeg, h16', chk_of]
            · have h16' := eq_true (show (16 : Int) < (o.length : Int) by omega)
              rw [if_neg (fun h => h16 h.2.2.2.2)]
              refine ⟨10, ?_⟩
              rw [call_eq (fn := ir28) rfl, evF_bnd]
              simp (maxSteps := 2000000) (disch := omega) only [go_sem, doCall, doCallQ, Nat.reduceAdd, Nat.reduceMul, Nat.reduceSub, Nat.reduceDiv, Nat.reduceMod, Nat.reduceLT, Nat.reduceLeDiff, Nat.reduceEqDiff, Nat.reduceBEq, Nat.reduceBNe, Int.reduceToNat, Int.reduceLT, Int.reduceLE, Int.reduceEq, Int.reduceNe, Int.reduceAdd, Int.reduceSub, Int.reduceMul, Int.reduceNeg, bd28, h1, h2, h3, h4, h5, hb', hrl, htk, hro, hto, hlz, Int.natCast_nonneg, Int.toNat_natCast, Option.getD_some, Option.getD_none, List.drop_zero, Nat.sub_zero, Nat.zero_le, true_and, and_true, Nat.le_refl, Nat.zero_add, List.length_nil, chk_of]
              rw [loop_step1]; simp (maxSteps := 2000000) only [go_sem, doCall, doCallQ, Nat.reduceAdd, Nat.reduceMul, Nat.reduceSub, Nat.reduceDiv, Nat.reduceMod, Nat.reduceLT, Nat.reduceLeDiff, Nat.reduceEqDiff, Nat.reduceBEq, Nat.reduceBNe, Int.reduceToNat, Int.reduceLT, Int.reduceLE, Int.reduceEq, Int.reduceNe, Int.reduceAdd, Int.reduceSub, Int.reduceMul, Int.reduceNeg]
              refine Eq.trans (hloop _) ?_
              rw [hvl]
              simp (maxSteps := 2000000) (disch := omega) only [go_sem, doCall, doCallQ, Nat.reduceAdd, Nat.reduceMul, Nat.reduceSub, Nat.reduceDiv, Nat.reduceMod, Nat.reduceLT, Nat.reduceLeDiff, Nat.reduceEqDiff, Nat.reduceBEq, Nat.reduceBNe, Int.reduceToNat, Int.reduceLT, Int.reduceLE, Int.reduceEq, Int.reduceNe, Int.reduceAdd, Int.reduceSub, Int.reduceMul, Int.reduceNeg, h16', chk_of, List.length_nil, List.map_nil]
          · rw [hEo] at hloop
            rw [if_neg (fun h => by simp at h)]
            refine ⟨9, ?_⟩
            rw [call_eq (fn := ir28) rfl, evF_bnd]
            simp (maxSteps := 2000000) (disch := omega) only [go_sem, doCall, doCallQ, Nat.reduceAdd, Nat.reduceMul, Nat.reduceSub, Nat.reduceDiv, Nat.reduceMod, Nat.reduceLT, Nat.reduceLeDiff, Nat.reduceEqDiff, Nat.reduceBEq, Nat.reduceBNe, Int.reduceToNat, Int.reduceLT, Int.reduceLE, Int.reduceEq, Int.reduceNe, Int.reduceAdd, Int.reduceSub, Int.reduceMul, Int.reduceNeg, bd28, h1, h2, h3, h4, h5, hb', hrl, htk, hro, hto, hlz, Int.natCast_nonneg, Int.toNat_natCast, Option.getD_some, Option.getD_none, List.drop_zero, Nat.sub_zero, Nat.zero_le, true_and, and_true, Nat.le_refl, Nat.zero_add, List.length_nil, chk_of]
            rw [loop_step1]; simp (maxSteps := 2000000) only [go_sem, doCall, doCallQ, Nat.reduceAdd, Nat.reduceMul, Nat.reduceSub, Nat.reduceDiv, Nat.reduceMod, Nat.reduceLT, Nat.reduceLeDiff, Nat.reduceEqDiff, Nat.reduceBEq, Nat.reduceBNe, Int.reduceToNat, Int.reduceLT, Int.reduceLE, Int.reduceEq, Int.reduceNe, Int.reduceAdd, Int.reduceSub, Int.reduceMul, Int.reduceNeg]
            refine Eq.trans (hloop _) ?_
            simp (maxSteps := 2000000) (disch := omega) only [go_sem, doCall, doCallQ, Nat.reduceAdd, Nat.reduceMul, Nat.reduceSub, Nat.reduceDiv, Nat.reduceMod, Nat.reduceLT, Nat.reduceLeDiff, Nat.reduceEqDiff, Nat.reduceBEq, Nat.reduceBNe, Int.reduceToNat, Int.reduceLT, Int.reduceLE, Int.reduceEq, Int.reduceNe, Int.reduceAdd, Int.reduceSub, Int.reduceMul, Int.reduceNeg, chk_of, List.length_nil, List.map_nil]
        · rw [h3o] at hloop
          simp only [if_true] at hloop
          rw [if_neg (fun h => by simp at h)]
          refine ⟨3, ?_⟩
          rw [call_eq (fn := ir28) rfl, evF_bnd]
          simp (maxSteps := 2000000) (disch := omega) only [go_sem, doCall, doCallQ, Nat.reduceAdd, Nat.reduceMul, Nat.reduceSub, Nat.reduceDiv, Nat.reduceMod, Nat.reduceLT, Nat.reduceLeDiff, Nat.reduceEqDiff, Nat.reduceBEq, Nat.reduceBNe, Int.reduceToNat, Int.reduceLT, Int.reduceLE, Int.reduceEq, Int.reduceNe, Int.reduceAdd, Int.reduceSub, Int.reduceMul, Int.reduceNeg, bd28, h1, h2, h3, h4, h5, hb', hrl, htk, hro, hto, hlz, Int.natCast_nonneg, Int.toNat_natCast, Option.getD_some, Option.getD_none, List.drop_zero, Nat.sub_zero, Nat.zero_le, true_and, and_true, Nat.le_refl, Nat.zero_add, List.length_nil, chk_of]
          rw [loop_step1]; simp (maxSteps := 2000000) only [go_sem, doCall, doCallQ, Nat.reduceAdd, Nat.reduceMul, Nat.reduceSub, Nat.reduceDiv, Nat.reduceMod, Nat.reduceLT, Nat.reduceLeDiff, Nat.reduceEqDiff, Nat.reduceBEq, Nat.reduceBNe, Int.reduceToNat, Int.reduceLT, Int.reduceLE, Int.reduceEq, Int.reduceNe, Int.reduceAdd, Int.reduceSub, Int.reduceMul, Int.reduceNeg]
          refine Eq.trans (hloop _) ?_
          simp (maxSteps := 2000000) (disch := omega) only [go_sem, doCall, doCallQ, Nat.reduceAdd, Nat.reduceMul, Nat.reduceSub, Nat.reduceDiv, Nat.reduceMod, Nat.reduceLT, Nat.reduceLeDiff, Nat.reduceEqDiff, Nat.reduceBEq, Nat.reduceBNe, Int.reduceToNat, Int.reduceLT, Int.reduceLE, Int.reduceEq, Int.reduceNe, Int.reduceAdd, Int.reduceSub, Int.reduceMul, Int.reduceNeg, chk_of, List.length_nil, List.map_nil]
    · rw [if_neg (fun h => hu h.1)]
      refine ⟨3, ?_⟩
      rw [call_eq (fn := ir28) rfl, evF_bnd]
      cases hm : (cut 61 (trim s)).2.2
      · rw [hm] at h2
        simp (maxSteps := 2000000) (disch := omega) only [go_sem, doCall, doCallQ, Nat.reduceAdd, Nat.reduceMul, Nat.reduceSub, Nat.reduceDiv, Nat.reduceMod, Nat.reduceLT, Nat.reduceLeDiff, Nat.reduceEqDiff, Nat.reduceBEq, Nat.reduceBNe, Int.reduceToNat, Int.reduceLT, Int.reduceLE, Int.reduceEq, Int.reduceNe, Int.reduceAdd, Int.reduceSub, Int.reduceMul, Int.reduceNeg, bd28, h1, h2, h3, h4, hrl, htk, hro, hto, Int.natCast_nonneg, Int.toNat_natCast, Option.getD_some, Option.getD_none, List.drop_zero, Nat.sub_zero, Nat.zero_le, true_and, and_true, Nat.le_refl, Nat.zero_add, List.length_nil, List.map_nil, chk_of]
      · rw [hm] at h2
        have hb' := eq_false (fun h => hu (hun.2 ⟨hm, h⟩))
        unfold bytesW at hb'
        simp (maxSteps := 2000000) (disch := omega) only [go_sem, doCall, doCallQ, Nat.reduceAdd, Nat.reduceMul, Nat.reduceSub, Nat.reduceDiv, Nat.reduceMod, Nat.reduceLT, Nat.reduceLeDiff, Nat.reduceEqDiff, Nat.reduceBEq, Nat.reduceBNe, Int.reduceToNat, Int.reduceLT, Int.reduceLE, Int.reduceEq, Int.reduceNe, Int.reduceAdd, Int.reduceSub, Int.reduceMul, Int.reduceNeg, bd28, h1, h2, h3, h4, h5, hb', hrl, htk, hro, hto, Int.natCast_nonneg, Int.toNat_natCast, Option.getD_some, Option.getD_none, List.drop_zero, Nat.sub_zero, Nat.zero_le, true_and, and_true, Nat.le_refl, Nat.zero_add, List.length_nil, List.map_nil, chk_of]
end Go.Proofs.YtpibecljdooilaaDoor
namespace Go.Proofs.YtpibecljdooilaaDoor
open Go Go.Ev Go.Proofs.YtpibecljdooilaaDoor.Ir Go.Prs
set_option maxRecDepth 100000
set_option maxHeartbeats 4000000
set_option linter.unusedSimpArgs false
set_option linter.unusedVariables false
theorem t_sparse (s : List UInt8) (hs : s.length ≤ 100000000) : ∃ e, call ir 75 [dS s] [] = some (.tup [.own 0 3 0 (specL s).length false, dI e], [.arr 3 (r3 (specL s))]) := by
  have h1 := t_trim s (by omega)
  have hl1 := trim_len s
  have h2 : call ir 106 [dS (trim s), .d (.int .u8 61)] [] = some (.tup [dS (cut 61 (trim s)).1, dS (cut 61 (trim s)).2.1, dT (cut 61 (trim s)).2.2], []) := t_cut (trim s) (by omega) 61
  have hl2 := cut_len 61 (trim s)
  have h4 := t_list (cut 61 (trim s)).2.1 (by omega)
  have h5 : call ir 107 [dS (cut 61 (trim s)).1, dS [98, 121, 116, 101, 115]] [] = some (dT (decide ((cut 61 (trim s)).1.map low = bytesW)), []) := t_fold (cut 61 (trim s)).1 bytesW (by omega) (by decide)
  have hun : unitOk s ↔ (cut 61 (trim s)).2.2 = true ∧ (cut 61 (trim s)).1.map low = bytesW := Iff.rfl
  have hsm := fun o h => els_small (s := (cut 61 (trim s)).2.1) (o := o) h
  have hel : elsOf s = els true (pcs (cut 61 (trim s)).2.1) [] := rfl
  generalize (cut 61 (trim s)).1 = a at *
  generalize (cut 61 (trim s)).2.1 = r at *
  rw [← hel] at h4 hsm
  cases he : elsOf s with
  | none =>
    rw [he] at h4
    rw [specL_none he]
    refine ⟨3, ?_⟩
    rw [call_eq (fn := ir75) rfl, evF_bnd]
    cases hm : (cut 61 (trim s)).2.2
    · rw [hm] at h2
      simp (maxSteps := 2000000) (disch := omega) only [go_sem, doCall, doCallQ, Nat.reduceAdd, Nat.reduceMul, Nat.reduceSub, Nat.reduceDiv, Nat.reduceMod, Nat.reduceLT, Nat.reduceLeDiff, Nat.reduceEqDiff, Nat.reduceBEq, Nat.reduceBNe, Int.reduceToNat, Int.reduceLT, Int.reduceLE, Int.reduceEq, Int.reduceNe, Int.reduceAdd, Int.reduceSub, Int.reduceMul, Int.reduceNeg, bd75, h1, h2, h4, Int.natCast_nonneg, Int.toNat_natCast, Option.getD_some, Option.getD_none, List.drop_zero, Nat.sub_zero, Nat.zero_le, true_and, and_true, Nat.le_refl, Nat.zero_add, List.length_nil, chk_of]
    · rw [hm] at h2
      by_cases hb : a.map low = bytesW
      · rw [decide_eq_true hb] at h5
        simp (maxSteps := 2000000) (disch := omega) only [go_sem, doCall, doCallQ, Nat.reduceAdd, Nat.reduceMul, Nat.reduceSub, Nat.reduceDiv, Nat.reduceMod, Nat.reduceLT, Nat.reduceLeDiff, Nat.reduceEqDiff, Nat.reduceBEq, Nat.reduceBNe, Int.reduceToNat, Int.reduceLT, Int.reduceLE, Int.reduceEq, Int.reduceNe, Int.reduceAdd, Int.reduceSub, Int.reduceMul, Int.reduceNeg, bd75, h1, h2, h4, h5, Int.natCast_nonneg, Int.toNat_natCast, Option.getD_some, Option.getD_none, List.drop_zero, Nat.sub_zero, Nat.zero_le, true_and, and_true, Nat.le_refl, Nat.zero_add, List.length_nil, chk_of]
      · rw [decide_eq_false hb] at h5
        simp (maxSteps := 2000000) (disch := omega) only [go_sem, doCall, doCallQ, Nat.reduceAdd, Nat.reduceMul, Nat.reduceSub, Nat.reduceDiv, Nat.reduceMod, Nat.reduceLT, Nat.reduceLeDiff, Nat.reduceEqDiff, Nat.reduceBEq, Nat.reduceBNe, Int.reduceToNat, Int.reduceLT, Int.reduceLE, Int.reduceEq, Int.reduceNe, Int.reduceAdd, Int.reduceSub, Int.reduceMul, Int.reduceNeg, bd75, h1, h2, h4, h5, Int.natCast_nonneg, Int.toNat_natCast, Option.getD_some, Option.getD_none, List.drop_zero, Nat.sub_zero, Nat.zero_le, true_and, and_true, Nat.le_refl, Nat.zero_add, List.length_nil, chk_of]
  | some o =>
    rw [he] at h4
    have hso := hsm o he
    rw [specL_some he]
    have hro := rS_len o
    have hto := take_rS o
    have hpos : ∀ h : o ≠ [], 0 < o.length := fun h => List.length_pos_iff.2 h
    by_cases hu : unitOk s
    · obtain ⟨hu1, hu2⟩ := hun.1 hu
      rw [hu1] at h2
      rw [decide_eq_true hu2] at h5
      by_cases hn : o = []
      · subst hn
        rw [if_neg (fun h => h.2.1 rfl)]
        refine ⟨3, ?_⟩
        rw [call_eq (fn := ir75) rfl, evF_bnd]
        simp (maxSteps := 2000000) (disch := omega) only [go_sem, doCall, doCallQ, Nat.reduceAdd, Nat.reduceMul, Nat.reduceSub, Nat.reduceDiv, Nat.reduceMod, Nat.reduceLT, Nat.reduceLeDiff, Nat.reduceEqDiff, Nat.reduceBEq, Nat.reduceBNe, Int.reduceToNat, Int.reduceLT, Int.reduceLE, Int.reduceEq, Int.reduceNe, Int.reduceAdd, Int.reduceSub, Int.reduceMul, Int.reduceNeg, bd75, h1, h2, h4, h5, Int.natCast_nonneg, Int.toNat_natCast, Option.getD_some, Option.getD_none, List.drop_zero, Nat.sub_zero, Nat.zero_le, true_and, and_true, Nat.le_refl, Nat.zero_add, List.length_nil, List.map_nil, List.take_nil, chk_of]
      · have hlz := eq_false (show ¬ (o.length : Int) = 0 by have := hpos hn; omega)
        have hloop := fun k => lp_specs o (by omega) (fun p hp => by have := hso.2 p hp; omega) k 0 (by omega) 0
        simp only [List.take_zero, List.drop_zero] at hloop
        have hv0 : vals ([] : List (List UInt8)) = [] := rfl
        simp only [hv0, List.length_nil, List.map_nil] at hloop
        have hvl := vals_len o
        rw [bad0] at hloop
        cases h3o : any3 o
        · rw [h3o] at hloop
          simp only [Bool.false_eq_true, if_false] at hloop
          cases hEo : anyE o
          · rw [hEo] at hloop
            simp only [Bool.false_eq_true, if_false] at hloop
            by_cases h16 : o.length ≤ 16
            · have h16' := eq_false (show ¬ (16 : Int) < (o.length : Int) by omega)
              rw [if_pos ⟨hu, hn, rfl, rfl, h16⟩]
              refine ⟨0, ?_⟩
              rw [call_eq (fn := ir75) rfl, evF_bnd]
              simp (maxSteps := 2000000) (disch := omega) only [go_sem, doCall, doCallQ, Nat.reduceAdd, Nat.reduceMul, Nat.reduceSub, Nat.reduceDiv, Nat.reduceMod, Nat.reduceLT, Nat.reduceLeDiff, Nat.reduceEqDiff, Nat.reduceBEq, Nat.reduceBNe, Int.reduceToNat, Int.reduceLT, Int.reduceLE, Int.reduceEq, Int.reduceNe, Int.reduceAdd, Int.reduceSub, Int.reduceMul, Int.reduceNeg, bd75, h1, h2, h4, h5, hro, hto, hlz, Int.natCast_nonneg, Int.toNat_natCast, Option.getD_some, Option.getD_none, List.drop_zero, Nat.sub_zero, Nat.zero_le, true_and, and_true, Nat.le_refl, Nat.zero_add, List.length_nil, chk_of]
              rw [loop_step1]; simp (maxSteps := 2000000) only [go_sem, doCall, doCallQ, Nat.reduceAdd, Nat.reduceMul, Nat.reduceSub, Nat.reduceDiv, Nat.reduceMod, Nat.reduceLT, Nat.reduceLeDiff, Nat.reduceEqDiff, Nat.reduceBEq, Nat.reduceBNe, Int.reduceToNat, Int.reduceLT, Int.reduceLE, Int.reduceEq, Int.reduceNe, Int.reduceAdd, Int.reduceSub, Int.reduceMul, Int.reduceNeg]
              refine Eq.trans (hloop _) ?_
              rw [hvl]
              simp (maxSteps := 2000000) (disch := omega) only [go_sem, doCall, doCallQ, Nat.reduceAdd, Nat.reduceMul, Nat.reduceSub, Nat.reduceDiv, Nat.reduceMod, Nat.reduceLT, Nat.reduceLeDiff, Nat.reduceEqDiff, Nat.reduceBEq, Nat.reduceBNe, Int.reduceToNat, Int.reduceLT, Int.reduceLE, Int.reduceEq, Int.reduceNe, Int.reduceAdd, Int.reduceSub, Int.reduceMul, Int.reduceNeg, h16', hro, chk_of]
            · have h16' := eq_true (show (16 : Int) < (o.length : Int) by omega)
              rw [if_neg (fun h => h16 h.2.2.2.2)]
              refine ⟨10, ?_⟩
              rw [call_eq (fn := ir75) rfl, evF_bnd]
              simp (maxSteps := 2000000) (disch := omega) only [go_sem, doCall, doCallQ, Nat.reduceAdd, Nat.reduceMul, Nat.reduceSub, Nat.reduceDiv, Nat.reduceMod, Nat.reduceLT, Nat.reduceLeDiff, Nat.reduceEqDiff, Nat.reduceBEq, Nat.reduceBNe, Int.reduceToNat, Int.reduceLT, Int.reduceLE, Int.reduceEq, Int.reduceNe, Int.reduceAdd, Int.reduceSub, Int.reduceMul, Int.reduceNeg, bd75, h1, h2, h4, h5, hro, hto, hlz, Int.natCast_nonneg, Int.toNat_natCast, Option.getD_some, Option.getD_none, List.drop_zero, Nat.sub_zero, Nat.zero_le, true_and, and_true, Nat.le_refl, Nat.zero_add, List.length_nil, chk_of]
              rw [loop_step1]; simp (maxSteps := 2000000) only [go_sem, doCall, doCallQ, Nat.reduceAdd, Nat.reduceMul, Nat.reduceSub, Nat.reduceDiv, Nat.reduceMod, Nat.reduceLT, Nat.reduceLeDiff, Nat.reduceEqDiff, Nat.reduceBEq, Nat.reduceBNe, Int.reduceToNat, Int.reduceLT, Int.reduceLE, Int.reduceEq, Int.reduceNe, Int.reduceAdd, Int.reduceSub, Int.reduceMul, Int.reduceNeg]
              refine Eq.trans (hloop _) ?_
              rw [hvl]
              simp (maxSteps := 2000000) (disch := omega) only [go_sem, doCall, doCallQ, Nat.reduceAdd, Nat.reduceMul, Nat.reduceSub, Nat.reduceDiv, Nat.reduceMod, Nat.reduceLT, Nat.reduceLeDiff, Nat.reduceEqDiff, Nat.reduceBEq, Nat.reduceBNe, Int.reduceToNat, Int.reduceLT, Int.reduceLE, Int.reduceEq, Int.reduceNe, Int.reduceAdd, Int.reduceSub, Int.reduceMul, Int.reduceNeg, h16', hro, chk_of, List.length_nil, List.map_nil]
          · rw [hEo] at hloop
            simp only [if_true] at hloop
            rw [if_neg (fun h => by simp at h)]
            refine ⟨9, ?_⟩
            rw [call_eq (fn := ir75) rfl, evF_bnd]
            simp (maxSteps := 2000000) (disch := omega) only [go_sem, doCall, doCallQ, Nat.reduceAdd, Nat.reduceMul, Nat.reduceSub, Nat.reduceDiv, Nat.reduceMod, Nat.reduceLT, Nat.reduceLeDiff, Nat.reduceEqDiff, Nat.reduceBEq, Nat.reduceBNe, Int.reduceToNat, Int.reduceLT, Int.reduceLE, Int.reduceEq, Int.reduceNe, Int.reduceAdd, Int.reduceSub, Int.reduceMul, Int.reduceNeg, bd75, h1, h2, h4, h5, hro, hto, hlz, Int.natCast_nonneg, Int.toNat_natCast, Option.getD_some, Option.getD_none, List.drop_zero, Nat.sub_zero, Nat.zero_le, true_and, and_true, Nat.le_refl, Nat.zero_add, List.length_nil, chk_of]
            rw [loop_step1]; simp (maxSteps := 2000000) only [go_sem, doCall, doCallQ, Nat.reduceAdd, Nat.reduceMul, Nat.reduceSub, Nat.reduceDiv, Nat.reduceMod, Nat.reduceLT, Nat.reduceLeDiff, Nat.reduceEqDiff, Nat.reduceBEq, Nat.reduceBNe, Int.reduceToNat, Int.reduceLT, Int.reduceLE, Int.reduceEq, Int.reduceNe, Int.reduceAdd, Int.reduceSub, Int.reduceMul, Int.reduceNeg]
            refine Eq.trans (hloop _) ?_
            simp (maxSteps := 2000000) (disch := omega) only [go_sem, doCall, doCallQ, Nat.reduceAdd, Nat.reduceMul, Nat.reduceSub, Nat.reduceDiv, Nat.reduceMod, Nat.reduceLT, Nat.reduceLeDiff, Nat.reduceEqDiff, Nat.reduceBEq, Nat.reduceBNe, Int.reduceToNat, Int.reduceLT, Int.reduceLE, Int.reduceEq, Int.reduceNe, Int.reduceAdd, Int.reduceSub, Int.reduceMul, Int.reduceNeg, chk_of, List.length_nil, List.map_nil]
        · rw [h3o] at hloop
          simp only [if_true] at hloop
          rw [if_neg (fun h => by simp at h)]
          refine ⟨3, ?_⟩
          rw [call_eq (fn := ir75) rfl, evF_bnd]
          simp (maxSteps := 2000000) (disch := omega) only [go_sem, doCall, doCallQ, Nat.reduceAdd, Nat.reduceMul, Nat.reduceSub, Nat.reduceDiv, Nat.reduceMod, Nat.reduceLT, Nat.reduceLeDiff, Nat.reduceEqDiff, Nat.reduceBEq, Nat.reduceBNe, Int.reduceToNat, Int.reduceLT, Int.reduceLE, Int.reduceEq, Int.reduceNe, Int.reduceAdd, Int.reduceSub, Int.reduceMul, Int.reduceNeg, bd75, h1, h2, h4, h5, hro, hto, hlz, Int.natCast_nonneg, Int.toNat_natCast, Option.getD_some, Option.getD_none, List.drop_zero, Nat.sub_zero, Nat.zero_le, true_and, and_true, Nat.le_refl, Nat.zero_add, List.length_nil, chk_of]
          rw [loop_step1]; simp (maxSteps := 2000000) only [go_sem, doCall, doCallQ, Nat.reduceAdd, Nat.reduceMul, Nat.reduceSub, Nat.reduceDiv, Nat.reduceMod, Nat.reduceLT, Nat.reduceLeDiff, Nat.reduceEqDiff, Nat.reduceBEq, Nat.reduceBNe, Int.reduceToNat, Int.reduceLT, Int.reduceLE, Int.reduceEq, Int.reduceNe, Int.reduceAdd, Int.reduceSub, Int.reduceMul, Int.reduceNeg]
          refine Eq.trans (hloop _) ?_
          simp (maxSteps := 2000000) (disch := omega) only [go_sem, doCall, doCallQ, Nat.reduceAdd, Nat.reduceMul, Nat.reduceSub, Nat.reduceDiv, Nat.reduceMod, Nat.reduceLT, Nat.reduceLeDiff, Nat.reduceEqDiff, Nat.reduceBEq, Nat.reduceBNe, Int.reduceToNat, Int.reduceLT, Int.reduceLE, Int.reduceEq, Int.reduceNe, Int.reduceAdd, Int.reduceSub, Int.reduceMul, Int.reduceNeg, chk_of, List.length_nil, List.map_nil]
    · rw [if_neg (fun h => hu h.1)]
      refine ⟨3, ?_⟩
      rw [call_eq (fn := ir75) rfl, evF_bnd]
      cases hm : (cut 61 (trim s)).2.2
      · rw [hm] at h2
        simp (maxSteps := 2000000) (disch := omega) only [go_sem, doCall, doCallQ, Nat.reduceAdd, Nat.reduceMul, Nat.reduceSub, Nat.reduceDiv, Nat.reduceMod, Nat.reduceLT, Nat.reduceLeDiff, Nat.reduceEqDiff, Nat.reduceBEq, Nat.reduceBNe, Int.reduceToNat, Int.reduceLT, Int.reduceLE, Int.reduceEq, Int.reduceNe, Int.reduceAdd, Int.reduceSub, Int.reduceMul, Int.reduceNeg, bd75, h1, h2, h4, hro, hto, Int.natCast_nonneg, Int.toNat_natCast, Option.getD_some, Option.getD_none, List.drop_zero, Nat.sub_zero, Nat.zero_le, true_and, and_true, Nat.le_refl, Nat.zero_add, List.length_nil, List.map_nil, chk_of]
      · rw [hm] at h2
        rw [decide_eq_false (fun h => hu (hun.2 ⟨hm, h⟩))] at h5
        simp (maxSteps := 2000000) (disch := omega) only [go_sem, doCall, doCallQ, Nat.reduceAdd, Nat.reduceMul, Nat.reduceSub, Nat.reduceDiv, Nat.reduceMod, Nat.reduceLT, Nat.reduceLeDiff, Nat.reduceEqDiff, Nat.reduceBEq, Nat.reduceBNe, Int.reduceToNat, Int.reduceLT, Int.reduceLE, Int.reduceEq, Int.reduceNe, Int.reduceAdd, Int.reduceSub, Int.reduceMul, Int.reduceNeg, bd75, h1, h2, h4, h5, hro, hto, Int.natCast_nonneg, Int.toNat_natCast, Option.getD_some, Option.getD_none, List.drop_zero, Nat.sub_zero, Nat.zero_le, true_and, and_true, Nat.le_refl, Nat.zero_add, List.length_nil, List.map_nil, chk_of]
theorem t_asked (s : List UInt8) (hs : s.length ≤ 100000000) : call ir 51 [dS s] [] = some (.d (.list 3 (r3 (specL s))), []) := by
  obtain ⟨e, h⟩ := t_sparse s hs
  rw [call_eq (fn := ir51) rfl, evF_bnd]
  have hrl := r3_len (specL s)
  have htk := take_r3 (specL s)
  simp (maxSteps := 2000000) (disch := omega) only [go_sem, doCall, doCallQ, Nat.reduceAdd, Nat.reduceMul, Nat.reduceSub, Nat.reduceDiv, Nat.reduceMod, Nat.reduceLT, Nat.reduceLeDiff, Nat.reduceEqDiff, Nat.reduceBEq, Nat.reduceBNe, Int.reduceToNat, Int.reduceLT, Int.reduceLE, Int.reduceEq, Int.reduceNe, Int.reduceAdd, Int.reduceSub, Int.reduceMul, Int.reduceNeg, bd51, h, hrl, htk, Int.natCast_nonneg, Int.toNat_natCast, Option.getD_some, Option.getD_none, List.drop_zero, Nat.sub_zero, Nat.zero_le, true_and, and_true, Nat.le_refl, Nat.zero_add, chk_of]
end Go.Proofs.YtpibecljdooilaaDoor
