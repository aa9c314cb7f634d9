/- Validators: what the functions do. Own work. -/
import Derived.Test.YtplnioclkacgkaaGreatDoorPrwB
namespace Go.Proofs.YtplnioclkacgkaaGreatDoor
open Go Go.Ev Go.Proofs.YtplnioclkacgkaaGreatDoor.Ir Go.Prs
set_option maxRecDepth 100000
set_option maxHeartbeats 4000000
set_option linter.unusedSimpArgs false
set_option linter.unusedVariables false
def mayB (b : UInt8) : Bool := decide (128 ≤ b.toNat ∨ b.toNat = 33 ∨ (b.toNat ≠ 127 ∧ 35 ≤ b.toNat))
theorem t_may (b : UInt8) : call ir 73 [dB b] [] = some (dT (mayB b), []) := by
  rw [call_eq (fn := ir73) rfl, evF_bnd]
  unfold mayB
  by_cases h1 : 128 ≤ b.toNat
  · have h1' : (128 : Int) ≤ b.toNat := by omega
    rw [decide_eq_true (.inl h1)]
    simp (maxSteps := 2000000) (disch := omega) only [go_sem, doCall, doCallQ, doCallP, Nat.reduceAdd, Nat.reduceMul, Nat.reduceSub, Nat.reduceDiv, Nat.reduceMod, Nat.reduceLT, Nat.reduceLeDiff, Nat.reduceEqDiff, Nat.reduceBEq, Nat.reduceBNe, Int.reduceToNat, Int.reduceLT, Int.reduceLE, Int.reduceEq, Int.reduceNe, Int.reduceAdd, Int.reduceSub, Int.reduceMul, Int.reduceNeg, bd73, h1']
  · have h1' : ¬ (128 : Int) ≤ b.toNat := by omega
    by_cases h2 : b.toNat = 33
    · have h2' := eq_true (show (b.toNat : Int) = 33 by omega)
      rw [decide_eq_true (.inr (.inl h2))]
      simp (maxSteps := 2000000) (disch := omega) only [go_sem, doCall, doCallQ, doCallP, Nat.reduceAdd, Nat.reduceMul, Nat.reduceSub, Nat.reduceDiv, Nat.reduceMod, Nat.reduceLT, Nat.reduceLeDiff, Nat.reduceEqDiff, Nat.reduceBEq, Nat.reduceBNe, Int.reduceToNat, Int.reduceLT, Int.reduceLE, Int.reduceEq, Int.reduceNe, Int.reduceAdd, Int.reduceSub, Int.reduceMul, Int.reduceNeg, bd73, h1', h2']
    · have h2' := eq_false (show ¬ (b.toNat : Int) = 33 by omega)
      by_cases h3 : b.toNat = 127
      · have h3' := eq_true (show (b.toNat : Int) = 127 by omega)
        rw [decide_eq_false (by omega)]
        simp (maxSteps := 2000000) (disch := omega) only [go_sem, doCall, doCallQ, doCallP, Nat.reduceAdd, Nat.reduceMul, Nat.reduceSub, Nat.reduceDiv, Nat.reduceMod, Nat.reduceLT, Nat.reduceLeDiff, Nat.reduceEqDiff, Nat.reduceBEq, Nat.reduceBNe, Int.reduceToNat, Int.reduceLT, Int.reduceLE, Int.reduceEq, Int.reduceNe, Int.reduceAdd, Int.reduceSub, Int.reduceMul, Int.reduceNeg, bd73, h1', h2', h3']
      · have h3' := eq_false (show ¬ (b.toNat : Int) = 127 by omega)
        simp (maxSteps := 2000000) (disch := omega) only [go_sem, doCall, doCallQ, doCallP, Nat.reduceAdd, Nat.reduceMul, Nat.reduceSub, Nat.reduceDiv, Nat.reduceMod, Nat.reduceLT, Nat.reduceLeDiff, Nat.reduceEqDiff, Nat.reduceBEq, Nat.reduceBNe, Int.reduceToNat, Int.reduceLT, Int.reduceLE, Int.reduceEq, Int.reduceNe, Int.reduceAdd, Int.reduceSub, Int.reduceMul, Int.reduceNeg, bd73, h1', h2', h3']
        apply dec_eq; omega
def plainT (s : List UInt8) : Bool := s.all mayB
theorem plain_drop {s : List UInt8} {i : Nat} (hi : i < s.length) : plainT (s.drop i) = (mayB s[i] && plainT (s.drop (i + 1))) := by
  unfold plainT; rw [List.drop_eq_getElem_cons hi]; rfl
theorem lp_plain (s : List UInt8) (hs : s.length ≤ 1000000000) (k : Ex → St → Option (AV × Heap)) (i : Nat) (hi : i ≤ s.length) :
    (bnd (evC (call ir) (loop ir) lp58_0 (st58_0 0 (dS s) (dI s.length) (dI i) [])) (lpC (call ir) (loop ir) [0, 5, 6] lp58_0 k)) = (if plainT (s.drop i) then k (.exit 0) (clean [] (st58_0 0 .unk .unk .unk []))
      else k .ret (clean [2] ⟨0, [.unk, .unk, dT false, .unk, .unk, .unk, .unk, .unk, .unk, .unk, .unk, .unk, .unk, .unk, .unk], []⟩)) := by
  by_cases h : i = s.length
  · have hx : ¬ (i : Int) < s.length := by omega
    rw [h] at hx
    rw [h, List.drop_length]
    simp only [plainT, List.all_nil, if_true]
    simp (maxSteps := 2000000) (disch := omega) only [go_sem, doCall, doCallQ, doCallP, Nat.reduceAdd, Nat.reduceMul, Nat.reduceSub, Nat.reduceDiv, Nat.reduceMod, Nat.reduceLT, Nat.reduceLeDiff, Nat.reduceEqDiff, Nat.reduceBEq, Nat.reduceBNe, Int.reduceToNat, Int.reduceLT, Int.reduceLE, Int.reduceEq, Int.reduceNe, Int.reduceAdd, Int.reduceSub, Int.reduceMul, Int.reduceNeg, u58_0, lb58_0, hx]
  · have hlt : (i : Int) < s.length := by omega
    have hi' : i < s.length := by omega
    have hw := wr_succ (i := i) (by omega)
    have hg := g8 hi'
    have h1 := t_may s[i]
    rw [plain_drop hi']
    cases hd : mayB s[i]
    · rw [hd] at h1
      rw [if_neg (by simp)]
      simp (maxSteps := 2000000) (disch := omega) only [go_sem, doCall, doCallQ, doCallP, Nat.reduceAdd, Nat.reduceMul, Nat.reduceSub, Nat.reduceDiv, Nat.reduceMod, Nat.reduceLT, Nat.reduceLeDiff, Nat.reduceEqDiff, Nat.reduceBEq, Nat.reduceBNe, Int.reduceToNat, Int.reduceLT, Int.reduceLE, Int.reduceEq, Int.reduceNe, Int.reduceAdd, Int.reduceSub, Int.reduceMul, Int.reduceNeg, u58_0, lb58_0, hlt, hi', hw, hg, h1, Int.natCast_nonneg, Int.toNat_natCast, Option.getD_some, Option.getD_none, List.drop_zero, Nat.sub_zero, Nat.zero_le, true_and, and_true, Nat.le_refl, chk_of]
    · rw [hd] at h1
      rw [Bool.true_and]
      have ih := lp_plain s hs k (i + 1) (by omega)
      simp (maxSteps := 2000000) (disch := omega) only [go_sem, doCall, doCallQ, doCallP, Nat.reduceAdd, Nat.reduceMul, Nat.reduceSub, Nat.reduceDiv, Nat.reduceMod, Nat.reduceLT, Nat.reduceLeDiff, Nat.reduceEqDiff, Nat.reduceBEq, Nat.reduceBNe, Int.reduceToNat, Int.reduceLT, Int.reduceLE, Int.reduceEq, Int.reduceNe, Int.reduceAdd, Int.reduceSub, Int.reduceMul, Int.reduceNeg, u58_0, lb58_0, hlt, hi', hw, hg, h1, Int.natCast_nonneg, Int.toNat_natCast, Option.getD_some, Option.getD_none, List.drop_zero, Nat.sub_zero, Nat.zero_le, true_and, and_true, Nat.le_refl, chk_of]
      rw [loop_step1]; simp (maxSteps := 2000000) only [go_sem, doCall, doCallQ, doCallP, Nat.reduceAdd, Nat.reduceMul, Nat.reduceSub, Nat.reduceDiv, Nat.reduceMod, Nat.reduceLT, Nat.reduceLeDiff, Nat.reduceEqDiff, Nat.reduceBEq, Nat.reduceBNe, Int.reduceToNat, Int.reduceLT, Int.reduceLE, Int.reduceEq, Int.reduceNe, Int.reduceAdd, Int.reduceSub, Int.reduceMul, Int.reduceNeg]; exact ih
termination_by s.length - i
theorem t_plain (s : List UInt8) (hs : s.length ≤ 1000000000) : call ir 58 [dS s] [] = some (dT (plainT s), []) := by
  rw [call_eq (fn := ir58) rfl, evF_bnd]
  simp (maxSteps := 2000000) (disch := omega) only [go_sem, doCall, doCallQ, doCallP, Nat.reduceAdd, Nat.reduceMul, Nat.reduceSub, Nat.reduceDiv, Nat.reduceMod, Nat.reduceLT, Nat.reduceLeDiff, Nat.reduceEqDiff, Nat.reduceBEq, Nat.reduceBNe, Int.reduceToNat, Int.reduceLT, Int.reduceLE, Int.reduceEq, Int.reduceNe, Int.reduceAdd, Int.reduceSub, Int.reduceMul, Int.reduceNeg, bd58]
  rw [loop_step1]; simp (maxSteps := 2000000) only [go_sem, doCall, doCallQ, doCallP, Nat.reduceAdd, Nat.reduceMul, Nat.reduceSub, Nat.reduceDiv, Nat.reduceMod, Nat.reduceLT, Nat.reduceLeDiff, Nat.reduceEqDiff, Nat.reduceBEq, Nat.reduceBNe, Int.reduceToNat, Int.reduceLT, Int.reduceLE, Int.reduceEq, Int.reduceNe, Int.reduceAdd, Int.reduceSub, Int.reduceMul, Int.reduceNeg]
  refine Eq.trans (lp_plain s hs _ 0 (by omega)) ?_
  rw [List.drop_zero]
  cases plainT s
  · simp only [Bool.false_eq_true, if_false]; simp (maxSteps := 2000000) only [go_sem, doCall, doCallQ, doCallP, Nat.reduceAdd, Nat.reduceMul, Nat.reduceSub, Nat.reduceDiv, Nat.reduceMod, Nat.reduceLT, Nat.reduceLeDiff, Nat.reduceEqDiff, Nat.reduceBEq, Nat.reduceBNe, Int.reduceToNat, Int.reduceLT, Int.reduceLE, Int.reduceEq, Int.reduceNe, Int.reduceAdd, Int.reduceSub, Int.reduceMul, Int.reduceNeg]
  · simp only [if_true]; simp (maxSteps := 2000000) only [go_sem, doCall, doCallQ, doCallP, Nat.reduceAdd, Nat.reduceMul, Nat.reduceSub, Nat.reduceDiv, Nat.reduceMod, Nat.reduceLT, Nat.reduceLeDiff, Nat.reduceEqDiff, Nat.reduceBEq, Nat.reduceBNe, Int.reduceToNat, Int.reduceLT, Int.reduceLE, Int.reduceEq, Int.reduceNe, Int.reduceAdd, Int.reduceSub, Int.reduceMul, Int.reduceNeg]
theorem t_tagRight (w : Bool) (t : List UInt8) (ht : t.length ≤ 1000000000) : call ir 59 [.agg [dT w, dS t]] [] = some (dT (plainT t && decide (t.length ≤ 40)), []) := by
  rw [call_eq (fn := ir59) rfl, evF_bnd]
  have hp := t_plain t ht
  cases h : plainT t
  · rw [h] at hp
    rw [Bool.false_and]
    simp (maxSteps := 2000000) (disch := omega) only [go_sem, doCall, doCallQ, doCallP, Nat.reduceAdd, Nat.reduceMul, Nat.reduceSub, Nat.reduceDiv, Nat.reduceMod, Nat.reduceLT, Nat.reduceLeDiff, Nat.reduceEqDiff, Nat.reduceBEq, Nat.reduceBNe, Int.reduceToNat, Int.reduceLT, Int.reduceLE, Int.reduceEq, Int.reduceNe, Int.reduceAdd, Int.reduceSub, Int.reduceMul, Int.reduceNeg, bd59, hp]
  · rw [h] at hp
    rw [Bool.true_and]
    simp (maxSteps := 2000000) (disch := omega) only [go_sem, doCall, doCallQ, doCallP, Nat.reduceAdd, Nat.reduceMul, Nat.reduceSub, Nat.reduceDiv, Nat.reduceMod, Nat.reduceLT, Nat.reduceLeDiff, Nat.reduceEqDiff, Nat.reduceBEq, Nat.reduceBNe, Int.reduceToNat, Int.reduceLT, Int.reduceLE, Int.reduceEq, Int.reduceNe, Int.reduceAdd, Int.reduceSub, Int.reduceMul, Int.reduceNeg, bd59, hp]
    apply dec_eq; omega
theorem t_strong (v w : Bool) (a b : List UInt8) : call ir 28 [.agg [dT v, dS a], .agg [dT w, dS b]] [] = some (dT (!v && (!w && decide (a = b))), []) := by
  have h : call ir 60 [.agg [dT v, dS a], .agg [dT w, dS b]] [] = some (dT (decide (a = b)), []) := by
    rw [call_eq (fn := ir60) rfl, evF_bnd]
    simp (maxSteps := 2000000) (disch := omega) only [go_sem, doCall, doCallQ, doCallP, Nat.reduceAdd, Nat.reduceMul, Nat.reduceSub, Nat.reduceDiv, Nat.reduceMod, Nat.reduceLT, Nat.reduceLeDiff, Nat.reduceEqDiff, Nat.reduceBEq, Nat.reduceBNe, Int.reduceToNat, Int.reduceLT, Int.reduceLE, Int.reduceEq, Int.reduceNe, Int.reduceAdd, Int.reduceSub, Int.reduceMul, Int.reduceNeg, bd60]
  rw [call_eq (fn := ir28) rfl, evF_bnd]
  cases v <;> cases w
  · simp (maxSteps := 2000000) (disch := omega) only [go_sem, doCall, doCallQ, doCallP, Nat.reduceAdd, Nat.reduceMul, Nat.reduceSub, Nat.reduceDiv, Nat.reduceMod, Nat.reduceLT, Nat.reduceLeDiff, Nat.reduceEqDiff, Nat.reduceBEq, Nat.reduceBNe, Int.reduceToNat, Int.reduceLT, Int.reduceLE, Int.reduceEq, Int.reduceNe, Int.reduceAdd, Int.reduceSub, Int.reduceMul, Int.reduceNeg, bd28, h]
  · simp (maxSteps := 2000000) (disch := omega) only [go_sem, doCall, doCallQ, doCallP, Nat.reduceAdd, Nat.reduceMul, Nat.reduceSub, Nat.reduceDiv, Nat.reduceMod, Nat.reduceLT, Nat.reduceLeDiff, Nat.reduceEqDiff, Nat.reduceBEq, Nat.reduceBNe, Int.reduceToNat, Int.reduceLT, Int.reduceLE, Int.reduceEq, Int.reduceNe, Int.reduceAdd, Int.reduceSub, Int.reduceMul, Int.reduceNeg, bd28, h]
  · simp (maxSteps := 2000000) (disch := omega) only [go_sem, doCall, doCallQ, doCallP, Nat.reduceAdd, Nat.reduceMul, Nat.reduceSub, Nat.reduceDiv, Nat.reduceMod, Nat.reduceLT, Nat.reduceLeDiff, Nat.reduceEqDiff, Nat.reduceBEq, Nat.reduceBNe, Int.reduceToNat, Int.reduceLT, Int.reduceLE, Int.reduceEq, Int.reduceNe, Int.reduceAdd, Int.reduceSub, Int.reduceMul, Int.reduceNeg, bd28, h]
  · simp (maxSteps := 2000000) (disch := omega) only [go_sem, doCall, doCallQ, doCallP, Nat.reduceAdd, Nat.reduceMul, Nat.reduceSub, Nat.reduceDiv, Nat.reduceMod, Nat.reduceLT, Nat.reduceLeDiff, Nat.reduceEqDiff, Nat.reduceBEq, Nat.reduceBNe, Int.reduceToNat, Int.reduceLT, Int.reduceLE, Int.reduceEq, Int.reduceNe, Int.reduceAdd, Int.reduceSub, Int.reduceMul, Int.reduceNeg, bd28, h]
/-- Whether a text begins as weak validators do. -/
def hasW (s : List UInt8) : Prop := s.take 2 = [87, 47]
instance (s : List UInt8) : Decidable (hasW s) := by unfold hasW; infer_instance
theorem hasW_len {s : List UInt8} (h : hasW s) : 2 ≤ s.length := by
  have := congrArg List.length h
  simp at this; omega
theorem t_cutp (s : List UInt8) (hs : s.length ≤ 1000000000) : call ir 57 [dS s, dS [87, 47]] [] = some (.tup [dS (if hasW s then s.drop 2 else s), dT (decide (hasW s))], []) := by
  have hh : call ir 89 [dS s, dS [87, 47]] [] = some (dT (decide (hasW s)), []) := by
    rw [call_eq (fn := ir89) rfl, evF_bnd]
    by_cases h2 : 2 ≤ s.length
    · have h2' := eq_true (show (2 : Int) ≤ (s.length : Int) by omega)
      have h3 : (0 : Nat) ≤ 2 := by omega
      unfold hasW
      simp (maxSteps := 2000000) (disch := omega) only [go_sem, doCall, doCallQ, doCallP, Nat.reduceAdd, Nat.reduceMul, Nat.reduceSub, Nat.reduceDiv, Nat.reduceMod, Nat.reduceLT, Nat.reduceLeDiff, Nat.reduceEqDiff, Nat.reduceBEq, Nat.reduceBNe, Int.reduceToNat, Int.reduceLT, Int.reduceLE, Int.reduceEq, Int.reduceNe, Int.reduceAdd, Int.reduceSub, Int.reduceMul, Int.reduceNeg, bd89, h2, h2', List.length_cons, List.length_nil, Int.natCast_nonneg, Int.toNat_natCast, Option.getD_some, Option.getD_none, List.drop_zero, Nat.sub_zero, Nat.zero_le, true_and, and_true, Nat.le_refl, chk_of]
    · have h2' := eq_false (show ¬ (2 : Int) ≤ (s.length : Int) by omega)
      rw [decide_eq_false (fun h => h2 (hasW_len h))]
      simp (maxSteps := 2000000) (disch := omega) only [go_sem, doCall, doCallQ, doCallP, Nat.reduceAdd, Nat.reduceMul, Nat.reduceSub, Nat.reduceDiv, Nat.reduceMod, Nat.reduceLT, Nat.reduceLeDiff, Nat.reduceEqDiff, Nat.reduceBEq, Nat.reduceBNe, Int.reduceToNat, Int.reduceLT, Int.reduceLE, Int.reduceEq, Int.reduceNe, Int.reduceAdd, Int.reduceSub, Int.reduceMul, Int.reduceNeg, bd89, h2, h2', List.length_cons, List.length_nil, Int.natCast_nonneg, Int.toNat_natCast, Option.getD_some, Option.getD_none, List.drop_zero, Nat.sub_zero, Nat.zero_le, true_and, and_true, Nat.le_refl, chk_of]
  have hc : call ir 72 [dS s, dS [87, 47]] [] = some (.tup [dS (if hasW s then s.drop 2 else s), dT (decide (hasW s))], []) := by
    rw [call_eq (fn := ir72) rfl, evF_bnd]
    by_cases h : hasW s
    · have h2 := hasW_len h
      rw [decide_eq_true h] at hh
      rw [decide_eq_true h, if_pos h]
      have ht : (s.drop 2).take (s.length - 2) = s.drop 2 := List.take_of_length_le (by rw [List.length_drop]; exact Nat.le_refl _)
      simp (maxSteps := 2000000) (disch := omega) only [go_sem, doCall, doCallQ, doCallP, Nat.reduceAdd, Nat.reduceMul, Nat.reduceSub, Nat.reduceDiv, Nat.reduceMod, Nat.reduceLT, Nat.reduceLeDiff, Nat.reduceEqDiff, Nat.reduceBEq, Nat.reduceBNe, Int.reduceToNat, Int.reduceLT, Int.reduceLE, Int.reduceEq, Int.reduceNe, Int.reduceAdd, Int.reduceSub, Int.reduceMul, Int.reduceNeg, bd72, hh, h2, ht, List.length_cons, List.length_nil, Int.natCast_nonneg, Int.toNat_natCast, Option.getD_some, Option.getD_none, List.drop_zero, Nat.sub_zero, Nat.zero_le, true_and, and_true, Nat.le_refl, chk_of]
    · rw [decide_eq_false h] at hh
      rw [decide_eq_false h, if_neg h]
      simp (maxSteps := 2000000) (disch := omega) only [go_sem, doCall, doCallQ, doCallP, Nat.reduceAdd, Nat.reduceMul, Nat.reduceSub, Nat.reduceDiv, Nat.reduceMod, Nat.reduceLT, Nat.reduceLeDiff, Nat.reduceEqDiff, Nat.reduceBEq, Nat.reduceBNe, Int.reduceToNat, Int.reduceLT, Int.reduceLE, Int.reduceEq, Int.reduceNe, Int.reduceAdd, Int.reduceSub, Int.reduceMul, Int.reduceNeg, bd72, hh, chk_of]
  rw [call_eq (fn := ir57) rfl, evF_bnd]
  simp (maxSteps := 2000000) (disch := omega) only [go_sem, doCall, doCallQ, doCallP, Nat.reduceAdd, Nat.reduceMul, Nat.reduceSub, Nat.reduceDiv, Nat.reduceMod, Nat.reduceLT, Nat.reduceLeDiff, Nat.reduceEqDiff, Nat.reduceBEq, Nat.reduceBNe, Int.reduceToNat, Int.reduceLT, Int.reduceLE, Int.reduceEq, Int.reduceNe, Int.reduceAdd, Int.reduceSub, Int.reduceMul, Int.reduceNeg, bd57, hc]
def quoted (t : List UInt8) : Prop := 2 ≤ t.length ∧ t.getD 0 0 = 34 ∧ t.getD (t.length - 1) 0 = 34
instance (t : List UInt8) : Decidable (quoted t) := by unfold quoted; infer_instance
def inner (t : List UInt8) : List UInt8 := (t.drop 1).take (t.length - 2)
/-- A validator of a text, and the error's number. -/
def tagE (s : List UInt8) : (Bool × List UInt8) × Int :=
  if ¬ quoted (if hasW s then s.drop 2 else s) then ((false, []), 3)
  else if plainT (inner (if hasW s then s.drop 2 else s)) = false then ((false, []), 3)
  else if 40 < (inner (if hasW s then s.drop 2 else s)).length then ((false, []), 10)
  else ((decide (hasW s), inner (if hasW s then s.drop 2 else s)), 0)
theorem u8_34 (b : UInt8) : ((b.toNat : Int) = 34) = (b = 34) := propext (u8_eq b 34 (by omega))
theorem t_etag (s : List UInt8) (hs : s.length ≤ 1000000000) : call ir 27 [dS s] [] = some (.tup [.agg [dT (tagE s).1.1, dS (tagE s).1.2], dI (tagE s).2], []) := by
  rw [call_eq (fn := ir27) rfl, evF_bnd]
  have hc := t_cutp s hs
  unfold tagE
  have hl : (if hasW s then s.drop 2 else s).length ≤ 1000000000 := by
    split
    · rw [List.length_drop]; omega
    · exact hs
  generalize (if hasW s then s.drop 2 else s) = t at *
  generalize decide (hasW s) = w at *
  by_cases hq : quoted t
  · rw [if_neg (fun h => h hq)]
    obtain ⟨h2, h3, h4⟩ := hq
    have c2 := eq_false (show ¬ (t.length : Int) < 2 by omega)
    have c3 := eq_true (show ((t.getD 0 0).toNat : Int) = 34 by rw [h3]; rfl)
    have c4 := eq_true (show ((t.getD (t.length - 1) 0).toNat : Int) = 34 by rw [h4]; rfl)
    have hpos : 0 < t.length := by omega
    have hlast : t.length - 1 < t.length := by omega
    have hw1 : wr .i64 ((t.length : Int) - 1) = ((t.length - 1 : Nat) : Int) := by rw [wr_id (by omega)]; omega
    have hb1 : 1 ≤ t.length - 1 := by omega
    have hb2 : t.length - 1 ≤ t.length := by omega
    have hin : (t.drop 1).take (t.length - 1 - 1) = inner t := by unfold inner; congr 1
    have hil : (inner t).length ≤ 1000000000 := by unfold inner; rw [List.length_take]; omega
    have hp := t_plain (inner t) hil
    have hr := t_tagRight w (inner t) hil
    cases hpl : plainT (inner t)
    · rw [hpl] at hp
      rw [if_pos rfl]
      simp (maxSteps := 2000000) (disch := omega) only [go_sem, doCall, doCallQ, doCallP, Nat.reduceAdd, Nat.reduceMul, Nat.reduceSub, Nat.reduceDiv, Nat.reduceMod, Nat.reduceLT, Nat.reduceLeDiff, Nat.reduceEqDiff, Nat.reduceBEq, Nat.reduceBNe, Int.reduceToNat, Int.reduceLT, Int.reduceLE, Int.reduceEq, Int.reduceNe, Int.reduceAdd, Int.reduceSub, Int.reduceMul, Int.reduceNeg, bd27, hc, c2, c3, c4, hpos, hlast, hw1, hb1, hb2, hin, hp, Int.natCast_nonneg, Int.toNat_natCast, Option.getD_some, Option.getD_none, List.drop_zero, Nat.sub_zero, Nat.zero_le, true_and, and_true, Nat.le_refl, chk_of]
    · rw [hpl] at hp hr
      rw [if_neg (by simp)]
      by_cases h40 : 40 < (inner t).length
      · rw [decide_eq_false (by omega), Bool.and_false] at hr
        rw [if_pos h40]
        simp (maxSteps := 2000000) (disch := omega) only [go_sem, doCall, doCallQ, doCallP, Nat.reduceAdd, Nat.reduceMul, Nat.reduceSub, Nat.reduceDiv, Nat.reduceMod, Nat.reduceLT, Nat.reduceLeDiff, Nat.reduceEqDiff, Nat.reduceBEq, Nat.reduceBNe, Int.reduceToNat, Int.reduceLT, Int.reduceLE, Int.reduceEq, Int.reduceNe, Int.reduceAdd, Int.reduceSub, Int.reduceMul, Int.reduceNeg, bd27, hc, c2, c3, c4, hpos, hlast, hw1, hb1, hb2, hin, hp, hr, Int.natCast_nonneg, Int.toNat_natCast, Option.getD_some, Option.getD_none, List.drop_zero, Nat.sub_zero, Nat.zero_le, true_and, and_true, Nat.le_refl, chk_of]
      · rw [decide_eq_true (by omega), Bool.and_true] at hr
        rw [if_neg h40]
        simp (maxSteps := 2000000) (disch := omega) only [go_sem, doCall, doCallQ, doCallP, Nat.reduceAdd, Nat.reduceMul, Nat.reduceSub, Nat.reduceDiv, Nat.reduceMod, Nat.reduceLT, Nat.reduceLeDiff, Nat.reduceEqDiff, Nat.reduceBEq, Nat.reduceBNe, Int.reduceToNat, Int.reduceLT, Int.reduceLE, Int.reduceEq, Int.reduceNe, Int.reduceAdd, Int.reduceSub, Int.reduceMul, Int.reduceNeg, bd27, hc, c2, c3, c4, hpos, hlast, hw1, hb1, hb2, hin, hp, hr, Int.natCast_nonneg, Int.toNat_natCast, Option.getD_some, Option.getD_none, List.drop_zero, Nat.sub_zero, Nat.zero_le, true_and, and_true, Nat.le_refl, chk_of]
  · rw [if_pos hq]
    by_cases h2 : 2 ≤ t.length
    · have c2 := eq_false (show ¬ (t.length : Int) < 2 by omega)
      have hpos : 0 < t.length := by omega
      have hlast : t.length - 1 < t.length := by omega
      have hw1 : wr .i64 ((t.length : Int) - 1) = ((t.length - 1 : Nat) : Int) := by rw [wr_id (by omega)]; omega
      by_cases h3 : t.getD 0 0 = 34
      · have c3 := eq_true (show ((t.getD 0 0).toNat : Int) = 34 by rw [h3]; rfl)
        have c4 := eq_false (show ¬ ((t.getD (t.length - 1) 0).toNat : Int) = 34 by rw [u8_34]; exact fun h => hq ⟨h2, h3, h⟩)
        simp (maxSteps := 2000000) (disch := omega) only [go_sem, doCall, doCallQ, doCallP, Nat.reduceAdd, Nat.reduceMul, Nat.reduceSub, Nat.reduceDiv, Nat.reduceMod, Nat.reduceLT, Nat.reduceLeDiff, Nat.reduceEqDiff, Nat.reduceBEq, Nat.reduceBNe, Int.reduceToNat, Int.reduceLT, Int.reduceLE, Int.reduceEq, Int.reduceNe, Int.reduceAdd, Int.reduceSub, Int.reduceMul, Int.reduceNeg, bd27, hc, c2, c3, c4, hpos, hlast, hw1, Int.natCast_nonneg, Int.toNat_natCast, Option.getD_some, Option.getD_none, List.drop_zero, Nat.sub_zero, Nat.zero_le, true_and, and_true, Nat.le_refl, chk_of]
      · have c3 := eq_false (show ¬ ((t.getD 0 0).toNat : Int) = 34 by rw [u8_34]; exact h3)
        simp (maxSteps := 2000000) (disch := omega) only [go_sem, doCall, doCallQ, doCallP, Nat.reduceAdd, Nat.reduceMul, Nat.reduceSub, Nat.reduceDiv, Nat.reduceMod, Nat.reduceLT, Nat.reduceLeDiff, Nat.reduceEqDiff, Nat.reduceBEq, Nat.reduceBNe, Int.reduceToNat, Int.reduceLT, Int.reduceLE, Int.reduceEq, Int.reduceNe, Int.reduceAdd, Int.reduceSub, Int.reduceMul, Int.reduceNeg, bd27, hc, c2, c3, hpos, hlast, hw1, Int.natCast_nonneg, Int.toNat_natCast, Option.getD_some, Option.getD_none, List.drop_zero, Nat.sub_zero, Nat.zero_le, true_and, and_true, Nat.le_refl, chk_of]
    · have c2 := eq_true (show (t.length : Int) < 2 by omega)
      simp (maxSteps := 2000000) (disch := omega) only [go_sem, doCall, doCallQ, doCallP, Nat.reduceAdd, Nat.reduceMul, Nat.reduceSub, Nat.reduceDiv, Nat.reduceMod, Nat.reduceLT, Nat.reduceLeDiff, Nat.reduceEqDiff, Nat.reduceBEq, Nat.reduceBNe, Int.reduceToNat, Int.reduceLT, Int.reduceLE, Int.reduceEq, Int.reduceNe, Int.reduceAdd, Int.reduceSub, Int.reduceMul, Int.reduceNeg, bd27, hc, c2, Int.natCast_nonneg, Int.toNat_natCast, Option.getD_some, Option.getD_none, List.drop_zero, Nat.sub_zero, Nat.zero_le, true_and, and_true, Nat.le_refl, chk_of]
/-- Whether ranges count. -/
def useE (cond tag : List UInt8) : Bool := decide (trim cond = []) || (decide ((tagE (trim cond)).2 = 0) && (!(tagE (trim cond)).1.1 && decide ((tagE (trim cond)).1.2 = tag)))
theorem t_use (cond tag : List UInt8) (hc : cond.length ≤ 1000000000) : call ir 15 [dS cond, dS tag] [] = some (dT (useE cond tag), []) := by
  rw [call_eq (fn := ir15) rfl, evF_bnd]
  have ht := t_trim cond hc
  have hl := trim_len cond
  have he := t_etag (trim cond) (by omega)
  have hst := t_strong (tagE (trim cond)).1.1 false (tagE (trim cond)).1.2 tag
  unfold useE
  generalize tagE (trim cond) = z at *
  by_cases h1 : trim cond = []
  · have h1' := eq_true h1
    rw [decide_eq_true h1, Bool.true_or]
    simp (maxSteps := 2000000) (disch := omega) only [go_sem, doCall, doCallQ, doCallP, Nat.reduceAdd, Nat.reduceMul, Nat.reduceSub, Nat.reduceDiv, Nat.reduceMod, Nat.reduceLT, Nat.reduceLeDiff, Nat.reduceEqDiff, Nat.reduceBEq, Nat.reduceBNe, Int.reduceToNat, Int.reduceLT, Int.reduceLE, Int.reduceEq, Int.reduceNe, Int.reduceAdd, Int.reduceSub, Int.reduceMul, Int.reduceNeg, bd15, ht, h1', chk_of]
  · rw [decide_eq_false h1, Bool.false_or]
    by_cases h2 : z.2 = 0
    · have h2' := eq_true h2
      rw [decide_eq_true h2, Bool.true_and]
      simp (maxSteps := 2000000) (disch := omega) only [go_sem, doCall, doCallQ, doCallP, Nat.reduceAdd, Nat.reduceMul, Nat.reduceSub, Nat.reduceDiv, Nat.reduceMod, Nat.reduceLT, Nat.reduceLeDiff, Nat.reduceEqDiff, Nat.reduceBEq, Nat.reduceBNe, Int.reduceToNat, Int.reduceLT, Int.reduceLE, Int.reduceEq, Int.reduceNe, Int.reduceAdd, Int.reduceSub, Int.reduceMul, Int.reduceNeg, bd15, ht, h1, he, h2', hst, Bool.not_false, Bool.true_and, chk_of]
    · rw [decide_eq_false h2, Bool.false_and]
      simp (maxSteps := 2000000) (disch := omega) only [go_sem, doCall, doCallQ, doCallP, Nat.reduceAdd, Nat.reduceMul, Nat.reduceSub, Nat.reduceDiv, Nat.reduceMod, Nat.reduceLT, Nat.reduceLeDiff, Nat.reduceEqDiff, Nat.reduceBEq, Nat.reduceBNe, Int.reduceToNat, Int.reduceLT, Int.reduceLE, Int.reduceEq, Int.reduceNe, Int.reduceAdd, Int.reduceSub, Int.reduceMul, Int.reduceNeg, bd15, ht, h1, he, h2, chk_of]
end Go.Proofs.YtplnioclkacgkaaGreatDoor
