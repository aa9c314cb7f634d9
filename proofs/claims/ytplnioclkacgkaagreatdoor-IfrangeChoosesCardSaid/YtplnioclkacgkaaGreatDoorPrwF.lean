/- Texts: numbers: what the functions do. Own work. One spec of a text: what the functions do. Own work. -/
import Derived.Test.YtplnioclkacgkaaGreatDoorPrwB
namespace Go.Proofs.YtplnioclkacgkaaGreatDoor
open Go Go.Ev Go.Proofs.YtplnioclkacgkaaGreatDoor.Ir Go.Prs
set_option maxRecDepth 100000
set_option maxHeartbeats 4000000
set_option linter.unusedSimpArgs false
set_option linter.unusedVariables false
theorem isD_t {b : UInt8} (h : isD b = true) : (48 : Int) ≤ b.toNat ∧ (b.toNat : Int) ≤ 57 := by simp [isD] at h; omega
theorem isD_f {b : UInt8} (h : isD b = false) : ¬ (48 : Int) ≤ b.toNat ∨ ¬ (b.toNat : Int) ≤ 57 := by simp [isD] at h; omega
theorem t_rdigit (b : UInt8) : call ir 84 [dB b] [] = some (dT (isD b), []) := by
  rw [call_eq (fn := ir84) rfl, evF_bnd]
  cases hb : isD b
  · rcases isD_f hb with h | h
    · simp (maxSteps := 2000000) (disch := omega) only [go_sem, doCall, doCallQ, doCallP, Nat.reduceAdd, Nat.reduceMul, Nat.reduceSub, Nat.reduceDiv, Nat.reduceMod, Nat.reduceLT, Nat.reduceLeDiff, Nat.reduceEqDiff, Nat.reduceBEq, Nat.reduceBNe, Int.reduceToNat, Int.reduceLT, Int.reduceLE, Int.reduceEq, Int.reduceNe, Int.reduceAdd, Int.reduceSub, Int.reduceMul, Int.reduceNeg, bd84, h]
    · by_cases h2 : (48 : Int) ≤ b.toNat
      · simp (maxSteps := 2000000) (disch := omega) only [go_sem, doCall, doCallQ, doCallP, Nat.reduceAdd, Nat.reduceMul, Nat.reduceSub, Nat.reduceDiv, Nat.reduceMod, Nat.reduceLT, Nat.reduceLeDiff, Nat.reduceEqDiff, Nat.reduceBEq, Nat.reduceBNe, Int.reduceToNat, Int.reduceLT, Int.reduceLE, Int.reduceEq, Int.reduceNe, Int.reduceAdd, Int.reduceSub, Int.reduceMul, Int.reduceNeg, bd84, h, h2]
      · simp (maxSteps := 2000000) (disch := omega) only [go_sem, doCall, doCallQ, doCallP, Nat.reduceAdd, Nat.reduceMul, Nat.reduceSub, Nat.reduceDiv, Nat.reduceMod, Nat.reduceLT, Nat.reduceLeDiff, Nat.reduceEqDiff, Nat.reduceBEq, Nat.reduceBNe, Int.reduceToNat, Int.reduceLT, Int.reduceLE, Int.reduceEq, Int.reduceNe, Int.reduceAdd, Int.reduceSub, Int.reduceMul, Int.reduceNeg, bd84, h2]
  · obtain ⟨h1, h2⟩ := isD_t hb
    simp (maxSteps := 2000000) (disch := omega) only [go_sem, doCall, doCallQ, doCallP, Nat.reduceAdd, Nat.reduceMul, Nat.reduceSub, Nat.reduceDiv, Nat.reduceMod, Nat.reduceLT, Nat.reduceLeDiff, Nat.reduceEqDiff, Nat.reduceBEq, Nat.reduceBNe, Int.reduceToNat, Int.reduceLT, Int.reduceLE, Int.reduceEq, Int.reduceNe, Int.reduceAdd, Int.reduceSub, Int.reduceMul, Int.reduceNeg, bd84, h1, h2]
theorem t_digit_t {b : UInt8} (h : isD b = true) : call ir 96 [dB b] [] = some (.tup [dI ((b.toNat - 48 : Nat) : Int), dT true], []) := by
  rw [call_eq (fn := ir96) rfl, evF_bnd]
  obtain ⟨h1, h2⟩ := isD_t h
  have h3 : ¬ (b.toNat : Int) < 48 := by omega
  have h4 : ¬ (57 : Int) < b.toNat := by omega
  have hw : wr .i64 (wr .u8 ((b.toNat : Int) - 48)) = ((b.toNat - 48 : Nat) : Int) := by rw [wr_u8 (by omega), wr_id (by omega)]; omega
  simp (maxSteps := 2000000) (disch := omega) only [go_sem, doCall, doCallQ, doCallP, Nat.reduceAdd, Nat.reduceMul, Nat.reduceSub, Nat.reduceDiv, Nat.reduceMod, Nat.reduceLT, Nat.reduceLeDiff, Nat.reduceEqDiff, Nat.reduceBEq, Nat.reduceBNe, Int.reduceToNat, Int.reduceLT, Int.reduceLE, Int.reduceEq, Int.reduceNe, Int.reduceAdd, Int.reduceSub, Int.reduceMul, Int.reduceNeg, bd96, h3, h4, hw]
theorem t_digit_f {b : UInt8} (h : isD b = false) : call ir 96 [dB b] [] = some (.tup [dI 0, dT false], []) := by
  rw [call_eq (fn := ir96) rfl, evF_bnd]
  rcases isD_f h with h | h
  · have h3 : (b.toNat : Int) < 48 := by omega
    simp (maxSteps := 2000000) (disch := omega) only [go_sem, doCall, doCallQ, doCallP, Nat.reduceAdd, Nat.reduceMul, Nat.reduceSub, Nat.reduceDiv, Nat.reduceMod, Nat.reduceLT, Nat.reduceLeDiff, Nat.reduceEqDiff, Nat.reduceBEq, Nat.reduceBNe, Int.reduceToNat, Int.reduceLT, Int.reduceLE, Int.reduceEq, Int.reduceNe, Int.reduceAdd, Int.reduceSub, Int.reduceMul, Int.reduceNeg, bd96, h3]
  · by_cases h3 : (b.toNat : Int) < 48
    · simp (maxSteps := 2000000) (disch := omega) only [go_sem, doCall, doCallQ, doCallP, Nat.reduceAdd, Nat.reduceMul, Nat.reduceSub, Nat.reduceDiv, Nat.reduceMod, Nat.reduceLT, Nat.reduceLeDiff, Nat.reduceEqDiff, Nat.reduceBEq, Nat.reduceBNe, Int.reduceToNat, Int.reduceLT, Int.reduceLE, Int.reduceEq, Int.reduceNe, Int.reduceAdd, Int.reduceSub, Int.reduceMul, Int.reduceNeg, bd96, h3]
    · have h4 : (57 : Int) < b.toNat := by omega
      simp (maxSteps := 2000000) (disch := omega) only [go_sem, doCall, doCallQ, doCallP, Nat.reduceAdd, Nat.reduceMul, Nat.reduceSub, Nat.reduceDiv, Nat.reduceMod, Nat.reduceLT, Nat.reduceLeDiff, Nat.reduceEqDiff, Nat.reduceBEq, Nat.reduceBNe, Int.reduceToNat, Int.reduceLT, Int.reduceLE, Int.reduceEq, Int.reduceNe, Int.reduceAdd, Int.reduceSub, Int.reduceMul, Int.reduceNeg, bd96, h3, h4]
theorem all_drop {s : List UInt8} {i : Nat} (hi : i < s.length) : (s.drop i).all isD = (isD s[i] && (s.drop (i + 1)).all isD) := by
  rw [List.drop_eq_getElem_cons hi]; rfl
/-- The state while digits are read. -/
def nOf (s : List UInt8) : Int := if 4611686018427387903 < val s then 0 else val s
theorem lp_parse (s : List UInt8) (hs : s.length ≤ 1000000000) (k : Ex → St → Option (AV × Heap)) (i : Nat) (hi : i ≤ s.length) (n : Nat) (o : Bool)
    (hn : (o = true ∧ 4611686018427387903 < val (s.take i)) ∨ (o = false ∧ n = val (s.take i) ∧ n ≤ 4611686018427387903)) :
    ∃ n' : Nat, (4611686018427387903 < val s ∨ n' = val s) ∧ (bnd (evC (call ir) (loop ir) lp87_0 (st87_0 0 (dS s) (dI n) (dT o) (dI s.length) (dI i) [])) (lpC (call ir) (loop ir) [0, 4, 5, 10, 11] lp87_0 k)) = (if (s.drop i).all isD then k (.exit 0) (clean [0, 4, 5] (st87_0 0 (dS s) (dI n') (dT (decide (4611686018427387903 < val s))) .unk .unk []))
      else k .ret (clean [2, 3] ⟨0, [.unk, .unk, dI 0, dI 3, .unk, .unk, .unk, .unk, .unk, .unk, .unk, .unk, .unk, .unk, .unk, .unk, .unk, .unk, .unk, .unk, .unk, .unk, .unk, .unk, .unk, .unk, .unk, .unk, .unk, .unk, .unk, .unk, .unk, .unk, .unk, .unk, .unk, .unk, .unk, .unk, .unk, .unk], []⟩)) := by
  by_cases h : i = s.length
  · have hx : ¬ (i : Int) < s.length := by omega
    rw [h] at hx
    rw [h, List.take_length] at hn
    rw [h, List.drop_length]
    rcases hn with ⟨rfl, h1⟩ | ⟨rfl, h1, h2⟩
    · refine ⟨n, .inl h1, ?_⟩
      have hd : decide (4611686018427387903 < val s) = true := decide_eq_true h1
      simp only [List.all_nil, if_true, hd]
      simp (maxSteps := 2000000) (disch := omega) only [go_sem, doCall, doCallQ, doCallP, Nat.reduceAdd, Nat.reduceMul, Nat.reduceSub, Nat.reduceDiv, Nat.reduceMod, Nat.reduceLT, Nat.reduceLeDiff, Nat.reduceEqDiff, Nat.reduceBEq, Nat.reduceBNe, Int.reduceToNat, Int.reduceLT, Int.reduceLE, Int.reduceEq, Int.reduceNe, Int.reduceAdd, Int.reduceSub, Int.reduceMul, Int.reduceNeg, u87_0, lb87_0, hx]
    · refine ⟨n, .inr h1, ?_⟩
      have hd : decide (4611686018427387903 < val s) = false := decide_eq_false (by omega)
      simp only [List.all_nil, if_true, hd]
      simp (maxSteps := 2000000) (disch := omega) only [go_sem, doCall, doCallQ, doCallP, Nat.reduceAdd, Nat.reduceMul, Nat.reduceSub, Nat.reduceDiv, Nat.reduceMod, Nat.reduceLT, Nat.reduceLeDiff, Nat.reduceEqDiff, Nat.reduceBEq, Nat.reduceBNe, Int.reduceToNat, Int.reduceLT, Int.reduceLE, Int.reduceEq, Int.reduceNe, Int.reduceAdd, Int.reduceSub, Int.reduceMul, Int.reduceNeg, u87_0, lb87_0, hx]
  · have hlt : (i : Int) < s.length := by omega
    have hi' : i < s.length := by omega
    have hw := wr_succ (i := i) (by omega)
    have hg := g8 hi'
    have hv := val_take hi'
    rw [all_drop hi']
    cases hd : isD s[i]
    · have h1 := t_digit_f hd
      refine ⟨val s, .inr rfl, ?_⟩
      rw [if_neg (by simp)]
      simp (maxSteps := 2000000) (disch := omega) only [go_sem, doCall, doCallQ, doCallP, Nat.reduceAdd, Nat.reduceMul, Nat.reduceSub, Nat.reduceDiv, Nat.reduceMod, Nat.reduceLT, Nat.reduceLeDiff, Nat.reduceEqDiff, Nat.reduceBEq, Nat.reduceBNe, Int.reduceToNat, Int.reduceLT, Int.reduceLE, Int.reduceEq, Int.reduceNe, Int.reduceAdd, Int.reduceSub, Int.reduceMul, Int.reduceNeg, u87_0, lb87_0, hlt, hi', hw, hg, h1, Int.natCast_nonneg, Int.toNat_natCast, Option.getD_some, Option.getD_none, List.drop_zero, Nat.sub_zero, Nat.zero_le, true_and, and_true, Nat.le_refl, chk_of]
    · have h1 := t_digit_t hd
      obtain ⟨d1, d2⟩ := isD_t hd
      rw [Bool.true_and]
      rcases hn with ⟨rfl, h3⟩ | ⟨rfl, h3, h4⟩
      · obtain ⟨n', e1, e2⟩ := lp_parse s hs k (i + 1) (by omega) n true (.inl ⟨rfl, by omega⟩)
        refine ⟨n', e1, ?_⟩
        simp (maxSteps := 2000000) (disch := omega) only [go_sem, doCall, doCallQ, doCallP, Nat.reduceAdd, Nat.reduceMul, Nat.reduceSub, Nat.reduceDiv, Nat.reduceMod, Nat.reduceLT, Nat.reduceLeDiff, Nat.reduceEqDiff, Nat.reduceBEq, Nat.reduceBNe, Int.reduceToNat, Int.reduceLT, Int.reduceLE, Int.reduceEq, Int.reduceNe, Int.reduceAdd, Int.reduceSub, Int.reduceMul, Int.reduceNeg, u87_0, lb87_0, hlt, hi', hw, hg, h1, Int.natCast_nonneg, Int.toNat_natCast, Option.getD_some, Option.getD_none, List.drop_zero, Nat.sub_zero, Nat.zero_le, true_and, and_true, Nat.le_refl, chk_of]
        rw [loop_step1]; simp (maxSteps := 2000000) only [go_sem, doCall, doCallQ, doCallP, Nat.reduceAdd, Nat.reduceMul, Nat.reduceSub, Nat.reduceDiv, Nat.reduceMod, Nat.reduceLT, Nat.reduceLeDiff, Nat.reduceEqDiff, Nat.reduceBEq, Nat.reduceBNe, Int.reduceToNat, Int.reduceLT, Int.reduceLE, Int.reduceEq, Int.reduceNe, Int.reduceAdd, Int.reduceSub, Int.reduceMul, Int.reduceNeg]; exact e2
      · generalize hdd : s[i].toNat - 48 = d at *
        have hwa : wr .i64 (4611686018427387903 - (d : Int)) = 4611686018427387903 - (d : Int) := wr_id (by omega)
        have hq : wr .i64 ((4611686018427387903 - (d : Int)).tdiv 10) = (((4611686018427387903 - d) / 10 : Nat) : Int) := by
          rw [Int.tdiv_eq_ediv_of_nonneg (by omega), wr_id (by omega)]; omega
        by_cases hov : (4611686018427387903 - d) / 10 < n
        · have hov' : (((4611686018427387903 - d) / 10 : Nat) : Int) < (n : Int) := by omega
          obtain ⟨n', e1, e2⟩ := lp_parse s hs k (i + 1) (by omega) n true (.inl ⟨rfl, by omega⟩)
          refine ⟨n', e1, ?_⟩
          simp (maxSteps := 2000000) (disch := omega) only [go_sem, doCall, doCallQ, doCallP, Nat.reduceAdd, Nat.reduceMul, Nat.reduceSub, Nat.reduceDiv, Nat.reduceMod, Nat.reduceLT, Nat.reduceLeDiff, Nat.reduceEqDiff, Nat.reduceBEq, Nat.reduceBNe, Int.reduceToNat, Int.reduceLT, Int.reduceLE, Int.reduceEq, Int.reduceNe, Int.reduceAdd, Int.reduceSub, Int.reduceMul, Int.reduceNeg, u87_0, lb87_0, hlt, hi', hw, hg, h1, hwa, hq, hov', Int.natCast_nonneg, Int.toNat_natCast, Option.getD_some, Option.getD_none, List.drop_zero, Nat.sub_zero, Nat.zero_le, true_and, and_true, Nat.le_refl, chk_of]
          rw [loop_step1]; simp (maxSteps := 2000000) only [go_sem, doCall, doCallQ, doCallP, Nat.reduceAdd, Nat.reduceMul, Nat.reduceSub, Nat.reduceDiv, Nat.reduceMod, Nat.reduceLT, Nat.reduceLeDiff, Nat.reduceEqDiff, Nat.reduceBEq, Nat.reduceBNe, Int.reduceToNat, Int.reduceLT, Int.reduceLE, Int.reduceEq, Int.reduceNe, Int.reduceAdd, Int.reduceSub, Int.reduceMul, Int.reduceNeg]; exact e2
        · have hov' : ¬ (((4611686018427387903 - d) / 10 : Nat) : Int) < (n : Int) := by omega
          have hm : wr .i64 (10 * (n : Int)) = 10 * (n : Int) := wr_id (by omega)
          have hm2 : wr .i64 (10 * (n : Int) + (d : Int)) = ((10 * n + d : Nat) : Int) := by rw [wr_id (by omega)]; omega
          obtain ⟨n', e1, e2⟩ := lp_parse s hs k (i + 1) (by omega) (10 * n + d) false (.inr ⟨rfl, by omega, by omega⟩)
          refine ⟨n', e1, ?_⟩
          simp (maxSteps := 2000000) (disch := omega) only [go_sem, doCall, doCallQ, doCallP, Nat.reduceAdd, Nat.reduceMul, Nat.reduceSub, Nat.reduceDiv, Nat.reduceMod, Nat.reduceLT, Nat.reduceLeDiff, Nat.reduceEqDiff, Nat.reduceBEq, Nat.reduceBNe, Int.reduceToNat, Int.reduceLT, Int.reduceLE, Int.reduceEq, Int.reduceNe, Int.reduceAdd, Int.reduceSub, Int.reduceMul, Int.reduceNeg, u87_0, lb87_0, hlt, hi', hw, hg, h1, hwa, hq, hov', hm, hm2, Int.natCast_nonneg, Int.toNat_natCast, Option.getD_some, Option.getD_none, List.drop_zero, Nat.sub_zero, Nat.zero_le, true_and, and_true, Nat.le_refl, chk_of]
          rw [loop_step1]; simp (maxSteps := 2000000) only [go_sem, doCall, doCallQ, doCallP, Nat.reduceAdd, Nat.reduceMul, Nat.reduceSub, Nat.reduceDiv, Nat.reduceMod, Nat.reduceLT, Nat.reduceLeDiff, Nat.reduceEqDiff, Nat.reduceBEq, Nat.reduceBNe, Int.reduceToNat, Int.reduceLT, Int.reduceLE, Int.reduceEq, Int.reduceNe, Int.reduceAdd, Int.reduceSub, Int.reduceMul, Int.reduceNeg]; exact e2
termination_by s.length - i
theorem prs_eq (s : List UInt8) : prs s = if s = [] ∨ s.all isD = false then (0, 3) else if 4611686018427387903 < val s then (0, 9) else ((val s : Int), 0) := rfl
theorem t_parse (s : List UInt8) (hs : s.length ≤ 1000000000) : call ir 87 [dS s] [] = some (.tup [dI (prs s).1, dI (prs s).2], []) := by
  rw [call_eq (fn := ir87) rfl, evF_bnd]
  simp (maxSteps := 2000000) (disch := omega) only [go_sem, doCall, doCallQ, doCallP, Nat.reduceAdd, Nat.reduceMul, Nat.reduceSub, Nat.reduceDiv, Nat.reduceMod, Nat.reduceLT, Nat.reduceLeDiff, Nat.reduceEqDiff, Nat.reduceBEq, Nat.reduceBNe, Int.reduceToNat, Int.reduceLT, Int.reduceLE, Int.reduceEq, Int.reduceNe, Int.reduceAdd, Int.reduceSub, Int.reduceMul, Int.reduceNeg, bd87]
  rw [loop_step1]
  simp (maxSteps := 2000000) only [go_sem, doCall, doCallQ, doCallP, Nat.reduceAdd, Nat.reduceMul, Nat.reduceSub, Nat.reduceDiv, Nat.reduceMod, Nat.reduceLT, Nat.reduceLeDiff, Nat.reduceEqDiff, Nat.reduceBEq, Nat.reduceBNe, Int.reduceToNat, Int.reduceLT, Int.reduceLE, Int.reduceEq, Int.reduceNe, Int.reduceAdd, Int.reduceSub, Int.reduceMul, Int.reduceNeg]
  have h0 := fun k => lp_parse s hs k 0 (by omega) 0 false (.inr ⟨rfl, rfl, by omega⟩)
  rw [List.drop_zero] at h0
  refine (h0 _).elim fun n' h1 => Eq.trans h1.2 ?_
  have h1 := h1.1
  rw [prs_eq]
  cases ha : s.all isD
  · rw [if_neg (by simp), if_pos (.inr rfl)]
    simp (maxSteps := 2000000) only [go_sem, doCall, doCallQ, doCallP, Nat.reduceAdd, Nat.reduceMul, Nat.reduceSub, Nat.reduceDiv, Nat.reduceMod, Nat.reduceLT, Nat.reduceLeDiff, Nat.reduceEqDiff, Nat.reduceBEq, Nat.reduceBNe, Int.reduceToNat, Int.reduceLT, Int.reduceLE, Int.reduceEq, Int.reduceNe, Int.reduceAdd, Int.reduceSub, Int.reduceMul, Int.reduceNeg]
  · rw [if_pos rfl]
    by_cases hne : s = []
    · rw [if_pos (.inl hne)]
      subst hne
      simp (maxSteps := 2000000) only [go_sem, doCall, doCallQ, doCallP, Nat.reduceAdd, Nat.reduceMul, Nat.reduceSub, Nat.reduceDiv, Nat.reduceMod, Nat.reduceLT, Nat.reduceLeDiff, Nat.reduceEqDiff, Nat.reduceBEq, Nat.reduceBNe, Int.reduceToNat, Int.reduceLT, Int.reduceLE, Int.reduceEq, Int.reduceNe, Int.reduceAdd, Int.reduceSub, Int.reduceMul, Int.reduceNeg]
    · rw [if_neg (by simp [hne])]
      by_cases hov : 4611686018427387903 < val s
      · rw [if_pos hov]
        simp (maxSteps := 2000000) (disch := omega) only [go_sem, doCall, doCallQ, doCallP, Nat.reduceAdd, Nat.reduceMul, Nat.reduceSub, Nat.reduceDiv, Nat.reduceMod, Nat.reduceLT, Nat.reduceLeDiff, Nat.reduceEqDiff, Nat.reduceBEq, Nat.reduceBNe, Int.reduceToNat, Int.reduceLT, Int.reduceLE, Int.reduceEq, Int.reduceNe, Int.reduceAdd, Int.reduceSub, Int.reduceMul, Int.reduceNeg, hov, hne, decide_true]
      · rw [if_neg hov]
        have h1 : n' = val s := by omega
        subst h1
        simp (maxSteps := 2000000) (disch := omega) only [go_sem, doCall, doCallQ, doCallP, Nat.reduceAdd, Nat.reduceMul, Nat.reduceSub, Nat.reduceDiv, Nat.reduceMod, Nat.reduceLT, Nat.reduceLeDiff, Nat.reduceEqDiff, Nat.reduceBEq, Nat.reduceBNe, Int.reduceToNat, Int.reduceLT, Int.reduceLE, Int.reduceEq, Int.reduceNe, Int.reduceAdd, Int.reduceSub, Int.reduceMul, Int.reduceNeg, hov, hne, decide_false]
theorem lp_rparse0 (s : List UInt8) (hs : s.length ≤ 1000000000) (k : Ex → St → Option (AV × Heap)) (i : Nat) (hi : i ≤ s.length) :
    (bnd (evC (call ir) (loop ir) lp65_0 (st65_0 0 (dS s) (dI i) [])) (lpC (call ir) (loop ir) [0, 4] lp65_0 k)) = (if (s.drop i).all isD then k (.exit 0) (clean [0] (st65_0 0 (dS s) .unk []))
      else k .ret (clean [2, 3] ⟨0, [.unk, .unk, dI 0, dI 3, .unk, .unk, .unk, .unk, .unk, .unk, .unk, .unk, .unk, .unk, .unk, .unk, .unk, .unk, .unk, .unk, .unk, .unk, .unk, .unk, .unk, .unk, .unk, .unk, .unk, .unk, .unk, .unk, .unk, .unk, .unk, .unk, .unk, .unk, .unk, .unk, .unk, .unk, .unk, .unk, .unk, .unk, .unk, .unk, .unk, .unk, .unk, .unk, .unk, .unk, .unk, .unk, .unk, .unk, .unk, .unk, .unk, .unk, .unk, .unk, .unk, .unk], []⟩)) := by
  by_cases h : i = s.length
  · have hx : ¬ (i : Int) < s.length := by omega
    rw [h] at hx
    rw [h, List.drop_length]
    simp only [List.all_nil, if_true]
    simp (maxSteps := 2000000) (disch := omega) only [go_sem, doCall, doCallQ, doCallP, Nat.reduceAdd, Nat.reduceMul, Nat.reduceSub, Nat.reduceDiv, Nat.reduceMod, Nat.reduceLT, Nat.reduceLeDiff, Nat.reduceEqDiff, Nat.reduceBEq, Nat.reduceBNe, Int.reduceToNat, Int.reduceLT, Int.reduceLE, Int.reduceEq, Int.reduceNe, Int.reduceAdd, Int.reduceSub, Int.reduceMul, Int.reduceNeg, u65_0, lb65_0, hx]
  · have hlt : (i : Int) < s.length := by omega
    have hi' : i < s.length := by omega
    have hw := wr_succ (i := i) (by omega)
    have hg := g8 hi'
    have h1 := t_rdigit s[i]
    rw [all_drop hi']
    cases hd : isD s[i]
    · rw [hd] at h1
      rw [if_neg (by simp)]
      simp (maxSteps := 2000000) (disch := omega) only [go_sem, doCall, doCallQ, doCallP, Nat.reduceAdd, Nat.reduceMul, Nat.reduceSub, Nat.reduceDiv, Nat.reduceMod, Nat.reduceLT, Nat.reduceLeDiff, Nat.reduceEqDiff, Nat.reduceBEq, Nat.reduceBNe, Int.reduceToNat, Int.reduceLT, Int.reduceLE, Int.reduceEq, Int.reduceNe, Int.reduceAdd, Int.reduceSub, Int.reduceMul, Int.reduceNeg, u65_0, lb65_0, hlt, hi', hw, hg, h1, Int.natCast_nonneg, Int.toNat_natCast, Option.getD_some, Option.getD_none, List.drop_zero, Nat.sub_zero, Nat.zero_le, true_and, and_true, Nat.le_refl, chk_of]
    · rw [hd] at h1
      rw [Bool.true_and]
      have ih := lp_rparse0 s hs k (i + 1) (by omega)
      simp (maxSteps := 2000000) (disch := omega) only [go_sem, doCall, doCallQ, doCallP, Nat.reduceAdd, Nat.reduceMul, Nat.reduceSub, Nat.reduceDiv, Nat.reduceMod, Nat.reduceLT, Nat.reduceLeDiff, Nat.reduceEqDiff, Nat.reduceBEq, Nat.reduceBNe, Int.reduceToNat, Int.reduceLT, Int.reduceLE, Int.reduceEq, Int.reduceNe, Int.reduceAdd, Int.reduceSub, Int.reduceMul, Int.reduceNeg, u65_0, lb65_0, hlt, hi', hw, hg, h1, Int.natCast_nonneg, Int.toNat_natCast, Option.getD_some, Option.getD_none, List.drop_zero, Nat.sub_zero, Nat.zero_le, true_and, and_true, Nat.le_refl, chk_of]
      rw [loop_step1]; simp (maxSteps := 2000000) only [go_sem, doCall, doCallQ, doCallP, Nat.reduceAdd, Nat.reduceMul, Nat.reduceSub, Nat.reduceDiv, Nat.reduceMod, Nat.reduceLT, Nat.reduceLeDiff, Nat.reduceEqDiff, Nat.reduceBEq, Nat.reduceBNe, Int.reduceToNat, Int.reduceLT, Int.reduceLE, Int.reduceEq, Int.reduceNe, Int.reduceAdd, Int.reduceSub, Int.reduceMul, Int.reduceNeg]; exact ih
termination_by s.length - i
theorem lp_rparse1 (s : List UInt8) (hs : s.length ≤ 1000000000) (k : Ex → St → Option (AV × Heap)) (i : Nat) (hi : i < s.length) :
    (bnd (evC (call ir) (loop ir) lp65_1 (st65_1 0 (dS s) (dI i) [])) (lpC (call ir) (loop ir) [0, 5] lp65_1 k)) = k (.exit 2) (clean [0, 5] (st65_1 0 (dS s) (dI ((s.length - (strp (s.drop i)).length : Nat) : Int)) [])) := by
  have hw := wr_succ (i := i) (by omega)
  have hg := g8 hi
  have hwl : wr .i64 ((s.length : Int) - 1) = ((s.length - 1 : Nat) : Int) := by rw [wr_id (by omega)]; omega
  have hdl : (s.drop i).length = s.length - i := List.length_drop ..
  by_cases h : i + 1 < s.length
  · have hlt : (i : Int) < ((s.length - 1 : Nat) : Int) := by omega
    rw [strp_drop1 h]
    by_cases hc : s[i] = 48
    · have hc' := eq_true (show (s[i].toNat : Int) = 48 by rw [hc]; rfl)
      have ih := lp_rparse1 s hs k (i + 1) h
      rw [if_pos hc]
      simp (maxSteps := 2000000) (disch := omega) only [go_sem, doCall, doCallQ, doCallP, Nat.reduceAdd, Nat.reduceMul, Nat.reduceSub, Nat.reduceDiv, Nat.reduceMod, Nat.reduceLT, Nat.reduceLeDiff, Nat.reduceEqDiff, Nat.reduceBEq, Nat.reduceBNe, Int.reduceToNat, Int.reduceLT, Int.reduceLE, Int.reduceEq, Int.reduceNe, Int.reduceAdd, Int.reduceSub, Int.reduceMul, Int.reduceNeg, u65_1, lb65_1, hlt, hi, hw, hg, hwl, hc', Int.natCast_nonneg, Int.toNat_natCast, Option.getD_some, Option.getD_none, List.drop_zero, Nat.sub_zero, Nat.zero_le, true_and, and_true, Nat.le_refl, chk_of]
      rw [loop_step1]; simp (maxSteps := 2000000) only [go_sem, doCall, doCallQ, doCallP, Nat.reduceAdd, Nat.reduceMul, Nat.reduceSub, Nat.reduceDiv, Nat.reduceMod, Nat.reduceLT, Nat.reduceLeDiff, Nat.reduceEqDiff, Nat.reduceBEq, Nat.reduceBNe, Int.reduceToNat, Int.reduceLT, Int.reduceLE, Int.reduceEq, Int.reduceNe, Int.reduceAdd, Int.reduceSub, Int.reduceMul, Int.reduceNeg]; exact ih
    · have hc' := eq_false (show ¬ (s[i].toNat : Int) = 48 by rw [u8_48]; exact hc)
      have he : s.length - (s.drop i).length = i := by omega
      rw [if_neg hc, he]
      simp (maxSteps := 2000000) (disch := omega) only [go_sem, doCall, doCallQ, doCallP, Nat.reduceAdd, Nat.reduceMul, Nat.reduceSub, Nat.reduceDiv, Nat.reduceMod, Nat.reduceLT, Nat.reduceLeDiff, Nat.reduceEqDiff, Nat.reduceBEq, Nat.reduceBNe, Int.reduceToNat, Int.reduceLT, Int.reduceLE, Int.reduceEq, Int.reduceNe, Int.reduceAdd, Int.reduceSub, Int.reduceMul, Int.reduceNeg, u65_1, lb65_1, hlt, hi, hw, hg, hwl, hc', Int.natCast_nonneg, Int.toNat_natCast, Option.getD_some, Option.getD_none, List.drop_zero, Nat.sub_zero, Nat.zero_le, true_and, and_true, Nat.le_refl, chk_of]
  · have hlt : ¬ (i : Int) < ((s.length - 1 : Nat) : Int) := by omega
    have he : s.length - (s.drop i).length = i := by omega
    rw [strp_drop2 hi h, he]
    simp (maxSteps := 2000000) (disch := omega) only [go_sem, doCall, doCallQ, doCallP, Nat.reduceAdd, Nat.reduceMul, Nat.reduceSub, Nat.reduceDiv, Nat.reduceMod, Nat.reduceLT, Nat.reduceLeDiff, Nat.reduceEqDiff, Nat.reduceBEq, Nat.reduceBNe, Int.reduceToNat, Int.reduceLT, Int.reduceLE, Int.reduceEq, Int.reduceNe, Int.reduceAdd, Int.reduceSub, Int.reduceMul, Int.reduceNeg, u65_1, lb65_1, hlt, hi, hw, hg, hwl, Int.natCast_nonneg, Int.toNat_natCast, Option.getD_some, Option.getD_none, List.drop_zero, Nat.sub_zero, Nat.zero_le, true_and, and_true, Nat.le_refl, chk_of]
termination_by s.length - i
theorem lp_rparse2 (t : List UInt8) (ht : t.all isD = true) (hl : t.length ≤ 1000000000) (hv : val t ≤ 4611686018427387903) (k : Ex → St → Option (AV × Heap)) (i : Nat) (hi : i ≤ t.length) :
    (bnd (evC (call ir) (loop ir) lp65_2 (st65_2 0 (dS t) (dI ((val (t.take i) : Nat) : Int)) (dI i) [])) (lpC (call ir) (loop ir) [6, 7, 8] lp65_2 k)) = k (.exit 4) (clean [7] (st65_2 0 .unk (dI ((val t : Nat) : Int)) .unk [])) := by
  by_cases h : i = t.length
  · have hx : ¬ (i : Int) < t.length := by omega
    rw [h] at hx
    rw [h, List.take_length]
    simp (maxSteps := 2000000) (disch := omega) only [go_sem, doCall, doCallQ, doCallP, Nat.reduceAdd, Nat.reduceMul, Nat.reduceSub, Nat.reduceDiv, Nat.reduceMod, Nat.reduceLT, Nat.reduceLeDiff, Nat.reduceEqDiff, Nat.reduceBEq, Nat.reduceBNe, Int.reduceToNat, Int.reduceLT, Int.reduceLE, Int.reduceEq, Int.reduceNe, Int.reduceAdd, Int.reduceSub, Int.reduceMul, Int.reduceNeg, u65_2, lb65_2, hx]
  · have hlt : (i : Int) < t.length := by omega
    have hi' : i < t.length := by omega
    have hw := wr_succ (i := i) (by omega)
    have hg := g8 hi'
    have hd : isD t[i] = true := List.all_eq_true.1 ht _ (List.getElem_mem hi')
    obtain ⟨d1, d2⟩ := isD_t hd
    have hv1 := val_take hi'
    have hv2 := val_take_le t (i + 1) (by omega)
    have ih := lp_rparse2 t ht hl hv k (i + 1) (by omega)
    have h0 : wr .i64 (t[i].toNat : Int) = (t[i].toNat : Int) := wr_id (by omega)
    have h1 : wr .i64 (10 * ((val (t.take i) : Nat) : Int)) = 10 * ((val (t.take i) : Nat) : Int) := wr_id (by omega)
    have h2 : wr .i64 (10 * ((val (t.take i) : Nat) : Int) + (t[i].toNat : Int)) = 10 * ((val (t.take i) : Nat) : Int) + (t[i].toNat : Int) := wr_id (by omega)
    have h3 : wr .i64 (10 * ((val (t.take i) : Nat) : Int) + (t[i].toNat : Int) - 48) = ((val (t.take (i + 1)) : Nat) : Int) := by rw [wr_id (by omega)]; omega
    simp (maxSteps := 2000000) (disch := omega) only [go_sem, doCall, doCallQ, doCallP, Nat.reduceAdd, Nat.reduceMul, Nat.reduceSub, Nat.reduceDiv, Nat.reduceMod, Nat.reduceLT, Nat.reduceLeDiff, Nat.reduceEqDiff, Nat.reduceBEq, Nat.reduceBNe, Int.reduceToNat, Int.reduceLT, Int.reduceLE, Int.reduceEq, Int.reduceNe, Int.reduceAdd, Int.reduceSub, Int.reduceMul, Int.reduceNeg, u65_2, lb65_2, hlt, hi', hw, hg, h0, h1, h2, h3, Int.natCast_nonneg, Int.toNat_natCast, Option.getD_some, Option.getD_none, List.drop_zero, Nat.sub_zero, Nat.zero_le, true_and, and_true, Nat.le_refl, chk_of]
    rw [loop_step1]; simp (maxSteps := 2000000) only [go_sem, doCall, doCallQ, doCallP, Nat.reduceAdd, Nat.reduceMul, Nat.reduceSub, Nat.reduceDiv, Nat.reduceMod, Nat.reduceLT, Nat.reduceLeDiff, Nat.reduceEqDiff, Nat.reduceBEq, Nat.reduceBNe, Int.reduceToNat, Int.reduceLT, Int.reduceLE, Int.reduceEq, Int.reduceNe, Int.reduceAdd, Int.reduceSub, Int.reduceMul, Int.reduceNeg]; exact ih
termination_by t.length - i
theorem t_rparse (s : List UInt8) (hs : s.length ≤ 1000000000) : call ir 65 [dS s] [] = some (.tup [dI (prs s).1, dI (prs s).2], []) := by
  rw [call_eq (fn := ir65) rfl, evF_bnd, prs_eq]
  by_cases hne : s = []
  · subst hne
    rw [if_pos (.inl rfl)]
    simp (maxSteps := 2000000) only [go_sem, doCall, doCallQ, doCallP, Nat.reduceAdd, Nat.reduceMul, Nat.reduceSub, Nat.reduceDiv, Nat.reduceMod, Nat.reduceLT, Nat.reduceLeDiff, Nat.reduceEqDiff, Nat.reduceBEq, Nat.reduceBNe, Int.reduceToNat, Int.reduceLT, Int.reduceLE, Int.reduceEq, Int.reduceNe, Int.reduceAdd, Int.reduceSub, Int.reduceMul, Int.reduceNeg, bd65, List.length_nil]
  · have hpos : 0 < s.length := List.length_pos_iff.2 hne
    have hz : ¬ ((s.length : Nat) : Int) = 0 := by omega
    simp (maxSteps := 2000000) (disch := omega) only [go_sem, doCall, doCallQ, doCallP, Nat.reduceAdd, Nat.reduceMul, Nat.reduceSub, Nat.reduceDiv, Nat.reduceMod, Nat.reduceLT, Nat.reduceLeDiff, Nat.reduceEqDiff, Nat.reduceBEq, Nat.reduceBNe, Int.reduceToNat, Int.reduceLT, Int.reduceLE, Int.reduceEq, Int.reduceNe, Int.reduceAdd, Int.reduceSub, Int.reduceMul, Int.reduceNeg, bd65, hz]
    rw [loop_step1]
    simp (maxSteps := 2000000) only [go_sem, doCall, doCallQ, doCallP, Nat.reduceAdd, Nat.reduceMul, Nat.reduceSub, Nat.reduceDiv, Nat.reduceMod, Nat.reduceLT, Nat.reduceLeDiff, Nat.reduceEqDiff, Nat.reduceBEq, Nat.reduceBNe, Int.reduceToNat, Int.reduceLT, Int.reduceLE, Int.reduceEq, Int.reduceNe, Int.reduceAdd, Int.reduceSub, Int.reduceMul, Int.reduceNeg]
    refine Eq.trans (lp_rparse0 s hs _ 0 (by omega)) ?_
    rw [List.drop_zero]
    cases ha : s.all isD
    · rw [if_neg (by simp), if_pos (.inr rfl)]
      simp (maxSteps := 2000000) only [go_sem, doCall, doCallQ, doCallP, Nat.reduceAdd, Nat.reduceMul, Nat.reduceSub, Nat.reduceDiv, Nat.reduceMod, Nat.reduceLT, Nat.reduceLeDiff, Nat.reduceEqDiff, Nat.reduceBEq, Nat.reduceBNe, Int.reduceToNat, Int.reduceLT, Int.reduceLE, Int.reduceEq, Int.reduceNe, Int.reduceAdd, Int.reduceSub, Int.reduceMul, Int.reduceNeg]
    · rw [if_pos rfl, if_neg (by simp [hne])]
      simp (maxSteps := 2000000) only [go_sem, doCall, doCallQ, doCallP, Nat.reduceAdd, Nat.reduceMul, Nat.reduceSub, Nat.reduceDiv, Nat.reduceMod, Nat.reduceLT, Nat.reduceLeDiff, Nat.reduceEqDiff, Nat.reduceBEq, Nat.reduceBNe, Int.reduceToNat, Int.reduceLT, Int.reduceLE, Int.reduceEq, Int.reduceNe, Int.reduceAdd, Int.reduceSub, Int.reduceMul, Int.reduceNeg]
      rw [loop_step1]
      simp (maxSteps := 2000000) only [go_sem, doCall, doCallQ, doCallP, Nat.reduceAdd, Nat.reduceMul, Nat.reduceSub, Nat.reduceDiv, Nat.reduceMod, Nat.reduceLT, Nat.reduceLeDiff, Nat.reduceEqDiff, Nat.reduceBEq, Nat.reduceBNe, Int.reduceToNat, Int.reduceLT, Int.reduceLE, Int.reduceEq, Int.reduceNe, Int.reduceAdd, Int.reduceSub, Int.reduceMul, Int.reduceNeg]
      have h1 := fun k => lp_rparse1 s hs k 0 hpos
      rw [List.drop_zero] at h1
      refine Eq.trans (h1 _) ?_
      have hsl := strp_len s
      have hd := strp_drop s
      have hall := strp_all ha
      have hov := over_iff hall (strp_head s hne)
      rw [strp_val] at hov
      have hle : s.length - (strp s).length ≤ s.length := by omega
      have htk : (strp s).take (s.length - (s.length - (strp s).length)) = strp s := List.take_of_length_le (by omega)
      have htot := bytesLt_tot (strp s) mxs
      by_cases hv : 4611686018427387903 < val s
      · rw [if_pos hv]
        rcases hov.2 hv with h5 | ⟨h5, h6⟩
        · have h5' := eq_true (show (19 : Int) < (((strp s).length : Nat) : Int) by omega)
          simp (maxSteps := 2000000) (disch := omega) only [go_sem, doCall, doCallQ, doCallP, Nat.reduceAdd, Nat.reduceMul, Nat.reduceSub, Nat.reduceDiv, Nat.reduceMod, Nat.reduceLT, Nat.reduceLeDiff, Nat.reduceEqDiff, Nat.reduceBEq, Nat.reduceBNe, Int.reduceToNat, Int.reduceLT, Int.reduceLE, Int.reduceEq, Int.reduceNe, Int.reduceAdd, Int.reduceSub, Int.reduceMul, Int.reduceNeg, hd, hle, htk, h5', Int.natCast_nonneg, Int.toNat_natCast, Option.getD_some, Option.getD_none, List.drop_zero, Nat.sub_zero, Nat.zero_le, true_and, and_true, Nat.le_refl, chk_of]
        · have h5' := eq_false (show ¬ (19 : Int) < (((strp s).length : Nat) : Int) by omega)
          have h5'' := eq_true (show (((strp s).length : Nat) : Int) = 19 by omega)
          unfold mxs at htot h6
          rw [h6] at htot
          simp (maxSteps := 2000000) (disch := omega) only [go_sem, doCall, doCallQ, doCallP, Nat.reduceAdd, Nat.reduceMul, Nat.reduceSub, Nat.reduceDiv, Nat.reduceMod, Nat.reduceLT, Nat.reduceLeDiff, Nat.reduceEqDiff, Nat.reduceBEq, Nat.reduceBNe, Int.reduceToNat, Int.reduceLT, Int.reduceLE, Int.reduceEq, Int.reduceNe, Int.reduceAdd, Int.reduceSub, Int.reduceMul, Int.reduceNeg, hd, hle, htk, h5', h5'', htot, Int.natCast_nonneg, Int.toNat_natCast, Option.getD_some, Option.getD_none, List.drop_zero, Nat.sub_zero, Nat.zero_le, true_and, and_true, Nat.le_refl, chk_of]
      · rw [if_neg hv]
        have h5 : ¬ 19 < (strp s).length := fun h => hv (hov.1 (.inl h))
        have h5' := eq_false (show ¬ (19 : Int) < (((strp s).length : Nat) : Int) by omega)
        have h7 := fun k => lp_rparse2 (strp s) hall (by omega) (by rw [strp_val]; omega) k 0 (by omega)
        simp only [List.take_zero, strp_val] at h7
        by_cases h6 : (strp s).length = 19
        · have h5'' := eq_true (show (((strp s).length : Nat) : Int) = 19 by omega)
          have h8 : bytesLt mxs (strp s) = false := by
            cases h : bytesLt mxs (strp s)
            · rfl
            · exact absurd (hov.1 (.inr ⟨h6, h⟩)) hv
          unfold mxs at htot h8
          rw [h8] at htot
          simp (maxSteps := 2000000) (disch := omega) only [go_sem, doCall, doCallQ, doCallP, Nat.reduceAdd, Nat.reduceMul, Nat.reduceSub, Nat.reduceDiv, Nat.reduceMod, Nat.reduceLT, Nat.reduceLeDiff, Nat.reduceEqDiff, Nat.reduceBEq, Nat.reduceBNe, Int.reduceToNat, Int.reduceLT, Int.reduceLE, Int.reduceEq, Int.reduceNe, Int.reduceAdd, Int.reduceSub, Int.reduceMul, Int.reduceNeg, hd, hle, htk, h5', h5'', htot, Int.natCast_nonneg, Int.toNat_natCast, Option.getD_some, Option.getD_none, List.drop_zero, Nat.sub_zero, Nat.zero_le, true_and, and_true, Nat.le_refl, chk_of]
          rw [loop_step1]
          simp (maxSteps := 2000000) only [go_sem, doCall, doCallQ, doCallP, Nat.reduceAdd, Nat.reduceMul, Nat.reduceSub, Nat.reduceDiv, Nat.reduceMod, Nat.reduceLT, Nat.reduceLeDiff, Nat.reduceEqDiff, Nat.reduceBEq, Nat.reduceBNe, Int.reduceToNat, Int.reduceLT, Int.reduceLE, Int.reduceEq, Int.reduceNe, Int.reduceAdd, Int.reduceSub, Int.reduceMul, Int.reduceNeg]
          refine Eq.trans (h7 _) ?_
          simp (maxSteps := 2000000) only [go_sem, doCall, doCallQ, doCallP, Nat.reduceAdd, Nat.reduceMul, Nat.reduceSub, Nat.reduceDiv, Nat.reduceMod, Nat.reduceLT, Nat.reduceLeDiff, Nat.reduceEqDiff, Nat.reduceBEq, Nat.reduceBNe, Int.reduceToNat, Int.reduceLT, Int.reduceLE, Int.reduceEq, Int.reduceNe, Int.reduceAdd, Int.reduceSub, Int.reduceMul, Int.reduceNeg]
        · have h5'' := eq_false (show ¬ (((strp s).length : Nat) : Int) = 19 by omega)
          simp (maxSteps := 2000000) (disch := omega) only [go_sem, doCall, doCallQ, doCallP, Nat.reduceAdd, Nat.reduceMul, Nat.reduceSub, Nat.reduceDiv, Nat.reduceMod, Nat.reduceLT, Nat.reduceLeDiff, Nat.reduceEqDiff, Nat.reduceBEq, Nat.reduceBNe, Int.reduceToNat, Int.reduceLT, Int.reduceLE, Int.reduceEq, Int.reduceNe, Int.reduceAdd, Int.reduceSub, Int.reduceMul, Int.reduceNeg, hd, hle, htk, h5', h5'', Int.natCast_nonneg, Int.toNat_natCast, Option.getD_some, Option.getD_none, List.drop_zero, Nat.sub_zero, Nat.zero_le, true_and, and_true, Nat.le_refl, chk_of]
          rw [loop_step1]
          simp (maxSteps := 2000000) only [go_sem, doCall, doCallQ, doCallP, Nat.reduceAdd, Nat.reduceMul, Nat.reduceSub, Nat.reduceDiv, Nat.reduceMod, Nat.reduceLT, Nat.reduceLeDiff, Nat.reduceEqDiff, Nat.reduceBEq, Nat.reduceBNe, Int.reduceToNat, Int.reduceLT, Int.reduceLE, Int.reduceEq, Int.reduceNe, Int.reduceAdd, Int.reduceSub, Int.reduceMul, Int.reduceNeg]
          refine Eq.trans (h7 _) ?_
          simp (maxSteps := 2000000) only [go_sem, doCall, doCallQ, doCallP, Nat.reduceAdd, Nat.reduceMul, Nat.reduceSub, Nat.reduceDiv, Nat.reduceMod, Nat.reduceLT, Nat.reduceLeDiff, Nat.reduceEqDiff, Nat.reduceBEq, Nat.reduceBNe, Int.reduceToNat, Int.reduceLT, Int.reduceLE, Int.reduceEq, Int.reduceNe, Int.reduceAdd, Int.reduceSub, Int.reduceMul, Int.reduceNeg]
end Go.Proofs.YtplnioclkacgkaaGreatDoor
namespace Go.Proofs.YtplnioclkacgkaaGreatDoor
open Go Go.Ev Go.Proofs.YtplnioclkacgkaaGreatDoor.Ir Go.Prs
set_option maxRecDepth 100000
set_option maxHeartbeats 4000000
set_option linter.unusedSimpArgs false
set_option linter.unusedVariables false
theorem lp_tl (k : Ex → St → Option (AV × Heap)) (s : List UInt8) (hs : s.length ≤ 1000000000) :
    (bnd (evC (call ir) (loop ir) lp100_0 (st100_0 0 (dS s) (.d (.int .u8 48)) [])) (lpC (call ir) (loop ir) [0, 1] lp100_0 k)) = k (.exit 0) (clean [0] (st100_0 0 (dS (bare s)) .unk [])) := by
  match s, hs with
  | [], _ => simp (maxSteps := 2000000) (disch := omega) only [go_sem, doCall, doCallQ, doCallP, Nat.reduceAdd, Nat.reduceMul, Nat.reduceSub, Nat.reduceDiv, Nat.reduceMod, Nat.reduceLT, Nat.reduceLeDiff, Nat.reduceEqDiff, Nat.reduceBEq, Nat.reduceBNe, Int.reduceToNat, Int.reduceLT, Int.reduceLE, Int.reduceEq, Int.reduceNe, Int.reduceAdd, Int.reduceSub, Int.reduceMul, Int.reduceNeg, u100_0, lb100_0, List.length_nil]; rfl
  | x :: s, hs =>
    have hl : (x :: s).length = s.length + 1 := by simp
    have hp : (0 : Int) < ((s.length + 1 : Nat) : Int) := by omega
    have hg : (x :: s).getD 0 0 = x := rfl
    have hlt : 0 < s.length + 1 := by omega
    have h1 : 1 ≤ s.length + 1 := by omega
    have ht : (s.take (s.length + 1 - 1)) = s := by simp
    rw [bare_cons]
    by_cases hb : x = 48
    · have ih := lp_tl k s (by rw [hl] at hs; omega)
      have hb' := eq_true (show (x.toNat : Int) = 48 by rw [hb]; rfl)
      rw [if_pos hb]
      simp (maxSteps := 2000000) (disch := omega) only [go_sem, doCall, doCallQ, doCallP, Nat.reduceAdd, Nat.reduceMul, Nat.reduceSub, Nat.reduceDiv, Nat.reduceMod, Nat.reduceLT, Nat.reduceLeDiff, Nat.reduceEqDiff, Nat.reduceBEq, Nat.reduceBNe, Int.reduceToNat, Int.reduceLT, Int.reduceLE, Int.reduceEq, Int.reduceNe, Int.reduceAdd, Int.reduceSub, Int.reduceMul, Int.reduceNeg, u100_0, lb100_0, hl, hp, hg, hlt, h1, ht, hb', Int.natCast_nonneg, Int.toNat_natCast, Option.getD_some, Option.getD_none, List.drop_zero, Nat.sub_zero, Nat.zero_le, true_and, and_true, Nat.le_refl, List.drop_succ_cons, chk_of]
      rw [loop_step1]
      simp (maxSteps := 2000000) only [go_sem, doCall, doCallQ, doCallP, Nat.reduceAdd, Nat.reduceMul, Nat.reduceSub, Nat.reduceDiv, Nat.reduceMod, Nat.reduceLT, Nat.reduceLeDiff, Nat.reduceEqDiff, Nat.reduceBEq, Nat.reduceBNe, Int.reduceToNat, Int.reduceLT, Int.reduceLE, Int.reduceEq, Int.reduceNe, Int.reduceAdd, Int.reduceSub, Int.reduceMul, Int.reduceNeg]
      exact ih
    · have hb' := eq_false (show ¬ (x.toNat : Int) = 48 by rw [u8_48]; exact hb)
      rw [if_neg hb]
      simp (maxSteps := 2000000) (disch := omega) only [go_sem, doCall, doCallQ, doCallP, Nat.reduceAdd, Nat.reduceMul, Nat.reduceSub, Nat.reduceDiv, Nat.reduceMod, Nat.reduceLT, Nat.reduceLeDiff, Nat.reduceEqDiff, Nat.reduceBEq, Nat.reduceBNe, Int.reduceToNat, Int.reduceLT, Int.reduceLE, Int.reduceEq, Int.reduceNe, Int.reduceAdd, Int.reduceSub, Int.reduceMul, Int.reduceNeg, u100_0, lb100_0, hl, hp, hg, hlt, hb', Int.natCast_nonneg, Int.toNat_natCast, Option.getD_some, Option.getD_none, List.drop_zero, Nat.sub_zero, Nat.zero_le, true_and, and_true, Nat.le_refl, chk_of]
termination_by s.length
theorem t_tl (s : List UInt8) (hs : s.length ≤ 1000000000) : call ir 99 [dS s, dS [48]] [] = some (dS (bare s), []) := by
  have h1 : call ir 100 [dS s, .d (.int .u8 48)] [] = some (dS (bare s), []) := by
    rw [call_eq (fn := ir100) rfl, evF_bnd]
    simp (maxSteps := 2000000) only [go_sem, doCall, doCallQ, doCallP, Nat.reduceAdd, Nat.reduceMul, Nat.reduceSub, Nat.reduceDiv, Nat.reduceMod, Nat.reduceLT, Nat.reduceLeDiff, Nat.reduceEqDiff, Nat.reduceBEq, Nat.reduceBNe, Int.reduceToNat, Int.reduceLT, Int.reduceLE, Int.reduceEq, Int.reduceNe, Int.reduceAdd, Int.reduceSub, Int.reduceMul, Int.reduceNeg, bd100]
    rw [loop_step1]
    simp (maxSteps := 2000000) only [go_sem, doCall, doCallQ, doCallP, Nat.reduceAdd, Nat.reduceMul, Nat.reduceSub, Nat.reduceDiv, Nat.reduceMod, Nat.reduceLT, Nat.reduceLeDiff, Nat.reduceEqDiff, Nat.reduceBEq, Nat.reduceBNe, Int.reduceToNat, Int.reduceLT, Int.reduceLE, Int.reduceEq, Int.reduceNe, Int.reduceAdd, Int.reduceSub, Int.reduceMul, Int.reduceNeg]
    refine Eq.trans (lp_tl _ s hs) ?_
    simp (maxSteps := 2000000) only [go_sem, doCall, doCallQ, doCallP, Nat.reduceAdd, Nat.reduceMul, Nat.reduceSub, Nat.reduceDiv, Nat.reduceMod, Nat.reduceLT, Nat.reduceLeDiff, Nat.reduceEqDiff, Nat.reduceBEq, Nat.reduceBNe, Int.reduceToNat, Int.reduceLT, Int.reduceLE, Int.reduceEq, Int.reduceNe, Int.reduceAdd, Int.reduceSub, Int.reduceMul, Int.reduceNeg]
  rw [call_eq (fn := ir99) rfl, evF_bnd]
  have hz : UInt8.toNat 48 = 48 := rfl
  by_cases h : s = []
  · subst h
    simp (maxSteps := 2000000) (disch := omega) only [go_sem, doCall, doCallQ, doCallP, Nat.reduceAdd, Nat.reduceMul, Nat.reduceSub, Nat.reduceDiv, Nat.reduceMod, Nat.reduceLT, Nat.reduceLeDiff, Nat.reduceEqDiff, Nat.reduceBEq, Nat.reduceBNe, Int.reduceToNat, Int.reduceLT, Int.reduceLE, Int.reduceEq, Int.reduceNe, Int.reduceAdd, Int.reduceSub, Int.reduceMul, Int.reduceNeg, bd99]
    rfl
  · simp (maxSteps := 2000000) (disch := omega) only [go_sem, doCall, doCallQ, doCallP, Nat.reduceAdd, Nat.reduceMul, Nat.reduceSub, Nat.reduceDiv, Nat.reduceMod, Nat.reduceLT, Nat.reduceLeDiff, Nat.reduceEqDiff, Nat.reduceBEq, Nat.reduceBNe, Int.reduceToNat, Int.reduceLT, Int.reduceLE, Int.reduceEq, Int.reduceNe, Int.reduceAdd, Int.reduceSub, Int.reduceMul, Int.reduceNeg, bd99, h, h1, hz, List.length_cons, List.length_nil, chk_of]
theorem t_bare (s : List UInt8) (hs : s.length ≤ 1000000000) : call ir 97 [dS s] [] = some (dS (bare s), []) := by
  rw [call_eq (fn := ir97) rfl, evF_bnd]
  simp (maxSteps := 2000000) only [go_sem, doCall, doCallQ, doCallP, Nat.reduceAdd, Nat.reduceMul, Nat.reduceSub, Nat.reduceDiv, Nat.reduceMod, Nat.reduceLT, Nat.reduceLeDiff, Nat.reduceEqDiff, Nat.reduceBEq, Nat.reduceBNe, Int.reduceToNat, Int.reduceLT, Int.reduceLE, Int.reduceEq, Int.reduceNe, Int.reduceAdd, Int.reduceSub, Int.reduceMul, Int.reduceNeg, bd97, t_tl s hs]
theorem lp_rbare (k : Ex → St → Option (AV × Heap)) (s : List UInt8) (hs : s.length ≤ 1000000000) :
    (bnd (evC (call ir) (loop ir) lp85_0 (st85_0 0 (dS s) [])) (lpC (call ir) (loop ir) [0] lp85_0 k)) = k (.exit 0) (clean [0] (st85_0 0 (dS (bare s)) [])) := by
  match s, hs with
  | [], _ => simp (maxSteps := 2000000) (disch := omega) only [go_sem, doCall, doCallQ, doCallP, Nat.reduceAdd, Nat.reduceMul, Nat.reduceSub, Nat.reduceDiv, Nat.reduceMod, Nat.reduceLT, Nat.reduceLeDiff, Nat.reduceEqDiff, Nat.reduceBEq, Nat.reduceBNe, Int.reduceToNat, Int.reduceLT, Int.reduceLE, Int.reduceEq, Int.reduceNe, Int.reduceAdd, Int.reduceSub, Int.reduceMul, Int.reduceNeg, u85_0, lb85_0, List.length_nil]; rfl
  | x :: s, hs =>
    have hl : (x :: s).length = s.length + 1 := by simp
    have hp : (0 : Int) < ((s.length + 1 : Nat) : Int) := by omega
    have hg : (x :: s).getD 0 0 = x := rfl
    have hlt : 0 < s.length + 1 := by omega
    have h1 : 1 ≤ s.length + 1 := by omega
    have ht : (s.take (s.length + 1 - 1)) = s := by simp
    rw [bare_cons]
    by_cases hb : x = 48
    · have ih := lp_rbare k s (by rw [hl] at hs; omega)
      have hb' := eq_true (show (x.toNat : Int) = 48 by rw [hb]; rfl)
      rw [if_pos hb]
      simp (maxSteps := 2000000) (disch := omega) only [go_sem, doCall, doCallQ, doCallP, Nat.reduceAdd, Nat.reduceMul, Nat.reduceSub, Nat.reduceDiv, Nat.reduceMod, Nat.reduceLT, Nat.reduceLeDiff, Nat.reduceEqDiff, Nat.reduceBEq, Nat.reduceBNe, Int.reduceToNat, Int.reduceLT, Int.reduceLE, Int.reduceEq, Int.reduceNe, Int.reduceAdd, Int.reduceSub, Int.reduceMul, Int.reduceNeg, u85_0, lb85_0, hl, hp, hg, hlt, h1, ht, hb', Int.natCast_nonneg, Int.toNat_natCast, Option.getD_some, Option.getD_none, List.drop_zero, Nat.sub_zero, Nat.zero_le, true_and, and_true, Nat.le_refl, List.drop_succ_cons, chk_of]
      rw [loop_step1]
      simp (maxSteps := 2000000) only [go_sem, doCall, doCallQ, doCallP, Nat.reduceAdd, Nat.reduceMul, Nat.reduceSub, Nat.reduceDiv, Nat.reduceMod, Nat.reduceLT, Nat.reduceLeDiff, Nat.reduceEqDiff, Nat.reduceBEq, Nat.reduceBNe, Int.reduceToNat, Int.reduceLT, Int.reduceLE, Int.reduceEq, Int.reduceNe, Int.reduceAdd, Int.reduceSub, Int.reduceMul, Int.reduceNeg]
      exact ih
    · have hb' := eq_false (show ¬ (x.toNat : Int) = 48 by rw [u8_48]; exact hb)
      rw [if_neg hb]
      simp (maxSteps := 2000000) (disch := omega) only [go_sem, doCall, doCallQ, doCallP, Nat.reduceAdd, Nat.reduceMul, Nat.reduceSub, Nat.reduceDiv, Nat.reduceMod, Nat.reduceLT, Nat.reduceLeDiff, Nat.reduceEqDiff, Nat.reduceBEq, Nat.reduceBNe, Int.reduceToNat, Int.reduceLT, Int.reduceLE, Int.reduceEq, Int.reduceNe, Int.reduceAdd, Int.reduceSub, Int.reduceMul, Int.reduceNeg, u85_0, lb85_0, hl, hp, hg, hlt, hb', Int.natCast_nonneg, Int.toNat_natCast, Option.getD_some, Option.getD_none, List.drop_zero, Nat.sub_zero, Nat.zero_le, true_and, and_true, Nat.le_refl, chk_of]
termination_by s.length
theorem t_rbare (s : List UInt8) (hs : s.length ≤ 1000000000) : call ir 85 [dS s] [] = some (dS (bare s), []) := by
  rw [call_eq (fn := ir85) rfl, evF_bnd]
  simp (maxSteps := 2000000) only [go_sem, doCall, doCallQ, doCallP, Nat.reduceAdd, Nat.reduceMul, Nat.reduceSub, Nat.reduceDiv, Nat.reduceMod, Nat.reduceLT, Nat.reduceLeDiff, Nat.reduceEqDiff, Nat.reduceBEq, Nat.reduceBNe, Int.reduceToNat, Int.reduceLT, Int.reduceLE, Int.reduceEq, Int.reduceNe, Int.reduceAdd, Int.reduceSub, Int.reduceMul, Int.reduceNeg, bd85]
  rw [loop_step1]
  simp (maxSteps := 2000000) only [go_sem, doCall, doCallQ, doCallP, Nat.reduceAdd, Nat.reduceMul, Nat.reduceSub, Nat.reduceDiv, Nat.reduceMod, Nat.reduceLT, Nat.reduceLeDiff, Nat.reduceEqDiff, Nat.reduceBEq, Nat.reduceBNe, Int.reduceToNat, Int.reduceLT, Int.reduceLE, Int.reduceEq, Int.reduceNe, Int.reduceAdd, Int.reduceSub, Int.reduceMul, Int.reduceNeg]
  refine Eq.trans (lp_rbare _ s hs) ?_
  simp (maxSteps := 2000000) only [go_sem, doCall, doCallQ, doCallP, Nat.reduceAdd, Nat.reduceMul, Nat.reduceSub, Nat.reduceDiv, Nat.reduceMod, Nat.reduceLT, Nat.reduceLeDiff, Nat.reduceEqDiff, Nat.reduceBEq, Nat.reduceBNe, Int.reduceToNat, Int.reduceLT, Int.reduceLE, Int.reduceEq, Int.reduceNe, Int.reduceAdd, Int.reduceSub, Int.reduceMul, Int.reduceNeg]
theorem t_less (a b : List UInt8) (ha : a.length ≤ 1000000000) (hb : b.length ≤ 1000000000) : call ir 66 [dS a, dS b] [] = some (dT (lessB a b), []) := by
  rw [call_eq (fn := ir66) rfl, evF_bnd]
  unfold lessB
  by_cases h1 : (bare a).length = (bare b).length
  · have h1' := eq_true (show (((bare a).length : Nat) : Int) = (((bare b).length : Nat) : Int) by omega)
    have h2 : ¬ (bare a).length < (bare b).length := by omega
    rw [show decide ((bare a).length < (bare b).length) = false from decide_eq_false h2, show decide ((bare a).length = (bare b).length) = true from decide_eq_true h1, Bool.false_or, Bool.true_and]
    simp (maxSteps := 2000000) (disch := omega) only [go_sem, doCall, doCallQ, doCallP, Nat.reduceAdd, Nat.reduceMul, Nat.reduceSub, Nat.reduceDiv, Nat.reduceMod, Nat.reduceLT, Nat.reduceLeDiff, Nat.reduceEqDiff, Nat.reduceBEq, Nat.reduceBNe, Int.reduceToNat, Int.reduceLT, Int.reduceLE, Int.reduceEq, Int.reduceNe, Int.reduceAdd, Int.reduceSub, Int.reduceMul, Int.reduceNeg, bd66, t_rbare a ha, t_rbare b hb, h1']
  · have h1' := eq_false (show ¬ (((bare a).length : Nat) : Int) = (((bare b).length : Nat) : Int) by omega)
    simp only [h1, decide_false, Bool.false_and, Bool.or_false]
    simp (maxSteps := 2000000) (disch := omega) only [go_sem, doCall, doCallQ, doCallP, Nat.reduceAdd, Nat.reduceMul, Nat.reduceSub, Nat.reduceDiv, Nat.reduceMod, Nat.reduceLT, Nat.reduceLeDiff, Nat.reduceEqDiff, Nat.reduceBEq, Nat.reduceBNe, Int.reduceToNat, Int.reduceLT, Int.reduceLE, Int.reduceEq, Int.reduceNe, Int.reduceAdd, Int.reduceSub, Int.reduceMul, Int.reduceNeg, bd66, t_rbare a ha, t_rbare b hb, h1']
    apply dec_eq; omega
def lateE (e : Int) (a b : List UInt8) : Int := if e = 9 ∧ lessB b a = true then 3 else e
theorem t_late (e : Int) (a b : List UInt8) (ha : a.length ≤ 1000000000) (hb : b.length ≤ 1000000000) : call ir 88 [dI e, dS a, dS b] [] = some (dI (lateE e a b), []) := by
  rw [call_eq (fn := ir88) rfl, evF_bnd]
  unfold lateE
  by_cases h9 : e = 9
  · subst h9
    have hl : lessB b a = (decide ((bare b).length < (bare a).length) || (decide ((bare b).length = (bare a).length) && bytesLt (bare b) (bare a))) := rfl
    by_cases h1 : (bare b).length < (bare a).length
    · have h1' := eq_true (show (((bare b).length : Nat) : Int) < (((bare a).length : Nat) : Int) by omega)
      rw [if_pos ⟨rfl, by rw [hl]; simp [h1]⟩]
      simp (maxSteps := 2000000) (disch := omega) only [go_sem, doCall, doCallQ, doCallP, Nat.reduceAdd, Nat.reduceMul, Nat.reduceSub, Nat.reduceDiv, Nat.reduceMod, Nat.reduceLT, Nat.reduceLeDiff, Nat.reduceEqDiff, Nat.reduceBEq, Nat.reduceBNe, Int.reduceToNat, Int.reduceLT, Int.reduceLE, Int.reduceEq, Int.reduceNe, Int.reduceAdd, Int.reduceSub, Int.reduceMul, Int.reduceNeg, bd88, t_bare a ha, t_bare b hb, h1']
    · have h1' := eq_false (show ¬ (((bare b).length : Nat) : Int) < (((bare a).length : Nat) : Int) by omega)
      by_cases h2 : (bare b).length = (bare a).length
      · have h2' := eq_true (show (((bare b).length : Nat) : Int) = (((bare a).length : Nat) : Int) by omega)
        cases h3 : bytesLt (bare b) (bare a)
        · rw [if_neg (fun h => by rw [hl] at h; simp [h1, h3] at h)]
          simp (maxSteps := 2000000) (disch := omega) only [go_sem, doCall, doCallQ, doCallP, Nat.reduceAdd, Nat.reduceMul, Nat.reduceSub, Nat.reduceDiv, Nat.reduceMod, Nat.reduceLT, Nat.reduceLeDiff, Nat.reduceEqDiff, Nat.reduceBEq, Nat.reduceBNe, Int.reduceToNat, Int.reduceLT, Int.reduceLE, Int.reduceEq, Int.reduceNe, Int.reduceAdd, Int.reduceSub, Int.reduceMul, Int.reduceNeg, bd88, t_bare a ha, t_bare b hb, h1', h2', h3]
        · rw [if_pos ⟨rfl, by rw [hl]; simp [h2, h3]⟩]
          simp (maxSteps := 2000000) (disch := omega) only [go_sem, doCall, doCallQ, doCallP, Nat.reduceAdd, Nat.reduceMul, Nat.reduceSub, Nat.reduceDiv, Nat.reduceMod, Nat.reduceLT, Nat.reduceLeDiff, Nat.reduceEqDiff, Nat.reduceBEq, Nat.reduceBNe, Int.reduceToNat, Int.reduceLT, Int.reduceLE, Int.reduceEq, Int.reduceNe, Int.reduceAdd, Int.reduceSub, Int.reduceMul, Int.reduceNeg, bd88, t_bare a ha, t_bare b hb, h1', h2', h3]
      · have h2' := eq_false (show ¬ (((bare b).length : Nat) : Int) = (((bare a).length : Nat) : Int) by omega)
        rw [if_neg (fun h => by rw [hl] at h; simp [h1, h2] at h)]
        simp (maxSteps := 2000000) (disch := omega) only [go_sem, doCall, doCallQ, doCallP, Nat.reduceAdd, Nat.reduceMul, Nat.reduceSub, Nat.reduceDiv, Nat.reduceMod, Nat.reduceLT, Nat.reduceLeDiff, Nat.reduceEqDiff, Nat.reduceBEq, Nat.reduceBNe, Int.reduceToNat, Int.reduceLT, Int.reduceLE, Int.reduceEq, Int.reduceNe, Int.reduceAdd, Int.reduceSub, Int.reduceMul, Int.reduceNeg, bd88, t_bare a ha, t_bare b hb, h1', h2']
  · rw [if_neg (fun h => h9 h.1)]
    simp (maxSteps := 2000000) (disch := omega) only [go_sem, doCall, doCallQ, doCallP, Nat.reduceAdd, Nat.reduceMul, Nat.reduceSub, Nat.reduceDiv, Nat.reduceMod, Nat.reduceLT, Nat.reduceLeDiff, Nat.reduceEqDiff, Nat.reduceBEq, Nat.reduceBNe, Int.reduceToNat, Int.reduceLT, Int.reduceLE, Int.reduceEq, Int.reduceNe, Int.reduceAdd, Int.reduceSub, Int.reduceMul, Int.reduceNeg, bd88, t_bare a ha, t_bare b hb, h9]
def worseE (a b : Int) : Int := if a = 3 ∨ b = 0 then a else if b = 3 ∨ a = 0 then b else a
theorem t_worse (a b : Int) : call ir 54 [dI a, dI b] [] = some (dI (worseE a b), []) := by
  rw [call_eq (fn := ir54) rfl, evF_bnd]
  unfold worseE
  by_cases h1 : a = 3
  · rw [if_pos (.inl h1)]
    have h1' := eq_true h1
    simp (maxSteps := 2000000) (disch := omega) only [go_sem, doCall, doCallQ, doCallP, Nat.reduceAdd, Nat.reduceMul, Nat.reduceSub, Nat.reduceDiv, Nat.reduceMod, Nat.reduceLT, Nat.reduceLeDiff, Nat.reduceEqDiff, Nat.reduceBEq, Nat.reduceBNe, Int.reduceToNat, Int.reduceLT, Int.reduceLE, Int.reduceEq, Int.reduceNe, Int.reduceAdd, Int.reduceSub, Int.reduceMul, Int.reduceNeg, bd54, h1']
  · by_cases h2 : b = 0
    · rw [if_pos (.inr h2)]
      have h2' := eq_true h2
      simp (maxSteps := 2000000) (disch := omega) only [go_sem, doCall, doCallQ, doCallP, Nat.reduceAdd, Nat.reduceMul, Nat.reduceSub, Nat.reduceDiv, Nat.reduceMod, Nat.reduceLT, Nat.reduceLeDiff, Nat.reduceEqDiff, Nat.reduceBEq, Nat.reduceBNe, Int.reduceToNat, Int.reduceLT, Int.reduceLE, Int.reduceEq, Int.reduceNe, Int.reduceAdd, Int.reduceSub, Int.reduceMul, Int.reduceNeg, bd54, h1, h2']
    · rw [if_neg (fun h => h.elim h1 h2)]
      by_cases h3 : b = 3
      · rw [if_pos (.inl h3)]
        have h3' := eq_true h3
        simp (maxSteps := 2000000) (disch := omega) only [go_sem, doCall, doCallQ, doCallP, Nat.reduceAdd, Nat.reduceMul, Nat.reduceSub, Nat.reduceDiv, Nat.reduceMod, Nat.reduceLT, Nat.reduceLeDiff, Nat.reduceEqDiff, Nat.reduceBEq, Nat.reduceBNe, Int.reduceToNat, Int.reduceLT, Int.reduceLE, Int.reduceEq, Int.reduceNe, Int.reduceAdd, Int.reduceSub, Int.reduceMul, Int.reduceNeg, bd54, h1, h2, h3']
      · by_cases h4 : a = 0
        · rw [if_pos (.inr h4)]
          have h4' := eq_true h4
          simp (maxSteps := 2000000) (disch := omega) only [go_sem, doCall, doCallQ, doCallP, Nat.reduceAdd, Nat.reduceMul, Nat.reduceSub, Nat.reduceDiv, Nat.reduceMod, Nat.reduceLT, Nat.reduceLeDiff, Nat.reduceEqDiff, Nat.reduceBEq, Nat.reduceBNe, Int.reduceToNat, Int.reduceLT, Int.reduceLE, Int.reduceEq, Int.reduceNe, Int.reduceAdd, Int.reduceSub, Int.reduceMul, Int.reduceNeg, bd54, h1, h2, h3, h4']
        · rw [if_neg (fun h => h.elim h3 h4)]
          simp (maxSteps := 2000000) (disch := omega) only [go_sem, doCall, doCallQ, doCallP, Nat.reduceAdd, Nat.reduceMul, Nat.reduceSub, Nat.reduceDiv, Nat.reduceMod, Nat.reduceLT, Nat.reduceLeDiff, Nat.reduceEqDiff, Nat.reduceBEq, Nat.reduceBNe, Int.reduceToNat, Int.reduceLT, Int.reduceLE, Int.reduceEq, Int.reduceNe, Int.reduceAdd, Int.reduceSub, Int.reduceMul, Int.reduceNeg, bd54, h1, h2, h3, h4]
abbrev SpR := (Int × Int × Int) × Int
abbrev vR (x : SpR) : AV := .tup [.agg [dI x.1.1, dI x.1.2.1, dI x.1.2.2], dI x.2]
/-- One spec of a text, and the error's number. -/
def oneS (s : List UInt8) : SpR :=
  if (cut 45 s).2.2 = false then ((0, 0, 0), 3)
  else if (cut 45 s).1 = [] then (if (prs (cut 45 s).2.1).2 ≠ 0 then ((0, 0, 0), (prs (cut 45 s).2.1).2) else ((3, (prs (cut 45 s).2.1).1, 0), 0))
  else if (cut 45 s).2.1 = [] then (if (prs (cut 45 s).1).2 ≠ 0 then ((0, 0, 0), (prs (cut 45 s).1).2) else ((1, (prs (cut 45 s).1).1, 0), 0))
  else if (prs (cut 45 s).1).2 = 3 ∨ (prs (cut 45 s).2.1).2 = 3 ∨ lessB (cut 45 s).2.1 (cut 45 s).1 = true then ((0, 0, 0), 3)
  else if (prs (cut 45 s).1).2 ≠ 0 ∨ (prs (cut 45 s).2.1).2 ≠ 0 then ((0, 0, 0), 9)
  else ((2, (prs (cut 45 s).1).1, (prs (cut 45 s).2.1).1), 0)
theorem t_rone (s : List UInt8) (hs : s.length ≤ 1000000000) : call ir 45 [dS s] [] = some (vR (oneS s), []) := by
  rw [call_eq (fn := ir45) rfl, evF_bnd]
  unfold oneS
  have hc : call ir 40 [dS s, .d (.int .u8 45)] [] = some (.tup [dS (cut 45 s).1, dS (cut 45 s).2.1, dT (cut 45 s).2.2], []) := t_rcut s hs 45
  have hl := cut_len 45 s
  generalize (cut 45 s).1 = a at *
  generalize (cut 45 s).2.1 = b at *
  have pa := t_rparse a (by omega)
  have pb := t_rparse b (by omega)
  have hle := t_less b a (by omega) (by omega)
  generalize prs a = x at *
  generalize prs b = y at *
  cases hm : (cut 45 s).2.2
  · rw [hm] at hc
    rw [if_pos rfl]
    simp (maxSteps := 2000000) (disch := omega) only [go_sem, doCall, doCallQ, doCallP, Nat.reduceAdd, Nat.reduceMul, Nat.reduceSub, Nat.reduceDiv, Nat.reduceMod, Nat.reduceLT, Nat.reduceLeDiff, Nat.reduceEqDiff, Nat.reduceBEq, Nat.reduceBNe, Int.reduceToNat, Int.reduceLT, Int.reduceLE, Int.reduceEq, Int.reduceNe, Int.reduceAdd, Int.reduceSub, Int.reduceMul, Int.reduceNeg, bd45, hc, pa, pb]
  · rw [hm] at hc
    rw [if_neg (by simp)]
    by_cases h1 : a = []
    · rw [if_pos h1]
      have h1' := eq_true h1
      by_cases h2 : y.2 = 0
      · have h2' := eq_true h2
        rw [if_neg (fun h => h h2)]
        simp (maxSteps := 2000000) (disch := omega) only [go_sem, doCall, doCallQ, doCallP, Nat.reduceAdd, Nat.reduceMul, Nat.reduceSub, Nat.reduceDiv, Nat.reduceMod, Nat.reduceLT, Nat.reduceLeDiff, Nat.reduceEqDiff, Nat.reduceBEq, Nat.reduceBNe, Int.reduceToNat, Int.reduceLT, Int.reduceLE, Int.reduceEq, Int.reduceNe, Int.reduceAdd, Int.reduceSub, Int.reduceMul, Int.reduceNeg, bd45, hc, pa, pb, h1', h2']
      · rw [if_pos h2]
        simp (maxSteps := 2000000) (disch := omega) only [go_sem, doCall, doCallQ, doCallP, Nat.reduceAdd, Nat.reduceMul, Nat.reduceSub, Nat.reduceDiv, Nat.reduceMod, Nat.reduceLT, Nat.reduceLeDiff, Nat.reduceEqDiff, Nat.reduceBEq, Nat.reduceBNe, Int.reduceToNat, Int.reduceLT, Int.reduceLE, Int.reduceEq, Int.reduceNe, Int.reduceAdd, Int.reduceSub, Int.reduceMul, Int.reduceNeg, bd45, hc, pa, pb, h1', h2]
    · rw [if_neg h1]
      by_cases h3 : b = []
      · rw [if_pos h3]
        have h3' := eq_true h3
        by_cases h2 : x.2 = 0
        · have h2' := eq_true h2
          rw [if_neg (fun h => h h2)]
          simp (maxSteps := 2000000) (disch := omega) only [go_sem, doCall, doCallQ, doCallP, Nat.reduceAdd, Nat.reduceMul, Nat.reduceSub, Nat.reduceDiv, Nat.reduceMod, Nat.reduceLT, Nat.reduceLeDiff, Nat.reduceEqDiff, Nat.reduceBEq, Nat.reduceBNe, Int.reduceToNat, Int.reduceLT, Int.reduceLE, Int.reduceEq, Int.reduceNe, Int.reduceAdd, Int.reduceSub, Int.reduceMul, Int.reduceNeg, bd45, hc, pa, pb, h1, h3', h2']
        · rw [if_pos h2]
          simp (maxSteps := 2000000) (disch := omega) only [go_sem, doCall, doCallQ, doCallP, Nat.reduceAdd, Nat.reduceMul, Nat.reduceSub, Nat.reduceDiv, Nat.reduceMod, Nat.reduceLT, Nat.reduceLeDiff, Nat.reduceEqDiff, Nat.reduceBEq, Nat.reduceBNe, Int.reduceToNat, Int.reduceLT, Int.reduceLE, Int.reduceEq, Int.reduceNe, Int.reduceAdd, Int.reduceSub, Int.reduceMul, Int.reduceNeg, bd45, hc, pa, pb, h1, h3', h2]
      · rw [if_neg h3]
        by_cases h4 : x.2 = 3
        · rw [if_pos (.inl h4)]
          have h4' := eq_true h4
          simp (maxSteps := 2000000) (disch := omega) only [go_sem, doCall, doCallQ, doCallP, Nat.reduceAdd, Nat.reduceMul, Nat.reduceSub, Nat.reduceDiv, Nat.reduceMod, Nat.reduceLT, Nat.reduceLeDiff, Nat.reduceEqDiff, Nat.reduceBEq, Nat.reduceBNe, Int.reduceToNat, Int.reduceLT, Int.reduceLE, Int.reduceEq, Int.reduceNe, Int.reduceAdd, Int.reduceSub, Int.reduceMul, Int.reduceNeg, bd45, hc, pa, pb, h1, h3, h4']
        · by_cases h5 : y.2 = 3
          · rw [if_pos (.inr (.inl h5))]
            have h5' := eq_true h5
            simp (maxSteps := 2000000) (disch := omega) only [go_sem, doCall, doCallQ, doCallP, Nat.reduceAdd, Nat.reduceMul, Nat.reduceSub, Nat.reduceDiv, Nat.reduceMod, Nat.reduceLT, Nat.reduceLeDiff, Nat.reduceEqDiff, Nat.reduceBEq, Nat.reduceBNe, Int.reduceToNat, Int.reduceLT, Int.reduceLE, Int.reduceEq, Int.reduceNe, Int.reduceAdd, Int.reduceSub, Int.reduceMul, Int.reduceNeg, bd45, hc, pa, pb, h1, h3, h4, h5']
          · cases h6 : lessB b a
            · rw [h6] at hle
              rw [if_neg (by simp [h4, h5])]
              by_cases h7 : x.2 = 0
              · have h7' := eq_true h7
                by_cases h8 : y.2 = 0
                · have h8' := eq_true h8
                  rw [if_neg (by simp [h7, h8])]
                  simp (maxSteps := 2000000) (disch := omega) only [go_sem, doCall, doCallQ, doCallP, Nat.reduceAdd, Nat.reduceMul, Nat.reduceSub, Nat.reduceDiv, Nat.reduceMod, Nat.reduceLT, Nat.reduceLeDiff, Nat.reduceEqDiff, Nat.reduceBEq, Nat.reduceBNe, Int.reduceToNat, Int.reduceLT, Int.reduceLE, Int.reduceEq, Int.reduceNe, Int.reduceAdd, Int.reduceSub, Int.reduceMul, Int.reduceNeg, bd45, hc, pa, pb, h1, h3, h4, h5, hle, h7', h8']
                · rw [if_pos (.inr h8)]
                  simp (maxSteps := 2000000) (disch := omega) only [go_sem, doCall, doCallQ, doCallP, Nat.reduceAdd, Nat.reduceMul, Nat.reduceSub, Nat.reduceDiv, Nat.reduceMod, Nat.reduceLT, Nat.reduceLeDiff, Nat.reduceEqDiff, Nat.reduceBEq, Nat.reduceBNe, Int.reduceToNat, Int.reduceLT, Int.reduceLE, Int.reduceEq, Int.reduceNe, Int.reduceAdd, Int.reduceSub, Int.reduceMul, Int.reduceNeg, bd45, hc, pa, pb, h1, h3, h4, h5, hle, h7', h8]
              · rw [if_pos (.inl h7)]
                simp (maxSteps := 2000000) (disch := omega) only [go_sem, doCall, doCallQ, doCallP, Nat.reduceAdd, Nat.reduceMul, Nat.reduceSub, Nat.reduceDiv, Nat.reduceMod, Nat.reduceLT, Nat.reduceLeDiff, Nat.reduceEqDiff, Nat.reduceBEq, Nat.reduceBNe, Int.reduceToNat, Int.reduceLT, Int.reduceLE, Int.reduceEq, Int.reduceNe, Int.reduceAdd, Int.reduceSub, Int.reduceMul, Int.reduceNeg, bd45, hc, pa, pb, h1, h3, h4, h5, hle, h7]
            · rw [h6] at hle
              rw [if_pos (.inr (.inr rfl))]
              simp (maxSteps := 2000000) (disch := omega) only [go_sem, doCall, doCallQ, doCallP, Nat.reduceAdd, Nat.reduceMul, Nat.reduceSub, Nat.reduceDiv, Nat.reduceMod, Nat.reduceLT, Nat.reduceLeDiff, Nat.reduceEqDiff, Nat.reduceBEq, Nat.reduceBNe, Int.reduceToNat, Int.reduceLT, Int.reduceLE, Int.reduceEq, Int.reduceNe, Int.reduceAdd, Int.reduceSub, Int.reduceMul, Int.reduceNeg, bd45, hc, pa, pb, h1, h3, h4, h5, hle]
theorem prs_cases (s : List UInt8) : (prs s).2 = 3 ∧ (prs s).1 = 0 ∨ (prs s).2 = 9 ∧ (prs s).1 = 0 ∨ ((prs s).2 = 0 ∧ s.all isD = true ∧ (prs s).1 = val s ∧ val s ≤ 4611686018427387903) := by
  unfold prs
  split
  · exact .inl ⟨rfl, rfl⟩
  · rename_i h
    split
    · exact .inr (.inl ⟨rfl, rfl⟩)
    · refine .inr (.inr ⟨rfl, ?_, rfl, by omega⟩)
      cases ha : s.all isD
      · exact absurd (.inr ha) h
      · rfl
theorem t_single (k : Int) (s : List UInt8) (hs : s.length ≤ 1000000000) : call ir 70 [dI k, dS s] [] = some (vR (if (prs s).2 ≠ 0 then ((0, 0, 0), (prs s).2) else ((k, (prs s).1, 0), 0)), []) := by
  rw [call_eq (fn := ir70) rfl, evF_bnd]
  have hp := t_parse s hs
  by_cases h : (prs s).2 = 0
  · have h' := eq_true h
    rw [if_neg (fun e => e h)]
    simp (maxSteps := 2000000) (disch := omega) only [go_sem, doCall, doCallQ, doCallP, Nat.reduceAdd, Nat.reduceMul, Nat.reduceSub, Nat.reduceDiv, Nat.reduceMod, Nat.reduceLT, Nat.reduceLeDiff, Nat.reduceEqDiff, Nat.reduceBEq, Nat.reduceBNe, Int.reduceToNat, Int.reduceLT, Int.reduceLE, Int.reduceEq, Int.reduceNe, Int.reduceAdd, Int.reduceSub, Int.reduceMul, Int.reduceNeg, bd70, hp, h']
  · rw [if_pos h]
    simp (maxSteps := 2000000) (disch := omega) only [go_sem, doCall, doCallQ, doCallP, Nat.reduceAdd, Nat.reduceMul, Nat.reduceSub, Nat.reduceDiv, Nat.reduceMod, Nat.reduceLT, Nat.reduceLeDiff, Nat.reduceEqDiff, Nat.reduceBEq, Nat.reduceBNe, Int.reduceToNat, Int.reduceLT, Int.reduceLE, Int.reduceEq, Int.reduceNe, Int.reduceAdd, Int.reduceSub, Int.reduceMul, Int.reduceNeg, bd70, hp, h]
/-- A spec of two numbers. -/
def bothS (a b : List UInt8) : SpR :=
  if worseE (prs a).2 (prs b).2 ≠ 0 then ((0, 0, 0), lateE (worseE (prs a).2 (prs b).2) a b)
  else if (prs b).1 < (prs a).1 then ((0, 0, 0), 3) else ((2, (prs a).1, (prs b).1), 0)
theorem t_both (a b : List UInt8) (ha : a.length ≤ 1000000000) (hb : b.length ≤ 1000000000) : call ir 71 [dS a, dS b] [] = some (vR (bothS a b), []) := by
  rw [call_eq (fn := ir71) rfl, evF_bnd]
  unfold bothS
  have pa := t_parse a ha
  have pb := t_parse b hb
  have hw := t_worse (prs a).2 (prs b).2
  have hl := t_late (worseE (prs a).2 (prs b).2) a b ha hb
  generalize worseE (prs a).2 (prs b).2 = e at *
  by_cases h : e = 0
  · have h' := eq_true h
    rw [if_neg (fun q => q h)]
    by_cases h2 : (prs b).1 < (prs a).1
    · rw [if_pos h2]
      simp (maxSteps := 2000000) (disch := omega) only [go_sem, doCall, doCallQ, doCallP, Nat.reduceAdd, Nat.reduceMul, Nat.reduceSub, Nat.reduceDiv, Nat.reduceMod, Nat.reduceLT, Nat.reduceLeDiff, Nat.reduceEqDiff, Nat.reduceBEq, Nat.reduceBNe, Int.reduceToNat, Int.reduceLT, Int.reduceLE, Int.reduceEq, Int.reduceNe, Int.reduceAdd, Int.reduceSub, Int.reduceMul, Int.reduceNeg, bd71, pa, pb, hw, hl, h', h2, chk_of]
    · rw [if_neg h2]
      simp (maxSteps := 2000000) (disch := omega) only [go_sem, doCall, doCallQ, doCallP, Nat.reduceAdd, Nat.reduceMul, Nat.reduceSub, Nat.reduceDiv, Nat.reduceMod, Nat.reduceLT, Nat.reduceLeDiff, Nat.reduceEqDiff, Nat.reduceBEq, Nat.reduceBNe, Int.reduceToNat, Int.reduceLT, Int.reduceLE, Int.reduceEq, Int.reduceNe, Int.reduceAdd, Int.reduceSub, Int.reduceMul, Int.reduceNeg, bd71, pa, pb, hw, hl, h', h2, chk_of]
  · rw [if_pos h]
    simp (maxSteps := 2000000) (disch := omega) only [go_sem, doCall, doCallQ, doCallP, Nat.reduceAdd, Nat.reduceMul, Nat.reduceSub, Nat.reduceDiv, Nat.reduceMod, Nat.reduceLT, Nat.reduceLeDiff, Nat.reduceEqDiff, Nat.reduceBEq, Nat.reduceBNe, Int.reduceToNat, Int.reduceLT, Int.reduceLE, Int.reduceEq, Int.reduceNe, Int.reduceAdd, Int.reduceSub, Int.reduceMul, Int.reduceNeg, bd71, pa, pb, hw, hl, h, chk_of]
theorem oneS_eq (s : List UInt8) : oneS s = if (cut 45 s).2.2 = false then ((0, 0, 0), 3)
  else if (cut 45 s).1 = [] then (if (prs (cut 45 s).2.1).2 ≠ 0 then ((0, 0, 0), (prs (cut 45 s).2.1).2) else ((3, (prs (cut 45 s).2.1).1, 0), 0))
  else if (cut 45 s).2.1 = [] then (if (prs (cut 45 s).1).2 ≠ 0 then ((0, 0, 0), (prs (cut 45 s).1).2) else ((1, (prs (cut 45 s).1).1, 0), 0))
  else bothS (cut 45 s).1 (cut 45 s).2.1 := by
  unfold oneS
  split
  · rfl
  · split
    · rfl
    · split
      · rfl
      · generalize (cut 45 s).1 = a
        generalize (cut 45 s).2.1 = b
        unfold bothS worseE lateE
        rcases prs_cases a with ⟨ea, za⟩ | ⟨ea, za⟩ | ⟨ea, da, za, la⟩
        · rw [ea]; simp
        · rcases prs_cases b with ⟨eb, zb⟩ | ⟨eb, zb⟩ | ⟨eb, db, zb, lb⟩
          · rw [ea, eb]; simp
          · rw [ea, eb]; cases lessB b a <;> simp
          · rw [ea, eb]; cases lessB b a <;> simp
        · rcases prs_cases b with ⟨eb, zb⟩ | ⟨eb, zb⟩ | ⟨eb, db, zb, lb⟩
          · rw [ea, eb]; simp
          · rw [ea, eb]; cases lessB b a <;> simp
          · have hl := lessB_val db da
            rw [ea, eb, hl, za, zb]
            by_cases h : val b < val a
            · have h' : (val b : Int) < (val a : Int) := by omega
              simp [h, h']
            · have h' : ¬ (val b : Int) < (val a : Int) := by omega
              simp [h, h']
theorem t_one (s : List UInt8) (hs : s.length ≤ 1000000000) : call ir 53 [dS s] [] = some (vR (oneS s), []) := by
  rw [call_eq (fn := ir53) rfl, evF_bnd, oneS_eq]
  have hc : call ir 50 [dS s, .d (.int .u8 45)] [] = some (.tup [dS (cut 45 s).1, dS (cut 45 s).2.1, dT (cut 45 s).2.2], []) := t_cut s hs 45
  have hl := cut_len 45 s
  generalize (cut 45 s).1 = a at *
  generalize (cut 45 s).2.1 = b at *
  have s1 := t_single 3 b (by omega)
  have s2 := t_single 1 a (by omega)
  have s3 := t_both a b (by omega) (by omega)
  generalize (if (prs b).2 ≠ 0 then (((0, 0, 0), (prs b).2) : SpR) else ((3, (prs b).1, 0), 0)) = z1 at *
  generalize (if (prs a).2 ≠ 0 then (((0, 0, 0), (prs a).2) : SpR) else ((1, (prs a).1, 0), 0)) = z2 at *
  generalize bothS a b = z3 at *
  cases hm : (cut 45 s).2.2
  · rw [hm] at hc
    rw [if_pos rfl]
    simp (maxSteps := 2000000) (disch := omega) only [go_sem, doCall, doCallQ, doCallP, Nat.reduceAdd, Nat.reduceMul, Nat.reduceSub, Nat.reduceDiv, Nat.reduceMod, Nat.reduceLT, Nat.reduceLeDiff, Nat.reduceEqDiff, Nat.reduceBEq, Nat.reduceBNe, Int.reduceToNat, Int.reduceLT, Int.reduceLE, Int.reduceEq, Int.reduceNe, Int.reduceAdd, Int.reduceSub, Int.reduceMul, Int.reduceNeg, bd53, hc, chk_of]
  · rw [hm] at hc
    rw [if_neg (by simp)]
    by_cases h1 : a = []
    · rw [if_pos h1]
      have h1' := eq_true h1
      simp (maxSteps := 2000000) (disch := omega) only [go_sem, doCall, doCallQ, doCallP, Nat.reduceAdd, Nat.reduceMul, Nat.reduceSub, Nat.reduceDiv, Nat.reduceMod, Nat.reduceLT, Nat.reduceLeDiff, Nat.reduceEqDiff, Nat.reduceBEq, Nat.reduceBNe, Int.reduceToNat, Int.reduceLT, Int.reduceLE, Int.reduceEq, Int.reduceNe, Int.reduceAdd, Int.reduceSub, Int.reduceMul, Int.reduceNeg, bd53, hc, h1', s1, chk_of]
    · rw [if_neg h1]
      by_cases h3 : b = []
      · rw [if_pos h3]
        have h3' := eq_true h3
        simp (maxSteps := 2000000) (disch := omega) only [go_sem, doCall, doCallQ, doCallP, Nat.reduceAdd, Nat.reduceMul, Nat.reduceSub, Nat.reduceDiv, Nat.reduceMod, Nat.reduceLT, Nat.reduceLeDiff, Nat.reduceEqDiff, Nat.reduceBEq, Nat.reduceBNe, Int.reduceToNat, Int.reduceLT, Int.reduceLE, Int.reduceEq, Int.reduceNe, Int.reduceAdd, Int.reduceSub, Int.reduceMul, Int.reduceNeg, bd53, hc, h1, h3', s2, chk_of]
      · rw [if_neg h3]
        simp (maxSteps := 2000000) (disch := omega) only [go_sem, doCall, doCallQ, doCallP, Nat.reduceAdd, Nat.reduceMul, Nat.reduceSub, Nat.reduceDiv, Nat.reduceMod, Nat.reduceLT, Nat.reduceLeDiff, Nat.reduceEqDiff, Nat.reduceBEq, Nat.reduceBNe, Int.reduceToNat, Int.reduceLT, Int.reduceLE, Int.reduceEq, Int.reduceNe, Int.reduceAdd, Int.reduceSub, Int.reduceMul, Int.reduceNeg, bd53, hc, h1, h3, s3, chk_of]
end Go.Proofs.YtplnioclkacgkaaGreatDoor
