/- Texts: numbers: what the functions do. Own work. -/
import Derived.Test.YtpibecljdooilaaDoorPrwB
namespace Go.Proofs.YtpibecljdooilaaDoor
open Go Go.Ev Go.Proofs.YtpibecljdooilaaDoor.Ir Go.Prs
set_option maxRecDepth 100000
set_option maxHeartbeats 4000000
set_option linter.unusedSimpArgs false
set_option linter.unusedVariables false
theorem isD_t {b : UInt8} (h : isD b = true) : (48 : Int) ≤ b.toNat ∧ (b.toNat : Int) ≤ 57 := by simp [isD] at h; omega
theorem isD_f {b : UInt8} (h : isD b = false) : ¬ (48 : Int) ≤ b.toNat ∨ ¬ (b.toNat : Int) ≤ 57 := by simp [isD] at h; omega
theorem t_rdigit (b : UInt8) : call ir 45 [dB b] [] = some (dT (isD b), []) := by
  rw [call_eq (fn := ir45) rfl, evF_bnd]
  cases hb : isD b
  · rcases isD_f hb with h | h
    · simp (maxSteps := 2000000) (disch := omega) only [go_sem, doCall, doCallQ, doCallP, Nat.reduceAdd, Nat.reduceMul, Nat.reduceSub, Nat.reduceDiv, Nat.reduceMod, Nat.reduceLT, Nat.reduceLeDiff, Nat.reduceEqDiff, Nat.reduceBEq, Nat.reduceBNe, Int.reduceToNat, Int.reduceLT, Int.reduceLE, Int.reduceEq, Int.reduceNe, Int.reduceAdd, Int.reduceSub, Int.reduceMul, Int.reduceNeg, bd45, h]
    · by_cases h2 : (48 : Int) ≤ b.toNat
      · simp (maxSteps := 2000000) (disch := omega) only [go_sem, doCall, doCallQ, doCallP, Nat.reduceAdd, Nat.reduceMul, Nat.reduceSub, Nat.reduceDiv, Nat.reduceMod, Nat.reduceLT, Nat.reduceLeDiff, Nat.reduceEqDiff, Nat.reduceBEq, Nat.reduceBNe, Int.reduceToNat, Int.reduceLT, Int.reduceLE, Int.reduceEq, Int.reduceNe, Int.reduceAdd, Int.reduceSub, Int.reduceMul, Int.reduceNeg, bd45, h, h2]
      · simp (maxSteps := 2000000) (disch := omega) only [go_sem, doCall, doCallQ, doCallP, Nat.reduceAdd, Nat.reduceMul, Nat.reduceSub, Nat.reduceDiv, Nat.reduceMod, Nat.reduceLT, Nat.reduceLeDiff, Nat.reduceEqDiff, Nat.reduceBEq, Nat.reduceBNe, Int.reduceToNat, Int.reduceLT, Int.reduceLE, Int.reduceEq, Int.reduceNe, Int.reduceAdd, Int.reduceSub, Int.reduceMul, Int.reduceNeg, bd45, h2]
  · obtain ⟨h1, h2⟩ := isD_t hb
    simp (maxSteps := 2000000) (disch := omega) only [go_sem, doCall, doCallQ, doCallP, Nat.reduceAdd, Nat.reduceMul, Nat.reduceSub, Nat.reduceDiv, Nat.reduceMod, Nat.reduceLT, Nat.reduceLeDiff, Nat.reduceEqDiff, Nat.reduceBEq, Nat.reduceBNe, Int.reduceToNat, Int.reduceLT, Int.reduceLE, Int.reduceEq, Int.reduceNe, Int.reduceAdd, Int.reduceSub, Int.reduceMul, Int.reduceNeg, bd45, h1, h2]
theorem t_digit_t {b : UInt8} (h : isD b = true) : call ir 148 [dB b] [] = some (.tup [dI ((b.toNat - 48 : Nat) : Int), dT true], []) := by
  rw [call_eq (fn := ir148) rfl, evF_bnd]
  obtain ⟨h1, h2⟩ := isD_t h
  have h3 : ¬ (b.toNat : Int) < 48 := by omega
  have h4 : ¬ (57 : Int) < b.toNat := by omega
  have hw : wr .i64 (wr .u8 ((b.toNat : Int) - 48)) = ((b.toNat - 48 : Nat) : Int) := by rw [wr_u8 (by omega), wr_id (by omega)]; omega
  simp (maxSteps := 2000000) (disch := omega) only [go_sem, doCall, doCallQ, doCallP, Nat.reduceAdd, Nat.reduceMul, Nat.reduceSub, Nat.reduceDiv, Nat.reduceMod, Nat.reduceLT, Nat.reduceLeDiff, Nat.reduceEqDiff, Nat.reduceBEq, Nat.reduceBNe, Int.reduceToNat, Int.reduceLT, Int.reduceLE, Int.reduceEq, Int.reduceNe, Int.reduceAdd, Int.reduceSub, Int.reduceMul, Int.reduceNeg, bd148, h3, h4, hw]
theorem t_digit_f {b : UInt8} (h : isD b = false) : call ir 148 [dB b] [] = some (.tup [dI 0, dT false], []) := by
  rw [call_eq (fn := ir148) rfl, evF_bnd]
  rcases isD_f h with h | h
  · have h3 : (b.toNat : Int) < 48 := by omega
    simp (maxSteps := 2000000) (disch := omega) only [go_sem, doCall, doCallQ, doCallP, Nat.reduceAdd, Nat.reduceMul, Nat.reduceSub, Nat.reduceDiv, Nat.reduceMod, Nat.reduceLT, Nat.reduceLeDiff, Nat.reduceEqDiff, Nat.reduceBEq, Nat.reduceBNe, Int.reduceToNat, Int.reduceLT, Int.reduceLE, Int.reduceEq, Int.reduceNe, Int.reduceAdd, Int.reduceSub, Int.reduceMul, Int.reduceNeg, bd148, h3]
  · by_cases h3 : (b.toNat : Int) < 48
    · simp (maxSteps := 2000000) (disch := omega) only [go_sem, doCall, doCallQ, doCallP, Nat.reduceAdd, Nat.reduceMul, Nat.reduceSub, Nat.reduceDiv, Nat.reduceMod, Nat.reduceLT, Nat.reduceLeDiff, Nat.reduceEqDiff, Nat.reduceBEq, Nat.reduceBNe, Int.reduceToNat, Int.reduceLT, Int.reduceLE, Int.reduceEq, Int.reduceNe, Int.reduceAdd, Int.reduceSub, Int.reduceMul, Int.reduceNeg, bd148, h3]
    · have h4 : (57 : Int) < b.toNat := by omega
      simp (maxSteps := 2000000) (disch := omega) only [go_sem, doCall, doCallQ, doCallP, Nat.reduceAdd, Nat.reduceMul, Nat.reduceSub, Nat.reduceDiv, Nat.reduceMod, Nat.reduceLT, Nat.reduceLeDiff, Nat.reduceEqDiff, Nat.reduceBEq, Nat.reduceBNe, Int.reduceToNat, Int.reduceLT, Int.reduceLE, Int.reduceEq, Int.reduceNe, Int.reduceAdd, Int.reduceSub, Int.reduceMul, Int.reduceNeg, bd148, h3, h4]
theorem all_drop {s : List UInt8} {i : Nat} (hi : i < s.length) : (s.drop i).all isD = (isD s[i] && (s.drop (i + 1)).all isD) := by
  rw [List.drop_eq_getElem_cons hi]; rfl
/-- The state while digits are read. -/
def nOf (s : List UInt8) : Int := if 4611686018427387903 < val s then 0 else val s
theorem lp_parse (s : List UInt8) (hs : s.length ≤ 1000000000) (k : Ex → St → Option (AV × Heap)) (i : Nat) (hi : i ≤ s.length) (n : Nat) (o : Bool)
    (hn : (o = true ∧ 4611686018427387903 < val (s.take i)) ∨ (o = false ∧ n = val (s.take i) ∧ n ≤ 4611686018427387903)) :
    ∃ n' : Nat, (4611686018427387903 < val s ∨ n' = val s) ∧ (bnd (evC (call ir) (loop ir) lp131_0 (st131_0 0 (dS s) (dI n) (dT o) (dI s.length) (dI i) [])) (lpC (call ir) (loop ir) [0, 4, 5, 10, 11] lp131_0 k)) = (if (s.drop i).all isD then k (.exit 0) (clean [0, 4, 5] (st131_0 0 (dS s) (dI n') (dT (decide (4611686018427387903 < val s))) .unk .unk []))
      else k .ret (clean [2, 3] ⟨0, [.unk, .unk, dI 0, dI 3, .unk, .unk, .unk, .unk, .unk, .unk, .unk, .unk, .unk, .unk, .unk, .unk, .unk, .unk, .unk, .unk, .unk, .unk, .unk, .unk, .unk, .unk, .unk, .unk, .unk, .unk, .unk, .unk, .unk, .unk, .unk, .unk, .unk, .unk, .unk, .unk, .unk, .unk], []⟩)) := by
  by_cases h : i = s.length
  · have hx : ¬ (i : Int) < s.length := by omega
    rw [h] at hx
    rw [h, List.take_length] at hn
    rw [h, List.drop_length]
    rcases hn with ⟨rfl, h1⟩ | ⟨rfl, h1, h2⟩
    · refine ⟨n, .inl h1, ?_⟩
      have hd : decide (4611686018427387903 < val s) = true := decide_eq_true h1
      simp only [List.all_nil, if_true, hd]
      simp (maxSteps := 2000000) (disch := omega) only [go_sem, doCall, doCallQ, doCallP, Nat.reduceAdd, Nat.reduceMul, Nat.reduceSub, Nat.reduceDiv, Nat.reduceMod, Nat.reduceLT, Nat.reduceLeDiff, Nat.reduceEqDiff, Nat.reduceBEq, Nat.reduceBNe, Int.reduceToNat, Int.reduceLT, Int.reduceLE, Int.reduceEq, Int.reduceNe, Int.reduceAdd, Int.reduceSub, Int.reduceMul, Int.reduceNeg, u131_0, lb131_0, hx]
    · refine ⟨n, .inr h1, ?_⟩
      have hd : decide (4611686018427387903 < val s) = false := decide_eq_false (by omega)
      simp only [List.all_nil, if_true, hd]
      simp (maxSteps := 2000000) (disch := omega) only [go_sem, doCall, doCallQ, doCallP, Nat.reduceAdd, Nat.reduceMul, Nat.reduceSub, Nat.reduceDiv, Nat.reduceMod, Nat.reduceLT, Nat.reduceLeDiff, Nat.reduceEqDiff, Nat.reduceBEq, Nat.reduceBNe, Int.reduceToNat, Int.reduceLT, Int.reduceLE, Int.reduceEq, Int.reduceNe, Int.reduceAdd, Int.reduceSub, Int.reduceMul, Int.reduceNeg, u131_0, lb131_0, hx]
  · have hlt : (i : Int) < s.length := by omega
    have hi' : i < s.length := by omega
    have hw := wr_succ (i := i) (by omega)
    have hg := g8 hi'
    have hv := val_take hi'
    rw [all_drop hi']
    cases hd : isD s[i]
    · have h1 := t_digit_f hd
      refine ⟨val s, .inr rfl, ?_⟩
      rw [if_neg (by simp)]
      simp (maxSteps := 2000000) (disch := omega) only [go_sem, doCall, doCallQ, doCallP, Nat.reduceAdd, Nat.reduceMul, Nat.reduceSub, Nat.reduceDiv, Nat.reduceMod, Nat.reduceLT, Nat.reduceLeDiff, Nat.reduceEqDiff, Nat.reduceBEq, Nat.reduceBNe, Int.reduceToNat, Int.reduceLT, Int.reduceLE, Int.reduceEq, Int.reduceNe, Int.reduceAdd, Int.reduceSub, Int.reduceMul, Int.reduceNeg, u131_0, lb131_0, hlt, hi', hw, hg, h1, Int.natCast_nonneg, Int.toNat_natCast, Option.getD_some, Option.getD_none, List.drop_zero, Nat.sub_zero, Nat.zero_le, true_and, and_true, Nat.le_refl, chk_of]
    · have h1 := t_digit_t hd
      obtain ⟨d1, d2⟩ := isD_t hd
      rw [Bool.true_and]
      rcases hn with ⟨rfl, h3⟩ | ⟨rfl, h3, h4⟩
      · obtain ⟨n', e1, e2⟩ := lp_parse s hs k (i + 1) (by omega) n true (.inl ⟨rfl, by omega⟩)
        refine ⟨n', e1, ?_⟩
        simp (maxSteps := 2000000) (disch := omega) only [go_sem, doCall, doCallQ, doCallP, Nat.reduceAdd, Nat.reduceMul, Nat.reduceSub, Nat.reduceDiv, Nat.reduceMod, Nat.reduceLT, Nat.reduceLeDiff, Nat.reduceEqDiff, Nat.reduceBEq, Nat.reduceBNe, Int.reduceToNat, Int.reduceLT, Int.reduceLE, Int.reduceEq, Int.reduceNe, Int.reduceAdd, Int.reduceSub, Int.reduceMul, Int.reduceNeg, u131_0, lb131_0, hlt, hi', hw, hg, h1, Int.natCast_nonneg, Int.toNat_natCast, Option.getD_some, Option.getD_none, List.drop_zero, Nat.sub_zero, Nat.zero_le, true_and, and_true, Nat.le_refl, chk_of]
        rw [loop_step1]; simp (maxSteps := 2000000) only [go_sem, doCall, doCallQ, doCallP, Nat.reduceAdd, Nat.reduceMul, Nat.reduceSub, Nat.reduceDiv, Nat.reduceMod, Nat.reduceLT, Nat.reduceLeDiff, Nat.reduceEqDiff, Nat.reduceBEq, Nat.reduceBNe, Int.reduceToNat, Int.reduceLT, Int.reduceLE, Int.reduceEq, Int.reduceNe, Int.reduceAdd, Int.reduceSub, Int.reduceMul, Int.reduceNeg]; exact e2
      · generalize hdd : s[i].toNat - 48 = d at *
        have hwa : wr .i64 (4611686018427387903 - (d : Int)) = 4611686018427387903 - (d : Int) := wr_id (by omega)
        have hq : wr .i64 ((4611686018427387903 - (d : Int)).tdiv 10) = (((4611686018427387903 - d) / 10 : Nat) : Int) := by
          rw [Int.tdiv_eq_ediv_of_nonneg (by omega), wr_id (by omega)]; omega
        by_cases hov : (4611686018427387903 - d) / 10 < n
        · have hov' : (((4611686018427387903 - d) / 10 : Nat) : Int) < (n : Int) := by omega
          obtain ⟨n', e1, e2⟩ := lp_parse s hs k (i + 1) (by omega) n true (.inl ⟨rfl, by omega⟩)
          refine ⟨n', e1, ?_⟩
          simp (maxSteps := 2000000) (disch := omega) only [go_sem, doCall, doCallQ, doCallP, Nat.reduceAdd, Nat.reduceMul, Nat.reduceSub, Nat.reduceDiv, Nat.reduceMod, Nat.reduceLT, Nat.reduceLeDiff, Nat.reduceEqDiff, Nat.reduceBEq, Nat.reduceBNe, Int.reduceToNat, Int.reduceLT, Int.reduceLE, Int.reduceEq, Int.reduceNe, Int.reduceAdd, Int.reduceSub, Int.reduceMul, Int.reduceNeg, u131_0, lb131_0, hlt, hi', hw, hg, h1, hwa, hq, hov', Int.natCast_nonneg, Int.toNat_natCast, Option.getD_some, Option.getD_none, List.drop_zero, Nat.sub_zero, Nat.zero_le, true_and, and_true, Nat.le_refl, chk_of]
          rw [loop_step1]; simp (maxSteps := 2000000) only [go_sem, doCall, doCallQ, doCallP, Nat.reduceAdd, Nat.reduceMul, Nat.reduceSub, Nat.reduceDiv, Nat.reduceMod, Nat.reduceLT, Nat.reduceLeDiff, Nat.reduceEqDiff, Nat.reduceBEq, Nat.reduceBNe, Int.reduceToNat, Int.reduceLT, Int.reduceLE, Int.reduceEq, Int.reduceNe, Int.reduceAdd, Int.reduceSub, Int.reduceMul, Int.reduceNeg]; exact e2
        · have hov' : ¬ (((4611686018427387903 - d) / 10 : Nat) : Int) < (n : Int) := by omega
          have hm : wr .i64 (10 * (n : Int)) = 10 * (n : Int) := wr_id (by omega)
          have hm2 : wr .i64 (10 * (n : Int) + (d : Int)) = ((10 * n + d : Nat) : Int) := by rw [wr_id (by omega)]; omega
          obtain ⟨n', e1, e2⟩ := lp_parse s hs k (i + 1) (by omega) (10 * n + d) false (.inr ⟨rfl, by omega, by omega⟩)
          refine ⟨n', e1, ?_⟩
          simp (maxSteps := 2000000) (disch := omega) only [go_sem, doCall, doCallQ, doCallP, Nat.reduceAdd, Nat.reduceMul, Nat.reduceSub, Nat.reduceDiv, Nat.reduceMod, Nat.reduceLT, Nat.reduceLeDiff, Nat.reduceEqDiff, Nat.reduceBEq, Nat.reduceBNe, Int.reduceToNat, Int.reduceLT, Int.reduceLE, Int.reduceEq, Int.reduceNe, Int.reduceAdd, Int.reduceSub, Int.reduceMul, Int.reduceNeg, u131_0, lb131_0, hlt, hi', hw, hg, h1, hwa, hq, hov', hm, hm2, Int.natCast_nonneg, Int.toNat_natCast, Option.getD_some, Option.getD_none, List.drop_zero, Nat.sub_zero, Nat.zero_le, true_and, and_true, Nat.le_refl, chk_of]
          rw [loop_step1]; simp (maxSteps := 2000000) only [go_sem, doCall, doCallQ, doCallP, Nat.reduceAdd, Nat.reduceMul, Nat.reduceSub, Nat.reduceDiv, Nat.reduceMod, Nat.reduceLT, Nat.reduceLeDiff, Nat.reduceEqDiff, Nat.reduceBEq, Nat.reduceBNe, Int.reduceToNat, Int.reduceLT, Int.reduceLE, Int.reduceEq, Int.reduceNe, Int.reduceAdd, Int.reduceSub, Int.reduceMul, Int.reduceNeg]; exact e2
termination_by s.length - i
theorem prs_eq (s : List UInt8) : prs s = if s = [] ∨ s.all isD = false then (0, 3) else if 4611686018427387903 < val s then (0, 9) else ((val s : Int), 0) := rfl
theorem t_parse (s : List UInt8) (hs : s.length ≤ 1000000000) : call ir 131 [dS s] [] = some (.tup [dI (prs s).1, dI (prs s).2], []) := by
  rw [call_eq (fn := ir131) rfl, evF_bnd]
  simp (maxSteps := 2000000) (disch := omega) only [go_sem, doCall, doCallQ, doCallP, Nat.reduceAdd, Nat.reduceMul, Nat.reduceSub, Nat.reduceDiv, Nat.reduceMod, Nat.reduceLT, Nat.reduceLeDiff, Nat.reduceEqDiff, Nat.reduceBEq, Nat.reduceBNe, Int.reduceToNat, Int.reduceLT, Int.reduceLE, Int.reduceEq, Int.reduceNe, Int.reduceAdd, Int.reduceSub, Int.reduceMul, Int.reduceNeg, bd131]
  rw [loop_step1]
  simp (maxSteps := 2000000) only [go_sem, doCall, doCallQ, doCallP, Nat.reduceAdd, Nat.reduceMul, Nat.reduceSub, Nat.reduceDiv, Nat.reduceMod, Nat.reduceLT, Nat.reduceLeDiff, Nat.reduceEqDiff, Nat.reduceBEq, Nat.reduceBNe, Int.reduceToNat, Int.reduceLT, Int.reduceLE, Int.reduceEq, Int.reduceNe, Int.reduceAdd, Int.reduceSub, Int.reduceMul, Int.reduceNeg]
  have h0 := fun k => lp_parse s hs k 0 (by omega) 0 false (.inr ⟨rfl, rfl, by omega⟩)
  rw [List.drop_zero] at h0
  refine (h0 _).elim fun n' h1 => Eq.trans h1.2 ?_
  have h1 := h1.1
  rw [prs_eq]
  cases ha : s.all isD
  · rw [if_neg (by simp), if_pos (.inr rfl)]
    simp (maxSteps := 2000000) only [go_sem, doCall, doCallQ, doCallP, Nat.reduceAdd, Nat.reduceMul, Nat.reduceSub, Nat.reduceDiv, Nat.reduceMod, Nat.reduceLT, Nat.reduceLeDiff, Nat.reduceEqDiff, Nat.reduceBEq, Nat.reduceBNe, Int.reduceToNat, Int.reduceLT, Int.reduceLE, Int.reduceEq, Int.reduceNe, Int.reduceAdd, Int.reduceSub, Int.reduceMul, Int.reduceNeg]
  · rw [if_pos rfl]
    by_cases hne : s = []
    · rw [if_pos (.inl hne)]
      subst hne
      simp (maxSteps := 2000000) only [go_sem, doCall, doCallQ, doCallP, Nat.reduceAdd, Nat.reduceMul, Nat.reduceSub, Nat.reduceDiv, Nat.reduceMod, Nat.reduceLT, Nat.reduceLeDiff, Nat.reduceEqDiff, Nat.reduceBEq, Nat.reduceBNe, Int.reduceToNat, Int.reduceLT, Int.reduceLE, Int.reduceEq, Int.reduceNe, Int.reduceAdd, Int.reduceSub, Int.reduceMul, Int.reduceNeg]
    · rw [if_neg (by simp [hne])]
      by_cases hov : 4611686018427387903 < val s
      · rw [if_pos hov]
        simp (maxSteps := 2000000) (disch := omega) only [go_sem, doCall, doCallQ, doCallP, Nat.reduceAdd, Nat.reduceMul, Nat.reduceSub, Nat.reduceDiv, Nat.reduceMod, Nat.reduceLT, Nat.reduceLeDiff, Nat.reduceEqDiff, Nat.reduceBEq, Nat.reduceBNe, Int.reduceToNat, Int.reduceLT, Int.reduceLE, Int.reduceEq, Int.reduceNe, Int.reduceAdd, Int.reduceSub, Int.reduceMul, Int.reduceNeg, hov, hne, decide_true]
      · rw [if_neg hov]
        have h1 : n' = val s := by omega
        subst h1
        simp (maxSteps := 2000000) (disch := omega) only [go_sem, doCall, doCallQ, doCallP, Nat.reduceAdd, Nat.reduceMul, Nat.reduceSub, Nat.reduceDiv, Nat.reduceMod, Nat.reduceLT, Nat.reduceLeDiff, Nat.reduceEqDiff, Nat.reduceBEq, Nat.reduceBNe, Int.reduceToNat, Int.reduceLT, Int.reduceLE, Int.reduceEq, Int.reduceNe, Int.reduceAdd, Int.reduceSub, Int.reduceMul, Int.reduceNeg, hov, hne, decide_false]
theorem lp_rparse0 (s : List UInt8) (hs : s.length ≤ 1000000000) (k : Ex → St → Option (AV × Heap)) (i : Nat) (hi : i ≤ s.length) :
    (bnd (evC (call ir) (loop ir) lp91_0 (st91_0 0 (dS s) (dI i) [])) (lpC (call ir) (loop ir) [0, 4] lp91_0 k)) = (if (s.drop i).all isD then k (.exit 0) (clean [0] (st91_0 0 (dS s) .unk []))
      else k .ret (clean [2, 3] ⟨0, [.unk, .unk, dI 0, dI 3, .unk, .unk, .unk, .unk, .unk, .unk, .unk, .unk, .unk, .unk, .unk, .unk, .unk, .unk, .unk, .unk, .unk, .unk, .unk, .unk, .unk, .unk, .unk, .unk, .unk, .unk, .unk, .unk, .unk, .unk, .unk, .unk, .unk, .unk, .unk, .unk, .unk, .unk, .unk, .unk, .unk, .unk, .unk, .unk, .unk, .unk, .unk, .unk, .unk, .unk, .unk, .unk, .unk, .unk, .unk, .unk, .unk, .unk, .unk, .unk, .unk, .unk], []⟩)) := by
  by_cases h : i = s.length
  · have hx : ¬ (i : Int) < s.length := by omega
    rw [h] at hx
    rw [h, List.drop_length]
    simp only [List.all_nil, if_true]
    simp (maxSteps := 2000000) (disch := omega) only [go_sem, doCall, doCallQ, doCallP, Nat.reduceAdd, Nat.reduceMul, Nat.reduceSub, Nat.reduceDiv, Nat.reduceMod, Nat.reduceLT, Nat.reduceLeDiff, Nat.reduceEqDiff, Nat.reduceBEq, Nat.reduceBNe, Int.reduceToNat, Int.reduceLT, Int.reduceLE, Int.reduceEq, Int.reduceNe, Int.reduceAdd, Int.reduceSub, Int.reduceMul, Int.reduceNeg, u91_0, lb91_0, hx]
  · have hlt : (i : Int) < s.length := by omega
    have hi' : i < s.length := by omega
    have hw := wr_succ (i := i) (by omega)
    have hg := g8 hi'
    have h1 := t_rdigit s[i]
    rw [all_drop hi']
    cases hd : isD s[i]
    · rw [hd] at h1
      rw [if_neg (by simp)]
      simp (maxSteps := 2000000) (disch := omega) only [go_sem, doCall, doCallQ, doCallP, Nat.reduceAdd, Nat.reduceMul, Nat.reduceSub, Nat.reduceDiv, Nat.reduceMod, Nat.reduceLT, Nat.reduceLeDiff, Nat.reduceEqDiff, Nat.reduceBEq, Nat.reduceBNe, Int.reduceToNat, Int.reduceLT, Int.reduceLE, Int.reduceEq, Int.reduceNe, Int.reduceAdd, Int.reduceSub, Int.reduceMul, Int.reduceNeg, u91_0, lb91_0, hlt, hi', hw, hg, h1, Int.natCast_nonneg, Int.toNat_natCast, Option.getD_some, Option.getD_none, List.drop_zero, Nat.sub_zero, Nat.zero_le, true_and, and_true, Nat.le_refl, chk_of]
    · rw [hd] at h1
      rw [Bool.true_and]
      have ih := lp_rparse0 s hs k (i + 1) (by omega)
      simp (maxSteps := 2000000) (disch := omega) only [go_sem, doCall, doCallQ, doCallP, Nat.reduceAdd, Nat.reduceMul, Nat.reduceSub, Nat.reduceDiv, Nat.reduceMod, Nat.reduceLT, Nat.reduceLeDiff, Nat.reduceEqDiff, Nat.reduceBEq, Nat.reduceBNe, Int.reduceToNat, Int.reduceLT, Int.reduceLE, Int.reduceEq, Int.reduceNe, Int.reduceAdd, Int.reduceSub, Int.reduceMul, Int.reduceNeg, u91_0, lb91_0, hlt, hi', hw, hg, h1, Int.natCast_nonneg, Int.toNat_natCast, Option.getD_some, Option.getD_none, List.drop_zero, Nat.sub_zero, Nat.zero_le, true_and, and_true, Nat.le_refl, chk_of]
      rw [loop_step1]; simp (maxSteps := 2000000) only [go_sem, doCall, doCallQ, doCallP, Nat.reduceAdd, Nat.reduceMul, Nat.reduceSub, Nat.reduceDiv, Nat.reduceMod, Nat.reduceLT, Nat.reduceLeDiff, Nat.reduceEqDiff, Nat.reduceBEq, Nat.reduceBNe, Int.reduceToNat, Int.reduceLT, Int.reduceLE, Int.reduceEq, Int.reduceNe, Int.reduceAdd, Int.reduceSub, Int.reduceMul, Int.reduceNeg]; exact ih
termination_by s.length - i
theorem lp_rparse1 (s : List UInt8) (hs : s.length ≤ 1000000000) (k : Ex → St → Option (AV × Heap)) (i : Nat) (hi : i < s.length) :
    (bnd (evC (call ir) (loop ir) lp91_1 (st91_1 0 (dS s) (dI i) [])) (lpC (call ir) (loop ir) [0, 5] lp91_1 k)) = k (.exit 2) (clean [0, 5] (st91_1 0 (dS s) (dI ((s.length - (strp (s.drop i)).length : Nat) : Int)) [])) := by
  have hw := wr_succ (i := i) (by omega)
  have hg := g8 hi
  have hwl : wr .i64 ((s.length : Int) - 1) = ((s.length - 1 : Nat) : Int) := by rw [wr_id (by omega)]; omega
  have hdl : (s.drop i).length = s.length - i := List.length_drop ..
  by_cases h : i + 1 < s.length
  · have hlt : (i : Int) < ((s.length - 1 : Nat) : Int) := by omega
    rw [strp_drop1 h]
    by_cases hc : s[i] = 48
    · have hc' := eq_true (show (s[i].toNat : Int) = 48 by rw [hc]; rfl)
      have ih := lp_rparse1 s hs k (i + 1) h
      rw [if_pos hc]
      simp (maxSteps := 2000000) (disch := omega) only [go_sem, doCall, doCallQ, doCallP, Nat.reduceAdd, Nat.reduceMul, Nat.reduceSub, Nat.reduceDiv, Nat.reduceMod, Nat.reduceLT, Nat.reduceLeDiff, Nat.reduceEqDiff, Nat.reduceBEq, Nat.reduceBNe, Int.reduceToNat, Int.reduceLT, Int.reduceLE, Int.reduceEq, Int.reduceNe, Int.reduceAdd, Int.reduceSub, Int.reduceMul, Int.reduceNeg, u91_1, lb91_1, hlt, hi, hw, hg, hwl, hc', Int.natCast_nonneg, Int.toNat_natCast, Option.getD_some, Option.getD_none, List.drop_zero, Nat.sub_zero, Nat.zero_le, true_and, and_true, Nat.le_refl, chk_of]
      rw [loop_step1]; simp (maxSteps := 2000000) only [go_sem, doCall, doCallQ, doCallP, Nat.reduceAdd, Nat.reduceMul, Nat.reduceSub, Nat.reduceDiv, Nat.reduceMod, Nat.reduceLT, Nat.reduceLeDiff, Nat.reduceEqDiff, Nat.reduceBEq, Nat.reduceBNe, Int.reduceToNat, Int.reduceLT, Int.reduceLE, Int.reduceEq, Int.reduceNe, Int.reduceAdd, Int.reduceSub, Int.reduceMul, Int.reduceNeg]; exact ih
    · have hc' := eq_false (show ¬ (s[i].toNat : Int) = 48 by rw [u8_48]; exact hc)
      have he : s.length - (s.drop i).length = i := by omega
      rw [if_neg hc, he]
      simp (maxSteps := 2000000) (disch := omega) only [go_sem, doCall, doCallQ, doCallP, Nat.reduceAdd, Nat.reduceMul, Nat.reduceSub, Nat.reduceDiv, Nat.reduceMod, Nat.reduceLT, Nat.reduceLeDiff, Nat.reduceEqDiff, Nat.reduceBEq, Nat.reduceBNe, Int.reduceToNat, Int.reduceLT, Int.reduceLE, Int.reduceEq, Int.reduceNe, Int.reduceAdd, Int.reduceSub, Int.reduceMul, Int.reduceNeg, u91_1, lb91_1, hlt, hi, hw, hg, hwl, hc', Int.natCast_nonneg, Int.toNat_natCast, Option.getD_some, Option.getD_none, List.drop_zero, Nat.sub_zero, Nat.zero_le, true_and, and_true, Nat.le_refl, chk_of]
  · have hlt : ¬ (i : Int) < ((s.length - 1 : Nat) : Int) := by omega
    have he : s.length - (s.drop i).length = i := by omega
    rw [strp_drop2 hi h, he]
    simp (maxSteps := 2000000) (disch := omega) only [go_sem, doCall, doCallQ, doCallP, Nat.reduceAdd, Nat.reduceMul, Nat.reduceSub, Nat.reduceDiv, Nat.reduceMod, Nat.reduceLT, Nat.reduceLeDiff, Nat.reduceEqDiff, Nat.reduceBEq, Nat.reduceBNe, Int.reduceToNat, Int.reduceLT, Int.reduceLE, Int.reduceEq, Int.reduceNe, Int.reduceAdd, Int.reduceSub, Int.reduceMul, Int.reduceNeg, u91_1, lb91_1, hlt, hi, hw, hg, hwl, Int.natCast_nonneg, Int.toNat_natCast, Option.getD_some, Option.getD_none, List.drop_zero, Nat.sub_zero, Nat.zero_le, true_and, and_true, Nat.le_refl, chk_of]
termination_by s.length - i
theorem lp_rparse2 (t : List UInt8) (ht : t.all isD = true) (hl : t.length ≤ 1000000000) (hv : val t ≤ 4611686018427387903) (k : Ex → St → Option (AV × Heap)) (i : Nat) (hi : i ≤ t.length) :
    (bnd (evC (call ir) (loop ir) lp91_2 (st91_2 0 (dS t) (dI ((val (t.take i) : Nat) : Int)) (dI i) [])) (lpC (call ir) (loop ir) [6, 7, 8] lp91_2 k)) = k (.exit 4) (clean [7] (st91_2 0 .unk (dI ((val t : Nat) : Int)) .unk [])) := by
  by_cases h : i = t.length
  · have hx : ¬ (i : Int) < t.length := by omega
    rw [h] at hx
    rw [h, List.take_length]
    simp (maxSteps := 2000000) (disch := omega) only [go_sem, doCall, doCallQ, doCallP, Nat.reduceAdd, Nat.reduceMul, Nat.reduceSub, Nat.reduceDiv, Nat.reduceMod, Nat.reduceLT, Nat.reduceLeDiff, Nat.reduceEqDiff, Nat.reduceBEq, Nat.reduceBNe, Int.reduceToNat, Int.reduceLT, Int.reduceLE, Int.reduceEq, Int.reduceNe, Int.reduceAdd, Int.reduceSub, Int.reduceMul, Int.reduceNeg, u91_2, lb91_2, hx]
  · have hlt : (i : Int) < t.length := by omega
    have hi' : i < t.length := by omega
    have hw := wr_succ (i := i) (by omega)
    have hg := g8 hi'
    have hd : isD t[i] = true := List.all_eq_true.1 ht _ (List.getElem_mem hi')
    obtain ⟨d1, d2⟩ := isD_t hd
    have hv1 := val_take hi'
    have hv2 := val_take_le t (i + 1) (by omega)
    have ih := lp_rparse2 t ht hl hv k (i + 1) (by omega)
    have h0 : wr .i64 (t[i].toNat : Int) = (t[i].toNat : Int) := wr_id (by omega)
    have h1 : wr .i64 (10 * ((val (t.take i) : Nat) : Int)) = 10 * ((val (t.take i) : Nat) : Int) := wr_id (by omega)
    have h2 : wr .i64 (10 * ((val (t.take i) : Nat) : Int) + (t[i].toNat : Int)) = 10 * ((val (t.take i) : Nat) : Int) + (t[i].toNat : Int) := wr_id (by omega)
    have h3 : wr .i64 (10 * ((val (t.take i) : Nat) : Int) + (t[i].toNat : Int) - 48) = ((val (t.take (i + 1)) : Nat) : Int) := by rw [wr_id (by omega)]; omega
    simp (maxSteps := 2000000) (disch := omega) only [go_sem, doCall, doCallQ, doCallP, Nat.reduceAdd, Nat.reduceMul, Nat.reduceSub, Nat.reduceDiv, Nat.reduceMod, Nat.reduceLT, Nat.reduceLeDiff, Nat.reduceEqDiff, Nat.reduceBEq, Nat.reduceBNe, Int.reduceToNat, Int.reduceLT, Int.reduceLE, Int.reduceEq, Int.reduceNe, Int.reduceAdd, Int.reduceSub, Int.reduceMul, Int.reduceNeg, u91_2, lb91_2, hlt, hi', hw, hg, h0, h1, h2, h3, Int.natCast_nonneg, Int.toNat_natCast, Option.getD_some, Option.getD_none, List.drop_zero, Nat.sub_zero, Nat.zero_le, true_and, and_true, Nat.le_refl, chk_of]
    rw [loop_step1]; simp (maxSteps := 2000000) only [go_sem, doCall, doCallQ, doCallP, Nat.reduceAdd, Nat.reduceMul, Nat.reduceSub, Nat.reduceDiv, Nat.reduceMod, Nat.reduceLT, Nat.reduceLeDiff, Nat.reduceEqDiff, Nat.reduceBEq, Nat.reduceBNe, Int.reduceToNat, Int.reduceLT, Int.reduceLE, Int.reduceEq, Int.reduceNe, Int.reduceAdd, Int.reduceSub, Int.reduceMul, Int.reduceNeg]; exact ih
termination_by t.length - i
theorem t_rparse (s : List UInt8) (hs : s.length ≤ 1000000000) : call ir 91 [dS s] [] = some (.tup [dI (prs s).1, dI (prs s).2], []) := by
  rw [call_eq (fn := ir91) rfl, evF_bnd, prs_eq]
  by_cases hne : s = []
  · subst hne
    rw [if_pos (.inl rfl)]
    simp (maxSteps := 2000000) only [go_sem, doCall, doCallQ, doCallP, Nat.reduceAdd, Nat.reduceMul, Nat.reduceSub, Nat.reduceDiv, Nat.reduceMod, Nat.reduceLT, Nat.reduceLeDiff, Nat.reduceEqDiff, Nat.reduceBEq, Nat.reduceBNe, Int.reduceToNat, Int.reduceLT, Int.reduceLE, Int.reduceEq, Int.reduceNe, Int.reduceAdd, Int.reduceSub, Int.reduceMul, Int.reduceNeg, bd91, List.length_nil]
  · have hpos : 0 < s.length := List.length_pos_iff.2 hne
    have hz : ¬ ((s.length : Nat) : Int) = 0 := by omega
    simp (maxSteps := 2000000) (disch := omega) only [go_sem, doCall, doCallQ, doCallP, Nat.reduceAdd, Nat.reduceMul, Nat.reduceSub, Nat.reduceDiv, Nat.reduceMod, Nat.reduceLT, Nat.reduceLeDiff, Nat.reduceEqDiff, Nat.reduceBEq, Nat.reduceBNe, Int.reduceToNat, Int.reduceLT, Int.reduceLE, Int.reduceEq, Int.reduceNe, Int.reduceAdd, Int.reduceSub, Int.reduceMul, Int.reduceNeg, bd91, hz]
    rw [loop_step1]
    simp (maxSteps := 2000000) only [go_sem, doCall, doCallQ, doCallP, Nat.reduceAdd, Nat.reduceMul, Nat.reduceSub, Nat.reduceDiv, Nat.reduceMod, Nat.reduceLT, Nat.reduceLeDiff, Nat.reduceEqDiff, Nat.reduceBEq, Nat.reduceBNe, Int.reduceToNat, Int.reduceLT, Int.reduceLE, Int.reduceEq, Int.reduceNe, Int.reduceAdd, Int.reduceSub, Int.reduceMul, Int.reduceNeg]
    refine Eq.trans (lp_rparse0 s hs _ 0 (by omega)) ?_
    rw [List.drop_zero]
    cases ha : s.all isD
    · rw [if_neg (by simp), if_pos (.inr rfl)]
      simp (maxSteps := 2000000) only [go_sem, doCall, doCallQ, doCallP, Nat.reduceAdd, Nat.reduceMul, Nat.reduceSub, Nat.reduceDiv, Nat.reduceMod, Nat.reduceLT, Nat.reduceLeDiff, Nat.reduceEqDiff, Nat.reduceBEq, Nat.reduceBNe, Int.reduceToNat, Int.reduceLT, Int.reduceLE, Int.reduceEq, Int.reduceNe, Int.reduceAdd, Int.reduceSub, Int.reduceMul, Int.reduceNeg]
    · rw [if_pos rfl, if_neg (by simp [hne])]
      simp (maxSteps := 2000000) only [go_sem, doCall, doCallQ, doCallP, Nat.reduceAdd, Nat.reduceMul, Nat.reduceSub, Nat.reduceDiv, Nat.reduceMod, Nat.reduceLT, Nat.reduceLeDiff, Nat.reduceEqDiff, Nat.reduceBEq, Nat.reduceBNe, Int.reduceToNat, Int.reduceLT, Int.reduceLE, Int.reduceEq, Int.reduceNe, Int.reduceAdd, Int.reduceSub, Int.reduceMul, Int.reduceNeg]
      rw [loop_step1]
      simp (maxSteps := 2000000) only [go_sem, doCall, doCallQ, doCallP, Nat.reduceAdd, Nat.reduceMul, Nat.reduceSub, Nat.reduceDiv, Nat.reduceMod, Nat.reduceLT, Nat.reduceLeDiff, Nat.reduceEqDiff, Nat.reduceBEq, Nat.reduceBNe, Int.reduceToNat, Int.reduceLT, Int.reduceLE, Int.reduceEq, Int.reduceNe, Int.reduceAdd, Int.reduceSub, Int.reduceMul, Int.reduceNeg]
      have h1 := fun k => lp_rparse1 s hs k 0 hpos
      rw [List.drop_zero] at h1
      refine Eq.trans (h1 _) ?_
      have hsl := strp_len s
      have hd := strp_drop s
      have hall := strp_all ha
      have hov := over_iff hall (strp_head s hne)
      rw [strp_val] at hov
      have hle : s.length - (strp s).length ≤ s.length := by omega
      have htk : (strp s).take (s.length - (s.length - (strp s).length)) = strp s := List.take_of_length_le (by omega)
      have htot := bytesLt_tot (strp s) mxs
      by_cases hv : 4611686018427387903 < val s
      · rw [if_pos hv]
        rcases hov.2 hv with h5 | ⟨h5, h6⟩
        · have h5' := eq_true (show (19 : Int) < (((strp s).length : Nat) : Int) by omega)
          simp (maxSteps := 2000000) (disch := omega) only [go_sem, doCall, doCallQ, doCallP, Nat.reduceAdd, Nat.reduceMul, Nat.reduceSub, Nat.reduceDiv, Nat.reduceMod, Nat.reduceLT, Nat.reduceLeDiff, Nat.reduceEqDiff, Nat.reduceBEq, Nat.reduceBNe, Int.reduceToNat, Int.reduceLT, Int.reduceLE, Int.reduceEq, Int.reduceNe, Int.reduceAdd, Int.reduceSub, Int.reduceMul, Int.reduceNeg, hd, hle, htk, h5', Int.natCast_nonneg, Int.toNat_natCast, Option.getD_some, Option.getD_none, List.drop_zero, Nat.sub_zero, Nat.zero_le, true_and, and_true, Nat.le_refl, chk_of]
        · have h5' := eq_false (show ¬ (19 : Int) < (((strp s).length : Nat) : Int) by omega)
          have h5'' := eq_true (show (((strp s).length : Nat) : Int) = 19 by omega)
          unfold mxs at htot h6
          rw [h6] at htot
          simp (maxSteps := 2000000) (disch := omega) only [go_sem, doCall, doCallQ, doCallP, Nat.reduceAdd, Nat.reduceMul, Nat.reduceSub, Nat.reduceDiv, Nat.reduceMod, Nat.reduceLT, Nat.reduceLeDiff, Nat.reduceEqDiff, Nat.reduceBEq, Nat.reduceBNe, Int.reduceToNat, Int.reduceLT, Int.reduceLE, Int.reduceEq, Int.reduceNe, Int.reduceAdd, Int.reduceSub, Int.reduceMul, Int.reduceNeg, hd, hle, htk, h5', h5'', htot, Int.natCast_nonneg, Int.toNat_natCast, Option.getD_some, Option.getD_none, List.drop_zero, Nat.sub_zero, Nat.zero_le, true_and, and_true, Nat.le_refl, chk_of]
      · rw [if_neg hv]
        have h5 : ¬ 19 < (strp s).length := fun h => hv (hov.1 (.inl h))
        have h5' := eq_false (show ¬ (19 : Int) < (((strp s).length : Nat) : Int) by omega)
        have h7 := fun k => lp_rparse2 (strp s) hall (by omega) (by rw [strp_val]; omega) k 0 (by omega)
        simp only [List.take_zero, strp_val] at h7
        by_cases h6 : (strp s).length = 19
        · have h5'' := eq_true (show (((strp s).length : Nat) : Int) = 19 by omega)
          have h8 : bytesLt mxs (strp s) = false := by
            cases h : bytesLt mxs (strp s)
            · rfl
            · exact absurd (hov.1 (.inr ⟨h6, h⟩)) hv
          unfold mxs at htot h8
          rw [h8] at htot
          simp (maxSteps := 2000000) (disch := omega) only [go_sem, doCall, doCallQ, doCallP, Nat.reduceAdd, Nat.reduceMul, Nat.reduceSub, Nat.reduceDiv, Nat.reduceMod, Nat.reduceLT, Nat.reduceLeDiff, Nat.reduceEqDiff, Nat.reduceBEq, Nat.reduceBNe, Int.reduceToNat, Int.reduceLT, Int.reduceLE, Int.reduceEq, Int.reduceNe, Int.reduceAdd, Int.reduceSub, Int.reduceMul, Int.reduceNeg, hd, hle, htk, h5', h5'', htot, Int.natCast_nonneg, Int.toNat_natCast, Option.getD_some, Option.getD_none, List.drop_zero, Nat.sub_zero, Nat.zero_le, true_and, and_true, Nat.le_refl, chk_of]
          rw [loop_step1]
          simp (maxSteps := 2000000) only [go_sem, doCall, doCallQ, doCallP, Nat.reduceAdd, Nat.reduceMul, Nat.reduceSub, Nat.reduceDiv, Nat.reduceMod, Nat.reduceLT, Nat.reduceLeDiff, Nat.reduceEqDiff, Nat.reduceBEq, Nat.reduceBNe, Int.reduceToNat, Int.reduceLT, Int.reduceLE, Int.reduceEq, Int.reduceNe, Int.reduceAdd, Int.reduceSub, Int.reduceMul, Int.reduceNeg]
          refine Eq.trans (h7 _) ?_
          simp (maxSteps := 2000000) only [go_sem, doCall, doCallQ, doCallP, Nat.reduceAdd, Nat.reduceMul, Nat.reduceSub, Nat.reduceDiv, Nat.reduceMod, Nat.reduceLT, Nat.reduceLeDiff, Nat.reduceEqDiff, Nat.reduceBEq, Nat.reduceBNe, Int.reduceToNat, Int.reduceLT, Int.reduceLE, Int.reduceEq, Int.reduceNe, Int.reduceAdd, Int.reduceSub, Int.reduceMul, Int.reduceNeg]
        · have h5'' := eq_false (show ¬ (((strp s).length : Nat) : Int) = 19 by omega)
          simp (maxSteps := 2000000) (disch := omega) only [go_sem, doCall, doCallQ, doCallP, Nat.reduceAdd, Nat.reduceMul, Nat.reduceSub, Nat.reduceDiv, Nat.reduceMod, Nat.reduceLT, Nat.reduceLeDiff, Nat.reduceEqDiff, Nat.reduceBEq, Nat.reduceBNe, Int.reduceToNat, Int.reduceLT, Int.reduceLE, Int.reduceEq, Int.reduceNe, Int.reduceAdd, Int.reduceSub, Int.reduceMul, Int.reduceNeg, hd, hle, htk, h5', h5'', Int.natCast_nonneg, Int.toNat_natCast, Option.getD_some, Option.getD_none, List.drop_zero, Nat.sub_zero, Nat.zero_le, true_and, and_true, Nat.le_refl, chk_of]
          rw [loop_step1]
          simp (maxSteps := 2000000) only [go_sem, doCall, doCallQ, doCallP, Nat.reduceAdd, Nat.reduceMul, Nat.reduceSub, Nat.reduceDiv, Nat.reduceMod, Nat.reduceLT, Nat.reduceLeDiff, Nat.reduceEqDiff, Nat.reduceBEq, Nat.reduceBNe, Int.reduceToNat, Int.reduceLT, Int.reduceLE, Int.reduceEq, Int.reduceNe, Int.reduceAdd, Int.reduceSub, Int.reduceMul, Int.reduceNeg]
          refine Eq.trans (h7 _) ?_
          simp (maxSteps := 2000000) only [go_sem, doCall, doCallQ, doCallP, Nat.reduceAdd, Nat.reduceMul, Nat.reduceSub, Nat.reduceDiv, Nat.reduceMod, Nat.reduceLT, Nat.reduceLeDiff, Nat.reduceEqDiff, Nat.reduceBEq, Nat.reduceBNe, Int.reduceToNat, Int.reduceLT, Int.reduceLE, Int.reduceEq, Int.reduceNe, Int.reduceAdd, Int.reduceSub, Int.reduceMul, Int.reduceNeg]
end Go.Proofs.YtpibecljdooilaaDoor
