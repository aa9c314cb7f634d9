/- The law's changes: they rise or not; what is gone. Own work. -/
import Derived.Test.YtbcpffhialoliaaDfE
namespace Go.Proofs.Ytbcpffhialoliaa
open Go Go.Ev Go.Proofs.Ytbcpffhialoliaa.Ir
set_option maxRecDepth 100000
set_option maxHeartbeats 4000000
set_option linter.unusedSimpArgs false
set_option linter.unusedVariables false
/-! ### what rises -/
theorem adj_pair {β : Type} [Inhabited β] (f : β → Int) : ∀ (l : List β), (∀ j, 0 < j → j < l.length → f (l.getD (j - 1) default) < f (l.getD j default)) → l.Pairwise (fun a b => f a < f b)
  | [], _ => .nil
  | [x], _ => by simp
  | x :: y :: l, h => by
    have ih := adj_pair f (y :: l) (fun j h1 h2 => by
      have := h (j + 1) (by omega) (by simp at h2 ⊢; omega)
      obtain ⟨q, rfl⟩ : ∃ q, j = q + 1 := ⟨j - 1, by omega⟩
      simpa using this)
    have h0 : f x < f y := by simpa using h 1 (by omega) (by simp)
    refine List.pairwise_cons.2 ⟨fun z hz => ?_, ih⟩
    rcases List.mem_cons.1 hz with rfl | hz
    · exact h0
    · have := (List.pairwise_cons.1 ih).1 z hz
      omega
theorem pair_adj {β : Type} [Inhabited β] (f : β → Int) {l : List β} (h : l.Pairwise (fun a b => f a < f b)) {j : Nat} (h1 : 0 < j) (h2 : j < l.length) : f (l.getD (j - 1) default) < f (l.getD j default) := by
  have := List.pairwise_iff_getElem.1 h (j - 1) j (by omega) h2 (by omega)
  simpa [List.getD_eq_getElem?_getD, h2, show j - 1 < l.length by omega] using this
theorem op_all (ob ge : Int) (l : List Pc) : ∀ (n i : Nat), l.length - i = n → (opF ob ge l i = true ↔ ∀ j, i ≤ j → j < l.length → okP ob ge l j) := by
  intro n
  induction n with
  | zero =>
    intro i h
    rw [opF, dif_neg (by omega)]
    simp; intro j h1 h2; omega
  | succ n ih =>
    intro i h
    rw [opF_at (by omega), Bool.and_eq_true, ih (i + 1) (by omega), decide_eq_true_iff]
    constructor
    · intro h1 j h2 h3
      by_cases e : i = j
      · subst e; exact h1.1
      · exact h1.2 j (by omega) h3
    · intro h1
      exact ⟨h1 i (Nat.le_refl _) (by omega), fun j h2 h3 => h1 j (by omega) h3⟩
theorem rt_all (l : List Hd) : ∀ (n i : Nat), l.length - i = n → (rtF l i = true ↔ ∀ j, i ≤ j → j < l.length → oneR (l.getD j default) = true ∧ okH l j) := by
  intro n
  induction n with
  | zero =>
    intro i h
    rw [rtF, dif_neg (by omega)]
    simp; intro j h1 h2; omega
  | succ n ih =>
    intro i h
    rw [rtF_at (by omega), Bool.and_eq_true, ih (i + 1) (by omega), Bool.and_eq_true, decide_eq_true_iff, ← gH (show i < l.length by omega)]
    constructor
    · intro h1 j h2 h3
      by_cases e : i = j
      · subst e; exact h1.1
      · exact h1.2 j (by omega) h3
    · intro h1
      exact ⟨h1 i (Nat.le_refl _) (by omega), fun j h2 h3 => h1 j (by omega) h3⟩
theorem one_iff (d : Hd) : oneR d = true ↔ (∀ p ∈ d.ps, p.ob = d.ob ∧ p.ge = d.ge) ∧ d.ps.Pairwise (fun a b => a.ix < b.ix) := by
  unfold oneR
  rw [op_all d.ob d.ge d.ps _ 0 rfl]
  unfold okP
  constructor
  · intro h
    refine ⟨fun p hp => ?_, adj_pair (·.ix) d.ps fun j h1 h2 => ?_⟩
    · obtain ⟨j, hj, rfl⟩ := List.mem_iff_getElem.1 hp
      have := h j (Nat.zero_le _) hj
      rw [gP hj] at this
      exact ⟨this.1, this.2.1⟩
    · have := (h j (Nat.zero_le _) h2).2.2
      rcases this with h0 | h0
      · omega
      · exact h0
  · rintro ⟨h1, h2⟩ j _ hj
    have := h1 _ (List.getElem_mem hj)
    rw [gP hj]
    refine ⟨this.1, this.2, ?_⟩
    by_cases h0 : j = 0
    · exact .inl h0
    · have := pair_adj (·.ix) h2 (by omega) hj
      rw [gP hj] at this
      exact .inr this
theorem rt_iff (l : List Hd) : rtR l = true ↔ (∀ d ∈ l, oneR d = true) ∧ l.Pairwise (fun a b => a.ob < b.ob) := by
  unfold rtR
  rw [rt_all l _ 0 rfl]
  unfold okH
  constructor
  · intro h
    refine ⟨fun p hp => ?_, adj_pair (·.ob) l fun j h1 h2 => ?_⟩
    · obtain ⟨j, hj, rfl⟩ := List.mem_iff_getElem.1 hp
      have := h j (Nat.zero_le _) hj
      rw [gH hj] at this
      exact this.1
    · have := (h j (Nat.zero_le _) h2).2
      rcases this with h0 | h0
      · omega
      · exact h0
  · rintro ⟨h1, h2⟩ j _ hj
    rw [gH hj]
    refine ⟨h1 _ (List.getElem_mem hj), ?_⟩
    by_cases h0 : j = 0
    · exact .inl h0
    · have := pair_adj (·.ob) h2 (by omega) hj
      rw [gH hj] at this
      exact .inr this
theorem nod_of {β : Type} {f : β → Int} {l : List β} (h : l.Pairwise (fun a b => f a < f b)) : (l.map f).Nodup := by
  rw [List.nodup_iff_pairwise_ne, List.pairwise_map]
  exact h.imp fun h => by omega
theorem srt_same {β : Type} {f : β → Int} {l : List β} (h : l.Pairwise (fun a b => f a < f b)) : srtK f l = l :=
  sorted_one f _ _ (srtK_perm f l) (((srtK_perm f l).map f).nodup_iff.2 (nod_of h)) (srtK_sorted f l) (h.imp fun h => by omega)
theorem srt_strict {β : Type} {f : β → Int} {l : List β} (h : (l.map f).Nodup) : (srtK f l).Pairwise (fun a b => f a < f b) := by
  have h1 := srtK_sorted f l
  have h2 : ((srtK f l).map f).Nodup := ((srtK_perm f l).map f).nodup_iff.2 h
  rw [List.nodup_iff_pairwise_ne, List.pairwise_map] at h2
  exact (h1.and h2).imp fun h => by omega
/-! ### the changes -/
theorem w0 : wr .i64 0 = 0 := wr_id (by omega)
theorem w1 : wr .i64 1 = 1 := wr_id (by omega)
theorem w2 : wr .i64 2 = 2 := wr_id (by omega)
theorem t_rise1 (o : Int) (b : Bool) (L : List (List D)) : call ir 31 [.d (.list 10 [[.int .i64 o, .bool false, .bool b, .int .i64 0, .int .i64 0, .str [], .int .i64 0, .int .i64 0, .list 4 [], .list 1 L]])] [] = some (dT true, []) := by
  rw [call_eq (fn := ir31) rfl, evF_bnd]
  simp (maxSteps := 2000000) (disch := omega) only [go_sem, doCall, doCallQ, doCallP, Nat.reduceAdd, Nat.reduceMul, Nat.reduceSub, Nat.reduceDiv, Nat.reduceMod, Nat.reduceLT, Nat.reduceLeDiff, Nat.reduceEqDiff, Nat.reduceBEq, Nat.reduceBNe, Int.reduceToNat, Int.reduceLT, Int.reduceLE, Int.reduceEq, Int.reduceNe, Int.reduceAdd, Int.reduceSub, Int.reduceMul, Int.reduceNeg, bd31, List.length_cons, List.length_nil, Int.natCast_nonneg, Int.toNat_natCast, Option.getD_some, Option.getD_none, List.drop_zero, Nat.sub_zero, Nat.zero_le, true_and, and_true, Nat.le_refl, chk_of]
  rw [loop_step1]
  simp (maxSteps := 2000000) (disch := omega) only [go_sem, doCall, doCallQ, doCallP, Nat.reduceAdd, Nat.reduceMul, Nat.reduceSub, Nat.reduceDiv, Nat.reduceMod, Nat.reduceLT, Nat.reduceLeDiff, Nat.reduceEqDiff, Nat.reduceBEq, Nat.reduceBNe, Int.reduceToNat, Int.reduceLT, Int.reduceLE, Int.reduceEq, Int.reduceNe, Int.reduceAdd, Int.reduceSub, Int.reduceMul, Int.reduceNeg, u31_0, lb31_0, w1, List.length_cons, List.length_nil, Nat.zero_add, List.getD_cons_zero, List.getD_cons_succ, Int.natCast_nonneg, Int.toNat_natCast, Option.getD_some, Option.getD_none, List.drop_zero, Nat.sub_zero, Nat.zero_le, true_and, and_true, Nat.le_refl, chk_of]
  rw [loop_step1]
  simp (maxSteps := 2000000) (disch := omega) only [go_sem, doCall, doCallQ, doCallP, Nat.reduceAdd, Nat.reduceMul, Nat.reduceSub, Nat.reduceDiv, Nat.reduceMod, Nat.reduceLT, Nat.reduceLeDiff, Nat.reduceEqDiff, Nat.reduceBEq, Nat.reduceBNe, Int.reduceToNat, Int.reduceLT, Int.reduceLE, Int.reduceEq, Int.reduceNe, Int.reduceAdd, Int.reduceSub, Int.reduceMul, Int.reduceNeg, u31_0, lb31_0, w0, w1, w2, List.length_cons, List.length_nil, Nat.zero_add, List.getD_cons_zero, List.getD_cons_succ, Int.lt_irrefl, Int.le_refl, not_true, not_false_eq_true, Int.natCast_nonneg, Int.toNat_natCast, Option.getD_some, Option.getD_none, List.drop_zero, Nat.sub_zero, Nat.zero_le, true_and, and_true, Nat.le_refl, chk_of]
  all_goals trace_state
theorem t_rise2 (o : Int) : call ir 31 [.d (.list 10 [[.int .i64 o, .bool false, .bool false, .int .i64 0, .int .i64 0, .str [], .int .i64 0, .int .i64 0, .list 4 [], .list 1 []], [.int .i64 o, .bool false, .bool false, .int .i64 0, .int .i64 0, .str [], .int .i64 0, .int .i64 0, .list 4 [], .list 1 []]])] [] = some (dT false, []) := by
  rw [call_eq (fn := ir31) rfl, evF_bnd]
  simp (maxSteps := 2000000) (disch := omega) only [go_sem, doCall, doCallQ, doCallP, Nat.reduceAdd, Nat.reduceMul, Nat.reduceSub, Nat.reduceDiv, Nat.reduceMod, Nat.reduceLT, Nat.reduceLeDiff, Nat.reduceEqDiff, Nat.reduceBEq, Nat.reduceBNe, Int.reduceToNat, Int.reduceLT, Int.reduceLE, Int.reduceEq, Int.reduceNe, Int.reduceAdd, Int.reduceSub, Int.reduceMul, Int.reduceNeg, bd31, List.length_cons, List.length_nil, Int.natCast_nonneg, Int.toNat_natCast, Option.getD_some, Option.getD_none, List.drop_zero, Nat.sub_zero, Nat.zero_le, true_and, and_true, Nat.le_refl, chk_of]
  rw [loop_step1]
  simp (maxSteps := 2000000) (disch := omega) only [go_sem, doCall, doCallQ, doCallP, Nat.reduceAdd, Nat.reduceMul, Nat.reduceSub, Nat.reduceDiv, Nat.reduceMod, Nat.reduceLT, Nat.reduceLeDiff, Nat.reduceEqDiff, Nat.reduceBEq, Nat.reduceBNe, Int.reduceToNat, Int.reduceLT, Int.reduceLE, Int.reduceEq, Int.reduceNe, Int.reduceAdd, Int.reduceSub, Int.reduceMul, Int.reduceNeg, u31_0, lb31_0, w1, List.length_cons, List.length_nil, Nat.zero_add, List.getD_cons_zero, List.getD_cons_succ, Int.natCast_nonneg, Int.toNat_natCast, Option.getD_some, Option.getD_none, List.drop_zero, Nat.sub_zero, Nat.zero_le, true_and, and_true, Nat.le_refl, chk_of]
  rw [loop_step1]
  simp (maxSteps := 2000000) (disch := omega) only [go_sem, doCall, doCallQ, doCallP, Nat.reduceAdd, Nat.reduceMul, Nat.reduceSub, Nat.reduceDiv, Nat.reduceMod, Nat.reduceLT, Nat.reduceLeDiff, Nat.reduceEqDiff, Nat.reduceBEq, Nat.reduceBNe, Int.reduceToNat, Int.reduceLT, Int.reduceLE, Int.reduceEq, Int.reduceNe, Int.reduceAdd, Int.reduceSub, Int.reduceMul, Int.reduceNeg, u31_0, lb31_0, w0, w1, w2, List.length_cons, List.length_nil, Nat.zero_add, List.getD_cons_zero, List.getD_cons_succ, Int.lt_irrefl, Int.le_refl, not_true, not_false_eq_true, Int.natCast_nonneg, Int.toNat_natCast, Option.getD_some, Option.getD_none, List.drop_zero, Nat.sub_zero, Nat.zero_le, true_and, and_true, Nat.le_refl, chk_of]
  all_goals trace_state
end Go.Proofs.Ytbcpffhialoliaa
