/- Texts: pieces and lists: what the functions do. Own work. Texts: lists of elements: what the functions do. Own work. -/
import Derived.Test.YtplnioclkacgkaaGreatDoorPrwB
namespace Go.Proofs.YtplnioclkacgkaaGreatDoor
open Go Go.Ev Go.Proofs.YtplnioclkacgkaaGreatDoor.Ir Go.Prs
set_option maxRecDepth 100000
set_option maxHeartbeats 4000000
set_option linter.unusedSimpArgs false
set_option linter.unusedVariables false
abbrev rS (l : List (List UInt8)) : List (List D) := l.map fun s => [.str s]
theorem rS_len (l : List (List UInt8)) : (rS l).length = l.length := List.length_map ..
theorem rS_get {l : List (List UInt8)} {i : Nat} (h : i < l.length) : (rS l).getD i [] = [.str l[i]] := by simp [List.getD_eq_getElem?_getD, h]
theorem u8_44 (b : UInt8) : ((b.toNat : Int) = 44) = (b = 44) := propext (u8_eq b 44 (by omega))
theorem putL_len (ps : List (List UInt8)) (x : UInt8) : (putL ps x).length = ps.length := by simp [putL]
theorem pcs_pos (s : List UInt8) : 0 < (pcs s).length := List.length_pos_iff.2 (pcs_ne s)
theorem pcs_lt {s : List UInt8} {i : Nat} (hi : i < (pcs s).length) : ((pcs s)[i]).length ≤ s.length := pcs_sum s _ (List.getElem_mem hi)
theorem lp_pcs (s : List UInt8) (hs : s.length ≤ 1000000000) (k : Ex → St → Option (AV × Heap)) (i : Nat) (hi : i ≤ s.length) (b : Bool) :
    ∃ b' : Bool, (bnd (evC (call ir) (loop ir) lp43_0 (st43_0 0 (dS s) (dT false) (.own 0 1 0 (pcs (s.take i)).length b) (dT false) (dI i) [.arr 1 (rS (pcs (s.take i)))])) (lpC (call ir) (loop ir) [0, 1, 5, 6, 7] lp43_0 k)) = k (.exit 0) (clean [5] (st43_0 0 .unk .unk (.own 0 1 0 (pcs s).length b') .unk .unk [.arr 1 (rS (pcs s))])) := by
  by_cases h : i = s.length
  · have hx : ¬ (i : Int) < s.length := by omega
    rw [h] at hx
    rw [h, List.take_length]
    refine ⟨b, ?_⟩
    simp (maxSteps := 2000000) (disch := omega) only [go_sem, doCall, doCallQ, doCallP, Nat.reduceAdd, Nat.reduceMul, Nat.reduceSub, Nat.reduceDiv, Nat.reduceMod, Nat.reduceLT, Nat.reduceLeDiff, Nat.reduceEqDiff, Nat.reduceBEq, Nat.reduceBNe, Int.reduceToNat, Int.reduceLT, Int.reduceLE, Int.reduceEq, Int.reduceNe, Int.reduceAdd, Int.reduceSub, Int.reduceMul, Int.reduceNeg, u43_0, lb43_0, hx]
  · have hlt : (i : Int) < s.length := by omega
    have hi' : i < s.length := by omega
    have hw := wr_succ (i := i) (by omega)
    have hg := g8 hi'
    have hps := pcs_pos (s.take i)
    have hpl := pcs_len (s.take i)
    have htl : (s.take i).length = i := by rw [List.length_take]; omega
    have hsn := pcs_snoc s[i] (s.take i)
    rw [← List.take_succ_eq_append_getElem hi'] at hsn
    have hrl := rS_len (pcs (s.take i))
    by_cases hc : s[i] = 44
    · have hc' : (s[i].toNat : Int) = 44 := by rw [hc]; rfl
      have hq : ¬ (s[i].toNat : Int) = 34 := by omega
      rw [if_pos hc] at hsn
      have hl2 : (pcs (s.take i) ++ [[]]).length = (pcs (s.take i)).length + 1 := by simp
      have hm2 : rS (pcs (s.take i) ++ [[]]) = rS (pcs (s.take i)) ++ [[D.str []]] := by simp
      obtain ⟨b', ih⟩ := lp_pcs s hs k (i + 1) (by omega) false
      rw [hsn, hl2, hm2] at ih
      refine ⟨b', ?_⟩
      cases b
      · simp (maxSteps := 2000000) (disch := omega) only [go_sem, doCall, doCallQ, doCallP, Nat.reduceAdd, Nat.reduceMul, Nat.reduceSub, Nat.reduceDiv, Nat.reduceMod, Nat.reduceLT, Nat.reduceLeDiff, Nat.reduceEqDiff, Nat.reduceBEq, Nat.reduceBNe, Int.reduceToNat, Int.reduceLT, Int.reduceLE, Int.reduceEq, Int.reduceNe, Int.reduceAdd, Int.reduceSub, Int.reduceMul, Int.reduceNeg, u43_0, lb43_0, hlt, hi', hw, hg, hc', hq, hrl, List.length_cons, List.length_nil, Nat.zero_add, Int.natCast_nonneg, Int.toNat_natCast, Option.getD_some, Option.getD_none, List.drop_zero, Nat.sub_zero, Nat.zero_le, true_and, and_true, Nat.le_refl, chk_of]
        rw [loop_step1]; simp (maxSteps := 2000000) only [go_sem, doCall, doCallQ, doCallP, Nat.reduceAdd, Nat.reduceMul, Nat.reduceSub, Nat.reduceDiv, Nat.reduceMod, Nat.reduceLT, Nat.reduceLeDiff, Nat.reduceEqDiff, Nat.reduceBEq, Nat.reduceBNe, Int.reduceToNat, Int.reduceLT, Int.reduceLE, Int.reduceEq, Int.reduceNe, Int.reduceAdd, Int.reduceSub, Int.reduceMul, Int.reduceNeg]; exact ih
      · have ht : (rS (pcs (s.take i))).take (pcs (s.take i)).length = rS (pcs (s.take i)) := List.take_of_length_le (by rw [hrl]; exact Nat.le_refl _)
        simp (maxSteps := 2000000) (disch := omega) only [go_sem, doCall, doCallQ, doCallP, Nat.reduceAdd, Nat.reduceMul, Nat.reduceSub, Nat.reduceDiv, Nat.reduceMod, Nat.reduceLT, Nat.reduceLeDiff, Nat.reduceEqDiff, Nat.reduceBEq, Nat.reduceBNe, Int.reduceToNat, Int.reduceLT, Int.reduceLE, Int.reduceEq, Int.reduceNe, Int.reduceAdd, Int.reduceSub, Int.reduceMul, Int.reduceNeg, u43_0, lb43_0, hlt, hi', hw, hg, hc', hq, hrl, ht, List.length_cons, List.length_nil, Nat.zero_add, Int.natCast_nonneg, Int.toNat_natCast, Option.getD_some, Option.getD_none, List.drop_zero, Nat.sub_zero, Nat.zero_le, true_and, and_true, Nat.le_refl, chk_of]
        rw [loop_step1]; simp (maxSteps := 2000000) only [go_sem, doCall, doCallQ, doCallP, Nat.reduceAdd, Nat.reduceMul, Nat.reduceSub, Nat.reduceDiv, Nat.reduceMod, Nat.reduceLT, Nat.reduceLeDiff, Nat.reduceEqDiff, Nat.reduceBEq, Nat.reduceBNe, Int.reduceToNat, Int.reduceLT, Int.reduceLE, Int.reduceEq, Int.reduceNe, Int.reduceAdd, Int.reduceSub, Int.reduceMul, Int.reduceNeg]; exact ih
    · have hc' : ¬ (s[i].toNat : Int) = 44 := by rw [u8_44]; exact hc
      rw [if_neg hc] at hsn
      have hlast : (pcs (s.take i)).length - 1 < (pcs (s.take i)).length := by omega
      have hw1 : wr .i64 (((pcs (s.take i)).length : Int) - 1) = (((pcs (s.take i)).length - 1 : Nat) : Int) := by rw [wr_id (by omega)]; omega
      have hgl := rS_get hlast
      have hll := pcs_lt hlast
      have hset : (rS (pcs (s.take i))).set ((pcs (s.take i)).length - 1) [D.str ((pcs (s.take i))[(pcs (s.take i)).length - 1] ++ [s[i]])] = rS (putL (pcs (s.take i)) s[i]) := by
        unfold putL
        rw [List.getD_eq_getElem?_getD, List.getElem?_eq_getElem hlast, Option.getD_some]
        show (List.map _ _).set _ _ = List.map _ _
        rw [List.map_set]
      have hpl2 := putL_len (pcs (s.take i)) s[i]
      obtain ⟨b', ih⟩ := lp_pcs s hs k (i + 1) (by omega) b
      rw [hsn, hpl2] at ih
      refine ⟨b', ?_⟩
      by_cases hq' : (s[i].toNat : Int) = 34
      · have hq := eq_true hq'
        simp (maxSteps := 2000000) (disch := omega) only [go_sem, doCall, doCallQ, doCallP, Nat.reduceAdd, Nat.reduceMul, Nat.reduceSub, Nat.reduceDiv, Nat.reduceMod, Nat.reduceLT, Nat.reduceLeDiff, Nat.reduceEqDiff, Nat.reduceBEq, Nat.reduceBNe, Int.reduceToNat, Int.reduceLT, Int.reduceLE, Int.reduceEq, Int.reduceNe, Int.reduceAdd, Int.reduceSub, Int.reduceMul, Int.reduceNeg, u43_0, lb43_0, hlt, hi', hw, hg, hc', hq, hrl, hw1, hlast, hgl, b2s_l, hset, List.length_cons, List.length_nil, Nat.zero_add, Int.natCast_nonneg, Int.toNat_natCast, Option.getD_some, Option.getD_none, List.drop_zero, Nat.sub_zero, Nat.zero_le, true_and, and_true, Nat.le_refl, chk_of]
        rw [loop_step1]; simp (maxSteps := 2000000) only [go_sem, doCall, doCallQ, doCallP, Nat.reduceAdd, Nat.reduceMul, Nat.reduceSub, Nat.reduceDiv, Nat.reduceMod, Nat.reduceLT, Nat.reduceLeDiff, Nat.reduceEqDiff, Nat.reduceBEq, Nat.reduceBNe, Int.reduceToNat, Int.reduceLT, Int.reduceLE, Int.reduceEq, Int.reduceNe, Int.reduceAdd, Int.reduceSub, Int.reduceMul, Int.reduceNeg]; exact ih
      · have hq := hq'
        simp (maxSteps := 2000000) (disch := omega) only [go_sem, doCall, doCallQ, doCallP, Nat.reduceAdd, Nat.reduceMul, Nat.reduceSub, Nat.reduceDiv, Nat.reduceMod, Nat.reduceLT, Nat.reduceLeDiff, Nat.reduceEqDiff, Nat.reduceBEq, Nat.reduceBNe, Int.reduceToNat, Int.reduceLT, Int.reduceLE, Int.reduceEq, Int.reduceNe, Int.reduceAdd, Int.reduceSub, Int.reduceMul, Int.reduceNeg, u43_0, lb43_0, hlt, hi', hw, hg, hc', hq, hrl, hw1, hlast, hgl, b2s_l, hset, List.length_cons, List.length_nil, Nat.zero_add, Int.natCast_nonneg, Int.toNat_natCast, Option.getD_some, Option.getD_none, List.drop_zero, Nat.sub_zero, Nat.zero_le, true_and, and_true, Nat.le_refl, chk_of]
        rw [loop_step1]; simp (maxSteps := 2000000) only [go_sem, doCall, doCallQ, doCallP, Nat.reduceAdd, Nat.reduceMul, Nat.reduceSub, Nat.reduceDiv, Nat.reduceMod, Nat.reduceLT, Nat.reduceLeDiff, Nat.reduceEqDiff, Nat.reduceBEq, Nat.reduceBNe, Int.reduceToNat, Int.reduceLT, Int.reduceLE, Int.reduceEq, Int.reduceNe, Int.reduceAdd, Int.reduceSub, Int.reduceMul, Int.reduceNeg]; exact ih
termination_by s.length - i
theorem t_pcs (s : List UInt8) (hs : s.length ≤ 1000000000) : ∃ b : Bool, call ir 43 [dS s, dT false] [] = some (.own 0 1 0 (pcs s).length b, [.arr 1 (rS (pcs s))]) := by
  have h0 := fun k => lp_pcs s hs k 0 (by omega) true
  simp only [List.take_zero] at h0
  have h1 : ∀ k, ∃ b' : Bool, (bnd (evC (call ir) (loop ir) lp43_0 (st43_0 0 (dS s) (dT false) (.own 0 1 0 1 true) (dT false) (dI ((0 : Nat) : Int)) [.arr 1 [[.str []]]])) (lpC (call ir) (loop ir) [0, 1, 5, 6, 7] lp43_0 k)) = k (.exit 0) (clean [5] (st43_0 0 .unk .unk (.own 0 1 0 (pcs s).length b') .unk .unk [.arr 1 (rS (pcs s))])) := h0
  obtain ⟨b, hb⟩ := h1 (bk 0 (sq (call ir) (loop ir) (.seq (.reg [⟨some 48, none, .mv (.s 5), .none⟩,
      ⟨some 4, none, .mv (.s 48), .none⟩])
  (.ret none)) (fin ir43)))
  refine ⟨b, ?_⟩
  rw [call_eq (fn := ir43) rfl, evF_bnd]
  simp (maxSteps := 2000000) (disch := omega) only [go_sem, doCall, doCallQ, doCallP, Nat.reduceAdd, Nat.reduceMul, Nat.reduceSub, Nat.reduceDiv, Nat.reduceMod, Nat.reduceLT, Nat.reduceLeDiff, Nat.reduceEqDiff, Nat.reduceBEq, Nat.reduceBNe, Int.reduceToNat, Int.reduceLT, Int.reduceLE, Int.reduceEq, Int.reduceNe, Int.reduceAdd, Int.reduceSub, Int.reduceMul, Int.reduceNeg, bd43]
  rw [loop_step1]
  simp (maxSteps := 2000000) only [go_sem, doCall, doCallQ, doCallP, Nat.reduceAdd, Nat.reduceMul, Nat.reduceSub, Nat.reduceDiv, Nat.reduceMod, Nat.reduceLT, Nat.reduceLeDiff, Nat.reduceEqDiff, Nat.reduceBEq, Nat.reduceBNe, Int.reduceToNat, Int.reduceLT, Int.reduceLE, Int.reduceEq, Int.reduceNe, Int.reduceAdd, Int.reduceSub, Int.reduceMul, Int.reduceNeg]
  refine Eq.trans hb ?_
  simp (maxSteps := 2000000) only [go_sem, doCall, doCallQ, doCallP, Nat.reduceAdd, Nat.reduceMul, Nat.reduceSub, Nat.reduceDiv, Nat.reduceMod, Nat.reduceLT, Nat.reduceLeDiff, Nat.reduceEqDiff, Nat.reduceBEq, Nat.reduceBNe, Int.reduceToNat, Int.reduceLT, Int.reduceLE, Int.reduceEq, Int.reduceNe, Int.reduceAdd, Int.reduceSub, Int.reduceMul, Int.reduceNeg]
end Go.Proofs.YtplnioclkacgkaaGreatDoor
namespace Go.Proofs.YtplnioclkacgkaaGreatDoor
open Go Go.Ev Go.Proofs.YtplnioclkacgkaaGreatDoor.Ir Go.Prs
set_option maxRecDepth 100000
set_option maxHeartbeats 4000000
set_option linter.unusedSimpArgs false
set_option linter.unusedVariables false
theorem els_len : ∀ (fst : Bool) (ps : List (List UInt8)) (out o : List (List UInt8)), els fst ps out = some o → o.length ≤ out.length + ps.length
  | _, [], out, o, h => by simp [els] at h; subst h; simp
  | fst, p :: ps, out, o, h => by
    unfold els at h
    split at h
    · split at h
      · simp at h
      · have := els_len false ps out o h; simp; omega
    · split at h
      · simp at h
      · have := els_len false ps _ o h; simp at this ⊢; omega
abbrev dL (ps : List (List UInt8)) : AV := .d (.list 1 (rS ps))
/-- What a loop over pieces leaves. -/
abbrev elsK (k : Ex → St → Option (AV × Heap)) (a b : St) : Option (List (List UInt8)) → Option (AV × Heap)
  | some o => k (.exit 0) a
  | none => k .ret b
theorem lp_rlist (ps : List (List UInt8)) (hp : ps.length ≤ 1000000000) (hq : ∀ p ∈ ps, p.length ≤ 1000000000) (k : Ex → St → Option (AV × Heap)) (i : Nat) (hi : i ≤ ps.length) (out : List (List UInt8)) (ho : out.length ≤ i) :
    (bnd (evC (call ir) (loop ir) lp42_0 (st42_0 0 (dL ps) (.own 0 1 0 out.length false) (dL ps) (dI ps.length) (dI i) [.arr 1 (rS out)])) (lpC (call ir) (loop ir) [0, 4, 8, 9, 10] lp42_0 k)) = (match els (decide (i = 0)) (ps.drop i) out with
      | some o => k (.exit 0) (clean [4] (st42_0 0 .unk (.own 0 1 0 o.length false) .unk .unk .unk [.arr 1 (rS o)]))
      | none => k .ret (clean [2, 3] ⟨0, [.unk, .unk, .own 0 1 0 0 false, dT false, .unk, .unk, .unk, .unk, .unk, .unk, .unk, .unk, .unk, .unk, .unk, .unk, .unk, .unk, .unk, .unk, .unk, .unk, .unk, .unk, .unk, .unk, .unk, .unk, .unk, .unk, .unk, .unk, .unk, .unk, .unk, .unk, .unk, .unk, .unk, .unk, .unk, .unk, .unk, .unk, .unk, .unk, .unk, .unk, .unk, .unk, .unk, .unk, .unk, .unk], [.arr 1 []]⟩)) := by
  by_cases h : i = ps.length
  · have hx : ¬ (i : Int) < ps.length := by omega
    rw [h] at hx
    rw [h, List.drop_length]
    simp only [els]
    simp (maxSteps := 2000000) (disch := omega) only [go_sem, doCall, doCallQ, doCallP, Nat.reduceAdd, Nat.reduceMul, Nat.reduceSub, Nat.reduceDiv, Nat.reduceMod, Nat.reduceLT, Nat.reduceLeDiff, Nat.reduceEqDiff, Nat.reduceBEq, Nat.reduceBNe, Int.reduceToNat, Int.reduceLT, Int.reduceLE, Int.reduceEq, Int.reduceNe, Int.reduceAdd, Int.reduceSub, Int.reduceMul, Int.reduceNeg, u42_0, lb42_0, hx]
  · have hlt : (i : Int) < ps.length := by omega
    have hi' : i < ps.length := by omega
    have hw := wr_succ (i := i) (by omega)
    have hg := rS_get hi'
    have hpl := hq _ (List.getElem_mem hi')
    have ht := t_rtrim ps[i] hpl
    have hrl := rS_len out
    rw [List.drop_eq_getElem_cons hi']
    simp only [els]
    have hd : (decide (i + 1 = 0)) = false := by simp
    have ih := lp_rlist ps hp hq k (i + 1) (by omega)
    simp only [hd] at ih
    have hnil : ps.drop (i + 1) = [] ↔ i = ps.length - 1 := by rw [List.drop_eq_nil_iff]; omega
    by_cases h1 : trim ps[i] = []
    · rw [if_pos h1]
      have ih := ih out (by omega)
      by_cases h2 : i = 0 ∧ ps.length = 1
      · have h3 := eq_true (show ((ps.length : Nat) : Int) = 1 by omega)
        by_cases h4 : ps[i] = []
        · rw [if_neg (fun h => h.2.2 h4)]
          have h4 := eq_true h4
          simp (maxSteps := 2000000) (disch := omega) only [go_sem, doCall, doCallQ, doCallP, Nat.reduceAdd, Nat.reduceMul, Nat.reduceSub, Nat.reduceDiv, Nat.reduceMod, Nat.reduceLT, Nat.reduceLeDiff, Nat.reduceEqDiff, Nat.reduceBEq, Nat.reduceBNe, Int.reduceToNat, Int.reduceLT, Int.reduceLE, Int.reduceEq, Int.reduceNe, Int.reduceAdd, Int.reduceSub, Int.reduceMul, Int.reduceNeg, u42_0, lb42_0, hlt, hi', hw, hg, ht, h1, h3, h4, Int.natCast_nonneg, Int.toNat_natCast, Option.getD_some, Option.getD_none, List.drop_zero, Nat.sub_zero, Nat.zero_le, true_and, and_true, Nat.le_refl, Nat.zero_add, chk_of]
          rw [loop_step1]; simp (maxSteps := 2000000) only [go_sem, doCall, doCallQ, doCallP, Nat.reduceAdd, Nat.reduceMul, Nat.reduceSub, Nat.reduceDiv, Nat.reduceMod, Nat.reduceLT, Nat.reduceLeDiff, Nat.reduceEqDiff, Nat.reduceBEq, Nat.reduceBNe, Int.reduceToNat, Int.reduceLT, Int.reduceLE, Int.reduceEq, Int.reduceNe, Int.reduceAdd, Int.reduceSub, Int.reduceMul, Int.reduceNeg]; exact ih
        · rw [if_pos ⟨by simp [h2.1], hnil.2 (by omega), h4⟩]
          simp (maxSteps := 2000000) (disch := omega) only [go_sem, doCall, doCallQ, doCallP, Nat.reduceAdd, Nat.reduceMul, Nat.reduceSub, Nat.reduceDiv, Nat.reduceMod, Nat.reduceLT, Nat.reduceLeDiff, Nat.reduceEqDiff, Nat.reduceBEq, Nat.reduceBNe, Int.reduceToNat, Int.reduceLT, Int.reduceLE, Int.reduceEq, Int.reduceNe, Int.reduceAdd, Int.reduceSub, Int.reduceMul, Int.reduceNeg, u42_0, lb42_0, hlt, hi', hw, hg, ht, h1, h3, h4, Int.natCast_nonneg, Int.toNat_natCast, Option.getD_some, Option.getD_none, List.drop_zero, Nat.sub_zero, Nat.zero_le, true_and, and_true, Nat.le_refl, Nat.zero_add, chk_of]
      · rw [if_neg (fun h => h2 ⟨by simpa using h.1, by have := hnil.1 h.2.1; have : i = 0 := by simpa using h.1
                                                        omega⟩)]
        by_cases h5 : (ps.length : Int) = 1
        · exfalso; exact h2 ⟨by omega, by omega⟩
        · simp (maxSteps := 2000000) (disch := omega) only [go_sem, doCall, doCallQ, doCallP, Nat.reduceAdd, Nat.reduceMul, Nat.reduceSub, Nat.reduceDiv, Nat.reduceMod, Nat.reduceLT, Nat.reduceLeDiff, Nat.reduceEqDiff, Nat.reduceBEq, Nat.reduceBNe, Int.reduceToNat, Int.reduceLT, Int.reduceLE, Int.reduceEq, Int.reduceNe, Int.reduceAdd, Int.reduceSub, Int.reduceMul, Int.reduceNeg, u42_0, lb42_0, hlt, hi', hw, hg, ht, h1, h5, Int.natCast_nonneg, Int.toNat_natCast, Option.getD_some, Option.getD_none, List.drop_zero, Nat.sub_zero, Nat.zero_le, true_and, and_true, Nat.le_refl, Nat.zero_add, chk_of]
          rw [loop_step1]; simp (maxSteps := 2000000) only [go_sem, doCall, doCallQ, doCallP, Nat.reduceAdd, Nat.reduceMul, Nat.reduceSub, Nat.reduceDiv, Nat.reduceMod, Nat.reduceLT, Nat.reduceLeDiff, Nat.reduceEqDiff, Nat.reduceBEq, Nat.reduceBNe, Int.reduceToNat, Int.reduceLT, Int.reduceLE, Int.reduceEq, Int.reduceNe, Int.reduceAdd, Int.reduceSub, Int.reduceMul, Int.reduceNeg]; exact ih
    · rw [if_neg h1]
      have hne : ps[i] ≠ [] := fun h => h1 (by rw [h]; rfl)
      have hpos : 0 < ps[i].length := List.length_pos_iff.2 hne
      have hlast : ps[i].length - 1 < ps[i].length := by omega
      have hwl : wr .i64 ((ps[i].length : Int) - 1) = ((ps[i].length - 1 : Nat) : Int) := by rw [wr_id (by omega)]; omega
      have hwn : wr .i64 ((ps.length : Int) - 1) = ((ps.length - 1 : Nat) : Int) := by rw [wr_id (by omega)]; omega
      have b0 := t_rblank (ps[i].getD 0 0)
      have b1 := t_rblank (ps[i].getD (ps[i].length - 1) 0)
      have hl2 : (out ++ [trim ps[i]]).length = out.length + 1 := by simp
      have hm2 : rS (out ++ [trim ps[i]]) = rS out ++ [[D.str (trim ps[i])]] := by simp
      have ih := ih (out ++ [trim ps[i]]) (by rw [hl2]; omega)
      rw [hl2, hm2] at ih
      by_cases h2 : i = 0
      · have h2' : (i : Int) = 0 := by omega
        cases hb0 : isB (ps[i].getD 0 0)
        · rw [hb0] at b0
          by_cases h3 : i = ps.length - 1
          · have h3' : (i : Int) = ((ps.length - 1 : Nat) : Int) := by omega
            have h3t := eq_true h3'
            have h2t := eq_true h2'
            cases hb1 : isB (ps[i].getD (ps[i].length - 1) 0)
            · rw [hb1] at b1
              rw [if_neg (by simp [hb1])]
              simp (maxSteps := 2000000) (disch := omega) only [go_sem, doCall, doCallQ, doCallP, Nat.reduceAdd, Nat.reduceMul, Nat.reduceSub, Nat.reduceDiv, Nat.reduceMod, Nat.reduceLT, Nat.reduceLeDiff, Nat.reduceEqDiff, Nat.reduceBEq, Nat.reduceBNe, Int.reduceToNat, Int.reduceLT, Int.reduceLE, Int.reduceEq, Int.reduceNe, Int.reduceAdd, Int.reduceSub, Int.reduceMul, Int.reduceNeg, u42_0, lb42_0, hlt, hi', hw, hg, ht, h1, h2t, h3t, hpos, hlast, hwl, hwn, b0, b1, hrl, Int.natCast_nonneg, Int.toNat_natCast, Option.getD_some, Option.getD_none, List.drop_zero, Nat.sub_zero, Nat.zero_le, true_and, and_true, Nat.le_refl, Nat.zero_add, List.length_cons, List.length_nil, chk_of]
              rw [loop_step1]; simp (maxSteps := 2000000) only [go_sem, doCall, doCallQ, doCallP, Nat.reduceAdd, Nat.reduceMul, Nat.reduceSub, Nat.reduceDiv, Nat.reduceMod, Nat.reduceLT, Nat.reduceLeDiff, Nat.reduceEqDiff, Nat.reduceBEq, Nat.reduceBNe, Int.reduceToNat, Int.reduceLT, Int.reduceLE, Int.reduceEq, Int.reduceNe, Int.reduceAdd, Int.reduceSub, Int.reduceMul, Int.reduceNeg]; exact ih
            · rw [hb1] at b1
              rw [if_pos (.inr ⟨hnil.2 h3, rfl⟩)]
              simp (maxSteps := 2000000) (disch := omega) only [go_sem, doCall, doCallQ, doCallP, Nat.reduceAdd, Nat.reduceMul, Nat.reduceSub, Nat.reduceDiv, Nat.reduceMod, Nat.reduceLT, Nat.reduceLeDiff, Nat.reduceEqDiff, Nat.reduceBEq, Nat.reduceBNe, Int.reduceToNat, Int.reduceLT, Int.reduceLE, Int.reduceEq, Int.reduceNe, Int.reduceAdd, Int.reduceSub, Int.reduceMul, Int.reduceNeg, u42_0, lb42_0, hlt, hi', hw, hg, ht, h1, h2t, h3t, hpos, hlast, hwl, hwn, b0, b1, hrl, Int.natCast_nonneg, Int.toNat_natCast, Option.getD_some, Option.getD_none, List.drop_zero, Nat.sub_zero, Nat.zero_le, true_and, and_true, Nat.le_refl, Nat.zero_add, List.length_cons, List.length_nil, chk_of]
          · have h3t := eq_false (show ¬ (i : Int) = ((ps.length - 1 : Nat) : Int) by omega)
            have h2t := eq_true h2'
            rw [if_neg (fun h => h.elim (fun h => by simp at h) (fun h => h3 (hnil.1 h.1)))]
            simp (maxSteps := 2000000) (disch := omega) only [go_sem, doCall, doCallQ, doCallP, Nat.reduceAdd, Nat.reduceMul, Nat.reduceSub, Nat.reduceDiv, Nat.reduceMod, Nat.reduceLT, Nat.reduceLeDiff, Nat.reduceEqDiff, Nat.reduceBEq, Nat.reduceBNe, Int.reduceToNat, Int.reduceLT, Int.reduceLE, Int.reduceEq, Int.reduceNe, Int.reduceAdd, Int.reduceSub, Int.reduceMul, Int.reduceNeg, u42_0, lb42_0, hlt, hi', hw, hg, ht, h1, h2t, h3t, hpos, hlast, hwl, hwn, b0, hrl, Int.natCast_nonneg, Int.toNat_natCast, Option.getD_some, Option.getD_none, List.drop_zero, Nat.sub_zero, Nat.zero_le, true_and, and_true, Nat.le_refl, Nat.zero_add, List.length_cons, List.length_nil, chk_of]
            rw [loop_step1]; simp (maxSteps := 2000000) only [go_sem, doCall, doCallQ, doCallP, Nat.reduceAdd, Nat.reduceMul, Nat.reduceSub, Nat.reduceDiv, Nat.reduceMod, Nat.reduceLT, Nat.reduceLeDiff, Nat.reduceEqDiff, Nat.reduceBEq, Nat.reduceBNe, Int.reduceToNat, Int.reduceLT, Int.reduceLE, Int.reduceEq, Int.reduceNe, Int.reduceAdd, Int.reduceSub, Int.reduceMul, Int.reduceNeg]; exact ih
        · rw [hb0] at b0
          have h2t := eq_true h2'
          rw [if_pos (.inl ⟨by simp [h2], rfl⟩)]
          simp (maxSteps := 2000000) (disch := omega) only [go_sem, doCall, doCallQ, doCallP, Nat.reduceAdd, Nat.reduceMul, Nat.reduceSub, Nat.reduceDiv, Nat.reduceMod, Nat.reduceLT, Nat.reduceLeDiff, Nat.reduceEqDiff, Nat.reduceBEq, Nat.reduceBNe, Int.reduceToNat, Int.reduceLT, Int.reduceLE, Int.reduceEq, Int.reduceNe, Int.reduceAdd, Int.reduceSub, Int.reduceMul, Int.reduceNeg, u42_0, lb42_0, hlt, hi', hw, hg, ht, h1, h2t, hpos, b0, hrl, Int.natCast_nonneg, Int.toNat_natCast, Option.getD_some, Option.getD_none, List.drop_zero, Nat.sub_zero, Nat.zero_le, true_and, and_true, Nat.le_refl, Nat.zero_add, List.length_cons, List.length_nil, chk_of]
      · have h2t := eq_false (show ¬ (i : Int) = 0 by omega)
        by_cases h3 : i = ps.length - 1
        · have h3t := eq_true (show (i : Int) = ((ps.length - 1 : Nat) : Int) by omega)
          cases hb1 : isB (ps[i].getD (ps[i].length - 1) 0)
          · rw [hb1] at b1
            rw [if_neg (by simp [h2, hb1])]
            simp (maxSteps := 2000000) (disch := omega) only [go_sem, doCall, doCallQ, doCallP, Nat.reduceAdd, Nat.reduceMul, Nat.reduceSub, Nat.reduceDiv, Nat.reduceMod, Nat.reduceLT, Nat.reduceLeDiff, Nat.reduceEqDiff, Nat.reduceBEq, Nat.reduceBNe, Int.reduceToNat, Int.reduceLT, Int.reduceLE, Int.reduceEq, Int.reduceNe, Int.reduceAdd, Int.reduceSub, Int.reduceMul, Int.reduceNeg, u42_0, lb42_0, hlt, hi', hw, hg, ht, h1, h2t, h3t, hpos, hlast, hwl, hwn, b1, hrl, Int.natCast_nonneg, Int.toNat_natCast, Option.getD_some, Option.getD_none, List.drop_zero, Nat.sub_zero, Nat.zero_le, true_and, and_true, Nat.le_refl, Nat.zero_add, List.length_cons, List.length_nil, chk_of]
            rw [loop_step1]; simp (maxSteps := 2000000) only [go_sem, doCall, doCallQ, doCallP, Nat.reduceAdd, Nat.reduceMul, Nat.reduceSub, Nat.reduceDiv, Nat.reduceMod, Nat.reduceLT, Nat.reduceLeDiff, Nat.reduceEqDiff, Nat.reduceBEq, Nat.reduceBNe, Int.reduceToNat, Int.reduceLT, Int.reduceLE, Int.reduceEq, Int.reduceNe, Int.reduceAdd, Int.reduceSub, Int.reduceMul, Int.reduceNeg]; exact ih
          · rw [hb1] at b1
            rw [if_pos (.inr ⟨hnil.2 h3, rfl⟩)]
            simp (maxSteps := 2000000) (disch := omega) only [go_sem, doCall, doCallQ, doCallP, Nat.reduceAdd, Nat.reduceMul, Nat.reduceSub, Nat.reduceDiv, Nat.reduceMod, Nat.reduceLT, Nat.reduceLeDiff, Nat.reduceEqDiff, Nat.reduceBEq, Nat.reduceBNe, Int.reduceToNat, Int.reduceLT, Int.reduceLE, Int.reduceEq, Int.reduceNe, Int.reduceAdd, Int.reduceSub, Int.reduceMul, Int.reduceNeg, u42_0, lb42_0, hlt, hi', hw, hg, ht, h1, h2t, h3t, hpos, hlast, hwl, hwn, b1, hrl, Int.natCast_nonneg, Int.toNat_natCast, Option.getD_some, Option.getD_none, List.drop_zero, Nat.sub_zero, Nat.zero_le, true_and, and_true, Nat.le_refl, Nat.zero_add, List.length_cons, List.length_nil, chk_of]
        · have h3t := eq_false (show ¬ (i : Int) = ((ps.length - 1 : Nat) : Int) by omega)
          rw [if_neg (fun h => h.elim (fun h => by simp [h2] at h) (fun h => h3 (hnil.1 h.1)))]
          simp (maxSteps := 2000000) (disch := omega) only [go_sem, doCall, doCallQ, doCallP, Nat.reduceAdd, Nat.reduceMul, Nat.reduceSub, Nat.reduceDiv, Nat.reduceMod, Nat.reduceLT, Nat.reduceLeDiff, Nat.reduceEqDiff, Nat.reduceBEq, Nat.reduceBNe, Int.reduceToNat, Int.reduceLT, Int.reduceLE, Int.reduceEq, Int.reduceNe, Int.reduceAdd, Int.reduceSub, Int.reduceMul, Int.reduceNeg, u42_0, lb42_0, hlt, hi', hw, hg, ht, h1, h2t, h3t, hpos, hlast, hwl, hwn, hrl, Int.natCast_nonneg, Int.toNat_natCast, Option.getD_some, Option.getD_none, List.drop_zero, Nat.sub_zero, Nat.zero_le, true_and, and_true, Nat.le_refl, Nat.zero_add, List.length_cons, List.length_nil, chk_of]
          rw [loop_step1]; simp (maxSteps := 2000000) only [go_sem, doCall, doCallQ, doCallP, Nat.reduceAdd, Nat.reduceMul, Nat.reduceSub, Nat.reduceDiv, Nat.reduceMod, Nat.reduceLT, Nat.reduceLeDiff, Nat.reduceEqDiff, Nat.reduceBEq, Nat.reduceBNe, Int.reduceToNat, Int.reduceLT, Int.reduceLE, Int.reduceEq, Int.reduceNe, Int.reduceAdd, Int.reduceSub, Int.reduceMul, Int.reduceNeg]; exact ih
termination_by ps.length - i
theorem t_rlist (ps : List (List UInt8)) (hp : ps.length ≤ 1000000000) (hq : ∀ p ∈ ps, p.length ≤ 1000000000) : call ir 42 [dL ps] [] = (match els true ps [] with
    | some o => some (.tup [.own 0 1 0 o.length false, dT true], [.arr 1 (rS o)])
    | none => some (.tup [.own 0 1 0 0 false, dT false], [.arr 1 []])) := by
  rw [call_eq (fn := ir42) rfl, evF_bnd]
  have hrl := rS_len ps
  simp (maxSteps := 2000000) (disch := omega) only [go_sem, doCall, doCallQ, doCallP, Nat.reduceAdd, Nat.reduceMul, Nat.reduceSub, Nat.reduceDiv, Nat.reduceMod, Nat.reduceLT, Nat.reduceLeDiff, Nat.reduceEqDiff, Nat.reduceBEq, Nat.reduceBNe, Int.reduceToNat, Int.reduceLT, Int.reduceLE, Int.reduceEq, Int.reduceNe, Int.reduceAdd, Int.reduceSub, Int.reduceMul, Int.reduceNeg, bd42, hrl]
  rw [loop_step1]
  simp (maxSteps := 2000000) only [go_sem, doCall, doCallQ, doCallP, Nat.reduceAdd, Nat.reduceMul, Nat.reduceSub, Nat.reduceDiv, Nat.reduceMod, Nat.reduceLT, Nat.reduceLeDiff, Nat.reduceEqDiff, Nat.reduceBEq, Nat.reduceBNe, Int.reduceToNat, Int.reduceLT, Int.reduceLE, Int.reduceEq, Int.reduceNe, Int.reduceAdd, Int.reduceSub, Int.reduceMul, Int.reduceNeg]
  have h0 := fun k => lp_rlist ps hp hq k 0 (by omega) [] (by simp)
  simp only [List.drop_zero, List.length_nil, List.map_nil, decide_true] at h0
  refine Eq.trans (h0 _) ?_
  cases els true ps [] with
  | some o => simp (maxSteps := 2000000) only [go_sem, doCall, doCallQ, doCallP, Nat.reduceAdd, Nat.reduceMul, Nat.reduceSub, Nat.reduceDiv, Nat.reduceMod, Nat.reduceLT, Nat.reduceLeDiff, Nat.reduceEqDiff, Nat.reduceBEq, Nat.reduceBNe, Int.reduceToNat, Int.reduceLT, Int.reduceLE, Int.reduceEq, Int.reduceNe, Int.reduceAdd, Int.reduceSub, Int.reduceMul, Int.reduceNeg]
  | none => simp (maxSteps := 2000000) only [go_sem, doCall, doCallQ, doCallP, Nat.reduceAdd, Nat.reduceMul, Nat.reduceSub, Nat.reduceDiv, Nat.reduceMod, Nat.reduceLT, Nat.reduceLeDiff, Nat.reduceEqDiff, Nat.reduceBEq, Nat.reduceBNe, Int.reduceToNat, Int.reduceLT, Int.reduceLE, Int.reduceEq, Int.reduceNe, Int.reduceAdd, Int.reduceSub, Int.reduceMul, Int.reduceNeg]
theorem lp_list0 (k : Ex → St → Option (AV × Heap)) (rest : List UInt8) (fst : Bool) (out : List (List UInt8)) :
    (bnd (evC (call ir) (loop ir) lp51_0 (st51_0 0 (.own 0 1 0 out.length false) (dS rest) (dT false) (dT fst) [.arr 1 (rS out)])) (lpC (call ir) (loop ir) [4, 5, 6, 7] lp51_0 k)) = k (.exit 0) (clean [4] (st51_0 0 (.own 0 1 0 out.length false) .unk .unk .unk [.arr 1 (rS out)])) := by
  simp (maxSteps := 2000000) only [go_sem, doCall, doCallQ, doCallP, Nat.reduceAdd, Nat.reduceMul, Nat.reduceSub, Nat.reduceDiv, Nat.reduceMod, Nat.reduceLT, Nat.reduceLeDiff, Nat.reduceEqDiff, Nat.reduceBEq, Nat.reduceBNe, Int.reduceToNat, Int.reduceLT, Int.reduceLE, Int.reduceEq, Int.reduceNe, Int.reduceAdd, Int.reduceSub, Int.reduceMul, Int.reduceNeg, u51_0, lb51_0]
theorem lp_list (k : Ex → St → Option (AV × Heap)) (rest : List UInt8) (fst : Bool) (out : List (List UInt8)) (ho : out.length + rest.length ≤ 1000000000) :
    (bnd (evC (call ir) (loop ir) lp51_0 (st51_0 0 (.own 0 1 0 out.length false) (dS rest) (dT true) (dT fst) [.arr 1 (rS out)])) (lpC (call ir) (loop ir) [4, 5, 6, 7] lp51_0 k)) = (match els fst (pcs rest) out with
      | some o => k (.exit 0) (clean [4] (st51_0 0 (.own 0 1 0 o.length false) .unk .unk .unk [.arr 1 (rS o)]))
      | none => k .ret (clean [2, 3] ⟨0, [.unk, .unk, .own 0 1 0 0 false, dT false, .unk, .unk, .unk, .unk, .unk, .unk, .unk, .unk, .unk, .unk, .unk, .unk, .unk, .unk, .unk, .unk, .unk, .unk, .unk, .unk, .unk, .unk, .unk, .unk, .unk, .unk, .unk, .unk, .unk, .unk, .unk, .unk, .unk, .unk, .unk, .unk, .unk, .unk, .unk, .unk, .unk, .unk, .unk, .unk, .unk, .unk, .unk, .unk, .unk, .unk], [.arr 1 []]⟩)) := by
  have hc : call ir 50 [dS rest, .d (.int .u8 44)] [] = some (.tup [dS (cut 44 rest).1, dS (cut 44 rest).2.1, dT (cut 44 rest).2.2], []) := t_cut rest (by omega) 44
  have hp1 := cut_len 44 rest
  have ht := t_trim (cut 44 rest).1 (by omega)
  have hrl := rS_len out
  rw [pcs_cut]
  generalize hp : (cut 44 rest).1 = p at *
  generalize hr : (cut 44 rest).2.1 = r at *
  have hl2 : (out ++ [trim p]).length = out.length + 1 := by simp
  have hm2 : rS (out ++ [trim p]) = rS out ++ [[D.str (trim p)]] := by simp
  cases hm : (cut 44 rest).2.2
  · rw [hm] at hc
    simp only [Bool.false_eq_true, if_false, els]
    have hz := lp_list0 k r false out
    have hz2 := lp_list0 k r false (out ++ [trim p])
    rw [hl2, hm2] at hz2
    by_cases h1 : trim p = []
    · rw [if_pos h1]
      cases fst
      · rw [if_neg (by simp)]
        simp (maxSteps := 2000000) (disch := omega) only [go_sem, doCall, doCallQ, doCallP, Nat.reduceAdd, Nat.reduceMul, Nat.reduceSub, Nat.reduceDiv, Nat.reduceMod, Nat.reduceLT, Nat.reduceLeDiff, Nat.reduceEqDiff, Nat.reduceBEq, Nat.reduceBNe, Int.reduceToNat, Int.reduceLT, Int.reduceLE, Int.reduceEq, Int.reduceNe, Int.reduceAdd, Int.reduceSub, Int.reduceMul, Int.reduceNeg, u51_0, lb51_0, hc, ht, h1, hrl, Int.natCast_nonneg, Int.toNat_natCast, Option.getD_some, Option.getD_none, List.drop_zero, Nat.sub_zero, Nat.zero_le, true_and, and_true, Nat.le_refl, Nat.zero_add, chk_of]
        rw [loop_step1]; simp (maxSteps := 2000000) only [go_sem, doCall, doCallQ, doCallP, Nat.reduceAdd, Nat.reduceMul, Nat.reduceSub, Nat.reduceDiv, Nat.reduceMod, Nat.reduceLT, Nat.reduceLeDiff, Nat.reduceEqDiff, Nat.reduceBEq, Nat.reduceBNe, Int.reduceToNat, Int.reduceLT, Int.reduceLE, Int.reduceEq, Int.reduceNe, Int.reduceAdd, Int.reduceSub, Int.reduceMul, Int.reduceNeg]; exact hz
      · by_cases h4 : p = []
        · rw [if_neg (fun h => h.2.2 h4)]
          have h4 := eq_true h4
          simp (maxSteps := 2000000) (disch := omega) only [go_sem, doCall, doCallQ, doCallP, Nat.reduceAdd, Nat.reduceMul, Nat.reduceSub, Nat.reduceDiv, Nat.reduceMod, Nat.reduceLT, Nat.reduceLeDiff, Nat.reduceEqDiff, Nat.reduceBEq, Nat.reduceBNe, Int.reduceToNat, Int.reduceLT, Int.reduceLE, Int.reduceEq, Int.reduceNe, Int.reduceAdd, Int.reduceSub, Int.reduceMul, Int.reduceNeg, u51_0, lb51_0, hc, ht, h1, h4, hrl, Int.natCast_nonneg, Int.toNat_natCast, Option.getD_some, Option.getD_none, List.drop_zero, Nat.sub_zero, Nat.zero_le, true_and, and_true, Nat.le_refl, Nat.zero_add, chk_of]
          rw [loop_step1]; simp (maxSteps := 2000000) only [go_sem, doCall, doCallQ, doCallP, Nat.reduceAdd, Nat.reduceMul, Nat.reduceSub, Nat.reduceDiv, Nat.reduceMod, Nat.reduceLT, Nat.reduceLeDiff, Nat.reduceEqDiff, Nat.reduceBEq, Nat.reduceBNe, Int.reduceToNat, Int.reduceLT, Int.reduceLE, Int.reduceEq, Int.reduceNe, Int.reduceAdd, Int.reduceSub, Int.reduceMul, Int.reduceNeg]; exact hz
        · rw [if_pos (by simp [h4])]
          simp (maxSteps := 2000000) (disch := omega) only [go_sem, doCall, doCallQ, doCallP, Nat.reduceAdd, Nat.reduceMul, Nat.reduceSub, Nat.reduceDiv, Nat.reduceMod, Nat.reduceLT, Nat.reduceLeDiff, Nat.reduceEqDiff, Nat.reduceBEq, Nat.reduceBNe, Int.reduceToNat, Int.reduceLT, Int.reduceLE, Int.reduceEq, Int.reduceNe, Int.reduceAdd, Int.reduceSub, Int.reduceMul, Int.reduceNeg, u51_0, lb51_0, hc, ht, h1, h4, hrl, Int.natCast_nonneg, Int.toNat_natCast, Option.getD_some, Option.getD_none, List.drop_zero, Nat.sub_zero, Nat.zero_le, true_and, and_true, Nat.le_refl, Nat.zero_add, chk_of]
    · rw [if_neg h1]
      have hne : p ≠ [] := fun h => h1 (by rw [h]; rfl)
      have hpos : 0 < p.length := List.length_pos_iff.2 hne
      have hlast : p.length - 1 < p.length := by omega
      have hwl : wr .i64 ((p.length : Int) - 1) = ((p.length - 1 : Nat) : Int) := by rw [wr_id (by omega)]; omega
      have b0 := t_blank (p.getD 0 0)
      have b1 := t_blank (p.getD (p.length - 1) 0)
      cases hb1 : isB (p.getD (p.length - 1) 0)
      · rw [hb1] at b1
        cases fst
        · rw [if_neg (by simp)]
          simp only [hl2, hm2]
          simp (maxSteps := 2000000) (disch := omega) only [go_sem, doCall, doCallQ, doCallP, Nat.reduceAdd, Nat.reduceMul, Nat.reduceSub, Nat.reduceDiv, Nat.reduceMod, Nat.reduceLT, Nat.reduceLeDiff, Nat.reduceEqDiff, Nat.reduceBEq, Nat.reduceBNe, Int.reduceToNat, Int.reduceLT, Int.reduceLE, Int.reduceEq, Int.reduceNe, Int.reduceAdd, Int.reduceSub, Int.reduceMul, Int.reduceNeg, u51_0, lb51_0, hc, ht, h1, hrl, hpos, hlast, hwl, b1, Int.natCast_nonneg, Int.toNat_natCast, Option.getD_some, Option.getD_none, List.drop_zero, Nat.sub_zero, Nat.zero_le, true_and, and_true, Nat.le_refl, Nat.zero_add, List.length_cons, List.length_nil, chk_of]
          rw [loop_step1]; simp (maxSteps := 2000000) only [go_sem, doCall, doCallQ, doCallP, Nat.reduceAdd, Nat.reduceMul, Nat.reduceSub, Nat.reduceDiv, Nat.reduceMod, Nat.reduceLT, Nat.reduceLeDiff, Nat.reduceEqDiff, Nat.reduceBEq, Nat.reduceBNe, Int.reduceToNat, Int.reduceLT, Int.reduceLE, Int.reduceEq, Int.reduceNe, Int.reduceAdd, Int.reduceSub, Int.reduceMul, Int.reduceNeg]; exact hz2
        · cases hb0 : isB (p.getD 0 0)
          · rw [hb0] at b0
            rw [if_neg (by simp)]
            simp only [hl2, hm2]
            simp (maxSteps := 2000000) (disch := omega) only [go_sem, doCall, doCallQ, doCallP, Nat.reduceAdd, Nat.reduceMul, Nat.reduceSub, Nat.reduceDiv, Nat.reduceMod, Nat.reduceLT, Nat.reduceLeDiff, Nat.reduceEqDiff, Nat.reduceBEq, Nat.reduceBNe, Int.reduceToNat, Int.reduceLT, Int.reduceLE, Int.reduceEq, Int.reduceNe, Int.reduceAdd, Int.reduceSub, Int.reduceMul, Int.reduceNeg, u51_0, lb51_0, hc, ht, h1, hrl, hpos, hlast, hwl, b0, b1, Int.natCast_nonneg, Int.toNat_natCast, Option.getD_some, Option.getD_none, List.drop_zero, Nat.sub_zero, Nat.zero_le, true_and, and_true, Nat.le_refl, Nat.zero_add, List.length_cons, List.length_nil, chk_of]
            rw [loop_step1]; simp (maxSteps := 2000000) only [go_sem, doCall, doCallQ, doCallP, Nat.reduceAdd, Nat.reduceMul, Nat.reduceSub, Nat.reduceDiv, Nat.reduceMod, Nat.reduceLT, Nat.reduceLeDiff, Nat.reduceEqDiff, Nat.reduceBEq, Nat.reduceBNe, Int.reduceToNat, Int.reduceLT, Int.reduceLE, Int.reduceEq, Int.reduceNe, Int.reduceAdd, Int.reduceSub, Int.reduceMul, Int.reduceNeg]; exact hz2
          · rw [hb0] at b0
            rw [if_pos (by simp)]
            simp (maxSteps := 2000000) (disch := omega) only [go_sem, doCall, doCallQ, doCallP, Nat.reduceAdd, Nat.reduceMul, Nat.reduceSub, Nat.reduceDiv, Nat.reduceMod, Nat.reduceLT, Nat.reduceLeDiff, Nat.reduceEqDiff, Nat.reduceBEq, Nat.reduceBNe, Int.reduceToNat, Int.reduceLT, Int.reduceLE, Int.reduceEq, Int.reduceNe, Int.reduceAdd, Int.reduceSub, Int.reduceMul, Int.reduceNeg, u51_0, lb51_0, hc, ht, h1, hrl, hpos, hlast, hwl, b0, b1, Int.natCast_nonneg, Int.toNat_natCast, Option.getD_some, Option.getD_none, List.drop_zero, Nat.sub_zero, Nat.zero_le, true_and, and_true, Nat.le_refl, Nat.zero_add, List.length_cons, List.length_nil, chk_of]
      · rw [hb1] at b1
        rw [if_pos (by simp)]
        cases fst
        · simp (maxSteps := 2000000) (disch := omega) only [go_sem, doCall, doCallQ, doCallP, Nat.reduceAdd, Nat.reduceMul, Nat.reduceSub, Nat.reduceDiv, Nat.reduceMod, Nat.reduceLT, Nat.reduceLeDiff, Nat.reduceEqDiff, Nat.reduceBEq, Nat.reduceBNe, Int.reduceToNat, Int.reduceLT, Int.reduceLE, Int.reduceEq, Int.reduceNe, Int.reduceAdd, Int.reduceSub, Int.reduceMul, Int.reduceNeg, u51_0, lb51_0, hc, ht, h1, hrl, hpos, hlast, hwl, b1, Int.natCast_nonneg, Int.toNat_natCast, Option.getD_some, Option.getD_none, List.drop_zero, Nat.sub_zero, Nat.zero_le, true_and, and_true, Nat.le_refl, Nat.zero_add, List.length_cons, List.length_nil, chk_of]
        · cases hb0 : isB (p.getD 0 0)
          · rw [hb0] at b0
            simp (maxSteps := 2000000) (disch := omega) only [go_sem, doCall, doCallQ, doCallP, Nat.reduceAdd, Nat.reduceMul, Nat.reduceSub, Nat.reduceDiv, Nat.reduceMod, Nat.reduceLT, Nat.reduceLeDiff, Nat.reduceEqDiff, Nat.reduceBEq, Nat.reduceBNe, Int.reduceToNat, Int.reduceLT, Int.reduceLE, Int.reduceEq, Int.reduceNe, Int.reduceAdd, Int.reduceSub, Int.reduceMul, Int.reduceNeg, u51_0, lb51_0, hc, ht, h1, hrl, hpos, hlast, hwl, b0, b1, Int.natCast_nonneg, Int.toNat_natCast, Option.getD_some, Option.getD_none, List.drop_zero, Nat.sub_zero, Nat.zero_le, true_and, and_true, Nat.le_refl, Nat.zero_add, List.length_cons, List.length_nil, chk_of]
          · rw [hb0] at b0
            simp (maxSteps := 2000000) (disch := omega) only [go_sem, doCall, doCallQ, doCallP, Nat.reduceAdd, Nat.reduceMul, Nat.reduceSub, Nat.reduceDiv, Nat.reduceMod, Nat.reduceLT, Nat.reduceLeDiff, Nat.reduceEqDiff, Nat.reduceBEq, Nat.reduceBNe, Int.reduceToNat, Int.reduceLT, Int.reduceLE, Int.reduceEq, Int.reduceNe, Int.reduceAdd, Int.reduceSub, Int.reduceMul, Int.reduceNeg, u51_0, lb51_0, hc, ht, h1, hrl, hpos, hlast, hwl, b0, b1, Int.natCast_nonneg, Int.toNat_natCast, Option.getD_some, Option.getD_none, List.drop_zero, Nat.sub_zero, Nat.zero_le, true_and, and_true, Nat.le_refl, Nat.zero_add, List.length_cons, List.length_nil, chk_of]
  · have hlr := cut_rest_len hm
    rw [hm] at hc
    rw [hp, hr] at hlr
    simp only [if_true, els]
    have hpn : pcs r ≠ [] := pcs_ne r
    have ih := fun o (ho : o.length + r.length ≤ 1000000000) => lp_list k r false o ho
    have hz2 := ih (out ++ [trim p]) (by rw [hl2]; omega)
    have hz := ih out (by omega)
    rw [hl2, hm2] at hz2
    by_cases h1 : trim p = []
    · rw [if_pos h1, if_neg (fun h => hpn h.2.1)]
      cases fst
      · simp (maxSteps := 2000000) (disch := omega) only [go_sem, doCall, doCallQ, doCallP, Nat.reduceAdd, Nat.reduceMul, Nat.reduceSub, Nat.reduceDiv, Nat.reduceMod, Nat.reduceLT, Nat.reduceLeDiff, Nat.reduceEqDiff, Nat.reduceBEq, Nat.reduceBNe, Int.reduceToNat, Int.reduceLT, Int.reduceLE, Int.reduceEq, Int.reduceNe, Int.reduceAdd, Int.reduceSub, Int.reduceMul, Int.reduceNeg, u51_0, lb51_0, hc, ht, h1, hrl, Int.natCast_nonneg, Int.toNat_natCast, Option.getD_some, Option.getD_none, List.drop_zero, Nat.sub_zero, Nat.zero_le, true_and, and_true, Nat.le_refl, Nat.zero_add, chk_of]
        rw [loop_step1]; simp (maxSteps := 2000000) only [go_sem, doCall, doCallQ, doCallP, Nat.reduceAdd, Nat.reduceMul, Nat.reduceSub, Nat.reduceDiv, Nat.reduceMod, Nat.reduceLT, Nat.reduceLeDiff, Nat.reduceEqDiff, Nat.reduceBEq, Nat.reduceBNe, Int.reduceToNat, Int.reduceLT, Int.reduceLE, Int.reduceEq, Int.reduceNe, Int.reduceAdd, Int.reduceSub, Int.reduceMul, Int.reduceNeg]; exact hz
      · simp (maxSteps := 2000000) (disch := omega) only [go_sem, doCall, doCallQ, doCallP, Nat.reduceAdd, Nat.reduceMul, Nat.reduceSub, Nat.reduceDiv, Nat.reduceMod, Nat.reduceLT, Nat.reduceLeDiff, Nat.reduceEqDiff, Nat.reduceBEq, Nat.reduceBNe, Int.reduceToNat, Int.reduceLT, Int.reduceLE, Int.reduceEq, Int.reduceNe, Int.reduceAdd, Int.reduceSub, Int.reduceMul, Int.reduceNeg, u51_0, lb51_0, hc, ht, h1, hrl, Int.natCast_nonneg, Int.toNat_natCast, Option.getD_some, Option.getD_none, List.drop_zero, Nat.sub_zero, Nat.zero_le, true_and, and_true, Nat.le_refl, Nat.zero_add, chk_of]
        rw [loop_step1]; simp (maxSteps := 2000000) only [go_sem, doCall, doCallQ, doCallP, Nat.reduceAdd, Nat.reduceMul, Nat.reduceSub, Nat.reduceDiv, Nat.reduceMod, Nat.reduceLT, Nat.reduceLeDiff, Nat.reduceEqDiff, Nat.reduceBEq, Nat.reduceBNe, Int.reduceToNat, Int.reduceLT, Int.reduceLE, Int.reduceEq, Int.reduceNe, Int.reduceAdd, Int.reduceSub, Int.reduceMul, Int.reduceNeg]; exact hz
    · rw [if_neg h1]
      have hne : p ≠ [] := fun h => h1 (by rw [h]; rfl)
      have hpos : 0 < p.length := List.length_pos_iff.2 hne
      have b0 := t_blank (p.getD 0 0)
      cases fst
      · rw [if_neg (fun h => h.elim (fun h => by simp at h) (fun h => hpn h.1))]
        simp (maxSteps := 2000000) (disch := omega) only [go_sem, doCall, doCallQ, doCallP, Nat.reduceAdd, Nat.reduceMul, Nat.reduceSub, Nat.reduceDiv, Nat.reduceMod, Nat.reduceLT, Nat.reduceLeDiff, Nat.reduceEqDiff, Nat.reduceBEq, Nat.reduceBNe, Int.reduceToNat, Int.reduceLT, Int.reduceLE, Int.reduceEq, Int.reduceNe, Int.reduceAdd, Int.reduceSub, Int.reduceMul, Int.reduceNeg, u51_0, lb51_0, hc, ht, h1, hrl, hpos, Int.natCast_nonneg, Int.toNat_natCast, Option.getD_some, Option.getD_none, List.drop_zero, Nat.sub_zero, Nat.zero_le, true_and, and_true, Nat.le_refl, Nat.zero_add, List.length_cons, List.length_nil, chk_of]
        rw [loop_step1]; simp (maxSteps := 2000000) only [go_sem, doCall, doCallQ, doCallP, Nat.reduceAdd, Nat.reduceMul, Nat.reduceSub, Nat.reduceDiv, Nat.reduceMod, Nat.reduceLT, Nat.reduceLeDiff, Nat.reduceEqDiff, Nat.reduceBEq, Nat.reduceBNe, Int.reduceToNat, Int.reduceLT, Int.reduceLE, Int.reduceEq, Int.reduceNe, Int.reduceAdd, Int.reduceSub, Int.reduceMul, Int.reduceNeg]; exact hz2
      · cases hb0 : isB (p.getD 0 0)
        · rw [hb0] at b0
          rw [if_neg (fun h => h.elim (fun h => by simp at h) (fun h => hpn h.1))]
          simp (maxSteps := 2000000) (disch := omega) only [go_sem, doCall, doCallQ, doCallP, Nat.reduceAdd, Nat.reduceMul, Nat.reduceSub, Nat.reduceDiv, Nat.reduceMod, Nat.reduceLT, Nat.reduceLeDiff, Nat.reduceEqDiff, Nat.reduceBEq, Nat.reduceBNe, Int.reduceToNat, Int.reduceLT, Int.reduceLE, Int.reduceEq, Int.reduceNe, Int.reduceAdd, Int.reduceSub, Int.reduceMul, Int.reduceNeg, u51_0, lb51_0, hc, ht, h1, hrl, hpos, b0, Int.natCast_nonneg, Int.toNat_natCast, Option.getD_some, Option.getD_none, List.drop_zero, Nat.sub_zero, Nat.zero_le, true_and, and_true, Nat.le_refl, Nat.zero_add, List.length_cons, List.length_nil, chk_of]
          rw [loop_step1]; simp (maxSteps := 2000000) only [go_sem, doCall, doCallQ, doCallP, Nat.reduceAdd, Nat.reduceMul, Nat.reduceSub, Nat.reduceDiv, Nat.reduceMod, Nat.reduceLT, Nat.reduceLeDiff, Nat.reduceEqDiff, Nat.reduceBEq, Nat.reduceBNe, Int.reduceToNat, Int.reduceLT, Int.reduceLE, Int.reduceEq, Int.reduceNe, Int.reduceAdd, Int.reduceSub, Int.reduceMul, Int.reduceNeg]; exact hz2
        · rw [hb0] at b0
          rw [if_pos (by simp)]
          simp (maxSteps := 2000000) (disch := omega) only [go_sem, doCall, doCallQ, doCallP, Nat.reduceAdd, Nat.reduceMul, Nat.reduceSub, Nat.reduceDiv, Nat.reduceMod, Nat.reduceLT, Nat.reduceLeDiff, Nat.reduceEqDiff, Nat.reduceBEq, Nat.reduceBNe, Int.reduceToNat, Int.reduceLT, Int.reduceLE, Int.reduceEq, Int.reduceNe, Int.reduceAdd, Int.reduceSub, Int.reduceMul, Int.reduceNeg, u51_0, lb51_0, hc, ht, h1, hrl, hpos, b0, Int.natCast_nonneg, Int.toNat_natCast, Option.getD_some, Option.getD_none, List.drop_zero, Nat.sub_zero, Nat.zero_le, true_and, and_true, Nat.le_refl, Nat.zero_add, List.length_cons, List.length_nil, chk_of]
termination_by rest.length
theorem t_list (s : List UInt8) (hs : s.length ≤ 1000000000) : call ir 51 [dS s] [] = (match els true (pcs s) [] with
    | some o => some (.tup [.own 0 1 0 o.length false, dT true], [.arr 1 (rS o)])
    | none => some (.tup [.own 0 1 0 0 false, dT false], [.arr 1 []])) := by
  rw [call_eq (fn := ir51) rfl, evF_bnd]
  simp (maxSteps := 2000000) (disch := omega) only [go_sem, doCall, doCallQ, doCallP, Nat.reduceAdd, Nat.reduceMul, Nat.reduceSub, Nat.reduceDiv, Nat.reduceMod, Nat.reduceLT, Nat.reduceLeDiff, Nat.reduceEqDiff, Nat.reduceBEq, Nat.reduceBNe, Int.reduceToNat, Int.reduceLT, Int.reduceLE, Int.reduceEq, Int.reduceNe, Int.reduceAdd, Int.reduceSub, Int.reduceMul, Int.reduceNeg, bd51]
  rw [loop_step1]
  simp (maxSteps := 2000000) only [go_sem, doCall, doCallQ, doCallP, Nat.reduceAdd, Nat.reduceMul, Nat.reduceSub, Nat.reduceDiv, Nat.reduceMod, Nat.reduceLT, Nat.reduceLeDiff, Nat.reduceEqDiff, Nat.reduceBEq, Nat.reduceBNe, Int.reduceToNat, Int.reduceLT, Int.reduceLE, Int.reduceEq, Int.reduceNe, Int.reduceAdd, Int.reduceSub, Int.reduceMul, Int.reduceNeg]
  have h0 := fun k => lp_list k s true [] (by simpa using hs)
  simp only [List.length_nil, List.map_nil] at h0
  refine Eq.trans (h0 _) ?_
  cases els true (pcs s) [] with
  | some o => simp (maxSteps := 2000000) only [go_sem, doCall, doCallQ, doCallP, Nat.reduceAdd, Nat.reduceMul, Nat.reduceSub, Nat.reduceDiv, Nat.reduceMod, Nat.reduceLT, Nat.reduceLeDiff, Nat.reduceEqDiff, Nat.reduceBEq, Nat.reduceBNe, Int.reduceToNat, Int.reduceLT, Int.reduceLE, Int.reduceEq, Int.reduceNe, Int.reduceAdd, Int.reduceSub, Int.reduceMul, Int.reduceNeg]
  | none => simp (maxSteps := 2000000) only [go_sem, doCall, doCallQ, doCallP, Nat.reduceAdd, Nat.reduceMul, Nat.reduceSub, Nat.reduceDiv, Nat.reduceMod, Nat.reduceLT, Nat.reduceLeDiff, Nat.reduceEqDiff, Nat.reduceBEq, Nat.reduceBNe, Int.reduceToNat, Int.reduceLT, Int.reduceLE, Int.reduceEq, Int.reduceNe, Int.reduceAdd, Int.reduceSub, Int.reduceMul, Int.reduceNeg]
end Go.Proofs.YtplnioclkacgkaaGreatDoor
