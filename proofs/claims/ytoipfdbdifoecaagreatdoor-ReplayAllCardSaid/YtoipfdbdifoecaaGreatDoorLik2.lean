/- The law's inner loop: the slices of one object. Own work. Whether an index is the document's: all slots alike. Own work. -/
import Derived.Test.YtoipfdbdifoecaaGreatDoorLik1
namespace Go.Proofs.YtoipfdbdifoecaaGreatDoor
open Go Go.Ev Go.Proofs.YtoipfdbdifoecaaGreatDoor.Ir
set_option maxRecDepth 100000
set_option maxHeartbeats 4000000
set_option linter.unusedSimpArgs false
set_option linter.unusedVariables false
def goodL (X : List (Int × Int × Int)) : List (Int × Int × Int) → List (Int × Int × Int) → Bool
  | p :: ps, q :: qs => (decide (findM q.1 X = some q.2) && decide (p.2 = q.2)) && goodL X ps qs
  | _, _ => true
theorem keys_succ (l : List (Int × Int × Int)) {j : Nat} (h : j < l.length) : iRows ((l.map (·.1)).take (j + 1)) = iRows ((l.map (·.1)).take j) ++ [[.int .i64 l[j].1]] := by
  rw [List.take_add_one, List.getElem?_eq_getElem (by simpa using h)]; simp only [iRows, List.map_append, Option.toList_some, List.map_cons, List.map_nil, List.getElem_map]
theorem lp_inner (x : Nat → Sl) (R : List D) (O : List (List D)) (N k : Nat) (X Y : List (Int × Int × Int)) (hX : pmL (slF x (k : Int)).pm = X) (hlen : X.length = Y.length) (hL : X.length ≤ 1000000) (K : Ex → St → Option (AV × Heap)) (j : Nat) (hj : j ≤ Y.length) :
    bnd (evC (call ir) (loop ir) lp8_1 (st8_1 1 (.ptr 0 0) (.ptr 1 0) (.own 2 1 0 N false) (.d (.int .i64 k)) (.own 3 1 0 j false) (.d (.list 2 (plR X))) (.d (.list 3 (pmR Y))) (.d (.int .i64 Y.length)) (.d (.int .i64 j)) [.dbox R, .dbox (idxC x), .arr 1 O, .arr 1 (iRows ((Y.map (·.1)).take j))]))
      (lpC (call ir) (loop ir) [1, 2, 5, 6, 15, 16, 131, 132, 133] lp8_1 K) =
    if goodL X (X.drop j) (Y.drop j) = true then K (.exit 2) (clean [1, 2, 5, 6, 15] (st8_1 1 (.ptr 0 0) (.ptr 1 0) (.own 2 1 0 N false) (.d (.int .i64 k)) (.own 3 1 0 Y.length false) .unk .unk .unk .unk [.dbox R, .dbox (idxC x), .arr 1 O, .arr 1 (iRows (Y.map (·.1)))]))
    else K .ret ⟨1, [.unk, .unk, .unk, .unk, .d (.bool false), .unk, .unk, .unk, .unk, .unk, .unk, .unk, .unk, .unk, .unk, .unk, .unk, .unk, .unk, .unk, .unk, .unk, .unk, .unk, .unk, .unk, .unk, .unk, .unk, .unk, .unk, .unk, .unk, .unk, .unk, .unk, .unk, .unk, .unk, .unk, .unk, .unk, .unk, .unk, .unk, .unk, .unk, .unk, .unk, .unk, .unk, .unk, .unk, .unk, .unk, .unk, .unk, .unk, .unk, .unk, .unk, .unk, .unk, .unk, .unk, .unk, .unk, .unk, .unk, .unk, .unk, .unk, .unk, .unk, .unk, .unk, .unk, .unk, .unk, .unk, .unk, .unk, .unk, .unk, .unk, .unk, .unk, .unk, .unk, .unk, .unk, .unk, .unk, .unk, .unk, .unk, .unk, .unk, .unk, .unk, .unk, .unk, .unk, .unk, .unk, .unk, .unk, .unk, .unk, .unk, .unk, .unk, .unk, .unk, .unk, .unk, .unk, .unk, .unk, .unk, .unk, .unk, .unk, .unk, .unk, .unk, .unk, .unk, .unk, .unk, .unk, .unk, .unk, .unk, .unk, .unk, .unk, .unk, .unk, .unk, .unk, .unk, .unk, .unk, .unk, .unk, .unk, .unk, .unk, .unk, .unk, .unk, .unk, .unk, .unk, .unk, .unk, .unk, .unk, .unk, .unk, .unk, .unk, .unk, .unk, .unk, .unk, .unk, .unk, .unk, .unk, .unk, .unk, .unk, .unk, .unk, .unk, .unk, .unk, .unk], [.dbox R]⟩ := by
  have hpl := plR_len X
  have hrl := pmR_len Y
  have ha := c_at x (k : Int)
  by_cases hx : j = Y.length
  · have h1 := eq_false (show ¬ (Y.length : Int) < (Y.length : Int) by omega)
    have e1 : X.drop Y.length = [] := List.drop_eq_nil_of_le (by omega)
    have e2 : (Y.map (·.1)).take Y.length = Y.map (·.1) := List.take_of_length_le (by simp)
    subst hx
    rw [e1, e2]
    simp (maxSteps := 2000000) (disch := omega) only [go_sem, doCall, doCallQ, Nat.reduceAdd, Nat.reduceMul, Nat.reduceSub, Nat.reduceDiv, Nat.reduceMod, Nat.reduceLT, Nat.reduceLeDiff, Nat.reduceEqDiff, Nat.reduceBEq, Nat.reduceBNe, Int.reduceToNat, Int.reduceLT, Int.reduceLE, Int.reduceEq, Int.reduceNe, Int.reduceAdd, Int.reduceSub, Int.reduceMul, Int.reduceNeg, u8_1, lb8_1, h1, goodL, if_true, idxC_len, idxD_len, cs_len, av_len, map_cs, map_idx, idxC_take, idxC_drop, plain_av, plain_idx, box_idx, refs_av, owns_av, view_av, ren_av, refs_idx, owns_idx, view_idx, ren_idx, idxR_len, rs_len, Int.toNat_natCast, Nat.zero_add, chk_of]
  · have hj' : j < Y.length := by omega
    have hjx : j < X.length := by omega
    have h1 := eq_true (show (j : Int) < (Y.length : Int) by omega)
    have hw := wr_succ (i := j) (by omega)
    have gy := pmR_get Y hj'
    have gx := plR_get X hjx
    have hs := keys_succ Y hj'
    have hl : (iRows ((Y.map (·.1)).take j)).length = j := by rw [iRows_len, List.length_take, List.length_map]; omega
    have t0 : List.take j (iRows ((Y.map (·.1)).take j)) = iRows ((Y.map (·.1)).take j) := List.take_of_length_le (by omega)
    have ih := lp_inner x R O N k X Y hX hlen hL K (j + 1) (by omega)
    have e : goodL X (X.drop j) (Y.drop j) = ((decide (findM Y[j].1 X = some Y[j].2) && decide (X[j].2 = Y[j].2)) && goodL X (X.drop (j + 1)) (Y.drop (j + 1))) := by
      rw [List.drop_eq_getElem_cons hj', List.drop_eq_getElem_cons hjx, goodL]
    rw [e]
    have ha := ha Y[j].1
    unfold atF at ha
    rw [hX] at ha
    cases hf : findM Y[j].1 X with
    | none =>
      rw [hf] at ha
      simp only [Option.isSome_none, Option.getD_none] at ha
      simp (maxSteps := 2000000) (disch := omega) only [go_sem, doCall, doCallQ, Nat.reduceAdd, Nat.reduceMul, Nat.reduceSub, Nat.reduceDiv, Nat.reduceMod, Nat.reduceLT, Nat.reduceLeDiff, Nat.reduceEqDiff, Nat.reduceBEq, Nat.reduceBNe, Int.reduceToNat, Int.reduceLT, Int.reduceLE, Int.reduceEq, Int.reduceNe, Int.reduceAdd, Int.reduceSub, Int.reduceMul, Int.reduceNeg, u8_1, lb8_1, h1, gy, hrl, hl, t0, ha, Nat.le_refl, List.drop_zero, reduceCtorEq, decide_false, Bool.false_and, Bool.false_eq_true, if_false, idxC_len, idxD_len, cs_len, av_len, map_cs, map_idx, idxC_take, idxC_drop, plain_av, plain_idx, box_idx, refs_av, owns_av, view_av, ren_av, refs_idx, owns_idx, view_idx, ren_idx, idxR_len, rs_len, Int.toNat_natCast, Nat.zero_add, chk_of]
    | some v =>
      obtain ⟨v1, v2⟩ := v
      rw [hf] at ha
      simp only [Option.isSome_some, Option.getD_some] at ha
      cases c1 : (v1 == Y[j].2.1 && v2 == Y[j].2.2)
      · have c2 : decide (some (v1, v2) = some Y[j].2) = false := by
          rw [decide_eq_false_iff_not]; intro h; injection h with h; rw [← h] at c1; simp at c1
        rw [c2]
        simp (maxSteps := 2000000) (disch := omega) only [go_sem, doCall, doCallQ, Nat.reduceAdd, Nat.reduceMul, Nat.reduceSub, Nat.reduceDiv, Nat.reduceMod, Nat.reduceLT, Nat.reduceLeDiff, Nat.reduceEqDiff, Nat.reduceBEq, Nat.reduceBNe, Int.reduceToNat, Int.reduceLT, Int.reduceLE, Int.reduceEq, Int.reduceNe, Int.reduceAdd, Int.reduceSub, Int.reduceMul, Int.reduceNeg, u8_1, lb8_1, h1, gy, hrl, hl, t0, ha, c1, Nat.le_refl, List.drop_zero, Bool.false_and, Bool.false_eq_true, if_false, idxC_len, idxD_len, cs_len, av_len, map_cs, map_idx, idxC_take, idxC_drop, plain_av, plain_idx, box_idx, refs_av, owns_av, view_av, ren_av, refs_idx, owns_idx, view_idx, ren_idx, idxR_len, rs_len, Int.toNat_natCast, Nat.zero_add, chk_of]
      · have c2 : decide (some (v1, v2) = some Y[j].2) = true := by
          rw [decide_eq_true_iff]; simp only [Bool.and_eq_true, beq_iff_eq] at c1; rw [c1.1, c1.2]
        rw [c2]
        have h2 := eq_true (show (0 : Int) ≤ j by omega)
        have h3 := eq_true (show (j : Int) < (X.length : Nat) by omega)
        cases c3 : (X[j].2.1 == Y[j].2.1 && X[j].2.2 == Y[j].2.2)
        · have c4 : decide (X[j].2 = Y[j].2) = false := by
            rw [decide_eq_false_iff_not]; intro h; rw [h] at c3; simp at c3
          rw [c4]
          simp (maxSteps := 2000000) (disch := omega) only [go_sem, doCall, doCallQ, Nat.reduceAdd, Nat.reduceMul, Nat.reduceSub, Nat.reduceDiv, Nat.reduceMod, Nat.reduceLT, Nat.reduceLeDiff, Nat.reduceEqDiff, Nat.reduceBEq, Nat.reduceBNe, Int.reduceToNat, Int.reduceLT, Int.reduceLE, Int.reduceEq, Int.reduceNe, Int.reduceAdd, Int.reduceSub, Int.reduceMul, Int.reduceNeg, u8_1, lb8_1, h1, gy, gx, hrl, hpl, hjx, h3, hl, t0, ha, c1, c3, Nat.le_refl, List.drop_zero, Bool.true_and, Bool.false_and, Bool.false_eq_true, if_false, idxC_len, idxD_len, cs_len, av_len, map_cs, map_idx, idxC_take, idxC_drop, plain_av, plain_idx, box_idx, refs_av, owns_av, view_av, ren_av, refs_idx, owns_idx, view_idx, ren_idx, idxR_len, rs_len, Int.toNat_natCast, Nat.zero_add, chk_of]
        · have c4 : decide (X[j].2 = Y[j].2) = true := by
            rw [decide_eq_true_iff]; simp only [Bool.and_eq_true, beq_iff_eq] at c3; exact Prod.ext c3.1 c3.2
          rw [c4]
          rw [hs] at ih
          simp only [Bool.true_and]
          simp (maxSteps := 2000000) (disch := omega) only [go_sem, doCall, doCallQ, Nat.reduceAdd, Nat.reduceMul, Nat.reduceSub, Nat.reduceDiv, Nat.reduceMod, Nat.reduceLT, Nat.reduceLeDiff, Nat.reduceEqDiff, Nat.reduceBEq, Nat.reduceBNe, Int.reduceToNat, Int.reduceLT, Int.reduceLE, Int.reduceEq, Int.reduceNe, Int.reduceAdd, Int.reduceSub, Int.reduceMul, Int.reduceNeg, u8_1, lb8_1, h1, gy, gx, hrl, hpl, hjx, h3, hl, t0, ha, c1, c3, Nat.le_refl, List.drop_zero, idxC_len, idxD_len, cs_len, av_len, map_cs, map_idx, idxC_take, idxC_drop, plain_av, plain_idx, box_idx, refs_av, owns_av, view_av, ren_av, refs_idx, owns_idx, view_idx, ren_idx, idxR_len, rs_len, Int.toNat_natCast, Nat.zero_add, chk_of]
          rw [loop_step1]
          simp (maxSteps := 2000000) (disch := omega) only [go_sem, doCall, doCallQ, Nat.reduceAdd, Nat.reduceMul, Nat.reduceSub, Nat.reduceDiv, Nat.reduceMod, Nat.reduceLT, Nat.reduceLeDiff, Nat.reduceEqDiff, Nat.reduceBEq, Nat.reduceBNe, Int.reduceToNat, Int.reduceLT, Int.reduceLE, Int.reduceEq, Int.reduceNe, Int.reduceAdd, Int.reduceSub, Int.reduceMul, Int.reduceNeg, hw, idxC_len, idxD_len, cs_len, av_len, map_cs, map_idx, idxC_take, idxC_drop, plain_av, plain_idx, box_idx, refs_av, owns_av, view_av, ren_av, refs_idx, owns_idx, view_idx, ren_idx, idxR_len, rs_len, Int.toNat_natCast, Nat.zero_add, chk_of]
          try simp (maxSteps := 2000000) only [go_sem, doCall, doCallQ, Nat.reduceAdd, Nat.reduceMul, Nat.reduceSub, Nat.reduceDiv, Nat.reduceMod, Nat.reduceLT, Nat.reduceLeDiff, Nat.reduceEqDiff, Nat.reduceBEq, Nat.reduceBNe, Int.reduceToNat, Int.reduceLT, Int.reduceLE, Int.reduceEq, Int.reduceNe, Int.reduceAdd, Int.reduceSub, Int.reduceMul, Int.reduceNeg] at ih
          exact ih
termination_by Y.length - j
/-- Two sorted lists are one if the keys are and all that the loop looks at is. -/
theorem good_iff {X Y : List (Int × Int × Int)} (hs : SrtM X) (hlen : X.length = Y.length) : (goodL X X Y = true ∧ X.map (·.1) = Y.map (·.1)) ↔ X = Y := by
  constructor
  · rintro ⟨h1, h2⟩
    have : ∀ (A B Z : List (Int × Int × Int)), A.length = B.length → goodL Z A B = true → A.map (·.1) = B.map (·.1) → A = B := by
      intro A
      induction A with
      | nil => intro B Z hl _ _; cases B; rfl; simp at hl
      | cons p A ih =>
        intro B Z hl h1 h2
        cases B with
        | nil => simp at hl
        | cons q B =>
          simp only [goodL, Bool.and_eq_true, decide_eq_true_eq] at h1
          simp only [List.map_cons, List.cons.injEq] at h2
          rw [ih B Z (by simpa using hl) h1.2 h2.2, Prod.ext h2.1 h1.1.2]
    exact this X Y X hlen h1 h2
  · rintro rfl
    refine ⟨?_, rfl⟩
    have : ∀ (A : List (Int × Int × Int)), (∀ p ∈ A, findM p.1 X = some p.2) → goodL X A A = true := by
      intro A
      induction A with
      | nil => intro _; rfl
      | cons p A ih => intro h; simp only [goodL, h p (.head _), ih (fun q hq => h q (.tail _ hq)), decide_true, Bool.and_true]
    refine this X fun p hp => ?_
    obtain ⟨j, hj, rfl⟩ := List.getElem_of_mem hp
    exact findM_get hs hj
end Go.Proofs.YtoipfdbdifoecaaGreatDoor
namespace Go.Proofs.YtoipfdbdifoecaaGreatDoor
open Go Go.Ev Go.Proofs.YtoipfdbdifoecaaGreatDoor.Ir
set_option maxRecDepth 100000
set_option maxHeartbeats 4000000
set_option linter.unusedSimpArgs false
set_option linter.unusedVariables false
/-- What the natives and the loops ask of a map. -/
def okM (p : PM) : Prop := okK p ∧ SrtM (pmK p)
theorem okM0 : okM none := ⟨⟨by simp [pmK], fun q hq => by simp [pmK] at hq⟩, List.Pairwise.nil⟩
def okXM (x : Nat → Sl) : Prop := ∀ k, k < 16 → okM (x k).pm
theorem okF {x : Nat → Sl} (h : okXM x) (o : Int) : okM (slF x o).pm := by
  unfold slF
  split
  · exact h _ (by omega)
  · exact okM0
theorem natRows_keys {p : PM} (h : okK p) : natRows (keysN p) = iRows ((pmK p).map (·.1)) := by
  rw [← rows_keys h]; rfl
theorem list_keys {p : PM} (h : okM p) : restW (fnW ((List.range 65).map (ofW (keysN p)))) 65 0 = keysN p := by
  apply srt_eq (restW_srt ..)
  · unfold keysN
    rw [List.pairwise_map]
    have : (pmK p).Pairwise fun a b => a.1 < b.1 := h.2
    refine List.Pairwise.imp_of_mem ?_ this
    intro a b ha hb hab
    have := h.1.2 a ha
    omega
  · intro i
    rw [restW_mem]
    constructor
    · rintro ⟨_, h2, h3⟩
      have hi : i / 64 < 65 := by omega
      have e : fnW ((List.range 65).map (ofW (keysN p))) (i / 64) = ofW (keysN p) (i / 64) := by simp [fnW, List.getD_eq_getElem?_getD, hi]
      rw [e, of_get _ _ _ (by omega)] at h3
      simpa [show i / 64 * 64 + i % 64 = i by omega] using h3
    · intro hi
      have h4 := keysN_le h.1 i hi
      have hi2 : i / 64 < 65 := by omega
      refine ⟨by omega, by omega, ?_⟩
      have e : fnW ((List.range 65).map (ofW (keysN p))) (i / 64) = ofW (keysN p) (i / 64) := by simp [fnW, List.getD_eq_getElem?_getD, hi2]
      rw [e, of_get _ _ _ (by omega)]
      simpa [show i / 64 * 64 + i % 64 = i by omega] using hi
theorem allW_map : ∀ (W : Wd) (l : List Nat), allW ((l.map fun j => D.int .u64 ((W j).toNat : Int)).map AV.d) = some (l.map W)
  | W, [] => rfl
  | W, j :: l => by
    have h := allW_map W l
    have hlt : (0 : Int) ≤ ((W j).toNat : Int) ∧ ((W j).toNat : Int) < 18446744073709551616 := ⟨by omega, by have := (W j).isLt; omega⟩
    simp only [List.map_cons, allW, if_pos hlt, h, ofInt_toNat]
theorem intRows_keys {p : PM} (h : okK p) : intRows ((keysN p).map fun (x : Nat) => (x : Int)) = iRows ((pmK p).map (·.1)) := by
  have e : ((keysN p).map fun (x : Nat) => (x : Int)) = (pmK p).map (·.1) := by
    unfold keysN
    rw [List.map_map]
    refine List.map_congr_left fun q hq => ?_
    have := h.2 q hq
    show ((q.1.toNat : Nat) : Int) = q.1
    omega
  rw [e]; rfl
theorem call_list (cs : List AV) (r : AV × Heap) (h : natBL 29 29 [.agg cs] [] = some r) : call ir 29 [.agg cs] [] = some r := by
  rw [call_nat (by rfl)]
  show natOr _ _ _ _ _ = _
  simp only [natOr, natME, natMC, natSO, h]
theorem c_list {p : PM} (h : okM p) : call ir 29 [.agg ((w65 (ofW (keysN p))).map .d)] [] = some (.d (.list 1 (iRows ((pmK p).map (·.1)))), []) := by
  have e := natBL_eq 29 (allW_map (ofW (keysN p)) (List.range 65)) (by simp)
  rw [list_keys h, intRows_keys h.1] at e
  exact call_list _ _ e
theorem pmK_pmL (p : PM) : pmK p = pmL p := by cases p <;> rfl
def lkK (x y : Nat → Sl) : Nat → Int → Bool
  | 0, _ => true
  | n + 1, o => slEq (slF x o) (slF y o) && lkK x y n (o + 1)
theorem slF_neg (x : Nat → Sl) : slF x (-1) = S0 := by simp [slF]
theorem slF_16 (x : Nat → Sl) : slF x 16 = S0 := by simp [slF]
theorem objL_17 (x : Nat → Sl) : objL x 17 = objL x 16 := by
  rw [objL_succ x 16, if_neg]
  have : slF x ((16 : Nat) : Int) = S0 := slF_16 x
  rw [this]; simp [S0]
end Go.Proofs.YtoipfdbdifoecaaGreatDoor
