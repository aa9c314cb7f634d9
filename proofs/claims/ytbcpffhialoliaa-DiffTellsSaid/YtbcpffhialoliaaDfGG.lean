/- What is bound anew. Own work. -/
import Derived.Test.YtbcpffhialoliaaDfDA
namespace Go.Proofs.Ytbcpffhialoliaa
open Go Go.Ev Go.Proofs.Ytbcpffhialoliaa.Ir
set_option maxRecDepth 100000
set_option maxHeartbeats 4000000
set_option linter.unusedSimpArgs false
set_option linter.unusedVariables false
theorem st_anew_e0 (a b : List Hd) (L : List Ch) (hl : L.length ≤ 200000) (i : Nat) (hi' : i < L.length) (cob : Int) (ps : List Pc) (ls : List Int) (x y : Hd) (c2 : Ch) (hg : (L.map chRow).getD i [] = [.int .i64 cob, .bool true, .bool false, .int .i64 y.ob, .int .i64 y.ge, .str y.tg, .int .i64 y.le, .int .i64 y.ti, .list 4 (ps.map pcRow), .list 1 (kR ls)]) (hg2 : (L.map chRow).getD (i - 1) [] = [.int .i64 c2.ob, .bool c2.bo, .bool c2.go, .int .i64 c2.b1, .int .i64 c2.b2, .str c2.b3, .int .i64 c2.b4, .int .i64 c2.b5, .list 4 (c2.ps.map pcRow), .list 1 (kR c2.ls)]) (c5 : i = 0)
    (hfa : call ir 10 [vHs a, dI cob] [] = some (.tup [vHd x, dT true], [])) (hfb : call ir 10 [vHs b, dI cob] [] = some (.tup [vHd y, dT true], []))
    (n : Nat) (hn : n ≤ 1000000000000) (sc : smP ps) (sl : ls.length ≤ 100000) (sx : smP x.ps) (sy : smP y.ps) (t6 : ∀ p ∈ y.ps, hasP ps p = (false || !hasP x.ps p)) (t7 : ∀ p ∈ ps, hasP y.ps p = true) (t8 : ls = (x.ps.filter (lsB true false y.ps)).map (·.ix))
    (ks : sameB x y = false) (hge : x.ge = y.ge)
    (k : Ex → St → Option (AV × Heap)) (R : Option (AV × Heap)) (ih : (bnd (evC (call ir) (loop ir) lp3_0 (st3_0 0 (vHs a) (vHs b) (vCs L) (dI ((n : Int) + (1 + (ps.length : Int) + (ls.length : Int)))) (vCs L) (dI L.length) (dI (i + 1 : Nat)) [])) (lpC (call ir) (loop ir) [0, 1, 5, 6, 44, 45, 46] lp3_0 k)) = R) :
    (bnd (evC (call ir) (loop ir) lp3_0 (st3_0 0 (vHs a) (vHs b) (vCs L) (dI n) (vCs L) (dI L.length) (dI i) [])) (lpC (call ir) (loop ir) [0, 1, 5, 6, 44, 45, 46] lp3_0 k)) = R := by
  have hlt : (i : Int) < L.length := by omega
  have hw := wr_succ (i := i) (by omega)
  have hlm : (L.map chRow).length = L.length := List.length_map ..
  have tl := st_tail a b L hl i hi' (⟨cob, true, false, y.ob, y.ge, y.tg, y.le, y.ti, ps, ls⟩ : Ch) x y true false n hn sc sl sx sy t6 t7 t8 k R ih
  have hxl : (x.ps.map pcRow).length = x.ps.length := List.length_map ..
  have hyl : (y.ps.map pcRow).length = y.ps.length := List.length_map ..
  have hk0 : kR [] = [] := rfl
  have hi2 : i - 1 < L.length := by omega
  clear t6 t7 t8 sc sx sy sl ih
  have c3' := eq_false (show ¬ (0 : Int) < i by omega)
  have c4' := trivial
  have hp := trivial
  have hsB := ks
  unfold sameB at hsB
  have hpl := trivial
  have hpl2 := trivial
  have hng : (x.ge != y.ge) = false := by simp [hge]
  have hnp := eq_true hge
  (simp (maxSteps := 2000000) (disch := omega) only [go_sem, doCall, doCallQ, doCallP, Nat.reduceAdd, Nat.reduceMul, Nat.reduceSub, Nat.reduceDiv, Nat.reduceMod, Nat.reduceLT, Nat.reduceLeDiff, Nat.reduceEqDiff, Nat.reduceBEq, Nat.reduceBNe, Int.reduceToNat, Int.reduceLT, Int.reduceLE, Int.reduceEq, Int.reduceNe, Int.reduceAdd, Int.reduceSub, Int.reduceMul, Int.reduceNeg, u3_0, lb3_0, hlt, hi', hi2, hp, hw, hg, hg2, hlm, c3', c4', hfa, hfb, hsB, hng, hnp, hpl, hpl2, hxl, hyl, hk0, beq_self_eq_true, Bool.and_self, Bool.and_true, Bool.true_and, Bool.not_true, Bool.not_false, Bool.false_or, Bool.or_false, Bool.true_or, Bool.or_true, bne_self_eq_false, not_true, not_false_eq_true, Option.isSome_none, Option.isSome_some, Bool.not_false, Bool.not_true, List.length_cons, List.length_nil, Nat.zero_add, List.getD_cons_zero, List.set_cons_zero, List.set_cons_succ, Int.natCast_nonneg, Int.toNat_natCast, Option.getD_some, Option.getD_none, List.drop_zero, Nat.sub_zero, Nat.zero_le, true_and, and_true, Nat.le_refl, chk_of]; rw [loop_step1]; simp (maxSteps := 2000000) (disch := omega) only [go_sem, doCall, doCallQ, doCallP, Nat.reduceAdd, Nat.reduceMul, Nat.reduceSub, Nat.reduceDiv, Nat.reduceMod, Nat.reduceLT, Nat.reduceLeDiff, Nat.reduceEqDiff, Nat.reduceBEq, Nat.reduceBNe, Int.reduceToNat, Int.reduceLT, Int.reduceLE, Int.reduceEq, Int.reduceNe, Int.reduceAdd, Int.reduceSub, Int.reduceMul, Int.reduceNeg]; exact tl)
theorem st_anew_e1 (a b : List Hd) (L : List Ch) (hl : L.length ≤ 200000) (i : Nat) (hi' : i < L.length) (cob : Int) (ps : List Pc) (ls : List Int) (x y : Hd) (c2 : Ch) (hg : (L.map chRow).getD i [] = [.int .i64 cob, .bool true, .bool false, .int .i64 y.ob, .int .i64 y.ge, .str y.tg, .int .i64 y.le, .int .i64 y.ti, .list 4 (ps.map pcRow), .list 1 (kR ls)]) (hg2 : (L.map chRow).getD (i - 1) [] = [.int .i64 c2.ob, .bool c2.bo, .bool c2.go, .int .i64 c2.b1, .int .i64 c2.b2, .str c2.b3, .int .i64 c2.b4, .int .i64 c2.b5, .list 4 (c2.ps.map pcRow), .list 1 (kR c2.ls)]) (c5 : i ≠ 0) (c6 : c2.ob < cob)
    (hfa : call ir 10 [vHs a, dI cob] [] = some (.tup [vHd x, dT true], [])) (hfb : call ir 10 [vHs b, dI cob] [] = some (.tup [vHd y, dT true], []))
    (n : Nat) (hn : n ≤ 1000000000000) (sc : smP ps) (sl : ls.length ≤ 100000) (sx : smP x.ps) (sy : smP y.ps) (t6 : ∀ p ∈ y.ps, hasP ps p = (false || !hasP x.ps p)) (t7 : ∀ p ∈ ps, hasP y.ps p = true) (t8 : ls = (x.ps.filter (lsB true false y.ps)).map (·.ix))
    (ks : sameB x y = false) (hge : x.ge = y.ge)
    (k : Ex → St → Option (AV × Heap)) (R : Option (AV × Heap)) (ih : (bnd (evC (call ir) (loop ir) lp3_0 (st3_0 0 (vHs a) (vHs b) (vCs L) (dI ((n : Int) + (1 + (ps.length : Int) + (ls.length : Int)))) (vCs L) (dI L.length) (dI (i + 1 : Nat)) [])) (lpC (call ir) (loop ir) [0, 1, 5, 6, 44, 45, 46] lp3_0 k)) = R) :
    (bnd (evC (call ir) (loop ir) lp3_0 (st3_0 0 (vHs a) (vHs b) (vCs L) (dI n) (vCs L) (dI L.length) (dI i) [])) (lpC (call ir) (loop ir) [0, 1, 5, 6, 44, 45, 46] lp3_0 k)) = R := by
  have hlt : (i : Int) < L.length := by omega
  have hw := wr_succ (i := i) (by omega)
  have hlm : (L.map chRow).length = L.length := List.length_map ..
  have tl := st_tail a b L hl i hi' (⟨cob, true, false, y.ob, y.ge, y.tg, y.le, y.ti, ps, ls⟩ : Ch) x y true false n hn sc sl sx sy t6 t7 t8 k R ih
  have hxl : (x.ps.map pcRow).length = x.ps.length := List.length_map ..
  have hyl : (y.ps.map pcRow).length = y.ps.length := List.length_map ..
  have hk0 : kR [] = [] := rfl
  have hi2 : i - 1 < L.length := by omega
  clear t6 t7 t8 sc sx sy sl ih
  have c3' := eq_true (show (0 : Int) < i by omega)
  have c4' := eq_false (show ¬ cob ≤ c2.ob by omega)
  have hp : wr .i64 ((i : Int) - 1) = ((i - 1 : Nat) : Int) := pred_eq (by omega) (by omega)
  have hsB := ks
  unfold sameB at hsB
  have hpl := trivial
  have hpl2 := trivial
  have hng : (x.ge != y.ge) = false := by simp [hge]
  have hnp := eq_true hge
  (simp (maxSteps := 2000000) (disch := omega) only [go_sem, doCall, doCallQ, doCallP, Nat.reduceAdd, Nat.reduceMul, Nat.reduceSub, Nat.reduceDiv, Nat.reduceMod, Nat.reduceLT, Nat.reduceLeDiff, Nat.reduceEqDiff, Nat.reduceBEq, Nat.reduceBNe, Int.reduceToNat, Int.reduceLT, Int.reduceLE, Int.reduceEq, Int.reduceNe, Int.reduceAdd, Int.reduceSub, Int.reduceMul, Int.reduceNeg, u3_0, lb3_0, hlt, hi', hi2, hp, hw, hg, hg2, hlm, c3', c4', hfa, hfb, hsB, hng, hnp, hpl, hpl2, hxl, hyl, hk0, beq_self_eq_true, Bool.and_self, Bool.and_true, Bool.true_and, Bool.not_true, Bool.not_false, Bool.false_or, Bool.or_false, Bool.true_or, Bool.or_true, bne_self_eq_false, not_true, not_false_eq_true, Option.isSome_none, Option.isSome_some, Bool.not_false, Bool.not_true, List.length_cons, List.length_nil, Nat.zero_add, List.getD_cons_zero, List.set_cons_zero, List.set_cons_succ, Int.natCast_nonneg, Int.toNat_natCast, Option.getD_some, Option.getD_none, List.drop_zero, Nat.sub_zero, Nat.zero_le, true_and, and_true, Nat.le_refl, chk_of]; rw [loop_step1]; simp (maxSteps := 2000000) (disch := omega) only [go_sem, doCall, doCallQ, doCallP, Nat.reduceAdd, Nat.reduceMul, Nat.reduceSub, Nat.reduceDiv, Nat.reduceMod, Nat.reduceLT, Nat.reduceLeDiff, Nat.reduceEqDiff, Nat.reduceBEq, Nat.reduceBNe, Int.reduceToNat, Int.reduceLT, Int.reduceLE, Int.reduceEq, Int.reduceNe, Int.reduceAdd, Int.reduceSub, Int.reduceMul, Int.reduceNeg]; exact tl)
end Go.Proofs.Ytbcpffhialoliaa
