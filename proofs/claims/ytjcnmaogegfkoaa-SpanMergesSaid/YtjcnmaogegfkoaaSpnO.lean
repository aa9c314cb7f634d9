/- Spans: span.Merge, whole. Own work. -/
import Derived.Test.YtjcnmaogegfkoaaSpnN
namespace Go.Proofs.Ytjcnmaogegfkoaa
open Go Go.Ev Go.Proofs.Ytjcnmaogegfkoaa.Ir
set_option maxRecDepth 100000
set_option maxHeartbeats 4000000
set_option linter.unusedSimpArgs false
set_option linter.unusedVariables false
theorem dec_spans : ∀ (F : List (Int × Int)), (∀ x ∈ F, rp x = true) → ∃ L : List SpA, L.map (·.1) = F ∧ decL spanE (F.map eP) = some L
  | [], _ => ⟨[], rfl, rfl⟩
  | x :: F, h => by
    obtain ⟨L, h1, h2⟩ := dec_spans F fun y hy => h y (List.mem_cons_of_mem _ hy)
    have hx := of_decide_eq_true (h x (List.mem_cons_self ..))
    unfold RP at hx
    have hb : 0 ≤ x.1 ∧ x.1 ≤ 4611686018427387903 := by omega
    refine ⟨⟨x, hb⟩ :: L, by simp [h1], ?_⟩
    have hd : spanE.dec (eP x) = some ⟨x, hb⟩ := by simp only [spanE]; rw [dif_pos hb]
    rw [List.map_cons, decL, hd, h2]
theorem rows_spans (L : List SpA) : L.map spanE.row = (L.map (·.1)).map eP := by rw [List.map_map]; rfl
theorem c_sort (F : List (Int × Int)) (hF : ∀ x ∈ F, rp x = true) (hl : F.length ≤ 1000) (Z : List (List D)) : ∃ S : List (Int × Int), S.Perm F ∧ S.Pairwise (fun x y => x.1 ≤ y.1) ∧
    call ir 18 [.own 0 2 0 F.length false, .clo (.func 19) [] []] [.arr 2 (F.map eP ++ Z)] = some (.tup [], [.arr 2 (S.map eP ++ Z)]) := by
  obtain ⟨L, h1, h2⟩ := dec_spans F hF
  refine ⟨(spanS L).map (·.1), h1 ▸ (spanS_perm L).map _, (List.pairwise_map.2 (spanS_sorted L)), ?_⟩
  have hlen : (F.map eP).length = F.length := List.length_map ..
  have e := natSF_eq spanE spanS 18 19 (i := 0) (z := 2) (o := 0) (n := F.length) (b := false) (H := [.arr 2 (F.map eP ++ Z)]) (xs := F.map eP ++ Z) (l := L) rfl rfl ⟨by simp, by omega⟩
    (by rw [List.drop_zero, List.take_append_of_le_length (by rw [hlen]; exact Nat.le_refl _), ← hlen, List.take_length]; exact h2)
  rw [call_nat (by rfl)]
  show natOr _ _ _ _ _ = _
  unfold natOr
  rw [e, rows_spans, Nat.zero_add, ← hlen, List.drop_left]
  rfl
theorem c_clone (l : List (Int × Int)) (hl : l.length ≤ 1000) : call ir 15 [.d (.list 2 (l.map eP))] [] = some (.own 0 2 0 l.length false, [.arr 2 (l.map eP)]) := by
  have hlen : (l.map eP).length = l.length := List.length_map ..
  have e := natSC_eq 15 2 16 (xs := l.map eP) (by omega)
  rw [hlen] at e
  rw [call_nat (by rfl)]
  show natOr _ _ _ _ _ = _
  unfold natOr
  rw [e]
theorem filt_rp (l : List (Int × Int)) : ∀ x ∈ l.filter rp, rp x = true := fun x hx => (List.mem_filter.1 hx).2
theorem inB_of {S l : List (Int × Int)} (h : S.Perm (l.filter rp)) : inB S := fun x hx => by
  have := of_decide_eq_true (filt_rp l x (h.mem_iff.1 hx))
  unfold RP at this
  omega
theorem c_merge (l : List (Int × Int)) (hl : l.length ≤ 1000) (g : Int) : ∃ S : List (Int × Int), S.Perm (l.filter rp) ∧ S.Pairwise (fun x y => x.1 ≤ y.1) ∧
    call ir 5 [.d (.list 2 (l.map eP)), .d (.int .i64 g)] [] = some (.own 0 2 0 (S.foldl (mstep (max g 0)) []).length false, [.arr 2 ((S.foldl (mstep (max g 0)) []).map eP)]) := by
  have hf := List.length_filter_le rp l
  obtain ⟨Z, h1⟩ := c_del l hl
  obtain ⟨S, h2, h3, h4⟩ := c_sort (l.filter rp) (filt_rp l) (by omega) Z
  refine ⟨S, h2, h3, ?_⟩
  have hlen := h2.length_eq
  have hc := c_clone l hl
  have hlp := fun k => lp_mg (max g 0) S (by omega) (inB_of h2) Z k 0 (by omega) [] (by intro x hx; simp at hx) (by simp)
  rw [List.drop_zero] at hlp
  rw [← hlen] at h1 h4
  rw [call_eq (fn := ir5) rfl, evF_bnd]
  simp (maxSteps := 2000000) (disch := omega) only [go_sem, doCall, doCallQ, Nat.reduceAdd, Nat.reduceMul, Nat.reduceSub, Nat.reduceDiv, Nat.reduceMod, Nat.reduceLT, Nat.reduceLeDiff, Nat.reduceEqDiff, Nat.reduceBEq, Nat.reduceBNe, Int.reduceToNat, Int.reduceLT, Int.reduceLE, Int.reduceEq, Int.reduceNe, Int.reduceAdd, Int.reduceSub, Int.reduceMul, Int.reduceNeg, bd5, hc, h1, h4]
  rw [loop_step1]
  simp (maxSteps := 2000000) only [go_sem, doCall, doCallQ, Nat.reduceAdd, Nat.reduceMul, Nat.reduceSub, Nat.reduceDiv, Nat.reduceMod, Nat.reduceLT, Nat.reduceLeDiff, Nat.reduceEqDiff, Nat.reduceBEq, Nat.reduceBNe, Int.reduceToNat, Int.reduceLT, Int.reduceLE, Int.reduceEq, Int.reduceNe, Int.reduceAdd, Int.reduceSub, Int.reduceMul, Int.reduceNeg]
  refine Eq.trans (hlp _) ?_
  simp (maxSteps := 2000000) only [go_sem, doCall, doCallQ, Nat.reduceAdd, Nat.reduceMul, Nat.reduceSub, Nat.reduceDiv, Nat.reduceMod, Nat.reduceLT, Nat.reduceLeDiff, Nat.reduceEqDiff, Nat.reduceBEq, Nat.reduceBNe, Int.reduceToNat, Int.reduceLT, Int.reduceLE, Int.reduceEq, Int.reduceNe, Int.reduceAdd, Int.reduceSub, Int.reduceMul, Int.reduceNeg]
end Go.Proofs.Ytjcnmaogegfkoaa
