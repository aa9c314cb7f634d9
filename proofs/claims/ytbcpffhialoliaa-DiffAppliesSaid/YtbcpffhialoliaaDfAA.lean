/- Changes applied one behind the other. Own work. What has changed, applied to what was, is what is. Own work. The law's like; DiffApplies. Own work. -/
import Derived.Test.YtbcpffhialoliaaDfX
namespace Go.Proofs.Ytbcpffhialoliaa
open Go Go.Ev Go.Proofs.Ytbcpffhialoliaa.Ir
set_option maxRecDepth 100000
set_option maxHeartbeats 4000000
set_option linter.unusedSimpArgs false
set_option linter.unusedVariables false
instance : Inhabited Ch := ⟨⟨0, false, false, 0, 0, [], 0, 0, [], []⟩⟩
theorem getCh (l : List Ch) {i : Nat} (h : i < l.length) : (l.map chRow).getD i [] = [.int .i64 l[i].ob, .bool l[i].bo, .bool l[i].go, .int .i64 l[i].b1, .int .i64 l[i].b2, .str l[i].b3, .int .i64 l[i].b4, .int .i64 l[i].b5, .list 4 (l[i].ps.map pcRow), .list 1 (kR l[i].ls)] := by simp [List.getD_eq_getElem?_getD, h, chRow]
/-! ### what rises -/
def okC (l : List Ch) : Prop := l.Pairwise (fun x y => x.ob < y.ob) ∧ ∀ c ∈ l, c.bo = true → c.b1 = c.ob
theorem lp_rises (l : List Ch) (hl : l.length ≤ 1000000) (hok : okC l) (k : Ex → St → Option (AV × Heap)) (i : Nat) (hi : i ≤ l.length) :
    (bnd (evC (call ir) (loop ir) lp31_0 (st31_0 0 (.d (.list 10 (l.map chRow))) (.d (.list 10 (l.map chRow))) (dI l.length) (dI i) [])) (lpC (call ir) (loop ir) [0, 5, 6, 7] lp31_0 k)) = k (.exit 0) (clean [] (st31_0 0 .unk .unk .unk .unk [])) := by
  by_cases h : i = l.length
  · have hx : ¬ (i : Int) < l.length := by omega
    rw [h] at hx
    rw [h]
    simp (maxSteps := 2000000) (disch := omega) only [go_sem, doCall, doCallQ, doCallP, Nat.reduceAdd, Nat.reduceMul, Nat.reduceSub, Nat.reduceDiv, Nat.reduceMod, Nat.reduceLT, Nat.reduceLeDiff, Nat.reduceEqDiff, Nat.reduceBEq, Nat.reduceBNe, Int.reduceToNat, Int.reduceLT, Int.reduceLE, Int.reduceEq, Int.reduceNe, Int.reduceAdd, Int.reduceSub, Int.reduceMul, Int.reduceNeg, u31_0, lb31_0, hx]
  · have hlt : (i : Int) < l.length := by omega
    have hi' : i < l.length := by omega
    have hw := wr_succ (i := i) (by omega)
    have hg := getCh l hi'
    have hlm : (l.map chRow).length = l.length := List.length_map ..
    have ih := lp_rises l hl hok k (i + 1) (by omega)
    have hbo := hok.2 l[i] (List.getElem_mem hi')
    by_cases c3 : i = 0
    · have c3' := eq_false (show ¬ (0 : Int) < i by omega)
      generalize l[i] = c at hg hbo ⊢
      obtain ⟨ob, bo, go, b1, b2, b3, b4, b5, ps, ls⟩ := c
      simp only at hg hbo
      cases bo
      · simp (maxSteps := 2000000) (disch := omega) only [go_sem, doCall, doCallQ, doCallP, Nat.reduceAdd, Nat.reduceMul, Nat.reduceSub, Nat.reduceDiv, Nat.reduceMod, Nat.reduceLT, Nat.reduceLeDiff, Nat.reduceEqDiff, Nat.reduceBEq, Nat.reduceBNe, Int.reduceToNat, Int.reduceLT, Int.reduceLE, Int.reduceEq, Int.reduceNe, Int.reduceAdd, Int.reduceSub, Int.reduceMul, Int.reduceNeg, u31_0, lb31_0, hlt, hi', hw, hg, hlm, c3', Option.isSome_none, Option.isSome_some, Bool.not_false, Bool.not_true, List.length_cons, List.length_nil, Nat.zero_add, List.getD_cons_zero, List.set_cons_zero, List.set_cons_succ, Int.natCast_nonneg, Int.toNat_natCast, Option.getD_some, Option.getD_none, List.drop_zero, Nat.sub_zero, Nat.zero_le, true_and, and_true, Nat.le_refl, chk_of]
        rw [loop_step1]; simp (maxSteps := 2000000) only [go_sem, doCall, doCallQ, doCallP, Nat.reduceAdd, Nat.reduceMul, Nat.reduceSub, Nat.reduceDiv, Nat.reduceMod, Nat.reduceLT, Nat.reduceLeDiff, Nat.reduceEqDiff, Nat.reduceBEq, Nat.reduceBNe, Int.reduceToNat, Int.reduceLT, Int.reduceLE, Int.reduceEq, Int.reduceNe, Int.reduceAdd, Int.reduceSub, Int.reduceMul, Int.reduceNeg]; exact ih
      · have hbo := hbo rfl
        simp (maxSteps := 2000000) (disch := omega) only [go_sem, doCall, doCallQ, doCallP, Nat.reduceAdd, Nat.reduceMul, Nat.reduceSub, Nat.reduceDiv, Nat.reduceMod, Nat.reduceLT, Nat.reduceLeDiff, Nat.reduceEqDiff, Nat.reduceBEq, Nat.reduceBNe, Int.reduceToNat, Int.reduceLT, Int.reduceLE, Int.reduceEq, Int.reduceNe, Int.reduceAdd, Int.reduceSub, Int.reduceMul, Int.reduceNeg, u31_0, lb31_0, hlt, hi', hw, hg, hlm, c3', show (b1 != ob) = false by simp [hbo], eq_true hbo, not_true, Option.isSome_none, Option.isSome_some, Bool.not_false, Bool.not_true, List.length_cons, List.length_nil, Nat.zero_add, List.getD_cons_zero, List.set_cons_zero, List.set_cons_succ, Int.natCast_nonneg, Int.toNat_natCast, Option.getD_some, Option.getD_none, List.drop_zero, Nat.sub_zero, Nat.zero_le, true_and, and_true, Nat.le_refl, chk_of]
        rw [loop_step1]; simp (maxSteps := 2000000) only [go_sem, doCall, doCallQ, doCallP, Nat.reduceAdd, Nat.reduceMul, Nat.reduceSub, Nat.reduceDiv, Nat.reduceMod, Nat.reduceLT, Nat.reduceLeDiff, Nat.reduceEqDiff, Nat.reduceBEq, Nat.reduceBNe, Int.reduceToNat, Int.reduceLT, Int.reduceLE, Int.reduceEq, Int.reduceNe, Int.reduceAdd, Int.reduceSub, Int.reduceMul, Int.reduceNeg]; exact ih
    · have c3' := eq_true (show (0 : Int) < i by omega)
      have hp := pred_eq (i := i) (by omega) (by omega)
      have hi2 : i - 1 < l.length := by omega
      have hg2 := getCh l hi2
      have c4 := List.pairwise_iff_getElem.1 hok.1 (i - 1) i hi2 hi' (by omega)
      have c4' := eq_false (show ¬ l[i].ob ≤ l[i - 1].ob by omega)
      generalize l[i - 1] = c2 at hg2 c4'
      generalize l[i] = c at hg hbo c4' ⊢
      obtain ⟨ob, bo, go, b1, b2, b3, b4, b5, ps, ls⟩ := c
      simp only at hg hbo c4'
      cases bo
      · simp (maxSteps := 2000000) (disch := omega) only [go_sem, doCall, doCallQ, doCallP, Nat.reduceAdd, Nat.reduceMul, Nat.reduceSub, Nat.reduceDiv, Nat.reduceMod, Nat.reduceLT, Nat.reduceLeDiff, Nat.reduceEqDiff, Nat.reduceBEq, Nat.reduceBNe, Int.reduceToNat, Int.reduceLT, Int.reduceLE, Int.reduceEq, Int.reduceNe, Int.reduceAdd, Int.reduceSub, Int.reduceMul, Int.reduceNeg, u31_0, lb31_0, hlt, hi', hi2, hp, hw, hg, hg2, hlm, c3', c4', Option.isSome_none, Option.isSome_some, Bool.not_false, Bool.not_true, List.length_cons, List.length_nil, Nat.zero_add, List.getD_cons_zero, List.set_cons_zero, List.set_cons_succ, Int.natCast_nonneg, Int.toNat_natCast, Option.getD_some, Option.getD_none, List.drop_zero, Nat.sub_zero, Nat.zero_le, true_and, and_true, Nat.le_refl, chk_of]
        rw [loop_step1]; simp (maxSteps := 2000000) only [go_sem, doCall, doCallQ, doCallP, Nat.reduceAdd, Nat.reduceMul, Nat.reduceSub, Nat.reduceDiv, Nat.reduceMod, Nat.reduceLT, Nat.reduceLeDiff, Nat.reduceEqDiff, Nat.reduceBEq, Nat.reduceBNe, Int.reduceToNat, Int.reduceLT, Int.reduceLE, Int.reduceEq, Int.reduceNe, Int.reduceAdd, Int.reduceSub, Int.reduceMul, Int.reduceNeg]; exact ih
      · have hbo := hbo rfl
        simp (maxSteps := 2000000) (disch := omega) only [go_sem, doCall, doCallQ, doCallP, Nat.reduceAdd, Nat.reduceMul, Nat.reduceSub, Nat.reduceDiv, Nat.reduceMod, Nat.reduceLT, Nat.reduceLeDiff, Nat.reduceEqDiff, Nat.reduceBEq, Nat.reduceBNe, Int.reduceToNat, Int.reduceLT, Int.reduceLE, Int.reduceEq, Int.reduceNe, Int.reduceAdd, Int.reduceSub, Int.reduceMul, Int.reduceNeg, u31_0, lb31_0, hlt, hi', hi2, hp, hw, hg, hg2, hlm, c3', c4', show (b1 != ob) = false by simp [hbo], eq_true hbo, not_true, Option.isSome_none, Option.isSome_some, Bool.not_false, Bool.not_true, List.length_cons, List.length_nil, Nat.zero_add, List.getD_cons_zero, List.set_cons_zero, List.set_cons_succ, Int.natCast_nonneg, Int.toNat_natCast, Option.getD_some, Option.getD_none, List.drop_zero, Nat.sub_zero, Nat.zero_le, true_and, and_true, Nat.le_refl, chk_of]
        rw [loop_step1]; simp (maxSteps := 2000000) only [go_sem, doCall, doCallQ, doCallP, Nat.reduceAdd, Nat.reduceMul, Nat.reduceSub, Nat.reduceDiv, Nat.reduceMod, Nat.reduceLT, Nat.reduceLeDiff, Nat.reduceEqDiff, Nat.reduceBEq, Nat.reduceBNe, Int.reduceToNat, Int.reduceLT, Int.reduceLE, Int.reduceEq, Int.reduceNe, Int.reduceAdd, Int.reduceSub, Int.reduceMul, Int.reduceNeg]; exact ih
termination_by l.length - i
theorem t_rises (l : List Ch) (hl : l.length ≤ 1000000) (hok : okC l) : call ir 31 [.d (.list 10 (l.map chRow))] [] = some (dT true, []) := by
  rw [call_eq (fn := ir31) rfl, evF_bnd]
  have hlm : (l.map chRow).length = l.length := List.length_map ..
  simp (maxSteps := 2000000) (disch := omega) only [go_sem, doCall, doCallQ, doCallP, Nat.reduceAdd, Nat.reduceMul, Nat.reduceSub, Nat.reduceDiv, Nat.reduceMod, Nat.reduceLT, Nat.reduceLeDiff, Nat.reduceEqDiff, Nat.reduceBEq, Nat.reduceBNe, Int.reduceToNat, Int.reduceLT, Int.reduceLE, Int.reduceEq, Int.reduceNe, Int.reduceAdd, Int.reduceSub, Int.reduceMul, Int.reduceNeg, bd31, hlm, Int.natCast_nonneg, Int.toNat_natCast, Option.getD_some, Option.getD_none, List.drop_zero, Nat.sub_zero, Nat.zero_le, true_and, and_true, Nat.le_refl, chk_of]
  rw [loop_step1]; simp (maxSteps := 2000000) only [go_sem, doCall, doCallQ, doCallP, Nat.reduceAdd, Nat.reduceMul, Nat.reduceSub, Nat.reduceDiv, Nat.reduceMod, Nat.reduceLT, Nat.reduceLeDiff, Nat.reduceEqDiff, Nat.reduceBEq, Nat.reduceBNe, Int.reduceToNat, Int.reduceLT, Int.reduceLE, Int.reduceEq, Int.reduceNe, Int.reduceAdd, Int.reduceSub, Int.reduceMul, Int.reduceNeg]
  refine (lp_rises l hl hok _ 0 (Nat.zero_le _)).trans ?_
  simp (maxSteps := 2000000) (disch := omega) only [go_sem, doCall, doCallQ, doCallP, Nat.reduceAdd, Nat.reduceMul, Nat.reduceSub, Nat.reduceDiv, Nat.reduceMod, Nat.reduceLT, Nat.reduceLeDiff, Nat.reduceEqDiff, Nat.reduceBEq, Nat.reduceBNe, Int.reduceToNat, Int.reduceLT, Int.reduceLE, Int.reduceEq, Int.reduceNe, Int.reduceAdd, Int.reduceSub, Int.reduceMul, Int.reduceNeg]
/-! ### the second loop of Apply -/
def apS (b : List Hd) (O : List Hd) (c : Ch) : List Hd := O.filter (noO c.ob) ++ (if c.go then [] else [(fndO c.ob b).getD d0])
def apR (b : List Hd) (l : List Ch) (O : List Hd) : List Hd := l.foldl (apS b) O
theorem find_filt {o p : Int} (h : o ≠ p) : ∀ l : List Hd, fndO o (l.filter (noO p)) = fndO o l
  | [] => rfl
  | d :: l => by
    rw [List.filter_cons]
    by_cases e : d.ob = p
    · have e1 : noO p d = false := by unfold noO isO; simp [e]
      have e2 : isO o d = false := by unfold isO; exact decide_eq_false (by omega)
      rw [e1, if_neg (by simp), find_filt h l]
      unfold fndO
      rw [List.find?_cons, e2]
    · have e1 : noO p d = true := by unfold noO isO; simp [e]
      rw [e1, if_pos rfl]
      have ih := find_filt h l
      unfold fndO at ih ⊢
      rw [List.find?_cons, List.find?_cons, ih]
theorem find_apS {b O : List Hd} {c : Ch} {o : Int} (h : o ≠ c.ob) (hb : c.go = false → ((fndO c.ob b).getD d0).ob = c.ob) : fndO o (apS b O c) = fndO o O := by
  unfold apS
  have e := find_filt h O
  unfold fndO at e ⊢
  rw [List.find?_append, e]
  cases hg : c.go
  · have hb := hb hg
    have e2 : isO o ((fndO c.ob b).getD d0) = false := by
      show decide (((fndO c.ob b).getD d0).ob = o) = false
      rw [hb]; exact decide_eq_false (by omega)
    unfold fndO at e2
    rw [if_neg (by simp), List.find?_cons, e2]
    simp
  · rw [if_pos rfl]
    simp
/-- One change, as a whole. -/
def stepOk (a b : List Hd) (c : Ch) : Prop := (c.go = true ∧ (fndO c.ob a).isSome = true) ∨ (c.go = false ∧ ((fndO c.ob b).getD d0).ob = c.ob ∧ ∃ v H, call ir 36 [vHd ((fndO c.ob a).getD d0), dT (fndO c.ob a).isSome, vCh c] [] = some (v, H) ∧ v.scalar = false ∧ v.view H = .tup [vHd ((fndO c.ob b).getD d0), dI 0])
theorem lp_ap (a b : List Hd) (L : List Ch) (hL : L.length ≤ 200000) (hn : (L.map (·.ob)).Nodup) (hs : ∀ c ∈ L, stepOk a b c) (k : Ex → St → Option (AV × Heap)) (i : Nat) (hi : i ≤ L.length) (O : List Hd) (hO : O.length ≤ 100000 + i)
    (hf : ∀ c ∈ L.drop i, fndO c.ob O = fndO c.ob a) :
    (bnd (evC (call ir) (loop ir) lp16_1 (st16_1 0 (.own 0 6 0 O.length false) (.d (.list 10 (L.map chRow))) (dI L.length) (dI i) [.arr 6 (O.map hdRow)])) (lpC (call ir) (loop ir) [6, 40, 41, 42] lp16_1 k)) =
      k (.exit 2) (clean [6] (st16_1 0 (.own 0 6 0 (apR b (L.drop i) O).length false) .unk .unk .unk [.arr 6 ((apR b (L.drop i) O).map hdRow)])) := by
  by_cases h : i = L.length
  · have hx : ¬ (i : Int) < L.length := by omega
    rw [h] at hx
    rw [h, List.drop_length]
    have e0 : apR b [] O = O := rfl
    rw [e0]
    simp (maxSteps := 2000000) (disch := omega) only [go_sem, doCall, doCallQ, doCallP, Nat.reduceAdd, Nat.reduceMul, Nat.reduceSub, Nat.reduceDiv, Nat.reduceMod, Nat.reduceLT, Nat.reduceLeDiff, Nat.reduceEqDiff, Nat.reduceBEq, Nat.reduceBNe, Int.reduceToNat, Int.reduceLT, Int.reduceLE, Int.reduceEq, Int.reduceNe, Int.reduceAdd, Int.reduceSub, Int.reduceMul, Int.reduceNeg, u16_1, lb16_1, hx]
  · have hlt : (i : Int) < L.length := by omega
    have hi' : i < L.length := by omega
    have hw := wr_succ (i := i) (by omega)
    have hg := getCh L hi'
    have hlm : (L.map chRow).length = L.length := List.length_map ..
    have hst := hs L[i] (List.getElem_mem hi')
    have hfc := hf L[i] (by rw [List.drop_eq_getElem_cons hi']; exact .head _)
    have hbo : L[i].go = false → ((fndO L[i].ob b).getD d0).ob = L[i].ob := fun e => by
      rcases hst with ⟨e2, _⟩ | ⟨_, e2, _⟩
      · rw [e] at e2; simp at e2
      · exact e2
    have hne : ∀ c ∈ L.drop (i + 1), c.ob ≠ L[i].ob := fun c hc e => by
      have := (hn.sublist ((List.drop_sublist i L).map _))
      rw [List.drop_eq_getElem_cons hi', List.map_cons, List.nodup_cons] at this
      exact this.1 (List.mem_map.2 ⟨c, hc, e⟩)
    have hle : (O.filter (noO L[i].ob)).length ≤ O.length := List.length_filter_le ..
    have ih := lp_ap a b L hL hn hs k (i + 1) (by omega) (apS b O L[i]) (by unfold apS; rw [List.length_append]; split <;> simp <;> omega)
      (fun c hc => (find_apS (hne c hc) hbo).trans (hf c (by rw [List.drop_eq_getElem_cons hi']; exact .tail _ hc)))
    have efold : apR b (L.drop i) O = apR b (L.drop (i + 1)) (apS b O L[i]) := by rw [List.drop_eq_getElem_cons hi']; rfl
    rw [efold]
    have hfd := t_findO L[i].ob O (by omega)
    rw [hfc] at hfd
    have hd := c_delH 34 [.int .i64 L[i].ob, .bool L[i].bo, .bool L[i].go, .int .i64 L[i].b1, .int .i64 L[i].b2, .str L[i].b3, .int .i64 L[i].b4, .int .i64 L[i].b5, .list 4 (L[i].ps.map pcRow), .list 1 (kR L[i].ls)] L[i].ob (fun d => c_own1 L[i].ob d _ _ _ _ _ _ _ _ _) O (by omega)
    generalize hR : (k (.exit 2) (clean [6] (st16_1 0 (.own 0 6 0 (apR b (L.drop (i + 1)) (apS b O L[i])).length false) .unk .unk .unk [.arr 6 ((apR b (L.drop (i + 1)) (apS b O L[i])).map hdRow)]))) = R at ih ⊢
    clear hR
    unfold apS at ih
    rcases hst with ⟨e1, e2⟩ | ⟨e1, e2, v, H, hv, hsc, hvw⟩
    · rw [e1, if_pos rfl, List.append_nil] at ih
      generalize O.filter (noO L[i].ob) = F at ih hd hle
      generalize L[i] = c at hg e1 e2 hfd hd
      generalize (fndO c.ob a).getD d0 = x at hfd
      rw [e2] at hfd
      obtain ⟨ob, bo, go, b1, b2, b3, b4, b5, ps, ls⟩ := c
      simp only at hg e1 hfd hd
      subst e1
      simp (maxSteps := 2000000) (disch := omega) only [go_sem, doCall, doCallQ, doCallP, Nat.reduceAdd, Nat.reduceMul, Nat.reduceSub, Nat.reduceDiv, Nat.reduceMod, Nat.reduceLT, Nat.reduceLeDiff, Nat.reduceEqDiff, Nat.reduceBEq, Nat.reduceBNe, Int.reduceToNat, Int.reduceLT, Int.reduceLE, Int.reduceEq, Int.reduceNe, Int.reduceAdd, Int.reduceSub, Int.reduceMul, Int.reduceNeg, u16_1, lb16_1, hlt, hi', hw, hg, hlm, hfd, hd, Option.isSome_none, Option.isSome_some, Bool.not_false, Bool.not_true, List.length_cons, List.length_nil, Nat.zero_add, List.getD_cons_zero, List.set_cons_zero, List.set_cons_succ, Int.natCast_nonneg, Int.toNat_natCast, Option.getD_some, Option.getD_none, List.drop_zero, Nat.sub_zero, Nat.zero_le, true_and, and_true, Nat.le_refl, chk_of]
      rw [loop_step1]; simp (maxSteps := 2000000) (disch := omega) only [go_sem, doCall, doCallQ, doCallP, Nat.reduceAdd, Nat.reduceMul, Nat.reduceSub, Nat.reduceDiv, Nat.reduceMod, Nat.reduceLT, Nat.reduceLeDiff, Nat.reduceEqDiff, Nat.reduceBEq, Nat.reduceBNe, Int.reduceToNat, Int.reduceLT, Int.reduceLE, Int.reduceEq, Int.reduceNe, Int.reduceAdd, Int.reduceSub, Int.reduceMul, Int.reduceNeg]; exact ih
    · rw [e1, if_neg (by simp), List.length_append, List.length_singleton, List.map_append] at ih
      generalize O.filter (noO L[i].ob) = F at ih hd hle
      generalize L[i] = c at hg e1 e2 hfd hd hv hvw ih
      generalize (fndO c.ob a).getD d0 = x at hfd hv
      generalize (fndO c.ob a).isSome = has at hfd hv
      generalize (fndO c.ob b).getD d0 = y at hvw ih
      have hlF : (F.map hdRow).length = F.length := List.length_map ..
      have htk : (F.map hdRow).take F.length = F.map hdRow := by rw [← hlF, List.take_length]
      have hap : F.map hdRow ++ [y].map hdRow = F.map hdRow ++ [[.int .i64 y.ob, .int .i64 y.ge, .str y.tg, .int .i64 y.le, .int .i64 y.ti, .list 4 (y.ps.map pcRow)]] := rfl
      rw [hap] at ih
      obtain ⟨ob, bo, go, b1, b2, b3, b4, b5, ps, ls⟩ := c
      simp only at hg e1 hfd hd hv
      subst e1
      cases has
      · simp (maxSteps := 2000000) (disch := omega) only [go_sem, doCall, doCallQ, doCallP, Nat.reduceAdd, Nat.reduceMul, Nat.reduceSub, Nat.reduceDiv, Nat.reduceMod, Nat.reduceLT, Nat.reduceLeDiff, Nat.reduceEqDiff, Nat.reduceBEq, Nat.reduceBNe, Int.reduceToNat, Int.reduceLT, Int.reduceLE, Int.reduceEq, Int.reduceNe, Int.reduceAdd, Int.reduceSub, Int.reduceMul, Int.reduceNeg, u16_1, lb16_1, hlt, hi', hw, hg, hlm, hfd, hd, hv, hsc, hvw, hlF, htk, Option.isSome_none, Option.isSome_some, Bool.not_false, Bool.not_true, List.length_cons, List.length_nil, Nat.zero_add, List.getD_cons_zero, List.set_cons_zero, List.set_cons_succ, Int.natCast_nonneg, Int.toNat_natCast, Option.getD_some, Option.getD_none, List.drop_zero, Nat.sub_zero, Nat.zero_le, true_and, and_true, Nat.le_refl, chk_of]
        rw [loop_step1]; simp (maxSteps := 2000000) (disch := omega) only [go_sem, doCall, doCallQ, doCallP, Nat.reduceAdd, Nat.reduceMul, Nat.reduceSub, Nat.reduceDiv, Nat.reduceMod, Nat.reduceLT, Nat.reduceLeDiff, Nat.reduceEqDiff, Nat.reduceBEq, Nat.reduceBNe, Int.reduceToNat, Int.reduceLT, Int.reduceLE, Int.reduceEq, Int.reduceNe, Int.reduceAdd, Int.reduceSub, Int.reduceMul, Int.reduceNeg]; exact ih
      · simp (maxSteps := 2000000) (disch := omega) only [go_sem, doCall, doCallQ, doCallP, Nat.reduceAdd, Nat.reduceMul, Nat.reduceSub, Nat.reduceDiv, Nat.reduceMod, Nat.reduceLT, Nat.reduceLeDiff, Nat.reduceEqDiff, Nat.reduceBEq, Nat.reduceBNe, Int.reduceToNat, Int.reduceLT, Int.reduceLE, Int.reduceEq, Int.reduceNe, Int.reduceAdd, Int.reduceSub, Int.reduceMul, Int.reduceNeg, u16_1, lb16_1, hlt, hi', hw, hg, hlm, hfd, hd, hv, hsc, hvw, hlF, htk, Option.isSome_none, Option.isSome_some, Bool.not_false, Bool.not_true, List.length_cons, List.length_nil, Nat.zero_add, List.getD_cons_zero, List.set_cons_zero, List.set_cons_succ, Int.natCast_nonneg, Int.toNat_natCast, Option.getD_some, Option.getD_none, List.drop_zero, Nat.sub_zero, Nat.zero_le, true_and, and_true, Nat.le_refl, chk_of]
        rw [loop_step1]; simp (maxSteps := 2000000) (disch := omega) only [go_sem, doCall, doCallQ, doCallP, Nat.reduceAdd, Nat.reduceMul, Nat.reduceSub, Nat.reduceDiv, Nat.reduceMod, Nat.reduceLT, Nat.reduceLeDiff, Nat.reduceEqDiff, Nat.reduceBEq, Nat.reduceBNe, Int.reduceToNat, Int.reduceLT, Int.reduceLE, Int.reduceEq, Int.reduceNe, Int.reduceAdd, Int.reduceSub, Int.reduceMul, Int.reduceNeg]; exact ih
termination_by L.length - i
end Go.Proofs.Ytbcpffhialoliaa
namespace Go.Proofs.Ytbcpffhialoliaa
open Go Go.Ev Go.Proofs.Ytbcpffhialoliaa.Ir
set_option maxRecDepth 100000
set_option maxHeartbeats 4000000
set_option linter.unusedSimpArgs false
set_option linter.unusedVariables false
theorem fnd_the {l : List Hd} (h : l.Pairwise (fun x y => x.ob < y.ob)) {d : Hd} (hd : d ∈ l) : fndO d.ob l = some d := by
  induction l with
  | nil => simp at hd
  | cons q l ih =>
    have h2 := List.pairwise_cons.1 h
    unfold fndO at ih ⊢
    rw [List.find?_cons]
    rcases List.mem_cons.1 hd with rfl | hd
    · have : isO d.ob d = true := decide_eq_true rfl
      rw [this]
    · have := h2.1 d hd
      have e : isO d.ob q = false := decide_eq_false (by omega)
      rw [e]
      exact ih h2.2 hd
theorem srt_by {β : Type} (f : β → Int) {l m : List β} (hl : l.Pairwise (fun a b => f a < f b)) (hm : m.Pairwise (fun a b => f a < f b)) (h : ∀ x, x ∈ l ↔ x ∈ m) : l = m := by
  induction l generalizing m with
  | nil =>
    cases m with
    | nil => rfl
    | cons y m => exact absurd ((h y).2 (.head _)) (by simp)
  | cons x l ih =>
    cases m with
    | nil => exact absurd ((h x).1 (.head _)) (by simp)
    | cons y m =>
      have h1 := List.pairwise_cons.1 hl
      have h2 := List.pairwise_cons.1 hm
      have e : x = y := by
        rcases List.mem_cons.1 ((h x).1 (.head _)) with e | hx
        · exact e
        · rcases List.mem_cons.1 ((h y).2 (.head _)) with e | hy
          · exact e.symm
          · have a1 := h2.1 x hx
            have a2 := h1.1 y hy
            omega
      subst e
      rw [ih h1.2 h2.2 (fun z => by
        constructor
        · intro hz
          rcases List.mem_cons.1 ((h z).1 (.tail _ hz)) with rfl | q
          · have := h1.1 z hz; omega
          · exact q
        · intro hz
          rcases List.mem_cons.1 ((h z).2 (.tail _ hz)) with rfl | q
          · have := h2.1 z hz; omega
          · exact q)]
/-! ### the changes -/
theorem of_mem {a b : List Hd} {c : Ch} : c ∈ gonL b a ++ chL a b ↔ (∃ d ∈ a, fndO d.ob b = none ∧ c = gonC d) ∨ (∃ d ∈ b, c = chO a d ∧ emp c = false) := by
  rw [List.mem_append]
  unfold gonL chL
  constructor
  · rintro (h | h)
    · obtain ⟨d, hd, rfl⟩ := List.mem_map.1 h
      have h2 := List.mem_filter.1 hd
      refine .inl ⟨d, h2.1, ?_, rfl⟩
      cases e : fndO d.ob b with
      | none => rfl
      | some q => rw [e] at h2; simp at h2
    · have h2 := List.mem_filter.1 h
      obtain ⟨d, hd, e⟩ := List.mem_map.1 h2.1
      exact .inr ⟨d, hd, e.symm, by simpa using h2.2⟩
  · rintro (⟨d, hd, h1, rfl⟩ | ⟨d, hd, rfl, h1⟩)
    · exact .inl (List.mem_map.2 ⟨d, List.mem_filter.2 ⟨hd, by rw [h1]; rfl⟩, rfl⟩)
    · exact .inr (List.mem_filter.2 ⟨List.mem_map.2 ⟨d, hd, rfl⟩, by rw [h1]; rfl⟩)
theorem okI_sub {l m : List Pc} (h : okI l) (s : ∀ p ∈ m, p ∈ l) : okI m := fun p hp => h p (s p hp)
structure RtA (a : List Hd) : Prop where
  sm : sml a
  rt : rtR a = true
  ok : ∀ d ∈ a, okI d.ps
theorem RtA.srt {a : List Hd} (h : RtA a) : a.Pairwise (fun x y => x.ob < y.ob) := ((rt_iff a).1 h.rt).2
theorem RtA.one {a : List Hd} (h : RtA a) {d : Hd} (hd : d ∈ a) : oneR d = true := ((rt_iff a).1 h.rt).1 d hd
theorem RtA.ri {a : List Hd} (h : RtA a) {d : Hd} (hd : d ∈ a) : rises d.ps := ((one_iff d).1 (h.one hd)).2
theorem step_ok {a b : List Hd} (ha : RtA a) (hb : RtA b) {c : Ch} (hc : c ∈ gonL b a ++ chL a b) : stepOk a b c := by
  rcases of_mem.1 hc with ⟨d, hd, h1, rfl⟩ | ⟨d, hd, rfl, h1⟩
  · exact .inl ⟨rfl, by show (fndO d.ob a).isSome = true; rw [fnd_the ha.srt hd]; rfl⟩
  · refine .inr ⟨rfl, ?_, ?_⟩
    · show ((fndO d.ob b).getD d0).ob = d.ob
      rw [fnd_the hb.srt hd]; rfl
    · show ∃ v H, call ir 36 [vHd ((fndO d.ob a).getD d0), dT (fndO d.ob a).isSome, vCh (chO a d)] [] = some (v, H) ∧ v.scalar = false ∧ v.view H = .tup [vHd ((fndO d.ob b).getD d0), dI 0]
      rw [fnd_the hb.srt hd, Option.getD_some]
      have sd := hb.sm.2 d hd
      have rd := hb.ri hd
      unfold chO
      cases hq : fndO d.ob a with
      | none =>
        simp only [Option.getD_none, Option.isSome_none]
        have e : hdOf d0 (chg d0 d false) d.ps = d := by unfold hdOf chg; cases d; rfl
        rw [← e]
        have := t_changed d0 false (chg d0 d false) [] [] d.ps (by simp [d0]) .nil (.inr rfl) rfl rfl (by simp [chg]) (by simp [chg]; omega) (by simpa [chg] using rd)
          (by
            show mergeM [] (d.ps.map pcE) = d.ps.map pcE
            apply srtM_ext (merge_srt (by simp [SrtM])) (srt_pc rd)
            intro k
            rw [findM_merge k _ _ (srt_pc rd)]
            cases findM k (d.ps.map pcE) <;> rfl)
          (by simp) (fun p hp => by simp at hp) (by simpa [chg] using hb.ok d hd) (by omega) rd (hb.ok d hd) (fun p hp => by have := sd.2 p hp; omega)
        rw [e] at this
        rw [e]
        exact this
      | some x =>
        simp only [Option.getD_some, Option.isSome_some]
        obtain ⟨hx, hxo⟩ := fnd_in hq
        have sx := ha.sm.2 x hx
        have rx := ha.ri hx
        by_cases hg : x.ge = d.ge
        · have hch : chg x d true = { ob := d.ob, bo := !sameB x d, go := false, b1 := if !sameB x d then d.ob else 0, b2 := if !sameB x d then d.ge else 0, b3 := if !sameB x d then d.tg else [], b4 := if !sameB x d then d.le else 0, b5 := if !sameB x d then d.ti else 0, ps := d.ps.filter (isNew x.ps), ls := lsF d.ps x.ps } := by
            unfold chg lsF
            simp [hg]
          have e : hdOf x (chg x d true) d.ps = d := by
            rw [hch]
            unfold hdOf
            cases hs : sameB x d
            · simp
            · unfold sameB at hs
              simp only [Bool.and_eq_true, beq_iff_eq] at hs
              obtain ⟨e1, e2, e3, e4, e5⟩ := hs
              cases x; cases d; simp_all
          have hle : (x.ps.filter fun p => atP p.ix d.ps).length ≤ x.ps.length := List.length_filter_le ..
          have hle2 : (d.ps.filter (isNew x.ps)).length ≤ d.ps.length := List.length_filter_le ..
          have hle3 : (lsF d.ps x.ps).length ≤ x.ps.length := by unfold lsF; rw [List.length_map]; exact List.length_filter_le ..
          have := t_changed x true (chg x d true) x.ps (x.ps.filter fun p => atP p.ix d.ps) d.ps (by omega) rx (.inl rfl)
            (by
              rw [hch]
              simp only [Bool.not_true, Bool.false_or]
              cases hs : sameB x d
              · simp [hg]
              · simp)
            (by rw [hch]; exact lsF_del rx) (by rw [hch]; show (lsF d.ps x.ps).length ≤ _; omega) (by rw [hch]; show (d.ps.filter (isNew x.ps)).length ≤ _; omega) (by rw [hch]; exact rd.filter _)
            (by rw [hch]; exact merge_is rx rd) (by omega) (okI_sub (ha.ok x hx) fun p hp => (List.mem_filter.1 hp).1) (by rw [hch]; exact okI_sub (hb.ok d hd) fun p hp => (List.mem_filter.1 hp).1)
            (by omega) rd (hb.ok d hd) (fun p hp => by have := sd.2 p hp; omega)
          rw [e] at this
          exact this
        · have hs : sameB x d = false := by
            cases e : sameB x d
            · rfl
            · unfold sameB at e; simp at e; exact absurd e.2.1 hg
          have hch : chg x d true = { ob := d.ob, bo := true, go := false, b1 := d.ob, b2 := d.ge, b3 := d.tg, b4 := d.le, b5 := d.ti, ps := d.ps, ls := [] } := by
            unfold chg
            simp [hg, hs]
          have e : hdOf x (chg x d true) d.ps = d := by rw [hch]; unfold hdOf; cases d; rfl
          have := t_changed x true (chg x d true) [] [] d.ps (by omega) rx (.inl rfl) (by rw [hch]; simp [hg]) (by rw [hch]; rfl) (by rw [hch]; simp) (by rw [hch]; show d.ps.length ≤ _; omega) (by rw [hch]; exact rd)
            (by
              rw [hch]
              show mergeM [] (d.ps.map pcE) = d.ps.map pcE
              apply srtM_ext (merge_srt (by simp [SrtM])) (srt_pc rd)
              intro k
              rw [findM_merge k _ _ (srt_pc rd)]
              cases findM k (d.ps.map pcE) <;> rfl)
            (by simp) (fun p hp => by simp at hp) (by rw [hch]; exact hb.ok d hd) (by omega) rd (hb.ok d hd) (fun p hp => by have := sd.2 p hp; omega)
          rw [e] at this
          exact this
/-! ### all changes -/
theorem apR_mem (b : List Hd) (x : Hd) : ∀ (L : List Ch) (O : List Hd), (L.map (·.ob)).Nodup → (∀ c ∈ L, c.go = false → ((fndO c.ob b).getD d0).ob = c.ob) →
    (x ∈ apR b L O ↔ (x ∈ O ∧ ∀ c ∈ L, x.ob ≠ c.ob) ∨ ∃ c ∈ L, c.go = false ∧ x = (fndO c.ob b).getD d0)
  | [], O, _, _ => by
    show x ∈ O ↔ _
    constructor
    · intro h; exact .inl ⟨h, fun c hc => by simp at hc⟩
    · rintro (h | ⟨c, hc, _⟩)
      · exact h.1
      · simp at hc
  | c :: L, O, hn, hb => by
    rw [List.map_cons, List.nodup_cons] at hn
    have e : apR b (c :: L) O = apR b L (apS b O c) := rfl
    rw [e, apR_mem b x L (apS b O c) hn.2 (fun c hc => hb c (.tail _ hc))]
    have hno : ∀ d : Hd, noO c.ob d = true ↔ d.ob ≠ c.ob := fun d => by unfold noO isO; simp
    have hmem : x ∈ apS b O c ↔ (x ∈ O ∧ x.ob ≠ c.ob) ∨ (c.go = false ∧ x = (fndO c.ob b).getD d0) := by
      unfold apS
      rw [List.mem_append, List.mem_filter, hno]
      cases hg : c.go <;> simp
    rw [hmem]
    constructor
    · rintro (⟨h1 | h1, h2⟩ | ⟨c', h1, h2⟩)
      · exact .inl ⟨h1.1, fun c' hc' => by
          rcases List.mem_cons.1 hc' with rfl | hc'
          · exact h1.2
          · exact h2 c' hc'⟩
      · exact .inr ⟨c, .head _, h1⟩
      · exact .inr ⟨c', .tail _ h1, h2⟩
    · rintro (⟨h1, h2⟩ | ⟨c', h1, h2⟩)
      · exact .inl ⟨.inl ⟨h1, h2 c (.head _)⟩, fun c' hc' => h2 c' (.tail _ hc')⟩
      · rcases List.mem_cons.1 h1 with rfl | h1
        · refine .inl ⟨.inr h2, fun q hq e => ?_⟩
          have := hb c' (.head _) h2.1
          rw [← h2.2, e] at this
          exact hn.1 (List.mem_map.2 ⟨q, hq, this⟩)
        · exact .inr ⟨c', h1, h2⟩
theorem apS_nod {b O : List Hd} {c : Ch} (hb : c.go = false → ((fndO c.ob b).getD d0).ob = c.ob) (h : (O.map (·.ob)).Nodup) : ((apS b O c).map (·.ob)).Nodup := by
  unfold apS
  rw [List.map_append, List.nodup_append]
  refine ⟨(List.filter_sublist.map _).nodup h, ?_, fun x hx y hy e => ?_⟩
  · split <;> simp
  · obtain ⟨q, hq, rfl⟩ := List.mem_map.1 hx
    have h1 := (List.mem_filter.1 hq).2
    cases hg : c.go
    · rw [hg, if_neg (by simp)] at hy
      have hy : y = ((fndO c.ob b).getD d0).ob := by simpa using hy
      rw [hb hg] at hy
      unfold noO isO at h1
      simp at h1
      omega
    · rw [hg, if_pos rfl] at hy
      simp at hy
theorem apR_nod {b : List Hd} : ∀ (L : List Ch) (O : List Hd), (∀ c ∈ L, c.go = false → ((fndO c.ob b).getD d0).ob = c.ob) → (O.map (·.ob)).Nodup → ((apR b L O).map (·.ob)).Nodup
  | [], O, _, h => h
  | c :: L, O, hb, h => apR_nod L (apS b O c) (fun c hc => hb c (.tail _ hc)) (apS_nod (hb c (.head _)) h)
theorem of_bind {a b : List Hd} (hb : RtA b) {c : Ch} (hc : c ∈ gonL b a ++ chL a b) : c.go = false → ((fndO c.ob b).getD d0).ob = c.ob := by
  intro hg
  rcases of_mem.1 hc with ⟨d, hd, h1, rfl⟩ | ⟨d, hd, rfl, h1⟩
  · simp [gonC] at hg
  · show ((fndO d.ob b).getD d0).ob = d.ob
    rw [fnd_the hb.srt hd]; rfl
theorem applied {a b : List Hd} (ha : RtA a) (hb : RtA b) : srtK (·.ob) (apR b (ofR a b) a) = b := by
  have hof : ofR a b = srtK (·.ob) (gonL b a ++ chL a b) := by unfold ofR; rw [ha.rt, hb.rt]; rfl
  have hp := srtK_perm (·.ob) (gonL b a ++ chL a b)
  have hn : ((ofR a b).map (·.ob)).Nodup := by rw [hof]; exact (hp.map _).nodup_iff.2 (of_nod ha.srt hb.srt)
  have hm : ∀ c, c ∈ ofR a b ↔ c ∈ gonL b a ++ chL a b := fun c => by rw [hof]; exact hp.mem_iff
  have hbd : ∀ c ∈ ofR a b, c.go = false → ((fndO c.ob b).getD d0).ob = c.ob := fun c hc => of_bind hb ((hm c).1 hc)
  have hnA := apR_nod (b := b) (ofR a b) a hbd (nod_of (f := Hd.ob) ha.srt)
  refine srt_by (β := Hd) (fun d => d.ob) (srt_strict (f := fun d : Hd => d.ob) hnA) hb.srt ?_
  intro x
  rw [(srtK_perm (·.ob) (apR b (ofR a b) a)).mem_iff, apR_mem b x _ _ hn hbd]
  constructor
  · rintro (⟨h1, h2⟩ | ⟨c, hc, hg, rfl⟩)
    · cases hq : fndO x.ob b with
      | none => exact absurd rfl (h2 (gonC x) ((hm _).2 (of_mem.2 (.inl ⟨x, h1, hq, rfl⟩))))
      | some y =>
        obtain ⟨hy, hyo⟩ := fnd_in hq
        have hfa : fndO y.ob a = some x := by rw [hyo]; exact fnd_the ha.srt h1
        cases he : emp (chO a y)
        · exact absurd hyo.symm (h2 (chO a y) ((hm _).2 (of_mem.2 (.inr ⟨y, hy, rfl, he⟩))))
        · unfold chO at he
          rw [hfa] at he
          have := (emp_iff (ha.one h1) (hb.one hy)).1 he
          rw [this]; exact hy
    · rcases of_mem.1 ((hm c).1 hc) with ⟨d, hd, h1, rfl⟩ | ⟨d, hd, rfl, h1⟩
      · simp [gonC] at hg
      · show (fndO d.ob b).getD d0 ∈ b
        rw [fnd_the hb.srt hd]; exact hd
  · intro hx
    cases he : emp (chO a x)
    · refine .inr ⟨chO a x, (hm _).2 (of_mem.2 (.inr ⟨x, hx, rfl, he⟩)), rfl, ?_⟩
      show x = (fndO x.ob b).getD d0
      rw [fnd_the hb.srt hx]; rfl
    · unfold chO at he
      cases hq : fndO x.ob a with
      | none => rw [hq] at he; exact absurd he (by rw [Option.isSome_none, emp_new]; simp)
      | some y =>
        rw [hq] at he
        obtain ⟨hy, hyo⟩ := fnd_in hq
        have := (emp_iff (ha.one hy) (hb.one hx)).1 he
        subst this
        refine .inl ⟨hy, fun c hc e => ?_⟩
        rcases of_mem.1 ((hm c).1 hc) with ⟨d, hd, h1, rfl⟩ | ⟨d, hd, rfl, h1⟩
        · have : fndO d.ob b = some y := by
            rw [show d.ob = y.ob from e.symm]; exact fnd_the hb.srt hx
          rw [this] at h1; simp at h1
        · have e : y.ob = d.ob := e
          have h2 := fnd_the hb.srt hx
          rw [e, fnd_the hb.srt hd] at h2
          injection h2 with h2
          subst h2
          unfold chO at h1
          rw [hq] at h1
          rw [show emp (chg ((some d).getD d0) d (some d).isSome) = emp (chg d d true) from rfl, (emp_iff (hb.one hx) (hb.one hx)).2 rfl] at h1
          simp at h1
theorem of_nil {a b : List Hd} (ha : RtA a) (hb : RtA b) : ofR a b = [] ↔ a = b := by
  constructor
  · intro h
    have := applied ha hb
    rw [h] at this
    have e : apR b [] a = a := rfl
    rw [e, srt_same ha.srt] at this
    exact this
  · rintro rfl
    have hof : ofR a a = srtK (·.ob) (gonL a a ++ chL a a) := by unfold ofR; rw [ha.rt]; rfl
    have : gonL a a ++ chL a a = [] := by
      rw [List.eq_nil_iff_forall_not_mem]
      intro c hc
      rcases of_mem.1 hc with ⟨d, hd, h1, rfl⟩ | ⟨d, hd, rfl, h1⟩
      · rw [fnd_the ha.srt hd] at h1; simp at h1
      · unfold chO at h1
        rw [fnd_the ha.srt hd] at h1
        rw [show emp (chg ((some d).getD d0) d (some d).isSome) = emp (chg d d true) from rfl, (emp_iff (ha.one hd) (ha.one hd)).2 rfl] at h1
        simp at h1
    rw [hof, this]
    rfl
theorem of_okC {a b : List Hd} (ha : RtA a) (hb : RtA b) : okC (ofR a b) := by
  have hof : ofR a b = srtK (·.ob) (gonL b a ++ chL a b) := by unfold ofR; rw [ha.rt, hb.rt]; rfl
  have hp := srtK_perm (·.ob) (gonL b a ++ chL a b)
  refine ⟨by rw [hof]; exact srt_strict (of_nod ha.srt hb.srt), fun c hc hbo => ?_⟩
  rw [hof] at hc
  rcases of_mem.1 (hp.mem_iff.1 hc) with ⟨d, hd, h1, rfl⟩ | ⟨d, hd, rfl, h1⟩
  · simp [gonC] at hbo
  · unfold chO chg at hbo ⊢
    simp only at hbo ⊢
    rw [if_pos hbo]
theorem of_len {a b : List Hd} (ha : RtA a) (hb : RtA b) : (ofR a b).length ≤ 200000 := by
  have hof : ofR a b = srtK (·.ob) (gonL b a ++ chL a b) := by unfold ofR; rw [ha.rt, hb.rt]; rfl
  rw [hof, srtK_len, List.length_append]
  have q1 : (gonL b a).length ≤ a.length := by unfold gonL; rw [List.length_map]; exact List.length_filter_le ..
  have q2 : (chL a b).length ≤ b.length := by unfold chL; exact Nat.le_trans (List.length_filter_le ..) (by rw [List.length_map]; exact Nat.le_refl _)
  have := ha.sm.1
  have := hb.sm.1
  omega
theorem t_apply {a b : List Hd} (ha : RtA a) (hb : RtA b) : call ir 16 [vHs a, .d (.list 10 ((ofR a b).map chRow))] [] = some (.tup [.own 0 6 0 b.length false, dI 0], [.arr 6 (b.map hdRow)]) := by
  rw [call_eq (fn := ir16) rfl, evF_bnd]
  have hlen := ha.sm.1
  have hlb := hb.sm.1
  have h1 := t_right48 a (by omega) (sml_b ha.sm)
  rw [ha.rt] at h1
  have hLl := of_len ha hb
  have h2 := t_rises (ofR a b) (by omega) (of_okC ha hb)
  have hlm : (a.map hdRow).length = a.length := List.length_map ..
  have hcm : ((ofR a b).map chRow).length = (ofR a b).length := List.length_map ..
  have hcl := c_cloneH a (by omega)
  have hof : ofR a b = srtK (·.ob) (gonL b a ++ chL a b) := by unfold ofR; rw [ha.rt, hb.rt]; rfl
  have hp := srtK_perm (·.ob) (gonL b a ++ chL a b)
  have hn : ((ofR a b).map (·.ob)).Nodup := by rw [hof]; exact (hp.map _).nodup_iff.2 (of_nod ha.srt hb.srt)
  have hm : ∀ c, c ∈ ofR a b ↔ c ∈ gonL b a ++ chL a b := fun c => by rw [hof]; exact hp.mem_iff
  have hlp := fun k => lp_ap a b (ofR a b) hLl hn (fun c hc => step_ok ha hb ((hm c).1 hc)) k 0 (Nat.zero_le _) a (by omega) (fun c hc => rfl)
  rw [List.drop_zero] at hlp
  have hnA := apR_nod (b := b) (ofR a b) a (fun c hc => of_bind hb ((hm c).1 hc)) (nod_of (f := Hd.ob) ha.srt)
  have hap := applied ha hb
  have hAl : (apR b (ofR a b) a).length = b.length := by rw [← hap, srtK_len, hap]
  have hs := c_sortH48 (apR b (ofR a b) a) (by omega) hnA [] false
  rw [hap, List.append_nil, List.append_nil, hAl] at hs
  have h3 := t_rightO b false (by omega) (sml_b hb.sm) []
  rw [hb.rt, List.append_nil] at h3
  have hlp := hlp
  rw [hAl] at hlp
  generalize apR b (ofR a b) a = A at hlp hs
  generalize ofR a b = L at hlp h2 hcm hLl ⊢
  have hlB : (b.map hdRow).length = b.length := List.length_map ..
  simp (maxSteps := 2000000) (disch := omega) only [go_sem, doCall, doCallQ, doCallP, Nat.reduceAdd, Nat.reduceMul, Nat.reduceSub, Nat.reduceDiv, Nat.reduceMod, Nat.reduceLT, Nat.reduceLeDiff, Nat.reduceEqDiff, Nat.reduceBEq, Nat.reduceBNe, Int.reduceToNat, Int.reduceLT, Int.reduceLE, Int.reduceEq, Int.reduceNe, Int.reduceAdd, Int.reduceSub, Int.reduceMul, Int.reduceNeg, bd16, h1, h2, hcl, hlm, Int.natCast_nonneg, Int.toNat_natCast, Option.getD_some, Option.getD_none, List.drop_zero, Nat.sub_zero, Nat.zero_le, true_and, and_true, Nat.le_refl, chk_of]
  rw [loop_step1]; simp (maxSteps := 2000000) only [go_sem, doCall, doCallQ, doCallP, Nat.reduceAdd, Nat.reduceMul, Nat.reduceSub, Nat.reduceDiv, Nat.reduceMod, Nat.reduceLT, Nat.reduceLeDiff, Nat.reduceEqDiff, Nat.reduceBEq, Nat.reduceBNe, Int.reduceToNat, Int.reduceLT, Int.reduceLE, Int.reduceEq, Int.reduceNe, Int.reduceAdd, Int.reduceSub, Int.reduceMul, Int.reduceNeg]
  refine (lp_apc a (by omega) (sml_c ha.sm) _ _ 0 (Nat.zero_le _)).trans ?_
  simp (maxSteps := 2000000) (disch := omega) only [go_sem, doCall, doCallQ, doCallP, Nat.reduceAdd, Nat.reduceMul, Nat.reduceSub, Nat.reduceDiv, Nat.reduceMod, Nat.reduceLT, Nat.reduceLeDiff, Nat.reduceEqDiff, Nat.reduceBEq, Nat.reduceBNe, Int.reduceToNat, Int.reduceLT, Int.reduceLE, Int.reduceEq, Int.reduceNe, Int.reduceAdd, Int.reduceSub, Int.reduceMul, Int.reduceNeg, hcm, Option.isSome_none, Option.isSome_some, Bool.not_false, Bool.not_true, List.length_cons, List.length_nil, Nat.zero_add, List.getD_cons_zero, List.set_cons_zero, List.set_cons_succ, Int.natCast_nonneg, Int.toNat_natCast, Option.getD_some, Option.getD_none, List.drop_zero, Nat.sub_zero, Nat.zero_le, true_and, and_true, Nat.le_refl, chk_of]
  rw [loop_step1]; simp (maxSteps := 2000000) (disch := omega) only [go_sem, doCall, doCallQ, doCallP, Nat.reduceAdd, Nat.reduceMul, Nat.reduceSub, Nat.reduceDiv, Nat.reduceMod, Nat.reduceLT, Nat.reduceLeDiff, Nat.reduceEqDiff, Nat.reduceBEq, Nat.reduceBNe, Int.reduceToNat, Int.reduceLT, Int.reduceLE, Int.reduceEq, Int.reduceNe, Int.reduceAdd, Int.reduceSub, Int.reduceMul, Int.reduceNeg]
  refine (hlp _).trans ?_
  simp (maxSteps := 2000000) (disch := omega) only [go_sem, doCall, doCallQ, doCallP, Nat.reduceAdd, Nat.reduceMul, Nat.reduceSub, Nat.reduceDiv, Nat.reduceMod, Nat.reduceLT, Nat.reduceLeDiff, Nat.reduceEqDiff, Nat.reduceBEq, Nat.reduceBNe, Int.reduceToNat, Int.reduceLT, Int.reduceLE, Int.reduceEq, Int.reduceNe, Int.reduceAdd, Int.reduceSub, Int.reduceMul, Int.reduceNeg, hs, h3, hlB, Option.isSome_none, Option.isSome_some, Bool.not_false, Bool.not_true, List.length_cons, List.length_nil, Nat.zero_add, List.getD_cons_zero, List.set_cons_zero, List.set_cons_succ, Int.natCast_nonneg, Int.toNat_natCast, Option.getD_some, Option.getD_none, List.drop_zero, Nat.sub_zero, Nat.zero_le, true_and, and_true, Nat.le_refl, chk_of]
end Go.Proofs.Ytbcpffhialoliaa
namespace Go.Proofs.Ytbcpffhialoliaa
open Go Go.Ev Go.Proofs.Ytbcpffhialoliaa.Ir
set_option maxRecDepth 100000
set_option maxHeartbeats 4000000
set_option linter.unusedSimpArgs false
set_option linter.unusedVariables false
instance : DecidableEq Pc := fun a b => decidable_of_iff (samePc a b = true) ⟨same_eq, fun h => by rw [h]; exact same_refl b⟩
theorem hd_eq (x y : Hd) : x = y ↔ sameB x y = true ∧ x.ps.length = y.ps.length ∧ x.ps = y.ps := by
  unfold sameB
  simp only [Bool.and_eq_true, beq_iff_eq]
  constructor
  · rintro rfl; exact ⟨⟨rfl, rfl, rfl, rfl, rfl⟩, rfl, rfl⟩
  · rintro ⟨⟨h1, h2, h3, h4, h5⟩, _, h6⟩; cases x; cases y; simp_all
instance : DecidableEq Hd := fun a b => decidable_of_iff (sameB a b = true ∧ a.ps.length = b.ps.length ∧ a.ps = b.ps) (hd_eq a b).symm
theorem lp_lik1 (a b : List Hd) (n i0 : Nat) (ha : i0 < a.length) (hb : i0 < b.length) (hpl : a[i0].ps.length = b[i0].ps.length) (hl : a[i0].ps.length ≤ 1000000) (hbd : ∀ p ∈ a[i0].ps, p.bd.length ≤ 1000000000) (k : Ex → St → Option (AV × Heap)) (i : Nat) (hi : i ≤ a[i0].ps.length) :
    (bnd (evC (call ir) (loop ir) lp17_1 (st17_1 0 (vHs a) (vHs b) (dI i0) (dI n) (dI i0) (dI a[i0].ps.length) (dI i) [])) (lpC (call ir) (loop ir) [0, 1, 5, 13, 14, 48, 49] lp17_1 k)) = (if a[i0].ps.drop i = b[i0].ps.drop i then k (.exit 2) (clean [0, 1, 13, 14] (st17_1 0 (vHs a) (vHs b) .unk (dI n) (dI i0) .unk .unk []))
      else k .ret (clean [4] ⟨0, [.unk, .unk, .unk, .unk, dT false, .unk, .unk, .unk, .unk, .unk, .unk, .unk, .unk, .unk, .unk, .unk, .unk, .unk, .unk, .unk, .unk, .unk, .unk, .unk, .unk, .unk, .unk, .unk, .unk, .unk, .unk, .unk, .unk, .unk, .unk, .unk, .unk, .unk, .unk, .unk, .unk, .unk, .unk, .unk, .unk, .unk, .unk, .unk, .unk, .unk, .unk, .unk, .unk, .unk, .unk, .unk, .unk, .unk, .unk, .unk, .unk, .unk, .unk, .unk, .unk, .unk, .unk, .unk, .unk, .unk, .unk, .unk], []⟩)) := by
  by_cases h : i = a[i0].ps.length
  · have hx : ¬ (i : Int) < a[i0].ps.length := by omega
    rw [h] at hx
    rw [h, List.drop_length, hpl, List.drop_length, if_pos rfl, ← hpl]
    simp (maxSteps := 2000000) (disch := omega) only [go_sem, doCall, doCallQ, doCallP, Nat.reduceAdd, Nat.reduceMul, Nat.reduceSub, Nat.reduceDiv, Nat.reduceMod, Nat.reduceLT, Nat.reduceLeDiff, Nat.reduceEqDiff, Nat.reduceBEq, Nat.reduceBNe, Int.reduceToNat, Int.reduceLT, Int.reduceLE, Int.reduceEq, Int.reduceNe, Int.reduceAdd, Int.reduceSub, Int.reduceMul, Int.reduceNeg, u17_1, lb17_1, hx]
  · have hlt : (i : Int) < a[i0].ps.length := by omega
    have hi' : i < a[i0].ps.length := by omega
    have hib : i < b[i0].ps.length := by omega
    have hw := wr_succ (i := i) (by omega)
    have hg := getHd a ha
    have hg2 := getHd b hb
    have hp := getPc a[i0].ps hi'
    have hp2 := getPc b[i0].ps hib
    have hla : (a.map hdRow).length = a.length := List.length_map ..
    have hlb : (b.map hdRow).length = b.length := List.length_map ..
    have hpa : (a[i0].ps.map pcRow).length = a[i0].ps.length := List.length_map ..
    have hpb : (b[i0].ps.map pcRow).length = b[i0].ps.length := List.length_map ..
    have hsm := t_samep a[i0].ps[i] b[i0].ps[i] (hbd _ (List.getElem_mem hi'))
    have ih := lp_lik1 a b n i0 ha hb hpl hl hbd k (i + 1) (by omega)
    rw [List.drop_eq_getElem_cons hi', List.drop_eq_getElem_cons hib]
    cases e : samePc a[i0].ps[i] b[i0].ps[i]
    · rw [e] at hsm
      rw [if_neg (show ¬ (a[i0].ps[i] :: a[i0].ps.drop (i + 1) = b[i0].ps[i] :: b[i0].ps.drop (i + 1)) from fun h => by
        have := (List.cons.inj h).1
        rw [this, same_refl] at e; simp at e)]
      simp (maxSteps := 2000000) (disch := omega) only [go_sem, doCall, doCallQ, doCallP, Nat.reduceAdd, Nat.reduceMul, Nat.reduceSub, Nat.reduceDiv, Nat.reduceMod, Nat.reduceLT, Nat.reduceLeDiff, Nat.reduceEqDiff, Nat.reduceBEq, Nat.reduceBNe, Int.reduceToNat, Int.reduceLT, Int.reduceLE, Int.reduceEq, Int.reduceNe, Int.reduceAdd, Int.reduceSub, Int.reduceMul, Int.reduceNeg, u17_1, lb17_1, hlt, hi', hib, ha, hb, hw, hg, hg2, hp, hp2, hla, hlb, hpa, hpb, hsm, Option.isSome_none, Option.isSome_some, Bool.not_false, Bool.not_true, List.length_cons, List.length_nil, Nat.zero_add, List.getD_cons_zero, List.set_cons_zero, List.set_cons_succ, Int.natCast_nonneg, Int.toNat_natCast, Option.getD_some, Option.getD_none, List.drop_zero, Nat.sub_zero, Nat.zero_le, true_and, and_true, Nat.le_refl, chk_of]
    · rw [e] at hsm
      have e2 := same_eq e
      rw [show (if a[i0].ps[i] :: a[i0].ps.drop (i + 1) = b[i0].ps[i] :: b[i0].ps.drop (i + 1) then k (.exit 2) (clean [0, 1, 13, 14] (st17_1 0 (vHs a) (vHs b) .unk (dI n) (dI i0) .unk .unk [])) else k .ret (clean [4] ⟨0, [.unk, .unk, .unk, .unk, dT false, .unk, .unk, .unk, .unk, .unk, .unk, .unk, .unk, .unk, .unk, .unk, .unk, .unk, .unk, .unk, .unk, .unk, .unk, .unk, .unk, .unk, .unk, .unk, .unk, .unk, .unk, .unk, .unk, .unk, .unk, .unk, .unk, .unk, .unk, .unk, .unk, .unk, .unk, .unk, .unk, .unk, .unk, .unk, .unk, .unk, .unk, .unk, .unk, .unk, .unk, .unk, .unk, .unk, .unk, .unk, .unk, .unk, .unk, .unk, .unk, .unk, .unk, .unk, .unk, .unk, .unk, .unk], []⟩)) = (if a[i0].ps.drop (i + 1) = b[i0].ps.drop (i + 1) then k (.exit 2) (clean [0, 1, 13, 14] (st17_1 0 (vHs a) (vHs b) .unk (dI n) (dI i0) .unk .unk [])) else k .ret (clean [4] ⟨0, [.unk, .unk, .unk, .unk, dT false, .unk, .unk, .unk, .unk, .unk, .unk, .unk, .unk, .unk, .unk, .unk, .unk, .unk, .unk, .unk, .unk, .unk, .unk, .unk, .unk, .unk, .unk, .unk, .unk, .unk, .unk, .unk, .unk, .unk, .unk, .unk, .unk, .unk, .unk, .unk, .unk, .unk, .unk, .unk, .unk, .unk, .unk, .unk, .unk, .unk, .unk, .unk, .unk, .unk, .unk, .unk, .unk, .unk, .unk, .unk, .unk, .unk, .unk, .unk, .unk, .unk, .unk, .unk, .unk, .unk, .unk, .unk], []⟩)) by
        rw [e2]; simp only [List.cons.injEq, true_and]]
      simp (maxSteps := 2000000) (disch := omega) only [go_sem, doCall, doCallQ, doCallP, Nat.reduceAdd, Nat.reduceMul, Nat.reduceSub, Nat.reduceDiv, Nat.reduceMod, Nat.reduceLT, Nat.reduceLeDiff, Nat.reduceEqDiff, Nat.reduceBEq, Nat.reduceBNe, Int.reduceToNat, Int.reduceLT, Int.reduceLE, Int.reduceEq, Int.reduceNe, Int.reduceAdd, Int.reduceSub, Int.reduceMul, Int.reduceNeg, u17_1, lb17_1, hlt, hi', hib, ha, hb, hw, hg, hg2, hp, hp2, hla, hlb, hpa, hpb, hsm, Option.isSome_none, Option.isSome_some, Bool.not_false, Bool.not_true, List.length_cons, List.length_nil, Nat.zero_add, List.getD_cons_zero, List.set_cons_zero, List.set_cons_succ, Int.natCast_nonneg, Int.toNat_natCast, Option.getD_some, Option.getD_none, List.drop_zero, Nat.sub_zero, Nat.zero_le, true_and, and_true, Nat.le_refl, chk_of]
      rw [loop_step1]; simp (maxSteps := 2000000) only [go_sem, doCall, doCallQ, doCallP, Nat.reduceAdd, Nat.reduceMul, Nat.reduceSub, Nat.reduceDiv, Nat.reduceMod, Nat.reduceLT, Nat.reduceLeDiff, Nat.reduceEqDiff, Nat.reduceBEq, Nat.reduceBNe, Int.reduceToNat, Int.reduceLT, Int.reduceLE, Int.reduceEq, Int.reduceNe, Int.reduceAdd, Int.reduceSub, Int.reduceMul, Int.reduceNeg]; exact ih
termination_by a[i0].ps.length - i
theorem lp_lik0 (a b : List Hd) (hab : a.length = b.length) (hl : a.length ≤ 1000000) (hs : ∀ d ∈ a, d.ps.length ≤ 1000000 ∧ ∀ p ∈ d.ps, p.bd.length ≤ 1000000000) (k : Ex → St → Option (AV × Heap)) (i : Nat) (hi : i ≤ a.length) :
    (bnd (evC (call ir) (loop ir) lp17_0 (st17_0 0 (vHs a) (vHs b) (dI a.length) (dI i) [])) (lpC (call ir) (loop ir) [0, 1, 13, 14] lp17_0 k)) = (if a.drop i = b.drop i then k (.exit 0) (clean [] (st17_0 0 .unk .unk .unk .unk []))
      else k .ret (clean [4] ⟨0, [.unk, .unk, .unk, .unk, dT false, .unk, .unk, .unk, .unk, .unk, .unk, .unk, .unk, .unk, .unk, .unk, .unk, .unk, .unk, .unk, .unk, .unk, .unk, .unk, .unk, .unk, .unk, .unk, .unk, .unk, .unk, .unk, .unk, .unk, .unk, .unk, .unk, .unk, .unk, .unk, .unk, .unk, .unk, .unk, .unk, .unk, .unk, .unk, .unk, .unk, .unk, .unk, .unk, .unk, .unk, .unk, .unk, .unk, .unk, .unk, .unk, .unk, .unk, .unk, .unk, .unk, .unk, .unk, .unk, .unk, .unk, .unk], []⟩)) := by
  by_cases h : i = a.length
  · have hx : ¬ (i : Int) < a.length := by omega
    rw [h] at hx
    rw [h, List.drop_length, hab, List.drop_length, if_pos rfl, ← hab]
    simp (maxSteps := 2000000) (disch := omega) only [go_sem, doCall, doCallQ, doCallP, Nat.reduceAdd, Nat.reduceMul, Nat.reduceSub, Nat.reduceDiv, Nat.reduceMod, Nat.reduceLT, Nat.reduceLeDiff, Nat.reduceEqDiff, Nat.reduceBEq, Nat.reduceBNe, Int.reduceToNat, Int.reduceLT, Int.reduceLE, Int.reduceEq, Int.reduceNe, Int.reduceAdd, Int.reduceSub, Int.reduceMul, Int.reduceNeg, u17_0, lb17_0, hx]
  · have hlt : (i : Int) < a.length := by omega
    have hi' : i < a.length := by omega
    have hib : i < b.length := by omega
    have hw := wr_succ (i := i) (by omega)
    have hg := getHd a hi'
    have hg2 := getHd b hib
    have hla : (a.map hdRow).length = a.length := List.length_map ..
    have hlb : (b.map hdRow).length = b.length := List.length_map ..
    have hpa : (a[i].ps.map pcRow).length = a[i].ps.length := List.length_map ..
    have hpb : (b[i].ps.map pcRow).length = b[i].ps.length := List.length_map ..
    have hin := hs _ (List.getElem_mem hi')
    have ih := lp_lik0 a b hab hl hs k (i + 1) (by omega)
    have hin1 := fun hpl kk => lp_lik1 a b a.length i hi' hib hpl hin.1 hin.2 kk 0 (Nat.zero_le _)
    rw [List.drop_zero, List.drop_zero] at hin1
    rw [List.drop_eq_getElem_cons hi', List.drop_eq_getElem_cons hib]
    have hh := hd_eq a[i] b[i]
    cases es : sameB a[i] b[i]
    · rw [if_neg (show ¬ (a[i] :: a.drop (i + 1) = b[i] :: b.drop (i + 1)) from fun h => by
        have := (List.cons.inj h).1
        have := (hh.1 this).1
        rw [es] at this; simp at this)]
      have hs' := es
      unfold sameB at hs'
      simp (maxSteps := 2000000) (disch := omega) only [go_sem, doCall, doCallQ, doCallP, Nat.reduceAdd, Nat.reduceMul, Nat.reduceSub, Nat.reduceDiv, Nat.reduceMod, Nat.reduceLT, Nat.reduceLeDiff, Nat.reduceEqDiff, Nat.reduceBEq, Nat.reduceBNe, Int.reduceToNat, Int.reduceLT, Int.reduceLE, Int.reduceEq, Int.reduceNe, Int.reduceAdd, Int.reduceSub, Int.reduceMul, Int.reduceNeg, u17_0, lb17_0, hlt, hi', hib, hw, hg, hg2, hla, hlb, hs', Option.isSome_none, Option.isSome_some, Bool.not_false, Bool.not_true, List.length_cons, List.length_nil, Nat.zero_add, List.getD_cons_zero, List.set_cons_zero, List.set_cons_succ, Int.natCast_nonneg, Int.toNat_natCast, Option.getD_some, Option.getD_none, List.drop_zero, Nat.sub_zero, Nat.zero_le, true_and, and_true, Nat.le_refl, chk_of]
    · have hs' := es
      unfold sameB at hs'
      by_cases el : a[i].ps.length = b[i].ps.length
      · have el1 : ((a[i].ps.length : Int) != (b[i].ps.length : Int)) = false := by rw [el]; simp
        have el2 : ((a[i].ps.length : Int) = (b[i].ps.length : Int)) = True := by rw [el]; simp
        have hin1 := hin1 el
        have cc : (a[i] :: a.drop (i + 1) = b[i] :: b.drop (i + 1)) ↔ (a[i].ps = b[i].ps ∧ a.drop (i + 1) = b.drop (i + 1)) := by
          rw [List.cons.injEq, hh]
          constructor
          · rintro ⟨⟨_, _, h1⟩, h2⟩; exact ⟨h1, h2⟩
          · rintro ⟨h1, h2⟩; exact ⟨⟨es, el, h1⟩, h2⟩
        simp (maxSteps := 2000000) (disch := omega) only [go_sem, doCall, doCallQ, doCallP, Nat.reduceAdd, Nat.reduceMul, Nat.reduceSub, Nat.reduceDiv, Nat.reduceMod, Nat.reduceLT, Nat.reduceLeDiff, Nat.reduceEqDiff, Nat.reduceBEq, Nat.reduceBNe, Int.reduceToNat, Int.reduceLT, Int.reduceLE, Int.reduceEq, Int.reduceNe, Int.reduceAdd, Int.reduceSub, Int.reduceMul, Int.reduceNeg, u17_0, lb17_0, hlt, hi', hib, hw, hg, hg2, hla, hlb, hpa, hpb, hs', el1, el2, not_true, Option.isSome_none, Option.isSome_some, Bool.not_false, Bool.not_true, List.length_cons, List.length_nil, Nat.zero_add, List.getD_cons_zero, List.set_cons_zero, List.set_cons_succ, Int.natCast_nonneg, Int.toNat_natCast, Option.getD_some, Option.getD_none, List.drop_zero, Nat.sub_zero, Nat.zero_le, true_and, and_true, Nat.le_refl, chk_of]
        rw [loop_step1]; simp (maxSteps := 2000000) only [go_sem, doCall, doCallQ, doCallP, Nat.reduceAdd, Nat.reduceMul, Nat.reduceSub, Nat.reduceDiv, Nat.reduceMod, Nat.reduceLT, Nat.reduceLeDiff, Nat.reduceEqDiff, Nat.reduceBEq, Nat.reduceBNe, Int.reduceToNat, Int.reduceLT, Int.reduceLE, Int.reduceEq, Int.reduceNe, Int.reduceAdd, Int.reduceSub, Int.reduceMul, Int.reduceNeg]
        refine (hin1 _).trans ?_
        by_cases ep : a[i].ps = b[i].ps
        · rw [if_pos ep]
          simp (maxSteps := 2000000) (disch := omega) only [go_sem, doCall, doCallQ, doCallP, Nat.reduceAdd, Nat.reduceMul, Nat.reduceSub, Nat.reduceDiv, Nat.reduceMod, Nat.reduceLT, Nat.reduceLeDiff, Nat.reduceEqDiff, Nat.reduceBEq, Nat.reduceBNe, Int.reduceToNat, Int.reduceLT, Int.reduceLE, Int.reduceEq, Int.reduceNe, Int.reduceAdd, Int.reduceSub, Int.reduceMul, Int.reduceNeg, hw]
          rw [loop_step1]; simp (maxSteps := 2000000) only [go_sem, doCall, doCallQ, doCallP, Nat.reduceAdd, Nat.reduceMul, Nat.reduceSub, Nat.reduceDiv, Nat.reduceMod, Nat.reduceLT, Nat.reduceLeDiff, Nat.reduceEqDiff, Nat.reduceBEq, Nat.reduceBNe, Int.reduceToNat, Int.reduceLT, Int.reduceLE, Int.reduceEq, Int.reduceNe, Int.reduceAdd, Int.reduceSub, Int.reduceMul, Int.reduceNeg]
          refine ih.trans ?_
          by_cases er : a.drop (i + 1) = b.drop (i + 1)
          · rw [if_pos er, if_pos (cc.2 ⟨ep, er⟩)]
            simp (maxSteps := 2000000) (disch := omega) only [go_sem, doCall, doCallQ, doCallP, Nat.reduceAdd, Nat.reduceMul, Nat.reduceSub, Nat.reduceDiv, Nat.reduceMod, Nat.reduceLT, Nat.reduceLeDiff, Nat.reduceEqDiff, Nat.reduceBEq, Nat.reduceBNe, Int.reduceToNat, Int.reduceLT, Int.reduceLE, Int.reduceEq, Int.reduceNe, Int.reduceAdd, Int.reduceSub, Int.reduceMul, Int.reduceNeg]
          · rw [if_neg er, if_neg (fun h => er (cc.1 h).2)]
            simp (maxSteps := 2000000) (disch := omega) only [go_sem, doCall, doCallQ, doCallP, Nat.reduceAdd, Nat.reduceMul, Nat.reduceSub, Nat.reduceDiv, Nat.reduceMod, Nat.reduceLT, Nat.reduceLeDiff, Nat.reduceEqDiff, Nat.reduceBEq, Nat.reduceBNe, Int.reduceToNat, Int.reduceLT, Int.reduceLE, Int.reduceEq, Int.reduceNe, Int.reduceAdd, Int.reduceSub, Int.reduceMul, Int.reduceNeg]
        · rw [if_neg ep, if_neg (fun h => ep (cc.1 h).1)]
          simp (maxSteps := 2000000) (disch := omega) only [go_sem, doCall, doCallQ, doCallP, Nat.reduceAdd, Nat.reduceMul, Nat.reduceSub, Nat.reduceDiv, Nat.reduceMod, Nat.reduceLT, Nat.reduceLeDiff, Nat.reduceEqDiff, Nat.reduceBEq, Nat.reduceBNe, Int.reduceToNat, Int.reduceLT, Int.reduceLE, Int.reduceEq, Int.reduceNe, Int.reduceAdd, Int.reduceSub, Int.reduceMul, Int.reduceNeg]
      · have el1 : ((a[i].ps.length : Int) != (b[i].ps.length : Int)) = true := by simp; omega
        have el2 : ((a[i].ps.length : Int) = (b[i].ps.length : Int)) = False := eq_false (by omega)
        rw [if_neg (show ¬ (a[i] :: a.drop (i + 1) = b[i] :: b.drop (i + 1)) from fun h => el (by rw [(List.cons.inj h).1]))]
        simp (maxSteps := 2000000) (disch := omega) only [go_sem, doCall, doCallQ, doCallP, Nat.reduceAdd, Nat.reduceMul, Nat.reduceSub, Nat.reduceDiv, Nat.reduceMod, Nat.reduceLT, Nat.reduceLeDiff, Nat.reduceEqDiff, Nat.reduceBEq, Nat.reduceBNe, Int.reduceToNat, Int.reduceLT, Int.reduceLE, Int.reduceEq, Int.reduceNe, Int.reduceAdd, Int.reduceSub, Int.reduceMul, Int.reduceNeg, u17_0, lb17_0, hlt, hi', hib, hw, hg, hg2, hla, hlb, hpa, hpb, hs', el1, el2, not_false_eq_true, Option.isSome_none, Option.isSome_some, Bool.not_false, Bool.not_true, List.length_cons, List.length_nil, Nat.zero_add, List.getD_cons_zero, List.set_cons_zero, List.set_cons_succ, Int.natCast_nonneg, Int.toNat_natCast, Option.getD_some, Option.getD_none, List.drop_zero, Nat.sub_zero, Nat.zero_le, true_and, and_true, Nat.le_refl, chk_of]
termination_by a.length - i
theorem t_llike (a b : List Hd) (hl : a.length ≤ 1000000) (hs : ∀ d ∈ a, d.ps.length ≤ 1000000 ∧ ∀ p ∈ d.ps, p.bd.length ≤ 1000000000) : call ir 17 [vHs a, vHs b] [] = some (dT (decide (a = b)), []) := by
  rw [call_eq (fn := ir17) rfl, evF_bnd]
  have hla : (a.map hdRow).length = a.length := List.length_map ..
  have hlb : (b.map hdRow).length = b.length := List.length_map ..
  by_cases el : a.length = b.length
  · have el1 : ((a.length : Int) != (b.length : Int)) = false := by rw [el]; simp
    have el2 : ((a.length : Int) = (b.length : Int)) = True := by rw [el]; simp
    simp (maxSteps := 2000000) (disch := omega) only [go_sem, doCall, doCallQ, doCallP, Nat.reduceAdd, Nat.reduceMul, Nat.reduceSub, Nat.reduceDiv, Nat.reduceMod, Nat.reduceLT, Nat.reduceLeDiff, Nat.reduceEqDiff, Nat.reduceBEq, Nat.reduceBNe, Int.reduceToNat, Int.reduceLT, Int.reduceLE, Int.reduceEq, Int.reduceNe, Int.reduceAdd, Int.reduceSub, Int.reduceMul, Int.reduceNeg, bd17, hla, hlb, el1, el2, not_true, Int.natCast_nonneg, Int.toNat_natCast, Option.getD_some, Option.getD_none, List.drop_zero, Nat.sub_zero, Nat.zero_le, true_and, and_true, Nat.le_refl, chk_of]
    rw [loop_step1]; simp (maxSteps := 2000000) only [go_sem, doCall, doCallQ, doCallP, Nat.reduceAdd, Nat.reduceMul, Nat.reduceSub, Nat.reduceDiv, Nat.reduceMod, Nat.reduceLT, Nat.reduceLeDiff, Nat.reduceEqDiff, Nat.reduceBEq, Nat.reduceBNe, Int.reduceToNat, Int.reduceLT, Int.reduceLE, Int.reduceEq, Int.reduceNe, Int.reduceAdd, Int.reduceSub, Int.reduceMul, Int.reduceNeg]
    refine (lp_lik0 a b el hl hs _ 0 (Nat.zero_le _)).trans ?_
    rw [List.drop_zero, List.drop_zero]
    by_cases e : a = b
    · rw [if_pos e, decide_eq_true e]
      simp (maxSteps := 2000000) (disch := omega) only [go_sem, doCall, doCallQ, doCallP, Nat.reduceAdd, Nat.reduceMul, Nat.reduceSub, Nat.reduceDiv, Nat.reduceMod, Nat.reduceLT, Nat.reduceLeDiff, Nat.reduceEqDiff, Nat.reduceBEq, Nat.reduceBNe, Int.reduceToNat, Int.reduceLT, Int.reduceLE, Int.reduceEq, Int.reduceNe, Int.reduceAdd, Int.reduceSub, Int.reduceMul, Int.reduceNeg]
    · rw [if_neg e, decide_eq_false e]
      simp (maxSteps := 2000000) (disch := omega) only [go_sem, doCall, doCallQ, doCallP, Nat.reduceAdd, Nat.reduceMul, Nat.reduceSub, Nat.reduceDiv, Nat.reduceMod, Nat.reduceLT, Nat.reduceLeDiff, Nat.reduceEqDiff, Nat.reduceBEq, Nat.reduceBNe, Int.reduceToNat, Int.reduceLT, Int.reduceLE, Int.reduceEq, Int.reduceNe, Int.reduceAdd, Int.reduceSub, Int.reduceMul, Int.reduceNeg]
  · have el1 : ((a.length : Int) != (b.length : Int)) = true := by simp; omega
    have el2 : ((a.length : Int) = (b.length : Int)) = False := eq_false (by omega)
    rw [decide_eq_false (fun h => el (by rw [h]))]
    simp (maxSteps := 2000000) (disch := omega) only [go_sem, doCall, doCallQ, doCallP, Nat.reduceAdd, Nat.reduceMul, Nat.reduceSub, Nat.reduceDiv, Nat.reduceMod, Nat.reduceLT, Nat.reduceLeDiff, Nat.reduceEqDiff, Nat.reduceBEq, Nat.reduceBNe, Int.reduceToNat, Int.reduceLT, Int.reduceLE, Int.reduceEq, Int.reduceNe, Int.reduceAdd, Int.reduceSub, Int.reduceMul, Int.reduceNeg, bd17, hla, hlb, el1, el2, not_false_eq_true, Int.natCast_nonneg, Int.toNat_natCast, Option.getD_some, Option.getD_none, List.drop_zero, Nat.sub_zero, Nat.zero_le, true_and, and_true, Nat.le_refl, chk_of]
theorem few_two (a : List Hd) (h : (fwH a && decide (a.length ≤ 20)) = true) : sml a := by
  rw [Bool.and_eq_true, decide_eq_true_iff] at h
  exact sml_of h.1 h.2
theorem sml_l {a : List Hd} (h : sml a) : ∀ d ∈ a, d.ps.length ≤ 1000000 ∧ ∀ p ∈ d.ps, p.bd.length ≤ 1000000000 := fun d hd => ⟨by have := (h.2 d hd).1; omega, fun p hp => by have := (h.2 d hd).2 p hp; omega⟩
theorem t_DiffApplies (a b : List Hd) (hla : a.length ≤ 1000000000000000) (hlb : b.length ≤ 1000000000000000) (hI : ∀ d ∈ a, okI d.ps) (hJ : ∀ d ∈ b, okI d.ps) : call ir 4 [vHs a, vHs b] [] = some (dT true, []) := by
  rw [call_eq (fn := ir4) rfl, evF_bnd]
  have haw := c_awake48
  have hf := t_few48 a hla
  have hg := t_few48 b hlb
  cases hc : (fwH a && decide (a.length ≤ 20))
  · rw [hc] at hf
    simp (maxSteps := 2000000) (disch := omega) only [go_sem, doCall, doCallQ, doCallP, Nat.reduceAdd, Nat.reduceMul, Nat.reduceSub, Nat.reduceDiv, Nat.reduceMod, Nat.reduceLT, Nat.reduceLeDiff, Nat.reduceEqDiff, Nat.reduceBEq, Nat.reduceBNe, Int.reduceToNat, Int.reduceLT, Int.reduceLE, Int.reduceEq, Int.reduceNe, Int.reduceAdd, Int.reduceSub, Int.reduceMul, Int.reduceNeg, bd4, haw, hf, Option.isSome_none, Option.isSome_some, Bool.not_false, Bool.not_true, List.length_cons, List.length_nil, Nat.zero_add, List.getD_cons_zero, List.set_cons_zero, List.set_cons_succ, Int.natCast_nonneg, Int.toNat_natCast, Option.getD_some, Option.getD_none, List.drop_zero, Nat.sub_zero, Nat.zero_le, true_and, and_true, Nat.le_refl, chk_of]
  · rw [hc] at hf
    cases hd : (fwH b && decide (b.length ≤ 20))
    · rw [hd] at hg
      simp (maxSteps := 2000000) (disch := omega) only [go_sem, doCall, doCallQ, doCallP, Nat.reduceAdd, Nat.reduceMul, Nat.reduceSub, Nat.reduceDiv, Nat.reduceMod, Nat.reduceLT, Nat.reduceLeDiff, Nat.reduceEqDiff, Nat.reduceBEq, Nat.reduceBNe, Int.reduceToNat, Int.reduceLT, Int.reduceLE, Int.reduceEq, Int.reduceNe, Int.reduceAdd, Int.reduceSub, Int.reduceMul, Int.reduceNeg, bd4, haw, hf, hg, Option.isSome_none, Option.isSome_some, Bool.not_false, Bool.not_true, List.length_cons, List.length_nil, Nat.zero_add, List.getD_cons_zero, List.set_cons_zero, List.set_cons_succ, Int.natCast_nonneg, Int.toNat_natCast, Option.getD_some, Option.getD_none, List.drop_zero, Nat.sub_zero, Nat.zero_le, true_and, and_true, Nat.le_refl, chk_of]
    · rw [hd] at hg
      have sa := few_two a hc
      have sb := few_two b hd
      have la := sa.1
      have lb := sb.1
      obtain ⟨z, hof⟩ := t_of a b sa sb
      have hr := t_right48 a (by omega) (sml_b sa)
      have hra := t_lright a (by omega) (sml_b sa)
      have hrb := t_lright b (by omega) (sml_b sb)
      have hcm : ((ofR a b).map chRow).length = (ofR a b).length := List.length_map ..
      have htc : ((ofR a b).map chRow).take (ofR a b).length = (ofR a b).map chRow := by rw [← hcm, List.take_length]
      cases hR : rtR a
      · rw [hR] at hr hra
        have e0 : ofR a b = [] := by unfold ofR; rw [hR]; rfl
        rw [e0] at hof
        simp only [List.length_nil, List.map_nil] at hof
        simp (maxSteps := 2000000) (disch := omega) only [go_sem, doCall, doCallQ, doCallP, Nat.reduceAdd, Nat.reduceMul, Nat.reduceSub, Nat.reduceDiv, Nat.reduceMod, Nat.reduceLT, Nat.reduceLeDiff, Nat.reduceEqDiff, Nat.reduceBEq, Nat.reduceBNe, Int.reduceToNat, Int.reduceLT, Int.reduceLE, Int.reduceEq, Int.reduceNe, Int.reduceAdd, Int.reduceSub, Int.reduceMul, Int.reduceNeg, bd4, haw, hf, hg, hof, hr, hra, List.take_nil, beq_self_eq_true, Option.isSome_none, Option.isSome_some, Bool.not_false, Bool.not_true, List.length_cons, List.length_nil, Nat.zero_add, List.getD_cons_zero, List.set_cons_zero, List.set_cons_succ, Int.natCast_nonneg, Int.toNat_natCast, Option.getD_some, Option.getD_none, List.drop_zero, Nat.sub_zero, Nat.zero_le, true_and, and_true, Nat.le_refl, chk_of]
      · rw [hR] at hr hra
        cases hS : rtR b
        · rw [hS] at hrb
          have e0 : ofR a b = [] := by unfold ofR; rw [hR, hS]; rfl
          rw [e0] at hof
          simp only [List.length_nil, List.map_nil] at hof
          simp (maxSteps := 2000000) (disch := omega) only [go_sem, doCall, doCallQ, doCallP, Nat.reduceAdd, Nat.reduceMul, Nat.reduceSub, Nat.reduceDiv, Nat.reduceMod, Nat.reduceLT, Nat.reduceLeDiff, Nat.reduceEqDiff, Nat.reduceBEq, Nat.reduceBNe, Int.reduceToNat, Int.reduceLT, Int.reduceLE, Int.reduceEq, Int.reduceNe, Int.reduceAdd, Int.reduceSub, Int.reduceMul, Int.reduceNeg, bd4, haw, hf, hg, hof, hr, hra, hrb, List.take_nil, beq_self_eq_true, Option.isSome_none, Option.isSome_some, Bool.not_false, Bool.not_true, List.length_cons, List.length_nil, Nat.zero_add, List.getD_cons_zero, List.set_cons_zero, List.set_cons_succ, Int.natCast_nonneg, Int.toNat_natCast, Option.getD_some, Option.getD_none, List.drop_zero, Nat.sub_zero, Nat.zero_le, true_and, and_true, Nat.le_refl, chk_of]
        · rw [hS] at hrb
          have RA : RtA a := ⟨sa, hR, hI⟩
          have RB : RtA b := ⟨sb, hS, hJ⟩
          have hap := t_apply RA RB
          have hl1 := t_llike b b (by omega) (sml_l sb)
          rw [decide_eq_true rfl] at hl1
          have hl2 := t_llike a b (by omega) (sml_l sa)
          have hB : (b.map hdRow).length = b.length := List.length_map ..
          have htB : (b.map hdRow).take b.length = b.map hdRow := by rw [← hB, List.take_length]
          have hni := of_nil RA RB
          by_cases e : a = b
          · rw [decide_eq_true e] at hl2
            have e0 := hni.2 e
            rw [e0] at hof hap
            simp only [List.length_nil, List.map_nil] at hof hap
            simp (maxSteps := 2000000) (disch := omega) only [go_sem, doCall, doCallQ, doCallP, Nat.reduceAdd, Nat.reduceMul, Nat.reduceSub, Nat.reduceDiv, Nat.reduceMod, Nat.reduceLT, Nat.reduceLeDiff, Nat.reduceEqDiff, Nat.reduceBEq, Nat.reduceBNe, Int.reduceToNat, Int.reduceLT, Int.reduceLE, Int.reduceEq, Int.reduceNe, Int.reduceAdd, Int.reduceSub, Int.reduceMul, Int.reduceNeg, bd4, haw, hf, hg, hof, hr, hra, hrb, hap, hl1, hl2, hB, htB, List.take_nil, beq_self_eq_true, Option.isSome_none, Option.isSome_some, Bool.not_false, Bool.not_true, List.length_cons, List.length_nil, Nat.zero_add, List.getD_cons_zero, List.set_cons_zero, List.set_cons_succ, Int.natCast_nonneg, Int.toNat_natCast, Option.getD_some, Option.getD_none, List.drop_zero, Nat.sub_zero, Nat.zero_le, true_and, and_true, Nat.le_refl, chk_of]
          · rw [decide_eq_false e] at hl2
            have hne : (((ofR a b).length : Int) = 0) = False := eq_false (fun h => e (hni.1 (List.length_eq_zero_iff.1 (by omega))))
            have hne2 : (((ofR a b).length : Int) == 0) = false := by rw [beq_eq_false_iff_ne]; exact fun h => e (hni.1 (List.length_eq_zero_iff.1 (by omega)))
            generalize ofR a b = L at hof hap hcm htc hne hne2
            simp (maxSteps := 2000000) (disch := omega) only [go_sem, doCall, doCallQ, doCallP, Nat.reduceAdd, Nat.reduceMul, Nat.reduceSub, Nat.reduceDiv, Nat.reduceMod, Nat.reduceLT, Nat.reduceLeDiff, Nat.reduceEqDiff, Nat.reduceBEq, Nat.reduceBNe, Int.reduceToNat, Int.reduceLT, Int.reduceLE, Int.reduceEq, Int.reduceNe, Int.reduceAdd, Int.reduceSub, Int.reduceMul, Int.reduceNeg, bd4, haw, hf, hg, hof, hr, hra, hrb, hap, hl1, hl2, hB, htB, hcm, htc, hne, hne2, beq_self_eq_true, Option.isSome_none, Option.isSome_some, Bool.not_false, Bool.not_true, List.length_cons, List.length_nil, Nat.zero_add, List.getD_cons_zero, List.set_cons_zero, List.set_cons_succ, Int.natCast_nonneg, Int.toNat_natCast, Option.getD_some, Option.getD_none, List.drop_zero, Nat.sub_zero, Nat.zero_le, true_and, and_true, Nat.le_refl, chk_of]
end Go.Proofs.Ytbcpffhialoliaa
