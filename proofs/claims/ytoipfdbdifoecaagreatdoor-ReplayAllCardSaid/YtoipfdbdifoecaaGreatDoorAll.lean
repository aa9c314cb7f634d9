/- One record on an index. Own work. All records. Own work. -/
import Derived.Test.YtoipfdbdifoecaaGreatDoorCod
import Derived.Test.YtoipfdbdifoecaaGreatDoorIdx2
import Derived.Test.YtoipfdbdifoecaaGreatDoorSame
namespace Go.Proofs.YtoipfdbdifoecaaGreatDoor
open Go Go.Ev Go.Proofs.YtoipfdbdifoecaaGreatDoor.Ir
set_option maxRecDepth 100000
set_option maxHeartbeats 4000000
set_option linter.unusedSimpArgs false
set_option linter.unusedVariables false
structure En where
  a1 : Int
  a2 : Int
  seq : Int
  pages : Int
  kind : Int
  d : List UInt8
def En.cs (e : En) : List D := [.int .i64 e.a1, .int .i64 e.a2, .int .u64 e.seq, .int .i64 e.pages, .int .u8 e.kind, .list 1 (rB e.d)]
def En.av (e : En) : List AV := [.d (.int .i64 e.a1), .d (.int .i64 e.a2), .d (.int .u64 e.seq), .d (.int .i64 e.pages), .d (.int .u8 e.kind), .d (.list 1 (rB e.d))]
def oneF (x : Nat → Sl) (e : En) : Nat → Sl :=
  if e.kind = 2 then match gbind e.d with
    | some (o, g, s, l, t) => xs x o.toNat (bound (x o.toNat) o.toNat g s l t e.a1 e.a2)
    | none => x
  else if e.kind = 3 then match gpiece e.d with
    | some (o, g, i, _) => xs x o.toNat (pie (x o.toNat) g i e.a1 e.a2)
    | none => x
  else if e.kind = 4 ∨ e.kind = 5 then match gdrop e.d with
    | some (o, g) => xs x o.toNat (forg (x o.toNat) g e.a1 e.a2)
    | none => x
  else x
theorem gbind_o {b : List UInt8} {o g l t : Int} {s : List UInt8} (h : gbind b = some (o, g, s, l, t)) : o = (o.toNat : Int) ∧ o.toNat < 16 := by
  unfold gbind at h
  split at h
  · rename_i hc
    have := hc.2.1.1.1
    simp only [Option.some.injEq, Prod.mk.injEq] at h
    obtain ⟨rfl, _⟩ := h
    omega
  · simp at h
theorem gpiece_o {b : List UInt8} {o g i : Int} {s : List UInt8} (h : gpiece b = some (o, g, i, s)) : o = (o.toNat : Int) ∧ o.toNat < 16 := by
  unfold gpiece at h
  split at h
  · rename_i hc
    have := hc.2.1.1
    simp only [Option.some.injEq, Prod.mk.injEq] at h
    obtain ⟨rfl, _⟩ := h
    omega
  · simp at h
theorem gdrop_o {b : List UInt8} {o g : Int} (h : gdrop b = some (o, g)) : o = (o.toNat : Int) ∧ o.toNat < 16 := by
  unfold gdrop at h
  split at h
  · rename_i hc
    have := hc.2.2.1
    simp only [Option.some.injEq, Prod.mk.injEq] at h
    obtain ⟨rfl, _⟩ := h
    omega
  · simp at h
theorem x_one (x : Nat → Sl) (e : En) (hd : e.d.length ≤ 1000) : call ir 12 [.agg (idxD x), .agg e.av] [] = some (.agg (idxD (oneF x e)), []) := by
  obtain ⟨a1, a2, seq, pages, kind, d⟩ := e
  have qb := c_getbind d hd
  have qp := c_getpiece d hd
  have qd := fun k => c_getdrop k d hd
  simp only [oneF, En.av]
  rw [call_eq (fn := ir12) rfl, evF_bnd]
  by_cases k2 : kind = 2
  · subst k2
    simp only [if_true]
    cases hg : gbind d with
    | none =>
      rw [hg] at qb
      simp (maxSteps := 2000000) (disch := omega) only [go_sem, doCall, doCallQ, Nat.reduceAdd, Nat.reduceMul, Nat.reduceSub, Nat.reduceDiv, Nat.reduceMod, Nat.reduceLT, Nat.reduceLeDiff, Nat.reduceEqDiff, Nat.reduceBEq, Nat.reduceBNe, Int.reduceToNat, Int.reduceLT, Int.reduceLE, Int.reduceEq, Int.reduceNe, Int.reduceAdd, Int.reduceSub, Int.reduceMul, Int.reduceNeg, bd12, qb, idxC_len, idxD_len, cs_len, av_len, map_cs, map_idx, idxC_take, idxC_drop, plain_av, plain_idx, box_idx, refs_av, owns_av, view_av, ren_av, refs_idx, owns_idx, view_idx, ren_idx, Int.toNat_natCast, Nat.zero_add, chk_of]
    | some r =>
      obtain ⟨o, g, s, l, t⟩ := r
      obtain ⟨ho, hk⟩ := gbind_o hg
      rw [hg, ho] at qb
      simp (maxSteps := 2000000) (disch := omega) only [go_sem, doCall, doCallQ, Nat.reduceAdd, Nat.reduceMul, Nat.reduceSub, Nat.reduceDiv, Nat.reduceMod, Nat.reduceLT, Nat.reduceLeDiff, Nat.reduceEqDiff, Nat.reduceBEq, Nat.reduceBNe, Int.reduceToNat, Int.reduceLT, Int.reduceLE, Int.reduceEq, Int.reduceNe, Int.reduceAdd, Int.reduceSub, Int.reduceMul, Int.reduceNeg, bd12, qb, x_bnd x o.toNat hk, idxC_len, idxD_len, cs_len, av_len, map_cs, map_idx, idxC_take, idxC_drop, plain_av, plain_idx, box_idx, refs_av, owns_av, view_av, ren_av, refs_idx, owns_idx, view_idx, ren_idx, Int.toNat_natCast, Nat.zero_add, chk_of]
  · by_cases k3 : kind = 3
    · subst k3
      simp only [show ¬ (3 : Int) = 2 by decide, if_true, if_false]
      cases hg : gpiece d with
      | none =>
        rw [hg] at qp
        simp (maxSteps := 2000000) (disch := omega) only [go_sem, doCall, doCallQ, Nat.reduceAdd, Nat.reduceMul, Nat.reduceSub, Nat.reduceDiv, Nat.reduceMod, Nat.reduceLT, Nat.reduceLeDiff, Nat.reduceEqDiff, Nat.reduceBEq, Nat.reduceBNe, Int.reduceToNat, Int.reduceLT, Int.reduceLE, Int.reduceEq, Int.reduceNe, Int.reduceAdd, Int.reduceSub, Int.reduceMul, Int.reduceNeg, bd12, qp, idxC_len, idxD_len, cs_len, av_len, map_cs, map_idx, idxC_take, idxC_drop, plain_av, plain_idx, box_idx, refs_av, owns_av, view_av, ren_av, refs_idx, owns_idx, view_idx, ren_idx, Int.toNat_natCast, Nat.zero_add, chk_of]
      | some r =>
        obtain ⟨o, g, i, s⟩ := r
        obtain ⟨ho, hk⟩ := gpiece_o hg
        rw [hg, ho] at qp
        simp (maxSteps := 2000000) (disch := omega) only [go_sem, doCall, doCallQ, Nat.reduceAdd, Nat.reduceMul, Nat.reduceSub, Nat.reduceDiv, Nat.reduceMod, Nat.reduceLT, Nat.reduceLeDiff, Nat.reduceEqDiff, Nat.reduceBEq, Nat.reduceBNe, Int.reduceToNat, Int.reduceLT, Int.reduceLE, Int.reduceEq, Int.reduceNe, Int.reduceAdd, Int.reduceSub, Int.reduceMul, Int.reduceNeg, bd12, qp, x_pie x o.toNat hk, idxC_len, idxD_len, cs_len, av_len, map_cs, map_idx, idxC_take, idxC_drop, plain_av, plain_idx, box_idx, refs_av, owns_av, view_av, ren_av, refs_idx, owns_idx, view_idx, ren_idx, Int.toNat_natCast, Nat.zero_add, chk_of]
    · by_cases k4 : kind = 4
      · subst k4
        simp only [show ¬ (4 : Int) = 2 by decide, show ¬ (4 : Int) = 3 by decide, if_true, if_false, true_or]
        cases hg : gdrop d with
        | none =>
          rw [hg] at qd
          simp (maxSteps := 2000000) (disch := omega) only [go_sem, doCall, doCallQ, Nat.reduceAdd, Nat.reduceMul, Nat.reduceSub, Nat.reduceDiv, Nat.reduceMod, Nat.reduceLT, Nat.reduceLeDiff, Nat.reduceEqDiff, Nat.reduceBEq, Nat.reduceBNe, Int.reduceToNat, Int.reduceLT, Int.reduceLE, Int.reduceEq, Int.reduceNe, Int.reduceAdd, Int.reduceSub, Int.reduceMul, Int.reduceNeg, bd12, qd, idxC_len, idxD_len, cs_len, av_len, map_cs, map_idx, idxC_take, idxC_drop, plain_av, plain_idx, box_idx, refs_av, owns_av, view_av, ren_av, refs_idx, owns_idx, view_idx, ren_idx, Int.toNat_natCast, Nat.zero_add, chk_of]
        | some r =>
          obtain ⟨o, g⟩ := r
          obtain ⟨ho, hk⟩ := gdrop_o hg
          rw [hg, ho] at qd
          simp (maxSteps := 2000000) (disch := omega) only [go_sem, doCall, doCallQ, Nat.reduceAdd, Nat.reduceMul, Nat.reduceSub, Nat.reduceDiv, Nat.reduceMod, Nat.reduceLT, Nat.reduceLeDiff, Nat.reduceEqDiff, Nat.reduceBEq, Nat.reduceBNe, Int.reduceToNat, Int.reduceLT, Int.reduceLE, Int.reduceEq, Int.reduceNe, Int.reduceAdd, Int.reduceSub, Int.reduceMul, Int.reduceNeg, bd12, qd, x_for x o.toNat hk, idxC_len, idxD_len, cs_len, av_len, map_cs, map_idx, idxC_take, idxC_drop, plain_av, plain_idx, box_idx, refs_av, owns_av, view_av, ren_av, refs_idx, owns_idx, view_idx, ren_idx, Int.toNat_natCast, Nat.zero_add, chk_of]
      · by_cases k5 : kind = 5
        · subst k5
          simp only [show ¬ (5 : Int) = 2 by decide, show ¬ (5 : Int) = 3 by decide, if_true, if_false, or_true]
          cases hg : gdrop d with
          | none =>
            rw [hg] at qd
            simp (maxSteps := 2000000) (disch := omega) only [go_sem, doCall, doCallQ, Nat.reduceAdd, Nat.reduceMul, Nat.reduceSub, Nat.reduceDiv, Nat.reduceMod, Nat.reduceLT, Nat.reduceLeDiff, Nat.reduceEqDiff, Nat.reduceBEq, Nat.reduceBNe, Int.reduceToNat, Int.reduceLT, Int.reduceLE, Int.reduceEq, Int.reduceNe, Int.reduceAdd, Int.reduceSub, Int.reduceMul, Int.reduceNeg, bd12, qd, idxC_len, idxD_len, cs_len, av_len, map_cs, map_idx, idxC_take, idxC_drop, plain_av, plain_idx, box_idx, refs_av, owns_av, view_av, ren_av, refs_idx, owns_idx, view_idx, ren_idx, Int.toNat_natCast, Nat.zero_add, chk_of]
          | some r =>
            obtain ⟨o, g⟩ := r
            obtain ⟨ho, hk⟩ := gdrop_o hg
            rw [hg, ho] at qd
            simp (maxSteps := 2000000) (disch := omega) only [go_sem, doCall, doCallQ, Nat.reduceAdd, Nat.reduceMul, Nat.reduceSub, Nat.reduceDiv, Nat.reduceMod, Nat.reduceLT, Nat.reduceLeDiff, Nat.reduceEqDiff, Nat.reduceBEq, Nat.reduceBNe, Int.reduceToNat, Int.reduceLT, Int.reduceLE, Int.reduceEq, Int.reduceNe, Int.reduceAdd, Int.reduceSub, Int.reduceMul, Int.reduceNeg, bd12, qd, x_for x o.toNat hk, idxC_len, idxD_len, cs_len, av_len, map_cs, map_idx, idxC_take, idxC_drop, plain_av, plain_idx, box_idx, refs_av, owns_av, view_av, ren_av, refs_idx, owns_idx, view_idx, ren_idx, Int.toNat_natCast, Nat.zero_add, chk_of]
        · simp only [eq_false k2, eq_false k3, eq_false k4, eq_false k5, or_self, if_false]
          simp (maxSteps := 2000000) (disch := omega) only [go_sem, doCall, doCallQ, Nat.reduceAdd, Nat.reduceMul, Nat.reduceSub, Nat.reduceDiv, Nat.reduceMod, Nat.reduceLT, Nat.reduceLeDiff, Nat.reduceEqDiff, Nat.reduceBEq, Nat.reduceBNe, Int.reduceToNat, Int.reduceLT, Int.reduceLE, Int.reduceEq, Int.reduceNe, Int.reduceAdd, Int.reduceSub, Int.reduceMul, Int.reduceNeg, bd12, eq_false k2, eq_false k3, eq_false k4, eq_false k5, idxC_len, idxD_len, cs_len, av_len, map_cs, map_idx, idxC_take, idxC_drop, plain_av, plain_idx, box_idx, refs_av, owns_av, view_av, ren_av, refs_idx, owns_idx, view_idx, ren_idx, Int.toNat_natCast, Nat.zero_add, chk_of]
end Go.Proofs.YtoipfdbdifoecaaGreatDoor
namespace Go.Proofs.YtoipfdbdifoecaaGreatDoor
open Go Go.Ev Go.Proofs.YtoipfdbdifoecaaGreatDoor.Ir
set_option maxRecDepth 100000
set_option maxHeartbeats 4000000
set_option linter.unusedSimpArgs false
set_option linter.unusedVariables false
theorem En.map (e : En) : e.cs.map AV.d = e.av := rfl
theorem En.len (e : En) : e.cs.length = 6 := rfl
theorem En.rows (l : List En) {i : Nat} (h : i < l.length) : (l.map En.cs).getD i [] = [.int .i64 l[i].a1, .int .i64 l[i].a2, .int .u64 l[i].seq, .int .i64 l[i].pages, .int .u8 l[i].kind, .list 1 (rB l[i].d)] := by
  simp [List.getD_eq_getElem?_getD, h, En.cs]
def stepF (late : Bool) (x : Nat → Sl) (e : En) : Nat → Sl := if (decide (e.kind = 3) == late) = true then oneF x e else x
def passF (late : Bool) (x : Nat → Sl) (l : List En) : Nat → Sl := l.foldl (stepF late) x
theorem lp_in (Z : List D) (l : List En) (hl : l.length ≤ 1000) (hd : ∀ e ∈ l, e.d.length ≤ 1000) (late : Bool) (q : Nat) (k : Ex → St → Option (AV × Heap)) (x : Nat → Sl) (i : Nat) (hi : i ≤ l.length) :
    bnd (evC (call ir) (loop ir) lp6_1 (st6_1 0 (.d (.list 6 (l.map En.cs))) (.ptr 0 0) (.ptr 1 0) (.d (.bool late)) (.own 2 1 0 2 true) (.d (.int .i64 2)) (.d (.int .i64 q)) (.d (.list 6 (l.map En.cs))) (.d (.int .i64 l.length)) (.d (.int .i64 i)) [.dbox Z, .dbox (idxC x), .arr 1 [[.bool false], [.bool true]]]))
      (lpC (call ir) (loop ir) [0, 2, 3, 5, 9, 10, 11, 15, 16, 17] lp6_1 k) =
    k (.exit 2) (clean [0, 2, 3, 9, 10, 11] (st6_1 0 (.d (.list 6 (l.map En.cs))) (.ptr 0 0) (.ptr 1 0) (.d (.bool late)) (.own 2 1 0 2 true) (.d (.int .i64 2)) (.d (.int .i64 q)) (.d (.list 6 (l.map En.cs))) (.d (.int .i64 l.length)) (.d (.int .i64 l.length)) [.dbox Z, .dbox (idxC (passF late x (l.drop i))), .arr 1 [[.bool false], [.bool true]]])) := by
  by_cases h : i = l.length
  · have hx : ¬ (i : Int) < l.length := by omega
    subst h
    simp (maxSteps := 2000000) (disch := omega) only [go_sem, doCall, doCallQ, Nat.reduceAdd, Nat.reduceMul, Nat.reduceSub, Nat.reduceDiv, Nat.reduceMod, Nat.reduceLT, Nat.reduceLeDiff, Nat.reduceEqDiff, Nat.reduceBEq, Nat.reduceBNe, Int.reduceToNat, Int.reduceLT, Int.reduceLE, Int.reduceEq, Int.reduceNe, Int.reduceAdd, Int.reduceSub, Int.reduceMul, Int.reduceNeg, u6_1, lb6_1, hx]
    simp only [List.drop_length, passF, List.foldl_nil]
  · have hlt : (i : Int) < l.length := by omega
    have hi' : i < l.length := by omega
    have hw := wr_succ (i := i) (by omega)
    have hr := En.rows l hi'
    have hdl : l.drop i = l[i] :: l.drop (i + 1) := List.drop_eq_getElem_cons hi'
    have ho := x_one x l[i] (hd _ (List.getElem_mem hi'))
    simp only [En.av] at ho
    have hlm : (l.map En.cs).length = l.length := List.length_map ..
    have ep : passF late x (l.drop i) = passF late (stepF late x l[i]) (l.drop (i + 1)) := by rw [hdl]; rfl
    have ih := lp_in Z l hl hd late q k (stepF late x l[i]) (i + 1) (by omega)
    rw [ep]
    cases hs : (decide (l[i].kind = 3) == late)
    · have e1 : stepF late x l[i] = x := by simp [stepF, hs]
      rw [e1] at ih ⊢
      simp (maxSteps := 2000000) (disch := omega) only [go_sem, doCall, doCallQ, Nat.reduceAdd, Nat.reduceMul, Nat.reduceSub, Nat.reduceDiv, Nat.reduceMod, Nat.reduceLT, Nat.reduceLeDiff, Nat.reduceEqDiff, Nat.reduceBEq, Nat.reduceBNe, Int.reduceToNat, Int.reduceLT, Int.reduceLE, Int.reduceEq, Int.reduceNe, Int.reduceAdd, Int.reduceSub, Int.reduceMul, Int.reduceNeg, u6_1, lb6_1, hlt, hr, hs, hlm, idxC_len, idxD_len, cs_len, av_len, map_cs, map_idx, idxC_take, idxC_drop, plain_av, plain_idx, box_idx, refs_av, owns_av, view_av, ren_av, refs_idx, owns_idx, view_idx, ren_idx, Int.toNat_natCast, Nat.zero_add, chk_of]
      rw [loop_step1]
      simp (maxSteps := 2000000) only [go_sem, doCall, doCallQ, Nat.reduceAdd, Nat.reduceMul, Nat.reduceSub, Nat.reduceDiv, Nat.reduceMod, Nat.reduceLT, Nat.reduceLeDiff, Nat.reduceEqDiff, Nat.reduceBEq, Nat.reduceBNe, Int.reduceToNat, Int.reduceLT, Int.reduceLE, Int.reduceEq, Int.reduceNe, Int.reduceAdd, Int.reduceSub, Int.reduceMul, Int.reduceNeg, hw]
      simp (maxSteps := 2000000) only [go_sem, doCall, doCallQ, Nat.reduceAdd, Nat.reduceMul, Nat.reduceSub, Nat.reduceDiv, Nat.reduceMod, Nat.reduceLT, Nat.reduceLeDiff, Nat.reduceEqDiff, Nat.reduceBEq, Nat.reduceBNe, Int.reduceToNat, Int.reduceLT, Int.reduceLE, Int.reduceEq, Int.reduceNe, Int.reduceAdd, Int.reduceSub, Int.reduceMul, Int.reduceNeg] at ih
      exact ih
    · have e1 : stepF late x l[i] = oneF x l[i] := by simp [stepF, hs]
      rw [e1] at ih ⊢
      simp (maxSteps := 2000000) (disch := omega) only [go_sem, doCall, doCallQ, Nat.reduceAdd, Nat.reduceMul, Nat.reduceSub, Nat.reduceDiv, Nat.reduceMod, Nat.reduceLT, Nat.reduceLeDiff, Nat.reduceEqDiff, Nat.reduceBEq, Nat.reduceBNe, Int.reduceToNat, Int.reduceLT, Int.reduceLE, Int.reduceEq, Int.reduceNe, Int.reduceAdd, Int.reduceSub, Int.reduceMul, Int.reduceNeg, u6_1, lb6_1, hlt, hr, hs, hlm, ho, idxC_len, idxD_len, cs_len, av_len, map_cs, map_idx, idxC_take, idxC_drop, plain_av, plain_idx, box_idx, refs_av, owns_av, view_av, ren_av, refs_idx, owns_idx, view_idx, ren_idx, Int.toNat_natCast, Nat.zero_add, chk_of]
      rw [loop_step1]
      simp (maxSteps := 2000000) only [go_sem, doCall, doCallQ, Nat.reduceAdd, Nat.reduceMul, Nat.reduceSub, Nat.reduceDiv, Nat.reduceMod, Nat.reduceLT, Nat.reduceLeDiff, Nat.reduceEqDiff, Nat.reduceBEq, Nat.reduceBNe, Int.reduceToNat, Int.reduceLT, Int.reduceLE, Int.reduceEq, Int.reduceNe, Int.reduceAdd, Int.reduceSub, Int.reduceMul, Int.reduceNeg, hw]
      simp (maxSteps := 2000000) only [go_sem, doCall, doCallQ, Nat.reduceAdd, Nat.reduceMul, Nat.reduceSub, Nat.reduceDiv, Nat.reduceMod, Nat.reduceLT, Nat.reduceLeDiff, Nat.reduceEqDiff, Nat.reduceBEq, Nat.reduceBNe, Int.reduceToNat, Int.reduceLT, Int.reduceLE, Int.reduceEq, Int.reduceNe, Int.reduceAdd, Int.reduceSub, Int.reduceMul, Int.reduceNeg] at ih
      exact ih
termination_by l.length - i
def allF (l : List En) : Nat → Sl := passF true (passF false X0 l) l
theorem c_all (l : List En) (hl : l.length ≤ 1000) (hd : ∀ e ∈ l, e.d.length ≤ 1000) : call ir 6 [.d (.list 6 (l.map En.cs))] [] = some (.agg (idxD (allF l)), []) := by
  have hlm : (l.map En.cs).length = l.length := List.length_map ..
  have w1 : wr .i64 1 = 1 := wr_id (by omega)
  have w2 : wr .i64 2 = 2 := wr_id (by omega)
  rw [call_eq (fn := ir6) rfl, evF_bnd]
  simp (maxSteps := 2000000) (disch := omega) only [go_sem, doCall, doCallQ, Nat.reduceAdd, Nat.reduceMul, Nat.reduceSub, Nat.reduceDiv, Nat.reduceMod, Nat.reduceLT, Nat.reduceLeDiff, Nat.reduceEqDiff, Nat.reduceBEq, Nat.reduceBNe, Int.reduceToNat, Int.reduceLT, Int.reduceLE, Int.reduceEq, Int.reduceNe, Int.reduceAdd, Int.reduceSub, Int.reduceMul, Int.reduceNeg, bd6, c_new, hlm, idxC_len, idxD_len, cs_len, av_len, map_cs, map_idx, idxC_take, idxC_drop, plain_av, plain_idx, box_idx, refs_av, owns_av, view_av, ren_av, refs_idx, owns_idx, view_idx, ren_idx, Int.toNat_natCast, Nat.zero_add, chk_of]
  rw [loop_step1]
  simp (maxSteps := 2000000) (disch := omega) only [go_sem, doCall, doCallQ, Nat.reduceAdd, Nat.reduceMul, Nat.reduceSub, Nat.reduceDiv, Nat.reduceMod, Nat.reduceLT, Nat.reduceLeDiff, Nat.reduceEqDiff, Nat.reduceBEq, Nat.reduceBNe, Int.reduceToNat, Int.reduceLT, Int.reduceLE, Int.reduceEq, Int.reduceNe, Int.reduceAdd, Int.reduceSub, Int.reduceMul, Int.reduceNeg, u6_0, lb6_0, hlm, w1, w2, idxC_len, idxD_len, cs_len, av_len, map_cs, map_idx, idxC_take, idxC_drop, plain_av, plain_idx, box_idx, refs_av, owns_av, view_av, ren_av, refs_idx, owns_idx, view_idx, ren_idx, Int.toNat_natCast, Nat.zero_add, chk_of]
  rw [loop_step1]
  simp (maxSteps := 2000000) only [go_sem, doCall, doCallQ, Nat.reduceAdd, Nat.reduceMul, Nat.reduceSub, Nat.reduceDiv, Nat.reduceMod, Nat.reduceLT, Nat.reduceLeDiff, Nat.reduceEqDiff, Nat.reduceBEq, Nat.reduceBNe, Int.reduceToNat, Int.reduceLT, Int.reduceLE, Int.reduceEq, Int.reduceNe, Int.reduceAdd, Int.reduceSub, Int.reduceMul, Int.reduceNeg]
  refine (lp_in _ l hl hd false 0 _ X0 0 (Nat.zero_le _)).trans ?_
  simp (maxSteps := 2000000) only [go_sem, doCall, doCallQ, Nat.reduceAdd, Nat.reduceMul, Nat.reduceSub, Nat.reduceDiv, Nat.reduceMod, Nat.reduceLT, Nat.reduceLeDiff, Nat.reduceEqDiff, Nat.reduceBEq, Nat.reduceBNe, Int.reduceToNat, Int.reduceLT, Int.reduceLE, Int.reduceEq, Int.reduceNe, Int.reduceAdd, Int.reduceSub, Int.reduceMul, Int.reduceNeg, List.drop_zero]
  rw [loop_step1]
  simp (maxSteps := 2000000) (disch := omega) only [go_sem, doCall, doCallQ, Nat.reduceAdd, Nat.reduceMul, Nat.reduceSub, Nat.reduceDiv, Nat.reduceMod, Nat.reduceLT, Nat.reduceLeDiff, Nat.reduceEqDiff, Nat.reduceBEq, Nat.reduceBNe, Int.reduceToNat, Int.reduceLT, Int.reduceLE, Int.reduceEq, Int.reduceNe, Int.reduceAdd, Int.reduceSub, Int.reduceMul, Int.reduceNeg, u6_0, lb6_0, hlm, w1, w2, idxC_len, idxD_len, cs_len, av_len, map_cs, map_idx, idxC_take, idxC_drop, plain_av, plain_idx, box_idx, refs_av, owns_av, view_av, ren_av, refs_idx, owns_idx, view_idx, ren_idx, Int.toNat_natCast, Nat.zero_add, chk_of]
  rw [loop_step1]
  simp (maxSteps := 2000000) only [go_sem, doCall, doCallQ, Nat.reduceAdd, Nat.reduceMul, Nat.reduceSub, Nat.reduceDiv, Nat.reduceMod, Nat.reduceLT, Nat.reduceLeDiff, Nat.reduceEqDiff, Nat.reduceBEq, Nat.reduceBNe, Int.reduceToNat, Int.reduceLT, Int.reduceLE, Int.reduceEq, Int.reduceNe, Int.reduceAdd, Int.reduceSub, Int.reduceMul, Int.reduceNeg]
  refine (lp_in _ l hl hd true 1 _ (passF false X0 l) 0 (Nat.zero_le _)).trans ?_
  simp (maxSteps := 2000000) only [go_sem, doCall, doCallQ, Nat.reduceAdd, Nat.reduceMul, Nat.reduceSub, Nat.reduceDiv, Nat.reduceMod, Nat.reduceLT, Nat.reduceLeDiff, Nat.reduceEqDiff, Nat.reduceBEq, Nat.reduceBNe, Int.reduceToNat, Int.reduceLT, Int.reduceLE, Int.reduceEq, Int.reduceNe, Int.reduceAdd, Int.reduceSub, Int.reduceMul, Int.reduceNeg, List.drop_zero]
  rw [loop_step1]
  simp (maxSteps := 2000000) (disch := omega) only [go_sem, doCall, doCallQ, Nat.reduceAdd, Nat.reduceMul, Nat.reduceSub, Nat.reduceDiv, Nat.reduceMod, Nat.reduceLT, Nat.reduceLeDiff, Nat.reduceEqDiff, Nat.reduceBEq, Nat.reduceBNe, Int.reduceToNat, Int.reduceLT, Int.reduceLE, Int.reduceEq, Int.reduceNe, Int.reduceAdd, Int.reduceSub, Int.reduceMul, Int.reduceNeg, u6_0, lb6_0, hlm, w1, w2, idxC_len, idxD_len, cs_len, av_len, map_cs, map_idx, idxC_take, idxC_drop, plain_av, plain_idx, box_idx, refs_av, owns_av, view_av, ren_av, refs_idx, owns_idx, view_idx, ren_idx, Int.toNat_natCast, Nat.zero_add, chk_of]
  rfl
/-! ### the plain law -/
theorem passF_eq (late : Bool) : ∀ (l : List En) (x : Nat → Sl), passF late x l = (l.filter fun e => decide (e.kind = 3) == late).foldl oneF x
  | [], x => rfl
  | e :: l, x => by
    simp only [passF, List.foldl_cons] at *
    cases h : (decide (e.kind = 3) == late)
    · rw [List.filter_cons_of_neg (by simp [h])]
      have e1 : stepF late x e = x := by simp [stepF, h]
      rw [e1]; exact passF_eq late l x
    · rw [List.filter_cons_of_pos (by simp [h]), List.foldl_cons]
      have e1 : stepF late x e = oneF x e := by simp [stepF, h]
      rw [e1]; exact passF_eq late l _
def slicesOf (l : List En) : List En := l.filter fun e => decide (e.kind = 3)
def othersOf (l : List En) : List En := l.filter fun e => !decide (e.kind = 3)
theorem allF_of {l m : List En} (h1 : slicesOf m = slicesOf l) (h2 : othersOf m = othersOf l) : allF m = allF l := by
  have key : ∀ (l : List En), allF l = (slicesOf l).foldl oneF ((othersOf l).foldl oneF X0) := fun l => by
    unfold allF
    rw [passF_eq, passF_eq]
    have e1 : (l.filter fun e => decide (e.kind = 3) == true) = slicesOf l := by unfold slicesOf; congr 1; funext e; cases decide (e.kind = 3) <;> rfl
    have e2 : (l.filter fun e => decide (e.kind = 3) == false) = othersOf l := by unfold othersOf; congr 1; funext e; cases decide (e.kind = 3) <;> rfl
    rw [e1, e2]
  rw [key, key, h1, h2]
theorem allF_turn (l : List En) : allF (othersOf l ++ slicesOf l) = allF l ∧ allF (slicesOf l ++ othersOf l) = allF l := by
  have a1 : slicesOf (othersOf l) = [] := by simp [slicesOf, othersOf, List.filter_filter]
  have a2 : slicesOf (slicesOf l) = slicesOf l := by simp [slicesOf, List.filter_filter]
  have a3 : othersOf (othersOf l) = othersOf l := by simp [othersOf, List.filter_filter]
  have a4 : othersOf (slicesOf l) = [] := by simp [slicesOf, othersOf, List.filter_filter]
  have s1 : ∀ a b, slicesOf (a ++ b) = slicesOf a ++ slicesOf b := fun a b => List.filter_append ..
  have s2 : ∀ a b, othersOf (a ++ b) = othersOf a ++ othersOf b := fun a b => List.filter_append ..
  exact ⟨allF_of (by rw [s1, a1, a2]; rfl) (by rw [s2, a3, a4, List.append_nil]), allF_of (by rw [s1, a2, a1, List.append_nil]) (by rw [s2, a4, a3]; rfl)⟩
end Go.Proofs.YtoipfdbdifoecaaGreatDoor
