/- One record on an index. Own work. -/
import Derived.Test.YtoipfdbdifoecaaIdx2
namespace Go.Proofs.Ytoipfdbdifoecaa
open Go Go.Ev Go.Proofs.Ytoipfdbdifoecaa.Ir
set_option maxRecDepth 100000
set_option maxHeartbeats 4000000
set_option linter.unusedSimpArgs false
set_option linter.unusedVariables false
structure En where
  a1 : Int
  a2 : Int
  seq : Int
  pages : Int
  kind : Int
  d : List UInt8
def En.cs (e : En) : List D := [.int .i64 e.a1, .int .i64 e.a2, .int .u64 e.seq, .int .i64 e.pages, .int .u8 e.kind, .list 1 (rB e.d)]
def En.av (e : En) : List AV := [.d (.int .i64 e.a1), .d (.int .i64 e.a2), .d (.int .u64 e.seq), .d (.int .i64 e.pages), .d (.int .u8 e.kind), .d (.list 1 (rB e.d))]
def oneF (x : Nat → Sl) (e : En) : Nat → Sl :=
  if e.kind = 2 then match gbind e.d with
    | some (o, g, s, l, t) => xs x o.toNat (bound (x o.toNat) o.toNat g s l t e.a1 e.a2)
    | none => x
  else if e.kind = 3 then match gpiece e.d with
    | some (o, g, i, _) => xs x o.toNat (pie (x o.toNat) g i e.a1 e.a2)
    | none => x
  else if e.kind = 4 ∨ e.kind = 5 then match gdrop e.d with
    | some (o, g) => xs x o.toNat (forg (x o.toNat) g e.a1 e.a2)
    | none => x
  else x
theorem gbind_o {b : List UInt8} {o g l t : Int} {s : List UInt8} (h : gbind b = some (o, g, s, l, t)) : o = (o.toNat : Int) ∧ o.toNat < 16 := by
  unfold gbind at h
  split at h
  · rename_i hc
    have := hc.2.1.1.1
    simp only [Option.some.injEq, Prod.mk.injEq] at h
    obtain ⟨rfl, _⟩ := h
    omega
  · simp at h
theorem gpiece_o {b : List UInt8} {o g i : Int} {s : List UInt8} (h : gpiece b = some (o, g, i, s)) : o = (o.toNat : Int) ∧ o.toNat < 16 := by
  unfold gpiece at h
  split at h
  · rename_i hc
    have := hc.2.1.1
    simp only [Option.some.injEq, Prod.mk.injEq] at h
    obtain ⟨rfl, _⟩ := h
    omega
  · simp at h
theorem gdrop_o {b : List UInt8} {o g : Int} (h : gdrop b = some (o, g)) : o = (o.toNat : Int) ∧ o.toNat < 16 := by
  unfold gdrop at h
  split at h
  · rename_i hc
    have := hc.2.2.1
    simp only [Option.some.injEq, Prod.mk.injEq] at h
    obtain ⟨rfl, _⟩ := h
    omega
  · simp at h
theorem x_one (x : Nat → Sl) (e : En) (hd : e.d.length ≤ 1000) : call ir 23 [.agg (idxD x), .agg e.av] [] = some (.agg (idxD (oneF x e)), []) := by
  obtain ⟨a1, a2, seq, pages, kind, d⟩ := e
  have qb := c_getbind d hd
  have qp := c_getpiece d hd
  have qd := fun k => c_getdrop k d hd
  simp only [oneF, En.av]
  rw [call_eq (fn := ir23) rfl, evF_bnd]
  by_cases k2 : kind = 2
  · subst k2
    simp only [if_true]
    cases hg : gbind d with
    | none =>
      rw [hg] at qb
      simp (disch := omega) only [go_sem, doCall, doCallQ, Nat.reduceAdd, Nat.reduceMul, Nat.reduceSub, Nat.reduceDiv, Nat.reduceMod, Nat.reduceLT, Nat.reduceLeDiff, Nat.reduceEqDiff, Nat.reduceBEq, Nat.reduceBNe, Int.reduceToNat, Int.reduceLT, Int.reduceLE, Int.reduceEq, Int.reduceNe, Int.reduceAdd, Int.reduceSub, Int.reduceMul, Int.reduceNeg, bd23, qb, idxC_len, idxD_len, cs_len, av_len, map_cs, map_idx, idxC_take, idxC_drop, plain_av, plain_idx, box_idx, refs_av, owns_av, view_av, ren_av, refs_idx, owns_idx, view_idx, ren_idx, Int.toNat_natCast, Nat.zero_add, chk_of]
    | some r =>
      obtain ⟨o, g, s, l, t⟩ := r
      obtain ⟨ho, hk⟩ := gbind_o hg
      rw [hg, ho] at qb
      simp (disch := omega) only [go_sem, doCall, doCallQ, Nat.reduceAdd, Nat.reduceMul, Nat.reduceSub, Nat.reduceDiv, Nat.reduceMod, Nat.reduceLT, Nat.reduceLeDiff, Nat.reduceEqDiff, Nat.reduceBEq, Nat.reduceBNe, Int.reduceToNat, Int.reduceLT, Int.reduceLE, Int.reduceEq, Int.reduceNe, Int.reduceAdd, Int.reduceSub, Int.reduceMul, Int.reduceNeg, bd23, qb, x_bnd x o.toNat hk, idxC_len, idxD_len, cs_len, av_len, map_cs, map_idx, idxC_take, idxC_drop, plain_av, plain_idx, box_idx, refs_av, owns_av, view_av, ren_av, refs_idx, owns_idx, view_idx, ren_idx, Int.toNat_natCast, Nat.zero_add, chk_of]
  · by_cases k3 : kind = 3
    · subst k3
      simp only [show ¬ (3 : Int) = 2 by decide, if_true, if_false]
      cases hg : gpiece d with
      | none =>
        rw [hg] at qp
        simp (disch := omega) only [go_sem, doCall, doCallQ, Nat.reduceAdd, Nat.reduceMul, Nat.reduceSub, Nat.reduceDiv, Nat.reduceMod, Nat.reduceLT, Nat.reduceLeDiff, Nat.reduceEqDiff, Nat.reduceBEq, Nat.reduceBNe, Int.reduceToNat, Int.reduceLT, Int.reduceLE, Int.reduceEq, Int.reduceNe, Int.reduceAdd, Int.reduceSub, Int.reduceMul, Int.reduceNeg, bd23, qp, idxC_len, idxD_len, cs_len, av_len, map_cs, map_idx, idxC_take, idxC_drop, plain_av, plain_idx, box_idx, refs_av, owns_av, view_av, ren_av, refs_idx, owns_idx, view_idx, ren_idx, Int.toNat_natCast, Nat.zero_add, chk_of]
      | some r =>
        obtain ⟨o, g, i, s⟩ := r
        obtain ⟨ho, hk⟩ := gpiece_o hg
        rw [hg, ho] at qp
        simp (disch := omega) only [go_sem, doCall, doCallQ, Nat.reduceAdd, Nat.reduceMul, Nat.reduceSub, Nat.reduceDiv, Nat.reduceMod, Nat.reduceLT, Nat.reduceLeDiff, Nat.reduceEqDiff, Nat.reduceBEq, Nat.reduceBNe, Int.reduceToNat, Int.reduceLT, Int.reduceLE, Int.reduceEq, Int.reduceNe, Int.reduceAdd, Int.reduceSub, Int.reduceMul, Int.reduceNeg, bd23, qp, x_pie x o.toNat hk, idxC_len, idxD_len, cs_len, av_len, map_cs, map_idx, idxC_take, idxC_drop, plain_av, plain_idx, box_idx, refs_av, owns_av, view_av, ren_av, refs_idx, owns_idx, view_idx, ren_idx, Int.toNat_natCast, Nat.zero_add, chk_of]
    · by_cases k4 : kind = 4
      · subst k4
        simp only [show ¬ (4 : Int) = 2 by decide, show ¬ (4 : Int) = 3 by decide, if_true, if_false, true_or]
        cases hg : gdrop d with
        | none =>
          rw [hg] at qd
          simp (disch := omega) only [go_sem, doCall, doCallQ, Nat.reduceAdd, Nat.reduceMul, Nat.reduceSub, Nat.reduceDiv, Nat.reduceMod, Nat.reduceLT, Nat.reduceLeDiff, Nat.reduceEqDiff, Nat.reduceBEq, Nat.reduceBNe, Int.reduceToNat, Int.reduceLT, Int.reduceLE, Int.reduceEq, Int.reduceNe, Int.reduceAdd, Int.reduceSub, Int.reduceMul, Int.reduceNeg, bd23, qd, idxC_len, idxD_len, cs_len, av_len, map_cs, map_idx, idxC_take, idxC_drop, plain_av, plain_idx, box_idx, refs_av, owns_av, view_av, ren_av, refs_idx, owns_idx, view_idx, ren_idx, Int.toNat_natCast, Nat.zero_add, chk_of]
        | some r =>
          obtain ⟨o, g⟩ := r
          obtain ⟨ho, hk⟩ := gdrop_o hg
          rw [hg, ho] at qd
          simp (disch := omega) only [go_sem, doCall, doCallQ, Nat.reduceAdd, Nat.reduceMul, Nat.reduceSub, Nat.reduceDiv, Nat.reduceMod, Nat.reduceLT, Nat.reduceLeDiff, Nat.reduceEqDiff, Nat.reduceBEq, Nat.reduceBNe, Int.reduceToNat, Int.reduceLT, Int.reduceLE, Int.reduceEq, Int.reduceNe, Int.reduceAdd, Int.reduceSub, Int.reduceMul, Int.reduceNeg, bd23, qd, x_for x o.toNat hk, idxC_len, idxD_len, cs_len, av_len, map_cs, map_idx, idxC_take, idxC_drop, plain_av, plain_idx, box_idx, refs_av, owns_av, view_av, ren_av, refs_idx, owns_idx, view_idx, ren_idx, Int.toNat_natCast, Nat.zero_add, chk_of]
      · by_cases k5 : kind = 5
        · subst k5
          simp only [show ¬ (5 : Int) = 2 by decide, show ¬ (5 : Int) = 3 by decide, if_true, if_false, or_true]
          cases hg : gdrop d with
          | none =>
            rw [hg] at qd
            simp (disch := omega) only [go_sem, doCall, doCallQ, Nat.reduceAdd, Nat.reduceMul, Nat.reduceSub, Nat.reduceDiv, Nat.reduceMod, Nat.reduceLT, Nat.reduceLeDiff, Nat.reduceEqDiff, Nat.reduceBEq, Nat.reduceBNe, Int.reduceToNat, Int.reduceLT, Int.reduceLE, Int.reduceEq, Int.reduceNe, Int.reduceAdd, Int.reduceSub, Int.reduceMul, Int.reduceNeg, bd23, qd, idxC_len, idxD_len, cs_len, av_len, map_cs, map_idx, idxC_take, idxC_drop, plain_av, plain_idx, box_idx, refs_av, owns_av, view_av, ren_av, refs_idx, owns_idx, view_idx, ren_idx, Int.toNat_natCast, Nat.zero_add, chk_of]
          | some r =>
            obtain ⟨o, g⟩ := r
            obtain ⟨ho, hk⟩ := gdrop_o hg
            rw [hg, ho] at qd
            simp (disch := omega) only [go_sem, doCall, doCallQ, Nat.reduceAdd, Nat.reduceMul, Nat.reduceSub, Nat.reduceDiv, Nat.reduceMod, Nat.reduceLT, Nat.reduceLeDiff, Nat.reduceEqDiff, Nat.reduceBEq, Nat.reduceBNe, Int.reduceToNat, Int.reduceLT, Int.reduceLE, Int.reduceEq, Int.reduceNe, Int.reduceAdd, Int.reduceSub, Int.reduceMul, Int.reduceNeg, bd23, qd, x_for x o.toNat hk, idxC_len, idxD_len, cs_len, av_len, map_cs, map_idx, idxC_take, idxC_drop, plain_av, plain_idx, box_idx, refs_av, owns_av, view_av, ren_av, refs_idx, owns_idx, view_idx, ren_idx, Int.toNat_natCast, Nat.zero_add, chk_of]
        · simp only [eq_false k2, eq_false k3, eq_false k4, eq_false k5, or_self, if_false]
          simp (disch := omega) only [go_sem, doCall, doCallQ, Nat.reduceAdd, Nat.reduceMul, Nat.reduceSub, Nat.reduceDiv, Nat.reduceMod, Nat.reduceLT, Nat.reduceLeDiff, Nat.reduceEqDiff, Nat.reduceBEq, Nat.reduceBNe, Int.reduceToNat, Int.reduceLT, Int.reduceLE, Int.reduceEq, Int.reduceNe, Int.reduceAdd, Int.reduceSub, Int.reduceMul, Int.reduceNeg, bd23, eq_false k2, eq_false k3, eq_false k4, eq_false k5, idxC_len, idxD_len, cs_len, av_len, map_cs, map_idx, idxC_take, idxC_drop, plain_av, plain_idx, box_idx, refs_av, owns_av, view_av, ren_av, refs_idx, owns_idx, view_idx, ren_idx, Int.toNat_natCast, Nat.zero_add, chk_of]
end Go.Proofs.Ytoipfdbdifoecaa
