/- An index behind some deeds, and the document's. Own work. -/
import Derived.Test.YtoipfdbdifoecaaDoorRef3
import Derived.Test.YtoipfdbdifoecaaDoorIxA
namespace Go.Proofs.YtoipfdbdifoecaaDoor
open Go Go.Ev Go.Proofs.YtoipfdbdifoecaaDoor.Ir
set_option maxRecDepth 100000
set_option maxHeartbeats 4000000
set_option linter.unusedSimpArgs false
set_option linter.unusedVariables false
structure De where
  kind : Int
  o : Int
  g : Int
  tag : List UInt8
  len : Int
  tick : Int
  i : Int
  a1 : Int
  a2 : Int
def De.cs (e : De) : List D := [.int .i64 e.kind, .int .i64 e.o, .int .i64 e.g, .str e.tag, .int .i64 e.len, .int .i64 e.tick, .int .i64 e.i, .int .i64 e.a1, .int .i64 e.a2]
def deF (x : Nat → Sl) (d : De) : Nat → Sl :=
  if 0 ≤ d.o ∧ d.o < 16 then
    (if d.kind = 1 then xs x d.o.toNat (pie (x d.o.toNat) d.g d.i d.a1 d.a2)
    else if d.kind = 2 then xs x d.o.toNat (forg (x d.o.toNat) d.g d.a1 d.a2)
    else xs x d.o.toNat (bound (x d.o.toNat) d.o.toNat d.g d.tag d.len d.tick d.a1 d.a2))
  else x
def mdF (l : List De) : Nat → Sl := l.foldl deF X0
/-- An object that may not be. -/
theorem p_out (x : Nat → Sl) (o : Int) (ho : ¬ (0 ≤ o ∧ o < 16)) (g i a1 a2 : Int) (tag : List UInt8) (len tick : Int) :
    call ir 9 [.agg (idxD x), .agg [.d (.int .i64 o), .d (.int .i64 g), .d (.str tag), .d (.int .i64 len), .d (.int .i64 tick)], .agg [.d (.int .i64 a1), .d (.int .i64 a2)]] [] = some (.agg (idxD x), []) ∧
    call ir 11 [.agg (idxD x), .d (.int .i64 o), .d (.int .i64 g), .agg [.d (.int .i64 a1), .d (.int .i64 a2)]] [] = some (.agg (idxD x), []) ∧
    call ir 10 [.agg (idxD x), .d (.int .i64 o), .d (.int .i64 g), .d (.int .i64 i), .agg [.d (.int .i64 a1), .d (.int .i64 a2)]] [] = some (.agg (idxD x), []) := by
  have hm := c_may16 o
  rw [decide_eq_false ho] at hm
  have ch : ∀ (f : AV) (H : Heap), call ir 30 [.agg (idxD x), .d (.int .i64 o), f] H = some (.agg (idxD x), H) ∨ True := fun _ _ => .inr trivial
  have c1 : ∀ (a b : List D), call ir 30 [.agg (idxD x), .d (.int .i64 o), .clo (.func 31) [] [.ptr 0 0, .ptr 1 0]] [.dbox a, .dbox b] = some (.agg (idxD x), [.dbox a, .dbox b]) := fun a b => by
    rw [call_eq (fn := ir30) rfl, evF_bnd]
    simp (disch := omega) only [go_sem, doCall, doCallQ, Nat.reduceAdd, Nat.reduceMul, Nat.reduceSub, Nat.reduceDiv, Nat.reduceMod, Nat.reduceLT, Nat.reduceLeDiff, Nat.reduceEqDiff, Nat.reduceBEq, Nat.reduceBNe, Int.reduceToNat, Int.reduceLT, Int.reduceLE, Int.reduceEq, Int.reduceNe, Int.reduceAdd, Int.reduceSub, Int.reduceMul, Int.reduceNeg, bd30, hm, idxC_len, idxD_len, cs_len, av_len, map_cs, map_idx, idxC_take, idxC_drop, plain_av, plain_idx, box_idx, refs_av, owns_av, view_av, ren_av, refs_idx, owns_idx, view_idx, ren_idx, Int.toNat_natCast, Nat.zero_add, chk_of]
  have c2 : ∀ (a b : List D), call ir 30 [.agg (idxD x), .d (.int .i64 o), .clo (.func 34) [] [.ptr 0 0, .ptr 1 0]] [.dbox a, .dbox b] = some (.agg (idxD x), [.dbox a, .dbox b]) := fun a b => by
    rw [call_eq (fn := ir30) rfl, evF_bnd]
    simp (disch := omega) only [go_sem, doCall, doCallQ, Nat.reduceAdd, Nat.reduceMul, Nat.reduceSub, Nat.reduceDiv, Nat.reduceMod, Nat.reduceLT, Nat.reduceLeDiff, Nat.reduceEqDiff, Nat.reduceBEq, Nat.reduceBNe, Int.reduceToNat, Int.reduceLT, Int.reduceLE, Int.reduceEq, Int.reduceNe, Int.reduceAdd, Int.reduceSub, Int.reduceMul, Int.reduceNeg, bd30, hm, idxC_len, idxD_len, cs_len, av_len, map_cs, map_idx, idxC_take, idxC_drop, plain_av, plain_idx, box_idx, refs_av, owns_av, view_av, ren_av, refs_idx, owns_idx, view_idx, ren_idx, Int.toNat_natCast, Nat.zero_add, chk_of]
  have c3 : ∀ (a b c : List D), call ir 30 [.agg (idxD x), .d (.int .i64 o), .clo (.func 32) [] [.ptr 0 0, .ptr 1 0, .ptr 2 0]] [.dbox a, .dbox b, .dbox c] = some (.agg (idxD x), [.dbox a, .dbox b, .dbox c]) := fun a b c => by
    rw [call_eq (fn := ir30) rfl, evF_bnd]
    simp (disch := omega) only [go_sem, doCall, doCallQ, Nat.reduceAdd, Nat.reduceMul, Nat.reduceSub, Nat.reduceDiv, Nat.reduceMod, Nat.reduceLT, Nat.reduceLeDiff, Nat.reduceEqDiff, Nat.reduceBEq, Nat.reduceBNe, Int.reduceToNat, Int.reduceLT, Int.reduceLE, Int.reduceEq, Int.reduceNe, Int.reduceAdd, Int.reduceSub, Int.reduceMul, Int.reduceNeg, bd30, hm, idxC_len, idxD_len, cs_len, av_len, map_cs, map_idx, idxC_take, idxC_drop, plain_av, plain_idx, box_idx, refs_av, owns_av, view_av, ren_av, refs_idx, owns_idx, view_idx, ren_idx, Int.toNat_natCast, Nat.zero_add, chk_of]
  refine ⟨?_, ?_, ?_⟩
  · rw [call_eq (fn := ir9) rfl, evF_bnd]
    simp (disch := omega) only [go_sem, doCall, doCallQ, Nat.reduceAdd, Nat.reduceMul, Nat.reduceSub, Nat.reduceDiv, Nat.reduceMod, Nat.reduceLT, Nat.reduceLeDiff, Nat.reduceEqDiff, Nat.reduceBEq, Nat.reduceBNe, Int.reduceToNat, Int.reduceLT, Int.reduceLE, Int.reduceEq, Int.reduceNe, Int.reduceAdd, Int.reduceSub, Int.reduceMul, Int.reduceNeg, bd9, c1, idxC_len, idxD_len, cs_len, av_len, map_cs, map_idx, idxC_take, idxC_drop, plain_av, plain_idx, box_idx, refs_av, owns_av, view_av, ren_av, refs_idx, owns_idx, view_idx, ren_idx, Int.toNat_natCast, Nat.zero_add, chk_of]
  · rw [call_eq (fn := ir11) rfl, evF_bnd]
    simp (disch := omega) only [go_sem, doCall, doCallQ, Nat.reduceAdd, Nat.reduceMul, Nat.reduceSub, Nat.reduceDiv, Nat.reduceMod, Nat.reduceLT, Nat.reduceLeDiff, Nat.reduceEqDiff, Nat.reduceBEq, Nat.reduceBNe, Int.reduceToNat, Int.reduceLT, Int.reduceLE, Int.reduceEq, Int.reduceNe, Int.reduceAdd, Int.reduceSub, Int.reduceMul, Int.reduceNeg, bd11, c2, idxC_len, idxD_len, cs_len, av_len, map_cs, map_idx, idxC_take, idxC_drop, plain_av, plain_idx, box_idx, refs_av, owns_av, view_av, ren_av, refs_idx, owns_idx, view_idx, ren_idx, Int.toNat_natCast, Nat.zero_add, chk_of]
  · rw [call_eq (fn := ir10) rfl, evF_bnd]
    simp (disch := omega) only [go_sem, doCall, doCallQ, Nat.reduceAdd, Nat.reduceMul, Nat.reduceSub, Nat.reduceDiv, Nat.reduceMod, Nat.reduceLT, Nat.reduceLeDiff, Nat.reduceEqDiff, Nat.reduceBEq, Nat.reduceBNe, Int.reduceToNat, Int.reduceLT, Int.reduceLE, Int.reduceEq, Int.reduceNe, Int.reduceAdd, Int.reduceSub, Int.reduceMul, Int.reduceNeg, bd10, c3, idxC_len, idxD_len, cs_len, av_len, map_cs, map_idx, idxC_take, idxC_drop, plain_av, plain_idx, box_idx, refs_av, owns_av, view_av, ren_av, refs_idx, owns_idx, view_idx, ren_idx, Int.toNat_natCast, Nat.zero_add, chk_of]
/-- What maps may be. -/
def InvS (n : Nat) (x : Nat → Sl) : Prop := ∀ k, SrtM (pmK (x k).pm) ∧ (pmK (x k).pm).length ≤ n ∧ ∀ p ∈ pmK (x k).pm, 0 ≤ p.1 ∧ p.1 ≤ 4096
theorem invS_xs {n : Nat} {x : Nat → Sl} (h : InvS n x) (k : Nat) (s : Sl) (hs : SrtM (pmK s.pm) ∧ (pmK s.pm).length ≤ n + 1 ∧ ∀ p ∈ pmK s.pm, 0 ≤ p.1 ∧ p.1 ≤ 4096) : InvS (n + 1) (xs x k s) := fun j => by
  unfold xs
  split
  · exact hs
  · exact ⟨(h j).1, by have := (h j).2.1; omega, (h j).2.2⟩
theorem invS_one {n : Nat} {x : Nat → Sl} (h : InvS n x) (d : De) : InvS (n + 1) (deF x d) := by
  have up : InvS (n + 1) x := fun j => ⟨(h j).1, by have := (h j).2.1; omega, (h j).2.2⟩
  have hn : ∀ s : Sl, s.pm = none → SrtM (pmK s.pm) ∧ (pmK s.pm).length ≤ n + 1 ∧ ∀ p ∈ pmK s.pm, 0 ≤ p.1 ∧ p.1 ≤ 4096 := fun s hs => by rw [hs]; exact ⟨List.Pairwise.nil, by simp [pmK], fun p hp => by simp [pmK] at hp⟩
  have hk : ∀ (s : Sl) (j : Nat), s.pm = (x j).pm → SrtM (pmK s.pm) ∧ (pmK s.pm).length ≤ n + 1 ∧ ∀ p ∈ pmK s.pm, 0 ≤ p.1 ∧ p.1 ≤ 4096 := fun s j hs => by rw [hs]; exact up j
  unfold deF
  split
  case isFalse => exact up
  split
  · refine invS_xs h _ _ ?_
    unfold pie
    split
    · exact hk _ _ rfl
    · rename_i hc
      simp only [not_or] at hc
      have e : pmK (pmPut d.i d.a1 d.a2 (x d.o.toNat).pm) = putM d.i (d.a1, d.a2) (pmK (x d.o.toNat).pm) := by cases (x d.o.toNat).pm <;> rfl
      have hx := h d.o.toNat
      simp only
      rw [e]
      refine ⟨putM_srt hx.1, by have := putM_le d.i (d.a1, d.a2) (pmK (x d.o.toNat).pm); omega, fun p hp => ?_⟩
      rcases putM_mem hp with rfl | hp
      · simp only; omega
      · exact hx.2.2 p hp
  · split
    · refine invS_xs h _ _ ?_
      unfold forg forg2
      split
      · exact hn _ rfl
      · unfold forg1
        split
        · exact hk _ _ rfl
        · exact hk _ _ rfl
    · refine invS_xs h _ _ ?_
      unfold bound
      split
      · exact hk _ _ rfl
      · split
        · exact hn _ rfl
        · split
          · exact hk _ _ rfl
          · exact hk _ _ rfl
theorem InvS.start : InvS 0 X0 := fun k => ⟨List.Pairwise.nil, by simp [X0, S0, pmK], fun p hp => by simp [X0, S0, pmK] at hp⟩
theorem invS_fold : ∀ (l : List De) {n : Nat} {x : Nat → Sl}, InvS n x → InvS (n + l.length) (l.foldl deF x)
  | [], n, x, h => h
  | e :: l, n, x, h => by
    have := invS_fold l (invS_one h e)
    rw [List.foldl_cons, List.length_cons, show n + (l.length + 1) = n + 1 + l.length from by omega]
    exact this
/-- One deed on both. -/
theorem both_one (x : Nat → Sl) {n : Nat} (hi : InvS n x) (hn : n ≤ 100000) (d : De) : deF x d = deF x d ∧
    (d.kind = 1 → call ir 10 [.agg (idxD x), .d (.int .i64 d.o), .d (.int .i64 d.g), .d (.int .i64 d.i), .agg [.d (.int .i64 d.a1), .d (.int .i64 d.a2)]] [] = some (.agg (idxD (deF x d)), []) ∧
      call ir 18 [.ptr 0 0, .d (.int .i64 d.o), .d (.int .i64 d.g), .d (.int .i64 d.i), .agg [.d (.int .i64 d.a1), .d (.int .i64 d.a2)]] [.dbox (idxR x)] = some (.tup [], [.dbox (idxR (deF x d))])) ∧
    (d.kind = 2 → call ir 11 [.agg (idxD x), .d (.int .i64 d.o), .d (.int .i64 d.g), .agg [.d (.int .i64 d.a1), .d (.int .i64 d.a2)]] [] = some (.agg (idxD (deF x d)), []) ∧
      call ir 19 [.ptr 0 0, .d (.int .i64 d.o), .d (.int .i64 d.g), .agg [.d (.int .i64 d.a1), .d (.int .i64 d.a2)]] [.dbox (idxR x)] = some (.tup [], [.dbox (idxR (deF x d))])) ∧
    (¬ d.kind = 1 → ¬ d.kind = 2 → call ir 9 [.agg (idxD x), .agg [.d (.int .i64 d.o), .d (.int .i64 d.g), .d (.str d.tag), .d (.int .i64 d.len), .d (.int .i64 d.tick)], .agg [.d (.int .i64 d.a1), .d (.int .i64 d.a2)]] [] = some (.agg (idxD (deF x d)), []) ∧
      call ir 20 [.ptr 0 0, .agg [.d (.int .i64 d.o), .d (.int .i64 d.g), .d (.str d.tag), .d (.int .i64 d.len), .d (.int .i64 d.tick)], .agg [.d (.int .i64 d.a1), .d (.int .i64 d.a2)]] [.dbox (idxR x)] = some (.tup [], [.dbox (idxR (deF x d))])) := by
  refine ⟨rfl, ?_⟩
  by_cases h : 0 ≤ d.o ∧ d.o < 16
  · have ho : d.o = (d.o.toNat : Int) := by omega
    have hk : d.o.toNat < 16 := by omega
    have hx := hi d.o.toNat
    refine ⟨fun h1 => ?_, fun h1 => ?_, fun h1 h2 => ?_⟩
    · have e : deF x d = xs x d.o.toNat (pie (x d.o.toNat) d.g d.i d.a1 d.a2) := by unfold deF; rw [if_pos h, if_pos h1]
      rw [e]
      have q1 := x_pie x d.o.toNat hk d.g d.i d.a1 d.a2
      have q2 := r_piece x d.o.toNat hk hx.1 (by have := hx.2.1; omega) d.g d.i d.a1 d.a2
      rw [← ho] at q1 q2
      exact ⟨q1, q2⟩
    · have e : deF x d = xs x d.o.toNat (forg (x d.o.toNat) d.g d.a1 d.a2) := by unfold deF; rw [if_pos h, if_neg (by omega), if_pos h1]
      rw [e]
      have q1 := x_for x d.o.toNat hk d.g d.a1 d.a2
      have q2 := r_forget x d.o.toNat hk d.g d.a1 d.a2
      rw [← ho] at q1 q2
      exact ⟨q1, q2⟩
    · have e : deF x d = xs x d.o.toNat (bound (x d.o.toNat) d.o.toNat d.g d.tag d.len d.tick d.a1 d.a2) := by unfold deF; rw [if_pos h, if_neg h1, if_neg h2]
      rw [← ho] at e
      rw [e]
      have q1 := x_bnd x d.o.toNat hk d.g d.tag d.len d.tick d.a1 d.a2
      have q2 := r_bound x d.o.toNat hk d.g d.tag d.len d.tick d.a1 d.a2
      rw [← ho] at q1 q2
      exact ⟨q1, q2⟩
  · have e : deF x d = x := by unfold deF; rw [if_neg h]
    rw [e]
    obtain ⟨p1, p2, p3⟩ := p_out x d.o h d.g d.i d.a1 d.a2 d.tag d.len d.tick
    obtain ⟨r1, r2, r3⟩ := r_out x d.o h d.g d.i d.a1 d.a2 d.tag d.len d.tick
    exact ⟨fun _ => ⟨p3, r3⟩, fun _ => ⟨p2, r2⟩, fun _ _ => ⟨p1, r1⟩⟩
theorem De.rows (l : List De) {i : Nat} (h : i < l.length) : (l.map De.cs).getD i [] = [.int .i64 l[i].kind, .int .i64 l[i].o, .int .i64 l[i].g, .str l[i].tag, .int .i64 l[i].len, .int .i64 l[i].tick, .int .i64 l[i].i, .int .i64 l[i].a1, .int .i64 l[i].a2] := by
  simp [List.getD_eq_getElem?_getD, h, De.cs]
theorem lp_md (Z : List D) (l : List De) (hl : l.length ≤ 1000) (K : Ex → St → Option (AV × Heap)) (j : Nat) (hj : j ≤ l.length) (x : Nat → Sl) (hi : InvS j x) :
    bnd (evC (call ir) (loop ir) lp6_0 (st6_0 0 (.ptr 0 0) (.ptr 1 0) (.ptr 2 0) (.d (.list 9 (l.map De.cs))) (.d (.int .i64 l.length)) (.d (.int .i64 j)) [.dbox Z, .dbox (idxC x), .dbox (idxR x)]))
      (lpC (call ir) (loop ir) [2, 4, 5, 12, 13, 14] lp6_0 K) =
    K (.exit 0) (clean [2, 4, 5] (st6_0 0 (.ptr 0 0) (.ptr 1 0) (.ptr 2 0) .unk .unk .unk [.dbox Z, .dbox (idxC ((l.drop j).foldl deF x)), .dbox (idxR ((l.drop j).foldl deF x))])) := by
  have hlm : (l.map De.cs).length = l.length := List.length_map ..
  by_cases h : j = l.length
  · have hx : ¬ (j : Int) < l.length := by omega
    subst h
    simp (disch := omega) only [go_sem, doCall, doCallQ, Nat.reduceAdd, Nat.reduceMul, Nat.reduceSub, Nat.reduceDiv, Nat.reduceMod, Nat.reduceLT, Nat.reduceLeDiff, Nat.reduceEqDiff, Nat.reduceBEq, Nat.reduceBNe, Int.reduceToNat, Int.reduceLT, Int.reduceLE, Int.reduceEq, Int.reduceNe, Int.reduceAdd, Int.reduceSub, Int.reduceMul, Int.reduceNeg, u6_0, lb6_0, hx, List.drop_length, List.foldl_nil]
  · have hlt : (j : Int) < l.length := by omega
    have hj' : j < l.length := by omega
    have hw := wr_succ (i := j) (by omega)
    have hr := De.rows l hj'
    have hdl : l.drop j = l[j] :: l.drop (j + 1) := List.drop_eq_getElem_cons hj'
    have ih := lp_md Z l hl K (j + 1) (by omega) (deF x l[j]) (invS_one hi _)
    obtain ⟨_, b1, b2, b3⟩ := both_one x hi (by omega) l[j]
    rw [hdl, List.foldl_cons]
    by_cases k1 : l[j].kind = 1
    · obtain ⟨q1, q2⟩ := b1 k1
      simp (disch := omega) only [go_sem, doCall, doCallQ, Nat.reduceAdd, Nat.reduceMul, Nat.reduceSub, Nat.reduceDiv, Nat.reduceMod, Nat.reduceLT, Nat.reduceLeDiff, Nat.reduceEqDiff, Nat.reduceBEq, Nat.reduceBNe, Int.reduceToNat, Int.reduceLT, Int.reduceLE, Int.reduceEq, Int.reduceNe, Int.reduceAdd, Int.reduceSub, Int.reduceMul, Int.reduceNeg, u6_0, lb6_0, hlt, hr, eq_true k1, hlm, q1, q2, idxR_len, idxC_len, idxD_len, cs_len, av_len, map_cs, map_idx, idxC_take, idxC_drop, plain_av, plain_idx, box_idx, refs_av, owns_av, view_av, ren_av, refs_idx, owns_idx, view_idx, ren_idx, Int.toNat_natCast, Nat.zero_add, chk_of]
      rw [loop_step1]
      simp only [go_sem, doCall, doCallQ, Nat.reduceAdd, Nat.reduceMul, Nat.reduceSub, Nat.reduceDiv, Nat.reduceMod, Nat.reduceLT, Nat.reduceLeDiff, Nat.reduceEqDiff, Nat.reduceBEq, Nat.reduceBNe, Int.reduceToNat, Int.reduceLT, Int.reduceLE, Int.reduceEq, Int.reduceNe, Int.reduceAdd, Int.reduceSub, Int.reduceMul, Int.reduceNeg, hw]
      simp only [go_sem, doCall, doCallQ, Nat.reduceAdd, Nat.reduceMul, Nat.reduceSub, Nat.reduceDiv, Nat.reduceMod, Nat.reduceLT, Nat.reduceLeDiff, Nat.reduceEqDiff, Nat.reduceBEq, Nat.reduceBNe, Int.reduceToNat, Int.reduceLT, Int.reduceLE, Int.reduceEq, Int.reduceNe, Int.reduceAdd, Int.reduceSub, Int.reduceMul, Int.reduceNeg] at ih
      exact ih
    · by_cases k2 : l[j].kind = 2
      · obtain ⟨q1, q2⟩ := b2 k2
        simp (disch := omega) only [go_sem, doCall, doCallQ, Nat.reduceAdd, Nat.reduceMul, Nat.reduceSub, Nat.reduceDiv, Nat.reduceMod, Nat.reduceLT, Nat.reduceLeDiff, Nat.reduceEqDiff, Nat.reduceBEq, Nat.reduceBNe, Int.reduceToNat, Int.reduceLT, Int.reduceLE, Int.reduceEq, Int.reduceNe, Int.reduceAdd, Int.reduceSub, Int.reduceMul, Int.reduceNeg, u6_0, lb6_0, hlt, hr, eq_false k1, eq_true k2, hlm, q1, q2, idxR_len, idxC_len, idxD_len, cs_len, av_len, map_cs, map_idx, idxC_take, idxC_drop, plain_av, plain_idx, box_idx, refs_av, owns_av, view_av, ren_av, refs_idx, owns_idx, view_idx, ren_idx, Int.toNat_natCast, Nat.zero_add, chk_of]
        rw [loop_step1]
        simp only [go_sem, doCall, doCallQ, Nat.reduceAdd, Nat.reduceMul, Nat.reduceSub, Nat.reduceDiv, Nat.reduceMod, Nat.reduceLT, Nat.reduceLeDiff, Nat.reduceEqDiff, Nat.reduceBEq, Nat.reduceBNe, Int.reduceToNat, Int.reduceLT, Int.reduceLE, Int.reduceEq, Int.reduceNe, Int.reduceAdd, Int.reduceSub, Int.reduceMul, Int.reduceNeg, hw]
        simp only [go_sem, doCall, doCallQ, Nat.reduceAdd, Nat.reduceMul, Nat.reduceSub, Nat.reduceDiv, Nat.reduceMod, Nat.reduceLT, Nat.reduceLeDiff, Nat.reduceEqDiff, Nat.reduceBEq, Nat.reduceBNe, Int.reduceToNat, Int.reduceLT, Int.reduceLE, Int.reduceEq, Int.reduceNe, Int.reduceAdd, Int.reduceSub, Int.reduceMul, Int.reduceNeg] at ih
        exact ih
      · obtain ⟨q1, q2⟩ := b3 k1 k2
        simp (disch := omega) only [go_sem, doCall, doCallQ, Nat.reduceAdd, Nat.reduceMul, Nat.reduceSub, Nat.reduceDiv, Nat.reduceMod, Nat.reduceLT, Nat.reduceLeDiff, Nat.reduceEqDiff, Nat.reduceBEq, Nat.reduceBNe, Int.reduceToNat, Int.reduceLT, Int.reduceLE, Int.reduceEq, Int.reduceNe, Int.reduceAdd, Int.reduceSub, Int.reduceMul, Int.reduceNeg, u6_0, lb6_0, hlt, hr, eq_false k1, eq_false k2, hlm, q1, q2, idxR_len, idxC_len, idxD_len, cs_len, av_len, map_cs, map_idx, idxC_take, idxC_drop, plain_av, plain_idx, box_idx, refs_av, owns_av, view_av, ren_av, refs_idx, owns_idx, view_idx, ren_idx, Int.toNat_natCast, Nat.zero_add, chk_of]
        rw [loop_step1]
        simp only [go_sem, doCall, doCallQ, Nat.reduceAdd, Nat.reduceMul, Nat.reduceSub, Nat.reduceDiv, Nat.reduceMod, Nat.reduceLT, Nat.reduceLeDiff, Nat.reduceEqDiff, Nat.reduceBEq, Nat.reduceBNe, Int.reduceToNat, Int.reduceLT, Int.reduceLE, Int.reduceEq, Int.reduceNe, Int.reduceAdd, Int.reduceSub, Int.reduceMul, Int.reduceNeg, hw]
        simp only [go_sem, doCall, doCallQ, Nat.reduceAdd, Nat.reduceMul, Nat.reduceSub, Nat.reduceDiv, Nat.reduceMod, Nat.reduceLT, Nat.reduceLeDiff, Nat.reduceEqDiff, Nat.reduceBEq, Nat.reduceBNe, Int.reduceToNat, Int.reduceLT, Int.reduceLE, Int.reduceEq, Int.reduceNe, Int.reduceAdd, Int.reduceSub, Int.reduceMul, Int.reduceNeg] at ih
        exact ih
termination_by l.length - j
theorem c_made (l : List De) (hl : l.length ≤ 1000) : call ir 6 [.d (.list 9 (l.map De.cs))] [] = some (.tup [.agg (idxD (mdF l)), .ptr 0 0], [.dbox (idxR (mdF l))]) := by
  have hlm : (l.map De.cs).length = l.length := List.length_map ..
  rw [call_eq (fn := ir6) rfl, evF_bnd]
  simp (disch := omega) only [go_sem, doCall, doCallQ, Nat.reduceAdd, Nat.reduceMul, Nat.reduceSub, Nat.reduceDiv, Nat.reduceMod, Nat.reduceLT, Nat.reduceLeDiff, Nat.reduceEqDiff, Nat.reduceBEq, Nat.reduceBNe, Int.reduceToNat, Int.reduceLT, Int.reduceLE, Int.reduceEq, Int.reduceNe, Int.reduceAdd, Int.reduceSub, Int.reduceMul, Int.reduceNeg, bd6, c_new, hlm, idxC_len, idxD_len, cs_len, av_len, map_cs, map_idx, idxC_take, idxC_drop, plain_av, plain_idx, box_idx, refs_av, owns_av, view_av, ren_av, refs_idx, owns_idx, view_idx, ren_idx, Int.toNat_natCast, Nat.zero_add, chk_of]
  rw [loop_step1]
  simp only [go_sem, doCall, doCallQ, Nat.reduceAdd, Nat.reduceMul, Nat.reduceSub, Nat.reduceDiv, Nat.reduceMod, Nat.reduceLT, Nat.reduceLeDiff, Nat.reduceEqDiff, Nat.reduceBEq, Nat.reduceBNe, Int.reduceToNat, Int.reduceLT, Int.reduceLE, Int.reduceEq, Int.reduceNe, Int.reduceAdd, Int.reduceSub, Int.reduceMul, Int.reduceNeg]
  refine (lp_md _ l hl _ 0 (Nat.zero_le _) X0 InvS.start).trans ?_
  simp (disch := omega) only [go_sem, doCall, doCallQ, Nat.reduceAdd, Nat.reduceMul, Nat.reduceSub, Nat.reduceDiv, Nat.reduceMod, Nat.reduceLT, Nat.reduceLeDiff, Nat.reduceEqDiff, Nat.reduceBEq, Nat.reduceBNe, Int.reduceToNat, Int.reduceLT, Int.reduceLE, Int.reduceEq, Int.reduceNe, Int.reduceAdd, Int.reduceSub, Int.reduceMul, Int.reduceNeg, List.drop_zero, idxC_len, idxD_len, cs_len, av_len, map_cs, map_idx, idxC_take, idxC_drop, plain_av, plain_idx, box_idx, refs_av, owns_av, view_av, ren_av, refs_idx, owns_idx, view_idx, ren_idx, Int.toNat_natCast, Nat.zero_add, chk_of]
  rfl
end Go.Proofs.YtoipfdbdifoecaaDoor
