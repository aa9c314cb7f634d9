/- An index never changes; the same done twice changes nothing. Own work. -/
import Derived.Test.YtoipfdbdifoecaaDoorIxd
namespace Go.Proofs.YtoipfdbdifoecaaDoor
open Go Go.Ev Go.Proofs.YtoipfdbdifoecaaDoor.Ir
set_option maxRecDepth 100000
set_option maxHeartbeats 8000000
set_option linter.unusedSimpArgs false
set_option linter.unusedVariables false
theorem putM_idem (i : Int) (v : Int × Int) : ∀ l : List (Int × Int × Int), putM i v (putM i v l) = putM i v l
  | [] => by simp [putM]
  | (a, d) :: l => by
    have ih := putM_idem i v l
    rw [putM]
    split
    · simp [putM]
    · split
      · simp [putM]
      · rename_i h1 h2; rw [putM, if_neg h1, if_neg h2, ih]
theorem pmPut_idem (i a1 a2 : Int) (p : PM) : pmPut i a1 a2 (pmPut i a1 a2 p) = pmPut i a1 a2 p := by
  cases p with
  | none => simp [pmPut, putM]
  | some l => simp only [pmPut, putM_idem]
theorem pie_idem (s : Sl) (gen i a1 a2 : Int) : pie (pie s gen i a1 a2) gen i a1 a2 = pie s gen i a1 a2 := by
  by_cases h : s.b = false ∨ ¬ s.g = gen ∨ i < 0 ∨ i > 4096
  · have e : pie s gen i a1 a2 = s := if_pos h
    rw [e, e]
  · have e : pie s gen i a1 a2 = { s with pm := pmPut i a1 a2 s.pm } := if_neg h
    rw [e]
    unfold pie
    rw [if_neg h]
    simp only [pmPut_idem]
theorem forg_idem (s : Sl) (gen a1 a2 : Int) : forg (forg s gen a1 a2) gen a1 a2 = forg s gen a1 a2 := by
  obtain ⟨b, o, g, tag, len, tick, b1, b2, pm, fl, t1, t2⟩ := s
  by_cases c1 : gen ≥ fl ∧ gen > 0
  · cases b
    · simp [forg, forg1, forg2, c1]
    · by_cases c2 : g ≤ gen
      · simp [forg, forg1, forg2, c1, c2]
      · simp [forg, forg1, forg2, c1, c2]
  · cases b
    · simp only [forg, forg1, forg2, c1, if_false, Bool.false_eq_true, false_and]
    · by_cases c2 : g ≤ gen
      · simp only [forg, forg1, forg2, c1, c2, and_self, if_true, if_false, Bool.false_eq_true, false_and]
      · simp only [forg, forg1, forg2, c1, c2, and_false, if_false]
theorem bound_idem (s : Sl) (o g : Int) (tag : List UInt8) (len tick a1 a2 : Int) : bound (bound s o g tag len tick a1 a2) o g tag len tick a1 a2 = bound s o g tag len tick a1 a2 := by
  by_cases c1 : g ≤ s.fl
  · have e : bound s o g tag len tick a1 a2 = s := if_pos c1
    rw [e, e]
  · by_cases c2 : s.b = false ∨ s.g < g
    · have e : bound s o g tag len tick a1 a2 = { s with b := true, o := o, g := g, tag := tag, len := len, tick := tick, a1 := a1, a2 := a2, pm := none } := by unfold bound; rw [if_neg c1, if_pos c2]
      rw [e]
      unfold bound
      rw [if_neg c1, if_neg (by simp), if_pos ⟨rfl, rfl, rfl, Int.le_refl _⟩]
    · by_cases c3 : s.g = g ∧ s.tag = tag ∧ s.len = len ∧ s.tick ≤ tick
      · have e : bound s o g tag len tick a1 a2 = { s with tick := tick, a1 := a1, a2 := a2 } := by unfold bound; rw [if_neg c1, if_neg c2, if_pos c3]
        rw [e]
        unfold bound
        rw [if_neg c1, if_neg c2, if_pos ⟨c3.1, c3.2.1, c3.2.2.1, Int.le_refl _⟩]
      · have e : bound s o g tag len tick a1 a2 = s := by unfold bound; rw [if_neg c1, if_neg c2, if_neg c3]
        rw [e, e]
theorem deF_idem (x : Nat → Sl) (d : De) : deF (deF x d) d = deF x d := by
  unfold deF
  by_cases h : 0 ≤ d.o ∧ d.o < 16
  · simp only [if_pos h]
    split
    · rw [xs_xs, xs_at, pie_idem]
    · split
      · rw [xs_xs, xs_at, forg_idem]
      · rw [xs_xs, xs_at, bound_idem]
  · simp only [if_neg h]
theorem slEq_comm (s t : Sl) : slEq s t = slEq t s := by
  have hi : ∀ a b : Int, (a == b) = (b == a) := fun a b => by rw [Bool.eq_iff_iff]; simp only [beq_iff_eq]; exact eq_comm
  have hb : ∀ a b : Bool, (a == b) = (b == a) := fun a b => by cases a <;> cases b <;> rfl
  have hs : ∀ a b : List UInt8, (a == b) = (b == a) := fun a b => by rw [Bool.eq_iff_iff]; simp only [beq_iff_eq]; exact eq_comm
  have hd : decide (s.fl = t.fl) = decide (t.fl = s.fl) := by rw [decide_eq_decide]; exact eq_comm
  have hp : decide (pmL s.pm = pmL t.pm) = decide (pmL t.pm = pmL s.pm) := by rw [decide_eq_decide]; exact eq_comm
  unfold slEq
  rw [hb s.b, hi s.o, hi s.g, hs s.tag, hi s.len, hi s.tick, hi s.a1, hi s.a2, hd, hi s.t1, hi s.t2, hp]
theorem sameK_comm (x y : Nat → Sl) : ∀ n k, sameK x y n k = sameK y x n k
  | 0, _ => rfl
  | n + 1, k => by simp only [sameK, slEq_comm (x k) (y k), sameK_comm x y n (k + 1)]
theorem small_md (l : List De) (h : l.length ≤ 1000) : smallX (mdF l) := fun k _ => by
  have := invS_fold l InvS.start k
  have e := pmK_pmL (mdF l k).pm
  unfold mdF at e ⊢
  rw [← e]
  exact ⟨by have := this.2.1; omega, fun p hp => by have := this.2.2 p hp; omega⟩
theorem bnd_ex (x : Nat → Sl) (o g : Int) (tag : List UInt8) (len tick a1 a2 : Int) : ∃ X, call ir 9 [.agg (idxD x), .agg [.d (.int .i64 o), .d (.int .i64 g), .d (.str tag), .d (.int .i64 len), .d (.int .i64 tick)], .agg [.d (.int .i64 a1), .d (.int .i64 a2)]] [] = some (.agg (idxD X), []) := by
  by_cases h : 0 ≤ o ∧ o < 16
  · obtain ⟨k, rfl⟩ : ∃ k : Nat, o = k := ⟨o.toNat, by omega⟩
    exact ⟨_, x_bnd x k (by omega) g tag len tick a1 a2⟩
  · exact ⟨_, (p_out x o h g 0 a1 a2 tag len tick).1⟩
theorem for_ex (x : Nat → Sl) (o g a1 a2 : Int) : ∃ X, call ir 11 [.agg (idxD x), .d (.int .i64 o), .d (.int .i64 g), .agg [.d (.int .i64 a1), .d (.int .i64 a2)]] [] = some (.agg (idxD X), []) := by
  by_cases h : 0 ≤ o ∧ o < 16
  · obtain ⟨k, rfl⟩ : ∃ k : Nat, o = k := ⟨o.toNat, by omega⟩
    exact ⟨_, x_for x k (by omega) g a1 a2⟩
  · exact ⟨_, (p_out x o h g 0 a1 a2 [] 0 0).2.1⟩
theorem pie_ex (x : Nat → Sl) (o g i a1 a2 : Int) : ∃ X, call ir 10 [.agg (idxD x), .d (.int .i64 o), .d (.int .i64 g), .d (.int .i64 i), .agg [.d (.int .i64 a1), .d (.int .i64 a2)]] [] = some (.agg (idxD X), []) := by
  by_cases h : 0 ≤ o ∧ o < 16
  · obtain ⟨k, rfl⟩ : ∃ k : Nat, o = k := ⟨o.toNat, by omega⟩
    exact ⟨_, x_pie x k (by omega) g i a1 a2⟩
  · exact ⟨_, (p_out x o h g i a1 a2 [] 0 0).2.2⟩
theorem mdF_snoc (l : List De) (d : De) : mdF (l ++ [d]) = deF (mdF l) d := by simp [mdF, List.foldl_append]
theorem t_isame (l k : List De) (hl : l.length ≤ 4611686018427387903) (hk : k.length ≤ 4611686018427387903) (d : De) : call ir 4 [.d (.list 9 (l.map De.cs)), .agg (d.cs.map .d), .d (.list 9 (k.map De.cs))] [] = some (.d (.bool true), []) := by
  have hlm : (l.map De.cs).length = l.length := List.length_map ..
  have hkm : (k.map De.cs).length = k.length := List.length_map ..
  rw [call_eq (fn := ir4) rfl, evF_bnd]
  by_cases h : (l.length : Int) > 40
  · simp (maxSteps := 2000000) (disch := omega) only [go_sem, doCall, doCallQ, Nat.reduceAdd, Nat.reduceMul, Nat.reduceSub, Nat.reduceDiv, Nat.reduceMod, Nat.reduceLT, Nat.reduceLeDiff, Nat.reduceEqDiff, Nat.reduceBEq, Nat.reduceBNe, Int.reduceToNat, Int.reduceLT, Int.reduceLE, Int.reduceEq, Int.reduceNe, Int.reduceAdd, Int.reduceSub, Int.reduceMul, Int.reduceNeg, bd4, c_awake19, hlm, eq_true h, De.cs]
  · by_cases h2 : (k.length : Int) > 40
    · simp (maxSteps := 2000000) (disch := omega) only [go_sem, doCall, doCallQ, Nat.reduceAdd, Nat.reduceMul, Nat.reduceSub, Nat.reduceDiv, Nat.reduceMod, Nat.reduceLT, Nat.reduceLeDiff, Nat.reduceEqDiff, Nat.reduceBEq, Nat.reduceBNe, Int.reduceToNat, Int.reduceLT, Int.reduceLE, Int.reduceEq, Int.reduceNe, Int.reduceAdd, Int.reduceSub, Int.reduceMul, Int.reduceNeg, bd4, c_awake19, hlm, hkm, eq_false h, eq_true h2, De.cs]
    · have m1 := c_made l (by omega)
      have m2 := c_made k (by omega)
      have m3 := c_made (l ++ [d]) (by simp; omega)
      have m4 := c_made (l ++ [d, d]) (by simp; omega)
      have e4 : mdF (l ++ [d, d]) = mdF (l ++ [d]) := by
        have : l ++ [d, d] = (l ++ [d]) ++ [d] := by simp
        rw [this, mdF_snoc, mdF_snoc, deF_idem]
      rw [e4, List.map_append] at m4
      rw [List.map_append] at m3
      simp only [List.map_cons, List.map_nil] at m3 m4
      have kx := okXM_md l (by omega)
      have kz := okXM_md k (by omega)
      have ko := okXM_md (l ++ [d]) (by simp; omega)
      have sx := small_md l (by omega)
      have sz := small_md k (by omega)
      have so := small_md (l ++ [d]) (by simp; omega)
      have L1 := c_like (mdF l) (mdF l) kx kx
      have L2 := c_like (mdF (l ++ [d])) (mdF (l ++ [d])) ko ko
      have L3 := c_like (mdF l) (mdF k) kx kz
      have L4 := c_like (mdF k) (mdF l) kz kx
      have S1 := c_same (mdF (l ++ [d])) (mdF (l ++ [d])) so so
      have S2 := c_same (mdF l) (mdF k) sx sz
      have S3 := c_same (mdF l) (mdF l) sx sx
      rw [sameK_refl] at L1 L2 S1 S3
      rw [sameK_comm (mdF k) (mdF l)] at L4
      have t0 : List.take l.length (l.map De.cs) = l.map De.cs := List.take_of_length_le (by omega)
      have t5 : List.take k.length (k.map De.cs) = k.map De.cs := List.take_of_length_le (by omega)
      have l1 : (l.map De.cs ++ [d.cs]).length = l.length + 1 := by simp
      have l2 : (l.map De.cs ++ [d.cs, d.cs]).length = l.length + 2 := by simp
      have t1 : List.take (l.length + 1) (l.map De.cs ++ [d.cs]) = l.map De.cs ++ [d.cs] := List.take_of_length_le (by omega)
      have t2 : List.take (l.length + 2) (l.map De.cs ++ [d.cs, d.cs]) = l.map De.cs ++ [d.cs, d.cs] := List.take_of_length_le (by omega)
      obtain ⟨X1, q1⟩ := bnd_ex (mdF l) d.o d.g d.tag d.len d.tick d.a1 d.a2
      obtain ⟨X2, q2⟩ := pie_ex (mdF l) d.o d.g d.i d.a1 d.a2
      obtain ⟨X3, q3⟩ := for_ex (mdF l) d.o d.g d.a1 d.a2
      generalize mdF (l ++ [d]) = Y at *
      simp only [De.cs] at m3 m4 l1 l2 t1 t2
      generalize hV : sameK (mdF l) (mdF k) 16 0 = V at *
      cases V
      · simp (maxSteps := 2000000) (disch := omega) only [go_sem, doCall, doCallQ, Nat.reduceAdd, Nat.reduceMul, Nat.reduceSub, Nat.reduceDiv, Nat.reduceMod, Nat.reduceLT, Nat.reduceLeDiff, Nat.reduceEqDiff, Nat.reduceBEq, Nat.reduceBNe, Int.reduceToNat, Int.reduceLT, Int.reduceLE, Int.reduceEq, Int.reduceNe, Int.reduceAdd, Int.reduceSub, Int.reduceMul, Int.reduceNeg, bd4, c_awake19, hlm, hkm, eq_false h, eq_false h2, m1, m2, m3, m4, L1, L2, L3, L4, S1, S2, S3, q1, q2, q3, t0, t5, l1, l2, t1, t2, Nat.le_refl, List.drop_zero, De.cs, beq_self_eq_true, idxC_len, idxD_len, cs_len, av_len, map_cs, map_idx, idxC_take, idxC_drop, plain_av, plain_idx, box_idx, refs_av, owns_av, view_av, ren_av, refs_idx, owns_idx, view_idx, ren_idx, idxR_len, rs_len, Int.toNat_natCast, Nat.zero_add, chk_of]
      · simp (maxSteps := 2000000) (disch := omega) only [go_sem, doCall, doCallQ, Nat.reduceAdd, Nat.reduceMul, Nat.reduceSub, Nat.reduceDiv, Nat.reduceMod, Nat.reduceLT, Nat.reduceLeDiff, Nat.reduceEqDiff, Nat.reduceBEq, Nat.reduceBNe, Int.reduceToNat, Int.reduceLT, Int.reduceLE, Int.reduceEq, Int.reduceNe, Int.reduceAdd, Int.reduceSub, Int.reduceMul, Int.reduceNeg, bd4, c_awake19, hlm, hkm, eq_false h, eq_false h2, m1, m2, m3, m4, L1, L2, L3, L4, S1, S2, S3, q1, q2, q3, t0, t5, l1, l2, t1, t2, Nat.le_refl, List.drop_zero, De.cs, beq_self_eq_true, idxC_len, idxD_len, cs_len, av_len, map_cs, map_idx, idxC_take, idxC_drop, plain_av, plain_idx, box_idx, refs_av, owns_av, view_av, ren_av, refs_idx, owns_idx, view_idx, ren_idx, idxR_len, rs_len, Int.toNat_natCast, Nat.zero_add, chk_of]
end Go.Proofs.YtoipfdbdifoecaaDoor
