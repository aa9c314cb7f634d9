/- Where slices stand among the records plays no part. Own work. -/
import Derived.Test.YtoipfdbdifoecaaFew
import Derived.Test.YtoipfdbdifoecaaAwk
namespace Go.Proofs.Ytoipfdbdifoecaa
open Go Go.Ev Go.Proofs.Ytoipfdbdifoecaa.Ir
set_option maxRecDepth 100000
set_option maxHeartbeats 4000000
set_option linter.unusedSimpArgs false
set_option linter.unusedVariables false
/-! ### what an index may hold -/
def InvX (n : Nat) (x : Nat → Sl) : Prop := ∀ k, (∀ p ∈ pmL (x k).pm, 0 ≤ p.1 ∧ p.1 ≤ 4096) ∧ (pmL (x k).pm).length ≤ n
theorem putM_len {k : Int} {v : Int × Int} : ∀ l : List (Int × Int × Int), (putM k v l).length ≤ l.length + 1
  | [] => Nat.le_refl _
  | (a, d) :: l => by
    have := putM_len (k := k) (v := v) l
    rw [putM]
    split
    · simp
    · split
      · simp
      · simp only [List.length_cons]; omega
theorem putM_mem {k : Int} {v : Int × Int} : ∀ {l : List (Int × Int × Int)} {p : Int × Int × Int}, p ∈ putM k v l → p = (k, v) ∨ p ∈ l
  | [], p, h => .inl (by simpa [putM] using h)
  | (a, d) :: l, p, h => by
    rw [putM] at h
    split at h
    · rcases List.mem_cons.1 h with h | h
      · exact .inl h
      · exact .inr h
    · split at h
      · rcases List.mem_cons.1 h with h | h
        · exact .inl h
        · exact .inr (.tail _ h)
      · rcases List.mem_cons.1 h with h | h
        · exact .inr (by rw [h]; exact .head _)
        · rcases putM_mem h with h | h
          · exact .inl h
          · exact .inr (.tail _ h)
theorem inv_xs {n : Nat} {x : Nat → Sl} (h : InvX n x) (k : Nat) (s : Sl) (hs : (∀ p ∈ pmL s.pm, 0 ≤ p.1 ∧ p.1 ≤ 4096) ∧ (pmL s.pm).length ≤ n + 1) : InvX (n + 1) (xs x k s) := fun j => by
  unfold xs
  split
  · exact hs
  · exact ⟨(h j).1, by have := (h j).2; omega⟩
theorem inv_one {n : Nat} {x : Nat → Sl} (h : InvX n x) (e : En) : InvX (n + 1) (oneF x e) := by
  have up : InvX (n + 1) x := fun j => ⟨(h j).1, by have := (h j).2; omega⟩
  have hn : ∀ s : Sl, s.pm = none → (∀ p ∈ pmL s.pm, 0 ≤ p.1 ∧ p.1 ≤ 4096) ∧ (pmL s.pm).length ≤ n + 1 := fun s hs => by rw [hs]; exact ⟨fun p hp => by simp [pmL] at hp, by simp [pmL]⟩
  have hk : ∀ (s : Sl) (j : Nat), s.pm = (x j).pm → (∀ p ∈ pmL s.pm, 0 ≤ p.1 ∧ p.1 ≤ 4096) ∧ (pmL s.pm).length ≤ n + 1 := fun s j hs => by rw [hs]; exact up j
  unfold oneF
  split
  · split
    · refine inv_xs h _ _ ?_
      unfold bound
      split
      · exact hk _ _ rfl
      · split
        · exact hn _ rfl
        · split
          · exact hk _ _ rfl
          · exact hk _ _ rfl
    · exact up
  · split
    · split
      · refine inv_xs h _ _ ?_
        unfold pie
        split
        · exact hk _ _ rfl
        · rename_i o g i s hg hc
          simp only [not_or] at hc
          have hj := h o.toNat
          cases hp : (x o.toNat).pm with
          | none => simp only [pmPut, pmL]; exact ⟨fun p hp => by simp at hp; subst hp; simp only; omega, by simp⟩
          | some l =>
            rw [hp] at hj
            simp only [pmL] at hj
            simp only [pmPut, pmL]
            refine ⟨fun p hp => ?_, by have := putM_len (k := i) (v := (e.a1, e.a2)) l; omega⟩
            rcases putM_mem hp with rfl | hp
            · simp only; omega
            · exact hj.1 p hp
      · exact up
    · split
      · split
        · refine inv_xs h _ _ ?_
          unfold forg forg2
          split
          · exact hn _ rfl
          · unfold forg1
            split
            · exact hk _ _ rfl
            · exact hk _ _ rfl
        · exact up
      · exact up
theorem inv_fold : ∀ (l : List En) {n : Nat} {x : Nat → Sl}, InvX n x → InvX (n + l.length) (l.foldl oneF x)
  | [], n, x, h => h
  | e :: l, n, x, h => by
    have := inv_fold l (inv_one h e)
    rw [List.foldl_cons, List.length_cons, show n + (l.length + 1) = n + 1 + l.length from by omega]
    exact this
theorem InvX.mono {n m : Nat} {x : Nat → Sl} (h : InvX n x) (hm : n ≤ m) : InvX m x := fun k => ⟨(h k).1, Nat.le_trans (h k).2 hm⟩
theorem allF_inv (l : List En) : InvX (l.length + l.length) (allF l) := by
  have h0 : InvX 0 X0 := fun k => ⟨fun p hp => by simp [X0, S0, pmL] at hp, by simp [X0, S0, pmL]⟩
  unfold allF
  rw [passF_eq, passF_eq]
  have h1 := inv_fold (l.filter fun e => decide (e.kind = 3) == false) h0
  have h2 := inv_fold (l.filter fun e => decide (e.kind = 3) == true) h1
  refine h2.mono ?_
  have a1 := List.length_filter_le (fun e : En => decide (e.kind = 3) == false) l
  have a2 := List.length_filter_le (fun e : En => decide (e.kind = 3) == true) l
  omega
theorem allF_small (l : List En) (hl : l.length ≤ 1000) : smallX (allF l) := fun k _ => by
  have := allF_inv l k
  exact ⟨by omega, fun p hp => by have := this.1 p hp; omega⟩

/-! ### the law -/
def slOf (l : List En) : List (List D) := (slicesOf l).map En.cs
def otOf (l : List En) : List (List D) := (othersOf l).map En.cs
theorem sl_yes {e : En} (r : List En) (h : e.kind = 3) : slicesOf (e :: r) = e :: slicesOf r ∧ othersOf (e :: r) = othersOf r := ⟨List.filter_cons_of_pos (by simp [h]), List.filter_cons_of_neg (by simp [h])⟩
theorem sl_no {e : En} (r : List En) (h : ¬ e.kind = 3) : slicesOf (e :: r) = slicesOf r ∧ othersOf (e :: r) = e :: othersOf r := ⟨List.filter_cons_of_neg (by simp [h]), List.filter_cons_of_pos (by simp [h])⟩
theorem lp_ord (l : List En) (hl : l.length ≤ 40) (fst : Bool) (K : Ex → St → Option (AV × Heap)) (i : Nat) (hi : i ≤ l.length) (A B : List En) (hA : A.length ≤ i) (hB : B.length ≤ i) :
    bnd (evC (call ir) (loop ir) lp3_0 (st3_0 0 (.d (.list 6 (l.map En.cs))) (.d (.bool fst)) (.own 0 6 0 A.length false) (.own 1 6 0 B.length false) (.d (.list 6 (l.map En.cs))) (.d (.int .i64 l.length)) (.d (.int .i64 i)) [.arr 6 (A.map En.cs), .arr 6 (B.map En.cs)]))
      (lpC (call ir) (loop ir) [0, 1, 5, 6, 15, 16, 17] lp3_0 K) =
    K (.exit 0) (clean [0, 1, 5, 6] (st3_0 0 (.d (.list 6 (l.map En.cs))) (.d (.bool fst)) (.own 0 6 0 (A ++ slicesOf (l.drop i)).length false) (.own 1 6 0 (B ++ othersOf (l.drop i)).length false) .unk .unk .unk [.arr 6 ((A ++ slicesOf (l.drop i)).map En.cs), .arr 6 ((B ++ othersOf (l.drop i)).map En.cs)])) := by
  have hlm : (l.map En.cs).length = l.length := List.length_map ..
  have hAm : (A.map En.cs).length = A.length := List.length_map ..
  have hBm : (B.map En.cs).length = B.length := List.length_map ..
  by_cases h : i = l.length
  · have hx : ¬ (i : Int) < l.length := by omega
    subst h
    simp (disch := omega) only [go_sem, doCall, doCallQ, Nat.reduceAdd, Nat.reduceMul, Nat.reduceSub, Nat.reduceDiv, Nat.reduceMod, Nat.reduceLT, Nat.reduceLeDiff, Nat.reduceEqDiff, Nat.reduceBEq, Nat.reduceBNe, Int.reduceToNat, Int.reduceLT, Int.reduceLE, Int.reduceEq, Int.reduceNe, Int.reduceAdd, Int.reduceSub, Int.reduceMul, Int.reduceNeg, u3_0, lb3_0, hx, List.drop_length, slicesOf, othersOf, List.filter_nil]
  · have hlt : (i : Int) < l.length := by omega
    have hi' : i < l.length := by omega
    have hw := wr_succ (i := i) (by omega)
    have hr := En.rows l hi'
    have hdl : l.drop i = l[i] :: l.drop (i + 1) := List.drop_eq_getElem_cons hi'
    rw [hdl]
    by_cases hk : l[i].kind = 3
    · obtain ⟨e1, e2⟩ := sl_yes (l.drop (i + 1)) hk
      have ih := lp_ord l hl fst K (i + 1) (by omega) (A ++ [l[i]]) B (by simp; omega) (by omega)
      rw [e1, e2]
      simp only [List.append_assoc, List.singleton_append] at ih
      simp (disch := omega) only [go_sem, doCall, doCallQ, Nat.reduceAdd, Nat.reduceMul, Nat.reduceSub, Nat.reduceDiv, Nat.reduceMod, Nat.reduceLT, Nat.reduceLeDiff, Nat.reduceEqDiff, Nat.reduceBEq, Nat.reduceBNe, Int.reduceToNat, Int.reduceLT, Int.reduceLE, Int.reduceEq, Int.reduceNe, Int.reduceAdd, Int.reduceSub, Int.reduceMul, Int.reduceNeg, u3_0, lb3_0, hlt, hr, eq_true hk, hlm, hAm, hBm, List.take_length, Int.toNat_natCast, Nat.zero_add, List.drop_zero, chk_of]
      rw [loop_step1]
      simp only [go_sem, doCall, doCallQ, Nat.reduceAdd, Nat.reduceMul, Nat.reduceSub, Nat.reduceDiv, Nat.reduceMod, Nat.reduceLT, Nat.reduceLeDiff, Nat.reduceEqDiff, Nat.reduceBEq, Nat.reduceBNe, Int.reduceToNat, Int.reduceLT, Int.reduceLE, Int.reduceEq, Int.reduceNe, Int.reduceAdd, Int.reduceSub, Int.reduceMul, Int.reduceNeg, hw]
      simp only [List.map_append, List.map_cons, List.map_nil, List.length_append, List.length_cons, List.length_nil] at ih ⊢
      simp only [go_sem, doCall, doCallQ, Nat.reduceAdd, Nat.reduceMul, Nat.reduceSub, Nat.reduceDiv, Nat.reduceMod, Nat.reduceLT, Nat.reduceLeDiff, Nat.reduceEqDiff, Nat.reduceBEq, Nat.reduceBNe, Int.reduceToNat, Int.reduceLT, Int.reduceLE, Int.reduceEq, Int.reduceNe, Int.reduceAdd, Int.reduceSub, Int.reduceMul, Int.reduceNeg, En.cs] at ih
      simp only [go_sem, doCall, doCallQ, Nat.reduceAdd, Nat.reduceMul, Nat.reduceSub, Nat.reduceDiv, Nat.reduceMod, Nat.reduceLT, Nat.reduceLeDiff, Nat.reduceEqDiff, Nat.reduceBEq, Nat.reduceBNe, Int.reduceToNat, Int.reduceLT, Int.reduceLE, Int.reduceEq, Int.reduceNe, Int.reduceAdd, Int.reduceSub, Int.reduceMul, Int.reduceNeg, En.cs]
      exact ih
    · obtain ⟨e1, e2⟩ := sl_no (l.drop (i + 1)) hk
      have ih := lp_ord l hl fst K (i + 1) (by omega) A (B ++ [l[i]]) (by omega) (by simp; omega)
      rw [e1, e2]
      simp only [List.append_assoc, List.singleton_append] at ih
      simp (disch := omega) only [go_sem, doCall, doCallQ, Nat.reduceAdd, Nat.reduceMul, Nat.reduceSub, Nat.reduceDiv, Nat.reduceMod, Nat.reduceLT, Nat.reduceLeDiff, Nat.reduceEqDiff, Nat.reduceBEq, Nat.reduceBNe, Int.reduceToNat, Int.reduceLT, Int.reduceLE, Int.reduceEq, Int.reduceNe, Int.reduceAdd, Int.reduceSub, Int.reduceMul, Int.reduceNeg, u3_0, lb3_0, hlt, hr, eq_false hk, hlm, hAm, hBm, List.take_length, Int.toNat_natCast, Nat.zero_add, List.drop_zero, chk_of]
      rw [loop_step1]
      simp only [go_sem, doCall, doCallQ, Nat.reduceAdd, Nat.reduceMul, Nat.reduceSub, Nat.reduceDiv, Nat.reduceMod, Nat.reduceLT, Nat.reduceLeDiff, Nat.reduceEqDiff, Nat.reduceBEq, Nat.reduceBNe, Int.reduceToNat, Int.reduceLT, Int.reduceLE, Int.reduceEq, Int.reduceNe, Int.reduceAdd, Int.reduceSub, Int.reduceMul, Int.reduceNeg, hw]
      simp only [List.map_append, List.map_cons, List.map_nil, List.length_append, List.length_cons, List.length_nil] at ih ⊢
      simp only [go_sem, doCall, doCallQ, Nat.reduceAdd, Nat.reduceMul, Nat.reduceSub, Nat.reduceDiv, Nat.reduceMod, Nat.reduceLT, Nat.reduceLeDiff, Nat.reduceEqDiff, Nat.reduceBEq, Nat.reduceBNe, Int.reduceToNat, Int.reduceLT, Int.reduceLE, Int.reduceEq, Int.reduceNe, Int.reduceAdd, Int.reduceSub, Int.reduceMul, Int.reduceNeg, En.cs] at ih
      simp only [go_sem, doCall, doCallQ, Nat.reduceAdd, Nat.reduceMul, Nat.reduceSub, Nat.reduceDiv, Nat.reduceMod, Nat.reduceLT, Nat.reduceLeDiff, Nat.reduceEqDiff, Nat.reduceBEq, Nat.reduceBNe, Int.reduceToNat, Int.reduceLT, Int.reduceLE, Int.reduceEq, Int.reduceNe, Int.reduceAdd, Int.reduceSub, Int.reduceMul, Int.reduceNeg, En.cs]
      exact ih
termination_by l.length - i
theorem few_sub {l m : List En} (h : Few l) (hm : ∀ e ∈ m, e ∈ l) (hl : m.length ≤ 1000) : m.length ≤ 1000 ∧ ∀ e ∈ m, e.d.length ≤ 1000 := ⟨hl, fun e he => by have := h.2 e (hm e he); omega⟩
theorem parts_len (l : List En) : (slicesOf l).length + (othersOf l).length = l.length := by
  induction l with
  | nil => rfl
  | cons e l ih =>
    by_cases h : e.kind = 3
    · rw [(sl_yes l h).1, (sl_yes l h).2]; simp; omega
    · rw [(sl_no l h).1, (sl_no l h).2]; simp; omega
theorem t_order (l : List En) (hl : l.length ≤ 4611686018427387903) (fst : Bool) : call ir 3 [.d (.list 6 (l.map En.cs)), .d (.bool fst)] [] = some (.d (.bool true), []) := by
  have hlm : (l.map En.cs).length = l.length := List.length_map ..
  obtain ⟨b, hb, hB⟩ := t_few l hl
  rw [call_eq (fn := ir3) rfl, evF_bnd]
  cases b
  · simp (disch := omega) only [go_sem, doCall, doCallQ, Nat.reduceAdd, Nat.reduceMul, Nat.reduceSub, Nat.reduceDiv, Nat.reduceMod, Nat.reduceLT, Nat.reduceLeDiff, Nat.reduceEqDiff, Nat.reduceBEq, Nat.reduceBNe, Int.reduceToNat, Int.reduceLT, Int.reduceLE, Int.reduceEq, Int.reduceNe, Int.reduceAdd, Int.reduceSub, Int.reduceMul, Int.reduceNeg, bd3, c_awake20, hb]
  · obtain ⟨hf, _⟩ := hB rfl
    have hp := parts_len l
    have hfl := hf.1
    have n40 : l.length ≤ 40 := hf.1
    have ms : ∀ e ∈ slicesOf l, e ∈ l := fun e he => (List.mem_filter.1 he).1
    have mo : ∀ e ∈ othersOf l, e ∈ l := fun e he => (List.mem_filter.1 he).1
    have q0 := few_sub hf (m := l) (fun e h => h) (by omega)
    have q1 := few_sub hf (m := othersOf l ++ slicesOf l) (fun e he => (List.mem_append.1 he).elim (mo e) (ms e)) (by simp; omega)
    have q2 := few_sub hf (m := slicesOf l ++ othersOf l) (fun e he => (List.mem_append.1 he).elim (ms e) (mo e)) (by simp; omega)
    have a0 := c_all l q0.1 q0.2
    have a1 := c_all _ q1.1 q1.2
    have a2 := c_all _ q2.1 q2.2
    rw [(allF_turn l).1] at a1
    rw [(allF_turn l).2] at a2
    simp only [List.map_append] at a1 a2
    have sm := c_same (allF l) (allF l) (allF_small l q0.1) (allF_small l q0.1)
    rw [sameK_refl] at sm
    have hAm : ((slicesOf l).map En.cs).length = (slicesOf l).length := List.length_map ..
    have hBm : ((othersOf l).map En.cs).length = (othersOf l).length := List.length_map ..
    have hA2 : List.take (slicesOf l).length ((slicesOf l).map En.cs) = (slicesOf l).map En.cs := by rw [← hAm, List.take_length]
    have hB2 : List.take (othersOf l).length ((othersOf l).map En.cs) = (othersOf l).map En.cs := by rw [← hBm, List.take_length]
    have c1 := eq_true (show (othersOf l).length * 64 ≤ 70368744177664 by omega)
    have c2 := eq_true (show (slicesOf l).length * 64 ≤ 70368744177664 by omega)
    have c3 := eq_true (show ((othersOf l).length + (slicesOf l).length) * 64 ≤ 70368744177664 by omega)
    have c4 := eq_true (show ((slicesOf l).length + (othersOf l).length) * 64 ≤ 70368744177664 by omega)
    have o1 : (othersOf l).map En.cs ++ (slicesOf l).map En.cs = (othersOf l ++ slicesOf l).map En.cs := by rw [List.map_append]
    have t1 : List.take ((othersOf l).length + (slicesOf l).length) ((othersOf l).map En.cs ++ (slicesOf l).map En.cs) = (othersOf l).map En.cs ++ (slicesOf l).map En.cs := List.take_of_length_le (by simp)
    have t2 : List.take ((slicesOf l).length + (othersOf l).length) ((slicesOf l).map En.cs ++ (othersOf l).map En.cs) = (slicesOf l).map En.cs ++ (othersOf l).map En.cs := List.take_of_length_le (by simp)
    have n1 : ((othersOf l).map En.cs ++ (slicesOf l).map En.cs).length = (othersOf l).length + (slicesOf l).length := by simp
    have n2 : ((slicesOf l).map En.cs ++ (othersOf l).map En.cs).length = (slicesOf l).length + (othersOf l).length := by simp
    simp (disch := omega) only [go_sem, doCall, doCallQ, Nat.reduceAdd, Nat.reduceMul, Nat.reduceSub, Nat.reduceDiv, Nat.reduceMod, Nat.reduceLT, Nat.reduceLeDiff, Nat.reduceEqDiff, Nat.reduceBEq, Nat.reduceBNe, Int.reduceToNat, Int.reduceLT, Int.reduceLE, Int.reduceEq, Int.reduceNe, Int.reduceAdd, Int.reduceSub, Int.reduceMul, Int.reduceNeg, bd3, c_awake20, hb, hlm]
    rw [loop_step1]
    simp only [go_sem, doCall, doCallQ, Nat.reduceAdd, Nat.reduceMul, Nat.reduceSub, Nat.reduceDiv, Nat.reduceMod, Nat.reduceLT, Nat.reduceLeDiff, Nat.reduceEqDiff, Nat.reduceBEq, Nat.reduceBNe, Int.reduceToNat, Int.reduceLT, Int.reduceLE, Int.reduceEq, Int.reduceNe, Int.reduceAdd, Int.reduceSub, Int.reduceMul, Int.reduceNeg]
    refine (lp_ord l n40 fst _ 0 (Nat.zero_le _) [] [] (Nat.zero_le _) (Nat.zero_le _)).trans ?_
    simp only [List.drop_zero, List.nil_append]
    cases hsc : AV.scalarL (idxD (allF l))
    all_goals cases fst
    · simp (disch := omega) only [go_sem, doCall, doCallQ, Nat.reduceAdd, Nat.reduceMul, Nat.reduceSub, Nat.reduceDiv, Nat.reduceMod, Nat.reduceLT, Nat.reduceLeDiff, Nat.reduceEqDiff, Nat.reduceBEq, Nat.reduceBNe, Int.reduceToNat, Int.reduceLT, Int.reduceLE, Int.reduceEq, Int.reduceNe, Int.reduceAdd, Int.reduceSub, Int.reduceMul, Int.reduceNeg, false_and, hAm, hBm, hA2, hB2, c1, c2, c3, c4, t1, t2, n1, n2, Nat.le_refl, List.take_length, List.drop_zero, Nat.zero_add, a0, sm, hsc, refs_idx, owns_idx, view_idx, ren_idx, chk_of, a1]
    · simp (disch := omega) only [go_sem, doCall, doCallQ, Nat.reduceAdd, Nat.reduceMul, Nat.reduceSub, Nat.reduceDiv, Nat.reduceMod, Nat.reduceLT, Nat.reduceLeDiff, Nat.reduceEqDiff, Nat.reduceBEq, Nat.reduceBNe, Int.reduceToNat, Int.reduceLT, Int.reduceLE, Int.reduceEq, Int.reduceNe, Int.reduceAdd, Int.reduceSub, Int.reduceMul, Int.reduceNeg, false_and, hAm, hBm, hA2, hB2, c1, c2, c3, c4, t1, t2, n1, n2, Nat.le_refl, List.take_length, List.drop_zero, Nat.zero_add, a0, sm, hsc, refs_idx, owns_idx, view_idx, ren_idx, chk_of, a2]
    · simp (disch := omega) only [go_sem, doCall, doCallQ, Nat.reduceAdd, Nat.reduceMul, Nat.reduceSub, Nat.reduceDiv, Nat.reduceMod, Nat.reduceLT, Nat.reduceLeDiff, Nat.reduceEqDiff, Nat.reduceBEq, Nat.reduceBNe, Int.reduceToNat, Int.reduceLT, Int.reduceLE, Int.reduceEq, Int.reduceNe, Int.reduceAdd, Int.reduceSub, Int.reduceMul, Int.reduceNeg, false_and, hAm, hBm, hA2, hB2, c1, c2, c3, c4, t1, t2, n1, n2, Nat.le_refl, List.take_length, List.drop_zero, Nat.zero_add, a0, sm, hsc, refs_idx, owns_idx, view_idx, ren_idx, chk_of, a1]
    · simp (disch := omega) only [go_sem, doCall, doCallQ, Nat.reduceAdd, Nat.reduceMul, Nat.reduceSub, Nat.reduceDiv, Nat.reduceMod, Nat.reduceLT, Nat.reduceLeDiff, Nat.reduceEqDiff, Nat.reduceBEq, Nat.reduceBNe, Int.reduceToNat, Int.reduceLT, Int.reduceLE, Int.reduceEq, Int.reduceNe, Int.reduceAdd, Int.reduceSub, Int.reduceMul, Int.reduceNeg, false_and, hAm, hBm, hA2, hB2, c1, c2, c3, c4, t1, t2, n1, n2, Nat.le_refl, List.take_length, List.drop_zero, Nat.zero_add, a0, sm, hsc, refs_idx, owns_idx, view_idx, ren_idx, chk_of, a2]
end Go.Proofs.Ytoipfdbdifoecaa
