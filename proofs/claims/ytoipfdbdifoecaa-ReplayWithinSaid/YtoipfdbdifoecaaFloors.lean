/- No generation up to the floor is ever bound again. Own work. -/
import Derived.Test.YtoipfdbdifoecaaMad
namespace Go.Proofs.Ytoipfdbdifoecaa
open Go Go.Ev Go.Proofs.Ytoipfdbdifoecaa.Ir
set_option maxRecDepth 100000
set_option maxHeartbeats 4000000
set_option linter.unusedSimpArgs false
set_option linter.unusedVariables false
theorem c_awake19 : call ir 12 [] [] = some (.d (.bool true), []) := call_of (n := 200) (by kernel_rfl)
/-! ### the plain law -/
def InvF (x : Nat → Sl) : Prop := ∀ k, ((x k).b = true → (x k).fl < (x k).g) ∧ 0 ≤ (x k).fl
theorem InvF.start : InvF X0 := fun k => ⟨fun h => by simp [X0, S0] at h, by simp [X0, S0]⟩
theorem stepF_fl (x : Nat → Sl) (h : InvF x) (d : De) : InvF (deF x d) ∧ ∀ k, (x k).fl ≤ (deF x d k).fl ∧ ((deF x d k).b = true → ((x k).b = false ∨ (x k).g ≠ (deF x d k).g) → (deF x d k).pm = none) := by
  have key : ∀ (o : Nat) (s : Sl), ((s.b = true → s.fl < s.g) ∧ 0 ≤ s.fl) → (x o).fl ≤ s.fl → (s.b = true → ((x o).b = false ∨ (x o).g ≠ s.g) → s.pm = none) →
      InvF (xs x o s) ∧ ∀ k, (x k).fl ≤ (xs x o s k).fl ∧ ((xs x o s k).b = true → ((x k).b = false ∨ (x k).g ≠ (xs x o s k).g) → (xs x o s k).pm = none) := fun o s h1 h2 h3 => by
    refine ⟨fun k => ?_, fun k => ?_⟩
    · unfold xs; split
      · exact h1
      · exact h k
    · unfold xs; split
      · rename_i e; subst e; exact ⟨h2, h3⟩
      · exact ⟨Int.le_refl _, fun hb hh => by rcases hh with hh | hh; rw [hb] at hh; cases hh; exact absurd rfl hh⟩
  have same : ∀ o : Nat, InvF (xs x o (x o)) ∧ ∀ k, (x k).fl ≤ (xs x o (x o) k).fl ∧ ((xs x o (x o) k).b = true → ((x k).b = false ∨ (x k).g ≠ (xs x o (x o) k).g) → (xs x o (x o) k).pm = none) := fun o =>
    key o (x o) (h o) (Int.le_refl _) (fun hb hh => by rcases hh with hh | hh; rw [hb] at hh; cases hh; exact absurd rfl hh)
  unfold deF
  split
  case isFalse =>
    have := same 0
    rw [xs_id] at this
    exact this
  have ho := h d.o.toNat
  split
  · unfold pie
    split
    · exact same _
    · exact key _ _ ho (Int.le_refl _) (fun hb hh => by
        simp only at hb hh
        rcases hh with hh | hh
        · rw [hb] at hh; cases hh
        · exact absurd rfl hh)
  · split
    · by_cases c1 : d.g ≥ (x d.o.toNat).fl ∧ d.g > 0
      · have e1 : forg1 (x d.o.toNat) d.g d.a1 d.a2 = { x d.o.toNat with fl := d.g, t1 := d.a1, t2 := d.a2 } := if_pos c1
        unfold forg
        rw [e1]
        unfold forg2
        split
        · exact key _ _ ⟨fun hb => by simp at hb, by simp only; omega⟩ (by simp only; omega) (fun hb => by simp at hb)
        · rename_i c2
          refine key _ _ ⟨fun hb => ?_, by simp only; omega⟩ (by simp only; omega) (fun hb hh => ?_)
          · simp only at hb c2 ⊢
            have : ¬ (x d.o.toNat).g ≤ d.g := fun h2 => c2 ⟨hb, h2⟩
            omega
          · simp only at hb hh
            rcases hh with hh | hh
            · rw [hb] at hh; cases hh
            · exact absurd rfl hh
      · have e1 : forg1 (x d.o.toNat) d.g d.a1 d.a2 = x d.o.toNat := if_neg c1
        unfold forg
        rw [e1]
        unfold forg2
        split
        · exact key _ _ ⟨fun hb => by simp at hb, ho.2⟩ (Int.le_refl _) (fun hb => by simp at hb)
        · exact same _
    · unfold bound
      split
      · exact same _
      · rename_i c1
        split
        · exact key _ _ ⟨fun _ => by simp only; omega, ho.2⟩ (Int.le_refl _) (fun _ _ => rfl)
        · split
          · exact key _ _ ho (Int.le_refl _) (fun hb hh => by
              simp only at hb hh
              rcases hh with hh | hh
              · rw [hb] at hh; cases hh
              · exact absurd rfl hh)
          · exact same _
theorem mdF_inv (l : List De) : InvF (mdF l) := by
  have : ∀ (l : List De) (x : Nat → Sl), InvF x → InvF (l.foldl deF x) := by
    intro l
    induction l with
    | nil => intro x h; exact h
    | cons d l ih => intro x h; exact ih _ (stepF_fl x h d).1
  exact this l X0 InvF.start
theorem mdF_snoc (l : List De) (d : De) : mdF (l ++ [d]) = deF (mdF l) d := by simp [mdF, List.foldl_append]

/-! ### no slices -/
theorem c_sorted0 : call ir 42 [.clo (.func 62) [] [.ptr 0 0]] [.dbox [.nilm]] = some (.d (.list 1 []), [.dbox [.nilm]]) := by
  rw [call_nat (by rfl)]; rfl
def zer65 : List D := List.replicate 65 (.int .u64 0)
theorem c_of0 : call ir 41 [.d (.list 1 [])] [] = some (.agg (zer65.map .d), []) := call_of (n := 50) (by kernel_rfl)
theorem c_len0 : call ir 17 [.agg (zer65.map .d)] [] = some (.d (.int .i64 0), []) := call_of (n := 200) (by kernel_rfl)
theorem zer_len : zer65.length = 65 := rfl
theorem slF_in (x : Nat → Sl) {k : Nat} (hk : k < 16) : slF x k = x k := by
  have h : (0 : Int) ≤ k ∧ (k : Int) < 16 := by omega
  simp only [slF, h, and_self, if_true, Int.toNat_natCast]
theorem c_slices0 (x : Nat → Sl) (k : Nat) (hk : k < 16) (hp : (x k).pm = none) : call ir 16 [.agg (idxD x), .d (.int .i64 k)] [] = some (.agg (zer65.map .d), []) := by
  have hs := c_slot x k
  rw [slF_in x hk] at hs
  have hc0 := c_sorted0
  have ck : call ir 43 [.d .nilm] [] = some (.clo (.func 62) [] [.ptr 0 0], [.dbox [.nilm]]) := call_of (n := 20) (by kernel_rfl)
  rw [call_eq (fn := ir16) rfl, evF_bnd]
  simp (disch := omega) only [go_sem, doCall, doCallQ, Nat.reduceAdd, Nat.reduceMul, Nat.reduceSub, Nat.reduceDiv, Nat.reduceMod, Nat.reduceLT, Nat.reduceLeDiff, Nat.reduceEqDiff, Nat.reduceBEq, Nat.reduceBNe, Int.reduceToNat, Int.reduceLT, Int.reduceLE, Int.reduceEq, Int.reduceNe, Int.reduceAdd, Int.reduceSub, Int.reduceMul, Int.reduceNeg, bd16, hs, Sl.av, hp, pmD, ck, hc0, c_of0, zer_len, idxC_len, idxD_len, cs_len, av_len, map_cs, map_idx, idxC_take, idxC_drop, plain_av, plain_idx, box_idx, refs_av, owns_av, view_av, ren_av, refs_idx, owns_idx, view_idx, ren_idx, Int.toNat_natCast, Nat.zero_add, chk_of]
  rfl
theorem lp_fl (x y : Nat → Sl) (hf : ∀ k, k < 16 → (x k).fl ≤ (y k).fl) (hy : ∀ k, k < 16 → (y k).b = true → (y k).fl < (y k).g) (hp : ∀ k, k < 16 → (y k).b = true → ((x k).b = false ∨ (x k).g ≠ (y k).g) → (y k).pm = none) (K : Ex → St → Option (AV × Heap)) : ∀ (n k : Nat), n + k = 16 →
    bnd (evC (call ir) (loop ir) lp5_0 (st5_0 0 (.ptr 0 0) (.ptr 1 0) (.d (.int .i64 k)) [.dbox (idxC x), .dbox (idxC y)])) (lpC (call ir) (loop ir) [5, 7, 9] lp5_0 K) =
    K (.exit 0) (clean [] (st5_0 0 .unk .unk .unk []))
  | 0, k, h => by
    obtain rfl : k = 16 := by omega
    simp (disch := omega) only [go_sem, doCall, doCallQ, Nat.reduceAdd, Nat.reduceMul, Nat.reduceSub, Nat.reduceDiv, Nat.reduceMod, Nat.reduceLT, Nat.reduceLeDiff, Nat.reduceEqDiff, Nat.reduceBEq, Nat.reduceBNe, Int.reduceToNat, Int.reduceLT, Int.reduceLE, Int.reduceEq, Int.reduceNe, Int.reduceAdd, Int.reduceSub, Int.reduceMul, Int.reduceNeg, u5_0, lb5_0]
  | n + 1, k, h => by
    have hk : k < 16 := by omega
    have h1 := eq_true (show (k : Int) < 16 by omega)
    have hw := wr_succ (i := k) (by omega)
    have sx := slF_in x hk
    have sy := slF_in y hk
    have c1 := eq_false (show ¬ (y k).fl < (x k).fl by have := hf k hk; omega)
    have ih := lp_fl x y hf hy hp K n (k + 1) (by omega)
    cases hb : (y k).b
    · simp (disch := omega) only [go_sem, doCall, doCallQ, Nat.reduceAdd, Nat.reduceMul, Nat.reduceSub, Nat.reduceDiv, Nat.reduceMod, Nat.reduceLT, Nat.reduceLeDiff, Nat.reduceEqDiff, Nat.reduceBEq, Nat.reduceBNe, Int.reduceToNat, Int.reduceLT, Int.reduceLE, Int.reduceEq, Int.reduceNe, Int.reduceAdd, Int.reduceSub, Int.reduceMul, Int.reduceNeg, u5_0, lb5_0, h1, c_iget, c_floor, sx, sy, c1, hb, idxC_len, idxD_len, cs_len, av_len, map_cs, map_idx, idxC_take, idxC_drop, plain_av, plain_idx, box_idx, refs_av, owns_av, view_av, ren_av, refs_idx, owns_idx, view_idx, ren_idx, Int.toNat_natCast, Nat.zero_add, chk_of]
      rw [loop_step1]
      simp only [go_sem, doCall, doCallQ, Nat.reduceAdd, Nat.reduceMul, Nat.reduceSub, Nat.reduceDiv, Nat.reduceMod, Nat.reduceLT, Nat.reduceLeDiff, Nat.reduceEqDiff, Nat.reduceBEq, Nat.reduceBNe, Int.reduceToNat, Int.reduceLT, Int.reduceLE, Int.reduceEq, Int.reduceNe, Int.reduceAdd, Int.reduceSub, Int.reduceMul, Int.reduceNeg, hw]
      simp only [go_sem, doCall, doCallQ, Nat.reduceAdd, Nat.reduceMul, Nat.reduceSub, Nat.reduceDiv, Nat.reduceMod, Nat.reduceLT, Nat.reduceLeDiff, Nat.reduceEqDiff, Nat.reduceBEq, Nat.reduceBNe, Int.reduceToNat, Int.reduceLT, Int.reduceLE, Int.reduceEq, Int.reduceNe, Int.reduceAdd, Int.reduceSub, Int.reduceMul, Int.reduceNeg] at ih
      exact ih
    · have c2 := eq_false (show ¬ (y k).g ≤ (y k).fl by have := hy k hk hb; omega)
      cases ha : (x k).b
      · have cs := c_slices0 y k hk (hp k hk hb (.inl ha))
        simp (disch := omega) only [go_sem, doCall, doCallQ, Nat.reduceAdd, Nat.reduceMul, Nat.reduceSub, Nat.reduceDiv, Nat.reduceMod, Nat.reduceLT, Nat.reduceLeDiff, Nat.reduceEqDiff, Nat.reduceBEq, Nat.reduceBNe, Int.reduceToNat, Int.reduceLT, Int.reduceLE, Int.reduceEq, Int.reduceNe, Int.reduceAdd, Int.reduceSub, Int.reduceMul, Int.reduceNeg, u5_0, lb5_0, h1, c_iget, c_floor, sx, sy, c1, hb, c2, ha, cs, c_len0, idxC_len, idxD_len, cs_len, av_len, map_cs, map_idx, idxC_take, idxC_drop, plain_av, plain_idx, box_idx, refs_av, owns_av, view_av, ren_av, refs_idx, owns_idx, view_idx, ren_idx, Int.toNat_natCast, Nat.zero_add, chk_of]
        rw [loop_step1]
        simp only [go_sem, doCall, doCallQ, Nat.reduceAdd, Nat.reduceMul, Nat.reduceSub, Nat.reduceDiv, Nat.reduceMod, Nat.reduceLT, Nat.reduceLeDiff, Nat.reduceEqDiff, Nat.reduceBEq, Nat.reduceBNe, Int.reduceToNat, Int.reduceLT, Int.reduceLE, Int.reduceEq, Int.reduceNe, Int.reduceAdd, Int.reduceSub, Int.reduceMul, Int.reduceNeg, hw]
        simp only [go_sem, doCall, doCallQ, Nat.reduceAdd, Nat.reduceMul, Nat.reduceSub, Nat.reduceDiv, Nat.reduceMod, Nat.reduceLT, Nat.reduceLeDiff, Nat.reduceEqDiff, Nat.reduceBEq, Nat.reduceBNe, Int.reduceToNat, Int.reduceLT, Int.reduceLE, Int.reduceEq, Int.reduceNe, Int.reduceAdd, Int.reduceSub, Int.reduceMul, Int.reduceNeg] at ih
        exact ih
      · by_cases hg : (x k).g = (y k).g
        · simp (disch := omega) only [go_sem, doCall, doCallQ, Nat.reduceAdd, Nat.reduceMul, Nat.reduceSub, Nat.reduceDiv, Nat.reduceMod, Nat.reduceLT, Nat.reduceLeDiff, Nat.reduceEqDiff, Nat.reduceBEq, Nat.reduceBNe, Int.reduceToNat, Int.reduceLT, Int.reduceLE, Int.reduceEq, Int.reduceNe, Int.reduceAdd, Int.reduceSub, Int.reduceMul, Int.reduceNeg, u5_0, lb5_0, h1, c_iget, c_floor, sx, sy, c1, hb, c2, ha, eq_true hg, idxC_len, idxD_len, cs_len, av_len, map_cs, map_idx, idxC_take, idxC_drop, plain_av, plain_idx, box_idx, refs_av, owns_av, view_av, ren_av, refs_idx, owns_idx, view_idx, ren_idx, Int.toNat_natCast, Nat.zero_add, chk_of]
          rw [loop_step1]
          simp only [go_sem, doCall, doCallQ, Nat.reduceAdd, Nat.reduceMul, Nat.reduceSub, Nat.reduceDiv, Nat.reduceMod, Nat.reduceLT, Nat.reduceLeDiff, Nat.reduceEqDiff, Nat.reduceBEq, Nat.reduceBNe, Int.reduceToNat, Int.reduceLT, Int.reduceLE, Int.reduceEq, Int.reduceNe, Int.reduceAdd, Int.reduceSub, Int.reduceMul, Int.reduceNeg, hw]
          simp only [go_sem, doCall, doCallQ, Nat.reduceAdd, Nat.reduceMul, Nat.reduceSub, Nat.reduceDiv, Nat.reduceMod, Nat.reduceLT, Nat.reduceLeDiff, Nat.reduceEqDiff, Nat.reduceBEq, Nat.reduceBNe, Int.reduceToNat, Int.reduceLT, Int.reduceLE, Int.reduceEq, Int.reduceNe, Int.reduceAdd, Int.reduceSub, Int.reduceMul, Int.reduceNeg] at ih
          exact ih
        · have cs := c_slices0 y k hk (hp k hk hb (.inr hg))
          simp (disch := omega) only [go_sem, doCall, doCallQ, Nat.reduceAdd, Nat.reduceMul, Nat.reduceSub, Nat.reduceDiv, Nat.reduceMod, Nat.reduceLT, Nat.reduceLeDiff, Nat.reduceEqDiff, Nat.reduceBEq, Nat.reduceBNe, Int.reduceToNat, Int.reduceLT, Int.reduceLE, Int.reduceEq, Int.reduceNe, Int.reduceAdd, Int.reduceSub, Int.reduceMul, Int.reduceNeg, u5_0, lb5_0, h1, c_iget, c_floor, sx, sy, c1, hb, c2, ha, eq_false hg, cs, c_len0, idxC_len, idxD_len, cs_len, av_len, map_cs, map_idx, idxC_take, idxC_drop, plain_av, plain_idx, box_idx, refs_av, owns_av, view_av, ren_av, refs_idx, owns_idx, view_idx, ren_idx, Int.toNat_natCast, Nat.zero_add, chk_of]
          rw [loop_step1]
          simp only [go_sem, doCall, doCallQ, Nat.reduceAdd, Nat.reduceMul, Nat.reduceSub, Nat.reduceDiv, Nat.reduceMod, Nat.reduceLT, Nat.reduceLeDiff, Nat.reduceEqDiff, Nat.reduceBEq, Nat.reduceBNe, Int.reduceToNat, Int.reduceLT, Int.reduceLE, Int.reduceEq, Int.reduceNe, Int.reduceAdd, Int.reduceSub, Int.reduceMul, Int.reduceNeg, hw]
          simp only [go_sem, doCall, doCallQ, Nat.reduceAdd, Nat.reduceMul, Nat.reduceSub, Nat.reduceDiv, Nat.reduceMod, Nat.reduceLT, Nat.reduceLeDiff, Nat.reduceEqDiff, Nat.reduceBEq, Nat.reduceBNe, Int.reduceToNat, Int.reduceLT, Int.reduceLE, Int.reduceEq, Int.reduceNe, Int.reduceAdd, Int.reduceSub, Int.reduceMul, Int.reduceNeg] at ih
          exact ih
abbrev deSh : Sh := .i .i64 (.i .i64 (.i .i64 (.s (.i .i64 (.i .i64 (.i .i64 (.i .i64 (.i .i64 .nil))))))))
theorem de_of {q : List D} (h : deSh.ok q) : ∃ d : De, q = d.cs := by
  obtain ⟨a1, _, rfl, _, _, h⟩ := ok_i h
  obtain ⟨a2, _, rfl, _, _, h⟩ := ok_i h
  obtain ⟨a3, _, rfl, _, _, h⟩ := ok_i h
  obtain ⟨a4, _, rfl, _, h⟩ := ok_s h
  obtain ⟨a5, _, rfl, _, _, h⟩ := ok_i h
  obtain ⟨a6, _, rfl, _, _, h⟩ := ok_i h
  obtain ⟨a7, _, rfl, _, _, h⟩ := ok_i h
  obtain ⟨a8, _, rfl, _, _, h⟩ := ok_i h
  obtain ⟨a9, _, rfl, _, _, h⟩ := ok_i h
  obtain rfl := ok_n h
  exact ⟨⟨a1, a2, a3, a4, a5, a6, a7, a8, a9⟩, rfl⟩
theorem des_of {xs : List (List D)} (h : ∀ q, q ∈ xs → deSh.ok q) : ∃ l : List De, xs = l.map De.cs := by
  obtain ⟨l, hl, _⟩ := rows_map (f := De.cs) (R := fun _ => True) (fun q h => by obtain ⟨d, hd⟩ := de_of h; exact ⟨d, hd, trivial⟩) h
  exact ⟨l, hl⟩
theorem t_floors (l : List De) (hl : l.length ≤ 4611686018427387903) (d : De) : call ir 5 [.d (.list 9 (l.map De.cs)), .agg (d.cs.map .d)] [] = some (.d (.bool true), []) := by
  have hlm : (l.map De.cs).length = l.length := List.length_map ..
  rw [call_eq (fn := ir5) rfl, evF_bnd]
  by_cases h : (l.length : Int) > 40
  · simp (disch := omega) only [go_sem, doCall, doCallQ, Nat.reduceAdd, Nat.reduceMul, Nat.reduceSub, Nat.reduceDiv, Nat.reduceMod, Nat.reduceLT, Nat.reduceLeDiff, Nat.reduceEqDiff, Nat.reduceBEq, Nat.reduceBNe, Int.reduceToNat, Int.reduceLT, Int.reduceLE, Int.reduceEq, Int.reduceNe, Int.reduceAdd, Int.reduceSub, Int.reduceMul, Int.reduceNeg, bd5, c_awake19, hlm, eq_true h, De.cs]
  · have n40 : l.length ≤ 40 := by omega
    have m1 := c_made l (by omega)
    have m2 := c_made (l ++ [d]) (by simp; omega)
    rw [mdF_snoc, List.map_append] at m2
    simp only [List.map_cons, List.map_nil] at m2
    have hi := mdF_inv l
    obtain ⟨s1, s2⟩ := stepF_fl (mdF l) hi d
    have t0 : List.take l.length (l.map De.cs) = l.map De.cs := List.take_of_length_le (by omega)
    have l1 : (l.map De.cs ++ [d.cs]).length = l.length + 1 := by simp
    have t1 : List.take (l.length + 1) (l.map De.cs ++ [d.cs]) = l.map De.cs ++ [d.cs] := List.take_of_length_le (by omega)
    simp only [De.cs] at m2 l1 t1
    simp (disch := omega) only [go_sem, doCall, doCallQ, Nat.reduceAdd, Nat.reduceMul, Nat.reduceSub, Nat.reduceDiv, Nat.reduceMod, Nat.reduceLT, Nat.reduceLeDiff, Nat.reduceEqDiff, Nat.reduceBEq, Nat.reduceBNe, Int.reduceToNat, Int.reduceLT, Int.reduceLE, Int.reduceEq, Int.reduceNe, Int.reduceAdd, Int.reduceSub, Int.reduceMul, Int.reduceNeg, bd5, c_awake19, hlm, eq_false h, m1, m2, t0, l1, t1, Nat.le_refl, List.drop_zero, idxR_len, De.cs, idxC_len, idxD_len, cs_len, av_len, map_cs, map_idx, idxC_take, idxC_drop, plain_av, plain_idx, box_idx, refs_av, owns_av, view_av, ren_av, refs_idx, owns_idx, view_idx, ren_idx, Int.toNat_natCast, Nat.zero_add, chk_of]
    rw [loop_step1]
    simp only [go_sem, doCall, doCallQ, Nat.reduceAdd, Nat.reduceMul, Nat.reduceSub, Nat.reduceDiv, Nat.reduceMod, Nat.reduceLT, Nat.reduceLeDiff, Nat.reduceEqDiff, Nat.reduceBEq, Nat.reduceBNe, Int.reduceToNat, Int.reduceLT, Int.reduceLE, Int.reduceEq, Int.reduceNe, Int.reduceAdd, Int.reduceSub, Int.reduceMul, Int.reduceNeg]
    refine (lp_fl (mdF l) (deF (mdF l) d) (fun k _ => (s2 k).1) (fun k _ => (s1 k).1) (fun k _ => (s2 k).2) _ 16 0 rfl).trans ?_
    simp (disch := omega) only [go_sem, doCall, doCallQ, Nat.reduceAdd, Nat.reduceMul, Nat.reduceSub, Nat.reduceDiv, Nat.reduceMod, Nat.reduceLT, Nat.reduceLeDiff, Nat.reduceEqDiff, Nat.reduceBEq, Nat.reduceBNe, Int.reduceToNat, Int.reduceLT, Int.reduceLE, Int.reduceEq, Int.reduceNe, Int.reduceAdd, Int.reduceSub, Int.reduceMul, Int.reduceNeg]
end Go.Proofs.Ytoipfdbdifoecaa
