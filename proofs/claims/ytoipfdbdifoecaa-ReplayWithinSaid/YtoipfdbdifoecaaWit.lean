/- One index within another: the law. Own work. -/
import Derived.Test.YtoipfdbdifoecaaWant
import Derived.Test.YtoipfdbdifoecaaBit3
namespace Go.Proofs.Ytoipfdbdifoecaa
open Go Go.Ev Go.Proofs.Ytoipfdbdifoecaa.Ir
set_option maxRecDepth 100000
set_option maxHeartbeats 4000000
set_option linter.unusedSimpArgs false
set_option linter.unusedVariables false
def InvO (x : Nat → Sl) : Prop := ∀ k, (x k).b = true → (x k).o = k
theorem invO_xs {x : Nat → Sl} (h : InvO x) (k : Nat) (s : Sl) (hs : s.b = true → s.o = k) : InvO (xs x k s) := fun j hj => by
  unfold xs at hj ⊢
  split
  · rename_i e; subst e; rw [if_pos rfl] at hj; exact hs hj
  · rename_i e; rw [if_neg e] at hj; exact h j hj
theorem invO_one {x : Nat → Sl} (h : InvO x) (d : De) : InvO (deF x d) := by
  unfold deF
  split
  case isFalse => exact h
  have h0 := h d.o.toNat
  split
  · refine invO_xs h _ _ ?_
    unfold pie
    split
    · exact h0
    · exact h0
  · split
    · refine invO_xs h _ _ ?_
      unfold forg forg2
      split
      · intro hb; simp at hb
      · unfold forg1
        split
        · exact h0
        · exact h0
    · refine invO_xs h _ _ ?_
      unfold bound
      split
      · exact h0
      · split
        · intro _; rfl
        · split
          · exact h0
          · exact h0
theorem invO_fold : ∀ (l : List De) {x : Nat → Sl}, InvO x → InvO (l.foldl deF x)
  | [], _, h => h
  | e :: l, _, h => invO_fold l (invO_one h e)
theorem mdF_o (l : List De) : InvO (mdF l) := invO_fold l (fun k h => by simp [X0, S0] at h)
theorem okX_md (l : List De) (h : l.length ≤ 40) : okX (mdF l) := fun k _ => by
  have := invS_fold l InvS.start k
  exact ⟨by have := this.2.1; unfold mdF; omega, this.2.2⟩
theorem subK_iff {p q : PM} (hp : okK p) (hq : okK q) : decide (subK p q) = allIn (pmK p) (pmK q) := by
  rw [Bool.eq_iff_iff, decide_eq_true_iff]
  unfold subK allIn inb keysN
  simp only [List.all_eq_true, List.any_eq_true, decide_eq_true_eq, List.mem_map]
  constructor
  · intro h z hz
    obtain ⟨w, hw, e⟩ := h _ ⟨z, hz, rfl⟩
    refine ⟨w, hw, ?_⟩
    have h1 := hp.2 z hz
    have h2 := hq.2 w hw
    omega
  · rintro h i ⟨z, hz, rfl⟩
    obtain ⟨w, hw, e⟩ := h z hz
    exact ⟨w, hw, by rw [e]⟩
theorem wi_wd {s t : Sl} (hs : okK s.pm) (ht : okK t.pm) (ho : s.b = true → t.b = true → s.o = t.o) : wi1 s t = wd1 s t := by
  unfold wi1 wd1 same1
  rw [subK_iff hs ht]
  cases hb : s.b
  · rfl
  · cases hc : t.b
    · simp
    · have e : (s.o == t.o) = true := by rw [ho hb hc]; exact beq_self_eq_true _
      rw [e]
      congr 1
      generalize allIn (pmK s.pm) (pmK t.pm) = a
      by_cases h1 : s.g = t.g <;> by_cases h2 : s.tag = t.tag <;> by_cases h3 : s.len = t.len <;> by_cases h4 : s.tick ≤ t.tick <;> cases a <;> simp [h1, h2, h3, h4]
theorem wi_refl (s : Sl) : wi1 s s = true := by
  have : subK s.pm s.pm := fun i h => h
  cases hb : s.b <;> simp [wi1, this, hb]
theorem wiK_refl (x : Nat → Sl) : ∀ n k, wiK x x n k = true
  | 0, _ => rfl
  | n + 1, k => by simp [wiK, wi_refl, wiK_refl x n]
theorem wiK_wdK {x y : Nat → Sl} (hx : okX x) (hy : okX y) (ox : InvO x) (oy : InvO y) : ∀ n k w, n + k = 16 → wdK x y n k w = (w && wiK x y n k)
  | 0, _, w, _ => by simp [wdK, wiK]
  | n + 1, k, w, h => by
    have hk : k < 16 := by omega
    rw [wdK, wiK, wiK_wdK hx hy ox oy n (k + 1) _ (by omega), wi_wd (hx k hk) (hy k hk) (fun h1 h2 => by rw [ox k h1, oy k h2]), Bool.and_assoc]
theorem t_within (la lb : List De) (hla : la.length ≤ 4611686018427387903) (hlb : lb.length ≤ 4611686018427387903) : call ir 6 [.d (.list 9 (la.map De.cs)), .d (.list 9 (lb.map De.cs))] [] = some (.d (.bool true), []) := by
  have ha : (la.map De.cs).length = la.length := List.length_map ..
  have hb : (lb.map De.cs).length = lb.length := List.length_map ..
  rw [call_eq (fn := ir6) rfl, evF_bnd]
  by_cases h : (la.length : Int) > 40
  · simp (disch := omega) only [go_sem, doCall, doCallQ, Nat.reduceAdd, Nat.reduceMul, Nat.reduceSub, Nat.reduceDiv, Nat.reduceMod, Nat.reduceLT, Nat.reduceLeDiff, Nat.reduceEqDiff, Nat.reduceBEq, Nat.reduceBNe, Int.reduceToNat, Int.reduceLT, Int.reduceLE, Int.reduceEq, Int.reduceNe, Int.reduceAdd, Int.reduceSub, Int.reduceMul, Int.reduceNeg, bd6, c_awake20, ha, hb, eq_true h]
  by_cases h2 : (lb.length : Int) > 40
  · simp (disch := omega) only [go_sem, doCall, doCallQ, Nat.reduceAdd, Nat.reduceMul, Nat.reduceSub, Nat.reduceDiv, Nat.reduceMod, Nat.reduceLT, Nat.reduceLeDiff, Nat.reduceEqDiff, Nat.reduceBEq, Nat.reduceBNe, Int.reduceToNat, Int.reduceLT, Int.reduceLE, Int.reduceEq, Int.reduceNe, Int.reduceAdd, Int.reduceSub, Int.reduceMul, Int.reduceNeg, bd6, c_awake20, ha, hb, eq_false h, eq_true h2]
  have na : la.length ≤ 40 := by omega
  have nb : lb.length ≤ 40 := by omega
  have m1 := c_made la (by omega)
  have m2 := c_made lb (by omega)
  have kx := okX_md la na
  have ky := okX_md lb nb
  have w1 := c_rwithin (mdF la) (mdF lb) kx ky
  have w2 := c_rwithin (mdF la) (mdF la) kx kx
  rw [wiK_refl] at w2
  have e := wiK_wdK kx ky (mdF_o la) (mdF_o lb) 16 0 true rfl
  rw [Bool.true_and] at e
  simp (disch := omega) only [go_sem, doCall, doCallQ, Nat.reduceAdd, Nat.reduceMul, Nat.reduceSub, Nat.reduceDiv, Nat.reduceMod, Nat.reduceLT, Nat.reduceLeDiff, Nat.reduceEqDiff, Nat.reduceBEq, Nat.reduceBNe, Int.reduceToNat, Int.reduceLT, Int.reduceLE, Int.reduceEq, Int.reduceNe, Int.reduceAdd, Int.reduceSub, Int.reduceMul, Int.reduceNeg, bd6, c_awake20, ha, hb, eq_false h, eq_false h2, m1, m2, Nat.le_refl, List.drop_zero, idxR_len, idxC_len, idxD_len, cs_len, av_len, map_cs, map_idx, idxC_take, idxC_drop, plain_av, plain_idx, box_idx, refs_av, owns_av, view_av, ren_av, refs_idx, owns_idx, view_idx, ren_idx, Int.toNat_natCast, Nat.zero_add, chk_of]
  rw [loop_step1]
  simp only [go_sem, doCall, doCallQ, Nat.reduceAdd, Nat.reduceMul, Nat.reduceSub, Nat.reduceDiv, Nat.reduceMod, Nat.reduceLT, Nat.reduceLeDiff, Nat.reduceEqDiff, Nat.reduceBEq, Nat.reduceBNe, Int.reduceToNat, Int.reduceLT, Int.reduceLE, Int.reduceEq, Int.reduceNe, Int.reduceAdd, Int.reduceSub, Int.reduceMul, Int.reduceNeg]
  refine (lp_wd (mdF la) (mdF lb) (fun k => by have := (invS_fold la InvS.start k).2.1; unfold mdF; omega) (fun k => by have := (invS_fold lb InvS.start k).2.1; unfold mdF; omega) _ 16 0 rfl true).trans ?_
  rw [e]
  simp (disch := omega) only [go_sem, doCall, doCallQ, Nat.reduceAdd, Nat.reduceMul, Nat.reduceSub, Nat.reduceDiv, Nat.reduceMod, Nat.reduceLT, Nat.reduceLeDiff, Nat.reduceEqDiff, Nat.reduceBEq, Nat.reduceBNe, Int.reduceToNat, Int.reduceLT, Int.reduceLE, Int.reduceEq, Int.reduceNe, Int.reduceAdd, Int.reduceSub, Int.reduceMul, Int.reduceNeg, w1, idxC_len, idxD_len, cs_len, av_len, map_cs, map_idx, idxC_take, idxC_drop, plain_av, plain_idx, box_idx, refs_av, owns_av, view_av, ren_av, refs_idx, owns_idx, view_idx, ren_idx, Int.toNat_natCast, Nat.zero_add, chk_of]
  cases hw : wiK (mdF la) (mdF lb) 16 0
  · simp (disch := omega) only [go_sem, doCall, doCallQ, Nat.reduceAdd, Nat.reduceMul, Nat.reduceSub, Nat.reduceDiv, Nat.reduceMod, Nat.reduceLT, Nat.reduceLeDiff, Nat.reduceEqDiff, Nat.reduceBEq, Nat.reduceBNe, Int.reduceToNat, Int.reduceLT, Int.reduceLE, Int.reduceEq, Int.reduceNe, Int.reduceAdd, Int.reduceSub, Int.reduceMul, Int.reduceNeg, w2, idxC_len, idxD_len, cs_len, av_len, map_cs, map_idx, idxC_take, idxC_drop, plain_av, plain_idx, box_idx, refs_av, owns_av, view_av, ren_av, refs_idx, owns_idx, view_idx, ren_idx, Int.toNat_natCast, Nat.zero_add, chk_of]
  · simp (disch := omega) only [go_sem, doCall, doCallQ, Nat.reduceAdd, Nat.reduceMul, Nat.reduceSub, Nat.reduceDiv, Nat.reduceMod, Nat.reduceLT, Nat.reduceLeDiff, Nat.reduceEqDiff, Nat.reduceBEq, Nat.reduceBNe, Int.reduceToNat, Int.reduceLT, Int.reduceLE, Int.reduceEq, Int.reduceNe, Int.reduceAdd, Int.reduceSub, Int.reduceMul, Int.reduceNeg, w2, idxC_len, idxD_len, cs_len, av_len, map_cs, map_idx, idxC_take, idxC_drop, plain_av, plain_idx, box_idx, refs_av, owns_av, view_av, ren_av, refs_idx, owns_idx, view_idx, ren_idx, Int.toNat_natCast, Nat.zero_add, chk_of]
end Go.Proofs.Ytoipfdbdifoecaa
