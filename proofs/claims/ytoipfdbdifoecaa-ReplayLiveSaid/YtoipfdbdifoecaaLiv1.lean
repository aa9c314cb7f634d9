/- The records that an index needs: binds and drops. Own work. -/
import Derived.Test.YtoipfdbdifoecaaLiv
namespace Go.Proofs.Ytoipfdbdifoecaa
open Go Go.Ev Go.Proofs.Ytoipfdbdifoecaa.Ir
set_option maxRecDepth 100000
set_option linter.unusedSimpArgs false
set_option linter.unusedVariables false
theorem fold_snoc (z : Nat → Sl) (p : En → Bool) (l : List En) (e : En) : ((l ++ [e]).filter p).foldl oneF z = if p e = true then oneF ((l.filter p).foldl oneF z) e else (l.filter p).foldl oneF z := by
  rw [List.filter_append]
  by_cases h : p e = true
  · rw [if_pos h, List.filter_cons_of_pos h, List.filter_nil, List.foldl_append]; rfl
  · rw [if_neg h, List.filter_cons_of_neg h, List.filter_nil, List.append_nil]
theorem Wf.mem {l : List En} {x : Nat → Sl} (h : Wf l x) (e : En) : Wf (l ++ [e]) x :=
  ⟨h.up, h.un, h.pm, h.fl, fun k hk => by obtain ⟨f, hf, hh⟩ := h.at1 k hk; exact ⟨f, by simp [hf], hh⟩, fun k hk => by obtain ⟨f, hf, hh⟩ := h.at2 k hk; exact ⟨f, by simp [hf], hh⟩⟩
/-- One object's part is another one now. -/
theorem Wf.one {l : List En} {x : Nat → Sl} (h : Wf l x) (e : En) (o : Nat) (s : Sl) (h1 : s.b = true → s.fl < s.g ∧ s.o = o) (h2 : s.b = false → s.o = 0 ∧ s.g = 0 ∧ s.tag = [] ∧ s.len = 0 ∧ s.tick = 0 ∧ s.a1 = 0 ∧ s.a2 = 0) (h3 : s.pm = none)
    (h4 : 0 ≤ s.fl ∧ (s.fl = 0 → s.t1 = 0 ∧ s.t2 = 0)) (h5 : s.b = true → (s.a1, s.a2) = atOf e ∨ (x o).b = true ∧ s.a1 = (x o).a1 ∧ s.a2 = (x o).a2) (h6 : 0 < s.fl → (s.t1, s.t2) = atOf e ∨ 0 < (x o).fl ∧ s.t1 = (x o).t1 ∧ s.t2 = (x o).t2) : Wf (l ++ [e]) (xs x o s) := by
  have hm := h.mem e
  refine ⟨fun k hk => ?_, fun k hk => ?_, fun k => ?_, fun k => ?_, fun k hk => ?_, fun k hk => ?_⟩
  · by_cases e0 : k = o
    · subst e0; rw [xs_same] at hk ⊢; exact h1 hk
    · rw [xs_other x s e0] at hk ⊢; exact hm.up k hk
  · by_cases e0 : k = o
    · subst e0; rw [xs_same] at hk ⊢; exact h2 hk
    · rw [xs_other x s e0] at hk ⊢; exact hm.un k hk
  · by_cases e0 : k = o
    · subst e0; rw [xs_same]; exact h3
    · rw [xs_other x s e0]; exact hm.pm k
  · by_cases e0 : k = o
    · subst e0; rw [xs_same]; exact h4
    · rw [xs_other x s e0]; exact hm.fl k
  · by_cases e0 : k = o
    · subst e0; rw [xs_same] at hk ⊢
      rcases h5 hk with h | ⟨a, b, c⟩
      · exact ⟨e, by simp, h⟩
      · rw [b, c]; exact hm.at1 k a
    · rw [xs_other x s e0] at hk ⊢; exact hm.at1 k hk
  · by_cases e0 : k = o
    · subst e0; rw [xs_same] at hk ⊢
      rcases h6 hk with h | ⟨a, b, c⟩
      · exact ⟨e, by simp, h⟩
      · rw [b, c]; exact hm.at2 k a
    · rw [xs_other x s e0] at hk ⊢; exact hm.at2 k hk

def Goal1 (l : List En) (x : Nat → Sl) : Prop := ∀ c, (l.filter (keepB c x)).foldl oneF X0 = resX c x
/-- A record that changes nothing and is at no place of the index. -/
theorem goal_same {l : List En} {x : Nat → Sl} {e : En} (h : Goal1 l x) (hn : ¬ lvAc x e (acOf e)) : Goal1 (l ++ [e]) x := fun c => by
  rw [fold_snoc, if_neg (by simp [keepB, hn])]; exact h c
theorem goal_step {l : List En} {x y : Nat → Sl} {e : En} (h : Goal1 l x) (hs : ∀ c, ∃ c', (∀ f ∈ l, keepB c y f = keepB c' x f) ∧ (if keepB c y e = true then doAc (resX c' x) e (acOf e) else resX c' x) = resX c y) : Goal1 (l ++ [e]) y := fun c => by
  obtain ⟨c', h1, h2⟩ := hs c
  rw [fold_snoc, List.filter_congr h1, h c', oneF_ac, h2]
theorem resX_xs (c c' : Nat → Bool × Bool) (x : Nat → Sl) (o : Nat) (s t : Sl) (hc : ∀ k, k ≠ o → c' k = c k) (ht : t = resS (c o).1 (c o).2 s) : xs (resX c' x) o t = resX c (xs x o s) := by
  funext k
  by_cases e : k = o
  · subst e; rw [xs_same]; show t = resS _ _ (xs x k s k); rw [xs_same, ht]
  · rw [xs_other _ _ e]; show resS _ _ _ = resS _ _ _; rw [hc k e, xs_other _ _ e]
theorem resX_eq (c c' : Nat → Bool × Bool) (x : Nat → Sl) (o : Nat) (s : Sl) (hc : ∀ k, k ≠ o → c' k = c k) (ht : resS (c' o).1 (c' o).2 (x o) = resS (c o).1 (c o).2 s) : resX c' x = resX c (xs x o s) := by
  funext k
  by_cases e : k = o
  · subst e; show resS _ _ _ = resS _ _ (xs x k s k); rw [xs_same, ht]
  · show resS _ _ _ = resS _ _ _; rw [hc k e, xs_other _ _ e]
theorem cset_same (c : Nat → Bool × Bool) (o : Nat) (p : Bool × Bool) : cset c o p o = p := by simp [cset]
theorem cset_other (c : Nat → Bool × Bool) (o : Nat) (p : Bool × Bool) (k : Nat) (h : k ≠ o) : cset c o p k = c k := by simp [cset, h]

/-- What a changed part keeps of the records before. -/
theorem keep_other {c : Nat → Bool × Bool} {x : Nat → Sl} {o : Nat} {s : Sl} {p : Bool × Bool} {f : En} (hb : (∃ g s' l t, acOf f = .bind o g s' l t) → (cin c (acOf f) && decide (lvAc (xs x o s) f (acOf f))) = (p.2 && decide (lvAc x f (acOf f))))
    (hd : (∃ g, acOf f = .drop o g) → (cin c (acOf f) && decide (lvAc (xs x o s) f (acOf f))) = (p.1 && decide (lvAc x f (acOf f)))) : keepB c (xs x o s) f = keepB (cset c o p) x f := by
  unfold keepB
  cases ha : acOf f with
  | no => rfl
  | piece => rfl
  | bind o' g s' l t =>
    by_cases e : o' = o
    · subst e
      have := hb ⟨g, s', l, t, ha⟩
      rw [ha] at this
      rw [this]; simp only [cin, cset_same]
    · have e1 : xs x o s o' = x o' := xs_other _ _ e
      simp only [cin, cset_other c o p o' e, lvAc, e1]
  | drop o' g =>
    by_cases e : o' = o
    · subst e
      have := hd ⟨g, ha⟩
      rw [ha] at this
      rw [this]; simp only [cin, cset_same]
    · have e1 : xs x o s o' = x o' := xs_other _ _ e
      simp only [cin, cset_other c o p o' e, lvAc, e1]

theorem bind_step {l : List En} {x : Nat → Sl} {e : En} (hw : Wf l x) (hg : Goal1 l x) (hf : ∀ f ∈ l, atOf f ≠ atOf e) {o : Nat} {g : Int} {s : List UInt8} {len t : Int} (ha : acOf e = .bind o g s len t) (g1 : 1 ≤ g) :
    Wf (l ++ [e]) (xs x o (bound (x o) o g s len t e.a1 e.a2)) ∧ Goal1 (l ++ [e]) (xs x o (bound (x o) o g s len t e.a1 e.a2)) := by
  have far1 : ∀ k, (x k).b = true → ¬ ((x k).a1 = e.a1 ∧ (x k).a2 = e.a2) := fun k hb hh => by
    obtain ⟨f, hfl, hfe⟩ := hw.at1 k hb
    exact hf f hfl (by rw [← hfe]; simp only [atOf, hh.1, hh.2])
  have notlv : ¬ lvAc x e (acOf e) := by rw [ha]; rintro ⟨h1, h2, h3, _⟩; exact far1 o h1 ⟨h2, h3⟩
  have same : ∀ q : Sl, q = x o → Wf (l ++ [e]) (xs x o q) ∧ Goal1 (l ++ [e]) (xs x o q) := fun q hq => by
    rw [hq, xs_self]; exact ⟨hw.mem e, goal_same hg notlv⟩
  -- the bind is this record's now
  have fresh : ∀ q : Sl, q.b = true → q.o = o → q.g = g → q.tag = s → q.len = len → q.tick = t → q.a1 = e.a1 → q.a2 = e.a2 → q.pm = none → q.fl = (x o).fl → q.t1 = (x o).t1 → q.t2 = (x o).t2 → (x o).fl < g →
      Wf (l ++ [e]) (xs x o q) ∧ Goal1 (l ++ [e]) (xs x o q) := fun q q1 q2 q3 q4 q5 q6 q7 q8 q9 q10 q11 q12 hlt => by
    refine ⟨hw.one e o q (fun _ => ⟨by omega, q2⟩) (fun h => by rw [q1] at h; simp at h) q9 (by rw [q10, q11, q12]; exact hw.fl o) (fun _ => .inl (by rw [q7, q8]; rfl)) (fun h => .inr ⟨by omega, q11, q12⟩), goal_step hg fun c => ⟨cset c o ((c o).1, false), fun f hfl => ?_, ?_⟩⟩
    · refine keep_other (fun ⟨g', s', l', t', hh⟩ => ?_) (fun ⟨g', hh⟩ => ?_)
      · rw [hh]
        simp only [Bool.false_and, Bool.and_eq_false_iff, decide_eq_false_iff_not]
        right
        rintro ⟨_, h2, h3, _⟩
        rw [xs_same, q7] at h2; rw [xs_same, q8] at h3
        exact hf f hfl (by simp only [atOf, h2, h3])
      · rw [hh]
        simp only [cin, lvAc, xs_same, q10, q11, q12]
    · have hk : keepB c (xs x o q) e = (c o).2 := by
        unfold keepB
        rw [ha]
        have : lvAc (xs x o q) e (.bind o g s len t) := ⟨by rw [xs_same]; exact q1, by rw [xs_same]; exact q7, by rw [xs_same]; exact q8, by rw [xs_same]; exact q3⟩
        simp only [cin, this, decide_true, Bool.and_true]
      rw [hk]
      cases hc : (c o).2
      · rw [if_neg (by simp)]
        refine resX_eq c _ x o q (cset_other c o _) ?_
        rw [cset_same, hc]
        simp only [resS, q10, q11, q12, Bool.false_and, Bool.false_eq_true, if_false]
      · rw [if_pos rfl, ha]
        refine resX_xs c _ x o q _ (cset_other c o _) ?_
        have e1 : resX (cset c o ((c o).1, false)) x o = resS (c o).1 false (x o) := by unfold resX; rw [cset_same]
        rw [e1, hc]
        have hfl : ¬ g ≤ (resS (c o).1 false (x o)).fl := by simp only [resS]; split <;> omega
        have hbf : (resS (c o).1 false (x o)).b = false := by simp [resS]
        unfold bound
        rw [if_neg hfl, if_pos (.inl hbf)]
        obtain ⟨b0, o0, g0, tag0, len0, tick0, a10, a20, pm0, fl0, t10, t20⟩ := q
        simp only at q1 q2 q3 q4 q5 q6 q7 q8 q9 q10 q11 q12
        subst q1; subst q2; subst q3; subst q4; subst q5; subst q6; subst q7; subst q8; subst q9; subst q10; subst q11; subst q12
        simp only [resS, Bool.true_and, if_true]
  unfold bound
  split
  · exact same _ rfl
  · rename_i h1
    have h1' : (x o).fl < g := by omega
    split
    · exact fresh _ rfl rfl rfl rfl rfl rfl rfl rfl rfl rfl rfl rfl h1'
    · split
      · rename_i h2 h3
        simp only [not_or, Bool.not_eq_false] at h2
        exact fresh _ h2.1 (hw.up o h2.1).2 h3.1 h3.2.1 h3.2.2.1 rfl rfl rfl (hw.pm o) rfl rfl rfl h1'
      · exact same _ rfl
theorem drop_step {l : List En} {x : Nat → Sl} {e : En} (hw : Wf l x) (hg : Goal1 l x) (hf : ∀ f ∈ l, atOf f ≠ atOf e) {o : Nat} {g : Int} (ha : acOf e = .drop o g) (g1 : 1 ≤ g) :
    Wf (l ++ [e]) (xs x o (forg (x o) g e.a1 e.a2)) ∧ Goal1 (l ++ [e]) (xs x o (forg (x o) g e.a1 e.a2)) := by
  have notlv : ¬ lvAc x e (acOf e) := by
    rw [ha]
    rintro ⟨h1, h2, h3, _⟩
    obtain ⟨f, hfl, hfe⟩ := hw.at2 o h1
    exact hf f hfl (by rw [← hfe]; simp only [atOf, h2, h3])
  have hx := hw.fl o
  by_cases h : g ≥ (x o).fl
  case neg =>
    have e1 : forg (x o) g e.a1 e.a2 = x o := by
      have e0 : forg1 (x o) g e.a1 e.a2 = x o := by
        unfold forg1
        exact if_neg fun hh => h hh.1
      unfold forg
      rw [e0]
      unfold forg2
      refine if_neg fun hh => ?_
      have := (hw.up o hh.1).1
      omega
    rw [e1, xs_self]
    exact ⟨hw.mem e, goal_same hg notlv⟩
  have hg0 : g > 0 := by omega
  -- whether the bind goes, too
  by_cases hb : (x o).b = true ∧ (x o).g ≤ g
  · have e1 : forg (x o) g e.a1 e.a2 = ⟨false, 0, 0, [], 0, 0, 0, 0, none, g, e.a1, e.a2⟩ := by
      unfold forg forg1
      rw [if_pos ⟨h, hg0⟩]
      unfold forg2
      rw [if_pos hb]
    rw [e1]
    refine ⟨hw.one e o _ (fun h => by simp at h) (fun _ => ⟨rfl, rfl, rfl, rfl, rfl, rfl, rfl⟩) rfl ⟨by simp only; omega, fun h => by simp only at h; omega⟩ (fun h => by simp at h) (fun _ => .inl rfl), goal_step hg fun c => ⟨cset c o (false, false), fun f hfl => ?_, ?_⟩⟩
    · refine keep_other (fun ⟨g', s', l', t', hh⟩ => ?_) (fun ⟨g', hh⟩ => ?_)
      · rw [hh]; simp [lvAc, xs_same]
      · rw [hh]
        simp only [Bool.false_and, Bool.and_eq_false_iff, decide_eq_false_iff_not]
        right
        rintro ⟨_, h2, h3, _⟩
        rw [xs_same] at h2 h3
        exact hf f hfl (by simp only [atOf]; rw [← h2, ← h3])
    · have hk : keepB c (xs x o ⟨false, 0, 0, [], 0, 0, 0, 0, none, g, e.a1, e.a2⟩) e = (c o).1 := by
        unfold keepB
        rw [ha]
        have : lvAc (xs x o ⟨false, 0, 0, [], 0, 0, 0, 0, none, g, e.a1, e.a2⟩) e (.drop o g) := ⟨by rw [xs_same]; exact hg0, by rw [xs_same], by rw [xs_same], by rw [xs_same]⟩
        simp only [cin, this, decide_true, Bool.and_true]
      rw [hk]
      cases hc : (c o).1
      · rw [if_neg (by simp)]
        refine resX_eq c _ x o _ (cset_other c o _) ?_
        rw [cset_same, hc]
        simp only [resS, Bool.false_and, Bool.and_false, Bool.false_eq_true, if_false, ite_self]
      · rw [if_pos rfl, ha]
        refine resX_xs c _ x o _ _ (cset_other c o _) ?_
        have e2 : resX (cset c o (false, false)) x o = resS false false (x o) := by unfold resX; rw [cset_same]
        rw [e2, hc]
        have e3 : forg1 (resS false false (x o)) g e.a1 e.a2 = { resS false false (x o) with fl := g, t1 := e.a1, t2 := e.a2 } := by
          unfold forg1
          exact if_pos ⟨by simp only [resS, Bool.false_eq_true, if_false]; omega, hg0⟩
        unfold forg
        rw [e3]
        unfold forg2
        rw [if_neg]
        · simp only [resS, if_true, Bool.false_and, Bool.and_false, Bool.false_eq_true, if_false, ite_self]
        · rintro ⟨h1, h2⟩
          simp only [resS, Bool.false_and, Bool.false_eq_true] at h1
  · have e1 : forg (x o) g e.a1 e.a2 = { x o with fl := g, t1 := e.a1, t2 := e.a2 } := by
      unfold forg forg1
      rw [if_pos ⟨h, hg0⟩]
      unfold forg2
      exact if_neg hb
    rw [e1]
    have hbg : (x o).b = true → g < (x o).g := fun h => by
      have : ¬ (x o).g ≤ g := fun h2 => hb ⟨h, h2⟩
      omega
    refine ⟨hw.one e o _ (fun h => ⟨hbg h, (hw.up o h).2⟩) (fun h => hw.un o h) (hw.pm o) ⟨by simp only; omega, fun h => by simp only at h; omega⟩ (fun h => .inr ⟨h, rfl, rfl⟩) (fun _ => .inl rfl), goal_step hg fun c => ⟨cset c o (false, (c o).2), fun f hfl => ?_, ?_⟩⟩
    · refine keep_other (fun ⟨g', s', l', t', hh⟩ => ?_) (fun ⟨g', hh⟩ => ?_)
      · rw [hh]; simp only [cin, lvAc, xs_same]
      · rw [hh]
        simp only [Bool.false_and, Bool.and_eq_false_iff, decide_eq_false_iff_not]
        right
        rintro ⟨_, h2, h3, _⟩
        rw [xs_same] at h2 h3
        exact hf f hfl (by simp only [atOf]; rw [← h2, ← h3])
    · have hk : keepB c (xs x o { x o with fl := g, t1 := e.a1, t2 := e.a2 }) e = (c o).1 := by
        unfold keepB
        rw [ha]
        have : lvAc (xs x o { x o with fl := g, t1 := e.a1, t2 := e.a2 }) e (.drop o g) := ⟨by rw [xs_same]; exact hg0, by rw [xs_same], by rw [xs_same], by rw [xs_same]⟩
        simp only [cin, this, decide_true, Bool.and_true]
      rw [hk]
      cases hc : (c o).1
      · rw [if_neg (by simp)]
        refine resX_eq c _ x o _ (cset_other c o _) ?_
        rw [cset_same, hc]
        simp only [resS, Bool.false_eq_true, if_false]
      · rw [if_pos rfl, ha]
        refine resX_xs c _ x o _ _ (cset_other c o _) ?_
        have e2 : resX (cset c o (false, (c o).2)) x o = resS false (c o).2 (x o) := by unfold resX; rw [cset_same]
        rw [e2, hc]
        have e3 : forg1 (resS false (c o).2 (x o)) g e.a1 e.a2 = { resS false (c o).2 (x o) with fl := g, t1 := e.a1, t2 := e.a2 } := by
          unfold forg1
          exact if_pos ⟨by simp only [resS, Bool.false_eq_true, if_false]; omega, hg0⟩
        unfold forg
        rw [e3]
        unfold forg2
        rw [if_neg]
        · simp only [resS, if_true]
        · rintro ⟨h1, h2⟩
          simp only [resS, Bool.and_eq_true] at h1 h2
          rw [if_pos h1.1] at h2
          have := hbg h1.2
          omega
theorem part1 : ∀ l : List En, (∀ e ∈ l, ¬ e.kind = 3) → l.Pairwise (fun e f => atOf e ≠ atOf f) → Wf l (l.foldl oneF X0) ∧ Goal1 l (l.foldl oneF X0) := by
  refine snoc_ind (fun _ _ => ⟨Wf.start, fun c => ?_⟩) fun l e ih hk hp => ?_
  · funext k; simp [resX, resS, X0, S0]
  · rw [List.pairwise_append] at hp
    obtain ⟨p1, _, p3⟩ := hp
    obtain ⟨hw, hg⟩ := ih (fun f hf => hk f (by simp [hf])) p1
    have hf : ∀ f ∈ l, atOf f ≠ atOf e := fun f h => p3 f h e (by simp)
    have hke := hk e (by simp)
    obtain ⟨q1, q2, q3, _⟩ := acOf_g (e := e)
    rw [List.foldl_append]
    show Wf _ (oneF _ e) ∧ Goal1 _ (oneF _ e)
    rw [oneF_ac]
    cases ha : acOf e with
    | no => exact ⟨hw.mem e, goal_same hg (by rw [ha]; exact id)⟩
    | bind o g s len t => exact bind_step hw hg hf ha (q1 _ _ _ _ _ ha)
    | drop o g => exact drop_step hw hg hf ha (q2 _ _ ha)
    | piece o g i => exact (q3 hke _ _ _ ha).elim
end Go.Proofs.Ytoipfdbdifoecaa
