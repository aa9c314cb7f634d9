/- The records that an index needs: slices. Own work. -/
import Derived.Test.YtoipfdbdifoecaaLiv1
namespace Go.Proofs.Ytoipfdbdifoecaa
open Go Go.Ev Go.Proofs.Ytoipfdbdifoecaa.Ir
set_option maxRecDepth 100000
set_option linter.unusedSimpArgs false
set_option linter.unusedVariables false
theorem find_put_same {α : Type} (i : Int) (v : α) : ∀ l : List (Int × α), findM i (putM i v l) = some v
  | [] => by simp [putM, findM]
  | (a, d) :: l => by
    rw [putM]
    split
    · simp [findM]
    · split
      · simp [findM]
      · rename_i h1 h2
        rw [findM, if_neg (fun e => h2 e.symm)]
        exact find_put_same i v l
theorem find_put_other {α : Type} {i j : Int} (v : α) (h : j ≠ i) : ∀ l : List (Int × α), findM j (putM i v l) = findM j l
  | [] => by simp [putM, findM, Ne.symm h]
  | (a, d) :: l => by
    rw [putM]
    split
    · rw [findM, if_neg (Ne.symm h)]
    · split
      · rename_i h1 h2
        subst h2
        rw [findM, if_neg (Ne.symm h), findM, if_neg (Ne.symm h)]
      · rw [findM, findM, find_put_other v h l]
theorem find_mem {α : Type} {i : Int} {v : α} : ∀ {l : List (Int × α)}, findM i l = some v → (i, v) ∈ l
  | [], h => by simp [findM] at h
  | (a, d) :: l, h => by
    rw [findM] at h
    split at h
    · rename_i e; subst e; injection h with h; subst h; exact .head _
    · exact .tail _ (find_mem h)
def cut1 (d : Int → Bool) (i : Int) : Int → Bool := fun j => if j = i then false else d j
def filM {α : Type} (d : Int → Bool) (l : List (Int × α)) : List (Int × α) := l.filter fun p => d p.1
theorem filM_put {α : Type} {d : Int → Bool} {i : Int} (v : α) (hd : d i = true) : ∀ l : List (Int × α), SrtM l → filM d (putM i v l) = putM i v (filM (cut1 d i) l)
  | [], _ => by simp [putM, filM, hd]
  | (a, b) :: l, hs => by
    have hs' := List.pairwise_cons.1 hs
    rw [putM]
    by_cases h1 : i < a
    · rw [if_pos h1]
      have e0 : filM (cut1 d i) ((a, b) :: l) = filM d ((a, b) :: l) := by
        unfold filM
        refine List.filter_congr fun p hp => ?_
        have : p.1 ≠ i := by
          rcases List.mem_cons.1 hp with rfl | hp
          · simp only; omega
          · have := hs'.1 p hp; simp only at this; omega
        simp only [cut1, this, if_false]
      rw [e0]
      have e1 : filM d ((i, v) :: (a, b) :: l) = (i, v) :: filM d ((a, b) :: l) := List.filter_cons_of_pos (by simpa using hd)
      rw [e1]
      have hlt : ∀ p ∈ filM d ((a, b) :: l), i < p.1 := fun p hp => by
        have hp := (List.mem_filter.1 hp).1
        rcases List.mem_cons.1 hp with rfl | hp
        · exact h1
        · have := hs'.1 p hp; simp only at this; omega
      cases hf : filM d ((a, b) :: l) with
      | nil => rfl
      | cons p r =>
        obtain ⟨c, e⟩ := p
        have := hlt (c, e) (by rw [hf]; exact .head _)
        rw [putM, if_pos this]
    · rw [if_neg h1]
      by_cases h2 : i = a
      · subst h2
        rw [if_pos rfl]
        have e1 : filM d ((i, v) :: l) = (i, v) :: filM d l := List.filter_cons_of_pos (by simpa using hd)
        have e2 : filM (cut1 d i) ((i, b) :: l) = filM (cut1 d i) l := List.filter_cons_of_neg (by simp [cut1])
        have e3 : filM (cut1 d i) l = filM d l := by
          unfold filM
          refine List.filter_congr fun p hp => ?_
          have : p.1 ≠ i := by have := hs'.1 p hp; simp only at this; omega
          simp only [cut1, this, if_false]
        rw [e1, e2, e3]
        have hlt : ∀ p ∈ filM d l, i < p.1 := fun p hp => hs'.1 p (List.mem_filter.1 hp).1
        cases hf : filM d l with
        | nil => rfl
        | cons p r =>
          obtain ⟨c, e⟩ := p
          have := hlt (c, e) (by rw [hf]; exact .head _)
          rw [putM, if_pos this]
      · rw [if_neg h2]
        have ih := filM_put v hd l hs'.2
        have hc : cut1 d i a = d a := by simp [cut1, Ne.symm h2]
        cases hda : d a
        · have e1 : filM d ((a, b) :: putM i v l) = filM d (putM i v l) := List.filter_cons_of_neg (by simp [hda])
          have e2 : filM (cut1 d i) ((a, b) :: l) = filM (cut1 d i) l := List.filter_cons_of_neg (by simp [hc, hda])
          rw [e1, e2, ih]
        · have e1 : filM d ((a, b) :: putM i v l) = (a, b) :: filM d (putM i v l) := List.filter_cons_of_pos (by simp [hda])
          have e2 : filM (cut1 d i) ((a, b) :: l) = (a, b) :: filM (cut1 d i) l := List.filter_cons_of_pos (by simp [hc, hda])
          rw [e1, e2, ih, putM, if_neg h1, if_neg h2]
theorem filM_not {α : Type} {d : Int → Bool} {i : Int} (v : α) (hd : d i = false) : ∀ l : List (Int × α), filM d (putM i v l) = filM (cut1 d i) l
  | [] => by simp [putM, filM, hd]
  | (a, b) :: l => by
    have e0 : ∀ l : List (Int × α), filM (cut1 d i) l = filM d l := fun l => by
      unfold filM
      refine List.filter_congr fun p _ => ?_
      simp only [cut1]
      split
      · rename_i e; rw [e, hd]
      · rfl
    rw [e0, putM]
    split
    · exact List.filter_cons_of_neg (by simp [hd])
    · split
      · rename_i h1 h2
        subst h2
        have e1 : filM d ((i, v) :: l) = filM d l := List.filter_cons_of_neg (by simp [hd])
        have e2 : filM d ((i, b) :: l) = filM d l := List.filter_cons_of_neg (by simp [hd])
        rw [e1, e2]
      · have ih := filM_not v hd l
        rw [e0] at ih
        cases hda : d a
        · have e1 : filM d ((a, b) :: putM i v l) = filM d (putM i v l) := List.filter_cons_of_neg (by simp [hda])
          have e2 : filM d ((a, b) :: l) = filM d l := List.filter_cons_of_neg (by simp [hda])
          rw [e1, e2, ih]
        · have e1 : filM d ((a, b) :: putM i v l) = (a, b) :: filM d (putM i v l) := List.filter_cons_of_pos (by simp [hda])
          have e2 : filM d ((a, b) :: l) = (a, b) :: filM d l := List.filter_cons_of_pos (by simp [hda])
          rw [e1, e2, ih]

/-- Slices, or none. -/
def mkPM : List (Int × Int × Int) → PM
  | [] => none
  | l => some l
def filP (d : Int → Bool) (p : PM) : PM := mkPM (filM d (pmL p))
theorem pmL_mk (l : List (Int × Int × Int)) : pmL (mkPM l) = l := by cases l <;> rfl
theorem put_ne {i : Int} {v : Int × Int} : ∀ l : List (Int × Int × Int), putM i v l ≠ []
  | [] => by simp [putM]
  | (a, d) :: l => by rw [putM]; repeat' split <;> simp
theorem pmPut_mk (i a1 a2 : Int) (p : PM) : pmPut i a1 a2 p = mkPM (putM i (a1, a2) (pmL p)) := by
  cases p with
  | none => rfl
  | some l =>
    simp only [pmPut, pmL]
    cases h : putM i (a1, a2) l with
    | nil => exact absurd h (put_ne l)
    | cons => rfl
structure Wp (x : Nat → Sl) (l : List En) (y : Nat → Sl) : Prop where
  base : ∀ k, y k = { x k with pm := (y k).pm }
  srt : ∀ k, SrtM (pmL (y k).pm)
  mkp : ∀ k, (y k).pm = mkPM (pmL (y k).pm)
  at3 : ∀ k i v, findM i (pmL (y k).pm) = some v → ∃ e ∈ l, v = atOf e
def resP (d : Nat → Int → Bool) (y : Nat → Sl) : Nat → Sl := fun k => { y k with pm := filP (d k) (y k).pm }
def din (d : Nat → Int → Bool) : Ac → Bool
  | .piece o _ i => d o i
  | _ => false
def keepP (d : Nat → Int → Bool) (y : Nat → Sl) (e : En) : Bool := din d (acOf e) && decide (lvAc y e (acOf e))
def GoalP (x : Nat → Sl) (l : List En) (y : Nat → Sl) : Prop := ∀ d, (l.filter (keepP d y)).foldl oneF x = resP d y
def dcut (d : Nat → Int → Bool) (o : Nat) (i : Int) : Nat → Int → Bool := fun k => if k = o then cut1 (d o) i else d k
theorem piece_step {x y : Nat → Sl} {l : List En} {e : En} (hw : Wp x l y) (hg : GoalP x l y) (hf : ∀ f ∈ l, atOf f ≠ atOf e) {o : Nat} {g i : Int} (ha : acOf e = .piece o g i) :
    Wp x (l ++ [e]) (xs y o (pie (y o) g i e.a1 e.a2)) ∧ GoalP x (l ++ [e]) (xs y o (pie (y o) g i e.a1 e.a2)) := by
  have notlv : ¬ lvAc y e (acOf e) := by
    rw [ha]
    rintro ⟨h1, _⟩
    obtain ⟨f, hfl, hfe⟩ := hw.at3 o i _ h1
    exact hf f hfl hfe.symm
  have hm : Wp x (l ++ [e]) y := ⟨hw.base, hw.srt, hw.mkp, fun k i v h => by obtain ⟨f, h1, h2⟩ := hw.at3 k i v h; exact ⟨f, by simp [h1], h2⟩⟩
  unfold pie
  split
  · rw [xs_self]
    refine ⟨hm, fun d => ?_⟩
    rw [fold_snoc, if_neg (by simp [keepP, notlv])]; exact hg d
  · rename_i hc
    simp only [not_or] at hc
    have hgen : (y o).g = g := by have := hc.2.1; simpa using this
    rw [pmPut_mk]
    have q1 : ∀ k, k ≠ o → xs y o { y o with pm := mkPM (putM i (e.a1, e.a2) (pmL (y o).pm)) } k = y k := fun k h => xs_other _ _ h
    have q2 : xs y o { y o with pm := mkPM (putM i (e.a1, e.a2) (pmL (y o).pm)) } o = { y o with pm := mkPM (putM i (e.a1, e.a2) (pmL (y o).pm)) } := xs_same ..
    generalize hz : xs y o { y o with pm := mkPM (putM i (e.a1, e.a2) (pmL (y o).pm)) } = z at q1 q2
    have q3 : pmL (z o).pm = putM i (e.a1, e.a2) (pmL (y o).pm) := by rw [q2]; exact pmL_mk _
    refine ⟨⟨fun k => ?_, fun k => ?_, fun k => ?_, fun k j v h => ?_⟩, fun d => ?_⟩
    · by_cases h : k = o
      · subst h; rw [q2]; rw [hw.base k]
      · rw [q1 k h]; exact hw.base k
    · by_cases h : k = o
      · subst h; rw [q3]; exact putM_srt (hw.srt k)
      · rw [q1 k h]; exact hw.srt k
    · by_cases h : k = o
      · subst h; rw [q3, q2]
      · rw [q1 k h]; exact hw.mkp k
    · by_cases hk : k = o
      · subst hk
        rw [q3] at h
        by_cases hj : j = i
        · subst hj
          rw [find_put_same] at h
          injection h with h
          exact ⟨e, by simp, h.symm⟩
        · rw [find_put_other _ hj] at h
          obtain ⟨f, h1, h2⟩ := hw.at3 k j v h
          exact ⟨f, by simp [h1], h2⟩
      · rw [q1 k hk] at h
        obtain ⟨f, h1, h2⟩ := hw.at3 k j v h
        exact ⟨f, by simp [h1], h2⟩
    · have hk : ∀ f ∈ l, keepP d z f = keepP (dcut d o i) y f := fun f hfl => by
        unfold keepP
        cases hac : acOf f with
        | no => rfl
        | bind => rfl
        | drop => rfl
        | piece o' g' i' =>
          by_cases ho : o' = o
          · subst ho
            by_cases hi : i' = i
            · subst hi
              have n1 : ¬ lvAc z f (.piece o' g' i') := by
                rintro ⟨h1, _⟩
                rw [q3, find_put_same] at h1
                injection h1 with h1
                exact hf f hfl h1.symm
              simp only [din, dcut, cut1, if_true, n1, decide_false, Bool.and_false, Bool.false_and]
            · have q4 : (z o').g = (y o').g := by rw [q2]
              simp only [din, dcut, cut1, if_true, hi, if_false, lvAc, q3, find_put_other _ hi, q4]
          · simp only [din, dcut, ho, if_false, lvAc, q1 o' ho]
      have he : keepP d z e = d o i := by
        unfold keepP
        rw [ha]
        have : lvAc z e (.piece o g i) := ⟨by rw [q3, find_put_same], by rw [q2]; exact hgen⟩
        simp only [din, this, decide_true, Bool.and_true]
      rw [fold_snoc, he, List.filter_congr hk, hg (dcut d o i), oneF_ac, ha]
      have c1 : ∀ k, k ≠ o → resP (dcut d o i) y k = resP d z k := fun k h => by
        show ({ y k with pm := filP (dcut d o i k) (y k).pm } : Sl) = { z k with pm := filP (d k) (z k).pm }
        rw [q1 k h]; simp only [dcut, h, if_false]
      have c2 : resP (dcut d o i) y o = { y o with pm := mkPM (filM (cut1 (d o) i) (pmL (y o).pm)) } := by
        show ({ y o with pm := filP (dcut d o i o) (y o).pm } : Sl) = _
        simp only [dcut, if_true, filP]
      have c3 : resP d z o = { y o with pm := mkPM (filM (d o) (putM i (e.a1, e.a2) (pmL (y o).pm))) } := by
        show ({ z o with pm := filP (d o) (z o).pm } : Sl) = _
        unfold filP
        rw [q3, q2]
      cases hd : d o i
      · rw [if_neg (by simp)]
        funext k
        by_cases h : k = o
        · subst h; rw [c2, c3, filM_not _ hd]
        · exact c1 k h
      · rw [if_pos rfl]
        funext k
        by_cases h : k = o
        · subst h
          show xs (resP (dcut d k i) y) k _ k = _
          rw [xs_same, c2, c3, filM_put _ hd _ (hw.srt k)]
          unfold pie
          rw [if_neg (by simp only [not_or]; exact hc), pmPut_mk, pmL_mk]
        · show xs (resP (dcut d o i) y) o _ k = _
          rw [xs_other _ _ h]; exact c1 k h
theorem part2 (x : Nat → Sl) (hx : ∀ k, (x k).pm = none) : ∀ l : List En, (∀ e ∈ l, e.kind = 3) → l.Pairwise (fun e f => atOf e ≠ atOf f) → Wp x l (l.foldl oneF x) ∧ GoalP x l (l.foldl oneF x) := by
  refine snoc_ind (fun _ _ => ⟨⟨fun k => rfl, fun k => ?_, fun k => ?_, fun k i v h => ?_⟩, fun d => ?_⟩) fun l e ih hk hp => ?_
  · rw [List.foldl_nil, hx k]; exact List.Pairwise.nil
  · rw [List.foldl_nil, hx k]; rfl
  · rw [List.foldl_nil, hx k] at h; simp [pmL, findM] at h
  · funext k
    show x k = { x k with pm := filP (d k) (x k).pm }
    have : filP (d k) (x k).pm = (x k).pm := by rw [hx k]; rfl
    rw [this]
  · rw [List.pairwise_append] at hp
    obtain ⟨p1, _, p3⟩ := hp
    obtain ⟨hw, hg⟩ := ih (fun f hf => hk f (by simp [hf])) p1
    have hf : ∀ f ∈ l, atOf f ≠ atOf e := fun f h => p3 f h e (by simp)
    obtain ⟨_, _, _, q4⟩ := acOf_g (e := e)
    rw [List.foldl_append]
    show Wp _ _ (oneF _ e) ∧ GoalP _ _ (oneF _ e)
    rw [oneF_ac]
    rcases q4 (hk e (by simp)) with ha | ⟨o, g, i, ha⟩
    · rw [ha]
      refine ⟨⟨hw.base, hw.srt, hw.mkp, fun k i v h => by obtain ⟨f, h1, h2⟩ := hw.at3 k i v h; exact ⟨f, by simp [h1], h2⟩⟩, fun d => ?_⟩
      show ((l ++ [e]).filter (keepP d _)).foldl oneF x = _
      rw [fold_snoc, if_neg (by simp [keepP, ha, din])]; exact hg d
    · rw [ha]; exact piece_step hw hg hf ha

/-! ### both -/
def liveL (l : List En) : List En := l.filter (liveF (allF l))
theorem resX_all (x : Nat → Sl) (hp : ∀ k, (x k).pm = none) : resX (fun _ => (true, true)) x = x := by
  funext k
  show resS true true (x k) = x k
  have := hp k
  generalize x k = s at this
  obtain ⟨b, o, g, s, l, t, a1, a2, pm, fl, t1, t2⟩ := s
  simp only at this
  subst this
  simp [resS]
theorem resP_all {x : Nat → Sl} {l : List En} {y : Nat → Sl} (h : Wp x l y) : resP (fun _ _ => true) y = y := by
  funext k
  show ({ y k with pm := filP (fun _ => true) (y k).pm } : Sl) = y k
  have : filP (fun _ => true) (y k).pm = (y k).pm := by
    unfold filP filM
    rw [List.filter_eq_self.2 (fun _ _ => rfl), ← h.mkp k]
  rw [this]
theorem far_pairwise {l : List En} (h : Far l) : l.Pairwise (fun e f => atOf e ≠ atOf f) := by
  rw [List.pairwise_iff_getElem]
  intro i j hi hj hij he
  have := h j hj
  unfold clash at this
  rw [List.drop_zero] at this
  have h2 := List.any_eq_false.1 this l[i] (by rw [List.mem_take_iff_getElem]; exact ⟨i, by omega, rfl⟩)
  apply h2
  simp only [atOf, Prod.mk.injEq] at he
  simp [sameAt, he.1, he.2]
theorem allF_two (l : List En) : allF l = (slicesOf l).foldl oneF ((othersOf l).foldl oneF X0) := by
  unfold allF
  rw [passF_eq, passF_eq]
  have e1 : (l.filter fun e => decide (e.kind = 3) == true) = slicesOf l := by unfold slicesOf; congr 1; funext e; cases decide (e.kind = 3) <;> rfl
  have e2 : (l.filter fun e => decide (e.kind = 3) == false) = othersOf l := by unfold othersOf; congr 1; funext e; cases decide (e.kind = 3) <;> rfl
  rw [e1, e2]
theorem allF_live {l : List En} (h : Far l) : allF (liveL l) = allF l := by
  have hp := far_pairwise h
  have k1 : ∀ e ∈ othersOf l, ¬ e.kind = 3 := fun e he => by have := (List.mem_filter.1 he).2; simpa using this
  have k2 : ∀ e ∈ slicesOf l, e.kind = 3 := fun e he => by have := (List.mem_filter.1 he).2; simpa using this
  obtain ⟨w1, g1⟩ := part1 (othersOf l) k1 (hp.sublist List.filter_sublist)
  obtain ⟨w2, g2⟩ := part2 ((othersOf l).foldl oneF X0) w1.pm (slicesOf l) k2 (hp.sublist List.filter_sublist)
  rw [← allF_two] at w2 g2
  generalize hF : (othersOf l).foldl oneF X0 = F1 at *
  have o1 : othersOf (liveL l) = (othersOf l).filter (keepB (fun _ => (true, true)) F1) := by
    unfold othersOf liveL
    rw [List.filter_filter, List.filter_filter]
    refine List.filter_congr fun e he => ?_
    cases hk : decide (e.kind = 3)
    · have hk' : ¬ e.kind = 3 := of_decide_eq_false hk
      obtain ⟨_, _, q3, _⟩ := acOf_g (e := e)
      simp only [Bool.not_false, Bool.true_and, Bool.and_true]
      rw [Bool.eq_iff_iff, liveF_ac]
      unfold keepB
      cases ha : acOf e with
      | no => simp [lvAc, cin]
      | piece o g i => exact (q3 hk' _ _ _ ha).elim
      | bind o g s len t =>
        have c1 : (allF l o).b = (F1 o).b := Eq.trans (congrArg Sl.b (w2.base o)) rfl
        have c2 : (allF l o).a1 = (F1 o).a1 := Eq.trans (congrArg Sl.a1 (w2.base o)) rfl
        have c3 : (allF l o).a2 = (F1 o).a2 := Eq.trans (congrArg Sl.a2 (w2.base o)) rfl
        have c4 : (allF l o).g = (F1 o).g := Eq.trans (congrArg Sl.g (w2.base o)) rfl
        have c5 : (allF l o).fl = (F1 o).fl := Eq.trans (congrArg Sl.fl (w2.base o)) rfl
        have c6 : (allF l o).t1 = (F1 o).t1 := Eq.trans (congrArg Sl.t1 (w2.base o)) rfl
        have c7 : (allF l o).t2 = (F1 o).t2 := Eq.trans (congrArg Sl.t2 (w2.base o)) rfl
        simp only [lvAc, cin, Bool.true_and, c1, c2, c3, c4, c5, c6, c7]
        exact ⟨fun h => decide_eq_true h, fun h => of_decide_eq_true h⟩
      | drop o g =>
        have c1 : (allF l o).b = (F1 o).b := Eq.trans (congrArg Sl.b (w2.base o)) rfl
        have c2 : (allF l o).a1 = (F1 o).a1 := Eq.trans (congrArg Sl.a1 (w2.base o)) rfl
        have c3 : (allF l o).a2 = (F1 o).a2 := Eq.trans (congrArg Sl.a2 (w2.base o)) rfl
        have c4 : (allF l o).g = (F1 o).g := Eq.trans (congrArg Sl.g (w2.base o)) rfl
        have c5 : (allF l o).fl = (F1 o).fl := Eq.trans (congrArg Sl.fl (w2.base o)) rfl
        have c6 : (allF l o).t1 = (F1 o).t1 := Eq.trans (congrArg Sl.t1 (w2.base o)) rfl
        have c7 : (allF l o).t2 = (F1 o).t2 := Eq.trans (congrArg Sl.t2 (w2.base o)) rfl
        simp only [lvAc, cin, Bool.true_and, c1, c2, c3, c4, c5, c6, c7]
        exact ⟨fun h => decide_eq_true h, fun h => of_decide_eq_true h⟩
    · simp
  have o2 : slicesOf (liveL l) = (slicesOf l).filter (keepP (fun _ _ => true) (allF l)) := by
    unfold slicesOf liveL
    rw [List.filter_filter, List.filter_filter]
    refine List.filter_congr fun e he => ?_
    cases hk : decide (e.kind = 3)
    · simp
    · have hk' : e.kind = 3 := of_decide_eq_true hk
      obtain ⟨_, _, _, q4⟩ := acOf_g (e := e)
      simp only [Bool.true_and, Bool.and_true]
      rw [Bool.eq_iff_iff, liveF_ac]
      unfold keepP
      rcases q4 hk' with ha | ⟨o, g, i, ha⟩
      · rw [ha]; simp [lvAc, din]
      · rw [ha]; simp [din]
  rw [allF_two (liveL l), o1, o2, g1, resX_all _ w1.pm, g2, resP_all w2]
end Go.Proofs.Ytoipfdbdifoecaa
