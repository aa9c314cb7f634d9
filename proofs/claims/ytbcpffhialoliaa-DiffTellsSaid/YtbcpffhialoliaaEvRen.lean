/- Blocks by new numbers; what a call on a small heap does to the caller's. Own work. -/
import Derived.Test.YtbcpffhialoliaaEvMis
namespace Go.Ev
open Go
set_option linter.unusedVariables false
set_option linter.unusedSimpArgs false
section
variable {w w' : World} {S S' : Sta} {ρ ρ' : Pos} {H H' : Heap} {P : Program}

theorem renL_getD (f : Nat → Option Nat) (l : List AV) (j : Nat) : (AV.renL f l).getD j .unk = (l.getD j .unk).ren f := by
  rw [renL_map]
  by_cases h : j < l.length
  · rw [getD_map' _ _ _ AV.unk _ h]
  · rw [getD_over _ _ _ (by simp; omega), getD_over _ _ _ (by omega)]; rfl

theorem VR.ren {f : Nat → Option Nat} (hf : ∀ i j p, f i = some j → ρ i = some p → ρ' j = some p) {x : AV} {v : Value} (h : VR w S ρ x v) : VR w S ρ' (x.ren f) v := by
  induction h with
  | unk v => exact .unk v
  | d x v h => exact .d x v h
  | agg cs vs hl ho _ ih =>
    rw [AV.ren]
    exact .agg _ _ (by rw [renL_map]; simpa using hl) (fun j hj => ho j (by rw [renL_map] at hj; simpa using hj)) (fun j hj => by rw [renL_getD]; exact ih j (by rw [renL_map] at hj; simpa using hj))
  | tup cs vs hl _ ih =>
    rw [AV.ren]
    exact .tup _ _ (by rw [renL_map]; simpa using hl) (fun j hj => by rw [renL_getD]; exact ih j (by rw [renL_map] at hj; simpa using hj))
  | ptr i o g β h =>
    rw [AV.ren]; split
    · exact .ptr _ _ _ _ (hf _ _ _ (by assumption) h)
    · exact .unk _
  | ept i z k c g β h =>
    rw [AV.ren]; split
    · exact .ept _ _ _ _ _ _ (hf _ _ _ (by assumption) h)
    · exact .unk _
  | cpt cs c b o f h1 h2 h3 => exact .cpt cs c b o f h1 h2 h3
  | own i z o n k a cap h1 h2 h3 =>
    rw [AV.ren]; split
    · rename_i j hj
      refine .own _ _ _ _ _ _ _ h1 h2 fun hc => ?_
      obtain ⟨g, β, e1, e2, e3⟩ := h3 hc
      exact ⟨g, β, hf _ _ _ hj e1, e2, e3⟩
    · exact .unk _
  | clo fn a b va vb h1 h2 h3 h4 ih1 ih2 =>
    rw [AV.ren]
    exact .clo _ _ _ _ _ (by rw [renL_map]; simpa using h1) (by rw [renL_map]; simpa using h2) (fun j hj => by rw [renL_getD]; exact ih1 j (by rw [renL_map] at hj; simpa using hj))
      (fun j hj => by rw [renL_getD]; exact ih2 j (by rw [renL_map] at hj; simpa using hj))
  | ifc t x v _ ih => exact .ifc t _ v ih
  | mref i g h =>
    rw [AV.ren]; split
    · exact .mref _ _ (hf _ _ _ (by assumption) h)
    · exact .unk _

theorem ren_mut (f : Nat → Option Nat) (b : Blk) : (b.ren f).mut = b.mut := by cases b <;> rfl

theorem BlkR.ren {f : Nat → Option Nat} (hf : ∀ i j p, f i = some j → ρ i = some p → ρ' j = some p) {i j : Nat} (hij : ρ' j = ρ i) {b : Blk} (h : BlkR w S ρ i b) : BlkR w S ρ' j (b.ren f) := by
  cases b with
  | dead => trivial
  | box cs =>
    obtain ⟨g, c, e, fz, h1, h2, h3, h4, h5, h6⟩ := h
    refine ⟨g, c, e, fz, hij.trans h1, h2, h3, by rw [renL_map]; simpa using h4, fun k hk => h5 k (by rw [renL_map] at hk; simpa using hk), fun k hk => ?_⟩
    rw [renL_getD]; exact (h6 k (by rw [renL_map] at hk; simpa using hk)).ren hf
  | dbox cs =>
    rcases h with h | ⟨g, c, e, fz, h1, h2, h3, h4, h5, h6⟩
    · exact .inl (hij.trans h)
    exact .inr ⟨g, c, e, fz, hij.trans h1, h2, h3, h4, h5, h6⟩
  | arr z xs => exact ⟨fun he => h.1 (hij ▸ he), fun g β he => h.2 g β (hij ▸ he)⟩
  | frz z xs => exact ⟨fun he => h.1 (hij ▸ he), fun g β he => h.2 g β (hij ▸ he)⟩
  | mp es =>
    obtain ⟨g, ents, clk, cs, h1, h2, h3, h4⟩ := h
    exact ⟨g, ents, clk, cs, hij.trans h1, h2, h3, h4⟩
  | mfz es =>
    obtain ⟨g, ents, clk, cs, h1, h2, h3, h4⟩ := h
    exact ⟨g, ents, clk, cs, hij.trans h1, h2, h3, h4⟩

/-! ### positions in a list -/
theorem posOf_go : ∀ (l : List Nat) (i k j : Nat), posOf.go i l k = some j → k ≤ j ∧ j < k + l.length ∧ l.getD (j - k) 0 = i
  | [], i, k, j, h => by simp [posOf.go] at h
  | x :: xs, i, k, j, h => by
    simp only [posOf.go] at h
    split at h
    · injection h with h; subst h; rename_i e; subst e; simp
    · obtain ⟨h1, h2, h3⟩ := posOf_go xs i (k + 1) j h
      refine ⟨by omega, by simp; omega, ?_⟩
      rw [show j - k = (j - (k + 1)) + 1 from by omega, List.getD_cons_succ]; exact h3
theorem posOf_some {l : List Nat} {i j : Nat} (h : posOf l i = some j) : j < l.length ∧ l.getD j 0 = i := by
  obtain ⟨h1, h2, h3⟩ := posOf_go l i 0 j h
  exact ⟨by omega, h3⟩
theorem posOf_go_none : ∀ (l : List Nat) (i k : Nat), posOf.go i l k = none → i ∉ l
  | [], i, k, h => by simp
  | x :: xs, i, k, h => by
    simp only [posOf.go] at h
    split at h
    · simp at h
    · rename_i e
      simp only [List.mem_cons, not_or]
      exact ⟨fun h => e h.symm, posOf_go_none xs i (k + 1) h⟩
theorem posOf_none {l : List Nat} {i : Nat} (h : posOf l i = none) : i ∉ l := posOf_go_none l i 0 h
theorem nodup_getD {l : List Nat} (h : l.Nodup) {i j : Nat} (hi : i < l.length) (hj : j < l.length) (e : l.getD i 0 = l.getD j 0) : i = j := by
  simp only [List.getD_eq_getElem?_getD, List.getElem?_eq_getElem hi, List.getElem?_eq_getElem hj, Option.getD_some] at e
  have hp := List.pairwise_iff_getElem.1 h
  rcases Nat.lt_trichotomy i j with hlt | heq | hgt
  · exact absurd e (hp i j hi hj hlt)
  · exact heq
  · exact absurd e.symm (hp j i hj hi hgt)
theorem posOf_nodup {l : List Nat} (h : l.Nodup) {j : Nat} (hj : j < l.length) : posOf l (l.getD j 0) = some j := by
  cases hp : posOf l (l.getD j 0) with
  | none =>
    refine absurd ?_ (posOf_none hp)
    rw [List.getD_eq_getElem?_getD, List.getElem?_eq_getElem hj]; exact List.getElem_mem hj
  | some k =>
    obtain ⟨h1, h2⟩ := posOf_some hp
    rw [nodup_getD h h1 hj h2]

theorem reach_spec : ∀ (n : Nat) (H : Heap) (t s : List Nat), s.Nodup → (∀ i ∈ s, i < H.length) → ∃ r, reach n H t s = s ++ r ∧ (s ++ r).Nodup ∧ ∀ i ∈ s ++ r, i < H.length
  | 0, H, t, s, hs, hl => ⟨[], by simp [reach], by simpa using hs, by simpa using hl⟩
  | n + 1, H, [], s, hs, hl => ⟨[], by simp [reach], by simpa using hs, by simpa using hl⟩
  | n + 1, H, i :: t, s, hs, hl => by
    rw [reach]
    split
    · exact reach_spec n H t s hs hl
    · rename_i hc
      simp only [Bool.or_eq_true, Bool.not_eq_true', decide_eq_false_iff_not, not_or, Decidable.not_not, List.elem_eq_mem, decide_eq_true_eq] at hc
      obtain ⟨r, h1, h2, h3⟩ := reach_spec n H ((H.getD i .dead).refs ++ t) (s ++ [i]) (by
        rw [List.nodup_append]
        refine ⟨hs, by simp, fun a ha b hb => ?_⟩
        simp at hb; subst hb
        exact fun e => hc.1 (e ▸ ha)) (fun a ha => by
        simp at ha; rcases ha with ha | rfl
        · exact hl a ha
        · exact hc.2)
      exact ⟨i :: r, by rw [h1, List.append_assoc]; rfl, by simpa using h2, by simpa using h3⟩

/-! ### a heap by new numbers -/
def comp (ρ : Pos) (ids : List Nat) : Pos := fun j => if j < ids.length then ρ (ids.getD j 0) else none
theorem comp_lt {ids : List Nat} {j : Nat} (h : j < ids.length) : comp ρ ids j = ρ (ids.getD j 0) := by simp [comp, h]
theorem comp_pos {ids : List Nat} {i j : Nat} {p : Nat × Nat} (h : posOf ids i = some j) (hp : ρ i = some p) : comp ρ ids j = some p := by
  obtain ⟨h1, h2⟩ := posOf_some h
  rw [comp_lt h1, h2]; exact hp
theorem renH_getD {ids : List Nat} {j : Nat} (h : j < ids.length) : (renH ids H).getD j .dead = (H.getD (ids.getD j 0) .dead).ren (posOf ids) := by
  rw [renH, getD_map' _ _ _ 0 _ h]
theorem renH_length (ids : List Nat) (H : Heap) : (renH ids H).length = ids.length := by simp [renH]

theorem Rel.ren (hr : Rel w S ρ H) {ids : List Nat} (hd : ids.Nodup) : Rel w S (comp ρ ids) (renH ids H) := by
  have hf : ∀ i j p, posOf ids i = some j → ρ i = some p → comp ρ ids j = some p := fun i j p h hp => comp_pos h hp
  refine ⟨fun j => ?_, fun j k g β γ hj hk h1 h2 => ?_, fun j hj => ?_, fun j g β h => ?_, hr.slt, hr.gl⟩
  · by_cases h : j < ids.length
    · rw [renH_getD h]; exact (hr.blk _).ren hf (comp_lt h)
    · rw [getD_over _ _ _ (by rw [renH_length]; omega)]; trivial
  · have lj := lt_of_mut hj
    have lk := lt_of_mut hk
    rw [renH_length] at lj lk
    rw [renH_getD lj, ren_mut] at hj
    rw [renH_getD lk, ren_mut] at hk
    rw [comp_lt lj] at h1; rw [comp_lt lk] at h2
    exact nodup_getD hd lj lk (hr.inj _ _ g β γ hj hk h1 h2)
  · rw [renH_length] at hj; simp [comp]; omega
  · unfold comp at h
    split at h
    · exact hr.rlt _ g β h
    · simp at h

theorem wr_ren {ids : List Nat} {g : Nat} (h : Wr (comp ρ ids) (renH ids H) g) : ∃ k β, k < ids.length ∧ (H.getD (ids.getD k 0) .dead).mut = true ∧ ρ (ids.getD k 0) = some (g, β) := by
  obtain ⟨j, β, hj, hp⟩ := h
  have lj := lt_of_mut hj
  rw [renH_length] at lj
  rw [renH_getD lj, ren_mut] at hj
  rw [comp_lt lj] at hp
  exact ⟨j, β, lj, hj, hp⟩

/-- The first blocks keep their numbers, the others get new ones. -/
theorem Evo.clean {w0 : World} {S0 : Sta} {ρ0 : Pos} {H0 : Heap} (e : Evo w0 S0 ρ0 H0 w S ρ H) {ids : List Nat} (hd : ids.Nodup) (hm : H0.length ≤ ids.length) (hf : ∀ i, i < H0.length → ids.getD i 0 = i) :
    Evo w0 S0 ρ0 H0 w S (comp ρ ids) (renH ids H) := by
  refine ⟨e.rel.ren hd, by rw [renH_length]; exact hm, fun i hi => ?_, fun i hi hmu => ?_, e.sub, e.new, e.frame, fun g h => ?_, e.shape, e.size, e.os, e.tape, e.output, fun i cs hn hc => by
    have hi := lt_of_dbox hc
    rw [renH_getD (by omega), hf i hi, e.unb i cs hn hc]; rfl⟩
  · rw [comp_lt (by omega), hf i hi]; exact e.ext i hi
  · rw [renH_getD (by omega), ren_mut, hf i hi]; exact e.dead i hi hmu
  · obtain ⟨k, β, _, h1, h2⟩ := wr_ren h
    exact e.own g ⟨_, β, h1, h2⟩

theorem range_getD {n i : Nat} (h : i < n) : (List.range n).getD i 0 = i := by simp [List.getD_eq_getElem?_getD, h]

theorem liveIds_spec {m : Nat} (hm : m ≤ H.length) (vs : List AV) : (liveIds m H vs).Nodup ∧ m ≤ (liveIds m H vs).length ∧ (∀ i, i < m → (liveIds m H vs).getD i 0 = i) := by
  obtain ⟨r, h1, h2, h3⟩ := reach_spec 1000 H (AV.refsL vs ++ (H.take m).flatMap Blk.refs) (List.range m) List.nodup_range (fun i hi => by simp at hi; omega)
  unfold liveIds
  rw [h1]
  refine ⟨h2, by simp, fun i hi => ?_⟩
  rw [getD_app, if_pos (by simpa using hi), range_getD hi]

/-! ### a call -/
theorem setBack_length : ∀ (ids : List Nat) (bs : List Blk) (H : Heap), (doCallB.setBack ids bs H).length = H.length
  | [], bs, H => by cases bs <;> rfl
  | i :: ids, [], H => rfl
  | i :: ids, b :: bs, H => by rw [doCallB.setBack, setBack_length]; simp
theorem setBack_notin : ∀ (ids : List Nat) (bs : List Blk) (H : Heap) (i : Nat), i ∉ ids → (doCallB.setBack ids bs H).getD i .dead = H.getD i .dead
  | [], bs, H, i, h => by cases bs <;> rfl
  | j :: ids, [], H, i, h => rfl
  | j :: ids, b :: bs, H, i, h => by
    simp only [List.mem_cons, not_or] at h
    rw [doCallB.setBack, setBack_notin ids bs _ i h.2, getD_set_eq, if_neg (by omega)]
theorem setBack_at : ∀ (ids : List Nat) (bs : List Blk) (H : Heap) (k : Nat), ids.Nodup → (∀ i ∈ ids, i < H.length) → bs.length = ids.length → k < ids.length → (doCallB.setBack ids bs H).getD (ids.getD k 0) .dead = bs.getD k .dead
  | [], bs, H, k, _, _, _, hk => by simp at hk
  | i :: ids, [], H, k, _, _, hl, _ => by simp at hl
  | i :: ids, b :: bs, H, k, hd, hl, hb, hk => by
    rw [doCallB.setBack]
    rw [List.nodup_cons] at hd
    cases k with
    | zero =>
      simp only [List.getD_cons_zero]
      rw [setBack_notin ids bs _ i hd.1, getD_set_eq, if_pos ⟨rfl, hl i (by simp)⟩]
    | succ k =>
      simp only [List.getD_cons_succ]
      exact setBack_at ids bs _ k hd.2 (fun j hj => by simp; exact hl j (by simp [hj])) (by simpa using hb) (by simpa using hk)

theorem scalarD_any {x : D} {v : Value} (hs : x.scalar = true) (h : DR w S x v) : DR w' S' x v := by
  cases h <;> first | (simp [D.scalar] at hs; done) | constructor
theorem scalarL_get {l : List AV} (h : AV.scalarL l = true) : ∀ j, j < l.length → (l.getD j .unk).scalar = true := by
  induction l with
  | nil => intro j hj; simp at hj
  | cons x l ih =>
    intro j hj
    simp only [AV.scalarL, Bool.and_eq_true] at h
    cases j with
    | zero => simpa using h.1
    | succ j => simpa using ih h.2 j (by simpa using hj)
theorem scalar_any {x : AV} {v : Value} (h : VR w S ρ x v) : x.scalar = true → VR w' S' ρ' x v := by
  induction h with
  | d x v h => intro hs; exact .d x v (scalarD_any (by simpa [AV.scalar] using hs) h)
  | agg cs vs hl ho _ ih => intro hs; rw [AV.scalar] at hs; exact .agg cs vs hl ho (fun j hj => ih j hj (scalarL_get hs j hj))
  | tup cs vs hl _ ih => intro hs; rw [AV.scalar] at hs; exact .tup cs vs hl (fun j hj => ih j hj (scalarL_get hs j hj))
  | _ => intro hs; simp [AV.scalar] at hs

/-- What a call that holds nothing of the caller's leaves. -/
theorem evo_nothing (hr : Rel w S ρ H) {S1 S2 : Sta} {ρ1 ρ2 : Pos} {H2 : Heap} (e : Evo w S1 ρ1 [] w' S2 ρ2 H2) : Evo w S ρ H w' S ρ H := by
  have hfr : ∀ g, g < w.heap.size → w'.heap[g]? = w.heap[g]? := fun g hg => e.frame g hg (by rintro ⟨i, β, h, _⟩; simp [Blk.mut] at h)
  have hst : ∀ g, S g → w'.heap[g]? = w.heap[g]? := fun g hg => hfr g (hr.slt g hg)
  refine ⟨⟨fun i => ?_, hr.inj, hr.lim, fun i g β h => Nat.lt_of_lt_of_le (hr.rlt i g β h) e.size, fun g h => Nat.lt_of_lt_of_le (hr.slt g h) e.size, hr.gl.mono (fun _ h => h) hst⟩, Nat.le_refl _, fun _ _ => rfl, fun _ _ h => h, fun _ h => h, fun _ h => .inl h,
    fun g hg _ => hfr g hg, fun _ h => .inl h, e.shape, e.size, e.os, e.tape, e.output, fun _ _ _ h => h⟩
  exact (hr.blk i).mono (fun _ h => h) hst (fun _ _ h => h) (bsz_of_shape e.shape) rfl (fun _ g β h => hfr g (hr.rlt i g β h)) (fun _ _ _ _ h => h)

/-- What a call that holds some of the caller's blocks leaves. -/
theorem evo_back (hr : Rel w S ρ H) {ids : List Nat} (hd : ids.Nodup) (hlt : ∀ i ∈ ids, i < H.length) (e : Evo w S (comp ρ ids) (renH ids H) w' S' ρ' H') :
    ∃ ρ2 : Pos, Evo w S ρ H w' S' ρ2 (doCallB.setBack ids ((H'.take ids.length).map (Blk.ren fun j => if j < ids.length then ids[j]? else some (H.length + (j - ids.length)))) H ++
        (H'.drop ids.length).map (Blk.ren fun j => if j < ids.length then ids[j]? else some (H.length + (j - ids.length)))) ∧
      ∀ i j p, (if i < ids.length then ids[i]? else some (H.length + (i - ids.length))) = some j → ρ' i = some p → ρ2 j = some p := by
  generalize hback : (fun j => if j < ids.length then ids[j]? else some (H.length + (j - ids.length))) = back
  have hrl := renH_length ids H
  have hlen := e.len
  rw [hrl] at hlen
  let ρ2 : Pos := fun i => if i < H.length then ρ i else ρ' (ids.length + (i - H.length))
  have hidlt : ∀ k, k < ids.length → ids.getD k 0 < H.length := fun k hk => hlt _ (by
    rw [List.getD_eq_getElem?_getD, List.getElem?_eq_getElem hk]; exact List.getElem_mem hk)
  have hext : ∀ k, k < ids.length → ρ' k = ρ (ids.getD k 0) := fun k hk => by rw [e.ext k (by rw [hrl]; exact hk), comp_lt hk]
  have hmap : ∀ i j p, back i = some j → ρ' i = some p → ρ2 j = some p := by
    intro i j p h hp
    subst hback
    simp only at h
    by_cases hi : i < ids.length
    · rw [if_pos hi, List.getElem?_eq_getElem hi] at h
      injection h with h
      have e1 : ids.getD i 0 = j := by rw [List.getD_eq_getElem?_getD, List.getElem?_eq_getElem hi]; exact h
      have := hidlt i hi
      rw [e1] at this
      show (if j < H.length then ρ j else _) = _
      rw [if_pos this, ← e1, ← hext i hi]; exact hp
    · rw [if_neg hi] at h
      injection h with h
      show (if j < H.length then ρ j else ρ' (ids.length + (j - H.length))) = _
      rw [if_neg (by omega), show ids.length + (j - H.length) = i from by omega]; exact hp
  refine ⟨ρ2, ?_, fun i j p h hp => hmap i j p (by subst hback; exact h) hp⟩
  have hsl : (doCallB.setBack ids ((H'.take ids.length).map (Blk.ren back)) H).length = H.length := setBack_length ..
  have htl : ((H'.take ids.length).map (Blk.ren back)).length = ids.length := by simp; omega
  -- what stands where
  have hget : ∀ i, (doCallB.setBack ids ((H'.take ids.length).map (Blk.ren back)) H ++ (H'.drop ids.length).map (Blk.ren back)).getD i .dead =
      if i < H.length then (match posOf ids i with | some k => (H'.getD k .dead).ren back | none => H.getD i .dead) else (H'.getD (ids.length + (i - H.length)) .dead).ren back := by
    intro i
    rw [getD_app, hsl]
    by_cases hi : i < H.length
    · rw [if_pos hi, if_pos hi]
      cases hp : posOf ids i with
      | none => exact setBack_notin _ _ _ _ (posOf_none hp)
      | some k =>
        obtain ⟨h1, h2⟩ := posOf_some hp
        have := setBack_at ids ((H'.take ids.length).map (Blk.ren back)) H k hd hlt htl h1
        rw [h2] at this
        rw [this, getD_map' _ _ _ Blk.dead _ (by simp; omega), getD_take _ _ _ _ h1]
    · rw [if_neg hi, if_neg hi]
      by_cases hk : i - H.length < (H'.drop ids.length).length
      · rw [getD_map' _ _ _ Blk.dead _ hk, getD_drop]
      · rw [getD_over _ _ _ (by simpa using hk), getD_over _ _ _ (by simp at hk; omega)]; rfl
  have hnw : ∀ i, i < H.length → posOf ids i = none → (H.getD i .dead).mut = true → ∀ g β, ρ i = some (g, β) → ¬ Wr (comp ρ ids) (renH ids H) g := by
    intro i hi hp hm g β h hw
    obtain ⟨k, γ, hk, h1, h2⟩ := wr_ren hw
    have := hr.inj _ _ g β γ hm h1 h h2
    refine absurd ?_ (posOf_none hp)
    rw [this, List.getD_eq_getElem?_getD, List.getElem?_eq_getElem hk]; exact List.getElem_mem hk
  have hrel := hr.ren hd
  have hst : ∀ g, S g → w'.heap[g]? = w.heap[g]? := fun g hg => e.stays hrel hg
  have hbs := bsz_of_shape e.shape
  have hρ2 : ∀ i p, ρ i = some p → ρ2 i = some p := by
    intro i p h
    show (if i < H.length then ρ i else _) = _
    rw [if_pos, h]
    rcases Nat.lt_or_ge i H.length with hl | hl
    · exact hl
    · rw [hr.lim i hl] at h; simp at h
  have hρlt : ∀ i, i < H.length → ρ2 i = ρ i := fun i hi => by show (if i < H.length then ρ i else _) = _; rw [if_pos hi]
  have hρge : ∀ i, ¬ i < H.length → ρ2 i = ρ' (ids.length + (i - H.length)) := fun i hi => by show (if i < H.length then ρ i else _) = _; rw [if_neg hi]
  -- where a written block of the new heap comes from
  have hsrc : ∀ i, ((doCallB.setBack ids ((H'.take ids.length).map (Blk.ren back)) H ++ (H'.drop ids.length).map (Blk.ren back)).getD i .dead).mut = true → ∀ g β, ρ2 i = some (g, β) →
      (i < H.length ∧ posOf ids i = none ∧ (H.getD i .dead).mut = true ∧ ρ i = some (g, β)) ∨ (∃ k, (H'.getD k .dead).mut = true ∧ ρ' k = some (g, β) ∧ ((i < H.length ∧ posOf ids i = some k) ∨ (¬ i < H.length ∧ k = ids.length + (i - H.length)))) := by
    intro i hm g β h
    rw [hget] at hm
    by_cases hi : i < H.length
    · rw [if_pos hi] at hm
      rw [hρlt i hi] at h
      cases hp : posOf ids i with
      | none => rw [hp] at hm; exact .inl ⟨hi, rfl, hm, h⟩
      | some k =>
        rw [hp] at hm
        obtain ⟨h1, h2⟩ := posOf_some hp
        refine .inr ⟨k, by rw [ren_mut] at hm; exact hm, ?_, .inl ⟨hi, rfl⟩⟩
        rw [hext k h1, h2]; exact h
    · rw [if_neg hi, ren_mut] at hm
      rw [hρge i hi] at h
      exact .inr ⟨_, hm, h, .inr ⟨hi, rfl⟩⟩
  have hwr' : ∀ k g β, (H'.getD k .dead).mut = true → ρ' k = some (g, β) → Wr ρ H g ∨ w.heap.size ≤ g := by
    intro k g β h1 h2
    rcases e.own g ⟨k, β, h1, h2⟩ with h | h
    · obtain ⟨q, γ, _, h3, h4⟩ := wr_ren h; exact .inl ⟨_, γ, h3, h4⟩
    · exact .inr h
  refine ⟨⟨fun i => ?_, fun i j g β γ hi hj h1 h2 => ?_, fun i hi => ?_, fun i g β h => ?_, e.rel.slt, e.rel.gl⟩, by rw [List.length_append, hsl]; omega, fun i hi => hρlt i hi, fun i hi hm => ?_, e.sub, fun g h => ?_, fun g hg hn => ?_, fun g h => ?_, e.shape, e.size, e.os, e.tape, e.output, fun i cs hn hc => ?_⟩
  · rw [hget]
    by_cases hi : i < H.length
    · rw [if_pos hi]
      cases hp : posOf ids i with
      | none =>
        refine (hr.blk i).mono e.sub hst hρ2 hbs (hρlt i hi) (fun hnd g β h => ?_) (fun g β h hm hs => ?_)
        · by_cases hm : (H.getD i .dead).mut = true
          · exact e.frame g (hr.rlt i g β h) (hnw i hi hp hm g β h)
          · have hb := hr.blk i
            generalize H.getD i .dead = b at hm hb hnd
            cases b with
            | dead => exact absurd rfl hnd
            | frz z xs => exact hst g (hb.2 g β h).1
            | mfz es =>
              obtain ⟨g2, ents, clk, cs, m1, m2, m3, _⟩ := hb
              rw [h] at m1
              injection m1 with m1; injection m1 with m1 _
              exact hst g (m1 ▸ m3)
            | _ => simp [Blk.mut] at hm
        · intro h'
          rcases e.new g h' with h' | h' | h'
          · exact hs h'
          · exact hnw i hi hp hm g β h h'
          · have := hr.rlt i g β h; omega
      | some k =>
        obtain ⟨h1, h2⟩ := posOf_some hp
        exact (e.rel.blk k).ren hmap (by rw [hρlt i hi, hext k h1, h2])
    · rw [if_neg hi]
      exact (e.rel.blk _).ren hmap (hρge i hi)
  · rcases hsrc i hi g β h1 with ⟨a1, a2, a3, a4⟩ | ⟨k, a1, a2, a3⟩
    · rcases hsrc j hj g γ h2 with ⟨b1, b2, b3, b4⟩ | ⟨q, b1, b2, b3⟩
      · exact hr.inj i j g β γ a3 b3 a4 b4
      · rcases e.own g ⟨q, γ, b1, b2⟩ with h | h
        · exact absurd h (hnw i a1 a2 a3 g β a4)
        · have := hr.rlt i g β a4; omega
    · rcases hsrc j hj g γ h2 with ⟨b1, b2, b3, b4⟩ | ⟨q, b1, b2, b3⟩
      · rcases e.own g ⟨k, β, a1, a2⟩ with h | h
        · exact absurd h (hnw j b1 b2 b3 g γ b4)
        · have := hr.rlt j g γ b4; omega
      · have hkq := e.rel.inj k q g β γ a1 b1 a2 b2
        subst hkq
        rcases a3 with ⟨c1, c2⟩ | ⟨c1, c2⟩ <;> rcases b3 with ⟨d1, d2⟩ | ⟨d1, d2⟩
        · rw [← (posOf_some c2).2, ← (posOf_some d2).2]
        · have := (posOf_some c2).1; omega
        · have := (posOf_some d2).1; omega
        · omega
  · simp only [List.length_append, hsl, List.length_map, List.length_drop] at hi
    rw [hρge i (by omega)]; exact e.rel.lim _ (by omega)
  · by_cases hi : i < H.length
    · rw [hρlt i hi] at h; exact Nat.lt_of_lt_of_le (hr.rlt i g β h) e.size
    · rw [hρge i hi] at h; exact e.rel.rlt _ g β h
  · rw [hget, if_pos hi]
    cases hp : posOf ids i with
    | none => exact hm
    | some k =>
      obtain ⟨h1, h2⟩ := posOf_some hp
      show ((H'.getD k .dead).ren back).mut = false
      rw [ren_mut]
      refine e.dead k (by rw [hrl]; exact h1) ?_
      rw [renH_getD h1, ren_mut, h2]; exact hm
  · rcases e.new g h with h | h | h
    · exact .inl h
    · obtain ⟨q, γ, _, h3, h4⟩ := wr_ren h; exact .inr (.inl ⟨_, γ, h3, h4⟩)
    · exact .inr (.inr h)
  · refine e.frame g hg fun h => hn ?_
    obtain ⟨q, γ, _, h3, h4⟩ := wr_ren h; exact ⟨_, γ, h3, h4⟩
  · obtain ⟨i, β, hm, h⟩ := h
    rcases hsrc i hm g β h with ⟨a1, a2, a3, a4⟩ | ⟨k, a1, a2, a3⟩
    · exact .inl ⟨i, β, a3, a4⟩
    · exact hwr' k g β a1 a2
  · have hi := lt_of_dbox hc
    rw [hget, if_pos hi]
    cases hp : posOf ids i with
    | none => exact hc
    | some k =>
      obtain ⟨h1, h2⟩ := posOf_some hp
      show (H'.getD k .dead).ren back = _
      rw [e.unb k cs (by rw [comp_lt h1, h2]; exact hn) (by rw [renH_getD h1, h2, hc]; rfl)]; rfl
end
end Go.Ev
