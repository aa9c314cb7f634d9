/- Memory: what loads, stores and new blocks do to the relation. Own work. -/
import Derived.Test.YtbcpffhialoliaaEvIR
namespace Go.Ev
open Go
set_option linter.unusedVariables false
set_option linter.unusedSimpArgs false

/-- One block laid anew. -/
def setBlk (w : World) (g : Nat) (o : Obj) : World := { w with heap := w.heap.setIfInBounds g o }

theorem setBlk_same {w : World} {g : Nat} {o p : Obj} (h : w.heap[g]? = some p) : (setBlk w g o).heap[g]? = some o := by
  have := (Array.getElem?_eq_some_iff.1 h).1
  simp [setBlk, this]
theorem setBlk_other {w : World} {g k : Nat} {o : Obj} (h : k ≠ g) : (setBlk w g o).heap[k]? = w.heap[k]? := by
  simp only [setBlk]
  rw [Array.getElem?_setIfInBounds]
  rw [if_neg (by omega)]
theorem setBlk_size (w : World) (g : Nat) (o : Obj) : (setBlk w g o).heap.size = w.heap.size := by simp [setBlk]

theorem BlkR.mono {w w' : World} {S S' : Sta} {ρ ρ' : Pos} (hS : ∀ g, S g → S' g) (hw : ∀ g, S g → w'.heap[g]? = w.heap[g]?)
    (hρ : ∀ i p, ρ i = some p → ρ' i = some p) (hb : ∀ g, bsz w g ≤ bsz w' g) {i : Nat} (hi : ρ' i = ρ i)
    {b : Blk} (hg : b ≠ .dead → ∀ g β, ρ i = some (g, β) → w'.heap[g]? = w.heap[g]?) (hn : ∀ g β, ρ i = some (g, β) → b.mut = true → ¬ S g → ¬ S' g)
    (h : BlkR w S ρ i b) : BlkR w' S' ρ' i b := by
  cases b with
  | dead => trivial
  | box cs =>
    obtain ⟨g, c, e, f, h1, h2, h3, h4, h5, h6⟩ := h
    exact ⟨g, c, e, f, hi.trans h1, ⟨(hg (by simp) g 0 h1).trans h2.1, h2.2⟩, hn g 0 h1 rfl h3, h4, h5, fun j hj => (h6 j hj).mono hS hw hρ hb⟩
  | dbox cs =>
    rcases h with h | ⟨g, c, e, f, h1, h2, h3, h4, h5, h6⟩
    · exact .inl (hi.trans h)
    exact .inr ⟨g, c, e, f, hi.trans h1, ⟨(hg (by simp) g 0 h1).trans h2.1, h2.2⟩, hn g 0 h1 rfl h3, h4, h5, fun j hj => (h6 j hj).mono hS hw⟩
  | arr z xs =>
    refine ⟨fun he => h.1 (hi ▸ he), fun g β he => ?_⟩
    rw [hi] at he
    obtain ⟨h1, c, e, f, h2, h3⟩ := h.2 g β he
    exact ⟨hn g β he rfl h1, c, e, f, ⟨(hg (by simp) g β he).trans h2.1, h2.2⟩, h3.mono hS hw⟩
  | frz z xs =>
    refine ⟨fun he => h.1 (hi ▸ he), fun g β he => ?_⟩
    rw [hi] at he
    obtain ⟨h1, c, e, f, h2, h3⟩ := h.2 g β he
    exact ⟨hS g h1, c, e, f, (hg (by simp) g β he).trans h2, h3.mono hS hw⟩
  | mp es =>
    obtain ⟨g, ents, clk, cs, h1, h2, h3, h4, h5⟩ := h
    exact ⟨g, ents, clk, cs, hi.trans h1, (hg (by simp) g 0 h1).trans h2, hn g 0 h1 rfl h3, h4, h5.mono hS hw⟩
  | mfz es =>
    obtain ⟨g, ents, clk, cs, h1, h2, h3, h4, h5⟩ := h
    exact ⟨g, ents, clk, cs, hi.trans h1, (hg (by simp) g 0 h1).trans h2, hS g h3, h4, h5.mono hS hw⟩

section
variable {w : World} {S : Sta} {ρ : Pos} {H : Heap} {P : Program}

theorem getD_set_eq {α : Type} (l : List α) (i j : Nat) (x d : α) : (l.set i x).getD j d = if i = j ∧ i < l.length then x else l.getD j d := by
  simp only [List.getD_eq_getElem?_getD, List.getElem?_set]
  by_cases h : i = j
  · subst h
    by_cases h2 : i < l.length
    · simp [h2]
    · simp [h2]
  · simp [h]
theorem getD_push {α : Type} (l : List α) (j : Nat) (x d : α) : (l ++ [x]).getD j d = if j = l.length then x else l.getD j d := by
  simp only [List.getD_eq_getElem?_getD]
  by_cases h : j = l.length
  · subst h; simp
  · rw [if_neg h]
    by_cases h2 : j < l.length
    · rw [List.getElem?_append_left h2]
    · rw [List.getElem?_append_right (by omega), List.getElem?_eq_none (by simp; omega), List.getElem?_eq_none (by omega)]
theorem getD_over {α : Type} (l : List α) (j : Nat) (d : α) (h : l.length ≤ j) : l.getD j d = d := by
  simp [List.getD_eq_getElem?_getD, List.getElem?_eq_none h]
theorem lt_of_mut {i : Nat} (h : (H.getD i .dead).mut = true) : i < H.length := by
  by_cases hi : i < H.length
  · exact hi
  · rw [getD_over H i _ (by omega)] at h; simp [Blk.mut] at h

/-- One block of the own ones is written. -/
theorem evo_write (hr : Rel w S ρ H) {i g β : Nat} (hm : (H.getD i .dead).mut = true) (hi : ρ i = some (g, β)) {o o' : Obj} (hg : w.heap[g]? = some o)
    (hsh : ∀ c e f, o = .cells c e f → ∃ c' f', o' = .cells c' e f' ∧ c'.size = c.size) (hs : ¬ S g) {b : Blk} (hbm : b.mut = true)
    (hb : ∀ w', w' = setBlk w g o' → (∀ k, k ≠ g → w'.heap[k]? = w.heap[k]?) → (w'.heap[g]? = some o') → (∀ k, bsz w k ≤ bsz w' k) → BlkR w' S ρ i b) :
    Evo w S ρ H (setBlk w g o') S ρ (H.set i b) := by
  have hil := lt_of_mut hm
  have hoth : ∀ k, k ≠ g → (setBlk w g o').heap[k]? = w.heap[k]? := fun k hk => setBlk_other hk
  have hown : (setBlk w g o').heap[g]? = some o' := setBlk_same hg
  have hshape : ∀ (k : Nat) (c : Array Value) (e : TypeId) (f : Nat × Nat), w.heap[k]? = some (Obj.cells c e f) → ∃ (c' : Array Value) (f' : Nat × Nat), (setBlk w g o').heap[k]? = some (Obj.cells c' e f') ∧ c'.size = c.size := by
    intro k c e f hk
    by_cases hkg : k = g
    · subst hkg
      rw [hg] at hk
      obtain ⟨c', f', h1, h2⟩ := hsh c e f (by injection hk)
      exact ⟨c', f', by rw [hown, h1], h2⟩
    · exact ⟨c, f, by rw [hoth k hkg]; exact hk, rfl⟩
  have hbs := bsz_of_shape hshape
  have hst : ∀ k, S k → (setBlk w g o').heap[k]? = w.heap[k]? := fun k hk => hoth k (fun e => hs (e ▸ hk))
  have hget : ∀ j, (H.set i b).getD j .dead = if i = j then b else H.getD j .dead := by
    intro j; rw [getD_set_eq]; simp [hil]
  refine ⟨⟨?_, ?_, ?_, ?_, ?_, hr.gl.mono (fun _ h => h) hst⟩, by simp, fun _ _ => rfl, ?_, fun _ h => h, fun _ h => .inl h, ?_, ?_, hshape, by rw [setBlk_size]; exact Nat.le_refl _, rfl, rfl, rfl, fun j cs hn hc => by rw [hget, if_neg (fun e => by subst e; rw [hi] at hn; simp at hn)]; exact hc⟩
  · intro j
    rw [hget]
    by_cases hij : i = j
    · subst hij; rw [if_pos rfl]; exact hb _ rfl hoth hown hbs
    · rw [if_neg hij]
      refine (hr.blk j).mono (fun _ h => h) hst (fun _ _ h => h) hbs rfl ?_ (fun _ _ _ _ h => h)
      intro hnd k γ hk
      by_cases hmj : (H.getD j .dead).mut = true
      · exact hoth k (fun e => hij (hr.inj i j g β γ hm hmj hi (e ▸ hk)))
      · have hbj := hr.blk j
        generalize H.getD j .dead = x at hmj hbj hnd
        cases x with
        | dead => exact absurd rfl hnd
        | frz z xs => exact hst k (hbj.2 k γ hk).1
        | mfz es =>
          obtain ⟨g2, ents, clk, cs, m1, m2, m3, _⟩ := hbj
          rw [hk] at m1
          injection m1 with m1; injection m1 with m1 _
          exact hst k (m1 ▸ m3)
        | box => simp [Blk.mut] at hmj
        | dbox => simp [Blk.mut] at hmj
        | arr => simp [Blk.mut] at hmj
        | mp => simp [Blk.mut] at hmj
  · intro j k g' β' γ' hj hk h1 h2
    rw [hget] at hj hk
    have e1 : (H.getD j .dead).mut = true := by
      by_cases h : i = j
      · subst h; exact hm
      · rw [if_neg h] at hj; exact hj
    have e2 : (H.getD k .dead).mut = true := by
      by_cases h : i = k
      · subst h; exact hm
      · rw [if_neg h] at hk; exact hk
    exact hr.inj j k g' β' γ' e1 e2 h1 h2
  · intro j hj; exact hr.lim j (by simpa using hj)
  · intro j g' β' h; rw [setBlk_size]; exact hr.rlt j g' β' h
  · intro g' h; rw [setBlk_size]; exact hr.slt g' h
  · intro j hj hmj
    rw [hget]
    by_cases h : i = j
    · subst h; rw [hm] at hmj; simp at hmj
    · rw [if_neg h]; exact hmj
  · intro k hk hnw
    exact hoth k (fun e => hnw ⟨i, β, hm, by rw [e]; exact hi⟩)
  · rintro k ⟨j, γ, hj, hk⟩
    refine .inl ⟨j, γ, ?_, hk⟩
    rw [hget] at hj
    by_cases h : i = j
    · subst h; exact hm
    · rw [if_neg h] at hj; exact hj

/-- A new name for a block. -/
def posNew (ρ : Pos) (n g β : Nat) : Pos := fun i => if i = n then some (g, β) else ρ i
theorem posNew_same (ρ : Pos) (n g β : Nat) : posNew ρ n g β n = some (g, β) := by simp [posNew]
theorem posNew_other {ρ : Pos} {n g β i : Nat} (h : i ≠ n) : posNew ρ n g β i = ρ i := by simp [posNew, h]
theorem posNew_ext (hr : Rel w S ρ H) (g β : Nat) {i : Nat} {p : Nat × Nat} (h : ρ i = some p) : posNew ρ H.length g β i = some p := by
  rw [posNew_other]; exact h
  intro e; rw [hr.lim i (by omega)] at h; simp at h

theorem alloc_old {o : Obj} {k : Nat} (h : k < w.heap.size) : (w.alloc o).heap[k]? = w.heap[k]? := by
  show (w.heap.push o)[k]? = _
  rw [Array.getElem?_push, if_neg (by omega)]
theorem alloc_new (o : Obj) : (w.alloc o).heap[w.heap.size]? = some o := heap_alloc_new w o
theorem alloc_shape (o : Obj) (k : Nat) (c : Array Value) (e : TypeId) (f : Nat × Nat) (h : w.heap[k]? = some (Obj.cells c e f)) :
    ∃ (c' : Array Value) (f' : Nat × Nat), (w.alloc o).heap[k]? = some (Obj.cells c' e f') ∧ c'.size = c.size := by
  have hk : k < w.heap.size := (Array.getElem?_eq_some_iff.1 h).1
  exact ⟨c, f, by rw [alloc_old hk]; exact h, rfl⟩

/-- A new block. -/
theorem evo_new (hr : Rel w S ρ H) (o : Obj) (b : Blk)
    (hb : (w.alloc o).heap[w.heap.size]? = some o → posNew ρ H.length w.heap.size 0 H.length = some (w.heap.size, 0) → ¬ S w.heap.size →
      (∀ x v, DR w S x v → DR (w.alloc o) S x v) → (∀ x v, VR w S ρ x v → VR (w.alloc o) S (posNew ρ H.length w.heap.size 0) x v) →
      BlkR (w.alloc o) S (posNew ρ H.length w.heap.size 0) H.length b) :
    Evo w S ρ H (w.alloc o) S (posNew ρ H.length w.heap.size 0) (H ++ [b]) := by
  have hst : ∀ k, S k → (w.alloc o).heap[k]? = w.heap[k]? := fun k hk => alloc_old (hr.slt k hk)
  have hbs := bsz_of_shape (alloc_shape (w := w) o)
  have hns : ¬ S w.heap.size := fun h => by have := hr.slt _ h; omega
  have hext : ∀ i p, ρ i = some p → posNew ρ H.length w.heap.size 0 i = some p := fun i p h => posNew_ext hr _ _ h
  refine ⟨⟨?_, ?_, ?_, ?_, ?_, hr.gl.mono (fun _ h => h) hst⟩, by simp, fun i hi => posNew_other (by omega), ?_, fun _ h => h, fun _ h => .inl h, fun k hk _ => alloc_old hk, ?_, alloc_shape o, by simp, rfl, rfl, rfl, fun j cs _ hc => by have := lt_of_dbox hc; rw [getD_push, if_neg (by omega)]; exact hc⟩
  · intro j
    rw [getD_push]
    by_cases hj : j = H.length
    · subst hj; rw [if_pos rfl]
      exact hb (alloc_new o) (posNew_same ..) hns (fun x v h => h.mono (fun _ h => h) hst) (fun x v h => h.mono (fun _ h => h) hst hext hbs)
    · rw [if_neg hj]
      exact (hr.blk j).mono (fun _ h => h) hst hext hbs (posNew_other hj) (fun _ g β h => alloc_old (hr.rlt j g β h)) (fun _ _ _ _ h => h)
  · intro j k g β γ hj hk h1 h2
    rw [getD_push] at hj hk
    by_cases e1 : j = H.length
    · by_cases e2 : k = H.length
      · omega
      · rw [posNew_other e2] at h2
        subst e1
        rw [posNew_same] at h1
        have := hr.rlt k g γ h2
        simp only [Option.some.injEq, Prod.mk.injEq] at h1
        omega
    · by_cases e2 : k = H.length
      · rw [posNew_other e1] at h1
        subst e2
        rw [posNew_same] at h2
        have := hr.rlt j g β h1
        simp only [Option.some.injEq, Prod.mk.injEq] at h2
        omega
      · rw [if_neg e1] at hj; rw [if_neg e2] at hk
        rw [posNew_other e1] at h1; rw [posNew_other e2] at h2
        exact hr.inj j k g β γ hj hk h1 h2
  · intro j hj
    rw [posNew_other (by simp at hj; omega)]; exact hr.lim j (by simp at hj; omega)
  · intro j g β h
    by_cases e : j = H.length
    · subst e; rw [posNew_same] at h; simp only [Option.some.injEq, Prod.mk.injEq] at h; simp; omega
    · rw [posNew_other e] at h; have := hr.rlt j g β h; simp; omega
  · intro g h; have := hr.slt g h; simp; omega
  · intro j hj hm
    rw [getD_push, if_neg (by omega)]; exact hm
  · rintro g ⟨j, β, hj, h⟩
    by_cases e : j = H.length
    · subst e; rw [posNew_same] at h; simp only [Option.some.injEq, Prod.mk.injEq] at h; exact .inr (by omega)
    · rw [posNew_other e] at h; rw [getD_push, if_neg e] at hj; exact .inl ⟨j, β, hj, h⟩

/-- A reserved name is filled with a new block. -/
theorem evo_fill {w0 : World} {S0 : Sta} {ρ0 : Pos} {H0 : Heap} (ev : Evo w0 S0 ρ0 H0 w S ρ H) {i : Nat} (h0 : H0.length ≤ i) (hi : i < H.length) (hn : ρ i = none) (o : Obj) (b : Blk)
    (hb : (w.alloc o).heap[w.heap.size]? = some o → posNew ρ i w.heap.size 0 i = some (w.heap.size, 0) → ¬ S w.heap.size →
      (∀ x v, DR w S x v → DR (w.alloc o) S x v) → (∀ x v, VR w S ρ x v → VR (w.alloc o) S (posNew ρ i w.heap.size 0) x v) →
      BlkR (w.alloc o) S (posNew ρ i w.heap.size 0) i b) :
    Evo w0 S0 ρ0 H0 (w.alloc o) S (posNew ρ i w.heap.size 0) (H.set i b) ∧ ∀ x v, VR w S ρ x v → VR (w.alloc o) S (posNew ρ i w.heap.size 0) x v := by
  have hr := ev.rel
  have hst : ∀ k, S k → (w.alloc o).heap[k]? = w.heap[k]? := fun k hk => alloc_old (hr.slt k hk)
  have hbs := bsz_of_shape (alloc_shape (w := w) o)
  have hns : ¬ S w.heap.size := fun h => by have := hr.slt _ h; omega
  have hext : ∀ j p, ρ j = some p → posNew ρ i w.heap.size 0 j = some p := fun j p h => by
    rw [posNew_other (fun e => by rw [e, hn] at h; simp at h)]; exact h
  have hget : ∀ j, (H.set i b).getD j .dead = if i = j then b else H.getD j .dead := fun j => by rw [getD_set_eq]; simp [hi]
  have hvr : ∀ x v, VR w S ρ x v → VR (w.alloc o) S (posNew ρ i w.heap.size 0) x v := fun x v h => h.mono (fun _ h => h) hst hext hbs
  refine ⟨⟨⟨?_, ?_, ?_, ?_, ?_, hr.gl.mono (fun _ h => h) hst⟩, by simpa using ev.len, fun j hj => (posNew_other (by omega)).trans (ev.ext j hj), ?_, ev.sub, ev.new, fun g hg hw => ?_, ?_, ?_, ?_, ev.os, ev.tape, ev.output, fun j cs hn hc => by have := lt_of_dbox hc; rw [hget, if_neg (by omega)]; exact ev.unb j cs hn hc⟩, hvr⟩
  · intro j
    rw [hget]
    by_cases hj : i = j
    · subst hj; rw [if_pos rfl]
      exact hb (alloc_new o) (posNew_same ..) hns (fun x v h => h.mono (fun _ h => h) hst) hvr
    · rw [if_neg hj]
      exact (hr.blk j).mono (fun _ h => h) hst hext hbs (posNew_other (Ne.symm hj)) (fun _ g β h => alloc_old (hr.rlt j g β h)) (fun _ _ _ _ h => h)
  · intro j k g β γ hj hk h1 h2
    rw [hget] at hj hk
    by_cases e1 : i = j
    · by_cases e2 : i = k
      · omega
      · rw [posNew_other (Ne.symm e2)] at h2
        subst e1
        rw [posNew_same] at h1
        have := hr.rlt k g γ h2
        simp only [Option.some.injEq, Prod.mk.injEq] at h1
        omega
    · by_cases e2 : i = k
      · rw [posNew_other (Ne.symm e1)] at h1
        subst e2
        rw [posNew_same] at h2
        have := hr.rlt j g β h1
        simp only [Option.some.injEq, Prod.mk.injEq] at h2
        omega
      · rw [if_neg e1] at hj; rw [if_neg e2] at hk
        rw [posNew_other (Ne.symm e1)] at h1; rw [posNew_other (Ne.symm e2)] at h2
        exact hr.inj j k g β γ hj hk h1 h2
  · intro j hj
    have hj' : H.length ≤ j := by simpa using hj
    rw [posNew_other (by omega)]; exact hr.lim j hj'
  · intro j g β h
    by_cases e : i = j
    · subst e; rw [posNew_same] at h; simp only [Option.some.injEq, Prod.mk.injEq] at h; simp; omega
    · rw [posNew_other (Ne.symm e)] at h; have := hr.rlt j g β h; simp; omega
  · intro g h; have := hr.slt g h; simp; omega
  · intro j hj hm
    rw [hget, if_neg (by omega)]; exact ev.dead j hj hm
  · have := ev.frame g hg hw
    rw [← this]; exact alloc_old (Nat.lt_of_lt_of_le hg ev.size)
  · rintro g ⟨j, β, hj, h⟩
    by_cases e : i = j
    · subst e; rw [posNew_same] at h; simp only [Option.some.injEq, Prod.mk.injEq] at h
      exact .inr (by have := ev.size; omega)
    · rw [posNew_other (Ne.symm e)] at h; rw [hget, if_neg e] at hj; exact ev.own g ⟨j, β, hj, h⟩
  · intro g c e f h
    obtain ⟨c1, f1, h1, h2⟩ := ev.shape g c e f h
    obtain ⟨c2, f2, h3, h4⟩ := alloc_shape (w := w) o g c1 e f1 h1
    exact ⟨c2, f2, h3, h4.trans h2⟩
  · have := ev.size; simp; omega

/-- A name for a nil slice that will be appended to: no block yet. (Also: whatever block holds nothing and lies nowhere.) -/
theorem evo_draw (hr : Rel w S ρ H) : Evo w S ρ H w.drew S ρ H := by
  have hh : ∀ k : Nat, w.drew.heap[k]? = w.heap[k]? := fun _ => rfl
  have hbs : ∀ g, bsz w g ≤ bsz w.drew g := fun g => by simp [bsz, hh]
  exact ⟨⟨fun i => BlkR.mono (w := w) (w' := w.drew) (S := S) (ρ := ρ) (fun _ h => h) (fun _ _ => rfl) (fun _ _ h => h) hbs rfl (fun _ _ _ _ => rfl) (fun _ _ _ _ h => h) (hr.blk i), hr.inj, hr.lim, hr.rlt, hr.slt, hr.gl.mono (fun _ h => h) (fun _ _ => rfl)⟩,
    Nat.le_refl _, fun _ _ => rfl, fun _ _ h => h, fun _ h => h, fun _ h => .inl h, fun _ _ _ => rfl, fun _ h => .inl h, fun _ c _ f h => ⟨c, f, h, rfl⟩, Nat.le_refl _, rfl, rfl, rfl, fun _ _ _ h => h⟩

/-- An own slice's block is never written again. -/
theorem evo_freeze (hr : Rel w S ρ H) (i : Nat) : ∃ S', Evo w S ρ H w S' ρ (H.set i (H.getD i .dead).freeze) := by
  by_cases hm : (∃ z xs, H.getD i .dead = .arr z xs) ∨ ∃ es, H.getD i .dead = .mp es
  case neg =>
    have : (H.getD i .dead).freeze = H.getD i .dead := by
      cases h : H.getD i .dead with
      | arr z xs => exact absurd (.inl ⟨z, xs, h⟩) hm
      | mp es => exact absurd (.inr ⟨es, h⟩) hm
      | _ => rfl
    rw [this]
    have : H.set i (H.getD i .dead) = H := by
      apply List.ext_getElem?
      intro k
      rw [List.getElem?_set]
      by_cases e : i = k
      · subst e
        by_cases hl : i < H.length
        · simp [hl, List.getD_eq_getElem?_getD]
        · simp [hl, List.getElem?_eq_none (show H.length ≤ i by omega)]
      · simp [e]
    rw [this]
    exact ⟨S, Evo.refl hr⟩
  have hmi : (H.getD i .dead).mut = true := by rcases hm with ⟨z, xs, he⟩ | ⟨es, he⟩ <;> rw [he] <;> rfl
  have hil := lt_of_mut hmi
  have hbi := hr.blk i
  let S' : Sta := fun g => S g ∨ ∃ β, ρ i = some (g, β)
  have hsub : ∀ g, S g → S' g := fun g h => .inl h
  have hbs : ∀ g, bsz w g ≤ bsz w g := fun g => Nat.le_refl _
  have hfz : (H.getD i .dead).freeze.mut = false ∧ BlkR w S' ρ i (H.getD i .dead).freeze := by
    rcases hm with ⟨z, xs, he⟩ | ⟨es, he⟩
    · rw [he] at hbi ⊢
      refine ⟨rfl, hbi.1, fun g β h => ⟨.inr ⟨β, h⟩, ?_⟩⟩
      obtain ⟨_, c, e, f, h1, h2⟩ := hbi.2 g β h
      exact ⟨c, e, f, h1.1, h2.mono hsub (fun _ _ => rfl)⟩
    · rw [he] at hbi ⊢
      obtain ⟨g, ents, clk, cs, h1, h2, _, h4, h5⟩ := hbi
      exact ⟨rfl, g, ents, clk, cs, h1, h2, .inr ⟨0, h1⟩, h4, h5.mono hsub (fun _ _ => rfl)⟩
  generalize (H.getD i .dead).freeze = b at hfz
  have hget : ∀ j, (H.set i b).getD j .dead = if i = j then b else H.getD j .dead := by
    intro j; rw [getD_set_eq]; simp [hil]
  refine ⟨S', ?_⟩
  refine ⟨⟨?_, ?_, ?_, hr.rlt, ?_, hr.gl.mono hsub (fun _ _ => rfl)⟩, by simp, fun _ _ => rfl, ?_, hsub, ?_, fun _ _ _ => rfl, ?_, fun _ c _ f h => ⟨c, f, h, rfl⟩, Nat.le_refl _, rfl, rfl, rfl, fun j cs _ hc => by
    rw [hget]
    by_cases e : i = j
    · subst e; rcases hm with ⟨z, xs, he⟩ | ⟨es, he⟩ <;> rw [he] at hc <;> simp at hc
    · rw [if_neg e]; exact hc⟩
  · intro j
    rw [hget]
    by_cases e : i = j
    · subst e; rw [if_pos rfl]
      exact hfz.2
    · rw [if_neg e]
      refine (hr.blk j).mono hsub (fun _ _ => rfl) (fun _ _ h => h) hbs rfl (fun _ _ _ _ => rfl) (fun g β h hm' hns => ?_)
      rintro (h' | ⟨γ, h'⟩)
      · exact hns h'
      · exact e (hr.inj i j g γ β hmi hm' h' h)
  · intro j k g β γ hj hk h1 h2
    rw [hget] at hj hk
    by_cases e1 : i = j
    · rw [if_pos e1, hfz.1] at hj; simp at hj
    · by_cases e2 : i = k
      · rw [if_pos e2, hfz.1] at hk; simp at hk
      · rw [if_neg e1] at hj; rw [if_neg e2] at hk
        exact hr.inj j k g β γ hj hk h1 h2
  · intro j hj; exact hr.lim j (by simpa using hj)
  · rintro g (h | ⟨β, h⟩)
    · exact hr.slt g h
    · exact hr.rlt i g β h
  · intro j hj hm
    rw [hget]
    by_cases e : i = j
    · rw [if_pos e]; exact hfz.1
    · rw [if_neg e]; exact hm
  · rintro g (h | ⟨β, h⟩)
    · exact .inl h
    · exact .inr (.inl ⟨i, β, hmi, h⟩)
  · rintro g ⟨j, β, hj, h⟩
    rw [hget] at hj
    by_cases e : i = j
    · rw [if_pos e, hfz.1] at hj; simp at hj
    · rw [if_neg e] at hj; exact .inl ⟨j, β, hj, h⟩

theorem evo_freezeAll : ∀ (l : List Nat) {S : Sta} {H : Heap}, Rel w S ρ H → ∃ S', Evo w S ρ H w S' ρ (freezeAll l H)
  | [], S, H, hr => ⟨S, Evo.refl hr⟩
  | i :: l, S, H, hr => by
    obtain ⟨S1, e1⟩ := evo_freeze hr i
    obtain ⟨S2, e2⟩ := evo_freezeAll l e1.rel
    exact ⟨S2, e1.trans e2⟩

/-- A block of the own ones goes on under a new name, from a later cell on; its cells from there on may have been written. -/
theorem evo_grow (hr : Rel w S ρ H) {i g β γ : Nat} (hm : (H.getD i .dead).mut = true) (hi : ρ i = some (g, β)) {c c' : Array Value} {e : TypeId} {fz : Nat × Nat}
    (hg : w.heap[g]? = some (.cells c e fz)) (hfz : Thaw fz c.size) (hc : c'.size = c.size) (hs : ¬ S g) {z : Nat} {ys : List (List D)}
    (hb : (∀ x v, DR w S x v → DR (setBlk w g (.cells c' e fz)) S x v) → RowR (setBlk w g (.cells c' e fz)) S c' γ z ys) :
    Evo w S ρ H (setBlk w g (.cells c' e fz)) S (posNew ρ H.length g γ) (H.set i .dead ++ [.arr z ys]) := by
  have hil := lt_of_mut hm
  have hoth : ∀ k, k ≠ g → (setBlk w g (.cells c' e fz)).heap[k]? = w.heap[k]? := fun k hk => setBlk_other hk
  have hown : (setBlk w g (.cells c' e fz)).heap[g]? = some (.cells c' e fz) := setBlk_same hg
  have hshape : ∀ (k : Nat) (d : Array Value) (t : TypeId) (f : Nat × Nat), w.heap[k]? = some (Obj.cells d t f) → ∃ (d' : Array Value) (f' : Nat × Nat), (setBlk w g (.cells c' e fz)).heap[k]? = some (Obj.cells d' t f') ∧ d'.size = d.size := by
    intro k d t f hk
    by_cases hkg : k = g
    · subst hkg
      rw [hg] at hk
      injection hk with hk
      injection hk with h1 h2 h3
      subst h1; subst h2
      exact ⟨c', fz, hown, hc⟩
    · exact ⟨d, f, by rw [hoth k hkg]; exact hk, rfl⟩
  have hbs := bsz_of_shape hshape
  have hst : ∀ k, S k → (setBlk w g (.cells c' e fz)).heap[k]? = w.heap[k]? := fun k hk => hoth k (fun e => hs (e ▸ hk))
  have hext : ∀ j p, ρ j = some p → posNew ρ H.length g γ j = some p := fun j p h => posNew_ext hr _ _ h
  have hlen : (H.set i .dead).length = H.length := by simp
  have hget : ∀ j, (H.set i .dead ++ [Blk.arr z ys]).getD j .dead = if j = H.length then Blk.arr z ys else if i = j then .dead else H.getD j .dead := by
    intro j; rw [getD_push, hlen, getD_set_eq]; simp [hil]
  have hgs := hr.rlt i g β hi
  refine ⟨⟨?_, ?_, ?_, ?_, ?_, hr.gl.mono (fun _ h => h) hst⟩, by simp, fun j hj => posNew_other (by omega), ?_, fun _ h => h, fun _ h => .inl h, ?_, ?_, hshape, by rw [setBlk_size]; exact Nat.le_refl _, rfl, rfl, rfl, fun j cs hn hc => by
    have := lt_of_dbox hc
    rw [hget, if_neg (by omega), if_neg (fun e => by subst e; rw [hi] at hn; simp at hn)]; exact hc⟩
  · intro j
    rw [hget]
    by_cases hj : j = H.length
    · rw [if_pos hj]; subst hj
      refine ⟨fun h => by rw [posNew_same] at h; simp at h, fun g' β' h => ?_⟩
      rw [posNew_same] at h
      simp only [Option.some.injEq, Prod.mk.injEq] at h
      obtain ⟨rfl, rfl⟩ := h
      exact ⟨hs, c', e, fz, ⟨hown, by rw [hc]; exact hfz⟩, hb fun x v h => h.mono (fun _ h => h) hst⟩
    · rw [if_neg hj]
      by_cases hij : i = j
      · rw [if_pos hij]; trivial
      · rw [if_neg hij]
        refine (hr.blk j).mono (fun _ h => h) hst hext hbs (posNew_other hj) ?_ (fun _ _ _ _ h => h)
        intro hnd k γ' hk
        by_cases hmj : (H.getD j .dead).mut = true
        · exact hoth k (fun e => hij (hr.inj i j g β γ' hm hmj hi (e ▸ hk)))
        · have hbj := hr.blk j
          generalize H.getD j .dead = x at hmj hbj hnd
          cases x with
          | dead => exact absurd rfl hnd
          | frz z xs => exact hst k (hbj.2 k γ' hk).1
          | mfz es =>
            obtain ⟨g2, ents, clk, cs, m1, m2, m3, _⟩ := hbj
            rw [hk] at m1
            injection m1 with m1; injection m1 with m1 _
            exact hst k (m1 ▸ m3)
          | box => simp [Blk.mut] at hmj
          | dbox => simp [Blk.mut] at hmj
          | arr => simp [Blk.mut] at hmj
          | mp => simp [Blk.mut] at hmj
  · intro j k g' β' γ' hj hk h1 h2
    rw [hget] at hj hk
    have key : ∀ a, (if a = H.length then Blk.arr z ys else if i = a then .dead else H.getD a .dead).mut = true → ∀ γ', posNew ρ H.length g γ a = some (g', γ') → g' ≠ g → (H.getD a .dead).mut = true ∧ ρ a = some (g', γ') := by
      intro a ha γ'' h hne
      by_cases e1 : a = H.length
      · subst e1; rw [posNew_same] at h; simp only [Option.some.injEq, Prod.mk.injEq] at h; exact absurd h.1.symm hne
      · rw [if_neg e1] at ha; rw [posNew_other e1] at h
        by_cases e2 : i = a
        · rw [if_pos e2] at ha; simp [Blk.mut] at ha
        · rw [if_neg e2] at ha; exact ⟨ha, h⟩
    have key2 : ∀ a, (if a = H.length then Blk.arr z ys else if i = a then .dead else H.getD a .dead).mut = true → ∀ γ', posNew ρ H.length g γ a = some (g, γ') → a = H.length := by
      intro a ha γ'' h
      by_cases e1 : a = H.length
      · exact e1
      · rw [if_neg e1] at ha; rw [posNew_other e1] at h
        by_cases e2 : i = a
        · rw [if_pos e2] at ha; simp [Blk.mut] at ha
        · rw [if_neg e2] at ha; exact absurd (hr.inj i a g β γ'' hm ha hi h) e2
    by_cases hgg : g' = g
    · subst hgg
      rw [key2 j hj β' h1, key2 k hk γ' h2]
    · obtain ⟨a1, a2⟩ := key j hj β' h1 hgg
      obtain ⟨b1, b2⟩ := key k hk γ' h2 hgg
      exact hr.inj j k g' β' γ' a1 b1 a2 b2
  · intro j hj
    simp at hj
    rw [posNew_other (by omega)]; exact hr.lim j (by omega)
  · intro j g' β' h
    rw [setBlk_size]
    by_cases e1 : j = H.length
    · subst e1; rw [posNew_same] at h; simp only [Option.some.injEq, Prod.mk.injEq] at h; omega
    · rw [posNew_other e1] at h; exact hr.rlt j g' β' h
  · intro g' h; rw [setBlk_size]; exact hr.slt g' h
  · intro j hj hmj
    rw [hget, if_neg (by omega)]
    by_cases h : i = j
    · rw [if_pos h]; rfl
    · rw [if_neg h]; exact hmj
  · intro k hk hnw
    exact hoth k (fun e => hnw ⟨i, β, hm, by rw [e]; exact hi⟩)
  · rintro k ⟨j, γ', hj, hk⟩
    rw [hget] at hj
    by_cases e1 : j = H.length
    · subst e1; rw [posNew_same] at hk; simp only [Option.some.injEq, Prod.mk.injEq] at hk
      exact .inl ⟨i, β, hm, by rw [hi, hk.1]⟩
    · rw [if_neg e1] at hj; rw [posNew_other e1] at hk
      by_cases e2 : i = j
      · rw [if_pos e2] at hj; simp [Blk.mut] at hj
      · rw [if_neg e2] at hj; exact .inl ⟨j, γ', hj, hk⟩
end
end Go.Ev
