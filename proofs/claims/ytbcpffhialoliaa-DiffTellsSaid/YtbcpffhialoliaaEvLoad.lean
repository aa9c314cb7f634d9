/- Loads and stores of the model against those of the evaluator. Own work. -/
import Derived.Test.YtbcpffhialoliaaEvMem
namespace Go.Ev
open Go
set_option linter.unusedVariables false
set_option linter.unusedSimpArgs false
section
variable {w : World} {S : Sta} {ρ : Pos} {H : Heap} {P : Program}

theorem addr_add (g o j : Nat) : (⟨g, o, none⟩ : Addr).add j = ⟨g, o + j, none⟩ := by
  unfold Addr.add
  split
  · subst_vars; rfl
  · rfl
theorem cell_at {g o : Nat} {c : Array Value} {e : TypeId} {f : Nat × Nat} (hg : w.heap[g]? = some (.cells c e f)) (h : o < c.size) :
    w.cell? ⟨g, o, none⟩ = some (c.getD o undef) := by
  rw [cell_of_row w g o c e f hg]
  simp [Array.getD, h]
theorem not_frozen {g o : Nat} {c : Array Value} {e : TypeId} {f : Nat × Nat} (hg : w.heap[g]? = some (.cells c e f)) (hf : Thaw f c.size) (ho : o < c.size) : w.frozen? ⟨g, o, none⟩ = false := by
  have := hf.2 o ho
  simp only [World.frozen?, hg]
  simp only [Bool.and_eq_false_iff, decide_eq_false_iff_not]
  omega

theorem getD_drop {α : Type} (l : List α) (k j : Nat) (d : α) : (l.drop k).getD j d = l.getD (k + j) d := by
  simp [List.getD_eq_getElem?_getD, List.getElem?_drop]
theorem getD_take {α : Type} (l : List α) (n j : Nat) (d : α) (h : j < n) : (l.take n).getD j d = l.getD j d := by
  simp [List.getD_eq_getElem?_getD, List.getElem?_take, h]
theorem getD_map' {α β : Type} (l : List α) (f : α → β) (j : Nat) (d : α) (e : β) (h : j < l.length) : (l.map f).getD j e = f (l.getD j d) := by
  simp [List.getD_eq_getElem?_getD, List.getElem?_map, h]
theorem ex_list {α : Type} (n : Nat) (f : Nat → α) (d : α) : ∃ l : List α, l.length = n ∧ ∀ j, j < n → l.getD j d = f j :=
  ⟨(List.range n).map f, by simp, fun j h => by simp [List.getD_eq_getElem?_getD, h]⟩
theorem getD_arr {α : Type} (l : List α) (j : Nat) (d : α) : l.toArray.getD j d = l.getD j d := by
  by_cases h : j < l.length
  · simp [Array.getD, List.getD_eq_getElem?_getD, h]
  · simp [Array.getD, List.getD_eq_getElem?_getD, h]

/-- What a run of cells holds. -/
structure Runs (w : World) (S : Sta) (ρ : Pos) (a : Addr) (n : Nat) (f : Nat → AV) (cs : List Value) : Prop where
  len : cs.length = n
  cell : ∀ j, j < n → w.cell? (a.add j) = some (cs.getD j undef)
  ones : ∀ j, j < n → one (cs.getD j undef) = true
  vr : ∀ j, j < n → VR w S ρ (f j) (cs.getD j undef)

/-- Where an address leads, and what lies there. -/
def Leads (w : World) (S : Sta) (ρ : Pos) (cv : Value) (n : Nat) (f : Nat → AV) : Prop := ∃ g o cs, cv = .pointer (some ⟨g, o, none⟩) ∧ Runs w S ρ ⟨g, o, none⟩ n f cs

theorem leads_of (g o n : Nat) (f : Nat → AV) (u : Nat → Value) (hc : ∀ j, j < n → w.cell? ⟨g, o + j, none⟩ = some (u j)) (ho : ∀ j, j < n → one (u j) = true)
    (hv : ∀ j, j < n → VR w S ρ (f j) (u j)) : Leads w S ρ (.pointer (some ⟨g, o, none⟩)) n f := by
  obtain ⟨l, h1, h2⟩ := ex_list n u undef
  exact ⟨g, o, l, rfl, h1, fun j hj => by rw [addr_add, h2 j hj]; exact hc j hj, fun j hj => by rw [h2 j hj]; exact ho j hj, fun j hj => by rw [h2 j hj]; exact hv j hj⟩

theorem leads_ptr (hr : Rel w S ρ H) {i o n : Nat} {cs : List AV} (hb : H.getD i .dead = .box cs) (hn : o + n ≤ cs.length) {cv : Value} (hv : VR w S ρ (.ptr i o) cv) :
    Leads w S ρ cv n (fun j => cs.getD (o + j) .unk) := by
  have hbi := hr.blk i
  rw [hb] at hbi
  obtain ⟨g, c, e, f', h1, ⟨h2, hfz⟩, h3, h4, h5, h6⟩ := hbi
  cases hv with
  | ptr _ _ g' β h =>
    rw [h1] at h; simp only [Option.some.injEq, Prod.mk.injEq] at h; obtain ⟨rfl, rfl⟩ := h
    refine leads_of g (0 + o) n _ (fun j => c.getD (o + j) undef) (fun j hj => ?_) (fun j hj => h5 _ (by omega)) (fun j hj => h6 _ (by omega))
    rw [Nat.zero_add]; exact cell_at h2 (by omega)
theorem leads_dptr (hr : Rel w S ρ H) {i o n : Nat} {cs : List D} (hb : H.getD i .dead = .dbox cs) (hn : o + n ≤ cs.length) {cv : Value} (hv : VR w S ρ (.ptr i o) cv) :
    Leads w S ρ cv n (fun j => .d (cs.getD (o + j) .nilp)) := by
  have hbi := hr.blk i
  rw [hb] at hbi
  have hbp : ρ i ≠ none := by cases hv with | ptr _ _ g β h => rw [h]; simp
  obtain ⟨g, c, e, f', h1, ⟨h2, hfz⟩, h3, h4, h5, h6⟩ := hbi.resolve_left hbp
  cases hv with
  | ptr _ _ g' β h =>
    rw [h1] at h; simp only [Option.some.injEq, Prod.mk.injEq] at h; obtain ⟨rfl, rfl⟩ := h
    refine leads_of g (0 + o) n _ (fun j => c.getD (o + j) undef) (fun j hj => ?_) (fun j hj => h5 _ (by omega)) (fun j hj => .d _ _ (h6 _ (by omega)))
    rw [Nat.zero_add]; exact cell_at h2 (by omega)
theorem mul_lt {k n z c m : Nat} (h : k < n) (hc : c + m ≤ z) : k * z + c + m ≤ n * z := by
  have h1 : (k + 1) * z ≤ n * z := Nat.mul_le_mul_right z h
  have h2 : (k + 1) * z = k * z + z := by rw [Nat.add_mul, Nat.one_mul]
  omega
theorem leads_row {c : Array Value} {e : TypeId} {f : Nat × Nat} {g β z k cc n : Nat} {xs : List (List D)} (h2 : w.heap[g]? = some (.cells c e f)) (hrow : RowR w S c β z xs)
    (hk : k < xs.length) (hn : cc + n ≤ z) : Leads w S ρ (.pointer (some ⟨g, β + (k * z + cc), none⟩)) n (fun j => .d ((xs.getD k []).getD (cc + j) .nilp)) := by
  have hm := mul_lt hk hn
  have hf := hrow.fits
  refine leads_of g _ n _ (fun j => c.getD (β + (k * z + (cc + j))) undef) (fun j hj => ?_) (fun j hj => hrow.ones _ (by omega)) (fun j hj => .d _ _ (hrow.cell k hk _ (by omega)))
  rw [show β + (k * z + cc) + j = β + (k * z + (cc + j)) from by omega]
  exact cell_at h2 (by omega)
theorem leads_ept (hr : Rel w S ρ H) {i z k c n : Nat} {xs : List (List D)} (hb : H.getD i .dead = .arr z xs ∨ H.getD i .dead = .frz z xs) (hk : k < xs.length) (hn : c + n ≤ z)
    {cv : Value} (hv : VR w S ρ (.ept i z k c) cv) : Leads w S ρ cv n (fun j => .d ((xs.getD k []).getD (c + j) .nilp)) := by
  have hbi := hr.blk i
  cases hv with
  | ept _ _ _ _ g β h =>
    rcases hb with hb | hb
    · rw [hb] at hbi
      obtain ⟨_, c', e, f, ⟨h2, _⟩, h3⟩ := hbi.2 g β h
      exact leads_row h2 h3 hk hn
    · rw [hb] at hbi
      obtain ⟨_, c', e, f, h2, h3⟩ := hbi.2 g β h
      exact leads_row h2 h3 hk hn
theorem leads_cpt {cs : List D} {c n : Nat} (hn : c + n ≤ cs.length) {cv : Value} (hv : VR w S ρ (.cpt cs c) cv) : Leads w S ρ cv n (fun j => .d (cs.getD (c + j) .nilp)) := by
  cases hv with
  | cpt _ _ b o f hb hc hd =>
    refine leads_of b (o + c) n _ (fun j => f (c + j)) (fun j hj => ?_) (fun j hj => (hc _ (by omega)).2) (fun j hj => .d _ _ (hd _ (by omega)))
    rw [Nat.add_assoc]; exact (hc _ (by omega)).1

theorem Leads.agg {cv : Value} {n : Nat} {f : Nat → AV} (h : Leads w S ρ cv n f) (cs : List AV) (hl : cs.length = n) (hf : ∀ j, j < n → cs.getD j .unk = f j) :
    ∃ (a : Addr) (us : List Value), cv = .pointer (some a) ∧ us.length = n ∧ (∀ j, j < n → w.cell? (a.add j) = some (us.getD j undef)) ∧ VR w S ρ (.agg cs) (.agg us.toArray) := by
  obtain ⟨g, o, us, rfl, h1⟩ := h
  refine ⟨_, us, rfl, h1.len, h1.cell, .agg cs us.toArray (by simp [hl, h1.len]) (fun j hj => ?_) (fun j hj => ?_)⟩
  · rw [getD_arr]; exact h1.ones j (by omega)
  · rw [getD_arr, hf j (by omega)]; exact h1.vr j (by omega)
theorem Leads.single {cv : Value} {f : Nat → AV} (h : Leads w S ρ cv 1 f) : ∃ (a : Addr) (u : Value), cv = .pointer (some a) ∧ w.cell? a = some u ∧ VR w S ρ (f 0) u := by
  obtain ⟨g, o, us, rfl, h1⟩ := h
  refine ⟨_, _, rfl, ?_, h1.vr 0 (by omega)⟩
  have := h1.cell 0 (by omega)
  rwa [addr_add, Nat.add_zero] at this

/-- What a load finds. -/
theorem loadA_sound (hr : Rel w S ρ H) {av v : AV} {cv : Value} {n : Nat} {g : Bool} (hv : VR w S ρ av cv) (h : loadA H av n g = some v) :
    if g then ∃ (a : Addr) (us : List Value), cv = .pointer (some a) ∧ us.length = n ∧ (∀ j, j < n → w.cell? (a.add j) = some (us.getD j undef)) ∧ VR w S ρ v (.agg us.toArray)
    else ∃ (a : Addr) (u : Value), cv = .pointer (some a) ∧ w.cell? a = some u ∧ VR w S ρ v u := by
  unfold loadA at h
  split at h
  · rename_i i o
    split at h
    · rename_i cs hb
      split at h
      · rename_i hn
        have hl := leads_ptr hr hb hn hv
        split at h
        · injection h with h; subst h; rename_i hg
          rw [if_pos hg]
          exact hl.agg _ (by simp; omega) (fun j hj => by rw [getD_take _ _ _ _ hj, getD_drop])
        · rename_i hg
          rw [if_neg hg]
          split at h
          · injection h with h; subst h; rename_i h1; subst h1
            exact hl.single
          · simp at h
      · simp at h
    · rename_i cs hb
      split at h
      · rename_i hn
        have hl := leads_dptr hr hb hn hv
        split at h
        · injection h with h; subst h; rename_i hg
          rw [if_pos hg]
          exact hl.agg _ (by simp; omega) (fun j hj => by
            rw [getD_map' _ _ _ D.nilp _ (by simp; omega), getD_take _ _ _ _ hj, getD_drop])
        · rename_i hg
          rw [if_neg hg]
          split at h
          · injection h with h; subst h; rename_i h1; subst h1
            exact hl.single
          · simp at h
      · simp at h
    · simp at h
  · rename_i i z k c
    have key : ∀ z' xs, (H.getD i .dead = .arr z' xs ∨ H.getD i .dead = .frz z' xs) →
        (if z' = z ∧ k < xs.length ∧ c + n ≤ z then
        (if g then some (AV.agg ((((xs.getD k []).drop c).take n).map .d)) else if n = 1 then some (.d ((xs.getD k []).getD c .nilp)) else none) else none) = some v →
        if g then ∃ (a : Addr) (us : List Value), cv = .pointer (some a) ∧ us.length = n ∧ (∀ j, j < n → w.cell? (a.add j) = some (us.getD j undef)) ∧ VR w S ρ v (.agg us.toArray)
        else ∃ (a : Addr) (u : Value), cv = .pointer (some a) ∧ w.cell? a = some u ∧ VR w S ρ v u := by
      intro z' xs hb q
      split at q
      · rename_i hn
        obtain ⟨rfl, hk, hn⟩ := hn
        have hl := leads_ept hr hb hk hn hv
        have hw : (xs.getD k []).length = z' := by
          have hbi := hr.blk i
          cases hv with
          | ept _ _ _ _ g' β hh =>
            rcases hb with hb | hb
            · rw [hb] at hbi; obtain ⟨_, _, _, _, _, h3⟩ := hbi.2 g' β hh; exact h3.wide k hk
            · rw [hb] at hbi; obtain ⟨_, _, _, _, _, h3⟩ := hbi.2 g' β hh; exact h3.wide k hk
        split at q
        · injection q with q; subst q; rename_i hg
          rw [if_pos hg]
          exact hl.agg _ (by simp only [List.length_map, List.length_take, List.length_drop]; omega) (fun j hj => by
            rw [getD_map' _ _ _ D.nilp _ (by simp only [List.length_take, List.length_drop]; omega), getD_take _ _ _ _ hj, getD_drop])
        · rename_i hg
          rw [if_neg hg]
          split at q
          · injection q with q; subst q; rename_i h1; subst h1
            exact hl.single
          · simp at q
      · simp at q
    split at h
    · rename_i z' xs hb; exact key z' xs (.inl hb) h
    · rename_i z' xs hb; exact key z' xs (.inr hb) h
    · simp at h
  · rename_i cs c
    split at h
    · rename_i hn
      have hl := leads_cpt hn hv
      split at h
      · injection h with h; subst h; rename_i hg
        rw [if_pos hg]
        exact hl.agg _ (by simp; omega) (fun j hj => by
            rw [getD_map' _ _ _ D.nilp _ (by simp; omega), getD_take _ _ _ _ hj, getD_drop])
      · rename_i hg
        rw [if_neg hg]
        split at h
        · injection h with h; subst h; rename_i h1; subst h1
          exact hl.single
        · simp at h
    · simp at h
  · simp at h

theorem list_of_getD {us : List Value} {n : Nat} {a : Addr} (hl : us.length = n) (hc : ∀ j, j < n → w.cell? (a.add j) = some (us.getD j undef)) :
    ∀ (j : Nat) (v : Value), us[j]? = some v → w.cell? (a.add j) = some v := by
  intro j v hj
  have : j < us.length := (List.getElem?_eq_some_iff.1 hj).1
  rw [hc j (by omega), List.getD_eq_getElem?_getD, hj]; rfl

/-- A value's cells. -/
theorem cells_sound {x : AV} {v : Value} {vs : List AV} (hv : VR w S ρ x v) (h : x.cells = some vs) :
    v.cells.size = vs.length ∧ (∀ j, j < vs.length → one (v.cells.getD j undef) = true) ∧ ∀ j, j < vs.length → VR w S ρ (vs.getD j .unk) (v.cells.getD j undef) := by
  have single : ∀ (x : AV) (v : Value), VR w S ρ x v → one v = true → v.cells = #[v] →
      v.cells.size = [x].length ∧ (∀ j, j < [x].length → one (v.cells.getD j undef) = true) ∧ ∀ j, j < [x].length → VR w S ρ ([x].getD j .unk) (v.cells.getD j undef) := by
    intro x v hv h1 h2
    rw [h2]
    refine ⟨rfl, fun j hj => ?_, fun j hj => ?_⟩ <;> (simp at hj; subst hj)
    · exact h1
    · exact hv
  cases hv with
  | unk v => simp [AV.cells] at h
  | d x v hd =>
    cases hd with
    | agg cs us hl ho hh =>
      simp only [AV.cells, Option.some.injEq] at h
      subst h
      refine ⟨by simp [Value.cells, hl], fun j hj => ho j (by simpa using hj), fun j hj => ?_⟩
      have hj' : j < cs.length := by simpa using hj
      rw [getD_map' _ _ _ D.nilp _ hj']
      exact .d _ _ (hh j hj')
    | _ =>
      simp only [AV.cells, Option.some.injEq] at h
      subst h
      refine single _ _ (.d _ _ ?_) rfl rfl
      constructor <;> assumption
  | agg cs us hl ho hh =>
    simp only [AV.cells, Option.some.injEq] at h
    subst h
    exact ⟨hl.symm, ho, hh⟩
  | tup => simp [AV.cells] at h
  | ptr => simp only [AV.cells, Option.some.injEq] at h; subst h; exact single _ _ (by constructor; assumption) rfl rfl
  | ept => simp only [AV.cells, Option.some.injEq] at h; subst h; exact single _ _ (by constructor; assumption) rfl rfl
  | cpt _ _ _ _ _ h1 h2 h3 => simp only [AV.cells, Option.some.injEq] at h; subst h; exact single _ _ (.cpt _ _ _ _ _ h1 h2 h3) rfl rfl
  | own _ _ _ _ _ _ _ h1 h2 h3 => simp only [AV.cells, Option.some.injEq] at h; subst h; exact single _ _ (.own _ _ _ _ _ _ _ h1 h2 h3) rfl rfl
  | clo _ _ _ _ _ h1 h2 h3 h4 => simp only [AV.cells, Option.some.injEq] at h; subst h; exact single _ _ (.clo _ _ _ _ _ h1 h2 h3 h4) rfl rfl
  | ifc _ _ _ h1 => simp only [AV.cells, Option.some.injEq] at h; subst h; exact single _ _ (.ifc _ _ _ h1) rfl rfl
  | mref _ _ h1 => simp only [AV.cells, Option.some.injEq] at h; subst h; exact single _ _ (.mref _ _ h1) rfl rfl
end
end Go.Ev
