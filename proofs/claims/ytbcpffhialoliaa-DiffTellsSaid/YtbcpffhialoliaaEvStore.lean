/- Stores. Own work. -/
import Derived.Test.YtbcpffhialoliaaEvLoad
namespace Go.Ev
open Go
set_option linter.unusedVariables false
set_option linter.unusedSimpArgs false

def putV (c : Array Value) (o : Nat) : List Value → Array Value
  | [] => c
  | v :: vs => putV (c.setIfInBounds o v) (o + 1) vs
theorem putV_size (vs : List Value) : ∀ (c : Array Value) (o : Nat), (putV c o vs).size = c.size := by
  induction vs with
  | nil => intro c o; rfl
  | cons v vs ih => intro c o; rw [putV, ih]; simp
theorem putV_getD (vs : List Value) : ∀ (c : Array Value) (o : Nat), o + vs.length ≤ c.size → ∀ j, (putV c o vs).getD j undef = if o ≤ j ∧ j < o + vs.length then vs.getD (j - o) undef else c.getD j undef := by
  induction vs with
  | nil => intro c o _ j; rw [putV, if_neg (by simp only [List.length_nil]; omega)]
  | cons v vs ih =>
    intro c o h j
    simp only [List.length_cons] at h
    rw [putV, ih _ _ (by simp; omega)]
    by_cases h1 : o + 1 ≤ j ∧ j < o + 1 + vs.length
    · rw [if_pos h1, if_pos (by simp; omega)]
      rw [show j - o = (j - (o + 1)) + 1 from by omega]
      simp [List.getD_eq_getElem?_getD]
    · rw [if_neg h1]
      by_cases h2 : j = o
      · subst h2
        rw [if_pos (by simp)]
        have : j < c.size := by omega
        simp [Array.getD, this]
      · rw [if_neg (by simp; omega)]
        simp only [Array.getD]
        by_cases h3 : j < c.size
        · simp [h3, Array.getElem_setIfInBounds, show ¬ o = j from by omega]
        · simp [h3]
theorem putCells_length (vs : List AV) : ∀ (cs : List AV) (o : Nat), (putCells cs o vs).length = cs.length := by
  induction vs with
  | nil => intro c o; rfl
  | cons v vs ih => intro c o; rw [putCells, ih]; simp
theorem putCells_getD (vs : List AV) : ∀ (cs : List AV) (o : Nat), o + vs.length ≤ cs.length → ∀ j, (putCells cs o vs).getD j .unk = if o ≤ j ∧ j < o + vs.length then vs.getD (j - o) .unk else cs.getD j .unk := by
  induction vs with
  | nil => intro c o _ j; rw [putCells, if_neg (by simp only [List.length_nil]; omega)]
  | cons v vs ih =>
    intro c o h j
    simp only [List.length_cons] at h
    rw [putCells, ih _ _ (by simp; omega)]
    by_cases h1 : o + 1 ≤ j ∧ j < o + 1 + vs.length
    · rw [if_pos h1, if_pos (by simp; omega)]
      rw [show j - o = (j - (o + 1)) + 1 from by omega]
      simp [List.getD_eq_getElem?_getD]
    · rw [if_neg h1]
      rw [getD_set_eq]
      by_cases h2 : o = j
      · subst h2
        rw [if_pos (by omega), if_pos (by simp)]
        simp [List.getD_eq_getElem?_getD]
      · rw [if_neg (by omega), if_neg (by simp; omega)]

section
variable {w : World} {S : Sta} {ρ : Pos} {H : Heap} {P : Program}

theorem setCell_blk {g o : Nat} {c : Array Value} {e : TypeId} {fz : Nat × Nat} (hg : w.heap[g]? = some (.cells c e fz)) (v : Value) :
    w.setCell ⟨g, o, none⟩ v = setBlk w g (.cells (c.setIfInBounds o v) e fz) := by
  have hs := (Array.getElem?_eq_some_iff.1 hg).1
  have hv := (Array.getElem?_eq_some_iff.1 hg).2
  simp only [World.setCell, setBlk]
  congr 1
  apply Array.ext_getElem?
  intro k
  rw [Array.getElem?_modify, Array.getElem?_setIfInBounds]
  by_cases hk : g = k
  · subst hk
    rw [if_pos rfl, if_pos rfl, hg, if_pos hs]; rfl
  · rw [if_neg hk, if_neg hk]
theorem setBlk_setBlk (g : Nat) (o p : Obj) : setBlk (setBlk w g o) g p = setBlk w g p := by
  simp only [setBlk]
  congr 1
  apply Array.ext_getElem?
  intro k
  rw [Array.getElem?_setIfInBounds, Array.getElem?_setIfInBounds, Array.getElem?_setIfInBounds]
  simp only [Array.size_setIfInBounds]
  by_cases hk : g = k
  · rw [if_pos hk, if_pos hk]
  · rw [if_neg hk, if_neg hk, if_neg hk]
theorem setBlk_self {g : Nat} {o : Obj} (h : w.heap[g]? = some o) : setBlk w g o = w := by
  have hs := (Array.getElem?_eq_some_iff.1 h).1
  have : w.heap.setIfInBounds g o = w.heap := by
    apply Array.ext_getElem?
    intro k
    rw [Array.getElem?_setIfInBounds]
    by_cases hk : g = k
    · subst hk; rw [if_pos rfl, if_pos hs, h]
    · rw [if_neg hk]
  cases w; simp_all [setBlk]

theorem run_store_one {g o : Nat} {c : Array Value} {e : TypeId} {fz : Nat × Nat} (hg : w.heap[g]? = some (.cells c e fz)) (hfz : Thaw fz c.size) (ho : o < c.size) {v : Value} (h1 : one v = true) {α : Type} (k : Sem α) :
    (Sem.store .plain ⟨g, o, none⟩ v k).run P w = k.run P (setBlk w g (.cells (c.setIfInBounds o v) e fz)) := by
  have hc := cell_at hg ho
  have hf := not_frozen (o := o) hg hfz ho
  rw [← setCell_blk hg v]
  cases v with
  | agg cs => simp [one] at h1
  | tuple cs => simp [one] at h1
  | _ => simp [Sem.run, hc, hf]

theorem run_storeCells (vs : List Value) : ∀ (w : World) (g o i : Nat) (c : Array Value) (e : TypeId) (fz : Nat × Nat), w.heap[g]? = some (.cells c e fz) → Thaw fz c.size → o + i + vs.length ≤ c.size → (∀ v ∈ vs, one v = true) →
    (storeCells ⟨g, o, none⟩ vs i).run P w = .ok () (setBlk w g (.cells (putV c (o + i) vs) e fz)) := by
  induction vs with
  | nil => intro w g o i c e fz hg _ _ _; simp only [storeCells, putV]; rw [setBlk_self hg]; rfl
  | cons v vs ih =>
    intro w g o i c e fz hg hfz hf h1
    simp only [List.length_cons] at hf
    have : (storeCells ⟨g, o, none⟩ (v :: vs) i) = Sem.store .plain ⟨g, o + i, none⟩ v (storeCells ⟨g, o, none⟩ vs (i + 1)) := by
      rw [storeCells, addr_add]; rfl
    rw [this, run_store_one hg hfz (by omega) (h1 v (by simp))]
    rw [ih _ g o (i + 1) (c.setIfInBounds (o + i) v) e fz (setBlk_same hg) (by simpa using hfz) (by simp; omega) (fun u hu => h1 u (by simp [hu])), setBlk_setBlk]
    rw [putV, show o + (i + 1) = o + i + 1 from by omega]

theorem plainD_spec : ∀ {vs : List AV} {ds : List D}, boxOf.plainD vs = some ds → vs = ds.map .d
  | [], ds, h => by simp [boxOf.plainD] at h; subst h; rfl
  | x :: vs, ds, h => by
    cases x with
    | d y =>
      simp only [boxOf.plainD, Option.map_eq_some_iff] at h
      obtain ⟨l, h1, rfl⟩ := h
      rw [plainD_spec h1]; rfl
    | _ => simp [boxOf.plainD] at h

theorem VR.dr {x : D} {v : Value} (h : VR w S ρ (.d x) v) : DR w S x v := by cases h; assumption

theorem toList_getD (c : Array Value) (j : Nat) : c.toList.getD j undef = c.getD j undef := by
  by_cases h : j < c.size
  · simp [Array.getD, List.getD_eq_getElem?_getD, h]
  · simp [Array.getD, List.getD_eq_getElem?_getD, h]
theorem ones_mem {v : Value} {n : Nat} (hs : v.cells.size = n) (ho : ∀ j, j < n → one (v.cells.getD j undef) = true) : ∀ u ∈ v.cells.toList, one u = true := by
  intro u hu
  obtain ⟨j, hj, rfl⟩ := List.mem_iff_getElem.1 hu
  have := ho j (by simp at hj; omega)
  rw [← toList_getD] at this
  simpa [List.getD_eq_getElem?_getD, List.getElem?_eq_getElem hj] using this

theorem getD_app3 {α : Type} (a b c : List α) (n j : Nat) (d : α) : ((a ++ b) ++ c).getD j d = if j < a.length then a.getD j d else if j < a.length + b.length then b.getD (j - a.length) d else c.getD (j - a.length - b.length) d := by
  simp only [List.getD_eq_getElem?_getD]
  by_cases h1 : j < a.length
  · rw [if_pos h1, List.append_assoc, List.getElem?_append_left h1]
  · rw [if_neg h1, List.append_assoc, List.getElem?_append_right (by omega)]
    by_cases h2 : j < a.length + b.length
    · rw [if_pos h2, List.getElem?_append_left (by omega)]
    · rw [if_neg h2, List.getElem?_append_right (by omega)]

/-- Cells with some put over them, as data. -/
theorem putD_getD (cs ds : List D) (o n j : Nat) (hn : ds.length = n) (ho : o + n ≤ cs.length) :
    (cs.take o ++ ds ++ cs.drop (o + n)).getD j .nilp = if o ≤ j ∧ j < o + n then ds.getD (j - o) .nilp else cs.getD j .nilp := by
  rw [getD_app3 _ _ _ n]
  have h1 : (cs.take o).length = o := by simp; omega
  rw [h1, hn]
  by_cases h2 : j < o
  · rw [if_pos h2, if_neg (by omega), getD_take _ _ _ _ h2]
  · rw [if_neg h2]
    by_cases h3 : j < o + n
    · rw [if_pos h3, if_pos (by omega)]
    · rw [if_neg h3, if_neg (by omega), getD_drop, show o + n + (j - o - n) = j from by omega]
theorem putD_length (cs ds : List D) (o n : Nat) (hn : ds.length = n) (ho : o + n ≤ cs.length) : (cs.take o ++ ds ++ cs.drop (o + n)).length = cs.length := by
  simp [hn]; omega

/-- What a store does. -/
theorem storeA_sound (hr : Rel w S ρ H) {av x : AV} {cv xv : Value} {n : Nat} {H' : Heap} (hv : VR w S ρ av cv) (hx : VR w S ρ x xv) (h : storeA H av x n = some H') :
    xv.cells.size = n ∧ ∃ (a : Addr) (w' : World), cv = .pointer (some a) ∧ (storeCells a xv.cells.toList).run P w = .ok () w' ∧ Evo w S ρ H w' S ρ H' := by
  unfold storeA at h
  split at h
  · simp at h
  rename_i vs hvs
  obtain ⟨c1, c2, c3⟩ := cells_sound hx hvs
  split at h
  case isFalse => simp at h
  rename_i hn
  subst hn
  refine ⟨c1, ?_⟩
  have hone := ones_mem c1 c2
  have hlen : xv.cells.toList.length = vs.length := by simp [c1]
  split at h
  · rename_i i o
    split at h
    · rename_i cs hb
      split at h
      case isFalse => simp at h
      rename_i hf
      injection h with h; subst h
      have hbi := hr.blk i
      rw [hb] at hbi
      obtain ⟨g, c, e, fz, h1, ⟨h2, hfz⟩, h3, h4, h5, h6⟩ := hbi
      cases hv with
      | ptr _ _ g' β hp =>
        rw [h1] at hp; simp only [Option.some.injEq, Prod.mk.injEq] at hp; obtain ⟨rfl, rfl⟩ := hp
        refine ⟨_, _, rfl, run_storeCells _ w g (0 + o) 0 c e fz h2 hfz (by simp [c1]; omega) hone, ?_⟩
        refine evo_write hr (by rw [hb]; rfl) h1 h2 (fun c' e' f' he => ?_) h3 rfl (fun w' hw' hoth hown hbs => ?_)
        · injection he with he1 he2 he3; subst he1; subst he2; exact ⟨_, _, rfl, putV_size ..⟩
        · refine ⟨g, _, e, fz, h1, ⟨hown, by rw [putV_size]; exact hfz⟩, h3, by rw [putCells_length, putV_size]; exact h4, fun j hj => ?_, fun j hj => ?_⟩
          · rw [putCells_length] at hj
            rw [putV_getD _ _ _ (by simp [c1]; omega)]
            split
            · rw [toList_getD]; exact c2 _ (by simp at *; omega)
            · exact h5 j hj
          · rw [putCells_length] at hj
            rw [putV_getD _ _ _ (by simp [c1]; omega), putCells_getD _ _ _ hf]
            have hst : ∀ k, S k → w'.heap[k]? = w.heap[k]? := fun k hk => hoth k (fun e => h3 (e ▸ hk))
            by_cases hin : o ≤ j ∧ j < o + vs.length
            · rw [if_pos hin, if_pos (by simp [c1]; omega), toList_getD]
              rw [show j - (0 + o + 0) = j - o from by omega]
              exact (c3 _ (by omega)).mono (fun _ h => h) hst (fun _ _ h => h) hbs
            · rw [if_neg hin, if_neg (by simp [c1]; omega)]
              exact (h6 j hj).mono (fun _ h => h) hst (fun _ _ h => h) hbs
    · rename_i cs hb
      split at h
      case isFalse => simp at h
      rename_i hf
      have hbi := hr.blk i
      rw [hb] at hbi
      have hbp : ρ i ≠ none := by cases hv with | ptr _ _ g β h => rw [h]; simp
      obtain ⟨g, c, e, fz, h1, ⟨h2, hfz⟩, h3, h4, h5, h6⟩ := hbi.resolve_left hbp
      cases hv with
      | ptr _ _ g' β hp =>
        rw [h1] at hp; simp only [Option.some.injEq, Prod.mk.injEq] at hp; obtain ⟨rfl, rfl⟩ := hp
        refine ⟨_, _, rfl, run_storeCells _ w g (0 + o) 0 c e fz h2 hfz (by simp [c1]; omega) hone, ?_⟩
        split at h
        · rename_i ds hds
          injection h with h; subst h
          have hvd := plainD_spec hds
          have hdl : ds.length = vs.length := by rw [hvd]; simp
          refine evo_write hr (by rw [hb]; rfl) h1 h2 (fun c' e' f' he => ?_) h3 rfl (fun w' hw' hoth hown hbs => ?_)
          · injection he with he1 he2 he3; subst he1; subst he2; exact ⟨_, _, rfl, putV_size ..⟩
          · have hst : ∀ k, S k → w'.heap[k]? = w.heap[k]? := fun k hk => hoth k (fun e => h3 (e ▸ hk))
            refine .inr ⟨g, _, e, fz, h1, ⟨hown, by rw [putV_size]; exact hfz⟩, h3, by rw [putD_length _ _ _ _ hdl hf, putV_size]; exact h4, fun j hj => ?_, fun j hj => ?_⟩
            · rw [putD_length _ _ _ _ hdl hf] at hj
              rw [putV_getD _ _ _ (by simp [c1]; omega)]
              split
              · rw [toList_getD]; exact c2 _ (by simp at *; omega)
              · exact h5 j hj
            · rw [putD_length _ _ _ _ hdl hf] at hj
              rw [putV_getD _ _ _ (by simp [c1]; omega), putD_getD _ _ _ _ _ hdl hf]
              by_cases hin : o ≤ j ∧ j < o + vs.length
              · rw [if_pos hin, if_pos (by simp [c1]; omega), toList_getD]
                rw [show j - (0 + o + 0) = j - o from by omega]
                have := c3 (j - o) (by omega)
                rw [hvd, getD_map' _ _ _ D.nilp _ (by omega)] at this
                exact this.dr.mono (fun _ h => h) hst
              · rw [if_neg hin, if_neg (by simp [c1]; omega)]
                exact (h6 j hj).mono (fun _ h => h) hst
        · injection h with h; subst h
          have hml : (cs.map AV.d).length = cs.length := by simp
          refine evo_write hr (by rw [hb]; rfl) h1 h2 (fun c' e' f' he => ?_) h3 rfl (fun w' hw' hoth hown hbs => ?_)
          · injection he with he1 he2 he3; subst he1; subst he2; exact ⟨_, _, rfl, putV_size ..⟩
          · have hst : ∀ k, S k → w'.heap[k]? = w.heap[k]? := fun k hk => hoth k (fun e => h3 (e ▸ hk))
            refine ⟨g, _, e, fz, h1, ⟨hown, by rw [putV_size]; exact hfz⟩, h3, by rw [putCells_length, putV_size, hml]; exact h4, fun j hj => ?_, fun j hj => ?_⟩
            · rw [putCells_length, hml] at hj
              rw [putV_getD _ _ _ (by simp [c1]; omega)]
              split
              · rw [toList_getD]; exact c2 _ (by simp at *; omega)
              · exact h5 j hj
            · rw [putCells_length, hml] at hj
              rw [putV_getD _ _ _ (by simp [c1]; omega), putCells_getD _ _ _ (by rw [hml]; exact hf)]
              by_cases hin : o ≤ j ∧ j < o + vs.length
              · rw [if_pos hin, if_pos (by simp [c1]; omega), toList_getD]
                rw [show j - (0 + o + 0) = j - o from by omega]
                exact (c3 _ (by omega)).mono (fun _ h => h) hst (fun _ _ h => h) hbs
              · rw [if_neg hin, if_neg (by simp [c1]; omega), getD_map' _ _ _ D.nilp _ hj]
                exact .d _ _ ((h6 j hj).mono (fun _ h => h) hst)
    · simp at h
  · rename_i i z k cc
    split at h
    · rename_i z' xs hb
      split at h
      case isFalse => simp at h
      rename_i hf
      obtain ⟨rfl, hk, hf⟩ := hf
      split at h
      case h_2 => simp at h
      rename_i ds hds
      injection h with h; subst h
      have hvd := plainD_spec hds
      have hdl : ds.length = vs.length := by rw [hvd]; simp
      have hbi := hr.blk i
      rw [hb] at hbi
      cases hv with
      | ept _ _ _ _ g β hp =>
        obtain ⟨h3, c, e, fz, ⟨h2, hfz⟩, hrow⟩ := hbi.2 g β hp
        have hm := mul_lt hk hf
        have hfits := hrow.fits
        have hw := hrow.wide k hk
        refine ⟨_, _, rfl, run_storeCells _ w g (β + (k * z' + cc)) 0 c e fz h2 hfz (by simp [c1]; omega) hone, ?_⟩
        refine evo_write hr (by rw [hb]; rfl) hp h2 (fun c' e' f' he => ?_) h3 rfl (fun w' hw' hoth hown hbs => ?_)
        · injection he with he1 he2 he3; subst he1; subst he2; exact ⟨_, _, rfl, putV_size ..⟩
        · have hst : ∀ k, S k → w'.heap[k]? = w.heap[k]? := fun k hk => hoth k (fun e => h3 (e ▸ hk))
          refine ⟨fun hn => by rw [hn] at hp; simp at hp, fun g' β' hp' => ?_⟩
          rw [hp] at hp'; simp only [Option.some.injEq, Prod.mk.injEq] at hp'; obtain ⟨rfl, rfl⟩ := hp'
          refine ⟨h3, _, e, fz, ⟨hown, by rw [putV_size]; exact hfz⟩, ⟨by rw [putV_size]; simpa using hfits, fun q hq => ?_, fun q hq => ?_, fun q hq j hj => ?_⟩⟩
          · rw [getD_set_eq]
            by_cases e1 : k = q
            · rw [if_pos ⟨e1, hk⟩, putD_length _ _ _ _ hdl (by omega)]; exact hw
            · rw [if_neg (by omega)]; exact hrow.wide q (by simpa using hq)
          · rw [putV_getD _ _ _ (by simp [c1]; omega)]
            split
            · rw [toList_getD]; exact c2 _ (by simp at *; omega)
            · exact hrow.ones q (by simpa using hq)
          · simp only [List.length_set] at hq
            rw [putV_getD _ _ _ (by simp [c1]; omega), getD_set_eq]
            by_cases e1 : k = q
            · subst e1
              rw [if_pos ⟨rfl, hk⟩, putD_getD _ _ _ _ _ hdl (by omega)]
              by_cases hin : cc ≤ j ∧ j < cc + vs.length
              · rw [if_pos hin, if_pos (by simp [c1]; omega), toList_getD]
                rw [show β + (k * z' + j) - (β + (k * z' + cc) + 0) = j - cc from by omega]
                have := c3 (j - cc) (by omega)
                rw [hvd, getD_map' _ _ _ D.nilp _ (by omega)] at this
                exact this.dr.mono (fun _ h => h) hst
              · rw [if_neg hin, if_neg (by simp [c1]; omega)]
                exact (hrow.cell k hq j hj).mono (fun _ h => h) hst
            · rw [if_neg (by omega)]
              have hne : ¬ (β + (k * z' + cc) + 0 ≤ β + (q * z' + j) ∧ β + (q * z' + j) < β + (k * z' + cc) + 0 + xv.cells.toList.length) := by
                rw [hlen]
                rcases Nat.lt_or_gt_of_ne e1 with hlt | hlt
                · have : (k + 1) * z' ≤ q * z' := Nat.mul_le_mul_right z' hlt
                  rw [Nat.add_mul, Nat.one_mul] at this; omega
                · have : (q + 1) * z' ≤ k * z' := Nat.mul_le_mul_right z' hlt
                  rw [Nat.add_mul, Nat.one_mul] at this; omega
              rw [if_neg hne]
              exact (hrow.cell q hq j hj).mono (fun _ h => h) hst
    · simp at h
  · simp at h
end
end Go.Ev
