/- Literals, views, interfaces, equality. Own work. -/
import Derived.Test.YtbcpffhialoliaaEvApp
import Derived.ChangeKeysEq
namespace Go.Ev
open Go
set_option linter.unusedVariables false
set_option linter.unusedSimpArgs false
section
variable {w : World} {S : Sta} {ρ : Pos} {H : Heap} {P : Program}

/-- Cells that hold abstract cells. -/
structure AggR (w : World) (S : Sta) (ρ : Pos) (cs : List AV) (c : Array Value) : Prop where
  len : cs.length = c.size
  ones : ∀ j, j < cs.length → one (c.getD j undef) = true
  vr : ∀ j, j < cs.length → VR w S ρ (cs.getD j .unk) (c.getD j undef)

theorem AggR.put {cs : List AV} {c : Array Value} (h : AggR w S ρ cs c) {o : Nat} {vs : List AV} {v : Value} (hl : v.cells.size = vs.length) (ho : ∀ j, j < vs.length → one (v.cells.getD j undef) = true)
    (hv : ∀ j, j < vs.length → VR w S ρ (vs.getD j .unk) (v.cells.getD j undef)) (hf : o + vs.length ≤ cs.length) : AggR w S ρ (putCells cs o vs) (putV c o v.cells.toList) := by
  have hf' : o + v.cells.toList.length ≤ c.size := by have := h.len; simp [hl]; omega
  have hll : v.cells.toList.length = vs.length := by simp [hl]
  refine ⟨by rw [putCells_length, putV_size]; exact h.len, fun j hj => ?_, fun j hj => ?_⟩
  · rw [putCells_length] at hj
    rw [putV_getD _ _ _ hf', hll]
    split
    · rw [toList_getD]; exact ho _ (by omega)
    · exact h.ones j hj
  · rw [putCells_length] at hj
    rw [putV_getD _ _ _ hf', putCells_getD _ _ _ hf, hll]
    split
    · rw [toList_getD]; exact hv _ (by omega)
    · exact h.vr j hj

theorem fold_putV (l : List Value) : ∀ (k off : Nat) (c : Array Value), (l.zipIdx k).foldl (fun cs (x, j) => cs.setIfInBounds (off + j) x) c = putV c (off + k) l := by
  induction l with
  | nil => intro k off c; rfl
  | cons v l ih => intro k off c; rw [List.zipIdx_cons, List.foldl_cons, ih, putV, Nat.add_assoc]
theorem fold_putV_arr (v : Array Value) (off : Nat) (c : Array Value) : v.zipIdx.foldl (fun cs (x, j) => cs.setIfInBounds (off + j) x) c = putV c off v.toList := by
  have := fold_putV v.toList 0 off c
  rw [Nat.add_zero] at this
  rw [← this, ← Array.foldl_toList, Array.toList_zipIdx]

theorem fill_sound (place : Nat → Option (Nat × Nat)) : ∀ (ps : List (Nat × Value)) (qs : List (Nat × Nat × AV)) (c : Array Value) (cs out : List AV), ps.length = qs.length →
    (∀ k, k < ps.length → place (ps.getD k (0, undef)).1 = some ((qs.getD k (0, 0, .unk)).1, (qs.getD k (0, 0, .unk)).2.1) ∧ VR w S ρ (qs.getD k (0, 0, .unk)).2.2 (ps.getD k (0, undef)).2) →
    AggR w S ρ cs c → fillA cs qs = some out → ∃ c', Instr.fill place c ps = some c' ∧ AggR w S ρ out c'
  | [], [], c, cs, out, _, _, hc, h => by simp [fillA] at h; subst h; exact ⟨c, rfl, hc⟩
  | (i, v) :: ps, (off, n, x) :: qs, c, cs, out, hl, hp, hc, h => by
    simp only [fillA] at h
    split at h
    case h_2 => simp at h
    rename_i vs hvs
    split at h
    case isFalse => simp at h
    rename_i hn
    obtain ⟨rfl, hf⟩ := hn
    obtain ⟨p1, p2⟩ := hp 0 (by simp)
    simp only [List.getD_cons_zero] at p1 p2
    obtain ⟨c1, c2, c3⟩ := cells_sound p2 hvs
    have hput := hc.put c1 c2 c3 hf
    obtain ⟨c', e1, e2⟩ := fill_sound place ps qs _ _ out (by simpa using hl) (fun k hk => by simpa using hp (k + 1) (by simpa using hk)) hput h
    refine ⟨c', ?_, e2⟩
    have hlen := hc.len
    rw [Instr.fill, p1]
    simp only [c1, ne_eq, not_true_eq_false, decide_false, Bool.false_or, decide_eq_true_eq]
    rw [if_neg (by omega)]
    rw [fold_putV_arr]
    exact e1
  | [], _ :: _, _, _, _, hl, _, _, _ => by simp at hl
  | _ :: _, [], _, _, _, hl, _, _, _ => by simp at hl

theorem zeros_agg {v : Value} {zs : List D} (h : allO cD v.cells.toList = some zs) : AggR w S ρ (zs.map .d) v.cells := by
  obtain ⟨c1, c2, c3⟩ := cells_of_allO (w := w) (S := S) h
  refine ⟨by simp [c1], fun j hj => c2 j (by simpa using hj), fun j hj => ?_⟩
  have hj' : j < zs.length := by simpa using hj
  rw [getD_map' _ _ _ D.nilp _ hj']; exact .d _ _ (c3 j hj')

theorem AggR.toAgg {cs : List AV} {c : Array Value} (h : AggR w S ρ cs c) : VR w S ρ (.agg cs) (.agg c) := .agg _ _ h.len h.ones h.vr

/-! ### own slices seen as data -/
theorem freezeAll_length : ∀ (l : List Nat) (H : Heap), (freezeAll l H).length = H.length
  | [], H => rfl
  | i :: l, H => by rw [freezeAll, freezeAll_length]; simp
theorem freeze_frz {b : Blk} {z : Nat} {xs : List (List D)} (h : b = .frz z xs) : b.freeze = .frz z xs := by rw [h]; rfl
theorem freezeAll_keeps : ∀ (l : List Nat) (H : Heap) (i : Nat) (z : Nat) (xs : List (List D)), H.getD i .dead = .frz z xs → (freezeAll l H).getD i .dead = .frz z xs
  | [], H, i, z, xs, h => h
  | j :: l, H, i, z, xs, h => by
    rw [freezeAll]
    refine freezeAll_keeps l _ i z xs ?_
    rw [getD_set_eq]
    split
    · rename_i e; rw [e.1]; exact freeze_frz h
    · exact h
theorem freezeAll_mem : ∀ (l : List Nat) (H : Heap) (i : Nat) (z : Nat) (xs : List (List D)), i ∈ l → (H.getD i .dead = .arr z xs ∨ H.getD i .dead = .frz z xs) → (freezeAll l H).getD i .dead = .frz z xs
  | [], H, i, z, xs, hm, h => by simp at hm
  | j :: l, H, i, z, xs, hm, h => by
    rw [freezeAll]
    by_cases e : j = i
    · subst e
      have hl : j < H.length := by
        rcases Nat.lt_or_ge j H.length with hl | hl
        · exact hl
        · rw [getD_over H j _ hl] at h; simp at h
      refine freezeAll_keeps l _ j z xs ?_
      rw [getD_set_eq, if_pos ⟨rfl, hl⟩]
      rcases h with h | h <;> rw [h] <;> rfl
    · refine freezeAll_mem l _ i z xs (by simp at hm; rcases hm with rfl | hm; exact absurd rfl e; exact hm) ?_
      rw [getD_set_eq, if_neg (by omega)]; exact h

theorem freezeAll_keeps_m : ∀ (l : List Nat) (H : Heap) (i : Nat) (es : List (Int × D)), H.getD i .dead = .mfz es → (freezeAll l H).getD i .dead = .mfz es
  | [], H, i, es, h => h
  | j :: l, H, i, es, h => by
    rw [freezeAll]
    refine freezeAll_keeps_m l _ i es ?_
    rw [getD_set_eq]
    split
    · rename_i e; rw [e.1, h]; rfl
    · exact h
theorem freezeAll_mem_m : ∀ (l : List Nat) (H : Heap) (i : Nat) (es : List (Int × D)), i ∈ l → (H.getD i .dead = .mp es ∨ H.getD i .dead = .mfz es) → (freezeAll l H).getD i .dead = .mfz es
  | [], H, i, es, hm, h => by simp at hm
  | j :: l, H, i, es, hm, h => by
    rw [freezeAll]
    by_cases e : j = i
    · subst e
      have hl : j < H.length := by
        rcases Nat.lt_or_ge j H.length with hl | hl
        · exact hl
        · rw [getD_over H j _ hl] at h; simp at h
      refine freezeAll_keeps_m l _ j es ?_
      rw [getD_set_eq, if_pos ⟨rfl, hl⟩]
      rcases h with h | h <;> rw [h] <;> rfl
    · refine freezeAll_mem_m l _ i es (by simp at hm; rcases hm with rfl | hm; exact absurd rfl e; exact hm) ?_
      rw [getD_set_eq, if_neg (by omega)]; exact h

theorem own_view {H' : Heap} (hr : Rel w S ρ H') {i z o n : Nat} {k : Bool} {xs : List (List D)} (hb : H'.getD i .dead = .frz z xs) (hn : o + n ≤ xs.length) {v : Value} (hv : VR w S ρ (.own i z o n k) v) :
    DR w S (.list z ((xs.drop o).take n)) v := by
  cases hv with
  | own _ _ _ _ _ a cap b1 b2 b3 =>
    obtain ⟨e1, e2⟩ := rowdr_sub hn
    by_cases h0 : 0 < cap
    · obtain ⟨g, β, p1, rfl, p3⟩ := b3 h0
      have hbi := hr.blk i
      rw [hb] at hbi
      obtain ⟨hs, c, e, f, hg, hrow⟩ := hbi.2 g β p1
      have hfits := hrow.fits
      have hmul : o * z + n * z ≤ xs.length * z := by rw [← Nat.add_mul]; exact Nat.mul_le_mul_right z hn
      refine .list z _ _ _ _ g (β + o * z) (fun q => c.getD (β + (o * z + q)) undef) e1.symm (by omega) (fun _ => ⟨rfl, hs⟩) (fun q hq => ?_) (fun q hq => ?_) (fun q hq j hj => ?_)
      · rw [e1] at hq
        exact ⟨by rw [cell_at hg (by omega), Nat.add_assoc], hrow.ones _ (by omega)⟩
      · rw [e1] at hq; rw [e2 q hq]; exact hrow.wide _ (by omega)
      · rw [e1] at hq
        rw [e2 q hq]
        have := hrow.cell (o + q) (by omega) j hj
        rwa [Nat.add_mul, Nat.add_assoc] at this
    · have hn0 : n = 0 := by omega
      subst hn0
      have : (xs.drop o).take 0 = [] := by simp
      rw [this]
      exact .list z [] a 0 cap 0 0 (fun _ => undef) rfl (Nat.zero_le _) (by simp) (by simp) (by simp) (by simp)

theorem renL_map (f : Nat → Option Nat) (l : List AV) : AV.renL f l = l.map (AV.ren f) := by
  induction l with
  | nil => rfl
  | cons x l ih => rw [AV.renL, ih]; rfl
theorem viewL_map (H : Heap) (l : List AV) : AV.viewL H l = l.map (AV.view H) := by
  induction l with
  | nil => rfl
  | cons x l ih => rw [AV.viewL, ih]; rfl
theorem mem_ownsL {l : List AV} {i j : Nat} (hj : j < l.length) (h : i ∈ (l.getD j .unk).owns) : i ∈ AV.ownsL l := by
  induction l generalizing j with
  | nil => simp at hj
  | cons x l ih =>
    rw [AV.ownsL]
    cases j with
    | zero => simp at h; simp [h]
    | succ j => simp at h hj; simp; right; exact ih hj (by simpa [List.getD_eq_getElem?_getD] using h)

/-- What own slices are seen as, once they are never written again. -/
theorem view_sound {H' : Heap} (hr : Rel w S ρ H') {x : AV} {v : Value} (hv : VR w S ρ x v) (hf : ∀ i, i ∈ x.owns → (∀ z xs, (H.getD i .dead = .arr z xs ∨ H.getD i .dead = .frz z xs) → H'.getD i .dead = .frz z xs) ∧ ∀ es, (H.getD i .dead = .mp es ∨ H.getD i .dead = .mfz es) → H'.getD i .dead = .mfz es) :
    VR w S ρ (x.view H) v := by
  induction hv with
  | unk v => exact .unk v
  | d x v h => exact .d x v h
  | agg cs vs hl ho _ ih =>
    rw [AV.view, viewL_map]
    refine .agg _ _ (by simpa using hl) (fun j hj => ho j (by simpa using hj)) (fun j hj => ?_)
    have hj' : j < cs.length := by simpa using hj
    rw [getD_map' _ _ _ AV.unk _ hj']
    exact ih j hj' (fun i hi => hf i (mem_ownsL hj' hi))
  | tup cs vs hl _ ih =>
    rw [AV.view, viewL_map]
    refine .tup _ _ (by simpa using hl) (fun j hj => ?_)
    have hj' : j < cs.length := by simpa using hj
    rw [getD_map' _ _ _ AV.unk _ hj']
    exact ih j hj' (fun i hi => hf i (mem_ownsL hj' hi))
  | ptr i o g β h => exact .ptr i o g β h
  | ept i z k c g β h => exact .ept i z k c g β h
  | cpt cs c b o f h1 h2 h3 => exact .cpt cs c b o f h1 h2 h3
  | own i z o n k a cap h1 h2 h3 =>
    have hv : VR w S ρ (.own i z o n k) (.slice a n cap) := .own i z o n k a cap h1 h2 h3
    rw [AV.view]
    split
    · rename_i z' xs hb
      split
      · rename_i hc
        obtain ⟨rfl, hn⟩ := hc
        exact .d _ _ (own_view hr ((hf i (by simp [AV.owns])).1 _ _ (.inl hb)) hn hv)
      · exact hv
    · rename_i z' xs hb
      split
      · rename_i hc
        obtain ⟨rfl, hn⟩ := hc
        exact .d _ _ (own_view hr ((hf i (by simp [AV.owns])).1 _ _ (.inr hb)) hn hv)
      · exact hv
    · exact hv
  | clo f a b va vb h1 h2 h3 h4 _ _ => exact .clo f a b va vb h1 h2 h3 h4
  | ifc t x v _ ih => exact .ifc t _ v (ih fun i hi => hf i hi)
  | mref i g h =>
    have hv : VR w S ρ (.mref i) (.map (some g)) := .mref i g h
    have key : ∀ es, H'.getD i .dead = .mfz es → VR w S ρ (.d (.mapv es)) (.map (some g)) := fun es hb => by
      have hbl := hr.blk i
      rw [hb] at hbl
      obtain ⟨g', ents, clk, cs, h1, h2, h3, h4, h5⟩ := hbl
      rw [h] at h1
      injection h1 with h1; injection h1 with h1 _
      subst h1
      exact .d _ _ (.mapv es g ents clk cs h3 h2 h4 h5.key h5.val)
    rw [AV.view]
    split
    · rename_i es hb; exact key es ((hf i (by simp [AV.owns])).2 es (.inl hb))
    · rename_i es hb; exact key es ((hf i (by simp [AV.owns])).2 es (.inr hb))
    · exact hv

/-! ### literals -/
theorem gives_build (hr : Rel w S ρ H) {t : TypeId} {zs : List D} (hz : zerosOf P t = some zs) {ps : Array (Nat × Value)} {qs : List (Nat × Nat × AV)} {out : List AV} {place : Nat → Option (Nat × Nat)}
    (hl : ps.size = qs.length) (hp : ∀ k, k < ps.size → place (ps.toList.getD k (0, undef)).1 = some ((qs.getD k (0, 0, .unk)).1, (qs.getD k (0, 0, .unk)).2.1) ∧ VR w S ρ (qs.getD k (0, 0, .unk)).2.2 (ps.toList.getD k (0, undef)).2)
    (h : fillA (zs.map .d) qs = some out)
    (hrun : ∀ (zv : Value) (c : Array Value), (zeroValue t).run P w = .ok zv w → Instr.fill place zv.cells ps.toList = some c → (Instr.build t ps).run P w = .ok (.agg c) w) :
    Gives P w S ρ H (.agg out) H (Instr.build t ps) := by
  obtain ⟨i, zv, hi, hzv, hzl, hza⟩ := zerosOf_spec hz
  obtain ⟨c, e1, e2⟩ := fill_sound place ps.toList qs zv.cells (zs.map .d) out (by simpa using hl) (fun k hk => hp k (by simpa using hk)) (zeros_agg hza) h
  exact gives_same hr (hrun zv c (run_zeroValue hi hzv) e1) e2.toAgg

theorem rep_getD {α : Type} (zs : List α) (d : α) : ∀ (n j : Nat), j < n * zs.length → ((List.replicate n zs).flatten).getD j d = zs.getD (j % zs.length) d
  | 0, j, h => by simp at h
  | n + 1, j, h => by
    rw [List.replicate_succ, List.flatten_cons, getD_app]
    by_cases hj : j < zs.length
    · rw [if_pos hj, Nat.mod_eq_of_lt hj]
    · rw [if_neg hj, rep_getD zs d n (j - zs.length) (by rw [Nat.add_mul, Nat.one_mul] at h; omega)]
      congr 1
      exact (Nat.mod_eq_sub_mod (by omega)).symm
theorem rep_length {α : Type} (zs : List α) (n : Nat) : ((List.replicate n zs).flatten).length = n * zs.length := by simp

theorem rows_length (z : Nat) : ∀ (n : Nat) (l : List D), (rows z n l).length = n
  | 0, l => rfl
  | n + 1, l => by rw [rows, List.length_cons, rows_length]
theorem rows_getD (z : Nat) : ∀ (n : Nat) (l : List D) (k : Nat), k < n → (rows z n l).getD k [] = (l.drop (k * z)).take z
  | 0, l, k, h => by omega
  | n + 1, l, k, h => by
    rw [rows]
    cases k with
    | zero => simp
    | succ k =>
      rw [List.getD_cons_succ, rows_getD z n _ k (by omega), List.drop_drop, Nat.add_mul, Nat.one_mul, Nat.add_comm]

theorem plainD_get {cs : List AV} {ds : List D} (h : boxOf.plainD cs = some ds) : cs.length = ds.length ∧ ∀ j, j < ds.length → cs.getD j .unk = .d (ds.getD j .nilp) := by
  have := plainD_spec h
  subst this
  exact ⟨by simp, fun j hj => by rw [getD_map' _ _ _ D.nilp _ hj]⟩

/-- A new row for an own slice whose cells are these. -/
theorem gives_row (hr : Rel w S ρ H) (e : TypeId) {z n : Nat} {ds : List D} {c : Array Value} (hl : ds.length = n * z) (hc : c.size = n * z) (ho : ∀ j, j < n * z → one (c.getD j undef) = true)
    (hd : ∀ j, j < n * z → DR w S (ds.getD j .nilp) (c.getD j undef)) (kk : Bool) {s : Sem Value}
    (hs : s.run P w = .ok (.slice (some ⟨w.heap.size, 0, none⟩) n n) (w.alloc (.cells c e (0, 0)))) : Gives P w S ρ H (.own H.length z 0 n kk) (H ++ [.arr z (rows z n ds)]) s := by
  have hrow : RowR w S c 0 z (rows z n ds) := by
    refine ⟨by rw [rows_length]; omega, fun k hk => ?_, fun k hk => ?_, fun k hk j hj => ?_⟩
    · rw [rows_length] at hk
      have := mul_lt (c := 0) (m := z) (z := z) hk (by omega)
      rw [rows_getD _ _ _ _ hk]; simp; omega
    · rw [rows_length] at hk; rw [Nat.zero_add]; exact ho k hk
    · rw [rows_length] at hk
      have := mul_lt (c := j) (m := 1) (z := z) hk (by omega)
      rw [rows_getD _ _ _ _ hk, getD_take _ _ _ _ hj, getD_drop, Nat.zero_add]; exact hd _ (by omega)
  exact ⟨_, _, _, _, hs, evo_row hr e hrow (thaw_zero _), own_new (by omega) (Nat.le_refl _) kk (fun _ => rfl)⟩

theorem rows_bytes (b : List UInt8) : rows 1 b.length (b.map fun c => D.int .u8 c.toNat) = b.map fun c => [D.int .u8 c.toNat] := by
  induction b with
  | nil => rfl
  | cons c b ih => simp only [List.length_cons, rows, List.map_cons]; simp [ih]

theorem freeze_alloc (c : Array Value) (e : TypeId) : ((w.alloc (.cells c e (0, 0))).freeze ⟨w.heap.size, c.size, none⟩ 1) = w.alloc (.cells c e (c.size, c.size + 1)) := by
  simp only [World.freeze]
  rw [if_neg (by omega)]
  simp only [World.alloc]
  congr 1
  apply Array.ext_getElem?
  intro k
  rw [Array.getElem?_modify, Array.getElem?_push, Array.getElem?_push]
  by_cases hk : k = w.heap.size
  · subst hk; simp
  · rw [if_neg (by omega), if_neg hk, if_neg hk]

theorem gives_s2b (hr : Rel w S ρ H) {s t e : TypeId} (hs : P.underlying s = some .string) (ht : P.underlying t = some (.slice e)) (he : P.underlying e = some (.int .u8)) {x : AV} {v : Value} {b : List UInt8}
    (hv : VR w S ρ x v) (h : x.asStr = some b) : Gives P w S ρ H (.own H.length 1 0 b.length false) (H ++ [.arr 1 (b.map fun c => [.int .u8 c.toNat])]) (convert s t v) := by
  rw [asStr_inv hv h]
  let q := Question.appendCap b.length 0 e
  let cap := q.cut (w.tape w.drawn q)
  have hcap : b.length ≤ cap := by
    show b.length ≤ Question.cut _ _
    simp only [q, Question.cut]; omega
  have hch : (choose (Question.appendCap b.length 0 e)).run P w = .ok cap w.drew := by
    simp [choose, Sem.run, Question.forced, cap, q]
  let c : Array Value := (b.toArray.map fun b => Value.int .u8 b.toNat) ++ Array.replicate (cap - b.length) (.int .u8 0)
  have hcs : c.size = cap * 1 := by simp [c]; omega
  have hcg : ∀ k, k < b.length → c.getD k undef = .int .u8 (b.getD k 0).toNat := by
    intro k hk
    rw [← toList_getD]
    simp only [c, Array.toList_append, Array.toList_map, List.toList_toArray]
    rw [getD_app, if_pos (by simpa using hk), getD_map' _ _ _ (0 : UInt8) _ hk]
  have ed := evo_draw hr
  have hrow : RowR w.drew S c 0 1 (b.map fun c => [D.int .u8 c.toNat]) := by
    refine ⟨by simp [hcs]; omega, fun k hk => ?_, fun k hk => ?_, fun k hk j hj => ?_⟩
    · rw [getD_map' _ _ _ (0 : UInt8) _ (by simpa using hk)]; rfl
    · rw [Nat.zero_add, hcg k (by simpa using hk)]; rfl
    · have hk' : k < b.length := by simpa using hk
      have hj' : j = 0 := by omega
      subst hj'
      rw [getD_map' _ _ _ (0 : UInt8) _ hk', Nat.zero_add, Nat.mul_one, Nat.add_zero, hcg k hk']
      exact .int ..
  have hfz : Thaw (c.size, c.size + 1) c.size := ⟨Nat.le_succ _, fun o ho => by simp; omega⟩
  refine ⟨.slice (some ⟨w.heap.size, 0, none⟩) b.length cap, w.drew.alloc (.cells c e (c.size, c.size + 1)), S, _, ?_, ed.trans (evo_row ed.rel e hrow hfz), own_new (w := w.drew) hcs hcap false (by simp)⟩
  have hsz : (ByteArray.mk b.toArray).size = b.length := by simp [ByteArray.size]
  have hmk : (markStringish ⟨w.heap.size, 0, none⟩).run P (w.drew.alloc (.cells c e (0, 0))) = .ok () (w.drew.alloc (.cells c e (c.size, c.size + 1))) := by
    have hsh : (w.drew.alloc (.cells c e (0, 0))).shape? w.heap.size = some (e, c.size) := by
      have := alloc_new (w := w.drew) (.cells c e (0, 0))
      simp only [World.shape?]
      rw [show w.heap.size = w.drew.heap.size from rfl, this]
    have := freeze_alloc (w := w.drew) c e
    simp only [markStringish, Sem.run_bind, shape, Sem.run, hsh, Sem.run_pure', Result.andThen_ok, freeze]
    rw [← this]; rfl
  simp only [convert, Sem.run_bind, run_underlying hs, run_underlying ht, run_underlying he, Result.andThen_ok, Conv.stringToBytes, hsz, hch, newRow, newObj, Sem.run, Sem.run_pure', Sem.run_pure]
  exact (congrArg (fun r => Result.andThen r fun a w => Result.ok (Value.slice (some ⟨_, 0, none⟩) b.length cap) w) hmk)

theorem bytesOf_spec : ∀ {xs : List (List D)} {s : List UInt8}, evO.bytesOf xs = some s → ∃ ns : List Int, xs = ns.map (fun n => [D.int .u8 n]) ∧ s = ns.map fun n => UInt8.ofNat n.toNat
  | [], s, h => by simp [evO.bytesOf] at h; subst h; exact ⟨[], rfl, rfl⟩
  | [.int .u8 n] :: l, s, h => by
    simp only [evO.bytesOf] at h
    split at h
    · rename_i s' hs'
      split at h
      · injection h with h; subst h
        obtain ⟨ns, h1, h2⟩ := bytesOf_spec hs'
        exact ⟨n :: ns, by simp [h1], by simp [h2]⟩
      · simp at h
    · simp at h

theorem foldl_push (ns : List Int) : ∀ (a : ByteArray), (ns.foldl (fun r n => r.push (UInt8.ofNat n.toNat)) a) = ⟨a.data ++ (ns.map fun n => UInt8.ofNat n.toNat).toArray⟩ := by
  induction ns with
  | nil => intro a; simp
  | cons n ns ih =>
    intro a
    rw [List.foldl_cons, ih]
    simp [ByteArray.push]

theorem gives_b2s (hr : Rel w S ρ H) {s t e : TypeId} (hs : P.underlying s = some (.slice e)) (ht : P.underlying t = some .string) (he : P.underlying e = some (.int .u8)) {x : AV} {v : Value} {xs : List (List D)} {b : List UInt8}
    (hv : VR w S ρ x v) (h : tailA H 1 x = some xs) (hnos : ∀ s, x ≠ .d (.str s)) (h2 : evO.bytesOf xs = some b) : Gives P w S ρ H (.d (.str b)) H (convert s t v) := by
  obtain ⟨ns, rfl, rfl⟩ := bytesOf_spec h2
  obtain ⟨hlen, cs, hcs, hc⟩ := tailA_sound (P := P) hr hv h
  have hsl : ∃ a n cap, v = .slice a n cap := by
    unfold tailA at h
    split at h
    · cases hv.dr; exact ⟨_, _, _, rfl⟩
    · cases hv.dr; exact ⟨_, _, _, rfl⟩
    · cases hv.dr; exact ⟨_, _, _, rfl⟩
    · exact absurd rfl (hnos _)
    · cases hv; exact ⟨_, _, _, rfl⟩
    · simp at h
  obtain ⟨a, n, cap, rfl⟩ := hsl
  have hn : n = ns.length := by
    simp only [Builtin.lenOf, Sem.run_pure, List.length_map, Result.ok.injEq, and_true] at hlen; exact hlen
  subst hn
  refine gives_dat hr ?_ (.str _)
  have hcl : cs.length = ns.length := by have := hc.size; simpa using this
  have hcv : cs = ns.map (Value.int .u8) := by
    apply List.ext_getElem?
    intro k
    by_cases hk : k < ns.length
    · have h1 := hc.cell k (by simpa using hk) 0 (by omega)
      rw [getD_arr, Nat.mul_one, Nat.add_zero, getD_map' _ _ _ (0 : Int) _ hk] at h1
      simp only [List.getD_cons_zero] at h1
      have h2 : cs.getD k undef = .int .u8 (ns.getD k 0) := by
        generalize cs.getD k undef = V at h1 ⊢
        cases h1; rfl
      rw [List.getD_eq_getElem?_getD, List.getElem?_eq_getElem (by omega)] at h2
      rw [List.getElem?_eq_getElem (by omega), List.getElem?_map, List.getElem?_eq_getElem hk]
      simp only [Option.getD_some, List.getD_eq_getElem?_getD, List.getElem?_eq_getElem hk] at h2
      rw [h2]; rfl
    · rw [List.getElem?_eq_none (by omega), List.getElem?_eq_none (by simp; omega)]
  rw [run_convert_bytes_string w s t e a _ cap hs he ht]
  cases a with
  | none =>
    have hz : ns = [] := by
      have : (Builtin.firstCells 1 ns.length (.slice none ns.length cap)).run P w = .ok (#[] : Array Value) w := rfl
      have h3 : (Builtin.firstCells 1 ns.length (.slice none ns.length cap)).run P w = .ok cs.toArray w := by simpa using hcs
      rw [this] at h3
      simp only [Result.ok.injEq, and_true] at h3
      have : cs = [] := by simpa using h3.symm
      exact List.eq_nil_of_length_eq_zero (by rw [← hcl, this]; rfl)
    subst hz
    simp [Conv.bytesToString]
    rfl
  | some ad =>
    have hl : (loadCells ad ns.length).run P w = .ok (ns.map (Value.int .u8)).toArray w := by
      have h3 : (Builtin.firstCells 1 ns.length (.slice (some ad) ns.length cap)).run P w = .ok cs.toArray w := by simpa using hcs
      rw [← hcv]
      simpa [Builtin.firstCells] using h3
    rw [run_bytesToString w ad ns.length cap ns hl, foldl_push]
    have : ByteArray.empty.data = (#[] : Array UInt8) := rfl
    rw [this]
    simp

theorem gives_mi (hr : Rel w S ρ H) {t : TypeId} {d : TypeDesc} (hu : P.underlying t = some d) (hd : ∀ ms, d ≠ .interface ms) {x : AV} {v : Value} (hv : VR w S ρ x v) : Gives P w S ρ H (.ifc t x) H (Instr.makeInterface t v) := by
  refine gives_same hr ?_ (.ifc t x v hv)
  simp only [Instr.makeInterface, Sem.run_bind, run_underlying hu, Result.andThen_ok]
  cases d <;> first | rfl | exact absurd rfl (hd _)

/-! ### equality -/
theorem sameD_split : ∀ (ks ls : List Nat) {xs ys : List D} {b : Bool}, sameD (ks ++ ls) xs ys = some b →
    ∃ a c, sameD ks (xs.take ks.length) (ys.take ks.length) = some a ∧ sameD ls (xs.drop ks.length) (ys.drop ks.length) = some c ∧ b = (a && c)
  | [], ls, xs, ys, b, h => ⟨true, b, by simp [sameD], by simpa using h, by simp⟩
  | k :: ks, ls, x :: xs, y :: ys, b, h => by
    simp only [List.cons_append, sameD] at h
    split at h
    · rename_i a c ha hc
      obtain ⟨a', c', h1, h2, h3⟩ := sameD_split ks ls hc
      injection h with h
      refine ⟨a && a', c', by simp [sameD, ha, h1], by simpa using h2, by rw [← h, h3, Bool.and_assoc]⟩
    · simp at h
  | k :: ks, ls, [], ys, b, h => by simp [sameD] at h
  | k :: ks, ls, x :: xs, [], b, h => by simp [sameD] at h

theorem sameD_length : ∀ {ks : List Nat} {xs ys : List D} {b : Bool}, sameD ks xs ys = some b → xs.length = ks.length ∧ ys.length = ks.length
  | [], [], [], b, h => ⟨rfl, rfl⟩
  | k :: ks, x :: xs, y :: ys, b, h => by
    simp only [sameD] at h
    split at h
    · rename_i hc; have := sameD_length hc; simp [this]
    · simp at h
  | [], _ :: _, _, b, h => by simp [sameD] at h
  | [], [], _ :: _, b, h => by simp [sameD] at h
  | _ :: _, [], _, b, h => by simp [sameD] at h
  | _ :: _, _ :: _, [], b, h => by simp [sameD] at h

/-- Cells from one place on that hold data. -/
def At (w : World) (S : Sta) (c : Array Value) (o : Nat) (xs : List D) : Prop := o + xs.length ≤ c.size ∧ ∀ j, j < xs.length → DR w S (xs.getD j .nilp) (c.getD (o + j) undef)
theorem At.take {c : Array Value} {o : Nat} {xs : List D} (h : At w S c o xs) (n : Nat) : At w S c o (xs.take n) := by
  refine ⟨by have := h.1; simp; omega, fun j hj => ?_⟩
  simp at hj
  rw [getD_take _ _ _ _ (by omega)]; exact h.2 j (by omega)
theorem At.drop {c : Array Value} {o : Nat} {xs : List D} (h : At w S c o xs) {n : Nat} (hn : n ≤ xs.length) : At w S c (o + n) (xs.drop n) := by
  refine ⟨by have := h.1; simp; omega, fun j hj => ?_⟩
  simp at hj
  rw [getD_drop, Nat.add_assoc]; exact h.2 _ (by omega)

theorem info_of_underlying {t : TypeId} {d : TypeDesc} (h : P.underlying t = some d) : ∃ i, P.info? t = some i := by
  cases hi : P.info? t with
  | some i => exact ⟨i, rfl⟩
  | none => simp [Program.underlying, hi] at h

theorem same_one {t : TypeId} {desc : TypeDesc} {k : Nat} (hu : P.underlying t = some desc) (hg : isAggD desc = false) {xs ys : Array Value} {o : Nat} {us vs : List D} {b : Bool}
    (hx : At w S xs o us) (hy : At w S ys o vs) (hs : sameD [k] us vs = some b) :
    ∃ x y, D.same k x y = some b ∧ (part t xs o).run P w = .ok (xs.getD o undef) w ∧ (part t ys o).run P w = .ok (ys.getD o undef) w ∧ DR w S x (xs.getD o undef) ∧ DR w S y (ys.getD o undef) := by
  obtain ⟨l1, l2⟩ := sameD_length hs
  obtain ⟨x, rfl⟩ := List.length_eq_one_iff.1 l1
  obtain ⟨y, rfl⟩ := List.length_eq_one_iff.1 l2
  have hx0 := hx.2 0 (by simp)
  have hy0 := hy.2 0 (by simp)
  have e1 := hx.1
  have e2 := hy.1
  simp only [List.length_cons, List.length_nil] at e1 e2
  refine ⟨x, y, ?_, run_part_one hu hg _ _ (by omega), run_part_one hu hg _ _ (by omega), by simpa using hx0, by simpa using hy0⟩
  simp only [sameD] at hs
  split at hs
  · rename_i p q hp hq
    injection hq with hq; subst hq
    simp at hs; subst hs; exact hp
  · simp at hs

theorem fields_eq {f : TypeId → Option (List Nat)} (d : Nat) {xs ys : Array Value}
    (ih : ∀ t ks, f t = some ks → ks.length = P.cellsOf t → ∀ (o : Nat) (us vs : List D) (b : Bool), At w S xs o us → At w S ys o vs → sameD ks us vs = some b →
      ∃ a c, (part t xs o).run P w = .ok a w ∧ (part t ys o).run P w = .ok c w ∧ (Op.equalIn d t a c).run P w = .ok b w) :
    ∀ (fs : List Field) (o : Nat) (ks : List Nat) (us vs : List D) (b : Bool), flatK.fields f P o fs = some ks → At w S xs o us → At w S ys o vs → sameD ks us vs = some b → (Op.eqFields d xs ys fs).run P w = .ok b w
  | [], o, ks, us, vs, b, h, hx, hy, hs => by
    simp only [flatK.fields, Option.some.injEq] at h; subst h
    cases us <;> cases vs <;> simp [sameD] at hs
    subst hs; rfl
  | fd :: fs, o, ks, us, vs, b, h, hx, hy, hs => by
    simp only [flatK.fields] at h
    split at h
    case h_2 => simp at h
    rename_i k1 r1 hk1 hr1
    split at h
    case isFalse => simp at h
    rename_i hc
    obtain ⟨hn, ho, hl⟩ := hc
    injection h with h; subst h
    obtain ⟨l1, l2⟩ := sameD_length hs
    simp only [List.length_append] at l1 l2
    obtain ⟨a, c, h1, h2, rfl⟩ := sameD_split k1 r1 hs
    obtain ⟨va, vc, p1, p2, p3⟩ := ih fd.type k1 hk1 hl o _ _ a (hx.take _) (hy.take _) h1
    have hrest := fields_eq d ih fs (o + P.cellsOf fd.type) r1 _ _ c hr1 (by rw [← hl]; exact hx.drop (by omega)) (by rw [← hl]; exact hy.drop (by omega)) h2
    simp only [Op.eqFields, ne_eq, hn, not_false_eq_true, if_true, Sem.run_bind, ho, p1, p2, p3, Result.andThen_ok]
    cases a
    · rfl
    · simp [hrest]

/-- The elements of an array, one by one. -/
theorem items_eq {e : TypeId} {ks : List Nat} (d : Nat) {xs ys : Array Value} (hl : ks.length = P.cellsOf e)
    (ih : ∀ (o : Nat) (us vs : List D) (b : Bool), At w S xs o us → At w S ys o vs → sameD ks us vs = some b →
      ∃ a c, (part e xs o).run P w = .ok a w ∧ (part e ys o).run P w = .ok c w ∧ (Op.equalIn d e a c).run P w = .ok b w) :
    ∀ (m s : Nat) (us vs : List D) (b : Bool), At w S xs (s * P.cellsOf e) us → At w S ys (s * P.cellsOf e) vs → sameD ((List.replicate m ks).flatten) us vs = some b → (Op.eqItems d e (P.cellsOf e) xs ys (List.range' s m)).run P w = .ok b w
  | 0, s, us, vs, b, hx, hy, hs => by
    cases us <;> cases vs <;> simp [sameD] at hs
    subst hs; rfl
  | m + 1, s, us, vs, b, hx, hy, hs => by
    rw [List.replicate_succ, List.flatten_cons] at hs
    obtain ⟨l1, l2⟩ := sameD_length hs
    simp only [List.length_append] at l1 l2
    obtain ⟨a, c, h1, h2, rfl⟩ := sameD_split ks _ hs
    obtain ⟨va, vc, p1, p2, p3⟩ := ih (s * P.cellsOf e) _ _ a (hx.take _) (hy.take _) h1
    have hrest := items_eq d hl ih m (s + 1) _ _ c (by rw [Nat.succ_mul, ← hl]; rw [← hl] at hx; exact hx.drop (by omega)) (by rw [Nat.succ_mul, ← hl]; rw [← hl] at hy; exact hy.drop (by omega)) h2
    rw [List.range'_succ]
    simp only [Op.eqItems, Sem.run_bind, p1, p2, p3, Result.andThen_ok]
    cases a
    · rfl
    · simp [hrest]

theorem flat_info {n : Nat} {e : TypeId} {ks : List Nat} (h : flatK P n e = some ks) : ∃ i, P.info? e = some i := by
  cases n with
  | zero => simp [flatK] at h
  | succ n =>
    rw [flatK] at h
    cases hu : P.underlying e with
    | none => rw [hu] at h; simp at h
    | some d => exact info_of_underlying hu
/-- Plain structs are held against each other cell by cell. -/
theorem flat_part (n : Nat) : ∀ (t : TypeId) (ks : List Nat), flatK P n t = some ks → ∀ (d : Nat), n ≤ d → ∀ (xs ys : Array Value) (o : Nat) (us vs : List D) (b : Bool), ks.length = P.cellsOf t → At w S xs o us → At w S ys o vs → sameD ks us vs = some b →
    ∃ a c, (part t xs o).run P w = .ok a w ∧ (part t ys o).run P w = .ok c w ∧ (Op.equalIn d t a c).run P w = .ok b w := by
  induction n with
  | zero => intro t ks h; simp [flatK] at h
  | succ n ih =>
    intro t ks h d hd xs ys o us vs b hlen hx hy hsame
    obtain ⟨d, rfl⟩ : ∃ m, d = m + 1 := ⟨d - 1, by omega⟩
    rw [flatK] at h
    split at h
    · rename_i hu
      split at h
      case isFalse => simp at h
      injection h with h; subst h
      obtain ⟨x, y, hs, p1, p2, q1, q2⟩ := same_one (P := P) hu rfl hx hy hsame
      refine ⟨_, _, p1, p2, ?_⟩
      generalize xs.getD o undef = X at q1
      generalize ys.getD o undef = Y at q2
      cases x <;> cases y <;> simp only [D.same, Option.some.injEq, reduceCtorEq] at hs
      subst hs
      cases q1; cases q2
      exact run_equalIn_bool' w d t _ _ hu
    · rename_i k hu
      split at h
      case isFalse => simp at h
      injection h with h; subst h
      obtain ⟨x, y, hs, p1, p2, q1, q2⟩ := same_one (P := P) hu rfl hx hy hsame
      refine ⟨_, _, p1, p2, ?_⟩
      generalize xs.getD o undef = X at q1
      generalize ys.getD o undef = Y at q2
      cases x <;> cases y <;> simp only [D.same, Option.some.injEq, reduceCtorEq] at hs
      split at hs
      case isFalse => simp at hs
      rename_i e; subst e
      injection hs with hs; subst hs
      cases q1; cases q2
      exact run_equalIn_int w d t _ _ _ _ hu
    · rename_i hu
      split at h
      case isFalse => simp at h
      injection h with h; subst h
      obtain ⟨x, y, hs, p1, p2, q1, q2⟩ := same_one (P := P) hu rfl hx hy hsame
      refine ⟨_, _, p1, p2, ?_⟩
      generalize xs.getD o undef = X at q1
      generalize ys.getD o undef = Y at q2
      cases x <;> cases y <;> simp only [D.same, Option.some.injEq, reduceCtorEq] at hs
      subst hs
      cases q1; cases q2
      rw [run_equalIn_string w d t _ _ hu]
      simp
    · rename_i fs hu
      split at h
      · simp at h
      rename_i hst
      obtain ⟨i, hi⟩ := info_of_underlying hu
      have hi2 : i.size = ks.length := by rw [hlen]; simp [Program.cellsOf, hi]
      obtain ⟨l1, l2⟩ := sameD_length hsame
      refine ⟨_, _, run_part_agg hu rfl hi xs o, run_part_agg hu rfl hi ys o, ?_⟩
      have hfo : P.fieldsOf t = fs := by simp [Program.fieldsOf, hu]
      rw [run_equalIn_agg w d t _ _ (by rw [hfo]; exact hu) (by simpa using hst), hfo]
      have ext : ∀ (c : Array Value) (l : List D), l.length = ks.length → At w S c o l → At w S (c.extract o (o + i.size)) 0 l := by
        intro c l hl h
        refine ⟨by have := h.1; simp; omega, fun j hj => ?_⟩
        have h3 := h.2 j hj
        have h4 := h.1
        rw [Nat.zero_add]
        have : (c.extract o (o + i.size)).getD j undef = c.getD (o + j) undef := by
          rw [← toList_getD, ← toList_getD]
          simp only [List.getD_eq_getElem?_getD, Array.getElem?_toList]
          rw [Array.getElem?_extract]
          rw [if_pos (by omega)]
        rw [this]; exact h3
      refine fields_eq d (fun t' ks' hk hl' o' us' vs' b' hx' hy' hs' => ?_) fs.toList 0 ks us vs b h (ext xs us (by omega) hx) (ext ys vs (by omega) hy) hsame
      exact ih t' ks' hk d (by omega) _ _ o' us' vs' b' hl' hx' hy' hs'
    · rename_i m e hu
      split at h
      case h_2 => simp at h
      rename_i ks' hk'
      split at h
      case isFalse => simp at h
      rename_i hl'
      injection h with h; subst h
      obtain ⟨i, hi⟩ := info_of_underlying hu
      obtain ⟨ie, hie⟩ := flat_info hk'
      have hi2 : i.size = ((List.replicate m ks').flatten).length := by rw [hlen]; simp [Program.cellsOf, hi]
      obtain ⟨l1, l2⟩ := sameD_length hsame
      refine ⟨_, _, run_part_agg hu rfl hi xs o, run_part_agg hu rfl hi ys o, ?_⟩
      have ext : ∀ (c : Array Value) (l : List D), l.length = ((List.replicate m ks').flatten).length → At w S c o l → At w S (c.extract o (o + i.size)) 0 l := by
        intro c l hl h
        refine ⟨by have := h.1; simp; omega, fun j hj => ?_⟩
        have h3 := h.2 j hj
        have h4 := h.1
        rw [Nat.zero_add]
        have : (c.extract o (o + i.size)).getD j undef = c.getD (o + j) undef := by
          rw [← toList_getD, ← toList_getD]
          simp only [List.getD_eq_getElem?_getD, Array.getElem?_toList]
          rw [Array.getElem?_extract]
          rw [if_pos (by omega)]
        rw [this]; exact h3
      rw [run_equalIn_array w d _ _ hu hie, List.range_eq_range']
      exact items_eq d hl' (fun o' us' vs' b' hx' hy' hs' => ih e ks' hk' d (by omega) _ _ o' us' vs' b' hl' hx' hy' hs') m 0 us vs b (by rw [Nat.zero_mul]; exact ext xs us (by omega) hx) (by rw [Nat.zero_mul]; exact ext ys vs (by omega) hy) hsame
    · simp at h
end
end Go.Ev
