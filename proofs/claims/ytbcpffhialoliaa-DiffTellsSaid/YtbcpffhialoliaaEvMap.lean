/- Maps with whole numbers as keys: sorted lists of pairs, and the model's block of entries in whatever order. Own work. -/
import Derived.WalkKit
import Derived.MapKept
import Derived.Carry
namespace Go.Ev
open Go.MapKept

/-! ### sorted lists of pairs -/
def findM {α : Type} (k : Int) : List (Int × α) → Option α
  | [] => none
  | (a, d) :: l => if a = k then some d else findM k l
def putM {α : Type} (k : Int) (v : α) : List (Int × α) → List (Int × α)
  | [] => [(k, v)]
  | (a, d) :: l => if k < a then (k, v) :: (a, d) :: l else if k = a then (k, v) :: l else (a, d) :: putM k v l
def delM {α : Type} (k : Int) : List (Int × α) → List (Int × α)
  | [] => []
  | (a, d) :: l => if a = k then l else (a, d) :: delM k l

def SrtM {α : Type} (l : List (Int × α)) : Prop := l.Pairwise fun a b => a.1 < b.1

theorem findM_mem {α : Type} {k : Int} {v : α} : ∀ {l : List (Int × α)}, SrtM l → (k, v) ∈ l → findM k l = some v
  | (a, d) :: l, hs, h => by
    have hs' := List.pairwise_cons.1 hs
    rcases List.mem_cons.1 h with h | h
    · cases h; simp [findM]
    · have := hs'.1 _ h
      simp only at this
      rw [findM, if_neg (by omega)]
      exact findM_mem hs'.2 h
theorem findM_none {α : Type} {k : Int} : ∀ {l : List (Int × α)}, (∀ p ∈ l, p.1 ≠ k) → findM k l = none
  | [], _ => rfl
  | (a, d) :: l, h => by rw [findM, if_neg (h _ (.head _))]; exact findM_none fun p hp => h p (.tail _ hp)

theorem putM_new {α : Type} {k : Int} (v : α) : ∀ {l : List (Int × α)}, (∀ p ∈ l, p.1 ≠ k) → (putM k v l).Perm ((k, v) :: l)
  | [], _ => List.Perm.refl _
  | (a, d) :: l, h => by
    have h1 := h _ (List.mem_cons_self ..)
    simp only at h1
    rw [putM]
    split
    · exact List.Perm.refl _
    · rw [if_neg (by omega)]
      exact ((putM_new v fun p hp => h p (.tail _ hp)).cons _).trans (List.Perm.swap _ _ _)
theorem putM_old {α : Type} {k : Int} (v : α) : ∀ {l : List (Int × α)} {v0 : α}, SrtM l → (k, v0) ∈ l → ∃ r, l.Perm ((k, v0) :: r) ∧ (putM k v l).Perm ((k, v) :: r)
  | (a, d) :: l, v0, hs, h => by
    have hs' := List.pairwise_cons.1 hs
    rcases List.mem_cons.1 h with h | h
    · cases h
      exact ⟨l, List.Perm.refl _, by rw [putM, if_neg (by omega), if_pos rfl]⟩
    · have := hs'.1 _ h
      simp only at this
      obtain ⟨r, h1, h2⟩ := putM_old v hs'.2 h
      refine ⟨(a, d) :: r, (h1.cons _).trans (List.Perm.swap _ _ _), ?_⟩
      rw [putM, if_neg (by omega), if_neg (by omega)]
      exact (h2.cons _).trans (List.Perm.swap _ _ _)
theorem putM_lb {α : Type} {k : Int} {v : α} {x : Int} (hx : x < k) : ∀ {l : List (Int × α)}, (∀ p ∈ l, x < p.1) → ∀ p ∈ putM k v l, x < p.1
  | [], _, p, hp => by simp only [putM, List.mem_singleton] at hp; subst hp; exact hx
  | (a, d) :: l, h, p, hp => by
    rw [putM] at hp
    split at hp
    · rcases List.mem_cons.1 hp with rfl | hp
      · exact hx
      · exact h p hp
    · split at hp
      · rcases List.mem_cons.1 hp with rfl | hp
        · exact hx
        · exact h p (.tail _ hp)
      · rcases List.mem_cons.1 hp with rfl | hp
        · exact h _ (.head _)
        · exact putM_lb hx (fun q hq => h q (.tail _ hq)) p hp
theorem putM_srt {α : Type} {k : Int} {v : α} : ∀ {l : List (Int × α)}, SrtM l → SrtM (putM k v l)
  | [], _ => List.pairwise_singleton _ _
  | (a, d) :: l, hs => by
    have hs' := List.pairwise_cons.1 hs
    rw [putM]
    split
    · rename_i h
      refine List.pairwise_cons.2 ⟨fun p hp => ?_, hs⟩
      rcases List.mem_cons.1 hp with rfl | hp
      · exact h
      · exact Int.lt_trans h (hs'.1 p hp)
    · split
      · rename_i h; subst h
        exact List.pairwise_cons.2 ⟨fun p hp => hs'.1 p hp, hs'.2⟩
      · exact List.pairwise_cons.2 ⟨putM_lb (by omega) hs'.1, putM_srt hs'.2⟩
theorem delM_new {α : Type} {k : Int} : ∀ {l : List (Int × α)}, (∀ p ∈ l, p.1 ≠ k) → delM k l = l
  | [], _ => rfl
  | (a, d) :: l, h => by rw [delM, if_neg (h _ (.head _)), delM_new fun p hp => h p (.tail _ hp)]
theorem delM_old {α : Type} {k : Int} : ∀ {l : List (Int × α)} {v0 : α}, SrtM l → (k, v0) ∈ l → l.Perm ((k, v0) :: delM k l)
  | (a, d) :: l, v0, hs, h => by
    have hs' := List.pairwise_cons.1 hs
    rcases List.mem_cons.1 h with h | h
    · cases h
      rw [delM, if_pos rfl]
    · have := hs'.1 _ h
      simp only at this
      rw [delM, if_neg (by omega)]
      exact ((delM_old hs'.2 h).cons _).trans (List.Perm.swap _ _ _)
theorem delM_sub {α : Type} {k : Int} : ∀ {l : List (Int × α)}, (delM k l).Sublist l
  | [] => List.Sublist.refl _
  | (a, d) :: l => by
    rw [delM]; split
    · exact List.sublist_cons_self _ _
    · exact delM_sub.cons_cons _
theorem delM_srt {α : Type} {k : Int} {l : List (Int × α)} (h : SrtM l) : SrtM (delM k l) := List.Pairwise.sublist delM_sub h

/-! ### the model's block -/
def kvs (ents : Array MapEntry) : List (Value × Value) := ents.toList.map fun e => (e.key, e.val)
def kv (p : Int × Value) : Value × Value := (.int .i64 p.1, p.2)

structure Ents (ents : Array MapEntry) (clk : Nat) (cs : List (Int × Value)) : Prop where
  srt : SrtM cs
  prm : (kvs ents).Perm (cs.map kv)
  stm : Stamped ents clk

theorem Ents.empty : Ents #[] 0 [] := ⟨List.Pairwise.nil, List.Perm.refl _, stamped_empty 0⟩
theorem Ents.len {ents : Array MapEntry} {clk : Nat} {cs : List (Int × Value)} (h : Ents ents clk cs) : ents.size = cs.length := by
  have := h.prm.length_eq
  simpa [kvs] using this
theorem Ents.isKey {ents : Array MapEntry} {clk : Nat} {cs : List (Int × Value)} (h : Ents ents clk cs) : ∀ x ∈ ents.toList, IsKey (.int .i64) x.key := fun x hx => by
  have : (x.key, x.val) ∈ kvs ents := List.mem_map.2 ⟨x, hx, rfl⟩
  obtain ⟨p, _, hp⟩ := List.mem_map.1 (h.prm.mem_iff.1 this)
  have : x.key = .int .i64 p.1 := (congrArg Prod.fst hp).symm
  rw [this]; rfl
theorem Ents.mem {ents : Array MapEntry} {clk : Nat} {cs : List (Int × Value)} (h : Ents ents clk cs) {e : MapEntry} {k : Int} (he : e ∈ ents.toList) (hk : e.key = .int .i64 k) : (k, e.val) ∈ cs := by
  have : (e.key, e.val) ∈ kvs ents := List.mem_map.2 ⟨e, he, rfl⟩
  obtain ⟨p, hp, hq⟩ := List.mem_map.1 (h.prm.mem_iff.1 this)
  have h1 : Value.int .i64 p.1 = e.key := congrArg Prod.fst hq
  have h2 : p.2 = e.val := congrArg Prod.snd hq
  rw [hk] at h1
  cases h1
  rw [← h2]; exact hp
theorem Ents.not {ents : Array MapEntry} {clk : Nat} {cs : List (Int × Value)} (h : Ents ents clk cs) {k : Int} (hk : ∀ x ∈ ents.toList, x.key ≠ .int .i64 k) : ∀ p ∈ cs, p.1 ≠ k := fun p hp e => by
  have : kv p ∈ kvs ents := h.prm.mem_iff.2 (List.mem_map.2 ⟨p, hp, rfl⟩)
  obtain ⟨x, hx, hq⟩ := List.mem_map.1 this
  have h1 : x.key = .int .i64 p.1 := congrArg Prod.fst hq
  exact hk x hx (by rw [h1, e])

theorem find_ents {ents : Array MapEntry} {clk : Nat} {cs : List (Int × Value)} (h : Ents ents clk cs) (k : Int) :
    (Instr.findNow (.int .i64) (.int .i64 k) ents.toList 0 = some none ∧ (∀ x ∈ ents.toList, x.key ≠ .int .i64 k) ∧ findM k cs = none) ∨
    ∃ j e, Instr.findNow (.int .i64) (.int .i64 k) ents.toList 0 = some (some (j, e.val)) ∧ ents.toList[j]? = some e ∧ e.key = .int .i64 k ∧ (k, e.val) ∈ cs ∧ findM k cs = some e.val := by
  rcases findNow_spec (d := .int .i64) (k := .int .i64 k) rfl ents.toList 0 h.isKey with ⟨h1, h2⟩ | ⟨j, e, h1, h2, h3⟩
  · exact .inl ⟨h1, h2, findM_none (h.not h2)⟩
  · have hm := h.mem (List.mem_of_getElem? h2) h3
    exact .inr ⟨j, e, by rw [h1, Nat.zero_add], h2, h3, hm, findM_mem h.srt hm⟩

section
variable {P : Program} {w : World} {mty kt et : TypeId} {r : Nat} {ents : Array MapEntry} {clk : Nat} {cs : List (Int × Value)}

theorem run_lookup_ents (hm : P.underlying mty = some (.map kt et)) (hk : P.underlying kt = some (.int .i64)) {z : Value} (hz : ∀ w, (zeroValue et).run P w = .ok z w) (hb : w.heap[r]? = some (.map ents clk)) (h : Ents ents clk cs) (k : Int) (ok : Bool) :
    (Instr.lookup mty (.map (some r)) (.int .i64 k) ok).run P w = .ok (if ok then .tuple #[(findM k cs).getD z, .bool (findM k cs).isSome] else (findM k cs).getD z) w := by
  rcases find_ents h k with ⟨h1, _, h3⟩ | ⟨j, e, h1, _, _, _, h3⟩
  · simp [Instr.lookup, run_underlying hm, MapKept.run_getObj_map hb, run_checkKey hk (k := .int .i64 k) rfl, run_findKey hk h1, hz, h3, Result.andThen]
  · simp [Instr.lookup, run_underlying hm, MapKept.run_getObj_map hb, run_checkKey hk (k := .int .i64 k) rfl, run_findKey hk h1, h3, Result.andThen]
theorem run_lookup_nil (hm : P.underlying mty = some (.map kt et)) (hk : P.underlying kt = some (.int .i64)) {z : Value} (hz : ∀ w, (zeroValue et).run P w = .ok z w) (k : Int) (ok : Bool) :
    (Instr.lookup mty (.map none) (.int .i64 k) ok).run P w = .ok (if ok then .tuple #[z, .bool false] else z) w := by
  have h1 : Instr.findNow (.int .i64) (.int .i64 k) [] 0 = some none := rfl
  simp [Instr.lookup, run_underlying hm, run_checkKey hk (k := .int .i64 k) rfl, run_findKey hk h1, hz, Result.andThen]

theorem kvs_push (x : MapEntry) : kvs (ents.push x) = kvs ents ++ [(x.key, x.val)] := by simp [kvs]

theorem run_update_ents (hm : P.underlying mty = some (.map kt et)) (hk : P.underlying kt = some (.int .i64)) (hb : w.heap[r]? = some (.map ents clk)) (h : Ents ents clk cs) (k : Int) (v : Value) :
    ∃ ents' clk', (Instr.mapUpdate mty (.map (some r)) (.int .i64 k) v).run P w = .ok () { w with heap := w.heap.setIfInBounds r (.map ents' clk') } ∧ Ents ents' clk' (putM k v cs) := by
  rcases find_ents h k with ⟨h1, h2, h3⟩ | ⟨j, e, h1, h2, h4, h5, h3⟩
  · refine ⟨ents.push { key := .int .i64 k, val := v, born := clk }, clk + 1, ?_, putM_srt h.srt, ?_, stamped_push h.stm h2⟩
    · simp [Instr.mapUpdate, run_underlying hm, MapKept.run_getObj_map hb, run_checkKey hk (k := .int .i64 k) rfl, run_findKey hk h1, MapKept.run_setObj_map _ hb, Result.andThen]
    · rw [kvs_push]
      refine List.Perm.trans (List.perm_append_singleton _ _) ?_
      exact (h.prm.cons _).trans ((putM_new v (h.not h2)).map kv).symm
  · have hja : ents[j]? = some e := by rw [← Array.getElem?_toList]; exact h2
    refine ⟨ents.modify j fun e => { e with key := .int .i64 k, val := v }, clk, ?_, putM_srt h.srt, ?_, stamped_modify h.stm _ _ (fun _ _ => rfl) (fun e' _ he => ?_)⟩
    · simp [Instr.mapUpdate, run_underlying hm, MapKept.run_getObj_map hb, run_checkKey hk (k := .int .i64 k) rfl, run_findKey hk h1, MapKept.run_setObj_map _ hb, hja, h4, run_keyThatStays (d := .int .i64) (k := .int .i64 k) rfl, Result.andThen]
    · obtain ⟨rest, p1, p2⟩ := putM_old v h.srt h5
      have hj : j < ents.toList.length := (List.getElem?_eq_some_iff.1 h2).1
      have e1 : kvs ents = (kvs ents).take j ++ (e.key, e.val) :: (kvs ents).drop (j + 1) := by
        have : (kvs ents)[j]? = some (e.key, e.val) := by simp [kvs, hja]
        obtain ⟨hl, he⟩ := List.getElem?_eq_some_iff.1 this
        conv => lhs; rw [← List.take_append_drop j (kvs ents), List.drop_eq_getElem_cons hl, he]
      have e2 : kvs (ents.modify j fun e => { e with key := .int .i64 k, val := v }) = (kvs ents).take j ++ (.int .i64 k, v) :: (kvs ents).drop (j + 1) := by
        have : kvs (ents.modify j fun e => { e with key := .int .i64 k, val := v }) = (kvs ents).set j (.int .i64 k, v) := by
          apply List.ext_getElem?
          intro i
          simp only [kvs, List.getElem?_map, Array.getElem?_toList, Array.getElem?_modify, List.getElem?_set, List.length_map, Array.length_toList]
          by_cases hij : j = i
          · subst hij; simp [hja]; exact (Array.getElem?_eq_some_iff.1 hja).1
          · simp [hij]
        rw [this, List.set_eq_take_append_cons_drop, if_pos (by simpa [kvs] using hj)]
      have q1 : ((.int .i64 k, e.val) :: ((kvs ents).take j ++ (kvs ents).drop (j + 1))).Perm ((.int .i64 k, e.val) :: rest.map kv) := by
        have a1 := h.prm
        rw [e1, h4] at a1
        exact (List.perm_middle.symm.trans a1).trans (p1.map kv)
      rw [e2]
      exact (List.perm_middle.trans ((List.Perm.cons_inv q1).cons _)).trans (p2.map kv).symm
    · rw [hja] at he; cases he; exact h4.symm

theorem run_delete_ents (hm : P.underlying mty = some (.map kt et)) (hk : P.underlying kt = some (.int .i64)) (hb : w.heap[r]? = some (.map ents clk)) (h : Ents ents clk cs) (k : Int) (ats : Array TypeId) (ht : ats[0]? = some mty) (ty : TypeId) :
    ∃ ents', (Builtin.delete_ ats ty #[.map (some r), .int .i64 k]).run P w = .ok (.tuple #[]) { w with heap := w.heap.setIfInBounds r (.map ents' clk) } ∧ Ents ents' clk (delM k cs) := by
  rcases find_ents h k with ⟨h1, h2, h3⟩ | ⟨j, e, h1, h2, h4, h5, h3⟩
  · refine ⟨ents, ?_, by rw [delM_new (h.not h2)]; exact h⟩
    simp [Builtin.delete_, ht, run_underlying hm, MapKept.run_getObj_map hb, run_checkKey hk (k := .int .i64 k) rfl, run_findKey hk h1, MapKept.run_setObj_map _ hb, Result.andThen]
  · refine ⟨ents.eraseIdxIfInBounds j, ?_, delM_srt h.srt, ?_, stamped_erase h.stm j⟩
    · simp [Builtin.delete_, ht, run_underlying hm, MapKept.run_getObj_map hb, run_checkKey hk (k := .int .i64 k) rfl, run_findKey hk h1, MapKept.run_setObj_map _ hb, Result.andThen]
    · have hj : j < ents.size := by simpa using (List.getElem?_eq_some_iff.1 h2).1
      have hja : ents[j]? = some e := by rw [← Array.getElem?_toList]; exact h2
      have e1 : kvs ents = (kvs ents).take j ++ (e.key, e.val) :: (kvs ents).drop (j + 1) := by
        have : (kvs ents)[j]? = some (e.key, e.val) := by simp [kvs, hja]
        obtain ⟨hl, he⟩ := List.getElem?_eq_some_iff.1 this
        conv => lhs; rw [← List.take_append_drop j (kvs ents), List.drop_eq_getElem_cons hl, he]
      have e2 : kvs (ents.eraseIdxIfInBounds j) = (kvs ents).take j ++ (kvs ents).drop (j + 1) := by
        rw [Array.eraseIdxIfInBounds, dif_pos hj]
        simp only [kvs, Array.toList_eraseIdx, List.eraseIdx_eq_take_drop_succ, List.map_append, List.map_take, List.map_drop]
      have a1 := h.prm
      rw [e1, h4] at a1
      have q1 := (List.perm_middle.symm.trans a1).trans ((delM_old h.srt h5).map kv)
      rw [e2]
      exact List.Perm.cons_inv q1
end

end Go.Ev
