/- Each plain operation of the model does what the evaluator says. Own work. -/
import Derived.Test.YtbcpffhialoliaaEvStore
import Derived.Test.YtbcpffhialoliaaEvComp
namespace Go.Ev
open Go
set_option linter.unusedVariables false
set_option linter.unusedSimpArgs false

/-- The model's computation comes to what the evaluator says. -/
def Gives (P : Program) (w : World) (S : Sta) (ρ : Pos) (H : Heap) (r : AV) (H' : Heap) (s : Sem Value) : Prop :=
  ∃ cv w' S' ρ', s.run P w = .ok cv w' ∧ Evo w S ρ H w' S' ρ' H' ∧ VR w' S' ρ' r cv

section
variable {w : World} {S : Sta} {ρ : Pos} {H : Heap} {P : Program}

theorem gives_same (hr : Rel w S ρ H) {s : Sem Value} {r : AV} {cv : Value} (h : s.run P w = .ok cv w) (hv : VR w S ρ r cv) : Gives P w S ρ H r H s :=
  ⟨cv, w, S, ρ, h, Evo.refl hr, hv⟩
theorem gives_dat (hr : Rel w S ρ H) {s : Sem Value} {r : D} {cv : Value} (h : s.run P w = .ok cv w) (hv : DR w S r cv) : Gives P w S ρ H (.d r) H s := gives_same hr h (.d _ _ hv)

theorem run_underlying {t : TypeId} {d : TypeDesc} (h : P.underlying t = some d) : (underlying t).run P w = .ok d w := by
  simp [underlying, program, Sem.run, h]
theorem run_typeInfo {t : TypeId} {i : TypeInfo} (h : P.info? t = some i) : (typeInfo t).run P w = .ok i w := by
  simp [typeInfo, program, Sem.run, h]
theorem run_sizeOf {t : TypeId} {i : TypeInfo} (h : P.info? t = some i) : (sizeOf t).run P w = .ok i.size w := by
  simp [sizeOf, run_typeInfo h]
theorem run_isAgg {t : TypeId} {d : TypeDesc} (h : P.underlying t = some d) : (isAgg t).run P w = .ok (isAggD d) w := by
  simp only [isAgg, Sem.run_bind, run_underlying h, Result.andThen_ok]
  cases d <;> rfl

theorem vr_ptr_inv {i o : Nat} {cv : Value} (h : VR w S ρ (.ptr i o) cv) : ∃ g β, ρ i = some (g, β) ∧ cv = .pointer (some ⟨g, β + o, none⟩) := by
  cases h; exact ⟨_, _, by assumption, rfl⟩

/-! ### memory -/
theorem gives_load_agg (hr : Rel w S ρ H) {t : TypeId} {d : TypeDesc} {i : TypeInfo} (hu : P.underlying t = some d) (hd : isAggD d = true) (hi : P.info? t = some i)
    {av v : AV} {cv : Value} (hv : VR w S ρ av cv) (h : loadA H av i.size true = some v) : Gives P w S ρ H v H (Instr.loadAt t cv) := by
  obtain ⟨a, us, rfl, hl, hc, hx⟩ := loadA_sound hr hv h
  refine gives_same hr ?_ hx
  simp only [Instr.loadAt, Instr.sureAddr, Sem.run_bind, Sem.run_pure, Result.andThen_ok, loadVar, run_isAgg hu, hd, if_true, run_sizeOf hi]
  rw [← hl, run_loadCells_list w a us (list_of_getD hl hc)]
  rfl
theorem gives_load_one (hr : Rel w S ρ H) {t : TypeId} {d : TypeDesc} (hu : P.underlying t = some d) (hd : isAggD d = false)
    {av v : AV} {cv : Value} (hv : VR w S ρ av cv) (h : loadA H av 1 false = some v) : Gives P w S ρ H v H (Instr.loadAt t cv) := by
  obtain ⟨a, u, rfl, hc, hx⟩ := loadA_sound hr hv h
  refine gives_same hr ?_ hx
  simp only [Instr.loadAt, Instr.sureAddr, Sem.run_bind, Sem.run_pure, Result.andThen_ok, loadVar, run_isAgg hu, hd, Bool.false_eq_true, if_false]
  simp [hc]

theorem run_store (hr : Rel w S ρ H) {t : TypeId} {i : TypeInfo} (hi : P.info? t = some i) {av x : AV} {cv xv : Value} {H' : Heap} (hv : VR w S ρ av cv) (hx : VR w S ρ x xv)
    (h : storeA H av x i.size = some H') : ∃ w', (Instr.storeAt t cv xv).run P w = .ok () w' ∧ Evo w S ρ H w' S ρ H' := by
  obtain ⟨hn, a, w', rfl, h1, h2⟩ := storeA_sound (P := P) hr hv hx h
  refine ⟨w', ?_, h2⟩
  simp only [Instr.storeAt, Instr.sureAddr, Sem.run_bind, Sem.run_pure, Result.andThen_ok, storeVar, run_sizeOf hi, hn, ne_eq, not_true_eq_false, if_false]
  exact h1

theorem dr_box {b : Blk} {vs : List AV} (hb : b = boxOf vs) {c : Array Value} {e : TypeId} {i g : Nat} (h1 : ρ i = some (g, 0)) {fz : Nat × Nat} (h2 : w.heap[g]? = some (.cells c e fz)) (hfz : Thaw fz c.size) (h3 : ¬ S g)
    (h4 : vs.length = c.size) (h5 : ∀ j, j < vs.length → one (c.getD j undef) = true) (h6 : ∀ j, j < vs.length → VR w S ρ (vs.getD j .unk) (c.getD j undef)) : BlkR w S ρ i b := by
  subst hb
  unfold boxOf
  split
  · rename_i ds hds
    have hv := plainD_spec hds
    have hl : vs.length = ds.length := by rw [hv]; simp
    refine .inr ⟨g, c, e, fz, h1, ⟨h2, hfz⟩, h3, by omega, fun j hj => h5 j (by omega), fun j hj => ?_⟩
    have := h6 j (by omega)
    rw [hv, getD_map' _ _ _ D.nilp _ hj] at this
    exact this.dr
  · exact ⟨g, c, e, fz, h1, ⟨h2, hfz⟩, h3, h4, h5, h6⟩

theorem gives_new (hr : Rel w S ρ H) (e : TypeId) {v : Value} {vs : List AV} (h4 : v.cells.size = vs.length) (h5 : ∀ j, j < vs.length → one (v.cells.getD j undef) = true)
    (h6 : ∀ j, j < vs.length → VR w S ρ (vs.getD j .unk) (v.cells.getD j undef)) {b : Blk} (hb : b = boxOf vs) {s : Sem Value}
    (hs : s.run P w = .ok (.pointer (some ⟨w.heap.size, 0, none⟩)) (w.alloc (.cells v.cells e (0, 0)))) : Gives P w S ρ H (.ptr H.length 0) (H ++ [b]) s := by
  refine ⟨_, _, S, posNew ρ H.length w.heap.size 0, hs, evo_new hr _ _ (fun a1 a2 a3 a4 a5 => ?_), .ptr _ _ _ 0 (posNew_same ..)⟩
  exact dr_box hb a2 a1 (thaw_zero _) a3 h4.symm h5 (fun j hj => a5 _ _ (h6 j hj))

theorem allO_spec {α β : Type} {f : α → Option β} : ∀ {l : List α} {r : List β}, allO f l = some r → l.length = r.length ∧ ∀ j (d : α) (e : β), j < l.length → f (l.getD j d) = some (r.getD j e)
  | [], r, h => by simp [allO] at h; subst h; exact ⟨rfl, fun j d e hj => by simp at hj⟩
  | x :: l, r, h => by
    unfold allO at h
    split at h
    · rename_i y r' hy hr'
      injection h with h; subst h
      obtain ⟨h1, h2⟩ := allO_spec hr'
      refine ⟨by simp [h1], fun j d e hj => ?_⟩
      cases j with
      | zero => simpa using hy
      | succ j => simpa using h2 j d e (by simpa using hj)
    · simp at h

theorem cD_sound {v : Value} {d : D} (h : cD v = some d) : DR w S d v ∧ one v = true := by
  unfold cD at h
  split at h <;> first | (simp at h; done) | (injection h with h; subst h; refine ⟨?_, rfl⟩; constructor)

theorem cD_dr {v : Value} {d : D} (h : cD v = some d) : DR w S d v := (cD_sound h).1
theorem cD_one {v : Value} {d : D} (h : cD v = some d) : one v = true := (cD_sound (w := default) (S := fun _ => False) h).2

theorem cells_of_allO {c : Array Value} {ds : List D} (h : allO cD c.toList = some ds) : c.size = ds.length ∧ (∀ j, j < ds.length → one (c.getD j undef) = true) ∧ ∀ j, j < ds.length → DR w S (ds.getD j .nilp) (c.getD j undef) := by
  obtain ⟨h1, h2⟩ := allO_spec h
  have h1' : c.size = ds.length := by simpa using h1
  refine ⟨h1', fun j hj => ?_, fun j hj => ?_⟩
  · have := h2 j undef .nilp (by simpa using (by omega : j < c.size))
    rw [toList_getD] at this
    exact cD_one this
  · have := h2 j undef .nilp (by simpa using (by omega : j < c.size))
    rw [toList_getD] at this
    exact cD_dr this

theorem zerosOf_spec {t : TypeId} {zs : List D} (h : zerosOf P t = some zs) : ∃ i v, P.info? t = some i ∧ i.zero = some v ∧ zs.length = i.size ∧ allO cD v.cells.toList = some zs := by
  unfold zerosOf at h
  split at h
  · rename_i i hi
    split at h
    · rename_i v hv
      split at h
      · rename_i ds hds
        split at h
        · rename_i hl
          injection h with h; subst h
          exact ⟨i, v, hi, hv, hl, hds⟩
        · simp at h
      · simp at h
    · simp at h
  · simp at h
theorem run_zeroValue {t : TypeId} {i : TypeInfo} {v : Value} (hi : P.info? t = some i) (hz : i.zero = some v) : (zeroValue t).run P w = .ok v w := by
  simp [zeroValue, run_typeInfo hi, hz]

theorem plainD_map (ds : List D) : boxOf.plainD (ds.map .d) = some ds := by
  induction ds with
  | nil => rfl
  | cons d ds ih => simp [boxOf.plainD, ih]
theorem boxOf_map (ds : List D) : boxOf (ds.map .d) = .dbox ds := by simp [boxOf, plainD_map]

theorem gives_alloc (hr : Rel w S ρ H) {e : TypeId} {zs : List D} (hz : zerosOf P e = some zs) : Gives P w S ρ H (.ptr H.length 0) (H ++ [.dbox zs]) (Instr.alloc e true (.tuple #[])) := by
  obtain ⟨i, v, hi, hzv, hl, ha⟩ := zerosOf_spec hz
  obtain ⟨c1, c2, c3⟩ := cells_of_allO (w := w) (S := S) ha
  refine gives_new hr e (v := v) (vs := zs.map .d) (by simp [c1]) (fun j hj => c2 j (by simpa using hj)) (fun j hj => ?_) (boxOf_map zs).symm ?_
  · have hj' : j < zs.length := by simpa using hj
    rw [getD_map' _ _ _ D.nilp _ hj']; exact .d _ _ (c3 j hj')
  · simp [Instr.alloc, run_zeroValue hi hzv, newVar, newRow, newObj, Sem.run]
theorem gives_box (hr : Rel w S ρ H) {e : TypeId} {x : AV} {v : Value} {vs : List AV} (hv : VR w S ρ x v) (hc : x.cells = some vs) :
    Gives P w S ρ H (.ptr H.length 0) (H ++ [boxOf vs]) (Instr.box e v) := by
  obtain ⟨c1, c2, c3⟩ := cells_sound hv hc
  exact gives_new hr e c1 c2 c3 rfl (by simp [Instr.box, newVar, newRow, newObj, Sem.run])

/-! ### numbers, texts -/
theorem asInt_inv {x : AV} {v : Value} {k : IntKind} {n : Int} (hv : VR w S ρ x v) (h : x.asInt = some (k, n)) : v = .int k n := by
  unfold AV.asInt at h
  split at h
  · simp only [Option.some.injEq, Prod.mk.injEq] at h; obtain ⟨rfl, rfl⟩ := h; cases hv.dr; rfl
  · simp at h
theorem asBool_inv {x : AV} {v : Value} {b : Bool} (hv : VR w S ρ x v) (h : x.asBool = some b) : v = .bool b := by
  unfold AV.asBool at h
  split at h
  · simp only [Option.some.injEq] at h; subst h; cases hv.dr; rfl
  · simp at h
theorem asStr_inv {x : AV} {v : Value} {s : List UInt8} (hv : VR w S ρ x v) (h : x.asStr = some s) : v = .string ⟨s.toArray⟩ := by
  unfold AV.asStr at h
  split at h
  · simp only [Option.some.injEq] at h; subst h; cases hv.dr; rfl
  · simp at h

theorem bytes_toList (s : List UInt8) : (⟨s.toArray⟩ : ByteArray).toList = s := by
  simp
end
end Go.Ev
