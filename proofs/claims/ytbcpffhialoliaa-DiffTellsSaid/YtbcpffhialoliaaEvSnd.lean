/- One operation: the model's does what the evaluator says. Own work. -/
import Derived.Test.YtbcpffhialoliaaEvRen
namespace Go.Ev
open Go
set_option linter.unusedVariables false
set_option linter.unusedSimpArgs false

structure SlotsR (w : World) (S : Sta) (ρ : Pos) (s : List AV) (t : Array Value) : Prop where
  len : t.size = s.length
  vr : ∀ i, i < s.length → VR w S ρ (s.getD i .unk) (t.getD i undef)

/-- A function of the program with a body. -/
def HasBody (P : Program) (f : FuncId) : Prop := ∃ fn, P.funcs[f]? = some fn ∧ fn.body.isSome = true ∧ fn.name ≠ "runtime.NumGoroutine"

def CallSnd (P : Program) (call : Callee) : Prop := ∀ f args H r H', call f args H = some (r, H') → HasBody P f ∧ ∀ (w : World) (S : Sta) (ρ : Pos) (cargs : Array Value), Rel w S ρ H → args.length = cargs.size →
  (∀ i, i < args.length → VR w S ρ (args.getD i .unk) (cargs.getD i undef)) →
  Calls P f cargs w fun e w' => ∃ cv S' ρ', e = .returned cv ∧ Evo w S ρ H w' S' ρ' H' ∧ VR w' S' ρ' r cv

section
variable {w : World} {S : Sta} {ρ : Pos} {H : Heap} {P : Program} {call : Callee} {st : St} {a : Act}

/-- A block told in another way. -/
theorem evo_redesc (hr : Rel w S ρ H) {i : Nat} {b : Blk} (hm : b.mut = true → (H.getD i .dead).mut = true) (hk : (H.getD i .dead).mut = false → b.mut = false) (hb : BlkR w S ρ i b) (hbo : ρ i ≠ none) : Evo w S ρ H w S ρ (H.set i b) := by
  have hget : ∀ j, (H.set i b).getD j .dead = if i = j ∧ i < H.length then b else H.getD j .dead := fun j => getD_set_eq _ _ _ _ _
  have hmm : ∀ j, ((H.set i b).getD j .dead).mut = true → (H.getD j .dead).mut = true := by
    intro j hj; rw [hget] at hj; split at hj
    · rename_i e; rw [← e.1]; exact hm hj
    · exact hj
  refine ⟨⟨?_, ?_, ?_, hr.rlt, hr.slt, hr.gl⟩, by simp, fun _ _ => rfl, ?_, fun _ h => h, fun _ h => .inl h, fun _ _ _ => rfl, ?_, fun _ c _ f h => ⟨c, f, h, rfl⟩, Nat.le_refl _, rfl, rfl, rfl, fun j cs hn hc => by rw [hget, if_neg (fun e : i = j ∧ i < H.length => hbo (by rw [e.1]; exact hn))]; exact hc⟩
  · intro j; rw [hget]; split
    · rename_i e; rw [← e.1]; exact hb
    · exact hr.blk j
  · intro j k g β γ hj hk' h1 h2
    exact hr.inj j k g β γ (hmm j hj) (hmm k hk') h1 h2
  · intro j hj; exact hr.lim j (by simpa using hj)
  · intro j hj hmu; rw [hget]; split
    · rename_i e; exact hk (e.1 ▸ hmu)
    · exact hmu
  · rintro g ⟨j, β, hj, h⟩
    exact .inl ⟨j, β, hmm j hj, h⟩

theorem co1_sound (hr : Rel w S ρ H) (z : Nat) (k : Bool) {v : AV} {cv : Value} (hv : VR w S ρ v cv) : Evo w S ρ H w S ρ (co1 z k v H).2 ∧ VR w S ρ (co1 z k v H).1 cv ∧ ∃ r, (co1 z k v H).2 = H ++ r := by
  have own : ∀ a, VR w S ρ (.own H.length z 0 0 false) (.slice a 0 0) := fun a => .own _ _ _ _ _ _ _ (Nat.le_refl _) (by simp) (by simp)
  have lst : ∀ a, VR w S ρ (.d (.list z [])) (.slice a 0 0) := fun a => .d _ _ (.list z [] a 0 0 0 0 (fun _ => undef) rfl (Nat.le_refl _) (by simp) (by simp) (by simp) (by simp))
  unfold co1
  split
  · cases hv.dr
    split
    · exact ⟨evo_nil hr z, own _, _, rfl⟩
    · exact ⟨Evo.refl hr, lst _, [], by simp⟩
  · cases hv.dr
    split
    · exact ⟨evo_nil hr z, own _, _, rfl⟩
    · exact ⟨Evo.refl hr, lst _, [], by simp⟩
  · exact ⟨Evo.refl hr, hv, [], by simp⟩

theorem coL_sound : ∀ (l : List (Nat × Nat × Bool)) (cs : List AV) {H : Heap} (f : Nat → Value), Rel w S ρ H → (∀ j, j < cs.length → VR w S ρ (cs.getD j .unk) (f j)) →
    Evo w S ρ H w S ρ (coL l cs H).2 ∧ (coL l cs H).1.length = cs.length ∧ (∀ j, j < cs.length → VR w S ρ ((coL l cs H).1.getD j .unk) (f j)) ∧ ∃ r, (coL l cs H).2 = H ++ r
  | [], cs, H, f, hr, h => ⟨Evo.refl hr, rfl, h, [], by simp [coL]⟩
  | (j, z, k) :: l, cs, H, f, hr, h => by
    by_cases hj : j < cs.length
    · obtain ⟨e1, v1, r1, hr1⟩ := co1_sound hr z k (h j hj)
      obtain ⟨e2, l2, v2, r2, hr2⟩ := coL_sound l (cs.set j (co1 z k (cs.getD j .unk) H).1) f e1.rel (fun i hi => by
        rw [getD_set_eq]; split
        · rename_i e; rw [← e.1]; exact v1
        · exact h i (by simpa using hi))
      refine ⟨e1.trans e2, by rw [coL, l2]; simp, fun i hi => by rw [coL]; exact v2 i (by simpa using hi), r1 ++ r2, ?_⟩
      rw [coL, hr2, hr1, List.append_assoc]
    · have e0 : cs.getD j .unk = .unk := getD_over _ _ _ (by omega)
      have e1 : co1 z k (cs.getD j .unk) H = (.unk, H) := by rw [e0]; rfl
      have e2 : cs.set j AV.unk = cs := List.set_eq_of_length_le (by omega)
      rw [coL, e1]
      simp only [e2]
      exact coL_sound l cs f hr h

theorem boxOf_blk {i g : Nat} {c : Array Value} {e : TypeId} {fz : Nat × Nat} {cs : List AV} (h1 : ρ i = some (g, 0)) (h2 : w.heap[g]? = some (.cells c e fz)) (hf : Thaw fz c.size) (h3 : ¬ S g) (h4 : cs.length = c.size)
    (h5 : ∀ j, j < cs.length → one (c.getD j undef) = true) (h6 : ∀ j, j < cs.length → VR w S ρ (cs.getD j .unk) (c.getD j undef)) : BlkR w S ρ i (boxOf cs) := by
  unfold boxOf
  cases hp : boxOf.plainD cs with
  | none => exact ⟨g, c, e, fz, h1, ⟨h2, hf⟩, h3, h4, h5, h6⟩
  | some ds =>
    obtain ⟨p1, p2⟩ := plainD_get hp
    refine .inr ⟨g, c, e, fz, h1, ⟨h2, hf⟩, h3, by omega, fun j hj => h5 j (by omega), fun j hj => ?_⟩
    have := h6 j (by omega)
    rw [p2 j hj] at this
    exact this.dr
theorem boxOf_mut (cs : List AV) : (boxOf cs).mut = true := by unfold boxOf; split <;> rfl

theorem doCo_sound (c : Co) (hr : Rel w S ρ H) {v : AV} {cv : Value} (hv : VR w S ρ v cv) : ∃ S', Evo w S ρ H w S' ρ (doCo c v H).2 ∧ VR w S' ρ (doCo c v H).1 cv := by
  unfold doCo
  split
  · exact ⟨S, Evo.refl hr, hv⟩
  · obtain ⟨e, h, _⟩ := co1_sound hr _ _ hv
    exact ⟨S, e, h⟩
  · rename_i l cs
    cases hv with
    | agg _ vs hl ho hh =>
    obtain ⟨e, h1, h2, _⟩ := coL_sound l cs (fun j => vs.getD j undef) hr hh
    exact ⟨S, e, .agg _ _ (by omega) (fun j hj => ho j (by omega)) (fun j hj => h2 j (by omega))⟩
  · rename_i l i o
    have hb := hr.blk i
    split
    · rename_i cs hbx
      rw [hbx] at hb
      obtain ⟨g, cc, e, f, h1, ⟨h2, hf⟩, h3, h4, h5, h6⟩ := hb
      obtain ⟨e1, l1, v1, r, hr1⟩ := coL_sound l cs (fun j => cc.getD j undef) hr h6
      have hil : i < H.length := lt_of_mut (by rw [hbx]; rfl)
      have hsame : (coL l cs H).2.getD i .dead = .box cs := by rw [hr1, getD_app, if_pos hil, hbx]
      have e2 := evo_redesc e1.rel (i := i) (b := .box (coL l cs H).1) (fun _ => by rw [hsame]; rfl) (fun h => by rw [hsame] at h; simp [Blk.mut] at h)
        ⟨g, cc, e, f, h1, ⟨h2, hf⟩, h3, by omega, fun j hj => h5 j (by omega), fun j hj => v1 j (by omega)⟩ (by rw [h1]; simp)
      exact ⟨S, e1.trans e2, (e1.trans e2).vr hr hv⟩
    · rename_i ds hbx
      rw [hbx] at hb
      have hbp : ρ i ≠ none := by cases hv with | ptr _ _ g β h => rw [h]; simp
      obtain ⟨g, cc, e, f, h1, ⟨h2, hf⟩, h3, h4, h5, h6⟩ := hb.resolve_left hbp
      obtain ⟨e1, l1, v1, r, hr1⟩ := coL_sound l (ds.map .d) (fun j => cc.getD j undef) hr (fun j hj => by
        have hj' : j < ds.length := by simpa using hj
        rw [getD_map' _ _ _ D.nilp _ hj']; exact .d _ _ (h6 j hj'))
      rw [List.length_map] at l1 v1
      have hil : i < H.length := lt_of_mut (by rw [hbx]; rfl)
      have hsame : (coL l (ds.map .d) H).2.getD i .dead = .dbox ds := by rw [hr1, getD_app, if_pos hil, hbx]
      have e2 := evo_redesc e1.rel (i := i) (b := boxOf (coL l (ds.map .d) H).1) (fun _ => by rw [hsame]; rfl) (fun h => by rw [hsame] at h; simp [Blk.mut] at h)
        (boxOf_blk h1 h2 hf h3 (by omega) (fun j hj => h5 j (by omega)) (fun j hj => v1 j (by omega))) hbp
      exact ⟨S, e1.trans e2, (e1.trans e2).vr hr hv⟩
    · exact ⟨S, Evo.refl hr, hv⟩
  · exact ⟨S, Evo.refl hr, hv⟩
  · obtain ⟨S', e⟩ := evo_freezeAll (ρ := ρ) v.owns hr
    exact ⟨S', e, view_sound e.rel (e.vr hr hv) fun j hj => ⟨fun z xs hb => freezeAll_mem _ _ _ _ _ hj hb, fun es hb => freezeAll_mem_m _ _ _ _ hj hb⟩⟩
  · exact ⟨S, Evo.refl hr, hv⟩

theorem SlotsR.get (h : SlotsR w S ρ st.s a.tmps) (t : Nat) : VR w S ρ (st.s.getD t .unk) (a.tmps.getD t undef) := by
  by_cases ht : t < st.s.length
  · exact h.vr t ht
  · rw [getD_over _ _ _ (by omega)]; exact .unk _

theorem cV_sound {v : Value} {x : AV} (h : cV v = some x) : VR w S ρ x v := by
  unfold cV at h
  split at h
  · rename_i cs
    rw [Option.map_eq_some_iff] at h
    obtain ⟨ds, h1, rfl⟩ := h
    obtain ⟨c1, c2, c3⟩ := cells_of_allO (w := w) (S := S) h1
    refine .agg _ _ (by simp [c1]) (fun j hj => c2 j (by simpa using hj)) (fun j hj => ?_)
    have hj' : j < ds.length := by simpa using hj
    rw [getD_map' _ _ _ D.nilp _ hj']; exact .d _ _ (c3 j hj')
  · injection h with h; subst h; exact .tup [] #[] rfl (fun j hj => by simp at hj)
  · rw [Option.map_eq_some_iff] at h
    obtain ⟨d, h1, rfl⟩ := h
    exact .d _ _ (cD_dr h1)

theorem cX_sound (h : SlotsR w S ρ st.s a.tmps) {x : Operand} {x' : X} (hx : cX x = some x') : VR w S ρ (st.x x') (a.eval x) := by
  cases x with
  | tmp t => simp only [cX, Option.some.injEq] at hx; subst hx; exact h.get t
  | const v =>
    simp only [cX, Option.map_eq_some_iff] at hx
    obtain ⟨y, h1, rfl⟩ := hx
    exact cV_sound h1
  | global g => simp [cX] at hx
  | func f =>
    simp only [cX, Option.some.injEq] at hx; subst hx
    exact .clo _ [] [] #[] #[] rfl rfl (fun j hj => by simp at hj) (fun j hj => by simp at hj)

theorem cXs_sound (h : SlotsR w S ρ st.s a.tmps) {xs : Array Operand} {xs' : List X} (hx : cXs xs = some xs') : (st.xs xs').length = (xs.map a.eval).size ∧
    ∀ i, i < (st.xs xs').length → VR w S ρ ((st.xs xs').getD i .unk) ((xs.map a.eval).getD i undef) := by
  obtain ⟨h1, h2⟩ := allO_spec hx
  refine ⟨by simpa [St.xs] using h1.symm, fun i hi => ?_⟩
  have hi' : i < xs'.length := by simpa [St.xs] using hi
  have h3 := h2 i (.tmp 0) (.s 0) (by omega)
  have h4 := cX_sound h h3
  have e1 : (st.xs xs').getD i .unk = st.x (xs'.getD i (.s 0)) := by rw [St.xs, getD_map' _ _ _ (X.s 0) _ hi']
  have e2 : (xs.map a.eval).getD i undef = a.eval (xs.toList.getD i (.tmp 0)) := by
    rw [← toList_getD, Array.toList_map, getD_map' _ _ _ (Operand.tmp 0) _ (by omega)]
  rw [e1, e2]; exact h4

/-- What an operation owes. -/
def OpOk (P : Program) (w : World) (S : Sta) (ρ : Pos) (H : Heap) (r : AV) (H' : Heap) (o : Oper) (a : Act) : Prop :=
  ∀ (K : Act → World → Prop) (Q : Exit → Act → World → Prop), (∀ cv w' S' ρ', Evo w S ρ H w' S' ρ' H' → VR w' S' ρ' r cv → K (a.put o.dst cv) w') → o.wp P a w K Q

theorem ok_gives {r : AV} {H' : Heap} {o : Oper} {s : Sem Value} (hs : execOp a.eval o = (do pure (.value (← s)))) (h : Gives P w S ρ H r H' s) : OpOk P w S ρ H r H' o a := by
  intro K Q hK
  obtain ⟨cv, w', S', ρ', h1, h2, h3⟩ := h
  unfold Oper.wp
  rw [hs]
  simp only [Sem.run_bind, h1, Result.andThen_ok, Sem.run_pure]
  exact hK cv w' S' ρ' h2 h3

theorem execOp_value {o : Oper} {v : Value} (h : execOp a.eval o = pure (.value v)) : execOp a.eval o = (do pure (.value (← (pure v : Sem Value)))) := by rw [h]; rfl

theorem ok_same (hr : Rel w S ρ H) {r : AV} {o : Oper} {v : Value} (hs : execOp a.eval o = pure (.value v)) (h : VR w S ρ r v) : OpOk P w S ρ H r H o a :=
  ok_gives (execOp_value hs) (gives_same hr rfl h)

/-! ### calls -/
theorem viewL_getD (H : Heap) (l : List AV) (j : Nat) : (AV.viewL H l).getD j .unk = (l.getD j .unk).view H := by
  rw [viewL_map]
  by_cases h : j < l.length
  · rw [getD_map' _ _ _ AV.unk _ h]
  · rw [getD_over _ _ _ (by simp; omega), getD_over _ _ _ (by omega)]; rfl

theorem doCallB_body (hcall : CallSnd P call) {f : FuncId} {args : List AV} {rf : Bool} {r : AV} {H' : Heap} (h : doCallB call f args rf H = some (r, H')) : HasBody P f := by
  unfold doCallB at h
  simp only at h
  split at h
  · simp at h
  · rename_i hcv; exact (hcall f _ _ _ _ hcv).1

theorem doCallB_sound (hcall : CallSnd P call) {f : FuncId} {args : List AV} {rf : Bool} {r : AV} {H' : Heap} (h : doCallB call f args rf H = some (r, H')) (hr : Rel w S ρ H) {cargs : Array Value} (hl : args.length = cargs.size)
    (hv : ∀ i, i < args.length → VR w S ρ (args.getD i .unk) (cargs.getD i undef)) :
    Calls P f cargs w fun e w' => ∃ cv S' ρ', e = .returned cv ∧ Evo w S ρ H w' S' ρ' H' ∧ VR w' S' ρ' r cv := by
  unfold doCallB at h
  simp only at h
  generalize hvs : (if rf = true then ([] : List Nat) else AV.ownsL args) = vs at h
  generalize has : (if rf = true then args else AV.viewL H args) = as1 at h
  generalize hids : reach 1000 H (AV.refsL as1) [] = ids at h
  obtain ⟨S1, e1⟩ := evo_freezeAll (ρ := ρ) vs hr
  have hlen1 := freezeAll_length vs H
  obtain ⟨rr, q1, q2, q3⟩ := reach_spec 1000 H (AV.refsL as1) [] (by simp) (by simp)
  rw [hids, List.nil_append] at q1
  subst q1
  rw [List.nil_append] at q2 q3
  have hl1 : as1.length = cargs.size := by
    subst has; split
    · exact hl
    · rw [viewL_map]; simpa using hl
  have hv1 : ∀ i, i < as1.length → VR w S1 ρ (as1.getD i .unk) (cargs.getD i undef) := by
    intro i hi
    subst has; subst hvs
    by_cases hrf : rf = true
    · simp only [hrf, if_true] at hi ⊢
      have e1' := e1
      simp only [hrf, if_true] at e1'
      exact e1'.vr hr (hv i hi)
    · simp only [hrf, if_false, Bool.false_eq_true] at hi ⊢ e1
      rw [viewL_getD]
      have hi' : i < args.length := by rw [viewL_map] at hi; simpa using hi
      exact view_sound e1.rel (e1.vr hr (hv i hi')) (fun j hj => ⟨fun z xs hb => freezeAll_mem _ _ _ _ _ (mem_ownsL hi' hj) hb, fun es hb => freezeAll_mem_m _ _ _ _ (mem_ownsL hi' hj) hb⟩)
  split at h
  · simp at h
  rename_i v H1 hcv
  have hrel := e1.rel.ren q2
  have hc := (hcall f _ _ v H1 hcv).2 w S1 (comp ρ ids) cargs hrel (by rw [renL_map]; simpa using hl1) (fun i hi => by
    rw [renL_getD]
    exact (hv1 i (by rw [renL_map] at hi; simpa using hi)).ren (fun i j p h hp => comp_pos h hp))
  refine hc.mono fun e w' hR => ?_
  obtain ⟨cv, S2, ρ2, he, hev, hvr⟩ := hR
  split at h
  · rename_i hcond
    obtain ⟨hnil, hsc⟩ := hcond
    simp only [Option.some.injEq, Prod.mk.injEq] at h
    obtain ⟨rfl, rfl⟩ := h
    subst hnil
    have : renH [] (freezeAll vs H) = [] := rfl
    rw [this] at hev
    exact ⟨cv, S, ρ, he, evo_nothing hr hev, scalar_any hvr hsc⟩
  · simp only [Option.some.injEq, Prod.mk.injEq] at h
    obtain ⟨rfl, rfl⟩ := h
    obtain ⟨ρ3, e3, hm⟩ := evo_back e1.rel q2 (fun i hi => by rw [hlen1]; exact q3 i hi) hev
    rw [hlen1] at e3 hm
    exact ⟨cv, S2, ρ3, he, e1.trans e3, hvr.ren hm⟩

theorem refs_mem : ∀ (l : List AV), AV.refsL l = [] → ∀ j, j < l.length → (l.getD j .unk).refs = []
  | [], _, j, hj => by simp at hj
  | x :: l, h, 0, hj => by
    simp only [AV.refsL, List.append_eq_nil_iff] at h; simpa using h.1
  | x :: l, h, j + 1, hj => by
    simp only [AV.refsL, List.append_eq_nil_iff] at h
    simpa using refs_mem l h.2 j (by simpa using hj)
/-- A value without names holds under any names. -/
theorem VR.unref {ρ' : Pos} {x : AV} {v : Value} (h : VR w S ρ x v) : x.refs = [] → VR w S ρ' x v := by
  induction h with
  | unk v => exact fun _ => .unk v
  | d x v h => exact fun _ => .d x v h
  | agg cs vs hl ho _ ih => intro hs; rw [AV.refs] at hs; exact .agg cs vs hl ho fun j hj => ih j hj (refs_mem _ hs j hj)
  | tup cs vs hl _ ih => intro hs; rw [AV.refs] at hs; exact .tup cs vs hl fun j hj => ih j hj (refs_mem _ hs j hj)
  | ptr i o g β h => intro hs; simp [AV.refs] at hs
  | ept i z k c g β h => intro hs; simp [AV.refs] at hs
  | cpt cs c b o f hb' hc hd => exact fun _ => .cpt cs c b o f hb' hc hd
  | own i z o n k a cap h1 h2 h3 => intro hs; simp [AV.refs] at hs
  | clo f a b va vb ha hb' _ _ ih1 ih2 =>
    intro hs
    simp only [AV.refs, List.append_eq_nil_iff] at hs
    exact .clo f a b va vb ha hb' (fun j hj => ih1 j hj (refs_mem _ hs.1 j hj)) (fun j hj => ih2 j hj (refs_mem _ hs.2 j hj))
  | ifc t x v _ ih => intro hs; rw [AV.refs] at hs; exact .ifc t x v (ih hs)
  | mref i g h => intro hs; simp [AV.refs] at hs

/-- What a call that holds nothing of the caller's leaves, with what it made kept as data. -/
theorem evo_data {w' : World} (hr : Rel w S ρ H) {S2 : Sta} {ρ1 ρ2 : Pos} {H2 : Heap} (e : Evo w S ρ1 [] w' S2 ρ2 H2) : Evo w S ρ H w' S2 ρ H := by
  have hfr : ∀ g, g < w.heap.size → w'.heap[g]? = w.heap[g]? := fun g hg => e.frame g hg (by rintro ⟨i, β, h, _⟩; simp [Blk.mut] at h)
  have hst : ∀ g, S g → w'.heap[g]? = w.heap[g]? := fun g hg => hfr g (hr.slt g hg)
  have hnew : ∀ g, S2 g → g < w.heap.size → S g := fun g h hlt => by
    rcases e.new g h with h | h | h
    · exact h
    · obtain ⟨i, β, h, _⟩ := h; simp [Blk.mut] at h
    · omega
  refine ⟨⟨fun i => ?_, hr.inj, hr.lim, fun i g β h => Nat.lt_of_lt_of_le (hr.rlt i g β h) e.size, e.rel.slt, e.rel.gl⟩, Nat.le_refl _, fun _ _ => rfl, fun _ _ h => h, e.sub, fun g h => ?_,
    fun g hg _ => hfr g hg, fun _ h => .inl h, e.shape, e.size, e.os, e.tape, e.output, fun _ _ _ h => h⟩
  · exact (hr.blk i).mono e.sub hst (fun _ _ h => h) (bsz_of_shape e.shape) rfl (fun _ g β h => hfr g (hr.rlt i g β h)) (fun g β h _ hs hs' => hs (hnew g hs' (hr.rlt i g β h)))
  · rcases e.new g h with h | h | h
    · exact .inl h
    · obtain ⟨i, β, h, _⟩ := h; simp [Blk.mut] at h
    · exact .inr (.inr h)

theorem doCallQ_body (hcall : CallSnd P call) {f : FuncId} {args : List AV} {r : AV} {H' : Heap} (h : doCallQ call f args H = some (r, H')) : HasBody P f := by
  unfold doCallQ at h
  simp only at h
  split at h
  · split at h
    · simp at h
    · rename_i hcv; exact (hcall f _ _ _ _ hcv).1
  · simp at h

theorem doCallQ_sound (hcall : CallSnd P call) {f : FuncId} {args : List AV} {r : AV} {H' : Heap} (h : doCallQ call f args H = some (r, H')) (hr : Rel w S ρ H) {cargs : Array Value} (hl : args.length = cargs.size)
    (hv : ∀ i, i < args.length → VR w S ρ (args.getD i .unk) (cargs.getD i undef)) :
    Calls P f cargs w fun e w' => ∃ cv S' ρ', e = .returned cv ∧ Evo w S ρ H w' S' ρ' H' ∧ VR w' S' ρ' r cv := by
  unfold doCallQ at h
  simp only at h
  split at h
  case isFalse => simp at h
  rename_i hrefs
  split at h
  · simp at h
  rename_i v H1 hcv
  have hS : ∃ S1, Evo w S ρ H w S1 ρ (freezeAll (AV.ownsL args) H) ∧ (AV.ownsL args = [] → S1 = S) := by
    by_cases h0 : AV.ownsL args = []
    · rw [h0]; exact ⟨S, Evo.refl hr, fun _ => rfl⟩
    · obtain ⟨S1, e1⟩ := evo_freezeAll (ρ := ρ) (AV.ownsL args) hr
      exact ⟨S1, e1, fun h => absurd h h0⟩
  obtain ⟨S1, e1, hS1⟩ := hS
  have hv1 : ∀ i, i < (AV.viewL H args).length → VR w S1 ρ ((AV.viewL H args).getD i .unk) (cargs.getD i undef) := by
    intro i hi
    rw [viewL_getD]
    have hi' : i < args.length := by rw [viewL_map] at hi; simpa using hi
    exact view_sound e1.rel (e1.vr hr (hv i hi')) (fun j hj => ⟨fun z xs hb => freezeAll_mem _ _ _ _ _ (mem_ownsL hi' hj) hb, fun es hb => freezeAll_mem_m _ _ _ _ (mem_ownsL hi' hj) hb⟩)
  have hnil : Rel w S1 (comp ρ []) [] := e1.rel.ren (ids := []) List.nodup_nil
  have hc := (hcall f _ _ v H1 hcv).2 w S1 (comp ρ []) cargs hnil (by rw [renL_map, viewL_map]; simpa using hl) (fun i hi => by
    rw [renL_getD]
    exact (hv1 i (by rw [renL_map] at hi; simpa using hi)).ren (fun i j p h hp => comp_pos h hp))
  refine hc.mono fun e w' hR => ?_
  obtain ⟨cv, S2, ρ2, he, hev, hvr⟩ := hR
  split at h
  · rename_i hsc
    simp only [Option.some.injEq, Prod.mk.injEq] at h
    obtain ⟨rfl, rfl⟩ := h
    exact ⟨cv, S, ρ, he, evo_nothing hr hev, scalar_any hvr hsc⟩
  · split at h
    · rename_i hsc
      obtain ⟨hown, href⟩ := hsc
      simp only [Option.some.injEq, Prod.mk.injEq] at h
      obtain ⟨rfl, rfl⟩ := h
      obtain ⟨S3, e3⟩ := evo_freezeAll (ρ := ρ2) v.owns hev.rel
      have hvw : VR w' S3 ρ2 (v.view H1) cv := view_sound e3.rel (e3.vr hev.rel hvr) fun j hj => ⟨fun z xs hb => freezeAll_mem _ _ _ _ _ hj hb, fun es hb => freezeAll_mem_m _ _ _ _ hj hb⟩
      have := hS1 hown
      subst this
      exact ⟨cv, S3, ρ, he, evo_data hr (hev.trans e3), hvw.unref href⟩
    · simp at h

theorem ownsR : ∀ v : AV, v.refs = [] → v.owns = []
  | .agg cs, h => by rw [AV.refs] at h; rw [AV.owns]; exact ownsRL cs h
  | .tup cs, h => by rw [AV.refs] at h; rw [AV.owns]; exact ownsRL cs h
  | .ifc t x, h => by rw [AV.refs] at h; rw [AV.owns]; exact ownsR x h
  | .own .., h => by simp [AV.refs] at h
  | .mref _, h => by simp [AV.refs] at h
  | .unk, _ | .d _, _ | .ptr .., _ | .ept .., _ | .cpt .., _ | .clo .., _ => by simp [AV.owns]
where ownsRL : ∀ l : List AV, AV.refsL l = [] → AV.ownsL l = []
  | [], _ => rfl
  | x :: l, h => by
    simp only [AV.refsL, List.append_eq_nil_iff] at h
    simp only [AV.ownsL, ownsR x h.1, ownsRL l h.2, List.append_nil]
theorem viewR (H : Heap) : ∀ v : AV, v.refs = [] → v.view H = v
  | .agg cs, h => by rw [AV.refs] at h; rw [AV.view, viewRL H cs h]
  | .tup cs, h => by rw [AV.refs] at h; rw [AV.view, viewRL H cs h]
  | .ifc t x, h => by rw [AV.refs] at h; rw [AV.view, viewR H x h]
  | .own .., h => by simp [AV.refs] at h
  | .mref _, h => by simp [AV.refs] at h
  | .unk, _ | .d _, _ | .ptr .., _ | .ept .., _ | .cpt .., _ | .clo .., _ => by simp [AV.view]
where viewRL (H : Heap) : ∀ l : List AV, AV.refsL l = [] → AV.viewL H l = l
  | [], _ => rfl
  | x :: l, h => by
    simp only [AV.refsL, List.append_eq_nil_iff] at h
    simp only [AV.viewL, viewR H x h.1, viewRL H l h.2]
theorem renR (f : Nat → Option Nat) : ∀ v : AV, v.refs = [] → v.ren f = v
  | .agg cs, h => by rw [AV.refs] at h; rw [AV.ren, renRL f cs h]
  | .tup cs, h => by rw [AV.refs] at h; rw [AV.ren, renRL f cs h]
  | .ifc t x, h => by rw [AV.refs] at h; rw [AV.ren, renR f x h]
  | .own .., h => by simp [AV.refs] at h
  | .mref _, h => by simp [AV.refs] at h
  | .ptr .., h => by simp [AV.refs] at h
  | .ept .., h => by simp [AV.refs] at h
  | .clo fn a b, h => by
    rw [AV.refs, List.append_eq_nil_iff] at h
    rw [AV.ren, renRL f a h.1, renRL f b h.2]
  | .unk, _ | .d _, _ | .cpt .., _ => by simp [AV.ren]
where renRL (f : Nat → Option Nat) : ∀ l : List AV, AV.refsL l = [] → AV.renL f l = l
  | [], _ => rfl
  | x :: l, h => by
    simp only [AV.refsL, List.append_eq_nil_iff] at h
    simp only [AV.renL, renR f x h.1, renRL f l h.2]
theorem doCallP_inv {f : FuncId} {args : List AV} {r : AV} {H H' : Heap} (h : doCallP call f args H = some (r, H')) :
    ∃ i o rest cs ds, args = .ptr i o :: rest ∧ H.getD i .dead = .dbox cs ∧ AV.refsL rest = [] ∧ call f (.ptr 0 o :: rest) [.dbox cs] = some (r, [.dbox ds]) ∧ r.refs = [] ∧ H' = H.set i (.dbox ds) := by
  unfold doCallP at h
  split at h
  case h_2 => simp at h
  rename_i i o rest
  split at h
  case h_2 => simp at h
  rename_i cs hcs
  split at h
  case isFalse => simp at h
  rename_i hrest
  split at h
  case h_2 => simp at h
  rename_i v ds hc
  split at h
  case isFalse => simp at h
  rename_i hv
  simp only [Option.some.injEq, Prod.mk.injEq] at h
  obtain ⟨rfl, rfl⟩ := h
  exact ⟨i, o, rest, cs, ds, rfl, hcs, hrest, hc, hv, rfl⟩
theorem doCallP_B {f : FuncId} {args : List AV} {r : AV} {H H' : Heap} (h : doCallP call f args H = some (r, H')) : doCallB call f args false H = some (r, H') := by
  obtain ⟨i, o, rest, cs, ds, rfl, hcs, hrest, hc, hv, rfl⟩ := doCallP_inv h
  have hi : i < H.length := by
    rcases Nat.lt_or_ge i H.length with h | h
    · exact h
    · rw [List.getD_eq_getElem?_getD, List.getElem?_eq_none h] at hcs; simp at hcs
  have hcs2 : H[i]?.getD .dead = .dbox cs := by rw [← List.getD_eq_getElem?_getD]; exact hcs
  have e1 : AV.ownsL (.ptr i o :: rest) = [] := by simp only [AV.ownsL, AV.owns, ownsR.ownsRL rest hrest, List.append_nil]
  have e2 : AV.viewL H (.ptr i o :: rest) = .ptr i o :: rest := by simp only [AV.viewL, AV.view, viewR.viewRL H rest hrest]
  have e3 : AV.refsL (.ptr i o :: rest) = [i] := by simp only [AV.refsL, AV.refs, hrest, List.append_nil]
  have e4 : reach 1000 H [i] [] = [i] := by
    have hb : (H.getD i .dead).refs = [] := by rw [hcs]; rfl
    rw [reach]
    simp only [List.elem_nil, Bool.false_or, hi, decide_true, Bool.not_true, Bool.false_eq_true, if_false, hb, List.nil_append]
    rw [reach]
    all_goals simp
  have e5 : AV.renL (posOf [i]) (.ptr i o :: rest) = .ptr 0 o :: rest := by
    simp only [AV.renL, AV.ren, posOf, posOf.go, if_true, renR.renRL _ rest hrest]
  have e6 : renH [i] H = [.dbox cs] := by
    unfold renH
    simp only [List.map_cons, List.map_nil, hcs, Blk.ren]
  unfold doCallB
  simp only [Bool.false_eq_true, if_false, e1, e2, e3, e4, freezeAll]
  rw [e5, e6, hc]
  simp only [reduceCtorEq, false_and, if_false]
  rw [renR _ r hv]
  simp [doCallB.setBack, Blk.ren]
theorem doCall_body (hcall : CallSnd P call) {f : FuncId} {args : List AV} {rf : Nat} {r : AV} {H' : Heap} (h : doCall call f args rf H = some (r, H')) : HasBody P f := by
  unfold doCall at h
  split at h
  · exact doCallB_body hcall h
  · exact doCallB_body hcall h
  · exact doCallB_body hcall (doCallP_B h)
  · exact doCallQ_body hcall h
theorem doCall_sound (hcall : CallSnd P call) {f : FuncId} {args : List AV} {rf : Nat} {r : AV} {H' : Heap} (h : doCall call f args rf H = some (r, H')) (hr : Rel w S ρ H) {cargs : Array Value} (hl : args.length = cargs.size)
    (hv : ∀ i, i < args.length → VR w S ρ (args.getD i .unk) (cargs.getD i undef)) :
    Calls P f cargs w fun e w' => ∃ cv S' ρ', e = .returned cv ∧ Evo w S ρ H w' S' ρ' H' ∧ VR w' S' ρ' r cv := by
  unfold doCall at h
  split at h
  · exact doCallB_sound hcall h hr hl hv
  · exact doCallB_sound hcall h hr hl hv
  · exact doCallB_sound hcall (doCallP_B h) hr hl hv
  · exact doCallQ_sound hcall h hr hl hv

theorem ok_call (hcall : CallSnd P call) {o : Oper} {f : FuncId} {args : List AV} {rf : Nat} {r : AV} {H' : Heap} (h : doCall call f args rf H = some (r, H')) (hr : Rel w S ρ H) {cargs : Array Value} (hl : args.length = cargs.size)
    (hv : ∀ i, i < args.length → VR w S ρ (args.getD i .unk) (cargs.getD i undef)) (hs : (execOp a.eval o).run P w = .ok (.enter f cargs) w) : OpOk P w S ρ H r H' o a := by
  intro K Q hK
  unfold Oper.wp
  rw [hs]
  refine (doCall_sound hcall h hr hl hv).mono fun e w' hR => ?_
  obtain ⟨cv, S', ρ', rfl, h1, h2⟩ := hR
  exact hK cv w' S' ρ' h1 h2

theorem run_callFunc {f : FuncId} (h : HasBody P f) (args : Array Value) : (callFunc f args).run P w = .ok (.enter f args) w := by
  obtain ⟨fn, h1, h2, h3⟩ := h
  have h5 : fn.body ≠ none := by cases hb : fn.body <;> simp_all
  simp [callFunc, program, Sem.run, h1, h3, h5]

theorem bound_sound (h : SlotsR w S ρ st.s a.tmps) {x : Option Operand} {x' : Option X} (hx : cO.cXo x = some x') {n : Option Nat} (hn : evO.bound st x' = some n) : BoundR n (x.map a.eval) := by
  cases x with
  | none =>
    simp only [cO.cXo, Option.some.injEq] at hx; subst hx
    simp only [evO.bound, Option.some.injEq] at hn; subst hn; trivial
  | some x =>
    simp only [cO.cXo, Option.map_eq_some_iff] at hx
    obtain ⟨y, h1, rfl⟩ := hx
    simp only [evO.bound] at hn
    split at hn
    · rename_i m hm
      injection hn with hn; subst hn
      have hv := cX_sound h h1
      generalize st.x y = v at hm hv
      unfold AV.asNat at hm
      split at hm
      · split at hm
        · injection hm with hm; subst hm
          rename_i k i h0
          refine ⟨k, ?_⟩
          generalize a.eval x = u at hv
          cases hv.dr
          rw [Int.toNat_of_nonneg h0]
        · simp at hm
      · simp at hm
    · simp at hn

theorem parts_sound (h : SlotsR w S ρ st.s a.tmps) {ps : Array (Nat × Operand)} {f : Nat → Option (Nat × Nat)} {qs : List (Nat × Nat × X)}
    (hq : allO (fun (p : Nat × Operand) => match f p.1, cX p.2 with | some e, some x => some (e.1, e.2, x) | _, _ => none) ps.toList = some qs) :
    ps.size = qs.length ∧ ∀ k, k < ps.size → f (ps.toList.getD k (0, .tmp 0)).1 = some ((qs.getD k (0, 0, .s 0)).1, (qs.getD k (0, 0, .s 0)).2.1) ∧
      VR w S ρ (st.x (qs.getD k (0, 0, .s 0)).2.2) (a.eval (ps.toList.getD k (0, .tmp 0)).2) := by
  obtain ⟨h1, h2⟩ := allO_spec hq
  refine ⟨by simpa using h1, fun k hk => ?_⟩
  have h3 := h2 k (0, .tmp 0) (0, 0, .s 0) (by simpa using hk)
  split at h3
  · rename_i e x he hx
    injection h3 with h3
    rw [← h3]
    exact ⟨he, cX_sound h hx⟩
  · simp at h3
end
end Go.Ev
