/- Code and functions: the model's do what the evaluator says. Own work. -/
import Derived.Scope
import Derived.Test.YtbcpffhialoliaaEvDis
import Derived.Test.YtbcpffhialoliaaEvPer
namespace Go.Ev
open Go
set_option linter.unusedVariables false
set_option linter.unusedSimpArgs false

structure Inv (w0 : World) (S0 : Sta) (ρ0 : Pos) (H0 : Heap) (w : World) (S : Sta) (ρ : Pos) (st : St) (a : Act) : Prop where
  evo : Evo w0 S0 ρ0 H0 w S ρ st.h
  slots : SlotsR w S ρ st.s a.tmps
  m : st.m = H0.length
  defers : a.defers = []

def Ex.to : Ex → Exit
  | .normal => .normal
  | .exit id => .exit id
  | .ret => .ret

/-- A loop that stands at its head. -/
def LW (P : Program) (c : Code) (Q : Exit → Act → World → Prop) (a : Act) (w : World) : Prop :=
  ∀ (b : Frame) (k : List Item) (cs : List Frame), ∃ e a' w', Q e a' w' ∧ Arrives P (lone (b.at a (.code c :: .inLoop c :: k)) cs w) b k cs e a' w'
theorem LW.intro {P : Program} {c : Code} {Q : Exit → Act → World → Prop} {a : Act} {w : World} (h : c.wp P (Exit.then (LW P c Q) Q) a w) : LW P c Q a w := by
  intro b k cs
  obtain ⟨e, a₁, w₁, hq, harr⟩ := h b (.inLoop c :: k) cs
  cases e with
  | normal =>
    obtain ⟨e₂, a₂, w₂, hq₂, harr₂⟩ := hq b k cs
    exact ⟨e₂, a₂, w₂, hq₂, .of_steps (Steps.trans harr (.one step_inLoop)) harr₂⟩
  | exit id => exact ⟨_, a₁, w₁, hq, .pass (x := .inLoop c) rfl (fun _ _ => .inl (by simp)) harr⟩
  | goto l => exact ⟨_, a₁, w₁, hq, .pass (x := .inLoop c) rfl (fun _ _ => .inl (by simp)) harr⟩
  | ret => exact ⟨_, a₁, w₁, hq, .pass (x := .inLoop c) rfl (fun _ _ => .inl (by simp)) harr⟩
  | panic ch => exact ⟨_, a₁, w₁, hq, .pass (x := .inLoop c) rfl (fun _ _ => .inl (by simp)) harr⟩
  | outgrown => exact ⟨_, a₁, w₁, hq, .pass (x := .inLoop c) rfl (fun _ _ => .inl (by simp)) harr⟩
theorem wp_of_LW {P : Program} {c : Code} {Q : Exit → Act → World → Prop} {a : Act} {w : World} (h : LW P c Q a w) : (Code.loop c).wp P Q a w := by
  intro b k cs
  obtain ⟨e, a', w', hq, harr⟩ := h b k cs
  exact ⟨e, a', w', hq, .of_steps (.one step_loop) harr⟩

section
variable {w0 w : World} {S0 S : Sta} {ρ0 ρ : Pos} {H0 H : Heap} {P : Program} {call : Callee} {lp : Looper} {st : St} {a : Act}

theorem SlotsR.put {s : List AV} {t : Array Value} (h : SlotsR w S ρ s t) (d : Nat) {x : AV} {v : Value} (hv : VR w S ρ x v) : SlotsR w S ρ (s.set d x) (t.setIfInBounds d v) := by
  refine ⟨by simp [h.len], fun i hi => ?_⟩
  simp only [List.length_set] at hi
  rw [getD_set_eq]
  have hg : (t.setIfInBounds d v).getD i undef = if d = i then v else t.getD i undef := by
    have h0 := h.len
    rw [← toList_getD, ← toList_getD, Array.toList_setIfInBounds, getD_set_eq]
    by_cases e : d = i
    · rw [if_pos e, if_pos ⟨e, by simp; omega⟩]
    · rw [if_neg e, if_neg (by omega)]
  rw [hg]
  by_cases e : d = i
  · rw [if_pos e, if_pos ⟨e, by omega⟩]; exact hv
  · rw [if_neg e, if_neg (by omega)]; exact h.vr i hi

theorem SlotsR.mono {w' : World} {S' : Sta} {ρ' : Pos} {s : List AV} {t : Array Value} (h : SlotsR w S ρ s t) (hv : ∀ x v, VR w S ρ x v → VR w' S' ρ' x v) : SlotsR w' S' ρ' s t := ⟨h.len, fun i hi => hv _ _ (h.vr i hi)⟩

theorem Inv.put (h : Inv w0 S0 ρ0 H0 w S ρ st a) {dst : Option Nat} {x : AV} {H' : Heap} {v : Value} {w' : World} {S' : Sta} {ρ' : Pos} (e : Evo w S ρ st.h w' S' ρ' H') (hv : VR w' S' ρ' x v) :
    Inv w0 S0 ρ0 H0 w' S' ρ' (st.put dst x H') (a.put dst v) := by
  have hs := h.slots.mono (fun x v hx => e.vr h.evo.rel hx)
  cases dst with
  | none => exact ⟨h.evo.trans e, hs, h.m, h.defers⟩
  | some d => exact ⟨h.evo.trans e, hs.put d hv, h.m, h.defers⟩

theorem want_sound (h : SlotsR w S ρ st.s a.tmps) {ops : Array Oper} {o : Oper} {g : Option (Nat × Bool)} (hg : cG ops o.guard = some g) {c : Bool} (hw : wantQ st g = some c) : Region.wanted o (yielded ops a.tmps) = c := by
  unfold Region.wanted
  cases ho : o.guard with
  | none =>
    rw [ho] at hg
    simp only [cG, Option.some.injEq] at hg; subst hg
    simpa [wantQ] using hw
  | some p =>
    obtain ⟨j, b⟩ := p
    rw [ho] at hg
    simp only [cG] at hg
    split at hg
    case h_2 => simp at hg
    rename_i t ht
    simp only [Option.some.injEq] at hg; subst hg
    have hv := h.get t
    simp only [wantQ] at hw
    split at hw
    · rename_i hc0
      injection hw with hw; subst hw
      have he : a.tmps.getD t undef = undef := by
        rw [hc0] at hv
        generalize a.tmps.getD t undef = u at hv
        cases hv with
        | tup cs vs hl _ =>
          have : vs = #[] := Array.eq_empty_of_size_eq_zero (by simpa using hl.symm)
          subst this; rfl
      have hy : yielded ops a.tmps j = none := by
        simp only [yielded, ht, Option.bind_some]
        cases hx : a.tmps[t]? with
        | none => rfl
        | some u =>
          have : a.tmps.getD t undef = u := by simp [Array.getD_eq_getD_getElem?, hx]
          rw [he] at this; subst this; rfl
      simp only [hy]
      cases b <;> rfl
    · rename_i c0 hc0
      injection hw with hw
      rw [hc0] at hv
      have hv : a.tmps.getD t undef = .bool c0 := by
        generalize a.tmps.getD t undef = u at hv
        cases hv.dr; rfl
      have hlt : t < a.tmps.size := by
        rcases Nat.lt_or_ge t a.tmps.size with hl | hl
        · exact hl
        · have : a.tmps.getD t undef = undef := by simp [Array.getD]; omega
          rw [this] at hv; simp [undef] at hv
      have hy : yielded ops a.tmps j = some c0 := by
        simp only [yielded, ht, Option.bind_some]
        have : a.tmps[t]? = some (.bool c0) := by
          rw [← hv]; simp [Array.getD, hlt]
        rw [this]
      simp only [hy]
      rw [← hw]
      cases c0 <;> cases b <;> rfl
    · simp at hw

/-- A block that is laid ahead and was not made yet. -/
def Unb (ρ : Pos) (H0 H : Heap) (q : Go.Ev.Q) : Prop := ∀ i c, q.c = .hol i c → ∃ e zs, q.o = .alloc e zs ∧ ρ i = none ∧ H.getD i .dead = .dbox (dcoL c zs) ∧ H0.length ≤ i
/-- What a step leaves of such blocks. -/
def Kee (q : Go.Ev.Q) (ρ : Pos) (H : Heap) (ρ' : Pos) (H' : Heap) : Prop := ∀ j, (∀ c, q.c ≠ .hol j c) → ρ j = none → ∀ cs, H.getD j .dead = .dbox cs → ρ' j = none ∧ H'.getD j .dead = .dbox cs
theorem Kee.of {q : Go.Ev.Q} {w' : World} {S' : Sta} {ρ' : Pos} {H' : Heap} (e : Evo w S ρ H w' S' ρ' H') : Kee q ρ H ρ' H' := fun j _ hn cs hc => ⟨(e.ext j (lt_of_dbox hc)).trans hn, e.unb j cs hn hc⟩

theorem dco1_dr {z : Nat} {x : D} {v : Value} (h : DR w S x v) : DR w S (dco1 z x) v := by
  have lst : ∀ a, DR w S (.list z []) (.slice a 0 0) := fun a => .list z [] a 0 0 0 0 (fun _ => undef) rfl (Nat.le_refl _) (by simp) (by simp) (by simp) (by simp)
  unfold dco1
  split
  · cases h; exact lst _
  · cases h; exact lst _
  · exact h
theorem dcoL_dr : ∀ (l : List (Nat × Nat × Bool)) (ds : List D) (f : Nat → Value), (∀ j, j < ds.length → DR w S (ds.getD j .nilp) (f j)) → (dcoL l ds).length = ds.length ∧ ∀ j, j < ds.length → DR w S ((dcoL l ds).getD j .nilp) (f j)
  | [], ds, f, h => ⟨rfl, h⟩
  | (k, z, b) :: l, ds, f, h => by
    simp only [dcoL]
    obtain ⟨h1, h2⟩ := dcoL_dr l (ds.set k (dco1 z (ds.getD k .nilp))) f (fun j hj => by
      have hj' : j < ds.length := by simpa using hj
      rw [getD_set_eq]
      split
      · rename_i e; rw [← e.1]; exact dco1_dr (h k e.2)
      · exact h j hj')
    simp only [List.length_set] at h1 h2
    exact ⟨h1, h2⟩

theorem cO_alloc {o : Oper} {e : TypeId} {zs : List D} (hc : cO P o = some (.alloc e zs)) : o.op = .alloc e ∧ zerosOf P e = some zs := by
  cases hop : o.op with
  | alloc e' =>
    simp only [cO, hop, Option.map_eq_some_iff] at hc
    obtain ⟨zs', hz, h⟩ := hc
    injection h with h1 h2; subst h1; subst h2
    exact ⟨rfl, hz⟩
  | _ =>
    simp only [cO, hop, Option.map_eq_some_iff, cNil] at hc
    repeat' split at hc
    all_goals first
      | (simp at hc; done)
      | (simp only [Option.map_eq_some_iff] at hc; simp at hc; done)
      | (simp_all; done)

theorem mask_slots {s : List AV} {t : Array Value} (h : SlotsR w S ρ s t) (l : List Nat) (hn : AV.refsL (l.map fun t => s.getD t .unk) = []) :
    SlotsR w S (fun _ => none) (keepS l s 0) t := by
  have hk : ∀ (l : List Nat) (s : List AV) (i : Nat), (keepS l s i).length = s.length := by
    intro l s
    induction s with
    | nil => intro i; rfl
    | cons v s ih => intro i; simp [keepS, ih]
  have hg : ∀ (s : List AV) (i j : Nat), (keepS l s i).getD j .unk = if (i + j) ∈ l then s.getD j .unk else .unk := by
    intro s
    induction s with
    | nil => intro i j; simp [keepS]
    | cons v s ih =>
      intro i j
      cases j with
      | zero => simp [keepS]
      | succ j => simp only [keepS, List.getD_cons_succ]; rw [ih]; rw [show i + 1 + j = i + (j + 1) from by omega]
  refine ⟨by rw [hk]; exact h.len, fun j hj => ?_⟩
  rw [hg, Nat.zero_add]
  split
  · rename_i hj2
    have hj3 : j < s.length := by rw [hk] at hj; exact hj
    refine (h.vr j hj3).unref ?_
    have : ∀ m : List Nat, AV.refsL (m.map fun t => s.getD t .unk) = [] → ∀ x ∈ m, (s.getD x .unk).refs = [] := by
      intro m
      induction m with
      | nil => intro _ x hx; simp at hx
      | cons y m ih =>
        intro hm x hx
        simp only [List.map_cons, AV.refsL, List.append_eq_nil_iff] at hm
        rcases List.mem_cons.1 hx with rfl | hx
        · exact hm.1
        · exact ih hm.2 x hx
    exact this l hn j hj2
  · exact .unk _
theorem mask_get (s : List AV) (l : List Nat) : ∀ t ∈ l, (keepS l s 0).getD t .unk = s.getD t .unk := by
  have hg : ∀ (s : List AV) (i j : Nat), (keepS l s i).getD j .unk = if (i + j) ∈ l then s.getD j .unk else .unk := by
    intro s
    induction s with
    | nil => intro i j; simp [keepS]
    | cons v s ih =>
      intro i j
      cases j with
      | zero => simp [keepS]
      | succ j => simp only [keepS, List.getD_cons_succ]; rw [ih]; rw [show i + 1 + j = i + (j + 1) from by omega]
  intro t ht
  rw [hg, Nat.zero_add, if_pos ht]
theorem rel_none (hr : Rel w S ρ H) : Rel w S (fun _ => none) [] :=
  ⟨fun i => by simp [BlkR], fun i j g β γ h => by simp [Blk.mut] at h, fun _ _ => rfl, fun i g β h => by simp at h, hr.slt, hr.gl⟩

theorem evQ_sound (hcall : CallSnd P call) {ops : Array Oper} {o : Oper} {q' : Go.Ev.Q} (hq : cQ P ops o = some q'.strip) {st1 : St} (h1 : evQ call st q' = some st1) (hi : Inv w0 S0 ρ0 H0 w S ρ st a) (hub : Unb ρ H0 st.h q')
    {K : Act → World → Prop} {R : Exit → Act → World → Prop} (hK : ∀ a' w' S' ρ', Inv w0 S0 ρ0 H0 w' S' ρ' st1 a' → Kee q' ρ st.h ρ' st1.h → K a' w') :
    if Region.wanted o (yielded ops a.tmps) then o.wp P a w K R ∨ (o.asks P a w ∧ LetsOut R) else K (a.put o.dst undef) w := by
  have hputh : ∀ (d : Option Nat) (x : AV) (H' : Heap), (st.put d x H').h = H' := fun d x H' => by cases d <;> rfl
  have bad : ∀ d g, (q'.strip : Go.Ev.Q) = { dst := d, g := g, o := .bad } → g = none → False := by
    intro d g h hg
    have e1 : q'.g = none := by have := congrArg Go.Ev.Q.g h; simpa [Go.Ev.Q.strip, hg] using this
    have e2 : q'.o = .bad := by
      have := congrArg Go.Ev.Q.o h
      simp only [Go.Ev.Q.strip] at this
      rcases strip_inv this with h | ⟨_, _, _, _, h⟩ | ⟨_, _, _, _, h⟩
      · exact h
      · simp at h
      · simp at h
    have hb : ∀ s : St, evO call s q'.o = none := fun s => by rw [e2]; rfl
    unfold evQ at h1
    rw [e1] at h1
    simp only [wantQ] at h1
    have : runQ call st q' = none := by
      unfold runQ
      split
      · rw [hb]
      · rw [e2]
      · rfl
      · rw [hb]
    rw [this] at h1
    simp at h1
  unfold cQ at hq
  split at hq
  case h_2 => injection hq with hq; exact (bad _ _ hq.symm rfl).elim
  rename_i g hg
  split at hq
  case h_2 => injection hq with hq; exact (bad _ _ hq.symm rfl).elim
  rename_i x hx
  injection hq with hq
  have hqd : q'.dst = o.dst := by have := congrArg Go.Ev.Q.dst hq; simpa [Go.Ev.Q.strip] using this.symm
  have hqg : q'.g = g := by have := congrArg Go.Ev.Q.g hq; simpa [Go.Ev.Q.strip] using this.symm
  have hqo : q'.o.strip = x := by have := congrArg Go.Ev.Q.o hq; simpa [Go.Ev.Q.strip] using this.symm
  unfold evQ at h1
  rw [hqg] at h1
  split at h1
  · rename_i hw
    have hwant := want_sound hi.slots hg hw
    rw [if_pos hwant]
    split at h1
    case h_2 => simp at h1
    rename_i v h' hv
    injection h1 with h1; subst h1
    refine .inl ?_
    by_cases ha : q'.c.away = true
    · cases hc : q'.c <;> rw [hc] at ha <;> try (simp [Co.away] at ha; done)
      case dat =>
        unfold runQ at hv
        rw [hc] at hv
        simp only at hv
        split at hv
        case h_2 => simp at hv
        rename_i v0 h0 hv0
        split at hv
        case isFalse => simp at hv
        rename_i hnr
        simp only [Option.some.injEq, Prod.mk.injEq] at hv
        obtain ⟨rfl, rfl⟩ := hv
        have hm := mask_slots hi.slots q'.o.reads hnr.1
        have e0 : evO call ⟨st.m, keepS q'.o.reads st.s 0, []⟩ q'.o = some (v0, h0) := by
          rw [← hv0]
          exact evO_congr (fun t ht => mask_get _ _ t ht) rfl
        have hok := evO_sound (st := ⟨st.m, keepS q'.o.reads st.s 0, []⟩) hcall hx hqo (rel_none hi.evo.rel) hm e0
        refine hok _ _ fun cv w' S' ρ' hev hvr => ?_
        obtain ⟨S2, hev2, hvr2⟩ := doCo_sound .frz hev.rel hvr
        have e3 := evo_data hi.evo.rel (hev.trans hev2)
        rw [← hqd]
        exact hK _ _ S2 ρ (hi.put e3 (hvr2.unref hnr.2)) (by rw [hputh]; exact Kee.of e3)
      case res => unfold runQ at hv; rw [hc] at hv; simp at hv
      case hol i c =>
        obtain ⟨e, zs, ho, hn, hb, hle⟩ := hub i c hc
        unfold runQ at hv
        rw [hc, ho] at hv
        simp only [Option.some.injEq, Prod.mk.injEq] at hv
        obtain ⟨rfl, rfl⟩ := hv
        have hxa : x = .alloc e zs := by rw [← hqo, ho]; rfl
        subst hxa
        obtain ⟨hop, hz⟩ := cO_alloc hx
        obtain ⟨ti, tv, hti, hzv, hl, hal⟩ := zerosOf_spec hz
        obtain ⟨c1, c2, c3⟩ := cells_of_allO (w := w) (S := S) hal
        obtain ⟨d1, d2⟩ := dcoL_dr c zs (fun j => tv.cells.getD j undef) c3
        have hil := lt_of_dbox hb
        obtain ⟨ef, hvr⟩ := evo_fill hi.evo hle hil hn (.cells tv.cells e (0, 0)) (.dbox (dcoL c zs)) (fun a1 a2 a3 a4 a5 =>
          .inr ⟨_, _, _, _, a2, ⟨a1, thaw_zero _⟩, a3, by rw [d1, c1], fun j hj => c2 j (by omega), fun j hj => a4 _ _ (d2 j (by omega))⟩)
        have hset : st.h.set i (.dbox (dcoL c zs)) = st.h := by
          apply List.ext_getElem?
          intro k
          rw [List.getElem?_set]
          by_cases e : i = k
          · subst e
            rw [if_pos rfl, if_pos hil, ← hb]
            simp [List.getD_eq_getElem?_getD, hil]
          · rw [if_neg e]
        rw [hset] at ef
        have hexec : execOp a.eval o = (do pure (.value (← Instr.alloc e true (.tuple #[])))) := by simp only [execOp, hop]
        unfold Oper.wp
        rw [hexec]
        have hrun : (Instr.alloc e true (.tuple #[])).run P w = .ok (.pointer (some ⟨w.heap.size, 0, none⟩)) (w.alloc (.cells tv.cells e (0, 0))) := by
          simp [Instr.alloc, run_zeroValue hti hzv, newVar, newRow, newObj, Sem.run]
        simp only [Sem.run_bind, hrun, Result.andThen_ok, Sem.run_pure]
        show K (a.put o.dst _) _
        rw [← hqd]
        have hs := hi.slots.mono hvr
        have hp : VR (w.alloc (.cells tv.cells e (0, 0))) S (posNew ρ i w.heap.size 0) (.ptr i 0) (.pointer (some ⟨w.heap.size, 0, none⟩)) := .ptr _ _ _ 0 (posNew_same ..)
        refine hK _ _ S (posNew ρ i w.heap.size 0) ?_ (by
          rw [hputh]
          intro j hj hnj cs hcs
          refine ⟨?_, hcs⟩
          have hji : j ≠ i := fun e => hj c (by rw [e]; exact hc)
          rw [posNew_other hji]; exact hnj)
        cases hd : q'.dst with
        | none => exact ⟨ef, hs, hi.m, hi.defers⟩
        | some d => exact ⟨ef, hs.put d hp, hi.m, hi.defers⟩
    · rw [runQ_else (by simpa using ha)] at hv
      split at hv
      case h_2 => simp at hv
      rename_i v0 h0 hv0
      simp only [Option.some.injEq, Prod.mk.injEq] at hv
      obtain ⟨rfl, rfl⟩ := hv
      have hok := evO_sound hcall hx hqo hi.evo.rel hi.slots hv0
      refine hok _ _ fun cv w' S' ρ' hev hvr => ?_
      obtain ⟨S2, hev2, hvr2⟩ := doCo_sound q'.c hev.rel hvr
      rw [← hqd]
      exact hK _ _ S2 ρ' (hi.put (hev.trans hev2) hvr2) (by rw [hputh]; exact Kee.of (hev.trans hev2))
  · rename_i hw
    have hwant := want_sound hi.slots hg hw
    injection h1 with h1; subst h1
    rw [if_neg (by rw [hwant]; simp), ← hqd]
    exact hK _ _ S ρ (hi.put (Evo.refl hi.evo.rel) (.tup [] #[] rfl (fun i h => by simp at h))) (by rw [hputh]; exact Kee.of (Evo.refl hi.evo.rel))
  · simp at h1

theorem unb_of_noHol {q : Go.Ev.Q} (h : (match q.c with | .hol _ _ => false | _ => true) = true) (ρ : Pos) (H0 H : Heap) : Unb ρ H0 H q := by
  intro i c hc; rw [hc] at h; simp at h

theorem evL_sound (hcall : CallSnd P call) (ops : Array Oper) (R : Exit → Act → World → Prop) : ∀ (l : List Oper) (l' : List Go.Ev.Q) (st st' : St) (a : Act) (w : World) (S : Sta) (ρ : Pos), allO (cQ P ops) l = some (l'.map Go.Ev.Q.strip) → noHol l' = true → evL call l' st = some st' →
    Inv w0 S0 ρ0 H0 w S ρ st a → (∀ a' w' S' ρ', Inv w0 S0 ρ0 H0 w' S' ρ' st' a' → R .normal a' w') → wpList P ops R l a w
  | [], l', st, st', a, w, S, ρ, hl, _, he, hi, hQ => by
    simp only [allO, Option.some.injEq] at hl
    cases l' with
    | cons => simp at hl
    | nil =>
      simp only [evL, Option.some.injEq] at he; subst he
      exact wpList_nil (hQ a w S ρ hi)
  | o :: l, l', st, st', a, w, S, ρ, hl, hnh, he, hi, hQ => by
    simp only [allO] at hl
    split at hl
    case h_2 => simp at hl
    rename_i q r hq hr
    injection hl with hl
    cases l' with
    | nil => simp at hl
    | cons q' l' =>
      simp only [List.map_cons, List.cons.injEq] at hl
      obtain ⟨rfl, rfl⟩ := hl
      simp only [evL] at he
      split at he
      case h_2 => simp at he
      rename_i st1 h1
      simp only [noHol, List.all_cons, Bool.and_eq_true] at hnh
      unfold wpList
      exact evQ_sound hcall hq h1 hi (unb_of_noHol hnh.1 _ _ _) fun a' w' S' ρ' hi' _ => evL_sound hcall ops R l l' st1 st' a' w' S' ρ' hr hnh.2 he hi' hQ

theorem evIs_sound (hcall : CallSnd P call) {ops : Array Oper} {l' : List Go.Ev.Q} (hl : allO (cQ P ops) ops.toList = some (l'.map Go.Ev.Q.strip)) (hdis : ∀ (k m : Nat) (q p : Go.Ev.Q) (i j : Nat) (c d : List (Nat × Nat × Bool)), k ≠ m → l'[k]? = some q → l'[m]? = some p → q.c = .hol i c → p.c = .hol j d → i ≠ j)
    (R : Exit → Act → World → Prop) : ∀ (σ : List Nat) (st st' : St) (a : Act) (w : World) (S : Sta) (ρ : Pos), σ.Nodup → (∀ k ∈ σ, ∀ q, l'[k]? = some q → Unb ρ H0 st.h q) → evIs call l' σ st = some st' →
    Inv w0 S0 ρ0 H0 w S ρ st a → (∀ a' w' S' ρ', Inv w0 S0 ρ0 H0 w' S' ρ' st' a' → R .normal a' w') → wpOps P ops R σ a w
  | [], st, st', a, w, S, ρ, _, _, he, hi, hQ => by
    simp only [evIs, Option.some.injEq] at he; subst he
    simpa [wpOps] using hQ a w S ρ hi
  | i :: σ, st, st', a, w, S, ρ, hnd, hub, he, hi, hQ => by
    rw [wpOps_cons]
    simp only [evIs, Option.bind_eq_some_iff] at he
    obtain ⟨st1, h1, h2⟩ := he
    obtain ⟨e1, e2⟩ := allO_spec hl
    rw [List.nodup_cons] at hnd
    unfold wpOp
    split
    · rename_i hn
      have : l'[i]? = none := by
        rw [Array.getElem?_eq_none_iff] at hn
        rw [List.getElem?_eq_none_iff]
        simp at e1; omega
      simp only [evI, this, Option.some.injEq] at h1; subst h1
      exact evIs_sound hcall hl hdis R σ st st' a w S ρ hnd.2 (fun k hk => hub k (.tail _ hk)) h2 hi hQ
    · rename_i o ho
      have hlt : i < ops.size := (Array.getElem?_eq_some_iff.1 ho).1
      have hl' : i < l'.length := by simp at e1; omega
      have h3 := e2 i default default (by simp; exact hlt)
      have e3 : ops.toList.getD i default = o := by simp [List.getD_eq_getElem?_getD, ho]
      have e4 : (l'.map Go.Ev.Q.strip).getD i default = (l'[i]).strip := by simp [List.getD_eq_getElem?_getD, hl']
      rw [e3, e4] at h3
      have e5 : l'[i]? = some l'[i] := List.getElem?_eq_getElem hl'
      simp only [evI, e5] at h1
      exact evQ_sound hcall h3 h1 hi (hub i (.head _) _ e5) fun a' w' S' ρ' hi' hk => evIs_sound hcall hl hdis R σ st1 st' a' w' S' ρ' hnd.2 (fun k hkσ q hq j c hc => by
        obtain ⟨e, zs, u1, u2, u3, u4⟩ := hub k (.tail _ hkσ) q hq j c hc
        have hki : k ≠ i := fun e => hnd.1 (e ▸ hkσ)
        obtain ⟨v1, v2⟩ := hk j (fun d hd => hdis k i _ _ j j c d hki hq e5 hc hd (Eq.refl j)) u2 _ u3
        exact ⟨e, zs, u1, v1, v2, u4⟩) h2 hi' hQ

theorem evo_lay (e : Evo w0 S0 ρ0 H0 w S ρ H) (zss : List (List D)) : Evo w0 S0 ρ0 H0 w S ρ (H ++ zss.map .dbox) := by
  have hr := e.rel
  have hg : ∀ j, ¬ j < H.length → ρ j = none := fun j hj => hr.lim j (by omega)
  have hget : ∀ j, (H ++ zss.map Blk.dbox).getD j .dead = if j < H.length then H.getD j .dead else (zss.map Blk.dbox).getD (j - H.length) .dead := fun j => getD_app _ _ _ _
  refine ⟨⟨fun j => ?_, fun j k g β γ hj hk h1 h2 => ?_, fun j hj => hr.lim j (by simp at hj; omega), hr.rlt, hr.slt, hr.gl⟩, by have := e.len; simp; omega, e.ext, fun j hj hm => ?_, e.sub, e.new, e.frame, fun g h => ?_, e.shape, e.size, e.os, e.tape, e.output, fun j cs hn hc => ?_⟩
  · rw [hget]
    split
    · exact hr.blk j
    · rename_i hj
      have : (zss.map Blk.dbox).getD (j - H.length) .dead = .dead ∨ ∃ cs, (zss.map Blk.dbox).getD (j - H.length) .dead = .dbox cs := by
        rcases Nat.lt_or_ge (j - H.length) zss.length with h | h
        · right; exact ⟨_, getD_map' _ _ _ [] _ h⟩
        · left; exact getD_over _ _ _ (by simpa using h)
      rcases this with h | ⟨cs, h⟩ <;> rw [h]
      · trivial
      · exact .inl (hg j hj)
  · have hj' : j < H.length := by
      rcases Nat.lt_or_ge j H.length with h | h
      · exact h
      · rw [hr.lim j h] at h1; simp at h1
    have hk' : k < H.length := by
      rcases Nat.lt_or_ge k H.length with h | h
      · exact h
      · rw [hr.lim k h] at h2; simp at h2
    rw [hget, if_pos hj'] at hj; rw [hget, if_pos hk'] at hk
    exact hr.inj j k g β γ hj hk h1 h2
  · have := e.len
    rw [hget, if_pos (by omega)]; exact e.dead j hj hm
  · obtain ⟨j, β, hm, h1⟩ := h
    have hj' : j < H.length := by
      rcases Nat.lt_or_ge j H.length with h | h
      · exact h
      · rw [hr.lim j h] at h1; simp at h1
    rw [hget, if_pos hj'] at hm
    exact e.own g ⟨j, β, hm, h1⟩
  · have := e.len
    have h2 := lt_of_dbox hc
    rw [hget, if_pos (by omega)]; exact e.unb j cs hn hc
theorem Inv.lay (h : Inv w0 S0 ρ0 H0 w S ρ st a) (zss : List (List D)) : Inv w0 S0 ρ0 H0 w S ρ { st with h := st.h ++ zss.map .dbox } a := ⟨evo_lay h.evo zss, h.slots, h.m, h.defers⟩

theorem Inv.drawn (h : Inv w0 S0 ρ0 H0 w S ρ st a) : Inv w0 S0 ρ0 H0 { w with drawn := w.drawn + 1 } S ρ st a := by
  have hw : ∀ g, S g → ({ w with drawn := w.drawn + 1 } : World).heap[g]? = w.heap[g]? := fun _ _ => rfl
  have e : Evo w S ρ st.h { w with drawn := w.drawn + 1 } S ρ st.h := by
    refine ⟨⟨fun i => ?_, h.evo.rel.inj, h.evo.rel.lim, h.evo.rel.rlt, h.evo.rel.slt, h.evo.rel.gl.mono (fun _ h => h) hw⟩, Nat.le_refl _, fun _ _ => rfl, fun _ _ h => h, fun _ h => h, fun _ h => .inl h, fun _ _ _ => rfl, fun _ h => .inl h, fun _ c _ f h => ⟨c, f, h, rfl⟩, Nat.le_refl _, rfl, rfl, rfl, fun _ _ _ h => h⟩
    exact (h.evo.rel.blk i).mono (fun _ h => h) hw (fun _ _ h => h) (fun _ => Nat.le_refl _) rfl (fun _ _ _ _ => rfl) (fun _ _ _ _ hs => hs)
  exact ⟨h.evo.trans e, h.slots.mono fun x v hx => e.vr h.evo.rel hx, h.m, h.defers⟩

theorem keepS_length (L : List Nat) : ∀ (l : List AV) (i : Nat), (keepS L l i).length = l.length
  | [], _ => rfl
  | v :: l, i => by simp [keepS, keepS_length L l (i + 1)]
theorem keepS_get (L : List Nat) : ∀ (l : List AV) (i j : Nat), (keepS L l i).getD j .unk = l.getD j .unk ∨ (keepS L l i).getD j .unk = .unk
  | [], i, j => .inl rfl
  | v :: l, i, 0 => by
    simp only [keepS, List.getD_cons_zero]
    split
    · exact .inl rfl
    · exact .inr rfl
  | v :: l, i, j + 1 => by
    simp only [keepS, List.getD_cons_succ]
    exact keepS_get L l (i + 1) j

theorem Inv.clean (h : Inv w0 S0 ρ0 H0 w S ρ st a) (L : List Nat) : ∃ ρ', Inv w0 S0 ρ0 H0 w S ρ' (clean L st) a := by
  have hm : st.m ≤ st.h.length := by rw [h.m]; exact h.evo.len
  obtain ⟨h1, h2, h3⟩ := liveIds_spec hm (keepS L st.s 0)
  refine ⟨comp ρ (liveIds st.m st.h (keepS L st.s 0)), h.evo.clean h1 (by rw [← h.m]; exact h2) (fun i hi => h3 i (by rw [h.m]; exact hi)), ⟨?_, fun i hi => ?_⟩, h.m, h.defers⟩
  · show a.tmps.size = (AV.renL _ (keepS L st.s 0)).length
    rw [renL_map, List.length_map, keepS_length]; exact h.slots.len
  · show VR w S _ ((AV.renL _ (keepS L st.s 0)).getD i .unk) _
    rw [renL_getD]
    rcases keepS_get L st.s 0 i with e | e <;> rw [e]
    · exact (h.slots.get i).ren fun i j p hp hq => comp_pos hp hq
    · exact .unk _

theorem Inv.cln (h : Inv w0 S0 ρ0 H0 w S ρ st a) (L : Option (List Nat)) : ∃ ρ', Inv w0 S0 ρ0 H0 w S ρ' (cln L st) a := by
  cases L with
  | none => exact ⟨ρ, h⟩
  | some L => exact h.clean L

def LoopSnd (P : Program) (lp : Looper) : Prop := ∀ (L : List Nat) (c' : C) (c : Code) (st : St) (e : Ex) (st' : St), c'.okD = true → cC P c = some c'.strip → lp L c' st = some (e, st') →
  ∀ (w0 : World) (S0 : Sta) (ρ0 : Pos) (H0 : Heap) (w : World) (S : Sta) (ρ : Pos) (a : Act), Inv w0 S0 ρ0 H0 w S ρ st a → ∀ R : Exit → Act → World → Prop,
    (∀ a' w' S' ρ', Inv w0 S0 ρ0 H0 w' S' ρ' st' a' → R e.to a' w') → LW P c R a w

theorem evC_sound (hm : P.follows .mixedOrders = true) (hcall : CallSnd P call) (hlp : LoopSnd P lp) : ∀ (c' : C) (c : Code) (st : St) (e : Ex) (st' : St), c'.okD = true → cC P c = some c'.strip → evC call lp c' st = some (e, st') →
    ∀ (w : World) (S : Sta) (ρ : Pos) (a : Act), Inv w0 S0 ρ0 H0 w S ρ st a → ∀ R : Exit → Act → World → Prop, (∀ a' w' S' ρ', Inv w0 S0 ρ0 H0 w' S' ρ' st' a' → R e.to a' w') → c.wp P R a w := by
  intro c'
  induction c' with
  | skip =>
    intro c st e st' hk hc he w S ρ a hi R hQ
    simp only [evC, Option.some.injEq, Prod.mk.injEq] at he
    obtain ⟨rfl, rfl⟩ := he
    simp only [C.strip] at hc
    have : c = .skip ∨ ∃ l, c = .label l := by
      unfold cC at hc
      split at hc <;> first | exact .inl rfl | exact .inr ⟨_, rfl⟩ | (simp at hc; done) | (split at hc <;> simp at hc; done)
    rcases this with rfl | ⟨l, rfl⟩
    · exact wp_skip (hQ a w S ρ hi)
    · exact wp_label (hQ a w S ρ hi)
  | reg l =>
    intro c st e st' hk hc he w S ρ a hi R hQ
    simp only [evC] at he
    split at he
    case h_2 => simp at he
    rename_i st1 h1
    simp only [Option.some.injEq, Prod.mk.injEq] at he
    obtain ⟨rfl, rfl⟩ := he
    simp only [C.strip] at hc
    have : ∃ id ops, c = .region id ops false ∧ allO (cQ P ops) ops.toList = some (l.map Go.Ev.Q.strip) := by
      unfold cC at hc
      split at hc <;> first
        | (rw [Option.map_eq_some_iff] at hc; obtain ⟨r, h2, h3⟩ := hc; injection h3 with h3; subst h3; exact ⟨_, _, rfl, h2⟩)
        | (simp at hc; done) | (split at hc <;> simp at hc; done)
    obtain ⟨id, ops, rfl, hl⟩ := this
    exact wp_region_list (evL_sound hcall ops R ops.toList l st st1 a w S ρ hl hk h1 hi hQ)
  | drw l b ne =>
    intro c st e st' hk hc he w S ρ a hi R hQ
    simp only [evC] at he
    split at he
    case h_2 => simp at he
    rename_i st1 h1
    split at he
    case isFalse => simp at he
    rename_i hne
    simp only [Option.some.injEq, Prod.mk.injEq] at he
    obtain ⟨rfl, rfl⟩ := he
    simp only [C.strip] at hc
    have : ∃ id ops, c = .region id ops true ∧ allO (cQ P ops) ops.toList = some (l.map Go.Ev.Q.strip) ∧ cAft ops = b := by
      unfold cC at hc
      split at hc <;> first
        | (rw [Option.map_eq_some_iff] at hc; obtain ⟨r, h2, h3⟩ := hc; injection h3 with h3 h4; subst h3; exact ⟨_, _, rfl, h2, h4⟩)
        | (simp at hc; done) | (split at hc <;> simp at hc; done)
    obtain ⟨id, ops, rfl, hl, hb⟩ := this
    have hlen : l.length = ops.size := by have := (allO_spec hl).1; simp at this; omega
    refine wp_region_draw fun t => ?_
    rw [hm]
    simp only [C.okD, Bool.and_eq_true (a := _ && _)] at hk
    have hnh : ∀ (k : Nat) (q : Go.Ev.Q), l[k]? = some q → (match q.c with | .hol _ _ => false | _ => true) = true := fun k q hq => List.all_eq_true.1 hk.2 q (List.mem_of_getElem? hq)
    refine evIs_sound hcall hl (fun k m q p i j c d _ hq _ hqc _ => by have := hnh k q hq; rw [hqc] at this; simp at this) R _ st st1 a _ S ρ (sched_nodup t) (fun k _ q hq => unb_of_noHol (hnh k q hq) _ _ _) ?_ hi.drawn hQ
    exact order_sched hlen hb hk.1 _ _ h1 hne
  | drr l b ne old nor =>
    intro c st e st' hk hc he w S ρ a hi R hQ
    simp only [evC] at he
    split at he
    case h_2 => simp at he
    rename_i st1 h1
    split at he
    case isFalse => simp at he
    rename_i hne
    simp only [Option.some.injEq, Prod.mk.injEq] at he
    obtain ⟨rfl, rfl⟩ := he
    simp only [C.strip] at hc
    have : ∃ id ops, c = .region id ops true ∧ allO (cQ P ops) ops.toList = some (l.map Go.Ev.Q.strip) ∧ cAft ops = b := by
      unfold cC at hc
      split at hc <;> first
        | (rw [Option.map_eq_some_iff] at hc; obtain ⟨r, h2, h3⟩ := hc; injection h3 with h3 h4; subst h3; exact ⟨_, _, rfl, h2, h4⟩)
        | (simp at hc; done) | (split at hc <;> simp at hc; done)
    obtain ⟨id, ops, rfl, hl, hb⟩ := this
    have hlen : l.length = ops.size := by have := (allO_spec hl).1; simp at this; omega
    simp only [C.okD, Bool.and_eq_true] at hk
    simp only [Bool.and_eq_true] at hne
    obtain ⟨⟨hk1, hk2⟩, hk3⟩ := hk
    have hl2 : allO (cQ P ops) ops.toList = some ((absL st.h.length l).map Go.Ev.Q.strip) := by rw [absL_strip]; exact hl
    refine wp_region_draw fun t => ?_
    rw [hm]
    refine evIs_sound hcall hl2 (fun k m q p i j c d hkm hq hp hqc hpc => ?_) R _ { st with h := st.h ++ (layOf l).map .dbox } st1 a _ S ρ (sched_nodup t) (fun k _ q hq i c hc => ?_) ?_ (hi.lay (layOf l)).drawn hQ
    · rcases Nat.lt_or_gt_of_ne hkm with h | h
      · exact Nat.ne_of_lt (absL_ne l _ k m q p hk3 hq hp h i j c d hqc hpc)
      · exact Nat.ne_of_gt (absL_ne l _ m k p q hk3 hp hq h j i d c hpc hqc)
    · obtain ⟨u1, e, zs, u2, u3⟩ := absL_le l _ k q hk3 hq i c hc
      refine ⟨e, zs, u2, hi.evo.rel.lim i u1, ?_, Nat.le_trans hi.evo.len u1⟩
      rw [getD_app, if_neg (by omega), List.getD_eq_getElem?_getD, List.getElem?_map, u3]; rfl
    · exact order_sched' (n0 := (st.h ++ (layOf l).map Blk.dbox).length) (by rw [absL_length]; exact hlen) hb (by rw [absL_drwOk]; exact hk1) (.inr (by rw [absL_stayOk]; exact hk2)) t _ (Nat.le_refl _) h1
        (List.all_eq_true.1 hne.1) (List.all_eq_true.1 hne.2.1) (List.all_eq_true.1 hne.2.2)
  | bad => intro c st e st' hk hc he; simp [evC] at he
  | seq x y ih1 ih2 =>
    intro c st e st' hk hc he w S ρ a hi R hQ
    simp only [C.strip] at hc
    have : ∃ cx cy, c = .seq cx cy ∧ cC P cx = some x.strip ∧ cC P cy = some y.strip := by
      unfold cC at hc
      split at hc <;> first
        | (split at hc <;> first | (simp at hc; done) | (rename_i h1 h2; injection hc with hc; injection hc with h3 h4; subst h3; subst h4; exact ⟨_, _, rfl, h1, h2⟩))
        | (simp at hc; done)
    obtain ⟨cx, cy, rfl, hx, hy⟩ := this
    simp only [evC] at he
    simp only [C.okD, Bool.and_eq_true] at hk
    refine wp_seq ?_
    split at he
    · rename_i st1 h1
      exact ih1 cx st _ st1 hk.1 hx h1 w S ρ a hi _ fun a' w' S' ρ' hi' => ih2 cy st1 e st' hk.2 hy he w' S' ρ' a' hi' R hQ
    · rename_i hne
      refine ih1 cx st e st' hk.1 hx he w S ρ a hi _ fun a' w' S' ρ' hi' => ?_
      cases e with
      | normal => exact absurd he (hne _)
      | exit id => exact hQ a' w' S' ρ' hi'
      | ret => exact hQ a' w' S' ρ' hi'
  | cond x p q ih1 ih2 =>
    intro c st e st' hk hc he w S ρ a hi R hQ
    simp only [C.strip] at hc
    have : ∃ ox cp cq, c = .cond ox cp cq ∧ cX ox = some x ∧ cC P cp = some p.strip ∧ cC P cq = some q.strip := by
      unfold cC at hc
      split at hc <;> first
        | (split at hc <;> first | (simp at hc; done) | (rename_i h1 h2 h3; injection hc with hc; injection hc with h4 h5 h6; subst h4; subst h5; subst h6; exact ⟨_, _, _, rfl, h1, h2, h3⟩))
        | (simp at hc; done)
    obtain ⟨ox, cp, cq, rfl, hox, hp, hq⟩ := this
    simp only [evC] at he
    split at he
    case h_2 => simp at he
    rename_i t ht
    have hv := asBool_inv (cX_sound hi.slots hox) ht
    simp only [C.okD, Bool.and_eq_true] at hk
    refine wp_cond hv ?_
    cases t
    · exact ih2 cq st e st' hk.2 hq (by simpa using he) w S ρ a hi R hQ
    · exact ih1 cp st e st' hk.1 hp (by simpa using he) w S ρ a hi R hQ
  | block id x ih =>
    intro c st e st' hk hc he w S ρ a hi R hQ
    simp only [C.strip] at hc
    have : ∃ cx, c = .block id cx ∧ cC P cx = some x.strip := by
      unfold cC at hc
      split at hc <;> first
        | (rw [Option.map_eq_some_iff] at hc; obtain ⟨r, h2, h3⟩ := hc; injection h3 with h3 h4; subst h3; subst h4; exact ⟨_, rfl, h2⟩)
        | (simp at hc; done) | (split at hc <;> simp at hc; done)
    obtain ⟨cx, rfl, hx⟩ := this
    simp only [evC] at he
    refine wp_block ?_
    split at he
    · rename_i id' st1 h1
      refine ih cx st _ st1 hk hx h1 w S ρ a hi _ fun a' w' S' ρ' hi' => ?_
      show (if id' = id then R .normal a' w' else R (.exit id') a' w')
      split at he
      · rename_i hid
        simp only [Option.some.injEq, Prod.mk.injEq] at he
        obtain ⟨rfl, rfl⟩ := he
        rw [if_pos hid]; exact hQ a' w' S' ρ' hi'
      · rename_i hid
        simp only [Option.some.injEq, Prod.mk.injEq] at he
        obtain ⟨rfl, rfl⟩ := he
        rw [if_neg hid]; exact hQ a' w' S' ρ' hi'
    · rename_i hne
      refine ih cx st e st' hk hx he w S ρ a hi _ fun a' w' S' ρ' hi' => ?_
      cases e with
      | normal => exact hQ a' w' S' ρ' hi'
      | exit id' => exact absurd he (hne _ _)
      | ret => exact hQ a' w' S' ρ' hi'
  | loop L x ih =>
    intro c st e st' hk hc he w S ρ a hi R hQ
    simp only [C.strip] at hc
    have : ∃ cx, c = .loop cx ∧ cC P cx = some x.strip := by
      unfold cC at hc
      split at hc <;> first
        | (rw [Option.map_eq_some_iff] at hc; obtain ⟨r, h2, h3⟩ := hc; injection h3 with h3 h4; subst h4; exact ⟨_, rfl, h2⟩)
        | (simp at hc; done) | (split at hc <;> simp at hc; done)
    obtain ⟨cx, rfl, hx⟩ := this
    simp only [evC] at he
    exact wp_of_LW (hlp L x cx st e st' hk hx he w0 S0 ρ0 H0 w S ρ a hi R hQ)
  | exit id L =>
    intro c st e st' hk hc he w S ρ a hi R hQ
    simp only [evC, Option.some.injEq, Prod.mk.injEq] at he
    obtain ⟨rfl, rfl⟩ := he
    simp only [C.strip] at hc
    have : c = .exit id := by
      unfold cC at hc
      split at hc <;> first | (injection hc with hc; injection hc with hc; subst hc; rfl) | (simp at hc; done) | (split at hc <;> simp at hc; done)
    subst this
    obtain ⟨ρ', hi'⟩ := hi.cln L
    exact wp_exit (hQ a w S ρ' hi')
  | ret L =>
    intro c st e st' hk hc he w S ρ a hi R hQ
    simp only [evC, Option.some.injEq, Prod.mk.injEq] at he
    obtain ⟨rfl, rfl⟩ := he
    simp only [C.strip] at hc
    have : c = .ret := by
      unfold cC at hc
      split at hc <;> first | rfl | (simp at hc; done) | (split at hc <;> simp at hc; done)
    subst this
    obtain ⟨ρ', hi'⟩ := hi.cln L
    exact wp_ret (hQ a w S ρ' hi')
  | scp x ih =>
    intro c st e st' hk hc he w S ρ a hi R hQ
    simp only [C.strip] at hc
    have : ∃ cx, c = .scope cx ∧ cC P cx = some x.strip := by
      unfold cC at hc
      split at hc <;> first
        | (rw [Option.map_eq_some_iff] at hc; obtain ⟨r, h2, h3⟩ := hc; injection h3 with h3; subst h3; exact ⟨_, rfl, h2⟩)
        | (simp at hc; done) | (split at hc <;> simp at hc; done)
    obtain ⟨cx, rfl, hx⟩ := this
    simp only [evC] at he
    refine wp_scope_straight (ih cx st e st' hk hx he w S ρ a hi _ fun a' w' S' ρ' hi' => ?_)
    have := hQ a' w' S' ρ' hi'
    cases e <;> exact this
  | ann L x ih =>
    intro c st e st' hk hc he w S ρ a hi R hQ
    obtain ⟨ρ', hi'⟩ := hi.clean L
    exact ih c (Go.Ev.clean L st) e st' hk hc he w S ρ' a hi' R hQ
end
end Go.Ev
