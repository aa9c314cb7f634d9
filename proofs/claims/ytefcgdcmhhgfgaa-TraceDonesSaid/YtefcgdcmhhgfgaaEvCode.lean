/- Code and functions: the model's do what the evaluator says. Own work. -/
import Derived.Test.YtefcgdcmhhgfgaaEvDis
import Derived.Test.YtefcgdcmhhgfgaaEvPer
namespace Go.Ev
open Go
set_option linter.unusedVariables false
set_option linter.unusedSimpArgs false

structure Inv (w0 : World) (S0 : Sta) (ρ0 : Pos) (H0 : Heap) (w : World) (S : Sta) (ρ : Pos) (st : St) (a : Act) : Prop where
  evo : Evo w0 S0 ρ0 H0 w S ρ st.h
  slots : SlotsR w S ρ st.s a.tmps
  m : st.m = H0.length
  defers : a.defers = []

def Ex.to : Ex → Exit
  | .normal => .normal
  | .exit id => .exit id
  | .ret => .ret

/-- A loop that stands at its head. -/
def LW (P : Program) (c : Code) (Q : Exit → Act → World → Prop) (a : Act) (w : World) : Prop :=
  ∀ (b : Frame) (k : List Item) (cs : List Frame), ∃ e a' w', Q e a' w' ∧ Arrives P (lone (b.at a (.code c :: .inLoop c :: k)) cs w) b k cs e a' w'
theorem LW.intro {P : Program} {c : Code} {Q : Exit → Act → World → Prop} {a : Act} {w : World} (h : c.wp P (Exit.then (LW P c Q) Q) a w) : LW P c Q a w := by
  intro b k cs
  obtain ⟨e, a₁, w₁, hq, harr⟩ := h b (.inLoop c :: k) cs
  cases e with
  | normal =>
    obtain ⟨e₂, a₂, w₂, hq₂, harr₂⟩ := hq b k cs
    exact ⟨e₂, a₂, w₂, hq₂, .of_steps (Steps.trans harr (.one step_inLoop)) harr₂⟩
  | exit id => exact ⟨_, a₁, w₁, hq, .pass (x := .inLoop c) rfl (fun _ _ => .inl (by simp)) harr⟩
  | goto l => exact ⟨_, a₁, w₁, hq, .pass (x := .inLoop c) rfl (fun _ _ => .inl (by simp)) harr⟩
  | ret => exact ⟨_, a₁, w₁, hq, .pass (x := .inLoop c) rfl (fun _ _ => .inl (by simp)) harr⟩
  | panic ch => exact ⟨_, a₁, w₁, hq, .pass (x := .inLoop c) rfl (fun _ _ => .inl (by simp)) harr⟩
  | outgrown => exact ⟨_, a₁, w₁, hq, .pass (x := .inLoop c) rfl (fun _ _ => .inl (by simp)) harr⟩
theorem wp_of_LW {P : Program} {c : Code} {Q : Exit → Act → World → Prop} {a : Act} {w : World} (h : LW P c Q a w) : (Code.loop c).wp P Q a w := by
  intro b k cs
  obtain ⟨e, a', w', hq, harr⟩ := h b k cs
  exact ⟨e, a', w', hq, .of_steps (.one step_loop) harr⟩

section
variable {w0 w : World} {S0 S : Sta} {ρ0 ρ : Pos} {H0 H : Heap} {P : Program} {call : Callee} {lp : Looper} {st : St} {a : Act}

theorem SlotsR.put {s : List AV} {t : Array Value} (h : SlotsR w S ρ s t) (d : Nat) {x : AV} {v : Value} (hv : VR w S ρ x v) : SlotsR w S ρ (s.set d x) (t.setIfInBounds d v) := by
  refine ⟨by simp [h.len], fun i hi => ?_⟩
  simp only [List.length_set] at hi
  rw [getD_set_eq]
  have hg : (t.setIfInBounds d v).getD i undef = if d = i then v else t.getD i undef := by
    have h0 := h.len
    rw [← toList_getD, ← toList_getD, Array.toList_setIfInBounds, getD_set_eq]
    by_cases e : d = i
    · rw [if_pos e, if_pos ⟨e, by simp; omega⟩]
    · rw [if_neg e, if_neg (by omega)]
  rw [hg]
  by_cases e : d = i
  · rw [if_pos e, if_pos ⟨e, by omega⟩]; exact hv
  · rw [if_neg e, if_neg (by omega)]; exact h.vr i hi

theorem SlotsR.mono {w' : World} {S' : Sta} {ρ' : Pos} {s : List AV} {t : Array Value} (h : SlotsR w S ρ s t) (hv : ∀ x v, VR w S ρ x v → VR w' S' ρ' x v) : SlotsR w' S' ρ' s t := ⟨h.len, fun i hi => hv _ _ (h.vr i hi)⟩

theorem Inv.put (h : Inv w0 S0 ρ0 H0 w S ρ st a) {dst : Option Nat} {x : AV} {H' : Heap} {v : Value} {w' : World} {S' : Sta} {ρ' : Pos} (e : Evo w S ρ st.h w' S' ρ' H') (hv : VR w' S' ρ' x v) :
    Inv w0 S0 ρ0 H0 w' S' ρ' (st.put dst x H') (a.put dst v) := by
  have hs := h.slots.mono (fun x v hx => e.vr h.evo.rel hx)
  cases dst with
  | none => exact ⟨h.evo.trans e, hs, h.m, h.defers⟩
  | some d => exact ⟨h.evo.trans e, hs.put d hv, h.m, h.defers⟩

theorem want_sound (h : SlotsR w S ρ st.s a.tmps) {ops : Array Oper} {o : Oper} {g : Option (Nat × Bool)} (hg : cG ops o.guard = some g) {c : Bool} (hw : wantQ st g = some c) : Region.wanted o (yielded ops a.tmps) = c := by
  unfold Region.wanted
  cases ho : o.guard with
  | none =>
    rw [ho] at hg
    simp only [cG, Option.some.injEq] at hg; subst hg
    simpa [wantQ] using hw
  | some p =>
    obtain ⟨j, b⟩ := p
    rw [ho] at hg
    simp only [cG] at hg
    split at hg
    case h_2 => simp at hg
    rename_i t ht
    simp only [Option.some.injEq] at hg; subst hg
    have hv := h.get t
    simp only [wantQ] at hw
    split at hw
    · rename_i hc0
      injection hw with hw; subst hw
      have he : a.tmps.getD t undef = undef := by
        rw [hc0] at hv
        generalize a.tmps.getD t undef = u at hv
        cases hv with
        | tup cs vs hl _ =>
          have : vs = #[] := Array.eq_empty_of_size_eq_zero (by simpa using hl.symm)
          subst this; rfl
      have hy : yielded ops a.tmps j = none := by
        simp only [yielded, ht, Option.bind_some]
        cases hx : a.tmps[t]? with
        | none => rfl
        | some u =>
          have : a.tmps.getD t undef = u := by simp [Array.getD_eq_getD_getElem?, hx]
          rw [he] at this; subst this; rfl
      simp only [hy]
      cases b <;> rfl
    · rename_i c0 hc0
      injection hw with hw
      rw [hc0] at hv
      have hv : a.tmps.getD t undef = .bool c0 := by
        generalize a.tmps.getD t undef = u at hv
        cases hv.dr; rfl
      have hlt : t < a.tmps.size := by
        rcases Nat.lt_or_ge t a.tmps.size with hl | hl
        · exact hl
        · have : a.tmps.getD t undef = undef := by simp [Array.getD]; omega
          rw [this] at hv; simp [undef] at hv
      have hy : yielded ops a.tmps j = some c0 := by
        simp only [yielded, ht, Option.bind_some]
        have : a.tmps[t]? = some (.bool c0) := by
          rw [← hv]; simp [Array.getD, hlt]
        rw [this]
      simp only [hy]
      rw [← hw]
      cases c0 <;> cases b <;> rfl
    · simp at hw

theorem evQ_sound (hcall : CallSnd P call) {ops : Array Oper} {o : Oper} {q' : Go.Ev.Q} (hq : cQ P ops o = some q'.strip) {st1 : St} (h1 : evQ call st q' = some st1) (hi : Inv w0 S0 ρ0 H0 w S ρ st a)
    {K : Act → World → Prop} {R : Exit → Act → World → Prop} (hK : ∀ a' w' S' ρ', Inv w0 S0 ρ0 H0 w' S' ρ' st1 a' → K a' w') :
    if Region.wanted o (yielded ops a.tmps) then o.wp P a w K R ∨ (o.asks P a w ∧ LetsOut R) else K (a.put o.dst undef) w := by
  have bad : ∀ d g, (q'.strip : Go.Ev.Q) = { dst := d, g := g, o := .bad } → g = none → False := by
    intro d g h hg
    have e1 : q'.g = none := by have := congrArg Go.Ev.Q.g h; simpa [Go.Ev.Q.strip, hg] using this
    have e2 : q'.o = .bad := by
      have := congrArg Go.Ev.Q.o h
      simp only [Go.Ev.Q.strip] at this
      rcases strip_inv this with h | ⟨_, _, _, _, h⟩ | ⟨_, _, _, _, h⟩
      · exact h
      · simp at h
      · simp at h
    unfold evQ at h1
    rw [e1, e2] at h1
    simp [wantQ, evO] at h1
  unfold cQ at hq
  split at hq
  case h_2 => injection hq with hq; exact (bad _ _ hq.symm rfl).elim
  rename_i g hg
  split at hq
  case h_2 => injection hq with hq; exact (bad _ _ hq.symm rfl).elim
  rename_i x hx
  injection hq with hq
  have hqd : q'.dst = o.dst := by have := congrArg Go.Ev.Q.dst hq; simpa [Go.Ev.Q.strip] using this.symm
  have hqg : q'.g = g := by have := congrArg Go.Ev.Q.g hq; simpa [Go.Ev.Q.strip] using this.symm
  have hqo : q'.o.strip = x := by have := congrArg Go.Ev.Q.o hq; simpa [Go.Ev.Q.strip] using this.symm
  unfold evQ at h1
  rw [hqg] at h1
  split at h1
  · rename_i hw
    have hwant := want_sound hi.slots hg hw
    split at h1
    case h_2 => simp at h1
    rename_i v h' hv
    injection h1 with h1; subst h1
    have hok := evO_sound hcall hx hqo hi.evo.rel hi.slots hv
    rw [if_pos hwant]
    refine .inl (hok _ _ fun cv w' S' ρ' hev hvr => ?_)
    obtain ⟨S2, hev2, hvr2⟩ := doCo_sound q'.c hev.rel hvr
    rw [← hqd]
    exact hK _ _ S2 ρ' (hi.put (hev.trans hev2) hvr2)
  · rename_i hw
    have hwant := want_sound hi.slots hg hw
    injection h1 with h1; subst h1
    rw [if_neg (by rw [hwant]; simp), ← hqd]
    exact hK _ _ S ρ (hi.put (Evo.refl hi.evo.rel) (.tup [] #[] rfl (fun i h => by simp at h)))
  · simp at h1

theorem evL_sound (hcall : CallSnd P call) (ops : Array Oper) (R : Exit → Act → World → Prop) : ∀ (l : List Oper) (l' : List Go.Ev.Q) (st st' : St) (a : Act) (w : World) (S : Sta) (ρ : Pos), allO (cQ P ops) l = some (l'.map Go.Ev.Q.strip) → evL call l' st = some st' →
    Inv w0 S0 ρ0 H0 w S ρ st a → (∀ a' w' S' ρ', Inv w0 S0 ρ0 H0 w' S' ρ' st' a' → R .normal a' w') → wpList P ops R l a w
  | [], l', st, st', a, w, S, ρ, hl, he, hi, hQ => by
    simp only [allO, Option.some.injEq] at hl
    cases l' with
    | cons => simp at hl
    | nil =>
      simp only [evL, Option.some.injEq] at he; subst he
      exact wpList_nil (hQ a w S ρ hi)
  | o :: l, l', st, st', a, w, S, ρ, hl, he, hi, hQ => by
    simp only [allO] at hl
    split at hl
    case h_2 => simp at hl
    rename_i q r hq hr
    injection hl with hl
    cases l' with
    | nil => simp at hl
    | cons q' l' =>
      simp only [List.map_cons, List.cons.injEq] at hl
      obtain ⟨rfl, rfl⟩ := hl
      simp only [evL] at he
      split at he
      case h_2 => simp at he
      rename_i st1 h1
      unfold wpList
      exact evQ_sound hcall hq h1 hi fun a' w' S' ρ' hi' => evL_sound hcall ops R l l' st1 st' a' w' S' ρ' hr he hi' hQ

theorem evIs_sound (hcall : CallSnd P call) {ops : Array Oper} {l' : List Go.Ev.Q} (hl : allO (cQ P ops) ops.toList = some (l'.map Go.Ev.Q.strip)) (R : Exit → Act → World → Prop) : ∀ (σ : List Nat) (st st' : St) (a : Act) (w : World) (S : Sta) (ρ : Pos), evIs call l' σ st = some st' →
    Inv w0 S0 ρ0 H0 w S ρ st a → (∀ a' w' S' ρ', Inv w0 S0 ρ0 H0 w' S' ρ' st' a' → R .normal a' w') → wpOps P ops R σ a w
  | [], st, st', a, w, S, ρ, he, hi, hQ => by
    simp only [evIs, Option.some.injEq] at he; subst he
    simpa [wpOps] using hQ a w S ρ hi
  | i :: σ, st, st', a, w, S, ρ, he, hi, hQ => by
    rw [wpOps_cons]
    simp only [evIs, Option.bind_eq_some_iff] at he
    obtain ⟨st1, h1, h2⟩ := he
    obtain ⟨e1, e2⟩ := allO_spec hl
    unfold wpOp
    split
    · rename_i hn
      have : l'[i]? = none := by
        rw [Array.getElem?_eq_none_iff] at hn
        rw [List.getElem?_eq_none_iff]
        simp at e1; omega
      simp only [evI, this, Option.some.injEq] at h1; subst h1
      exact evIs_sound hcall hl R σ st st' a w S ρ h2 hi hQ
    · rename_i o ho
      have hlt : i < ops.size := (Array.getElem?_eq_some_iff.1 ho).1
      have hl' : i < l'.length := by simp at e1; omega
      have h3 := e2 i default default (by simp; exact hlt)
      have e3 : ops.toList.getD i default = o := by simp [List.getD_eq_getElem?_getD, ho]
      have e4 : (l'.map Go.Ev.Q.strip).getD i default = (l'[i]).strip := by simp [List.getD_eq_getElem?_getD, hl']
      rw [e3, e4] at h3
      simp only [evI, List.getElem?_eq_getElem hl'] at h1
      exact evQ_sound hcall h3 h1 hi fun a' w' S' ρ' hi' => evIs_sound hcall hl R σ st1 st' a' w' S' ρ' h2 hi' hQ

theorem Inv.drawn (h : Inv w0 S0 ρ0 H0 w S ρ st a) : Inv w0 S0 ρ0 H0 { w with drawn := w.drawn + 1 } S ρ st a := by
  have hw : ∀ g, S g → ({ w with drawn := w.drawn + 1 } : World).heap[g]? = w.heap[g]? := fun _ _ => rfl
  have e : Evo w S ρ st.h { w with drawn := w.drawn + 1 } S ρ st.h := by
    refine ⟨⟨fun i => ?_, h.evo.rel.inj, h.evo.rel.lim, h.evo.rel.rlt, h.evo.rel.slt⟩, Nat.le_refl _, fun _ _ => rfl, fun _ _ h => h, fun _ h => h, fun _ h => .inl h, fun _ _ _ => rfl, fun _ h => .inl h, fun _ c _ f h => ⟨c, f, h, rfl⟩, Nat.le_refl _, rfl, rfl, rfl⟩
    exact (h.evo.rel.blk i).mono (fun _ h => h) hw (fun _ _ h => h) (fun _ => Nat.le_refl _) rfl (fun _ _ _ _ => rfl) (fun _ _ _ _ hs => hs)
  exact ⟨h.evo.trans e, h.slots.mono fun x v hx => e.vr h.evo.rel hx, h.m, h.defers⟩

theorem keepS_length (L : List Nat) : ∀ (l : List AV) (i : Nat), (keepS L l i).length = l.length
  | [], _ => rfl
  | v :: l, i => by simp [keepS, keepS_length L l (i + 1)]
theorem keepS_get (L : List Nat) : ∀ (l : List AV) (i j : Nat), (keepS L l i).getD j .unk = l.getD j .unk ∨ (keepS L l i).getD j .unk = .unk
  | [], i, j => .inl rfl
  | v :: l, i, 0 => by
    simp only [keepS, List.getD_cons_zero]
    split
    · exact .inl rfl
    · exact .inr rfl
  | v :: l, i, j + 1 => by
    simp only [keepS, List.getD_cons_succ]
    exact keepS_get L l (i + 1) j

theorem Inv.clean (h : Inv w0 S0 ρ0 H0 w S ρ st a) (L : List Nat) : ∃ ρ', Inv w0 S0 ρ0 H0 w S ρ' (clean L st) a := by
  have hm : st.m ≤ st.h.length := by rw [h.m]; exact h.evo.len
  obtain ⟨h1, h2, h3⟩ := liveIds_spec hm (keepS L st.s 0)
  refine ⟨comp ρ (liveIds st.m st.h (keepS L st.s 0)), h.evo.clean h1 (by rw [← h.m]; exact h2) (fun i hi => h3 i (by rw [h.m]; exact hi)), ⟨?_, fun i hi => ?_⟩, h.m, h.defers⟩
  · show a.tmps.size = (AV.renL _ (keepS L st.s 0)).length
    rw [renL_map, List.length_map, keepS_length]; exact h.slots.len
  · show VR w S _ ((AV.renL _ (keepS L st.s 0)).getD i .unk) _
    rw [renL_getD]
    rcases keepS_get L st.s 0 i with e | e <;> rw [e]
    · exact (h.slots.get i).ren fun i j p hp hq => comp_pos hp hq
    · exact .unk _

theorem Inv.cln (h : Inv w0 S0 ρ0 H0 w S ρ st a) (L : Option (List Nat)) : ∃ ρ', Inv w0 S0 ρ0 H0 w S ρ' (cln L st) a := by
  cases L with
  | none => exact ⟨ρ, h⟩
  | some L => exact h.clean L

def LoopSnd (P : Program) (lp : Looper) : Prop := ∀ (L : List Nat) (c' : C) (c : Code) (st : St) (e : Ex) (st' : St), c'.okD = true → cC P c = some c'.strip → lp L c' st = some (e, st') →
  ∀ (w0 : World) (S0 : Sta) (ρ0 : Pos) (H0 : Heap) (w : World) (S : Sta) (ρ : Pos) (a : Act), Inv w0 S0 ρ0 H0 w S ρ st a → ∀ R : Exit → Act → World → Prop,
    (∀ a' w' S' ρ', Inv w0 S0 ρ0 H0 w' S' ρ' st' a' → R e.to a' w') → LW P c R a w

theorem evC_sound (hm : P.follows .mixedOrders = true) (hcall : CallSnd P call) (hlp : LoopSnd P lp) : ∀ (c' : C) (c : Code) (st : St) (e : Ex) (st' : St), c'.okD = true → cC P c = some c'.strip → evC call lp c' st = some (e, st') →
    ∀ (w : World) (S : Sta) (ρ : Pos) (a : Act), Inv w0 S0 ρ0 H0 w S ρ st a → ∀ R : Exit → Act → World → Prop, (∀ a' w' S' ρ', Inv w0 S0 ρ0 H0 w' S' ρ' st' a' → R e.to a' w') → c.wp P R a w := by
  intro c'
  induction c' with
  | skip =>
    intro c st e st' hk hc he w S ρ a hi R hQ
    simp only [evC, Option.some.injEq, Prod.mk.injEq] at he
    obtain ⟨rfl, rfl⟩ := he
    simp only [C.strip] at hc
    have : c = .skip := by
      unfold cC at hc
      split at hc <;> first | rfl | (simp at hc; done) | (split at hc <;> simp at hc; done)
    subst this
    exact wp_skip (hQ a w S ρ hi)
  | reg l =>
    intro c st e st' hk hc he w S ρ a hi R hQ
    simp only [evC] at he
    split at he
    case h_2 => simp at he
    rename_i st1 h1
    simp only [Option.some.injEq, Prod.mk.injEq] at he
    obtain ⟨rfl, rfl⟩ := he
    simp only [C.strip] at hc
    have : ∃ id ops, c = .region id ops false ∧ allO (cQ P ops) ops.toList = some (l.map Go.Ev.Q.strip) := by
      unfold cC at hc
      split at hc <;> first
        | (rw [Option.map_eq_some_iff] at hc; obtain ⟨r, h2, h3⟩ := hc; injection h3 with h3; subst h3; exact ⟨_, _, rfl, h2⟩)
        | (simp at hc; done) | (split at hc <;> simp at hc; done)
    obtain ⟨id, ops, rfl, hl⟩ := this
    exact wp_region_list (evL_sound hcall ops R ops.toList l st st1 a w S ρ hl h1 hi hQ)
  | drw l b =>
    intro c st e st' hk hc he w S ρ a hi R hQ
    simp only [evC] at he
    split at he
    case h_2 => simp at he
    rename_i st1 h1
    simp only [Option.some.injEq, Prod.mk.injEq] at he
    obtain ⟨rfl, rfl⟩ := he
    simp only [C.strip] at hc
    have : ∃ id ops, c = .region id ops true ∧ allO (cQ P ops) ops.toList = some (l.map Go.Ev.Q.strip) ∧ cAft ops = b := by
      unfold cC at hc
      split at hc <;> first
        | (rw [Option.map_eq_some_iff] at hc; obtain ⟨r, h2, h3⟩ := hc; injection h3 with h3 h4; subst h3; exact ⟨_, _, rfl, h2, h4⟩)
        | (simp at hc; done) | (split at hc <;> simp at hc; done)
    obtain ⟨id, ops, rfl, hl, hb⟩ := this
    have hlen : l.length = ops.size := by have := (allO_spec hl).1; simp at this; omega
    refine wp_region_draw fun t => ?_
    rw [hm]
    refine evIs_sound hcall hl R _ st st1 a _ S ρ ?_ hi.drawn hQ
    rw [order_sched hlen hb hk]; exact h1
  | bad => intro c st e st' hk hc he; simp [evC] at he
  | seq x y ih1 ih2 =>
    intro c st e st' hk hc he w S ρ a hi R hQ
    simp only [C.strip] at hc
    have : ∃ cx cy, c = .seq cx cy ∧ cC P cx = some x.strip ∧ cC P cy = some y.strip := by
      unfold cC at hc
      split at hc <;> first
        | (split at hc <;> first | (simp at hc; done) | (rename_i h1 h2; injection hc with hc; injection hc with h3 h4; subst h3; subst h4; exact ⟨_, _, rfl, h1, h2⟩))
        | (simp at hc; done)
    obtain ⟨cx, cy, rfl, hx, hy⟩ := this
    simp only [evC] at he
    simp only [C.okD, Bool.and_eq_true] at hk
    refine wp_seq ?_
    split at he
    · rename_i st1 h1
      exact ih1 cx st _ st1 hk.1 hx h1 w S ρ a hi _ fun a' w' S' ρ' hi' => ih2 cy st1 e st' hk.2 hy he w' S' ρ' a' hi' R hQ
    · rename_i hne
      refine ih1 cx st e st' hk.1 hx he w S ρ a hi _ fun a' w' S' ρ' hi' => ?_
      cases e with
      | normal => exact absurd he (hne _)
      | exit id => exact hQ a' w' S' ρ' hi'
      | ret => exact hQ a' w' S' ρ' hi'
  | cond x p q ih1 ih2 =>
    intro c st e st' hk hc he w S ρ a hi R hQ
    simp only [C.strip] at hc
    have : ∃ ox cp cq, c = .cond ox cp cq ∧ cX ox = some x ∧ cC P cp = some p.strip ∧ cC P cq = some q.strip := by
      unfold cC at hc
      split at hc <;> first
        | (split at hc <;> first | (simp at hc; done) | (rename_i h1 h2 h3; injection hc with hc; injection hc with h4 h5 h6; subst h4; subst h5; subst h6; exact ⟨_, _, _, rfl, h1, h2, h3⟩))
        | (simp at hc; done)
    obtain ⟨ox, cp, cq, rfl, hox, hp, hq⟩ := this
    simp only [evC] at he
    split at he
    case h_2 => simp at he
    rename_i t ht
    have hv := asBool_inv (cX_sound hi.slots hox) ht
    simp only [C.okD, Bool.and_eq_true] at hk
    refine wp_cond hv ?_
    cases t
    · exact ih2 cq st e st' hk.2 hq (by simpa using he) w S ρ a hi R hQ
    · exact ih1 cp st e st' hk.1 hp (by simpa using he) w S ρ a hi R hQ
  | block id x ih =>
    intro c st e st' hk hc he w S ρ a hi R hQ
    simp only [C.strip] at hc
    have : ∃ cx, c = .block id cx ∧ cC P cx = some x.strip := by
      unfold cC at hc
      split at hc <;> first
        | (rw [Option.map_eq_some_iff] at hc; obtain ⟨r, h2, h3⟩ := hc; injection h3 with h3 h4; subst h3; subst h4; exact ⟨_, rfl, h2⟩)
        | (simp at hc; done) | (split at hc <;> simp at hc; done)
    obtain ⟨cx, rfl, hx⟩ := this
    simp only [evC] at he
    refine wp_block ?_
    split at he
    · rename_i id' st1 h1
      refine ih cx st _ st1 hk hx h1 w S ρ a hi _ fun a' w' S' ρ' hi' => ?_
      show (if id' = id then R .normal a' w' else R (.exit id') a' w')
      split at he
      · rename_i hid
        simp only [Option.some.injEq, Prod.mk.injEq] at he
        obtain ⟨rfl, rfl⟩ := he
        rw [if_pos hid]; exact hQ a' w' S' ρ' hi'
      · rename_i hid
        simp only [Option.some.injEq, Prod.mk.injEq] at he
        obtain ⟨rfl, rfl⟩ := he
        rw [if_neg hid]; exact hQ a' w' S' ρ' hi'
    · rename_i hne
      refine ih cx st e st' hk hx he w S ρ a hi _ fun a' w' S' ρ' hi' => ?_
      cases e with
      | normal => exact hQ a' w' S' ρ' hi'
      | exit id' => exact absurd he (hne _ _)
      | ret => exact hQ a' w' S' ρ' hi'
  | loop L x ih =>
    intro c st e st' hk hc he w S ρ a hi R hQ
    simp only [C.strip] at hc
    have : ∃ cx, c = .loop cx ∧ cC P cx = some x.strip := by
      unfold cC at hc
      split at hc <;> first
        | (rw [Option.map_eq_some_iff] at hc; obtain ⟨r, h2, h3⟩ := hc; injection h3 with h3 h4; subst h4; exact ⟨_, rfl, h2⟩)
        | (simp at hc; done) | (split at hc <;> simp at hc; done)
    obtain ⟨cx, rfl, hx⟩ := this
    simp only [evC] at he
    exact wp_of_LW (hlp L x cx st e st' hk hx he w0 S0 ρ0 H0 w S ρ a hi R hQ)
  | exit id L =>
    intro c st e st' hk hc he w S ρ a hi R hQ
    simp only [evC, Option.some.injEq, Prod.mk.injEq] at he
    obtain ⟨rfl, rfl⟩ := he
    simp only [C.strip] at hc
    have : c = .exit id := by
      unfold cC at hc
      split at hc <;> first | (injection hc with hc; injection hc with hc; subst hc; rfl) | (simp at hc; done) | (split at hc <;> simp at hc; done)
    subst this
    obtain ⟨ρ', hi'⟩ := hi.cln L
    exact wp_exit (hQ a w S ρ' hi')
  | ret L =>
    intro c st e st' hk hc he w S ρ a hi R hQ
    simp only [evC, Option.some.injEq, Prod.mk.injEq] at he
    obtain ⟨rfl, rfl⟩ := he
    simp only [C.strip] at hc
    have : c = .ret := by
      unfold cC at hc
      split at hc <;> first | rfl | (simp at hc; done) | (split at hc <;> simp at hc; done)
    subst this
    obtain ⟨ρ', hi'⟩ := hi.cln L
    exact wp_ret (hQ a w S ρ' hi')
  | ann L x ih =>
    intro c st e st' hk hc he w S ρ a hi R hQ
    obtain ⟨ρ', hi'⟩ := hi.clean L
    exact ih c (Go.Ev.clean L st) e st' hk hc he w S ρ' a hi' R hQ
end
end Go.Ev
