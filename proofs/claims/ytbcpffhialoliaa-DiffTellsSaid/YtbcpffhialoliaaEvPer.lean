/- Operations that may change places; orders of a drawn region. Own work. -/
import Derived.Test.YtbcpffhialoliaaEvSnd
namespace Go.Ev
open Go
set_option linter.unusedVariables false
set_option linter.unusedSimpArgs false
section
variable {call : Callee}

theorem x_congr {s u : St} {x : X} (h : ∀ t ∈ x.reads, s.s.getD t .unk = u.s.getD t .unk) : s.x x = u.x x := by
  cases x with
  | s t => exact h t (by simp [X.reads])
  | c v => rfl
theorem xs_congr {s u : St} : ∀ {l : List X}, (∀ t ∈ readsL l, s.s.getD t .unk = u.s.getD t .unk) → s.xs l = u.xs l
  | [], _ => rfl
  | x :: l, h => by
    simp only [readsL, List.mem_append] at h
    simp only [St.xs, List.map_cons]
    rw [x_congr fun t ht => h t (.inl ht)]
    congr 1
    exact xs_congr fun t ht => h t (.inr ht)
theorem ps_congr {s u : St} {β : Type} (f : Nat → Nat → AV → β) : ∀ {l : List (Nat × Nat × X)}, (∀ t ∈ readsP l, s.s.getD t .unk = u.s.getD t .unk) → (l.map fun p => f p.1 p.2.1 (s.x p.2.2)) = l.map fun p => f p.1 p.2.1 (u.x p.2.2)
  | [], _ => rfl
  | x :: l, h => by
    simp only [readsP, List.mem_append] at h
    simp only [List.map_cons]
    rw [x_congr fun t ht => h t (.inl ht)]
    congr 1
    exact ps_congr f fun t ht => h t (.inr ht)
theorem bound_congr {s u : St} {x : Option X} (h : ∀ t ∈ readsO x, s.s.getD t .unk = u.s.getD t .unk) : evO.bound s x = evO.bound u x := by
  cases x with
  | none => rfl
  | some x => simp only [evO.bound]; rw [x_congr h]

theorem evO_congr {s u : St} {o : O} (h : ∀ t ∈ o.reads, s.s.getD t .unk = u.s.getD t .unk) (hh : s.h = u.h) : evO call s o = evO call u o := by
  cases o <;> simp only [O.reads, List.mem_append] at h
  case mv x => simp only [evO, x_congr h, hh]
  case pick a b c => simp only [evO, x_congr fun t ht => h t (.inl (.inl ht)), x_congr fun t ht => h t (.inl (.inr ht)), x_congr fun t ht => h t (.inr ht), hh]
  case alloc => simp only [evO, hh]
  case box => simp only [evO, x_congr h, hh]
  case ld => simp only [evO, x_congr h, hh]
  case st => simp only [evO, x_congr fun t ht => h t (.inl ht), x_congr fun t ht => h t (.inr ht), hh]
  case nc => simp only [evO, x_congr h, hh]
  case bin => simp only [evO, x_congr fun t ht => h t (.inl ht), x_congr fun t ht => h t (.inr ht), hh]
  case beq => simp only [evO, x_congr fun t ht => h t (.inl ht), x_congr fun t ht => h t (.inr ht), hh]
  case eqs => simp only [evO, x_congr fun t ht => h t (.inl ht), x_congr fun t ht => h t (.inr ht), hh]
  case isn => simp only [evO, x_congr h, hh]
  case un => simp only [evO, x_congr h, hh]
  case cvi => simp only [evO, x_congr h, hh]
  case cvs => simp only [evO, x_congr h, hh]
  case s2b => simp only [evO, x_congr h, hh]
  case cvl => simp only [evO, x_congr h, hh]
  case b2s => simp only [evO, x_congr h, hh]
  case build zs ps => simp only [evO, ps_congr (fun a b v => (a, b, v)) h, hh]
  case bsl e z n zs ps => simp only [evO, ps_congr (fun a b v => (a, b, v.view u.h)) h, ps_congr (fun _ _ v => v) h, hh]
  case ext => simp only [evO, x_congr h, hh]
  case fn => simp only [evO, xs_congr fun t ht => h t (.inl ht), xs_congr fun t ht => h t (.inr ht), hh]
  case fa => simp only [evO, x_congr h, hh]
  case ia => simp only [evO, x_congr fun t ht => h t (.inl ht), x_congr fun t ht => h t (.inr ht), hh]
  case «is» => simp only [evO, x_congr fun t ht => h t (.inl ht), x_congr fun t ht => h t (.inr ht), hh]
  case fld => simp only [evO, x_congr h, hh]
  case idx => simp only [evO, x_congr fun t ht => h t (.inl ht), x_congr fun t ht => h t (.inr ht), hh]
  case sti => simp only [evO, x_congr fun t ht => h t (.inl ht), x_congr fun t ht => h t (.inr ht), hh]
  case sl => simp only [evO, x_congr fun t ht => h t (.inl (.inl (.inl ht))), bound_congr fun t ht => h t (.inl (.inl (.inr ht))), bound_congr fun t ht => h t (.inl (.inr ht)), bound_congr fun t ht => h t (.inr ht), hh]
  case ssl => simp only [evO, x_congr fun t ht => h t (.inl (.inl ht)), bound_congr fun t ht => h t (.inl (.inr ht)), bound_congr fun t ht => h t (.inr ht), hh]
  case mi => simp only [evO, x_congr h, hh]
  case len => simp only [evO, x_congr h, hh]
  case lens => simp only [evO, x_congr h, hh]
  case lenc => simp only [evO, hh]
  case mx => simp only [evO, x_congr fun t ht => h t (.inl ht), x_congr fun t ht => h t (.inr ht), hh]
  case mn => simp only [evO, x_congr fun t ht => h t (.inl ht), x_congr fun t ht => h t (.inr ht), hh]
  case app => simp only [evO, x_congr fun t ht => h t (.inl ht), x_congr fun t ht => h t (.inr ht), hh]
  case mmk => simp only [evO, hh]
  case mget => simp only [evO, x_congr fun t ht => h t (.inl ht), x_congr fun t ht => h t (.inr ht), hh]
  case mput => simp only [evO, x_congr fun t ht => h t (.inl (.inl ht)), x_congr fun t ht => h t (.inl (.inr ht)), x_congr fun t ht => h t (.inr ht), hh]
  case mdel => simp only [evO, x_congr fun t ht => h t (.inl ht), x_congr fun t ht => h t (.inr ht), hh]
  case mlen => simp only [evO, x_congr h, hh]
  case call => simp only [evO, xs_congr h, hh]
  case bcall => simp only [evO, xs_congr h, hh]
  case callv => simp only [evO, x_congr fun t ht => h t (.inl ht), xs_congr fun t ht => h t (.inr ht), hh]
  case bad => simp only [evO]

theorem doCall_quiet {f : FuncId} {args : List AV} {H H' : Heap} {v : AV} (h : doCall call f args 2 H = some (v, H')) : H' = H := by
  simp only [doCall, doCallQ] at h
  split at h
  · split at h
    · simp at h
    · split at h
      · simp only [Option.some.injEq, Prod.mk.injEq] at h; exact h.2.symm
      · split at h
        · simp only [Option.some.injEq, Prod.mk.injEq] at h; exact h.2.symm
        · simp at h
  · simp at h

theorem cvlA_quiet {H h : Heap} {x v : AV} (he : cvlA H x = some (v, h)) : h = H := by
  unfold cvlA at he
  split at he
  case h_2 => simp at he
  rename_i i o n k
  cases hb : H.getD i .dead <;> rw [hb] at he <;> simp only [cvlB] at he
  all_goals first | (simp at he; done) | skip
  split at he
  · simp only [Option.some.injEq, Prod.mk.injEq] at he; exact he.2.symm
  · simp at he
theorem evO_quiet {s : St} {o : O} (hq : o.quiet = true) {v : AV} {h : Heap} (he : evO call s o = some (v, h)) : h = s.h := by
  cases o
  case call f xs r =>
    simp only [O.quiet, beq_iff_eq] at hq; subst hq
    exact doCall_quiet he
  case callv x xs r =>
    simp only [O.quiet, beq_iff_eq] at hq; subst hq
    simp only [evO] at he
    split at he
    · exact doCall_quiet he
    · exact doCall_quiet he
    · simp at he
  case cvl x =>
    simp only [evO] at he
    exact cvlA_quiet he
  all_goals first | (simp [O.quiet] at hq; done) | skip
  all_goals simp only [evO] at he
  all_goals repeat' split at he
  all_goals first | (simp at he; done) | (simp only [Option.some.injEq, Prod.mk.injEq] at he; exact he.2.symm)

theorem co1_quiet {z : Nat} {k : Bool} (hk : (!k) = true) (v : AV) (H : Heap) : (co1 z k v H).2 = H := by
  cases k
  · unfold co1; split <;> rfl
  · simp at hk
theorem doCo_quiet {c : Co} (hc : c.quiet = true) (v : AV) (H : Heap) : (doCo c v H).2 = H := by
  cases c with
  | none => rfl
  | one z k => exact co1_quiet hc v H
  | _ => simp [Co.quiet] at hc
/-- Cells looked at further, no block made. -/
theorem coL_free : ∀ (l : List (Nat × Nat × Bool)), (l.all fun x => !x.2.2) = true → ∀ (cs : List AV) (H H' : Heap), (coL l cs H).2 = H ∧ (coL l cs H).1 = (coL l cs H').1
  | [], _, cs, H, H' => ⟨rfl, rfl⟩
  | (j, z, k) :: l, h, cs, H, H' => by
    simp only [List.all_cons, Bool.and_eq_true] at h
    simp only [coL]
    have e1 := co1_quiet (z := z) h.1 (cs.getD j .unk) H
    have e2 := co1_quiet (z := z) h.1 (cs.getD j .unk) H'
    have e3 : (co1 z k (cs.getD j .unk) H).1 = (co1 z k (cs.getD j .unk) H').1 := by
      cases k
      · unfold co1; split <;> rfl
      · simp at h
    rw [e1, e2, e3]
    exact coL_free l h.2 _ H H'
theorem build_agg {s : St} {zs : List D} {ps : List (Nat × Nat × X)} {v : AV} {h : Heap} (he : evO call s (.build zs ps) = some (v, h)) : ∃ cs, v = .agg cs := by
  simp only [evO] at he
  split at he
  · simp only [Option.some.injEq, Prod.mk.injEq] at he; exact ⟨_, he.1.symm⟩
  · simp at he
theorem cfree_co {o : O} {c : Co} (hc : cfree o c = true) {s : St} {v : AV} {h : Heap} (he : evO call s o = some (v, h)) (H H' : Heap) : (doCo c v H).2 = H ∧ (doCo c v H).1 = (doCo c v H').1 := by
  cases c <;> simp only [cfree] at hc <;> try (simp at hc; done)
  simp only [Bool.and_eq_true] at hc
  obtain ⟨h1, h2⟩ := hc
  cases o <;> try (simp at h1; done)
  obtain ⟨cs, rfl⟩ := build_agg he
  simp only [doCo]
  obtain ⟨e1, e2⟩ := coL_free _ h2 cs H H'
  exact ⟨e1, by rw [e2]⟩
theorem runQ_else {q : Q} (h : q.c.away = false) (s : St) : runQ call s q = match evO call s q.o with
    | some (v, h) => some ((doCo q.c v h).1, (doCo q.c v h).2)
    | none => none := by
  obtain ⟨d, g, o, c⟩ := q
  cases c <;> first | rfl | (simp [Co.away] at h; done)
theorem runQ_quiet {q : Q} (hq : q.quiet = true) {s : St} {v : AV} {h : Heap} (he : runQ call s q = some (v, h)) : h = s.h := by
  by_cases ha : q.c.away = true
  · obtain ⟨d, g, o, c⟩ := q
    cases c <;> try (simp [Co.away] at ha; done)
    · simp only [runQ] at he
      split at he
      · split at he
        · simp only [Option.some.injEq, Prod.mk.injEq] at he; exact he.2.symm
        · simp at he
      · simp at he
    · simp [runQ] at he
    · simp only [runQ] at he
      split at he
      · simp only [Option.some.injEq, Prod.mk.injEq] at he; exact he.2.symm
      · simp at he
  · have ha' : q.c.away = false := by simpa using ha
    rw [runQ_else ha'] at he
    simp only [Q.quiet, ha', Bool.false_or, Bool.and_eq_true, Bool.or_eq_true] at hq
    split at he
    case h_2 => simp at he
    rename_i v0 h0 hv
    simp only [Option.some.injEq, Prod.mk.injEq] at he
    rw [← he.2, evO_quiet hq.1 hv]
    rcases hq.2 with hc | hc
    · exact doCo_quiet hc _ _
    · exact (cfree_co hc hv _ s.h).1
theorem runQ_congr {s u : St} {q : Q} (h : ∀ t ∈ q.o.reads, s.s.getD t .unk = u.s.getD t .unk) (hh : s.h = u.h) : runQ call s q = runQ call u q := by
  obtain ⟨d, g, o, c⟩ := q
  have e0 : evO call s o = evO call u o := evO_congr h hh
  have e1 : evO call { s with h := [] } o = evO call { u with h := [] } o := evO_congr h rfl
  have e2 : (o.reads.map fun t => s.s.getD t .unk) = o.reads.map fun t => u.s.getD t .unk := List.map_congr_left h
  cases c <;> simp only [runQ, e0, e1, e2, hh]
def valQ (call : Callee) (s : St) (q : Q) : Option AV := match wantQ s q.g with
  | some true => (runQ call s q).map fun r => r.1
  | some false => some (.tup [])
  | none => none
theorem evQ_quiet {q : Q} (hq0 : q.quiet = true) (s : St) : evQ call s q = (valQ call s q).map fun v => s.put q.dst v s.h := by
  unfold evQ valQ
  cases hw : wantQ s q.g with
  | none => rfl
  | some c =>
    cases c with
    | false => rfl
    | true =>
      cases he : runQ call s q with
      | none => simp [he]
      | some r => obtain ⟨v, h⟩ := r; obtain rfl := runQ_quiet hq0 he; simp [he]
theorem valQ_congr {s u : St} {q : Q} (h : ∀ t ∈ q.reads, s.s.getD t .unk = u.s.getD t .unk) (hh : s.h = u.h) : valQ call s q = valQ call u q := by
  simp only [Q.reads, List.mem_append] at h
  have hw : wantQ s q.g = wantQ u q.g := by
    cases hg : q.g with
    | none => rfl
    | some p => obtain ⟨t, b⟩ := p; rw [hg] at h; simp only [wantQ]; rw [h t (.inl (by simp))]
  unfold valQ
  rw [hw, runQ_congr (fun t ht => h t (.inr ht)) hh]

theorem put_getD {s : St} {d : Option Nat} {v : AV} {t : Nat} (h : ∀ e, d = some e → e ≠ t) : (s.put d v s.h).s.getD t .unk = s.s.getD t .unk := by
  cases d with
  | none => rfl
  | some e => simp only [St.put]; rw [getD_set_eq, if_neg (fun hh => h e rfl hh.1)]
theorem put_h (s : St) (d : Option Nat) (v : AV) : (s.put d v s.h).h = s.h := by cases d <;> rfl
theorem put_comm {s : St} {d e : Option Nat} {v u : AV} (h : ∀ x, d = some x → e ≠ some x) : (s.put d v s.h).put e u (s.put d v s.h).h = (s.put e u s.h).put d v (s.put e u s.h).h := by
  cases d with
  | none => cases e <;> rfl
  | some x =>
    cases e with
    | none => rfl
    | some y =>
      have : x ≠ y := fun hh => h x rfl (by rw [hh])
      simp only [St.put]
      rw [List.set_comm _ _ this]

/-! ### what does not look at the blocks -/
theorem evO_free {o : O} (hf : o.free = true) (s : St) (h : Heap) : evO call { s with h := h } o = (evO call s o).map fun r => (r.1, h) := by
  have hx : ∀ x, St.x { s with h := h } x = s.x x := fun x => by cases x <;> rfl
  have hxs : ∀ l, St.xs { s with h := h } l = s.xs l := fun l => List.map_congr_left fun x _ => hx x
  have hb : ∀ x, evO.bound { s with h := h } x = evO.bound s x := fun x => by cases x <;> simp only [evO.bound, hx]
  cases o <;> first | (simp [O.free] at hf; done) | skip
  all_goals simp only [evO, hx, hxs, hb]
  all_goals repeat' split
  all_goals first | rfl | (simp_all; done)
theorem free_quiet {q : Q} (hf : q.free = true) : q.quiet = true := by
  simp only [Q.free, Q.quiet, Bool.or_eq_true, Bool.and_eq_true] at hf ⊢
  rcases hf with hf | ⟨h1, h2⟩
  · exact .inl hf
  · refine .inr ⟨?_, ?_⟩
    · cases hq : q.o <;> rw [hq] at h1 <;> first | rfl | (simp [O.free] at h1; done)
    · rcases h2 with h2 | h2
      · left; cases hq : q.c <;> rw [hq] at h2 <;> first | rfl | (simp [Co.free] at h2; done) | exact h2
      · exact .inr h2
theorem co1_free {z : Nat} {k : Bool} (hk : (!k) = true) (v : AV) (H H' : Heap) : (co1 z k v H).1 = (co1 z k v H').1 := by
  cases k
  · unfold co1; split <;> rfl
  · simp at hk
theorem doCo_free {c : Co} (hc : c.free = true) (v : AV) (H H' : Heap) : (doCo c v H).1 = (doCo c v H').1 := by
  cases c with
  | none => rfl
  | one z k => exact co1_free hc v H H'
  | _ => simp [Co.free] at hc
theorem runQ_free {q : Q} (hf : q.free = true) (u : St) (H : Heap) : ((runQ call { u with h := H } q).map fun r => r.1) = (runQ call u q).map fun r => r.1 := by
  by_cases ha : q.c.away = true
  · obtain ⟨d, g, o, c⟩ := q
    cases c <;> try (simp [Co.away] at ha; done)
    · simp only [runQ]
      cases evO call { u with h := [] } o with
      | none => rfl
      | some r =>
        obtain ⟨v, h⟩ := r
        simp only
        split <;> rfl
    · rfl
    · simp only [runQ]; cases o <;> rfl
  · have ha' : q.c.away = false := by simpa using ha
    simp only [Q.free, ha', Bool.false_or, Bool.and_eq_true, Bool.or_eq_true] at hf
    rw [runQ_else ha', runQ_else ha', evO_free hf.1]
    cases he : evO call u q.o with
    | none => rfl
    | some r =>
      obtain ⟨v, h⟩ := r
      simp only [Option.map_some]
      rcases hf.2 with hc | hc
      · rw [doCo_free hc v H h]
      · rw [(cfree_co hc he H h).2]
theorem valQ_free {s u : St} {q : Q} (hf : q.free = true) (h : ∀ t ∈ q.reads, s.s.getD t .unk = u.s.getD t .unk) : valQ call s q = valQ call u q := by
  have h1 : valQ call s q = valQ call { u with h := s.h } q := valQ_congr h rfl
  rw [h1]
  have hw : wantQ { u with h := s.h } q.g = wantQ u q.g := by cases q.g <;> rfl
  unfold valQ
  rw [hw, runQ_free hf]
/-- A slot that an operation neither reads nor writes. -/
theorem evQ_put {q : Q} {s : St} {d : Option Nat} {v : AV} (hr : ∀ e, d = some e → e ∉ q.reads) (hw : ∀ x, d = some x → q.dst ≠ some x) : evQ call (s.put d v s.h) q = (evQ call s q).map fun r => r.put d v r.h := by
  have hg : wantQ (s.put d v s.h) q.g = wantQ s q.g := by
    cases hq : q.g with
    | none => rfl
    | some p =>
      obtain ⟨t, b⟩ := p
      simp only [wantQ]
      rw [put_getD (s := s) (v := v) fun e he hh => hr e he (by subst hh; simp [Q.reads, hq])]
  have ho : runQ call (s.put d v s.h) q = runQ call s q := runQ_congr (fun t ht => put_getD fun e he hh => hr e he (by subst hh; simp only [Q.reads, List.mem_append]; exact .inr ht)) (put_h ..)
  have hc : ∀ (u : AV) (h' : Heap), (s.put d v s.h).put q.dst u h' = (s.put q.dst u h').put d v (s.put q.dst u h').h := by
    intro u h'
    cases hd : d with
    | none => cases q.dst <;> rfl
    | some x =>
      cases hq : q.dst with
      | none => rfl
      | some y =>
        have : x ≠ y := fun hh => hw x hd (by rw [hq, hh])
        simp only [St.put]
        rw [List.set_comm _ _ this]
  unfold evQ
  rw [hg, ho]
  split
  · cases runQ call s q with
    | none => rfl
    | some r => obtain ⟨u, h'⟩ := r; simp only [Option.map_some]; rw [hc]
  · simp only [Option.map_some]; rw [put_h, hc]
  · rfl
theorem evQ_slots {q : Q} {s s' : St} (h : evQ call s q = some s') {t : Nat} (ht : ∀ e, q.dst = some e → e ≠ t) : s'.s.getD t .unk = s.s.getD t .unk := by
  have key : ∀ u h', (s.put q.dst u h').s.getD t .unk = s.s.getD t .unk := by
    intro u h'
    cases hd : q.dst with
    | none => rfl
    | some e => simp only [St.put]; rw [getD_set_eq, if_neg (fun hh => ht e hd hh.1)]
  unfold evQ at h
  split at h
  · split at h
    · injection h with h; subst h; exact key _ _
    · simp at h
  · injection h with h; subst h; exact key _ _
  · simp at h
theorem comm_free {p q : Q} (hp : p.free = true) (h1 : ∀ e, p.dst = some e → e ∉ q.reads) (h2 : ∀ x, p.dst = some x → q.dst ≠ some x) (h3 : ∀ e, q.dst = some e → e ∉ p.reads) (s : St) :
    ((evQ call s p).bind fun s => evQ call s q) = (evQ call s q).bind fun s => evQ call s p := by
  have hpq := free_quiet hp
  cases eq : evQ call s q with
  | none =>
    rw [evQ_quiet hpq]
    cases valQ call s p with
    | none => rfl
    | some v => simp only [Option.map_some, Option.bind_some, Option.bind_none]; rw [evQ_put h1 h2, eq]; rfl
  | some s' =>
    simp only [Option.bind_some]
    rw [evQ_quiet hpq, evQ_quiet hpq, valQ_free (s := s') (u := s) hp fun t ht => evQ_slots eq fun e he hh => h3 e he (hh ▸ ht)]
    cases valQ call s p with
    | none => rfl
    | some v => simp only [Option.map_some, Option.bind_some]; rw [evQ_put h1 h2, eq]; rfl

theorem comm_quiet {p q : Q} (h1 : p.quiet = true) (h2 : q.quiet = true) (hp : ∀ e, p.dst = some e → e ∉ q.reads ∧ e ∉ q.writes) (hq : ∀ e, q.dst = some e → e ∉ p.reads) (s : St) :
    ((evQ call s p).bind fun s => evQ call s q) = (evQ call s q).bind fun s => evQ call s p := by
  have hd : ∀ x, p.dst = some x → q.dst ≠ some x := fun x hx hy => (hp x hx).2 (by simp [Q.writes, hy])
  have e1 : ∀ v, valQ call (s.put p.dst v s.h) q = valQ call s q := fun v => valQ_congr (fun t ht => put_getD fun e he hh => (hp e he).1 (hh ▸ ht)) (put_h ..)
  have e2 : ∀ v, valQ call (s.put q.dst v s.h) p = valQ call s p := fun v => valQ_congr (fun t ht => put_getD fun e he hh => hq e he (hh ▸ ht)) (put_h ..)
  rw [evQ_quiet h1, evQ_quiet h2]
  cases ep : valQ call s p with
  | none =>
    cases eq : valQ call s q with
    | none => rfl
    | some u => simp only [Option.map_some, Option.map_none, Option.bind_none, Option.bind_some, evQ_quiet h1, e2, ep]
  | some v =>
    cases eq : valQ call s q with
    | none => simp only [Option.map_some, Option.map_none, Option.bind_none, Option.bind_some, evQ_quiet h2, e1, eq]
    | some u =>
      simp only [Option.map_some, Option.bind_some, evQ_quiet h1, evQ_quiet h2, e1, e2, ep, eq]
      rw [put_comm hd]

theorem comm_of_apart {p q : Q} (h : p.apart q = true) (s : St) : ((evQ call s p).bind fun s => evQ call s q) = (evQ call s q).bind fun s => evQ call s p := by
  simp only [Q.apart, Bool.and_eq_true, List.all_eq_true, Bool.not_eq_true', List.elem_eq_mem, decide_eq_false_iff_not] at h
  obtain ⟨⟨h1, h3⟩, h4⟩ := h
  have hp : ∀ e, p.dst = some e → e ∉ q.reads ∧ e ∉ q.writes := fun e he => h3 e (by simp [Q.writes, he])
  have hq : ∀ e, q.dst = some e → e ∉ p.reads := fun e he => h4 e (by simp [Q.writes, he])
  have hd : ∀ x, p.dst = some x → q.dst ≠ some x := fun x hx hy => (hp x hx).2 (by simp [Q.writes, hy])
  simp only [Bool.or_eq_true, Bool.and_eq_true] at h1
  rcases h1 with (⟨h1, h2⟩ | h1) | h1
  · exact comm_quiet h1 h2 hp hq s
  · exact comm_free h1 (fun e he => (hp e he).1) hd hq s
  · exact (comm_free h1 hq (fun x hx hy => hd x hy hx) (fun e he => (hp e he).1) s).symm

/-! ### addresses in different blocks -/
def setO (H : Heap) (i : Nat) : Option Blk → Heap
  | none => H
  | some b => H.set i b
theorem setO_other {H : Heap} {i j : Nat} (h : i ≠ j) (b : Option Blk) : (setO H i b).getD j .dead = H.getD j .dead := by
  cases b with
  | none => rfl
  | some b => simp only [setO]; rw [getD_set_eq, if_neg fun e => h e.1]
theorem setO_comm {H : Heap} {i j : Nat} (h : i ≠ j) (b c : Option Blk) : setO (setO H i b) j c = setO (setO H j c) i b := by
  cases b <;> cases c <;> simp only [setO]
  exact List.set_comm _ _ h
theorem load_form {a : AV} {i : Nat} (ha : a.blkOf = some i) (n : Nat) (g : Bool) : ∃ F : Blk → Option (AV × Option Blk), ∀ H : Heap, ((loadA H a n g).map fun v => (v, H)) = (F (H.getD i .dead)).map fun r => (r.1, setO H i r.2) := by
  refine ⟨fun b => (loadA (List.replicate i .dead ++ [b]) a n g).map fun v => (v, none), fun H => ?_⟩
  have e : (List.replicate i Blk.dead ++ [H.getD i .dead]).getD i .dead = H.getD i .dead := by
    rw [List.getD_eq_getElem?_getD, List.getElem?_append_right (by simp)]; simp
  have e2 : loadA (List.replicate i .dead ++ [H.getD i .dead]) a n g = loadA H a n g := by
    unfold AV.blkOf at ha
    split at ha
    · injection ha with ha; subst ha; simp only [loadA, e]
    · injection ha with ha; subst ha; simp only [loadA, e]
    · simp at ha
  simp only [e2]
  cases loadA H a n g <;> rfl
theorem store_form_e (i z k c n : Nat) (x : AV) : ∃ F : Blk → Option (AV × Option Blk), ∀ H : Heap, ((storeA H (.ept i z k c) x n).map fun h => (AV.unk, h)) = (F (H.getD i .dead)).map fun r => (r.1, setO H i r.2) := by
  refine ⟨fun b => match x.cells with
    | none => none
    | some vs => if vs.length = n then (match b with
      | .arr z' xs => if z' = z ∧ k < xs.length ∧ c + n ≤ z then
          (match boxOf.plainD vs with
            | some ds => some (.unk, some (.arr z (xs.set k ((xs.getD k []).take c ++ ds ++ (xs.getD k []).drop (c + n)))))
            | none => none) else none
      | _ => none) else none, fun H => ?_⟩
  simp only [storeA]
  cases x.cells with
  | none => rfl
  | some vs =>
    simp only
    by_cases h1 : vs.length = n
    · simp only [h1, if_true]
      cases H.getD i .dead with
      | arr z' xs =>
        simp only
        by_cases h2 : z' = z ∧ k < xs.length ∧ c + n ≤ z
        · simp only [if_pos h2]
          cases boxOf.plainD vs <;> simp only [Option.map_some, Option.map_none, setO]
        · simp only [if_neg h2, Option.map_none]
      | _ => rfl
    · simp only [h1, if_false, Option.map_none]
theorem store_form (i o n : Nat) (x : AV) : ∃ F : Blk → Option (AV × Option Blk), ∀ H : Heap, ((storeA H (.ptr i o) x n).map fun h => (AV.unk, h)) = (F (H.getD i .dead)).map fun r => (r.1, setO H i r.2) := by
  refine ⟨fun b => match x.cells with
    | none => none
    | some vs => if vs.length = n then (match b with
      | .box cs => if o + n ≤ cs.length then some (.unk, some (.box (putCells cs o vs))) else none
      | .dbox cs => if o + n ≤ cs.length then
          (match boxOf.plainD vs with
            | some ds => some (.unk, some (.dbox (cs.take o ++ ds ++ cs.drop (o + n))))
            | none => some (.unk, some (.box (putCells (cs.map .d) o vs)))) else none
      | _ => none) else none, fun H => ?_⟩
  simp only [storeA]
  cases x.cells with
  | none => rfl
  | some vs =>
    simp only
    by_cases h1 : vs.length = n
    · simp only [h1, if_true]
      cases H.getD i .dead with
      | box cs =>
        simp only
        by_cases h2 : o + n ≤ cs.length
        · simp only [h2, if_true, Option.map_some, setO]
        · simp only [h2, if_false, Option.map_none]
      | dbox cs =>
        simp only
        by_cases h2 : o + n ≤ cs.length
        · simp only [h2, if_true]
          cases boxOf.plainD vs <;> simp only [Option.map_some, setO]
        · simp only [h2, if_false, Option.map_none]
      | _ => rfl
    · simp only [h1, if_false, Option.map_none]
theorem store_form' {a : AV} {i : Nat} (ha : a.blkOf = some i) (n : Nat) (x : AV) : ∃ F : Blk → Option (AV × Option Blk), ∀ H : Heap, ((storeA H a x n).map fun h => (AV.unk, h)) = (F (H.getD i .dead)).map fun r => (r.1, setO H i r.2) := by
  unfold AV.blkOf at ha
  split at ha
  · injection ha with ha; subst ha; exact store_form _ _ n x
  · injection ha with ha; subst ha; exact store_form_e _ _ _ _ n x
  · simp at ha
theorem evO_ld (u : St) (a : X) (n : Nat) (g : Bool) : evO call u (.ld a n g) = (loadA u.h (u.x a) n g).map fun v => (v, u.h) := by
  simp only [evO]; cases loadA u.h (u.x a) n g <;> rfl
theorem evO_st (u : St) (a x : X) (n : Nat) : evO call u (.st a x n) = (storeA u.h (u.x a) (u.x x) n).map fun h => (AV.unk, h) := by
  simp only [evO]; cases storeA u.h (u.x a) (u.x x) n <;> rfl
theorem callP_form {a : AV} {i : Nat} (ha : a.blkOf = some i) (f : FuncId) (rest : List AV) : ∃ F : Blk → Option (AV × Option Blk), ∀ H : Heap, doCallP call f (a :: rest) H = (F (H.getD i .dead)).map fun r => (r.1, setO H i r.2) := by
  unfold AV.blkOf at ha
  split at ha
  · rename_i i' o
    injection ha with ha; subst ha
    refine ⟨fun b => match b with
      | .dbox cs => if AV.refsL rest = [] then
          (match call f (.ptr 0 o :: rest) [.dbox cs] with
          | some (v, [.dbox ds]) => if v.refs = [] then some (v, some (.dbox ds)) else none
          | _ => none)
        else none
      | _ => none, fun H => ?_⟩
    unfold doCallP
    simp only
    cases H.getD i' .dead with
    | dbox cs =>
      simp only
      split
      · generalize call f (.ptr 0 o :: rest) [.dbox cs] = c
        cases c with
        | none => rfl
        | some r =>
          obtain ⟨v, H1⟩ := r
          cases H1 with
          | nil => rfl
          | cons b t =>
            cases t with
            | nil =>
              cases b with
              | dbox ds =>
                by_cases hv : v.refs = []
                · simp only [hv, if_true]; rfl
                · simp only [hv, if_false]; rfl
              | _ => rfl
            | cons b2 t2 => cases b <;> rfl
      · rfl
    | _ => rfl
  · exact ⟨fun _ => none, fun H => rfl⟩
  · simp at ha
theorem addr_form {q : Q} {a : Nat} (ha : q.addr = some a) {s : St} {av : AV} {i : Nat} (hp : s.s.getD a .unk = av) (hi : av.blkOf = some i) : a ∈ q.reads ∧ ∃ F : Blk → Option (AV × Option Blk), ∀ u : St, (∀ t ∈ q.reads, u.s.getD t .unk = s.s.getD t .unk) →
    evQ call u q = (F (u.h.getD i .dead)).map fun r => u.put q.dst r.1 (setO u.h i r.2) := by
  obtain ⟨dst, g, op, c⟩ := q
  unfold Q.addr at ha
  split at ha
  case h_2 => simp at ha
  rename_i hg hc
  simp only at hg hc ha
  subst hg; subst hc
  unfold O.addr at ha
  split at ha
  · rename_i t n gg
    injection ha with ha; subst ha
    refine ⟨by simp [Q.reads, O.reads, X.reads], ?_⟩
    obtain ⟨F, hF⟩ := load_form hi n gg
    refine ⟨F, fun u hu => ?_⟩
    have h1 : u.x (.s t) = av := by
      show u.s.getD t .unk = _
      rw [hu t (by simp [Q.reads, O.reads, X.reads]), hp]
    have := hF u.h
    simp only [evQ, wantQ, runQ, evO_ld, h1, doCo]
    rw [this]
    cases F (u.h.getD i .dead) <;> rfl
  · rename_i t x n
    injection ha with ha; subst ha
    refine ⟨by simp [Q.reads, O.reads, X.reads], ?_⟩
    obtain ⟨F, hF⟩ := store_form' hi n (s.x x)
    refine ⟨F, fun u hu => ?_⟩
    have h1 : u.x (.s t) = av := by
      show u.s.getD t .unk = _
      rw [hu t (by simp [Q.reads, O.reads, X.reads]), hp]
    have h2 : u.x x = s.x x := x_congr fun t' ht => hu t' (by simp [Q.reads, O.reads, ht])
    have := hF u.h
    simp only [evQ, wantQ, runQ, evO_st, h1, h2, doCo]
    rw [this]
    cases F (u.h.getD i .dead) <;> rfl
  · rename_i f t xs
    injection ha with ha; subst ha
    refine ⟨by simp [Q.reads, O.reads, readsL, X.reads], ?_⟩
    obtain ⟨F, hF⟩ := callP_form (call := call) hi f (s.xs xs)
    refine ⟨F, fun u hu => ?_⟩
    have h1 : u.x (.s t) = av := by
      show u.s.getD t .unk = _
      rw [hu t (by simp [Q.reads, O.reads, readsL, X.reads]), hp]
    have h2 : u.xs xs = s.xs xs := xs_congr fun t' ht => hu t' (by simp [Q.reads, O.reads, readsL, ht])
    have h3 : u.xs (.s t :: xs) = av :: s.xs xs := by
      rw [← h1, ← h2]; rfl
    have := hF u.h
    simp only [evQ, wantQ, runQ, evO, doCall, h3, doCo]
    rw [this]
    cases F (u.h.getD i .dead) <;> rfl
  · simp at ha
theorem put_getD' {s : St} {d : Option Nat} {v : AV} {H : Heap} {t : Nat} (h : ∀ e, d = some e → e ≠ t) : (s.put d v H).s.getD t .unk = s.s.getD t .unk := by
  cases d with
  | none => rfl
  | some e => simp only [St.put]; rw [getD_set_eq, if_neg (fun hh => h e rfl hh.1)]
theorem put_put {s : St} {d e : Option Nat} {v u : AV} {H H' : Heap} (h : ∀ x, d = some x → e ≠ some x) : (s.put d v H).put e u H' = (s.put e u H).put d v H' := by
  cases d with
  | none => cases e <;> rfl
  | some x =>
    cases e with
    | none => rfl
    | some y =>
      have : x ≠ y := fun hh => h x rfl (by rw [hh])
      simp only [St.put]
      rw [List.set_comm _ _ this]
theorem comm_dis {ne : List (Nat × Nat)} {p q : Q} (h : p.dis ne q = true) {s : St} (hd : ∀ a b, p.addr = some a → q.addr = some b → (a, b) ∈ ne → difB (s.s.getD a .unk) (s.s.getD b .unk) = true) :
    ((evQ call s p).bind fun s => evQ call s q) = (evQ call s q).bind fun s => evQ call s p := by
  unfold Q.dis at h
  split at h
  case h_2 => simp at h
  rename_i a b ha hb
  simp only [Bool.and_eq_true, List.all_eq_true, Bool.not_eq_true', List.elem_eq_mem, decide_eq_false_iff_not] at h
  obtain ⟨⟨h1, h3⟩, h4⟩ := h
  have hne : (a, b) ∈ ne := by
    obtain ⟨x, hx, hxx⟩ := List.any_eq_true.1 h1
    simp only [Bool.and_eq_true, beq_iff_eq] at hxx
    obtain ⟨rfl, rfl⟩ := hxx
    exact hx
  have hdd := hd a b ha hb hne
  unfold difB at hdd
  split at hdd
  case h_2 => simp at hdd
  rename_i i j e1 e2
  have hij : i ≠ j := by simpa using hdd
  obtain ⟨_, F, hF⟩ := addr_form (call := call) ha rfl e1
  obtain ⟨_, G, hG⟩ := addr_form (call := call) hb rfl e2
  have pq : ∀ v H, ∀ t ∈ q.reads, (s.put p.dst v H).s.getD t .unk = s.s.getD t .unk := fun v H t ht => put_getD' fun e he hh => (h3 e (by simp [Q.writes, he])).1 (hh ▸ ht)
  have qp : ∀ v H, ∀ t ∈ p.reads, (s.put q.dst v H).s.getD t .unk = s.s.getD t .unk := fun v H t ht => put_getD' fun e he hh => h4 e (by simp [Q.writes, he]) (hh ▸ ht)
  have hh : ∀ (d : Option Nat) (v : AV) (H : Heap), (s.put d v H).h = H := fun d v H => by cases d <;> rfl
  rw [hF s fun _ _ => rfl, hG s fun _ _ => rfl]
  have L : ∀ r : AV × Option Blk, (evQ call (s.put p.dst r.1 (setO s.h i r.2)) q) = (G (s.h.getD j .dead)).map fun r' => (s.put p.dst r.1 (setO s.h i r.2)).put q.dst r'.1 (setO (setO s.h i r.2) j r'.2) := fun r => by
    rw [hG _ (pq _ _), hh, setO_other hij]
  have R : ∀ r' : AV × Option Blk, (evQ call (s.put q.dst r'.1 (setO s.h j r'.2)) p) = (F (s.h.getD i .dead)).map fun r => (s.put q.dst r'.1 (setO s.h j r'.2)).put p.dst r.1 (setO (setO s.h j r'.2) i r.2) := fun r' => by
    rw [hF _ (qp _ _), hh, setO_other (Ne.symm hij)]
  have pqd : ∀ x, p.dst = some x → q.dst ≠ some x := fun x hx hy => (h3 x (by simp [Q.writes, hx])).2 (by simp [Q.writes, hy])
  have fin : ∀ (v v' : AV) (H1 H2 H3 : Heap), (s.put p.dst v H1).put q.dst v' H3 = (s.put q.dst v' H2).put p.dst v H3 := fun v v' H1 H2 H3 => by
    have e1 : (s.put p.dst v H1).put q.dst v' H3 = (s.put p.dst v H3).put q.dst v' H3 := by cases p.dst <;> cases q.dst <;> rfl
    have e2 : (s.put q.dst v' H2).put p.dst v H3 = (s.put q.dst v' H3).put p.dst v H3 := by cases p.dst <;> cases q.dst <;> rfl
    rw [e1, e2, put_put pqd]
  generalize hFi : F (s.h.getD i .dead) = x at R
  generalize hGj : G (s.h.getD j .dead) = y at L
  cases x with
  | none =>
    cases y with
    | none => rfl
    | some r' => simp only [Option.map_none, Option.bind_none, Option.map_some, Option.bind_some, R]
  | some r =>
    cases y with
    | none => simp only [Option.map_none, Option.bind_none, Option.map_some, Option.bind_some, L]
    | some r' =>
      simp only [Option.map_some, Option.bind_some, L, R]
      rw [setO_comm hij, fin]

/-! ### what only adds blocks -/
theorem owns_refs : ∀ v : AV, v.refs = [] → v.owns = []
  | .agg cs, h => by rw [AV.refs] at h; rw [AV.owns]; exact ownsL_refs cs h
  | .tup cs, h => by rw [AV.refs] at h; rw [AV.owns]; exact ownsL_refs cs h
  | .ifc t x, h => by rw [AV.refs] at h; rw [AV.owns]; exact owns_refs x h
  | .own .., h => by simp [AV.refs] at h
  | .mref _, h => by simp [AV.refs] at h
  | .unk, _ | .d _, _ | .ptr .., _ | .ept .., _ | .cpt .., _ | .clo .., _ => by simp [AV.owns]
where ownsL_refs : ∀ l : List AV, AV.refsL l = [] → AV.ownsL l = []
  | [], _ => rfl
  | x :: l, h => by
    simp only [AV.refsL, List.append_eq_nil_iff] at h
    simp only [AV.ownsL, owns_refs x h.1, ownsL_refs l h.2, List.append_nil]
theorem view_refs (H : Heap) : ∀ v : AV, v.refs = [] → v.view H = v
  | .agg cs, h => by rw [AV.refs] at h; rw [AV.view, viewL_refs H cs h]
  | .tup cs, h => by rw [AV.refs] at h; rw [AV.view, viewL_refs H cs h]
  | .ifc t x, h => by rw [AV.refs] at h; rw [AV.view, view_refs H x h]
  | .own .., h => by simp [AV.refs] at h
  | .mref _, h => by simp [AV.refs] at h
  | .unk, _ | .d _, _ | .ptr .., _ | .ept .., _ | .cpt .., _ | .clo .., _ => by simp [AV.view]
where viewL_refs (H : Heap) : ∀ l : List AV, AV.refsL l = [] → AV.viewL H l = l
  | [], _ => rfl
  | x :: l, h => by
    simp only [AV.refsL, List.append_eq_nil_iff] at h
    simp only [AV.viewL, view_refs H x h.1, viewL_refs H l h.2]
theorem bare_refs {s : St} {x : X} (hb : x.bare = true) (hn : ∀ t ∈ x.reads, (s.s.getD t .unk).refs = []) : (s.x x).refs = [] := by
  cases x with
  | s t => exact hn t (by simp [X.reads])
  | c v =>
    unfold X.bare at hb
    split at hb
    · rename_i e; cases e
    · rename_i e; injection e with e; subst e; rfl
    · rename_i e; injection e with e; subst e; rfl
    · simp at hb
theorem bare_refsL {s : St} : ∀ {xs : List X}, xs.all X.bare = true → (∀ t ∈ readsL xs, (s.s.getD t .unk).refs = []) → AV.refsL (s.xs xs) = []
  | [], _, _ => rfl
  | x :: xs, hb, hn => by
    simp only [List.all_cons, Bool.and_eq_true] at hb
    simp only [readsL, List.mem_append] at hn
    simp only [St.xs, List.map_cons, AV.refsL]
    rw [bare_refs hb.1 fun t ht => hn t (.inl ht), List.nil_append]
    exact bare_refsL hb.2 fun t ht => hn t (.inr ht)
theorem reach_nil (n : Nat) (H : Heap) : reach n H [] [] = [] := by cases n <;> rfl
def backOf (n : Nat) : Nat → Option Nat := fun j => if j < ([] : List Nat).length then ([] : List Nat)[j]? else some (n + (j - ([] : List Nat).length))
theorem doCallB_bare {f : FuncId} {args : List AV} (rf : Bool) (H : Heap) (hn : AV.refsL args = []) : doCallB call f args rf H = (match call f (AV.renL (posOf []) args) [] with
    | none => none
    | some (v, H') => if v.scalar = true then some (v, []) else some (v.ren (backOf H.length), H'.map (Blk.ren (backOf H.length)))).map fun (r : AV × Heap) => (r.1, H ++ r.2) := by
  have e1 : (if rf = true then ([] : List Nat) else AV.ownsL args) = [] := by
    split
    · rfl
    · exact owns_refs.ownsL_refs args hn
  have e2 : (if rf = true then args else AV.viewL H args) = args := by
    split
    · rfl
    · exact view_refs.viewL_refs H args hn
  unfold doCallB
  simp only [e1, e2, hn, reach_nil, freezeAll]
  have e3 : renH [] H = [] := rfl
  rw [e3]
  cases call f (AV.renL (posOf []) args) [] with
  | none => rfl
  | some r =>
    obtain ⟨v, H'⟩ := r
    simp only [true_and]
    by_cases hs : v.scalar = true
    · simp only [hs, if_true, Option.map_some, List.append_nil]
    · simp only [hs]
      show some (_, doCallB.setBack [] _ H ++ _) = some _
      have : ∀ bs, doCallB.setBack [] bs H = H := fun bs => by cases bs <;> rfl
      rw [this]
      rfl
theorem tailA_bare (H : Heap) (z : Nat) {v : AV} (h : v.refs = []) : tailA H z v = tailA [] z v := by
  cases v with
  | own => simp [AV.refs] at h
  | d x => cases x <;> rfl
  | _ => rfl
theorem appA_bare (H : Heap) (z b : Nat) {v : AV} (h : v.refs = []) (ys : List (List D)) : appA H z b v ys = (match v with
    | .d .nils | .d .emp => if ys.length * b ≤ 70368744177664 then some (AV.own H.length z 0 ys.length false, [Blk.arr z ys]) else none
    | _ => none).map fun (r : AV × Heap) => (r.1, H ++ r.2) := by
  cases v with
  | own => simp [AV.refs] at h
  | d x => cases x <;> simp only [appA, Option.map_none] <;> (split <;> rfl)
  | _ => rfl
theorem adds_form {p : Q} {l : List Nat} (hp : p.adds = some l) {s : St} (hn : ∀ t ∈ l, (s.s.getD t .unk).refs = []) : l ⊆ p.reads ∧ ∃ F : Nat → Option (AV × Heap), ∀ u : St, (∀ t ∈ p.reads, u.s.getD t .unk = s.s.getD t .unk) →
    evQ call u p = (F u.h.length).map fun r => u.put p.dst r.1 (u.h ++ r.2) := by
  obtain ⟨dst, g, op, c⟩ := p
  unfold Q.adds at hp
  split at hp
  case h_2 => simp at hp
  rename_i hg hc
  simp only at hg hc hp
  subst hg; subst hc
  have key : ∀ (F : Nat → Option (AV × Heap)), (∀ u : St, (∀ t ∈ op.reads, u.s.getD t .unk = s.s.getD t .unk) → evO call u op = (F u.h.length).map fun r => (r.1, u.h ++ r.2)) →
      ∃ F : Nat → Option (AV × Heap), ∀ u : St, (∀ t ∈ Q.reads ⟨dst, none, op, .none⟩, u.s.getD t .unk = s.s.getD t .unk) → evQ call u ⟨dst, none, op, .none⟩ = (F u.h.length).map fun r => u.put dst r.1 (u.h ++ r.2) := by
    intro F hF
    refine ⟨F, fun u hu => ?_⟩
    have := hF u fun t ht => hu t (by simp [Q.reads, ht])
    simp only [evQ, wantQ, runQ, this, doCo]
    cases F u.h.length <;> rfl
  unfold O.adds at hp
  split at hp
  · rename_i e zs
    injection hp with hp; subst hp
    exact ⟨by simp, key (fun n => some (.ptr n 0, [.dbox zs])) fun u _ => rfl⟩
  · injection hp with hp; subst hp
    exact ⟨by simp, key (fun n => some (.mref n, [.mp []])) fun u _ => rfl⟩
  · rename_i e x
    injection hp with hp; subst hp
    refine ⟨by simp, key (fun n => match (s.x x).cells with | some vs => some (.ptr n 0, [boxOf vs]) | none => none) fun u hu => ?_⟩
    simp only [evO, x_congr (x := x) hu]
    cases (s.x x).cells <;> rfl
  · rename_i e x
    injection hp with hp; subst hp
    refine ⟨by simp, key (fun n => match (s.x x).asStr with | some b => some (.own n 1 0 b.length false, [.arr 1 (b.map fun c => [.int .u8 c.toNat])]) | none => none) fun u hu => ?_⟩
    simp only [evO, x_congr (x := x) hu]
    cases (s.x x).asStr <;> rfl
  · rename_i e z b x y
    split at hp
    case isFalse => simp at hp
    rename_i hb
    simp only [Bool.and_eq_true] at hb
    injection hp with hp; subst hp
    have hx := bare_refs (s := s) hb.1 fun t ht => hn t (by simp [ht])
    have hy := bare_refs (s := s) hb.2 fun t ht => hn t (by simp [ht])
    refine ⟨by intro t ht; simp [Q.reads, O.reads]; simpa using ht, key (fun n => match tailA [] z (s.x y) with
      | some ys => (match s.x x with
        | .d .nils | .d .emp => if ys.length * b ≤ 70368744177664 then some (AV.own n z 0 ys.length false, [Blk.arr z ys]) else none
        | _ => none)
      | none => none) fun u hu => ?_⟩
    have ex : u.x x = s.x x := x_congr fun t ht => hu t (by simp [O.reads, ht])
    have ey : u.x y = s.x y := x_congr fun t ht => hu t (by simp [O.reads, ht])
    simp only [evO, ex, ey, tailA_bare u.h z hy]
    cases tailA [] z (s.x y) with
    | none => rfl
    | some ys => exact appA_bare u.h z b hx ys
  · rename_i f xs r
    split at hp
    case isFalse => simp at hp
    rename_i hb
    simp only [Bool.and_eq_true, Bool.or_eq_true, beq_iff_eq] at hb
    injection hp with hp; subst hp
    have hx := bare_refsL (s := s) hb.2 hn
    refine ⟨by intro t ht; simp [Q.reads, O.reads, ht], key (fun n => match call f (AV.renL (posOf []) (s.xs xs)) [] with
      | none => none
      | some (v, H') => if v.scalar = true then some (v, []) else some (v.ren (backOf n), H'.map (Blk.ren (backOf n)))) fun u hu => ?_⟩
    have ex : u.xs xs = s.xs xs := xs_congr fun t ht => hu t (by simp [O.reads, ht])
    simp only [evO, ex]
    rcases hb.1 with rfl | rfl
    · exact doCallB_bare false u.h hx
    · exact doCallB_bare true u.h hx
  · simp at hp
theorem addr_reads {q : Q} {b : Nat} (hb : q.addr = some b) : b ∈ q.reads := by
  unfold Q.addr at hb
  split at hb
  · unfold O.addr at hb
    split at hb <;> first | (simp at hb; done) | (injection hb with hb; subst hb; rename_i ho; simp [Q.reads, ho, O.reads, readsL, X.reads])
  · simp at hb
theorem keeps_reads {q : Q} {t : Nat} (h : t ∈ q.keeps) : t ∈ q.reads := by
  unfold Q.keeps at h
  rw [List.mem_append] at h
  rcases h with h | h
  · split at h
    · rename_i a ha; simp only [List.mem_singleton] at h; subst h; exact addr_reads ha
    · simp at h
  · split at h
    · rename_i l hl; exact (adds_form (call := fun _ _ _ => none) hl (s := ⟨0, [], []⟩) (fun t _ => by simp [AV.refs])).1 h
    · simp at h
theorem cpt_form {q : Q} {a : Nat} (ha : q.addr = some a) {s : St} {cs : List D} {c : Nat} (hp : s.s.getD a .unk = .cpt cs c) : ∃ K : Option AV, ∀ u : St, (∀ t ∈ q.reads, u.s.getD t .unk = s.s.getD t .unk) →
    evQ call u q = K.map fun v => u.put q.dst v u.h := by
  obtain ⟨dst, g, op, co⟩ := q
  unfold Q.addr at ha
  split at ha
  case h_2 => simp at ha
  rename_i hg hc
  simp only at hg hc ha
  subst hg; subst hc
  unfold O.addr at ha
  split at ha
  · rename_i t n gg
    injection ha with ha; subst ha
    refine ⟨loadA [] (.cpt cs c) n gg, fun u hu => ?_⟩
    have h1 : u.x (.s t) = .cpt cs c := by
      show u.s.getD t .unk = _
      rw [hu t (by simp [Q.reads, O.reads, X.reads]), hp]
    have e : loadA u.h (.cpt cs c) n gg = loadA [] (.cpt cs c) n gg := rfl
    simp only [evQ, wantQ, runQ, evO_ld, h1, doCo, e]
    cases loadA [] (.cpt cs c) n gg <;> rfl
  · rename_i t x n
    injection ha with ha; subst ha
    refine ⟨none, fun u hu => ?_⟩
    have h1 : u.x (.s t) = .cpt cs c := by
      show u.s.getD t .unk = _
      rw [hu t (by simp [Q.reads, O.reads, X.reads]), hp]
    have e : storeA u.h (.cpt cs c) (u.x x) n = none := by
      unfold storeA
      split
      · rfl
      · split <;> rfl
    simp only [evQ, wantQ, runQ, evO_st, h1, e]
    rfl
  · rename_i f t xs
    injection ha with ha; subst ha
    refine ⟨none, fun u hu => ?_⟩
    have h1 : u.x (.s t) = .cpt cs c := by
      show u.s.getD t .unk = _
      rw [hu t (by simp [Q.reads, O.reads, readsL, X.reads]), hp]
    have h3 : u.xs (.s t :: xs) = .cpt cs c :: u.xs xs := by
      rw [← h1]; rfl
    simp only [evQ, wantQ, runQ, evO, doCall, h3, doCallP]
    rfl
  · simp at ha
theorem comm_adr {old nor : List Nat} {p q : Q} (h : p.adr old nor q = true) {s : St} (hb : ∀ b, q.addr = some b → b ∈ old → oldB s.h.length (s.s.getD b .unk) = true)
    (hl : ∀ l, p.adds = some l → ∀ t ∈ l, t ∈ nor → (s.s.getD t .unk).refs = []) : ((evQ call s p).bind fun s => evQ call s q) = (evQ call s q).bind fun s => evQ call s p := by
  unfold Q.adr at h
  split at h
  case h_2 => simp at h
  rename_i l b hpl hqb
  simp only [Bool.and_eq_true, List.all_eq_true, Bool.not_eq_true', List.elem_eq_mem, decide_eq_false_iff_not, decide_eq_true_eq] at h
  obtain ⟨⟨⟨h1, h2⟩, h3⟩, h4⟩ := h
  have hob := hb b hqb h1
  unfold oldB at hob
  split at hob
  case h_3 => simp at hob
  case h_2 =>
    rename_i cs c e1
    obtain ⟨_, F, hF⟩ := adds_form (call := call) hpl (s := s) fun t ht => hl l hpl t ht (h2 t ht)
    obtain ⟨K, hK⟩ := cpt_form (call := call) hqb e1
    have pq : ∀ v H, ∀ t ∈ q.reads, (s.put p.dst v H).s.getD t .unk = s.s.getD t .unk := fun v H t ht => put_getD' fun e he hh => (h3 e (by simp [Q.writes, he])).1 (hh ▸ ht)
    have qp : ∀ v H, ∀ t ∈ p.reads, (s.put q.dst v H).s.getD t .unk = s.s.getD t .unk := fun v H t ht => put_getD' fun e he hh => h4 e (by simp [Q.writes, he]) (hh ▸ ht)
    have hh : ∀ (d : Option Nat) (v : AV) (H : Heap), (s.put d v H).h = H := fun d v H => by cases d <;> rfl
    have pqd : ∀ x, p.dst = some x → q.dst ≠ some x := fun x hx hy => (h3 x (by simp [Q.writes, hx])).2 (by simp [Q.writes, hy])
    have fin : ∀ (v v' : AV) (H1 H2 H3 : Heap), (s.put p.dst v H1).put q.dst v' H3 = (s.put q.dst v' H2).put p.dst v H3 := fun v v' H1 H2 H3 => by
      have e1 : (s.put p.dst v H1).put q.dst v' H3 = (s.put p.dst v H3).put q.dst v' H3 := by cases p.dst <;> cases q.dst <;> rfl
      have e2 : (s.put q.dst v' H2).put p.dst v H3 = (s.put q.dst v' H3).put p.dst v H3 := by cases p.dst <;> cases q.dst <;> rfl
      rw [e1, e2, put_put pqd]
    rw [hF s fun _ _ => rfl, hK s fun _ _ => rfl]
    have L : ∀ r : AV × Heap, (evQ call (s.put p.dst r.1 (s.h ++ r.2)) q) = K.map fun v => (s.put p.dst r.1 (s.h ++ r.2)).put q.dst v (s.h ++ r.2) := fun r => by
      rw [hK _ (pq _ _), hh]
    have R : ∀ v : AV, (evQ call (s.put q.dst v s.h) p) = (F s.h.length).map fun r => (s.put q.dst v s.h).put p.dst r.1 (s.h ++ r.2) := fun v => by
      rw [hF _ (qp _ _), hh]
    generalize F s.h.length = x at R
    cases x with
    | none =>
      cases K with
      | none => rfl
      | some v => simp only [Option.map_none, Option.bind_none, Option.map_some, Option.bind_some, R]
    | some r =>
      cases K with
      | none => simp only [Option.map_none, Option.bind_none, Option.map_some, Option.bind_some, L]
      | some v =>
        simp only [Option.map_some, Option.bind_some, L, R]
        rw [fin]
  rename_i i o e1
  have hi : i < s.h.length := by simpa using hob
  obtain ⟨_, F, hF⟩ := adds_form (call := call) hpl (s := s) fun t ht => hl l hpl t ht (h2 t ht)
  obtain ⟨_, G, hG⟩ := addr_form (call := call) hqb e1 rfl
  have pq : ∀ v H, ∀ t ∈ q.reads, (s.put p.dst v H).s.getD t .unk = s.s.getD t .unk := fun v H t ht => put_getD' fun e he hh => (h3 e (by simp [Q.writes, he])).1 (hh ▸ ht)
  have qp : ∀ v H, ∀ t ∈ p.reads, (s.put q.dst v H).s.getD t .unk = s.s.getD t .unk := fun v H t ht => put_getD' fun e he hh => h4 e (by simp [Q.writes, he]) (hh ▸ ht)
  have hh : ∀ (d : Option Nat) (v : AV) (H : Heap), (s.put d v H).h = H := fun d v H => by cases d <;> rfl
  have hsl : ∀ b, (setO s.h i b).length = s.h.length := fun b => by cases b <;> simp [setO]
  have hsa : ∀ (b : Option Blk) N, setO (s.h ++ N) i b = setO s.h i b ++ N := fun b N => by
    cases b with
    | none => rfl
    | some b => simp only [setO]; rw [List.set_append_left _ _ hi]
  have hga : ∀ N, (s.h ++ N).getD i .dead = s.h.getD i .dead := fun N => by
    rw [List.getD_eq_getElem?_getD, List.getD_eq_getElem?_getD, List.getElem?_append_left hi]
  rw [hF s fun _ _ => rfl, hG s fun _ _ => rfl]
  have L : ∀ r : AV × Heap, (evQ call (s.put p.dst r.1 (s.h ++ r.2)) q) = (G (s.h.getD i .dead)).map fun r' => (s.put p.dst r.1 (s.h ++ r.2)).put q.dst r'.1 (setO s.h i r'.2 ++ r.2) := fun r => by
    rw [hG _ (pq _ _), hh, hga]
    cases G (s.h.getD i .dead) with
    | none => rfl
    | some r' => simp only [Option.map_some, hsa]
  have R : ∀ r' : AV × Option Blk, (evQ call (s.put q.dst r'.1 (setO s.h i r'.2)) p) = (F s.h.length).map fun r => (s.put q.dst r'.1 (setO s.h i r'.2)).put p.dst r.1 (setO s.h i r'.2 ++ r.2) := fun r' => by
    rw [hF _ (qp _ _), hh, hsl]
  have pqd : ∀ x, p.dst = some x → q.dst ≠ some x := fun x hx hy => (h3 x (by simp [Q.writes, hx])).2 (by simp [Q.writes, hy])
  have fin : ∀ (v v' : AV) (H1 H2 H3 : Heap), (s.put p.dst v H1).put q.dst v' H3 = (s.put q.dst v' H2).put p.dst v H3 := fun v v' H1 H2 H3 => by
    have e1 : (s.put p.dst v H1).put q.dst v' H3 = (s.put p.dst v H3).put q.dst v' H3 := by cases p.dst <;> cases q.dst <;> rfl
    have e2 : (s.put q.dst v' H2).put p.dst v H3 = (s.put q.dst v' H3).put p.dst v H3 := by cases p.dst <;> cases q.dst <;> rfl
    rw [e1, e2, put_put pqd]
  generalize hFi : F s.h.length = x at R
  generalize hGj : G (s.h.getD i .dead) = y at L
  cases x with
  | none =>
    cases y with
    | none => rfl
    | some r' => simp only [Option.map_none, Option.bind_none, Option.map_some, Option.bind_some, R]
  | some r =>
    cases y with
    | none => simp only [Option.map_none, Option.bind_none, Option.map_some, Option.bind_some, L]
    | some r' =>
      simp only [Option.map_some, Option.bind_some, L, R]
      rw [fin]

/-! ### the blocks never get fewer -/
theorem freezeAll_len : ∀ (l : List Nat) (H : Heap), (freezeAll l H).length = H.length
  | [], _ => rfl
  | i :: l, H => by rw [freezeAll, freezeAll_len l]; simp
theorem setBack_len : ∀ (ids : List Nat) (bs : List Blk) (H : Heap), (doCallB.setBack ids bs H).length = H.length
  | [], bs, H => by cases bs <;> rfl
  | i :: ids, [], H => rfl
  | i :: ids, b :: bs, H => by rw [doCallB.setBack, setBack_len]; simp
theorem doCall_len {f : FuncId} {args : List AV} {r : Nat} {H H' : Heap} {v : AV} (h : doCall call f args r H = some (v, H')) : H.length ≤ H'.length := by
  have B : ∀ rf, doCallB call f args rf H = some (v, H') → H.length ≤ H'.length := by
    intro rf h
    unfold doCallB at h
    simp only at h
    generalize (if rf = true then ([] : List Nat) else AV.ownsL args) = vs at h
    generalize (if rf = true then args else AV.viewL H args) = as1 at h
    split at h
    · simp at h
    · split at h
      · injection h with h; injection h with h1 h2; rw [h2]; exact Nat.le_refl _
      · injection h with h; injection h with h1 h2
        rw [← h2, List.length_append, setBack_len, freezeAll_len]; omega
  unfold doCall at h
  split at h
  · exact B _ h
  · exact B _ h
  · exact B _ (doCallP_B h)
  · simp only [doCallQ] at h
    split at h
    · split at h
      · simp at h
      · split at h
        · simp only [Option.some.injEq, Prod.mk.injEq] at h; rw [h.2]; exact Nat.le_refl _
        · split at h
          · simp only [Option.some.injEq, Prod.mk.injEq] at h; rw [h.2]; exact Nat.le_refl _
          · simp at h
    · simp at h
theorem storeA_len {H H' : Heap} {a x : AV} {n : Nat} (h : storeA H a x n = some H') : H.length = H'.length := by
  unfold storeA at h
  repeat' split at h
  all_goals first | (simp at h; done) | (injection h with h; subst h; simp)
theorem appA_len {H H' : Heap} {z b : Nat} {x v : AV} {ys : List (List D)} (h : appA H z b x ys = some (v, H')) : H.length ≤ H'.length := by
  unfold appA at h
  repeat' split at h
  all_goals first | (simp at h; done) | (simp only [Option.some.injEq, Prod.mk.injEq] at h; rw [← h.2]; simp)
theorem mputA_len {H H' : Heap} {x v : AV} {n : Int} (h : mputA H x n v = some H') : H.length = H'.length := by
  unfold mputA at h
  repeat' split at h
  all_goals first | (simp at h; done) | (injection h with h; subst h; simp [freezeAll_len])
theorem mdelA_len {H H' : Heap} {x : AV} {n : Int} (h : mdelA H x n = some H') : H.length = H'.length := by
  unfold mdelA at h
  repeat' split at h
  all_goals first | (simp at h; done) | (injection h with h; subst h; simp)
theorem bltA_len {k : BK} {xs : List AV} {H H' : Heap} {v : AV} (h : bltA k xs H = some (v, H')) : H.length ≤ H'.length := by
  unfold bltA at h
  split at h
  · split at h
    · split at h
      · simp only [Option.some.injEq, Prod.mk.injEq] at h; rw [← h.2]; simp
      · simp at h
    · simp at h
  · split at h
    · split at h
      · simp only [Option.some.injEq, Prod.mk.injEq] at h; rw [← h.2]; simp
      · simp at h
    · simp at h
  · simp at h
theorem evO_len {s : St} {o : O} {v : AV} {h : Heap} (he : evO call s o = some (v, h)) : s.h.length ≤ h.length := by
  by_cases hq : o.quiet = true
  · rw [evO_quiet hq he]; exact Nat.le_refl _
  cases o <;> first | (exact absurd rfl hq) | skip
  all_goals simp only [evO] at he
  all_goals repeat' split at he
  all_goals first
    | (simp at he; done)
    | (exact doCall_len he)
    | (exact appA_len he)
    | (exact bltA_len he)
    | (simp only [Option.some.injEq, Prod.mk.injEq] at he; rw [← he.2]; first
        | (simp [freezeAll_len]; done)
        | (exact Nat.le_of_eq (storeA_len (by assumption)))
        | (exact Nat.le_of_eq (mputA_len (by assumption)))
        | (exact Nat.le_of_eq (mdelA_len (by assumption))))
theorem co1_len (z : Nat) (k : Bool) (v : AV) (H : Heap) : H.length ≤ (co1 z k v H).2.length := by
  unfold co1; repeat' split
  all_goals simp
theorem coL_len : ∀ (l : List (Nat × Nat × Bool)) (cs : List AV) (H : Heap), H.length ≤ (coL l cs H).2.length
  | [], _, _ => Nat.le_refl _
  | (j, z, k) :: l, cs, H => by
    simp only [coL]
    exact Nat.le_trans (co1_len z k _ H) (coL_len l _ _)
theorem doCo_len (c : Co) (v : AV) (H : Heap) : H.length ≤ (doCo c v H).2.length := by
  unfold doCo
  repeat' split
  all_goals first
    | exact Nat.le_refl _
    | exact co1_len ..
    | exact coL_len ..
    | (simp only [List.length_set]; exact coL_len ..)
    | (simp [freezeAll_len])
theorem runQ_len {s : St} {q : Q} {v : AV} {h : Heap} (he : runQ call s q = some (v, h)) : s.h.length ≤ h.length := by
  by_cases ha : q.c.away = true
  · have : q.quiet = true := by simp [Q.quiet, ha]
    rw [runQ_quiet this he]; exact Nat.le_refl _
  · rw [runQ_else (by simpa using ha)] at he
    split at he
    · rename_i v0 h0 hv
      simp only [Option.some.injEq, Prod.mk.injEq] at he
      rw [← he.2]
      exact Nat.le_trans (evO_len hv) (doCo_len ..)
    · simp at he
theorem evQ_len {s s' : St} {q : Q} (he : evQ call s q = some s') : s.h.length ≤ s'.h.length := by
  unfold evQ at he
  split at he
  · split at he
    · rename_i v h hr
      injection he with he; subst he
      have : (s.put q.dst v h).h = h := by cases q.dst <;> rfl
      rw [this]; exact runQ_len hr
    · simp at he
  · injection he with he; subst he
    have : (s.put q.dst (.tup []) s.h).h = s.h := by cases q.dst <;> rfl
    rw [this]; exact Nat.le_refl _
  · simp at he

/-! ### orders -/
def evI (call : Callee) (l : List Q) (i : Nat) (s : St) : Option St := match l[i]? with
  | some q => evQ call s q
  | none => some s
def evIs (call : Callee) (l : List Q) : List Nat → St → Option St
  | [], s => some s
  | i :: σ, s => (evI call l i s).bind (evIs call l σ)

theorem evIs_range' : ∀ (r l : List Q) (k : Nat), (∀ j, r[j]? = l[k + j]?) → ∀ s, evIs call l (List.range' k r.length) s = evL call r s
  | [], l, k, _, s => rfl
  | q :: r, l, k, h, s => by
    have h0 : l[k]? = some q := by simpa using (h 0).symm
    simp only [List.length_cons, List.range'_succ, evIs, evI, h0, evL]
    cases evQ call s q with
    | none => rfl
    | some s' => exact evIs_range' r l (k + 1) (fun j => by have := h (j + 1); simpa [Nat.add_assoc, Nat.add_comm 1 j] using this) s'
theorem evIs_range (l : List Q) (s : St) : evIs call l (List.range l.length) s = evL call l s := by
  rw [List.range_eq_range']; exact evIs_range' l l 0 (by simp) s

theorem evI_len {l : List Q} {i : Nat} {s s' : St} (h : evI call l i s = some s') : s.h.length ≤ s'.h.length := by
  unfold evI at h
  split at h
  · exact evQ_len h
  · injection h with h; subst h; exact Nat.le_refl _
theorem evIs_front {l : List Q} {i n0 : Nat} {r : St} : ∀ (σ : List Nat), σ.Pairwise (· < ·) → i ∈ σ →
    (∀ j ∈ σ, j < i → ∀ s s2, n0 ≤ s.h.length → ((evI call l j s).bind fun s => evI call l i s) = some s2 → (∃ τ, (∀ k ∈ τ, j < k ∧ k ∈ σ ∧ k ≠ i) ∧ evIs call l τ s2 = some r) → ((evI call l i s).bind fun s => evI call l j s) = some s2) →
    ∀ s, n0 ≤ s.h.length → evIs call l σ s = some r → evIs call l (i :: σ.erase i) s = some r
  | [], _, h, _, s, _, _ => by simp at h
  | j :: σ, hp, hi, hc, s, hn0, hr => by
    by_cases hj : j = i
    · subst hj; rw [List.erase_cons_head]; exact hr
    · rw [List.erase_cons_tail (by simpa using hj)]
      have hp' := hp
      rw [List.pairwise_cons] at hp
      have hi' : i ∈ σ := by simpa [Ne.symm hj] using hi
      have hlt := hp.1 i hi'
      simp only [evIs] at hr
      cases h1 : evI call l j s with
      | none => rw [h1] at hr; simp at hr
      | some s1 =>
        rw [h1, Option.bind_some] at hr
        have ih := evIs_front σ hp.2 hi' (fun k hk hki s s2 hs h2 ⟨τ, ht, ht2⟩ => hc k (.tail _ hk) hki s s2 hs h2 ⟨τ, fun m hm => ⟨(ht m hm).1, .tail _ (ht m hm).2.1, (ht m hm).2.2⟩, ht2⟩) s1 (Nat.le_trans hn0 (evI_len h1)) hr
        simp only [evIs] at ih
        cases h2 : evI call l i s1 with
        | none => rw [h2] at ih; simp at ih
        | some s2 =>
          rw [h2, Option.bind_some] at ih
          have h12 : ((evI call l j s).bind fun s => evI call l i s) = some s2 := by rw [h1, Option.bind_some, h2]
          have hn : (σ.erase i).Sublist σ := List.erase_sublist
          have hnd : σ.Nodup := hp.2.imp (fun h => Nat.ne_of_lt h)
          have h21 := hc j (.head _) hlt s s2 hn0 h12 ⟨σ.erase i, fun k hk => ⟨hp.1 k (hn.subset hk), .tail _ (hn.subset hk), fun e => (List.Nodup.not_mem_erase hnd) (e ▸ hk)⟩, ih⟩
          have e3 : evIs call l (i :: j :: σ.erase i) s = ((evI call l i s).bind fun s => evI call l j s).bind (evIs call l (σ.erase i)) := by
            rw [Option.bind_assoc]; rfl
          rw [e3, h21, Option.bind_some]
          exact ih

theorem evIs_slots {l : List Q} {t : Nat} : ∀ (σ : List Nat) {s r : St}, evIs call l σ s = some r → (∀ k ∈ σ, ∀ q, l[k]? = some q → q.dst ≠ some t) → r.s.getD t .unk = s.s.getD t .unk
  | [], s, r, h, _ => by simp only [evIs, Option.some.injEq] at h; rw [h]
  | k :: σ, s, r, h, hk => by
    simp only [evIs] at h
    cases h1 : evI call l k s with
    | none => rw [h1] at h; simp at h
    | some s1 =>
      rw [h1, Option.bind_some] at h
      rw [evIs_slots σ h fun m hm => hk m (.tail _ hm)]
      unfold evI at h1
      split at h1
      · rename_i q hq
        exact evQ_slots h1 fun e he hh => hk k (.head _) q hq (by rw [he, hh])
      · injection h1 with h1; rw [h1]

theorem stayOk_spec : ∀ {l : List Q}, stayOk l = true → ∀ (k : Nat) (q : Q) (a : Nat), l[k]? = some q → a ∈ q.keeps → ∀ (m : Nat) (p : Q), k ≤ m → l[m]? = some p → p.dst ≠ some a
  | [], _, k, q, a, hq, _, m, p, _, _ => by simp at hq
  | x :: l, h, k, q, a, hq, ha, m, p, hm, hp => by
    simp only [stayOk, Bool.and_eq_true] at h
    cases k with
    | zero =>
      simp only [List.getElem?_cons_zero, Option.some.injEq] at hq; subst hq
      have := List.all_eq_true.1 (List.all_eq_true.1 h.1 a ha) p (List.mem_of_getElem? hp)
      intro hd
      simp [Q.writes, hd] at this
    | succ k =>
      cases m with
      | zero => omega
      | succ m => exact stayOk_spec h.2 k q a (by simpa using hq) ha m p (by omega) (by simpa using hp)

/-- Two operations may change places. -/
def par (ne : List (Nat × Nat)) (old nor : List Nat) (p q : Q) : Prop := p.apart q = true ∨ p.dis ne q = true ∨ p.adr old nor q = true ∨ q.adr old nor p = true
theorem par_writes {ne : List (Nat × Nat)} {old nor : List Nat} {x q : Q} (hx : par ne old nor x q) {b : Nat} (hb : b ∈ q.reads) : x.dst ≠ some b := by
  intro hxd
  have hw : b ∈ x.writes := by simp [Q.writes, hxd]
  rcases hx with hx | hx | hx | hx
  · simp only [Q.apart, Bool.and_eq_true, List.all_eq_true, Bool.not_eq_true', List.elem_eq_mem, decide_eq_false_iff_not] at hx
    exact (hx.1.2 b hw).1 hb
  · unfold Q.dis at hx
    split at hx
    · simp only [Bool.and_eq_true, List.all_eq_true, Bool.not_eq_true', List.elem_eq_mem, decide_eq_false_iff_not] at hx
      exact (hx.1.2 b hw).1 hb
    · simp at hx
  · unfold Q.adr at hx
    split at hx
    · simp only [Bool.and_eq_true, List.all_eq_true, Bool.not_eq_true', List.elem_eq_mem, decide_eq_false_iff_not] at hx
      exact (hx.1.2 b hw).1 hb
    · simp at hx
  · unfold Q.adr at hx
    split at hx
    · simp only [Bool.and_eq_true, List.all_eq_true, Bool.not_eq_true', List.elem_eq_mem, decide_eq_false_iff_not] at hx
      exact hx.2 b hw hb
    · simp at hx
/-- Each operation: what is told of it stands before it; all others before it may change places with it. -/
theorem drwOk_spec (ne : List (Nat × Nat)) (old nor : List Nat) : ∀ (l : List Q) (b : List (List Nat)) (i : Nat) (bef : List Q) (B : List (List Nat)), drwOk ne old nor l b i bef B = true → bef.length = i → B.length = i → b.length = l.length ∧
    ∃ U : List (List Nat), U.length = i + l.length ∧ (∀ j, j < i → U.getD j [] = B.getD j []) ∧ ∀ k, k < l.length → (∀ j ∈ b.getD k [], j < i + k) ∧ U.getD (i + k) [] = upset U (b.getD k []) ∧
      ∀ j, j < i + k → j ∈ U.getD (i + k) [] ∨ ∃ p q, (bef ++ l)[j]? = some p ∧ l[k]? = some q ∧ par ne old nor p q
  | [], [], i, bef, B, _, _, hB => ⟨rfl, B, by simp [hB], fun _ _ => rfl, fun k hk => by simp at hk⟩
  | [], b :: bs, i, bef, B, h, _, _ => by simp [drwOk] at h
  | q :: l, [], i, bef, B, h, _, _ => by simp [drwOk] at h
  | q :: l, b :: bs, i, bef, B, h, hb, hB => by
    simp only [drwOk, Bool.and_eq_true] at h
    obtain ⟨⟨h1, h2⟩, h3⟩ := h
    have hlt : ∀ j ∈ b, j < i := fun j hj => by
      have := List.all_eq_true.1 h1 j hj
      simpa using this
    obtain ⟨k1, U, u1, u2, k2⟩ := drwOk_spec ne old nor l bs (i + 1) (bef ++ [q]) (B ++ [upset B b]) h3 (by simp [hb]) (by simp [hB])
    have hup : ∀ V : List (List Nat), (∀ j, j < i → V.getD j [] = B.getD j []) → upset V b = upset B b := by
      intro V hV
      unfold upset
      congr 2
      have : ∀ c : List Nat, (∀ j ∈ c, j < i) → (c.flatMap fun j => V.getD j []) = c.flatMap fun j => B.getD j [] := by
        intro c
        induction c with
        | nil => intro _; rfl
        | cons x c ih => intro hc; rw [List.flatMap_cons, List.flatMap_cons, hV x (hc x (by simp)), ih fun j hj => hc j (by simp [hj])]
      exact this b hlt
    have hUB : ∀ j, j < i → U.getD j [] = B.getD j [] := fun j hj => by
      rw [u2 j (by omega)]
      simp only [List.getD_eq_getElem?_getD]
      rw [List.getElem?_append_left (by omega)]
    have hUi : U.getD i [] = upset B b := by
      rw [u2 i (by omega)]
      simp only [List.getD_eq_getElem?_getD]
      rw [List.getElem?_append_right (by omega), hB]; simp
    refine ⟨by simp [k1], U, by simp [u1]; omega, hUB, fun k hk => ?_⟩
    cases k with
    | zero =>
      refine ⟨fun j hj => ?_, ?_, fun j hj => ?_⟩
      · have := hlt j (by simpa using hj); omega
      · rw [Nat.add_zero, hUi, List.getD_cons_zero, hup U hUB]
      · have key : ∀ (ps : List Q) (c : List Nat) (m : Nat), drwOk.apartL ne old nor q c m ps = true → ∀ j p, ps[j]? = some p → (m + j) ∈ c ∨ par ne old nor p q := by
          intro ps
          induction ps with
          | nil => intro c m _ j p hp; simp at hp
          | cons x ps ih =>
            intro c m hm j p hp
            simp only [drwOk.apartL, Bool.and_eq_true, Bool.or_eq_true, List.elem_eq_mem, decide_eq_true_eq] at hm
            cases j with
            | zero => simp only [List.getElem?_cons_zero, Option.some.injEq] at hp; subst hp; simpa [or_assoc, par] using hm.1
            | succ j =>
              simp only [List.getElem?_cons_succ] at hp
              have := ih c (m + 1) hm.2 j p hp
              rwa [show m + 1 + j = m + (j + 1) from by omega] at this
        have hjl : j < bef.length := by omega
        rw [Nat.add_zero, hUi]
        rcases key bef (upset B b) 0 h2 j _ (List.getElem?_eq_getElem hjl) with hh | hh
        · left; simpa using hh
        · right; exact ⟨_, q, by rw [List.getElem?_append_left hjl, List.getElem?_eq_getElem hjl], by simp, hh⟩
    | succ k =>
      have hk' : k < l.length := by simpa using hk
      obtain ⟨m1, m3, m2⟩ := k2 k hk'
      rw [show i + 1 + k = i + (k + 1) from by omega] at m3
      refine ⟨fun j hj => by have := m1 j (by simpa using hj); omega, by rw [m3, List.getD_cons_succ], fun j hj => ?_⟩
      rcases m2 j (by omega) with hh | ⟨p, q', hh1, hh2, hh3⟩
      · left; rwa [show i + (k + 1) = i + 1 + k from by omega]
      · right; exact ⟨p, q', by simpa using hh1, by simpa using hh2, hh3⟩

def left (n : Nat) (listed : Array Bool) : List Nat := (List.range n).filter fun i => !listed.getD i true

theorem pairwise_left (n : Nat) (listed : Array Bool) : (left n listed).Pairwise (· < ·) := List.Pairwise.filter _ List.pairwise_lt_range
theorem mem_left {n : Nat} {listed : Array Bool} {i : Nat} : i ∈ left n listed ↔ i < n ∧ listed.getD i true = false := by simp [left]

theorem getD_setB {c : Array Bool} {i j : Nat} {d : Bool} (h : i < c.size) : (c.setIfInBounds i true).getD j d = if i = j then true else c.getD j d := by
  simp only [Array.getD_eq_getD_getElem?, Array.getElem?_setIfInBounds]
  by_cases e : i = j
  · subst e; simp [h]
  · simp [e]
theorem left_set {n : Nat} {listed : Array Bool} (hs : listed.size = n) {i : Nat} (hi : i < n) : left n (listed.setIfInBounds i true) = (left n listed).erase i := by
  have hn : (left n listed).Nodup := List.Nodup.sublist List.filter_sublist List.nodup_range
  rw [hn.erase_eq_filter]
  unfold left
  rw [List.filter_filter]
  congr 1
  funext j
  rw [getD_setB (by omega)]
  by_cases e : i = j
  · subst e; simp
  · simp [e, Ne.symm e]

variable {ops : Array Oper}

theorem order_any {l : List Q} {b : List (List Nat)} {ne : List (Nat × Nat)} {old nor : List Nat} {n0 : Nat} (hl : l.length = ops.size) (hb : cAft ops = b) (hok : drwOk ne old nor l b 0 [] [] = true) (hst : (ne = [] ∧ old = []) ∨ stayOk l = true) {r : St}
    (hne : ∀ x ∈ ne, difB (r.s.getD x.1 .unk) (r.s.getD x.2 .unk) = true) (hold : ∀ a ∈ old, oldB n0 (r.s.getD a .unk) = true) (hnor : ∀ a ∈ nor, norB (r.s.getD a .unk) = true) : ∃ U : List (List Nat), ∀ (fuel t : Nat) (listed : Array Bool), listed.size = ops.size → (left ops.size listed).length = fuel →
    (∀ m, m < ops.size → listed.getD m true = true → ∀ j ∈ U.getD m [], listed.getD j true = true) → ∀ s, n0 ≤ s.h.length → evIs call l (left ops.size listed) s = some r → evIs call l (Region.linearise.go .any ops fuel t listed []) s = some r := by
  obtain ⟨k1, U, u1, _, k2⟩ := drwOk_spec ne old nor l b 0 [] [] hok rfl rfl
  simp only [Nat.zero_add] at k2
  refine ⟨U, ?_⟩
  have haft : ∀ i o, ops[i]? = some o → b.getD i [] = (o.after.toList.filter fun e => Region.binds .any e).map (·.on) := by
    intro i o ho
    subst hb
    have : ops.toList[i]? = some o := by simpa using ho
    simp [cAft, List.getD_eq_getElem?_getD, ho]
  intro fuel
  induction fuel with
  | zero =>
    intro t listed hs hn hcl s hn0 hr
    have : left ops.size listed = [] := List.length_eq_zero_iff.1 hn
    rw [this] at hr; exact hr
  | succ fuel ih =>
    intro t listed hs hn hcl s hn0 hr
    simp only [Region.linearise.go]
    -- the first unlisted one is ready
    have hready : ∃ x, x ∈ Region.ready .any ops listed := by
      cases hll : left ops.size listed with
      | nil => rw [hll] at hn; simp at hn
      | cons x r =>
        have hx : x ∈ left ops.size listed := by rw [hll]; simp
        obtain ⟨hxn, hxl⟩ := mem_left.1 hx
        refine ⟨x, ?_⟩
        simp only [Region.ready, List.mem_filter, List.mem_range, Bool.and_eq_true, Bool.not_eq_true']
        refine ⟨hxn, hxl, ?_⟩
        have ho : ops[x]? = some ops[x] := Array.getElem?_eq_getElem hxn
        rw [ho]
        simp only [Option.map_some, Option.getD_some, Array.all_eq_true_iff_forall_mem, Bool.or_eq_true, Bool.not_eq_true']
        intro e he
        by_cases hbd : Region.binds .any e = true
        · right
          have hm : e.on ∈ b.getD x [] := by
            rw [haft x _ ho]
            exact List.mem_map.2 ⟨e, List.mem_filter.2 ⟨by simpa using he, by simpa using hbd⟩, rfl⟩
          have hlt := (k2 x (by omega)).1 _ hm
          rcases Bool.eq_false_or_eq_true (listed.getD e.on true) with h | h
          · have h3 : e.on < listed.size := by omega
            simp only [Array.getD_eq_getD_getElem?, Array.getElem?_eq_getElem h3, Option.getD_some] at h ⊢
            exact h
          · have : e.on ∈ left ops.size listed := mem_left.2 ⟨by omega, h⟩
            rw [hll] at this
            rcases List.mem_cons.1 this with h' | h'
            · omega
            · have hp := pairwise_left ops.size listed
              rw [hll, List.pairwise_cons] at hp
              have := hp.1 _ h'
              omega
        · left; simpa using hbd
    change evIs call l (match (Region.ready .any ops listed)[t % (Region.ready .any ops listed).length]? with
      | some i => Region.linearise.go .any ops fuel (t / (Region.ready .any ops listed).length) (listed.setIfInBounds i true) [i]
      | none => [].reverse) s = some r
    cases hi : (Region.ready .any ops listed)[t % (Region.ready .any ops listed).length]? with
    | none =>
      obtain ⟨x, hx⟩ := hready
      have hlt : t % (Region.ready .any ops listed).length < (Region.ready .any ops listed).length := Nat.mod_lt _ (List.length_pos_of_mem hx)
      rw [List.getElem?_eq_getElem hlt] at hi
      simp at hi
    | some i =>
      have him := List.mem_of_getElem? hi
      simp only [Region.ready, List.mem_filter, List.mem_range, Bool.and_eq_true, Bool.not_eq_true'] at him
      obtain ⟨hin, hiu, hia⟩ := him
      simp only []
      rw [linearise_go_acc, List.reverse_singleton, List.singleton_append]
      have himem : i ∈ left ops.size listed := mem_left.2 ⟨hin, hiu⟩
      have hset := left_set (n := ops.size) hs hin
      -- what i waits for is listed
      have hdirect : ∀ j ∈ b.getD i [], listed.getD j true = true := by
        intro j hj
        have hjlt := (k2 i (by omega)).1 j hj
        have ho : ops[i]? = some ops[i] := Array.getElem?_eq_getElem hin
        rw [haft i _ ho] at hj
        obtain ⟨e, he, hej⟩ := List.mem_map.1 hj
        obtain ⟨he1, he2⟩ := List.mem_filter.1 he
        rw [ho] at hia
        simp only [Option.map_some, Option.getD_some, Array.all_eq_true_iff_forall_mem, Bool.or_eq_true, Bool.not_eq_true'] at hia
        have h3 : j < listed.size := by omega
        rcases hia e (by simpa using he1) with h | h
        · rw [he2] at h; simp at h
        · rw [hej] at h
          simp only [Array.getD_eq_getD_getElem?, Array.getElem?_eq_getElem h3, Option.getD_some] at h ⊢
          exact h
      have hall : ∀ j ∈ U.getD i [], listed.getD j true = true := by
        intro j hj
        rw [(k2 i (by omega)).2.1] at hj
        unfold upset at hj
        have hj := (mem_uniA hj).resolve_right (by simp)
        rcases List.mem_append.1 hj with hj | hj
        · exact hdirect j hj
        · obtain ⟨m, hm, hjm⟩ := List.mem_flatMap.1 hj
          have := (k2 i (by omega)).1 m hm
          exact hcl m (by omega) (hdirect m hm) j hjm
      have hcl' : ∀ m, m < ops.size → (listed.setIfInBounds i true).getD m true = true → ∀ j ∈ U.getD m [], (listed.setIfInBounds i true).getD j true = true := by
        intro m hm hl' j hj
        rw [getD_setB (by omega)] at hl' ⊢
        by_cases hij : i = j
        · rw [if_pos hij]
        · rw [if_neg hij]
          by_cases him : i = m
          · subst him; exact hall j hj
          · rw [if_neg him] at hl'; exact hcl m hm hl' j hj
      have ih' := ih (t / (Region.ready .any ops listed).length) (listed.setIfInBounds i true) (by simpa using hs) (by rw [hset, List.length_erase_of_mem himem, hn]; rfl) hcl'
      have hfr := evIs_front (n0 := n0) (left ops.size listed) (pairwise_left ..) himem (fun j hj hji s s2 hsn h12 ⟨τ, ht1, ht2⟩ => by
        obtain ⟨hjn, hju⟩ := mem_left.1 hj
        rcases (k2 i (by omega)).2.2 j (by omega) with h | ⟨p, q, h1, h2, h3⟩
        · rw [hall j h] at hju; simp at hju
        · simp only [List.nil_append] at h1
          simp only [evI, h1, h2] at h12 ⊢
          cases hp1 : evQ call s p with
          | none => rw [hp1] at h12; simp at h12
          | some s1 =>
          rw [hp1, Option.bind_some] at h12
          have slots : ∀ t, p.dst ≠ some t → q.dst ≠ some t → (∀ k ∈ τ, ∀ x, l[k]? = some x → x.dst ≠ some t) → r.s.getD t .unk = s.s.getD t .unk := fun t g1 g2 g3 => by
            rw [evIs_slots τ ht2 g3, evQ_slots h12 fun e he hh => g2 (by rw [he, hh]), evQ_slots hp1 fun e he hh => g1 (by rw [he, hh])]
          have stay1 : stayOk l = true → ∀ t, t ∈ p.keeps → r.s.getD t .unk = s.s.getD t .unk := fun hsk t ht =>
            slots t (stayOk_spec hsk j p t h1 ht j p (Nat.le_refl _) h1) (stayOk_spec hsk j p t h1 ht i q (by omega) h2) (fun k hk x hx => stayOk_spec hsk j p t h1 ht k x (by have := (ht1 k hk).1; omega) hx)
          have stay2 : stayOk l = true → ∀ t, t ∈ q.keeps → r.s.getD t .unk = s.s.getD t .unk := fun hsk t ht =>
            slots t (par_writes h3 (keeps_reads ht)) (stayOk_spec hsk i q t h2 ht i q (Nat.le_refl _) h2) (fun k hk x hx => by
              obtain ⟨m1, m2, m3⟩ := ht1 k hk
              by_cases hki : i ≤ k
              · exact stayOk_spec hsk i q t h2 ht k x hki hx
              · obtain ⟨hkn, hku⟩ := mem_left.1 m2
                rcases (k2 i (by omega)).2.2 k (by omega) with h | ⟨p', q', g1, g2, g3⟩
                · rw [hall k h] at hku; simp at hku
                · simp only [List.nil_append] at g1
                  rw [hx] at g1; injection g1 with g1; subst g1
                  rw [h2] at g2; injection g2 with g2; subst g2
                  exact par_writes g3 (keeps_reads ht))
          have h12' : ((evQ call s p).bind fun s => evQ call s q) = some s2 := by rw [hp1, Option.bind_some, h12]
          have addrK : ∀ {x : Q} {a : Nat}, x.addr = some a → a ∈ x.keeps := fun h => by simp [Q.keeps, h]
          have addsK : ∀ {x : Q} {m : List Nat} {t : Nat}, x.adds = some m → t ∈ m → t ∈ x.keeps := fun h ht => by simp [Q.keeps, h, ht]
          have oldUp : ∀ v : AV, oldB n0 v = true → oldB s.h.length v = true := fun v hv => by
            unfold oldB at hv ⊢
            split at hv
            · simp at hv ⊢; omega
            · rfl
            · simp at hv
          rcases h3 with h3 | h3 | h3 | h3
          · rw [← comm_of_apart h3 s]; exact h12'
          · have hsk : ∀ {a c : Nat}, (a, c) ∈ ne → stayOk l = true := fun hab => by
              rcases hst with h | h
              · rw [h.1] at hab; simp at hab
              · exact h
            rw [← comm_dis h3 fun a b ha hb hab => ?_]
            · exact h12'
            · have hd := hne _ hab
              simp only at hd
              rw [stay1 (hsk hab) a (addrK ha), stay2 (hsk hab) b (addrK hb)] at hd
              exact hd
          · have hsk : ∀ {a : Nat}, a ∈ old → stayOk l = true := fun hab => by
              rcases hst with h | h
              · rw [h.2] at hab; simp at hab
              · exact h
            have hsk2 : stayOk l = true := by
              have h4 := h3
              unfold Q.adr at h4
              split at h4
              · simp only [Bool.and_eq_true, List.elem_eq_mem, decide_eq_true_eq] at h4
                exact hsk h4.1.1.1
              · simp at h4
            rw [← comm_adr h3 (fun b hb hbo => ?_) (fun m hm t ht hnt => ?_)]
            · exact h12'
            · rw [← stay2 hsk2 b (addrK hb)]; exact oldUp _ (hold b hbo)
            · have := hnor t hnt
              rw [stay1 hsk2 t (addsK hm ht)] at this
              simpa [norB] using this
          · have hsk : ∀ {a : Nat}, a ∈ old → stayOk l = true := fun hab => by
              rcases hst with h | h
              · rw [h.2] at hab; simp at hab
              · exact h
            have hsk2 : stayOk l = true := by
              have h4 := h3
              unfold Q.adr at h4
              split at h4
              · simp only [Bool.and_eq_true, List.elem_eq_mem, decide_eq_true_eq] at h4
                exact hsk h4.1.1.1
              · simp at h4
            rw [comm_adr h3 (fun b hb hbo => ?_) (fun m hm t ht hnt => ?_)]
            · exact h12'
            · rw [← stay1 hsk2 b (addrK hb)]; exact oldUp _ (hold b hbo)
            · have := hnor t hnt
              rw [stay2 hsk2 t (addsK hm ht)] at this
              simpa [norB] using this) s hn0 hr
      simp only [evIs] at hfr ⊢
      cases h1 : evI call l i s with
      | none => rw [h1] at hfr; simp at hfr
      | some s' =>
        rw [h1, Option.bind_some] at hfr
        rw [Option.bind_some]
        exact ih' s' (Nat.le_trans hn0 (evI_len h1)) (by rw [hset]; exact hfr)

theorem order_sched' {l : List Q} {b : List (List Nat)} {ne : List (Nat × Nat)} {old nor : List Nat} {n0 : Nat} (hl : l.length = ops.size) (hb : cAft ops = b) (hok : drwOk ne old nor l b 0 [] [] = true) (hst : (ne = [] ∧ old = []) ∨ stayOk l = true) (t : Nat) (s : St) (hn0 : n0 ≤ s.h.length) {r : St}
    (hr : evL call l s = some r) (hne : ∀ x ∈ ne, difB (r.s.getD x.1 .unk) (r.s.getD x.2 .unk) = true) (hold : ∀ a ∈ old, oldB n0 (r.s.getD a .unk) = true) (hnor : ∀ a ∈ nor, norB (r.s.getD a .unk) = true) : evIs call l (Region.schedule true ops t) s = some r := by
  have : left ops.size (Array.replicate ops.size false) = List.range l.length := by
    rw [hl]
    unfold left
    rw [List.filter_eq_self]
    intro i hi
    simp at hi
    simp [Array.getD_eq_getD_getElem?, hi]
  rw [← evIs_range, ← this] at hr
  simp only [Region.schedule, Bool.true_or, if_true, Region.linearise]
  obtain ⟨U, hU⟩ := order_any hl hb hok hst hne hold hnor
  refine hU _ _ _ (by simp) ?_ (fun m hm h => ?_) s hn0 hr
  · rw [this]; simp [hl]
  · simp [Array.getD_eq_getD_getElem?, hm] at h
theorem order_sched {l : List Q} {b : List (List Nat)} {ne : List (Nat × Nat)} (hl : l.length = ops.size) (hb : cAft ops = b) (hok : (drwOk ne [] [] l b 0 [] [] && (ne.isEmpty || stayOk l)) = true) (t : Nat) (s : St) {r : St} (hr : evL call l s = some r)
    (hne : ne.all (fun x => difB (r.s.getD x.1 .unk) (r.s.getD x.2 .unk)) = true) : evIs call l (Region.schedule true ops t) s = some r := by
  simp only [Bool.and_eq_true, Bool.or_eq_true] at hok
  exact order_sched' (n0 := 0) hl hb hok.1 (hok.2.imp (fun h => ⟨by simpa using h, rfl⟩) id) t s (Nat.zero_le _) hr (List.all_eq_true.1 hne) (fun a h => by simp at h) (fun a h => by simp at h)

/-! ### blocks that are laid ahead -/
def Q.unhol (q : Q) : Q := match q.c with
  | .hol _ l => { q with c := .res l }
  | _ => q
theorem unhol_free (q : Q) : q.unhol.free = q.free ∧ q.unhol.quiet = q.quiet ∧ q.unhol.addr = q.addr ∧ q.unhol.adds = q.adds ∧ q.unhol.dst = q.dst ∧ q.unhol.g = q.g ∧ q.unhol.o = q.o := by
  obtain ⟨d, g, o, c⟩ := q
  cases c <;> first | exact ⟨rfl, rfl, rfl, rfl, rfl, rfl, rfl⟩ | (refine ⟨rfl, rfl, ?_, ?_, rfl, rfl, rfl⟩ <;> cases g <;> rfl)
theorem unhol_rw (q : Q) : q.unhol.reads = q.reads ∧ q.unhol.writes = q.writes ∧ q.unhol.keeps = q.keeps := by
  obtain ⟨h1, h2, h3, h4, h5, h6, h7⟩ := unhol_free q
  refine ⟨?_, ?_, ?_⟩
  · unfold Q.reads; rw [h6, h7]
  · unfold Q.writes; rw [h5]
  · unfold Q.keeps; rw [h3, h4]
theorem unhol_par (ne : List (Nat × Nat)) (old nor : List Nat) (p q : Q) : p.unhol.apart q.unhol = p.apart q ∧ p.unhol.dis ne q.unhol = p.dis ne q ∧ p.unhol.adr old nor q.unhol = p.adr old nor q := by
  obtain ⟨a1, a2, a3, a4, a5, a6, a7⟩ := unhol_free p
  obtain ⟨b1, b2, b3, b4, b5, b6, b7⟩ := unhol_free q
  obtain ⟨c1, c2, c3⟩ := unhol_rw p
  obtain ⟨d1, d2, d3⟩ := unhol_rw q
  refine ⟨?_, ?_, ?_⟩
  · unfold Q.apart; rw [a1, a2, b1, b2, c1, c2, d1, d2]
  · unfold Q.dis; rw [a3, b3, c1, c2, d1, d2]
  · unfold Q.adr; rw [a4, b3, c1, c2, d1, d2]
theorem unhol_apartL (ne : List (Nat × Nat)) (old nor : List Nat) (q : Q) (b : List Nat) : ∀ (j : Nat) (ps : List Q), drwOk.apartL ne old nor q.unhol b j (ps.map Q.unhol) = drwOk.apartL ne old nor q b j ps
  | _, [] => rfl
  | j, p :: ps => by
    simp only [List.map_cons, drwOk.apartL]
    obtain ⟨e1, e2, e3⟩ := unhol_par ne old nor p q
    obtain ⟨_, _, e4⟩ := unhol_par ne old nor q p
    rw [e1, e2, e3, e4, unhol_apartL ne old nor q b (j + 1) ps]
theorem unhol_drwOk (ne : List (Nat × Nat)) (old nor : List Nat) : ∀ (l : List Q) (b : List (List Nat)) (i : Nat) (bef : List Q) (B : List (List Nat)), drwOk ne old nor (l.map Q.unhol) b i (bef.map Q.unhol) B = drwOk ne old nor l b i bef B
  | [], [], _, _, _ => rfl
  | [], _ :: _, _, _, _ => rfl
  | _ :: _, [], _, _, _ => rfl
  | q :: l, b :: bs, i, bef, B => by
    simp only [List.map_cons, drwOk, unhol_apartL]
    have := unhol_drwOk ne old nor l bs (i + 1) (bef ++ [q]) (B ++ [upset B b])
    rw [List.map_append] at this
    simp only [List.map_cons, List.map_nil] at this
    rw [this]
theorem unhol_stayOk : ∀ l : List Q, stayOk (l.map Q.unhol) = stayOk l
  | [] => rfl
  | q :: l => by
    obtain ⟨_, e2, e3⟩ := unhol_rw q
    simp only [List.map_cons, stayOk, e3, unhol_stayOk l]
    have key : ∀ (a : Nat) (m : List Q), ((m.map Q.unhol).all fun p => !p.writes.elem a) = m.all fun p => !p.writes.elem a := by
      intro a m
      induction m with
      | nil => rfl
      | cons x m ih => simp only [List.map_cons, List.all_cons, (unhol_rw x).2.1, ih]
    have key2 : ∀ a, ((q.unhol :: l.map Q.unhol).all fun p => !p.writes.elem a) = (q :: l).all fun p => !p.writes.elem a := fun a => by rw [← List.map_cons]; exact key a (q :: l)
    simp only [key2]
theorem absL_unhol : ∀ (l : List Q) (n : Nat), (absL n l).map Q.unhol = l.map Q.unhol
  | [], _ => rfl
  | q :: l, n => by
    unfold absL
    split
    · rename_i c e zs hc ho
      simp only [List.map_cons, absL_unhol l (n + 1)]
      congr 1
      simp only [Q.unhol, hc]
      obtain ⟨d, g, o, c'⟩ := q
      simp only at hc ⊢
      rw [hc]
    · simp only [List.map_cons, absL_unhol l n]
theorem absL_drwOk (ne : List (Nat × Nat)) (old nor : List Nat) (l : List Q) (n : Nat) (b : List (List Nat)) : drwOk ne old nor (absL n l) b 0 [] [] = drwOk ne old nor l b 0 [] [] := by
  rw [← unhol_drwOk, absL_unhol]
  exact unhol_drwOk ne old nor l b 0 [] []
theorem absL_stayOk (l : List Q) (n : Nat) : stayOk (absL n l) = stayOk l := by
  rw [← unhol_stayOk, absL_unhol, unhol_stayOk]
theorem absL_length : ∀ (l : List Q) (n : Nat), (absL n l).length = l.length
  | [], _ => rfl
  | q :: l, n => by unfold absL; split <;> simp [absL_length l]
theorem absL_le : ∀ (l : List Q) (n k : Nat) (q : Q), noHol l = true → (absL n l)[k]? = some q → ∀ i c, q.c = .hol i c → n ≤ i ∧ ∃ e zs, q.o = .alloc e zs ∧ (layOf l)[i - n]? = some (dcoL c zs)
  | [], n, k, q, _, h, i, c, _ => by simp [absL] at h
  | x :: l, n, k, q, hn, h, i, c, hq => by
    simp only [noHol, List.all_cons, Bool.and_eq_true] at hn
    have hn2 : noHol l = true := hn.2
    unfold absL at h
    split at h
    · rename_i c0 e zs hc ho
      have hr : layOf (x :: l) = dcoL c0 zs :: layOf l := by rw [layOf]; simp only [hc, ho]
      cases k with
      | zero =>
        simp only [List.getElem?_cons_zero, Option.some.injEq] at h; subst h
        simp only [Co.hol.injEq] at hq
        obtain ⟨rfl, rfl⟩ := hq
        exact ⟨Nat.le_refl _, e, zs, ho, by rw [hr]; simp⟩
      | succ k =>
        simp only [List.getElem?_cons_succ] at h
        obtain ⟨h1, e', zs', h2, h3⟩ := absL_le l (n + 1) k q hn2 h i c hq
        refine ⟨by omega, e', zs', h2, ?_⟩
        rw [hr, show i - n = (i - (n + 1)) + 1 from by omega, List.getElem?_cons_succ]
        exact h3
    · rename_i hne
      cases k with
      | zero =>
        simp only [List.getElem?_cons_zero, Option.some.injEq] at h; subst h
        rw [hq] at hn; simp at hn
      | succ k =>
        simp only [List.getElem?_cons_succ] at h
        obtain ⟨h1, e', zs', h2, h3⟩ := absL_le l n k q hn2 h i c hq
        refine ⟨h1, e', zs', h2, ?_⟩
        have hr : layOf (x :: l) = layOf l := by
          rw [layOf]
          split
          · rename_i c0 e zs hc ho; exact (hne _ _ _ hc ho).elim
          · rfl
        rw [hr]; exact h3
theorem absL_ne : ∀ (l : List Q) (n k m : Nat) (q p : Q), noHol l = true → (absL n l)[k]? = some q → (absL n l)[m]? = some p → k < m → ∀ i j c d, q.c = .hol i c → p.c = .hol j d → i < j
  | [], n, k, m, q, p, _, h, _, _, i, j, c, d, _, _ => by simp [absL] at h
  | x :: l, n, k, m, q, p, hn, h, h', hkm, i, j, c, d, hq, hp => by
    have hn0 := hn
    simp only [noHol, List.all_cons, Bool.and_eq_true] at hn
    have hn2 : noHol l = true := hn.2
    unfold absL at h h'
    split at h
    · rename_i c0 e zs hc ho
      simp only [hc, ho] at h'
      cases m with
      | zero => omega
      | succ m =>
        simp only [List.getElem?_cons_succ] at h'
        cases k with
        | zero =>
          simp only [List.getElem?_cons_zero, Option.some.injEq] at h; subst h
          simp only [Co.hol.injEq] at hq
          have := (absL_le l (n + 1) m p hn2 h' j d hp).1
          omega
        | succ k =>
          simp only [List.getElem?_cons_succ] at h
          exact absL_ne l (n + 1) k m q p hn2 h h' (by omega) i j c d hq hp
    · rename_i hne
      have h2 : (x :: absL n l)[m]? = some p := by
        split at h'
        · rename_i c0 e zs hc ho; exact (hne _ _ _ hc ho).elim
        · exact h'
      cases m with
      | zero => omega
      | succ m =>
        simp only [List.getElem?_cons_succ] at h2
        cases k with
        | zero =>
          simp only [List.getElem?_cons_zero, Option.some.injEq] at h; subst h
          rw [hq] at hn; simp at hn
        | succ k =>
          simp only [List.getElem?_cons_succ] at h
          exact absL_ne l n k m q p hn2 h h2 (by omega) i j c d hq hp
theorem go_nodup : ∀ (fuel t : Nat) (listed : Array Bool), (∀ i ∈ Region.linearise.go .any ops fuel t listed [], listed.getD i true = false) ∧ (Region.linearise.go .any ops fuel t listed []).Nodup := by
  intro fuel
  induction fuel with
  | zero => intro t listed; simp [Region.linearise.go]
  | succ fuel ih =>
    intro t listed
    simp only [Region.linearise.go]
    change (∀ i ∈ (match (Region.ready .any ops listed)[t % (Region.ready .any ops listed).length]? with
      | some i => Region.linearise.go .any ops fuel (t / (Region.ready .any ops listed).length) (listed.setIfInBounds i true) [i]
      | none => [].reverse), _) ∧ (match (Region.ready .any ops listed)[t % (Region.ready .any ops listed).length]? with
      | some i => Region.linearise.go .any ops fuel (t / (Region.ready .any ops listed).length) (listed.setIfInBounds i true) [i]
      | none => [].reverse).Nodup
    cases hi : (Region.ready .any ops listed)[t % (Region.ready .any ops listed).length]? with
    | none => simp
    | some i =>
      have him := List.mem_of_getElem? hi
      simp only [Region.ready, List.mem_filter, List.mem_range, Bool.and_eq_true, Bool.not_eq_true'] at him
      obtain ⟨hin, hiu, hia⟩ := him
      have hlt : i < listed.size := by
        rcases Nat.lt_or_ge i listed.size with h | h
        · exact h
        · simp [Array.getD_eq_getD_getElem?, Array.getElem?_eq_none h] at hiu
      simp only []
      rw [linearise_go_acc, List.reverse_singleton, List.singleton_append]
      obtain ⟨h1, h2⟩ := ih (t / (Region.ready .any ops listed).length) (listed.setIfInBounds i true)
      refine ⟨fun j hj => ?_, ?_⟩
      · rcases List.mem_cons.1 hj with rfl | hj
        · exact hiu
        · have := h1 j hj
          rw [getD_setB hlt] at this
          split at this
          · simp at this
          · exact this
      · rw [List.nodup_cons]
        refine ⟨fun hj => ?_, h2⟩
        have := h1 i hj
        rw [getD_setB hlt] at this
        simp at this
theorem sched_nodup (t : Nat) : (Region.schedule true ops t).Nodup := by
  simp only [Region.schedule, Bool.true_or, if_true, Region.linearise]
  exact (go_nodup _ _ _).2
theorem absL_strip : ∀ (l : List Q) (n : Nat), (absL n l).map Q.strip = l.map Q.strip
  | [], _ => rfl
  | q :: l, n => by
    unfold absL
    split
    · simp only [List.map_cons, absL_strip l (n + 1)]; rfl
    · simp only [List.map_cons, absL_strip l n]
end
end Go.Ev
