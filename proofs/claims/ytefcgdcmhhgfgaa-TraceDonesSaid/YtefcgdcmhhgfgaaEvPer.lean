/- Operations that may change places; orders of a drawn region. Own work. -/
import Derived.Test.YtefcgdcmhhgfgaaEvSnd
namespace Go.Ev
open Go
set_option linter.unusedVariables false
set_option linter.unusedSimpArgs false
section
variable {call : Callee}

theorem x_congr {s u : St} {x : X} (h : ∀ t ∈ x.reads, s.s.getD t .unk = u.s.getD t .unk) : s.x x = u.x x := by
  cases x with
  | s t => exact h t (by simp [X.reads])
  | c v => rfl
theorem xs_congr {s u : St} : ∀ {l : List X}, (∀ t ∈ readsL l, s.s.getD t .unk = u.s.getD t .unk) → s.xs l = u.xs l
  | [], _ => rfl
  | x :: l, h => by
    simp only [readsL, List.mem_append] at h
    simp only [St.xs, List.map_cons]
    rw [x_congr fun t ht => h t (.inl ht)]
    congr 1
    exact xs_congr fun t ht => h t (.inr ht)
theorem ps_congr {s u : St} {β : Type} (f : Nat → Nat → AV → β) : ∀ {l : List (Nat × Nat × X)}, (∀ t ∈ readsP l, s.s.getD t .unk = u.s.getD t .unk) → (l.map fun p => f p.1 p.2.1 (s.x p.2.2)) = l.map fun p => f p.1 p.2.1 (u.x p.2.2)
  | [], _ => rfl
  | x :: l, h => by
    simp only [readsP, List.mem_append] at h
    simp only [List.map_cons]
    rw [x_congr fun t ht => h t (.inl ht)]
    congr 1
    exact ps_congr f fun t ht => h t (.inr ht)
theorem bound_congr {s u : St} {x : Option X} (h : ∀ t ∈ readsO x, s.s.getD t .unk = u.s.getD t .unk) : evO.bound s x = evO.bound u x := by
  cases x with
  | none => rfl
  | some x => simp only [evO.bound]; rw [x_congr h]

theorem evO_congr {s u : St} {o : O} (h : ∀ t ∈ o.reads, s.s.getD t .unk = u.s.getD t .unk) (hh : s.h = u.h) : evO call s o = evO call u o := by
  cases o <;> simp only [O.reads, List.mem_append] at h
  case mv x => simp only [evO, x_congr h, hh]
  case pick a b c => simp only [evO, x_congr fun t ht => h t (.inl (.inl ht)), x_congr fun t ht => h t (.inl (.inr ht)), x_congr fun t ht => h t (.inr ht), hh]
  case alloc => simp only [evO, hh]
  case box => simp only [evO, x_congr h, hh]
  case ld => simp only [evO, x_congr h, hh]
  case st => simp only [evO, x_congr fun t ht => h t (.inl ht), x_congr fun t ht => h t (.inr ht), hh]
  case nc => simp only [evO, x_congr h, hh]
  case bin => simp only [evO, x_congr fun t ht => h t (.inl ht), x_congr fun t ht => h t (.inr ht), hh]
  case beq => simp only [evO, x_congr fun t ht => h t (.inl ht), x_congr fun t ht => h t (.inr ht), hh]
  case eqs => simp only [evO, x_congr fun t ht => h t (.inl ht), x_congr fun t ht => h t (.inr ht), hh]
  case isn => simp only [evO, x_congr h, hh]
  case un => simp only [evO, x_congr h, hh]
  case cvi => simp only [evO, x_congr h, hh]
  case cvs => simp only [evO, x_congr h, hh]
  case s2b => simp only [evO, x_congr h, hh]
  case b2s => simp only [evO, x_congr h, hh]
  case build zs ps => simp only [evO, ps_congr (fun a b v => (a, b, v)) h, hh]
  case bsl e z n zs ps => simp only [evO, ps_congr (fun a b v => (a, b, v.view u.h)) h, ps_congr (fun _ _ v => v) h, hh]
  case ext => simp only [evO, x_congr h, hh]
  case fn => simp only [evO, xs_congr fun t ht => h t (.inl ht), xs_congr fun t ht => h t (.inr ht), hh]
  case fa => simp only [evO, x_congr h, hh]
  case ia => simp only [evO, x_congr fun t ht => h t (.inl ht), x_congr fun t ht => h t (.inr ht), hh]
  case «is» => simp only [evO, x_congr fun t ht => h t (.inl ht), x_congr fun t ht => h t (.inr ht), hh]
  case fld => simp only [evO, x_congr h, hh]
  case idx => simp only [evO, x_congr fun t ht => h t (.inl ht), x_congr fun t ht => h t (.inr ht), hh]
  case sti => simp only [evO, x_congr fun t ht => h t (.inl ht), x_congr fun t ht => h t (.inr ht), hh]
  case sl => simp only [evO, x_congr fun t ht => h t (.inl (.inl (.inl ht))), bound_congr fun t ht => h t (.inl (.inl (.inr ht))), bound_congr fun t ht => h t (.inl (.inr ht)), bound_congr fun t ht => h t (.inr ht), hh]
  case ssl => simp only [evO, x_congr fun t ht => h t (.inl (.inl ht)), bound_congr fun t ht => h t (.inl (.inr ht)), bound_congr fun t ht => h t (.inr ht), hh]
  case mi => simp only [evO, x_congr h, hh]
  case len => simp only [evO, x_congr h, hh]
  case lens => simp only [evO, x_congr h, hh]
  case lenc => simp only [evO, hh]
  case mx => simp only [evO, x_congr fun t ht => h t (.inl ht), x_congr fun t ht => h t (.inr ht), hh]
  case mn => simp only [evO, x_congr fun t ht => h t (.inl ht), x_congr fun t ht => h t (.inr ht), hh]
  case app => simp only [evO, x_congr fun t ht => h t (.inl ht), x_congr fun t ht => h t (.inr ht), hh]
  case call => simp only [evO, xs_congr h, hh]
  case callv => simp only [evO, x_congr fun t ht => h t (.inl ht), xs_congr fun t ht => h t (.inr ht), hh]
  case bad => simp only [evO]

theorem doCall_quiet {f : FuncId} {args : List AV} {H H' : Heap} {v : AV} (h : doCall call f args 2 H = some (v, H')) : H' = H := by
  simp only [doCall, doCallQ] at h
  split at h
  · split at h
    · simp at h
    · split at h
      · simp only [Option.some.injEq, Prod.mk.injEq] at h; exact h.2.symm
      · split at h
        · simp only [Option.some.injEq, Prod.mk.injEq] at h; exact h.2.symm
        · simp at h
  · simp at h

theorem evO_quiet {s : St} {o : O} (hq : o.quiet = true) {v : AV} {h : Heap} (he : evO call s o = some (v, h)) : h = s.h := by
  cases o
  case call f xs r =>
    simp only [O.quiet, beq_iff_eq] at hq; subst hq
    exact doCall_quiet he
  case callv x xs r =>
    simp only [O.quiet, beq_iff_eq] at hq; subst hq
    simp only [evO] at he
    split at he
    · exact doCall_quiet he
    · exact doCall_quiet he
    · simp at he
  all_goals first | (simp [O.quiet] at hq; done) | skip
  all_goals simp only [evO] at he
  all_goals repeat' split at he
  all_goals first | (simp at he; done) | (simp only [Option.some.injEq, Prod.mk.injEq] at he; exact he.2.symm)

theorem co1_quiet {z : Nat} {k : Bool} (hk : (!k) = true) (v : AV) (H : Heap) : (co1 z k v H).2 = H := by
  cases k
  · unfold co1; split <;> rfl
  · simp at hk
theorem doCo_quiet {c : Co} (hc : c.quiet = true) (v : AV) (H : Heap) : (doCo c v H).2 = H := by
  cases c with
  | none => rfl
  | one z k => exact co1_quiet hc v H
  | cells l => simp [Co.quiet] at hc
  | frz => simp [Co.quiet] at hc
def valQ (call : Callee) (s : St) (q : Q) : Option AV := match wantQ s q.g with
  | some true => (evO call s q.o).map fun r => (doCo q.c r.1 s.h).1
  | some false => some (.tup [])
  | none => none
theorem evQ_quiet {q : Q} (hq0 : q.quiet = true) (s : St) : evQ call s q = (valQ call s q).map fun v => s.put q.dst v s.h := by
  simp only [Q.quiet, Bool.and_eq_true] at hq0
  obtain ⟨hq, hc⟩ := hq0
  unfold evQ valQ
  cases hw : wantQ s q.g with
  | none => rfl
  | some c =>
    cases c with
    | false => rfl
    | true =>
      cases he : evO call s q.o with
      | none => simp [he]
      | some r => obtain ⟨v, h⟩ := r; obtain rfl := evO_quiet hq he; simp [he, doCo_quiet hc]
theorem valQ_congr {s u : St} {q : Q} (h : ∀ t ∈ q.reads, s.s.getD t .unk = u.s.getD t .unk) (hh : s.h = u.h) : valQ call s q = valQ call u q := by
  simp only [Q.reads, List.mem_append] at h
  have hw : wantQ s q.g = wantQ u q.g := by
    cases hg : q.g with
    | none => rfl
    | some p => obtain ⟨t, b⟩ := p; rw [hg] at h; simp only [wantQ]; rw [h t (.inl (by simp))]
  unfold valQ
  rw [hw, evO_congr (fun t ht => h t (.inr ht)) hh, hh]

theorem put_getD {s : St} {d : Option Nat} {v : AV} {t : Nat} (h : ∀ e, d = some e → e ≠ t) : (s.put d v s.h).s.getD t .unk = s.s.getD t .unk := by
  cases d with
  | none => rfl
  | some e => simp only [St.put]; rw [getD_set_eq, if_neg (fun hh => h e rfl hh.1)]
theorem put_h (s : St) (d : Option Nat) (v : AV) : (s.put d v s.h).h = s.h := by cases d <;> rfl
theorem put_comm {s : St} {d e : Option Nat} {v u : AV} (h : ∀ x, d = some x → e ≠ some x) : (s.put d v s.h).put e u (s.put d v s.h).h = (s.put e u s.h).put d v (s.put e u s.h).h := by
  cases d with
  | none => cases e <;> rfl
  | some x =>
    cases e with
    | none => rfl
    | some y =>
      have : x ≠ y := fun hh => h x rfl (by rw [hh])
      simp only [St.put]
      rw [List.set_comm _ _ this]

/-! ### what does not look at the blocks -/
theorem evO_free {o : O} (hf : o.free = true) (s : St) (h : Heap) : evO call { s with h := h } o = (evO call s o).map fun r => (r.1, h) := by
  have hx : ∀ x, St.x { s with h := h } x = s.x x := fun x => by cases x <;> rfl
  have hxs : ∀ l, St.xs { s with h := h } l = s.xs l := fun l => List.map_congr_left fun x _ => hx x
  have hb : ∀ x, evO.bound { s with h := h } x = evO.bound s x := fun x => by cases x <;> simp only [evO.bound, hx]
  cases o <;> first | (simp [O.free] at hf; done) | skip
  all_goals simp only [evO, hx, hxs, hb]
  all_goals repeat' split
  all_goals first | rfl | (simp_all; done)
theorem free_quiet {q : Q} (hf : q.free = true) : q.quiet = true := by
  simp only [Q.free, Q.quiet, Bool.and_eq_true] at hf ⊢
  refine ⟨?_, ?_⟩
  · cases hq : q.o <;> rw [hq] at hf <;> first | rfl | (simp [O.free] at hf; done)
  · cases hq : q.c <;> rw [hq] at hf <;> first | rfl | (simp [Co.free] at hf; done) | exact hf.2
theorem co1_free {z : Nat} {k : Bool} (hk : (!k) = true) (v : AV) (H H' : Heap) : (co1 z k v H).1 = (co1 z k v H').1 := by
  cases k
  · unfold co1; split <;> rfl
  · simp at hk
theorem doCo_free {c : Co} (hc : c.free = true) (v : AV) (H H' : Heap) : (doCo c v H).1 = (doCo c v H').1 := by
  cases c with
  | none => rfl
  | one z k => exact co1_free hc v H H'
  | cells l => simp [Co.free] at hc
  | frz => simp [Co.free] at hc
theorem valQ_free {s u : St} {q : Q} (hf : q.free = true) (h : ∀ t ∈ q.reads, s.s.getD t .unk = u.s.getD t .unk) : valQ call s q = valQ call u q := by
  have h1 : valQ call s q = valQ call { u with h := s.h } q := valQ_congr h rfl
  rw [h1]
  have hw : wantQ { u with h := s.h } q.g = wantQ u q.g := by cases q.g <;> rfl
  simp only [Q.free, Bool.and_eq_true] at hf
  unfold valQ
  rw [hw, evO_free hf.1]
  split
  · rw [Option.map_map]
    congr 1
    funext r
    exact doCo_free hf.2 _ _ _
  · rfl
  · rfl
/-- A slot that an operation neither reads nor writes. -/
theorem evQ_put {q : Q} {s : St} {d : Option Nat} {v : AV} (hr : ∀ e, d = some e → e ∉ q.reads) (hw : ∀ x, d = some x → q.dst ≠ some x) : evQ call (s.put d v s.h) q = (evQ call s q).map fun r => r.put d v r.h := by
  have hg : wantQ (s.put d v s.h) q.g = wantQ s q.g := by
    cases hq : q.g with
    | none => rfl
    | some p =>
      obtain ⟨t, b⟩ := p
      simp only [wantQ]
      rw [put_getD (s := s) (v := v) fun e he hh => hr e he (by subst hh; simp [Q.reads, hq])]
  have ho : evO call (s.put d v s.h) q.o = evO call s q.o := evO_congr (fun t ht => put_getD fun e he hh => hr e he (by subst hh; simp only [Q.reads, List.mem_append]; exact .inr ht)) (put_h ..)
  have hc : ∀ (u : AV) (h' : Heap), (s.put d v s.h).put q.dst u h' = (s.put q.dst u h').put d v (s.put q.dst u h').h := by
    intro u h'
    cases hd : d with
    | none => cases q.dst <;> rfl
    | some x =>
      cases hq : q.dst with
      | none => rfl
      | some y =>
        have : x ≠ y := fun hh => hw x hd (by rw [hq, hh])
        simp only [St.put]
        rw [List.set_comm _ _ this]
  unfold evQ
  rw [hg, ho]
  split
  · cases evO call s q.o with
    | none => rfl
    | some r => obtain ⟨u, h'⟩ := r; simp only [Option.map_some]; rw [hc]
  · simp only [Option.map_some]; rw [put_h, hc]
  · rfl
theorem evQ_slots {q : Q} {s s' : St} (h : evQ call s q = some s') {t : Nat} (ht : ∀ e, q.dst = some e → e ≠ t) : s'.s.getD t .unk = s.s.getD t .unk := by
  have key : ∀ u h', (s.put q.dst u h').s.getD t .unk = s.s.getD t .unk := by
    intro u h'
    cases hd : q.dst with
    | none => rfl
    | some e => simp only [St.put]; rw [getD_set_eq, if_neg (fun hh => ht e hd hh.1)]
  unfold evQ at h
  split at h
  · split at h
    · injection h with h; subst h; exact key _ _
    · simp at h
  · injection h with h; subst h; exact key _ _
  · simp at h
theorem comm_free {p q : Q} (hp : p.free = true) (h1 : ∀ e, p.dst = some e → e ∉ q.reads) (h2 : ∀ x, p.dst = some x → q.dst ≠ some x) (h3 : ∀ e, q.dst = some e → e ∉ p.reads) (s : St) :
    ((evQ call s p).bind fun s => evQ call s q) = (evQ call s q).bind fun s => evQ call s p := by
  have hpq := free_quiet hp
  cases eq : evQ call s q with
  | none =>
    rw [evQ_quiet hpq]
    cases valQ call s p with
    | none => rfl
    | some v => simp only [Option.map_some, Option.bind_some, Option.bind_none]; rw [evQ_put h1 h2, eq]; rfl
  | some s' =>
    simp only [Option.bind_some]
    rw [evQ_quiet hpq, evQ_quiet hpq, valQ_free (s := s') (u := s) hp fun t ht => evQ_slots eq fun e he hh => h3 e he (hh ▸ ht)]
    cases valQ call s p with
    | none => rfl
    | some v => simp only [Option.map_some, Option.bind_some]; rw [evQ_put h1 h2, eq]; rfl

theorem comm_quiet {p q : Q} (h1 : p.quiet = true) (h2 : q.quiet = true) (hp : ∀ e, p.dst = some e → e ∉ q.reads ∧ e ∉ q.writes) (hq : ∀ e, q.dst = some e → e ∉ p.reads) (s : St) :
    ((evQ call s p).bind fun s => evQ call s q) = (evQ call s q).bind fun s => evQ call s p := by
  have hd : ∀ x, p.dst = some x → q.dst ≠ some x := fun x hx hy => (hp x hx).2 (by simp [Q.writes, hy])
  have e1 : ∀ v, valQ call (s.put p.dst v s.h) q = valQ call s q := fun v => valQ_congr (fun t ht => put_getD fun e he hh => (hp e he).1 (hh ▸ ht)) (put_h ..)
  have e2 : ∀ v, valQ call (s.put q.dst v s.h) p = valQ call s p := fun v => valQ_congr (fun t ht => put_getD fun e he hh => hq e he (hh ▸ ht)) (put_h ..)
  rw [evQ_quiet h1, evQ_quiet h2]
  cases ep : valQ call s p with
  | none =>
    cases eq : valQ call s q with
    | none => rfl
    | some u => simp only [Option.map_some, Option.map_none, Option.bind_none, Option.bind_some, evQ_quiet h1, e2, ep]
  | some v =>
    cases eq : valQ call s q with
    | none => simp only [Option.map_some, Option.map_none, Option.bind_none, Option.bind_some, evQ_quiet h2, e1, eq]
    | some u =>
      simp only [Option.map_some, Option.bind_some, evQ_quiet h1, evQ_quiet h2, e1, e2, ep, eq]
      rw [put_comm hd]

theorem comm_of_apart {p q : Q} (h : p.apart q = true) (s : St) : ((evQ call s p).bind fun s => evQ call s q) = (evQ call s q).bind fun s => evQ call s p := by
  simp only [Q.apart, Bool.and_eq_true, List.all_eq_true, Bool.not_eq_true', List.elem_eq_mem, decide_eq_false_iff_not] at h
  obtain ⟨⟨h1, h3⟩, h4⟩ := h
  have hp : ∀ e, p.dst = some e → e ∉ q.reads ∧ e ∉ q.writes := fun e he => h3 e (by simp [Q.writes, he])
  have hq : ∀ e, q.dst = some e → e ∉ p.reads := fun e he => h4 e (by simp [Q.writes, he])
  have hd : ∀ x, p.dst = some x → q.dst ≠ some x := fun x hx hy => (hp x hx).2 (by simp [Q.writes, hy])
  simp only [Bool.or_eq_true, Bool.and_eq_true] at h1
  rcases h1 with (⟨h1, h2⟩ | h1) | h1
  · exact comm_quiet h1 h2 hp hq s
  · exact comm_free h1 (fun e he => (hp e he).1) hd hq s
  · exact (comm_free h1 hq (fun x hx hy => hd x hy hx) (fun e he => (hp e he).1) s).symm

/-! ### orders -/
def evI (call : Callee) (l : List Q) (i : Nat) (s : St) : Option St := match l[i]? with
  | some q => evQ call s q
  | none => some s
def evIs (call : Callee) (l : List Q) : List Nat → St → Option St
  | [], s => some s
  | i :: σ, s => (evI call l i s).bind (evIs call l σ)

theorem evIs_range' : ∀ (r l : List Q) (k : Nat), (∀ j, r[j]? = l[k + j]?) → ∀ s, evIs call l (List.range' k r.length) s = evL call r s
  | [], l, k, _, s => rfl
  | q :: r, l, k, h, s => by
    have h0 : l[k]? = some q := by simpa using (h 0).symm
    simp only [List.length_cons, List.range'_succ, evIs, evI, h0, evL]
    cases evQ call s q with
    | none => rfl
    | some s' => exact evIs_range' r l (k + 1) (fun j => by have := h (j + 1); simpa [Nat.add_assoc, Nat.add_comm 1 j] using this) s'
theorem evIs_range (l : List Q) (s : St) : evIs call l (List.range l.length) s = evL call l s := by
  rw [List.range_eq_range']; exact evIs_range' l l 0 (by simp) s

theorem evIs_front {l : List Q} {i : Nat} : ∀ (σ : List Nat), σ.Pairwise (· < ·) → i ∈ σ → (∀ j ∈ σ, j < i → ∀ s, ((evI call l j s).bind fun s => evI call l i s) = (evI call l i s).bind fun s => evI call l j s) →
    ∀ s, evIs call l σ s = evIs call l (i :: σ.erase i) s
  | [], _, h, _, s => by simp at h
  | j :: σ, hp, hi, hc, s => by
    by_cases hj : j = i
    · subst hj; rw [List.erase_cons_head]
    · rw [List.erase_cons_tail (by simpa using hj)]
      rw [List.pairwise_cons] at hp
      have hi' : i ∈ σ := by simpa [Ne.symm hj] using hi
      have ih := evIs_front σ hp.2 hi' (fun k hk => hc k (by simp [hk]))
      have hlt := hp.1 i hi'
      have := hc j (by simp) hlt s
      simp only [evIs]
      have e1 : (evI call l j s).bind (evIs call l σ) = ((evI call l j s).bind fun s => evI call l i s).bind (evIs call l (σ.erase i)) := by
        rw [Option.bind_assoc]
        congr 1
        funext s'
        rw [ih s']; rfl
      rw [e1, this, Option.bind_assoc]

/-- Each operation: what is told of it stands before it; all others before it may change places with it. -/
theorem drwOk_spec : ∀ (l : List Q) (b : List (List Nat)) (i : Nat) (bef : List Q) (B : List (List Nat)), drwOk l b i bef B = true → bef.length = i → B.length = i → b.length = l.length ∧
    ∃ U : List (List Nat), U.length = i + l.length ∧ (∀ j, j < i → U.getD j [] = B.getD j []) ∧ ∀ k, k < l.length → (∀ j ∈ b.getD k [], j < i + k) ∧ U.getD (i + k) [] = upset U (b.getD k []) ∧
      ∀ j, j < i + k → j ∈ U.getD (i + k) [] ∨ ∃ p q, (bef ++ l)[j]? = some p ∧ l[k]? = some q ∧ p.apart q = true
  | [], [], i, bef, B, _, _, hB => ⟨rfl, B, by simp [hB], fun _ _ => rfl, fun k hk => by simp at hk⟩
  | [], b :: bs, i, bef, B, h, _, _ => by simp [drwOk] at h
  | q :: l, [], i, bef, B, h, _, _ => by simp [drwOk] at h
  | q :: l, b :: bs, i, bef, B, h, hb, hB => by
    simp only [drwOk, Bool.and_eq_true] at h
    obtain ⟨⟨h1, h2⟩, h3⟩ := h
    have hlt : ∀ j ∈ b, j < i := fun j hj => by
      have := List.all_eq_true.1 h1 j hj
      simpa using this
    obtain ⟨k1, U, u1, u2, k2⟩ := drwOk_spec l bs (i + 1) (bef ++ [q]) (B ++ [upset B b]) h3 (by simp [hb]) (by simp [hB])
    have hup : ∀ V : List (List Nat), (∀ j, j < i → V.getD j [] = B.getD j []) → upset V b = upset B b := by
      intro V hV
      unfold upset
      congr 1
      have : ∀ c : List Nat, (∀ j ∈ c, j < i) → (c.flatMap fun j => V.getD j []) = c.flatMap fun j => B.getD j [] := by
        intro c
        induction c with
        | nil => intro _; rfl
        | cons x c ih => intro hc; rw [List.flatMap_cons, List.flatMap_cons, hV x (hc x (by simp)), ih fun j hj => hc j (by simp [hj])]
      exact this b hlt
    have hUB : ∀ j, j < i → U.getD j [] = B.getD j [] := fun j hj => by
      rw [u2 j (by omega)]
      simp only [List.getD_eq_getElem?_getD]
      rw [List.getElem?_append_left (by omega)]
    have hUi : U.getD i [] = upset B b := by
      rw [u2 i (by omega)]
      simp only [List.getD_eq_getElem?_getD]
      rw [List.getElem?_append_right (by omega), hB]; simp
    refine ⟨by simp [k1], U, by simp [u1]; omega, hUB, fun k hk => ?_⟩
    cases k with
    | zero =>
      refine ⟨fun j hj => ?_, ?_, fun j hj => ?_⟩
      · have := hlt j (by simpa using hj); omega
      · rw [Nat.add_zero, hUi, List.getD_cons_zero, hup U hUB]
      · have key : ∀ (ps : List Q) (c : List Nat) (m : Nat), drwOk.apartL q c m ps = true → ∀ j p, ps[j]? = some p → (m + j) ∈ c ∨ p.apart q = true := by
          intro ps
          induction ps with
          | nil => intro c m _ j p hp; simp at hp
          | cons x ps ih =>
            intro c m hm j p hp
            simp only [drwOk.apartL, Bool.and_eq_true, Bool.or_eq_true, List.elem_eq_mem, decide_eq_true_eq] at hm
            cases j with
            | zero => simp only [List.getElem?_cons_zero, Option.some.injEq] at hp; subst hp; simpa using hm.1
            | succ j =>
              simp only [List.getElem?_cons_succ] at hp
              have := ih c (m + 1) hm.2 j p hp
              rwa [show m + 1 + j = m + (j + 1) from by omega] at this
        have hjl : j < bef.length := by omega
        rw [Nat.add_zero, hUi]
        rcases key bef (upset B b) 0 h2 j _ (List.getElem?_eq_getElem hjl) with hh | hh
        · left; simpa using hh
        · right; exact ⟨_, q, by rw [List.getElem?_append_left hjl, List.getElem?_eq_getElem hjl], by simp, hh⟩
    | succ k =>
      have hk' : k < l.length := by simpa using hk
      obtain ⟨m1, m3, m2⟩ := k2 k hk'
      rw [show i + 1 + k = i + (k + 1) from by omega] at m3
      refine ⟨fun j hj => by have := m1 j (by simpa using hj); omega, by rw [m3, List.getD_cons_succ], fun j hj => ?_⟩
      rcases m2 j (by omega) with hh | ⟨p, q', hh1, hh2, hh3⟩
      · left; rwa [show i + (k + 1) = i + 1 + k from by omega]
      · right; exact ⟨p, q', by simpa using hh1, by simpa using hh2, hh3⟩

def left (n : Nat) (listed : Array Bool) : List Nat := (List.range n).filter fun i => !listed.getD i true

theorem pairwise_left (n : Nat) (listed : Array Bool) : (left n listed).Pairwise (· < ·) := List.Pairwise.filter _ List.pairwise_lt_range
theorem mem_left {n : Nat} {listed : Array Bool} {i : Nat} : i ∈ left n listed ↔ i < n ∧ listed.getD i true = false := by simp [left]

theorem getD_setB {c : Array Bool} {i j : Nat} {d : Bool} (h : i < c.size) : (c.setIfInBounds i true).getD j d = if i = j then true else c.getD j d := by
  simp only [Array.getD_eq_getD_getElem?, Array.getElem?_setIfInBounds]
  by_cases e : i = j
  · subst e; simp [h]
  · simp [e]
theorem left_set {n : Nat} {listed : Array Bool} (hs : listed.size = n) {i : Nat} (hi : i < n) : left n (listed.setIfInBounds i true) = (left n listed).erase i := by
  have hn : (left n listed).Nodup := List.Nodup.sublist List.filter_sublist List.nodup_range
  rw [hn.erase_eq_filter]
  unfold left
  rw [List.filter_filter]
  congr 1
  funext j
  rw [getD_setB (by omega)]
  by_cases e : i = j
  · subst e; simp
  · simp [e, Ne.symm e]

variable {ops : Array Oper}

theorem order_any {l : List Q} {b : List (List Nat)} (hl : l.length = ops.size) (hb : cAft ops = b) (hok : drwOk l b 0 [] [] = true) : ∃ U : List (List Nat), ∀ (fuel t : Nat) (listed : Array Bool), listed.size = ops.size → (left ops.size listed).length = fuel →
    (∀ m, m < ops.size → listed.getD m true = true → ∀ j ∈ U.getD m [], listed.getD j true = true) → ∀ s, evIs call l (Region.linearise.go .any ops fuel t listed []) s = evIs call l (left ops.size listed) s := by
  obtain ⟨k1, U, u1, _, k2⟩ := drwOk_spec l b 0 [] [] hok rfl rfl
  simp only [Nat.zero_add] at k2
  refine ⟨U, ?_⟩
  have haft : ∀ i o, ops[i]? = some o → b.getD i [] = (o.after.toList.filter fun e => Region.binds .any e).map (·.on) := by
    intro i o ho
    subst hb
    have : ops.toList[i]? = some o := by simpa using ho
    simp [cAft, List.getD_eq_getElem?_getD, ho]
  intro fuel
  induction fuel with
  | zero =>
    intro t listed hs hn hcl s
    have : left ops.size listed = [] := List.length_eq_zero_iff.1 hn
    rw [this]; rfl
  | succ fuel ih =>
    intro t listed hs hn hcl s
    simp only [Region.linearise.go]
    -- the first unlisted one is ready
    have hready : ∃ x, x ∈ Region.ready .any ops listed := by
      cases hll : left ops.size listed with
      | nil => rw [hll] at hn; simp at hn
      | cons x r =>
        have hx : x ∈ left ops.size listed := by rw [hll]; simp
        obtain ⟨hxn, hxl⟩ := mem_left.1 hx
        refine ⟨x, ?_⟩
        simp only [Region.ready, List.mem_filter, List.mem_range, Bool.and_eq_true, Bool.not_eq_true']
        refine ⟨hxn, hxl, ?_⟩
        have ho : ops[x]? = some ops[x] := Array.getElem?_eq_getElem hxn
        rw [ho]
        simp only [Option.map_some, Option.getD_some, Array.all_eq_true_iff_forall_mem, Bool.or_eq_true, Bool.not_eq_true']
        intro e he
        by_cases hbd : Region.binds .any e = true
        · right
          have hm : e.on ∈ b.getD x [] := by
            rw [haft x _ ho]
            exact List.mem_map.2 ⟨e, List.mem_filter.2 ⟨by simpa using he, by simpa using hbd⟩, rfl⟩
          have hlt := (k2 x (by omega)).1 _ hm
          rcases Bool.eq_false_or_eq_true (listed.getD e.on true) with h | h
          · have h3 : e.on < listed.size := by omega
            simp only [Array.getD_eq_getD_getElem?, Array.getElem?_eq_getElem h3, Option.getD_some] at h ⊢
            exact h
          · have : e.on ∈ left ops.size listed := mem_left.2 ⟨by omega, h⟩
            rw [hll] at this
            rcases List.mem_cons.1 this with h' | h'
            · omega
            · have hp := pairwise_left ops.size listed
              rw [hll, List.pairwise_cons] at hp
              have := hp.1 _ h'
              omega
        · left; simpa using hbd
    change evIs call l (match (Region.ready .any ops listed)[t % (Region.ready .any ops listed).length]? with
      | some i => Region.linearise.go .any ops fuel (t / (Region.ready .any ops listed).length) (listed.setIfInBounds i true) [i]
      | none => [].reverse) s = _
    cases hi : (Region.ready .any ops listed)[t % (Region.ready .any ops listed).length]? with
    | none =>
      obtain ⟨x, hx⟩ := hready
      have hlt : t % (Region.ready .any ops listed).length < (Region.ready .any ops listed).length := Nat.mod_lt _ (List.length_pos_of_mem hx)
      rw [List.getElem?_eq_getElem hlt] at hi
      simp at hi
    | some i =>
      have him := List.mem_of_getElem? hi
      simp only [Region.ready, List.mem_filter, List.mem_range, Bool.and_eq_true, Bool.not_eq_true'] at him
      obtain ⟨hin, hiu, hia⟩ := him
      simp only []
      rw [linearise_go_acc, List.reverse_singleton, List.singleton_append]
      have himem : i ∈ left ops.size listed := mem_left.2 ⟨hin, hiu⟩
      have hset := left_set (n := ops.size) hs hin
      -- what i waits for is listed
      have hdirect : ∀ j ∈ b.getD i [], listed.getD j true = true := by
        intro j hj
        have hjlt := (k2 i (by omega)).1 j hj
        have ho : ops[i]? = some ops[i] := Array.getElem?_eq_getElem hin
        rw [haft i _ ho] at hj
        obtain ⟨e, he, hej⟩ := List.mem_map.1 hj
        obtain ⟨he1, he2⟩ := List.mem_filter.1 he
        rw [ho] at hia
        simp only [Option.map_some, Option.getD_some, Array.all_eq_true_iff_forall_mem, Bool.or_eq_true, Bool.not_eq_true'] at hia
        have h3 : j < listed.size := by omega
        rcases hia e (by simpa using he1) with h | h
        · rw [he2] at h; simp at h
        · rw [hej] at h
          simp only [Array.getD_eq_getD_getElem?, Array.getElem?_eq_getElem h3, Option.getD_some] at h ⊢
          exact h
      have hall : ∀ j ∈ U.getD i [], listed.getD j true = true := by
        intro j hj
        rw [(k2 i (by omega)).2.1] at hj
        unfold upset at hj
        rcases List.mem_append.1 hj with hj | hj
        · exact hdirect j hj
        · obtain ⟨m, hm, hjm⟩ := List.mem_flatMap.1 hj
          have := (k2 i (by omega)).1 m hm
          exact hcl m (by omega) (hdirect m hm) j hjm
      have hcl' : ∀ m, m < ops.size → (listed.setIfInBounds i true).getD m true = true → ∀ j ∈ U.getD m [], (listed.setIfInBounds i true).getD j true = true := by
        intro m hm hl' j hj
        rw [getD_setB (by omega)] at hl' ⊢
        by_cases hij : i = j
        · rw [if_pos hij]
        · rw [if_neg hij]
          by_cases him : i = m
          · subst him; exact hall j hj
          · rw [if_neg him] at hl'; exact hcl m hm hl' j hj
      have ih' := ih (t / (Region.ready .any ops listed).length) (listed.setIfInBounds i true) (by simpa using hs) (by rw [hset, List.length_erase_of_mem himem, hn]; rfl) hcl'
      rw [evIs_front (left ops.size listed) (pairwise_left ..) himem (fun j hj hji s => ?_) s]
      · simp only [evIs]
        congr 1
        funext s'
        rw [ih' s', hset]
      · obtain ⟨hjn, hju⟩ := mem_left.1 hj
        rcases (k2 i (by omega)).2.2 j (by omega) with h | ⟨p, q, h1, h2, h3⟩
        · rw [hall j h] at hju; simp at hju
        · simp only [List.nil_append] at h1
          simp only [evI, h1, h2]
          exact comm_of_apart h3 s

theorem order_sched {l : List Q} {b : List (List Nat)} (hl : l.length = ops.size) (hb : cAft ops = b) (hok : drwOk l b 0 [] [] = true) (t : Nat) (s : St) :
    evIs call l (Region.schedule true ops t) s = evL call l s := by
  have : left ops.size (Array.replicate ops.size false) = List.range l.length := by
    rw [hl]
    unfold left
    rw [List.filter_eq_self]
    intro i hi
    simp at hi
    simp [Array.getD_eq_getD_getElem?, hi]
  rw [← evIs_range, ← this]
  simp only [Region.schedule, Bool.true_or, if_true, Region.linearise]
  obtain ⟨U, hU⟩ := order_any hl hb hok
  refine hU _ _ _ (by simp) ?_ (fun m hm h => ?_) s
  · rw [this]; simp [hl]
  · simp [Array.getD_eq_getD_getElem?, hm] at h
end
end Go.Ev
