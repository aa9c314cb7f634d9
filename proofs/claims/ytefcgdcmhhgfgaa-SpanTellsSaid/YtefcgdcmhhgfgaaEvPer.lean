/- Operations that may change places; orders of a drawn region. Own work. -/
import Derived.Test.YtefcgdcmhhgfgaaEvSnd
namespace Go.Ev
open Go
set_option linter.unusedVariables false
set_option linter.unusedSimpArgs false
section
variable {call : Callee}

theorem x_congr {s u : St} {x : X} (h : ∀ t ∈ x.reads, s.s.getD t .unk = u.s.getD t .unk) : s.x x = u.x x := by
  cases x with
  | s t => exact h t (by simp [X.reads])
  | c v => rfl
theorem xs_congr {s u : St} : ∀ {l : List X}, (∀ t ∈ readsL l, s.s.getD t .unk = u.s.getD t .unk) → s.xs l = u.xs l
  | [], _ => rfl
  | x :: l, h => by
    simp only [readsL, List.mem_append] at h
    simp only [St.xs, List.map_cons]
    rw [x_congr fun t ht => h t (.inl ht)]
    congr 1
    exact xs_congr fun t ht => h t (.inr ht)
theorem ps_congr {s u : St} {β : Type} (f : Nat → Nat → AV → β) : ∀ {l : List (Nat × Nat × X)}, (∀ t ∈ readsP l, s.s.getD t .unk = u.s.getD t .unk) → (l.map fun p => f p.1 p.2.1 (s.x p.2.2)) = l.map fun p => f p.1 p.2.1 (u.x p.2.2)
  | [], _ => rfl
  | x :: l, h => by
    simp only [readsP, List.mem_append] at h
    simp only [List.map_cons]
    rw [x_congr fun t ht => h t (.inl ht)]
    congr 1
    exact ps_congr f fun t ht => h t (.inr ht)
theorem bound_congr {s u : St} {x : Option X} (h : ∀ t ∈ readsO x, s.s.getD t .unk = u.s.getD t .unk) : evO.bound s x = evO.bound u x := by
  cases x with
  | none => rfl
  | some x => simp only [evO.bound]; rw [x_congr h]

theorem evO_congr {s u : St} {o : O} (h : ∀ t ∈ o.reads, s.s.getD t .unk = u.s.getD t .unk) (hh : s.h = u.h) : evO call s o = evO call u o := by
  cases o <;> simp only [O.reads, List.mem_append] at h
  case mv x => simp only [evO, x_congr h, hh]
  case pick a b c => simp only [evO, x_congr fun t ht => h t (.inl (.inl ht)), x_congr fun t ht => h t (.inl (.inr ht)), x_congr fun t ht => h t (.inr ht), hh]
  case alloc => simp only [evO, hh]
  case box => simp only [evO, x_congr h, hh]
  case ld => simp only [evO, x_congr h, hh]
  case st => simp only [evO, x_congr fun t ht => h t (.inl ht), x_congr fun t ht => h t (.inr ht), hh]
  case nc => simp only [evO, x_congr h, hh]
  case bin => simp only [evO, x_congr fun t ht => h t (.inl ht), x_congr fun t ht => h t (.inr ht), hh]
  case beq => simp only [evO, x_congr fun t ht => h t (.inl ht), x_congr fun t ht => h t (.inr ht), hh]
  case eqs => simp only [evO, x_congr fun t ht => h t (.inl ht), x_congr fun t ht => h t (.inr ht), hh]
  case isn => simp only [evO, x_congr h, hh]
  case un => simp only [evO, x_congr h, hh]
  case cvi => simp only [evO, x_congr h, hh]
  case cvs => simp only [evO, x_congr h, hh]
  case s2b => simp only [evO, x_congr h, hh]
  case b2s => simp only [evO, x_congr h, hh]
  case build zs ps => simp only [evO, ps_congr (fun a b v => (a, b, v)) h, hh]
  case bsl e z n zs ps => simp only [evO, ps_congr (fun a b v => (a, b, v.view u.h)) h, ps_congr (fun _ _ v => v) h, hh]
  case ext => simp only [evO, x_congr h, hh]
  case fn => simp only [evO, xs_congr fun t ht => h t (.inl ht), xs_congr fun t ht => h t (.inr ht), hh]
  case fa => simp only [evO, x_congr h, hh]
  case ia => simp only [evO, x_congr fun t ht => h t (.inl ht), x_congr fun t ht => h t (.inr ht), hh]
  case «is» => simp only [evO, x_congr fun t ht => h t (.inl ht), x_congr fun t ht => h t (.inr ht), hh]
  case fld => simp only [evO, x_congr h, hh]
  case idx => simp only [evO, x_congr fun t ht => h t (.inl ht), x_congr fun t ht => h t (.inr ht), hh]
  case sti => simp only [evO, x_congr fun t ht => h t (.inl ht), x_congr fun t ht => h t (.inr ht), hh]
  case sl => simp only [evO, x_congr fun t ht => h t (.inl (.inl (.inl ht))), bound_congr fun t ht => h t (.inl (.inl (.inr ht))), bound_congr fun t ht => h t (.inl (.inr ht)), bound_congr fun t ht => h t (.inr ht), hh]
  case ssl => simp only [evO, x_congr fun t ht => h t (.inl (.inl ht)), bound_congr fun t ht => h t (.inl (.inr ht)), bound_congr fun t ht => h t (.inr ht), hh]
  case mi => simp only [evO, x_congr h, hh]
  case len => simp only [evO, x_congr h, hh]
  case lens => simp only [evO, x_congr h, hh]
  case lenc => simp only [evO, hh]
  case mx => simp only [evO, x_congr fun t ht => h t (.inl ht), x_congr fun t ht => h t (.inr ht), hh]
  case mn => simp only [evO, x_congr fun t ht => h t (.inl ht), x_congr fun t ht => h t (.inr ht), hh]
  case app => simp only [evO, x_congr fun t ht => h t (.inl ht), x_congr fun t ht => h t (.inr ht), hh]
  case call => simp only [evO, xs_congr h, hh]
  case callv => simp only [evO, x_congr fun t ht => h t (.inl ht), xs_congr fun t ht => h t (.inr ht), hh]
  case bad => simp only [evO]

theorem doCall_quiet {f : FuncId} {args : List AV} {H H' : Heap} {v : AV} (h : doCall call f args 2 H = some (v, H')) : H' = H := by
  simp only [doCall, doCallQ] at h
  split at h
  · split at h
    · simp at h
    · split at h
      · simp only [Option.some.injEq, Prod.mk.injEq] at h; exact h.2.symm
      · split at h
        · simp only [Option.some.injEq, Prod.mk.injEq] at h; exact h.2.symm
        · simp at h
  · simp at h

theorem evO_quiet {s : St} {o : O} (hq : o.quiet = true) {v : AV} {h : Heap} (he : evO call s o = some (v, h)) : h = s.h := by
  cases o
  case call f xs r =>
    simp only [O.quiet, beq_iff_eq] at hq; subst hq
    exact doCall_quiet he
  case callv x xs r =>
    simp only [O.quiet, beq_iff_eq] at hq; subst hq
    simp only [evO] at he
    split at he
    · exact doCall_quiet he
    · exact doCall_quiet he
    · simp at he
  all_goals first | (simp [O.quiet] at hq; done) | skip
  all_goals simp only [evO] at he
  all_goals repeat' split at he
  all_goals first | (simp at he; done) | (simp only [Option.some.injEq, Prod.mk.injEq] at he; exact he.2.symm)

theorem co1_quiet {z : Nat} {k : Bool} (hk : (!k) = true) (v : AV) (H : Heap) : (co1 z k v H).2 = H := by
  cases k
  · unfold co1; split <;> rfl
  · simp at hk
theorem doCo_quiet {c : Co} (hc : c.quiet = true) (v : AV) (H : Heap) : (doCo c v H).2 = H := by
  cases c with
  | none => rfl
  | one z k => exact co1_quiet hc v H
  | cells l => simp [Co.quiet] at hc
  | frz => simp [Co.quiet] at hc
def valQ (call : Callee) (s : St) (q : Q) : Option AV := match wantQ s q.g with
  | some true => (evO call s q.o).map fun r => (doCo q.c r.1 s.h).1
  | some false => some (.tup [])
  | none => none
theorem evQ_quiet {q : Q} (hq0 : q.quiet = true) (s : St) : evQ call s q = (valQ call s q).map fun v => s.put q.dst v s.h := by
  simp only [Q.quiet, Bool.and_eq_true] at hq0
  obtain ⟨hq, hc⟩ := hq0
  unfold evQ valQ
  cases hw : wantQ s q.g with
  | none => rfl
  | some c =>
    cases c with
    | false => rfl
    | true =>
      cases he : evO call s q.o with
      | none => simp [he]
      | some r => obtain ⟨v, h⟩ := r; obtain rfl := evO_quiet hq he; simp [he, doCo_quiet hc]
theorem valQ_congr {s u : St} {q : Q} (h : ∀ t ∈ q.reads, s.s.getD t .unk = u.s.getD t .unk) (hh : s.h = u.h) : valQ call s q = valQ call u q := by
  simp only [Q.reads, List.mem_append] at h
  have hw : wantQ s q.g = wantQ u q.g := by
    cases hg : q.g with
    | none => rfl
    | some p => obtain ⟨t, b⟩ := p; rw [hg] at h; simp only [wantQ]; rw [h t (.inl (by simp))]
  unfold valQ
  rw [hw, evO_congr (fun t ht => h t (.inr ht)) hh, hh]

theorem put_getD {s : St} {d : Option Nat} {v : AV} {t : Nat} (h : ∀ e, d = some e → e ≠ t) : (s.put d v s.h).s.getD t .unk = s.s.getD t .unk := by
  cases d with
  | none => rfl
  | some e => simp only [St.put]; rw [getD_set_eq, if_neg (fun hh => h e rfl hh.1)]
theorem put_h (s : St) (d : Option Nat) (v : AV) : (s.put d v s.h).h = s.h := by cases d <;> rfl
theorem put_comm {s : St} {d e : Option Nat} {v u : AV} (h : ∀ x, d = some x → e ≠ some x) : (s.put d v s.h).put e u (s.put d v s.h).h = (s.put e u s.h).put d v (s.put e u s.h).h := by
  cases d with
  | none => cases e <;> rfl
  | some x =>
    cases e with
    | none => rfl
    | some y =>
      have : x ≠ y := fun hh => h x rfl (by rw [hh])
      simp only [St.put]
      rw [List.set_comm _ _ this]

theorem comm_of_apart {p q : Q} (h : p.apart q = true) (s : St) : ((evQ call s p).bind fun s => evQ call s q) = (evQ call s q).bind fun s => evQ call s p := by
  simp only [Q.apart, Bool.and_eq_true, List.all_eq_true, Bool.not_eq_true', List.elem_eq_mem, decide_eq_false_iff_not] at h
  obtain ⟨⟨⟨h1, h2⟩, h3⟩, h4⟩ := h
  have hp : ∀ e, p.dst = some e → e ∉ q.reads ∧ e ∉ q.writes := fun e he => h3 e (by simp [Q.writes, he])
  have hq : ∀ e, q.dst = some e → e ∉ p.reads := fun e he => h4 e (by simp [Q.writes, he])
  have hd : ∀ x, p.dst = some x → q.dst ≠ some x := fun x hx hy => (hp x hx).2 (by simp [Q.writes, hy])
  have e1 : ∀ v, valQ call (s.put p.dst v s.h) q = valQ call s q := fun v => valQ_congr (fun t ht => put_getD fun e he hh => (hp e he).1 (hh ▸ ht)) (put_h ..)
  have e2 : ∀ v, valQ call (s.put q.dst v s.h) p = valQ call s p := fun v => valQ_congr (fun t ht => put_getD fun e he hh => hq e he (hh ▸ ht)) (put_h ..)
  rw [evQ_quiet h1, evQ_quiet h2]
  cases ep : valQ call s p with
  | none =>
    cases eq : valQ call s q with
    | none => rfl
    | some u => simp only [Option.map_some, Option.map_none, Option.bind_none, Option.bind_some, evQ_quiet h1, e2, ep]
  | some v =>
    cases eq : valQ call s q with
    | none => simp only [Option.map_some, Option.map_none, Option.bind_none, Option.bind_some, evQ_quiet h2, e1, eq]
    | some u =>
      simp only [Option.map_some, Option.bind_some, evQ_quiet h1, evQ_quiet h2, e1, e2, ep, eq]
      rw [put_comm hd]

/-! ### orders -/
def evI (call : Callee) (l : List Q) (i : Nat) (s : St) : Option St := match l[i]? with
  | some q => evQ call s q
  | none => some s
def evIs (call : Callee) (l : List Q) : List Nat → St → Option St
  | [], s => some s
  | i :: σ, s => (evI call l i s).bind (evIs call l σ)

theorem evIs_range' : ∀ (r l : List Q) (k : Nat), (∀ j, r[j]? = l[k + j]?) → ∀ s, evIs call l (List.range' k r.length) s = evL call r s
  | [], l, k, _, s => rfl
  | q :: r, l, k, h, s => by
    have h0 : l[k]? = some q := by simpa using (h 0).symm
    simp only [List.length_cons, List.range'_succ, evIs, evI, h0, evL]
    cases evQ call s q with
    | none => rfl
    | some s' => exact evIs_range' r l (k + 1) (fun j => by have := h (j + 1); simpa [Nat.add_assoc, Nat.add_comm 1 j] using this) s'
theorem evIs_range (l : List Q) (s : St) : evIs call l (List.range l.length) s = evL call l s := by
  rw [List.range_eq_range']; exact evIs_range' l l 0 (by simp) s

theorem evIs_front {l : List Q} {i : Nat} : ∀ (σ : List Nat), σ.Pairwise (· < ·) → i ∈ σ → (∀ j ∈ σ, j < i → ∀ s, ((evI call l j s).bind fun s => evI call l i s) = (evI call l i s).bind fun s => evI call l j s) →
    ∀ s, evIs call l σ s = evIs call l (i :: σ.erase i) s
  | [], _, h, _, s => by simp at h
  | j :: σ, hp, hi, hc, s => by
    by_cases hj : j = i
    · subst hj; rw [List.erase_cons_head]
    · rw [List.erase_cons_tail (by simpa using hj)]
      rw [List.pairwise_cons] at hp
      have hi' : i ∈ σ := by simpa [Ne.symm hj] using hi
      have ih := evIs_front σ hp.2 hi' (fun k hk => hc k (by simp [hk]))
      have hlt := hp.1 i hi'
      have := hc j (by simp) hlt s
      simp only [evIs]
      have e1 : (evI call l j s).bind (evIs call l σ) = ((evI call l j s).bind fun s => evI call l i s).bind (evIs call l (σ.erase i)) := by
        rw [Option.bind_assoc]
        congr 1
        funext s'
        rw [ih s']; rfl
      rw [e1, this, Option.bind_assoc]

theorem drwOk_spec : ∀ (l : List Q) (b : List (List Nat)) (i : Nat) (bef : List Q), drwOk l b i bef = true → bef.length = i → b.length = l.length ∧ ∀ k, k < l.length → (∀ j ∈ b.getD k [], j < i + k) ∧
    ∀ j, j < i + k → j ∈ b.getD k [] ∨ ∃ p q, (bef ++ l)[j]? = some p ∧ l[k]? = some q ∧ p.apart q = true
  | [], [], i, bef, _, _ => ⟨rfl, fun k hk => by simp at hk⟩
  | [], b :: bs, i, bef, h, _ => by simp [drwOk] at h
  | q :: l, [], i, bef, h, _ => by simp [drwOk] at h
  | q :: l, b :: bs, i, bef, h, hb => by
    simp only [drwOk, Bool.and_eq_true] at h
    obtain ⟨⟨h1, h2⟩, h3⟩ := h
    obtain ⟨k1, k2⟩ := drwOk_spec l bs (i + 1) (bef ++ [q]) h3 (by simp [hb])
    refine ⟨by simp [k1], fun k hk => ?_⟩
    cases k with
    | zero =>
      refine ⟨fun j hj => ?_, fun j hj => ?_⟩
      · have := List.all_eq_true.1 h1 j (by simpa using hj)
        simpa using this
      · have key : ∀ (ps : List Q) (m : Nat), drwOk.apartL q b m ps = true → ∀ j p, ps[j]? = some p → (m + j) ∈ b ∨ p.apart q = true := by
          intro ps
          induction ps with
          | nil => intro m _ j p hp; simp at hp
          | cons x ps ih =>
            intro m hm j p hp
            simp only [drwOk.apartL, Bool.and_eq_true, Bool.or_eq_true, List.elem_eq_mem, decide_eq_true_eq] at hm
            cases j with
            | zero => simp only [List.getElem?_cons_zero, Option.some.injEq] at hp; subst hp; simpa using hm.1
            | succ j =>
              simp only [List.getElem?_cons_succ] at hp
              have := ih (m + 1) hm.2 j p hp
              rwa [show m + 1 + j = m + (j + 1) from by omega] at this
        have hjl : j < bef.length := by omega
        rcases key bef 0 h2 j _ (List.getElem?_eq_getElem hjl) with hh | hh
        · left; simpa using hh
        · right; exact ⟨_, q, by rw [List.getElem?_append_left hjl, List.getElem?_eq_getElem hjl], by simp, hh⟩
    | succ k =>
      have hk' : k < l.length := by simpa using hk
      obtain ⟨m1, m2⟩ := k2 k hk'
      refine ⟨fun j hj => by have := m1 j (by simpa using hj); omega, fun j hj => ?_⟩
      rcases m2 j (by omega) with hh | ⟨p, q', hh1, hh2, hh3⟩
      · left; simpa using hh
      · right; exact ⟨p, q', by simpa using hh1, by simpa using hh2, hh3⟩

def left (n : Nat) (listed : Array Bool) : List Nat := (List.range n).filter fun i => !listed.getD i true

theorem pairwise_left (n : Nat) (listed : Array Bool) : (left n listed).Pairwise (· < ·) := List.Pairwise.filter _ List.pairwise_lt_range
theorem mem_left {n : Nat} {listed : Array Bool} {i : Nat} : i ∈ left n listed ↔ i < n ∧ listed.getD i true = false := by simp [left]

theorem getD_setB {c : Array Bool} {i j : Nat} {d : Bool} (h : i < c.size) : (c.setIfInBounds i true).getD j d = if i = j then true else c.getD j d := by
  simp only [Array.getD_eq_getD_getElem?, Array.getElem?_setIfInBounds]
  by_cases e : i = j
  · subst e; simp [h]
  · simp [e]
theorem left_set {n : Nat} {listed : Array Bool} (hs : listed.size = n) {i : Nat} (hi : i < n) : left n (listed.setIfInBounds i true) = (left n listed).erase i := by
  have hn : (left n listed).Nodup := List.Nodup.sublist List.filter_sublist List.nodup_range
  rw [hn.erase_eq_filter]
  unfold left
  rw [List.filter_filter]
  congr 1
  funext j
  rw [getD_setB (by omega)]
  by_cases e : i = j
  · subst e; simp
  · simp [e, Ne.symm e]

variable {ops : Array Oper}

theorem order_any {l : List Q} {b : List (List Nat)} (hl : l.length = ops.size) (hb : cAft ops = b) (hok : drwOk l b 0 [] = true) : ∀ (fuel t : Nat) (listed : Array Bool), listed.size = ops.size → (left ops.size listed).length = fuel →
    ∀ s, evIs call l (Region.linearise.go .any ops fuel t listed []) s = evIs call l (left ops.size listed) s := by
  obtain ⟨k1, k2⟩ := drwOk_spec l b 0 [] hok rfl
  have haft : ∀ i o, ops[i]? = some o → b.getD i [] = (o.after.toList.filter fun e => Region.binds .any e).map (·.on) := by
    intro i o ho
    subst hb
    have : ops.toList[i]? = some o := by simpa using ho
    simp [cAft, List.getD_eq_getElem?_getD, ho]
  intro fuel
  induction fuel with
  | zero =>
    intro t listed hs hn s
    have : left ops.size listed = [] := List.length_eq_zero_iff.1 hn
    rw [this]; rfl
  | succ fuel ih =>
    intro t listed hs hn s
    simp only [Region.linearise.go]
    -- the first unlisted one is ready
    have hready : ∃ x, x ∈ Region.ready .any ops listed := by
      cases hll : left ops.size listed with
      | nil => rw [hll] at hn; simp at hn
      | cons x r =>
        have hx : x ∈ left ops.size listed := by rw [hll]; simp
        obtain ⟨hxn, hxl⟩ := mem_left.1 hx
        refine ⟨x, ?_⟩
        simp only [Region.ready, List.mem_filter, List.mem_range, Bool.and_eq_true, Bool.not_eq_true']
        refine ⟨hxn, hxl, ?_⟩
        have ho : ops[x]? = some ops[x] := Array.getElem?_eq_getElem hxn
        rw [ho]
        simp only [Option.map_some, Option.getD_some, Array.all_eq_true_iff_forall_mem, Bool.or_eq_true, Bool.not_eq_true']
        intro e he
        by_cases hbd : Region.binds .any e = true
        · right
          have hm : e.on ∈ b.getD x [] := by
            rw [haft x _ ho]
            exact List.mem_map.2 ⟨e, List.mem_filter.2 ⟨by simpa using he, by simpa using hbd⟩, rfl⟩
          have hlt := (k2 x (by omega)).1 _ hm
          rw [Nat.zero_add] at hlt
          rcases Bool.eq_false_or_eq_true (listed.getD e.on true) with h | h
          · have h3 : e.on < listed.size := by omega
            simp only [Array.getD_eq_getD_getElem?, Array.getElem?_eq_getElem h3, Option.getD_some] at h ⊢
            exact h
          · have : e.on ∈ left ops.size listed := mem_left.2 ⟨by omega, h⟩
            rw [hll] at this
            rcases List.mem_cons.1 this with h' | h'
            · omega
            · have hp := pairwise_left ops.size listed
              rw [hll, List.pairwise_cons] at hp
              have := hp.1 _ h'
              omega
        · left; simpa using hbd
    change evIs call l (match (Region.ready .any ops listed)[t % (Region.ready .any ops listed).length]? with
      | some i => Region.linearise.go .any ops fuel (t / (Region.ready .any ops listed).length) (listed.setIfInBounds i true) [i]
      | none => [].reverse) s = _
    cases hi : (Region.ready .any ops listed)[t % (Region.ready .any ops listed).length]? with
    | none =>
      obtain ⟨x, hx⟩ := hready
      have hlt : t % (Region.ready .any ops listed).length < (Region.ready .any ops listed).length := Nat.mod_lt _ (List.length_pos_of_mem hx)
      rw [List.getElem?_eq_getElem hlt] at hi
      simp at hi
    | some i =>
      have him := List.mem_of_getElem? hi
      simp only [Region.ready, List.mem_filter, List.mem_range, Bool.and_eq_true, Bool.not_eq_true'] at him
      obtain ⟨hin, hiu, hia⟩ := him
      simp only []
      rw [linearise_go_acc, List.reverse_singleton, List.singleton_append]
      have himem : i ∈ left ops.size listed := mem_left.2 ⟨hin, hiu⟩
      have hset := left_set (n := ops.size) hs hin
      have ih' := ih (t / (Region.ready .any ops listed).length) (listed.setIfInBounds i true) (by simpa using hs) (by rw [hset, List.length_erase_of_mem himem, hn]; rfl)
      rw [evIs_front (left ops.size listed) (pairwise_left ..) himem (fun j hj hji s => ?_) s]
      · simp only [evIs]
        congr 1
        funext s'
        rw [ih' s', hset]
      · obtain ⟨hjn, hju⟩ := mem_left.1 hj
        have hnot : j ∉ b.getD i [] := by
          intro hm
          have ho : ops[i]? = some ops[i] := Array.getElem?_eq_getElem hin
          rw [haft i _ ho] at hm
          obtain ⟨e, he, hej⟩ := List.mem_map.1 hm
          obtain ⟨he1, he2⟩ := List.mem_filter.1 he
          rw [ho] at hia
          simp only [Option.map_some, Option.getD_some, Array.all_eq_true_iff_forall_mem, Bool.or_eq_true, Bool.not_eq_true'] at hia
          rcases hia e (by simpa using he1) with h | h
          · rw [he2] at h; simp at h
          · rw [hej] at h
            have h3 : j < listed.size := by omega
            simp only [Array.getD_eq_getD_getElem?, Array.getElem?_eq_getElem h3, Option.getD_some] at h hju
            rw [h] at hju; simp at hju
        rcases (k2 i (by omega)).2 j (by omega) with h | ⟨p, q, h1, h2, h3⟩
        · exact absurd h hnot
        · simp only [List.nil_append] at h1
          simp only [evI, h1, h2]
          exact comm_of_apart h3 s

theorem order_sched {l : List Q} {b : List (List Nat)} (hl : l.length = ops.size) (hb : cAft ops = b) (hok : drwOk l b 0 [] = true) (t : Nat) (s : St) :
    evIs call l (Region.schedule true ops t) s = evL call l s := by
  have : left ops.size (Array.replicate ops.size false) = List.range l.length := by
    rw [hl]
    unfold left
    rw [List.filter_eq_self]
    intro i hi
    simp at hi
    simp [Array.getD_eq_getD_getElem?, hi]
  rw [← evIs_range, ← this]
  simp only [Region.schedule, Bool.true_or, if_true, Region.linearise]
  refine order_any hl hb hok _ _ _ (by simp) ?_ s
  rw [this]; simp [hl]
end
end Go.Ev
