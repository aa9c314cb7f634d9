/- The records that an index needs, alone, are the same index: the plain law. Own work. -/
import Derived.Test.YtoipfdbdifoecaaAcc
namespace Go.Proofs.Ytoipfdbdifoecaa
open Go Go.Ev Go.Proofs.Ytoipfdbdifoecaa.Ir
set_option maxRecDepth 100000
set_option linter.unusedSimpArgs false
set_option linter.unusedVariables false
/-- What a record does. -/
inductive Ac where
  | no
  | bind (o : Nat) (g : Int) (s : List UInt8) (l t : Int)
  | drop (o : Nat) (g : Int)
  | piece (o : Nat) (g i : Int)
def acOf (e : En) : Ac :=
  if e.kind = 2 then match gbind e.d with
    | some (o, g, s, l, t) => .bind o.toNat g s l t
    | none => .no
  else if e.kind = 3 then match gpiece e.d with
    | some (o, g, i, _) => .piece o.toNat g i
    | none => .no
  else if e.kind = 4 ∨ e.kind = 5 then match gdrop e.d with
    | some (o, g) => .drop o.toNat g
    | none => .no
  else .no
def doAc (x : Nat → Sl) (e : En) : Ac → Nat → Sl
  | .no => x
  | .bind o g s l t => xs x o (bound (x o) o g s l t e.a1 e.a2)
  | .drop o g => xs x o (forg (x o) g e.a1 e.a2)
  | .piece o g i => xs x o (pie (x o) g i e.a1 e.a2)
theorem oneF_ac (x : Nat → Sl) (e : En) : oneF x e = doAc x e (acOf e) := by
  unfold oneF acOf
  split
  · cases gbind e.d <;> rfl
  · split
    · cases gpiece e.d <;> rfl
    · split
      · cases gdrop e.d <;> rfl
      · rfl
/-- Whether a record is one that an index needs. -/
def lvAc (x : Nat → Sl) (e : En) : Ac → Prop
  | .no => False
  | .bind o g _ _ _ => (x o).b = true ∧ (x o).a1 = e.a1 ∧ (x o).a2 = e.a2 ∧ (x o).g = g
  | .drop o g => 0 < (x o).fl ∧ (x o).t1 = e.a1 ∧ (x o).t2 = e.a2 ∧ (x o).fl = g
  | .piece o g i => findM i (pmL (x o).pm) = some (e.a1, e.a2) ∧ (x o).g = g
theorem slF_nat (x : Nat → Sl) {o : Int} (h : 0 ≤ o ∧ o < 16) : slF x o = x o.toNat := by simp only [slF, h, and_self, if_true]
theorem gbind_g {b : List UInt8} {o g l t : Int} {s : List UInt8} (h : gbind b = some (o, g, s, l, t)) : 1 ≤ g := by
  unfold gbind at h
  split at h
  · rename_i hc
    have := hc.2.1.1.2
    simp only [Option.some.injEq, Prod.mk.injEq] at h
    obtain ⟨_, rfl, _⟩ := h
    omega
  · simp at h
theorem gdrop_g {b : List UInt8} {o g : Int} (h : gdrop b = some (o, g)) : 1 ≤ g := by
  unfold gdrop at h
  split at h
  · rename_i hc
    have := hc.2.2.2
    simp only [Option.some.injEq, Prod.mk.injEq] at h
    obtain ⟨_, rfl⟩ := h
    omega
  · simp at h
theorem liveF_ac (x : Nat → Sl) (e : En) : liveF x e = true ↔ lvAc x e (acOf e) := by
  unfold liveF acOf
  split
  · cases hg : gbind e.d with
    | none => simp [lvAc]
    | some r =>
      obtain ⟨o, g, s, l, t⟩ := r
      obtain ⟨h1, h2⟩ := gbind_o hg
      have := slF_nat x (o := o) (by omega)
      simp only [this, lvAc, Bool.and_eq_true, beq_iff_eq, decide_eq_true_eq]
      constructor
      · rintro ⟨⟨a, b, c⟩, d⟩; exact ⟨a, b, c, d⟩
      · rintro ⟨a, b, c, d⟩; exact ⟨⟨a, b, c⟩, d⟩
  · split
    · cases hg : gpiece e.d with
      | none => simp [lvAc]
      | some r =>
        obtain ⟨o, g, i, s⟩ := r
        obtain ⟨h1, h2⟩ := gpiece_o hg
        have := slF_nat x (o := o) (by omega)
        simp only [this, lvAc, atF, Bool.and_eq_true, beq_iff_eq, decide_eq_true_eq]
        cases findM i (pmL (x o.toNat).pm) with
        | none => simp
        | some p =>
          obtain ⟨p, q⟩ := p
          simp only [Option.isSome_some, Option.getD_some, true_and, Option.some.injEq, Prod.mk.injEq]
    · split
      · cases hg : gdrop e.d with
        | none => simp [lvAc]
        | some r =>
          obtain ⟨o, g⟩ := r
          obtain ⟨h1, h2⟩ := gdrop_o hg
          have := slF_nat x (o := o) (by omega)
          simp only [this, lvAc, Bool.and_eq_true, beq_iff_eq, decide_eq_true_eq]
          constructor
          · rintro ⟨⟨a, b, c⟩, d⟩; exact ⟨a, b, c, d⟩
          · rintro ⟨a, b, c, d⟩; exact ⟨⟨a, b, c⟩, d⟩
      · simp [lvAc]
theorem acOf_g {e : En} : (∀ o g s l t, acOf e = .bind o g s l t → 1 ≤ g) ∧ (∀ o g, acOf e = .drop o g → 1 ≤ g) ∧ (¬ e.kind = 3 → ∀ o g i, acOf e ≠ .piece o g i) ∧ (e.kind = 3 → acOf e = .no ∨ ∃ o g i, acOf e = .piece o g i) := by
  unfold acOf
  split
  · rename_i hk
    cases hg : gbind e.d with
    | none => simp [hk]
    | some r =>
      obtain ⟨o, g, s, l, t⟩ := r
      have := gbind_g hg
      refine ⟨fun o' g' s' l' t' h => ?_, fun o' g' h => by simp at h, fun _ o' g' i' h => by simp at h, fun h => by omega⟩
      simp only [Ac.bind.injEq] at h
      omega
  · split
    · rename_i h2 h3
      cases hg : gpiece e.d with
      | none => simp [h3]
      | some r => obtain ⟨o, g, i, s⟩ := r; simp [h3]
    · split
      · rename_i h2 h3 h4
        cases hg : gdrop e.d with
        | none => simp [h3]
        | some r =>
          obtain ⟨o, g⟩ := r
          have := gdrop_g hg
          refine ⟨fun o' g' s' l' t' h => by simp at h, fun o' g' h => ?_, fun _ o' g' i' h => by simp at h, fun h => absurd h h3⟩
          simp only [Ac.drop.injEq] at h
          omega
      · rename_i h2 h3 h4; simp [h3]

/-! ### binds and drops -/
def atOf (e : En) : Int × Int := (e.a1, e.a2)
/-- What an index is behind records. -/
structure Wf (l : List En) (x : Nat → Sl) : Prop where
  up : ∀ k, (x k).b = true → (x k).fl < (x k).g ∧ (x k).o = k
  un : ∀ k, (x k).b = false → (x k).o = 0 ∧ (x k).g = 0 ∧ (x k).tag = [] ∧ (x k).len = 0 ∧ (x k).tick = 0 ∧ (x k).a1 = 0 ∧ (x k).a2 = 0
  pm : ∀ k, (x k).pm = none
  fl : ∀ k, 0 ≤ (x k).fl ∧ ((x k).fl = 0 → (x k).t1 = 0 ∧ (x k).t2 = 0)
  at1 : ∀ k, (x k).b = true → ∃ e ∈ l, ((x k).a1, (x k).a2) = atOf e
  at2 : ∀ k, 0 < (x k).fl → ∃ e ∈ l, ((x k).t1, (x k).t2) = atOf e
theorem Wf.start : Wf [] X0 := ⟨fun k h => by simp [X0, S0] at h, fun k _ => by simp [X0, S0], fun k => rfl, fun k => by simp [X0, S0], fun k h => by simp [X0, S0] at h, fun k h => by simp [X0, S0] at h⟩
/-- One object's part, with its floor or not, with its bind or not. -/
def resS (cf cb : Bool) (s : Sl) : Sl := ⟨cb && s.b, if cb then s.o else 0, if cb then s.g else 0, if cb then s.tag else [], if cb then s.len else 0, if cb then s.tick else 0, if cb then s.a1 else 0, if cb then s.a2 else 0, none, if cf then s.fl else 0, if cf then s.t1 else 0, if cf then s.t2 else 0⟩
def resX (c : Nat → Bool × Bool) (x : Nat → Sl) : Nat → Sl := fun k => resS (c k).1 (c k).2 (x k)
def cin (c : Nat → Bool × Bool) : Ac → Bool
  | .bind o .. => (c o).2
  | .drop o _ => (c o).1
  | _ => false
instance (x : Nat → Sl) (e : En) : (a : Ac) → Decidable (lvAc x e a)
  | .no => by unfold lvAc; infer_instance
  | .bind .. => by unfold lvAc; infer_instance
  | .drop .. => by unfold lvAc; infer_instance
  | .piece .. => by unfold lvAc; infer_instance
def keepB (c : Nat → Bool × Bool) (x : Nat → Sl) (e : En) : Bool := cin c (acOf e) && decide (lvAc x e (acOf e))
def cset (c : Nat → Bool × Bool) (o : Nat) (p : Bool × Bool) : Nat → Bool × Bool := fun k => if k = o then p else c k
theorem xs_same (x : Nat → Sl) (o : Nat) (s : Sl) : xs x o s o = s := by simp [xs]
theorem xs_other (x : Nat → Sl) {o k : Nat} (s : Sl) (h : k ≠ o) : xs x o s k = x k := by simp [xs, h]
theorem xs_self (x : Nat → Sl) (o : Nat) : xs x o (x o) = x := by funext k; unfold xs; split <;> simp_all
theorem snoc_ind {α : Type} {P : List α → Prop} (h0 : P []) (h1 : ∀ l a, P l → P (l ++ [a])) : ∀ l, P l := by
  intro l
  have : P l.reverse.reverse := by
    induction l.reverse with
    | nil => exact h0
    | cons a r ih => rw [List.reverse_cons]; exact h1 _ _ ih
  simpa using this
end Go.Proofs.Ytoipfdbdifoecaa
