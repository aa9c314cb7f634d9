/- Functions that are known by a contract: bitmap.List (all numbers of a set of 65 words, the lowest first). Own work. -/
import Derived.Test.YtoipfdbdifoecaaGreatDoorEvNatS
import Derived.Test.YtoipfdbdifoecaaGreatDoorEvBl
namespace Go.Ev
open Go Go.RowKit Go.Maps
set_option linter.unusedVariables false
set_option linter.unusedSimpArgs false
def allW : List AV → Option (List (BitVec 64))
  | [] => some []
  | .d (.int .u64 n) :: t => if 0 ≤ n ∧ n < 18446744073709551616 then (match allW t with
    | some r => some (BitVec.ofInt 64 n :: r)
    | none => none) else none
  | _ :: _ => none
def wordsV (ws : List (BitVec 64)) : List Value := ws.map fun (a : BitVec 64) => Value.int .u64 (a.toNat : Int)
def fnW (ws : List (BitVec 64)) : Nat → BitVec 64 := fun j => ws.getD j 0#64
def natBL (k : FuncId) : Callee := fun f args H =>
  if f = k then
    match args, H with
    | [.agg cs], [] => match allW cs with
      | some ws => if ws.length = 65 then some (.d (.list 1 (intRows ((restW (fnW ws) 65 0).map fun (x : Nat) => (x : Int)))), []) else none
      | none => none
    | _, _ => none
  else none
theorem natBL_eq (k : FuncId) {cs : List AV} {ws : List (BitVec 64)} (h : allW cs = some ws) (hl : ws.length = 65) : natBL k k [.agg cs] [] = some (.d (.list 1 (intRows ((restW (fnW ws) 65 0).map fun (x : Nat) => (x : Int)))), []) := by
  simp only [natBL, if_true, h, hl]
theorem allW_vr {w : World} {S : Sta} {ρ : Pos} : ∀ {cs : List AV} {ws : List (BitVec 64)} {vs : List Value}, allW cs = some ws → cs.length = vs.length → (∀ i, i < cs.length → VR w S ρ (cs.getD i .unk) (vs.getD i undef)) → vs = wordsV ws
  | [], ws, vs, h, hl, _ => by
    simp [allW] at h; subst h
    have : vs = [] := List.eq_nil_of_length_eq_zero (by simpa using hl.symm)
    rw [this]; rfl
  | c :: cs, ws, vs, h, hl, hv => by
    unfold allW at h
    split at h
    · rename_i h0; simp at h0
    · rename_i n t h0
      simp only [List.cons.injEq] at h0
      obtain ⟨rfl, rfl⟩ := h0
      split at h
      case isFalse => simp at h
      rename_i hn
      split at h
      case h_2 => simp at h
      rename_i r hr
      injection h with h; subst h
      cases vs with
      | nil => simp at hl
      | cons v vs =>
        have e0 := hv 0 (by simp)
        simp only [List.getD_cons_zero] at e0
        have e1 : v = .int .u64 n := by cases e0.dr; rfl
        have := allW_vr (vs := vs) hr (by simpa using hl) (fun i hi => by have := hv (i + 1) (by simp; omega); simpa using this)
        rw [this, e1]
        have e2 : ((BitVec.ofInt 64 n).toNat : Int) = n := by
          rw [BitVec.toNat_ofInt]; omega
        show Value.int .u64 n :: wordsV r = Value.int .u64 ((BitVec.ofInt 64 n).toNat : Int) :: wordsV r
        rw [e2]
    · simp at h
theorem natBL_snd {P : Program} {k ty : FuncId} (hb : HasBody P k) (hg : ∀ (w : World) (S : Sta) (ρ : Pos), Rel w S ρ [] → ∀ (ws : List (BitVec 64)), ws.length = 65 →
      Calls P k #[.agg (wordsV ws).toArray] w fun e w' => ∃ v, e = .returned v ∧ w'.ownsRow w.heap.size ty 1 v (restW (fnW ws) 65 0).length ((restW (fnW ws) 65 0).map fun (x : Nat) => Value.int .i64 (x : Int)) ∧ Below w.heap.size w w') : CallSnd P (natBL k) := by
  intro f args H r H' h
  unfold natBL at h
  split at h
  case isFalse => simp at h
  rename_i hf; subst hf
  split at h
  case h_2 => simp at h
  rename_i cs
  split at h
  case h_2 => simp at h
  rename_i ws hws
  split at h
  case isFalse => simp at h
  rename_i hl
  simp only [Option.some.injEq, Prod.mk.injEq] at h
  obtain ⟨rfl, rfl⟩ := h
  refine ⟨hb, fun w S ρ cargs hr hlen hv => ?_⟩
  have e0 := hv 0 (by simp)
  simp only [List.getD_cons_zero] at e0
  rw [arr1 hlen]
  generalize cargs.getD 0 undef = v0 at e0
  obtain ⟨vs, rfl, a1, _, a3⟩ := agg_inv e0
  have e1 : vs = (wordsV ws).toArray := by
    have := allW_vr (vs := vs.toList) hws (by simpa using a1) (fun i hi => by rw [toList_getD]; exact a3 i hi)
    rw [← this]
  rw [e1]
  refine (hg w S ρ hr ws hl).mono fun e w' ⟨v', he, how, hbl⟩ => ⟨_, _, ρ, he, evo_below_any hr hbl, .d _ _ ?_⟩
  refine dr_row (base := w.heap.size) (ty := ty) ?_ fun g h1 h2 => .inr ⟨h1, h2⟩
  rw [List.length_map, List.map_map]
  exact how
end Go.Ev
