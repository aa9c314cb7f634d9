/- Functions that are known by a contract: how a contract that leaves old memory alone becomes one of the evaluator's; strings.Join. Own work. -/
import Derived.Test.YtbcpffhialoliaaEvArg
import Derived.Lib.Join
namespace Go.Ev
open Go Go.RowKit
set_option linter.unusedVariables false
set_option linter.unusedSimpArgs false

theorem call_nat {ir : IR} {f : FuncId} (hf : ir.fn f = none) (x : List AV) (H : Heap) : call ir f x H = ir.nat f x H := by
  apply Option.ext
  intro r
  constructor
  · intro h
    obtain ⟨n, hn⟩ := call_inv h
    cases n with
    | zero => simp [callN] at hn
    | succ n => rw [callN, hf] at hn; exact hn
  · intro h
    refine call_of (n := 1) ?_
    rw [callN, hf]; exact h

theorem evo_of_below {w w' : World} {S : Sta} {ρ : Pos} (hr : Rel w S ρ []) (hb : Below w.heap.size w w') : Evo w S ρ [] w' S ρ [] := by
  have hlt : ∀ g, g < w.heap.size → w'.heap[g]? = w.heap[g]? := hb.block
  refine ⟨⟨fun i => by simp [BlkR], fun i j g β γ h => by simp [Blk.mut] at h, hr.lim, fun i g β h => Nat.lt_of_lt_of_le (hr.rlt i g β h) hb.size, fun g h => Nat.lt_of_lt_of_le (hr.slt g h) hb.size, hr.gl.mono (fun _ h => h) fun g hg => hlt g (hr.slt g hg)⟩, Nat.le_refl _, fun _ _ => rfl, fun _ _ h => h,
    fun _ h => h, fun _ h => .inl h, fun g hg _ => hlt g hg, fun _ h => .inl h, fun g c e f h => ?_, hb.size, hb.os, hb.tape, hb.output, fun _ _ _ h => h⟩
  have hg : g < w.heap.size := (Array.getElem?_eq_some_iff.1 h).1
  exact ⟨c, f, by rw [hlt g hg]; exact h, rfl⟩

/-- Two kinds of known functions side by side. -/
def natOr (a b : Callee) : Callee := fun f x H => match a f x H with
  | some r => some r
  | none => b f x H
theorem natOr_snd {P : Program} {a b : Callee} (ha : CallSnd P a) (hb : CallSnd P b) : CallSnd P (natOr a b) := by
  intro f args H r H' h
  unfold natOr at h
  split at h
  · rename_i q hq; injection h with h; subst h; exact ha f args H r H' hq
  · exact hb f args H r H' h
def natNo : Callee := fun _ _ _ => none
theorem natNo_snd {P : Program} : CallSnd P natNo := fun f args H r H' h => by simp [natNo] at h

/-! ### strings.Join -/
def strsOf : List (List D) → Option (List (List UInt8))
  | [] => some []
  | [.str s] :: l => match strsOf l with
    | some r => some (s :: r)
    | none => none
  | _ :: _ => none
theorem strsOf_map : ∀ l : List (List UInt8), strsOf (l.map fun s => [.str s]) = some l
  | [] => rfl
  | s :: l => by simp only [List.map_cons, strsOf, strsOf_map l]
theorem strsOf_inv : ∀ {xs : List (List D)} {l : List (List UInt8)}, strsOf xs = some l → xs = l.map fun s => [.str s]
  | [], l, h => by simp [strsOf] at h; subst h; rfl
  | x :: xs, l, h => by
    unfold strsOf at h
    split at h
    · rename_i e; simp at e
    · rename_i s r e
      simp only [List.cons.injEq] at e
      obtain ⟨rfl, rfl⟩ := e
      split at h
      · rename_i q hq
        injection h with h; subst h
        rw [strsOf_inv hq]; rfl
      · simp at h
    · simp at h
def joinOk (l : List (List UInt8)) (sep : List UInt8) : Prop := l.length ≤ 140737488355328 ∧ (Lib.join l sep).length ≤ 140737488355328
instance (l : List (List UInt8)) (sep : List UInt8) : Decidable (joinOk l sep) := by unfold joinOk; infer_instance
def natJoin (k : FuncId) : Callee := fun f args H =>
  if f = k then
    match args, H with
    | [.d (.list 1 xs), .d (.str sep)], [] => match strsOf xs with
      | some l => if joinOk l sep then some (.d (.str (Lib.join l sep)), []) else none
      | none => none
    | _, _ => none
  else none
theorem natJoin_eq (k : FuncId) (l : List (List UInt8)) (sep : List UInt8) : natJoin k k [.d (.list 1 (l.map fun s => [.str s])), .d (.str sep)] [] = if joinOk l sep then some (.d (.str (Lib.join l sep)), []) else none := by
  simp only [natJoin, if_true, strsOf_map]
theorem natJoin_snd {P : Program} {k : FuncId} (hb : HasBody P k)
    (h0 : ∀ (a : Option Addr) (c : Nat) (sep : ByteArray) (w : World), Calls P k #[.slice a 0 c, .string sep] w fun e w' => e = .returned (.string ⟨#[]⟩) ∧ w' = w)
    (h1 : ∀ (bk o c : Nat) (xs : List ByteArray) (sep : ByteArray) (w : World), (∀ (j : Nat) x, xs[j]? = some x → w.cell? ⟨bk, o + j, none⟩ = some (.string x)) → bk < w.heap.size → xs.length ≤ 140737488355328 → xs.length ≤ c →
      (Lib.join (xs.map (·.data.toList)) sep.data.toList).length ≤ 140737488355328 →
      Calls P k #[.slice (some ⟨bk, o, none⟩) xs.length c, .string sep] w fun e w' => e = .returned (.string ⟨(Lib.join (xs.map (·.data.toList)) sep.data.toList).toArray⟩) ∧ Below w.heap.size w w') : CallSnd P (natJoin k) := by
  intro f args H r H' h
  unfold natJoin at h
  split at h
  case isFalse => simp at h
  rename_i hf; subst hf
  split at h
  case h_2 => simp at h
  rename_i xs sep
  split at h
  case h_2 => simp at h
  rename_i l hl
  split at h
  case isFalse => simp at h
  rename_i hok
  simp only [Option.some.injEq, Prod.mk.injEq] at h
  obtain ⟨rfl, rfl⟩ := h
  obtain rfl := strsOf_inv hl
  refine ⟨hb, fun w S ρ cargs hr hlen hv => ?_⟩
  have e0 := hv 0 (by simp)
  have e1 := hv 1 (by simp)
  simp only [List.getD_cons_zero, List.getD_cons_succ] at e0 e1
  have hc : cargs = #[cargs.getD 0 undef, cargs.getD 1 undef] := by
    apply Array.ext
    · simpa using hlen.symm
    · intro i h1 h2
      have : i = 0 ∨ i = 1 := by simp at h2; omega
      have hs : 2 = cargs.size := hlen
      rcases this with rfl | rfl <;> simp [Array.getD, ← hs]
  rw [hc]
  generalize cargs.getD 0 undef = v0 at e0
  generalize cargs.getD 1 undef = v1 at e1
  cases e1.dr
  cases e0.dr with
  | list _ _ a n cap b o c hn hcap ha hcell hw hd =>
  rw [List.length_map] at hn hcap ha hcell hw hd
  by_cases hl0 : l.length = 0
  · have : l = [] := List.eq_nil_of_length_eq_zero hl0
    subst this
    obtain rfl : n = 0 := hn
    refine (h0 a cap ⟨sep.toArray⟩ w).mono fun e w' ⟨he, hw'⟩ => ?_
    subst hw'
    exact ⟨_, S, ρ, he, Evo.refl hr, .d _ _ (.str [])⟩
  · obtain ⟨rfl, hS⟩ := ha (by omega)
    subst hn
    have hm : (l.map fun s : List UInt8 => ByteArray.mk s.toArray).map (·.data.toList) = l := by
      rw [List.map_map]
      conv => rhs; rw [← List.map_id l]
      exact List.map_congr_left fun s _ => by simp
    have key := h1 b o cap (l.map fun s => ⟨s.toArray⟩) ⟨sep.toArray⟩ w (fun j x hx => by
      rw [List.getElem?_map, Option.map_eq_some_iff] at hx
      obtain ⟨s, hs, rfl⟩ := hx
      obtain ⟨hj, hs⟩ := List.getElem?_eq_some_iff.1 hs
      rw [(hcell j (by omega)).1]
      have := hd j hj 0 (by omega)
      have e : ((l.map fun s : List UInt8 => [D.str s]).getD j []).getD 0 .nilp = .str s := by simp [List.getD_eq_getElem?_getD, hj, hs]
      rw [e, Nat.mul_one, Nat.add_zero] at this
      cases hck : c j <;> rw [hck] at this <;> cases this
      rfl) (hr.slt b hS) (by simpa using hok.1) (by simpa using hcap) (by rw [hm]; simpa using hok.2)
    rw [hm, List.length_map] at key
    refine key.mono fun e w' ⟨he, hb⟩ => ⟨_, S, ρ, he, evo_of_below hr hb, .d _ _ ?_⟩
    simpa using DR.str _
end Go.Ev
