/- Functions that are known by a contract and leave memory as it is: strings.IndexByte, strings.TrimLeft at one byte. Own work. -/
import Derived.Test.YtbcpffhialoliaaEvNatM
import Derived.Lib.Bytealg
import Derived.Lib.TrimByte
namespace Go.Ev
open Go Go.RowKit
set_option linter.unusedVariables false
set_option linter.unusedSimpArgs false
theorem natOr_r {a b : Callee} {f : FuncId} {x : List AV} {H : Heap} (h : a f x H = none) : natOr a b f x H = b f x H := by unfold natOr; rw [h]
theorem natOr_l {a b : Callee} {f : FuncId} {x : List AV} {H : Heap} {r : AV × Heap} (h : a f x H = some r) : natOr a b f x H = some r := by unfold natOr; rw [h]
def natIB (k : FuncId) : Callee := fun f args H =>
  if f = k then
    match args with
    | [.d (.str s), .d (.int .u8 c)] => if 0 ≤ c ∧ c < 256 then some (.d (.int .i64 (Lib.indexByte s (UInt8.ofNat c.toNat))), H) else none
    | _ => none
  else none
theorem natIB_eq (k : FuncId) (s : List UInt8) (c : UInt8) (H : Heap) : natIB k k [.d (.str s), .d (.int .u8 c.toNat)] H = some (.d (.int .i64 (Lib.indexByte s c)), H) := by
  have h : (0 : Int) ≤ (c.toNat : Int) ∧ (c.toNat : Int) < 256 := by have := c.toNat_lt; omega
  simp only [natIB, if_true, if_pos h, Int.toNat_natCast, UInt8.ofNat_toNat]
theorem natIB_snd {P : Program} {k : FuncId} (hb : HasBody P k)
    (h1 : ∀ (s : ByteArray) (c : Int) (w : World), Calls P k #[.string s, .int .u8 c] w fun e w' => e = .returned (.int .i64 (Lib.indexByte s.data.toList c.toNat.toUInt8)) ∧ w' = w) : CallSnd P (natIB k) := by
  intro f args H r H' h
  unfold natIB at h
  split at h
  case isFalse => simp at h
  rename_i hf; subst hf
  split at h
  case h_2 => simp at h
  rename_i s c
  split at h
  case isFalse => simp at h
  simp only [Option.some.injEq, Prod.mk.injEq] at h
  obtain ⟨rfl, rfl⟩ := h
  refine ⟨hb, fun w S ρ cargs hr hlen hv => ?_⟩
  have e0 := hv 0 (by simp)
  have e1 := hv 1 (by simp)
  simp only [List.getD_cons_zero, List.getD_cons_succ] at e0 e1
  rw [arr2 hlen]
  generalize cargs.getD 0 undef = v0 at e0
  generalize cargs.getD 1 undef = v1 at e1
  cases e0.dr
  cases e1.dr
  exact (h1 _ _ w).mono fun e w' ⟨q1, q2⟩ => by subst q2; exact ⟨_, S, ρ, q1, Evo.refl hr, .d _ _ (.int ..)⟩
def natTL (k : FuncId) : Callee := fun f args H =>
  if f = k then
    match args with
    | [.d (.str s), .d (.str [c])] => if c.toNat < 128 then some (.d (.str (s.dropWhile (· == c))), H) else none
    | _ => none
  else none
theorem natTL_eq (k : FuncId) (s : List UInt8) (c : UInt8) (hc : c.toNat < 128) (H : Heap) : natTL k k [.d (.str s), .d (.str [c])] H = some (.d (.str (s.dropWhile (· == c))), H) := by
  simp only [natTL, if_true, if_pos hc]
theorem natTL_snd {P : Program} {k : FuncId} (hb : HasBody P k)
    (h1 : ∀ (s : ByteArray) (c : UInt8), c.toNat < 128 → ∀ (w : World), Calls P k #[.string s, .string ⟨#[c]⟩] w fun e w' => e = .returned (.string ⟨(Lib.trimLeftB s.data.toList c).toArray⟩) ∧ w' = w) : CallSnd P (natTL k) := by
  intro f args H r H' h
  unfold natTL at h
  split at h
  case isFalse => simp at h
  rename_i hf; subst hf
  split at h
  case h_2 => simp at h
  rename_i s c
  split at h
  case isFalse => simp at h
  rename_i hc
  simp only [Option.some.injEq, Prod.mk.injEq] at h
  obtain ⟨rfl, rfl⟩ := h
  refine ⟨hb, fun w S ρ cargs hr hlen hv => ?_⟩
  have e0 := hv 0 (by simp)
  have e1 := hv 1 (by simp)
  simp only [List.getD_cons_zero, List.getD_cons_succ] at e0 e1
  rw [arr2 hlen]
  generalize cargs.getD 0 undef = v0 at e0
  generalize cargs.getD 1 undef = v1 at e1
  cases e0.dr
  cases e1.dr
  exact (h1 _ c hc w).mono fun e w' ⟨q1, q2⟩ => by subst q2; exact ⟨_, S, ρ, q1, Evo.refl hr, .d _ _ (.str _)⟩
end Go.Ev
