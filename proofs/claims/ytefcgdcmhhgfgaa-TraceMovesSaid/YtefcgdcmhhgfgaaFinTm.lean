/- TraceMoves holds for every input. No conditions. -/
import Derived.Test.YtefcgdcmhhgfgaaRows
import Derived.Test.YtefcgdcmhhgfgaaTrn
import Derived.Test.YtefcgdcmhhgfgaaEvArg
import Derived.ProofKit
namespace Go.Proofs.Ytefcgdcmhhgfgaa
open Go Go.ChangeShapes Go.WideShapes Go.ChangeAt Go.RowKit Go.Ev
set_option linter.unusedVariables false
set_option linter.unusedSimpArgs false
theorem Try.own : ownKnob Try.prog.godebug = Option.none := by kernel_rfl
theorem Try.laidOut : laidOutB Try.prog = true := by kernel_rfl
theorem sh0 : shOf Try.prog 50 56 = some (.i .i64 (.i .i64 (.s (.s (.i .i64 (.i .u64 (.i .i64 (.i .i64 .nil)))))))) := by kernel_rfl
theorem sh1 : shOf Try.prog 50 5 = some (.i .u8 .nil) := by kernel_rfl
theorem sh2 : shOf Try.prog 50 3 = some (.i .i64 .nil) := by kernel_rfl
theorem prms : Try.f7.params.toList = [56, 5, 3] := by rw [Try.params7]
theorem law_calls_true : ∀ dss, OkAll Try.prog Try.f7.params.toList dss → call Ir.ir 7 (argsA Try.prog Try.f7.params.toList dss) [] = some (.d (.bool true), []) := by
  intro dss h
  rw [prms] at h ⊢
  obtain ⟨_, _, rfl, h0, h⟩ := okAll_cons sh0 h
  obtain ⟨_, _, rfl, h1, h⟩ := okAll_cons sh1 h
  obtain ⟨_, _, rfl, h2, h⟩ := okAll_cons sh2 h
  obtain rfl := okAll_nil h
  obtain ⟨a1, _, rfl, p1, q1, h0⟩ := ok_i h0
  obtain ⟨a2, _, rfl, p2, q2, h0⟩ := ok_i h0
  obtain ⟨a3, _, rfl, q3, h0⟩ := ok_s h0
  obtain ⟨a4, _, rfl, q4, h0⟩ := ok_s h0
  obtain ⟨a5, _, rfl, p5, q5, h0⟩ := ok_i h0
  obtain ⟨a6, _, rfl, p6, q6, h0⟩ := ok_i h0
  obtain ⟨a7, _, rfl, p7, q7, h0⟩ := ok_i h0
  obtain ⟨a8, _, rfl, p8, q8, h0⟩ := ok_i h0
  obtain rfl := ok_n h0
  obtain ⟨k, _, rfl, pk, qk, h1⟩ := ok_i h1
  obtain ⟨ph, _, rfl, pp, qp, h2⟩ := ok_i h2
  have i64 : ∀ n, IntKind.i64.min ≤ n → n ≤ IntKind.i64.max → I64 n := fun n h1 h2 => by
    simp [IntKind.min, IntKind.max, IntKind.signed, IntKind.bits] at h1 h2; unfold I64; omega
  simp [IntKind.min, IntKind.max, IntKind.signed, IntKind.bits] at p6 q6 pk qk
  simp [reachBytes] at q3 q4
  obtain ⟨m, rfl⟩ := Int.eq_ofNat_of_zero_le p6
  simp only [argsA, argA_st Try.underlying56, argA_i Try.underlying5, argA_i Try.underlying3]
  exact t_TraceMoves a1 a2 a3 a4 a5 m a7 a8 (i64 _ p2 q2) (i64 _ p5 q5) (by omega) (i64 _ p7 q7) (i64 _ p8 q8) (by omega) (by omega) k ph ⟨pk, by omega⟩
theorem law_lifted (os : Os) (started : os.Started) (H : Type) (enc : TypeId × Value → H) :
    ReturnsInHanded {} Try.checked os 7 .any (Rows.traceMovesSpec.pre6 enc Try.prog Try.f7 Rows.traceMovesRow.domain false) (Rows.traceMovesSpec.post enc Try.prog Try.f7 false true false false) := by
  refine returns_of (C := Try.checked) Try.own started (by kernel_rfl) Ir.tab Try.func7 Try.laidOut (tb := 4) (fn := Try.f7) (by kernel_rfl) Try.underlying4 rfl ?_ ?_ law_calls_true true false
    (ChangeSpec.witness6 (enc := enc) (C := Try.checked) false ⟨#[], #[.agg #[.int .i64 0, .int .i64 0, .string ⟨#[]⟩, .string ⟨#[]⟩, .int .i64 0, .int .u64 0, .int .i64 0, .int .i64 0], .int .u8 0, .int .i64 0], []⟩ 12 (by kernel_rfl) (by kernel_rfl) (by kernel_rfl) (by kernel_rfl))
  · intro ds hd
    have hd2 : ds.length = 3 := hd
    match ds, hd2 with
    | [_, _, _], _ => rfl
  · intro t ht
    have : t = 56 ∨ t = 5 ∨ t = 3 := by
      have h2 : t ∈ Try.f7.params.toList := ht
      rw [prms] at h2; simpa using h2
    rcases this with rfl | rfl | rfl
    · exact ⟨⟨_, sh0⟩, by kernel_rfl, of_decide_eq_true (by kernel_rfl)⟩
    · exact ⟨⟨_, sh1⟩, by kernel_rfl, of_decide_eq_true (by kernel_rfl)⟩
    · exact ⟨⟨_, sh2⟩, by kernel_rfl, of_decide_eq_true (by kernel_rfl)⟩
theorem traceMoves_holds : Rows.TraceMovesSaid :=
  OpenClaim.holds_of_wide 7 Try.f7 rfl rfl rfl rfl rfl rfl rfl ⟨rfl, rfl, rfl, rfl, rfl⟩ rfl rfl rfl rfl rfl (by kernel_rfl) Try.func7 (by kernel_rfl)
    (of_decide_eq_true (by kernel_rfl)) (by unfold Func.isWrapper; first | (rw [if_pos (by decide +kernel)]; kernel_rfl) | (rw [if_neg (by decide +kernel)]; exact ⟨rfl, rfl⟩))
    (fun os started H enc _ => law_lifted os started H enc)
end Go.Proofs.Ytefcgdcmhhgfgaa
