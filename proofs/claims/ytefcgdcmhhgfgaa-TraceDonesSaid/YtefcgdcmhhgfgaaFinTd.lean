/- TraceDones holds for every input. No conditions. -/
import Derived.Test.YtefcgdcmhhgfgaaRows
import Derived.Test.YtefcgdcmhhgfgaaTrd
import Derived.Test.YtefcgdcmhhgfgaaEvArg
import Derived.ProofKit
namespace Go.Proofs.Ytefcgdcmhhgfgaa
open Go Go.ChangeShapes Go.WideShapes Go.ChangeAt Go.RowKit Go.Ev
set_option linter.unusedVariables false
set_option linter.unusedSimpArgs false
theorem Try.own : ownKnob Try.prog.godebug = Option.none := by kernel_rfl
theorem Try.laidOut : laidOutB Try.prog = true := by kernel_rfl
theorem sh0 : shOf Try.prog 50 67 = some (.i .i64 (.s (.s (.i .i64 (.i .i64 (.i .i64 (.i .i64 (.i .i64 (.s (.s (.sl (.i .u8 .nil) 1 .nil))))))))))) := by kernel_rfl
theorem sh1 : shOf Try.prog 50 69 = some (.i .i64 (.i .i64 (.i .i64 (.i .i64 .nil)))) := by kernel_rfl
theorem prms : Try.f8.params.toList = [67, 69] := by rw [Try.params8]
theorem law_calls_true : ∀ dss, OkAll Try.prog Try.f8.params.toList dss → call Ir.ir 8 (argsA Try.prog Try.f8.params.toList dss) [] = some (.d (.bool true), []) := by
  intro dss h
  rw [prms] at h ⊢
  obtain ⟨_, _, rfl, h0, h⟩ := okAll_cons sh0 h
  obtain ⟨_, _, rfl, h1, h⟩ := okAll_cons sh1 h
  obtain rfl := okAll_nil h
  obtain ⟨a1, _, rfl, p1, q1, h0⟩ := ok_i h0
  obtain ⟨a2, _, rfl, q2, h0⟩ := ok_s h0
  obtain ⟨a3, _, rfl, q3, h0⟩ := ok_s h0
  obtain ⟨a4, _, rfl, p4, q4, h0⟩ := ok_i h0
  obtain ⟨a5, _, rfl, p5, q5, h0⟩ := ok_i h0
  obtain ⟨a6, _, rfl, p6, q6, h0⟩ := ok_i h0
  obtain ⟨a7, _, rfl, p7, q7, h0⟩ := ok_i h0
  obtain ⟨a8, _, rfl, p8, q8, h0⟩ := ok_i h0
  obtain ⟨a9, _, rfl, q9, h0⟩ := ok_s h0
  obtain ⟨b1, _, rfl, r1, h0⟩ := ok_s h0
  obtain ⟨xs, _, rfl, r2, r3, h0⟩ := ok_sl h0
  obtain rfl := ok_n h0
  obtain ⟨c1, _, rfl, s1, t1, h1⟩ := ok_i h1
  obtain ⟨c2, _, rfl, s2, t2, h1⟩ := ok_i h1
  obtain ⟨c3, _, rfl, s3, t3, h1⟩ := ok_i h1
  obtain ⟨c4, _, rfl, s4, t4, h1⟩ := ok_i h1
  obtain rfl := ok_n h1
  have i64 : ∀ n, IntKind.i64.min ≤ n → n ≤ IntKind.i64.max → I64 n := fun n h1 h2 => by
    simp [IntKind.min, IntKind.max, IntKind.signed, IntKind.bits] at h1 h2; unfold I64; omega
  simp only [argsA, argA_st Try.underlying67, argA_st Try.underlying69]
  exact t_TraceDones a1 (.str a2) (.str a3) (.int .i64 a4) (.int .i64 a5) a6 a7 a8 a9 b1 xs (i64 _ p1 q1) (i64 _ p6 q6) (i64 _ p7 q7) (i64 _ p8 q8) c1 c2 c3 c4 (i64 _ s1 t1) (i64 _ s2 t2) (i64 _ s3 t3) (i64 _ s4 t4)
theorem law_lifted (os : Os) (started : os.Started) (H : Type) (enc : TypeId × Value → H) :
    ReturnsInHanded {} Try.checked os 8 .any (Rows.traceDonesSpec.pre6 enc Try.prog Try.f8 Rows.traceDonesRow.domain false) (Rows.traceDonesSpec.post enc Try.prog Try.f8 false true false false) := by
  refine returns_of (C := Try.checked) Try.own started (by kernel_rfl) Ir.tab Try.func8 Try.laidOut (tb := 4) (fn := Try.f8) (by kernel_rfl) Try.underlying4 rfl ?_ ?_ law_calls_true true false
    (ChangeSpec.witness6 (enc := enc) (C := Try.checked) false ⟨#[], #[.agg #[.int .i64 0, .string ⟨#[]⟩, .string ⟨#[]⟩, .int .i64 0, .int .i64 0, .int .i64 0, .int .i64 0, .int .i64 0, .string ⟨#[]⟩, .string ⟨#[]⟩, .slice Option.none 0 0], .agg #[.int .i64 0, .int .i64 0, .int .i64 0, .int .i64 0]], []⟩ 12 (by kernel_rfl) (by kernel_rfl) (by kernel_rfl) (by kernel_rfl))
  · intro ds hd
    have hd2 : ds.length = 2 := hd
    match ds, hd2 with
    | [_, _], _ => rfl
  · intro t ht
    have : t = 67 ∨ t = 69 := by
      have h2 : t ∈ Try.f8.params.toList := ht
      rw [prms] at h2; simpa using h2
    rcases this with rfl | rfl
    · exact ⟨⟨_, sh0⟩, by kernel_rfl, of_decide_eq_true (by kernel_rfl)⟩
    · exact ⟨⟨_, sh1⟩, by kernel_rfl, of_decide_eq_true (by kernel_rfl)⟩
theorem traceDones_holds : Rows.TraceDonesSaid :=
  OpenClaim.holds_of_wide 8 Try.f8 rfl rfl rfl rfl rfl rfl rfl ⟨rfl, rfl, rfl, rfl, rfl⟩ rfl rfl rfl rfl rfl (by kernel_rfl) Try.func8 (by kernel_rfl)
    (of_decide_eq_true (by kernel_rfl)) (by unfold Func.isWrapper; first | (rw [if_pos (by decide +kernel)]; kernel_rfl) | (rw [if_neg (by decide +kernel)]; exact ⟨rfl, rfl⟩))
    (fun os started H enc _ => law_lifted os started H enc)
end Go.Proofs.Ytefcgdcmhhgfgaa
