/- DiffOdd holds for every input. No conditions. -/
import Derived.Test.YtbcpffhialoliaaRows
import Derived.Test.YtbcpffhialoliaaDfM
import Derived.Test.YtbcpffhialoliaaEvArg
import Derived.ProofKit
namespace Go.Proofs.Ytbcpffhialoliaa
open Go Go.ChangeShapes Go.WideShapes Go.ChangeAt Go.RowKit Go.Ev
set_option linter.unusedVariables false
set_option linter.unusedSimpArgs false
theorem Try.own : ownKnob Try.prog.godebug = Option.none := by kernel_rfl
theorem Try.laidOut : laidOutB Try.prog = true := by kernel_rfl
theorem sh0 : shOf Try.prog 50 22 = some (.sl (.i .i64 (.i .i64 (.s (.i .i64 (.i .i64 (.sl (.i .i64 (.i .i64 (.i .i64 (.sl (.i .u8 .nil) 1 .nil)))) 48 .nil)))))) 72 .nil) := by kernel_rfl
theorem sh1 : shOf Try.prog 50 3 = some (.i .i64 .nil) := by kernel_rfl
theorem sh2 : shOf Try.prog 50 3 = some (.i .i64 .nil) := by kernel_rfl
theorem prms : Try.f5.params.toList = [22, 3, 3] := by rw [Try.params5]
theorem law_calls_true : ∀ dss, OkAll Try.prog Try.f5.params.toList dss → call Ir.ir 5 (argsA Try.prog Try.f5.params.toList dss) [] = some (.d (.bool true), []) := by
  intro dss h
  rw [prms] at h ⊢
  obtain ⟨_, _, rfl, h0, h⟩ := okAll_cons sh0 h
  obtain ⟨_, _, rfl, h1, h⟩ := okAll_cons sh1 h
  obtain ⟨_, _, rfl, h2, h⟩ := okAll_cons sh2 h
  obtain rfl := okAll_nil h
  obtain ⟨xs, _, rfl, hl, hq, h0⟩ := ok_sl h0
  obtain ⟨o, _, rfl, _, _, h1⟩ := ok_i h1
  obtain ⟨i, _, rfl, _, _, h2⟩ := ok_i h2
  obtain ⟨l, rfl, hI⟩ := helds_of hq
  simp only [argsA, argA_sl Try.underlying22, argA_i Try.underlying3]
  exact t_DiffOdd l (by simp [reachBytes] at hl; omega) hI o i
theorem law_lifted (os : Os) (started : os.Started) (H : Type) (enc : TypeId × Value → H) :
    ReturnsInHanded {} Try.checked os 5 .any (Rows.diffOddSpec.pre6 enc Try.prog Try.f5 Rows.diffOddRow.domain false) (Rows.diffOddSpec.post enc Try.prog Try.f5 false true false false) := by
  refine returns_of (C := Try.checked) Try.own started (by kernel_rfl) Ir.tab Try.func5 Try.laidOut (tb := 4) (fn := Try.f5) (by kernel_rfl) Try.underlying4 rfl ?_ ?_ law_calls_true true false
    (ChangeSpec.witness6 (enc := enc) (C := Try.checked) false ⟨#[], #[.slice Option.none 0 0, .int .i64 0, .int .i64 0], []⟩ 12 (by kernel_rfl) (by kernel_rfl) (by kernel_rfl) (by kernel_rfl)) (fun _ => ⟨fun _ hp => by simp [glT] at hp, fun _ hp => by simp [glI] at hp⟩)
  · intro ds hd
    have hd2 : ds.length = 3 := hd
    match ds, hd2 with
    | [_, _, _], _ => rfl
  · intro t ht
    have : t = 22 ∨ t = 3 := by
      have h2 : t ∈ Try.f5.params.toList := ht
      rw [prms] at h2; simp only [List.mem_cons, List.not_mem_nil, or_false] at h2; rcases h2 with rfl | rfl | rfl <;> simp
    rcases this with rfl | rfl
    · exact ⟨⟨_, sh0⟩, by kernel_rfl, of_decide_eq_true (by kernel_rfl)⟩
    · exact ⟨⟨_, sh1⟩, by kernel_rfl, of_decide_eq_true (by kernel_rfl)⟩
theorem diffOdd_holds : Rows.DiffOddSaid :=
  OpenClaim.holds_of_wide 5 Try.f5 rfl rfl rfl rfl rfl rfl rfl ⟨rfl, rfl, rfl, rfl, rfl⟩ rfl rfl rfl rfl rfl (by kernel_rfl) Try.func5 (by kernel_rfl)
    (of_decide_eq_true (by kernel_rfl)) (by unfold Func.isWrapper; first | (rw [if_pos (by decide +kernel)]; kernel_rfl) | (rw [if_neg (by decide +kernel)]; exact ⟨rfl, rfl⟩))
    (fun os started H enc _ => law_lifted os started H enc)
end Go.Proofs.Ytbcpffhialoliaa
