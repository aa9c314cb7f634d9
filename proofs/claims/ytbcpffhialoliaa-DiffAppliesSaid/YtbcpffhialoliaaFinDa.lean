/- DiffApplies holds for every input. No conditions. -/
import Derived.Test.YtbcpffhialoliaaRows
import Derived.Test.YtbcpffhialoliaaDfAA
import Derived.Test.YtbcpffhialoliaaEvArg
import Derived.ProofKit
namespace Go.Proofs.Ytbcpffhialoliaa
open Go Go.ChangeShapes Go.WideShapes Go.ChangeAt Go.RowKit Go.Ev
set_option linter.unusedVariables false
set_option linter.unusedSimpArgs false
theorem Try.own : ownKnob Try.prog.godebug = Option.none := by kernel_rfl
theorem Try.laidOut : laidOutB Try.prog = true := by kernel_rfl
theorem sh0 : shOf Try.prog 50 22 = some (.sl (.i .i64 (.i .i64 (.s (.i .i64 (.i .i64 (.sl (.i .i64 (.i .i64 (.i .i64 (.sl (.i .u8 .nil) 1 .nil)))) 48 .nil)))))) 72 .nil) := by kernel_rfl
theorem sh1 : shOf Try.prog 50 22 = some (.sl (.i .i64 (.i .i64 (.s (.i .i64 (.i .i64 (.sl (.i .i64 (.i .i64 (.i .i64 (.sl (.i .u8 .nil) 1 .nil)))) 48 .nil)))))) 72 .nil) := by kernel_rfl
theorem prms : Try.f4.params.toList = [22, 22] := by rw [Try.params4]
theorem law_calls_true : ∀ dss, OkAll Try.prog Try.f4.params.toList dss → call Ir.ir 4 (argsA Try.prog Try.f4.params.toList dss) [] = some (.d (.bool true), []) := by
  intro dss h
  rw [prms] at h ⊢
  obtain ⟨_, _, rfl, h0, h⟩ := okAll_cons sh0 h
  obtain ⟨_, _, rfl, h1, h⟩ := okAll_cons sh1 h
  obtain rfl := okAll_nil h
  obtain ⟨xs, _, rfl, hl, hq, h0⟩ := ok_sl h0
  obtain ⟨ys, _, rfl, hm, hr, h1⟩ := ok_sl h1
  obtain ⟨l, rfl, hI⟩ := helds_of hq
  obtain ⟨m, rfl, hJ⟩ := helds_of hr
  simp only [argsA, argA_sl Try.underlying22]
  exact t_DiffApplies l m (by simp [reachBytes] at hl; omega) (by simp [reachBytes] at hm; omega) hI hJ
theorem law_lifted (os : Os) (started : os.Started) (H : Type) (enc : TypeId × Value → H) :
    ReturnsInHanded {} Try.checked os 4 .any (Rows.diffAppliesSpec.pre6 enc Try.prog Try.f4 Rows.diffAppliesRow.domain false) (Rows.diffAppliesSpec.post enc Try.prog Try.f4 false true false false) := by
  refine returns_of (C := Try.checked) Try.own started (by kernel_rfl) Ir.tab Try.func4 Try.laidOut (tb := 4) (fn := Try.f4) (by kernel_rfl) Try.underlying4 rfl ?_ ?_ law_calls_true true false
    (ChangeSpec.witness6 (enc := enc) (C := Try.checked) false ⟨#[], #[.slice Option.none 0 0, .slice Option.none 0 0], []⟩ 12 (by kernel_rfl) (by kernel_rfl) (by kernel_rfl) (by kernel_rfl)) (fun _ => ⟨fun _ hp => by simp [glT] at hp, fun _ hp => by simp [glI] at hp⟩)
  · intro ds hd
    have hd2 : ds.length = 2 := hd
    match ds, hd2 with
    | [_, _], _ => rfl
  · intro t ht
    have : t = 22 := by
      have h2 : t ∈ Try.f4.params.toList := ht
      rw [prms] at h2; simp only [List.mem_cons, List.not_mem_nil, or_false] at h2; rcases h2 with rfl | rfl <;> simp
    rcases this with rfl
    · exact ⟨⟨_, sh0⟩, by kernel_rfl, of_decide_eq_true (by kernel_rfl)⟩
theorem diffApplies_holds : Rows.DiffAppliesSaid :=
  OpenClaim.holds_of_wide 4 Try.f4 rfl rfl rfl rfl rfl rfl rfl ⟨rfl, rfl, rfl, rfl, rfl⟩ rfl rfl rfl rfl rfl (by kernel_rfl) Try.func4 (by kernel_rfl)
    (of_decide_eq_true (by kernel_rfl)) (by unfold Func.isWrapper; first | (rw [if_pos (by decide +kernel)]; kernel_rfl) | (rw [if_neg (by decide +kernel)]; exact ⟨rfl, rfl⟩))
    (fun os started H enc _ => law_lifted os started H enc)
end Go.Proofs.Ytbcpffhialoliaa
