/- Where slices stand among the records plays no part, for every input. No conditions. -/
import Derived.Test.YtoipfdbdifoecaaRows
import Derived.Test.YtoipfdbdifoecaaOrder
import Derived.Test.YtoipfdbdifoecaaEvArg
import Derived.ProofKit
namespace Go.Proofs.Ytoipfdbdifoecaa
open Go Go.ChangeShapes Go.WideShapes Go.ChangeAt Go.RowKit Go.Ev
set_option linter.unusedVariables false
set_option linter.unusedSimpArgs false
theorem Try.own : ownKnob Try.prog.godebug = Option.none := by kernel_rfl
theorem Try.laidOut : laidOutB Try.prog = true := by kernel_rfl
theorem sh0 : shOf Try.prog 50 22 = some (.sl entSh 64 .nil) := by kernel_rfl
theorem sh1 : shOf Try.prog 50 4 = some (.b .nil) := by kernel_rfl
theorem prms : Try.f3.params.toList = [22, 4] := by rw [Try.params3]
theorem law_calls_true : ∀ dss, OkAll Try.prog Try.f3.params.toList dss → call Ir.ir 3 (argsA Try.prog Try.f3.params.toList dss) [] = some (.d (.bool true), []) := by
  intro dss h
  rw [prms] at h ⊢
  obtain ⟨_, _, rfl, h0, h⟩ := okAll_cons sh0 h
  obtain ⟨_, _, rfl, h1, h⟩ := okAll_cons sh1 h
  obtain rfl := okAll_nil h
  obtain ⟨xs, _, rfl, hl, hq, h0⟩ := ok_sl h0
  obtain ⟨b, _, rfl, h1⟩ := ok_b h1
  obtain ⟨l, rfl⟩ := ens_of hq
  simp only [argsA, argA_sl Try.underlying22, argA_b Try.underlying4]
  exact t_order l (by simp [reachBytes] at hl; omega) b
theorem law_lifted (os : Os) (started : os.Started) (H : Type) (enc : TypeId × Value → H) :
    ReturnsInHanded {} Try.checked os 3 .any (Rows.replayOrderSpec.pre6 enc Try.prog Try.f3 Rows.replayOrderRow.domain false) (Rows.replayOrderSpec.post enc Try.prog Try.f3 false true false false) := by
  refine returns_of (C := Try.checked) Try.own started (by kernel_rfl) Ir.tab Try.func3 Try.laidOut (tb := 4) (fn := Try.f3) (by kernel_rfl) Try.underlying4 rfl ?_ ?_ law_calls_true true false
    (ChangeSpec.witness6 (enc := enc) (C := Try.checked) false ⟨#[], #[.slice Option.none 0 0, .bool false], []⟩ 12 (by kernel_rfl) (by kernel_rfl) (by kernel_rfl) (by kernel_rfl))
  · intro ds hd
    have hd2 : ds.length = 2 := hd
    match ds, hd2 with
    | [_, _], _ => rfl
  · intro t ht
    have : t = 22 ∨ t = 4 := by
      have h2 : t ∈ Try.f3.params.toList := ht
      rw [prms] at h2; simpa using h2
    rcases this with rfl | rfl
    · exact ⟨⟨_, sh0⟩, by kernel_rfl, of_decide_eq_true (by kernel_rfl)⟩
    · exact ⟨⟨_, sh1⟩, by kernel_rfl, of_decide_eq_true (by kernel_rfl)⟩
theorem replayOrder_holds : Rows.ReplayOrderSaid :=
  OpenClaim.holds_of_wide 3 Try.f3 rfl rfl rfl rfl rfl rfl rfl ⟨rfl, rfl, rfl, rfl, rfl⟩ rfl rfl rfl rfl rfl (by kernel_rfl) Try.func3 (by kernel_rfl)
    (of_decide_eq_true (by kernel_rfl)) (by unfold Func.isWrapper; first | (rw [if_pos (by decide +kernel)]; kernel_rfl) | (rw [if_neg (by decide +kernel)]; exact ⟨rfl, rfl⟩))
    (fun os started H enc _ => law_lifted os started H enc)
end Go.Proofs.Ytoipfdbdifoecaa
