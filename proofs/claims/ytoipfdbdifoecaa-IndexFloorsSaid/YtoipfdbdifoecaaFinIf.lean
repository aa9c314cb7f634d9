/- No generation up to the floor is ever bound again, for every input. No conditions. -/
import Derived.Test.YtoipfdbdifoecaaRows
import Derived.Test.YtoipfdbdifoecaaFloors
import Derived.Test.YtoipfdbdifoecaaEvArg
import Derived.ProofKit
namespace Go.Proofs.Ytoipfdbdifoecaa
open Go Go.ChangeShapes Go.WideShapes Go.ChangeAt Go.RowKit Go.Ev
set_option linter.unusedVariables false
set_option linter.unusedSimpArgs false
theorem Try.own : ownKnob Try.prog.godebug = Option.none := by kernel_rfl
theorem Try.laidOut : laidOutB Try.prog = true := by kernel_rfl
theorem sh0 : shOf Try.prog 50 43 = some (.sl deSh 80 .nil) := by kernel_rfl
theorem sh1 : shOf Try.prog 50 45 = some (deSh) := by kernel_rfl
theorem prms : Try.f5.params.toList = [43, 45] := by rw [Try.params5]
theorem law_calls_true : ∀ dss, OkAll Try.prog Try.f5.params.toList dss → call Ir.ir 5 (argsA Try.prog Try.f5.params.toList dss) [] = some (.d (.bool true), []) := by
  intro dss h
  rw [prms] at h ⊢
  obtain ⟨_, _, rfl, h0, h⟩ := okAll_cons sh0 h
  obtain ⟨_, _, rfl, h1, h⟩ := okAll_cons sh1 h
  obtain rfl := okAll_nil h
  obtain ⟨xs, _, rfl, hl, hq, h0⟩ := ok_sl h0
  obtain ⟨d, rfl⟩ := de_of h1
  obtain ⟨l, rfl⟩ := des_of hq
  simp only [argsA, argA_sl Try.underlying43, argA_st Try.underlying45]
  exact t_floors l (by simp [reachBytes] at hl; omega) d
theorem law_lifted (os : Os) (started : os.Started) (H : Type) (enc : TypeId × Value → H) :
    ReturnsInHanded {} Try.checked os 5 .any (Rows.indexFloorsSpec.pre6 enc Try.prog Try.f5 Rows.indexFloorsRow.domain false) (Rows.indexFloorsSpec.post enc Try.prog Try.f5 false true false false) := by
  refine returns_of (C := Try.checked) Try.own started (by kernel_rfl) Ir.tab Try.func5 Try.laidOut (tb := 4) (fn := Try.f5) (by kernel_rfl) Try.underlying4 rfl ?_ ?_ law_calls_true true false
    (ChangeSpec.witness6 (enc := enc) (C := Try.checked) false ⟨#[], #[.slice Option.none 0 0, .agg #[.int .i64 0, .int .i64 0, .int .i64 0, .string ⟨#[]⟩, .int .i64 0, .int .i64 0, .int .i64 0, .int .i64 0, .int .i64 0]], []⟩ 12 (by kernel_rfl) (by kernel_rfl) (by kernel_rfl) (by kernel_rfl))
  · intro ds hd
    have hd2 : ds.length = 2 := hd
    match ds, hd2 with
    | [_, _], _ => rfl
  · intro t ht
    have : t = 43 ∨ t = 45 := by
      have h2 : t ∈ Try.f5.params.toList := ht
      rw [prms] at h2; simpa using h2
    rcases this with rfl | rfl
    · exact ⟨⟨_, sh0⟩, by kernel_rfl, of_decide_eq_true (by kernel_rfl)⟩
    · exact ⟨⟨_, sh1⟩, by kernel_rfl, of_decide_eq_true (by kernel_rfl)⟩
theorem indexFloors_holds : Rows.IndexFloorsSaid :=
  OpenClaim.holds_of_wide 5 Try.f5 rfl rfl rfl rfl rfl rfl rfl ⟨rfl, rfl, rfl, rfl, rfl⟩ rfl rfl rfl rfl rfl (by kernel_rfl) Try.func5 (by kernel_rfl)
    (of_decide_eq_true (by kernel_rfl)) (by unfold Func.isWrapper; first | (rw [if_pos (by decide +kernel)]; kernel_rfl) | (rw [if_neg (by decide +kernel)]; exact ⟨rfl, rfl⟩))
    (fun os started H enc _ => law_lifted os started H enc)
end Go.Proofs.Ytoipfdbdifoecaa
