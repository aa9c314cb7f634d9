/- One index is within another one exactly when the document says so, for every input. No conditions. -/
import Derived.Test.YtoipfdbdifoecaaRows
import Derived.Test.YtoipfdbdifoecaaWit
import Derived.Test.YtoipfdbdifoecaaEvArg
import Derived.ProofKit
namespace Go.Proofs.Ytoipfdbdifoecaa
open Go Go.ChangeShapes Go.WideShapes Go.ChangeAt Go.RowKit Go.Ev
set_option linter.unusedVariables false
set_option linter.unusedSimpArgs false
theorem Try.own : ownKnob Try.prog.godebug = Option.none := by kernel_rfl
theorem Try.laidOut : laidOutB Try.prog = true := by kernel_rfl
theorem sh0 : shOf Try.prog 50 43 = some (.sl deSh 80 .nil) := by kernel_rfl
theorem sh1 : shOf Try.prog 50 43 = some (.sl deSh 80 .nil) := by kernel_rfl
theorem prms : Try.f6.params.toList = [43, 43] := by rw [Try.params6]
theorem law_calls_true : ∀ dss, OkAll Try.prog Try.f6.params.toList dss → call Ir.ir 6 (argsA Try.prog Try.f6.params.toList dss) [] = some (.d (.bool true), []) := by
  intro dss h
  rw [prms] at h ⊢
  obtain ⟨_, _, rfl, h0, h⟩ := okAll_cons sh0 h
  obtain ⟨_, _, rfl, h1, h⟩ := okAll_cons sh1 h
  obtain rfl := okAll_nil h
  obtain ⟨xs, _, rfl, hl, hq, h0⟩ := ok_sl h0
  obtain ⟨ys, _, rfl, hl1, hq1, h1⟩ := ok_sl h1
  obtain ⟨l, rfl⟩ := des_of hq
  obtain ⟨r, rfl⟩ := des_of hq1
  simp only [argsA, argA_sl Try.underlying43]
  exact t_within l r (by simp [reachBytes] at hl; omega) (by simp [reachBytes] at hl1; omega)
theorem law_lifted (os : Os) (started : os.Started) (H : Type) (enc : TypeId × Value → H) :
    ReturnsInHanded {} Try.checked os 6 .any (Rows.replayWithinSpec.pre6 enc Try.prog Try.f6 Rows.replayWithinRow.domain false) (Rows.replayWithinSpec.post enc Try.prog Try.f6 false true false false) := by
  refine returns_of (C := Try.checked) Try.own started (by kernel_rfl) Ir.tab Try.func6 Try.laidOut (tb := 4) (fn := Try.f6) (by kernel_rfl) Try.underlying4 rfl ?_ ?_ law_calls_true true false
    (ChangeSpec.witness6 (enc := enc) (C := Try.checked) false ⟨#[], #[.slice Option.none 0 0, .slice Option.none 0 0], []⟩ 12 (by kernel_rfl) (by kernel_rfl) (by kernel_rfl) (by kernel_rfl))
  · intro ds hd
    have hd2 : ds.length = 2 := hd
    match ds, hd2 with
    | [_, _], _ => rfl
  · intro t ht
    have : t = 43 := by
      have h2 : t ∈ Try.f6.params.toList := ht
      rw [prms] at h2; simpa using h2
    rcases this with rfl
    · exact ⟨⟨_, sh0⟩, by kernel_rfl, of_decide_eq_true (by kernel_rfl)⟩
theorem replayWithin_holds : Rows.ReplayWithinSaid :=
  OpenClaim.holds_of_wide 6 Try.f6 rfl rfl rfl rfl rfl rfl rfl ⟨rfl, rfl, rfl, rfl, rfl⟩ rfl rfl rfl rfl rfl (by kernel_rfl) Try.func6 (by kernel_rfl)
    (of_decide_eq_true (by kernel_rfl)) (by unfold Func.isWrapper; first | (rw [if_pos (by decide +kernel)]; kernel_rfl) | (rw [if_neg (by decide +kernel)]; exact ⟨rfl, rfl⟩))
    (fun os started H enc _ => law_lifted os started H enc)
end Go.Proofs.Ytoipfdbdifoecaa
