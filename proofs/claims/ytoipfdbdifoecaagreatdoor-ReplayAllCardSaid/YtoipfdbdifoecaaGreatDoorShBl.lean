/- bitmap.List at this program, as a function that is known by a contract. Own work. -/
import Derived.Test.YtoipfdbdifoecaaGreatDoorShLst
import Derived.Test.YtoipfdbdifoecaaGreatDoorEvNatB
namespace Go.Proofs
open Go.RowKit Go.Shelf Go.Ev
set_option linter.unusedVariables false
set_option linter.unusedSimpArgs false
theorem us_words (ws : List (BitVec 64)) (hl : ws.length = 65) : us (fnW ws) = wordsV ws := by
  apply List.ext_getElem
  · simp [us, wordsV, hl]
  · intro i h1 h2
    have hi : i < ws.length := by simpa [wordsV] using h2
    simp [us, wordsV, fnW, List.getD_eq_getElem?_getD, hi]
theorem Tryz.listN : CallSnd Tryz.prog (natBL 29) := natBL_snd (ty := 3) (⟨_, Tryz.func29, rfl, by decide⟩) fun w S ρ hr ws hl => by
  have hg := hr.gl (0, Lib.deBruijn64tab.map fun (n : Nat) => Value.int .u8 n) (by simp [glT])
  have h0 : 0 < w.heap.size := hr.slt 0 hg.1
  have hT : TabD w := fun j hj => by
    have := hg.2 j (by simpa using hj)
    rw [this]
    simp [List.getD_eq_getElem?_getD, hj]
  have h := callsIn_wide.1 (list_in 4 (by omega) (fnW ws) w h0 hT)
  rw [us_words ws hl] at h
  exact h
end Go.Proofs
