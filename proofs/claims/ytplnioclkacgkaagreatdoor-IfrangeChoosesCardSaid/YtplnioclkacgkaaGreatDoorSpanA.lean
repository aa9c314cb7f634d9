/- Spans as elements that are put into an order: by where they begin. Own work. -/
import Derived.Test.YtplnioclkacgkaaGreatDoorEvNatF
namespace Go.Proofs
open Go Go.Ev
set_option linter.unusedVariables false
set_option linter.unusedSimpArgs false
abbrev SpA := { p : Int × Int // 0 ≤ p.1 ∧ p.1 ≤ 4611686018427387903 }
instance : Inhabited SpA := ⟨⟨(0, 0), by decide⟩⟩
def spanE : Enc SpA where
  z := 2
  row x := [.int .i64 x.1.1, .int .i64 x.1.2]
  cells x := [.int .i64 x.1.1, .int .i64 x.1.2]
  dec r := match r with
    | [.int .i64 a, .int .i64 b] => if h : 0 ≤ a ∧ a ≤ 4611686018427387903 then some ⟨(a, b), h⟩ else none
    | _ => none
def spanC (x y : SpA) : Int := x.1.1 - y.1.1
theorem spanOk : EncOk spanE where
  rlen _ := rfl
  clen _ := rfl
  dec r x h := by
    simp only [spanE] at h
    split at h
    · split at h
      · injection h with h; rw [← h]; rfl
      · simp at h
    · simp at h
  ones x v h := by simp [spanE] at h; rcases h with rfl | rfl <;> rfl
  dr w S x j hj := by
    have : j = 0 ∨ j = 1 := by simp [spanE] at hj; omega
    rcases this with rfl | rfl
    · exact .int ..
    · exact .int ..
  inv w S x j v hj h := by
    have : j = 0 ∨ j = 1 := by simp [spanE] at hj; omega
    rcases this with rfl | rfl
    · simp only [spanE, List.getD_cons_zero] at h ⊢; cases h; rfl
    · simp only [spanE, List.getD_cons_succ, List.getD_cons_zero] at h ⊢; cases h; rfl
end Go.Proofs
