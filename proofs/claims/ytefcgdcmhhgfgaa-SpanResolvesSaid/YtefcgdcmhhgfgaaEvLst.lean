/- Slices as data, nil or not. Own work. -/
import Derived.Test.YtefcgdcmhhgfgaaEvSim
namespace Go.Ev
open Go
set_option linter.unusedVariables false
set_option linter.unusedSimpArgs false

/-- x reads as the rows xs of z cells each. -/
def Lst (z : Nat) (xs : List (List D)) (x : D) : Prop := (x = .nils ∧ xs = []) ∨ (x = .emp ∧ xs = []) ∨ x = .list z xs
theorem Lst.mk {z : Nat} {xs : List (List D)} : Lst z xs (.list z xs) := .inr (.inr rfl)
theorem Lst.nil {z : Nat} : Lst z [] .nils := .inl ⟨rfl, rfl⟩
section
variable {z : Nat} {xs : List (List D)} {x : D}
theorem Lst.len (h : Lst z xs x) : lenA (.d x) = some xs.length := by
  rcases h with ⟨rfl, rfl⟩ | ⟨rfl, rfl⟩ | rfl <;> rfl
theorem Lst.is (h : Lst z xs x) (k : IntKind) (i : Int) : isA' z (.d x) (.d (.int k i)) = if 0 ≤ i ∧ i.toNat < xs.length then some (.cpt (xs.getD i.toNat []) 0) else none := by
  simp only [isA', isA]
  rcases h with ⟨rfl, rfl⟩ | ⟨rfl, rfl⟩ | rfl
  · by_cases h0 : 0 ≤ i <;> simp [h0]
  · by_cases h0 : 0 ≤ i <;> simp [h0]
  · by_cases h0 : 0 ≤ i
    · by_cases h1 : i.toNat < xs.length <;> simp [h0, h1]
    · simp [h0]
theorem Lst.tail (h : Lst z xs x) (H : Heap) : tailA H z (.d x) = some xs := by
  rcases h with ⟨rfl, rfl⟩ | ⟨rfl, rfl⟩ | rfl
  · rfl
  · rfl
  · simp [tailA]
end
/-- Cells of an element in place. -/
theorem ld_cpt (H : Heap) (cs : List D) (c n : Nat) (hn : c + n ≤ cs.length) : loadA H (.cpt cs c) n true = some (.agg (((cs.drop c).take n).map .d)) := by simp [loadA, hn]
theorem ld_cpt1 (H : Heap) (cs : List D) (c : Nat) (hn : c < cs.length) : loadA H (.cpt cs c) 1 false = some (.d (cs.getD c .nilp)) := by
  have : c + 1 ≤ cs.length := hn
  simp [loadA, this]
end Go.Ev
