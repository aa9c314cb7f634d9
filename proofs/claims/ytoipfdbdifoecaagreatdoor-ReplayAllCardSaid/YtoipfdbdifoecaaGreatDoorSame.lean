/- The empty index. Own work. index.Same. Own work. -/
import Derived.Test.YtoipfdbdifoecaaGreatDoorIdx2
namespace Go.Proofs.YtoipfdbdifoecaaGreatDoor
open Go Go.Ev Go.Proofs.YtoipfdbdifoecaaGreatDoor.Ir
set_option maxRecDepth 100000
set_option maxHeartbeats 4000000
set_option linter.unusedSimpArgs false
set_option linter.unusedVariables false
def S0 : Sl := ⟨false, 0, 0, [], 0, 0, 0, 0, none, 0, 0, 0⟩
def X0 : Nat → Sl := fun _ => S0
theorem c_new : call ir 20 [] [] = some (.agg (idxD X0), []) := call_of (n := 5) (by kernel_rfl)
theorem putM_mem {k : Int} {v : Int × Int} : ∀ {l : List (Int × Int × Int)} {p : Int × Int × Int}, p ∈ putM k v l → p = (k, v) ∨ p ∈ l
  | [], p, h => .inl (by simpa [putM] using h)
  | (a, d) :: l, p, h => by
    rw [putM] at h
    split at h
    · rcases List.mem_cons.1 h with h | h
      · exact .inl h
      · exact .inr h
    · split at h
      · rcases List.mem_cons.1 h with h | h
        · exact .inl h
        · exact .inr (.tail _ h)
      · rcases List.mem_cons.1 h with h | h
        · exact .inr (by rw [h]; exact .head _)
        · rcases putM_mem h with h | h
          · exact .inl h
          · exact .inr (.tail _ h)
end Go.Proofs.YtoipfdbdifoecaaGreatDoor
namespace Go.Proofs.YtoipfdbdifoecaaGreatDoor
open Go Go.Ev Go.Proofs.YtoipfdbdifoecaaGreatDoor.Ir
set_option maxRecDepth 100000
set_option maxHeartbeats 4000000
set_option linter.unusedSimpArgs false
set_option linter.unusedVariables false
def pmL : PM → List (Int × Int × Int)
  | none => []
  | some l => l
theorem addrM_mpD : ∀ l : List (Int × Int × Int), addrM (mpD l) = some l
  | [] => rfl
  | (k, a, b) :: l => by
    have := addrM_mpD l
    simp only [mpD, adD] at this
    simp only [mpD, List.map_cons, adD, addrM, this]
theorem mapvL_pm (p : PM) : mapvL (.d (pmD p)) = some (mpD (pmL p)) := by cases p <;> rfl
def slEq (s t : Sl) : Bool := (s.b == t.b) && (((s.o == t.o) && ((s.g == t.g) && ((s.tag == t.tag) && ((s.len == t.len) && (s.tick == t.tick))))) && (((s.a1 == t.a1) && (s.a2 == t.a2)) && (decide (s.fl = t.fl) && (((s.t1 == t.t1) && (s.t2 == t.t2)) && decide (pmL s.pm = pmL t.pm)))))
def sameK (x y : Nat → Sl) : Nat → Nat → Bool
  | 0, _ => true
  | n + 1, k => slEq (x k) (y k) && sameK x y n (k + 1)
def smallX (x : Nat → Sl) : Prop := ∀ k, k < 16 → smallM (pmL (x k).pm)
theorem slEq_refl (s : Sl) : slEq s s = true := by simp [slEq]
theorem sameK_refl (x : Nat → Sl) : ∀ n k, sameK x x n k = true
  | 0, _ => rfl
  | n + 1, k => by simp only [sameK, slEq_refl, sameK_refl x n (k + 1), Bool.and_true]
end Go.Proofs.YtoipfdbdifoecaaGreatDoor
