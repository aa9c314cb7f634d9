/- The empty index. Own work. index.Same. Own work. -/
import Derived.Test.YtoipfdbdifoecaaDoorIdx2
namespace Go.Proofs.YtoipfdbdifoecaaDoor
open Go Go.Ev Go.Proofs.YtoipfdbdifoecaaDoor.Ir
set_option maxRecDepth 100000
set_option maxHeartbeats 4000000
set_option linter.unusedSimpArgs false
set_option linter.unusedVariables false
def S0 : Sl := ⟨false, 0, 0, [], 0, 0, 0, 0, none, 0, 0, 0⟩
def X0 : Nat → Sl := fun _ => S0
theorem c_new : call ir 13 [] [] = some (.agg (idxD X0), []) := call_of (n := 5) (by kernel_rfl)
theorem putM_mem {k : Int} {v : Int × Int} : ∀ {l : List (Int × Int × Int)} {p : Int × Int × Int}, p ∈ putM k v l → p = (k, v) ∨ p ∈ l
  | [], p, h => .inl (by simpa [putM] using h)
  | (a, d) :: l, p, h => by
    rw [putM] at h
    split at h
    · rcases List.mem_cons.1 h with h | h
      · exact .inl h
      · exact .inr h
    · split at h
      · rcases List.mem_cons.1 h with h | h
        · exact .inl h
        · exact .inr (.tail _ h)
      · rcases List.mem_cons.1 h with h | h
        · exact .inr (by rw [h]; exact .head _)
        · rcases putM_mem h with h | h
          · exact .inl h
          · exact .inr (.tail _ h)
end Go.Proofs.YtoipfdbdifoecaaDoor
namespace Go.Proofs.YtoipfdbdifoecaaDoor
open Go Go.Ev Go.Proofs.YtoipfdbdifoecaaDoor.Ir
set_option maxRecDepth 100000
set_option maxHeartbeats 4000000
set_option linter.unusedSimpArgs false
set_option linter.unusedVariables false
def pmL : PM → List (Int × Int × Int)
  | none => []
  | some l => l
theorem addrM_mpD : ∀ l : List (Int × Int × Int), addrM (mpD l) = some l
  | [] => rfl
  | (k, a, b) :: l => by
    have := addrM_mpD l
    simp only [mpD, adD] at this
    simp only [mpD, List.map_cons, adD, addrM, this]
theorem mapvL_pm (p : PM) : mapvL (.d (pmD p)) = some (mpD (pmL p)) := by cases p <;> rfl
theorem c_meq (p q : PM) (hp : smallM (pmL p)) (hq : smallM (pmL q)) : call ir 35 [.d (pmD p), .d (pmD q)] [] = some (.d (.bool (decide (pmL p = pmL q))), []) := by
  rw [call_nat (by rfl)]
  show natOr _ _ _ _ _ = _
  unfold natOr
  rw [natME_eq _ (mapvL_pm p) (mapvL_pm q) (addrM_mpD _) (addrM_mpD _), if_pos ⟨hp, hq⟩]
def slEq (s t : Sl) : Bool := (s.b == t.b) && (((s.o == t.o) && ((s.g == t.g) && ((s.tag == t.tag) && ((s.len == t.len) && (s.tick == t.tick))))) && (((s.a1 == t.a1) && (s.a2 == t.a2)) && (decide (s.fl = t.fl) && (((s.t1 == t.t1) && (s.t2 == t.t2)) && decide (pmL s.pm = pmL t.pm)))))
def sameK (x y : Nat → Sl) : Nat → Nat → Bool
  | 0, _ => true
  | n + 1, k => slEq (x k) (y k) && sameK x y n (k + 1)
def smallX (x : Nat → Sl) : Prop := ∀ k, k < 16 → smallM (pmL (x k).pm)
theorem lp_same (x y : Nat → Sl) (hx : smallX x) (hy : smallX y) (K : Ex → St → Option (AV × Heap)) : ∀ (n k : Nat), n + k = 16 →
    bnd (evC (call ir) (loop ir) lp12_0 (st12_0 0 (.ptr 0 0) (.ptr 1 0) (.d (.int .i64 k)) [.dbox (idxC x), .dbox (idxC y)])) (lpC (call ir) (loop ir) [2, 3, 8] lp12_0 K) =
    if sameK x y n k = true then K (.exit 0) ⟨0, [.unk, .unk, .unk, .unk, .unk, .unk, .unk, .unk, .unk, .unk, .unk, .unk, .unk, .unk, .unk, .unk, .unk, .unk, .unk, .unk, .unk, .unk, .unk, .unk, .unk, .unk, .unk, .unk, .unk, .unk, .unk, .unk, .unk, .unk, .unk, .unk, .unk, .unk, .unk, .unk, .unk, .unk, .unk, .unk, .unk, .unk, .unk, .unk, .unk, .unk, .unk, .unk, .unk, .unk, .unk, .unk, .unk, .unk, .unk, .unk, .unk], []⟩ else K .ret ⟨0, [.unk, .unk, .unk, .unk, .d (.bool false), .unk, .unk, .unk, .unk, .unk, .unk, .unk, .unk, .unk, .unk, .unk, .unk, .unk, .unk, .unk, .unk, .unk, .unk, .unk, .unk, .unk, .unk, .unk, .unk, .unk, .unk, .unk, .unk, .unk, .unk, .unk, .unk, .unk, .unk, .unk, .unk, .unk, .unk, .unk, .unk, .unk, .unk, .unk, .unk, .unk, .unk, .unk, .unk, .unk, .unk, .unk, .unk, .unk, .unk, .unk, .unk], []⟩
  | 0, k, h => by
    obtain rfl : k = 16 := by omega
    simp (disch := omega) only [go_sem, doCall, doCallQ, Nat.reduceAdd, Nat.reduceMul, Nat.reduceSub, Nat.reduceDiv, Nat.reduceMod, Nat.reduceLT, Nat.reduceLeDiff, Nat.reduceEqDiff, Nat.reduceBEq, Nat.reduceBNe, Int.reduceToNat, Int.reduceLT, Int.reduceLE, Int.reduceEq, Int.reduceNe, Int.reduceAdd, Int.reduceSub, Int.reduceMul, Int.reduceNeg, u12_0, lb12_0]
    simp only [sameK, if_true]
  | n + 1, k, h => by
    have hk : k < 16 := by omega
    have h0 := eq_true (show (0 : Int) ≤ k by omega)
    have h1 := eq_true (show (k : Int) < 16 by omega)
    have gx := get_idx x k hk
    have gy := get_idx y k hk
    have hw := wr_succ (i := k) (by omega)
    have hm := c_meq _ _ (hx k hk) (hy k hk)
    have ih := lp_same x y hx hy K n (k + 1) (by omega)
    simp (disch := omega) only [go_sem, doCall, doCallQ, Nat.reduceAdd, Nat.reduceMul, Nat.reduceSub, Nat.reduceDiv, Nat.reduceMod, Nat.reduceLT, Nat.reduceLeDiff, Nat.reduceEqDiff, Nat.reduceBEq, Nat.reduceBNe, Int.reduceToNat, Int.reduceLT, Int.reduceLE, Int.reduceEq, Int.reduceNe, Int.reduceAdd, Int.reduceSub, Int.reduceMul, Int.reduceNeg, u12_0, lb12_0, h0, h1, gx, gy, Sl.cs, idxC_len, idxD_len, cs_len, av_len, map_cs, map_idx, idxC_take, idxC_drop, plain_av, plain_idx, box_idx, refs_av, owns_av, view_av, ren_av, refs_idx, owns_idx, view_idx, ren_idx, Int.toNat_natCast, Nat.zero_add, chk_of]
    have cut : ∀ b, slEq (x k) (y k) = b → sameK x y (n + 1) k = (b && sameK x y n (k + 1)) := fun b h => by simp only [sameK, h]
    cases c1 : ((x k).b == (y k).b)
    · simp only [go_sem, doCall, doCallQ, Nat.reduceAdd, Nat.reduceMul, Nat.reduceSub, Nat.reduceDiv, Nat.reduceMod, Nat.reduceLT, Nat.reduceLeDiff, Nat.reduceEqDiff, Nat.reduceBEq, Nat.reduceBNe, Int.reduceToNat, Int.reduceLT, Int.reduceLE, Int.reduceEq, Int.reduceNe, Int.reduceAdd, Int.reduceSub, Int.reduceMul, Int.reduceNeg, c1]
      rw [cut false (by simp only [slEq, c1, Bool.false_and])]
      rfl
    cases c2 : ((x k).o == (y k).o && ((x k).g == (y k).g && ((x k).tag == (y k).tag && ((x k).len == (y k).len && (x k).tick == (y k).tick))))
    · simp only [go_sem, doCall, doCallQ, Nat.reduceAdd, Nat.reduceMul, Nat.reduceSub, Nat.reduceDiv, Nat.reduceMod, Nat.reduceLT, Nat.reduceLeDiff, Nat.reduceEqDiff, Nat.reduceBEq, Nat.reduceBNe, Int.reduceToNat, Int.reduceLT, Int.reduceLE, Int.reduceEq, Int.reduceNe, Int.reduceAdd, Int.reduceSub, Int.reduceMul, Int.reduceNeg, c1, c2]
      rw [cut false (by simp only [slEq, c2, Bool.false_and, Bool.and_false])]
      rfl
    cases c3 : ((x k).a1 == (y k).a1 && (x k).a2 == (y k).a2)
    · simp only [go_sem, doCall, doCallQ, Nat.reduceAdd, Nat.reduceMul, Nat.reduceSub, Nat.reduceDiv, Nat.reduceMod, Nat.reduceLT, Nat.reduceLeDiff, Nat.reduceEqDiff, Nat.reduceBEq, Nat.reduceBNe, Int.reduceToNat, Int.reduceLT, Int.reduceLE, Int.reduceEq, Int.reduceNe, Int.reduceAdd, Int.reduceSub, Int.reduceMul, Int.reduceNeg, c1, c2, c3]
      rw [cut false (by simp only [slEq, c3, Bool.false_and, Bool.and_false])]
      rfl
    by_cases c4 : (x k).fl = (y k).fl
    case neg =>
      simp only [go_sem, doCall, doCallQ, Nat.reduceAdd, Nat.reduceMul, Nat.reduceSub, Nat.reduceDiv, Nat.reduceMod, Nat.reduceLT, Nat.reduceLeDiff, Nat.reduceEqDiff, Nat.reduceBEq, Nat.reduceBNe, Int.reduceToNat, Int.reduceLT, Int.reduceLE, Int.reduceEq, Int.reduceNe, Int.reduceAdd, Int.reduceSub, Int.reduceMul, Int.reduceNeg, c1, c2, c3, c4]
      rw [cut false (by simp only [slEq, c4, decide_false, Bool.false_and, Bool.and_false])]
      rfl
    cases c5 : ((x k).t1 == (y k).t1 && (x k).t2 == (y k).t2)
    · simp only [go_sem, doCall, doCallQ, Nat.reduceAdd, Nat.reduceMul, Nat.reduceSub, Nat.reduceDiv, Nat.reduceMod, Nat.reduceLT, Nat.reduceLeDiff, Nat.reduceEqDiff, Nat.reduceBEq, Nat.reduceBNe, Int.reduceToNat, Int.reduceLT, Int.reduceLE, Int.reduceEq, Int.reduceNe, Int.reduceAdd, Int.reduceSub, Int.reduceMul, Int.reduceNeg, c1, c2, c3, c4, c5]
      rw [cut false (by simp only [slEq, c5, Bool.false_and, Bool.and_false])]
      rfl
    by_cases c6 : pmL (x k).pm = pmL (y k).pm
    case neg =>
      simp only [c6, decide_false] at hm
      simp only [go_sem, doCall, doCallQ, Nat.reduceAdd, Nat.reduceMul, Nat.reduceSub, Nat.reduceDiv, Nat.reduceMod, Nat.reduceLT, Nat.reduceLeDiff, Nat.reduceEqDiff, Nat.reduceBEq, Nat.reduceBNe, Int.reduceToNat, Int.reduceLT, Int.reduceLE, Int.reduceEq, Int.reduceNe, Int.reduceAdd, Int.reduceSub, Int.reduceMul, Int.reduceNeg, c1, c2, c3, c4, c5, hm]
      rw [cut false (by simp only [slEq, c6, decide_false, Bool.false_and, Bool.and_false])]
      rfl
    simp only [c6, decide_true] at hm
    simp only [go_sem, doCall, doCallQ, Nat.reduceAdd, Nat.reduceMul, Nat.reduceSub, Nat.reduceDiv, Nat.reduceMod, Nat.reduceLT, Nat.reduceLeDiff, Nat.reduceEqDiff, Nat.reduceBEq, Nat.reduceBNe, Int.reduceToNat, Int.reduceLT, Int.reduceLE, Int.reduceEq, Int.reduceNe, Int.reduceAdd, Int.reduceSub, Int.reduceMul, Int.reduceNeg, c1, c2, c3, c4, c5, hm]
    rw [cut true (by simp only [slEq, c1, c2, c3, c4, c5, c6, decide_true, Bool.and_true])]
    rw [loop_step1]
    simp only [go_sem, doCall, doCallQ, Nat.reduceAdd, Nat.reduceMul, Nat.reduceSub, Nat.reduceDiv, Nat.reduceMod, Nat.reduceLT, Nat.reduceLeDiff, Nat.reduceEqDiff, Nat.reduceBEq, Nat.reduceBNe, Int.reduceToNat, Int.reduceLT, Int.reduceLE, Int.reduceEq, Int.reduceNe, Int.reduceAdd, Int.reduceSub, Int.reduceMul, Int.reduceNeg, hw]
    exact ih
theorem c_same (x y : Nat → Sl) (hx : smallX x) (hy : smallX y) : call ir 12 [.agg (idxD x), .agg (idxD y)] [] = some (.d (.bool (sameK x y 16 0)), []) := by
  have w0 : ((0 : Nat) : Int) = 0 := rfl
  rw [call_eq (fn := ir12) rfl, evF_bnd]
  simp only [go_sem, doCall, doCallQ, Nat.reduceAdd, Nat.reduceMul, Nat.reduceSub, Nat.reduceDiv, Nat.reduceMod, Nat.reduceLT, Nat.reduceLeDiff, Nat.reduceEqDiff, Nat.reduceBEq, Nat.reduceBNe, Int.reduceToNat, Int.reduceLT, Int.reduceLE, Int.reduceEq, Int.reduceNe, Int.reduceAdd, Int.reduceSub, Int.reduceMul, Int.reduceNeg, bd12, idxC_len, idxD_len, cs_len, av_len, map_cs, map_idx, idxC_take, idxC_drop, plain_av, plain_idx, box_idx, refs_av, owns_av, view_av, ren_av, refs_idx, owns_idx, view_idx, ren_idx, Int.toNat_natCast, Nat.zero_add, chk_of]
  rw [loop_step1]
  simp only [go_sem, doCall, doCallQ, Nat.reduceAdd, Nat.reduceMul, Nat.reduceSub, Nat.reduceDiv, Nat.reduceMod, Nat.reduceLT, Nat.reduceLeDiff, Nat.reduceEqDiff, Nat.reduceBEq, Nat.reduceBNe, Int.reduceToNat, Int.reduceLT, Int.reduceLE, Int.reduceEq, Int.reduceNe, Int.reduceAdd, Int.reduceSub, Int.reduceMul, Int.reduceNeg]
  refine (lp_same x y hx hy _ 16 0 rfl).trans ?_
  cases sameK x y 16 0
  · simp only [Bool.false_eq_true, if_false]
    simp only [go_sem, doCall, doCallQ, Nat.reduceAdd, Nat.reduceMul, Nat.reduceSub, Nat.reduceDiv, Nat.reduceMod, Nat.reduceLT, Nat.reduceLeDiff, Nat.reduceEqDiff, Nat.reduceBEq, Nat.reduceBNe, Int.reduceToNat, Int.reduceLT, Int.reduceLE, Int.reduceEq, Int.reduceNe, Int.reduceAdd, Int.reduceSub, Int.reduceMul, Int.reduceNeg]
  · simp only [if_true]
    simp only [go_sem, doCall, doCallQ, Nat.reduceAdd, Nat.reduceMul, Nat.reduceSub, Nat.reduceDiv, Nat.reduceMod, Nat.reduceLT, Nat.reduceLeDiff, Nat.reduceEqDiff, Nat.reduceBEq, Nat.reduceBNe, Int.reduceToNat, Int.reduceLT, Int.reduceLE, Int.reduceEq, Int.reduceNe, Int.reduceAdd, Int.reduceSub, Int.reduceMul, Int.reduceNeg]
theorem slEq_refl (s : Sl) : slEq s s = true := by simp [slEq]
theorem sameK_refl (x : Nat → Sl) : ∀ n k, sameK x x n k = true
  | 0, _ => rfl
  | n + 1, k => by simp only [sameK, slEq_refl, sameK_refl x n (k + 1), Bool.and_true]
end Go.Proofs.YtoipfdbdifoecaaDoor
