/- What an index tells. Own work. An index behind some deeds, and the document's. Own work. Numbers as bits: words, With, Of. Own work. The slices of an object as a set. Own work. -/
import Derived.Test.YtoipfdbdifoecaaGreatDoorSame
import Derived.Test.YtoipfdbdifoecaaGreatDoorRef3
import Derived.Test.YtoipfdbdifoecaaGreatDoorIrZ
import Derived.Test.YtoipfdbdifoecaaGreatDoorEvArg
import Derived.Test.YtoipfdbdifoecaaGreatDoorEvNatS
namespace Go.Proofs.YtoipfdbdifoecaaGreatDoor
open Go Go.Ev Go.Proofs.YtoipfdbdifoecaaGreatDoor.Ir
set_option maxRecDepth 100000
set_option maxHeartbeats 4000000
set_option linter.unusedSimpArgs false
set_option linter.unusedVariables false
def slF (x : Nat → Sl) (o : Int) : Sl := if 0 ≤ o ∧ o < 16 then x o.toNat else S0
theorem c_slot (x : Nat → Sl) (o : Int) : call ir 50 [.agg (idxD x), .d (.int .i64 o)] [] = some (.agg (slF x o).av, []) := by
  rw [call_eq (fn := ir50) rfl, evF_bnd]
  by_cases h : 0 ≤ o ∧ o < 16
  · have h2 : o = (o.toNat : Int) := by omega
    have hk : o.toNat < 16 := by omega
    have hm := c_may16 o
    rw [decide_eq_true h] at hm
    have hg := get_idx x o.toNat hk
    have h0 := eq_true (show (0 : Int) ≤ o.toNat by omega)
    have h1 := eq_true (show (o.toNat : Int) < 16 by omega)
    simp only [slF, h, and_self, if_true]
    rw [h2] at hm ⊢
    simp only [Int.toNat_natCast] at hm ⊢
    simp (maxSteps := 2000000) (disch := omega) only [go_sem, doCall, doCallQ, Nat.reduceAdd, Nat.reduceMul, Nat.reduceSub, Nat.reduceDiv, Nat.reduceMod, Nat.reduceLT, Nat.reduceLeDiff, Nat.reduceEqDiff, Nat.reduceBEq, Nat.reduceBNe, Int.reduceToNat, Int.reduceLT, Int.reduceLE, Int.reduceEq, Int.reduceNe, Int.reduceAdd, Int.reduceSub, Int.reduceMul, Int.reduceNeg, bd50, hm, hg, h0, h1, idxC_len, idxD_len, cs_len, av_len, map_cs, map_idx, idxC_take, idxC_drop, plain_av, plain_idx, box_idx, refs_av, owns_av, view_av, ren_av, refs_idx, owns_idx, view_idx, ren_idx, Int.toNat_natCast, Nat.zero_add, chk_of]
    rfl
  · have hm := c_may16 o
    rw [decide_eq_false h] at hm
    simp only [slF, h, if_false]
    simp (maxSteps := 2000000) (disch := omega) only [go_sem, doCall, doCallQ, Nat.reduceAdd, Nat.reduceMul, Nat.reduceSub, Nat.reduceDiv, Nat.reduceMod, Nat.reduceLT, Nat.reduceLeDiff, Nat.reduceEqDiff, Nat.reduceBEq, Nat.reduceBNe, Int.reduceToNat, Int.reduceLT, Int.reduceLE, Int.reduceEq, Int.reduceNe, Int.reduceAdd, Int.reduceSub, Int.reduceMul, Int.reduceNeg, bd50, hm, idxC_len, idxD_len, cs_len, av_len, map_cs, map_idx, idxC_take, idxC_drop, plain_av, plain_idx, box_idx, refs_av, owns_av, view_av, ren_av, refs_idx, owns_idx, view_idx, ren_idx, Int.toNat_natCast, Nat.zero_add, chk_of]
    rfl
theorem c_iget (x : Nat → Sl) (o : Int) : call ir 19 [.agg (idxD x), .d (.int .i64 o)] [] =
    some (.tup [.agg [.d (.int .i64 (slF x o).o), .d (.int .i64 (slF x o).g), .d (.str (slF x o).tag), .d (.int .i64 (slF x o).len), .d (.int .i64 (slF x o).tick)], .d (.bool (slF x o).b)], []) := by
  rw [call_eq (fn := ir19) rfl, evF_bnd]
  simp (maxSteps := 2000000) (disch := omega) only [go_sem, doCall, doCallQ, Nat.reduceAdd, Nat.reduceMul, Nat.reduceSub, Nat.reduceDiv, Nat.reduceMod, Nat.reduceLT, Nat.reduceLeDiff, Nat.reduceEqDiff, Nat.reduceBEq, Nat.reduceBNe, Int.reduceToNat, Int.reduceLT, Int.reduceLE, Int.reduceEq, Int.reduceNe, Int.reduceAdd, Int.reduceSub, Int.reduceMul, Int.reduceNeg, bd19, c_slot, Sl.av, idxC_len, idxD_len, cs_len, av_len, map_cs, map_idx, idxC_take, idxC_drop, plain_av, plain_idx, box_idx, refs_av, owns_av, view_av, ren_av, refs_idx, owns_idx, view_idx, ren_idx, Int.toNat_natCast, Nat.zero_add, chk_of]
theorem c_where (x : Nat → Sl) (o : Int) : call ir 21 [.agg (idxD x), .d (.int .i64 o)] [] = some (.tup [.agg [.d (.int .i64 (slF x o).a1), .d (.int .i64 (slF x o).a2)], .d (.bool (slF x o).b)], []) := by
  rw [call_eq (fn := ir21) rfl, evF_bnd]
  simp (maxSteps := 2000000) (disch := omega) only [go_sem, doCall, doCallQ, Nat.reduceAdd, Nat.reduceMul, Nat.reduceSub, Nat.reduceDiv, Nat.reduceMod, Nat.reduceLT, Nat.reduceLeDiff, Nat.reduceEqDiff, Nat.reduceBEq, Nat.reduceBNe, Int.reduceToNat, Int.reduceLT, Int.reduceLE, Int.reduceEq, Int.reduceNe, Int.reduceAdd, Int.reduceSub, Int.reduceMul, Int.reduceNeg, bd21, c_slot, Sl.av, idxC_len, idxD_len, cs_len, av_len, map_cs, map_idx, idxC_take, idxC_drop, plain_av, plain_idx, box_idx, refs_av, owns_av, view_av, ren_av, refs_idx, owns_idx, view_idx, ren_idx, Int.toNat_natCast, Nat.zero_add, chk_of]
theorem c_tomb (x : Nat → Sl) (o : Int) : call ir 22 [.agg (idxD x), .d (.int .i64 o)] [] = some (.tup [.agg [.d (.int .i64 (slF x o).t1), .d (.int .i64 (slF x o).t2)], .d (.bool (decide (0 < (slF x o).fl)))], []) := by
  rw [call_eq (fn := ir22) rfl, evF_bnd]
  simp (maxSteps := 2000000) (disch := omega) only [go_sem, doCall, doCallQ, Nat.reduceAdd, Nat.reduceMul, Nat.reduceSub, Nat.reduceDiv, Nat.reduceMod, Nat.reduceLT, Nat.reduceLeDiff, Nat.reduceEqDiff, Nat.reduceBEq, Nat.reduceBNe, Int.reduceToNat, Int.reduceLT, Int.reduceLE, Int.reduceEq, Int.reduceNe, Int.reduceAdd, Int.reduceSub, Int.reduceMul, Int.reduceNeg, bd22, c_slot, Sl.av, idxC_len, idxD_len, cs_len, av_len, map_cs, map_idx, idxC_take, idxC_drop, plain_av, plain_idx, box_idx, refs_av, owns_av, view_av, ren_av, refs_idx, owns_idx, view_idx, ren_idx, Int.toNat_natCast, Nat.zero_add, chk_of]
theorem c_floor (x : Nat → Sl) (o : Int) : call ir 23 [.agg (idxD x), .d (.int .i64 o)] [] = some (.d (.int .i64 (slF x o).fl), []) := by
  rw [call_eq (fn := ir23) rfl, evF_bnd]
  simp (maxSteps := 2000000) (disch := omega) only [go_sem, doCall, doCallQ, Nat.reduceAdd, Nat.reduceMul, Nat.reduceSub, Nat.reduceDiv, Nat.reduceMod, Nat.reduceLT, Nat.reduceLeDiff, Nat.reduceEqDiff, Nat.reduceBEq, Nat.reduceBNe, Int.reduceToNat, Int.reduceLT, Int.reduceLE, Int.reduceEq, Int.reduceNe, Int.reduceAdd, Int.reduceSub, Int.reduceMul, Int.reduceNeg, bd23, c_slot, Sl.av, idxC_len, idxD_len, cs_len, av_len, map_cs, map_idx, idxC_take, idxC_drop, plain_av, plain_idx, box_idx, refs_av, owns_av, view_av, ren_av, refs_idx, owns_idx, view_idx, ren_idx, Int.toNat_natCast, Nat.zero_add, chk_of]
def atF (p : PM) (i : Int) : Option (Int × Int) := findM i (pmL p)
theorem c_at (x : Nat → Sl) (o i : Int) : call ir 26 [.agg (idxD x), .d (.int .i64 o), .d (.int .i64 i)] [] =
    some (.tup [.agg [.d (.int .i64 ((atF (slF x o).pm i).getD (0, 0)).1), .d (.int .i64 ((atF (slF x o).pm i).getD (0, 0)).2)], .d (.bool (atF (slF x o).pm i).isSome)], []) := by
  rw [call_eq (fn := ir26) rfl, evF_bnd]
  unfold atF
  cases hpm : (slF x o).pm with
  | none => simp (maxSteps := 2000000) (disch := omega) only [go_sem, doCall, doCallQ, Nat.reduceAdd, Nat.reduceMul, Nat.reduceSub, Nat.reduceDiv, Nat.reduceMod, Nat.reduceLT, Nat.reduceLeDiff, Nat.reduceEqDiff, Nat.reduceBEq, Nat.reduceBNe, Int.reduceToNat, Int.reduceLT, Int.reduceLE, Int.reduceEq, Int.reduceNe, Int.reduceAdd, Int.reduceSub, Int.reduceMul, Int.reduceNeg, bd26, c_slot, Sl.av, hpm, pmD, pmL, Option.isSome_none, idxC_len, idxD_len, cs_len, av_len, map_cs, map_idx, idxC_take, idxC_drop, plain_av, plain_idx, box_idx, refs_av, owns_av, view_av, ren_av, refs_idx, owns_idx, view_idx, ren_idx, Int.toNat_natCast, Nat.zero_add, chk_of]
  | some l =>
    have hf := find_mpD i l
    simp only [pmL]
    cases hq : findM i l with
    | none =>
      rw [hq] at hf
      simp only [Option.map_none] at hf
      simp (maxSteps := 2000000) (disch := omega) only [go_sem, doCall, doCallQ, Nat.reduceAdd, Nat.reduceMul, Nat.reduceSub, Nat.reduceDiv, Nat.reduceMod, Nat.reduceLT, Nat.reduceLeDiff, Nat.reduceEqDiff, Nat.reduceBEq, Nat.reduceBNe, Int.reduceToNat, Int.reduceLT, Int.reduceLE, Int.reduceEq, Int.reduceNe, Int.reduceAdd, Int.reduceSub, Int.reduceMul, Int.reduceNeg, bd26, c_slot, Sl.av, hpm, pmD, hf, Option.isSome_none, idxC_len, idxD_len, cs_len, av_len, map_cs, map_idx, idxC_take, idxC_drop, plain_av, plain_idx, box_idx, refs_av, owns_av, view_av, ren_av, refs_idx, owns_idx, view_idx, ren_idx, Int.toNat_natCast, Nat.zero_add, chk_of]
    | some p =>
      rw [hq] at hf
      simp only [Option.map_some, adD] at hf
      simp (maxSteps := 2000000) (disch := omega) only [go_sem, doCall, doCallQ, Nat.reduceAdd, Nat.reduceMul, Nat.reduceSub, Nat.reduceDiv, Nat.reduceMod, Nat.reduceLT, Nat.reduceLeDiff, Nat.reduceEqDiff, Nat.reduceBEq, Nat.reduceBNe, Int.reduceToNat, Int.reduceLT, Int.reduceLE, Int.reduceEq, Int.reduceNe, Int.reduceAdd, Int.reduceSub, Int.reduceMul, Int.reduceNeg, bd26, c_slot, Sl.av, hpm, pmD, hf, Option.isSome_some, idxC_len, idxD_len, cs_len, av_len, map_cs, map_idx, idxC_take, idxC_drop, plain_av, plain_idx, box_idx, refs_av, owns_av, view_av, ren_av, refs_idx, owns_idx, view_idx, ren_idx, Int.toNat_natCast, Nat.zero_add, chk_of]

theorem slF_in (x : Nat → Sl) {k : Nat} (hk : k < 16) : slF x k = x k := by
  have h : (0 : Int) ≤ k ∧ (k : Int) < 16 := by omega
  simp only [slF, h, and_self, if_true, Int.toNat_natCast]
end Go.Proofs.YtoipfdbdifoecaaGreatDoor
namespace Go.Proofs.YtoipfdbdifoecaaGreatDoor
open Go Go.Ev Go.Proofs.YtoipfdbdifoecaaGreatDoor.Ir
set_option maxRecDepth 100000
set_option maxHeartbeats 4000000
set_option linter.unusedSimpArgs false
set_option linter.unusedVariables false
structure De where
  kind : Int
  o : Int
  g : Int
  tag : List UInt8
  len : Int
  tick : Int
  i : Int
  a1 : Int
  a2 : Int
def De.cs (e : De) : List D := [.int .i64 e.kind, .int .i64 e.o, .int .i64 e.g, .str e.tag, .int .i64 e.len, .int .i64 e.tick, .int .i64 e.i, .int .i64 e.a1, .int .i64 e.a2]
def deF (x : Nat → Sl) (d : De) : Nat → Sl :=
  if 0 ≤ d.o ∧ d.o < 16 then
    (if d.kind = 1 then xs x d.o.toNat (pie (x d.o.toNat) d.g d.i d.a1 d.a2)
    else if d.kind = 2 then xs x d.o.toNat (forg (x d.o.toNat) d.g d.a1 d.a2)
    else xs x d.o.toNat (bound (x d.o.toNat) d.o.toNat d.g d.tag d.len d.tick d.a1 d.a2))
  else x
def mdF (l : List De) : Nat → Sl := l.foldl deF X0
/-- An object that may not be. -/
theorem p_out (x : Nat → Sl) (o : Int) (ho : ¬ (0 ≤ o ∧ o < 16)) (g i a1 a2 : Int) (tag : List UInt8) (len tick : Int) :
    call ir 39 [.agg (idxD x), .agg [.d (.int .i64 o), .d (.int .i64 g), .d (.str tag), .d (.int .i64 len), .d (.int .i64 tick)], .agg [.d (.int .i64 a1), .d (.int .i64 a2)]] [] = some (.agg (idxD x), []) ∧
    call ir 41 [.agg (idxD x), .d (.int .i64 o), .d (.int .i64 g), .agg [.d (.int .i64 a1), .d (.int .i64 a2)]] [] = some (.agg (idxD x), []) ∧
    call ir 40 [.agg (idxD x), .d (.int .i64 o), .d (.int .i64 g), .d (.int .i64 i), .agg [.d (.int .i64 a1), .d (.int .i64 a2)]] [] = some (.agg (idxD x), []) := by
  have hm := c_may16 o
  rw [decide_eq_false ho] at hm
  have ch : ∀ (f : AV) (H : Heap), call ir 63 [.agg (idxD x), .d (.int .i64 o), f] H = some (.agg (idxD x), H) ∨ True := fun _ _ => .inr trivial
  have c1 : ∀ (a b : List D), call ir 63 [.agg (idxD x), .d (.int .i64 o), .clo (.func 64) [] [.ptr 0 0, .ptr 1 0]] [.dbox a, .dbox b] = some (.agg (idxD x), [.dbox a, .dbox b]) := fun a b => by
    rw [call_eq (fn := ir63) rfl, evF_bnd]
    simp (maxSteps := 2000000) (disch := omega) only [go_sem, doCall, doCallQ, Nat.reduceAdd, Nat.reduceMul, Nat.reduceSub, Nat.reduceDiv, Nat.reduceMod, Nat.reduceLT, Nat.reduceLeDiff, Nat.reduceEqDiff, Nat.reduceBEq, Nat.reduceBNe, Int.reduceToNat, Int.reduceLT, Int.reduceLE, Int.reduceEq, Int.reduceNe, Int.reduceAdd, Int.reduceSub, Int.reduceMul, Int.reduceNeg, bd63, hm, idxC_len, idxD_len, cs_len, av_len, map_cs, map_idx, idxC_take, idxC_drop, plain_av, plain_idx, box_idx, refs_av, owns_av, view_av, ren_av, refs_idx, owns_idx, view_idx, ren_idx, Int.toNat_natCast, Nat.zero_add, chk_of]
  have c2 : ∀ (a b : List D), call ir 63 [.agg (idxD x), .d (.int .i64 o), .clo (.func 67) [] [.ptr 0 0, .ptr 1 0]] [.dbox a, .dbox b] = some (.agg (idxD x), [.dbox a, .dbox b]) := fun a b => by
    rw [call_eq (fn := ir63) rfl, evF_bnd]
    simp (maxSteps := 2000000) (disch := omega) only [go_sem, doCall, doCallQ, Nat.reduceAdd, Nat.reduceMul, Nat.reduceSub, Nat.reduceDiv, Nat.reduceMod, Nat.reduceLT, Nat.reduceLeDiff, Nat.reduceEqDiff, Nat.reduceBEq, Nat.reduceBNe, Int.reduceToNat, Int.reduceLT, Int.reduceLE, Int.reduceEq, Int.reduceNe, Int.reduceAdd, Int.reduceSub, Int.reduceMul, Int.reduceNeg, bd63, hm, idxC_len, idxD_len, cs_len, av_len, map_cs, map_idx, idxC_take, idxC_drop, plain_av, plain_idx, box_idx, refs_av, owns_av, view_av, ren_av, refs_idx, owns_idx, view_idx, ren_idx, Int.toNat_natCast, Nat.zero_add, chk_of]
  have c3 : ∀ (a b c : List D), call ir 63 [.agg (idxD x), .d (.int .i64 o), .clo (.func 65) [] [.ptr 0 0, .ptr 1 0, .ptr 2 0]] [.dbox a, .dbox b, .dbox c] = some (.agg (idxD x), [.dbox a, .dbox b, .dbox c]) := fun a b c => by
    rw [call_eq (fn := ir63) rfl, evF_bnd]
    simp (maxSteps := 2000000) (disch := omega) only [go_sem, doCall, doCallQ, Nat.reduceAdd, Nat.reduceMul, Nat.reduceSub, Nat.reduceDiv, Nat.reduceMod, Nat.reduceLT, Nat.reduceLeDiff, Nat.reduceEqDiff, Nat.reduceBEq, Nat.reduceBNe, Int.reduceToNat, Int.reduceLT, Int.reduceLE, Int.reduceEq, Int.reduceNe, Int.reduceAdd, Int.reduceSub, Int.reduceMul, Int.reduceNeg, bd63, hm, idxC_len, idxD_len, cs_len, av_len, map_cs, map_idx, idxC_take, idxC_drop, plain_av, plain_idx, box_idx, refs_av, owns_av, view_av, ren_av, refs_idx, owns_idx, view_idx, ren_idx, Int.toNat_natCast, Nat.zero_add, chk_of]
  refine ⟨?_, ?_, ?_⟩
  · rw [call_eq (fn := ir39) rfl, evF_bnd]
    simp (maxSteps := 2000000) (disch := omega) only [go_sem, doCall, doCallQ, Nat.reduceAdd, Nat.reduceMul, Nat.reduceSub, Nat.reduceDiv, Nat.reduceMod, Nat.reduceLT, Nat.reduceLeDiff, Nat.reduceEqDiff, Nat.reduceBEq, Nat.reduceBNe, Int.reduceToNat, Int.reduceLT, Int.reduceLE, Int.reduceEq, Int.reduceNe, Int.reduceAdd, Int.reduceSub, Int.reduceMul, Int.reduceNeg, bd39, c1, idxC_len, idxD_len, cs_len, av_len, map_cs, map_idx, idxC_take, idxC_drop, plain_av, plain_idx, box_idx, refs_av, owns_av, view_av, ren_av, refs_idx, owns_idx, view_idx, ren_idx, Int.toNat_natCast, Nat.zero_add, chk_of]
  · rw [call_eq (fn := ir41) rfl, evF_bnd]
    simp (maxSteps := 2000000) (disch := omega) only [go_sem, doCall, doCallQ, Nat.reduceAdd, Nat.reduceMul, Nat.reduceSub, Nat.reduceDiv, Nat.reduceMod, Nat.reduceLT, Nat.reduceLeDiff, Nat.reduceEqDiff, Nat.reduceBEq, Nat.reduceBNe, Int.reduceToNat, Int.reduceLT, Int.reduceLE, Int.reduceEq, Int.reduceNe, Int.reduceAdd, Int.reduceSub, Int.reduceMul, Int.reduceNeg, bd41, c2, idxC_len, idxD_len, cs_len, av_len, map_cs, map_idx, idxC_take, idxC_drop, plain_av, plain_idx, box_idx, refs_av, owns_av, view_av, ren_av, refs_idx, owns_idx, view_idx, ren_idx, Int.toNat_natCast, Nat.zero_add, chk_of]
  · rw [call_eq (fn := ir40) rfl, evF_bnd]
    simp (maxSteps := 2000000) (disch := omega) only [go_sem, doCall, doCallQ, Nat.reduceAdd, Nat.reduceMul, Nat.reduceSub, Nat.reduceDiv, Nat.reduceMod, Nat.reduceLT, Nat.reduceLeDiff, Nat.reduceEqDiff, Nat.reduceBEq, Nat.reduceBNe, Int.reduceToNat, Int.reduceLT, Int.reduceLE, Int.reduceEq, Int.reduceNe, Int.reduceAdd, Int.reduceSub, Int.reduceMul, Int.reduceNeg, bd40, c3, idxC_len, idxD_len, cs_len, av_len, map_cs, map_idx, idxC_take, idxC_drop, plain_av, plain_idx, box_idx, refs_av, owns_av, view_av, ren_av, refs_idx, owns_idx, view_idx, ren_idx, Int.toNat_natCast, Nat.zero_add, chk_of]
/-- What maps may be. -/
def InvS (n : Nat) (x : Nat → Sl) : Prop := ∀ k, SrtM (pmK (x k).pm) ∧ (pmK (x k).pm).length ≤ n ∧ ∀ p ∈ pmK (x k).pm, 0 ≤ p.1 ∧ p.1 ≤ 4096
theorem invS_xs {n : Nat} {x : Nat → Sl} (h : InvS n x) (k : Nat) (s : Sl) (hs : SrtM (pmK s.pm) ∧ (pmK s.pm).length ≤ n + 1 ∧ ∀ p ∈ pmK s.pm, 0 ≤ p.1 ∧ p.1 ≤ 4096) : InvS (n + 1) (xs x k s) := fun j => by
  unfold xs
  split
  · exact hs
  · exact ⟨(h j).1, by have := (h j).2.1; omega, (h j).2.2⟩
theorem invS_one {n : Nat} {x : Nat → Sl} (h : InvS n x) (d : De) : InvS (n + 1) (deF x d) := by
  have up : InvS (n + 1) x := fun j => ⟨(h j).1, by have := (h j).2.1; omega, (h j).2.2⟩
  have hn : ∀ s : Sl, s.pm = none → SrtM (pmK s.pm) ∧ (pmK s.pm).length ≤ n + 1 ∧ ∀ p ∈ pmK s.pm, 0 ≤ p.1 ∧ p.1 ≤ 4096 := fun s hs => by rw [hs]; exact ⟨List.Pairwise.nil, by simp [pmK], fun p hp => by simp [pmK] at hp⟩
  have hk : ∀ (s : Sl) (j : Nat), s.pm = (x j).pm → SrtM (pmK s.pm) ∧ (pmK s.pm).length ≤ n + 1 ∧ ∀ p ∈ pmK s.pm, 0 ≤ p.1 ∧ p.1 ≤ 4096 := fun s j hs => by rw [hs]; exact up j
  unfold deF
  split
  case isFalse => exact up
  split
  · refine invS_xs h _ _ ?_
    unfold pie
    split
    · exact hk _ _ rfl
    · rename_i hc
      simp only [not_or] at hc
      have e : pmK (pmPut d.i d.a1 d.a2 (x d.o.toNat).pm) = putM d.i (d.a1, d.a2) (pmK (x d.o.toNat).pm) := by cases (x d.o.toNat).pm <;> rfl
      have hx := h d.o.toNat
      simp only
      rw [e]
      refine ⟨putM_srt hx.1, by have := putM_le d.i (d.a1, d.a2) (pmK (x d.o.toNat).pm); omega, fun p hp => ?_⟩
      rcases putM_mem hp with rfl | hp
      · simp only; omega
      · exact hx.2.2 p hp
  · split
    · refine invS_xs h _ _ ?_
      unfold forg forg2
      split
      · exact hn _ rfl
      · unfold forg1
        split
        · exact hk _ _ rfl
        · exact hk _ _ rfl
    · refine invS_xs h _ _ ?_
      unfold bound
      split
      · exact hk _ _ rfl
      · split
        · exact hn _ rfl
        · split
          · exact hk _ _ rfl
          · exact hk _ _ rfl
theorem InvS.start : InvS 0 X0 := fun k => ⟨List.Pairwise.nil, by simp [X0, S0, pmK], fun p hp => by simp [X0, S0, pmK] at hp⟩
theorem invS_fold : ∀ (l : List De) {n : Nat} {x : Nat → Sl}, InvS n x → InvS (n + l.length) (l.foldl deF x)
  | [], n, x, h => h
  | e :: l, n, x, h => by
    have := invS_fold l (invS_one h e)
    rw [List.foldl_cons, List.length_cons, show n + (l.length + 1) = n + 1 + l.length from by omega]
    exact this
/-- One deed on both. -/
theorem both_one (x : Nat → Sl) {n : Nat} (hi : InvS n x) (hn : n ≤ 100000) (d : De) : deF x d = deF x d ∧
    (d.kind = 1 → call ir 40 [.agg (idxD x), .d (.int .i64 d.o), .d (.int .i64 d.g), .d (.int .i64 d.i), .agg [.d (.int .i64 d.a1), .d (.int .i64 d.a2)]] [] = some (.agg (idxD (deF x d)), []) ∧
      call ir 43 [.ptr 0 0, .d (.int .i64 d.o), .d (.int .i64 d.g), .d (.int .i64 d.i), .agg [.d (.int .i64 d.a1), .d (.int .i64 d.a2)]] [.dbox (idxR x)] = some (.tup [], [.dbox (idxR (deF x d))])) ∧
    (d.kind = 2 → call ir 41 [.agg (idxD x), .d (.int .i64 d.o), .d (.int .i64 d.g), .agg [.d (.int .i64 d.a1), .d (.int .i64 d.a2)]] [] = some (.agg (idxD (deF x d)), []) ∧
      call ir 44 [.ptr 0 0, .d (.int .i64 d.o), .d (.int .i64 d.g), .agg [.d (.int .i64 d.a1), .d (.int .i64 d.a2)]] [.dbox (idxR x)] = some (.tup [], [.dbox (idxR (deF x d))])) ∧
    (¬ d.kind = 1 → ¬ d.kind = 2 → call ir 39 [.agg (idxD x), .agg [.d (.int .i64 d.o), .d (.int .i64 d.g), .d (.str d.tag), .d (.int .i64 d.len), .d (.int .i64 d.tick)], .agg [.d (.int .i64 d.a1), .d (.int .i64 d.a2)]] [] = some (.agg (idxD (deF x d)), []) ∧
      call ir 42 [.ptr 0 0, .agg [.d (.int .i64 d.o), .d (.int .i64 d.g), .d (.str d.tag), .d (.int .i64 d.len), .d (.int .i64 d.tick)], .agg [.d (.int .i64 d.a1), .d (.int .i64 d.a2)]] [.dbox (idxR x)] = some (.tup [], [.dbox (idxR (deF x d))])) := by
  refine ⟨rfl, ?_⟩
  by_cases h : 0 ≤ d.o ∧ d.o < 16
  · have ho : d.o = (d.o.toNat : Int) := by omega
    have hk : d.o.toNat < 16 := by omega
    have hx := hi d.o.toNat
    refine ⟨fun h1 => ?_, fun h1 => ?_, fun h1 h2 => ?_⟩
    · have e : deF x d = xs x d.o.toNat (pie (x d.o.toNat) d.g d.i d.a1 d.a2) := by unfold deF; rw [if_pos h, if_pos h1]
      rw [e]
      have q1 := x_pie x d.o.toNat hk d.g d.i d.a1 d.a2
      have q2 := r_piece x d.o.toNat hk hx.1 (by have := hx.2.1; omega) d.g d.i d.a1 d.a2
      rw [← ho] at q1 q2
      exact ⟨q1, q2⟩
    · have e : deF x d = xs x d.o.toNat (forg (x d.o.toNat) d.g d.a1 d.a2) := by unfold deF; rw [if_pos h, if_neg (by omega), if_pos h1]
      rw [e]
      have q1 := x_for x d.o.toNat hk d.g d.a1 d.a2
      have q2 := r_forget x d.o.toNat hk d.g d.a1 d.a2
      rw [← ho] at q1 q2
      exact ⟨q1, q2⟩
    · have e : deF x d = xs x d.o.toNat (bound (x d.o.toNat) d.o.toNat d.g d.tag d.len d.tick d.a1 d.a2) := by unfold deF; rw [if_pos h, if_neg h1, if_neg h2]
      rw [← ho] at e
      rw [e]
      have q1 := x_bnd x d.o.toNat hk d.g d.tag d.len d.tick d.a1 d.a2
      have q2 := r_bound x d.o.toNat hk d.g d.tag d.len d.tick d.a1 d.a2
      rw [← ho] at q1 q2
      exact ⟨q1, q2⟩
  · have e : deF x d = x := by unfold deF; rw [if_neg h]
    rw [e]
    obtain ⟨p1, p2, p3⟩ := p_out x d.o h d.g d.i d.a1 d.a2 d.tag d.len d.tick
    obtain ⟨r1, r2, r3⟩ := r_out x d.o h d.g d.i d.a1 d.a2 d.tag d.len d.tick
    exact ⟨fun _ => ⟨p3, r3⟩, fun _ => ⟨p2, r2⟩, fun _ _ => ⟨p1, r1⟩⟩
theorem De.rows (l : List De) {i : Nat} (h : i < l.length) : (l.map De.cs).getD i [] = [.int .i64 l[i].kind, .int .i64 l[i].o, .int .i64 l[i].g, .str l[i].tag, .int .i64 l[i].len, .int .i64 l[i].tick, .int .i64 l[i].i, .int .i64 l[i].a1, .int .i64 l[i].a2] := by
  simp [List.getD_eq_getElem?_getD, h, De.cs]
end Go.Proofs.YtoipfdbdifoecaaGreatDoor
namespace Go.Proofs.YtoipfdbdifoecaaGreatDoor
open Go Go.Ev Go.Proofs.YtoipfdbdifoecaaGreatDoor.Ir
set_option maxRecDepth 100000
set_option maxHeartbeats 4000000
set_option linter.unusedSimpArgs false
set_option linter.unusedVariables false
abbrev Wd := Nat → BitVec 64
def w65 (W : Wd) : List D := arr 65 fun j => .int .u64 (W j).toNat
theorem w65_len (W : Wd) : (w65 W).length = 65 := arr_len 65 _
theorem ofInt_toNat (a : BitVec 64) : BitVec.ofInt 64 (a.toNat : Int) = a := by
  apply BitVec.eq_of_toNat_eq
  simp
theorem wr_bv (a : BitVec 64) : wr .u64 (a.toNat : Int) = a.toNat := wr_u64 (by have := a.isLt; omega)
theorem wor (a b : BitVec 64) : Ev.bits (fun _ x y => x ||| y) .u64 (a.toNat : Int) (b.toNat : Int) = ((a ||| b).toNat : Int) := by
  unfold Ev.bits
  show wr .u64 ((BitVec.ofInt 64 (a.toNat : Int) ||| BitVec.ofInt 64 (b.toNat : Int)).toNat : Int) = _
  rw [ofInt_toNat, ofInt_toNat, wr_bv]
theorem wand (a b : BitVec 64) : Ev.bits (fun _ x y => x &&& y) .u64 (a.toNat : Int) (b.toNat : Int) = ((a &&& b).toNat : Int) := by
  unfold Ev.bits
  show wr .u64 ((BitVec.ofInt 64 (a.toNat : Int) &&& BitVec.ofInt 64 (b.toNat : Int)).toNat : Int) = _
  rw [ofInt_toNat, ofInt_toNat, wr_bv]
def bit (n : Nat) : BitVec 64 := 1#64 <<< n
theorem wshl {n : Nat} (h : n < 64) : wr .u64 (1 * 2 ^ (min n 64)) = ((bit n).toNat : Int) := by
  have e1 : min n 64 = n := by omega
  have hlt : 2 ^ n < 2 ^ 64 := Nat.pow_lt_pow_right (by omega) h
  have e2 : (bit n).toNat = 2 ^ n := by
    unfold bit
    rw [BitVec.toNat_shiftLeft, Nat.shiftLeft_eq]
    simp only [BitVec.toNat_ofNat, Nat.one_mod_two_pow (n := 64) (by omega), Nat.one_mul]
    exact Nat.mod_eq_of_lt hlt
  rw [e1, e2, Int.one_mul]
  have e3 : ((2 : Int) ^ n) = ((2 ^ n : Nat) : Int) := by simp
  rw [e3]
  exact wr_u64 (by omega)
def withW (W : Wd) (i : Nat) : Wd := upd W (i / 64) (W (i / 64) ||| bit (i % 64))
def ofW (l : List Nat) : Wd := l.foldl withW (fun _ => 0#64)
theorem bit_get (n t : Nat) (ht : t < 64) : (bit n).getLsbD t = decide (t = n) := by
  unfold bit
  rw [BitVec.getLsbD_shiftLeft, BitVec.getLsbD_one]
  by_cases h : t = n
  · subst h; simp; omega
  · rw [decide_eq_false h]
    by_cases h2 : t < n
    · simp [h2]
    · have : ¬ (t - n = 0) := by omega
      simp [this]
theorem with_get (W : Wd) (i k t : Nat) (ht : t < 64) : (withW W i k).getLsbD t = ((W k).getLsbD t || decide (k * 64 + t = i)) := by
  unfold withW upd
  split
  · rename_i h; subst h
    rw [BitVec.getLsbD_or, bit_get _ _ ht]
    congr 1
    rw [decide_eq_decide]; omega
  · rename_i h
    rw [decide_eq_false (by omega), Bool.or_false]
theorem fold_get (k t : Nat) (ht : t < 64) : ∀ (l : List Nat) (W : Wd), (l.foldl withW W k).getLsbD t = ((W k).getLsbD t || decide (k * 64 + t ∈ l))
  | [], W => by simp
  | i :: l, W => by
    rw [List.foldl_cons, fold_get k t ht l, with_get _ _ _ _ ht, Bool.or_assoc]
    congr 1
    rw [← Bool.decide_or, decide_eq_decide, List.mem_cons]
theorem of_get (l : List Nat) (k t : Nat) (ht : t < 64) : (ofW l k).getLsbD t = decide (k * 64 + t ∈ l) := by
  unfold ofW; rw [fold_get k t ht]; simp
theorem within_of (la lb : List Nat) (ha : ∀ i ∈ la, i ≤ 4096) : (∀ k, k < 65 → ofW la k &&& ofW lb k = ofW la k) ↔ ∀ i ∈ la, i ∈ lb := by
  constructor
  · intro h i hi
    have := ha i hi
    have h1 := congrArg (fun w => w.getLsbD (i % 64)) (h (i / 64) (by omega))
    simp only [BitVec.getLsbD_and, of_get _ _ _ (show i % 64 < 64 by omega), show i / 64 * 64 + i % 64 = i by omega, hi, decide_true, Bool.true_and, decide_eq_true_eq] at h1
    exact h1
  · intro h k hk
    apply BitVec.eq_of_getLsbD_eq
    intro t ht
    rw [BitVec.getLsbD_and, of_get _ _ _ ht, of_get _ _ _ ht]
    by_cases h1 : k * 64 + t ∈ la
    · simp [h1, h _ h1]
    · simp [h1]
theorem upd_w (W : Wd) (k : Nat) (v : BitVec 64) : upd (fun j => D.int .u64 ((W j).toNat : Int)) k (.int .u64 (v.toNat : Int)) = fun j => D.int .u64 (((upd W k v) j).toNat : Int) := by
  funext j; simp only [upd]; split <;> rfl
theorem c_mayb (i : Int) : call ir 85 [.d (.int .i64 i)] [] = some (.d (.bool (decide (0 ≤ i ∧ i ≤ 4096))), []) := by
  rw [call_eq (fn := ir85) rfl, evF_bnd]
  simp (maxSteps := 2000000) only [go_sem, doCall, doCallQ, Nat.reduceAdd, Nat.reduceMul, Nat.reduceSub, Nat.reduceDiv, Nat.reduceMod, Nat.reduceLT, Nat.reduceLeDiff, Nat.reduceEqDiff, Nat.reduceBEq, Nat.reduceBNe, Int.reduceToNat, Int.reduceLT, Int.reduceLE, Int.reduceEq, Int.reduceNe, Int.reduceAdd, Int.reduceSub, Int.reduceMul, Int.reduceNeg, bd85]
  repeat' (apply two_cases <;> intro h <;> simp (maxSteps := 2000000) only [go_sem, doCall, doCallQ, Nat.reduceAdd, Nat.reduceMul, Nat.reduceSub, Nat.reduceDiv, Nat.reduceMod, Nat.reduceLT, Nat.reduceLeDiff, Nat.reduceEqDiff, Nat.reduceBEq, Nat.reduceBNe, Int.reduceToNat, Int.reduceLT, Int.reduceLE, Int.reduceEq, Int.reduceNe, Int.reduceAdd, Int.reduceSub, Int.reduceMul, Int.reduceNeg, h, false_and, and_false])
theorem c_with (W : Wd) (i : Nat) (hi : i ≤ 4096) : call ir 73 [.agg ((w65 W).map .d), .d (.int .i64 i)] [] = some (.agg ((w65 (withW W i)).map .d), []) := by
  have hm := c_mayb i
  rw [decide_eq_true (show (0 : Int) ≤ i ∧ (i : Int) ≤ 4096 by omega)] at hm
  have hk : i / 64 < 65 := by omega
  have q1 : wr .i64 ((i : Int).tdiv 64) = ((i / 64 : Nat) : Int) := by
    have : (i : Int).tdiv 64 = ((i / 64 : Nat) : Int) := by rw [Int.tdiv_eq_ediv_of_nonneg (by omega)]; omega
    rw [this]; exact wr_id (by omega)
  have q2 : (i : Int).tmod 64 = ((i % 64 : Nat) : Int) := by rw [Int.tmod_eq_emod_of_nonneg (by omega)]; omega
  have h0 := eq_true (show (0 : Int) ≤ ((i / 64 : Nat) : Int) by omega)
  have h1 := eq_true (show ((i / 64 : Nat) : Int) < 65 by omega)
  have h2 := eq_true (show (0 : Int) ≤ ((i % 64 : Nat) : Int) by omega)
  have hs := wshl (show i % 64 < 64 by omega)
  have hg : (w65 W).getD (i / 64) .nilp = .int .u64 (W (i / 64)).toNat := arr_getD hk _
  have hp : (w65 W).take (i / 64) ++ [D.int .u64 ((W (i / 64) ||| bit (i % 64)).toNat : Int)] ++ (w65 W).drop (i / 64 + 1) = w65 (withW W i) := by
    unfold w65 withW
    rw [arr_put hk, upd_w]
  have hb : IntKind.u64.bits = 64 := rfl
  have hw := wor (W (i / 64)) (bit (i % 64))
  have ht : (w65 (withW W i)).take 65 = w65 (withW W i) := arr_take 65 _
  rw [call_eq (fn := ir73) rfl, evF_bnd]
  simp (maxSteps := 2000000) (disch := omega) only [go_sem, doCall, doCallQ, Nat.reduceAdd, Nat.reduceMul, Nat.reduceSub, Nat.reduceDiv, Nat.reduceMod, Nat.reduceLT, Nat.reduceLeDiff, Nat.reduceEqDiff, Nat.reduceBEq, Nat.reduceBNe, Int.reduceToNat, Int.reduceLT, Int.reduceLE, Int.reduceEq, Int.reduceNe, Int.reduceAdd, Int.reduceSub, Int.reduceMul, Int.reduceNeg, bd73, hm, q1, q2, h0, h1, h2, hb, hs, hw, hg, hp, ht, w65_len, Int.toNat_natCast, Nat.zero_add, Nat.mul_one, chk_of]
def natRows (l : List Nat) : List (List D) := l.map fun (i : Nat) => [.int .i64 (i : Int)]
theorem natRows_len (l : List Nat) : (natRows l).length = l.length := List.length_map ..
theorem natRows_get (l : List Nat) {j : Nat} (h : j < l.length) : (natRows l).getD j [] = [.int .i64 (l[j] : Int)] := by simp [natRows, List.getD_eq_getElem?_getD, h]
theorem w65_take (W : Wd) : (w65 W).take 65 = w65 W := arr_take 65 _
theorem w65_drop (W : Wd) : (w65 W).drop 65 = [] := arr_drop 65 _
theorem w65_plain (W : Wd) : boxOf.plainD ((w65 W).map AV.d) = some (w65 W) := plainD_map _
theorem w65_box (W : Wd) : boxOf ((w65 W).map AV.d) = .dbox (w65 W) := boxOf_map _
theorem w65_mlen (W : Wd) : ((w65 W).map AV.d).length = 65 := by rw [List.length_map, w65_len]
theorem w65_refs (W : Wd) : AV.refsL ((w65 W).map AV.d) = [] := refsL_d _
theorem w65_owns (W : Wd) : AV.ownsL ((w65 W).map AV.d) = [] := ownsL_d _
theorem w65_view (H : Heap) (W : Wd) : AV.viewL H ((w65 W).map AV.d) = (w65 W).map AV.d := viewL_d H _
theorem w65_ren (f : Nat → Option Nat) (W : Wd) : AV.renL f ((w65 W).map AV.d) = (w65 W).map AV.d := renL_d f _
theorem lp_of (Z : List D) (l : List Nat) (h4 : ∀ i ∈ l, i ≤ 4096) (hl : l.length ≤ 1000000) (K : Ex → St → Option (AV × Heap)) (j : Nat) (hj : j ≤ l.length) (W : Wd) :
    bnd (evC (call ir) (loop ir) lp53_0 (st53_0 0 (.ptr 0 0) (.ptr 1 0) (.d (.list 1 (natRows l))) (.d (.int .i64 l.length)) (.d (.int .i64 j)) [.dbox Z, .dbox (w65 W)]))
      (lpC (call ir) (loop ir) [2, 3, 6, 7, 8] lp53_0 K) =
    K (.exit 0) (clean [2, 3] (st53_0 0 (.ptr 0 0) (.ptr 1 0) .unk .unk .unk [.dbox Z, .dbox (w65 ((l.drop j).foldl withW W))])) := by
  have hlm := natRows_len l
  by_cases h : j = l.length
  · have hx : ¬ (j : Int) < l.length := by omega
    subst h
    simp (maxSteps := 2000000) (disch := omega) only [go_sem, doCall, doCallQ, Nat.reduceAdd, Nat.reduceMul, Nat.reduceSub, Nat.reduceDiv, Nat.reduceMod, Nat.reduceLT, Nat.reduceLeDiff, Nat.reduceEqDiff, Nat.reduceBEq, Nat.reduceBNe, Int.reduceToNat, Int.reduceLT, Int.reduceLE, Int.reduceEq, Int.reduceNe, Int.reduceAdd, Int.reduceSub, Int.reduceMul, Int.reduceNeg, u53_0, lb53_0, hx, List.drop_length, List.foldl_nil]
  · have hlt : (j : Int) < l.length := by omega
    have hj' : j < l.length := by omega
    have hw := wr_succ (i := j) (by omega)
    have hr := natRows_get l hj'
    have hdl : l.drop j = l[j] :: l.drop (j + 1) := List.drop_eq_getElem_cons hj'
    have ih := lp_of Z l h4 hl K (j + 1) (by omega) (withW W l[j])
    have q := c_with W l[j] (h4 _ (List.getElem_mem hj'))
    rw [hdl, List.foldl_cons]
    simp (maxSteps := 2000000) (disch := omega) only [go_sem, doCall, doCallQ, Nat.reduceAdd, Nat.reduceMul, Nat.reduceSub, Nat.reduceDiv, Nat.reduceMod, Nat.reduceLT, Nat.reduceLeDiff, Nat.reduceEqDiff, Nat.reduceBEq, Nat.reduceBNe, Int.reduceToNat, Int.reduceLT, Int.reduceLE, Int.reduceEq, Int.reduceNe, Int.reduceAdd, Int.reduceSub, Int.reduceMul, Int.reduceNeg, u53_0, lb53_0, hlt, hr, hlm, q, w65_len, w65_take, w65_drop, w65_plain, w65_box, w65_mlen, w65_refs, w65_owns, w65_view, w65_ren, Int.toNat_natCast, Nat.zero_add, Nat.mul_one, chk_of]
    rw [loop_step1]
    simp (maxSteps := 2000000) only [go_sem, doCall, doCallQ, Nat.reduceAdd, Nat.reduceMul, Nat.reduceSub, Nat.reduceDiv, Nat.reduceMod, Nat.reduceLT, Nat.reduceLeDiff, Nat.reduceEqDiff, Nat.reduceBEq, Nat.reduceBNe, Int.reduceToNat, Int.reduceLT, Int.reduceLE, Int.reduceEq, Int.reduceNe, Int.reduceAdd, Int.reduceSub, Int.reduceMul, Int.reduceNeg, hw]
    simp (maxSteps := 2000000) only [go_sem, doCall, doCallQ, Nat.reduceAdd, Nat.reduceMul, Nat.reduceSub, Nat.reduceDiv, Nat.reduceMod, Nat.reduceLT, Nat.reduceLeDiff, Nat.reduceEqDiff, Nat.reduceBEq, Nat.reduceBNe, Int.reduceToNat, Int.reduceLT, Int.reduceLE, Int.reduceEq, Int.reduceNe, Int.reduceAdd, Int.reduceSub, Int.reduceMul, Int.reduceNeg] at ih
    exact ih
termination_by l.length - j
theorem c_of (l : List Nat) (h4 : ∀ i ∈ l, i ≤ 4096) (hl : l.length ≤ 1000000) : call ir 53 [.d (.list 1 (natRows l))] [] = some (.agg ((w65 (ofW l)).map .d), []) := by
  have hlm := natRows_len l
  rw [call_eq (fn := ir53) rfl, evF_bnd]
  simp (maxSteps := 2000000) (disch := omega) only [go_sem, doCall, doCallQ, Nat.reduceAdd, Nat.reduceMul, Nat.reduceSub, Nat.reduceDiv, Nat.reduceMod, Nat.reduceLT, Nat.reduceLeDiff, Nat.reduceEqDiff, Nat.reduceBEq, Nat.reduceBNe, Int.reduceToNat, Int.reduceLT, Int.reduceLE, Int.reduceEq, Int.reduceNe, Int.reduceAdd, Int.reduceSub, Int.reduceMul, Int.reduceNeg, bd53, hlm, w65_len, w65_take, w65_drop, w65_plain, w65_box, w65_mlen, w65_refs, w65_owns, w65_view, w65_ren, Int.toNat_natCast, Nat.zero_add, Nat.mul_one, chk_of]
  rw [loop_step1]
  simp (maxSteps := 2000000) only [go_sem, doCall, doCallQ, Nat.reduceAdd, Nat.reduceMul, Nat.reduceSub, Nat.reduceDiv, Nat.reduceMod, Nat.reduceLT, Nat.reduceLeDiff, Nat.reduceEqDiff, Nat.reduceBEq, Nat.reduceBNe, Int.reduceToNat, Int.reduceLT, Int.reduceLE, Int.reduceEq, Int.reduceNe, Int.reduceAdd, Int.reduceSub, Int.reduceMul, Int.reduceNeg]
  refine (lp_of _ l h4 hl _ 0 (Nat.zero_le _) (fun _ => 0#64)).trans ?_
  simp (maxSteps := 2000000) (disch := omega) only [go_sem, doCall, doCallQ, Nat.reduceAdd, Nat.reduceMul, Nat.reduceSub, Nat.reduceDiv, Nat.reduceMod, Nat.reduceLT, Nat.reduceLeDiff, Nat.reduceEqDiff, Nat.reduceBEq, Nat.reduceBNe, Int.reduceToNat, Int.reduceLT, Int.reduceLE, Int.reduceEq, Int.reduceNe, Int.reduceAdd, Int.reduceSub, Int.reduceMul, Int.reduceNeg, List.drop_zero, w65_len, w65_take, w65_drop, w65_plain, w65_box, w65_mlen, w65_refs, w65_owns, w65_view, w65_ren, Int.toNat_natCast, Nat.zero_add, Nat.mul_one, chk_of]
  rfl
end Go.Proofs.YtoipfdbdifoecaaGreatDoor
namespace Go.Proofs.YtoipfdbdifoecaaGreatDoor
open Go Go.Ev Go.Proofs.YtoipfdbdifoecaaGreatDoor.Ir
set_option maxRecDepth 100000
set_option maxHeartbeats 4000000
set_option linter.unusedSimpArgs false
set_option linter.unusedVariables false
def keysN (p : PM) : List Nat := (pmK p).map fun q => q.1.toNat
def okK (p : PM) : Prop := (pmK p).length ≤ 1000000 ∧ ∀ q ∈ pmK p, 0 ≤ q.1 ∧ q.1 ≤ 4096
theorem keysN_le {p : PM} (h : okK p) : ∀ i ∈ keysN p, i ≤ 4096 := by
  intro i hi
  obtain ⟨q, hq, rfl⟩ := List.mem_map.1 hi
  have := h.2 q hq
  omega
theorem keysN_len (p : PM) : (keysN p).length = (pmK p).length := List.length_map ..
theorem sortedA_pm (p : PM) : sortedA (pmD p) = some ((pmK p).map (·.1)) := by
  cases p with
  | none => rfl
  | some l => simp [pmD, pmK, sortedA, mpD]
theorem rows_keys {p : PM} (h : okK p) : intRows ((pmK p).map (·.1)) = natRows (keysN p) := by
  unfold intRows natRows keysN
  rw [List.map_map, List.map_map]
  refine List.map_congr_left fun q hq => ?_
  have := h.2 q hq
  show [D.int .i64 q.1] = [D.int .i64 (q.1.toNat : Int)]
  rw [Int.toNat_of_nonneg this.1]
theorem c_sorted (p : PM) (h : okK p) : call ir 51 [.clo (.func 72) [] [.ptr 0 0]] [.dbox [pmD p]] = some (.d (.list 1 (natRows (keysN p))), [.dbox [pmD p]]) := by
  rw [call_nat (by rfl)]
  show natOr _ _ _ _ _ = _
  have e := natSO_eq 51 72 (sortedA_pm p)
  rw [if_pos ⟨by rw [List.length_map]; exact h.1, fun k hk => by
    obtain ⟨q, hq, rfl⟩ := List.mem_map.1 hk
    have := h.2 q hq
    omega⟩, rows_keys h] at e
  unfold natOr
  rw [e]
theorem c_keys (p : PM) : call ir 52 [.d (pmD p)] [] = some (.clo (.func 72) [] [.ptr 0 0], [.dbox [pmD p]]) := by
  rw [call_eq (fn := ir52) rfl, evF_bnd]
  cases p <;> simp (maxSteps := 2000000) (disch := omega) only [go_sem, doCall, doCallQ, Nat.reduceAdd, Nat.reduceMul, Nat.reduceSub, Nat.reduceDiv, Nat.reduceMod, Nat.reduceLT, Nat.reduceLeDiff, Nat.reduceEqDiff, Nat.reduceBEq, Nat.reduceBNe, Int.reduceToNat, Int.reduceLT, Int.reduceLE, Int.reduceEq, Int.reduceNe, Int.reduceAdd, Int.reduceSub, Int.reduceMul, Int.reduceNeg, bd52, pmD]
theorem c_slices (x : Nat → Sl) (k : Nat) (hk : k < 16) (h : okK (x k).pm) : call ir 28 [.agg (idxD x), .d (.int .i64 k)] [] = some (.agg ((w65 (ofW (keysN (x k).pm))).map .d), []) := by
  have hs := c_slot x k
  rw [slF_in x hk] at hs
  have ck := c_keys (x k).pm
  have hc := c_sorted _ h
  have ho := c_of (keysN (x k).pm) (keysN_le h) (by rw [keysN_len]; exact h.1)
  rw [call_eq (fn := ir28) rfl, evF_bnd]
  simp (maxSteps := 2000000) (disch := omega) only [go_sem, doCall, doCallQ, Nat.reduceAdd, Nat.reduceMul, Nat.reduceSub, Nat.reduceDiv, Nat.reduceMod, Nat.reduceLT, Nat.reduceLeDiff, Nat.reduceEqDiff, Nat.reduceBEq, Nat.reduceBNe, Int.reduceToNat, Int.reduceLT, Int.reduceLE, Int.reduceEq, Int.reduceNe, Int.reduceAdd, Int.reduceSub, Int.reduceMul, Int.reduceNeg, bd28, hs, Sl.av, ck, hc, ho, natRows_len, w65_len, w65_take, w65_drop, w65_plain, w65_box, w65_mlen, w65_refs, w65_owns, w65_view, w65_ren, idxC_len, idxD_len, cs_len, av_len, map_cs, map_idx, idxC_take, idxC_drop, plain_av, plain_idx, box_idx, refs_av, owns_av, view_av, ren_av, refs_idx, owns_idx, view_idx, ren_idx, Int.toNat_natCast, Nat.zero_add, chk_of]
  try rfl
end Go.Proofs.YtoipfdbdifoecaaGreatDoor
