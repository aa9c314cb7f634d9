/- Numbers in decimal. Own work. Numbers in decimal, read. Own work. -/
import Derived.Test.YtpibecljdooilaaDoorIrR
import Derived.Test.YtpibecljdooilaaDoorEvArg
import Derived.Test.YtpibecljdooilaaDoorPrsA
namespace Go.Proofs.YtpibecljdooilaaDoor
open Go Go.Ev Go.Proofs.YtpibecljdooilaaDoor.Ir
set_option maxRecDepth 100000
set_option maxHeartbeats 4000000
set_option linter.unusedSimpArgs false
set_option linter.unusedVariables false
def dg (u : Nat) : UInt8 := UInt8.ofNat (48 + u % 10)
theorem dg_nat (u : Nat) : (dg u).toNat = 48 + u % 10 := by
  unfold dg; rw [UInt8.toNat_ofNat']; omega
theorem dg_val (u : Nat) : wr .u8 (wr .u64 (48 + (u : Int).tmod 10)) = ((dg u).toNat : Int) := by
  have h : (u : Int).tmod 10 = ((u % 10 : Nat) : Int) := by rw [Int.tmod_eq_emod_of_nonneg (by omega)]; omega
  rw [h, dg_nat, wr_u64 (by omega), wr_u8 (by omega)]; omega
theorem quo10 (u : Nat) (h : u ≤ 18446744073709551615) : wr .u64 ((u : Int).tdiv 10) = ((u / 10 : Nat) : Int) := by
  have : (u : Int).tdiv 10 = ((u / 10 : Nat) : Int) := by rw [Int.tdiv_eq_ediv_of_nonneg (by omega)]; omega
  rw [this, wr_u64 (by omega)]
def decs (u : Nat) : List UInt8 := if h : u < 10 then [dg u] else decs (u / 10) ++ [dg u]
theorem decs_lt {u : Nat} (h : u < 10) : decs u = [dg u] := by rw [decs, dif_pos h]
theorem decs_ge {u : Nat} (h : ¬ u < 10) : decs u = decs (u / 10) ++ [dg u] := by rw [decs, dif_neg h]
theorem decs_len : ∀ (k u : Nat), u < 10 ^ (k + 1) → (decs u).length ≤ k + 1
  | 0, u, h => by rw [decs_lt (by simpa using h)]; simp
  | k + 1, u, h => by
    by_cases hu : u < 10
    · rw [decs_lt hu]; simp
    · rw [decs_ge hu]
      have := decs_len k (u / 10) (by rw [Nat.pow_succ] at h; omega)
      simp; omega
theorem lp_print (sg : List UInt8) (k : Ex → St → Option (AV × Heap)) : ∀ (q u : Nat) (b : List UInt8), u < 10 ^ (q + 1) → u ≤ 18446744073709551615 → b.length + q ≤ 40 →
    bnd (evC (call ir) (loop ir) lp99_0 (st99_0 0 (.d (.int .u64 u)) (.d (.str sg)) (.own 0 1 0 b.length false) [.arr 1 (rB b)])) (lpC (call ir) (loop ir) [3, 4, 5] lp99_0 k) =
      k (.exit 0) (clean [4, 5] (st99_0 0 (.d (.int .u64 0)) (.d (.str sg)) (.own 0 1 0 (b ++ (decs u).reverse).length false) [.arr 1 (rB (b ++ (decs u).reverse))]))
  | q, u, b, h, hu, hb => by
    have hd := dg_val u
    have hq := quo10 u hu
    have hr : rB b ++ [[D.int .u8 (dg u).toNat]] = rB (b ++ [dg u]) := by simp [rB]
    have hl : b.length + 1 = (b ++ [dg u]).length := by simp
    by_cases h10 : u < 10
    · have e0 : ((u / 10 : Nat) : Int) = 0 := by omega
      rw [decs_lt h10]
      simp (maxSteps := 2000000) (disch := omega) only [go_sem, doCall, doCallQ, doCallP, Nat.reduceAdd, Nat.reduceMul, Nat.reduceSub, Nat.reduceDiv, Nat.reduceMod, Nat.reduceLT, Nat.reduceLeDiff, Nat.reduceEqDiff, Nat.reduceBEq, Nat.reduceBNe, Int.reduceToNat, Int.reduceLT, Int.reduceLE, Int.reduceEq, Int.reduceNe, Int.reduceAdd, Int.reduceSub, Int.reduceMul, Int.reduceNeg, u99_0, lb99_0, hd, hq, e0, rB_len, hr, hl, Nat.zero_add, Nat.mul_one, drop0, chk_of, List.reverse_cons, List.reverse_nil, List.nil_append]
    · have e0 : ¬ ((u / 10 : Nat) : Int) = 0 := by omega
      simp (maxSteps := 2000000) (disch := omega) only [go_sem, doCall, doCallQ, doCallP, Nat.reduceAdd, Nat.reduceMul, Nat.reduceSub, Nat.reduceDiv, Nat.reduceMod, Nat.reduceLT, Nat.reduceLeDiff, Nat.reduceEqDiff, Nat.reduceBEq, Nat.reduceBNe, Int.reduceToNat, Int.reduceLT, Int.reduceLE, Int.reduceEq, Int.reduceNe, Int.reduceAdd, Int.reduceSub, Int.reduceMul, Int.reduceNeg, u99_0, lb99_0, hd, hq, e0, rB_len, hr, hl, Nat.zero_add, Nat.mul_one, chk_of]
      rw [loop_step1]
      simp (maxSteps := 2000000) only [go_sem, doCall, doCallQ, doCallP, Nat.reduceAdd, Nat.reduceMul, Nat.reduceSub, Nat.reduceDiv, Nat.reduceMod, Nat.reduceLT, Nat.reduceLeDiff, Nat.reduceEqDiff, Nat.reduceBEq, Nat.reduceBNe, Int.reduceToNat, Int.reduceLT, Int.reduceLE, Int.reduceEq, Int.reduceNe, Int.reduceAdd, Int.reduceSub, Int.reduceMul, Int.reduceNeg]
      have hq1 : ∃ q', q = q' + 1 := by
        cases q with
        | zero => simp at h; omega
        | succ q => exact ⟨q, rfl⟩
      obtain ⟨q', rfl⟩ := hq1
      have := lp_print sg k q' (u / 10) (b ++ [dg u]) (by rw [Nat.pow_succ] at h; omega) (by omega) (by simp; omega)
      have e : b ++ (decs u).reverse = b ++ [dg u] ++ (decs (u / 10)).reverse := by rw [decs_ge h10]; simp
      rw [e]
      simp (maxSteps := 2000000) only [go_sem, doCall, doCallQ, doCallP, Nat.reduceAdd, Nat.reduceMul, Nat.reduceSub, Nat.reduceDiv, Nat.reduceMod, Nat.reduceLT, Nat.reduceLeDiff, Nat.reduceEqDiff, Nat.reduceBEq, Nat.reduceBNe, Int.reduceToNat, Int.reduceLT, Int.reduceLE, Int.reduceEq, Int.reduceNe, Int.reduceAdd, Int.reduceSub, Int.reduceMul, Int.reduceNeg] at this
      exact this
/-- Half turned. -/
def turned {α : Type} (n : Nat) (f : Nat → α) (i : Nat) : Nat → α := fun k => if k < i ∨ n < k + 1 + i then f (n - 1 - k) else f k
theorem turned_step {α : Type} (n : Nat) (f : Nat → α) (i : Nat) (h : i < n - 1 - i) : upd (upd (turned n f i) i (turned n f i (n - 1 - i))) (n - 1 - i) (turned n f i i) = turned n f (i + 1) := by
  funext k
  unfold upd turned
  by_cases h1 : k = n - 1 - i
  · subst h1
    rw [if_pos rfl, if_neg (by omega), if_pos (by omega)]
    congr 1; omega
  · rw [if_neg h1]
    by_cases h2 : k = i
    · subst h2
      rw [if_pos rfl, if_neg (by omega), if_pos (by omega)]
    · rw [if_neg h2]
      by_cases h3 : k < i ∨ n < k + 1 + i
      · rw [if_pos h3, if_pos (by omega)]
      · rw [if_neg h3, if_neg (by omega)]
theorem turned_end {α : Type} (n : Nat) (f : Nat → α) (i : Nat) (h : n - 1 - i ≤ i) : tab n (turned n f i) = tab n fun k => f (n - 1 - k) := by
  apply tab_ext
  intro k hk
  unfold turned
  split
  · rfl
  · congr 1; omega
theorem lp_rev (n : Nat) (hn : n ≤ 1000) (f : Nat → List D) (hf : ∀ i, ∃ d : Int, f i = [.int .u8 d]) (k : Ex → St → Option (AV × Heap)) (i : Nat) (hi : i ≤ n) (hi2 : i ≤ n - i + 1) :
    bnd (evC (call ir) (loop ir) lp124_0 (st124_0 1 (.own 0 1 0 n false) (.d (.int .i64 i)) (.d (.int .i64 ((n : Int) - 1 - i))) [.arr 1 (tab n (turned n f i))])) (lpC (call ir) (loop ir) [0, 2, 3] lp124_0 k) =
      k (.exit 0) (clean [] (st124_0 1 (.own 0 1 0 n false) (.d (.int .i64 0)) (.d (.int .i64 0)) [.arr 1 (tab n fun k => f (n - 1 - k))])) := by
  by_cases h : (i : Int) < (n : Int) - 1 - i
  · have hj : ((n : Int) - 1 - i).toNat = n - 1 - i := by omega
    have hw := wr_succ (i := i) (by omega)
    have hw2 : wr .i64 ((n : Int) - 1 - i - 1) = (n : Int) - 1 - ((i + 1 : Nat) : Int) := by rw [wr_id (by omega)]; omega
    have hti : ∀ j, ∃ d : Int, turned n f i j = [.int .u8 d] := fun j => by unfold turned; split <;> exact hf _
    obtain ⟨d1, e1⟩ := hti i
    obtain ⟨d2, e2⟩ := hti (n - 1 - i)
    have e4 : upd (turned n f i) i [.int .u8 d2] (n - 1 - i) = [.int .u8 d2] := by unfold upd; rw [if_neg (by omega), e2]
    have hs := turned_step n f i (by omega)
    rw [e1, e2] at hs
    simp (maxSteps := 2000000) (disch := omega) only [go_sem, doCall, doCallQ, doCallP, Nat.reduceAdd, Nat.reduceMul, Nat.reduceSub, Nat.reduceDiv, Nat.reduceMod, Nat.reduceLT, Nat.reduceLeDiff, Nat.reduceEqDiff, Nat.reduceBEq, Nat.reduceBNe, Int.reduceToNat, Int.reduceLT, Int.reduceLE, Int.reduceEq, Int.reduceNe, Int.reduceAdd, Int.reduceSub, Int.reduceMul, Int.reduceNeg, u124_0, lb124_0, h, hj, Int.toNat_natCast, Nat.zero_add, Nat.add_zero, tab_len, tab_getD, tab_set, e1, e2, e4, hs, chk_of]
    rw [loop_step1]
    simp (maxSteps := 2000000) only [go_sem, doCall, doCallQ, doCallP, Nat.reduceAdd, Nat.reduceMul, Nat.reduceSub, Nat.reduceDiv, Nat.reduceMod, Nat.reduceLT, Nat.reduceLeDiff, Nat.reduceEqDiff, Nat.reduceBEq, Nat.reduceBNe, Int.reduceToNat, Int.reduceLT, Int.reduceLE, Int.reduceEq, Int.reduceNe, Int.reduceAdd, Int.reduceSub, Int.reduceMul, Int.reduceNeg, hw, hw2]
    exact lp_rev n hn f hf k (i + 1) (by omega) (by omega)
  · simp (maxSteps := 2000000) (disch := omega) only [go_sem, doCall, doCallQ, doCallP, Nat.reduceAdd, Nat.reduceMul, Nat.reduceSub, Nat.reduceDiv, Nat.reduceMod, Nat.reduceLT, Nat.reduceLeDiff, Nat.reduceEqDiff, Nat.reduceBEq, Nat.reduceBNe, Int.reduceToNat, Int.reduceLT, Int.reduceLE, Int.reduceEq, Int.reduceNe, Int.reduceAdd, Int.reduceSub, Int.reduceMul, Int.reduceNeg, u124_0, lb124_0, h]
    rw [turned_end n f i (by omega)]
termination_by n - i
theorem rB_rev (b : List UInt8) : (tab b.length fun k => [D.int .u8 (b.getD (b.length - 1 - k) 0).toNat]) = rB b.reverse := by
  apply List.ext_getElem?
  intro j
  by_cases hj : j < b.length
  · have h2 : b.length - 1 - j < b.length := by omega
    simp [Ev.tab, rB, hj, List.getElem?_reverse, List.getD_eq_getElem?_getD, h2]
  · simp [Ev.tab, rB, hj]
theorem t_reverse (b : List UInt8) (hb : b.length ≤ 1000) : call ir 124 [.own 0 1 0 b.length false] [.arr 1 (rB b)] = some (.tup [], [.arr 1 (rB b.reverse)]) := by
  rw [call_eq (fn := ir124) rfl, evF_bnd]
  have hw : wr .i64 ((b.length : Int) - 1) = (b.length : Int) - 1 := wr_id (by omega)
  simp (maxSteps := 2000000) only [go_sem, doCall, doCallQ, doCallP, Nat.reduceAdd, Nat.reduceMul, Nat.reduceSub, Nat.reduceDiv, Nat.reduceMod, Nat.reduceLT, Nat.reduceLeDiff, Nat.reduceEqDiff, Nat.reduceBEq, Nat.reduceBNe, Int.reduceToNat, Int.reduceLT, Int.reduceLE, Int.reduceEq, Int.reduceNe, Int.reduceAdd, Int.reduceSub, Int.reduceMul, Int.reduceNeg, bd124, hw]
  rw [loop_step1]
  simp (maxSteps := 2000000) only [go_sem, doCall, doCallQ, doCallP, Nat.reduceAdd, Nat.reduceMul, Nat.reduceSub, Nat.reduceDiv, Nat.reduceMod, Nat.reduceLT, Nat.reduceLeDiff, Nat.reduceEqDiff, Nat.reduceBEq, Nat.reduceBNe, Int.reduceToNat, Int.reduceLT, Int.reduceLE, Int.reduceEq, Int.reduceNe, Int.reduceAdd, Int.reduceSub, Int.reduceMul, Int.reduceNeg]
  have e : rB b = tab b.length (turned b.length (fun k => [D.int .u8 (b.getD k 0).toNat]) 0) := by
    have := tab_of (rB b) []
    rw [rB_len] at this
    rw [this]
    apply tab_ext
    intro k hk
    rw [rB_getD hk]; unfold turned; rw [if_neg (by omega)]
  rw [e]
  have := lp_rev b.length hb (fun k => [D.int .u8 (b.getD k 0).toNat]) (fun i => ⟨_, rfl⟩)
  have h0 := this (bk 0 (fin ir124)) 0 (by omega) (by omega)
  rw [show (b.length : Int) - 1 - ((0 : Nat) : Int) = (b.length : Int) - 1 by omega] at h0
  refine Eq.trans h0 ?_
  simp (maxSteps := 2000000) only [go_sem, doCall, doCallQ, doCallP, Nat.reduceAdd, Nat.reduceMul, Nat.reduceSub, Nat.reduceDiv, Nat.reduceMod, Nat.reduceLT, Nat.reduceLeDiff, Nat.reduceEqDiff, Nat.reduceBEq, Nat.reduceBNe, Int.reduceToNat, Int.reduceLT, Int.reduceLE, Int.reduceEq, Int.reduceNe, Int.reduceAdd, Int.reduceSub, Int.reduceMul, Int.reduceNeg, rB_rev]
/-- A number in decimal. -/
def prn (n : Int) : List UInt8 := if n < 0 then 45 :: decs n.natAbs else decs n.toNat
theorem prn_len {n : Int} (h : -9223372036854775808 ≤ n ∧ n ≤ 9223372036854775807) : (prn n).length ≤ 20 := by
  unfold prn
  split
  · have := decs_len 18 n.natAbs (by omega)
    simp; omega
  · have := decs_len 18 n.toNat (by omega)
    omega
theorem t_print (n : Int) (h : -9223372036854775808 ≤ n ∧ n ≤ 9223372036854775807) : call ir 99 [.d (.int .i64 n)] [] = some (.d (.str (prn n)), []) := by
  rw [call_eq (fn := ir99) rfl, evF_bnd]
  simp (maxSteps := 2000000) only [go_sem, doCall, doCallQ, doCallP, Nat.reduceAdd, Nat.reduceMul, Nat.reduceSub, Nat.reduceDiv, Nat.reduceMod, Nat.reduceLT, Nat.reduceLeDiff, Nat.reduceEqDiff, Nat.reduceBEq, Nat.reduceBNe, Int.reduceToNat, Int.reduceLT, Int.reduceLE, Int.reduceEq, Int.reduceNe, Int.reduceAdd, Int.reduceSub, Int.reduceMul, Int.reduceNeg, bd99]
  apply two_cases
  · intro hn
    have e1 : wr .u64 (0 - wr .u64 n) = ((n.natAbs : Nat) : Int) := by
      have : wr .u64 n = n + 18446744073709551616 := by
        simp [wr, IntKind.wrap, IntKind.signed, IntKind.bits]; omega
      rw [this]
      simp [wr, IntKind.wrap, IntKind.signed, IntKind.bits]; omega
    simp (maxSteps := 2000000) only [go_sem, doCall, doCallQ, doCallP, Nat.reduceAdd, Nat.reduceMul, Nat.reduceSub, Nat.reduceDiv, Nat.reduceMod, Nat.reduceLT, Nat.reduceLeDiff, Nat.reduceEqDiff, Nat.reduceBEq, Nat.reduceBNe, Int.reduceToNat, Int.reduceLT, Int.reduceLE, Int.reduceEq, Int.reduceNe, Int.reduceAdd, Int.reduceSub, Int.reduceMul, Int.reduceNeg, e1]
    rw [loop_step1]
    simp (maxSteps := 2000000) only [go_sem, doCall, doCallQ, doCallP, Nat.reduceAdd, Nat.reduceMul, Nat.reduceSub, Nat.reduceDiv, Nat.reduceMod, Nat.reduceLT, Nat.reduceLeDiff, Nat.reduceEqDiff, Nat.reduceBEq, Nat.reduceBNe, Int.reduceToNat, Int.reduceLT, Int.reduceLE, Int.reduceEq, Int.reduceNe, Int.reduceAdd, Int.reduceSub, Int.reduceMul, Int.reduceNeg]
    have hl := decs_len 19 n.natAbs (by omega)
    have e2 : rB [] = ([] : List (List D)) := rfl
    refine Eq.trans (lp_print [45] _ 19 n.natAbs [] (by omega) (by omega) (by simp)) ?_
    rw [List.nil_append]
    have hp : prn n = [45] ++ decs n.natAbs := by rw [prn, if_pos hn]; rfl
    rw [hp]
    generalize decs n.natAbs = ds at hl
    have hr := t_reverse ds.reverse (by simp; omega)
    have hl2 : ds.reverse.length = ds.length := by simp
    rw [List.reverse_reverse] at hr
    rw [hl2] at hr ⊢
    simp (maxSteps := 2000000) (disch := omega) only [go_sem, doCall, doCallQ, doCallP, Nat.reduceAdd, Nat.reduceMul, Nat.reduceSub, Nat.reduceDiv, Nat.reduceMod, Nat.reduceLT, Nat.reduceLeDiff, Nat.reduceEqDiff, Nat.reduceBEq, Nat.reduceBNe, Int.reduceToNat, Int.reduceLT, Int.reduceLE, Int.reduceEq, Int.reduceNe, Int.reduceAdd, Int.reduceSub, Int.reduceMul, Int.reduceNeg, hr, chk_of, List.length_cons, List.length_nil]
  · intro hn
    have e1 : wr .u64 n = ((n.toNat : Nat) : Int) := by
      simp [wr, IntKind.wrap, IntKind.signed, IntKind.bits]; omega
    simp (maxSteps := 2000000) only [go_sem, doCall, doCallQ, doCallP, Nat.reduceAdd, Nat.reduceMul, Nat.reduceSub, Nat.reduceDiv, Nat.reduceMod, Nat.reduceLT, Nat.reduceLeDiff, Nat.reduceEqDiff, Nat.reduceBEq, Nat.reduceBNe, Int.reduceToNat, Int.reduceLT, Int.reduceLE, Int.reduceEq, Int.reduceNe, Int.reduceAdd, Int.reduceSub, Int.reduceMul, Int.reduceNeg, e1]
    rw [loop_step1]
    simp (maxSteps := 2000000) only [go_sem, doCall, doCallQ, doCallP, Nat.reduceAdd, Nat.reduceMul, Nat.reduceSub, Nat.reduceDiv, Nat.reduceMod, Nat.reduceLT, Nat.reduceLeDiff, Nat.reduceEqDiff, Nat.reduceBEq, Nat.reduceBNe, Int.reduceToNat, Int.reduceLT, Int.reduceLE, Int.reduceEq, Int.reduceNe, Int.reduceAdd, Int.reduceSub, Int.reduceMul, Int.reduceNeg]
    have hl := decs_len 19 n.toNat (by omega)
    refine Eq.trans (lp_print [] _ 19 n.toNat [] (by omega) (by omega) (by simp)) ?_
    rw [List.nil_append]
    have hp : prn n = decs n.toNat := by rw [prn, if_neg hn]
    rw [hp]
    generalize decs n.toNat = ds at hl
    have hr := t_reverse ds.reverse (by simp; omega)
    have hl2 : ds.reverse.length = ds.length := by simp
    rw [List.reverse_reverse] at hr
    rw [hl2] at hr ⊢
    simp (maxSteps := 2000000) (disch := omega) only [go_sem, doCall, doCallQ, doCallP, Nat.reduceAdd, Nat.reduceMul, Nat.reduceSub, Nat.reduceDiv, Nat.reduceMod, Nat.reduceLT, Nat.reduceLeDiff, Nat.reduceEqDiff, Nat.reduceBEq, Nat.reduceBNe, Int.reduceToNat, Int.reduceLT, Int.reduceLE, Int.reduceEq, Int.reduceNe, Int.reduceAdd, Int.reduceSub, Int.reduceMul, Int.reduceNeg, hr, chk_of, List.length_cons, List.length_nil]
theorem one_byte (u : Nat) : [[D.int .u8 (dg u).toNat]] = rB [dg u] := rfl
theorem b2s_dg (H : Heap) (u : Nat) : b2sA (.arr 1 [[D.int .u8 (dg u).toNat]] :: H) (.own 0 1 0 1 true) = some (.d (.str [dg u])) := b2s_own0 H [dg u] true
theorem lp_digits (k : Ex → St → Option (AV × Heap)) (u : Nat) (s : List UInt8) (hu : u ≤ 18446744073709551615) (q : Nat) (hq : u < 10 ^ (q + 1)) (hs : s.length + q ≤ 40) :
    bnd (evC (call ir) (loop ir) lp93_0 (st93_0 0 (.d (.int .u64 u)) (.d (.str s)) [])) (lpC (call ir) (loop ir) [0, 3] lp93_0 k) =
      k (.exit 0) (clean [3] (st93_0 0 (.d (.int .u64 0)) (.d (.str ((if u < 10 then [] else decs (u / 10)) ++ s))) [])) := by
  by_cases h : u < 10
  · have hx : ¬ (10 : Int) ≤ u := by omega
    rw [if_pos h]
    simp (maxSteps := 2000000) (disch := omega) only [go_sem, doCall, doCallQ, doCallP, Nat.reduceAdd, Nat.reduceMul, Nat.reduceSub, Nat.reduceDiv, Nat.reduceMod, Nat.reduceLT, Nat.reduceLeDiff, Nat.reduceEqDiff, Nat.reduceBEq, Nat.reduceBNe, Int.reduceToNat, Int.reduceLT, Int.reduceLE, Int.reduceEq, Int.reduceNe, Int.reduceAdd, Int.reduceSub, Int.reduceMul, Int.reduceNeg, u93_0, lb93_0, hx]
  · have hx : (10 : Int) ≤ u := by omega
    rw [if_neg h]
    have hd := dg_val (u / 10)
    have hq10 := quo10 u hu
    cases q with
    | zero => simp at hq; omega
    | succ q =>
      have ih := lp_digits k (u / 10) (dg (u / 10) :: s) (by omega) q (by rw [Nat.pow_succ] at hq; omega) (by simp; omega)
      have e : (if u / 10 < 10 then [] else decs (u / 10 / 10)) ++ dg (u / 10) :: s = decs (u / 10) ++ s := by
        by_cases h2 : u / 10 < 10
        · rw [if_pos h2, decs_lt h2]; simp
        · rw [if_neg h2, decs_ge h2]; simp
      rw [e] at ih
      simp (maxSteps := 2000000) (disch := omega) only [go_sem, doCall, doCallQ, doCallP, Nat.reduceAdd, Nat.reduceMul, Nat.reduceSub, Nat.reduceDiv, Nat.reduceMod, Nat.reduceLT, Nat.reduceLeDiff, Nat.reduceEqDiff, Nat.reduceBEq, Nat.reduceBNe, Int.reduceToNat, Int.reduceLT, Int.reduceLE, Int.reduceEq, Int.reduceNe, Int.reduceAdd, Int.reduceSub, Int.reduceMul, Int.reduceNeg, u93_0, lb93_0, hx, hq10, hd, b2s_dg, List.length_cons, List.length_nil, chk_of]
      rw [loop_step1]
      simp (maxSteps := 2000000) only [go_sem, doCall, doCallQ, doCallP, Nat.reduceAdd, Nat.reduceMul, Nat.reduceSub, Nat.reduceDiv, Nat.reduceMod, Nat.reduceLT, Nat.reduceLeDiff, Nat.reduceEqDiff, Nat.reduceBEq, Nat.reduceBNe, Int.reduceToNat, Int.reduceLT, Int.reduceLE, Int.reduceEq, Int.reduceNe, Int.reduceAdd, Int.reduceSub, Int.reduceMul, Int.reduceNeg]
      simp (maxSteps := 2000000) only [go_sem, doCall, doCallQ, doCallP, Nat.reduceAdd, Nat.reduceMul, Nat.reduceSub, Nat.reduceDiv, Nat.reduceMod, Nat.reduceLT, Nat.reduceLeDiff, Nat.reduceEqDiff, Nat.reduceBEq, Nat.reduceBNe, Int.reduceToNat, Int.reduceLT, Int.reduceLE, Int.reduceEq, Int.reduceNe, Int.reduceAdd, Int.reduceSub, Int.reduceMul, Int.reduceNeg] at ih
      exact ih
theorem t_digits (u : Nat) (hu : u ≤ 18446744073709551615) : call ir 93 [.d (.int .u64 u)] [] = some (.d (.str (decs u)), []) := by
  rw [call_eq (fn := ir93) rfl, evF_bnd]
  have hd := dg_val u
  simp (maxSteps := 2000000) (disch := omega) only [go_sem, doCall, doCallQ, doCallP, Nat.reduceAdd, Nat.reduceMul, Nat.reduceSub, Nat.reduceDiv, Nat.reduceMod, Nat.reduceLT, Nat.reduceLeDiff, Nat.reduceEqDiff, Nat.reduceBEq, Nat.reduceBNe, Int.reduceToNat, Int.reduceLT, Int.reduceLE, Int.reduceEq, Int.reduceNe, Int.reduceAdd, Int.reduceSub, Int.reduceMul, Int.reduceNeg, bd93, hd, b2s_dg]
  rw [loop_step1]
  simp (maxSteps := 2000000) only [go_sem, doCall, doCallQ, doCallP, Nat.reduceAdd, Nat.reduceMul, Nat.reduceSub, Nat.reduceDiv, Nat.reduceMod, Nat.reduceLT, Nat.reduceLeDiff, Nat.reduceEqDiff, Nat.reduceBEq, Nat.reduceBNe, Int.reduceToNat, Int.reduceLT, Int.reduceLE, Int.reduceEq, Int.reduceNe, Int.reduceAdd, Int.reduceSub, Int.reduceMul, Int.reduceNeg]
  refine Eq.trans (lp_digits _ u [dg u] hu 19 (by omega) (by simp)) ?_
  have e : (if u < 10 then [] else decs (u / 10)) ++ [dg u] = decs u := by
    by_cases h : u < 10
    · rw [if_pos h, decs_lt h]; simp
    · rw [if_neg h, decs_ge h]
  rw [e]
  simp (maxSteps := 2000000) only [go_sem, doCall, doCallQ, doCallP, Nat.reduceAdd, Nat.reduceMul, Nat.reduceSub, Nat.reduceDiv, Nat.reduceMod, Nat.reduceLT, Nat.reduceLeDiff, Nat.reduceEqDiff, Nat.reduceBEq, Nat.reduceBNe, Int.reduceToNat, Int.reduceLT, Int.reduceLE, Int.reduceEq, Int.reduceNe, Int.reduceAdd, Int.reduceSub, Int.reduceMul, Int.reduceNeg]
theorem t_rprint (n : Int) (h : -9223372036854775808 ≤ n ∧ n ≤ 9223372036854775807) : call ir 64 [.d (.int .i64 n)] [] = some (.d (.str (prn n)), []) := by
  rw [call_eq (fn := ir64) rfl, evF_bnd]
  simp (maxSteps := 2000000) only [go_sem, doCall, doCallQ, doCallP, Nat.reduceAdd, Nat.reduceMul, Nat.reduceSub, Nat.reduceDiv, Nat.reduceMod, Nat.reduceLT, Nat.reduceLeDiff, Nat.reduceEqDiff, Nat.reduceBEq, Nat.reduceBNe, Int.reduceToNat, Int.reduceLT, Int.reduceLE, Int.reduceEq, Int.reduceNe, Int.reduceAdd, Int.reduceSub, Int.reduceMul, Int.reduceNeg, bd64]
  apply two_cases
  · intro hn
    have e1 : wr .u64 (wr .u64 (wr .i64 (0 - wr .i64 (n + 1))) + 1) = ((n.natAbs : Nat) : Int) := by
      rw [wr_id (n := n + 1) (by omega), wr_id (by omega), wr_u64 (n := 0 - (n + 1)) (by omega), wr_u64 (by omega)]; omega
    have hl := decs_len 19 n.natAbs (by omega)
    simp (maxSteps := 2000000) (disch := omega) only [go_sem, doCall, doCallQ, doCallP, Nat.reduceAdd, Nat.reduceMul, Nat.reduceSub, Nat.reduceDiv, Nat.reduceMod, Nat.reduceLT, Nat.reduceLeDiff, Nat.reduceEqDiff, Nat.reduceBEq, Nat.reduceBNe, Int.reduceToNat, Int.reduceLT, Int.reduceLE, Int.reduceEq, Int.reduceNe, Int.reduceAdd, Int.reduceSub, Int.reduceMul, Int.reduceNeg, e1, t_digits n.natAbs (by omega), List.length_cons, List.length_nil, chk_of]
    rw [prn, if_pos hn]
  · intro hn
    have e1 : wr .u64 n = ((n.toNat : Nat) : Int) := by
      simp [wr, IntKind.wrap, IntKind.signed, IntKind.bits]; omega
    simp (maxSteps := 2000000) (disch := omega) only [go_sem, doCall, doCallQ, doCallP, Nat.reduceAdd, Nat.reduceMul, Nat.reduceSub, Nat.reduceDiv, Nat.reduceMod, Nat.reduceLT, Nat.reduceLeDiff, Nat.reduceEqDiff, Nat.reduceBEq, Nat.reduceBNe, Int.reduceToNat, Int.reduceLT, Int.reduceLE, Int.reduceEq, Int.reduceNe, Int.reduceAdd, Int.reduceSub, Int.reduceMul, Int.reduceNeg, e1, t_digits n.toNat (by omega)]
    rw [prn, if_neg hn]
end Go.Proofs.YtpibecljdooilaaDoor
namespace Go.Proofs.YtpibecljdooilaaDoor
open Go Go.Ev Go.Prs
set_option maxRecDepth 100000
set_option linter.unusedSimpArgs false
set_option linter.unusedVariables false
theorem dg_isD (u : Nat) : isD (dg u) = true := by
  have := dg_nat u
  simp [isD, this]; omega
theorem decs_all : ∀ (n u : Nat), u ≤ n → (decs u).all isD = true
  | n, u, h => by
    by_cases hu : u < 10
    · rw [decs_lt hu]; simp [dg_isD]
    · rw [decs_ge hu, List.all_append]
      cases n with
      | zero => omega
      | succ n =>
        rw [decs_all n (u / 10) (by omega)]
        simp [dg_isD]
theorem decs_val : ∀ (n u : Nat), u ≤ n → val (decs u) = u
  | n, u, h => by
    by_cases hu : u < 10
    · rw [decs_lt hu]
      have := dg_nat u
      simp [val, this]; omega
    · rw [decs_ge hu, val_snoc]
      cases n with
      | zero => omega
      | succ n =>
        rw [decs_val n (u / 10) (by omega), dg_nat]
        omega
theorem decs_ne (u : Nat) : decs u ≠ [] := by
  by_cases hu : u < 10
  · rw [decs_lt hu]; simp
  · rw [decs_ge hu]; simp
theorem prs_decs (u : Nat) (h : u ≤ 4611686018427387903) : prs (decs u) = ((u : Int), 0) := by
  unfold prs
  rw [if_neg (fun hh => hh.elim (decs_ne u) (fun hh => by rw [decs_all u u (Nat.le_refl _)] at hh; simp at hh)), decs_val u u (Nat.le_refl _), if_neg (by omega)]
theorem isD_ne {b c : UInt8} (h : isD b = true) (hc : isD c = false) : b ≠ c := fun e => by rw [e, hc] at h; simp at h
theorem all_ne {s : List UInt8} {c : UInt8} (h : s.all isD = true) (hc : isD c = false) : ∀ x ∈ s, x ≠ c := fun x hx => isD_ne (List.all_eq_true.1 h x hx) hc
theorem prn_nat (a : Nat) : prn (a : Int) = decs a := by
  unfold prn
  rw [if_neg (by omega)]; rfl
theorem prn_ne {n : Int} (h : 0 ≤ n) {c : UInt8} (hc : isD c = false) : ∀ x ∈ prn n, x ≠ c := by
  obtain ⟨a, rfl⟩ : ∃ a : Nat, n = a := ⟨n.toNat, by omega⟩
  rw [prn_nat]
  exact all_ne (decs_all a a (Nat.le_refl _)) hc
theorem prs_prn {n : Int} (h : 0 ≤ n) (h2 : n ≤ 4611686018427387903) : prs (prn n) = (n, 0) := by
  obtain ⟨a, rfl⟩ : ∃ a : Nat, n = a := ⟨n.toNat, by omega⟩
  rw [prn_nat, prs_decs a (by omega)]
theorem prn_nil {n : Int} (h : 0 ≤ n) : prn n ≠ [] := by
  obtain ⟨a, rfl⟩ : ∃ a : Nat, n = a := ⟨n.toNat, by omega⟩
  rw [prn_nat]; exact decs_ne a
end Go.Proofs.YtpibecljdooilaaDoor
