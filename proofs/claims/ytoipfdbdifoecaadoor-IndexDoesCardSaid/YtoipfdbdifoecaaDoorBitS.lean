/- Numbers as bits: words, With, Of. Own work. The slices of an object as a set. Own work. -/
import Derived.Test.YtoipfdbdifoecaaDoorIrD
import Derived.Test.YtoipfdbdifoecaaDoorEvArg
import Derived.Test.YtoipfdbdifoecaaDoorMad
import Derived.Test.YtoipfdbdifoecaaDoorEvNatS
namespace Go.Proofs.YtoipfdbdifoecaaDoor
open Go Go.Ev Go.Proofs.YtoipfdbdifoecaaDoor.Ir
set_option maxRecDepth 100000
set_option maxHeartbeats 4000000
set_option linter.unusedSimpArgs false
set_option linter.unusedVariables false
abbrev Wd := Nat → BitVec 64
def w65 (W : Wd) : List D := arr 65 fun j => .int .u64 (W j).toNat
theorem w65_len (W : Wd) : (w65 W).length = 65 := arr_len 65 _
theorem ofInt_toNat (a : BitVec 64) : BitVec.ofInt 64 (a.toNat : Int) = a := by
  apply BitVec.eq_of_toNat_eq
  simp
theorem wr_bv (a : BitVec 64) : wr .u64 (a.toNat : Int) = a.toNat := wr_u64 (by have := a.isLt; omega)
theorem wor (a b : BitVec 64) : Ev.bits (fun _ x y => x ||| y) .u64 (a.toNat : Int) (b.toNat : Int) = ((a ||| b).toNat : Int) := by
  unfold Ev.bits
  show wr .u64 ((BitVec.ofInt 64 (a.toNat : Int) ||| BitVec.ofInt 64 (b.toNat : Int)).toNat : Int) = _
  rw [ofInt_toNat, ofInt_toNat, wr_bv]
theorem wand (a b : BitVec 64) : Ev.bits (fun _ x y => x &&& y) .u64 (a.toNat : Int) (b.toNat : Int) = ((a &&& b).toNat : Int) := by
  unfold Ev.bits
  show wr .u64 ((BitVec.ofInt 64 (a.toNat : Int) &&& BitVec.ofInt 64 (b.toNat : Int)).toNat : Int) = _
  rw [ofInt_toNat, ofInt_toNat, wr_bv]
def bit (n : Nat) : BitVec 64 := 1#64 <<< n
theorem wshl {n : Nat} (h : n < 64) : wr .u64 (1 * 2 ^ (min n 64)) = ((bit n).toNat : Int) := by
  have e1 : min n 64 = n := by omega
  have hlt : 2 ^ n < 2 ^ 64 := Nat.pow_lt_pow_right (by omega) h
  have e2 : (bit n).toNat = 2 ^ n := by
    unfold bit
    rw [BitVec.toNat_shiftLeft, Nat.shiftLeft_eq]
    simp only [BitVec.toNat_ofNat, Nat.one_mod_two_pow (n := 64) (by omega), Nat.one_mul]
    exact Nat.mod_eq_of_lt hlt
  rw [e1, e2, Int.one_mul]
  have e3 : ((2 : Int) ^ n) = ((2 ^ n : Nat) : Int) := by simp
  rw [e3]
  exact wr_u64 (by omega)
def withW (W : Wd) (i : Nat) : Wd := upd W (i / 64) (W (i / 64) ||| bit (i % 64))
def ofW (l : List Nat) : Wd := l.foldl withW (fun _ => 0#64)
theorem bit_get (n t : Nat) (ht : t < 64) : (bit n).getLsbD t = decide (t = n) := by
  unfold bit
  rw [BitVec.getLsbD_shiftLeft, BitVec.getLsbD_one]
  by_cases h : t = n
  · subst h; simp; omega
  · rw [decide_eq_false h]
    by_cases h2 : t < n
    · simp [h2]
    · have : ¬ (t - n = 0) := by omega
      simp [this]
theorem with_get (W : Wd) (i k t : Nat) (ht : t < 64) : (withW W i k).getLsbD t = ((W k).getLsbD t || decide (k * 64 + t = i)) := by
  unfold withW upd
  split
  · rename_i h; subst h
    rw [BitVec.getLsbD_or, bit_get _ _ ht]
    congr 1
    rw [decide_eq_decide]; omega
  · rename_i h
    rw [decide_eq_false (by omega), Bool.or_false]
theorem fold_get (k t : Nat) (ht : t < 64) : ∀ (l : List Nat) (W : Wd), (l.foldl withW W k).getLsbD t = ((W k).getLsbD t || decide (k * 64 + t ∈ l))
  | [], W => by simp
  | i :: l, W => by
    rw [List.foldl_cons, fold_get k t ht l, with_get _ _ _ _ ht, Bool.or_assoc]
    congr 1
    rw [← Bool.decide_or, decide_eq_decide, List.mem_cons]
theorem of_get (l : List Nat) (k t : Nat) (ht : t < 64) : (ofW l k).getLsbD t = decide (k * 64 + t ∈ l) := by
  unfold ofW; rw [fold_get k t ht]; simp
theorem within_of (la lb : List Nat) (ha : ∀ i ∈ la, i ≤ 4096) : (∀ k, k < 65 → ofW la k &&& ofW lb k = ofW la k) ↔ ∀ i ∈ la, i ∈ lb := by
  constructor
  · intro h i hi
    have := ha i hi
    have h1 := congrArg (fun w => w.getLsbD (i % 64)) (h (i / 64) (by omega))
    simp only [BitVec.getLsbD_and, of_get _ _ _ (show i % 64 < 64 by omega), show i / 64 * 64 + i % 64 = i by omega, hi, decide_true, Bool.true_and, decide_eq_true_eq] at h1
    exact h1
  · intro h k hk
    apply BitVec.eq_of_getLsbD_eq
    intro t ht
    rw [BitVec.getLsbD_and, of_get _ _ _ ht, of_get _ _ _ ht]
    by_cases h1 : k * 64 + t ∈ la
    · simp [h1, h _ h1]
    · simp [h1]
theorem upd_w (W : Wd) (k : Nat) (v : BitVec 64) : upd (fun j => D.int .u64 ((W j).toNat : Int)) k (.int .u64 (v.toNat : Int)) = fun j => D.int .u64 (((upd W k v) j).toNat : Int) := by
  funext j; simp only [upd]; split <;> rfl
theorem c_mayb (i : Int) : call ir 51 [.d (.int .i64 i)] [] = some (.d (.bool (decide (0 ≤ i ∧ i ≤ 4096))), []) := by
  rw [call_eq (fn := ir51) rfl, evF_bnd]
  simp only [go_sem, doCall, doCallQ, Nat.reduceAdd, Nat.reduceMul, Nat.reduceSub, Nat.reduceDiv, Nat.reduceMod, Nat.reduceLT, Nat.reduceLeDiff, Nat.reduceEqDiff, Nat.reduceBEq, Nat.reduceBNe, Int.reduceToNat, Int.reduceLT, Int.reduceLE, Int.reduceEq, Int.reduceNe, Int.reduceAdd, Int.reduceSub, Int.reduceMul, Int.reduceNeg, bd51]
  repeat' (apply two_cases <;> intro h <;> simp only [go_sem, doCall, doCallQ, Nat.reduceAdd, Nat.reduceMul, Nat.reduceSub, Nat.reduceDiv, Nat.reduceMod, Nat.reduceLT, Nat.reduceLeDiff, Nat.reduceEqDiff, Nat.reduceBEq, Nat.reduceBNe, Int.reduceToNat, Int.reduceLT, Int.reduceLE, Int.reduceEq, Int.reduceNe, Int.reduceAdd, Int.reduceSub, Int.reduceMul, Int.reduceNeg, h, false_and, and_false])
theorem c_with (W : Wd) (i : Nat) (hi : i ≤ 4096) : call ir 45 [.agg ((w65 W).map .d), .d (.int .i64 i)] [] = some (.agg ((w65 (withW W i)).map .d), []) := by
  have hm := c_mayb i
  rw [decide_eq_true (show (0 : Int) ≤ i ∧ (i : Int) ≤ 4096 by omega)] at hm
  have hk : i / 64 < 65 := by omega
  have q1 : wr .i64 ((i : Int).tdiv 64) = ((i / 64 : Nat) : Int) := by
    have : (i : Int).tdiv 64 = ((i / 64 : Nat) : Int) := by rw [Int.tdiv_eq_ediv_of_nonneg (by omega)]; omega
    rw [this]; exact wr_id (by omega)
  have q2 : (i : Int).tmod 64 = ((i % 64 : Nat) : Int) := by rw [Int.tmod_eq_emod_of_nonneg (by omega)]; omega
  have h0 := eq_true (show (0 : Int) ≤ ((i / 64 : Nat) : Int) by omega)
  have h1 := eq_true (show ((i / 64 : Nat) : Int) < 65 by omega)
  have h2 := eq_true (show (0 : Int) ≤ ((i % 64 : Nat) : Int) by omega)
  have hs := wshl (show i % 64 < 64 by omega)
  have hg : (w65 W).getD (i / 64) .nilp = .int .u64 (W (i / 64)).toNat := arr_getD hk _
  have hp : (w65 W).take (i / 64) ++ [D.int .u64 ((W (i / 64) ||| bit (i % 64)).toNat : Int)] ++ (w65 W).drop (i / 64 + 1) = w65 (withW W i) := by
    unfold w65 withW
    rw [arr_put hk, upd_w]
  have hb : IntKind.u64.bits = 64 := rfl
  have hw := wor (W (i / 64)) (bit (i % 64))
  have ht : (w65 (withW W i)).take 65 = w65 (withW W i) := arr_take 65 _
  rw [call_eq (fn := ir45) rfl, evF_bnd]
  simp (disch := omega) only [go_sem, doCall, doCallQ, Nat.reduceAdd, Nat.reduceMul, Nat.reduceSub, Nat.reduceDiv, Nat.reduceMod, Nat.reduceLT, Nat.reduceLeDiff, Nat.reduceEqDiff, Nat.reduceBEq, Nat.reduceBNe, Int.reduceToNat, Int.reduceLT, Int.reduceLE, Int.reduceEq, Int.reduceNe, Int.reduceAdd, Int.reduceSub, Int.reduceMul, Int.reduceNeg, bd45, hm, q1, q2, h0, h1, h2, hb, hs, hw, hg, hp, ht, w65_len, Int.toNat_natCast, Nat.zero_add, Nat.mul_one, chk_of]
def natRows (l : List Nat) : List (List D) := l.map fun (i : Nat) => [.int .i64 (i : Int)]
theorem natRows_len (l : List Nat) : (natRows l).length = l.length := List.length_map ..
theorem natRows_get (l : List Nat) {j : Nat} (h : j < l.length) : (natRows l).getD j [] = [.int .i64 (l[j] : Int)] := by simp [natRows, List.getD_eq_getElem?_getD, h]
theorem w65_take (W : Wd) : (w65 W).take 65 = w65 W := arr_take 65 _
theorem w65_drop (W : Wd) : (w65 W).drop 65 = [] := arr_drop 65 _
theorem w65_plain (W : Wd) : boxOf.plainD ((w65 W).map AV.d) = some (w65 W) := plainD_map _
theorem w65_box (W : Wd) : boxOf ((w65 W).map AV.d) = .dbox (w65 W) := boxOf_map _
theorem w65_mlen (W : Wd) : ((w65 W).map AV.d).length = 65 := by rw [List.length_map, w65_len]
theorem w65_refs (W : Wd) : AV.refsL ((w65 W).map AV.d) = [] := refsL_d _
theorem w65_owns (W : Wd) : AV.ownsL ((w65 W).map AV.d) = [] := ownsL_d _
theorem w65_view (H : Heap) (W : Wd) : AV.viewL H ((w65 W).map AV.d) = (w65 W).map AV.d := viewL_d H _
theorem w65_ren (f : Nat → Option Nat) (W : Wd) : AV.renL f ((w65 W).map AV.d) = (w65 W).map AV.d := renL_d f _
theorem lp_of (Z : List D) (l : List Nat) (h4 : ∀ i ∈ l, i ≤ 4096) (hl : l.length ≤ 1000000) (K : Ex → St → Option (AV × Heap)) (j : Nat) (hj : j ≤ l.length) (W : Wd) :
    bnd (evC (call ir) (loop ir) lp39_0 (st39_0 0 (.ptr 0 0) (.ptr 1 0) (.d (.list 1 (natRows l))) (.d (.int .i64 l.length)) (.d (.int .i64 j)) [.dbox Z, .dbox (w65 W)]))
      (lpC (call ir) (loop ir) [2, 3, 6, 7, 8] lp39_0 K) =
    K (.exit 0) (clean [2, 3] (st39_0 0 (.ptr 0 0) (.ptr 1 0) .unk .unk .unk [.dbox Z, .dbox (w65 ((l.drop j).foldl withW W))])) := by
  have hlm := natRows_len l
  by_cases h : j = l.length
  · have hx : ¬ (j : Int) < l.length := by omega
    subst h
    simp (disch := omega) only [go_sem, doCall, doCallQ, Nat.reduceAdd, Nat.reduceMul, Nat.reduceSub, Nat.reduceDiv, Nat.reduceMod, Nat.reduceLT, Nat.reduceLeDiff, Nat.reduceEqDiff, Nat.reduceBEq, Nat.reduceBNe, Int.reduceToNat, Int.reduceLT, Int.reduceLE, Int.reduceEq, Int.reduceNe, Int.reduceAdd, Int.reduceSub, Int.reduceMul, Int.reduceNeg, u39_0, lb39_0, hx, List.drop_length, List.foldl_nil]
  · have hlt : (j : Int) < l.length := by omega
    have hj' : j < l.length := by omega
    have hw := wr_succ (i := j) (by omega)
    have hr := natRows_get l hj'
    have hdl : l.drop j = l[j] :: l.drop (j + 1) := List.drop_eq_getElem_cons hj'
    have ih := lp_of Z l h4 hl K (j + 1) (by omega) (withW W l[j])
    have q := c_with W l[j] (h4 _ (List.getElem_mem hj'))
    rw [hdl, List.foldl_cons]
    simp (disch := omega) only [go_sem, doCall, doCallQ, Nat.reduceAdd, Nat.reduceMul, Nat.reduceSub, Nat.reduceDiv, Nat.reduceMod, Nat.reduceLT, Nat.reduceLeDiff, Nat.reduceEqDiff, Nat.reduceBEq, Nat.reduceBNe, Int.reduceToNat, Int.reduceLT, Int.reduceLE, Int.reduceEq, Int.reduceNe, Int.reduceAdd, Int.reduceSub, Int.reduceMul, Int.reduceNeg, u39_0, lb39_0, hlt, hr, hlm, q, w65_len, w65_take, w65_drop, w65_plain, w65_box, w65_mlen, w65_refs, w65_owns, w65_view, w65_ren, Int.toNat_natCast, Nat.zero_add, Nat.mul_one, chk_of]
    rw [loop_step1]
    simp only [go_sem, doCall, doCallQ, Nat.reduceAdd, Nat.reduceMul, Nat.reduceSub, Nat.reduceDiv, Nat.reduceMod, Nat.reduceLT, Nat.reduceLeDiff, Nat.reduceEqDiff, Nat.reduceBEq, Nat.reduceBNe, Int.reduceToNat, Int.reduceLT, Int.reduceLE, Int.reduceEq, Int.reduceNe, Int.reduceAdd, Int.reduceSub, Int.reduceMul, Int.reduceNeg, hw]
    simp only [go_sem, doCall, doCallQ, Nat.reduceAdd, Nat.reduceMul, Nat.reduceSub, Nat.reduceDiv, Nat.reduceMod, Nat.reduceLT, Nat.reduceLeDiff, Nat.reduceEqDiff, Nat.reduceBEq, Nat.reduceBNe, Int.reduceToNat, Int.reduceLT, Int.reduceLE, Int.reduceEq, Int.reduceNe, Int.reduceAdd, Int.reduceSub, Int.reduceMul, Int.reduceNeg] at ih
    exact ih
termination_by l.length - j
theorem c_of (l : List Nat) (h4 : ∀ i ∈ l, i ≤ 4096) (hl : l.length ≤ 1000000) : call ir 39 [.d (.list 1 (natRows l))] [] = some (.agg ((w65 (ofW l)).map .d), []) := by
  have hlm := natRows_len l
  rw [call_eq (fn := ir39) rfl, evF_bnd]
  simp (disch := omega) only [go_sem, doCall, doCallQ, Nat.reduceAdd, Nat.reduceMul, Nat.reduceSub, Nat.reduceDiv, Nat.reduceMod, Nat.reduceLT, Nat.reduceLeDiff, Nat.reduceEqDiff, Nat.reduceBEq, Nat.reduceBNe, Int.reduceToNat, Int.reduceLT, Int.reduceLE, Int.reduceEq, Int.reduceNe, Int.reduceAdd, Int.reduceSub, Int.reduceMul, Int.reduceNeg, bd39, hlm, w65_len, w65_take, w65_drop, w65_plain, w65_box, w65_mlen, w65_refs, w65_owns, w65_view, w65_ren, Int.toNat_natCast, Nat.zero_add, Nat.mul_one, chk_of]
  rw [loop_step1]
  simp only [go_sem, doCall, doCallQ, Nat.reduceAdd, Nat.reduceMul, Nat.reduceSub, Nat.reduceDiv, Nat.reduceMod, Nat.reduceLT, Nat.reduceLeDiff, Nat.reduceEqDiff, Nat.reduceBEq, Nat.reduceBNe, Int.reduceToNat, Int.reduceLT, Int.reduceLE, Int.reduceEq, Int.reduceNe, Int.reduceAdd, Int.reduceSub, Int.reduceMul, Int.reduceNeg]
  refine (lp_of _ l h4 hl _ 0 (Nat.zero_le _) (fun _ => 0#64)).trans ?_
  simp (disch := omega) only [go_sem, doCall, doCallQ, Nat.reduceAdd, Nat.reduceMul, Nat.reduceSub, Nat.reduceDiv, Nat.reduceMod, Nat.reduceLT, Nat.reduceLeDiff, Nat.reduceEqDiff, Nat.reduceBEq, Nat.reduceBNe, Int.reduceToNat, Int.reduceLT, Int.reduceLE, Int.reduceEq, Int.reduceNe, Int.reduceAdd, Int.reduceSub, Int.reduceMul, Int.reduceNeg, List.drop_zero, w65_len, w65_take, w65_drop, w65_plain, w65_box, w65_mlen, w65_refs, w65_owns, w65_view, w65_ren, Int.toNat_natCast, Nat.zero_add, Nat.mul_one, chk_of]
  rfl
end Go.Proofs.YtoipfdbdifoecaaDoor
namespace Go.Proofs.YtoipfdbdifoecaaDoor
open Go Go.Ev Go.Proofs.YtoipfdbdifoecaaDoor.Ir
set_option maxRecDepth 100000
set_option maxHeartbeats 4000000
set_option linter.unusedSimpArgs false
set_option linter.unusedVariables false
def keysN (p : PM) : List Nat := (pmK p).map fun q => q.1.toNat
def okK (p : PM) : Prop := (pmK p).length ≤ 1000000 ∧ ∀ q ∈ pmK p, 0 ≤ q.1 ∧ q.1 ≤ 4096
theorem keysN_le {p : PM} (h : okK p) : ∀ i ∈ keysN p, i ≤ 4096 := by
  intro i hi
  obtain ⟨q, hq, rfl⟩ := List.mem_map.1 hi
  have := h.2 q hq
  omega
theorem keysN_len (p : PM) : (keysN p).length = (pmK p).length := List.length_map ..
theorem sortedA_pm (p : PM) : sortedA (pmD p) = some ((pmK p).map (·.1)) := by
  cases p with
  | none => rfl
  | some l => simp [pmD, pmK, sortedA, mpD]
theorem rows_keys {p : PM} (h : okK p) : intRows ((pmK p).map (·.1)) = natRows (keysN p) := by
  unfold intRows natRows keysN
  rw [List.map_map, List.map_map]
  refine List.map_congr_left fun q hq => ?_
  have := h.2 q hq
  show [D.int .i64 q.1] = [D.int .i64 (q.1.toNat : Int)]
  rw [Int.toNat_of_nonneg this.1]
theorem c_sorted (p : PM) (h : okK p) : call ir 37 [.clo (.func 44) [] [.ptr 0 0]] [.dbox [pmD p]] = some (.d (.list 1 (natRows (keysN p))), [.dbox [pmD p]]) := by
  rw [call_nat (by rfl)]
  show natOr _ _ _ _ _ = _
  have e := natSO_eq 37 44 (sortedA_pm p)
  rw [if_pos ⟨by rw [List.length_map]; exact h.1, fun k hk => by
    obtain ⟨q, hq, rfl⟩ := List.mem_map.1 hk
    have := h.2 q hq
    omega⟩, rows_keys h] at e
  unfold natOr
  rw [e]
theorem c_keys (p : PM) : call ir 38 [.d (pmD p)] [] = some (.clo (.func 44) [] [.ptr 0 0], [.dbox [pmD p]]) := by
  rw [call_eq (fn := ir38) rfl, evF_bnd]
  cases p <;> simp (disch := omega) only [go_sem, doCall, doCallQ, Nat.reduceAdd, Nat.reduceMul, Nat.reduceSub, Nat.reduceDiv, Nat.reduceMod, Nat.reduceLT, Nat.reduceLeDiff, Nat.reduceEqDiff, Nat.reduceBEq, Nat.reduceBNe, Int.reduceToNat, Int.reduceLT, Int.reduceLE, Int.reduceEq, Int.reduceNe, Int.reduceAdd, Int.reduceSub, Int.reduceMul, Int.reduceNeg, bd38, pmD]
theorem c_slices (x : Nat → Sl) (k : Nat) (hk : k < 16) (h : okK (x k).pm) : call ir 27 [.agg (idxD x), .d (.int .i64 k)] [] = some (.agg ((w65 (ofW (keysN (x k).pm))).map .d), []) := by
  have hs := c_slot x k
  rw [slF_in x hk] at hs
  have ck := c_keys (x k).pm
  have hc := c_sorted _ h
  have ho := c_of (keysN (x k).pm) (keysN_le h) (by rw [keysN_len]; exact h.1)
  rw [call_eq (fn := ir27) rfl, evF_bnd]
  simp (disch := omega) only [go_sem, doCall, doCallQ, Nat.reduceAdd, Nat.reduceMul, Nat.reduceSub, Nat.reduceDiv, Nat.reduceMod, Nat.reduceLT, Nat.reduceLeDiff, Nat.reduceEqDiff, Nat.reduceBEq, Nat.reduceBNe, Int.reduceToNat, Int.reduceLT, Int.reduceLE, Int.reduceEq, Int.reduceNe, Int.reduceAdd, Int.reduceSub, Int.reduceMul, Int.reduceNeg, bd27, hs, Sl.av, ck, hc, ho, natRows_len, w65_len, w65_take, w65_drop, w65_plain, w65_box, w65_mlen, w65_refs, w65_owns, w65_view, w65_ren, idxC_len, idxD_len, cs_len, av_len, map_cs, map_idx, idxC_take, idxC_drop, plain_av, plain_idx, box_idx, refs_av, owns_av, view_av, ren_av, refs_idx, owns_idx, view_idx, ren_idx, Int.toNat_natCast, Nat.zero_add, chk_of]
  try rfl
end Go.Proofs.YtoipfdbdifoecaaDoor
