/- The codec: numbers out of bytes. Own work. -/
import Derived.Test.YtoipfdbdifoecaaGreatDoorIrZ
import Derived.Test.YtoipfdbdifoecaaGreatDoorEvArg
import Derived.Test.YtoipfdbdifoecaaGreatDoorEvNatM
namespace Go.Proofs.YtoipfdbdifoecaaGreatDoor
open Go Go.Ev Go.Proofs.YtoipfdbdifoecaaGreatDoor.Ir
set_option maxRecDepth 100000
set_option maxHeartbeats 4000000
set_option linter.unusedSimpArgs false
set_option linter.unusedVariables false
theorem c_fits (a l h : Int) : call ir 77 [.d (.int .i64 a), .d (.int .i64 l), .d (.int .i64 h)] [] = some (.d (.bool (decide (l ≤ a ∧ a ≤ h))), []) := by
  rw [call_eq (fn := ir77) rfl, evF_bnd]
  simp (maxSteps := 2000000) only [go_sem, doCall, doCallQ, Nat.reduceAdd, Nat.reduceMul, Nat.reduceSub, Nat.reduceDiv, Nat.reduceMod, Nat.reduceLT, Nat.reduceLeDiff, Nat.reduceEqDiff, Nat.reduceBEq, Nat.reduceBNe, Int.reduceToNat, Int.reduceLT, Int.reduceLE, Int.reduceEq, Int.reduceNe, Int.reduceAdd, Int.reduceSub, Int.reduceMul, Int.reduceNeg, bd77]
  repeat' (apply two_cases <;> intro h <;> simp (maxSteps := 2000000) only [go_sem, doCall, doCallQ, Nat.reduceAdd, Nat.reduceMul, Nat.reduceSub, Nat.reduceDiv, Nat.reduceMod, Nat.reduceLT, Nat.reduceLeDiff, Nat.reduceEqDiff, Nat.reduceBEq, Nat.reduceBNe, Int.reduceToNat, Int.reduceLT, Int.reduceLE, Int.reduceEq, Int.reduceNe, Int.reduceAdd, Int.reduceSub, Int.reduceMul, Int.reduceNeg, h, false_and, and_false])

/-- One byte more of a number. -/
def gst (a : Int) (x : UInt8) : Int := Ev.bits (fun _ x y => x ||| y) .u64 (wr .u64 (a * 2 ^ (min 8 64))) (wr .u64 x.toNat)
def gnum (b : List UInt8) : Int := b.foldl gst 0

theorem lp_get (b : List UInt8) (hb : b.length ≤ 1000) (a : Int) (i : Nat) (hi : i ≤ b.length) (k : Ex → St → Option (AV × Heap)) :
    bnd (evC (call ir) (loop ir) lp76_0 (st76_0 0 (.d (.int .u64 a)) (.d (.list 1 (rB b))) (.d (.int .i64 b.length)) (.d (.int .i64 i)) [])) (lpC (call ir) (loop ir) [8, 37, 38, 39] lp76_0 k) =
      k (.exit 0) (clean [8] (st76_0 0 (.d (.int .u64 ((b.drop i).foldl gst a))) (.d (.list 1 (rB b))) (.d (.int .i64 b.length)) (.d (.int .i64 b.length)) [])) := by
  by_cases h : i = b.length
  · have hx : ¬ (i : Int) < b.length := by omega
    subst h
    simp (maxSteps := 2000000) (disch := omega) only [go_sem, doCall, doCallQ, Nat.reduceAdd, Nat.reduceMul, Nat.reduceSub, Nat.reduceDiv, Nat.reduceMod, Nat.reduceLT, Nat.reduceLeDiff, Nat.reduceEqDiff, Nat.reduceBEq, Nat.reduceBNe, Int.reduceToNat, Int.reduceLT, Int.reduceLE, Int.reduceEq, Int.reduceNe, Int.reduceAdd, Int.reduceSub, Int.reduceMul, Int.reduceNeg, u76_0, lb76_0, hx]
    simp only [List.drop_length, List.foldl_nil]
  · have hlt : (i : Int) < b.length := by omega
    have hi' : i < b.length := by omega
    have hw := wr_succ (i := i) (by omega)
    have hg := rB_getD hi'
    have hd : b.drop i = b[i] :: b.drop (i + 1) := List.drop_eq_getElem_cons hi'
    have hbi : b.getD i 0 = b[i] := by simp [List.getD_eq_getElem?_getD, hi']
    have hst : Ev.bits (fun _ x y => x ||| y) .u64 (wr .u64 (a * 2 ^ (min 8 64))) (wr .u64 ((b.getD i 0).toNat : Int)) = gst a (b.getD i 0) := rfl
    simp (maxSteps := 2000000) (disch := omega) only [go_sem, doCall, doCallQ, Nat.reduceAdd, Nat.reduceMul, Nat.reduceSub, Nat.reduceDiv, Nat.reduceMod, Nat.reduceLT, Nat.reduceLeDiff, Nat.reduceEqDiff, Nat.reduceBEq, Nat.reduceBNe, Int.reduceToNat, Int.reduceLT, Int.reduceLE, Int.reduceEq, Int.reduceNe, Int.reduceAdd, Int.reduceSub, Int.reduceMul, Int.reduceNeg, u76_0, lb76_0, hlt, Int.toNat_natCast, hg, hst, rB_len, chk_of]
    rw [loop_step1]
    simp (maxSteps := 2000000) only [go_sem, doCall, doCallQ, Nat.reduceAdd, Nat.reduceMul, Nat.reduceSub, Nat.reduceDiv, Nat.reduceMod, Nat.reduceLT, Nat.reduceLeDiff, Nat.reduceEqDiff, Nat.reduceBEq, Nat.reduceBNe, Int.reduceToNat, Int.reduceLT, Int.reduceLE, Int.reduceEq, Int.reduceNe, Int.reduceAdd, Int.reduceSub, Int.reduceMul, Int.reduceNeg, hw]
    have := lp_get b hb (gst a (b.getD i 0)) (i + 1) (by omega) k
    simp (maxSteps := 2000000) only [go_sem, doCall, doCallQ, Nat.reduceAdd, Nat.reduceMul, Nat.reduceSub, Nat.reduceDiv, Nat.reduceMod, Nat.reduceLT, Nat.reduceLeDiff, Nat.reduceEqDiff, Nat.reduceBEq, Nat.reduceBNe, Int.reduceToNat, Int.reduceLT, Int.reduceLE, Int.reduceEq, Int.reduceNe, Int.reduceAdd, Int.reduceSub, Int.reduceMul, Int.reduceNeg] at this
    rw [hd, List.foldl_cons, ← hbi]
    exact this
termination_by b.length - i
theorem rB_take (b : List UInt8) (n : Nat) : (rB b).take n = rB (b.take n) := by simp [rB, List.map_take]
theorem rB_drop (b : List UInt8) (n : Nat) : (rB b).drop n = rB (b.drop n) := by simp [rB, List.map_drop]
theorem c_get (b : List UInt8) (hb : b.length ≤ 1000) (n : Nat) (hn : n ≤ 8) (hnb : n ≤ b.length) : call ir 76 [.d (.list 1 (rB b)), .d (.int .i64 0), .d (.int .i64 n)] [] = some (.tup [.d (.int .u64 (gnum (b.take n))), .d (.bool true)], []) := by
  rw [call_eq (fn := ir76) rfl, evF_bnd]
  have h1 := eq_true (show (0 : Int) ≤ n ∧ (n : Int) ≤ 8 by omega)
  have h2 := eq_false (show ¬ (0 : Int) > b.length by omega)
  have e1 : wr .i64 ((b.length : Int) - 0) = b.length := by rw [wr_id (by omega)]; omega
  have h3 := eq_false (show ¬ (n : Int) > b.length by omega)
  have e2 : wr .i64 ((0 : Int) + n) = n := by rw [wr_id (by omega)]; omega
  have hl : (b.take n).length = n := by simp; omega
  have h0 := eq_true (show (0 : Int) ≤ n by omega)
  have h8 := eq_true (show (n : Int) ≤ 8 by omega)
  simp (maxSteps := 2000000) (disch := omega) only [go_sem, doCall, doCallQ, Nat.reduceAdd, Nat.reduceMul, Nat.reduceSub, Nat.reduceDiv, Nat.reduceMod, Nat.reduceLT, Nat.reduceLeDiff, Nat.reduceEqDiff, Nat.reduceBEq, Nat.reduceBNe, Int.reduceToNat, Int.reduceLT, Int.reduceLE, Int.reduceEq, Int.reduceNe, Int.reduceAdd, Int.reduceSub, Int.reduceMul, Int.reduceNeg, bd76, c_fits, h0, h8, h2, h3, e1, e2, rB_len, rB_take, rB_drop, List.drop_zero, Int.toNat_natCast, Nat.sub_zero, chk_of, hl]
  have := lp_get (b.take n) (by omega) 0 0 (Nat.zero_le _)
  rw [hl] at this
  rw [loop_step1]
  simp (maxSteps := 2000000) only [go_sem, doCall, doCallQ, Nat.reduceAdd, Nat.reduceMul, Nat.reduceSub, Nat.reduceDiv, Nat.reduceMod, Nat.reduceLT, Nat.reduceLeDiff, Nat.reduceEqDiff, Nat.reduceBEq, Nat.reduceBNe, Int.reduceToNat, Int.reduceLT, Int.reduceLE, Int.reduceEq, Int.reduceNe, Int.reduceAdd, Int.reduceSub, Int.reduceMul, Int.reduceNeg]
  refine (this _).trans ?_
  simp (maxSteps := 2000000) only [go_sem, doCall, doCallQ, Nat.reduceAdd, Nat.reduceMul, Nat.reduceSub, Nat.reduceDiv, Nat.reduceMod, Nat.reduceLT, Nat.reduceLeDiff, Nat.reduceEqDiff, Nat.reduceBEq, Nat.reduceBNe, Int.reduceToNat, Int.reduceLT, Int.reduceLE, Int.reduceEq, Int.reduceNe, Int.reduceAdd, Int.reduceSub, Int.reduceMul, Int.reduceNeg, List.drop_zero]
  rfl
theorem c_get_no (b : List UInt8) (hb : b.length ≤ 1000) (n : Nat) (hn : n ≤ 8) (hnb : ¬ n ≤ b.length) : call ir 76 [.d (.list 1 (rB b)), .d (.int .i64 0), .d (.int .i64 n)] [] = some (.tup [.d (.int .u64 0), .d (.bool false)], []) := by
  rw [call_eq (fn := ir76) rfl, evF_bnd]
  have h1 := eq_true (show (0 : Int) ≤ n ∧ (n : Int) ≤ 8 by omega)
  have h2 := eq_false (show ¬ (0 : Int) > b.length by omega)
  have e1 : wr .i64 ((b.length : Int) - 0) = b.length := by rw [wr_id (by omega)]; omega
  have h3 := eq_true (show (n : Int) > b.length by omega)
  simp (maxSteps := 2000000) (disch := omega) only [go_sem, doCall, doCallQ, Nat.reduceAdd, Nat.reduceMul, Nat.reduceSub, Nat.reduceDiv, Nat.reduceMod, Nat.reduceLT, Nat.reduceLeDiff, Nat.reduceEqDiff, Nat.reduceBEq, Nat.reduceBNe, Int.reduceToNat, Int.reduceLT, Int.reduceLE, Int.reduceEq, Int.reduceNe, Int.reduceAdd, Int.reduceSub, Int.reduceMul, Int.reduceNeg, bd76, c_fits, h1, h2, h3, e1, rB_len]

/-- A number out of a reader: what is left, whether all was there. -/
def nv (b : List UInt8) (n : Nat) : Int := if n ≤ b.length then wr .i64 (gnum (b.take n)) else 0
def nb (b : List UInt8) (n : Nat) : List UInt8 := if n ≤ b.length then b.drop n else b
def nk (b : List UInt8) (n : Nat) (ok : Bool) : Bool := if n ≤ b.length then ok else false
theorem nb_len (b : List UInt8) (n : Nat) : (nb b n).length ≤ b.length := by unfold nb; split <;> simp
theorem c_num (b : List UInt8) (hb : b.length ≤ 1000) (ok : Bool) (n : Nat) (z : Int) (hz : z = n) (hn : n ≤ 8) : call ir 55 [.ptr 0 0, .d (.int .i64 z)] [.dbox [.list 1 (rB b), .bool ok]] = some (.d (.int .i64 (nv b n)), [.dbox [.list 1 (rB (nb b n)), .bool (nk b n ok)]]) := by
  subst hz
  have h0 := eq_true (show (0 : Int) ≤ n by omega)
  rw [call_eq (fn := ir55) rfl, evF_bnd]
  by_cases hnb : n ≤ b.length
  · have hl : (b.drop n).length = b.length - n := List.length_drop
    have ht : (rB (b.drop n)).take (b.length - n) = rB (b.drop n) := List.take_of_length_le (by rw [rB_len, hl]; exact Nat.le_refl _)
    simp (maxSteps := 2000000) (disch := omega) only [go_sem, doCall, doCallQ, Nat.reduceAdd, Nat.reduceMul, Nat.reduceSub, Nat.reduceDiv, Nat.reduceMod, Nat.reduceLT, Nat.reduceLeDiff, Nat.reduceEqDiff, Nat.reduceBEq, Nat.reduceBNe, Int.reduceToNat, Int.reduceLT, Int.reduceLE, Int.reduceEq, Int.reduceNe, Int.reduceAdd, Int.reduceSub, Int.reduceMul, Int.reduceNeg, bd55, c_get b hb n hn hnb, h0, rB_len, rB_drop, ht, Int.toNat_natCast, chk_of]
    simp only [nv, nb, nk, if_pos hnb]
  · simp (maxSteps := 2000000) (disch := omega) only [go_sem, doCall, doCallQ, Nat.reduceAdd, Nat.reduceMul, Nat.reduceSub, Nat.reduceDiv, Nat.reduceMod, Nat.reduceLT, Nat.reduceLeDiff, Nat.reduceEqDiff, Nat.reduceBEq, Nat.reduceBNe, Int.reduceToNat, Int.reduceLT, Int.reduceLE, Int.reduceEq, Int.reduceNe, Int.reduceAdd, Int.reduceSub, Int.reduceMul, Int.reduceNeg, bd55, c_get_no b hb n hn hnb]
    simp only [nv, nb, nk, if_neg hnb]

/-- An owner may be. -/
def OW (o g : Int) : Prop := (0 ≤ o ∧ o ≤ 15) ∧ (1 ≤ g ∧ g ≤ 2147483647)
instance (o g : Int) : Decidable (OW o g) := by unfold OW; infer_instance
theorem c_owner (o g : Int) : call ir 58 [.d (.int .i64 o), .d (.int .i64 g)] [] = some (.d (.bool (decide (OW o g))), []) := by
  rw [call_eq (fn := ir58) rfl, evF_bnd]
  simp (maxSteps := 2000000) only [go_sem, doCall, doCallQ, Nat.reduceAdd, Nat.reduceMul, Nat.reduceSub, Nat.reduceDiv, Nat.reduceMod, Nat.reduceLT, Nat.reduceLeDiff, Nat.reduceEqDiff, Nat.reduceBEq, Nat.reduceBNe, Int.reduceToNat, Int.reduceLT, Int.reduceLE, Int.reduceEq, Int.reduceNe, Int.reduceAdd, Int.reduceSub, Int.reduceMul, Int.reduceNeg, bd58, c_fits]
  apply two_cases
  · intro h; simp (maxSteps := 2000000) only [go_sem, doCall, doCallQ, Nat.reduceAdd, Nat.reduceMul, Nat.reduceSub, Nat.reduceDiv, Nat.reduceMod, Nat.reduceLT, Nat.reduceLeDiff, Nat.reduceEqDiff, Nat.reduceBEq, Nat.reduceBNe, Int.reduceToNat, Int.reduceLT, Int.reduceLE, Int.reduceEq, Int.reduceNe, Int.reduceAdd, Int.reduceSub, Int.reduceMul, Int.reduceNeg, h, c_fits]
    simp only [OW, eq_true h, true_and]
  · intro h; simp (maxSteps := 2000000) only [go_sem, doCall, doCallQ, Nat.reduceAdd, Nat.reduceMul, Nat.reduceSub, Nat.reduceDiv, Nat.reduceMod, Nat.reduceLT, Nat.reduceLeDiff, Nat.reduceEqDiff, Nat.reduceBEq, Nat.reduceBNe, Int.reduceToNat, Int.reduceLT, Int.reduceLE, Int.reduceEq, Int.reduceNe, Int.reduceAdd, Int.reduceSub, Int.reduceMul, Int.reduceNeg, h]
    simp only [OW, eq_false h, false_and, decide_false]
/-- What a drop's bytes are. -/
def gdrop (b : List UInt8) : Option (Int × Int) :=
  if nk (nb b 1) 4 (nk b 1 true) = true ∧ nb (nb b 1) 4 = [] ∧ OW (nv b 1) (nv (nb b 1) 4) then some (nv b 1, nv (nb b 1) 4) else none
theorem c_getdrop (k : Int) (b : List UInt8) (hb : b.length ≤ 1000) : call ir 35 [.d (.int .u8 k), .d (.list 1 (rB b))] [] =
    some (match gdrop b with
      | some (o, g) => .tup [.agg [.d (.int .i64 o), .d (.int .i64 g), .d (.bool (decide (k = 5)))], .d (.int .i64 0)]
      | none => .tup [.agg [.d (.int .i64 0), .d (.int .i64 0), .d (.bool false)], .d (.int .i64 3)], []) := by
  have q1 := c_num b hb true 1 1 rfl (by omega)
  have hb1 : (nb b 1).length ≤ 1000 := Nat.le_trans (nb_len b 1) hb
  have q2 := fun ok => c_num (nb b 1) hb1 ok 4 4 rfl (by omega)
  rw [call_eq (fn := ir35) rfl, evF_bnd]
  cases hk : nk (nb b 1) 4 (nk b 1 true)
  · have hg : gdrop b = none := by simp [gdrop, hk]
    simp (maxSteps := 2000000) (disch := omega) only [go_sem, doCall, doCallQ, Nat.reduceAdd, Nat.reduceMul, Nat.reduceSub, Nat.reduceDiv, Nat.reduceMod, Nat.reduceLT, Nat.reduceLeDiff, Nat.reduceEqDiff, Nat.reduceBEq, Nat.reduceBNe, Int.reduceToNat, Int.reduceLT, Int.reduceLE, Int.reduceEq, Int.reduceNe, Int.reduceAdd, Int.reduceSub, Int.reduceMul, Int.reduceNeg, bd35, q1, q2, hk, hg]
  · by_cases he : nb (nb b 1) 4 = []
    · by_cases ho : OW (nv b 1) (nv (nb b 1) 4)
      · have hg : gdrop b = some (nv b 1, nv (nb b 1) 4) := by simp only [gdrop, hk, he, ho]; rfl
        simp (maxSteps := 2000000) (disch := omega) only [go_sem, doCall, doCallQ, Nat.reduceAdd, Nat.reduceMul, Nat.reduceSub, Nat.reduceDiv, Nat.reduceMod, Nat.reduceLT, Nat.reduceLeDiff, Nat.reduceEqDiff, Nat.reduceBEq, Nat.reduceBNe, Int.reduceToNat, Int.reduceLT, Int.reduceLE, Int.reduceEq, Int.reduceNe, Int.reduceAdd, Int.reduceSub, Int.reduceMul, Int.reduceNeg, bd35, q1, q2, hk, he, rB_len, c_owner, eq_true ho, hg, List.length_nil]
      · have hg : gdrop b = none := by simp [gdrop, ho]
        simp (maxSteps := 2000000) (disch := omega) only [go_sem, doCall, doCallQ, Nat.reduceAdd, Nat.reduceMul, Nat.reduceSub, Nat.reduceDiv, Nat.reduceMod, Nat.reduceLT, Nat.reduceLeDiff, Nat.reduceEqDiff, Nat.reduceBEq, Nat.reduceBNe, Int.reduceToNat, Int.reduceLT, Int.reduceLE, Int.reduceEq, Int.reduceNe, Int.reduceAdd, Int.reduceSub, Int.reduceMul, Int.reduceNeg, bd35, q1, q2, hk, he, rB_len, c_owner, eq_false ho, hg, List.length_nil]
    · have hp : ((rB (nb (nb b 1) 4)).length : Int) > 0 := by
        rw [rB_len]; have := List.length_pos_iff.2 he; omega
      have hg : gdrop b = none := by simp [gdrop, he]
      simp (maxSteps := 2000000) (disch := omega) only [go_sem, doCall, doCallQ, Nat.reduceAdd, Nat.reduceMul, Nat.reduceSub, Nat.reduceDiv, Nat.reduceMod, Nat.reduceLT, Nat.reduceLeDiff, Nat.reduceEqDiff, Nat.reduceBEq, Nat.reduceBNe, Int.reduceToNat, Int.reduceLT, Int.reduceLE, Int.reduceEq, Int.reduceNe, Int.reduceAdd, Int.reduceSub, Int.reduceMul, Int.reduceNeg, bd35, q1, q2, hk, eq_true hp, hg]

theorem c_bclone (b : List UInt8) (hb : b.length ≤ 1000) : call ir 46 [.d (.list 1 (rB b))] [] = some (.d (.list 1 (rB b)), []) := by
  rw [call_nat (by rfl)]
  have h1 : natBC 46 46 [.d (.list 1 (rB b))] [] = some (.d (.list 1 (rB b)), []) := by
    rw [natBC_eq _ (show u8s (rB b) = some _ from u8s_map b), if_pos (by simp; omega)]
  show natOr _ _ _ _ _ = _
  simp only [natOr, natME, natMC, h1]
/-- A piece may be. -/
def PC (o g i n : Int) : Prop := OW o g ∧ (0 ≤ i ∧ i ≤ 4096) ∧ (1 ≤ n ∧ n ≤ 64)
instance (o g i n : Int) : Decidable (PC o g i n) := by unfold PC; infer_instance
theorem c_piece (o g i : Int) (b : List UInt8) : call ir 57 [.agg [.d (.int .i64 o), .d (.int .i64 g), .d (.int .i64 i), .d (.list 1 (rB b))]] [] = some (.d (.bool (decide (PC o g i b.length))), []) := by
  rw [call_eq (fn := ir57) rfl, evF_bnd]
  simp (maxSteps := 2000000) only [go_sem, doCall, doCallQ, Nat.reduceAdd, Nat.reduceMul, Nat.reduceSub, Nat.reduceDiv, Nat.reduceMod, Nat.reduceLT, Nat.reduceLeDiff, Nat.reduceEqDiff, Nat.reduceBEq, Nat.reduceBNe, Int.reduceToNat, Int.reduceLT, Int.reduceLE, Int.reduceEq, Int.reduceNe, Int.reduceAdd, Int.reduceSub, Int.reduceMul, Int.reduceNeg, bd57, c_owner]
  apply two_cases
  · intro h; simp (maxSteps := 2000000) only [go_sem, doCall, doCallQ, Nat.reduceAdd, Nat.reduceMul, Nat.reduceSub, Nat.reduceDiv, Nat.reduceMod, Nat.reduceLT, Nat.reduceLeDiff, Nat.reduceEqDiff, Nat.reduceBEq, Nat.reduceBNe, Int.reduceToNat, Int.reduceLT, Int.reduceLE, Int.reduceEq, Int.reduceNe, Int.reduceAdd, Int.reduceSub, Int.reduceMul, Int.reduceNeg, h, c_fits]
    apply two_cases
    · intro h2; simp (maxSteps := 2000000) only [go_sem, doCall, doCallQ, Nat.reduceAdd, Nat.reduceMul, Nat.reduceSub, Nat.reduceDiv, Nat.reduceMod, Nat.reduceLT, Nat.reduceLeDiff, Nat.reduceEqDiff, Nat.reduceBEq, Nat.reduceBNe, Int.reduceToNat, Int.reduceLT, Int.reduceLE, Int.reduceEq, Int.reduceNe, Int.reduceAdd, Int.reduceSub, Int.reduceMul, Int.reduceNeg, h2, c_fits, rB_len]
      simp only [PC, eq_true h, eq_true h2, true_and]
    · intro h2; simp (maxSteps := 2000000) only [go_sem, doCall, doCallQ, Nat.reduceAdd, Nat.reduceMul, Nat.reduceSub, Nat.reduceDiv, Nat.reduceMod, Nat.reduceLT, Nat.reduceLeDiff, Nat.reduceEqDiff, Nat.reduceBEq, Nat.reduceBNe, Int.reduceToNat, Int.reduceLT, Int.reduceLE, Int.reduceEq, Int.reduceNe, Int.reduceAdd, Int.reduceSub, Int.reduceMul, Int.reduceNeg, h2]
      simp only [PC, eq_false h2, false_and, and_false, decide_false]
  · intro h; simp (maxSteps := 2000000) only [go_sem, doCall, doCallQ, Nat.reduceAdd, Nat.reduceMul, Nat.reduceSub, Nat.reduceDiv, Nat.reduceMod, Nat.reduceLT, Nat.reduceLeDiff, Nat.reduceEqDiff, Nat.reduceBEq, Nat.reduceBNe, Int.reduceToNat, Int.reduceLT, Int.reduceLE, Int.reduceEq, Int.reduceNe, Int.reduceAdd, Int.reduceSub, Int.reduceMul, Int.reduceNeg, h]
    simp only [PC, eq_false h, false_and, decide_false]
/-- What a piece's bytes are. -/
def gpiece (b : List UInt8) : Option (Int × Int × Int × List UInt8) :=
  if nk (nb (nb b 1) 4) 2 (nk (nb b 1) 4 (nk b 1 true)) = true ∧ PC (nv b 1) (nv (nb b 1) 4) (nv (nb (nb b 1) 4) 2) (nb (nb (nb b 1) 4) 2).length then
    some (nv b 1, nv (nb b 1) 4, nv (nb (nb b 1) 4) 2, nb (nb (nb b 1) 4) 2) else none
theorem c_getpiece (b : List UInt8) (hb : b.length ≤ 1000) : call ir 34 [.d (.list 1 (rB b))] [] =
    some (match gpiece b with
      | some (o, g, i, x) => .tup [.agg [.d (.int .i64 o), .d (.int .i64 g), .d (.int .i64 i), .d (.list 1 (rB x))], .d (.int .i64 0)]
      | none => .tup [.agg [.d (.int .i64 0), .d (.int .i64 0), .d (.int .i64 0), .d (.list 1 [])], .d (.int .i64 3)], []) := by
  have q1 := c_num b hb true 1 1 rfl (by omega)
  have hb1 : (nb b 1).length ≤ 1000 := Nat.le_trans (nb_len b 1) hb
  have q2 := fun ok => c_num (nb b 1) hb1 ok 4 4 rfl (by omega)
  have hb2 : (nb (nb b 1) 4).length ≤ 1000 := Nat.le_trans (nb_len _ 4) hb1
  have q3 := fun ok => c_num (nb (nb b 1) 4) hb2 ok 2 2 rfl (by omega)
  have hb3 : (nb (nb (nb b 1) 4) 2).length ≤ 1000 := Nat.le_trans (nb_len _ 2) hb2
  have q4 := c_bclone _ hb3
  rw [call_eq (fn := ir34) rfl, evF_bnd]
  cases hk : nk (nb (nb b 1) 4) 2 (nk (nb b 1) 4 (nk b 1 true))
  · have hg : gpiece b = none := by simp [gpiece, hk]
    simp (maxSteps := 2000000) (disch := omega) only [go_sem, doCall, doCallQ, Nat.reduceAdd, Nat.reduceMul, Nat.reduceSub, Nat.reduceDiv, Nat.reduceMod, Nat.reduceLT, Nat.reduceLeDiff, Nat.reduceEqDiff, Nat.reduceBEq, Nat.reduceBNe, Int.reduceToNat, Int.reduceLT, Int.reduceLE, Int.reduceEq, Int.reduceNe, Int.reduceAdd, Int.reduceSub, Int.reduceMul, Int.reduceNeg, bd34, q1, q2, q3, q4, hk, hg]
  · by_cases ho : PC (nv b 1) (nv (nb b 1) 4) (nv (nb (nb b 1) 4) 2) (nb (nb (nb b 1) 4) 2).length
    · have hg : gpiece b = some (nv b 1, nv (nb b 1) 4, nv (nb (nb b 1) 4) 2, nb (nb (nb b 1) 4) 2) := by simp only [gpiece, hk, ho]; rfl
      simp (maxSteps := 2000000) (disch := omega) only [go_sem, doCall, doCallQ, Nat.reduceAdd, Nat.reduceMul, Nat.reduceSub, Nat.reduceDiv, Nat.reduceMod, Nat.reduceLT, Nat.reduceLeDiff, Nat.reduceEqDiff, Nat.reduceBEq, Nat.reduceBNe, Int.reduceToNat, Int.reduceLT, Int.reduceLE, Int.reduceEq, Int.reduceNe, Int.reduceAdd, Int.reduceSub, Int.reduceMul, Int.reduceNeg, bd34, q1, q2, q3, q4, hk, c_piece, eq_true ho, hg]
    · have hg : gpiece b = none := by simp only [gpiece, eq_false ho, and_false, if_false]
      simp (maxSteps := 2000000) (disch := omega) only [go_sem, doCall, doCallQ, Nat.reduceAdd, Nat.reduceMul, Nat.reduceSub, Nat.reduceDiv, Nat.reduceMod, Nat.reduceLT, Nat.reduceLeDiff, Nat.reduceEqDiff, Nat.reduceBEq, Nat.reduceBNe, Int.reduceToNat, Int.reduceLT, Int.reduceLE, Int.reduceEq, Int.reduceNe, Int.reduceAdd, Int.reduceSub, Int.reduceMul, Int.reduceNeg, bd34, q1, q2, q3, q4, hk, c_piece, eq_false ho, hg]

def mayI (c : Int) : Bool := if c ≥ 128 then true else if c = 33 then true else if c = 127 then false else decide (c ≥ 35)
theorem c_may (c : Int) : call ir 98 [.d (.int .u8 c)] [] = some (.d (.bool (mayI c)), []) := by
  rw [call_eq (fn := ir98) rfl, evF_bnd]
  simp (maxSteps := 2000000) only [go_sem, doCall, doCallQ, Nat.reduceAdd, Nat.reduceMul, Nat.reduceSub, Nat.reduceDiv, Nat.reduceMod, Nat.reduceLT, Nat.reduceLeDiff, Nat.reduceEqDiff, Nat.reduceBEq, Nat.reduceBNe, Int.reduceToNat, Int.reduceLT, Int.reduceLE, Int.reduceEq, Int.reduceNe, Int.reduceAdd, Int.reduceSub, Int.reduceMul, Int.reduceNeg, bd98]
  apply two_cases
  · intro h; simp (maxSteps := 2000000) only [go_sem, doCall, doCallQ, Nat.reduceAdd, Nat.reduceMul, Nat.reduceSub, Nat.reduceDiv, Nat.reduceMod, Nat.reduceLT, Nat.reduceLeDiff, Nat.reduceEqDiff, Nat.reduceBEq, Nat.reduceBNe, Int.reduceToNat, Int.reduceLT, Int.reduceLE, Int.reduceEq, Int.reduceNe, Int.reduceAdd, Int.reduceSub, Int.reduceMul, Int.reduceNeg, h]; simp only [mayI, if_pos h]
  · intro h; simp (maxSteps := 2000000) only [go_sem, doCall, doCallQ, Nat.reduceAdd, Nat.reduceMul, Nat.reduceSub, Nat.reduceDiv, Nat.reduceMod, Nat.reduceLT, Nat.reduceLeDiff, Nat.reduceEqDiff, Nat.reduceBEq, Nat.reduceBNe, Int.reduceToNat, Int.reduceLT, Int.reduceLE, Int.reduceEq, Int.reduceNe, Int.reduceAdd, Int.reduceSub, Int.reduceMul, Int.reduceNeg, h]
    apply two_cases
    · intro h2; simp (maxSteps := 2000000) only [go_sem, doCall, doCallQ, Nat.reduceAdd, Nat.reduceMul, Nat.reduceSub, Nat.reduceDiv, Nat.reduceMod, Nat.reduceLT, Nat.reduceLeDiff, Nat.reduceEqDiff, Nat.reduceBEq, Nat.reduceBNe, Int.reduceToNat, Int.reduceLT, Int.reduceLE, Int.reduceEq, Int.reduceNe, Int.reduceAdd, Int.reduceSub, Int.reduceMul, Int.reduceNeg, h2]; subst h2; simp [mayI]
    · intro h2; simp (maxSteps := 2000000) only [go_sem, doCall, doCallQ, Nat.reduceAdd, Nat.reduceMul, Nat.reduceSub, Nat.reduceDiv, Nat.reduceMod, Nat.reduceLT, Nat.reduceLeDiff, Nat.reduceEqDiff, Nat.reduceBEq, Nat.reduceBNe, Int.reduceToNat, Int.reduceLT, Int.reduceLE, Int.reduceEq, Int.reduceNe, Int.reduceAdd, Int.reduceSub, Int.reduceMul, Int.reduceNeg, h2]
      apply two_cases
      · intro h3; simp (maxSteps := 2000000) only [go_sem, doCall, doCallQ, Nat.reduceAdd, Nat.reduceMul, Nat.reduceSub, Nat.reduceDiv, Nat.reduceMod, Nat.reduceLT, Nat.reduceLeDiff, Nat.reduceEqDiff, Nat.reduceBEq, Nat.reduceBNe, Int.reduceToNat, Int.reduceLT, Int.reduceLE, Int.reduceEq, Int.reduceNe, Int.reduceAdd, Int.reduceSub, Int.reduceMul, Int.reduceNeg, h3]; subst h3; simp [mayI]
      · intro h3; simp (maxSteps := 2000000) only [go_sem, doCall, doCallQ, Nat.reduceAdd, Nat.reduceMul, Nat.reduceSub, Nat.reduceDiv, Nat.reduceMod, Nat.reduceLT, Nat.reduceLeDiff, Nat.reduceEqDiff, Nat.reduceBEq, Nat.reduceBNe, Int.reduceToNat, Int.reduceLT, Int.reduceLE, Int.reduceEq, Int.reduceNe, Int.reduceAdd, Int.reduceSub, Int.reduceMul, Int.reduceNeg, h3]; simp only [mayI, if_neg h, if_neg h2, if_neg h3]
def plainB (s : List UInt8) : Bool := s.all fun c => mayI c.toNat
theorem lp_plain (s : List UInt8) (hs : s.length ≤ 1000) (i : Nat) (hi : i ≤ s.length) :
    bnd (evC (call ir) (loop ir) lp86_0 (st86_0 0 (.d (.str s)) (.d (.int .i64 s.length)) (.d (.int .i64 i)) [])) (lpC (call ir) (loop ir) [0, 5, 6] lp86_0 (bk 0 (sq (call ir) (loop ir) (.seq (.reg [⟨some 2, none, .mv (.c (.d (.bool true))), .none⟩]) (.ret none)) (fin ir86)))) =
      some (.d (.bool (plainB (s.drop i))), []) := by
  by_cases h : i = s.length
  · have hx : ¬ (i : Int) < s.length := by omega
    simp (maxSteps := 2000000) (disch := omega) only [go_sem, doCall, doCallQ, Nat.reduceAdd, Nat.reduceMul, Nat.reduceSub, Nat.reduceDiv, Nat.reduceMod, Nat.reduceLT, Nat.reduceLeDiff, Nat.reduceEqDiff, Nat.reduceBEq, Nat.reduceBNe, Int.reduceToNat, Int.reduceLT, Int.reduceLE, Int.reduceEq, Int.reduceNe, Int.reduceAdd, Int.reduceSub, Int.reduceMul, Int.reduceNeg, u86_0, lb86_0, hx]
    rw [h, List.drop_length]; rfl
  · have hlt : (i : Int) < s.length := by omega
    have hi' : i < s.length := by omega
    have hw := wr_succ (i := i) (by omega)
    have hd : s.drop i = s[i] :: s.drop (i + 1) := List.drop_eq_getElem_cons hi'
    have hbi : s.getD i 0 = s[i] := by simp [List.getD_eq_getElem?_getD, hi']
    have e : plainB (s.drop i) = (mayI (s.getD i 0).toNat && plainB (s.drop (i + 1))) := by rw [hd, hbi]; rfl
    rw [e]
    simp (maxSteps := 2000000) (disch := omega) only [go_sem, doCall, doCallQ, Nat.reduceAdd, Nat.reduceMul, Nat.reduceSub, Nat.reduceDiv, Nat.reduceMod, Nat.reduceLT, Nat.reduceLeDiff, Nat.reduceEqDiff, Nat.reduceBEq, Nat.reduceBNe, Int.reduceToNat, Int.reduceLT, Int.reduceLE, Int.reduceEq, Int.reduceNe, Int.reduceAdd, Int.reduceSub, Int.reduceMul, Int.reduceNeg, u86_0, lb86_0, hlt, Int.toNat_natCast, c_may, chk_of]
    cases hm : mayI (s.getD i 0).toNat
    · simp (maxSteps := 2000000) only [go_sem, doCall, doCallQ, Nat.reduceAdd, Nat.reduceMul, Nat.reduceSub, Nat.reduceDiv, Nat.reduceMod, Nat.reduceLT, Nat.reduceLeDiff, Nat.reduceEqDiff, Nat.reduceBEq, Nat.reduceBNe, Int.reduceToNat, Int.reduceLT, Int.reduceLE, Int.reduceEq, Int.reduceNe, Int.reduceAdd, Int.reduceSub, Int.reduceMul, Int.reduceNeg, hm]
    · simp (maxSteps := 2000000) only [go_sem, doCall, doCallQ, Nat.reduceAdd, Nat.reduceMul, Nat.reduceSub, Nat.reduceDiv, Nat.reduceMod, Nat.reduceLT, Nat.reduceLeDiff, Nat.reduceEqDiff, Nat.reduceBEq, Nat.reduceBNe, Int.reduceToNat, Int.reduceLT, Int.reduceLE, Int.reduceEq, Int.reduceNe, Int.reduceAdd, Int.reduceSub, Int.reduceMul, Int.reduceNeg, hm]
      rw [loop_step1]
      simp (maxSteps := 2000000) only [go_sem, doCall, doCallQ, Nat.reduceAdd, Nat.reduceMul, Nat.reduceSub, Nat.reduceDiv, Nat.reduceMod, Nat.reduceLT, Nat.reduceLeDiff, Nat.reduceEqDiff, Nat.reduceBEq, Nat.reduceBNe, Int.reduceToNat, Int.reduceLT, Int.reduceLE, Int.reduceEq, Int.reduceNe, Int.reduceAdd, Int.reduceSub, Int.reduceMul, Int.reduceNeg, hw]
      exact lp_plain s hs (i + 1) (by omega)
termination_by s.length - i
theorem c_plain (s : List UInt8) (hs : s.length ≤ 1000) : call ir 86 [.d (.str s)] [] = some (.d (.bool (plainB s)), []) := by
  rw [call_eq (fn := ir86) rfl, evF_bnd]
  simp (maxSteps := 2000000) only [go_sem, doCall, doCallQ, Nat.reduceAdd, Nat.reduceMul, Nat.reduceSub, Nat.reduceDiv, Nat.reduceMod, Nat.reduceLT, Nat.reduceLeDiff, Nat.reduceEqDiff, Nat.reduceBEq, Nat.reduceBNe, Int.reduceToNat, Int.reduceLT, Int.reduceLE, Int.reduceEq, Int.reduceNe, Int.reduceAdd, Int.reduceSub, Int.reduceMul, Int.reduceNeg, bd86]
  rw [loop_step1]
  simp (maxSteps := 2000000) only [go_sem, doCall, doCallQ, Nat.reduceAdd, Nat.reduceMul, Nat.reduceSub, Nat.reduceDiv, Nat.reduceMod, Nat.reduceLT, Nat.reduceLeDiff, Nat.reduceEqDiff, Nat.reduceBEq, Nat.reduceBNe, Int.reduceToNat, Int.reduceLT, Int.reduceLE, Int.reduceEq, Int.reduceNe, Int.reduceAdd, Int.reduceSub, Int.reduceMul, Int.reduceNeg]
  exact lp_plain s hs 0 (Nat.zero_le _)
def tagOk (s : List UInt8) : Prop := plainB s = true ∧ (s.length : Int) ≤ 40
instance (s : List UInt8) : Decidable (tagOk s) := by unfold tagOk; infer_instance
theorem c_eright (s : List UInt8) (hs : s.length ≤ 1000) (k : Bool) : call ir 78 [.agg [.d (.bool k), .d (.str s)]] [] = some (.d (.bool (decide (tagOk s))), []) := by
  rw [call_eq (fn := ir78) rfl, evF_bnd]
  cases hp : plainB s
  · simp (maxSteps := 2000000) only [go_sem, doCall, doCallQ, Nat.reduceAdd, Nat.reduceMul, Nat.reduceSub, Nat.reduceDiv, Nat.reduceMod, Nat.reduceLT, Nat.reduceLeDiff, Nat.reduceEqDiff, Nat.reduceBEq, Nat.reduceBNe, Int.reduceToNat, Int.reduceLT, Int.reduceLE, Int.reduceEq, Int.reduceNe, Int.reduceAdd, Int.reduceSub, Int.reduceMul, Int.reduceNeg, bd78, c_plain s hs, hp]
    simp [tagOk, hp]
  · simp (maxSteps := 2000000) only [go_sem, doCall, doCallQ, Nat.reduceAdd, Nat.reduceMul, Nat.reduceSub, Nat.reduceDiv, Nat.reduceMod, Nat.reduceLT, Nat.reduceLeDiff, Nat.reduceEqDiff, Nat.reduceBEq, Nat.reduceBNe, Int.reduceToNat, Int.reduceLT, Int.reduceLE, Int.reduceEq, Int.reduceNe, Int.reduceAdd, Int.reduceSub, Int.reduceMul, Int.reduceNeg, bd78, c_plain s hs, hp]
    simp [tagOk, hp]
/-- A bind may be. -/
def BD (o g l t : Int) (s : List UInt8) : Prop := (OW o g ∧ (0 ≤ l ∧ l ≤ 4096)) ∧ (0 ≤ t ∧ t ≤ 4611686018427387903) ∧ tagOk s
instance (o g l t : Int) (s : List UInt8) : Decidable (BD o g l t s) := by unfold BD; infer_instance
theorem c_bind (o g l t : Int) (s : List UInt8) (hs : s.length ≤ 1000) : call ir 56 [.agg [.d (.int .i64 o), .d (.int .i64 g), .d (.str s), .d (.int .i64 l), .d (.int .i64 t)]] [] = some (.d (.bool (decide (BD o g l t s))), []) := by
  rw [call_eq (fn := ir56) rfl, evF_bnd]
  simp (maxSteps := 2000000) only [go_sem, doCall, doCallQ, Nat.reduceAdd, Nat.reduceMul, Nat.reduceSub, Nat.reduceDiv, Nat.reduceMod, Nat.reduceLT, Nat.reduceLeDiff, Nat.reduceEqDiff, Nat.reduceBEq, Nat.reduceBNe, Int.reduceToNat, Int.reduceLT, Int.reduceLE, Int.reduceEq, Int.reduceNe, Int.reduceAdd, Int.reduceSub, Int.reduceMul, Int.reduceNeg, bd56, c_owner]
  apply two_cases
  · intro h; simp (maxSteps := 2000000) only [go_sem, doCall, doCallQ, Nat.reduceAdd, Nat.reduceMul, Nat.reduceSub, Nat.reduceDiv, Nat.reduceMod, Nat.reduceLT, Nat.reduceLeDiff, Nat.reduceEqDiff, Nat.reduceBEq, Nat.reduceBNe, Int.reduceToNat, Int.reduceLT, Int.reduceLE, Int.reduceEq, Int.reduceNe, Int.reduceAdd, Int.reduceSub, Int.reduceMul, Int.reduceNeg, h, c_fits]
    apply two_cases
    · intro h2; simp (maxSteps := 2000000) only [go_sem, doCall, doCallQ, Nat.reduceAdd, Nat.reduceMul, Nat.reduceSub, Nat.reduceDiv, Nat.reduceMod, Nat.reduceLT, Nat.reduceLeDiff, Nat.reduceEqDiff, Nat.reduceBEq, Nat.reduceBNe, Int.reduceToNat, Int.reduceLT, Int.reduceLE, Int.reduceEq, Int.reduceNe, Int.reduceAdd, Int.reduceSub, Int.reduceMul, Int.reduceNeg, h2, c_fits]
      apply two_cases
      · intro h3; simp (maxSteps := 2000000) only [go_sem, doCall, doCallQ, Nat.reduceAdd, Nat.reduceMul, Nat.reduceSub, Nat.reduceDiv, Nat.reduceMod, Nat.reduceLT, Nat.reduceLeDiff, Nat.reduceEqDiff, Nat.reduceBEq, Nat.reduceBNe, Int.reduceToNat, Int.reduceLT, Int.reduceLE, Int.reduceEq, Int.reduceNe, Int.reduceAdd, Int.reduceSub, Int.reduceMul, Int.reduceNeg, h3, c_eright s hs]
        simp only [BD, eq_true h, eq_true h2, eq_true h3, true_and]
      · intro h3; simp (maxSteps := 2000000) only [go_sem, doCall, doCallQ, Nat.reduceAdd, Nat.reduceMul, Nat.reduceSub, Nat.reduceDiv, Nat.reduceMod, Nat.reduceLT, Nat.reduceLeDiff, Nat.reduceEqDiff, Nat.reduceBEq, Nat.reduceBNe, Int.reduceToNat, Int.reduceLT, Int.reduceLE, Int.reduceEq, Int.reduceNe, Int.reduceAdd, Int.reduceSub, Int.reduceMul, Int.reduceNeg, h3]
        simp only [BD, eq_false h3, false_and, and_false, decide_false]
    · intro h2; simp (maxSteps := 2000000) only [go_sem, doCall, doCallQ, Nat.reduceAdd, Nat.reduceMul, Nat.reduceSub, Nat.reduceDiv, Nat.reduceMod, Nat.reduceLT, Nat.reduceLeDiff, Nat.reduceEqDiff, Nat.reduceBEq, Nat.reduceBNe, Int.reduceToNat, Int.reduceLT, Int.reduceLE, Int.reduceEq, Int.reduceNe, Int.reduceAdd, Int.reduceSub, Int.reduceMul, Int.reduceNeg, h2]
      simp only [BD, eq_false h2, false_and, and_false, decide_false]
  · intro h; simp (maxSteps := 2000000) only [go_sem, doCall, doCallQ, Nat.reduceAdd, Nat.reduceMul, Nat.reduceSub, Nat.reduceDiv, Nat.reduceMod, Nat.reduceLT, Nat.reduceLeDiff, Nat.reduceEqDiff, Nat.reduceBEq, Nat.reduceBNe, Int.reduceToNat, Int.reduceLT, Int.reduceLE, Int.reduceEq, Int.reduceNe, Int.reduceAdd, Int.reduceSub, Int.reduceMul, Int.reduceNeg, h]
    simp only [BD, eq_false h, false_and, decide_false]
/-- What a bind's bytes are. -/
def gbind (b : List UInt8) : Option (Int × Int × List UInt8 × Int × Int) :=
  if nk (nb (nb (nb b 1) 4) 2) 8 (nk (nb (nb b 1) 4) 2 (nk (nb b 1) 4 (nk b 1 true))) = true ∧ BD (nv b 1) (nv (nb b 1) 4) (nv (nb (nb b 1) 4) 2) (nv (nb (nb (nb b 1) 4) 2) 8) (nb (nb (nb (nb b 1) 4) 2) 8) then
    some (nv b 1, nv (nb b 1) 4, nb (nb (nb (nb b 1) 4) 2) 8, nv (nb (nb b 1) 4) 2, nv (nb (nb (nb b 1) 4) 2) 8) else none
theorem c_getbind (b : List UInt8) (hb : b.length ≤ 1000) : call ir 32 [.d (.list 1 (rB b))] [] =
    some (match gbind b with
      | some (o, g, s, l, t) => .tup [.agg [.d (.int .i64 o), .d (.int .i64 g), .d (.str s), .d (.int .i64 l), .d (.int .i64 t)], .d (.int .i64 0)]
      | none => .tup [.agg [.d (.int .i64 0), .d (.int .i64 0), .d (.str []), .d (.int .i64 0), .d (.int .i64 0)], .d (.int .i64 3)], []) := by
  have q1 := c_num b hb true 1 1 rfl (by omega)
  have hb1 : (nb b 1).length ≤ 1000 := Nat.le_trans (nb_len b 1) hb
  have q2 := fun ok => c_num (nb b 1) hb1 ok 4 4 rfl (by omega)
  have hb2 : (nb (nb b 1) 4).length ≤ 1000 := Nat.le_trans (nb_len _ 4) hb1
  have q3 := fun ok => c_num (nb (nb b 1) 4) hb2 ok 2 2 rfl (by omega)
  have hb3 : (nb (nb (nb b 1) 4) 2).length ≤ 1000 := Nat.le_trans (nb_len _ 2) hb2
  have q4 := fun ok => c_num (nb (nb (nb b 1) 4) 2) hb3 ok 8 8 rfl (by omega)
  have hb4 : (nb (nb (nb (nb b 1) 4) 2) 8).length ≤ 1000 := Nat.le_trans (nb_len _ 8) hb3
  have q5 := fun o g l t => c_bind o g l t _ hb4
  rw [call_eq (fn := ir32) rfl, evF_bnd]
  cases hk : nk (nb (nb (nb b 1) 4) 2) 8 (nk (nb (nb b 1) 4) 2 (nk (nb b 1) 4 (nk b 1 true)))
  · have hg : gbind b = none := by simp [gbind, hk]
    simp (maxSteps := 2000000) (disch := omega) only [go_sem, doCall, doCallQ, Nat.reduceAdd, Nat.reduceMul, Nat.reduceSub, Nat.reduceDiv, Nat.reduceMod, Nat.reduceLT, Nat.reduceLeDiff, Nat.reduceEqDiff, Nat.reduceBEq, Nat.reduceBNe, Int.reduceToNat, Int.reduceLT, Int.reduceLE, Int.reduceEq, Int.reduceNe, Int.reduceAdd, Int.reduceSub, Int.reduceMul, Int.reduceNeg, bd32, q1, q2, q3, q4, hk, hg]
  · by_cases ho : BD (nv b 1) (nv (nb b 1) 4) (nv (nb (nb b 1) 4) 2) (nv (nb (nb (nb b 1) 4) 2) 8) (nb (nb (nb (nb b 1) 4) 2) 8)
    · have hg : gbind b = some (nv b 1, nv (nb b 1) 4, nb (nb (nb (nb b 1) 4) 2) 8, nv (nb (nb b 1) 4) 2, nv (nb (nb (nb b 1) 4) 2) 8) := by simp only [gbind, hk, ho]; rfl
      simp (maxSteps := 2000000) (disch := omega) only [go_sem, doCall, doCallQ, Nat.reduceAdd, Nat.reduceMul, Nat.reduceSub, Nat.reduceDiv, Nat.reduceMod, Nat.reduceLT, Nat.reduceLeDiff, Nat.reduceEqDiff, Nat.reduceBEq, Nat.reduceBNe, Int.reduceToNat, Int.reduceLT, Int.reduceLE, Int.reduceEq, Int.reduceNe, Int.reduceAdd, Int.reduceSub, Int.reduceMul, Int.reduceNeg, bd32, q1, q2, q3, q4, hk, q5, eq_true ho, hg]
    · have hg : gbind b = none := by simp only [gbind, eq_false ho, and_false, if_false]
      simp (maxSteps := 2000000) (disch := omega) only [go_sem, doCall, doCallQ, Nat.reduceAdd, Nat.reduceMul, Nat.reduceSub, Nat.reduceDiv, Nat.reduceMod, Nat.reduceLT, Nat.reduceLeDiff, Nat.reduceEqDiff, Nat.reduceBEq, Nat.reduceBNe, Int.reduceToNat, Int.reduceLT, Int.reduceLE, Int.reduceEq, Int.reduceNe, Int.reduceAdd, Int.reduceSub, Int.reduceMul, Int.reduceNeg, bd32, q1, q2, q3, q4, hk, q5, eq_false ho, hg]
end Go.Proofs.YtoipfdbdifoecaaGreatDoor
