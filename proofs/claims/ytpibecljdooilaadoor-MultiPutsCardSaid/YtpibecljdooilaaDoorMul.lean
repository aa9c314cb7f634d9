/- MultiPuts: the law function. Own work. -/
import Derived.Test.YtpibecljdooilaaDoorMulC
import Derived.Test.YtpibecljdooilaaDoorEvExt
namespace Go.Proofs.YtpibecljdooilaaDoor
open Go Go.Ev Go.Proofs.YtpibecljdooilaaDoor.Ir
set_option maxRecDepth 100000
set_option maxHeartbeats 4000000
set_option linter.unusedSimpArgs false
set_option linter.unusedVariables false
theorem ext2 : Ext Ir.ir ir2 := ⟨fun f fn h => h, fun f x H r h1 h2 => by simp [Ir.ir] at h2⟩
theorem put_call (l : List PartD) (n : Int) (s : List UInt8) (hsz : l.length + s.length ≤ 1000000000) (hp : (putB l n s).length ≤ 1000000) :
    call ir2 11 [vL l, dI n, dS s] [] = if putR l n s then some (.tup [vB (putB l n s), dI 0], []) else some (.tup [vB [], dI 1], []) := by
  rw [call_nat (by rfl)]
  refine (natPut_eq 11 putR putB l n s hsz).trans ?_
  rw [if_pos hp]; rfl
theorem t_type2 (s : List UInt8) (hs : s.length ≤ 1000000000) : call ir2 32 [dS s] [] = some (dS ([109, 117, 108, 116, 105, 112, 97, 114, 116, 47, 98, 121, 116, 101, 114, 97, 110, 103, 101, 115, 59, 32, 98, 111, 117, 110, 100, 97, 114, 121, 61] ++ s), []) := by
  rw [call_eq (ir := ir2) (fn := ir32) rfl, evF_bnd]
  simp (maxSteps := 2000000) (disch := omega) only [go_sem, doCall, doCallQ, Nat.reduceAdd, Nat.reduceMul, Nat.reduceSub, Nat.reduceDiv, Nat.reduceMod, Nat.reduceLT, Nat.reduceLeDiff, Nat.reduceEqDiff, Nat.reduceBEq, Nat.reduceBNe, Int.reduceToNat, Int.reduceLT, Int.reduceLE, Int.reduceEq, Int.reduceNe, Int.reduceAdd, Int.reduceSub, Int.reduceMul, Int.reduceNeg, bd32, List.length_cons, List.length_nil, chk_of]
theorem t_awake8 : call ir2 9 [] [] = some (dT true, []) := by
  rw [call_eq (ir := ir2) (fn := ir9) rfl, evF_bnd]
  have hr : putR [(0, 1, [7])] 3 [120] = true := by decide
  have hx := putB_len [(0, 1, [7])] 3 [120]
  have hy := putB_short [(0, 1, [7])] 3 [120] (by decide) (by decide) (by decide)
  have hz : 10 < (putB [(0, 1, [7])] 3 [120]).length := by
    rw [hx]
    have e : (allBy [120] 3 [(0, 1, [7])]).length = (headS [120] 3 (0, 1, [7])).length + 3 := by simp [allBy, oneB]
    have e2 : (headS [120] 3 (0, 1, [7])).length = 4 + 1 + 15 + (cntS true 0 1 3).length + 4 := by simp [headS]; omega
    omega
  have hp := put_call [(0, 1, [7])] 3 [120] (by decide) hy
  rw [if_pos hr] at hp
  generalize putB [(0, 1, [7])] 3 [120] = Y at hp hz
  have hz' := eq_true (show (10 : Int) < (Y.length : Int) by omega)
  have hp' : call ir2 11 [.d (.list 3 [[.int .i64 0, .int .i64 1, .list 1 [[.int .u8 7]]]]), dI 3, dS [120]] [] = some (.tup [vB Y, dI 0], []) := hp
  have ht := t_type2 [120] (by decide)
  simp (maxSteps := 2000000) (disch := omega) only [go_sem, doCall, doCallQ, Nat.reduceAdd, Nat.reduceMul, Nat.reduceSub, Nat.reduceDiv, Nat.reduceMod, Nat.reduceLT, Nat.reduceLeDiff, Nat.reduceEqDiff, Nat.reduceBEq, Nat.reduceBNe, Int.reduceToNat, Int.reduceLT, Int.reduceLE, Int.reduceEq, Int.reduceNe, Int.reduceAdd, Int.reduceSub, Int.reduceMul, Int.reduceNeg, bd9, hp', ht, rB_len, hz', List.cons_append, List.nil_append, List.append_nil, decide_true, beq_self_eq_true, chk_of]
theorem t_size (l : List PartD) (n : Int) (s : List UInt8) (hsz : l.length + s.length ≤ 1000000000) (hp : (putB l n s).length ≤ 1000000) :
    call ir2 16 [vL l, dI n, dS s] [] = some (dI (if putR l n s then (putB l n s).length else 0 : Nat), []) := by
  have h := put_call l n s hsz hp
  rw [call_eq (ir := ir2) (fn := ir16) rfl, evF_bnd]
  cases hr : putR l n s
  · rw [hr, if_neg (by simp)] at h
    rw [if_neg (by simp)]
    simp (maxSteps := 2000000) (disch := omega) only [go_sem, doCall, doCallQ, Nat.reduceAdd, Nat.reduceMul, Nat.reduceSub, Nat.reduceDiv, Nat.reduceMod, Nat.reduceLT, Nat.reduceLeDiff, Nat.reduceEqDiff, Nat.reduceBEq, Nat.reduceBNe, Int.reduceToNat, Int.reduceLT, Int.reduceLE, Int.reduceEq, Int.reduceNe, Int.reduceAdd, Int.reduceSub, Int.reduceMul, Int.reduceNeg, bd16, h, rB_len, List.length_nil, chk_of]
  · rw [hr, if_pos rfl] at h
    rw [if_pos rfl]
    simp (maxSteps := 2000000) (disch := omega) only [go_sem, doCall, doCallQ, Nat.reduceAdd, Nat.reduceMul, Nat.reduceSub, Nat.reduceDiv, Nat.reduceMod, Nat.reduceLT, Nat.reduceLeDiff, Nat.reduceEqDiff, Nat.reduceBEq, Nat.reduceBNe, Int.reduceToNat, Int.reduceLT, Int.reduceLE, Int.reduceEq, Int.reduceNe, Int.reduceAdd, Int.reduceSub, Int.reduceMul, Int.reduceNeg, bd16, h, rB_len, chk_of]
theorem t_MultiPuts (l : List PartD) (n : Int) (s : List UInt8) (hl : l.length ≤ 140737488355328) (hs : s.length ≤ 140737488355328) (hb : ∀ p ∈ l, p.2.2.length ≤ 140737488355328) :
    call ir2 3 [vL l, dI n, dS s] [] = some (dT true, []) := by
  rw [call_eq (ir := ir2) (fn := ir3) rfl, evF_bnd]
  have hf := call_ext ext2 (t_few8 l (by omega) (fun p hp => by have := hb p hp; omega))
  have ha := t_awake8
  by_cases h1 : sumB l ≤ 2000 ∧ l.length ≤ 20
  · rw [decide_eq_true h1] at hf
    by_cases h2 : s.length ≤ 100
    · have h2' := eq_false (show ¬ (100 : Int) < s.length by omega)
      have hp := putB_short l n s h1.1 h1.2 h2
      have hput := put_call l n s (by omega) hp
      have hmul := t_multi l n s (by omega) (by omega) hp
      have hsi := t_size l n s (by omega) hp
      have hm1 := call_ext ext2 (t_mright l n (by omega))
      have hm2 := call_ext ext2 (t_mrparts l n (by omega))
      cases hr : putR l n s
      · rw [hr, if_neg (by simp)] at hput hmul hsi
        have hmul := call_ext ext2 hmul
        have hby := call_ext ext2 (c_rbytes [] (by simp))
        have hby2 : call ir2 15 [.d (.list 1 (rB [])), .d (.list 1 [])] [] = some (dT true, []) := hby
        simp (maxSteps := 2000000) (disch := omega) only [go_sem, doCall, doCallQ, Nat.reduceAdd, Nat.reduceMul, Nat.reduceSub, Nat.reduceDiv, Nat.reduceMod, Nat.reduceLT, Nat.reduceLeDiff, Nat.reduceEqDiff, Nat.reduceBEq, Nat.reduceBNe, Int.reduceToNat, Int.reduceLT, Int.reduceLE, Int.reduceEq, Int.reduceNe, Int.reduceAdd, Int.reduceSub, Int.reduceMul, Int.reduceNeg, bd3, ha, hf, h2', hput, hmul, hsi, hm1, hm2, hby2, rB_len, List.length_nil, beq_self_eq_true, bne_self_eq_false, chk_of]
      · rw [hr, if_pos rfl] at hput hmul hsi
        have hmul := call_ext ext2 hmul
        have hby := call_ext ext2 (c_rbytes (putB l n s) (by omega))
        have htk : List.take (putB l n s).length (rB (putB l n s)) = rB (putB l n s) := List.take_of_length_le (by rw [rB_len]; exact Nat.le_refl _)
        simp (maxSteps := 2000000) (disch := omega) only [go_sem, doCall, doCallQ, Nat.reduceAdd, Nat.reduceMul, Nat.reduceSub, Nat.reduceDiv, Nat.reduceMod, Nat.reduceLT, Nat.reduceLeDiff, Nat.reduceEqDiff, Nat.reduceBEq, Nat.reduceBNe, Int.reduceToNat, Int.reduceLT, Int.reduceLE, Int.reduceEq, Int.reduceNe, Int.reduceAdd, Int.reduceSub, Int.reduceMul, Int.reduceNeg, bd3, ha, hf, h2', hput, hmul, hsi, hm1, hm2, hby, htk, rB_len, Nat.zero_add, Nat.le_refl, if_true, beq_self_eq_true, bne_self_eq_false, chk_of]
    · have h2' := eq_true (show (100 : Int) < s.length by omega)
      simp (maxSteps := 2000000) (disch := omega) only [go_sem, doCall, doCallQ, Nat.reduceAdd, Nat.reduceMul, Nat.reduceSub, Nat.reduceDiv, Nat.reduceMod, Nat.reduceLT, Nat.reduceLeDiff, Nat.reduceEqDiff, Nat.reduceBEq, Nat.reduceBNe, Int.reduceToNat, Int.reduceLT, Int.reduceLE, Int.reduceEq, Int.reduceNe, Int.reduceAdd, Int.reduceSub, Int.reduceMul, Int.reduceNeg, bd3, ha, hf, h2', chk_of]
  · rw [decide_eq_false h1] at hf
    simp (maxSteps := 2000000) (disch := omega) only [go_sem, doCall, doCallQ, Nat.reduceAdd, Nat.reduceMul, Nat.reduceSub, Nat.reduceDiv, Nat.reduceMod, Nat.reduceLT, Nat.reduceLeDiff, Nat.reduceEqDiff, Nat.reduceBEq, Nat.reduceBNe, Int.reduceToNat, Int.reduceLT, Int.reduceLE, Int.reduceEq, Int.reduceNe, Int.reduceAdd, Int.reduceSub, Int.reduceMul, Int.reduceNeg, bd3, ha, hf, chk_of]
theorem bytes_of8 {xs : List (List D)} (h : ∀ q, q ∈ xs → Sh.ok (.i .u8 .nil) q) : ∃ d : List UInt8, xs = rB d := by
  obtain ⟨d, hd, _⟩ := rows_map (f := fun b : UInt8 => [D.int .u8 b.toNat]) (R := fun _ => True) (fun q h => by
    obtain ⟨n, _, rfl, h1, h2, h⟩ := ok_i h
    obtain rfl := ok_n h
    have e1 : IntKind.u8.min = 0 := rfl
    have e2 : IntKind.u8.max = 255 := rfl
    rw [e1] at h1; rw [e2] at h2
    refine ⟨UInt8.ofNat n.toNat, ?_, trivial⟩
    have : (UInt8.ofNat n.toNat).toNat = n.toNat := by simp; omega
    rw [this, Int.toNat_of_nonneg h1]) h
  exact ⟨d, hd⟩
theorem parts_of {xs : List (List D)} (h : ∀ q, q ∈ xs → Sh.ok (.i .i64 (.i .i64 (.sl (.i .u8 .nil) 1 .nil))) q) : ∃ l : List PartD, xs = l.map partRow ∧ ∀ p ∈ l, p.2.2.length ≤ 140737488355328 :=
  rows_map (f := partRow) (R := fun p => p.2.2.length ≤ 140737488355328) (fun q h => by
    obtain ⟨f, _, rfl, _, _, h⟩ := ok_i h
    obtain ⟨t, _, rfl, _, _, h⟩ := ok_i h
    obtain ⟨ds, _, rfl, hl, hd, h⟩ := ok_sl h
    obtain rfl := ok_n h
    obtain ⟨d, rfl⟩ := bytes_of8 hd
    refine ⟨(f, t, d), rfl, ?_⟩
    rw [rB_len] at hl
    simp [reachBytes] at hl
    show d.length ≤ _; omega) h
end Go.Proofs.YtpibecljdooilaaDoor
