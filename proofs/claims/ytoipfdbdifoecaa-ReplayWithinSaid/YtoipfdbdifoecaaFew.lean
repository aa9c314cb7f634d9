/- Few. Own work. -/
import Derived.Test.YtoipfdbdifoecaaAll
namespace Go.Proofs.Ytoipfdbdifoecaa
open Go Go.Ev Go.Proofs.Ytoipfdbdifoecaa.Ir
set_option maxRecDepth 100000
set_option maxHeartbeats 4000000
set_option linter.unusedSimpArgs false
set_option linter.unusedVariables false
/-! ### what is asked -/
abbrev entSh : Sh := .i .i64 (.i .i64 (.i .u64 (.i .i64 (.i .u8 (.sl (.i .u8 .nil) 1 .nil)))))
theorem bytes_of {xs : List (List D)} (h : ∀ q, q ∈ xs → Sh.ok (.i .u8 .nil) q) : ∃ d : List UInt8, xs = rB d := by
  obtain ⟨d, hd, _⟩ := rows_map (f := fun b : UInt8 => [D.int .u8 b.toNat]) (R := fun _ => True) (fun q h => by
    obtain ⟨n, _, rfl, h1, h2, h⟩ := ok_i h
    obtain rfl := ok_n h
    have e1 : IntKind.u8.min = 0 := rfl
    have e2 : IntKind.u8.max = 255 := rfl
    rw [e1] at h1; rw [e2] at h2
    refine ⟨UInt8.ofNat n.toNat, ?_, trivial⟩
    have : (UInt8.ofNat n.toNat).toNat = n.toNat := by simp; omega
    rw [this, Int.toNat_of_nonneg h1]) h
  exact ⟨d, hd⟩
theorem ens_of {xs : List (List D)} (h : ∀ q, q ∈ xs → entSh.ok q) : ∃ l : List En, xs = l.map En.cs := by
  obtain ⟨l, hl, _⟩ := rows_map (f := En.cs) (R := fun _ => True) (fun q h => by
    obtain ⟨a1, _, rfl, _, _, h⟩ := ok_i h
    obtain ⟨a2, _, rfl, _, _, h⟩ := ok_i h
    obtain ⟨a3, _, rfl, _, _, h⟩ := ok_i h
    obtain ⟨a4, _, rfl, _, _, h⟩ := ok_i h
    obtain ⟨a5, _, rfl, _, _, h⟩ := ok_i h
    obtain ⟨ds, _, rfl, _, hd, h⟩ := ok_sl h
    obtain rfl := ok_n h
    obtain ⟨d, rfl⟩ := bytes_of hd
    exact ⟨⟨a1, a2, a3, a4, a5, d⟩, rfl, trivial⟩) h
  exact ⟨l, hl⟩
def sameAt (e f : En) : Bool := f.a1 == e.a1 && f.a2 == e.a2
def clash (l : List En) (e : En) (i k : Nat) : Bool := ((l.take i).drop k).any (sameAt e)
theorem lp_few1 (l : List En) (hl : l.length ≤ 4611686018427387903) (i : Nat) (hi : i < l.length) (K : Ex → St → Option (AV × Heap)) (j : Nat) (hj : j ≤ i) :
    bnd (evC (call ir) (loop ir) lp8_1 (st8_1 0 (.d (.list 6 (l.map En.cs))) (.d (.int .i64 i)) (.ptr 0 0) (.d (.int .i64 j)) (.d (.list 6 (l.map En.cs))) (.d (.int .i64 l.length)) (.d (.int .i64 i)) [.dbox (l[i]).cs]))
      (lpC (call ir) (loop ir) [0, 3, 4, 5, 6, 7, 8] lp8_1 K) =
    if clash l l[i] i j then K .ret (clean [2] ⟨0, (List.replicate 34 AV.unk).set 2 (.d (.bool false)), []⟩)
    else K (.exit 2) (clean [0, 6, 7, 8] (st8_1 0 (.d (.list 6 (l.map En.cs))) (.d (.int .i64 i)) (.ptr 0 0) (.d (.int .i64 j)) (.d (.list 6 (l.map En.cs))) (.d (.int .i64 l.length)) (.d (.int .i64 i)) [.dbox (l[i]).cs])) := by
  have hlm : (l.map En.cs).length = l.length := List.length_map ..
  by_cases h : j = i
  · have hx : ¬ (j : Int) < i := by omega
    have hc : clash l l[i] i j = false := by
      have : ((l.take i).drop j) = [] := List.drop_eq_nil_of_le (by simp; omega)
      simp [clash, this]
    subst h
    rw [hc]
    simp (disch := omega) only [go_sem, doCall, doCallQ, Nat.reduceAdd, Nat.reduceMul, Nat.reduceSub, Nat.reduceDiv, Nat.reduceMod, Nat.reduceLT, Nat.reduceLeDiff, Nat.reduceEqDiff, Nat.reduceBEq, Nat.reduceBNe, Int.reduceToNat, Int.reduceLT, Int.reduceLE, Int.reduceEq, Int.reduceNe, Int.reduceAdd, Int.reduceSub, Int.reduceMul, Int.reduceNeg, u8_1, lb8_1, hx, En.cs]
  · have hlt : (j : Int) < i := by omega
    have hj' : j < l.length := by omega
    have hw := wr_succ (i := j) (by omega)
    have hr := En.rows l hj'
    have hcl : clash l l[i] i j = (sameAt l[i] l[j] || clash l l[i] i (j + 1)) := by
      have h1 : j < (l.take i).length := by simp; omega
      have h2 : (l.take i).drop j = l[j] :: (l.take i).drop (j + 1) := by rw [List.drop_eq_getElem_cons h1]; simp
      simp only [clash, h2, List.any_cons]
    rw [hcl]
    cases hs : sameAt l[i] l[j]
    · have hs' := hs
      simp only [sameAt] at hs'
      have ih := lp_few1 l hl i hi K (j + 1) (by omega)
      simp only [En.cs] at ih
      rw [Bool.false_or]
      simp (disch := omega) only [go_sem, doCall, doCallQ, Nat.reduceAdd, Nat.reduceMul, Nat.reduceSub, Nat.reduceDiv, Nat.reduceMod, Nat.reduceLT, Nat.reduceLeDiff, Nat.reduceEqDiff, Nat.reduceBEq, Nat.reduceBNe, Int.reduceToNat, Int.reduceLT, Int.reduceLE, Int.reduceEq, Int.reduceNe, Int.reduceAdd, Int.reduceSub, Int.reduceMul, Int.reduceNeg, u8_1, lb8_1, hlt, hr, hs', hlm, Int.toNat_natCast, En.cs, chk_of]
      rw [loop_step1]
      simp only [go_sem, doCall, doCallQ, Nat.reduceAdd, Nat.reduceMul, Nat.reduceSub, Nat.reduceDiv, Nat.reduceMod, Nat.reduceLT, Nat.reduceLeDiff, Nat.reduceEqDiff, Nat.reduceBEq, Nat.reduceBNe, Int.reduceToNat, Int.reduceLT, Int.reduceLE, Int.reduceEq, Int.reduceNe, Int.reduceAdd, Int.reduceSub, Int.reduceMul, Int.reduceNeg, hw]
      simp only [go_sem, doCall, doCallQ, Nat.reduceAdd, Nat.reduceMul, Nat.reduceSub, Nat.reduceDiv, Nat.reduceMod, Nat.reduceLT, Nat.reduceLeDiff, Nat.reduceEqDiff, Nat.reduceBEq, Nat.reduceBNe, Int.reduceToNat, Int.reduceLT, Int.reduceLE, Int.reduceEq, Int.reduceNe, Int.reduceAdd, Int.reduceSub, Int.reduceMul, Int.reduceNeg] at ih
      exact ih
    · have hs' := hs
      simp only [sameAt] at hs'
      rw [Bool.true_or]
      simp (disch := omega) only [go_sem, doCall, doCallQ, Nat.reduceAdd, Nat.reduceMul, Nat.reduceSub, Nat.reduceDiv, Nat.reduceMod, Nat.reduceLT, Nat.reduceLeDiff, Nat.reduceEqDiff, Nat.reduceBEq, Nat.reduceBNe, Int.reduceToNat, Int.reduceLT, Int.reduceLE, Int.reduceEq, Int.reduceNe, Int.reduceAdd, Int.reduceSub, Int.reduceMul, Int.reduceNeg, u8_1, lb8_1, hlt, hr, hs', hlm, Int.toNat_natCast, En.cs, chk_of]
termination_by i - j
def Few (l : List En) : Prop := l.length ≤ 40 ∧ ∀ e ∈ l, e.d.length ≤ 200
/-- Each at a place of its own. -/
def Far (l : List En) : Prop := ∀ i (h : i < l.length), clash l l[i] i 0 = false
theorem lp_few0 (l : List En) (hl : l.length ≤ 4611686018427387903) (i : Nat) (hi : i ≤ l.length) (ht : ∀ e ∈ l.take i, e.d.length ≤ 200) (hf : ∀ j (h : j < l.length), j < i → clash l l[j] j 0 = false) :
    ∃ b, bnd (evC (call ir) (loop ir) lp8_0 (st8_0 0 (.d (.list 6 (l.map En.cs))) (.d (.list 6 (l.map En.cs))) (.d (.int .i64 l.length)) (.d (.int .i64 i)) []))
      (lpC (call ir) (loop ir) [0, 6, 7, 8] lp8_0 (bk 0 (sq (call ir) (loop ir) (.seq (.reg [⟨some 31, none, .mv (.s 0), .none⟩, ⟨some 32, none, .len (.s 31), .none⟩, ⟨some 33, none, .bin .leq (.s 32) (.c (.d (.int .i64 40))), .none⟩, ⟨some 2, none, .mv (.s 33), .none⟩]) (.ret none)) (fin ir8)))) =
      some (.d (.bool b), []) ∧ (b = true → Few l ∧ Far l) := by
  have hlm : (l.map En.cs).length = l.length := List.length_map ..
  by_cases h : i = l.length
  · have hx : ¬ (i : Int) < l.length := by omega
    refine ⟨decide ((l.length : Int) ≤ 40), ?_, fun hb => ⟨⟨by have := of_decide_eq_true hb; omega, by rw [h, List.take_length] at ht; exact ht⟩, fun j hj => hf j hj (by omega)⟩⟩
    subst h
    simp (disch := omega) only [go_sem, doCall, doCallQ, Nat.reduceAdd, Nat.reduceMul, Nat.reduceSub, Nat.reduceDiv, Nat.reduceMod, Nat.reduceLT, Nat.reduceLeDiff, Nat.reduceEqDiff, Nat.reduceBEq, Nat.reduceBNe, Int.reduceToNat, Int.reduceLT, Int.reduceLE, Int.reduceEq, Int.reduceNe, Int.reduceAdd, Int.reduceSub, Int.reduceMul, Int.reduceNeg, u8_0, lb8_0, hx, hlm]
  · have hlt : (i : Int) < l.length := by omega
    have hi' : i < l.length := by omega
    have hw := wr_succ (i := i) (by omega)
    have hr := En.rows l hi'
    by_cases hb : ((l[i].d.length : Nat) : Int) > 200
    · refine ⟨false, ?_, fun h => by cases h⟩
      simp (disch := omega) only [go_sem, doCall, doCallQ, Nat.reduceAdd, Nat.reduceMul, Nat.reduceSub, Nat.reduceDiv, Nat.reduceMod, Nat.reduceLT, Nat.reduceLeDiff, Nat.reduceEqDiff, Nat.reduceBEq, Nat.reduceBNe, Int.reduceToNat, Int.reduceLT, Int.reduceLE, Int.reduceEq, Int.reduceNe, Int.reduceAdd, Int.reduceSub, Int.reduceMul, Int.reduceNeg, u8_0, lb8_0, hlt, hr, hlm, rB_len, eq_true hb, Int.toNat_natCast, chk_of]
    · have ht' : ∀ e ∈ l.take (i + 1), e.d.length ≤ 200 := fun e he => by
        rw [List.take_succ_eq_append_getElem hi'] at he
        rcases List.mem_append.1 he with he | he
        · exact ht e he
        · simp only [List.mem_singleton] at he; subst he; omega
      cases hc : clash l l[i] i 0
      · obtain ⟨b, ih, hB⟩ := lp_few0 l hl (i + 1) (by omega) ht' (fun j hj hji => by
          by_cases e : j = i
          · subst e; exact hc
          · exact hf j hj (by omega))
        refine ⟨b, ?_, hB⟩
        simp (disch := omega) only [go_sem, doCall, doCallQ, Nat.reduceAdd, Nat.reduceMul, Nat.reduceSub, Nat.reduceDiv, Nat.reduceMod, Nat.reduceLT, Nat.reduceLeDiff, Nat.reduceEqDiff, Nat.reduceBEq, Nat.reduceBNe, Int.reduceToNat, Int.reduceLT, Int.reduceLE, Int.reduceEq, Int.reduceNe, Int.reduceAdd, Int.reduceSub, Int.reduceMul, Int.reduceNeg, u8_0, lb8_0, hlt, hr, hlm, rB_len, eq_false hb, Int.toNat_natCast, chk_of]
        rw [loop_step1]
        simp only [go_sem, doCall, doCallQ, Nat.reduceAdd, Nat.reduceMul, Nat.reduceSub, Nat.reduceDiv, Nat.reduceMod, Nat.reduceLT, Nat.reduceLeDiff, Nat.reduceEqDiff, Nat.reduceBEq, Nat.reduceBNe, Int.reduceToNat, Int.reduceLT, Int.reduceLE, Int.reduceEq, Int.reduceNe, Int.reduceAdd, Int.reduceSub, Int.reduceMul, Int.reduceNeg]
        refine (lp_few1 l hl i hi' _ 0 (Nat.zero_le _)).trans ?_
        rw [hc]
        simp only [go_sem, doCall, doCallQ, Nat.reduceAdd, Nat.reduceMul, Nat.reduceSub, Nat.reduceDiv, Nat.reduceMod, Nat.reduceLT, Nat.reduceLeDiff, Nat.reduceEqDiff, Nat.reduceBEq, Nat.reduceBNe, Int.reduceToNat, Int.reduceLT, Int.reduceLE, Int.reduceEq, Int.reduceNe, Int.reduceAdd, Int.reduceSub, Int.reduceMul, Int.reduceNeg]
        rw [loop_step1]
        simp only [go_sem, doCall, doCallQ, Nat.reduceAdd, Nat.reduceMul, Nat.reduceSub, Nat.reduceDiv, Nat.reduceMod, Nat.reduceLT, Nat.reduceLeDiff, Nat.reduceEqDiff, Nat.reduceBEq, Nat.reduceBNe, Int.reduceToNat, Int.reduceLT, Int.reduceLE, Int.reduceEq, Int.reduceNe, Int.reduceAdd, Int.reduceSub, Int.reduceMul, Int.reduceNeg, hw]
        exact ih
      · refine ⟨false, ?_, fun h => by cases h⟩
        simp (disch := omega) only [go_sem, doCall, doCallQ, Nat.reduceAdd, Nat.reduceMul, Nat.reduceSub, Nat.reduceDiv, Nat.reduceMod, Nat.reduceLT, Nat.reduceLeDiff, Nat.reduceEqDiff, Nat.reduceBEq, Nat.reduceBNe, Int.reduceToNat, Int.reduceLT, Int.reduceLE, Int.reduceEq, Int.reduceNe, Int.reduceAdd, Int.reduceSub, Int.reduceMul, Int.reduceNeg, u8_0, lb8_0, hlt, hr, hlm, rB_len, eq_false hb, Int.toNat_natCast, chk_of]
        rw [loop_step1]
        simp only [go_sem, doCall, doCallQ, Nat.reduceAdd, Nat.reduceMul, Nat.reduceSub, Nat.reduceDiv, Nat.reduceMod, Nat.reduceLT, Nat.reduceLeDiff, Nat.reduceEqDiff, Nat.reduceBEq, Nat.reduceBNe, Int.reduceToNat, Int.reduceLT, Int.reduceLE, Int.reduceEq, Int.reduceNe, Int.reduceAdd, Int.reduceSub, Int.reduceMul, Int.reduceNeg]
        refine (lp_few1 l hl i hi' _ 0 (Nat.zero_le _)).trans ?_
        rw [hc]
        simp only [go_sem, doCall, doCallQ, Nat.reduceAdd, Nat.reduceMul, Nat.reduceSub, Nat.reduceDiv, Nat.reduceMod, Nat.reduceLT, Nat.reduceLeDiff, Nat.reduceEqDiff, Nat.reduceBEq, Nat.reduceBNe, Int.reduceToNat, Int.reduceLT, Int.reduceLE, Int.reduceEq, Int.reduceNe, Int.reduceAdd, Int.reduceSub, Int.reduceMul, Int.reduceNeg, List.replicate, List.set_cons_zero, List.set_cons_succ]
termination_by l.length - i
theorem t_few (l : List En) (hl : l.length ≤ 4611686018427387903) : ∃ b, call ir 8 [.d (.list 6 (l.map En.cs))] [] = some (.d (.bool b), []) ∧ (b = true → Few l ∧ Far l) := by
  have hlm : (l.map En.cs).length = l.length := List.length_map ..
  obtain ⟨b, hb, hB⟩ := lp_few0 l hl 0 (Nat.zero_le _) (by simp) (fun _ _ h => by omega)
  refine ⟨b, ?_, hB⟩
  rw [call_eq (fn := ir8) rfl, evF_bnd]
  simp only [go_sem, doCall, doCallQ, Nat.reduceAdd, Nat.reduceMul, Nat.reduceSub, Nat.reduceDiv, Nat.reduceMod, Nat.reduceLT, Nat.reduceLeDiff, Nat.reduceEqDiff, Nat.reduceBEq, Nat.reduceBNe, Int.reduceToNat, Int.reduceLT, Int.reduceLE, Int.reduceEq, Int.reduceNe, Int.reduceAdd, Int.reduceSub, Int.reduceMul, Int.reduceNeg, bd8, hlm]
  rw [loop_step1]
  simp only [go_sem, doCall, doCallQ, Nat.reduceAdd, Nat.reduceMul, Nat.reduceSub, Nat.reduceDiv, Nat.reduceMod, Nat.reduceLT, Nat.reduceLeDiff, Nat.reduceEqDiff, Nat.reduceBEq, Nat.reduceBNe, Int.reduceToNat, Int.reduceLT, Int.reduceLE, Int.reduceEq, Int.reduceNe, Int.reduceAdd, Int.reduceSub, Int.reduceMul, Int.reduceNeg]
  exact hb
end Go.Proofs.Ytoipfdbdifoecaa
