/- Few. Own work. All records as the document's index; those of an object; the greatest generation. Own work. The law: any records as an index, which of them it needs, those of any object. Own work. -/
import Derived.Test.YtoipfdbdifoecaaGreatDoorAll
import Derived.Test.YtoipfdbdifoecaaGreatDoorRRep
namespace Go.Proofs.YtoipfdbdifoecaaGreatDoor
open Go Go.Ev Go.Proofs.YtoipfdbdifoecaaGreatDoor.Ir
set_option maxRecDepth 100000
set_option maxHeartbeats 4000000
set_option linter.unusedSimpArgs false
set_option linter.unusedVariables false
/-! ### what is asked -/
abbrev entSh : Sh := .i .i64 (.i .i64 (.i .u64 (.i .i64 (.i .u8 (.sl (.i .u8 .nil) 1 .nil)))))
theorem bytes_of {xs : List (List D)} (h : ∀ q, q ∈ xs → Sh.ok (.i .u8 .nil) q) : ∃ d : List UInt8, xs = rB d := by
  obtain ⟨d, hd, _⟩ := rows_map (f := fun b : UInt8 => [D.int .u8 b.toNat]) (R := fun _ => True) (fun q h => by
    obtain ⟨n, _, rfl, h1, h2, h⟩ := ok_i h
    obtain rfl := ok_n h
    have e1 : IntKind.u8.min = 0 := rfl
    have e2 : IntKind.u8.max = 255 := rfl
    rw [e1] at h1; rw [e2] at h2
    refine ⟨UInt8.ofNat n.toNat, ?_, trivial⟩
    have : (UInt8.ofNat n.toNat).toNat = n.toNat := by simp; omega
    rw [this, Int.toNat_of_nonneg h1]) h
  exact ⟨d, hd⟩
theorem ens_of {xs : List (List D)} (h : ∀ q, q ∈ xs → entSh.ok q) : ∃ l : List En, xs = l.map En.cs := by
  obtain ⟨l, hl, _⟩ := rows_map (f := En.cs) (R := fun _ => True) (fun q h => by
    obtain ⟨a1, _, rfl, _, _, h⟩ := ok_i h
    obtain ⟨a2, _, rfl, _, _, h⟩ := ok_i h
    obtain ⟨a3, _, rfl, _, _, h⟩ := ok_i h
    obtain ⟨a4, _, rfl, _, _, h⟩ := ok_i h
    obtain ⟨a5, _, rfl, _, _, h⟩ := ok_i h
    obtain ⟨ds, _, rfl, _, hd, h⟩ := ok_sl h
    obtain rfl := ok_n h
    obtain ⟨d, rfl⟩ := bytes_of hd
    exact ⟨⟨a1, a2, a3, a4, a5, d⟩, rfl, trivial⟩) h
  exact ⟨l, hl⟩
def sameAt (e f : En) : Bool := f.a1 == e.a1 && f.a2 == e.a2
def clash (l : List En) (e : En) (i k : Nat) : Bool := ((l.take i).drop k).any (sameAt e)
theorem lp_few1 (l : List En) (hl : l.length ≤ 4611686018427387903) (i : Nat) (hi : i < l.length) (K : Ex → St → Option (AV × Heap)) (j : Nat) (hj : j ≤ i) :
    bnd (evC (call ir) (loop ir) lp5_1 (st5_1 0 (.d (.list 6 (l.map En.cs))) (.d (.int .i64 i)) (.ptr 0 0) (.d (.int .i64 j)) (.d (.list 6 (l.map En.cs))) (.d (.int .i64 l.length)) (.d (.int .i64 i)) [.dbox (l[i]).cs]))
      (lpC (call ir) (loop ir) [0, 3, 4, 5, 6, 7, 8] lp5_1 K) =
    if clash l l[i] i j then K .ret (clean [2] ⟨0, (List.replicate 34 AV.unk).set 2 (.d (.bool false)), []⟩)
    else K (.exit 2) (clean [0, 6, 7, 8] (st5_1 0 (.d (.list 6 (l.map En.cs))) (.d (.int .i64 i)) (.ptr 0 0) (.d (.int .i64 j)) (.d (.list 6 (l.map En.cs))) (.d (.int .i64 l.length)) (.d (.int .i64 i)) [.dbox (l[i]).cs])) := by
  have hlm : (l.map En.cs).length = l.length := List.length_map ..
  by_cases h : j = i
  · have hx : ¬ (j : Int) < i := by omega
    have hc : clash l l[i] i j = false := by
      have : ((l.take i).drop j) = [] := List.drop_eq_nil_of_le (by simp; omega)
      simp [clash, this]
    subst h
    rw [hc]
    simp (maxSteps := 2000000) (disch := omega) only [go_sem, doCall, doCallQ, Nat.reduceAdd, Nat.reduceMul, Nat.reduceSub, Nat.reduceDiv, Nat.reduceMod, Nat.reduceLT, Nat.reduceLeDiff, Nat.reduceEqDiff, Nat.reduceBEq, Nat.reduceBNe, Int.reduceToNat, Int.reduceLT, Int.reduceLE, Int.reduceEq, Int.reduceNe, Int.reduceAdd, Int.reduceSub, Int.reduceMul, Int.reduceNeg, u5_1, lb5_1, hx, En.cs]
  · have hlt : (j : Int) < i := by omega
    have hj' : j < l.length := by omega
    have hw := wr_succ (i := j) (by omega)
    have hr := En.rows l hj'
    have hcl : clash l l[i] i j = (sameAt l[i] l[j] || clash l l[i] i (j + 1)) := by
      have h1 : j < (l.take i).length := by simp; omega
      have h2 : (l.take i).drop j = l[j] :: (l.take i).drop (j + 1) := by rw [List.drop_eq_getElem_cons h1]; simp
      simp only [clash, h2, List.any_cons]
    rw [hcl]
    cases hs : sameAt l[i] l[j]
    · have hs' := hs
      simp only [sameAt] at hs'
      have ih := lp_few1 l hl i hi K (j + 1) (by omega)
      simp only [En.cs] at ih
      rw [Bool.false_or]
      simp (maxSteps := 2000000) (disch := omega) only [go_sem, doCall, doCallQ, Nat.reduceAdd, Nat.reduceMul, Nat.reduceSub, Nat.reduceDiv, Nat.reduceMod, Nat.reduceLT, Nat.reduceLeDiff, Nat.reduceEqDiff, Nat.reduceBEq, Nat.reduceBNe, Int.reduceToNat, Int.reduceLT, Int.reduceLE, Int.reduceEq, Int.reduceNe, Int.reduceAdd, Int.reduceSub, Int.reduceMul, Int.reduceNeg, u5_1, lb5_1, hlt, hr, hs', hlm, Int.toNat_natCast, En.cs, chk_of]
      rw [loop_step1]
      simp (maxSteps := 2000000) only [go_sem, doCall, doCallQ, Nat.reduceAdd, Nat.reduceMul, Nat.reduceSub, Nat.reduceDiv, Nat.reduceMod, Nat.reduceLT, Nat.reduceLeDiff, Nat.reduceEqDiff, Nat.reduceBEq, Nat.reduceBNe, Int.reduceToNat, Int.reduceLT, Int.reduceLE, Int.reduceEq, Int.reduceNe, Int.reduceAdd, Int.reduceSub, Int.reduceMul, Int.reduceNeg, hw]
      simp (maxSteps := 2000000) only [go_sem, doCall, doCallQ, Nat.reduceAdd, Nat.reduceMul, Nat.reduceSub, Nat.reduceDiv, Nat.reduceMod, Nat.reduceLT, Nat.reduceLeDiff, Nat.reduceEqDiff, Nat.reduceBEq, Nat.reduceBNe, Int.reduceToNat, Int.reduceLT, Int.reduceLE, Int.reduceEq, Int.reduceNe, Int.reduceAdd, Int.reduceSub, Int.reduceMul, Int.reduceNeg] at ih
      exact ih
    · have hs' := hs
      simp only [sameAt] at hs'
      rw [Bool.true_or]
      simp (maxSteps := 2000000) (disch := omega) only [go_sem, doCall, doCallQ, Nat.reduceAdd, Nat.reduceMul, Nat.reduceSub, Nat.reduceDiv, Nat.reduceMod, Nat.reduceLT, Nat.reduceLeDiff, Nat.reduceEqDiff, Nat.reduceBEq, Nat.reduceBNe, Int.reduceToNat, Int.reduceLT, Int.reduceLE, Int.reduceEq, Int.reduceNe, Int.reduceAdd, Int.reduceSub, Int.reduceMul, Int.reduceNeg, u5_1, lb5_1, hlt, hr, hs', hlm, Int.toNat_natCast, En.cs, chk_of]
termination_by i - j
def Few (l : List En) : Prop := l.length ≤ 40 ∧ ∀ e ∈ l, e.d.length ≤ 200
/-- Each at a place of its own. -/
def Far (l : List En) : Prop := ∀ i (h : i < l.length), clash l l[i] i 0 = false
theorem lp_few0 (l : List En) (hl : l.length ≤ 4611686018427387903) (i : Nat) (hi : i ≤ l.length) (ht : ∀ e ∈ l.take i, e.d.length ≤ 200) (hf : ∀ j (h : j < l.length), j < i → clash l l[j] j 0 = false) :
    ∃ b, bnd (evC (call ir) (loop ir) lp5_0 (st5_0 0 (.d (.list 6 (l.map En.cs))) (.d (.list 6 (l.map En.cs))) (.d (.int .i64 l.length)) (.d (.int .i64 i)) []))
      (lpC (call ir) (loop ir) [0, 6, 7, 8] lp5_0 (bk 0 (sq (call ir) (loop ir) (.seq (.reg [⟨some 31, none, .mv (.s 0), .none⟩, ⟨some 32, none, .len (.s 31), .none⟩, ⟨some 33, none, .bin .leq (.s 32) (.c (.d (.int .i64 40))), .none⟩, ⟨some 2, none, .mv (.s 33), .none⟩]) (.ret none)) (fin ir5)))) =
      some (.d (.bool b), []) ∧ (b = true → Few l ∧ Far l) := by
  have hlm : (l.map En.cs).length = l.length := List.length_map ..
  by_cases h : i = l.length
  · have hx : ¬ (i : Int) < l.length := by omega
    refine ⟨decide ((l.length : Int) ≤ 40), ?_, fun hb => ⟨⟨by have := of_decide_eq_true hb; omega, by rw [h, List.take_length] at ht; exact ht⟩, fun j hj => hf j hj (by omega)⟩⟩
    subst h
    simp (maxSteps := 2000000) (disch := omega) only [go_sem, doCall, doCallQ, Nat.reduceAdd, Nat.reduceMul, Nat.reduceSub, Nat.reduceDiv, Nat.reduceMod, Nat.reduceLT, Nat.reduceLeDiff, Nat.reduceEqDiff, Nat.reduceBEq, Nat.reduceBNe, Int.reduceToNat, Int.reduceLT, Int.reduceLE, Int.reduceEq, Int.reduceNe, Int.reduceAdd, Int.reduceSub, Int.reduceMul, Int.reduceNeg, u5_0, lb5_0, hx, hlm]
  · have hlt : (i : Int) < l.length := by omega
    have hi' : i < l.length := by omega
    have hw := wr_succ (i := i) (by omega)
    have hr := En.rows l hi'
    by_cases hb : ((l[i].d.length : Nat) : Int) > 200
    · refine ⟨false, ?_, fun h => by cases h⟩
      simp (maxSteps := 2000000) (disch := omega) only [go_sem, doCall, doCallQ, Nat.reduceAdd, Nat.reduceMul, Nat.reduceSub, Nat.reduceDiv, Nat.reduceMod, Nat.reduceLT, Nat.reduceLeDiff, Nat.reduceEqDiff, Nat.reduceBEq, Nat.reduceBNe, Int.reduceToNat, Int.reduceLT, Int.reduceLE, Int.reduceEq, Int.reduceNe, Int.reduceAdd, Int.reduceSub, Int.reduceMul, Int.reduceNeg, u5_0, lb5_0, hlt, hr, hlm, rB_len, eq_true hb, Int.toNat_natCast, chk_of]
    · have ht' : ∀ e ∈ l.take (i + 1), e.d.length ≤ 200 := fun e he => by
        rw [List.take_succ_eq_append_getElem hi'] at he
        rcases List.mem_append.1 he with he | he
        · exact ht e he
        · simp only [List.mem_singleton] at he; subst he; omega
      cases hc : clash l l[i] i 0
      · obtain ⟨b, ih, hB⟩ := lp_few0 l hl (i + 1) (by omega) ht' (fun j hj hji => by
          by_cases e : j = i
          · subst e; exact hc
          · exact hf j hj (by omega))
        refine ⟨b, ?_, hB⟩
        simp (maxSteps := 2000000) (disch := omega) only [go_sem, doCall, doCallQ, Nat.reduceAdd, Nat.reduceMul, Nat.reduceSub, Nat.reduceDiv, Nat.reduceMod, Nat.reduceLT, Nat.reduceLeDiff, Nat.reduceEqDiff, Nat.reduceBEq, Nat.reduceBNe, Int.reduceToNat, Int.reduceLT, Int.reduceLE, Int.reduceEq, Int.reduceNe, Int.reduceAdd, Int.reduceSub, Int.reduceMul, Int.reduceNeg, u5_0, lb5_0, hlt, hr, hlm, rB_len, eq_false hb, Int.toNat_natCast, chk_of]
        rw [loop_step1]
        simp (maxSteps := 2000000) only [go_sem, doCall, doCallQ, Nat.reduceAdd, Nat.reduceMul, Nat.reduceSub, Nat.reduceDiv, Nat.reduceMod, Nat.reduceLT, Nat.reduceLeDiff, Nat.reduceEqDiff, Nat.reduceBEq, Nat.reduceBNe, Int.reduceToNat, Int.reduceLT, Int.reduceLE, Int.reduceEq, Int.reduceNe, Int.reduceAdd, Int.reduceSub, Int.reduceMul, Int.reduceNeg]
        refine (lp_few1 l hl i hi' _ 0 (Nat.zero_le _)).trans ?_
        rw [hc]
        simp (maxSteps := 2000000) only [go_sem, doCall, doCallQ, Nat.reduceAdd, Nat.reduceMul, Nat.reduceSub, Nat.reduceDiv, Nat.reduceMod, Nat.reduceLT, Nat.reduceLeDiff, Nat.reduceEqDiff, Nat.reduceBEq, Nat.reduceBNe, Int.reduceToNat, Int.reduceLT, Int.reduceLE, Int.reduceEq, Int.reduceNe, Int.reduceAdd, Int.reduceSub, Int.reduceMul, Int.reduceNeg]
        rw [loop_step1]
        simp (maxSteps := 2000000) only [go_sem, doCall, doCallQ, Nat.reduceAdd, Nat.reduceMul, Nat.reduceSub, Nat.reduceDiv, Nat.reduceMod, Nat.reduceLT, Nat.reduceLeDiff, Nat.reduceEqDiff, Nat.reduceBEq, Nat.reduceBNe, Int.reduceToNat, Int.reduceLT, Int.reduceLE, Int.reduceEq, Int.reduceNe, Int.reduceAdd, Int.reduceSub, Int.reduceMul, Int.reduceNeg, hw]
        exact ih
      · refine ⟨false, ?_, fun h => by cases h⟩
        simp (maxSteps := 2000000) (disch := omega) only [go_sem, doCall, doCallQ, Nat.reduceAdd, Nat.reduceMul, Nat.reduceSub, Nat.reduceDiv, Nat.reduceMod, Nat.reduceLT, Nat.reduceLeDiff, Nat.reduceEqDiff, Nat.reduceBEq, Nat.reduceBNe, Int.reduceToNat, Int.reduceLT, Int.reduceLE, Int.reduceEq, Int.reduceNe, Int.reduceAdd, Int.reduceSub, Int.reduceMul, Int.reduceNeg, u5_0, lb5_0, hlt, hr, hlm, rB_len, eq_false hb, Int.toNat_natCast, chk_of]
        rw [loop_step1]
        simp (maxSteps := 2000000) only [go_sem, doCall, doCallQ, Nat.reduceAdd, Nat.reduceMul, Nat.reduceSub, Nat.reduceDiv, Nat.reduceMod, Nat.reduceLT, Nat.reduceLeDiff, Nat.reduceEqDiff, Nat.reduceBEq, Nat.reduceBNe, Int.reduceToNat, Int.reduceLT, Int.reduceLE, Int.reduceEq, Int.reduceNe, Int.reduceAdd, Int.reduceSub, Int.reduceMul, Int.reduceNeg]
        refine (lp_few1 l hl i hi' _ 0 (Nat.zero_le _)).trans ?_
        rw [hc]
        simp (maxSteps := 2000000) only [go_sem, doCall, doCallQ, Nat.reduceAdd, Nat.reduceMul, Nat.reduceSub, Nat.reduceDiv, Nat.reduceMod, Nat.reduceLT, Nat.reduceLeDiff, Nat.reduceEqDiff, Nat.reduceBEq, Nat.reduceBNe, Int.reduceToNat, Int.reduceLT, Int.reduceLE, Int.reduceEq, Int.reduceNe, Int.reduceAdd, Int.reduceSub, Int.reduceMul, Int.reduceNeg, List.replicate, List.set_cons_zero, List.set_cons_succ]
termination_by l.length - i
theorem t_few (l : List En) (hl : l.length ≤ 4611686018427387903) : ∃ b, call ir 5 [.d (.list 6 (l.map En.cs))] [] = some (.d (.bool b), []) ∧ (b = true → Few l ∧ Far l) := by
  have hlm : (l.map En.cs).length = l.length := List.length_map ..
  obtain ⟨b, hb, hB⟩ := lp_few0 l hl 0 (Nat.zero_le _) (by simp) (fun _ _ h => by omega)
  refine ⟨b, ?_, hB⟩
  rw [call_eq (fn := ir5) rfl, evF_bnd]
  simp (maxSteps := 2000000) only [go_sem, doCall, doCallQ, Nat.reduceAdd, Nat.reduceMul, Nat.reduceSub, Nat.reduceDiv, Nat.reduceMod, Nat.reduceLT, Nat.reduceLeDiff, Nat.reduceEqDiff, Nat.reduceBEq, Nat.reduceBNe, Int.reduceToNat, Int.reduceLT, Int.reduceLE, Int.reduceEq, Int.reduceNe, Int.reduceAdd, Int.reduceSub, Int.reduceMul, Int.reduceNeg, bd5, hlm]
  rw [loop_step1]
  simp (maxSteps := 2000000) only [go_sem, doCall, doCallQ, Nat.reduceAdd, Nat.reduceMul, Nat.reduceSub, Nat.reduceDiv, Nat.reduceMod, Nat.reduceLT, Nat.reduceLeDiff, Nat.reduceEqDiff, Nat.reduceBEq, Nat.reduceBNe, Int.reduceToNat, Int.reduceLT, Int.reduceLE, Int.reduceEq, Int.reduceNe, Int.reduceAdd, Int.reduceSub, Int.reduceMul, Int.reduceNeg]
  exact hb
end Go.Proofs.YtoipfdbdifoecaaGreatDoor
namespace Go.Proofs.YtoipfdbdifoecaaGreatDoor
open Go Go.Ev Go.Proofs.YtoipfdbdifoecaaGreatDoor.Ir
set_option maxRecDepth 100000
set_option maxHeartbeats 4000000
set_option linter.unusedSimpArgs false
set_option linter.unusedVariables false
theorem r_live (x : Nat → Sl) {n : Nat} (hi : InvS n x) (hn : n ≤ 100000) (e : En) (hd : e.d.length ≤ 1000) : call ir 10 [.ptr 0 0, .agg e.av] [.dbox (idxR x)] = some (.d (.bool (liveF x e)), [.dbox (idxR x)]) := by
  have ho := r_owner e hd
  obtain ⟨a1, a2, seq, pages, kind, d⟩ := e
  have qp := c_rgetpiece d hd
  simp only [liveF, En.av] at ho ⊢
  unfold ownF at ho
  rw [call_eq (fn := ir10) rfl, evF_bnd]
  by_cases k2 : kind = 2
  · subst k2
    simp only [if_true] at ho ⊢
    cases hg : gbind d with
    | none =>
      rw [hg] at ho
      simp only [Option.map_none] at ho
      simp (maxSteps := 2000000) (disch := omega) only [go_sem, doCall, doCallQ, Nat.reduceAdd, Nat.reduceMul, Nat.reduceSub, Nat.reduceDiv, Nat.reduceMod, Nat.reduceLT, Nat.reduceLeDiff, Nat.reduceEqDiff, Nat.reduceBEq, Nat.reduceBNe, Int.reduceToNat, Int.reduceLT, Int.reduceLE, Int.reduceEq, Int.reduceNe, Int.reduceAdd, Int.reduceSub, Int.reduceMul, Int.reduceNeg, bd10, ho, idxC_len, idxD_len, cs_len, av_len, map_cs, map_idx, idxC_take, idxC_drop, plain_av, plain_idx, box_idx, refs_av, owns_av, view_av, ren_av, refs_idx, owns_idx, view_idx, ren_idx, idxR_len, rs_len, Int.toNat_natCast, Nat.zero_add, chk_of]
    | some r =>
      obtain ⟨o, g, s, l, t⟩ := r
      obtain ⟨hoo, hk⟩ := gbind_o hg
      rw [hg] at ho
      simp only [Option.map_some] at ho
      rw [hoo] at ho ⊢
      have h0 := eq_true (show (0 : Int) ≤ o.toNat by omega)
      have h1 := eq_true (show (o.toNat : Int) < 16 by omega)
      have hgr := get_idr x o.toNat hk
      have sx := slF_in x hk
      simp only [sx]
      cases hb : (x o.toNat).b
      · simp (maxSteps := 2000000) (disch := omega) only [go_sem, doCall, doCallQ, Nat.reduceAdd, Nat.reduceMul, Nat.reduceSub, Nat.reduceDiv, Nat.reduceMod, Nat.reduceLT, Nat.reduceLeDiff, Nat.reduceEqDiff, Nat.reduceBEq, Nat.reduceBNe, Int.reduceToNat, Int.reduceLT, Int.reduceLE, Int.reduceEq, Int.reduceNe, Int.reduceAdd, Int.reduceSub, Int.reduceMul, Int.reduceNeg, bd10, ho, h0, h1, hgr, Sl.rs, hb, Bool.false_and, idxC_len, idxD_len, cs_len, av_len, map_cs, map_idx, idxC_take, idxC_drop, plain_av, plain_idx, box_idx, refs_av, owns_av, view_av, ren_av, refs_idx, owns_idx, view_idx, ren_idx, idxR_len, rs_len, Int.toNat_natCast, Nat.zero_add, chk_of]
      · cases hq : ((x o.toNat).a1 == a1 && (x o.toNat).a2 == a2)
        · simp (maxSteps := 2000000) (disch := omega) only [go_sem, doCall, doCallQ, Nat.reduceAdd, Nat.reduceMul, Nat.reduceSub, Nat.reduceDiv, Nat.reduceMod, Nat.reduceLT, Nat.reduceLeDiff, Nat.reduceEqDiff, Nat.reduceBEq, Nat.reduceBNe, Int.reduceToNat, Int.reduceLT, Int.reduceLE, Int.reduceEq, Int.reduceNe, Int.reduceAdd, Int.reduceSub, Int.reduceMul, Int.reduceNeg, bd10, ho, h0, h1, hgr, Sl.rs, hb, hq, Bool.false_and, Bool.and_false, idxC_len, idxD_len, cs_len, av_len, map_cs, map_idx, idxC_take, idxC_drop, plain_av, plain_idx, box_idx, refs_av, owns_av, view_av, ren_av, refs_idx, owns_idx, view_idx, ren_idx, idxR_len, rs_len, Int.toNat_natCast, Nat.zero_add, chk_of]
        · simp (maxSteps := 2000000) (disch := omega) only [go_sem, doCall, doCallQ, Nat.reduceAdd, Nat.reduceMul, Nat.reduceSub, Nat.reduceDiv, Nat.reduceMod, Nat.reduceLT, Nat.reduceLeDiff, Nat.reduceEqDiff, Nat.reduceBEq, Nat.reduceBNe, Int.reduceToNat, Int.reduceLT, Int.reduceLE, Int.reduceEq, Int.reduceNe, Int.reduceAdd, Int.reduceSub, Int.reduceMul, Int.reduceNeg, bd10, ho, h0, h1, hgr, Sl.rs, hb, hq, Bool.true_and, idxC_len, idxD_len, cs_len, av_len, map_cs, map_idx, idxC_take, idxC_drop, plain_av, plain_idx, box_idx, refs_av, owns_av, view_av, ren_av, refs_idx, owns_idx, view_idx, ren_idx, idxR_len, rs_len, Int.toNat_natCast, Nat.zero_add, chk_of]
  · by_cases k3 : kind = 3
    · subst k3
      simp only [show ¬ (3 : Int) = 2 by decide, if_true, if_false] at ho ⊢
      cases hg : gpiece d with
      | none =>
        rw [hg] at ho
        simp only [Option.map_none] at ho
        simp (maxSteps := 2000000) (disch := omega) only [go_sem, doCall, doCallQ, Nat.reduceAdd, Nat.reduceMul, Nat.reduceSub, Nat.reduceDiv, Nat.reduceMod, Nat.reduceLT, Nat.reduceLeDiff, Nat.reduceEqDiff, Nat.reduceBEq, Nat.reduceBNe, Int.reduceToNat, Int.reduceLT, Int.reduceLE, Int.reduceEq, Int.reduceNe, Int.reduceAdd, Int.reduceSub, Int.reduceMul, Int.reduceNeg, bd10, ho, idxC_len, idxD_len, cs_len, av_len, map_cs, map_idx, idxC_take, idxC_drop, plain_av, plain_idx, box_idx, refs_av, owns_av, view_av, ren_av, refs_idx, owns_idx, view_idx, ren_idx, idxR_len, rs_len, Int.toNat_natCast, Nat.zero_add, chk_of]
      | some r =>
        obtain ⟨o, g, i, s⟩ := r
        obtain ⟨hoo, hk⟩ := gpiece_o hg
        rw [hg] at ho qp
        simp only [Option.map_some] at ho
        rw [hoo] at ho qp ⊢
        have h0 := eq_true (show (0 : Int) ≤ o.toNat by omega)
        have h1 := eq_true (show (o.toNat : Int) < 16 by omega)
        have hgr := get_idr x o.toNat hk
        have sx := slF_in x hk
        have hx := hi o.toNat
        have hpl := pmR_len (pmK (x o.toNat).pm)
        simp only [sx]
        have ev : (((atF (x o.toNat).pm i).isSome && (((atF (x o.toNat).pm i).getD (0, 0)).1 == a1 && ((atF (x o.toNat).pm i).getD (0, 0)).2 == a2)) && decide ((x o.toNat).g = g)) = atV (pmK (x o.toNat).pm) i a1 a2 (x o.toNat).g g := by
          have ep : pmK (x o.toNat).pm = pmL (x o.toNat).pm := by cases (x o.toNat).pm <;> rfl
          unfold atF atV
          rw [ep]
          cases findM i (pmL (x o.toNat).pm) with
          | none => simp
          | some v => simp
        rw [ev]
        simp (maxSteps := 2000000) (disch := omega) only [go_sem, doCall, doCallQ, Nat.reduceAdd, Nat.reduceMul, Nat.reduceSub, Nat.reduceDiv, Nat.reduceMod, Nat.reduceLT, Nat.reduceLeDiff, Nat.reduceEqDiff, Nat.reduceBEq, Nat.reduceBNe, Int.reduceToNat, Int.reduceLT, Int.reduceLE, Int.reduceEq, Int.reduceNe, Int.reduceAdd, Int.reduceSub, Int.reduceMul, Int.reduceNeg, bd10, ho, qp, rB_len, rB_take, List.take_length, Nat.le_refl, List.drop_zero, h0, h1, hgr, hpl, Sl.rs, idxC_len, idxD_len, cs_len, av_len, map_cs, map_idx, idxC_take, idxC_drop, plain_av, plain_idx, box_idx, refs_av, owns_av, view_av, ren_av, refs_idx, owns_idx, view_idx, ren_idx, idxR_len, rs_len, Int.toNat_natCast, Nat.zero_add, chk_of]
        rw [loop_step1]
        simp (maxSteps := 2000000) (disch := omega) only [go_sem, doCall, doCallQ, Nat.reduceAdd, Nat.reduceMul, Nat.reduceSub, Nat.reduceDiv, Nat.reduceMod, Nat.reduceLT, Nat.reduceLeDiff, Nat.reduceEqDiff, Nat.reduceBEq, Nat.reduceBNe, Int.reduceToNat, Int.reduceLT, Int.reduceLE, Int.reduceEq, Int.reduceNe, Int.reduceAdd, Int.reduceSub, Int.reduceMul, Int.reduceNeg, idxC_len, idxD_len, cs_len, av_len, map_cs, map_idx, idxC_take, idxC_drop, plain_av, plain_idx, box_idx, refs_av, owns_av, view_av, ren_av, refs_idx, owns_idx, view_idx, ren_idx, idxR_len, rs_len, Int.toNat_natCast, Nat.zero_add, chk_of]
        refine lp_rlive (idxR x) (x o.toNat) hx.1 (by have := hx.2.1; omega) ⟨a1, a2, seq, pages, 3, d⟩ [.int .i64 (o.toNat : Int), .int .i64 g, .int .i64 i, .list 1 (rB s)] i g rfl rfl _ ?_ ?_ 0 (Nat.zero_le _) (fun p hp => by simp at hp)
        · simp (maxSteps := 2000000) (disch := omega) only [go_sem, doCall, doCallQ, Nat.reduceAdd, Nat.reduceMul, Nat.reduceSub, Nat.reduceDiv, Nat.reduceMod, Nat.reduceLT, Nat.reduceLeDiff, Nat.reduceEqDiff, Nat.reduceBEq, Nat.reduceBNe, Int.reduceToNat, Int.reduceLT, Int.reduceLE, Int.reduceEq, Int.reduceNe, Int.reduceAdd, Int.reduceSub, Int.reduceMul, Int.reduceNeg, idxC_len, idxD_len, cs_len, av_len, map_cs, map_idx, idxC_take, idxC_drop, plain_av, plain_idx, box_idx, refs_av, owns_av, view_av, ren_av, refs_idx, owns_idx, view_idx, ren_idx, idxR_len, rs_len, Int.toNat_natCast, Nat.zero_add, chk_of]
        · intro b
          simp (maxSteps := 2000000) (disch := omega) only [go_sem, doCall, doCallQ, Nat.reduceAdd, Nat.reduceMul, Nat.reduceSub, Nat.reduceDiv, Nat.reduceMod, Nat.reduceLT, Nat.reduceLeDiff, Nat.reduceEqDiff, Nat.reduceBEq, Nat.reduceBNe, Int.reduceToNat, Int.reduceLT, Int.reduceLE, Int.reduceEq, Int.reduceNe, Int.reduceAdd, Int.reduceSub, Int.reduceMul, Int.reduceNeg, idxC_len, idxD_len, cs_len, av_len, map_cs, map_idx, idxC_take, idxC_drop, plain_av, plain_idx, box_idx, refs_av, owns_av, view_av, ren_av, refs_idx, owns_idx, view_idx, ren_idx, idxR_len, rs_len, Int.toNat_natCast, Nat.zero_add, chk_of]
    · by_cases k4 : kind = 4 ∨ kind = 5
      · have e2 : (kind = 2) = False := eq_false k2
        have e3 : (kind = 3) = False := eq_false k3
        simp only [k2, k3, k4, if_true, if_false] at ho ⊢
        cases hg : gdrop d with
        | none =>
          rw [hg] at ho
          simp (maxSteps := 2000000) (disch := omega) only [go_sem, doCall, doCallQ, Nat.reduceAdd, Nat.reduceMul, Nat.reduceSub, Nat.reduceDiv, Nat.reduceMod, Nat.reduceLT, Nat.reduceLeDiff, Nat.reduceEqDiff, Nat.reduceBEq, Nat.reduceBNe, Int.reduceToNat, Int.reduceLT, Int.reduceLE, Int.reduceEq, Int.reduceNe, Int.reduceAdd, Int.reduceSub, Int.reduceMul, Int.reduceNeg, bd10, ho, idxC_len, idxD_len, cs_len, av_len, map_cs, map_idx, idxC_take, idxC_drop, plain_av, plain_idx, box_idx, refs_av, owns_av, view_av, ren_av, refs_idx, owns_idx, view_idx, ren_idx, idxR_len, rs_len, Int.toNat_natCast, Nat.zero_add, chk_of]
        | some r =>
          obtain ⟨o, g⟩ := r
          obtain ⟨hoo, hk⟩ := gdrop_o hg
          rw [hg] at ho
          simp only at ho
          rw [hoo] at ho ⊢
          have h0 := eq_true (show (0 : Int) ≤ o.toNat by omega)
          have h1 := eq_true (show (o.toNat : Int) < 16 by omega)
          have hgr := get_idr x o.toNat hk
          have sx := slF_in x hk
          simp only [sx]
          by_cases hb : 0 < (x o.toNat).fl
          · cases hq : ((x o.toNat).t1 == a1 && (x o.toNat).t2 == a2)
            · simp (maxSteps := 2000000) (disch := omega) only [go_sem, doCall, doCallQ, Nat.reduceAdd, Nat.reduceMul, Nat.reduceSub, Nat.reduceDiv, Nat.reduceMod, Nat.reduceLT, Nat.reduceLeDiff, Nat.reduceEqDiff, Nat.reduceBEq, Nat.reduceBNe, Int.reduceToNat, Int.reduceLT, Int.reduceLE, Int.reduceEq, Int.reduceNe, Int.reduceAdd, Int.reduceSub, Int.reduceMul, Int.reduceNeg, bd10, ho, h0, h1, hgr, Sl.rs, e2, e3, eq_true hb, hq, Bool.false_and, Bool.and_false, idxC_len, idxD_len, cs_len, av_len, map_cs, map_idx, idxC_take, idxC_drop, plain_av, plain_idx, box_idx, refs_av, owns_av, view_av, ren_av, refs_idx, owns_idx, view_idx, ren_idx, idxR_len, rs_len, Int.toNat_natCast, Nat.zero_add, chk_of]
            · simp (maxSteps := 2000000) (disch := omega) only [go_sem, doCall, doCallQ, Nat.reduceAdd, Nat.reduceMul, Nat.reduceSub, Nat.reduceDiv, Nat.reduceMod, Nat.reduceLT, Nat.reduceLeDiff, Nat.reduceEqDiff, Nat.reduceBEq, Nat.reduceBNe, Int.reduceToNat, Int.reduceLT, Int.reduceLE, Int.reduceEq, Int.reduceNe, Int.reduceAdd, Int.reduceSub, Int.reduceMul, Int.reduceNeg, bd10, ho, h0, h1, hgr, Sl.rs, e2, e3, eq_true hb, hq, decide_true, Bool.true_and, idxC_len, idxD_len, cs_len, av_len, map_cs, map_idx, idxC_take, idxC_drop, plain_av, plain_idx, box_idx, refs_av, owns_av, view_av, ren_av, refs_idx, owns_idx, view_idx, ren_idx, idxR_len, rs_len, Int.toNat_natCast, Nat.zero_add, chk_of]
          · simp (maxSteps := 2000000) (disch := omega) only [go_sem, doCall, doCallQ, Nat.reduceAdd, Nat.reduceMul, Nat.reduceSub, Nat.reduceDiv, Nat.reduceMod, Nat.reduceLT, Nat.reduceLeDiff, Nat.reduceEqDiff, Nat.reduceBEq, Nat.reduceBNe, Int.reduceToNat, Int.reduceLT, Int.reduceLE, Int.reduceEq, Int.reduceNe, Int.reduceAdd, Int.reduceSub, Int.reduceMul, Int.reduceNeg, bd10, ho, h0, h1, hgr, Sl.rs, e2, e3, eq_false hb, decide_false, Bool.false_and, idxC_len, idxD_len, cs_len, av_len, map_cs, map_idx, idxC_take, idxC_drop, plain_av, plain_idx, box_idx, refs_av, owns_av, view_av, ren_av, refs_idx, owns_idx, view_idx, ren_idx, idxR_len, rs_len, Int.toNat_natCast, Nat.zero_add, chk_of]
      · simp only [k2, k3, k4, if_false] at ho ⊢
        simp (maxSteps := 2000000) (disch := omega) only [go_sem, doCall, doCallQ, Nat.reduceAdd, Nat.reduceMul, Nat.reduceSub, Nat.reduceDiv, Nat.reduceMod, Nat.reduceLT, Nat.reduceLeDiff, Nat.reduceEqDiff, Nat.reduceBEq, Nat.reduceBNe, Int.reduceToNat, Int.reduceLT, Int.reduceLE, Int.reduceEq, Int.reduceNe, Int.reduceAdd, Int.reduceSub, Int.reduceMul, Int.reduceNeg, bd10, ho, idxC_len, idxD_len, cs_len, av_len, map_cs, map_idx, idxC_take, idxC_drop, plain_av, plain_idx, box_idx, refs_av, owns_av, view_av, ren_av, refs_idx, owns_idx, view_idx, ren_idx, idxR_len, rs_len, Int.toNat_natCast, Nat.zero_add, chk_of]
theorem invS_oneF {n : Nat} {x : Nat → Sl} (h : InvS n x) (e : En) : InvS (n + 1) (oneF x e) := by
  have up : InvS (n + 1) x := fun k => ⟨(h k).1, by have := (h k).2.1; omega, (h k).2.2⟩
  unfold oneF
  split
  · split
    · rename_i o g s l t hg
      obtain ⟨ho, hk⟩ := gbind_o hg
      have := invS_one h ⟨0, o, g, s, l, t, 0, e.a1, e.a2⟩
      unfold deF at this
      simp only [show (0 ≤ o ∧ o < 16) from by omega, if_true, show ¬ (0 : Int) = 1 by decide, show ¬ (0 : Int) = 2 by decide, if_false, and_self] at this
      exact this
    · exact up
  · split
    · split
      · rename_i o g i s hg
        obtain ⟨ho, hk⟩ := gpiece_o hg
        have := invS_one h ⟨1, o, g, [], 0, 0, i, e.a1, e.a2⟩
        unfold deF at this
        simp only [show (0 ≤ o ∧ o < 16) from by omega, if_true, and_self] at this
        exact this
      · exact up
    · split
      · split
        · rename_i o g hg
          obtain ⟨ho, hk⟩ := gdrop_o hg
          have := invS_one h ⟨2, o, g, [], 0, 0, 0, e.a1, e.a2⟩
          unfold deF at this
          simp only [show (0 ≤ o ∧ o < 16) from by omega, if_true, show ¬ (2 : Int) = 1 by decide, if_false, and_self] at this
          exact this
        · exact up
      · exact up
theorem invS_step {n : Nat} {x : Nat → Sl} (h : InvS n x) (late : Bool) (e : En) : InvS (n + 1) (stepF late x e) := by
  unfold stepF
  split
  · exact invS_oneF h e
  · exact fun k => ⟨(h k).1, by have := (h k).2.1; omega, (h k).2.2⟩
theorem invS_pass (late : Bool) : ∀ (l : List En) {n : Nat} {x : Nat → Sl}, InvS n x → InvS (n + l.length) (passF late x l)
  | [], _, _, h => h
  | e :: l, n, x, h => by
    have := invS_pass late l (invS_step h late e)
    rw [show n + (e :: l).length = n + 1 + l.length by simp; omega]
    exact this
theorem invS_all (l : List En) : InvS (l.length + l.length) (allF l) := by
  have := invS_pass true l (invS_pass false l InvS.start)
  rw [Nat.zero_add] at this
  exact this
theorem lp_rall0 (l : List En) (hl : l.length ≤ 1000) (hd : ∀ e ∈ l, e.d.length ≤ 1000) (K : Ex → St → Option (AV × Heap)) (j : Nat) (hj : j ≤ l.length) (x : Nat → Sl) (hi : InvS j x) :
    bnd (evC (call ir) (loop ir) lp7_0 (st7_0 0 (.d (.list 6 (l.map En.cs))) (.ptr 0 0) (.d (.list 6 (l.map En.cs))) (.d (.int .i64 l.length)) (.d (.int .i64 j)) [.dbox (idxR x)]))
      (lpC (call ir) (loop ir) [0, 3, 10, 11, 12] lp7_0 K) =
    K (.exit 0) (clean [0, 3] (st7_0 0 (.d (.list 6 (l.map En.cs))) (.ptr 0 0) .unk .unk .unk [.dbox (idxR (passF false x (l.drop j)))])) := by
  have hlm : (l.map En.cs).length = l.length := List.length_map ..
  by_cases h : j = l.length
  · have hx := eq_false (show ¬ (l.length : Int) < l.length by omega)
    subst h
    simp only [List.drop_length, passF, List.foldl_nil]
    simp (maxSteps := 2000000) (disch := omega) only [go_sem, doCall, doCallQ, Nat.reduceAdd, Nat.reduceMul, Nat.reduceSub, Nat.reduceDiv, Nat.reduceMod, Nat.reduceLT, Nat.reduceLeDiff, Nat.reduceEqDiff, Nat.reduceBEq, Nat.reduceBNe, Int.reduceToNat, Int.reduceLT, Int.reduceLE, Int.reduceEq, Int.reduceNe, Int.reduceAdd, Int.reduceSub, Int.reduceMul, Int.reduceNeg, u7_0, lb7_0, hx, idxC_len, idxD_len, cs_len, av_len, map_cs, map_idx, idxC_take, idxC_drop, plain_av, plain_idx, box_idx, refs_av, owns_av, view_av, ren_av, refs_idx, owns_idx, view_idx, ren_idx, idxR_len, rs_len, Int.toNat_natCast, Nat.zero_add, chk_of]
  · have hlt := eq_true (show (j : Int) < l.length by omega)
    have hj' : j < l.length := by omega
    have hw := wr_succ (i := j) (by omega)
    have hr := En.rows l hj'
    have hdl : l.drop j = l[j] :: l.drop (j + 1) := List.drop_eq_getElem_cons hj'
    have ho := r_one x hi (by omega) l[j] (hd _ (List.getElem_mem hj'))
    simp only [En.av] at ho
    have ep : passF false x (l.drop j) = passF false (stepF false x l[j]) (l.drop (j + 1)) := by rw [hdl]; rfl
    have ih := lp_rall0 l hl hd K (j + 1) (by omega) (stepF false x l[j]) (invS_step hi false l[j])
    rw [ep]
    by_cases hk : l[j].kind = 3
    · have e1 : stepF false x l[j] = x := by simp [stepF, hk]
      rw [e1] at ih ⊢
      simp (maxSteps := 2000000) (disch := omega) only [go_sem, doCall, doCallQ, Nat.reduceAdd, Nat.reduceMul, Nat.reduceSub, Nat.reduceDiv, Nat.reduceMod, Nat.reduceLT, Nat.reduceLeDiff, Nat.reduceEqDiff, Nat.reduceBEq, Nat.reduceBNe, Int.reduceToNat, Int.reduceLT, Int.reduceLE, Int.reduceEq, Int.reduceNe, Int.reduceAdd, Int.reduceSub, Int.reduceMul, Int.reduceNeg, u7_0, lb7_0, hlt, hr, hlm, eq_true hk, idxC_len, idxD_len, cs_len, av_len, map_cs, map_idx, idxC_take, idxC_drop, plain_av, plain_idx, box_idx, refs_av, owns_av, view_av, ren_av, refs_idx, owns_idx, view_idx, ren_idx, idxR_len, rs_len, Int.toNat_natCast, Nat.zero_add, chk_of]
      rw [loop_step1]
      simp (maxSteps := 2000000) (disch := omega) only [go_sem, doCall, doCallQ, Nat.reduceAdd, Nat.reduceMul, Nat.reduceSub, Nat.reduceDiv, Nat.reduceMod, Nat.reduceLT, Nat.reduceLeDiff, Nat.reduceEqDiff, Nat.reduceBEq, Nat.reduceBNe, Int.reduceToNat, Int.reduceLT, Int.reduceLE, Int.reduceEq, Int.reduceNe, Int.reduceAdd, Int.reduceSub, Int.reduceMul, Int.reduceNeg, hw, idxC_len, idxD_len, cs_len, av_len, map_cs, map_idx, idxC_take, idxC_drop, plain_av, plain_idx, box_idx, refs_av, owns_av, view_av, ren_av, refs_idx, owns_idx, view_idx, ren_idx, idxR_len, rs_len, Int.toNat_natCast, Nat.zero_add, chk_of]
      try simp (maxSteps := 2000000) only [go_sem, doCall, doCallQ, Nat.reduceAdd, Nat.reduceMul, Nat.reduceSub, Nat.reduceDiv, Nat.reduceMod, Nat.reduceLT, Nat.reduceLeDiff, Nat.reduceEqDiff, Nat.reduceBEq, Nat.reduceBNe, Int.reduceToNat, Int.reduceLT, Int.reduceLE, Int.reduceEq, Int.reduceNe, Int.reduceAdd, Int.reduceSub, Int.reduceMul, Int.reduceNeg] at ih
      exact ih
    · have e1 : stepF false x l[j] = oneF x l[j] := by simp [stepF, hk]
      rw [e1] at ih ⊢
      simp (maxSteps := 2000000) (disch := omega) only [go_sem, doCall, doCallQ, Nat.reduceAdd, Nat.reduceMul, Nat.reduceSub, Nat.reduceDiv, Nat.reduceMod, Nat.reduceLT, Nat.reduceLeDiff, Nat.reduceEqDiff, Nat.reduceBEq, Nat.reduceBNe, Int.reduceToNat, Int.reduceLT, Int.reduceLE, Int.reduceEq, Int.reduceNe, Int.reduceAdd, Int.reduceSub, Int.reduceMul, Int.reduceNeg, u7_0, lb7_0, hlt, hr, hlm, eq_false hk, ho, idxC_len, idxD_len, cs_len, av_len, map_cs, map_idx, idxC_take, idxC_drop, plain_av, plain_idx, box_idx, refs_av, owns_av, view_av, ren_av, refs_idx, owns_idx, view_idx, ren_idx, idxR_len, rs_len, Int.toNat_natCast, Nat.zero_add, chk_of]
      rw [loop_step1]
      simp (maxSteps := 2000000) (disch := omega) only [go_sem, doCall, doCallQ, Nat.reduceAdd, Nat.reduceMul, Nat.reduceSub, Nat.reduceDiv, Nat.reduceMod, Nat.reduceLT, Nat.reduceLeDiff, Nat.reduceEqDiff, Nat.reduceBEq, Nat.reduceBNe, Int.reduceToNat, Int.reduceLT, Int.reduceLE, Int.reduceEq, Int.reduceNe, Int.reduceAdd, Int.reduceSub, Int.reduceMul, Int.reduceNeg, hw, idxC_len, idxD_len, cs_len, av_len, map_cs, map_idx, idxC_take, idxC_drop, plain_av, plain_idx, box_idx, refs_av, owns_av, view_av, ren_av, refs_idx, owns_idx, view_idx, ren_idx, idxR_len, rs_len, Int.toNat_natCast, Nat.zero_add, chk_of]
      try simp (maxSteps := 2000000) only [go_sem, doCall, doCallQ, Nat.reduceAdd, Nat.reduceMul, Nat.reduceSub, Nat.reduceDiv, Nat.reduceMod, Nat.reduceLT, Nat.reduceLeDiff, Nat.reduceEqDiff, Nat.reduceBEq, Nat.reduceBNe, Int.reduceToNat, Int.reduceLT, Int.reduceLE, Int.reduceEq, Int.reduceNe, Int.reduceAdd, Int.reduceSub, Int.reduceMul, Int.reduceNeg] at ih
      exact ih
termination_by l.length - j
theorem lp_rall1 (l : List En) (hl : l.length ≤ 1000) (hd : ∀ e ∈ l, e.d.length ≤ 1000) (K : Ex → St → Option (AV × Heap)) (j : Nat) (hj : j ≤ l.length) (x : Nat → Sl) (hi : InvS (l.length + j) x) :
    bnd (evC (call ir) (loop ir) lp7_1 (st7_1 0 (.ptr 0 0) (.d (.list 6 (l.map En.cs))) (.d (.int .i64 l.length)) (.d (.int .i64 j)) [.dbox (idxR x)]))
      (lpC (call ir) (loop ir) [3, 23, 24, 25] lp7_1 K) =
    K (.exit 2) (clean [3] (st7_1 0 (.ptr 0 0) .unk .unk .unk [.dbox (idxR (passF true x (l.drop j)))])) := by
  have hlm : (l.map En.cs).length = l.length := List.length_map ..
  by_cases h : j = l.length
  · have hx := eq_false (show ¬ (l.length : Int) < l.length by omega)
    subst h
    simp only [List.drop_length, passF, List.foldl_nil]
    simp (maxSteps := 2000000) (disch := omega) only [go_sem, doCall, doCallQ, Nat.reduceAdd, Nat.reduceMul, Nat.reduceSub, Nat.reduceDiv, Nat.reduceMod, Nat.reduceLT, Nat.reduceLeDiff, Nat.reduceEqDiff, Nat.reduceBEq, Nat.reduceBNe, Int.reduceToNat, Int.reduceLT, Int.reduceLE, Int.reduceEq, Int.reduceNe, Int.reduceAdd, Int.reduceSub, Int.reduceMul, Int.reduceNeg, u7_1, lb7_1, hx, idxC_len, idxD_len, cs_len, av_len, map_cs, map_idx, idxC_take, idxC_drop, plain_av, plain_idx, box_idx, refs_av, owns_av, view_av, ren_av, refs_idx, owns_idx, view_idx, ren_idx, idxR_len, rs_len, Int.toNat_natCast, Nat.zero_add, chk_of]
  · have hlt := eq_true (show (j : Int) < l.length by omega)
    have hj' : j < l.length := by omega
    have hw := wr_succ (i := j) (by omega)
    have hr := En.rows l hj'
    have hdl : l.drop j = l[j] :: l.drop (j + 1) := List.drop_eq_getElem_cons hj'
    have ho := r_one x hi (by omega) l[j] (hd _ (List.getElem_mem hj'))
    simp only [En.av] at ho
    have ep : passF true x (l.drop j) = passF true (stepF true x l[j]) (l.drop (j + 1)) := by rw [hdl]; rfl
    have ih := lp_rall1 l hl hd K (j + 1) (by omega) (stepF true x l[j]) (invS_step hi true l[j])
    rw [ep]
    by_cases hk : l[j].kind = 3
    · have e1 : stepF true x l[j] = oneF x l[j] := by simp [stepF, hk]
      rw [e1] at ih ⊢
      simp (maxSteps := 2000000) (disch := omega) only [go_sem, doCall, doCallQ, Nat.reduceAdd, Nat.reduceMul, Nat.reduceSub, Nat.reduceDiv, Nat.reduceMod, Nat.reduceLT, Nat.reduceLeDiff, Nat.reduceEqDiff, Nat.reduceBEq, Nat.reduceBNe, Int.reduceToNat, Int.reduceLT, Int.reduceLE, Int.reduceEq, Int.reduceNe, Int.reduceAdd, Int.reduceSub, Int.reduceMul, Int.reduceNeg, u7_1, lb7_1, hlt, hr, hlm, eq_true hk, ho, idxC_len, idxD_len, cs_len, av_len, map_cs, map_idx, idxC_take, idxC_drop, plain_av, plain_idx, box_idx, refs_av, owns_av, view_av, ren_av, refs_idx, owns_idx, view_idx, ren_idx, idxR_len, rs_len, Int.toNat_natCast, Nat.zero_add, chk_of]
      rw [loop_step1]
      simp (maxSteps := 2000000) (disch := omega) only [go_sem, doCall, doCallQ, Nat.reduceAdd, Nat.reduceMul, Nat.reduceSub, Nat.reduceDiv, Nat.reduceMod, Nat.reduceLT, Nat.reduceLeDiff, Nat.reduceEqDiff, Nat.reduceBEq, Nat.reduceBNe, Int.reduceToNat, Int.reduceLT, Int.reduceLE, Int.reduceEq, Int.reduceNe, Int.reduceAdd, Int.reduceSub, Int.reduceMul, Int.reduceNeg, hw, idxC_len, idxD_len, cs_len, av_len, map_cs, map_idx, idxC_take, idxC_drop, plain_av, plain_idx, box_idx, refs_av, owns_av, view_av, ren_av, refs_idx, owns_idx, view_idx, ren_idx, idxR_len, rs_len, Int.toNat_natCast, Nat.zero_add, chk_of]
      try simp (maxSteps := 2000000) only [go_sem, doCall, doCallQ, Nat.reduceAdd, Nat.reduceMul, Nat.reduceSub, Nat.reduceDiv, Nat.reduceMod, Nat.reduceLT, Nat.reduceLeDiff, Nat.reduceEqDiff, Nat.reduceBEq, Nat.reduceBNe, Int.reduceToNat, Int.reduceLT, Int.reduceLE, Int.reduceEq, Int.reduceNe, Int.reduceAdd, Int.reduceSub, Int.reduceMul, Int.reduceNeg] at ih
      exact ih
    · have e1 : stepF true x l[j] = x := by simp [stepF, hk]
      rw [e1] at ih ⊢
      simp (maxSteps := 2000000) (disch := omega) only [go_sem, doCall, doCallQ, Nat.reduceAdd, Nat.reduceMul, Nat.reduceSub, Nat.reduceDiv, Nat.reduceMod, Nat.reduceLT, Nat.reduceLeDiff, Nat.reduceEqDiff, Nat.reduceBEq, Nat.reduceBNe, Int.reduceToNat, Int.reduceLT, Int.reduceLE, Int.reduceEq, Int.reduceNe, Int.reduceAdd, Int.reduceSub, Int.reduceMul, Int.reduceNeg, u7_1, lb7_1, hlt, hr, hlm, eq_false hk, idxC_len, idxD_len, cs_len, av_len, map_cs, map_idx, idxC_take, idxC_drop, plain_av, plain_idx, box_idx, refs_av, owns_av, view_av, ren_av, refs_idx, owns_idx, view_idx, ren_idx, idxR_len, rs_len, Int.toNat_natCast, Nat.zero_add, chk_of]
      rw [loop_step1]
      simp (maxSteps := 2000000) (disch := omega) only [go_sem, doCall, doCallQ, Nat.reduceAdd, Nat.reduceMul, Nat.reduceSub, Nat.reduceDiv, Nat.reduceMod, Nat.reduceLT, Nat.reduceLeDiff, Nat.reduceEqDiff, Nat.reduceBEq, Nat.reduceBNe, Int.reduceToNat, Int.reduceLT, Int.reduceLE, Int.reduceEq, Int.reduceNe, Int.reduceAdd, Int.reduceSub, Int.reduceMul, Int.reduceNeg, hw, idxC_len, idxD_len, cs_len, av_len, map_cs, map_idx, idxC_take, idxC_drop, plain_av, plain_idx, box_idx, refs_av, owns_av, view_av, ren_av, refs_idx, owns_idx, view_idx, ren_idx, idxR_len, rs_len, Int.toNat_natCast, Nat.zero_add, chk_of]
      try simp (maxSteps := 2000000) only [go_sem, doCall, doCallQ, Nat.reduceAdd, Nat.reduceMul, Nat.reduceSub, Nat.reduceDiv, Nat.reduceMod, Nat.reduceLT, Nat.reduceLeDiff, Nat.reduceEqDiff, Nat.reduceBEq, Nat.reduceBNe, Int.reduceToNat, Int.reduceLT, Int.reduceLE, Int.reduceEq, Int.reduceNe, Int.reduceAdd, Int.reduceSub, Int.reduceMul, Int.reduceNeg] at ih
      exact ih
termination_by l.length - j
theorem r_all (l : List En) (hl : l.length ≤ 1000) (hd : ∀ e ∈ l, e.d.length ≤ 1000) : call ir 7 [.d (.list 6 (l.map En.cs))] [] = some (.ptr 0 0, [.dbox (idxR (allF l))]) := by
  have hlm : (l.map En.cs).length = l.length := List.length_map ..
  rw [call_eq (fn := ir7) rfl, evF_bnd]
  simp (maxSteps := 2000000) (disch := omega) only [go_sem, doCall, doCallQ, Nat.reduceAdd, Nat.reduceMul, Nat.reduceSub, Nat.reduceDiv, Nat.reduceMod, Nat.reduceLT, Nat.reduceLeDiff, Nat.reduceEqDiff, Nat.reduceBEq, Nat.reduceBNe, Int.reduceToNat, Int.reduceLT, Int.reduceLE, Int.reduceEq, Int.reduceNe, Int.reduceAdd, Int.reduceSub, Int.reduceMul, Int.reduceNeg, bd7, hlm, idxC_len, idxD_len, cs_len, av_len, map_cs, map_idx, idxC_take, idxC_drop, plain_av, plain_idx, box_idx, refs_av, owns_av, view_av, ren_av, refs_idx, owns_idx, view_idx, ren_idx, idxR_len, rs_len, Int.toNat_natCast, Nat.zero_add, chk_of]
  rw [loop_step1]
  simp (maxSteps := 2000000) (disch := omega) only [go_sem, doCall, doCallQ, Nat.reduceAdd, Nat.reduceMul, Nat.reduceSub, Nat.reduceDiv, Nat.reduceMod, Nat.reduceLT, Nat.reduceLeDiff, Nat.reduceEqDiff, Nat.reduceBEq, Nat.reduceBNe, Int.reduceToNat, Int.reduceLT, Int.reduceLE, Int.reduceEq, Int.reduceNe, Int.reduceAdd, Int.reduceSub, Int.reduceMul, Int.reduceNeg, idxC_len, idxD_len, cs_len, av_len, map_cs, map_idx, idxC_take, idxC_drop, plain_av, plain_idx, box_idx, refs_av, owns_av, view_av, ren_av, refs_idx, owns_idx, view_idx, ren_idx, idxR_len, rs_len, Int.toNat_natCast, Nat.zero_add, chk_of]
  refine (lp_rall0 l hl hd _ 0 (Nat.zero_le _) X0 InvS.start).trans ?_
  simp only [List.drop_zero]
  simp (maxSteps := 2000000) (disch := omega) only [go_sem, doCall, doCallQ, Nat.reduceAdd, Nat.reduceMul, Nat.reduceSub, Nat.reduceDiv, Nat.reduceMod, Nat.reduceLT, Nat.reduceLeDiff, Nat.reduceEqDiff, Nat.reduceBEq, Nat.reduceBNe, Int.reduceToNat, Int.reduceLT, Int.reduceLE, Int.reduceEq, Int.reduceNe, Int.reduceAdd, Int.reduceSub, Int.reduceMul, Int.reduceNeg, hlm, idxC_len, idxD_len, cs_len, av_len, map_cs, map_idx, idxC_take, idxC_drop, plain_av, plain_idx, box_idx, refs_av, owns_av, view_av, ren_av, refs_idx, owns_idx, view_idx, ren_idx, idxR_len, rs_len, Int.toNat_natCast, Nat.zero_add, chk_of]
  rw [loop_step1]
  simp (maxSteps := 2000000) (disch := omega) only [go_sem, doCall, doCallQ, Nat.reduceAdd, Nat.reduceMul, Nat.reduceSub, Nat.reduceDiv, Nat.reduceMod, Nat.reduceLT, Nat.reduceLeDiff, Nat.reduceEqDiff, Nat.reduceBEq, Nat.reduceBNe, Int.reduceToNat, Int.reduceLT, Int.reduceLE, Int.reduceEq, Int.reduceNe, Int.reduceAdd, Int.reduceSub, Int.reduceMul, Int.reduceNeg, idxC_len, idxD_len, cs_len, av_len, map_cs, map_idx, idxC_take, idxC_drop, plain_av, plain_idx, box_idx, refs_av, owns_av, view_av, ren_av, refs_idx, owns_idx, view_idx, ren_idx, idxR_len, rs_len, Int.toNat_natCast, Nat.zero_add, chk_of]
  refine (lp_rall1 l hl hd _ 0 (Nat.zero_le _) _ (by have := invS_pass false l InvS.start; rw [Nat.zero_add] at this; exact this)).trans ?_
  simp only [List.drop_zero]
  simp (maxSteps := 2000000) (disch := omega) only [go_sem, doCall, doCallQ, Nat.reduceAdd, Nat.reduceMul, Nat.reduceSub, Nat.reduceDiv, Nat.reduceMod, Nat.reduceLT, Nat.reduceLeDiff, Nat.reduceEqDiff, Nat.reduceBEq, Nat.reduceBNe, Int.reduceToNat, Int.reduceLT, Int.reduceLE, Int.reduceEq, Int.reduceNe, Int.reduceAdd, Int.reduceSub, Int.reduceMul, Int.reduceNeg, idxC_len, idxD_len, cs_len, av_len, map_cs, map_idx, idxC_take, idxC_drop, plain_av, plain_idx, box_idx, refs_av, owns_av, view_av, ren_av, refs_idx, owns_idx, view_idx, ren_idx, idxR_len, rs_len, Int.toNat_natCast, Nat.zero_add, chk_of]
  rfl
end Go.Proofs.YtoipfdbdifoecaaGreatDoor
namespace Go.Proofs.YtoipfdbdifoecaaGreatDoor
open Go Go.Ev Go.Proofs.YtoipfdbdifoecaaGreatDoor.Ir
set_option maxRecDepth 100000
set_option maxHeartbeats 4000000
set_option linter.unusedSimpArgs false
set_option linter.unusedVariables false
theorem lp_rbytes (b : List UInt8) (hb : b.length ≤ 1000) (j : Nat) (hj : j ≤ b.length) :
    bnd (evC (call ir) (loop ir) lp68_0 (st68_0 0 (.d (.list 1 (rB b))) (.d (.list 1 (rB b))) (.d (.int .i64 b.length)) (.d (.int .i64 j)) []))
      (lpC (call ir) (loop ir) [0, 1, 12, 13] lp68_0 (bk 0 (sq (call ir) (loop ir) (.seq (.reg [⟨some 4, none, .mv (.c (.d (.bool true))), .none⟩]) (.ret none)) (fin ir68)))) =
    some (.d (.bool true), []) := by
  by_cases h : j = b.length
  · have hx := eq_false (show ¬ (b.length : Int) < b.length by omega)
    subst h
    simp (maxSteps := 2000000) (disch := omega) only [go_sem, doCall, doCallQ, Nat.reduceAdd, Nat.reduceMul, Nat.reduceSub, Nat.reduceDiv, Nat.reduceMod, Nat.reduceLT, Nat.reduceLeDiff, Nat.reduceEqDiff, Nat.reduceBEq, Nat.reduceBNe, Int.reduceToNat, Int.reduceLT, Int.reduceLE, Int.reduceEq, Int.reduceNe, Int.reduceAdd, Int.reduceSub, Int.reduceMul, Int.reduceNeg, u68_0, lb68_0, hx]
  · have hlt := eq_true (show (j : Int) < b.length by omega)
    have hj' : j < b.length := by omega
    have hw := wr_succ (i := j) (by omega)
    have hg := rB_getD hj'
    have ih := lp_rbytes b hb (j + 1) (by omega)
    simp (maxSteps := 2000000) (disch := omega) only [go_sem, doCall, doCallQ, Nat.reduceAdd, Nat.reduceMul, Nat.reduceSub, Nat.reduceDiv, Nat.reduceMod, Nat.reduceLT, Nat.reduceLeDiff, Nat.reduceEqDiff, Nat.reduceBEq, Nat.reduceBNe, Int.reduceToNat, Int.reduceLT, Int.reduceLE, Int.reduceEq, Int.reduceNe, Int.reduceAdd, Int.reduceSub, Int.reduceMul, Int.reduceNeg, u68_0, lb68_0, hlt, hg, rB_len, hj', Int.toNat_natCast, chk_of]
    rw [loop_step1]
    simp (maxSteps := 2000000) only [go_sem, doCall, doCallQ, Nat.reduceAdd, Nat.reduceMul, Nat.reduceSub, Nat.reduceDiv, Nat.reduceMod, Nat.reduceLT, Nat.reduceLeDiff, Nat.reduceEqDiff, Nat.reduceBEq, Nat.reduceBNe, Int.reduceToNat, Int.reduceLT, Int.reduceLE, Int.reduceEq, Int.reduceNe, Int.reduceAdd, Int.reduceSub, Int.reduceMul, Int.reduceNeg, hw]
    try simp (maxSteps := 2000000) only [go_sem, doCall, doCallQ, Nat.reduceAdd, Nat.reduceMul, Nat.reduceSub, Nat.reduceDiv, Nat.reduceMod, Nat.reduceLT, Nat.reduceLeDiff, Nat.reduceEqDiff, Nat.reduceBEq, Nat.reduceBNe, Int.reduceToNat, Int.reduceLT, Int.reduceLE, Int.reduceEq, Int.reduceNe, Int.reduceAdd, Int.reduceSub, Int.reduceMul, Int.reduceNeg] at ih
    exact ih
termination_by b.length - j
theorem c_rbytes (b : List UInt8) (hb : b.length ≤ 1000) : call ir 68 [.d (.list 1 (rB b)), .d (.list 1 (rB b))] [] = some (.d (.bool true), []) := by
  rw [call_eq (fn := ir68) rfl, evF_bnd]
  simp (maxSteps := 2000000) (disch := omega) only [go_sem, doCall, doCallQ, Nat.reduceAdd, Nat.reduceMul, Nat.reduceSub, Nat.reduceDiv, Nat.reduceMod, Nat.reduceLT, Nat.reduceLeDiff, Nat.reduceEqDiff, Nat.reduceBEq, Nat.reduceBNe, Int.reduceToNat, Int.reduceLT, Int.reduceLE, Int.reduceEq, Int.reduceNe, Int.reduceAdd, Int.reduceSub, Int.reduceMul, Int.reduceNeg, bd68, rB_len]
  rw [loop_step1]
  simp (maxSteps := 2000000) only [go_sem, doCall, doCallQ, Nat.reduceAdd, Nat.reduceMul, Nat.reduceSub, Nat.reduceDiv, Nat.reduceMod, Nat.reduceLT, Nat.reduceLeDiff, Nat.reduceEqDiff, Nat.reduceBEq, Nat.reduceBNe, Int.reduceToNat, Int.reduceLT, Int.reduceLE, Int.reduceEq, Int.reduceNe, Int.reduceAdd, Int.reduceSub, Int.reduceMul, Int.reduceNeg]
  have h := lp_rbytes b hb 0 (Nat.zero_le _)
  try simp (maxSteps := 2000000) only [go_sem, doCall, doCallQ, Nat.reduceAdd, Nat.reduceMul, Nat.reduceSub, Nat.reduceDiv, Nat.reduceMod, Nat.reduceLT, Nat.reduceLeDiff, Nat.reduceEqDiff, Nat.reduceBEq, Nat.reduceBNe, Int.reduceToNat, Int.reduceLT, Int.reduceLE, Int.reduceEq, Int.reduceNe, Int.reduceAdd, Int.reduceSub, Int.reduceMul, Int.reduceNeg] at h
  exact h
theorem c_rsame1 (e : En) (hd : e.d.length ≤ 1000) : call ir 45 [.agg e.av, .agg e.av] [] = some (.d (.bool true), []) := by
  have hb := c_rbytes e.d hd
  rw [call_eq (fn := ir45) rfl, evF_bnd]
  simp (maxSteps := 2000000) (disch := omega) only [go_sem, doCall, doCallQ, Nat.reduceAdd, Nat.reduceMul, Nat.reduceSub, Nat.reduceDiv, Nat.reduceMod, Nat.reduceLT, Nat.reduceLeDiff, Nat.reduceEqDiff, Nat.reduceBEq, Nat.reduceBNe, Int.reduceToNat, Int.reduceLT, Int.reduceLE, Int.reduceEq, Int.reduceNe, Int.reduceAdd, Int.reduceSub, Int.reduceMul, Int.reduceNeg, bd45, En.av, hb, beq_self_eq_true, Bool.and_self, idxC_len, idxD_len, cs_len, av_len, map_cs, map_idx, idxC_take, idxC_drop, plain_av, plain_idx, box_idx, refs_av, owns_av, view_av, ren_av, refs_idx, owns_idx, view_idx, ren_idx, idxR_len, rs_len, Int.toNat_natCast, Nat.zero_add, chk_of]
theorem lp_rsame (l : List En) (hl : l.length ≤ 1000) (hd : ∀ e ∈ l, e.d.length ≤ 1000) (j : Nat) (hj : j ≤ l.length) :
    bnd (evC (call ir) (loop ir) lp14_0 (st14_0 0 (.d (.list 6 (l.map En.cs))) (.d (.list 6 (l.map En.cs))) (.d (.int .i64 l.length)) (.d (.int .i64 j)) []))
      (lpC (call ir) (loop ir) [0, 1, 12, 13] lp14_0 (bk 0 (sq (call ir) (loop ir) (.seq (.reg [⟨some 4, none, .mv (.c (.d (.bool true))), .none⟩]) (.ret none)) (fin ir14)))) =
    some (.d (.bool true), []) := by
  have hlm : (l.map En.cs).length = l.length := List.length_map ..
  by_cases h : j = l.length
  · have hx := eq_false (show ¬ (l.length : Int) < l.length by omega)
    subst h
    simp (maxSteps := 2000000) (disch := omega) only [go_sem, doCall, doCallQ, Nat.reduceAdd, Nat.reduceMul, Nat.reduceSub, Nat.reduceDiv, Nat.reduceMod, Nat.reduceLT, Nat.reduceLeDiff, Nat.reduceEqDiff, Nat.reduceBEq, Nat.reduceBNe, Int.reduceToNat, Int.reduceLT, Int.reduceLE, Int.reduceEq, Int.reduceNe, Int.reduceAdd, Int.reduceSub, Int.reduceMul, Int.reduceNeg, u14_0, lb14_0, hx]
  · have hlt := eq_true (show (j : Int) < l.length by omega)
    have hj' : j < l.length := by omega
    have hw := wr_succ (i := j) (by omega)
    have hr := En.rows l hj'
    have hs := c_rsame1 l[j] (hd _ (List.getElem_mem hj'))
    simp only [En.av] at hs
    have ih := lp_rsame l hl hd (j + 1) (by omega)
    simp (maxSteps := 2000000) (disch := omega) only [go_sem, doCall, doCallQ, Nat.reduceAdd, Nat.reduceMul, Nat.reduceSub, Nat.reduceDiv, Nat.reduceMod, Nat.reduceLT, Nat.reduceLeDiff, Nat.reduceEqDiff, Nat.reduceBEq, Nat.reduceBNe, Int.reduceToNat, Int.reduceLT, Int.reduceLE, Int.reduceEq, Int.reduceNe, Int.reduceAdd, Int.reduceSub, Int.reduceMul, Int.reduceNeg, u14_0, lb14_0, hlt, hr, hlm, hj', hs, idxC_len, idxD_len, cs_len, av_len, map_cs, map_idx, idxC_take, idxC_drop, plain_av, plain_idx, box_idx, refs_av, owns_av, view_av, ren_av, refs_idx, owns_idx, view_idx, ren_idx, idxR_len, rs_len, Int.toNat_natCast, Nat.zero_add, chk_of]
    rw [loop_step1]
    simp (maxSteps := 2000000) (disch := omega) only [go_sem, doCall, doCallQ, Nat.reduceAdd, Nat.reduceMul, Nat.reduceSub, Nat.reduceDiv, Nat.reduceMod, Nat.reduceLT, Nat.reduceLeDiff, Nat.reduceEqDiff, Nat.reduceBEq, Nat.reduceBNe, Int.reduceToNat, Int.reduceLT, Int.reduceLE, Int.reduceEq, Int.reduceNe, Int.reduceAdd, Int.reduceSub, Int.reduceMul, Int.reduceNeg, hw, idxC_len, idxD_len, cs_len, av_len, map_cs, map_idx, idxC_take, idxC_drop, plain_av, plain_idx, box_idx, refs_av, owns_av, view_av, ren_av, refs_idx, owns_idx, view_idx, ren_idx, idxR_len, rs_len, Int.toNat_natCast, Nat.zero_add, chk_of]
    try simp (maxSteps := 2000000) only [go_sem, doCall, doCallQ, Nat.reduceAdd, Nat.reduceMul, Nat.reduceSub, Nat.reduceDiv, Nat.reduceMod, Nat.reduceLT, Nat.reduceLeDiff, Nat.reduceEqDiff, Nat.reduceBEq, Nat.reduceBNe, Int.reduceToNat, Int.reduceLT, Int.reduceLE, Int.reduceEq, Int.reduceNe, Int.reduceAdd, Int.reduceSub, Int.reduceMul, Int.reduceNeg] at ih
    exact ih
termination_by l.length - j
theorem c_rsame (l : List En) (hl : l.length ≤ 1000) (hd : ∀ e ∈ l, e.d.length ≤ 1000) : call ir 14 [.d (.list 6 (l.map En.cs)), .d (.list 6 (l.map En.cs))] [] = some (.d (.bool true), []) := by
  have hlm : (l.map En.cs).length = l.length := List.length_map ..
  rw [call_eq (fn := ir14) rfl, evF_bnd]
  simp (maxSteps := 2000000) (disch := omega) only [go_sem, doCall, doCallQ, Nat.reduceAdd, Nat.reduceMul, Nat.reduceSub, Nat.reduceDiv, Nat.reduceMod, Nat.reduceLT, Nat.reduceLeDiff, Nat.reduceEqDiff, Nat.reduceBEq, Nat.reduceBNe, Int.reduceToNat, Int.reduceLT, Int.reduceLE, Int.reduceEq, Int.reduceNe, Int.reduceAdd, Int.reduceSub, Int.reduceMul, Int.reduceNeg, bd14, hlm]
  rw [loop_step1]
  simp (maxSteps := 2000000) only [go_sem, doCall, doCallQ, Nat.reduceAdd, Nat.reduceMul, Nat.reduceSub, Nat.reduceDiv, Nat.reduceMod, Nat.reduceLT, Nat.reduceLeDiff, Nat.reduceEqDiff, Nat.reduceBEq, Nat.reduceBNe, Int.reduceToNat, Int.reduceLT, Int.reduceLE, Int.reduceEq, Int.reduceNe, Int.reduceAdd, Int.reduceSub, Int.reduceMul, Int.reduceNeg]
  have h := lp_rsame l hl hd 0 (Nat.zero_le _)
  try simp (maxSteps := 2000000) only [go_sem, doCall, doCallQ, Nat.reduceAdd, Nat.reduceMul, Nat.reduceSub, Nat.reduceDiv, Nat.reduceMod, Nat.reduceLT, Nat.reduceLeDiff, Nat.reduceEqDiff, Nat.reduceBEq, Nat.reduceBNe, Int.reduceToNat, Int.reduceLT, Int.reduceLE, Int.reduceEq, Int.reduceNe, Int.reduceAdd, Int.reduceSub, Int.reduceMul, Int.reduceNeg] at h
  exact h
/-! ### the records of an object -/
def ofB (o : Int) (e : En) : Bool := match ownF e with
  | some r => decide (r.1 = o)
  | none => false
def ofL (o : Int) (l : List En) : List En := l.filter (ofB o)
theorem ofL_le (o : Int) (l : List En) : (ofL o l).length ≤ l.length := List.length_filter_le ..
theorem c_objF (e : En) (hd : e.d.length ≤ 1000) (o : Int) : ∃ k is, call ir 31 [.d (.int .u8 e.kind), .d (.list 1 (rB e.d))] [] = some (.tup [.d (.int .i64 k), .d (.bool is)], []) ∧ (is && decide (k = o)) = ofB o e := by
  obtain ⟨k, q1, q2⟩ := c_object e.kind e.d hd
  refine ⟨k, _, q1, ?_⟩
  have e1 : ownF ⟨0, 0, 0, 0, e.kind, e.d⟩ = ownF e := rfl
  rw [e1] at q2 ⊢
  unfold ofB
  cases hq : ownF e with
  | none => rfl
  | some r => rw [← q2 r hq]; rfl
theorem ofL_succ (o : Int) (l : List En) {j : Nat} (h : j < l.length) : ofL o (l.take (j + 1)) = if ofB o l[j] = true then ofL o (l.take j) ++ [l[j]] else ofL o (l.take j) := by
  unfold ofL
  rw [List.take_add_one, List.getElem?_eq_getElem h, Option.toList_some, List.filter_append]
  split
  · rename_i hb; rw [List.filter_cons_of_pos hb]; rfl
  · rename_i hb; rw [List.filter_cons_of_neg hb]; simp
theorem lp_rof (l : List En) (hl : l.length ≤ 1000) (hd : ∀ e ∈ l, e.d.length ≤ 1000) (o : Int) (K : Ex → St → Option (AV × Heap)) (j : Nat) (hj : j ≤ l.length) :
    bnd (evC (call ir) (loop ir) lp15_0 (st15_0 0 (.d (.int .i64 o)) (.own 0 6 0 (ofL o (l.take j)).length false) (.d (.list 6 (l.map En.cs))) (.d (.int .i64 l.length)) (.d (.int .i64 j)) [.arr 6 ((ofL o (l.take j)).map En.cs)]))
      (lpC (call ir) (loop ir) [1, 5, 10, 11, 12] lp15_0 K) =
    K (.exit 0) (clean [5] (st15_0 0 .unk (.own 0 6 0 (ofL o l).length false) .unk .unk .unk [.arr 6 ((ofL o l).map En.cs)])) := by
  have hlm : (l.map En.cs).length = l.length := List.length_map ..
  by_cases h : j = l.length
  · have hx := eq_false (show ¬ (l.length : Int) < l.length by omega)
    subst h
    rw [List.take_length]
    simp (maxSteps := 2000000) (disch := omega) only [go_sem, doCall, doCallQ, Nat.reduceAdd, Nat.reduceMul, Nat.reduceSub, Nat.reduceDiv, Nat.reduceMod, Nat.reduceLT, Nat.reduceLeDiff, Nat.reduceEqDiff, Nat.reduceBEq, Nat.reduceBNe, Int.reduceToNat, Int.reduceLT, Int.reduceLE, Int.reduceEq, Int.reduceNe, Int.reduceAdd, Int.reduceSub, Int.reduceMul, Int.reduceNeg, u15_0, lb15_0, hx, idxC_len, idxD_len, cs_len, av_len, map_cs, map_idx, idxC_take, idxC_drop, plain_av, plain_idx, box_idx, refs_av, owns_av, view_av, ren_av, refs_idx, owns_idx, view_idx, ren_idx, idxR_len, rs_len, Int.toNat_natCast, Nat.zero_add, chk_of]
  · have hlt := eq_true (show (j : Int) < l.length by omega)
    have hj' : j < l.length := by omega
    have hw := wr_succ (i := j) (by omega)
    have hr := En.rows l hj'
    have hdj := hd _ (List.getElem_mem hj')
    obtain ⟨k, is, q1, q2⟩ := c_objF l[j] hdj o
    have hbc := c_bclone l[j].d hdj
    have ih := lp_rof l hl hd o K (j + 1) (by omega)
    have hle := ofL_le o (l.take j)
    have htl : (l.take j).length ≤ j := by simp; omega
    have ham : ((ofL o (l.take j)).map En.cs).length = (ofL o (l.take j)).length := List.length_map ..
    have t0 : List.take (ofL o (l.take j)).length ((ofL o (l.take j)).map En.cs) = (ofL o (l.take j)).map En.cs := List.take_of_length_le (by omega)
    rw [ofL_succ o l hj'] at ih
    cases his : is
    · rw [his, Bool.false_and] at q2
      rw [his] at q1
      rw [← q2] at ih
      simp only [Bool.false_eq_true, if_false] at ih
      simp (maxSteps := 2000000) (disch := omega) only [go_sem, doCall, doCallQ, Nat.reduceAdd, Nat.reduceMul, Nat.reduceSub, Nat.reduceDiv, Nat.reduceMod, Nat.reduceLT, Nat.reduceLeDiff, Nat.reduceEqDiff, Nat.reduceBEq, Nat.reduceBNe, Int.reduceToNat, Int.reduceLT, Int.reduceLE, Int.reduceEq, Int.reduceNe, Int.reduceAdd, Int.reduceSub, Int.reduceMul, Int.reduceNeg, u15_0, lb15_0, hlt, hr, hlm, q1, idxC_len, idxD_len, cs_len, av_len, map_cs, map_idx, idxC_take, idxC_drop, plain_av, plain_idx, box_idx, refs_av, owns_av, view_av, ren_av, refs_idx, owns_idx, view_idx, ren_idx, idxR_len, rs_len, Int.toNat_natCast, Nat.zero_add, chk_of]
      rw [loop_step1]
      simp (maxSteps := 2000000) (disch := omega) only [go_sem, doCall, doCallQ, Nat.reduceAdd, Nat.reduceMul, Nat.reduceSub, Nat.reduceDiv, Nat.reduceMod, Nat.reduceLT, Nat.reduceLeDiff, Nat.reduceEqDiff, Nat.reduceBEq, Nat.reduceBNe, Int.reduceToNat, Int.reduceLT, Int.reduceLE, Int.reduceEq, Int.reduceNe, Int.reduceAdd, Int.reduceSub, Int.reduceMul, Int.reduceNeg, hw, idxC_len, idxD_len, cs_len, av_len, map_cs, map_idx, idxC_take, idxC_drop, plain_av, plain_idx, box_idx, refs_av, owns_av, view_av, ren_av, refs_idx, owns_idx, view_idx, ren_idx, idxR_len, rs_len, Int.toNat_natCast, Nat.zero_add, chk_of]
      try simp (maxSteps := 2000000) only [go_sem, doCall, doCallQ, Nat.reduceAdd, Nat.reduceMul, Nat.reduceSub, Nat.reduceDiv, Nat.reduceMod, Nat.reduceLT, Nat.reduceLeDiff, Nat.reduceEqDiff, Nat.reduceBEq, Nat.reduceBNe, Int.reduceToNat, Int.reduceLT, Int.reduceLE, Int.reduceEq, Int.reduceNe, Int.reduceAdd, Int.reduceSub, Int.reduceMul, Int.reduceNeg] at ih
      exact ih
    · rw [his, Bool.true_and] at q2
      rw [his] at q1
      by_cases hk : k = o
      · rw [decide_eq_true hk] at q2
        rw [← q2] at ih
        simp only [if_true, List.map_append, List.map_cons, List.map_nil, List.length_append, List.length_cons, List.length_nil, Nat.zero_add, En.cs] at ih
        simp (maxSteps := 2000000) (disch := omega) only [go_sem, doCall, doCallQ, Nat.reduceAdd, Nat.reduceMul, Nat.reduceSub, Nat.reduceDiv, Nat.reduceMod, Nat.reduceLT, Nat.reduceLeDiff, Nat.reduceEqDiff, Nat.reduceBEq, Nat.reduceBNe, Int.reduceToNat, Int.reduceLT, Int.reduceLE, Int.reduceEq, Int.reduceNe, Int.reduceAdd, Int.reduceSub, Int.reduceMul, Int.reduceNeg, u15_0, lb15_0, hlt, hr, hlm, q1, eq_true hk, hbc, ham, t0, En.cs, Nat.le_refl, List.drop_zero, idxC_len, idxD_len, cs_len, av_len, map_cs, map_idx, idxC_take, idxC_drop, plain_av, plain_idx, box_idx, refs_av, owns_av, view_av, ren_av, refs_idx, owns_idx, view_idx, ren_idx, idxR_len, rs_len, Int.toNat_natCast, Nat.zero_add, chk_of]
        rw [loop_step1]
        simp (maxSteps := 2000000) (disch := omega) only [go_sem, doCall, doCallQ, Nat.reduceAdd, Nat.reduceMul, Nat.reduceSub, Nat.reduceDiv, Nat.reduceMod, Nat.reduceLT, Nat.reduceLeDiff, Nat.reduceEqDiff, Nat.reduceBEq, Nat.reduceBNe, Int.reduceToNat, Int.reduceLT, Int.reduceLE, Int.reduceEq, Int.reduceNe, Int.reduceAdd, Int.reduceSub, Int.reduceMul, Int.reduceNeg, hw, idxC_len, idxD_len, cs_len, av_len, map_cs, map_idx, idxC_take, idxC_drop, plain_av, plain_idx, box_idx, refs_av, owns_av, view_av, ren_av, refs_idx, owns_idx, view_idx, ren_idx, idxR_len, rs_len, Int.toNat_natCast, Nat.zero_add, chk_of]
        try simp (maxSteps := 2000000) only [go_sem, doCall, doCallQ, Nat.reduceAdd, Nat.reduceMul, Nat.reduceSub, Nat.reduceDiv, Nat.reduceMod, Nat.reduceLT, Nat.reduceLeDiff, Nat.reduceEqDiff, Nat.reduceBEq, Nat.reduceBNe, Int.reduceToNat, Int.reduceLT, Int.reduceLE, Int.reduceEq, Int.reduceNe, Int.reduceAdd, Int.reduceSub, Int.reduceMul, Int.reduceNeg] at ih
        exact ih
      · rw [decide_eq_false hk] at q2
        rw [← q2] at ih
        simp only [Bool.false_eq_true, if_false] at ih
        simp (maxSteps := 2000000) (disch := omega) only [go_sem, doCall, doCallQ, Nat.reduceAdd, Nat.reduceMul, Nat.reduceSub, Nat.reduceDiv, Nat.reduceMod, Nat.reduceLT, Nat.reduceLeDiff, Nat.reduceEqDiff, Nat.reduceBEq, Nat.reduceBNe, Int.reduceToNat, Int.reduceLT, Int.reduceLE, Int.reduceEq, Int.reduceNe, Int.reduceAdd, Int.reduceSub, Int.reduceMul, Int.reduceNeg, u15_0, lb15_0, hlt, hr, hlm, q1, eq_false hk, idxC_len, idxD_len, cs_len, av_len, map_cs, map_idx, idxC_take, idxC_drop, plain_av, plain_idx, box_idx, refs_av, owns_av, view_av, ren_av, refs_idx, owns_idx, view_idx, ren_idx, idxR_len, rs_len, Int.toNat_natCast, Nat.zero_add, chk_of]
        rw [loop_step1]
        simp (maxSteps := 2000000) (disch := omega) only [go_sem, doCall, doCallQ, Nat.reduceAdd, Nat.reduceMul, Nat.reduceSub, Nat.reduceDiv, Nat.reduceMod, Nat.reduceLT, Nat.reduceLeDiff, Nat.reduceEqDiff, Nat.reduceBEq, Nat.reduceBNe, Int.reduceToNat, Int.reduceLT, Int.reduceLE, Int.reduceEq, Int.reduceNe, Int.reduceAdd, Int.reduceSub, Int.reduceMul, Int.reduceNeg, hw, idxC_len, idxD_len, cs_len, av_len, map_cs, map_idx, idxC_take, idxC_drop, plain_av, plain_idx, box_idx, refs_av, owns_av, view_av, ren_av, refs_idx, owns_idx, view_idx, ren_idx, idxR_len, rs_len, Int.toNat_natCast, Nat.zero_add, chk_of]
        try simp (maxSteps := 2000000) only [go_sem, doCall, doCallQ, Nat.reduceAdd, Nat.reduceMul, Nat.reduceSub, Nat.reduceDiv, Nat.reduceMod, Nat.reduceLT, Nat.reduceLeDiff, Nat.reduceEqDiff, Nat.reduceBEq, Nat.reduceBNe, Int.reduceToNat, Int.reduceLT, Int.reduceLE, Int.reduceEq, Int.reduceNe, Int.reduceAdd, Int.reduceSub, Int.reduceMul, Int.reduceNeg] at ih
        exact ih
termination_by l.length - j
theorem c_rof (l : List En) (hl : l.length ≤ 1000) (hd : ∀ e ∈ l, e.d.length ≤ 1000) (o : Int) : call ir 15 [.d (.list 6 (l.map En.cs)), .d (.int .i64 o)] [] = some (.own 0 6 0 (ofL o l).length false, [.arr 6 ((ofL o l).map En.cs)]) := by
  have hlm : (l.map En.cs).length = l.length := List.length_map ..
  rw [call_eq (fn := ir15) rfl, evF_bnd]
  simp (maxSteps := 2000000) (disch := omega) only [go_sem, doCall, doCallQ, Nat.reduceAdd, Nat.reduceMul, Nat.reduceSub, Nat.reduceDiv, Nat.reduceMod, Nat.reduceLT, Nat.reduceLeDiff, Nat.reduceEqDiff, Nat.reduceBEq, Nat.reduceBNe, Int.reduceToNat, Int.reduceLT, Int.reduceLE, Int.reduceEq, Int.reduceNe, Int.reduceAdd, Int.reduceSub, Int.reduceMul, Int.reduceNeg, bd15, hlm, idxC_len, idxD_len, cs_len, av_len, map_cs, map_idx, idxC_take, idxC_drop, plain_av, plain_idx, box_idx, refs_av, owns_av, view_av, ren_av, refs_idx, owns_idx, view_idx, ren_idx, idxR_len, rs_len, Int.toNat_natCast, Nat.zero_add, chk_of]
  rw [loop_step1]
  simp (maxSteps := 2000000) (disch := omega) only [go_sem, doCall, doCallQ, Nat.reduceAdd, Nat.reduceMul, Nat.reduceSub, Nat.reduceDiv, Nat.reduceMod, Nat.reduceLT, Nat.reduceLeDiff, Nat.reduceEqDiff, Nat.reduceBEq, Nat.reduceBNe, Int.reduceToNat, Int.reduceLT, Int.reduceLE, Int.reduceEq, Int.reduceNe, Int.reduceAdd, Int.reduceSub, Int.reduceMul, Int.reduceNeg, idxC_len, idxD_len, cs_len, av_len, map_cs, map_idx, idxC_take, idxC_drop, plain_av, plain_idx, box_idx, refs_av, owns_av, view_av, ren_av, refs_idx, owns_idx, view_idx, ren_idx, idxR_len, rs_len, Int.toNat_natCast, Nat.zero_add, chk_of]
  refine (lp_rof l hl hd o _ 0 (Nat.zero_le _)).trans ?_
  simp (maxSteps := 2000000) (disch := omega) only [go_sem, doCall, doCallQ, Nat.reduceAdd, Nat.reduceMul, Nat.reduceSub, Nat.reduceDiv, Nat.reduceMod, Nat.reduceLT, Nat.reduceLeDiff, Nat.reduceEqDiff, Nat.reduceBEq, Nat.reduceBNe, Int.reduceToNat, Int.reduceLT, Int.reduceLE, Int.reduceEq, Int.reduceNe, Int.reduceAdd, Int.reduceSub, Int.reduceMul, Int.reduceNeg, idxC_len, idxD_len, cs_len, av_len, map_cs, map_idx, idxC_take, idxC_drop, plain_av, plain_idx, box_idx, refs_av, owns_av, view_av, ren_av, refs_idx, owns_idx, view_idx, ren_idx, idxR_len, rs_len, Int.toNat_natCast, Nat.zero_add, chk_of]
/-! ### the greatest generation -/
def genF (e : En) : Int := match ownF e with
  | some r => r.2
  | none => 0
theorem c_gen (e : En) (hd : e.d.length ≤ 1000) (ho : (ownF e).isSome = true) : call ir 47 [.agg e.av] [] = some (.d (.int .i64 (genF e)), []) := by
  obtain ⟨a1, a2, seq, pages, kind, d⟩ := e
  have qb := c_getbind d hd
  have qp := c_getpiece d hd
  have qd := fun k => c_getdrop k d hd
  simp only [genF, ownF, En.av] at ho ⊢
  rw [call_eq (fn := ir47) rfl, evF_bnd]
  by_cases k2 : kind = 2
  · subst k2
    simp only [if_true] at ho ⊢
    cases hg : gbind d with
    | none => rw [hg] at ho; simp at ho
    | some r =>
      obtain ⟨o, g, s, l, t⟩ := r
      rw [hg] at qb
      simp (maxSteps := 2000000) (disch := omega) only [go_sem, doCall, doCallQ, Nat.reduceAdd, Nat.reduceMul, Nat.reduceSub, Nat.reduceDiv, Nat.reduceMod, Nat.reduceLT, Nat.reduceLeDiff, Nat.reduceEqDiff, Nat.reduceBEq, Nat.reduceBNe, Int.reduceToNat, Int.reduceLT, Int.reduceLE, Int.reduceEq, Int.reduceNe, Int.reduceAdd, Int.reduceSub, Int.reduceMul, Int.reduceNeg, bd47, qb, Option.map_some, idxC_len, idxD_len, cs_len, av_len, map_cs, map_idx, idxC_take, idxC_drop, plain_av, plain_idx, box_idx, refs_av, owns_av, view_av, ren_av, refs_idx, owns_idx, view_idx, ren_idx, idxR_len, rs_len, Int.toNat_natCast, Nat.zero_add, chk_of]
  · by_cases k3 : kind = 3
    · subst k3
      simp only [show ¬ (3 : Int) = 2 by decide, if_true, if_false] at ho ⊢
      cases hg : gpiece d with
      | none => rw [hg] at ho; simp at ho
      | some r =>
        obtain ⟨o, g, i, s⟩ := r
        rw [hg] at qp
        simp (maxSteps := 2000000) (disch := omega) only [go_sem, doCall, doCallQ, Nat.reduceAdd, Nat.reduceMul, Nat.reduceSub, Nat.reduceDiv, Nat.reduceMod, Nat.reduceLT, Nat.reduceLeDiff, Nat.reduceEqDiff, Nat.reduceBEq, Nat.reduceBNe, Int.reduceToNat, Int.reduceLT, Int.reduceLE, Int.reduceEq, Int.reduceNe, Int.reduceAdd, Int.reduceSub, Int.reduceMul, Int.reduceNeg, bd47, qp, Option.map_some, idxC_len, idxD_len, cs_len, av_len, map_cs, map_idx, idxC_take, idxC_drop, plain_av, plain_idx, box_idx, refs_av, owns_av, view_av, ren_av, refs_idx, owns_idx, view_idx, ren_idx, idxR_len, rs_len, Int.toNat_natCast, Nat.zero_add, chk_of]
    · by_cases k4 : kind = 4 ∨ kind = 5
      · simp only [k2, k3, k4, if_true, if_false] at ho ⊢
        cases hg : gdrop d with
        | none => rw [hg] at ho; simp at ho
        | some r =>
          obtain ⟨o, g⟩ := r
          rw [hg] at qd
          simp (maxSteps := 2000000) (disch := omega) only [go_sem, doCall, doCallQ, Nat.reduceAdd, Nat.reduceMul, Nat.reduceSub, Nat.reduceDiv, Nat.reduceMod, Nat.reduceLT, Nat.reduceLeDiff, Nat.reduceEqDiff, Nat.reduceBEq, Nat.reduceBNe, Int.reduceToNat, Int.reduceLT, Int.reduceLE, Int.reduceEq, Int.reduceNe, Int.reduceAdd, Int.reduceSub, Int.reduceMul, Int.reduceNeg, bd47, qd, eq_false k2, eq_false k3, idxC_len, idxD_len, cs_len, av_len, map_cs, map_idx, idxC_take, idxC_drop, plain_av, plain_idx, box_idx, refs_av, owns_av, view_av, ren_av, refs_idx, owns_idx, view_idx, ren_idx, idxR_len, rs_len, Int.toNat_natCast, Nat.zero_add, chk_of]
      · simp [k2, k3, k4] at ho
def mostF (n : Int) (l : List En) : Int := l.foldl (fun n e => max n (genF e)) n
theorem lp_most (l : List En) (hl : l.length ≤ 1000) (hd : ∀ e ∈ l, e.d.length ≤ 1000 ∧ (ownF e).isSome = true) (K : Ex → St → Option (AV × Heap)) (j : Nat) (hj : j ≤ l.length) (n : Int) :
    bnd (evC (call ir) (loop ir) lp16_0 (st16_0 0 (.d (.int .i64 n)) (.d (.list 6 (l.map En.cs))) (.d (.int .i64 l.length)) (.d (.int .i64 j)) []))
      (lpC (call ir) (loop ir) [5, 10, 11, 12] lp16_0 K) =
    K (.exit 0) (clean [5] (st16_0 0 (.d (.int .i64 (mostF n (l.drop j)))) .unk .unk .unk [])) := by
  have hlm : (l.map En.cs).length = l.length := List.length_map ..
  by_cases h : j = l.length
  · have hx := eq_false (show ¬ (l.length : Int) < l.length by omega)
    subst h
    simp only [List.drop_length, mostF, List.foldl_nil]
    simp (maxSteps := 2000000) (disch := omega) only [go_sem, doCall, doCallQ, Nat.reduceAdd, Nat.reduceMul, Nat.reduceSub, Nat.reduceDiv, Nat.reduceMod, Nat.reduceLT, Nat.reduceLeDiff, Nat.reduceEqDiff, Nat.reduceBEq, Nat.reduceBNe, Int.reduceToNat, Int.reduceLT, Int.reduceLE, Int.reduceEq, Int.reduceNe, Int.reduceAdd, Int.reduceSub, Int.reduceMul, Int.reduceNeg, u16_0, lb16_0, hx, idxC_len, idxD_len, cs_len, av_len, map_cs, map_idx, idxC_take, idxC_drop, plain_av, plain_idx, box_idx, refs_av, owns_av, view_av, ren_av, refs_idx, owns_idx, view_idx, ren_idx, idxR_len, rs_len, Int.toNat_natCast, Nat.zero_add, chk_of]
  · have hlt := eq_true (show (j : Int) < l.length by omega)
    have hj' : j < l.length := by omega
    have hw := wr_succ (i := j) (by omega)
    have hr := En.rows l hj'
    have hq := hd _ (List.getElem_mem hj')
    have hc := c_gen l[j] hq.1 hq.2
    simp only [En.av] at hc
    have ep : mostF n (l.drop j) = mostF (max n (genF l[j])) (l.drop (j + 1)) := by rw [List.drop_eq_getElem_cons hj']; rfl
    have ih := lp_most l hl hd K (j + 1) (by omega) (max n (genF l[j]))
    rw [ep]
    simp (maxSteps := 2000000) (disch := omega) only [go_sem, doCall, doCallQ, Nat.reduceAdd, Nat.reduceMul, Nat.reduceSub, Nat.reduceDiv, Nat.reduceMod, Nat.reduceLT, Nat.reduceLeDiff, Nat.reduceEqDiff, Nat.reduceBEq, Nat.reduceBNe, Int.reduceToNat, Int.reduceLT, Int.reduceLE, Int.reduceEq, Int.reduceNe, Int.reduceAdd, Int.reduceSub, Int.reduceMul, Int.reduceNeg, u16_0, lb16_0, hlt, hr, hlm, hc, idxC_len, idxD_len, cs_len, av_len, map_cs, map_idx, idxC_take, idxC_drop, plain_av, plain_idx, box_idx, refs_av, owns_av, view_av, ren_av, refs_idx, owns_idx, view_idx, ren_idx, idxR_len, rs_len, Int.toNat_natCast, Nat.zero_add, chk_of]
    rw [loop_step1]
    simp (maxSteps := 2000000) (disch := omega) only [go_sem, doCall, doCallQ, Nat.reduceAdd, Nat.reduceMul, Nat.reduceSub, Nat.reduceDiv, Nat.reduceMod, Nat.reduceLT, Nat.reduceLeDiff, Nat.reduceEqDiff, Nat.reduceBEq, Nat.reduceBNe, Int.reduceToNat, Int.reduceLT, Int.reduceLE, Int.reduceEq, Int.reduceNe, Int.reduceAdd, Int.reduceSub, Int.reduceMul, Int.reduceNeg, hw, idxC_len, idxD_len, cs_len, av_len, map_cs, map_idx, idxC_take, idxC_drop, plain_av, plain_idx, box_idx, refs_av, owns_av, view_av, ren_av, refs_idx, owns_idx, view_idx, ren_idx, idxR_len, rs_len, Int.toNat_natCast, Nat.zero_add, chk_of]
    try simp (maxSteps := 2000000) only [go_sem, doCall, doCallQ, Nat.reduceAdd, Nat.reduceMul, Nat.reduceSub, Nat.reduceDiv, Nat.reduceMod, Nat.reduceLT, Nat.reduceLeDiff, Nat.reduceEqDiff, Nat.reduceBEq, Nat.reduceBNe, Int.reduceToNat, Int.reduceLT, Int.reduceLE, Int.reduceEq, Int.reduceNe, Int.reduceAdd, Int.reduceSub, Int.reduceMul, Int.reduceNeg] at ih
    exact ih
termination_by l.length - j
theorem ofL_own {o : Int} {l : List En} {e : En} (h : e ∈ ofL o l) : e ∈ l ∧ (ownF e).isSome = true := by
  obtain ⟨h1, h2⟩ := List.mem_filter.1 h
  refine ⟨h1, ?_⟩
  unfold ofB at h2
  cases hq : ownF e with
  | none => rw [hq] at h2; simp at h2
  | some r => rfl
theorem c_most (l : List En) (hl : l.length ≤ 1000) (hd : ∀ e ∈ l, e.d.length ≤ 1000) (o : Int) : call ir 16 [.d (.list 6 (l.map En.cs)), .d (.int .i64 o)] [] = some (.d (.int .i64 (mostF 0 (ofL o l))), []) := by
  have hc := c_rof l hl hd o
  have ham : ((ofL o l).map En.cs).length = (ofL o l).length := List.length_map ..
  have hle := ofL_le o l
  have t0 : List.take (ofL o l).length ((ofL o l).map En.cs) = (ofL o l).map En.cs := List.take_of_length_le (by omega)
  rw [call_eq (fn := ir16) rfl, evF_bnd]
  simp (maxSteps := 2000000) (disch := omega) only [go_sem, doCall, doCallQ, Nat.reduceAdd, Nat.reduceMul, Nat.reduceSub, Nat.reduceDiv, Nat.reduceMod, Nat.reduceLT, Nat.reduceLeDiff, Nat.reduceEqDiff, Nat.reduceBEq, Nat.reduceBNe, Int.reduceToNat, Int.reduceLT, Int.reduceLE, Int.reduceEq, Int.reduceNe, Int.reduceAdd, Int.reduceSub, Int.reduceMul, Int.reduceNeg, bd16, hc, ham, t0, Nat.le_refl, List.drop_zero, idxC_len, idxD_len, cs_len, av_len, map_cs, map_idx, idxC_take, idxC_drop, plain_av, plain_idx, box_idx, refs_av, owns_av, view_av, ren_av, refs_idx, owns_idx, view_idx, ren_idx, idxR_len, rs_len, Int.toNat_natCast, Nat.zero_add, chk_of]
  rw [loop_step1]
  simp (maxSteps := 2000000) (disch := omega) only [go_sem, doCall, doCallQ, Nat.reduceAdd, Nat.reduceMul, Nat.reduceSub, Nat.reduceDiv, Nat.reduceMod, Nat.reduceLT, Nat.reduceLeDiff, Nat.reduceEqDiff, Nat.reduceBEq, Nat.reduceBNe, Int.reduceToNat, Int.reduceLT, Int.reduceLE, Int.reduceEq, Int.reduceNe, Int.reduceAdd, Int.reduceSub, Int.reduceMul, Int.reduceNeg, idxC_len, idxD_len, cs_len, av_len, map_cs, map_idx, idxC_take, idxC_drop, plain_av, plain_idx, box_idx, refs_av, owns_av, view_av, ren_av, refs_idx, owns_idx, view_idx, ren_idx, idxR_len, rs_len, Int.toNat_natCast, Nat.zero_add, chk_of]
  refine (lp_most (ofL o l) (by omega) (fun e he => ⟨hd e (ofL_own he).1, (ofL_own he).2⟩) _ 0 (Nat.zero_le _) 0).trans ?_
  simp only [List.drop_zero]
  simp (maxSteps := 2000000) (disch := omega) only [go_sem, doCall, doCallQ, Nat.reduceAdd, Nat.reduceMul, Nat.reduceSub, Nat.reduceDiv, Nat.reduceMod, Nat.reduceLT, Nat.reduceLeDiff, Nat.reduceEqDiff, Nat.reduceBEq, Nat.reduceBNe, Int.reduceToNat, Int.reduceLT, Int.reduceLE, Int.reduceEq, Int.reduceNe, Int.reduceAdd, Int.reduceSub, Int.reduceMul, Int.reduceNeg, idxC_len, idxD_len, cs_len, av_len, map_cs, map_idx, idxC_take, idxC_drop, plain_av, plain_idx, box_idx, refs_av, owns_av, view_av, ren_av, refs_idx, owns_idx, view_idx, ren_idx, idxR_len, rs_len, Int.toNat_natCast, Nat.zero_add, chk_of]
end Go.Proofs.YtoipfdbdifoecaaGreatDoor
