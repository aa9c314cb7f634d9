/- DiffTells. Own work. DiffTells holds for every input. No conditions. -/
import Derived.Test.YtbcpffhialoliaaDfDD
import Derived.Test.YtbcpffhialoliaaDfDB
import Derived.Test.YtbcpffhialoliaaDfDE
import Derived.Test.YtbcpffhialoliaaDfDC
import Derived.Test.YtbcpffhialoliaaDfEE
import Derived.Test.YtbcpffhialoliaaDfFF
import Derived.Test.YtbcpffhialoliaaDfGG
import Derived.Test.YtbcpffhialoliaaDfGH
import Derived.Test.YtbcpffhialoliaaRows
import Derived.Test.YtbcpffhialoliaaEvArg
import Derived.ProofKit
namespace Go.Proofs.Ytbcpffhialoliaa
open Go Go.Ev Go.Proofs.Ytbcpffhialoliaa.Ir
set_option maxRecDepth 100000
set_option maxHeartbeats 4000000
set_option linter.unusedSimpArgs false
set_option linter.unusedVariables false
theorem smP_of {a : List Hd} (h : sml a) {d : Hd} (hd : d ∈ a) : smP d.ps := h.2 d hd
theorem smP_sub {l m : List Pc} (h : smP l) (s : m.Sublist l) : smP m := ⟨Nat.le_trans s.length_le h.1, fun q hq => h.2 q (s.subset hq)⟩
theorem smP_nil : smP [] := ⟨by simp, fun q hq => by simp at hq⟩
theorem lsF_len (y x : List Pc) (h : smP x) : (lsF y x).length ≤ 100000 := by unfold lsF; rw [List.length_map]; exact Nat.le_trans (List.length_filter_le ..) h.1
theorem new_has {x y : List Pc} (hx : rises x) (p : Pc) (hp : p ∈ y) : hasP (y.filter (isNew x)) p = (false || !hasP x p) := by
  rw [Bool.false_or]
  cases e : hasP x p
  · have h1 := (hasP_no x p).1 e
    exact (hasP_iff _ _).2 (List.mem_filter.2 ⟨hp, (isNew_iff hx p).2 h1⟩)
  · have h1 := (hasP_iff x p).1 e
    refine (hasP_no _ _).2 fun h => ?_
    exact (isNew_iff hx p).1 (List.mem_filter.1 h).2 h1
theorem ls_is (x y : List Pc) : lsF y x = (x.filter (lsB true false y)).map (·.ix) := by
  unfold lsF
  congr 1
theorem ls_none (is : Bool) (x y : List Pc) : ([] : List Int) = (x.filter (lsB is true y)).map (·.ix) := by
  rw [List.filter_eq_nil_iff.2 (fun p _ => by unfold lsB; cases is <;> simp)]
  rfl
theorem ls_gone (an : Bool) (x y : List Pc) : ([] : List Int) = (x.filter (lsB false an y)).map (·.ix) := by
  rw [List.filter_eq_nil_iff.2 (fun p _ => by unfold lsB; simp)]
  rfl
theorem of_sm {a b : List Hd} (ha : RtA a) (hb : RtA b) : smC (ofR a b) := by
  have hof : ofR a b = srtK (·.ob) (gonL b a ++ chL a b) := by unfold ofR; rw [ha.rt, hb.rt]; rfl
  refine ⟨of_len ha hb, fun c hc => ?_⟩
  rw [hof] at hc
  rcases of_mem.1 ((srtK_perm (·.ob) _).mem_iff.1 hc) with ⟨d, hd, h1, rfl⟩ | ⟨d, hd, rfl, h1⟩
  · simp [gonC]
  · have h2 := smP_of hb.sm hd
    have hx : smP ((fndO d.ob a).getD d0).ps := by
      cases hq : fndO d.ob a with
      | none => exact smP_nil
      | some x => exact smP_of ha.sm (fnd_in hq).1
    unfold chO chg
    simp only
    constructor
    · split
      · exact h2.1
      · exact Nat.le_trans (List.length_filter_le ..) h2.1
    · split
      · simp
      · rw [List.length_map]; exact Nat.le_trans (List.length_filter_le ..) hx.1
theorem cnt_at {L : List Ch} {i : Nat} (h : i < L.length) : ((cnt (L.take (i + 1)) : Nat) : Int) = (cnt (L.take i) : Int) + (1 + (L[i].ps.length : Int) + (L[i].ls.length : Int)) := by rw [cnt_take h]; omega
theorem lp_t0 {a b : List Hd} (RA : RtA a) (RB : RtA b) (L : List Ch) (hs : smC L) (hr : L.Pairwise (fun x y => x.ob < y.ob)) (hm : ∀ c ∈ L, c ∈ gonL b a ++ chL a b) (k : Ex → St → Option (AV × Heap)) (i : Nat) (hi : i ≤ L.length) :
    (bnd (evC (call ir) (loop ir) lp3_0 (st3_0 0 (vHs a) (vHs b) (vCs L) (dI (cnt (L.take i))) (vCs L) (dI L.length) (dI i) [])) (lpC (call ir) (loop ir) [0, 1, 5, 6, 44, 45, 46] lp3_0 k)) = k (.exit 0) (clean [5, 6] (st3_0 0 .unk .unk (vCs L) (dI (cnt L)) .unk .unk .unk [])) := by
  have hl := hs.1
  by_cases h : i = L.length
  · have hx : ¬ (i : Int) < L.length := by omega
    rw [h] at hx
    rw [h, List.take_length]
    simp (maxSteps := 2000000) (disch := omega) only [go_sem, doCall, doCallQ, doCallP, Nat.reduceAdd, Nat.reduceMul, Nat.reduceSub, Nat.reduceDiv, Nat.reduceMod, Nat.reduceLT, Nat.reduceLeDiff, Nat.reduceEqDiff, Nat.reduceBEq, Nat.reduceBNe, Int.reduceToNat, Int.reduceLT, Int.reduceLE, Int.reduceEq, Int.reduceNe, Int.reduceAdd, Int.reduceSub, Int.reduceMul, Int.reduceNeg, u3_0, lb3_0, hx]
  · have hi' : i < L.length := by omega
    have hg := getCh L hi'
    have hi2 : i - 1 < L.length := by omega
    have hg2 := getCh L hi2
    have hle := cnt_le hs i hi
    have hn : cnt (L.take i) ≤ 1000000000000 := by
      have : i * 200001 ≤ 200000 * 200001 := Nat.mul_le_mul_right _ (by omega)
      omega
    have hord : i = 0 ∨ L[i - 1].ob < L[i].ob := by
      by_cases c3 : i = 0
      · exact .inl c3
      · exact .inr (List.pairwise_iff_getElem.1 hr (i - 1) i hi2 hi' (by omega))
    have ih := lp_t0 RA RB L hs hr hm k (i + 1) (by omega)
    rw [cnt_at hi'] at ih
    have la := RA.sm.1
    have lb := RB.sm.1
    rcases of_mem.1 (hm L[i] (List.getElem_mem hi')) with ⟨d, hd, h1, hc⟩ | ⟨d, hd, hc, h1⟩
    · rw [hc] at ih hg hord
      have hfa := t_lfind a (by omega) d.ob
      have hfb := t_lfind b (by omega) d.ob
      rw [fnd_the RA.srt hd] at hfa
      rw [h1] at hfb
      have sd := smP_of RA.sm hd
      by_cases hge : d.ge = d0.ge
      · rcases hord with c5 | c6
        · exact st_gone_e0 a b L hl i hi' d.ob [] [] d d0 L[i - 1] hg hg2 c5 hfa hfb _ hn smP_nil (by simp) sd smP_nil (fun p hp => by simp [d0] at hp) (fun p hp => by simp at hp) (ls_gone _ _ _) rfl rfl hge k _ ih
        · by_cases c5 : i = 0
          · exact st_gone_e0 a b L hl i hi' d.ob [] [] d d0 L[i - 1] hg hg2 c5 hfa hfb _ hn smP_nil (by simp) sd smP_nil (fun p hp => by simp [d0] at hp) (fun p hp => by simp at hp) (ls_gone _ _ _) rfl rfl hge k _ ih
          · exact st_gone_e1 a b L hl i hi' d.ob [] [] d d0 L[i - 1] hg hg2 c5 c6 hfa hfb _ hn smP_nil (by simp) sd smP_nil (fun p hp => by simp [d0] at hp) (fun p hp => by simp at hp) (ls_gone _ _ _) rfl rfl hge k _ ih
      · by_cases c5 : i = 0
        · exact st_gone_n0 a b L hl i hi' d.ob [] [] d d0 L[i - 1] hg hg2 c5 hfa hfb _ hn smP_nil (by simp) sd smP_nil (fun p hp => by simp [d0] at hp) (fun p hp => by simp at hp) (ls_gone _ _ _) rfl rfl hge k _ ih
        · have c6 := hord.resolve_left c5
          exact st_gone_n1 a b L hl i hi' d.ob [] [] d d0 L[i - 1] hg hg2 c5 c6 hfa hfb _ hn smP_nil (by simp) sd smP_nil (fun p hp => by simp [d0] at hp) (fun p hp => by simp at hp) (ls_gone _ _ _) rfl rfl hge k _ ih
    · have hfa := t_lfind a (by omega) d.ob
      have hfb := t_lfind b (by omega) d.ob
      rw [fnd_the RB.srt hd] at hfb
      have sd := smP_of RB.sm hd
      have t7s : ∀ p ∈ d.ps, hasP d.ps p = true := fun p hp => (hasP_iff _ _).2 hp
      cases hq : fndO d.ob a with
      | none =>
        rw [hq] at hfa
        have hch : chO a d = ⟨d.ob, true, false, d.ob, d.ge, d.tg, d.le, d.ti, d.ps, []⟩ := by unfold chO; rw [hq]; rfl
        rw [hc, hch] at ih hg hord
        have t6 : ∀ p ∈ d.ps, hasP d.ps p = (true || !hasP d0.ps p) := fun p hp => t7s p hp
        by_cases c5 : i = 0
        · exact st_new0 a b L hl i hi' d.ob d.ps [] d0 d L[i - 1] hg hg2 c5 hfa hfb _ hn sd (by simp) smP_nil sd t6 t7s (ls_none _ _ _) k _ ih
        · exact st_new1 a b L hl i hi' d.ob d.ps [] d0 d L[i - 1] hg hg2 c5 (hord.resolve_left c5) hfa hfb _ hn sd (by simp) smP_nil sd t6 t7s (ls_none _ _ _) k _ ih
      | some x =>
        rw [hq] at hfa
        obtain ⟨hx, hxo⟩ := fnd_in hq
        have sx := smP_of RA.sm hx
        have rx := RA.ri hx
        have sf : smP (d.ps.filter (isNew x.ps)) := smP_sub sd List.filter_sublist
        have t6 : ∀ p ∈ d.ps, hasP (d.ps.filter (isNew x.ps)) p = (false || !hasP x.ps p) := fun p hp => new_has rx p hp
        have t7 : ∀ p ∈ d.ps.filter (isNew x.ps), hasP d.ps p = true := fun p hp => (hasP_iff _ _).2 (List.mem_filter.1 hp).1
        have sl := lsF_len d.ps x.ps sx
        cases es : sameB x d
        · by_cases hge : x.ge = d.ge
          · have hch : chO a d = ⟨d.ob, true, false, d.ob, d.ge, d.tg, d.le, d.ti, d.ps.filter (isNew x.ps), lsF d.ps x.ps⟩ := by
              unfold chO chg lsF; rw [hq]; simp [hge, es]
            rw [hc, hch] at ih hg hord
            by_cases c5 : i = 0
            · exact st_anew_e0 a b L hl i hi' d.ob _ _ x d L[i - 1] hg hg2 c5 hfa hfb _ hn sf sl sx sd t6 t7 (ls_is _ _) es hge k _ ih
            · exact st_anew_e1 a b L hl i hi' d.ob _ _ x d L[i - 1] hg hg2 c5 (hord.resolve_left c5) hfa hfb _ hn sf sl sx sd t6 t7 (ls_is _ _) es hge k _ ih
          · have hch : chO a d = ⟨d.ob, true, false, d.ob, d.ge, d.tg, d.le, d.ti, d.ps, []⟩ := by
              unfold chO chg; rw [hq]; simp [hge, es]
            rw [hc, hch] at ih hg hord
            have t6 : ∀ p ∈ d.ps, hasP d.ps p = (true || !hasP x.ps p) := fun p hp => t7s p hp
            by_cases c5 : i = 0
            · exact st_anew_n0 a b L hl i hi' d.ob d.ps [] x d L[i - 1] hg hg2 c5 hfa hfb _ hn sd (by simp) sx sd t6 t7s (ls_none _ _ _) es hge k _ ih
            · exact st_anew_n1 a b L hl i hi' d.ob d.ps [] x d L[i - 1] hg hg2 c5 (hord.resolve_left c5) hfa hfb _ hn sd (by simp) sx sd t6 t7s (ls_none _ _ _) es hge k _ ih
        · have hge : x.ge = d.ge := by
            have := es
            unfold sameB at this
            simp only [Bool.and_eq_true, beq_iff_eq] at this
            exact this.2.1
          have hch : chO a d = ⟨d.ob, false, false, 0, 0, [], 0, 0, d.ps.filter (isNew x.ps), lsF d.ps x.ps⟩ := by
            unfold chO chg lsF; rw [hq]; simp [hge, es]
          rw [hc, hch] at ih hg hord
          by_cases c5 : i = 0
          · exact st_old0 a b L hl i hi' d.ob _ _ x d L[i - 1] hg hg2 c5 hfa hfb _ hn sf sl sx sd t6 t7 (ls_is _ _) es k _ ih
          · exact st_old1 a b L hl i hi' d.ob _ _ x d L[i - 1] hg hg2 c5 (hord.resolve_left c5) hfa hfb _ hn sf sl sx sd t6 t7 (ls_is _ _) es k _ ih
termination_by L.length - i
theorem t_DiffTells (a b : List Hd) (hla : a.length ≤ 1000000000000000) (hlb : b.length ≤ 1000000000000000) (hI : ∀ d ∈ a, okI d.ps) (hJ : ∀ d ∈ b, okI d.ps) : call ir 3 [vHs a, vHs b] [] = some (dT true, []) := by
  rw [call_eq (fn := ir3) rfl, evF_bnd]
  have haw := c_awake48
  have hf := t_few48 a hla
  have hg := t_few48 b hlb
  cases hc : (fwH a && decide (a.length ≤ 20))
  · rw [hc] at hf
    simp (maxSteps := 2000000) (disch := omega) only [go_sem, doCall, doCallQ, doCallP, Nat.reduceAdd, Nat.reduceMul, Nat.reduceSub, Nat.reduceDiv, Nat.reduceMod, Nat.reduceLT, Nat.reduceLeDiff, Nat.reduceEqDiff, Nat.reduceBEq, Nat.reduceBNe, Int.reduceToNat, Int.reduceLT, Int.reduceLE, Int.reduceEq, Int.reduceNe, Int.reduceAdd, Int.reduceSub, Int.reduceMul, Int.reduceNeg, bd3, haw, hf, Option.isSome_none, Option.isSome_some, Bool.not_false, Bool.not_true, List.length_cons, List.length_nil, Nat.zero_add, List.getD_cons_zero, List.set_cons_zero, List.set_cons_succ, Int.natCast_nonneg, Int.toNat_natCast, Option.getD_some, Option.getD_none, List.drop_zero, Nat.sub_zero, Nat.zero_le, true_and, and_true, Nat.le_refl, chk_of]
  · rw [hc] at hf
    cases hd : (fwH b && decide (b.length ≤ 20))
    · rw [hd] at hg
      simp (maxSteps := 2000000) (disch := omega) only [go_sem, doCall, doCallQ, doCallP, Nat.reduceAdd, Nat.reduceMul, Nat.reduceSub, Nat.reduceDiv, Nat.reduceMod, Nat.reduceLT, Nat.reduceLeDiff, Nat.reduceEqDiff, Nat.reduceBEq, Nat.reduceBNe, Int.reduceToNat, Int.reduceLT, Int.reduceLE, Int.reduceEq, Int.reduceNe, Int.reduceAdd, Int.reduceSub, Int.reduceMul, Int.reduceNeg, bd3, haw, hf, hg, Option.isSome_none, Option.isSome_some, Bool.not_false, Bool.not_true, List.length_cons, List.length_nil, Nat.zero_add, List.getD_cons_zero, List.set_cons_zero, List.set_cons_succ, Int.natCast_nonneg, Int.toNat_natCast, Option.getD_some, Option.getD_none, List.drop_zero, Nat.sub_zero, Nat.zero_le, true_and, and_true, Nat.le_refl, chk_of]
    · rw [hd] at hg
      have sa := few_two a hc
      have sb := few_two b hd
      have la := sa.1
      have lb := sb.1
      obtain ⟨z, hof⟩ := t_of a b sa sb
      have hra := t_lright a (by omega) (sml_b sa)
      have hrb := t_lright b (by omega) (sml_b sb)
      have hcm : ((ofR a b).map chRow).length = (ofR a b).length := List.length_map ..
      have htc : ((ofR a b).map chRow).take (ofR a b).length = (ofR a b).map chRow := by rw [← hcm, List.take_length]
      cases hR : rtR a
      · rw [hR] at hra
        simp (maxSteps := 2000000) (disch := omega) only [go_sem, doCall, doCallQ, doCallP, Nat.reduceAdd, Nat.reduceMul, Nat.reduceSub, Nat.reduceDiv, Nat.reduceMod, Nat.reduceLT, Nat.reduceLeDiff, Nat.reduceEqDiff, Nat.reduceBEq, Nat.reduceBNe, Int.reduceToNat, Int.reduceLT, Int.reduceLE, Int.reduceEq, Int.reduceNe, Int.reduceAdd, Int.reduceSub, Int.reduceMul, Int.reduceNeg, bd3, haw, hf, hg, hra, Option.isSome_none, Option.isSome_some, Bool.not_false, Bool.not_true, List.length_cons, List.length_nil, Nat.zero_add, List.getD_cons_zero, List.set_cons_zero, List.set_cons_succ, Int.natCast_nonneg, Int.toNat_natCast, Option.getD_some, Option.getD_none, List.drop_zero, Nat.sub_zero, Nat.zero_le, true_and, and_true, Nat.le_refl, chk_of]
      · rw [hR] at hra
        cases hS : rtR b
        · rw [hS] at hrb
          simp (maxSteps := 2000000) (disch := omega) only [go_sem, doCall, doCallQ, doCallP, Nat.reduceAdd, Nat.reduceMul, Nat.reduceSub, Nat.reduceDiv, Nat.reduceMod, Nat.reduceLT, Nat.reduceLeDiff, Nat.reduceEqDiff, Nat.reduceBEq, Nat.reduceBNe, Int.reduceToNat, Int.reduceLT, Int.reduceLE, Int.reduceEq, Int.reduceNe, Int.reduceAdd, Int.reduceSub, Int.reduceMul, Int.reduceNeg, bd3, haw, hf, hg, hra, hrb, Option.isSome_none, Option.isSome_some, Bool.not_false, Bool.not_true, List.length_cons, List.length_nil, Nat.zero_add, List.getD_cons_zero, List.set_cons_zero, List.set_cons_succ, Int.natCast_nonneg, Int.toNat_natCast, Option.getD_some, Option.getD_none, List.drop_zero, Nat.sub_zero, Nat.zero_le, true_and, and_true, Nat.le_refl, chk_of]
        · rw [hS] at hrb
          have RA : RtA a := ⟨sa, hR, hI⟩
          have RB : RtA b := ⟨sb, hS, hJ⟩
          have hsm := of_sm RA RB
          have hok := of_okC RA RB
          have hct := t_count (ofR a b) hsm
          have hsa := t_same (ofR a b) hsm
          have hee : ofR a b = srtK (·.ob) (gonL b a ++ chL a b) := by unfold ofR; rw [hR, hS]; rfl
          have hm : ∀ c ∈ ofR a b, c ∈ gonL b a ++ chL a b := fun c hc => by rw [hee] at hc; exact (srtK_perm (·.ob) _).mem_iff.1 hc
          have hlp := fun k => lp_t0 RA RB (ofR a b) hsm hok.1 hm k 0 (Nat.zero_le _)
          have e00 : cnt (List.take 0 (ofR a b)) = 0 := rfl
          simp only [e00, Int.natCast_zero] at hlp
          generalize ofR a b = L at hof hcm htc hct hsa hlp
          simp (maxSteps := 2000000) (disch := omega) only [go_sem, doCall, doCallQ, doCallP, Nat.reduceAdd, Nat.reduceMul, Nat.reduceSub, Nat.reduceDiv, Nat.reduceMod, Nat.reduceLT, Nat.reduceLeDiff, Nat.reduceEqDiff, Nat.reduceBEq, Nat.reduceBNe, Int.reduceToNat, Int.reduceLT, Int.reduceLE, Int.reduceEq, Int.reduceNe, Int.reduceAdd, Int.reduceSub, Int.reduceMul, Int.reduceNeg, bd3, haw, hf, hg, hra, hrb, hof, hcm, htc, Option.isSome_none, Option.isSome_some, Bool.not_false, Bool.not_true, List.length_cons, List.length_nil, Nat.zero_add, List.getD_cons_zero, List.set_cons_zero, List.set_cons_succ, Int.natCast_nonneg, Int.toNat_natCast, Option.getD_some, Option.getD_none, List.drop_zero, Nat.sub_zero, Nat.zero_le, true_and, and_true, Nat.le_refl, chk_of]
          rw [loop_step1]; simp (maxSteps := 2000000) (disch := omega) only [go_sem, doCall, doCallQ, doCallP, Nat.reduceAdd, Nat.reduceMul, Nat.reduceSub, Nat.reduceDiv, Nat.reduceMod, Nat.reduceLT, Nat.reduceLeDiff, Nat.reduceEqDiff, Nat.reduceBEq, Nat.reduceBNe, Int.reduceToNat, Int.reduceLT, Int.reduceLE, Int.reduceEq, Int.reduceNe, Int.reduceAdd, Int.reduceSub, Int.reduceMul, Int.reduceNeg]
          refine (hlp _).trans ?_
          simp (maxSteps := 2000000) (disch := omega) only [go_sem, doCall, doCallQ, doCallP, Nat.reduceAdd, Nat.reduceMul, Nat.reduceSub, Nat.reduceDiv, Nat.reduceMod, Nat.reduceLT, Nat.reduceLeDiff, Nat.reduceEqDiff, Nat.reduceBEq, Nat.reduceBNe, Int.reduceToNat, Int.reduceLT, Int.reduceLE, Int.reduceEq, Int.reduceNe, Int.reduceAdd, Int.reduceSub, Int.reduceMul, Int.reduceNeg, hct, hsa, beq_self_eq_true, Option.isSome_none, Option.isSome_some, Bool.not_false, Bool.not_true, List.length_cons, List.length_nil, Nat.zero_add, List.getD_cons_zero, List.set_cons_zero, List.set_cons_succ, Int.natCast_nonneg, Int.toNat_natCast, Option.getD_some, Option.getD_none, List.drop_zero, Nat.sub_zero, Nat.zero_le, true_and, and_true, Nat.le_refl, chk_of]
end Go.Proofs.Ytbcpffhialoliaa
namespace Go.Proofs.Ytbcpffhialoliaa
open Go Go.ChangeShapes Go.WideShapes Go.ChangeAt Go.RowKit Go.Ev
set_option linter.unusedVariables false
set_option linter.unusedSimpArgs false
theorem Try.own : ownKnob Try.prog.godebug = Option.none := by kernel_rfl
theorem Try.laidOut : laidOutB Try.prog = true := by kernel_rfl
theorem sh0 : shOf Try.prog 50 22 = some (.sl (.i .i64 (.i .i64 (.s (.i .i64 (.i .i64 (.sl (.i .i64 (.i .i64 (.i .i64 (.sl (.i .u8 .nil) 1 .nil)))) 48 .nil)))))) 72 .nil) := by kernel_rfl
theorem sh1 : shOf Try.prog 50 22 = some (.sl (.i .i64 (.i .i64 (.s (.i .i64 (.i .i64 (.sl (.i .i64 (.i .i64 (.i .i64 (.sl (.i .u8 .nil) 1 .nil)))) 48 .nil)))))) 72 .nil) := by kernel_rfl
theorem prms : Try.f3.params.toList = [22, 22] := by rw [Try.params3]
theorem law_calls_true : ∀ dss, OkAll Try.prog Try.f3.params.toList dss → call Ir.ir 3 (argsA Try.prog Try.f3.params.toList dss) [] = some (.d (.bool true), []) := by
  intro dss h
  rw [prms] at h ⊢
  obtain ⟨_, _, rfl, h0, h⟩ := okAll_cons sh0 h
  obtain ⟨_, _, rfl, h1, h⟩ := okAll_cons sh1 h
  obtain rfl := okAll_nil h
  obtain ⟨xs, _, rfl, hl, hq, h0⟩ := ok_sl h0
  obtain ⟨ys, _, rfl, hm, hr, h1⟩ := ok_sl h1
  obtain ⟨l, rfl, hI⟩ := helds_of hq
  obtain ⟨m, rfl, hJ⟩ := helds_of hr
  simp only [argsA, argA_sl Try.underlying22]
  exact t_DiffTells l m (by simp [reachBytes] at hl; omega) (by simp [reachBytes] at hm; omega) hI hJ
theorem law_lifted (os : Os) (started : os.Started) (H : Type) (enc : TypeId × Value → H) :
    ReturnsInHanded {} Try.checked os 3 .any (Rows.diffTellsSpec.pre6 enc Try.prog Try.f3 Rows.diffTellsRow.domain false) (Rows.diffTellsSpec.post enc Try.prog Try.f3 false true false false) := by
  refine returns_of (C := Try.checked) Try.own started (by kernel_rfl) Ir.tab Try.func3 Try.laidOut (tb := 4) (fn := Try.f3) (by kernel_rfl) Try.underlying4 rfl ?_ ?_ law_calls_true true false
    (ChangeSpec.witness6 (enc := enc) (C := Try.checked) false ⟨#[], #[.slice Option.none 0 0, .slice Option.none 0 0], []⟩ 12 (by kernel_rfl) (by kernel_rfl) (by kernel_rfl) (by kernel_rfl)) (fun _ => ⟨fun _ hp => by simp [glT] at hp, fun _ hp => by simp [glI] at hp⟩)
  · intro ds hd
    have hd2 : ds.length = 2 := hd
    match ds, hd2 with
    | [_, _], _ => rfl
  · intro t ht
    have : t = 22 := by
      have h2 : t ∈ Try.f3.params.toList := ht
      rw [prms] at h2; simp only [List.mem_cons, List.not_mem_nil, or_false] at h2; rcases h2 with rfl | rfl <;> simp
    rcases this with rfl
    · exact ⟨⟨_, sh0⟩, by kernel_rfl, of_decide_eq_true (by kernel_rfl)⟩
theorem diffTells_holds : Rows.DiffTellsSaid :=
  OpenClaim.holds_of_wide 3 Try.f3 rfl rfl rfl rfl rfl rfl rfl ⟨rfl, rfl, rfl, rfl, rfl⟩ rfl rfl rfl rfl rfl (by kernel_rfl) Try.func3 (by kernel_rfl)
    (of_decide_eq_true (by kernel_rfl)) (by unfold Func.isWrapper; first | (rw [if_pos (by decide +kernel)]; kernel_rfl) | (rw [if_neg (by decide +kernel)]; exact ⟨rfl, rfl⟩))
    (fun os started H enc _ => law_lifted os started H enc)
end Go.Proofs.Ytbcpffhialoliaa
