/- IfrangeWithin: the law function. Own work. -/
import Derived.Test.YtpibecljdooilaaDoorIfrB
namespace Go.Proofs.YtpibecljdooilaaDoor
open Go Go.Ev Go.Proofs.YtpibecljdooilaaDoor.Ir Go.Prs
set_option maxRecDepth 100000
set_option maxHeartbeats 4000000
set_option linter.unusedSimpArgs false
set_option linter.unusedVariables false
def cntI (L : List (Int × Int)) (t : Int) : Nat := L.countP fun x => decide (isIn t x)
theorem cnt_pos (L : List (Int × Int)) (t : Int) : decide (0 < cntI L t) = hasb L t := by
  unfold cntI hasb
  rw [Bool.eq_iff_iff, decide_eq_true_iff, List.countP_pos_iff, List.any_eq_true]
theorem cnt_le {t : Int} : ∀ {L : List (Int × Int)}, L.Pairwise (fun x y => ¬ (isIn t x ∧ isIn t y)) → cntI L t ≤ 1
  | [], _ => by simp [cntI]
  | x :: L, h => by
    have h := List.pairwise_cons.1 h
    have ih := cnt_le h.2
    by_cases hx : isIn t x
    · have : cntI L t = 0 := by
        unfold cntI
        rw [List.countP_eq_zero]
        intro y hy
        have := h.1 y hy
        simp only [decide_eq_true_eq]
        exact fun hy' => this ⟨hx, hy'⟩
      unfold cntI at this ⊢
      rw [List.countP_cons, this]
      simp [hx]
    · unfold cntI at ih ⊢
      rw [List.countP_cons]
      simp [hx]; exact ih
theorem isIn_meets {t : Int} {x y : Int × Int} (hx : isIn t x) (hy : isIn t y) : meets x y := by
  unfold isIn RP at *; unfold meets RP; omega
theorem clash_pw : ∀ (p l : List (Int × Int)), clashG p l = false → (∀ x ∈ l, ∀ y ∈ p, ¬ meets x y) ∧ l.Pairwise fun y x => ¬ meets x y
  | p, [], _ => ⟨by simp, List.Pairwise.nil⟩
  | p, x :: l, h => by
    unfold clashG at h
    rw [Bool.or_eq_false_iff] at h
    obtain ⟨h1, h2⟩ := clash_pw (p ++ [x]) l h.2
    have hx : ∀ y ∈ p, ¬ meets x y := fun y hy hm => by
      have := List.any_eq_false.1 h.1 y hy
      exact this (decide_eq_true hm)
    refine ⟨fun z hz y hy => ?_, List.pairwise_cons.2 ⟨fun z hz => h1 z hz x (by simp), h2⟩⟩
    rcases List.mem_cons.1 hz with rfl | hz
    · exact hx y hy
    · exact h1 z hz y (List.mem_append_left _ hy)
theorem res1_in {n : Int} {x : Sp3} {s : Int × Int} (hn : 1 ≤ n ∧ n ≤ 4611686018427387903) (h : s ∈ res1 n x) : RP s.1 s.2 ∧ s.2 ≤ n := by
  unfold res1 at h
  split at h
  · rename_i hh
    rw [List.mem_singleton] at h
    subst h
    refine ⟨hh.2, ?_⟩
    unfold oneP
    split
    · exact Int.le_refl _
    · split
      · simp only; omega
      · exact Int.le_refl _
  · simp at h
theorem resL_in {n : Int} {l : List Sp3} {s : Int × Int} (h : s ∈ resL l n) : RP s.1 s.2 ∧ s.2 ≤ n := by
  unfold resL at h
  split at h
  · rename_i hn
    obtain ⟨x, _, hx⟩ := List.mem_flatMap.1 h
    exact res1_in hn hx
  · simp at h
/-- What is told in parts. -/
theorem choose_some {header cond tag : List UInt8} {n st : Int} {L : List (Int × Int)} (h : ChooseR header cond tag n st L) (h1 : specL header ≠ []) (h2 : useE cond tag = true) (h3 : resL (specL header) n ≠ []) :
    st = 206 ∧ L.length ≤ 16 ∧ L ≠ [] ∧ (∀ x ∈ L, RP x.1 x.2 ∧ x.2 ≤ n) ∧ ∀ t, cntI L t ≤ 1 ∧ decide (cntI L t = 1) = hasb (resL (specL header) n) t := by
  obtain ⟨a1, a2, a3, a4⟩ := h.some h1 h2 h3
  have hres := fun s hs => resL_in (n := n) (l := specL header) (s := s) hs
  generalize resL (specL header) n = R at *
  have fin : ∀ t, cntI L t ≤ 1 → hasb L t = hasb R t → decide (cntI L t = 1) = hasb R t := fun t hc hh => by
    rw [← hh, ← cnt_pos]
    congr 1
    apply propext
    omega
  cases hc : clashG [] R
  · have hL := a3 hc
    subst hL
    refine ⟨a1, a2, h3, hres, fun t => ?_⟩
    have hp := (clash_pw [] L hc).2
    have hle : cntI L t ≤ 1 := cnt_le (hp.imp fun {x y} hxy hh => hxy (isIn_meets hh.2 hh.1))
    exact ⟨hle, fin t hle rfl⟩
  · obtain ⟨b1, b2⟩ := a4 hc
    refine ⟨a1, a2, fun hL => ?_, fun x hx => ?_, fun t => ?_⟩
    · subst hL
      cases R with
      | nil => exact h3 rfl
      | cons y R =>
        have hy := (hres y (by simp)).1
        have := b2 y.1
        have h5 : hasb (y :: R) y.1 = true := by
          unfold hasb
          rw [List.any_cons, decide_eq_true (show isIn y.1 y by unfold isIn; unfold RP at *; omega), Bool.true_or]
        rw [h5] at this
        simp [hasb] at this
    · have hx1 := b1.1 x hx
      refine ⟨hx1, ?_⟩
      have h6 : hasb L (x.2 - 1) = true := by
        unfold hasb
        rw [List.any_eq_true]
        exact ⟨x, hx, decide_eq_true (by unfold isIn; unfold RP at *; omega)⟩
      rw [b2] at h6
      unfold hasb at h6
      obtain ⟨y, hy, hy2⟩ := List.any_eq_true.1 h6
      have := of_decide_eq_true hy2
      have := (hres y hy).2
      unfold isIn at *; omega
    · have hle : cntI L t ≤ 1 := cnt_le (b1.2.imp fun {x y} hxy hh => by unfold isIn at hh; omega)
      exact ⟨hle, fin t hle (b2 t)⟩
theorem cnt_drop {L : List (Int × Int)} {i : Nat} (h : i < L.length) (t : Int) : cntI (L.drop i) t = (if isIn t L[i] then 1 else 0) + cntI (L.drop (i + 1)) t := by
  unfold cntI
  rw [List.drop_eq_getElem_cons h, List.countP_cons]
  by_cases hx : isIn t L[i]
  · simp [hx]; omega
  · simp [hx]
theorem cnt_len (L : List (Int × Int)) (t : Int) : cntI L t ≤ L.length := List.countP_le_length
theorem lp_within (header : List UInt8) (n at' st : Int) (L : List (Int × Int)) (hl : L.length ≤ 1000) (hL : ∀ x ∈ L, RP x.1 x.2 ∧ x.2 ≤ n) (k : Ex → St → Option (AV × Heap)) (i : Nat) (hi : i ≤ L.length) (c : Nat) (hc : c ≤ i) :
    (bnd (evC (call ir) (loop ir) lp7_0 (st7_0 0 (dS header) (dI n) (dI at') (.ptr 0 0) (dI c) (.d (.list 2 (r2 L))) (dI L.length) (dI i) [.dbox [.int .i64 st, .list 2 (r2 L)]])) (lpC (call ir) (loop ir) [0, 3, 4, 11, 12, 39, 40, 41] lp7_0 k)) =
      k (.exit 0) (clean [0, 3, 4, 11, 12] (st7_0 0 (dS header) (dI n) (dI at') (.ptr 0 0) (dI ((c + cntI (L.drop i) at' : Nat) : Int)) .unk .unk .unk [.dbox [.int .i64 st, .list 2 (r2 L)]])) := by
  by_cases h : i = L.length
  · have hx : ¬ (i : Int) < L.length := by omega
    rw [h] at hx
    rw [h, List.drop_length]
    simp only [cntI, List.countP_nil, Nat.add_zero]
    simp (maxSteps := 2000000) (disch := omega) only [go_sem, doCall, doCallQ, Nat.reduceAdd, Nat.reduceMul, Nat.reduceSub, Nat.reduceDiv, Nat.reduceMod, Nat.reduceLT, Nat.reduceLeDiff, Nat.reduceEqDiff, Nat.reduceBEq, Nat.reduceBNe, Int.reduceToNat, Int.reduceLT, Int.reduceLE, Int.reduceEq, Int.reduceNe, Int.reduceAdd, Int.reduceSub, Int.reduceMul, Int.reduceNeg, u7_0, lb7_0, hx]
  · have hlt : (i : Int) < L.length := by omega
    have hi' : i < L.length := by omega
    have hw := wr_succ (i := i) (by omega)
    have hg := get_eP L i hi'
    have hx := hL _ (List.getElem_mem hi')
    have hx1 := hx.1
    unfold RP at hx1
    have c1 := eq_false (show ¬ L[i].1 < 0 by omega)
    have c2 := eq_false (show ¬ L[i].2 ≤ L[i].1 by omega)
    have c3 := eq_false (show ¬ n < L[i].2 by omega)
    rw [cnt_drop hi']
    by_cases hin : isIn at' L[i]
    · have hin' := hin
      unfold isIn at hin'
      have d1 := eq_true hin'.2.1
      have d2 := eq_true hin'.2.2
      have ih := lp_within header n at' st L hl hL k (i + 1) (by omega) (c + 1) (by omega)
      have hwc := wr_succ (i := c) (by omega)
      have he : c + (1 + cntI (L.drop (i + 1)) at') = c + 1 + cntI (L.drop (i + 1)) at' := by omega
      rw [if_pos hin, he]
      simp (maxSteps := 2000000) (disch := omega) only [go_sem, doCall, doCallQ, Nat.reduceAdd, Nat.reduceMul, Nat.reduceSub, Nat.reduceDiv, Nat.reduceMod, Nat.reduceLT, Nat.reduceLeDiff, Nat.reduceEqDiff, Nat.reduceBEq, Nat.reduceBNe, Int.reduceToNat, Int.reduceLT, Int.reduceLE, Int.reduceEq, Int.reduceNe, Int.reduceAdd, Int.reduceSub, Int.reduceMul, Int.reduceNeg, u7_0, lb7_0, hlt, hi', hw, hg, c1, c2, c3, d1, d2, hwc, Int.natCast_nonneg, Int.toNat_natCast, Option.getD_some, Option.getD_none, List.drop_zero, Nat.sub_zero, Nat.zero_le, true_and, and_true, Nat.le_refl, chk_of]
      rw [loop_step1]; simp (maxSteps := 2000000) only [go_sem, doCall, doCallQ, Nat.reduceAdd, Nat.reduceMul, Nat.reduceSub, Nat.reduceDiv, Nat.reduceMod, Nat.reduceLT, Nat.reduceLeDiff, Nat.reduceEqDiff, Nat.reduceBEq, Nat.reduceBNe, Int.reduceToNat, Int.reduceLT, Int.reduceLE, Int.reduceEq, Int.reduceNe, Int.reduceAdd, Int.reduceSub, Int.reduceMul, Int.reduceNeg]; exact ih
    · have ih := lp_within header n at' st L hl hL k (i + 1) (by omega) c (by omega)
      rw [if_neg hin, Nat.zero_add]
      by_cases d1 : L[i].1 ≤ at'
      · have d1' := eq_true d1
        have d2 := eq_false (show ¬ at' < L[i].2 from fun hh => hin ⟨hx.1, d1, hh⟩)
        simp (maxSteps := 2000000) (disch := omega) only [go_sem, doCall, doCallQ, Nat.reduceAdd, Nat.reduceMul, Nat.reduceSub, Nat.reduceDiv, Nat.reduceMod, Nat.reduceLT, Nat.reduceLeDiff, Nat.reduceEqDiff, Nat.reduceBEq, Nat.reduceBNe, Int.reduceToNat, Int.reduceLT, Int.reduceLE, Int.reduceEq, Int.reduceNe, Int.reduceAdd, Int.reduceSub, Int.reduceMul, Int.reduceNeg, u7_0, lb7_0, hlt, hi', hw, hg, c1, c2, c3, d1', d2, Int.natCast_nonneg, Int.toNat_natCast, Option.getD_some, Option.getD_none, List.drop_zero, Nat.sub_zero, Nat.zero_le, true_and, and_true, Nat.le_refl, chk_of]
        rw [loop_step1]; simp (maxSteps := 2000000) only [go_sem, doCall, doCallQ, Nat.reduceAdd, Nat.reduceMul, Nat.reduceSub, Nat.reduceDiv, Nat.reduceMod, Nat.reduceLT, Nat.reduceLeDiff, Nat.reduceEqDiff, Nat.reduceBEq, Nat.reduceBNe, Int.reduceToNat, Int.reduceLT, Int.reduceLE, Int.reduceEq, Int.reduceNe, Int.reduceAdd, Int.reduceSub, Int.reduceMul, Int.reduceNeg]; exact ih
      · have d1' := eq_false d1
        simp (maxSteps := 2000000) (disch := omega) only [go_sem, doCall, doCallQ, Nat.reduceAdd, Nat.reduceMul, Nat.reduceSub, Nat.reduceDiv, Nat.reduceMod, Nat.reduceLT, Nat.reduceLeDiff, Nat.reduceEqDiff, Nat.reduceBEq, Nat.reduceBNe, Int.reduceToNat, Int.reduceLT, Int.reduceLE, Int.reduceEq, Int.reduceNe, Int.reduceAdd, Int.reduceSub, Int.reduceMul, Int.reduceNeg, u7_0, lb7_0, hlt, hi', hw, hg, c1, c2, c3, d1', Int.natCast_nonneg, Int.toNat_natCast, Option.getD_some, Option.getD_none, List.drop_zero, Nat.sub_zero, Nat.zero_le, true_and, and_true, Nat.le_refl, chk_of]
        rw [loop_step1]; simp (maxSteps := 2000000) only [go_sem, doCall, doCallQ, Nat.reduceAdd, Nat.reduceMul, Nat.reduceSub, Nat.reduceDiv, Nat.reduceMod, Nat.reduceLT, Nat.reduceLeDiff, Nat.reduceEqDiff, Nat.reduceBEq, Nat.reduceBNe, Int.reduceToNat, Int.reduceLT, Int.reduceLE, Int.reduceEq, Int.reduceNe, Int.reduceAdd, Int.reduceSub, Int.reduceMul, Int.reduceNeg]; exact ih
termination_by L.length - i
theorem t_awake09 : call ir 26 [] [] = some (.d (.bool true), []) := call_of (n := 200) (by kernel_rfl)
theorem t_Within (header cond tag : List UInt8) (hh : header.length ≤ 9223372036854775807) (hcc : cond.length ≤ 9223372036854775807) (ht : tag.length ≤ 9223372036854775807) (n at' : Int) :
    call ir 7 [dS header, dS cond, dS tag, dI n, dI at'] [] = some (dT true, []) := by
  rw [call_eq (fn := ir7) rfl, evF_bnd]
  by_cases g1 : header.length ≤ 600
  · have g1' := eq_false (show ¬ (600 : Int) < (header.length : Int) by omega)
    by_cases g2 : cond.length ≤ 200
    · have g2' := eq_false (show ¬ (200 : Int) < (cond.length : Int) by omega)
      by_cases g3 : tag.length ≤ 100
      · have g3' := eq_false (show ¬ (100 : Int) < (tag.length : Int) by omega)
        obtain ⟨st, L, hR, hch⟩ := t_choose header cond tag (by omega) (by omega) n
        obtain ⟨e, hsp⟩ := t_rspecs header (by omega)
        have hrl := r3_len (specL header)
        have htk := take_r3 (specL header)
        have hsl := specL_len header
        have hrs := t_rresolve (specL header) (by omega) n
        have hrr := r2_len (resL (specL header) n)
        have htr := take_r2 (resL (specL header) n)
        have hll := resL_len (specL header) n
        have hhas := t_rhas (resL (specL header) n) (by omega) at'
        have hLl := r2_len L
        have hall : L.length ≤ 16 ∧ (∀ x ∈ L, RP x.1 x.2 ∧ x.2 ≤ n) ∧ ((st = 200 ∧ L = []) ∨ (st = 416 ∧ L = [] ∧ specL header ≠ [] ∧ resL (specL header) n = []) ∨ (st = 206 ∧ L ≠ [] ∧ ∀ t, cntI L t ≤ 1 ∧ decide (cntI L t = 1) = hasb (resL (specL header) n) t)) := by
          by_cases q1 : specL header = []
          · obtain ⟨r1, r2⟩ := hR.all (.inl q1)
            subst r2
            exact ⟨by simp, by simp, .inl ⟨r1, rfl⟩⟩
          · cases q2 : useE cond tag
            · obtain ⟨r1, r2⟩ := hR.all (.inr q2)
              subst r2
              exact ⟨by simp, by simp, .inl ⟨r1, rfl⟩⟩
            · by_cases q3 : resL (specL header) n = []
              · obtain ⟨r1, r2⟩ := hR.none q1 q2 q3
                subst r2
                exact ⟨by simp, by simp, .inr (.inl ⟨r1, rfl, q1, q3⟩)⟩
              · obtain ⟨r1, r2, r3, r4, r5⟩ := choose_some hR q1 q2 q3
                exact ⟨r2, r4, .inr (.inr ⟨r1, r3, r5⟩)⟩
        obtain ⟨hl16, hLin, hcase⟩ := hall
        have hlp := fun k => lp_within header n at' st L (by omega) hLin k 0 (by omega) 0 (by omega)
        simp only [List.drop_zero, Nat.zero_add] at hlp
        simp (maxSteps := 2000000) (disch := omega) only [go_sem, doCall, doCallQ, Nat.reduceAdd, Nat.reduceMul, Nat.reduceSub, Nat.reduceDiv, Nat.reduceMod, Nat.reduceLT, Nat.reduceLeDiff, Nat.reduceEqDiff, Nat.reduceBEq, Nat.reduceBNe, Int.reduceToNat, Int.reduceLT, Int.reduceLE, Int.reduceEq, Int.reduceNe, Int.reduceAdd, Int.reduceSub, Int.reduceMul, Int.reduceNeg, bd7, t_awake09, g1', g2', g3', hch, hLl, Int.natCast_nonneg, Int.toNat_natCast, Option.getD_some, Option.getD_none, List.drop_zero, Nat.sub_zero, Nat.zero_le, true_and, and_true, Nat.le_refl, chk_of]
        rw [loop_step1]; simp (maxSteps := 2000000) only [go_sem, doCall, doCallQ, Nat.reduceAdd, Nat.reduceMul, Nat.reduceSub, Nat.reduceDiv, Nat.reduceMod, Nat.reduceLT, Nat.reduceLeDiff, Nat.reduceEqDiff, Nat.reduceBEq, Nat.reduceBNe, Int.reduceToNat, Int.reduceLT, Int.reduceLE, Int.reduceEq, Int.reduceNe, Int.reduceAdd, Int.reduceSub, Int.reduceMul, Int.reduceNeg]
        refine Eq.trans (hlp _) ?_
        rcases hcase with ⟨s1, s2⟩ | ⟨s1, s2, s3, s4⟩ | ⟨s1, s2, s3⟩
        · subst s1; subst s2
          simp (maxSteps := 2000000) (disch := omega) only [go_sem, doCall, doCallQ, Nat.reduceAdd, Nat.reduceMul, Nat.reduceSub, Nat.reduceDiv, Nat.reduceMod, Nat.reduceLT, Nat.reduceLeDiff, Nat.reduceEqDiff, Nat.reduceBEq, Nat.reduceBNe, Int.reduceToNat, Int.reduceLT, Int.reduceLE, Int.reduceEq, Int.reduceNe, Int.reduceAdd, Int.reduceSub, Int.reduceMul, Int.reduceNeg, hsp, hrl, htk, hrs, hrr, htr, hhas, Int.natCast_nonneg, Int.toNat_natCast, Option.getD_some, Option.getD_none, List.drop_zero, Nat.sub_zero, Nat.zero_le, true_and, and_true, Nat.le_refl, Nat.zero_add, List.map_nil, List.length_nil, chk_of]
        · subst s1; subst s2
          have hp := eq_true (show (0 : Int) < ((specL header).length : Int) by have := List.length_pos_iff.2 s3; omega)
          rw [s4] at hhas hrs
          have hf : hasb [] at' = false := rfl
          rw [hf] at hhas
          simp only [List.map_nil] at hhas
          simp (maxSteps := 2000000) (disch := omega) only [go_sem, doCall, doCallQ, Nat.reduceAdd, Nat.reduceMul, Nat.reduceSub, Nat.reduceDiv, Nat.reduceMod, Nat.reduceLT, Nat.reduceLeDiff, Nat.reduceEqDiff, Nat.reduceBEq, Nat.reduceBNe, Int.reduceToNat, Int.reduceLT, Int.reduceLE, Int.reduceEq, Int.reduceNe, Int.reduceAdd, Int.reduceSub, Int.reduceMul, Int.reduceNeg, hsp, hrl, htk, hrs, hhas, hp, Int.natCast_nonneg, Int.toNat_natCast, Option.getD_some, Option.getD_none, List.drop_zero, Nat.sub_zero, Nat.zero_le, true_and, and_true, Nat.le_refl, Nat.zero_add, List.map_nil, List.length_nil, List.take_nil, chk_of]
        · subst s1
          have hp := eq_true (show (0 : Int) < (L.length : Int) by have := List.length_pos_iff.2 s2; omega)
          obtain ⟨u1, u2⟩ := s3 at'
          rw [← u2] at hhas
          have hp1 := eq_true (show ((cntI L at' : Nat) : Int) ≤ 1 by omega)
          by_cases hc : cntI L at' = 1
          · have hc' := eq_true (show ((cntI L at' : Nat) : Int) = 1 by omega)
            rw [decide_eq_true hc] at hhas
            simp (maxSteps := 2000000) (disch := omega) only [go_sem, doCall, doCallQ, Nat.reduceAdd, Nat.reduceMul, Nat.reduceSub, Nat.reduceDiv, Nat.reduceMod, Nat.reduceLT, Nat.reduceLeDiff, Nat.reduceEqDiff, Nat.reduceBEq, Nat.reduceBNe, Int.reduceToNat, Int.reduceLT, Int.reduceLE, Int.reduceEq, Int.reduceNe, Int.reduceAdd, Int.reduceSub, Int.reduceMul, Int.reduceNeg, hsp, hrl, htk, hrs, hrr, htr, hhas, hp, hp1, hc', hLl, Int.natCast_nonneg, Int.toNat_natCast, Option.getD_some, Option.getD_none, List.drop_zero, Nat.sub_zero, Nat.zero_le, true_and, and_true, Nat.le_refl, Nat.zero_add, chk_of, beq_self_eq_true]
          · have hc' := eq_false (show ¬ ((cntI L at' : Nat) : Int) = 1 by omega)
            rw [decide_eq_false hc] at hhas
            simp (maxSteps := 2000000) (disch := omega) only [go_sem, doCall, doCallQ, Nat.reduceAdd, Nat.reduceMul, Nat.reduceSub, Nat.reduceDiv, Nat.reduceMod, Nat.reduceLT, Nat.reduceLeDiff, Nat.reduceEqDiff, Nat.reduceBEq, Nat.reduceBNe, Int.reduceToNat, Int.reduceLT, Int.reduceLE, Int.reduceEq, Int.reduceNe, Int.reduceAdd, Int.reduceSub, Int.reduceMul, Int.reduceNeg, hsp, hrl, htk, hrs, hrr, htr, hhas, hp, hp1, hc', hLl, Int.natCast_nonneg, Int.toNat_natCast, Option.getD_some, Option.getD_none, List.drop_zero, Nat.sub_zero, Nat.zero_le, true_and, and_true, Nat.le_refl, Nat.zero_add, chk_of, beq_self_eq_true]
      · have g3' := eq_true (show (100 : Int) < (tag.length : Int) by omega)
        simp (maxSteps := 2000000) (disch := omega) only [go_sem, doCall, doCallQ, Nat.reduceAdd, Nat.reduceMul, Nat.reduceSub, Nat.reduceDiv, Nat.reduceMod, Nat.reduceLT, Nat.reduceLeDiff, Nat.reduceEqDiff, Nat.reduceBEq, Nat.reduceBNe, Int.reduceToNat, Int.reduceLT, Int.reduceLE, Int.reduceEq, Int.reduceNe, Int.reduceAdd, Int.reduceSub, Int.reduceMul, Int.reduceNeg, bd7, t_awake09, g1', g2', g3', chk_of]
    · have g2' := eq_true (show (200 : Int) < (cond.length : Int) by omega)
      simp (maxSteps := 2000000) (disch := omega) only [go_sem, doCall, doCallQ, Nat.reduceAdd, Nat.reduceMul, Nat.reduceSub, Nat.reduceDiv, Nat.reduceMod, Nat.reduceLT, Nat.reduceLeDiff, Nat.reduceEqDiff, Nat.reduceBEq, Nat.reduceBNe, Int.reduceToNat, Int.reduceLT, Int.reduceLE, Int.reduceEq, Int.reduceNe, Int.reduceAdd, Int.reduceSub, Int.reduceMul, Int.reduceNeg, bd7, t_awake09, g1', g2', chk_of]
  · have g1' := eq_true (show (600 : Int) < (header.length : Int) by omega)
    simp (maxSteps := 2000000) (disch := omega) only [go_sem, doCall, doCallQ, Nat.reduceAdd, Nat.reduceMul, Nat.reduceSub, Nat.reduceDiv, Nat.reduceMod, Nat.reduceLT, Nat.reduceLeDiff, Nat.reduceEqDiff, Nat.reduceBEq, Nat.reduceBNe, Int.reduceToNat, Int.reduceLT, Int.reduceLE, Int.reduceEq, Int.reduceNe, Int.reduceAdd, Int.reduceSub, Int.reduceMul, Int.reduceNeg, bd7, t_awake09, g1', chk_of]
end Go.Proofs.YtpibecljdooilaaDoor
