/- Apply where a piece is lost. Own work. -/
import Derived.Test.YtbcpffhialoliaaDfI
namespace Go.Proofs.Ytbcpffhialoliaa
open Go Go.Ev Go.Proofs.Ytbcpffhialoliaa.Ir
set_option maxRecDepth 100000
set_option maxHeartbeats 4000000
set_option linter.unusedSimpArgs false
set_option linter.unusedVariables false
theorem fnd_in {o : Int} {l : List Hd} {d : Hd} (h : fndO o l = some d) : d ∈ l ∧ d.ob = o := by
  unfold fndO at h
  have h1 := List.mem_of_find?_eq_some h
  have h2 := List.find?_some h
  exact ⟨h1, of_decide_eq_true h2⟩
theorem find_pc {i : Int} : ∀ {l : List Pc} {d : D}, findM i (l.map pcE) = some d → ∃ p : Pc, d = .agg [.int .i64 p.ob, .int .i64 p.ge, .int .i64 p.ix, .list 1 (bB p.bd)]
  | [], d, h => by simp [findM] at h
  | p :: l, d, h => by
    change findM i ((p.ix, pcD p) :: l.map pcE) = some d at h
    rw [findM] at h
    by_cases e : p.ix = i
    · rw [if_pos e] at h; injection h with h; exact ⟨p, h.symm⟩
    · rw [if_neg e] at h; exact find_pc (l := l) h
/-- What is found is lost of it. -/
def lostH (i : Int) (d : Hd) : Hd := { d with ps := d.ps.filter (noI i) }
theorem lost_one {i : Int} {d : Hd} (h : oneR d = true) : oneR (lostH i d) = true := by
  rw [one_iff] at h ⊢
  exact ⟨fun p hp => h.1 p (List.mem_filter.1 hp).1, h.2.filter _⟩
/-- The error's number. -/
def lostE (i : Int) : Option Hd → Int
  | none => 8
  | some d => if atP i d.ps then 0 else 8
theorem lost_nod {a : List Hd} {o i : Int} {d : Hd} (hp : a.Pairwise (fun (x y : Hd) => x.ob < y.ob)) (hd : d.ob = o) : ((a.filter (noO o) ++ [lostH i d]).map (·.ob)).Nodup := by
  rw [List.map_append, List.nodup_append]
  refine ⟨nod_of (f := Hd.ob) (hp.filter _), by simp, fun x hx y hy => ?_⟩
  obtain ⟨q, hq, rfl⟩ := List.mem_map.1 hx
  have h1 := (List.mem_filter.1 hq).2
  have hy' : y = d.ob := by simpa [lostH] using hy
  unfold noO isO at h1
  simp at h1
  omega
theorem t_ap_lost (a : List Hd) (ha : sml a) (hI : ∀ d ∈ a, okI d.ps) (hr : rtR a = true) (o i : Int) : ∃ X : List (List D), call ir 16 [vHs a, .d (.list 10 [[.int .i64 o, .bool false, .bool false, .int .i64 0, .int .i64 0, .str [], .int .i64 0, .int .i64 0, .list 4 [], .list 1 [[.int .i64 i]]]])] [] = some (.tup [.own 0 6 0 X.length false, dI (lostE i (fndO o a))], [.arr 6 X]) := by
  rw [call_eq (fn := ir16) rfl, evF_bnd]
  have hlen := ha.1
  have h1 := t_right48 a (by omega) (sml_b ha)
  rw [hr] at h1
  have h2 := t_rise1 o false [[.int .i64 i]]
  have hlm : (a.map hdRow).length = a.length := List.length_map ..
  have hcl := c_cloneH a (by omega)
  have hf := t_findO o a (by omega)
  have hd := c_delH 34 [.int .i64 o, .bool false, .bool false, .int .i64 0, .int .i64 0, .str [], .int .i64 0, .int .i64 0, .list 4 [], .list 1 [[.int .i64 i]]] o (fun d => c_own1 o d _ _ _ _ _ _ _ _ _) a (by omega)
  have hp := ((rt_iff a).1 hr)
  have hle : (a.filter (noO o)).length ≤ a.length := List.length_filter_le ..
  cases hfo : fndO o a with
  | none =>
    rw [hfo] at hf
    simp only [Option.isSome_none, Option.getD_none] at hf
    unfold d0 at hf
    have hcn : call ir 36 [.agg [dI 0, dI 0, dS [], dI 0, dI 0, .d (.list 4 [])], dT false, .agg [.d (.int .i64 o), .d (.bool false), .d (.bool false), .d (.int .i64 0), .d (.int .i64 0), .d (.str []), .d (.int .i64 0), .d (.int .i64 0), .d (.list 4 []), .d (.list 1 [[.int .i64 i]])]] [] = some (.tup [.agg [dI 0, dI 0, dS [], dI 0, dI 0, .d (.list 4 [])], dI 8], []) := t_chg_none d0 o i
    refine ⟨[], ?_⟩
    simp (maxSteps := 2000000) (disch := omega) only [go_sem, doCall, doCallQ, doCallP, Nat.reduceAdd, Nat.reduceMul, Nat.reduceSub, Nat.reduceDiv, Nat.reduceMod, Nat.reduceLT, Nat.reduceLeDiff, Nat.reduceEqDiff, Nat.reduceBEq, Nat.reduceBNe, Int.reduceToNat, Int.reduceLT, Int.reduceLE, Int.reduceEq, Int.reduceNe, Int.reduceAdd, Int.reduceSub, Int.reduceMul, Int.reduceNeg, bd16, h1, h2, hcl, hlm, Int.natCast_nonneg, Int.toNat_natCast, Option.getD_some, Option.getD_none, List.drop_zero, Nat.sub_zero, Nat.zero_le, true_and, and_true, Nat.le_refl, chk_of]
    rw [loop_step1]; simp (maxSteps := 2000000) only [go_sem, doCall, doCallQ, doCallP, Nat.reduceAdd, Nat.reduceMul, Nat.reduceSub, Nat.reduceDiv, Nat.reduceMod, Nat.reduceLT, Nat.reduceLeDiff, Nat.reduceEqDiff, Nat.reduceBEq, Nat.reduceBNe, Int.reduceToNat, Int.reduceLT, Int.reduceLE, Int.reduceEq, Int.reduceNe, Int.reduceAdd, Int.reduceSub, Int.reduceMul, Int.reduceNeg]
    refine (lp_apc a (by omega) (sml_c ha) _ _ 0 (Nat.zero_le _)).trans ?_
    simp (maxSteps := 2000000) (disch := omega) only [go_sem, doCall, doCallQ, doCallP, Nat.reduceAdd, Nat.reduceMul, Nat.reduceSub, Nat.reduceDiv, Nat.reduceMod, Nat.reduceLT, Nat.reduceLeDiff, Nat.reduceEqDiff, Nat.reduceBEq, Nat.reduceBNe, Int.reduceToNat, Int.reduceLT, Int.reduceLE, Int.reduceEq, Int.reduceNe, Int.reduceAdd, Int.reduceSub, Int.reduceMul, Int.reduceNeg, List.length_cons, List.length_nil, Nat.zero_add, Int.natCast_nonneg, Int.toNat_natCast, Option.getD_some, Option.getD_none, List.drop_zero, Nat.sub_zero, Nat.zero_le, true_and, and_true, Nat.le_refl, chk_of]
    rw [loop_step1]
    simp (maxSteps := 2000000) (disch := omega) only [go_sem, doCall, doCallQ, doCallP, Nat.reduceAdd, Nat.reduceMul, Nat.reduceSub, Nat.reduceDiv, Nat.reduceMod, Nat.reduceLT, Nat.reduceLeDiff, Nat.reduceEqDiff, Nat.reduceBEq, Nat.reduceBNe, Int.reduceToNat, Int.reduceLT, Int.reduceLE, Int.reduceEq, Int.reduceNe, Int.reduceAdd, Int.reduceSub, Int.reduceMul, Int.reduceNeg, u16_1, lb16_1, hf, hd, hcn, List.map_nil, List.length_cons, List.length_nil, Nat.zero_add, List.getD_cons_zero, List.set_cons_zero, List.set_cons_succ, Int.natCast_nonneg, Int.toNat_natCast, Option.getD_some, Option.getD_none, List.drop_zero, Nat.sub_zero, Nat.zero_le, true_and, and_true, Nat.le_refl, chk_of]
    rfl
  | some d =>
    rw [hfo] at hf
    simp only [Option.isSome_some, Option.getD_some] at hf
    obtain ⟨hda, hdo⟩ := fnd_in hfo
    have hone := hp.1 d hda
    have hsd := ha.2 d hda
    have hrs : rises d.ps := ((one_iff d).1 hone).2
    have hat := find_at i d.ps
    cases hfm : findM i (d.ps.map pcE) with
    | none =>
      rw [hfm] at hat
      have hcn := t_chg_no d (by omega) hrs o i hfm
      rw [show lostE i (some d) = if atP i d.ps then 0 else 8 from rfl, ← hat]
      refine ⟨[], ?_⟩
      simp (maxSteps := 2000000) (disch := omega) only [go_sem, doCall, doCallQ, doCallP, Nat.reduceAdd, Nat.reduceMul, Nat.reduceSub, Nat.reduceDiv, Nat.reduceMod, Nat.reduceLT, Nat.reduceLeDiff, Nat.reduceEqDiff, Nat.reduceBEq, Nat.reduceBNe, Int.reduceToNat, Int.reduceLT, Int.reduceLE, Int.reduceEq, Int.reduceNe, Int.reduceAdd, Int.reduceSub, Int.reduceMul, Int.reduceNeg, bd16, h1, h2, hcl, hlm, Int.natCast_nonneg, Int.toNat_natCast, Option.getD_some, Option.getD_none, List.drop_zero, Nat.sub_zero, Nat.zero_le, true_and, and_true, Nat.le_refl, chk_of]
      rw [loop_step1]; simp (maxSteps := 2000000) only [go_sem, doCall, doCallQ, doCallP, Nat.reduceAdd, Nat.reduceMul, Nat.reduceSub, Nat.reduceDiv, Nat.reduceMod, Nat.reduceLT, Nat.reduceLeDiff, Nat.reduceEqDiff, Nat.reduceBEq, Nat.reduceBNe, Int.reduceToNat, Int.reduceLT, Int.reduceLE, Int.reduceEq, Int.reduceNe, Int.reduceAdd, Int.reduceSub, Int.reduceMul, Int.reduceNeg]
      refine (lp_apc a (by omega) (sml_c ha) _ _ 0 (Nat.zero_le _)).trans ?_
      simp (maxSteps := 2000000) (disch := omega) only [go_sem, doCall, doCallQ, doCallP, Nat.reduceAdd, Nat.reduceMul, Nat.reduceSub, Nat.reduceDiv, Nat.reduceMod, Nat.reduceLT, Nat.reduceLeDiff, Nat.reduceEqDiff, Nat.reduceBEq, Nat.reduceBNe, Int.reduceToNat, Int.reduceLT, Int.reduceLE, Int.reduceEq, Int.reduceNe, Int.reduceAdd, Int.reduceSub, Int.reduceMul, Int.reduceNeg, List.length_cons, List.length_nil, Nat.zero_add, Int.natCast_nonneg, Int.toNat_natCast, Option.getD_some, Option.getD_none, List.drop_zero, Nat.sub_zero, Nat.zero_le, true_and, and_true, Nat.le_refl, chk_of]
      rw [loop_step1]
      simp (maxSteps := 2000000) (disch := omega) only [go_sem, doCall, doCallQ, doCallP, Nat.reduceAdd, Nat.reduceMul, Nat.reduceSub, Nat.reduceDiv, Nat.reduceMod, Nat.reduceLT, Nat.reduceLeDiff, Nat.reduceEqDiff, Nat.reduceBEq, Nat.reduceBNe, Int.reduceToNat, Int.reduceLT, Int.reduceLE, Int.reduceEq, Int.reduceNe, Int.reduceAdd, Int.reduceSub, Int.reduceMul, Int.reduceNeg, u16_1, lb16_1, hf, hd, hcn, List.length_cons, List.length_nil, Nat.zero_add, List.getD_cons_zero, List.set_cons_zero, List.set_cons_succ, Int.natCast_nonneg, Int.toNat_natCast, Option.getD_some, Option.getD_none, List.drop_zero, Nat.sub_zero, Nat.zero_le, true_and, and_true, Nat.le_refl, chk_of]
      rfl
    | some x =>
      obtain ⟨p, rfl⟩ := find_pc hfm
      rw [hfm] at hat
      obtain ⟨v, H, hv, hsc, hvw⟩ := t_chg_yes d (by omega) hrs (hI d hda) (fun p hp => by have := hsd.2 p hp; omega) o i p hfm
      rw [show lostE i (some d) = if atP i d.ps then 0 else 8 from rfl, ← hat]
      have hG : ((lostH i d).ps.map pcRow) = ((d.ps.filter (noI i)).map pcRow) := rfl
      have hnd := lost_nod (i := i) hp.2 hdo
      have hs := c_sortH48 (a.filter (noO o) ++ [lostH i d]) (by simp; omega) hnd [] false
      have hst := srt_strict hnd
      have hpm := srtK_perm (·.ob) (a.filter (noO o) ++ [lostH i d])
      have hrS : rtR (srtK (·.ob) (a.filter (noO o) ++ [lostH i d])) = true := (rt_iff _).2 ⟨fun q hq => by
        rcases List.mem_append.1 (hpm.mem_iff.1 hq) with h | h
        · exact hp.1 q (List.mem_filter.1 h).1
        · rw [List.mem_singleton.1 h]; exact lost_one hone, hst⟩
      have h3 := t_rightO (srtK (·.ob) (a.filter (noO o) ++ [lostH i d])) false (by rw [srtK_len]; simp; omega) (fun q hq => by
        rcases List.mem_append.1 (hpm.mem_iff.1 hq) with h | h
        · exact sml_b ha q (List.mem_filter.1 h).1
        · rw [List.mem_singleton.1 h]
          have := List.length_filter_le (noI i) d.ps
          show (d.ps.filter (noI i)).length ≤ _
          omega) []
      rw [hrS, List.append_nil] at h3
      have hsl : (srtK (·.ob) (a.filter (noO o) ++ [lostH i d])).length = (a.filter (noO o)).length + 1 := by rw [srtK_len]; simp
      have hfl : (a.filter (noO o) ++ [lostH i d]).length = (a.filter (noO o)).length + 1 := by simp
      rw [hsl] at h3
      rw [hfl, List.append_nil, List.append_nil, List.map_append] at hs
      have hs : call ir 37 [.own 0 6 0 ((a.filter (noO o)).length + 1) false, .clo (.func 38) [] []] [.arr 6 ((a.filter (noO o)).map hdRow ++ [[.int .i64 d.ob, .int .i64 d.ge, .str d.tg, .int .i64 d.le, .int .i64 d.ti, .list 4 ((d.ps.filter (noI i)).map pcRow)]])] = some (.tup [], [.arr 6 ((srtK (·.ob) (a.filter (noO o) ++ [lostH i d])).map hdRow)]) := hs
      generalize srtK (·.ob) (a.filter (noO o) ++ [lostH i d]) = S at hs h3 hsl
      generalize a.filter (noO o) = F at hd hs h3 hle hsl
      have hlF : (F.map hdRow).length = F.length := List.length_map ..
      have hlS : (S.map hdRow).length = F.length + 1 := by rw [List.length_map, hsl]
      have htk : (F.map hdRow).take F.length = F.map hdRow := by rw [← hlF, List.take_length]
      have htS : (S.map hdRow).take (F.length + 1) = S.map hdRow := by rw [← hlS, List.take_length]
      refine ⟨S.map hdRow, ?_⟩
      rw [hlS]
      simp (maxSteps := 2000000) (disch := omega) only [go_sem, doCall, doCallQ, doCallP, Nat.reduceAdd, Nat.reduceMul, Nat.reduceSub, Nat.reduceDiv, Nat.reduceMod, Nat.reduceLT, Nat.reduceLeDiff, Nat.reduceEqDiff, Nat.reduceBEq, Nat.reduceBNe, Int.reduceToNat, Int.reduceLT, Int.reduceLE, Int.reduceEq, Int.reduceNe, Int.reduceAdd, Int.reduceSub, Int.reduceMul, Int.reduceNeg, bd16, h1, h2, hcl, hlm, Int.natCast_nonneg, Int.toNat_natCast, Option.getD_some, Option.getD_none, List.drop_zero, Nat.sub_zero, Nat.zero_le, true_and, and_true, Nat.le_refl, chk_of]
      rw [loop_step1]; simp (maxSteps := 2000000) only [go_sem, doCall, doCallQ, doCallP, Nat.reduceAdd, Nat.reduceMul, Nat.reduceSub, Nat.reduceDiv, Nat.reduceMod, Nat.reduceLT, Nat.reduceLeDiff, Nat.reduceEqDiff, Nat.reduceBEq, Nat.reduceBNe, Int.reduceToNat, Int.reduceLT, Int.reduceLE, Int.reduceEq, Int.reduceNe, Int.reduceAdd, Int.reduceSub, Int.reduceMul, Int.reduceNeg]
      refine (lp_apc a (by omega) (sml_c ha) _ _ 0 (Nat.zero_le _)).trans ?_
      simp (maxSteps := 2000000) (disch := omega) only [go_sem, doCall, doCallQ, doCallP, Nat.reduceAdd, Nat.reduceMul, Nat.reduceSub, Nat.reduceDiv, Nat.reduceMod, Nat.reduceLT, Nat.reduceLeDiff, Nat.reduceEqDiff, Nat.reduceBEq, Nat.reduceBNe, Int.reduceToNat, Int.reduceLT, Int.reduceLE, Int.reduceEq, Int.reduceNe, Int.reduceAdd, Int.reduceSub, Int.reduceMul, Int.reduceNeg, List.length_cons, List.length_nil, Nat.zero_add, Int.natCast_nonneg, Int.toNat_natCast, Option.getD_some, Option.getD_none, List.drop_zero, Nat.sub_zero, Nat.zero_le, true_and, and_true, Nat.le_refl, chk_of]
      rw [loop_step1]
      simp (maxSteps := 2000000) (disch := omega) only [go_sem, doCall, doCallQ, doCallP, Nat.reduceAdd, Nat.reduceMul, Nat.reduceSub, Nat.reduceDiv, Nat.reduceMod, Nat.reduceLT, Nat.reduceLeDiff, Nat.reduceEqDiff, Nat.reduceBEq, Nat.reduceBNe, Int.reduceToNat, Int.reduceLT, Int.reduceLE, Int.reduceEq, Int.reduceNe, Int.reduceAdd, Int.reduceSub, Int.reduceMul, Int.reduceNeg, u16_1, lb16_1, hf, hd, hv, hsc, hvw, hlF, htk, w1, List.length_cons, List.length_nil, Nat.zero_add, List.getD_cons_zero, List.set_cons_zero, List.set_cons_succ, Int.natCast_nonneg, Int.toNat_natCast, Option.getD_some, Option.getD_none, List.drop_zero, Nat.sub_zero, Nat.zero_le, true_and, and_true, Nat.le_refl, chk_of]
      rw [loop_step1]
      simp (maxSteps := 2000000) (disch := omega) only [go_sem, doCall, doCallQ, doCallP, Nat.reduceAdd, Nat.reduceMul, Nat.reduceSub, Nat.reduceDiv, Nat.reduceMod, Nat.reduceLT, Nat.reduceLeDiff, Nat.reduceEqDiff, Nat.reduceBEq, Nat.reduceBNe, Int.reduceToNat, Int.reduceLT, Int.reduceLE, Int.reduceEq, Int.reduceNe, Int.reduceAdd, Int.reduceSub, Int.reduceMul, Int.reduceNeg, u16_1, lb16_1, hs, h3, hlF, hlS, htS, w1, Int.lt_irrefl, List.length_cons, List.length_nil, Nat.zero_add, List.getD_cons_zero, List.set_cons_zero, List.set_cons_succ, Int.natCast_nonneg, Int.toNat_natCast, Option.getD_some, Option.getD_none, List.drop_zero, Nat.sub_zero, Nat.zero_le, true_and, and_true, Nat.le_refl, chk_of]
      rfl
end Go.Proofs.Ytbcpffhialoliaa
