/- Reading parts: what takes a text, and what takes to the end of a line. Own work. Reading parts: a Content-Range as the program reads it. Own work. Reading parts: a field's content, and a part. Own work. Reading parts: all of them. Own work. -/
import Derived.Test.YtpibecljdooilaaDoorAbb
import Derived.Test.YtpibecljdooilaaDoorIrR
import Derived.Test.YtpibecljdooilaaDoorEvNatW
import Derived.Test.YtpibecljdooilaaDoorPrwB
import Derived.Test.YtpibecljdooilaaDoorPrwE
import Derived.Test.YtpibecljdooilaaDoorCnt
import Derived.Test.YtpibecljdooilaaDoorMulA
namespace Go.Proofs.YtpibecljdooilaaDoor
open Go Go.Ev Go.Proofs.YtpibecljdooilaaDoor.Ir
set_option maxRecDepth 100000
set_option maxHeartbeats 4000000
set_option linter.unusedSimpArgs false
set_option linter.unusedVariables false
abbrev lB (b : List UInt8) : AV := .d (.list 1 (rB b))
theorem b_str {α : Type} (h : Heap) (b : List UInt8) (K : AV × Heap → Option α) : b2sA h (lB b) = some (dS b) := by simp [b2sA, AV.asStr, tailA, bytesOf_rB]
theorem t_equal (a b : List UInt8) : call ir 44 [lB a, lB b] [] = some (dT (decide (a = b)), []) := by
  rw [call_eq (fn := ir44) rfl, evF_bnd]
  simp (maxSteps := 2000000) (disch := omega) only [go_sem, doCall, doCallQ, doCallP, Nat.reduceAdd, Nat.reduceMul, Nat.reduceSub, Nat.reduceDiv, Nat.reduceMod, Nat.reduceLT, Nat.reduceLeDiff, Nat.reduceEqDiff, Nat.reduceBEq, Nat.reduceBNe, Int.reduceToNat, Int.reduceLT, Int.reduceLE, Int.reduceEq, Int.reduceNe, Int.reduceAdd, Int.reduceSub, Int.reduceMul, Int.reduceNeg, bd44, b2sA, AV.asStr, tailA, bytesOf_rB, if_true, chk_of]
def pre (p s : List UInt8) : Bool := decide (s.take p.length = p)
theorem rB_take' (b : List UInt8) (n : Nat) : (rB b).take n = rB (b.take n) := by simp [rB, List.map_take]
theorem rB_drop' (b : List UInt8) (n : Nat) : (rB b).drop n = rB (b.drop n) := by simp [rB, List.map_drop]
theorem pre_len {p s : List UInt8} (h : pre p s = true) : p.length ≤ s.length := by
  have := of_decide_eq_true h
  have h2 := congrArg List.length this
  rw [List.length_take] at h2; omega
theorem t_haspre (s p : List UInt8) (hs : s.length ≤ 1000000000) (hp : p.length ≤ 1000000000) : call ir 71 [lB s, lB p] [] = some (dT (pre p s), []) := by
  rw [call_eq (fn := ir71) rfl, evF_bnd]
  have he := t_equal (s.take p.length) p
  by_cases h : p.length ≤ s.length
  · have h' := eq_true (show (p.length : Int) ≤ s.length by omega)
    simp (maxSteps := 2000000) (disch := omega) only [go_sem, doCall, doCallQ, doCallP, Nat.reduceAdd, Nat.reduceMul, Nat.reduceSub, Nat.reduceDiv, Nat.reduceMod, Nat.reduceLT, Nat.reduceLeDiff, Nat.reduceEqDiff, Nat.reduceBEq, Nat.reduceBNe, Int.reduceToNat, Int.reduceLT, Int.reduceLE, Int.reduceEq, Int.reduceNe, Int.reduceAdd, Int.reduceSub, Int.reduceMul, Int.reduceNeg, bd71, rB_len, h', rB_take', he, Int.natCast_nonneg, Int.toNat_natCast, Option.getD_some, Option.getD_none, List.drop_zero, Nat.sub_zero, Nat.zero_le, true_and, and_true, Nat.le_refl, chk_of]
    rfl
  · have h' := eq_false (show ¬ (p.length : Int) ≤ s.length by omega)
    have hf : pre p s = false := by cases e : pre p s; rfl; exact absurd (pre_len e) h
    rw [hf]
    simp (maxSteps := 2000000) (disch := omega) only [go_sem, doCall, doCallQ, doCallP, Nat.reduceAdd, Nat.reduceMul, Nat.reduceSub, Nat.reduceDiv, Nat.reduceMod, Nat.reduceLT, Nat.reduceLeDiff, Nat.reduceEqDiff, Nat.reduceBEq, Nat.reduceBNe, Int.reduceToNat, Int.reduceLT, Int.reduceLE, Int.reduceEq, Int.reduceNe, Int.reduceAdd, Int.reduceSub, Int.reduceMul, Int.reduceNeg, bd71, rB_len, h', Int.natCast_nonneg, Int.toNat_natCast, Option.getD_some, Option.getD_none, List.drop_zero, Nat.sub_zero, Nat.zero_le, true_and, and_true, Nat.le_refl, chk_of]
theorem t_cutpre (s p : List UInt8) (hs : s.length ≤ 1000000000) (hp : p.length ≤ 1000000000) : call ir 100 [lB s, lB p] [] = some (.tup [lB (if pre p s then s.drop p.length else s), dT (pre p s)], []) := by
  rw [call_eq (fn := ir100) rfl, evF_bnd]
  have he := t_haspre s p hs hp
  cases h : pre p s
  · rw [h] at he
    rw [if_neg (by simp)]
    simp (maxSteps := 2000000) (disch := omega) only [go_sem, doCall, doCallQ, doCallP, Nat.reduceAdd, Nat.reduceMul, Nat.reduceSub, Nat.reduceDiv, Nat.reduceMod, Nat.reduceLT, Nat.reduceLeDiff, Nat.reduceEqDiff, Nat.reduceBEq, Nat.reduceBNe, Int.reduceToNat, Int.reduceLT, Int.reduceLE, Int.reduceEq, Int.reduceNe, Int.reduceAdd, Int.reduceSub, Int.reduceMul, Int.reduceNeg, bd100, he, chk_of]
  · rw [h] at he
    have hl := pre_len h
    have htk : List.take (s.length - p.length) (rB (s.drop p.length)) = rB (s.drop p.length) := List.take_of_length_le (by rw [rB_len, List.length_drop]; exact Nat.le_refl _)
    rw [if_pos rfl]
    simp (maxSteps := 2000000) (disch := omega) only [go_sem, doCall, doCallQ, doCallP, Nat.reduceAdd, Nat.reduceMul, Nat.reduceSub, Nat.reduceDiv, Nat.reduceMod, Nat.reduceLT, Nat.reduceLeDiff, Nat.reduceEqDiff, Nat.reduceBEq, Nat.reduceBNe, Int.reduceToNat, Int.reduceLT, Int.reduceLE, Int.reduceEq, Int.reduceNe, Int.reduceAdd, Int.reduceSub, Int.reduceMul, Int.reduceNeg, bd100, he, rB_len, rB_drop', htk, Int.natCast_nonneg, Int.toNat_natCast, Option.getD_some, Option.getD_none, List.drop_zero, Nat.sub_zero, Nat.zero_le, true_and, and_true, Nat.le_refl, chk_of]
abbrev rdB (b s : List UInt8) (n : Int) : Blk := .dbox [.list 1 (rB b), .str s, .int .i64 n]
abbrev bad3 : AV := .ifc 127 (.agg [dI 3])
theorem t_take (b s p : List UInt8) (n : Int) (hb : b.length ≤ 1000000) (hp : p.length ≤ 1000000) :
    call ir 70 [.ptr 0 0, dS p] [rdB b s n] = if pre p b then some (.d .nili, [rdB (b.drop p.length) s n]) else some (bad3, [rdB b s n]) := by
  rw [call_eq (fn := ir70) rfl, evF_bnd]
  have he := t_cutpre b p (by omega) (by omega)
  have hpl : List.take p.length (rB p) = rB p := List.take_of_length_le (by rw [rB_len]; exact Nat.le_refl _)
  have hrs : (p.map fun c => [D.int .u8 c.toNat]) = rB p := rfl
  cases h : pre p b
  · rw [h, if_neg (by simp)] at he
    rw [if_neg (by simp)]
    simp (maxSteps := 2000000) (disch := omega) only [go_sem, doCall, doCallQ, doCallP, Nat.reduceAdd, Nat.reduceMul, Nat.reduceSub, Nat.reduceDiv, Nat.reduceMod, Nat.reduceLT, Nat.reduceLeDiff, Nat.reduceEqDiff, Nat.reduceBEq, Nat.reduceBNe, Int.reduceToNat, Int.reduceLT, Int.reduceLE, Int.reduceEq, Int.reduceNe, Int.reduceAdd, Int.reduceSub, Int.reduceMul, Int.reduceNeg, bd70, he, hrs, hpl, rB_len, Nat.zero_add, if_true, Int.natCast_nonneg, Int.toNat_natCast, Option.getD_some, Option.getD_none, List.drop_zero, Nat.sub_zero, Nat.zero_le, true_and, and_true, Nat.le_refl, chk_of]
  · rw [h, if_pos rfl] at he
    rw [if_pos rfl]
    simp (maxSteps := 2000000) (disch := omega) only [go_sem, doCall, doCallQ, doCallP, Nat.reduceAdd, Nat.reduceMul, Nat.reduceSub, Nat.reduceDiv, Nat.reduceMod, Nat.reduceLT, Nat.reduceLeDiff, Nat.reduceEqDiff, Nat.reduceBEq, Nat.reduceBNe, Int.reduceToNat, Int.reduceLT, Int.reduceLE, Int.reduceEq, Int.reduceNe, Int.reduceAdd, Int.reduceSub, Int.reduceMul, Int.reduceNeg, bd70, he, hrs, hpl, rB_len, Nat.zero_add, if_true, Int.natCast_nonneg, Int.toNat_natCast, Option.getD_some, Option.getD_none, List.drop_zero, Nat.sub_zero, Nat.zero_le, true_and, and_true, Nat.le_refl, chk_of]
theorem t_bcut (b : List UInt8) (hb : b.length ≤ 1000000) : call ir 146 [lB b, .d (.list 1 [[.int .u8 13], [.int .u8 10]])] [] = some (.tup (cutD b [13, 10]), []) := by
  rw [call_nat (by rfl), nat_eq]
  refine (natOr_r (by rfl)).trans (natOr_l ?_)
  exact natCut_eq 146 b [13, 10] ⟨by simp, by simp; omega⟩
theorem t_until (b s : List UInt8) (n : Int) (hb : b.length ≤ 1000000) :
    call ir 125 [.ptr 0 0] [rdB b s n] = if 0 ≤ Lib.index b [13, 10] then some (.tup [dS (b.take (Lib.index b [13, 10]).toNat), .d .nili], [rdB (b.drop ((Lib.index b [13, 10]).toNat + 2)) s n])
      else some (.tup [dS [], bad3], [rdB b s n]) := by
  rw [call_eq (fn := ir125) rfl, evF_bnd]
  have he := t_bcut b hb
  unfold cutD at he
  by_cases h : 0 ≤ Lib.index b [13, 10]
  · rw [if_pos h] at he
    rw [if_pos h]
    generalize (Lib.index b [13, 10]).toNat = i at he
    simp (maxSteps := 2000000) (disch := omega) only [go_sem, doCall, doCallQ, doCallP, Nat.reduceAdd, Nat.reduceMul, Nat.reduceSub, Nat.reduceDiv, Nat.reduceMod, Nat.reduceLT, Nat.reduceLeDiff, Nat.reduceEqDiff, Nat.reduceBEq, Nat.reduceBNe, Int.reduceToNat, Int.reduceLT, Int.reduceLE, Int.reduceEq, Int.reduceNe, Int.reduceAdd, Int.reduceSub, Int.reduceMul, Int.reduceNeg, bd125, he, b2sA, AV.asStr, tailA, bytesOf_rB, List.length_cons, List.length_nil, Nat.zero_add, if_true, Int.natCast_nonneg, Int.toNat_natCast, Option.getD_some, Option.getD_none, List.drop_zero, Nat.sub_zero, Nat.zero_le, true_and, and_true, Nat.le_refl, chk_of]
  · rw [if_neg h] at he
    rw [if_neg h]
    simp (maxSteps := 2000000) (disch := omega) only [go_sem, doCall, doCallQ, doCallP, Nat.reduceAdd, Nat.reduceMul, Nat.reduceSub, Nat.reduceDiv, Nat.reduceMod, Nat.reduceLT, Nat.reduceLeDiff, Nat.reduceEqDiff, Nat.reduceBEq, Nat.reduceBNe, Int.reduceToNat, Int.reduceLT, Int.reduceLE, Int.reduceEq, Int.reduceNe, Int.reduceAdd, Int.reduceSub, Int.reduceMul, Int.reduceNeg, bd125, he, List.length_cons, List.length_nil, Nat.zero_add, if_true, Int.natCast_nonneg, Int.toNat_natCast, Option.getD_some, Option.getD_none, List.drop_zero, Nat.sub_zero, Nat.zero_le, true_and, and_true, Nat.le_refl, chk_of]
theorem t_bclone (b : List UInt8) (hb : b.length ≤ 1000000) : call ir 47 [lB b] [] = some (lB b, []) := by
  rw [call_nat (by rfl), nat_eq]
  refine (natOr_r (by rfl)).trans ((natOr_r (by rfl)).trans ((natOr_r (by rfl)).trans (natOr_l ?_)))
  rw [natBC_eq _ (show u8s (rB b) = some _ from u8s_map b), if_pos (by simp; omega)]
end Go.Proofs.YtpibecljdooilaaDoor
namespace Go.Proofs.YtpibecljdooilaaDoor
open Go Go.Ev Go.Proofs.YtpibecljdooilaaDoor.Ir Go.Prs
set_option maxRecDepth 100000
set_option maxHeartbeats 4000000
set_option linter.unusedSimpArgs false
set_option linter.unusedVariables false
def numE (e : Int) (s : List UInt8) : Int := if (prs s).2 = 3 ∨ e = 0 then (prs s).2 else e
theorem t_number (e : Int) (s : List UInt8) (hs : s.length ≤ 1000000000) : call ir 108 [.ptr 0 0, dS s] [.dbox [.int .i64 e]] = some (dI (prs s).1, [.dbox [.int .i64 (numE e s)]]) := by
  rw [call_eq (fn := ir108) rfl, evF_bnd]
  have h := t_parse s hs
  unfold numE
  generalize (prs s).1 = v at h
  generalize (prs s).2 = r at h
  by_cases h1 : r = 3
  · have h1' := eq_true h1
    rw [if_pos (.inl h1)]
    simp (maxSteps := 2000000) (disch := omega) only [go_sem, doCall, doCallQ, doCallP, Nat.reduceAdd, Nat.reduceMul, Nat.reduceSub, Nat.reduceDiv, Nat.reduceMod, Nat.reduceLT, Nat.reduceLeDiff, Nat.reduceEqDiff, Nat.reduceBEq, Nat.reduceBNe, Int.reduceToNat, Int.reduceLT, Int.reduceLE, Int.reduceEq, Int.reduceNe, Int.reduceAdd, Int.reduceSub, Int.reduceMul, Int.reduceNeg, bd108, h, h1', chk_of]
  · have h1' := eq_false h1
    by_cases h2 : e = 0
    · have h2' := eq_true h2
      rw [if_pos (.inr h2)]
      simp (maxSteps := 2000000) (disch := omega) only [go_sem, doCall, doCallQ, doCallP, Nat.reduceAdd, Nat.reduceMul, Nat.reduceSub, Nat.reduceDiv, Nat.reduceMod, Nat.reduceLT, Nat.reduceLeDiff, Nat.reduceEqDiff, Nat.reduceBEq, Nat.reduceBNe, Int.reduceToNat, Int.reduceLT, Int.reduceLE, Int.reduceEq, Int.reduceNe, Int.reduceAdd, Int.reduceSub, Int.reduceMul, Int.reduceNeg, bd108, h, h1', h2', chk_of]
    · have h2' := eq_false h2
      rw [if_neg (by simp [h1, h2])]
      simp (maxSteps := 2000000) (disch := omega) only [go_sem, doCall, doCallQ, doCallP, Nat.reduceAdd, Nat.reduceMul, Nat.reduceSub, Nat.reduceDiv, Nat.reduceMod, Nat.reduceLT, Nat.reduceLeDiff, Nat.reduceEqDiff, Nat.reduceBEq, Nat.reduceBNe, Int.reduceToNat, Int.reduceLT, Int.reduceLE, Int.reduceEq, Int.reduceNe, Int.reduceAdd, Int.reduceSub, Int.reduceMul, Int.reduceNeg, bd108, h, h1', h2', chk_of]
theorem prs_bd (s : List UInt8) : 0 ≤ (prs s).1 ∧ (prs s).1 ≤ 4611686018427387903 := by
  unfold prs
  split
  · simp
  · split
    · simp
    · simp only; omega
def bytesW : List UInt8 := [98, 121, 116, 101, 115]
/-- What a Content-Range's pieces say: behind the unit. -/
def cpV (at' total : List UInt8) : (Bool × Int × Int × Int) × Int :=
  let c := cut 45 at'
  if at' = [42] then
    (let v := (false, (0 : Int), (0 : Int), if total = [42] then -1 else (prs total).1)
     let e := if total = [42] then 0 else numE 0 total
     if e ≠ 0 then ((false, 0, 0, 0), e) else if CntR v.1 v.2.1 v.2.2.1 v.2.2.2 then (v, 0) else ((false, 0, 0, 0), 3))
  else if c.2.2 = false then ((false, 0, 0, 0), 3) else
    (let v := (true, (prs c.1).1, (prs c.2.1).1 + 1, if total = [42] then -1 else (prs total).1)
     let e1 := numE (numE 0 c.1) c.2.1
     let e := if total = [42] then e1 else numE e1 total
     if e ≠ 0 then ((false, 0, 0, 0), e) else if CntR v.1 v.2.1 v.2.2.1 v.2.2.2 then (v, 0) else ((false, 0, 0, 0), 3))
def cp (s : List UInt8) : (Bool × Int × Int × Int) × Int :=
  if (cut 32 s).2.2 = false ∨ (cut 47 (cut 32 s).2.1).2.2 = false ∨ (cut 32 s).1.map low ≠ bytesW then ((false, 0, 0, 0), 3)
  else cpV (cut 47 (cut 32 s).2.1).1 (cut 47 (cut 32 s).2.1).2.1
abbrev vC4 (x : Bool × Int × Int × Int) : AV := .agg [dT x.1, dI x.2.1, dI x.2.2.1, dI x.2.2.2]
theorem t_cparse (s : List UInt8) (hs : s.length ≤ 1000000) : call ir 74 [dS s] [] = some (.tup [vC4 (cp s).1, dI (cp s).2], []) := by
  rw [call_eq (fn := ir74) rfl, evF_bnd]
  have c1 : call ir 106 [dS s, .d (.int .u8 32)] [] = some (.tup [dS (cut 32 s).1, dS (cut 32 s).2.1, dT (cut 32 s).2.2], []) := t_cut s (by omega) 32
  have l1 := cut_len 32 s
  unfold cp
  generalize (cut 32 s).1 = u at c1 l1 ⊢
  generalize (cut 32 s).2.1 = rest at c1 l1 ⊢
  generalize (cut 32 s).2.2 = is at c1 ⊢
  have c2 : call ir 106 [dS rest, .d (.int .u8 47)] [] = some (.tup [dS (cut 47 rest).1, dS (cut 47 rest).2.1, dT (cut 47 rest).2.2], []) := t_cut rest (by omega) 47
  have l2 := cut_len 47 rest
  generalize (cut 47 rest).1 = at' at c2 l2 ⊢
  generalize (cut 47 rest).2.1 = total at c2 l2 ⊢
  generalize (cut 47 rest).2.2 = ok at c2 ⊢
  have hf := t_fold u bytesW (by omega) (by decide)
  have hbw : bytesW.map low = bytesW := by decide
  rw [hbw] at hf
  unfold bytesW at hf
  cases is
  · rw [if_pos (.inl rfl)]
    simp (maxSteps := 2000000) (disch := omega) only [go_sem, doCall, doCallQ, doCallP, Nat.reduceAdd, Nat.reduceMul, Nat.reduceSub, Nat.reduceDiv, Nat.reduceMod, Nat.reduceLT, Nat.reduceLeDiff, Nat.reduceEqDiff, Nat.reduceBEq, Nat.reduceBNe, Int.reduceToNat, Int.reduceLT, Int.reduceLE, Int.reduceEq, Int.reduceNe, Int.reduceAdd, Int.reduceSub, Int.reduceMul, Int.reduceNeg, bd74, c1, c2, chk_of]
  · cases ok
    · rw [if_pos (.inr (.inl rfl))]
      simp (maxSteps := 2000000) (disch := omega) only [go_sem, doCall, doCallQ, doCallP, Nat.reduceAdd, Nat.reduceMul, Nat.reduceSub, Nat.reduceDiv, Nat.reduceMod, Nat.reduceLT, Nat.reduceLeDiff, Nat.reduceEqDiff, Nat.reduceBEq, Nat.reduceBNe, Int.reduceToNat, Int.reduceLT, Int.reduceLE, Int.reduceEq, Int.reduceNe, Int.reduceAdd, Int.reduceSub, Int.reduceMul, Int.reduceNeg, bd74, c1, c2, chk_of]
    · by_cases hu : u.map low = bytesW
      · rw [if_neg (by simp [hu])]
        rw [decide_eq_true (by unfold bytesW at hu; exact hu)] at hf
        have nt := fun e => t_number e total (by omega)
        unfold cpV
        by_cases ha : at' = [42]
        · have ha' := eq_true ha
          rw [if_pos ha]
          by_cases ht : total = [42]
          · have ht' := eq_true ht
            have hr := t_cright false 0 0 (-1)
            have hcf : decide (CntR false 0 0 (-1)) = false := by decide
            rw [hcf] at hr
            simp only [ht, if_true]
            have hcf' : ¬ CntR false 0 0 (-1) := of_decide_eq_false hcf
            simp (maxSteps := 2000000) (disch := omega) only [go_sem, doCall, doCallQ, doCallP, Nat.reduceAdd, Nat.reduceMul, Nat.reduceSub, Nat.reduceDiv, Nat.reduceMod, Nat.reduceLT, Nat.reduceLeDiff, Nat.reduceEqDiff, Nat.reduceBEq, Nat.reduceBNe, Int.reduceToNat, Int.reduceLT, Int.reduceLE, Int.reduceEq, Int.reduceNe, Int.reduceAdd, Int.reduceSub, Int.reduceMul, Int.reduceNeg, bd74, c1, c2, hf, ha', ht', hr, chk_of]
            simp [hcf']
          · have ht' := eq_false ht
            have hr := t_cright false 0 0 (prs total).1
            have nt0 := nt 0
            simp only [ht, if_false]
            generalize (prs total).1 = tn at nt0 hr ⊢
            by_cases he : numE 0 total = 0
            · rw [he] at nt0
              by_cases hc : CntR false 0 0 tn
              · rw [decide_eq_true hc] at hr
                simp (maxSteps := 2000000) (disch := omega) only [go_sem, doCall, doCallQ, doCallP, Nat.reduceAdd, Nat.reduceMul, Nat.reduceSub, Nat.reduceDiv, Nat.reduceMod, Nat.reduceLT, Nat.reduceLeDiff, Nat.reduceEqDiff, Nat.reduceBEq, Nat.reduceBNe, Int.reduceToNat, Int.reduceLT, Int.reduceLE, Int.reduceEq, Int.reduceNe, Int.reduceAdd, Int.reduceSub, Int.reduceMul, Int.reduceNeg, bd74, c1, c2, hf, ha', ht', hr, nt0, chk_of]
                simp [he, hc]
              · rw [decide_eq_false hc] at hr
                simp (maxSteps := 2000000) (disch := omega) only [go_sem, doCall, doCallQ, doCallP, Nat.reduceAdd, Nat.reduceMul, Nat.reduceSub, Nat.reduceDiv, Nat.reduceMod, Nat.reduceLT, Nat.reduceLeDiff, Nat.reduceEqDiff, Nat.reduceBEq, Nat.reduceBNe, Int.reduceToNat, Int.reduceLT, Int.reduceLE, Int.reduceEq, Int.reduceNe, Int.reduceAdd, Int.reduceSub, Int.reduceMul, Int.reduceNeg, bd74, c1, c2, hf, ha', ht', hr, nt0, chk_of]
                simp [he, hc]
            · have he' := eq_false he
              simp (maxSteps := 2000000) (disch := omega) only [go_sem, doCall, doCallQ, doCallP, Nat.reduceAdd, Nat.reduceMul, Nat.reduceSub, Nat.reduceDiv, Nat.reduceMod, Nat.reduceLT, Nat.reduceLeDiff, Nat.reduceEqDiff, Nat.reduceBEq, Nat.reduceBNe, Int.reduceToNat, Int.reduceLT, Int.reduceLE, Int.reduceEq, Int.reduceNe, Int.reduceAdd, Int.reduceSub, Int.reduceMul, Int.reduceNeg, bd74, c1, c2, hf, ha', ht', hr, nt0, he', chk_of]
              try simp [he]
        · have ha' := eq_false ha
          rw [if_neg ha]
          have c3 : call ir 106 [dS at', .d (.int .u8 45)] [] = some (.tup [dS (cut 45 at').1, dS (cut 45 at').2.1, dT (cut 45 at').2.2], []) := t_cut at' (by omega) 45
          have l3 := cut_len 45 at'
          generalize (cut 45 at').1 = x at c3 l3 ⊢
          generalize (cut 45 at').2.1 = y at c3 l3 ⊢
          generalize (cut 45 at').2.2 = bo at c3 ⊢
          have nx := t_number 0 x (by omega)
          have ny := t_number (numE 0 x) y (by omega)
          have py := prs_bd y
          have hw : wr .i64 ((prs y).1 + 1) = (prs y).1 + 1 := wr_id (by omega)
          have hr0 := fun n => t_cright true (prs x).1 ((prs y).1 + 1) n
          generalize (prs x).1 = xn at nx hr0 ⊢
          generalize (prs y).1 = yn at ny hw hr0 ⊢
          generalize numE 0 x = e0 at nx ny ⊢
          generalize numE e0 y = e1 at ny ⊢
          cases bo
          · rw [if_pos rfl]
            simp (maxSteps := 2000000) (disch := omega) only [go_sem, doCall, doCallQ, doCallP, Nat.reduceAdd, Nat.reduceMul, Nat.reduceSub, Nat.reduceDiv, Nat.reduceMod, Nat.reduceLT, Nat.reduceLeDiff, Nat.reduceEqDiff, Nat.reduceBEq, Nat.reduceBNe, Int.reduceToNat, Int.reduceLT, Int.reduceLE, Int.reduceEq, Int.reduceNe, Int.reduceAdd, Int.reduceSub, Int.reduceMul, Int.reduceNeg, bd74, c1, c2, c3, hf, ha', chk_of]
          · rw [if_neg (by simp)]
            by_cases ht : total = [42]
            · have ht' := eq_true ht
              have hr := hr0 (-1)
              simp only [ht, if_true]
              by_cases he : e1 = 0
              · rw [he] at ny
                by_cases hc : CntR true xn (yn + 1) (-1)
                · rw [decide_eq_true hc] at hr
                  simp (maxSteps := 2000000) (disch := omega) only [go_sem, doCall, doCallQ, doCallP, Nat.reduceAdd, Nat.reduceMul, Nat.reduceSub, Nat.reduceDiv, Nat.reduceMod, Nat.reduceLT, Nat.reduceLeDiff, Nat.reduceEqDiff, Nat.reduceBEq, Nat.reduceBNe, Int.reduceToNat, Int.reduceLT, Int.reduceLE, Int.reduceEq, Int.reduceNe, Int.reduceAdd, Int.reduceSub, Int.reduceMul, Int.reduceNeg, bd74, c1, c2, c3, hf, ha', ht', hr, nx, ny, hw, chk_of]
                  simp [he, hc]
                · rw [decide_eq_false hc] at hr
                  simp (maxSteps := 2000000) (disch := omega) only [go_sem, doCall, doCallQ, doCallP, Nat.reduceAdd, Nat.reduceMul, Nat.reduceSub, Nat.reduceDiv, Nat.reduceMod, Nat.reduceLT, Nat.reduceLeDiff, Nat.reduceEqDiff, Nat.reduceBEq, Nat.reduceBNe, Int.reduceToNat, Int.reduceLT, Int.reduceLE, Int.reduceEq, Int.reduceNe, Int.reduceAdd, Int.reduceSub, Int.reduceMul, Int.reduceNeg, bd74, c1, c2, c3, hf, ha', ht', hr, nx, ny, hw, chk_of]
                  simp [he, hc]
              · have he' := eq_false he
                simp (maxSteps := 2000000) (disch := omega) only [go_sem, doCall, doCallQ, doCallP, Nat.reduceAdd, Nat.reduceMul, Nat.reduceSub, Nat.reduceDiv, Nat.reduceMod, Nat.reduceLT, Nat.reduceLeDiff, Nat.reduceEqDiff, Nat.reduceBEq, Nat.reduceBNe, Int.reduceToNat, Int.reduceLT, Int.reduceLE, Int.reduceEq, Int.reduceNe, Int.reduceAdd, Int.reduceSub, Int.reduceMul, Int.reduceNeg, bd74, c1, c2, c3, hf, ha', ht', hr, nx, ny, hw, he', chk_of]
                try simp [he]
            · have ht' := eq_false ht
              have nt0 := nt e1
              simp only [ht, if_false]
              generalize (prs total).1 = tn at nt0 ⊢
              have hr := hr0 tn
              by_cases he : numE e1 total = 0
              · rw [he] at nt0
                by_cases hc : CntR true xn (yn + 1) tn
                · rw [decide_eq_true hc] at hr
                  simp (maxSteps := 2000000) (disch := omega) only [go_sem, doCall, doCallQ, doCallP, Nat.reduceAdd, Nat.reduceMul, Nat.reduceSub, Nat.reduceDiv, Nat.reduceMod, Nat.reduceLT, Nat.reduceLeDiff, Nat.reduceEqDiff, Nat.reduceBEq, Nat.reduceBNe, Int.reduceToNat, Int.reduceLT, Int.reduceLE, Int.reduceEq, Int.reduceNe, Int.reduceAdd, Int.reduceSub, Int.reduceMul, Int.reduceNeg, bd74, c1, c2, c3, hf, ha', ht', hr, nx, ny, nt0, hw, chk_of]
                  simp [he, hc]
                · rw [decide_eq_false hc] at hr
                  simp (maxSteps := 2000000) (disch := omega) only [go_sem, doCall, doCallQ, doCallP, Nat.reduceAdd, Nat.reduceMul, Nat.reduceSub, Nat.reduceDiv, Nat.reduceMod, Nat.reduceLT, Nat.reduceLeDiff, Nat.reduceEqDiff, Nat.reduceBEq, Nat.reduceBNe, Int.reduceToNat, Int.reduceLT, Int.reduceLE, Int.reduceEq, Int.reduceNe, Int.reduceAdd, Int.reduceSub, Int.reduceMul, Int.reduceNeg, bd74, c1, c2, c3, hf, ha', ht', hr, nx, ny, nt0, hw, chk_of]
                  simp [he, hc]
              · have he' := eq_false he
                simp (maxSteps := 2000000) (disch := omega) only [go_sem, doCall, doCallQ, doCallP, Nat.reduceAdd, Nat.reduceMul, Nat.reduceSub, Nat.reduceDiv, Nat.reduceMod, Nat.reduceLT, Nat.reduceLeDiff, Nat.reduceEqDiff, Nat.reduceBEq, Nat.reduceBNe, Int.reduceToNat, Int.reduceLT, Int.reduceLE, Int.reduceEq, Int.reduceNe, Int.reduceAdd, Int.reduceSub, Int.reduceMul, Int.reduceNeg, bd74, c1, c2, c3, hf, ha', ht', hr, nx, ny, nt0, hw, he', chk_of]
                try simp [he]
      · rw [if_pos (.inr (.inr hu))]
        rw [decide_eq_false (by unfold bytesW at hu; exact hu)] at hf
        simp (maxSteps := 2000000) (disch := omega) only [go_sem, doCall, doCallQ, doCallP, Nat.reduceAdd, Nat.reduceMul, Nat.reduceSub, Nat.reduceDiv, Nat.reduceMod, Nat.reduceLT, Nat.reduceLeDiff, Nat.reduceEqDiff, Nat.reduceBEq, Nat.reduceBNe, Int.reduceToNat, Int.reduceLT, Int.reduceLE, Int.reduceEq, Int.reduceNe, Int.reduceAdd, Int.reduceSub, Int.reduceMul, Int.reduceNeg, bd74, c1, c2, hf, chk_of]
end Go.Proofs.YtpibecljdooilaaDoor
namespace Go.Proofs.YtpibecljdooilaaDoor
open Go Go.Ev Go.Proofs.YtpibecljdooilaaDoor.Ir Go.Prs
set_option maxRecDepth 100000
set_option maxHeartbeats 4000000
set_option linter.unusedSimpArgs false
set_option linter.unusedVariables false
abbrev z4 : Bool × Int × Int × Int := (false, 0, 0, 0)
def cpS (x : Bool × Int × Int × Int) : List UInt8 := cntS x.1 x.2.1 x.2.2.1 x.2.2.2
def ctOk (t : List UInt8) : Prop := (cp t).2 = 0 ∧ cpS (cp t).1 = t ∧ (cp t).1.1 = true ∧ 0 ≤ (cp t).1.2.2.2
instance (t : List UInt8) : Decidable (ctOk t) := by unfold ctOk; infer_instance
/-- The content, and what is left. -/
def ctR (b : List UInt8) : Option (Bool × Int × Int × Int) × List UInt8 :=
  if 0 ≤ Lib.index b [13, 10] then (if ctOk (b.take (Lib.index b [13, 10]).toNat) then some (cp (b.take (Lib.index b [13, 10]).toNat)).1 else none, b.drop ((Lib.index b [13, 10]).toNat + 2)) else (none, b)
def ctV : Option (Bool × Int × Int × Int) → AV
  | some c => .tup [vC4 c, .d .nili]
  | none => .tup [vC4 z4, bad3]
theorem t_content (b s : List UInt8) (n : Int) (hb : b.length ≤ 1000000) : call ir 101 [.ptr 0 0] [rdB b s n] = some (ctV (ctR b).1, [rdB (ctR b).2 s n]) := by
  rw [call_eq (fn := ir101) rfl, evF_bnd]
  have hu := t_until b s n hb
  unfold ctR
  by_cases h : 0 ≤ Lib.index b [13, 10]
  · rw [if_pos h] at hu ⊢
    generalize hi : (Lib.index b [13, 10]).toNat = i at hu ⊢
    have ht : (b.take i).length ≤ 1000000 := by rw [List.length_take]; omega
    generalize b.take i = t at hu ht ⊢
    generalize b.drop (i + 2) = r at hu ⊢
    have hp := t_cparse t ht
    have hs := t_cprint (cp t).1.1 (cp t).1.2.1 (cp t).1.2.2.1 (cp t).1.2.2.2
    by_cases hok : ctOk t
    · rw [if_pos hok]
      unfold ctOk cpS at hok
      obtain ⟨h1, h2, h3, h4⟩ := hok
      generalize (cp t).1 = c at hp hs h2 h3 h4 ⊢
      generalize (cp t).2 = e at hp h1
      obtain ⟨kn, f, tt, nn⟩ := c
      simp only at hs h2 h3 h4 ⊢
      subst h3
      rw [h2] at hs
      have h1' := eq_true h1
      have h4' := eq_false (show ¬ nn < 0 by omega)
      simp (maxSteps := 2000000) (disch := omega) only [go_sem, doCall, doCallQ, doCallP, Nat.reduceAdd, Nat.reduceMul, Nat.reduceSub, Nat.reduceDiv, Nat.reduceMod, Nat.reduceLT, Nat.reduceLeDiff, Nat.reduceEqDiff, Nat.reduceBEq, Nat.reduceBNe, Int.reduceToNat, Int.reduceLT, Int.reduceLE, Int.reduceEq, Int.reduceNe, Int.reduceAdd, Int.reduceSub, Int.reduceMul, Int.reduceNeg, bd101, hu, hp, hs, h1', h4', ctV, chk_of]
    · rw [if_neg hok]
      unfold ctOk cpS at hok
      generalize (cp t).1 = c at hp hs hok ⊢
      generalize (cp t).2 = e at hp hok
      obtain ⟨kn, f, tt, nn⟩ := c
      simp only at hs hok ⊢
      generalize cntS kn f tt nn = q at hs hok
      by_cases h1 : e = 0
      · have h1' := eq_true h1
        by_cases h2 : q = t
        · have h2' := eq_true h2
          cases kn
          · simp (maxSteps := 2000000) (disch := omega) only [go_sem, doCall, doCallQ, doCallP, Nat.reduceAdd, Nat.reduceMul, Nat.reduceSub, Nat.reduceDiv, Nat.reduceMod, Nat.reduceLT, Nat.reduceLeDiff, Nat.reduceEqDiff, Nat.reduceBEq, Nat.reduceBNe, Int.reduceToNat, Int.reduceLT, Int.reduceLE, Int.reduceEq, Int.reduceNe, Int.reduceAdd, Int.reduceSub, Int.reduceMul, Int.reduceNeg, bd101, hu, hp, hs, h1', h2', ctV, chk_of]
          · have h3' := eq_true (show nn < 0 by
              by_cases hn : nn < 0
              · exact hn
              · exact absurd ⟨h1, h2, rfl, by omega⟩ hok)
            simp (maxSteps := 2000000) (disch := omega) only [go_sem, doCall, doCallQ, doCallP, Nat.reduceAdd, Nat.reduceMul, Nat.reduceSub, Nat.reduceDiv, Nat.reduceMod, Nat.reduceLT, Nat.reduceLeDiff, Nat.reduceEqDiff, Nat.reduceBEq, Nat.reduceBNe, Int.reduceToNat, Int.reduceLT, Int.reduceLE, Int.reduceEq, Int.reduceNe, Int.reduceAdd, Int.reduceSub, Int.reduceMul, Int.reduceNeg, bd101, hu, hp, hs, h1', h2', h3', ctV, chk_of]
        · have h2' := eq_false h2
          simp (maxSteps := 2000000) (disch := omega) only [go_sem, doCall, doCallQ, doCallP, Nat.reduceAdd, Nat.reduceMul, Nat.reduceSub, Nat.reduceDiv, Nat.reduceMod, Nat.reduceLT, Nat.reduceLeDiff, Nat.reduceEqDiff, Nat.reduceBEq, Nat.reduceBNe, Int.reduceToNat, Int.reduceLT, Int.reduceLE, Int.reduceEq, Int.reduceNe, Int.reduceAdd, Int.reduceSub, Int.reduceMul, Int.reduceNeg, bd101, hu, hp, hs, h1', h2', ctV, chk_of]
      · have h1' := eq_false h1
        simp (maxSteps := 2000000) (disch := omega) only [go_sem, doCall, doCallQ, doCallP, Nat.reduceAdd, Nat.reduceMul, Nat.reduceSub, Nat.reduceDiv, Nat.reduceMod, Nat.reduceLT, Nat.reduceLeDiff, Nat.reduceEqDiff, Nat.reduceBEq, Nat.reduceBNe, Int.reduceToNat, Int.reduceLT, Int.reduceLE, Int.reduceEq, Int.reduceNe, Int.reduceAdd, Int.reduceSub, Int.reduceMul, Int.reduceNeg, bd101, hu, hp, hs, h1', ctV, chk_of]
  · rw [if_neg h] at hu ⊢
    simp (maxSteps := 2000000) (disch := omega) only [go_sem, doCall, doCallQ, doCallP, Nat.reduceAdd, Nat.reduceMul, Nat.reduceSub, Nat.reduceDiv, Nat.reduceMod, Nat.reduceLT, Nat.reduceLeDiff, Nat.reduceEqDiff, Nat.reduceBEq, Nat.reduceBNe, Int.reduceToNat, Int.reduceLT, Int.reduceLE, Int.reduceEq, Int.reduceNe, Int.reduceAdd, Int.reduceSub, Int.reduceMul, Int.reduceNeg, bd101, hu, ctV, chk_of]
def finV (v : Bool × Int × Int × Int) (e : Int) : (Bool × Int × Int × Int) × Int := if e ≠ 0 then (z4, e) else if CntR v.1 v.2.1 v.2.2.1 v.2.2.2 then (v, 0) else (z4, 3)
theorem fin_right (v : Bool × Int × Int × Int) (e : Int) (h : (finV v e).2 = 0) : CntR (finV v e).1.1 (finV v e).1.2.1 (finV v e).1.2.2.1 (finV v e).1.2.2.2 := by
  unfold finV at h ⊢
  by_cases he : e = 0
  · rw [if_neg (by simp [he])] at h ⊢
    by_cases hc : CntR v.1 v.2.1 v.2.2.1 v.2.2.2
    · rw [if_pos hc]; exact hc
    · rw [if_neg hc] at h; simp at h
  · rw [if_pos he] at h; exact absurd h he
theorem cp_right (t : List UInt8) (h : (cp t).2 = 0) : CntR (cp t).1.1 (cp t).1.2.1 (cp t).1.2.2.1 (cp t).1.2.2.2 := by
  unfold cp at h ⊢
  by_cases hc : (cut 32 t).2.2 = false ∨ (cut 47 (cut 32 t).2.1).2.2 = false ∨ (cut 32 t).1.map low ≠ bytesW
  · rw [if_pos hc] at h; simp at h
  · rw [if_neg hc] at h ⊢
    unfold cpV at h ⊢
    simp only at h ⊢
    by_cases ha : (cut 47 (cut 32 t).2.1).1 = [42]
    · rw [if_pos ha] at h ⊢
      exact fin_right (false, 0, 0, if (cut 47 (cut 32 t).2.1).2.1 = [42] then -1 else (prs (cut 47 (cut 32 t).2.1).2.1).1) (if (cut 47 (cut 32 t).2.1).2.1 = [42] then 0 else numE 0 (cut 47 (cut 32 t).2.1).2.1) h
    · rw [if_neg ha] at h ⊢
      by_cases hb : (cut 45 (cut 47 (cut 32 t).2.1).1).2.2 = false
      · rw [if_pos hb] at h; simp at h
      · rw [if_neg hb] at h ⊢
        exact fin_right (true, (prs (cut 45 (cut 47 (cut 32 t).2.1).1).1).1, (prs (cut 45 (cut 47 (cut 32 t).2.1).1).2.1).1 + 1, if (cut 47 (cut 32 t).2.1).2.1 = [42] then -1 else (prs (cut 47 (cut 32 t).2.1).2.1).1) (if (cut 47 (cut 32 t).2.1).2.1 = [42] then numE (numE 0 (cut 45 (cut 47 (cut 32 t).2.1).1).1) (cut 45 (cut 47 (cut 32 t).2.1).1).2.1 else numE (numE (numE 0 (cut 45 (cut 47 (cut 32 t).2.1).1).1) (cut 45 (cut 47 (cut 32 t).2.1).1).2.1) (cut 47 (cut 32 t).2.1).2.1) h
def fieldB : List UInt8 := [13, 10, 67, 111, 110, 116, 101, 110, 116, 45, 82, 97, 110, 103, 101, 58, 32]
theorem ctR_len (b : List UInt8) : (ctR b).2.length ≤ b.length := by
  unfold ctR
  split
  · simp only [List.length_drop]; omega
  · exact Nat.le_refl _
theorem ctR_ok (b : List UInt8) : ∀ c, (ctR b).1 = some c → RP c.2.1 c.2.2.1 := by
  intro c h
  unfold ctR at h
  split at h
  · simp only at h
    split at h
    · rename_i hok
      injection h with h; subst h
      have := cp_right _ hok.1
      rw [hok.2.2.1] at this
      exact this.2.1
    · simp at h
  · simp at h
/-- A part, whether it is one, what is left, and the total. -/
def ptR (b : List UInt8) (n : Int) : PartD × Bool × List UInt8 × Int :=
  if pre fieldB b = false then ((0, 0, []), false, b, n) else
  match ctR (b.drop 17) with
  | (none, b2) => ((0, 0, []), false, b2, n)
  | (some c, b2) =>
    if pre [13, 10] b2 = false then ((0, 0, []), false, b2, n) else
    if ((b2.drop 2).length : Int) < c.2.2.1 - c.2.1 then ((0, 0, []), false, b2.drop 2, n) else
    if pre [13, 10] ((b2.drop 2).drop (c.2.2.1 - c.2.1).toNat) then ((c.2.1, c.2.2.1, (b2.drop 2).take (c.2.2.1 - c.2.1).toNat), true, ((b2.drop 2).drop (c.2.2.1 - c.2.1).toNat).drop 2, c.2.2.2)
    else ((c.2.1, c.2.2.1, (b2.drop 2).take (c.2.2.1 - c.2.1).toNat), false, (b2.drop 2).drop (c.2.2.1 - c.2.1).toNat, c.2.2.2)
abbrev pV (p : PartD) : AV := .agg [dI p.1, dI p.2.1, lB p.2.2]
theorem t_mpart (b s : List UInt8) (n : Int) (hb : b.length ≤ 1000000) : call ir 72 [.ptr 0 0] [rdB b s n] =
    some (.tup [pV (ptR b n).1, if (ptR b n).2.1 then .d .nili else bad3], [rdB (ptR b n).2.2.1 s (ptR b n).2.2.2]) := by
  rw [call_eq (fn := ir72) rfl, evF_bnd]
  have h1 := t_take b s fieldB n hb (by decide)
  have hfl : fieldB.length = 17 := rfl
  rw [hfl] at h1
  unfold ptR
  cases e1 : pre fieldB b
  · rw [e1, if_neg (by simp)] at h1
    unfold fieldB at h1
    rw [if_pos rfl]
    simp (maxSteps := 2000000) (disch := omega) only [go_sem, doCall, doCallQ, doCallP, Nat.reduceAdd, Nat.reduceMul, Nat.reduceSub, Nat.reduceDiv, Nat.reduceMod, Nat.reduceLT, Nat.reduceLeDiff, Nat.reduceEqDiff, Nat.reduceBEq, Nat.reduceBNe, Int.reduceToNat, Int.reduceLT, Int.reduceLE, Int.reduceEq, Int.reduceNe, Int.reduceAdd, Int.reduceSub, Int.reduceMul, Int.reduceNeg, bd72, h1, rB_len, List.length_nil, chk_of]
    rfl
  · rw [e1, if_pos rfl] at h1
    unfold fieldB at h1
    rw [if_neg (by simp)]
    have hb1 : (b.drop 17).length ≤ 1000000 := by rw [List.length_drop]; omega
    generalize b.drop 17 = b1 at h1 hb1 ⊢
    have h2 := t_content b1 s n hb1
    have hl2 := ctR_len b1
    have hok := ctR_ok b1
    obtain ⟨o, b2, hct⟩ : ∃ o b2, ctR b1 = (o, b2) := ⟨_, _, rfl⟩
    rw [hct] at h2 hl2 hok ⊢
    simp only at h2 hl2 hok ⊢
    cases o with
    | none =>
      unfold ctV at h2
      simp (maxSteps := 2000000) (disch := omega) only [go_sem, doCall, doCallQ, doCallP, Nat.reduceAdd, Nat.reduceMul, Nat.reduceSub, Nat.reduceDiv, Nat.reduceMod, Nat.reduceLT, Nat.reduceLeDiff, Nat.reduceEqDiff, Nat.reduceBEq, Nat.reduceBNe, Int.reduceToNat, Int.reduceLT, Int.reduceLE, Int.reduceEq, Int.reduceNe, Int.reduceAdd, Int.reduceSub, Int.reduceMul, Int.reduceNeg, bd72, h1, h2, rB_len, List.length_nil, chk_of]
      rfl
    | some c =>
      obtain ⟨kn, f, tt, nn⟩ := c
      unfold ctV at h2
      simp only at h2 hok ⊢
      have hRP : RP f tt := hok _ rfl
      have hRP' := hRP
      unfold RP at hRP'
      have h3 := t_take b2 s [13, 10] n (by omega) (by decide)
      cases e3 : pre [13, 10] b2
      · rw [e3, if_neg (by simp)] at h3
        rw [if_pos rfl]
        simp (maxSteps := 2000000) (disch := omega) only [go_sem, doCall, doCallQ, doCallP, Nat.reduceAdd, Nat.reduceMul, Nat.reduceSub, Nat.reduceDiv, Nat.reduceMod, Nat.reduceLT, Nat.reduceLeDiff, Nat.reduceEqDiff, Nat.reduceBEq, Nat.reduceBNe, Int.reduceToNat, Int.reduceLT, Int.reduceLE, Int.reduceEq, Int.reduceNe, Int.reduceAdd, Int.reduceSub, Int.reduceMul, Int.reduceNeg, bd72, h1, h2, h3, rB_len, List.length_nil, chk_of]
        rfl
      · rw [e3, if_pos rfl] at h3
        rw [if_neg (by simp)]
        have e4 : ([13, 10] : List UInt8).length = 2 := rfl
        rw [e4] at h3
        have hb3 : (b2.drop 2).length ≤ 1000000 := by rw [List.length_drop]; omega
        generalize b2.drop 2 = b3 at h3 hb3 ⊢
        have hsl := t_slen (f, tt) hRP
        simp only at hsl
        by_cases h5 : (b3.length : Int) < tt - f
        · have h5' := eq_true h5
          rw [if_pos h5]
          simp (maxSteps := 2000000) (disch := omega) only [go_sem, doCall, doCallQ, doCallP, Nat.reduceAdd, Nat.reduceMul, Nat.reduceSub, Nat.reduceDiv, Nat.reduceMod, Nat.reduceLT, Nat.reduceLeDiff, Nat.reduceEqDiff, Nat.reduceBEq, Nat.reduceBNe, Int.reduceToNat, Int.reduceLT, Int.reduceLE, Int.reduceEq, Int.reduceNe, Int.reduceAdd, Int.reduceSub, Int.reduceMul, Int.reduceNeg, bd72, h1, h2, h3, hsl, h5', rB_len, List.length_nil, chk_of]
          rfl
        · have h5' := eq_false h5
          rw [if_neg h5]
          obtain ⟨L, hL⟩ : ∃ L : Nat, tt - f = (L : Int) := ⟨(tt - f).toNat, by omega⟩
          rw [hL] at hsl h5 h5' ⊢
          rw [Int.toNat_natCast]
          have hL1 : 0 < L := by omega
          have hLb : L ≤ b3.length := by omega
          have htl : (b3.take L).length = L := by rw [List.length_take]; omega
          have htt : (b3.take L).take L = b3.take L := by rw [List.take_take, Nat.min_self]
          have hdd : List.take (b3.length - L) (rB (b3.drop L)) = rB (b3.drop L) := List.take_of_length_le (by rw [rB_len, List.length_drop]; exact Nat.le_refl _)
          have hcl := t_bclone (b3.take L) (by omega)
          have h4 := t_take (b3.drop L) s [13, 10] nn (by rw [List.length_drop]; omega) (by decide)
          rw [e4] at h4
          cases e5 : pre [13, 10] (b3.drop L)
          · rw [e5, if_neg (by simp)] at h4
            rw [if_neg (by simp)]
            simp (maxSteps := 2000000) (disch := omega) only [go_sem, doCall, doCallQ, doCallP, Nat.reduceAdd, Nat.reduceMul, Nat.reduceSub, Nat.reduceDiv, Nat.reduceMod, Nat.reduceLT, Nat.reduceLeDiff, Nat.reduceEqDiff, Nat.reduceBEq, Nat.reduceBNe, Int.reduceToNat, Int.reduceLT, Int.reduceLE, Int.reduceEq, Int.reduceNe, Int.reduceAdd, Int.reduceSub, Int.reduceMul, Int.reduceNeg, bd72, h1, h2, h3, h4, hsl, h5', hcl, rB_take', rB_drop', htl, htt, hdd, rB_len, List.length_nil, Nat.zero_add, Nat.le_refl, if_true, Int.natCast_nonneg, Int.toNat_natCast, Option.getD_some, Option.getD_none, List.drop_zero, Nat.sub_zero, Nat.zero_le, true_and, and_true, Nat.le_refl, chk_of]
          · rw [e5, if_pos rfl] at h4
            rw [if_pos rfl]
            simp (maxSteps := 2000000) (disch := omega) only [go_sem, doCall, doCallQ, doCallP, Nat.reduceAdd, Nat.reduceMul, Nat.reduceSub, Nat.reduceDiv, Nat.reduceMod, Nat.reduceLT, Nat.reduceLeDiff, Nat.reduceEqDiff, Nat.reduceBEq, Nat.reduceBNe, Int.reduceToNat, Int.reduceLT, Int.reduceLE, Int.reduceEq, Int.reduceNe, Int.reduceAdd, Int.reduceSub, Int.reduceMul, Int.reduceNeg, bd72, h1, h2, h3, h4, hsl, h5', hcl, rB_take', rB_drop', htl, htt, hdd, rB_len, List.length_nil, Nat.zero_add, Nat.le_refl, if_true, Int.natCast_nonneg, Int.toNat_natCast, Option.getD_some, Option.getD_none, List.drop_zero, Nat.sub_zero, Nat.zero_le, true_and, and_true, Nat.le_refl, chk_of]
end Go.Proofs.YtpibecljdooilaaDoor
namespace Go.Proofs.YtpibecljdooilaaDoor
open Go Go.Ev Go.Proofs.YtpibecljdooilaaDoor.Ir Go.Prs
set_option maxRecDepth 100000
set_option maxHeartbeats 4000000
set_option linter.unusedSimpArgs false
set_option linter.unusedVariables false
/-- The parts, whether they are parts, what is left, and the total. -/
def ptsR (s : List UInt8) : Nat → List UInt8 → Int → List PartD → List PartD × Bool × List UInt8 × Int
  | 0, b, n, out => ([], false, b, n)
  | k + 1, b, n, out =>
    if pre ([45, 45] ++ s) b = false then ([], false, b, n) else
    if pre [45, 45] (b.drop (2 + s.length)) then
      (if pre [45, 45, 13, 10] (b.drop (2 + s.length)) then (out, true, (b.drop (2 + s.length)).drop 4, n) else (out, false, b.drop (2 + s.length), n))
    else if (ptR (b.drop (2 + s.length)) n).2.1 then ptsR s k (ptR (b.drop (2 + s.length)) n).2.2.1 (ptR (b.drop (2 + s.length)) n).2.2.2 (out ++ [(ptR (b.drop (2 + s.length)) n).1])
    else ([], false, (ptR (b.drop (2 + s.length)) n).2.2.1, (ptR (b.drop (2 + s.length)) n).2.2.2)
theorem ptR_len (b : List UInt8) (n : Int) : (ptR b n).2.2.1.length ≤ b.length := by
  unfold ptR
  split
  · exact Nat.le_refl _
  · have h := ctR_len (b.drop 17)
    rw [List.length_drop] at h
    split
    · rename_i e; rw [e] at h; simp only at h ⊢; omega
    · rename_i e; rw [e] at h; simp only at h
      split
      · simp only; omega
      · split
        · simp only [List.length_drop]; omega
        · split
          · simp only [List.length_drop]; omega
          · simp only [List.length_drop]; omega
theorem lp_parts (s : List UInt8) (hs : s.length ≤ 100) (K : Ex → St → Option (AV × Heap)) : ∀ (k : Nat) (b : List UInt8) (n : Int) (out : List PartD), b.length < k → out.length + b.length ≤ 1000000 →
    (bnd (evC (call ir) (loop ir) lp42_0 (st42_0 1 (.ptr 0 0) (.own 1 3 0 out.length false) [rdB b s n, .arr 3 (out.map partRow)])) (lpC (call ir) (loop ir) [0, 4] lp42_0 K)) =
      K .ret (clean [2, 3] ⟨1, [.unk, .unk, .own 1 3 0 (ptsR s k b n out).1.length false, if (ptsR s k b n out).2.1 then .d .nili else bad3, .unk, .unk, .unk, .unk, .unk, .unk, .unk, .unk, .unk, .unk, .unk, .unk, .unk, .unk, .unk, .unk, .unk, .unk, .unk, .unk, .unk, .unk, .unk, .unk, .unk, .unk, .unk, .unk, .unk, .unk, .unk, .unk, .unk, .unk, .unk, .unk], [rdB (ptsR s k b n out).2.2.1 s (ptsR s k b n out).2.2.2, .arr 3 ((ptsR s k b n out).1.map partRow)]⟩) := by
  intro k
  induction k with
  | zero => intro b n out h; omega
  | succ k ih =>
    intro b n out hk hO
    have hlm : (out.map partRow).length = out.length := List.length_map ..
    have h1 := t_take b s ([45, 45] ++ s) n (by omega) (by simp; omega)
    have e0 : ([45, 45] ++ s).length = 2 + s.length := by simp; omega
    rw [e0] at h1
    unfold ptsR
    cases e1 : pre ([45, 45] ++ s) b
    · rw [e1, if_neg (by simp)] at h1
      rw [if_pos rfl]
      simp only [List.cons_append, List.nil_append] at h1
      simp (maxSteps := 2000000) (disch := omega) only [go_sem, doCall, doCallQ, doCallP, Nat.reduceAdd, Nat.reduceMul, Nat.reduceSub, Nat.reduceDiv, Nat.reduceMod, Nat.reduceLT, Nat.reduceLeDiff, Nat.reduceEqDiff, Nat.reduceBEq, Nat.reduceBNe, Int.reduceToNat, Int.reduceLT, Int.reduceLE, Int.reduceEq, Int.reduceNe, Int.reduceAdd, Int.reduceSub, Int.reduceMul, Int.reduceNeg, u42_0, lb42_0, h1, List.length_nil, List.map_nil, Bool.false_eq_true, if_false, chk_of]
    · have hpl := pre_len e1
      rw [e0] at hpl
      rw [e1, if_pos rfl] at h1
      rw [if_neg (by simp)]
      simp only [List.cons_append, List.nil_append] at h1
      have hb1 : (b.drop (2 + s.length)).length + 2 ≤ b.length := by rw [List.length_drop]; omega
      generalize b.drop (2 + s.length) = b1 at h1 hb1 ⊢
      have h2 := t_haspre b1 [45, 45] (by omega) (by decide)
      have h2' : call ir 71 [.d (.list 1 (rB b1)), .d (.list 1 [[.int .u8 45], [.int .u8 45]])] [] = some (dT (pre [45, 45] b1), []) := h2
      cases e2 : pre [45, 45] b1
      · rw [e2] at h2'
        rw [if_neg (by simp)]
        have h3 := t_mpart b1 s n (by omega)
        have hl := ptR_len b1 n
        obtain ⟨p, ok, b2, n2, hp⟩ : ∃ p ok b2 n2, ptR b1 n = (p, ok, b2, n2) := ⟨_, _, _, _, rfl⟩
        rw [hp] at h3 hl ⊢
        simp only at h3 hl ⊢
        cases ok
        · rw [if_neg (by simp)] at h3 ⊢
          simp (maxSteps := 2000000) (disch := omega) only [go_sem, doCall, doCallQ, doCallP, Nat.reduceAdd, Nat.reduceMul, Nat.reduceSub, Nat.reduceDiv, Nat.reduceMod, Nat.reduceLT, Nat.reduceLeDiff, Nat.reduceEqDiff, Nat.reduceBEq, Nat.reduceBNe, Int.reduceToNat, Int.reduceLT, Int.reduceLE, Int.reduceEq, Int.reduceNe, Int.reduceAdd, Int.reduceSub, Int.reduceMul, Int.reduceNeg, u42_0, lb42_0, h1, h2', h3, List.length_nil, List.map_nil, List.length_cons, Nat.zero_add, Bool.false_eq_true, if_false, if_true, chk_of]
        · rw [if_pos rfl] at h3 ⊢
          have ih1 := ih b2 n2 (out ++ [p]) (by omega) (by simp; omega)
          generalize hR : K .ret (clean [2, 3] ⟨1, [.unk, .unk, .own 1 3 0 (ptsR s k b2 n2 (out ++ [p])).1.length false, if (ptsR s k b2 n2 (out ++ [p])).2.1 then .d .nili else bad3, .unk, .unk, .unk, .unk, .unk, .unk, .unk, .unk, .unk, .unk, .unk, .unk, .unk, .unk, .unk, .unk, .unk, .unk, .unk, .unk, .unk, .unk, .unk, .unk, .unk, .unk, .unk, .unk, .unk, .unk, .unk, .unk, .unk, .unk, .unk, .unk], [rdB (ptsR s k b2 n2 (out ++ [p])).2.2.1 s (ptsR s k b2 n2 (out ++ [p])).2.2.2, .arr 3 ((ptsR s k b2 n2 (out ++ [p])).1.map partRow)]⟩) = R at ih1 ⊢
          simp only [List.length_append, List.length_cons, List.length_nil, Nat.zero_add, List.map_append, List.map_cons, List.map_nil, partRow] at ih1
          simp (maxSteps := 2000000) (disch := omega) only [go_sem, doCall, doCallQ, doCallP, Nat.reduceAdd, Nat.reduceMul, Nat.reduceSub, Nat.reduceDiv, Nat.reduceMod, Nat.reduceLT, Nat.reduceLeDiff, Nat.reduceEqDiff, Nat.reduceBEq, Nat.reduceBNe, Int.reduceToNat, Int.reduceLT, Int.reduceLE, Int.reduceEq, Int.reduceNe, Int.reduceAdd, Int.reduceSub, Int.reduceMul, Int.reduceNeg, u42_0, lb42_0, h1, h2', h3, hlm, List.length_nil, List.length_cons, Nat.zero_add, if_true, chk_of]
          rw [loop_step1]; simp (maxSteps := 2000000) only [go_sem, doCall, doCallQ, doCallP, Nat.reduceAdd, Nat.reduceMul, Nat.reduceSub, Nat.reduceDiv, Nat.reduceMod, Nat.reduceLT, Nat.reduceLeDiff, Nat.reduceEqDiff, Nat.reduceBEq, Nat.reduceBNe, Int.reduceToNat, Int.reduceLT, Int.reduceLE, Int.reduceEq, Int.reduceNe, Int.reduceAdd, Int.reduceSub, Int.reduceMul, Int.reduceNeg]
          exact ih1
      · rw [e2] at h2'
        rw [if_pos rfl]
        have h4 := t_take b1 s [45, 45, 13, 10] n (by omega) (by decide)
        cases e3 : pre [45, 45, 13, 10] b1
        · rw [e3, if_neg (by simp)] at h4
          rw [if_neg (by simp)]
          simp (maxSteps := 2000000) (disch := omega) only [go_sem, doCall, doCallQ, doCallP, Nat.reduceAdd, Nat.reduceMul, Nat.reduceSub, Nat.reduceDiv, Nat.reduceMod, Nat.reduceLT, Nat.reduceLeDiff, Nat.reduceEqDiff, Nat.reduceBEq, Nat.reduceBNe, Int.reduceToNat, Int.reduceLT, Int.reduceLE, Int.reduceEq, Int.reduceNe, Int.reduceAdd, Int.reduceSub, Int.reduceMul, Int.reduceNeg, u42_0, lb42_0, h1, h2', h4, List.length_nil, List.length_cons, Nat.zero_add, Bool.false_eq_true, if_false, if_true, chk_of]
        · rw [e3, if_pos rfl] at h4
          rw [if_pos rfl]
          have e4 : ([45, 45, 13, 10] : List UInt8).length = 4 := rfl
          rw [e4] at h4
          simp (maxSteps := 2000000) (disch := omega) only [go_sem, doCall, doCallQ, doCallP, Nat.reduceAdd, Nat.reduceMul, Nat.reduceSub, Nat.reduceDiv, Nat.reduceMod, Nat.reduceLT, Nat.reduceLeDiff, Nat.reduceEqDiff, Nat.reduceBEq, Nat.reduceBNe, Int.reduceToNat, Int.reduceLT, Int.reduceLE, Int.reduceEq, Int.reduceNe, Int.reduceAdd, Int.reduceSub, Int.reduceMul, Int.reduceNeg, u42_0, lb42_0, h1, h2', h4, List.length_nil, List.length_cons, Nat.zero_add, if_true, chk_of]
theorem t_parts (b s : List UInt8) (n : Int) (hs : s.length ≤ 100) (hb : b.length ≤ 1000000) : call ir 42 [.ptr 0 0] [rdB b s n] =
    some (.tup [.own 1 3 0 (ptsR s (b.length + 1) b n []).1.length false, if (ptsR s (b.length + 1) b n []).2.1 then .d .nili else bad3], [rdB (ptsR s (b.length + 1) b n []).2.2.1 s (ptsR s (b.length + 1) b n []).2.2.2, .arr 3 ((ptsR s (b.length + 1) b n []).1.map partRow)]) := by
  rw [call_eq (fn := ir42) rfl, evF_bnd]
  simp (maxSteps := 2000000) (disch := omega) only [go_sem, doCall, doCallQ, doCallP, Nat.reduceAdd, Nat.reduceMul, Nat.reduceSub, Nat.reduceDiv, Nat.reduceMod, Nat.reduceLT, Nat.reduceLeDiff, Nat.reduceEqDiff, Nat.reduceBEq, Nat.reduceBNe, Int.reduceToNat, Int.reduceLT, Int.reduceLE, Int.reduceEq, Int.reduceNe, Int.reduceAdd, Int.reduceSub, Int.reduceMul, Int.reduceNeg, bd42, chk_of]
  rw [loop_step1]; simp (maxSteps := 2000000) only [go_sem, doCall, doCallQ, doCallP, Nat.reduceAdd, Nat.reduceMul, Nat.reduceSub, Nat.reduceDiv, Nat.reduceMod, Nat.reduceLT, Nat.reduceLeDiff, Nat.reduceEqDiff, Nat.reduceBEq, Nat.reduceBNe, Int.reduceToNat, Int.reduceLT, Int.reduceLE, Int.reduceEq, Int.reduceNe, Int.reduceAdd, Int.reduceSub, Int.reduceMul, Int.reduceNeg]
  refine (lp_parts s hs _ (b.length + 1) b n [] (Nat.lt_succ_self _) (by simp; omega)).trans ?_
  generalize ptsR s (b.length + 1) b n [] = r
  obtain ⟨l, ok, b2, n2⟩ := r
  cases ok
  · simp (maxSteps := 2000000) (disch := omega) only [go_sem, doCall, doCallQ, doCallP, Nat.reduceAdd, Nat.reduceMul, Nat.reduceSub, Nat.reduceDiv, Nat.reduceMod, Nat.reduceLT, Nat.reduceLeDiff, Nat.reduceEqDiff, Nat.reduceBEq, Nat.reduceBNe, Int.reduceToNat, Int.reduceLT, Int.reduceLE, Int.reduceEq, Int.reduceNe, Int.reduceAdd, Int.reduceSub, Int.reduceMul, Int.reduceNeg, List.length_map, Bool.false_eq_true, if_false, chk_of]
  · simp (maxSteps := 2000000) (disch := omega) only [go_sem, doCall, doCallQ, doCallP, Nat.reduceAdd, Nat.reduceMul, Nat.reduceSub, Nat.reduceDiv, Nat.reduceMod, Nat.reduceLT, Nat.reduceLeDiff, Nat.reduceEqDiff, Nat.reduceBEq, Nat.reduceBNe, Int.reduceToNat, Int.reduceLT, Int.reduceLE, Int.reduceEq, Int.reduceNe, Int.reduceAdd, Int.reduceSub, Int.reduceMul, Int.reduceNeg, List.length_map, if_true, chk_of]
end Go.Proofs.YtpibecljdooilaaDoor
