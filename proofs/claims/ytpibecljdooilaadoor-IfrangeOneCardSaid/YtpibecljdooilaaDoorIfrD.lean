/- Numbers in decimal: the reference. Own work. IfrangeOne: the law function. Own work. -/
import Derived.Test.YtpibecljdooilaaDoorIrF
import Derived.Test.YtpibecljdooilaaDoorEvArg
import Derived.Test.YtpibecljdooilaaDoorIfrC
namespace Go.Proofs.YtpibecljdooilaaDoor
open Go Go.Ev Go.Proofs.YtpibecljdooilaaDoor.Ir
set_option maxRecDepth 100000
set_option maxHeartbeats 4000000
set_option linter.unusedSimpArgs false
set_option linter.unusedVariables false
def dg (u : Nat) : UInt8 := UInt8.ofNat (48 + u % 10)
theorem dg_nat (u : Nat) : (dg u).toNat = 48 + u % 10 := by
  unfold dg; rw [UInt8.toNat_ofNat']; omega
theorem dg_val (u : Nat) : wr .u8 (wr .u64 (48 + (u : Int).tmod 10)) = ((dg u).toNat : Int) := by
  have h : (u : Int).tmod 10 = ((u % 10 : Nat) : Int) := by rw [Int.tmod_eq_emod_of_nonneg (by omega)]; omega
  rw [h, dg_nat, wr_u64 (by omega), wr_u8 (by omega)]; omega
theorem quo10 (u : Nat) (h : u ≤ 18446744073709551615) : wr .u64 ((u : Int).tdiv 10) = ((u / 10 : Nat) : Int) := by
  have : (u : Int).tdiv 10 = ((u / 10 : Nat) : Int) := by rw [Int.tdiv_eq_ediv_of_nonneg (by omega)]; omega
  rw [this, wr_u64 (by omega)]
def decs (u : Nat) : List UInt8 := if h : u < 10 then [dg u] else decs (u / 10) ++ [dg u]
theorem decs_lt {u : Nat} (h : u < 10) : decs u = [dg u] := by rw [decs, dif_pos h]
theorem decs_ge {u : Nat} (h : ¬ u < 10) : decs u = decs (u / 10) ++ [dg u] := by rw [decs, dif_neg h]
theorem decs_len : ∀ (k u : Nat), u < 10 ^ (k + 1) → (decs u).length ≤ k + 1
  | 0, u, h => by rw [decs_lt (by simpa using h)]; simp
  | k + 1, u, h => by
    by_cases hu : u < 10
    · rw [decs_lt hu]; simp
    · rw [decs_ge hu]
      have := decs_len k (u / 10) (by rw [Nat.pow_succ] at h; omega)
      simp; omega
/-- A number in decimal. -/
def prn (n : Int) : List UInt8 := if n < 0 then 45 :: decs n.natAbs else decs n.toNat
theorem prn_len {n : Int} (h : -9223372036854775808 ≤ n ∧ n ≤ 9223372036854775807) : (prn n).length ≤ 20 := by
  unfold prn
  split
  · have := decs_len 18 n.natAbs (by omega)
    simp; omega
  · have := decs_len 18 n.toNat (by omega)
    omega
theorem one_byte (u : Nat) : [[D.int .u8 (dg u).toNat]] = rB [dg u] := rfl
theorem b2s_dg (H : Heap) (u : Nat) : b2sA (.arr 1 [[D.int .u8 (dg u).toNat]] :: H) (.own 0 1 0 1 true) = some (.d (.str [dg u])) := b2s_own0 H [dg u] true
theorem lp_digits (k : Ex → St → Option (AV × Heap)) (u : Nat) (s : List UInt8) (hu : u ≤ 18446744073709551615) (q : Nat) (hq : u < 10 ^ (q + 1)) (hs : s.length + q ≤ 40) :
    bnd (evC (call ir) (loop ir) lp93_0 (st93_0 0 (.d (.int .u64 u)) (.d (.str s)) [])) (lpC (call ir) (loop ir) [0, 3] lp93_0 k) =
      k (.exit 0) (clean [3] (st93_0 0 (.d (.int .u64 0)) (.d (.str ((if u < 10 then [] else decs (u / 10)) ++ s))) [])) := by
  by_cases h : u < 10
  · have hx : ¬ (10 : Int) ≤ u := by omega
    rw [if_pos h]
    simp (maxSteps := 2000000) (disch := omega) only [go_sem, doCall, doCallQ, Nat.reduceAdd, Nat.reduceMul, Nat.reduceSub, Nat.reduceDiv, Nat.reduceMod, Nat.reduceLT, Nat.reduceLeDiff, Nat.reduceEqDiff, Nat.reduceBEq, Nat.reduceBNe, Int.reduceToNat, Int.reduceLT, Int.reduceLE, Int.reduceEq, Int.reduceNe, Int.reduceAdd, Int.reduceSub, Int.reduceMul, Int.reduceNeg, u93_0, lb93_0, hx]
  · have hx : (10 : Int) ≤ u := by omega
    rw [if_neg h]
    have hd := dg_val (u / 10)
    have hq10 := quo10 u hu
    cases q with
    | zero => simp at hq; omega
    | succ q =>
      have ih := lp_digits k (u / 10) (dg (u / 10) :: s) (by omega) q (by rw [Nat.pow_succ] at hq; omega) (by simp; omega)
      have e : (if u / 10 < 10 then [] else decs (u / 10 / 10)) ++ dg (u / 10) :: s = decs (u / 10) ++ s := by
        by_cases h2 : u / 10 < 10
        · rw [if_pos h2, decs_lt h2]; simp
        · rw [if_neg h2, decs_ge h2]; simp
      rw [e] at ih
      simp (maxSteps := 2000000) (disch := omega) only [go_sem, doCall, doCallQ, Nat.reduceAdd, Nat.reduceMul, Nat.reduceSub, Nat.reduceDiv, Nat.reduceMod, Nat.reduceLT, Nat.reduceLeDiff, Nat.reduceEqDiff, Nat.reduceBEq, Nat.reduceBNe, Int.reduceToNat, Int.reduceLT, Int.reduceLE, Int.reduceEq, Int.reduceNe, Int.reduceAdd, Int.reduceSub, Int.reduceMul, Int.reduceNeg, u93_0, lb93_0, hx, hq10, hd, b2s_dg, List.length_cons, List.length_nil, chk_of]
      rw [loop_step1]
      simp (maxSteps := 2000000) only [go_sem, doCall, doCallQ, Nat.reduceAdd, Nat.reduceMul, Nat.reduceSub, Nat.reduceDiv, Nat.reduceMod, Nat.reduceLT, Nat.reduceLeDiff, Nat.reduceEqDiff, Nat.reduceBEq, Nat.reduceBNe, Int.reduceToNat, Int.reduceLT, Int.reduceLE, Int.reduceEq, Int.reduceNe, Int.reduceAdd, Int.reduceSub, Int.reduceMul, Int.reduceNeg]
      simp (maxSteps := 2000000) only [go_sem, doCall, doCallQ, Nat.reduceAdd, Nat.reduceMul, Nat.reduceSub, Nat.reduceDiv, Nat.reduceMod, Nat.reduceLT, Nat.reduceLeDiff, Nat.reduceEqDiff, Nat.reduceBEq, Nat.reduceBNe, Int.reduceToNat, Int.reduceLT, Int.reduceLE, Int.reduceEq, Int.reduceNe, Int.reduceAdd, Int.reduceSub, Int.reduceMul, Int.reduceNeg] at ih
      exact ih
theorem t_digits (u : Nat) (hu : u ≤ 18446744073709551615) : call ir 93 [.d (.int .u64 u)] [] = some (.d (.str (decs u)), []) := by
  rw [call_eq (fn := ir93) rfl, evF_bnd]
  have hd := dg_val u
  simp (maxSteps := 2000000) (disch := omega) only [go_sem, doCall, doCallQ, Nat.reduceAdd, Nat.reduceMul, Nat.reduceSub, Nat.reduceDiv, Nat.reduceMod, Nat.reduceLT, Nat.reduceLeDiff, Nat.reduceEqDiff, Nat.reduceBEq, Nat.reduceBNe, Int.reduceToNat, Int.reduceLT, Int.reduceLE, Int.reduceEq, Int.reduceNe, Int.reduceAdd, Int.reduceSub, Int.reduceMul, Int.reduceNeg, bd93, hd, b2s_dg]
  rw [loop_step1]
  simp (maxSteps := 2000000) only [go_sem, doCall, doCallQ, Nat.reduceAdd, Nat.reduceMul, Nat.reduceSub, Nat.reduceDiv, Nat.reduceMod, Nat.reduceLT, Nat.reduceLeDiff, Nat.reduceEqDiff, Nat.reduceBEq, Nat.reduceBNe, Int.reduceToNat, Int.reduceLT, Int.reduceLE, Int.reduceEq, Int.reduceNe, Int.reduceAdd, Int.reduceSub, Int.reduceMul, Int.reduceNeg]
  refine Eq.trans (lp_digits _ u [dg u] hu 19 (by omega) (by simp)) ?_
  have e : (if u < 10 then [] else decs (u / 10)) ++ [dg u] = decs u := by
    by_cases h : u < 10
    · rw [if_pos h, decs_lt h]; simp
    · rw [if_neg h, decs_ge h]
  rw [e]
  simp (maxSteps := 2000000) only [go_sem, doCall, doCallQ, Nat.reduceAdd, Nat.reduceMul, Nat.reduceSub, Nat.reduceDiv, Nat.reduceMod, Nat.reduceLT, Nat.reduceLeDiff, Nat.reduceEqDiff, Nat.reduceBEq, Nat.reduceBNe, Int.reduceToNat, Int.reduceLT, Int.reduceLE, Int.reduceEq, Int.reduceNe, Int.reduceAdd, Int.reduceSub, Int.reduceMul, Int.reduceNeg]
theorem t_rprint (n : Int) (h : -9223372036854775808 ≤ n ∧ n ≤ 9223372036854775807) : call ir 64 [.d (.int .i64 n)] [] = some (.d (.str (prn n)), []) := by
  rw [call_eq (fn := ir64) rfl, evF_bnd]
  simp (maxSteps := 2000000) only [go_sem, doCall, doCallQ, Nat.reduceAdd, Nat.reduceMul, Nat.reduceSub, Nat.reduceDiv, Nat.reduceMod, Nat.reduceLT, Nat.reduceLeDiff, Nat.reduceEqDiff, Nat.reduceBEq, Nat.reduceBNe, Int.reduceToNat, Int.reduceLT, Int.reduceLE, Int.reduceEq, Int.reduceNe, Int.reduceAdd, Int.reduceSub, Int.reduceMul, Int.reduceNeg, bd64]
  apply two_cases
  · intro hn
    have e1 : wr .u64 (wr .u64 (wr .i64 (0 - wr .i64 (n + 1))) + 1) = ((n.natAbs : Nat) : Int) := by
      rw [wr_id (n := n + 1) (by omega), wr_id (by omega), wr_u64 (n := 0 - (n + 1)) (by omega), wr_u64 (by omega)]; omega
    have hl := decs_len 19 n.natAbs (by omega)
    simp (maxSteps := 2000000) (disch := omega) only [go_sem, doCall, doCallQ, Nat.reduceAdd, Nat.reduceMul, Nat.reduceSub, Nat.reduceDiv, Nat.reduceMod, Nat.reduceLT, Nat.reduceLeDiff, Nat.reduceEqDiff, Nat.reduceBEq, Nat.reduceBNe, Int.reduceToNat, Int.reduceLT, Int.reduceLE, Int.reduceEq, Int.reduceNe, Int.reduceAdd, Int.reduceSub, Int.reduceMul, Int.reduceNeg, e1, t_digits n.natAbs (by omega), List.length_cons, List.length_nil, chk_of]
    rw [prn, if_pos hn]
  · intro hn
    have e1 : wr .u64 n = ((n.toNat : Nat) : Int) := by
      simp [wr, IntKind.wrap, IntKind.signed, IntKind.bits]; omega
    simp (maxSteps := 2000000) (disch := omega) only [go_sem, doCall, doCallQ, Nat.reduceAdd, Nat.reduceMul, Nat.reduceSub, Nat.reduceDiv, Nat.reduceMod, Nat.reduceLT, Nat.reduceLeDiff, Nat.reduceEqDiff, Nat.reduceBEq, Nat.reduceBNe, Int.reduceToNat, Int.reduceLT, Int.reduceLE, Int.reduceEq, Int.reduceNe, Int.reduceAdd, Int.reduceSub, Int.reduceMul, Int.reduceNeg, e1, t_digits n.toNat (by omega)]
    rw [prn, if_neg hn]
end Go.Proofs.YtpibecljdooilaaDoor
namespace Go.Proofs.YtpibecljdooilaaDoor
open Go Go.Ev Go.Proofs.YtpibecljdooilaaDoor.Ir Go.Prs
set_option maxRecDepth 100000
set_option maxHeartbeats 4000000
set_option linter.unusedSimpArgs false
set_option linter.unusedVariables false
/-! ### numbers in decimal, read -/
theorem dg_isD (u : Nat) : isD (dg u) = true := by
  have := dg_nat u
  simp [isD, this]; omega
theorem decs_all : ∀ (n u : Nat), u ≤ n → (decs u).all isD = true
  | n, u, h => by
    by_cases hu : u < 10
    · rw [decs_lt hu]; simp [dg_isD]
    · rw [decs_ge hu, List.all_append]
      cases n with
      | zero => omega
      | succ n =>
        rw [decs_all n (u / 10) (by omega)]
        simp [dg_isD]
theorem decs_val : ∀ (n u : Nat), u ≤ n → val (decs u) = u
  | n, u, h => by
    by_cases hu : u < 10
    · rw [decs_lt hu]
      have := dg_nat u
      simp [val, this]; omega
    · rw [decs_ge hu, val_snoc]
      cases n with
      | zero => omega
      | succ n =>
        rw [decs_val n (u / 10) (by omega), dg_nat]
        omega
theorem decs_ne (u : Nat) : decs u ≠ [] := by
  by_cases hu : u < 10
  · rw [decs_lt hu]; simp
  · rw [decs_ge hu]; simp
theorem prs_decs (u : Nat) (h : u ≤ 4611686018427387903) : prs (decs u) = ((u : Int), 0) := by
  unfold prs
  rw [if_neg (fun hh => hh.elim (decs_ne u) (fun hh => by rw [decs_all u u (Nat.le_refl _)] at hh; simp at hh)), decs_val u u (Nat.le_refl _), if_neg (by omega)]
theorem isD_ne {b c : UInt8} (h : isD b = true) (hc : isD c = false) : b ≠ c := fun e => by rw [e, hc] at h; simp at h
theorem all_ne {s : List UInt8} {c : UInt8} (h : s.all isD = true) (hc : isD c = false) : ∀ x ∈ s, x ≠ c := fun x hx => isD_ne (List.all_eq_true.1 h x hx) hc
theorem isD_nB {b : UInt8} (h : isD b = true) : isB b = false := by
  have h1 := isD_ne h (show isD 32 = false by decide)
  have h2 := isD_ne h (show isD 9 = false by decide)
  simp [isB, h1, h2]
/-! ### a text that begins and ends with other bytes than blanks -/
theorem trimL_id {x : UInt8} {l : List UInt8} (h : isB x = false) : trimL (x :: l) = x :: l := by rw [trimL_cons, h]; rfl
theorem trimR_id {x : UInt8} {l : List UInt8} (h : isB x = false) : trimR (l ++ [x]) = l ++ [x] := by rw [trimR_snoc, h]; rfl
theorem trim_id {s : List UInt8} {x y : UInt8} {l m : List UInt8} (h1 : s = x :: l) (h2 : s = m ++ [y]) (hx : isB x = false) (hy : isB y = false) : trim s = s := by
  unfold trim
  rw [h2, trimR_id hy, ← h2, h1, trimL_id hx]
theorem trim_all {s : List UInt8} (h : ∀ x ∈ s, isB x = false) : trim s = s := by
  cases s with
  | nil => rfl
  | cons x l =>
    rcases snoc_or (x :: l) with h0 | ⟨m, y, h0⟩
    · simp at h0
    · exact trim_id rfl h0 (h x (by simp)) (h y (by rw [h0]; simp))
/-- One element, without blanks and commas. -/
theorem els_one {p : List UInt8} (h1 : ∀ x ∈ p, x ≠ 44) (h2 : ∀ x ∈ p, isB x = false) (hne : p ≠ []) : els true (pcs p) [] = some [p] := by
  rw [pcs_mem h1]
  have ht := trim_all h2
  have hpos := List.length_pos_iff.2 hne
  have e0 : isB (p.getD 0 0) = false := h2 _ (by rw [g8 hpos]; exact List.getElem_mem hpos)
  have e1 : isB (p.getD (p.length - 1) 0) = false := h2 _ (by rw [g8 (by omega)]; exact List.getElem_mem _)
  simp only [els, ht]
  rw [if_neg hne, if_neg (by rw [e0, e1]; simp)]
  rfl
def hdr : List UInt8 := [98, 121, 116, 101, 115, 61]
/-- A field of one element. -/
theorem specL_one {p : List UInt8} (h1 : ∀ x ∈ p, x ≠ 44) (h2 : ∀ x ∈ p, isB x = false) (hne : p ≠ []) (he : (oneS p).2 = 0) : specL (hdr ++ p) = [(oneS p).1] := by
  have ht : trim (hdr ++ p) = hdr ++ p := trim_all fun x hx => by
    rcases List.mem_append.1 hx with hx | hx
    · exact (show ∀ x ∈ hdr, isB x = false by decide) x hx
    · exact h2 x hx
  have hc : cut 61 (hdr ++ p) = ([98, 121, 116, 101, 115], p, true) := by
    have := cut_app (c := 61) (s := [98, 121, 116, 101, 115]) (t := p) (by decide)
    exact this
  have hel : elsOf (hdr ++ p) = some [p] := by unfold elsOf; rw [ht, hc]; exact els_one h1 h2 hne
  rw [specL_some hel]
  have hu : unitOk (hdr ++ p) := by
    unfold unitOk; rw [ht, hc]
    exact ⟨rfl, low_bytes⟩
  rw [if_pos ⟨hu, by simp, by simp [any3, he], by simp [anyE, he], by simp⟩]
  rfl
theorem not44 {s : List UInt8} (h : s.all isD = true) : ∀ x ∈ s, x ≠ 44 := all_ne h (by decide)
theorem notB {s : List UInt8} (h : s.all isD = true) : ∀ x ∈ s, isB x = false := fun x hx => isD_nB (List.all_eq_true.1 h x hx)
theorem one_both (a b : Nat) (ha : a ≤ b) (hb : b ≤ 4611686018427387903) : oneS (decs a ++ 45 :: decs b) = ((2, (a : Int), (b : Int)), 0) := by
  have hc := cut_app (c := 45) (s := decs a) (t := decs b) (all_ne (decs_all a a (Nat.le_refl _)) (by decide))
  have hl := lessB_val (decs_all b b (Nat.le_refl _)) (decs_all a a (Nat.le_refl _))
  rw [decs_val b b (Nat.le_refl _), decs_val a a (Nat.le_refl _), decide_eq_false (by omega)] at hl
  unfold oneS
  rw [hc]
  simp only [prs_decs a (by omega), prs_decs b hb, decs_ne, hl]
  simp
theorem one_last (a : Nat) (ha : a ≤ 4611686018427387903) : oneS (45 :: decs a) = ((3, (a : Int), 0), 0) := by
  have hc := cut_app (c := 45) (s := []) (t := decs a) (by simp)
  unfold oneS
  rw [List.nil_append] at hc
  rw [hc]
  simp only [prs_decs a ha]
  simp
theorem spec_both (a b : Nat) (ha : a ≤ b) (hb : b ≤ 4611686018427387903) : specL (hdr ++ (decs a ++ 45 :: decs b)) = [(2, (a : Int), (b : Int))] := by
  have d1 := decs_all a a (Nat.le_refl _)
  have d2 := decs_all b b (Nat.le_refl _)
  have e := one_both a b ha hb
  rw [specL_one (fun x hx => ?_) (fun x hx => ?_) (by simp [decs_ne]) (by rw [e]), e]
  · rcases List.mem_append.1 hx with hx | hx
    · exact not44 d1 x hx
    · rcases List.mem_cons.1 hx with rfl | hx
      · decide
      · exact not44 d2 x hx
  · rcases List.mem_append.1 hx with hx | hx
    · exact notB d1 x hx
    · rcases List.mem_cons.1 hx with rfl | hx
      · decide
      · exact notB d2 x hx
theorem spec_last (a : Nat) (ha : a ≤ 4611686018427387903) : specL (hdr ++ 45 :: decs a) = [(3, (a : Int), 0)] := by
  have d1 := decs_all a a (Nat.le_refl _)
  have e := one_last a ha
  rw [specL_one (fun x hx => ?_) (fun x hx => ?_) (by simp) (by rw [e]), e]
  · rcases List.mem_cons.1 hx with rfl | hx
    · decide
    · exact not44 d1 x hx
  · rcases List.mem_cons.1 hx with rfl | hx
    · decide
    · exact notB d1 x hx
theorem use_nil (tag : List UInt8) : useE [] tag = true := by
  unfold useE
  rw [decide_eq_true (show trim [] = [] from rfl), Bool.true_or]
theorem prn_nat (a : Nat) : prn (a : Int) = decs a := by
  unfold prn
  rw [if_neg (by omega)]; rfl
theorem decs_le (a : Nat) (h : a ≤ 4611686018427387903) : (decs a).length ≤ 19 := decs_len 18 a (by omega)
/-- The field of one spec. -/
theorem t_ps2 (a b : Nat) (ha : a ≤ 4611686018427387903) (hb : b ≤ 4611686018427387903) : call ir 31 [.d (.list 3 [[.int .i64 2, .int .i64 a, .int .i64 b]])] [] = some (dS (hdr ++ (decs a ++ 45 :: decs b)), []) := by
  rw [call_eq (fn := ir31) rfl, evF_bnd]
  have p1 := t_rprint a (by omega)
  have p2 := t_rprint b (by omega)
  rw [prn_nat] at p1 p2
  have l1 := decs_le a ha
  have l2 := decs_le b hb
  have hw : wr .i64 1 = 1 := rfl
  simp (maxSteps := 2000000) (disch := omega) only [go_sem, doCall, doCallQ, Nat.reduceAdd, Nat.reduceMul, Nat.reduceSub, Nat.reduceDiv, Nat.reduceMod, Nat.reduceLT, Nat.reduceLeDiff, Nat.reduceEqDiff, Nat.reduceBEq, Nat.reduceBNe, Int.reduceToNat, Int.reduceLT, Int.reduceLE, Int.reduceEq, Int.reduceNe, Int.reduceAdd, Int.reduceSub, Int.reduceMul, Int.reduceNeg, bd31, List.length_cons, List.length_nil, chk_of]
  rw [loop_step1]
  simp (maxSteps := 2000000) (disch := omega) only [go_sem, doCall, doCallQ, Nat.reduceAdd, Nat.reduceMul, Nat.reduceSub, Nat.reduceDiv, Nat.reduceMod, Nat.reduceLT, Nat.reduceLeDiff, Nat.reduceEqDiff, Nat.reduceBEq, Nat.reduceBNe, Int.reduceToNat, Int.reduceLT, Int.reduceLE, Int.reduceEq, Int.reduceNe, Int.reduceAdd, Int.reduceSub, Int.reduceMul, Int.reduceNeg, u31_0, lb31_0, p1, p2, hw, List.length_append, List.length_cons, List.length_nil, Int.natCast_nonneg, Int.toNat_natCast, Option.getD_some, Option.getD_none, List.drop_zero, Nat.sub_zero, Nat.zero_le, true_and, and_true, Nat.le_refl, Nat.zero_add, chk_of]
  rw [loop_step1]
  simp (maxSteps := 2000000) (disch := omega) only [go_sem, doCall, doCallQ, Nat.reduceAdd, Nat.reduceMul, Nat.reduceSub, Nat.reduceDiv, Nat.reduceMod, Nat.reduceLT, Nat.reduceLeDiff, Nat.reduceEqDiff, Nat.reduceBEq, Nat.reduceBNe, Int.reduceToNat, Int.reduceLT, Int.reduceLE, Int.reduceEq, Int.reduceNe, Int.reduceAdd, Int.reduceSub, Int.reduceMul, Int.reduceNeg, u31_0, lb31_0, chk_of]
  simp [hdr]
theorem t_ps3 (a : Nat) (ha : a ≤ 4611686018427387903) : call ir 31 [.d (.list 3 [[.int .i64 3, .int .i64 a, .int .i64 0]])] [] = some (dS (hdr ++ 45 :: decs a), []) := by
  rw [call_eq (fn := ir31) rfl, evF_bnd]
  have p1 := t_rprint a (by omega)
  rw [prn_nat] at p1
  have l1 := decs_le a ha
  have hw : wr .i64 1 = 1 := rfl
  simp (maxSteps := 2000000) (disch := omega) only [go_sem, doCall, doCallQ, Nat.reduceAdd, Nat.reduceMul, Nat.reduceSub, Nat.reduceDiv, Nat.reduceMod, Nat.reduceLT, Nat.reduceLeDiff, Nat.reduceEqDiff, Nat.reduceBEq, Nat.reduceBNe, Int.reduceToNat, Int.reduceLT, Int.reduceLE, Int.reduceEq, Int.reduceNe, Int.reduceAdd, Int.reduceSub, Int.reduceMul, Int.reduceNeg, bd31, List.length_cons, List.length_nil, chk_of]
  rw [loop_step1]
  simp (maxSteps := 2000000) (disch := omega) only [go_sem, doCall, doCallQ, Nat.reduceAdd, Nat.reduceMul, Nat.reduceSub, Nat.reduceDiv, Nat.reduceMod, Nat.reduceLT, Nat.reduceLeDiff, Nat.reduceEqDiff, Nat.reduceBEq, Nat.reduceBNe, Int.reduceToNat, Int.reduceLT, Int.reduceLE, Int.reduceEq, Int.reduceNe, Int.reduceAdd, Int.reduceSub, Int.reduceMul, Int.reduceNeg, u31_0, lb31_0, p1, hw, List.length_append, List.length_cons, List.length_nil, Int.natCast_nonneg, Int.toNat_natCast, Option.getD_some, Option.getD_none, List.drop_zero, Nat.sub_zero, Nat.zero_le, true_and, and_true, Nat.le_refl, Nat.zero_add, chk_of]
  rw [loop_step1]
  simp (maxSteps := 2000000) (disch := omega) only [go_sem, doCall, doCallQ, Nat.reduceAdd, Nat.reduceMul, Nat.reduceSub, Nat.reduceDiv, Nat.reduceMod, Nat.reduceLT, Nat.reduceLeDiff, Nat.reduceEqDiff, Nat.reduceBEq, Nat.reduceBNe, Int.reduceToNat, Int.reduceLT, Int.reduceLE, Int.reduceEq, Int.reduceNe, Int.reduceAdd, Int.reduceSub, Int.reduceMul, Int.reduceNeg, u31_0, lb31_0, chk_of]
  simp [hdr]
theorem clash_one (x : Int × Int) : clashG [] [x] = false := rfl
/-- What is chosen for one spec. -/
theorem choose_one (h tag : List UInt8) (hh : h.length ≤ 1000) (x : Sp3) (hx : specL h = [x]) (hr : SpecR x) (n : Int) (hn : 1 ≤ n ∧ n ≤ 4611686018427387903) :
    call ir 27 [dS h, dS [], dS tag, dI n] [] = some (.agg [dI (if RP (oneP x n).1 (oneP x n).2 then 206 else 416), .d (.list 2 (if RP (oneP x n).1 (oneP x n).2 then [eP (oneP x n)] else []))], []) := by
  obtain ⟨st, L, hR, hc⟩ := t_choose h [] tag (by omega) (by simp) n
  have hu := use_nil tag
  have hres : resL (specL h) n = if RP (oneP x n).1 (oneP x n).2 then [oneP x n] else [] := by
    rw [hx]; unfold resL; rw [if_pos hn, List.flatMap_cons, List.flatMap_nil, List.append_nil]
    unfold res1
    by_cases hp : RP (oneP x n).1 (oneP x n).2
    · rw [if_pos hp, if_pos ⟨hr, hp⟩]
    · rw [if_neg hp, if_neg (fun q => hp q.2)]
  have hne : specL h ≠ [] := by rw [hx]; simp
  by_cases hp : RP (oneP x n).1 (oneP x n).2
  · rw [if_pos hp] at hres
    rw [if_pos hp, if_pos hp]
    obtain ⟨r1, _, r2, _⟩ := hR.some hne hu (by rw [hres]; simp)
    rw [hres] at r2
    have := r2 (clash_one _)
    subst r1; subst this
    exact hc
  · rw [if_neg hp] at hres
    rw [if_neg hp, if_neg hp]
    obtain ⟨r1, r2⟩ := hR.none hne hu hres
    subst r1; subst r2
    exact hc
theorem t_One (first last : Int) (tag : List UInt8) (ht : tag.length ≤ 9223372036854775807) (n : Int) :
    call ir 8 [dI first, dI last, dS tag, dI n] [] = some (dT true, []) := by
  rw [call_eq (fn := ir8) rfl, evF_bnd]
  by_cases g1 : first < 0
  · simp (maxSteps := 2000000) (disch := omega) only [go_sem, doCall, doCallQ, Nat.reduceAdd, Nat.reduceMul, Nat.reduceSub, Nat.reduceDiv, Nat.reduceMod, Nat.reduceLT, Nat.reduceLeDiff, Nat.reduceEqDiff, Nat.reduceBEq, Nat.reduceBNe, Int.reduceToNat, Int.reduceLT, Int.reduceLE, Int.reduceEq, Int.reduceNe, Int.reduceAdd, Int.reduceSub, Int.reduceMul, Int.reduceNeg, bd8, t_awake09, eq_true g1, chk_of]
  · by_cases g2 : last < first
    · simp (maxSteps := 2000000) (disch := omega) only [go_sem, doCall, doCallQ, Nat.reduceAdd, Nat.reduceMul, Nat.reduceSub, Nat.reduceDiv, Nat.reduceMod, Nat.reduceLT, Nat.reduceLeDiff, Nat.reduceEqDiff, Nat.reduceBEq, Nat.reduceBNe, Int.reduceToNat, Int.reduceLT, Int.reduceLE, Int.reduceEq, Int.reduceNe, Int.reduceAdd, Int.reduceSub, Int.reduceMul, Int.reduceNeg, bd8, t_awake09, g1, eq_true g2, chk_of]
    · by_cases g3 : 1099511627776 < last
      · simp (maxSteps := 2000000) (disch := omega) only [go_sem, doCall, doCallQ, Nat.reduceAdd, Nat.reduceMul, Nat.reduceSub, Nat.reduceDiv, Nat.reduceMod, Nat.reduceLT, Nat.reduceLeDiff, Nat.reduceEqDiff, Nat.reduceBEq, Nat.reduceBNe, Int.reduceToNat, Int.reduceLT, Int.reduceLE, Int.reduceEq, Int.reduceNe, Int.reduceAdd, Int.reduceSub, Int.reduceMul, Int.reduceNeg, bd8, t_awake09, g1, g2, eq_true g3, chk_of]
      · by_cases g4 : n < 1
        · simp (maxSteps := 2000000) (disch := omega) only [go_sem, doCall, doCallQ, Nat.reduceAdd, Nat.reduceMul, Nat.reduceSub, Nat.reduceDiv, Nat.reduceMod, Nat.reduceLT, Nat.reduceLeDiff, Nat.reduceEqDiff, Nat.reduceBEq, Nat.reduceBNe, Int.reduceToNat, Int.reduceLT, Int.reduceLE, Int.reduceEq, Int.reduceNe, Int.reduceAdd, Int.reduceSub, Int.reduceMul, Int.reduceNeg, bd8, t_awake09, g1, g2, g3, eq_true g4, chk_of]
        · by_cases g5 : 1099511627776 < n
          · simp (maxSteps := 2000000) (disch := omega) only [go_sem, doCall, doCallQ, Nat.reduceAdd, Nat.reduceMul, Nat.reduceSub, Nat.reduceDiv, Nat.reduceMod, Nat.reduceLT, Nat.reduceLeDiff, Nat.reduceEqDiff, Nat.reduceBEq, Nat.reduceBNe, Int.reduceToNat, Int.reduceLT, Int.reduceLE, Int.reduceEq, Int.reduceNe, Int.reduceAdd, Int.reduceSub, Int.reduceMul, Int.reduceNeg, bd8, t_awake09, g1, g2, g3, g4, eq_true g5, chk_of]
          · by_cases g6 : (100 : Int) < (tag.length : Int)
            · simp (maxSteps := 2000000) (disch := omega) only [go_sem, doCall, doCallQ, Nat.reduceAdd, Nat.reduceMul, Nat.reduceSub, Nat.reduceDiv, Nat.reduceMod, Nat.reduceLT, Nat.reduceLeDiff, Nat.reduceEqDiff, Nat.reduceBEq, Nat.reduceBNe, Int.reduceToNat, Int.reduceLT, Int.reduceLE, Int.reduceEq, Int.reduceNe, Int.reduceAdd, Int.reduceSub, Int.reduceMul, Int.reduceNeg, bd8, t_awake09, g1, g2, g3, g4, g5, eq_true g6, chk_of]
            · obtain ⟨a, rfl⟩ : ∃ a : Nat, first = a := ⟨first.toNat, by omega⟩
              obtain ⟨b, rfl⟩ : ∃ b : Nat, last = b := ⟨last.toNat, by omega⟩
              have q1 := t_ps2 a b (by omega) (by omega)
              have q2 := t_ps3 a (by omega)
              have l1 := decs_le a (by omega)
              have l2 := decs_le b (by omega)
              have s1 : SpecR (2, (a : Int), (b : Int)) := ⟨by show (0 : Int) ≤ a; omega, .inl ⟨rfl, by show (a : Int) ≤ b; omega, by show (b : Int) ≤ 4611686018427387903; omega⟩⟩
              have s2 : SpecR (3, (a : Int), 0) := ⟨by show (0 : Int) ≤ a; omega, .inr (.inr ⟨rfl, by show (a : Int) ≤ 4611686018427387903; omega, rfl⟩)⟩
              have c1 := choose_one (hdr ++ (decs a ++ 45 :: decs b)) tag (by rw [List.length_append, List.length_append, List.length_cons]; have : hdr.length = 6 := rfl; omega) _ (spec_both a b (by omega) (by omega)) s1 n (by omega)
              have c2 := choose_one (hdr ++ 45 :: decs a) tag (by rw [List.length_append, List.length_cons]; have : hdr.length = 6 := rfl; omega) _ (spec_last a (by omega)) s2 n (by omega)
              have o1 : oneP (2, (a : Int), (b : Int)) n = ((a : Int), min (b : Int) (n - 1) + 1) := rfl
              have o2 : oneP (3, (a : Int), 0) n = (n - min (a : Int) n, n) := rfl
              have w1 : wr .i64 (n - min (a : Int) n) = n - min (a : Int) n := wr_id (by omega)
              have w2 : wr .i64 ((b : Int) + 1) = (b : Int) + 1 := wr_id (by omega)
              rw [o1] at c1
              rw [o2] at c2
              have e1 : min ((b : Int) + 1) n = min (b : Int) (n - 1) + 1 := by omega
              by_cases z : a = 0
              · have z1 := eq_true (show (a : Int) = 0 by omega)
                have z2 := eq_false (show ¬ (0 : Int) < a by omega)
                rw [if_neg (by unfold RP; simp only; omega), if_neg (by unfold RP; simp only; omega)] at c2
                have p1 : RP (a : Int) (min (b : Int) (n - 1) + 1) := by unfold RP; omega
                rw [if_pos p1, if_pos p1] at c1
                have z3 := eq_false (show ¬ n ≤ (a : Int) by omega)
                simp (maxSteps := 2000000) (disch := omega) only [go_sem, doCall, doCallQ, Nat.reduceAdd, Nat.reduceMul, Nat.reduceSub, Nat.reduceDiv, Nat.reduceMod, Nat.reduceLT, Nat.reduceLeDiff, Nat.reduceEqDiff, Nat.reduceBEq, Nat.reduceBNe, Int.reduceToNat, Int.reduceLT, Int.reduceLE, Int.reduceEq, Int.reduceNe, Int.reduceAdd, Int.reduceSub, Int.reduceMul, Int.reduceNeg, bd8, t_awake09, g1, g2, g3, g4, g5, g6, q1, q2, c1, c2, z1, z2, z3, w1, w2, e1, List.length_cons, List.length_nil, beq_self_eq_true, chk_of]
              · have z1 := eq_false (show ¬ (a : Int) = 0 by omega)
                have z2 := eq_true (show (0 : Int) < a by omega)
                have p2 : RP (n - min (a : Int) n) n := by unfold RP; omega
                rw [if_pos p2, if_pos p2] at c2
                by_cases y : n ≤ (a : Int)
                · have y1 := eq_true y
                  have p1 : ¬ RP (a : Int) (min (b : Int) (n - 1) + 1) := by unfold RP; omega
                  rw [if_neg p1, if_neg p1] at c1
                  simp (maxSteps := 2000000) (disch := omega) only [go_sem, doCall, doCallQ, Nat.reduceAdd, Nat.reduceMul, Nat.reduceSub, Nat.reduceDiv, Nat.reduceMod, Nat.reduceLT, Nat.reduceLeDiff, Nat.reduceEqDiff, Nat.reduceBEq, Nat.reduceBNe, Int.reduceToNat, Int.reduceLT, Int.reduceLE, Int.reduceEq, Int.reduceNe, Int.reduceAdd, Int.reduceSub, Int.reduceMul, Int.reduceNeg, bd8, t_awake09, g1, g2, g3, g4, g5, g6, q1, q2, c1, c2, z1, z2, y1, w1, w2, e1, List.length_cons, List.length_nil, beq_self_eq_true, chk_of]
                · have y1 := eq_false y
                  have p1 : RP (a : Int) (min (b : Int) (n - 1) + 1) := by unfold RP; omega
                  rw [if_pos p1, if_pos p1] at c1
                  simp (maxSteps := 2000000) (disch := omega) only [go_sem, doCall, doCallQ, Nat.reduceAdd, Nat.reduceMul, Nat.reduceSub, Nat.reduceDiv, Nat.reduceMod, Nat.reduceLT, Nat.reduceLeDiff, Nat.reduceEqDiff, Nat.reduceBEq, Nat.reduceBNe, Int.reduceToNat, Int.reduceLT, Int.reduceLE, Int.reduceEq, Int.reduceNe, Int.reduceAdd, Int.reduceSub, Int.reduceMul, Int.reduceNeg, bd8, t_awake09, g1, g2, g3, g4, g5, g6, q1, q2, c1, c2, z1, z2, y1, w1, w2, e1, List.length_cons, List.length_nil, beq_self_eq_true, chk_of]
end Go.Proofs.YtpibecljdooilaaDoor
