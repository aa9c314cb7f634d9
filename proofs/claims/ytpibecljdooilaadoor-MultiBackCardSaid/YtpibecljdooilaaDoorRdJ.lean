/- multi.Read. Own work. How much the parts that are read hold. Own work. Reading parts: what is printed is read again. Own work. MultiBack, MultiReads: the law functions. Own work. MultiReads: the law function. Own work. MultiBack, MultiReads: the arguments. Own work. -/
import Derived.Test.YtpibecljdooilaaDoorMulD
import Derived.Test.YtpibecljdooilaaDoorDecV
namespace Go.Proofs.YtpibecljdooilaaDoor
open Go Go.Ev Go.Proofs.YtpibecljdooilaaDoor.Ir Go.Prs
set_option maxRecDepth 100000
set_option maxHeartbeats 4000000
set_option linter.unusedSimpArgs false
set_option linter.unusedVariables false
/-- What Read tells. -/
def readR (b s : List UInt8) : List PartD × Int × Int :=
  if (isTok s && decide (s.length ≤ 40)) = false then ([], 0, 1) else
  if (ptsR s (b.length + 1) b 0 []).2.1 = false then ([], 0, 3) else
  if putR (ptsR s (b.length + 1) b 0 []).1 (ptsR s (b.length + 1) b 0 []).2.2.2 s = true ∧ putB (ptsR s (b.length + 1) b 0 []).1 (ptsR s (b.length + 1) b 0 []).2.2.2 s = b then ((ptsR s (b.length + 1) b 0 []).1, (ptsR s (b.length + 1) b 0 []).2.2.2, 0) else ([], 0, 3)
def readV (r : List PartD × Int × Int) : Option (AV × Heap) :=
  if r.2.2 = 0 then some (.tup [.own 0 3 0 r.1.length false, dI r.2.1, dI 0], [.frz 3 (r.1.map partRow)]) else some (.tup [.d (.list 3 []), dI 0, dI r.2.2], [])
theorem t_read (b s : List UInt8) (hb : b.length ≤ 100000) (hs : s.length ≤ 1000000)
    (hB : (isTok s && decide (s.length ≤ 40)) = true → (ptsR s (b.length + 1) b 0 []).1.length ≤ 100000 ∧ (putR (ptsR s (b.length + 1) b 0 []).1 (ptsR s (b.length + 1) b 0 []).2.2.2 s = true → (putB (ptsR s (b.length + 1) b 0 []).1 (ptsR s (b.length + 1) b 0 []).2.2.2 s).length ≤ 1000000)) :
    call ir2 17 [lB b, dS s] [] = readV (readR b s) := by
  rw [call_eq (ir := ir2) (fn := ir17) rfl, evF_bnd]
  have hm := call_ext ext2 (t_may s (by omega))
  unfold readR
  cases h1 : (isTok s && decide (s.length ≤ 40))
  · rw [h1] at hm
    rw [if_pos rfl]
    simp only [readV, if_true, if_false, Int.reduceEq]
    simp (maxSteps := 2000000) (disch := omega) only [go_sem, doCall, doCallQ, doCallP, Nat.reduceAdd, Nat.reduceMul, Nat.reduceSub, Nat.reduceDiv, Nat.reduceMod, Nat.reduceLT, Nat.reduceLeDiff, Nat.reduceEqDiff, Nat.reduceBEq, Nat.reduceBNe, Int.reduceToNat, Int.reduceLT, Int.reduceLE, Int.reduceEq, Int.reduceNe, Int.reduceAdd, Int.reduceSub, Int.reduceMul, Int.reduceNeg, bd17, hm, chk_of]
  · rw [h1] at hm
    rw [if_neg (by simp)]
    obtain ⟨hl, hpb⟩ := hB h1
    have hs40 : s.length ≤ 40 := by simp at h1; exact h1.2
    have hp := call_ext ext2 (t_parts b s 0 (by omega) (by omega))
    generalize ptsR s (b.length + 1) b 0 [] = r at hp hl hpb ⊢
    obtain ⟨l, ok, b2, n⟩ := r
    simp only at hp hl hpb ⊢
    have hlm : (l.map partRow).length = l.length := List.length_map ..
    have htk : List.take l.length (l.map partRow) = l.map partRow := List.take_of_length_le (by rw [hlm]; exact Nat.le_refl _)
    cases ok
    · have hw := t_why false
      rw [if_neg (by simp)] at hp hw
      rw [if_neg (by simp)] at hw
      rw [if_pos rfl]
      simp only [readV, if_true, if_false, Int.reduceEq]
      simp (maxSteps := 2000000) (disch := omega) only [go_sem, doCall, doCallQ, doCallP, Nat.reduceAdd, Nat.reduceMul, Nat.reduceSub, Nat.reduceDiv, Nat.reduceMod, Nat.reduceLT, Nat.reduceLeDiff, Nat.reduceEqDiff, Nat.reduceBEq, Nat.reduceBNe, Int.reduceToNat, Int.reduceLT, Int.reduceLE, Int.reduceEq, Int.reduceNe, Int.reduceAdd, Int.reduceSub, Int.reduceMul, Int.reduceNeg, bd17, hm, hp, hw, hlm, htk, Nat.zero_add, Nat.le_refl, if_true, chk_of]
    · have hw := t_why true
      rw [if_pos rfl] at hp hw
      rw [if_pos rfl] at hw
      rw [if_neg (by simp)]
      have hput := put_call l n s (by omega) hpb
      cases hr : putR l n s
      · rw [hr, if_neg (by simp)] at hput
        rw [if_neg (by simp)]
        simp only [readV, if_true, if_false, Int.reduceEq]
        simp (maxSteps := 2000000) (disch := omega) only [go_sem, doCall, doCallQ, doCallP, Nat.reduceAdd, Nat.reduceMul, Nat.reduceSub, Nat.reduceDiv, Nat.reduceMod, Nat.reduceLT, Nat.reduceLeDiff, Nat.reduceEqDiff, Nat.reduceBEq, Nat.reduceBNe, Int.reduceToNat, Int.reduceLT, Int.reduceLE, Int.reduceEq, Int.reduceNe, Int.reduceAdd, Int.reduceSub, Int.reduceMul, Int.reduceNeg, bd17, hm, hp, hw, hput, hlm, htk, Nat.zero_add, Nat.le_refl, if_true, chk_of]
      · rw [hr, if_pos rfl] at hput
        have he := call_ext ext2 (t_equal (putB l n s) b)
        by_cases h2 : putB l n s = b
        · rw [decide_eq_true h2] at he
          rw [if_pos ⟨rfl, h2⟩]
          simp only [readV, if_true, if_false, Int.reduceEq]
          simp (maxSteps := 2000000) (disch := omega) only [go_sem, doCall, doCallQ, doCallP, Nat.reduceAdd, Nat.reduceMul, Nat.reduceSub, Nat.reduceDiv, Nat.reduceMod, Nat.reduceLT, Nat.reduceLeDiff, Nat.reduceEqDiff, Nat.reduceBEq, Nat.reduceBNe, Int.reduceToNat, Int.reduceLT, Int.reduceLE, Int.reduceEq, Int.reduceNe, Int.reduceAdd, Int.reduceSub, Int.reduceMul, Int.reduceNeg, bd17, hm, hp, hw, hput, he, hlm, htk, Nat.zero_add, Nat.le_refl, if_true, chk_of]
        · rw [decide_eq_false h2] at he
          rw [if_neg (fun h => h2 h.2)]
          simp only [readV, if_true, if_false, Int.reduceEq]
          simp (maxSteps := 2000000) (disch := omega) only [go_sem, doCall, doCallQ, doCallP, Nat.reduceAdd, Nat.reduceMul, Nat.reduceSub, Nat.reduceDiv, Nat.reduceMod, Nat.reduceLT, Nat.reduceLeDiff, Nat.reduceEqDiff, Nat.reduceBEq, Nat.reduceBNe, Int.reduceToNat, Int.reduceLT, Int.reduceLE, Int.reduceEq, Int.reduceNe, Int.reduceAdd, Int.reduceSub, Int.reduceMul, Int.reduceNeg, bd17, hm, hp, hw, hput, he, hlm, htk, Nat.zero_add, Nat.le_refl, if_true, chk_of]
end Go.Proofs.YtpibecljdooilaaDoor
namespace Go.Proofs.YtpibecljdooilaaDoor
open Go Go.Ev Go.Proofs.YtpibecljdooilaaDoor.Ir Go.Prs
set_option maxRecDepth 100000
set_option linter.unusedSimpArgs false
set_option linter.unusedVariables false
theorem ptR_bound (b : List UInt8) (n : Int) (h : (ptR b n).2.1 = true) : (ptR b n).1.2.2.length + (ptR b n).2.2.1.length + 1 ≤ b.length := by
  unfold ptR at h ⊢
  cases e1 : pre fieldB b
  · rw [e1] at h; simp at h
  · have hp := pre_len e1
    have hf : fieldB.length = 17 := rfl
    rw [hf] at hp
    rw [e1, if_neg (by simp)] at h
    rw [if_neg (by simp)]
    have hl := ctR_len (b.drop 17)
    rw [List.length_drop] at hl
    obtain ⟨o, b2, hct⟩ : ∃ o b2, ctR (b.drop 17) = (o, b2) := ⟨_, _, rfl⟩
    rw [hct] at hl h ⊢
    simp only at hl h ⊢
    cases o with
    | none => simp at h
    | some c =>
      simp only at h ⊢
      split at h
      · simp at h
      · rename_i c1
        rw [if_neg c1]
        split at h
        · simp at h
        · rename_i c2
          rw [if_neg c2]
          split at h
          · rename_i c3
            rw [if_pos c3]
            simp only [List.length_take, List.length_drop]; omega
          · simp at h
theorem ptsR_bound (s : List UInt8) : ∀ (k : Nat) (b : List UInt8) (n : Int) (out : List PartD), (ptsR s k b n out).1.length ≤ out.length + b.length ∧ sumB (ptsR s k b n out).1 ≤ sumB out + b.length := by
  intro k
  induction k with
  | zero => intro b n out; simp [ptsR, sumB]
  | succ k ih =>
    intro b n out
    unfold ptsR
    have h0 : sumB ([] : List PartD) = 0 := rfl
    have hd : (b.drop (2 + s.length)).length ≤ b.length := by rw [List.length_drop]; omega
    split
    · simp [h0]
    · split
      · split
        · simp only; omega
        · simp only; omega
      · split
        · rename_i hp
          have hb := ptR_bound _ _ hp
          have := ih (ptR (b.drop (2 + s.length)) n).2.2.1 (ptR (b.drop (2 + s.length)) n).2.2.2 (out ++ [(ptR (b.drop (2 + s.length)) n).1])
          have e : sumB (out ++ [(ptR (b.drop (2 + s.length)) n).1]) = sumB out + (ptR (b.drop (2 + s.length)) n).1.2.2.length := by simp [sumB]
          rw [e, List.length_append] at this
          simp only [List.length_cons, List.length_nil] at this
          omega
        · simp [h0]
end Go.Proofs.YtpibecljdooilaaDoor
namespace Go.Proofs.YtpibecljdooilaaDoor
open Go Go.Ev Go.Proofs.YtpibecljdooilaaDoor.Ir Go.Prs
set_option maxRecDepth 100000
set_option linter.unusedSimpArgs false
set_option linter.unusedVariables false
theorem cntS_true {f t n : Int} (h : CntR true f t n) (hn : n ≠ -1) : cntS true f t n = bytesW ++ 32 :: ((prn f ++ 45 :: prn (t - 1)) ++ 47 :: prn n) := by
  unfold cntS
  rw [if_pos h, if_pos rfl, if_neg hn]
  simp [bytesW]
theorem mem3 {a b c : List UInt8} {y z : UInt8} {q : UInt8} (h1 : ∀ x ∈ a, x ≠ q) (h2 : y ≠ q) (h3 : ∀ x ∈ b, x ≠ q) (h4 : z ≠ q) (h5 : ∀ x ∈ c, x ≠ q) : ∀ x ∈ (a ++ y :: b) ++ z :: c, x ≠ q := by
  intro x hx
  rcases List.mem_append.1 hx with hx | hx
  · rcases List.mem_append.1 hx with hx | hx
    · exact h1 x hx
    · rcases List.mem_cons.1 hx with rfl | hx
      · exact h2
      · exact h3 x hx
  · rcases List.mem_cons.1 hx with rfl | hx
    · exact h4
    · exact h5 x hx
theorem cntS_no13 {f t n : Int} (h : CntR true f t n) (hn : n ≠ -1) : ∀ x ∈ cntS true f t n, x ≠ 13 := by
  have hr := h.2
  rw [if_pos rfl] at hr
  have hr1 := hr.1
  unfold RP at hr1
  have hn0 : 0 ≤ n := by have := h.1; omega
  rw [cntS_true h hn]
  intro x hx
  rcases List.mem_append.1 hx with hx | hx
  · unfold bytesW at hx
    intro e; subst e; revert hx; decide
  · rcases List.mem_cons.1 hx with rfl | hx
    · decide
    · exact mem3 (prn_ne (by omega) (by decide)) (by decide) (prn_ne (by omega) (by decide)) (by decide) (prn_ne hn0 (by decide)) x hx
theorem numE_ok {n : Int} (h : 0 ≤ n) (h2 : n ≤ 4611686018427387903) : numE 0 (prn n) = 0 := by
  unfold numE
  rw [prs_prn h h2, if_pos (.inr rfl)]
theorem cp_cntS {f t n : Int} (h : CntR true f t n) (hn : n ≠ -1) : cp (cntS true f t n) = ((true, f, t, n), 0) := by
  have hr := h.2
  rw [if_pos rfl] at hr
  have hr1 := hr.1
  unfold RP at hr1
  have hn0 : 0 ≤ n ∧ n ≤ 4611686018427387903 := by have := h.1; omega
  have c1 := cut_app (c := 32) (s := bytesW) (t := (prn f ++ 45 :: prn (t - 1)) ++ 47 :: prn n) (by decide)
  have c2 : cut 47 ((prn f ++ 45 :: prn (t - 1)) ++ 47 :: prn n) = (prn f ++ 45 :: prn (t - 1), prn n, true) := cut_app (by
    intro x hx
    rcases List.mem_append.1 hx with hx | hx
    · exact prn_ne (by omega) (by decide) x hx
    · rcases List.mem_cons.1 hx with rfl | hx
      · decide
      · exact prn_ne (by omega) (by decide) x hx)
  have c3 : cut 45 (prn f ++ 45 :: prn (t - 1)) = (prn f, prn (t - 1), true) := cut_app (prn_ne (by omega) (by decide))
  have n1 : prn f ++ 45 :: prn (t - 1) ≠ [42] := fun e => by
    have := congrArg List.length e
    have h1 := List.length_pos_iff.2 (prn_nil (n := f) (by omega))
    simp at this; omega
  have n2 : prn n ≠ [42] := fun e => by
    have := prn_ne (n := n) (by omega) (c := 42) (by decide)
    rw [e] at this
    exact this 42 (by simp) rfl
  have p1 := prs_prn (n := f) (by omega) (by omega)
  have p2 := prs_prn (n := t - 1) (by omega) (by omega)
  have p3 := prs_prn (n := n) (by omega) (by omega)
  have hlow : bytesW.map low = bytesW := by decide
  have hm : ¬ (true = false ∨ true = false ∨ bytesW.map low ≠ bytesW) := by rw [hlow]; simp
  unfold cp
  rw [cntS_true h hn, c1]
  simp only
  rw [c2]
  simp only
  rw [if_neg hm]
  unfold cpV
  simp only
  rw [if_neg n1, c3]
  simp only
  rw [if_neg (by simp)]
  rw [p1, p2]
  simp only
  rw [if_neg n2, if_neg n2, p3]
  simp only
  have e1 : numE (numE (numE 0 (prn f)) (prn (t - 1))) (prn n) = 0 := by
    rw [numE_ok (by omega) (by omega), numE_ok (by omega) (by omega), numE_ok (by omega) (by omega)]
  rw [e1, if_neg (by simp), Int.sub_add_cancel, if_pos h]
theorem occ_no {s sub : List UInt8} {j : Nat} (hj : j < s.length) (h : s[j] ≠ 13) : Lib.occAt s (13 :: sub) j = false := by
  unfold Lib.occAt
  rw [List.drop_eq_getElem_cons hj]
  have h' : (13 == s[j]) = false := by
    rw [beq_eq_false_iff_ne]; exact fun e => h e.symm
  simp [List.isPrefixOf, h']
theorem index_line {c r : List UInt8} (h : ∀ x ∈ c, x ≠ 13) : Lib.index (c ++ 13 :: 10 :: r) [13, 10] = c.length := by
  refine Lib.index_first (by simp) ?_ (fun j hj => ?_)
  · unfold Lib.occAt
    rw [List.drop_left]
    rfl
  · refine occ_no (by simp; omega) ?_
    rw [List.getElem_append_left hj]
    exact h _ (List.getElem_mem hj)
theorem pre_app (p r : List UInt8) : pre p (p ++ r) = true := by
  unfold pre
  rw [List.take_left]
  exact decide_eq_true rfl
theorem pre_ne {a b : UInt8} {p r : List UInt8} (h : a ≠ b) : pre (a :: p) (b :: r) = false := by
  unfold pre
  refine decide_eq_false (fun e => ?_)
  rw [List.length_cons, List.take_succ_cons] at e
  injection e with e1 e2
  exact h e1.symm
theorem ctR_line {f t n : Int} (h : CntR true f t n) (hn : n ≠ -1) (r : List UInt8) : ctR (cntS true f t n ++ 13 :: 10 :: r) = (some (true, f, t, n), r) := by
  have hi := index_line (r := r) (cntS_no13 h hn)
  have hn0 : 0 ≤ n := by have := h.1; omega
  unfold ctR
  rw [hi, Int.toNat_natCast, if_pos (by omega), List.take_left]
  have hok : ctOk (cntS true f t n) := by
    unfold ctOk
    rw [cp_cntS h hn]
    exact ⟨rfl, rfl, rfl, hn0⟩
  rw [if_pos hok, cp_cntS h hn]
  have e : (cntS true f t n ++ 13 :: 10 :: r).drop ((cntS true f t n).length + 2) = r := by
    rw [← List.drop_drop, List.drop_left]; rfl
  rw [e]
theorem cnt_of {n : Int} {p : PartD} (hn : n ≤ 4611686018427387903) (h : pOk n p) : CntR true p.1 p.2.1 n ∧ n ≠ -1 := by
  have h1 := h.1
  have h2 := h.2.1
  unfold RP at h1
  refine ⟨⟨.inr (by omega), ?_⟩, by omega⟩
  rw [if_pos rfl]
  exact ⟨h.1, .inr h2⟩
theorem ptR_part {n m : Int} {p : PartD} (hn : n ≤ 4611686018427387903) (h : pOk n p) (r : List UInt8) :
    ptR (fieldB ++ (cntS true p.1 p.2.1 n ++ 13 :: 10 :: ([13, 10] ++ (p.2.2 ++ ([13, 10] ++ r))))) m = (p, true, r, n) := by
  obtain ⟨hc, hn1⟩ := cnt_of hn h
  have hlen := h.2.2
  unfold ptR
  rw [pre_app, if_neg (by simp)]
  have e1 : ∀ x : List UInt8, (fieldB ++ x).drop 17 = x := fun x => List.drop_left (l₁ := fieldB)
  rw [e1, ctR_line hc hn1]
  simp only
  rw [pre_app, if_neg (by simp)]
  have e2 : ∀ x : List UInt8, ([13, 10] ++ x).drop 2 = x := fun x => rfl
  rw [e2]
  have hL : (p.2.1 - p.1).toNat = p.2.2.length := by omega
  rw [if_neg (by simp; omega), hL, List.drop_left, pre_app, if_pos rfl, List.take_left, e2]
theorem oneB_eq (s : List UInt8) (n : Int) (p : PartD) (r : List UInt8) : oneB s n p ++ r = ([45, 45] ++ s) ++ (fieldB ++ (cntS true p.1 p.2.1 n ++ 13 :: 10 :: ([13, 10] ++ (p.2.2 ++ ([13, 10] ++ r))))) := by
  simp [oneB, headS, fieldB]
theorem drop_head (s x : List UInt8) : (([45, 45] ++ s) ++ x).drop (2 + s.length) = x := by
  have : ([45, 45] ++ s).length = 2 + s.length := by simp; omega
  rw [← this, List.drop_left]
theorem ptsR_succ (s : List UInt8) (k : Nat) (b : List UInt8) (n : Int) (out : List PartD) : ptsR s (k + 1) b n out =
    if pre ([45, 45] ++ s) b = false then ([], false, b, n) else
    if pre [45, 45] (b.drop (2 + s.length)) then
      (if pre [45, 45, 13, 10] (b.drop (2 + s.length)) then (out, true, (b.drop (2 + s.length)).drop 4, n) else (out, false, b.drop (2 + s.length), n))
    else if (ptR (b.drop (2 + s.length)) n).2.1 then ptsR s k (ptR (b.drop (2 + s.length)) n).2.2.1 (ptR (b.drop (2 + s.length)) n).2.2.2 (out ++ [(ptR (b.drop (2 + s.length)) n).1])
    else ([], false, (ptR (b.drop (2 + s.length)) n).2.2.1, (ptR (b.drop (2 + s.length)) n).2.2.2) := rfl
/-- All parts, and what is behind them. -/
theorem ptsR_app (s : List UInt8) (n : Int) (hn : n ≤ 4611686018427387903) : ∀ (l : List PartD) (k : Nat) (r : List UInt8) (m : Int) (out : List PartD), allP n l = true →
    ptsR s (k + l.length) (allBy s n l ++ r) m out = ptsR s k r (if l = [] then m else n) (out ++ l) := by
  intro l
  induction l with
  | nil => intro k r m out _; simp [allBy]
  | cons p l ih =>
    intro k r m out h
    unfold allP at h
    by_cases hp : pOk n p
    · rw [if_pos hp] at h
      have e : allBy s n (p :: l) ++ r = ([45, 45] ++ s) ++ (fieldB ++ (cntS true p.1 p.2.1 n ++ 13 :: 10 :: ([13, 10] ++ (p.2.2 ++ ([13, 10] ++ (allBy s n l ++ r)))))) := by
        rw [← oneB_eq]; simp [allBy]
      have h1 := ih k r n (out ++ [p]) h
      rw [e, List.length_cons, ← Nat.add_assoc]
      rw [ptsR_succ]
      rw [pre_app, if_neg (by simp), drop_head]
      have hd : ∀ x : List UInt8, pre [45, 45] (fieldB ++ x) = false := fun x => pre_ne (by decide)
      rw [hd, if_neg (by simp), ptR_part hn hp]
      simp only [if_true]
      rw [h1, List.append_assoc, List.singleton_append]
      by_cases hl : l = []
      · rw [if_pos hl, if_neg (by simp)]
      · rw [if_neg hl, if_neg (by simp)]
    · rw [if_neg hp] at h; simp at h
theorem lastS_eq (s r : List UInt8) : lastS s ++ r = ([45, 45] ++ s) ++ ([45, 45, 13, 10] ++ r) := by simp [lastS]
/-- The end. -/
theorem ptsR_last (s r : List UInt8) (m : Int) (out : List PartD) (k : Nat) : ptsR s (k + 1) (lastS s ++ r) m out = (out, true, r, m) := by
  unfold ptsR
  rw [lastS_eq, pre_app, if_neg (by simp), drop_head]
  have e1 : pre [45, 45] ([45, 45, 13, 10] ++ r) = true := pre_app [45, 45] ([13, 10] ++ r)
  rw [e1, if_pos rfl, pre_app, if_pos rfl]
  rfl
/-- The end without its last byte. -/
theorem ptsR_short (s : List UInt8) (m : Int) (out : List PartD) (k : Nat) : (ptsR s (k + 1) (([45, 45] ++ s) ++ [45, 45, 13]) m out).2.1 = false := by
  unfold ptsR
  rw [pre_app, if_neg (by simp), drop_head]
  have e1 : pre [45, 45] [45, 45, 13] = true := by decide
  have e2 : pre [45, 45, 13, 10] [45, 45, 13] = false := by decide
  rw [e1, if_pos rfl, e2, if_neg (by simp)]
theorem putR_iff {l : List PartD} {n : Int} {s : List UInt8} (h : putR l n s = true) : (isTok s && decide (s.length ≤ 40)) = true ∧ n ≤ 4611686018427387903 ∧ allP n l = true ∧ 1 ≤ l.length := by
  unfold putR at h
  rw [Bool.and_eq_true] at h
  have h2 := of_decide_eq_true h.2
  exact ⟨h.1, h2.2.1, h2.2.2, h2.1.1⟩
theorem fuel {l : List PartD} {n : Int} {s r : List UInt8} : ∃ k, (allBy s n l ++ r).length + 1 = (k + 1) + l.length := by
  have h : ∀ l : List PartD, l.length ≤ (allBy s n l).length := by
    intro l
    induction l with
    | nil => simp [allBy]
    | cons p l ih =>
      have e : (allBy s n (p :: l)).length = (oneB s n p).length + (allBy s n l).length := by simp [allBy]
      have : 1 ≤ (oneB s n p).length := by simp [oneB]; omega
      rw [e, List.length_cons]; omega
  have := h l
  refine ⟨(allBy s n l ++ r).length - l.length, ?_⟩
  rw [List.length_append]; omega
/-- What is printed is read again. -/
theorem read_back {l : List PartD} {n : Int} {s : List UInt8} (h : putR l n s = true) : readR (putB l n s) s = (l, n, 0) := by
  obtain ⟨h1, h2, h3, h4⟩ := putR_iff h
  obtain ⟨k, hk⟩ := fuel (l := l) (n := n) (s := s) (r := lastS s)
  have hp : ptsR s ((putB l n s).length + 1) (putB l n s) 0 [] = (l, true, [], n) := by
    unfold putB
    rw [hk, ptsR_app s n h2 l _ _ _ _ h3]
    have := ptsR_last s [] (if l = [] then 0 else n) ([] ++ l) k
    rw [List.append_nil] at this
    rw [this, List.nil_append, if_neg (by intro e; subst e; simp at h4)]
  unfold readR
  rw [h1, if_neg (by simp), hp]
  simp only
  rw [if_neg (by simp), if_pos ⟨h, trivial⟩]
/-- With a byte more it is none. -/
theorem read_more {l : List PartD} {n : Int} {s : List UInt8} (h : putR l n s = true) (x : UInt8) : (readR (putB l n s ++ [x]) s).2.2 = 3 := by
  obtain ⟨h1, h2, h3, h4⟩ := putR_iff h
  obtain ⟨k, hk⟩ := fuel (l := l) (n := n) (s := s) (r := lastS s ++ [x])
  have hp : ptsR s ((putB l n s ++ [x]).length + 1) (putB l n s ++ [x]) 0 [] = (l, true, [x], n) := by
    unfold putB
    rw [List.append_assoc, hk, ptsR_app s n h2 l _ _ _ _ h3]
    rw [ptsR_last s [x] (if l = [] then 0 else n) ([] ++ l) k, List.nil_append, if_neg (by intro e; subst e; simp at h4)]
  unfold readR
  rw [h1, if_neg (by simp), hp]
  simp only
  rw [if_neg (by simp), if_neg (fun e => by have := congrArg List.length e.2; simp at this)]
/-- With a byte less it is none. -/
theorem read_less {l : List PartD} {n : Int} {s : List UInt8} (h : putR l n s = true) : (readR ((putB l n s).take ((putB l n s).length - 1)) s).2.2 = 3 := by
  obtain ⟨h1, h2, h3, h4⟩ := putR_iff h
  have e : (putB l n s).take ((putB l n s).length - 1) = allBy s n l ++ (([45, 45] ++ s) ++ [45, 45, 13]) := by
    have : putB l n s = (allBy s n l ++ (([45, 45] ++ s) ++ [45, 45, 13])) ++ [10] := by simp [putB, lastS]
    rw [this, List.length_append, List.length_singleton, Nat.add_sub_cancel, List.take_left]
  rw [e]
  obtain ⟨k, hk⟩ := fuel (l := l) (n := n) (s := s) (r := ([45, 45] ++ s) ++ [45, 45, 13])
  have hp : (ptsR s ((allBy s n l ++ (([45, 45] ++ s) ++ [45, 45, 13])).length + 1) (allBy s n l ++ (([45, 45] ++ s) ++ [45, 45, 13])) 0 []).2.1 = false := by
    rw [hk, ptsR_app s n h2 l _ _ _ _ h3]
    exact ptsR_short s _ _ k
  unfold readR
  rw [h1, if_neg (by simp), if_pos hp]
end Go.Proofs.YtpibecljdooilaaDoor
namespace Go.Proofs.YtpibecljdooilaaDoor
open Go Go.Ev Go.Proofs.YtpibecljdooilaaDoor.Ir Go.Prs
set_option maxRecDepth 100000
set_option maxHeartbeats 4000000
set_option linter.unusedSimpArgs false
set_option linter.unusedVariables false
theorem lp_rpts (l : List PartD) (hl : l.length ≤ 1000000) (hb : ∀ p ∈ l, p.2.2.length ≤ 1000000) (k : Ex → St → Option (AV × Heap)) (i : Nat) (hi : i ≤ l.length) :
    (bnd (evC (call ir) (loop ir) lp18_0 (st18_0 0 (vL l) (vL l) (dI l.length) (dI i) [])) (lpC (call ir) (loop ir) [0, 1, 12, 13] lp18_0 k)) = k (.exit 0) (clean [] (st18_0 0 .unk .unk .unk .unk [])) := by
  by_cases h : i = l.length
  · have hx : ¬ (i : Int) < l.length := by omega
    rw [h] at hx
    rw [h]
    simp (maxSteps := 2000000) (disch := omega) only [go_sem, doCall, doCallQ, doCallP, Nat.reduceAdd, Nat.reduceMul, Nat.reduceSub, Nat.reduceDiv, Nat.reduceMod, Nat.reduceLT, Nat.reduceLeDiff, Nat.reduceEqDiff, Nat.reduceBEq, Nat.reduceBNe, Int.reduceToNat, Int.reduceLT, Int.reduceLE, Int.reduceEq, Int.reduceNe, Int.reduceAdd, Int.reduceSub, Int.reduceMul, Int.reduceNeg, u18_0, lb18_0, hx]
  · have hlt : (i : Int) < l.length := by omega
    have hi' : i < l.length := by omega
    have hw := wr_succ (i := i) (by omega)
    have hg := getP l hi'
    have hlm : (l.map partRow).length = l.length := List.length_map ..
    have h1 := c_rbytes l[i].2.2 (by have := hb _ (List.getElem_mem hi'); omega)
    have ih := lp_rpts l hl hb k (i + 1) (by omega)
    simp (maxSteps := 2000000) (disch := omega) only [go_sem, doCall, doCallQ, doCallP, Nat.reduceAdd, Nat.reduceMul, Nat.reduceSub, Nat.reduceDiv, Nat.reduceMod, Nat.reduceLT, Nat.reduceLeDiff, Nat.reduceEqDiff, Nat.reduceBEq, Nat.reduceBNe, Int.reduceToNat, Int.reduceLT, Int.reduceLE, Int.reduceEq, Int.reduceNe, Int.reduceAdd, Int.reduceSub, Int.reduceMul, Int.reduceNeg, u18_0, lb18_0, hlt, hi', hw, hg, hlm, h1, rB_len, beq_self_eq_true, bne_self_eq_false, Int.natCast_nonneg, Int.toNat_natCast, Option.getD_some, Option.getD_none, List.drop_zero, Nat.sub_zero, Nat.zero_le, true_and, and_true, Nat.le_refl, chk_of]
    rw [loop_step1]; simp (maxSteps := 2000000) only [go_sem, doCall, doCallQ, doCallP, Nat.reduceAdd, Nat.reduceMul, Nat.reduceSub, Nat.reduceDiv, Nat.reduceMod, Nat.reduceLT, Nat.reduceLeDiff, Nat.reduceEqDiff, Nat.reduceBEq, Nat.reduceBNe, Int.reduceToNat, Int.reduceLT, Int.reduceLE, Int.reduceEq, Int.reduceNe, Int.reduceAdd, Int.reduceSub, Int.reduceMul, Int.reduceNeg]; exact ih
termination_by l.length - i
theorem t_rpts (l : List PartD) (hl : l.length ≤ 1000000) (hb : ∀ p ∈ l, p.2.2.length ≤ 1000000) : call ir 18 [vL l, vL l] [] = some (dT true, []) := by
  rw [call_eq (fn := ir18) rfl, evF_bnd]
  have hlm : (l.map partRow).length = l.length := List.length_map ..
  simp (maxSteps := 2000000) (disch := omega) only [go_sem, doCall, doCallQ, doCallP, Nat.reduceAdd, Nat.reduceMul, Nat.reduceSub, Nat.reduceDiv, Nat.reduceMod, Nat.reduceLT, Nat.reduceLeDiff, Nat.reduceEqDiff, Nat.reduceBEq, Nat.reduceBNe, Int.reduceToNat, Int.reduceLT, Int.reduceLE, Int.reduceEq, Int.reduceNe, Int.reduceAdd, Int.reduceSub, Int.reduceMul, Int.reduceNeg, bd18, hlm, bne_self_eq_false, chk_of]
  rw [loop_step1]; simp (maxSteps := 2000000) only [go_sem, doCall, doCallQ, doCallP, Nat.reduceAdd, Nat.reduceMul, Nat.reduceSub, Nat.reduceDiv, Nat.reduceMod, Nat.reduceLT, Nat.reduceLeDiff, Nat.reduceEqDiff, Nat.reduceBEq, Nat.reduceBNe, Int.reduceToNat, Int.reduceLT, Int.reduceLE, Int.reduceEq, Int.reduceNe, Int.reduceAdd, Int.reduceSub, Int.reduceMul, Int.reduceNeg]
  refine (lp_rpts l hl hb _ 0 (Nat.zero_le _)).trans ?_
  simp (maxSteps := 2000000) (disch := omega) only [go_sem, doCall, doCallQ, doCallP, Nat.reduceAdd, Nat.reduceMul, Nat.reduceSub, Nat.reduceDiv, Nat.reduceMod, Nat.reduceLT, Nat.reduceLeDiff, Nat.reduceEqDiff, Nat.reduceBEq, Nat.reduceBNe, Int.reduceToNat, Int.reduceLT, Int.reduceLE, Int.reduceEq, Int.reduceNe, Int.reduceAdd, Int.reduceSub, Int.reduceMul, Int.reduceNeg]
theorem t_type2 (s : List UInt8) (hs : s.length ≤ 1000000000) : call ir2 32 [dS s] [] = some (dS ([109, 117, 108, 116, 105, 112, 97, 114, 116, 47, 98, 121, 116, 101, 114, 97, 110, 103, 101, 115, 59, 32, 98, 111, 117, 110, 100, 97, 114, 121, 61] ++ s), []) := by
  rw [call_eq (ir := ir2) (fn := ir32) rfl, evF_bnd]
  simp (maxSteps := 2000000) (disch := omega) only [go_sem, doCall, doCallQ, doCallP, Nat.reduceAdd, Nat.reduceMul, Nat.reduceSub, Nat.reduceDiv, Nat.reduceMod, Nat.reduceLT, Nat.reduceLeDiff, Nat.reduceEqDiff, Nat.reduceBEq, Nat.reduceBNe, Int.reduceToNat, Int.reduceLT, Int.reduceLE, Int.reduceEq, Int.reduceNe, Int.reduceAdd, Int.reduceSub, Int.reduceMul, Int.reduceNeg, bd32, List.length_cons, List.length_nil, chk_of]
/-- A body's length. -/
theorem putB_bd {l : List PartD} {n : Int} {s : List UInt8} (h : putR l n s = true) : (putB l n s).length ≤ sumB l + 10000 := by
  unfold putR at h
  rw [Bool.and_eq_true, Bool.and_eq_true] at h
  have h3 : s.length ≤ 40 := of_decide_eq_true h.1.2
  have h2 := (of_decide_eq_true h.2).1.2
  have h : ∀ l : List PartD, (allBy s n l).length ≤ sumB l + l.length * 300 := by
    intro l
    induction l with
    | nil => simp [allBy]
    | cons p l ih =>
      have hc := cntS_len true p.1 p.2.1 n
      have e : (allBy s n (p :: l)).length = (headS s n p).length + p.2.2.length + 2 + (allBy s n l).length := by simp [allBy, oneB]; omega
      have e2 : (headS s n p).length = 4 + s.length + 15 + (cntS true p.1 p.2.1 n).length + 4 := by simp [headS]; omega
      have e3 : sumB (p :: l) = p.2.2.length + sumB l := by simp [sumB]
      rw [e, e2, e3, List.length_cons]; omega
  have := h l
  rw [putB_len]; omega
theorem t_read' (b s : List UInt8) (hb : b.length ≤ 100000) (hs : s.length ≤ 1000000) : call ir2 17 [lB b, dS s] [] = readV (readR b s) := by
  refine t_read b s hb hs (fun _ => ?_)
  have h := ptsR_bound s (b.length + 1) b 0 []
  have h0 : sumB ([] : List PartD) = 0 := rfl
  rw [h0, List.length_nil] at h
  refine ⟨by omega, fun hp => ?_⟩
  have := putB_bd hp
  omega
theorem t_awake8 : call ir2 9 [] [] = some (dT true, []) := by
  rw [call_eq (ir := ir2) (fn := ir9) rfl, evF_bnd]
  have hr : putR [(0, 1, [7])] 3 [120] = true := by decide
  have hx := putB_len [(0, 1, [7])] 3 [120]
  have hy := putB_short [(0, 1, [7])] 3 [120] (by decide) (by decide) (by decide)
  have hz : 10 < (putB [(0, 1, [7])] 3 [120]).length := by
    rw [hx]
    have e : (allBy [120] 3 [(0, 1, [7])]).length = (headS [120] 3 (0, 1, [7])).length + 3 := by simp [allBy, oneB]
    have e2 : (headS [120] 3 (0, 1, [7])).length = 4 + 1 + 15 + (cntS true 0 1 3).length + 4 := by simp [headS]; omega
    omega
  have hp := put_call [(0, 1, [7])] 3 [120] (by decide) (fun _ => hy)
  rw [if_pos hr] at hp
  generalize putB [(0, 1, [7])] 3 [120] = Y at hp hz
  have hz' := eq_true (show (10 : Int) < (Y.length : Int) by omega)
  have hp' : call ir2 11 [.d (.list 3 [[.int .i64 0, .int .i64 1, .list 1 [[.int .u8 7]]]]), dI 3, dS [120]] [] = some (.tup [vB Y, dI 0], []) := hp
  have ht := t_type2 [120] (by decide)
  simp (maxSteps := 2000000) (disch := omega) only [go_sem, doCall, doCallQ, doCallP, Nat.reduceAdd, Nat.reduceMul, Nat.reduceSub, Nat.reduceDiv, Nat.reduceMod, Nat.reduceLT, Nat.reduceLeDiff, Nat.reduceEqDiff, Nat.reduceBEq, Nat.reduceBNe, Int.reduceToNat, Int.reduceLT, Int.reduceLE, Int.reduceEq, Int.reduceNe, Int.reduceAdd, Int.reduceSub, Int.reduceMul, Int.reduceNeg, bd9, hp', ht, rB_len, hz', List.cons_append, List.nil_append, List.append_nil, decide_true, beq_self_eq_true, chk_of]
theorem body_le {l : List PartD} {c : Nat} (h : sumB l ≤ c) : ∀ p ∈ l, p.2.2.length ≤ c := by
  induction l with
  | nil => intro p hp; simp at hp
  | cons q l ih =>
    have e3 : sumB (q :: l) = q.2.2.length + sumB l := by simp [sumB]
    intro p hp
    rcases List.mem_cons.1 hp with rfl | hp
    · omega
    · exact ih (by omega) p hp
theorem t_MultiBack (l : List PartD) (n : Int) (s : List UInt8) (hl : l.length ≤ 140737488355328) (hs : s.length ≤ 140737488355328) (hb : ∀ p ∈ l, p.2.2.length ≤ 140737488355328) :
    call ir2 4 [vL l, dI n, dS s] [] = some (dT true, []) := by
  rw [call_eq (ir := ir2) (fn := ir4) rfl, evF_bnd]
  have hf := call_ext ext2 (t_few8 l (by omega) (fun p hp => by have := hb p hp; omega))
  have ha := t_awake8
  by_cases h1 : sumB l ≤ 2000 ∧ l.length ≤ 20
  · rw [decide_eq_true h1] at hf
    by_cases h2 : s.length ≤ 100
    · have h2' := eq_false (show ¬ (100 : Int) < s.length by omega)
      have hput := put_call l n s (by omega) (fun h => by have := putB_bd h; omega)
      cases hr : putR l n s
      · rw [hr, if_neg (by simp)] at hput
        simp (maxSteps := 2000000) (disch := omega) only [go_sem, doCall, doCallQ, doCallP, Nat.reduceAdd, Nat.reduceMul, Nat.reduceSub, Nat.reduceDiv, Nat.reduceMod, Nat.reduceLT, Nat.reduceLeDiff, Nat.reduceEqDiff, Nat.reduceBEq, Nat.reduceBNe, Int.reduceToNat, Int.reduceLT, Int.reduceLE, Int.reduceEq, Int.reduceNe, Int.reduceAdd, Int.reduceSub, Int.reduceMul, Int.reduceNeg, bd4, ha, hf, h2', hput, chk_of]
      · rw [hr, if_pos rfl] at hput
        have hbd := putB_bd hr
        have hrd := t_read' (putB l n s) s (by omega) (by omega)
        rw [read_back hr] at hrd
        simp only [readV, if_true] at hrd
        have hp := call_ext ext2 (t_rpts l (by omega) (fun p hp => by have := body_le h1.1 p hp; omega))
        have hlm : (l.map partRow).length = l.length := List.length_map ..
        have htk : List.take l.length (l.map partRow) = l.map partRow := List.take_of_length_le (by rw [hlm]; exact Nat.le_refl _)
        simp (maxSteps := 2000000) (disch := omega) only [go_sem, doCall, doCallQ, doCallP, Nat.reduceAdd, Nat.reduceMul, Nat.reduceSub, Nat.reduceDiv, Nat.reduceMod, Nat.reduceLT, Nat.reduceLeDiff, Nat.reduceEqDiff, Nat.reduceBEq, Nat.reduceBNe, Int.reduceToNat, Int.reduceLT, Int.reduceLE, Int.reduceEq, Int.reduceNe, Int.reduceAdd, Int.reduceSub, Int.reduceMul, Int.reduceNeg, bd4, ha, hf, h2', hput, hrd, hp, hlm, htk, Nat.zero_add, Nat.le_refl, if_true, beq_self_eq_true, bne_self_eq_false, Int.natCast_nonneg, Int.toNat_natCast, Option.getD_some, Option.getD_none, List.drop_zero, Nat.sub_zero, Nat.zero_le, true_and, and_true, Nat.le_refl, chk_of]
    · have h2' := eq_true (show (100 : Int) < s.length by omega)
      simp (maxSteps := 2000000) (disch := omega) only [go_sem, doCall, doCallQ, doCallP, Nat.reduceAdd, Nat.reduceMul, Nat.reduceSub, Nat.reduceDiv, Nat.reduceMod, Nat.reduceLT, Nat.reduceLeDiff, Nat.reduceEqDiff, Nat.reduceBEq, Nat.reduceBNe, Int.reduceToNat, Int.reduceLT, Int.reduceLE, Int.reduceEq, Int.reduceNe, Int.reduceAdd, Int.reduceSub, Int.reduceMul, Int.reduceNeg, bd4, ha, hf, h2', chk_of]
  · rw [decide_eq_false h1] at hf
    simp (maxSteps := 2000000) (disch := omega) only [go_sem, doCall, doCallQ, doCallP, Nat.reduceAdd, Nat.reduceMul, Nat.reduceSub, Nat.reduceDiv, Nat.reduceMod, Nat.reduceLT, Nat.reduceLeDiff, Nat.reduceEqDiff, Nat.reduceBEq, Nat.reduceBNe, Int.reduceToNat, Int.reduceLT, Int.reduceLE, Int.reduceEq, Int.reduceNe, Int.reduceAdd, Int.reduceSub, Int.reduceMul, Int.reduceNeg, bd4, ha, hf, chk_of]
/-- What is told of bytes that are no parts. -/
theorem readR_cases (b s : List UInt8) (h : (isTok s && decide (s.length ≤ 40)) = true) : (∃ l n, readR b s = (l, n, 0) ∧ putR l n s = true ∧ putB l n s = b) ∨ readR b s = ([], 0, 3) := by
  unfold readR
  rw [h, if_neg (by simp)]
  split
  · exact .inr rfl
  · split
    · rename_i h2; exact .inl ⟨_, _, rfl, h2.1, h2.2⟩
    · exact .inr rfl
theorem readR_bad {b s : List UInt8} (h : (isTok s && decide (s.length ≤ 40)) = true) (h3 : (readR b s).2.2 = 3) : readR b s = ([], 0, 3) := by
  rcases readR_cases b s h with ⟨l, n, h1, _⟩ | h1
  · rw [h1] at h3; simp at h3
  · exact h1
end Go.Proofs.YtpibecljdooilaaDoor
namespace Go.Proofs.YtpibecljdooilaaDoor
open Go Go.Ev Go.Proofs.YtpibecljdooilaaDoor.Ir Go.Prs
set_option maxRecDepth 100000
set_option maxHeartbeats 4000000
set_option linter.unusedSimpArgs false
set_option linter.unusedVariables false
theorem putB_short2 (l : List PartD) (n : Int) (s : List UInt8) (h1 : sumB l ≤ 2000) (h2 : l.length ≤ 20) (h3 : s.length ≤ 100) : (putB l n s).length ≤ 9000 := by
  have h : ∀ l : List PartD, (allBy s n l).length ≤ sumB l + l.length * 300 := by
    intro l
    induction l with
    | nil => simp [allBy]
    | cons p l ih =>
      have hc := cntS_len true p.1 p.2.1 n
      have e : (allBy s n (p :: l)).length = (headS s n p).length + p.2.2.length + 2 + (allBy s n l).length := by simp [allBy, oneB]; omega
      have e2 : (headS s n p).length = 4 + s.length + 15 + (cntS true p.1 p.2.1 n).length + 4 := by simp [headS]; omega
      have e3 : sumB (p :: l) = p.2.2.length + sumB l := by simp [sumB]
      rw [e, e2, e3, List.length_cons]; omega
  have := h l
  rw [putB_len]; omega
abbrev vY (x : UInt8) : AV := .d (.int .u8 x.toNat)
theorem t_MultiReads (b s : List UInt8) (l : List PartD) (n : Int) (x : UInt8) (hbl : b.length ≤ 140737488355328) (hl : l.length ≤ 140737488355328) (hs : s.length ≤ 140737488355328) (hb : ∀ p ∈ l, p.2.2.length ≤ 140737488355328) :
    call ir2 5 [lB b, dS s, vL l, dI n, vY x] [] = some (dT true, []) := by
  rw [call_eq (ir := ir2) (fn := ir5) rfl, evF_bnd]
  have hf := call_ext ext2 (t_few8 l (by omega) (fun p hp => by have := hb p hp; omega))
  have ha := t_awake8
  by_cases h0 : b.length ≤ 2000
  · have h0' := eq_false (show ¬ (2000 : Int) < b.length by omega)
    by_cases h1 : sumB l ≤ 2000 ∧ l.length ≤ 20
    · rw [decide_eq_true h1] at hf
      by_cases h2 : s.length ≤ 100
      · have h2' := eq_false (show ¬ (100 : Int) < s.length by omega)
        have htok := call_ext ext2 (t_rtoken s (by omega))
        have hrd := t_read' b s (by omega) (by omega)
        cases hm : (isTok s && decide (s.length ≤ 40))
        · -- the bound may not be
          have e : readR b s = ([], 0, 1) := by unfold readR; rw [hm, if_pos rfl]
          rw [e] at hrd
          simp only [readV, if_true, if_false, Int.reduceEq] at hrd
          cases ht : isTok s
          · rw [ht] at htok
            simp (maxSteps := 2000000) (disch := omega) only [go_sem, doCall, doCallQ, doCallP, Nat.reduceAdd, Nat.reduceMul, Nat.reduceSub, Nat.reduceDiv, Nat.reduceMod, Nat.reduceLT, Nat.reduceLeDiff, Nat.reduceEqDiff, Nat.reduceBEq, Nat.reduceBNe, Int.reduceToNat, Int.reduceLT, Int.reduceLE, Int.reduceEq, Int.reduceNe, Int.reduceAdd, Int.reduceSub, Int.reduceMul, Int.reduceNeg, bd5, ha, hf, h0', h2', htok, hrd, rB_len, List.length_nil, beq_self_eq_true, Int.natCast_nonneg, Int.toNat_natCast, Option.getD_some, Option.getD_none, List.drop_zero, Nat.sub_zero, Nat.zero_le, true_and, and_true, Nat.le_refl, chk_of]
          · rw [ht] at htok
            have h3 : ¬ s.length ≤ 40 := by rw [ht] at hm; simpa using hm
            have h3' := eq_true (show (40 : Int) < s.length by omega)
            simp (maxSteps := 2000000) (disch := omega) only [go_sem, doCall, doCallQ, doCallP, Nat.reduceAdd, Nat.reduceMul, Nat.reduceSub, Nat.reduceDiv, Nat.reduceMod, Nat.reduceLT, Nat.reduceLeDiff, Nat.reduceEqDiff, Nat.reduceBEq, Nat.reduceBNe, Int.reduceToNat, Int.reduceLT, Int.reduceLE, Int.reduceEq, Int.reduceNe, Int.reduceAdd, Int.reduceSub, Int.reduceMul, Int.reduceNeg, bd5, ha, hf, h0', h2', htok, h3', hrd, rB_len, List.length_nil, beq_self_eq_true, Int.natCast_nonneg, Int.toNat_natCast, Option.getD_some, Option.getD_none, List.drop_zero, Nat.sub_zero, Nat.zero_le, true_and, and_true, Nat.le_refl, chk_of]
        · have hm2 := hm
          rw [Bool.and_eq_true] at hm2
          rw [hm2.1] at htok
          have h3' := eq_false (show ¬ (40 : Int) < s.length by have := of_decide_eq_true hm2.2; omega)
          have hmo := t_multi l n s (by omega) (by omega) (putB_short l n s h1.1 h1.2 h2)
          have hlo : (putB l n s).length ≤ 10000 := by have := putB_short2 l n s h1.1 h1.2 h2; omega
          have hpos : 1 ≤ (putB l n s).length := by rw [putB_len]; omega
          have hmore := fun h => t_read' (putB l n s ++ [x]) s (by rw [List.length_append, List.length_singleton]; omega) (by omega) |>.trans (congrArg readV (readR_bad hm (read_more (l := l) (n := n) h x)))
          have hless := fun h => t_read' ((putB l n s).take ((putB l n s).length - 1)) s (by rw [List.length_take]; omega) (by omega) |>.trans (congrArg readV (readR_bad hm (read_less (l := l) (n := n) h)))
          generalize putB l n s = Y at hmo hlo hpos hmore hless
          simp only [readV, if_true, if_false, Int.reduceEq] at hmore hless
          have hw1 : wr .i64 ((Y.length : Int) - 1) = ((Y.length - 1 : Nat) : Int) := by rw [wr_id (by omega)]; omega
          have hrow : rB Y ++ [[D.int .u8 ((x.toNat : Nat) : Int)]] = rB (Y ++ [x]) := by simp [rB]
          have htY : List.take Y.length (rB Y) = rB Y := List.take_of_length_le (by rw [rB_len]; exact Nat.le_refl _)
          have htZ : List.take (Y.length + 1) (rB (Y ++ [x])) = rB (Y ++ [x]) := List.take_of_length_le (by rw [rB_len, List.length_append]; exact Nat.le_refl _)
          rcases readR_cases b s hm with ⟨l', n', e, hr', hb'⟩ | e
          · rw [e] at hrd
            simp only [readV, if_true] at hrd
            have hl' := (of_decide_eq_true (Bool.and_eq_true _ _ ▸ (show (isTok s && decide (s.length ≤ 40) && decide (RtP l' n')) = true from hr')).2 : RtP l' n').1.2
            have hmul := call_ext ext2 ((t_multi l' n' s (by omega) (by omega) (by rw [hb']; omega)).trans (by rw [if_pos hr', hb']))
            have hby := call_ext ext2 (c_rbytes b (by omega))
            have hlm : (l'.map partRow).length = l'.length := List.length_map ..
            have htk : List.take l'.length (l'.map partRow) = l'.map partRow := List.take_of_length_le (by rw [hlm]; exact Nat.le_refl _)
            have htb : List.take b.length (rB b) = rB b := List.take_of_length_le (by rw [rB_len]; exact Nat.le_refl _)
            cases hown : putR l n s
            · rw [hown, if_neg (by simp)] at hmo
              have hmo := call_ext ext2 hmo
              simp (maxSteps := 2000000) (disch := omega) only [go_sem, doCall, doCallQ, doCallP, Nat.reduceAdd, Nat.reduceMul, Nat.reduceSub, Nat.reduceDiv, Nat.reduceMod, Nat.reduceLT, Nat.reduceLeDiff, Nat.reduceEqDiff, Nat.reduceBEq, Nat.reduceBNe, Int.reduceToNat, Int.reduceLT, Int.reduceLE, Int.reduceEq, Int.reduceNe, Int.reduceAdd, Int.reduceSub, Int.reduceMul, Int.reduceNeg, bd5, ha, hf, h0', h2', htok, h3', hrd, hmul, hby, hmo, hlm, htk, htb, rB_len, List.length_nil, Nat.zero_add, Nat.le_refl, if_true, beq_self_eq_true, bne_self_eq_false, Int.natCast_nonneg, Int.toNat_natCast, Option.getD_some, Option.getD_none, List.drop_zero, Nat.sub_zero, Nat.zero_le, true_and, and_true, Nat.le_refl, chk_of]
            · rw [hown, if_pos rfl] at hmo
              have hmo := call_ext ext2 hmo
              have hmore := hmore hown
              have hless := hless hown
              simp (maxSteps := 2000000) (disch := omega) only [go_sem, doCall, doCallQ, doCallP, Nat.reduceAdd, Nat.reduceMul, Nat.reduceSub, Nat.reduceDiv, Nat.reduceMod, Nat.reduceLT, Nat.reduceLeDiff, Nat.reduceEqDiff, Nat.reduceBEq, Nat.reduceBNe, Int.reduceToNat, Int.reduceLT, Int.reduceLE, Int.reduceEq, Int.reduceNe, Int.reduceAdd, Int.reduceSub, Int.reduceMul, Int.reduceNeg, bd5, ha, hf, h0', h2', htok, h3', hrd, hmul, hby, hmo, hmore, hless, hw1, hrow, htY, htZ, rB_take', hlm, htk, htb, rB_len, List.length_append, List.length_cons, List.length_nil, Nat.zero_add, Nat.le_refl, if_true, beq_self_eq_true, bne_self_eq_false, Int.natCast_nonneg, Int.toNat_natCast, Option.getD_some, Option.getD_none, List.drop_zero, Nat.sub_zero, Nat.zero_le, true_and, and_true, Nat.le_refl, chk_of]
          · rw [e] at hrd
            simp only [readV, if_true, if_false, Int.reduceEq] at hrd
            cases hown : putR l n s
            · rw [hown, if_neg (by simp)] at hmo
              have hmo := call_ext ext2 hmo
              simp (maxSteps := 2000000) (disch := omega) only [go_sem, doCall, doCallQ, doCallP, Nat.reduceAdd, Nat.reduceMul, Nat.reduceSub, Nat.reduceDiv, Nat.reduceMod, Nat.reduceLT, Nat.reduceLeDiff, Nat.reduceEqDiff, Nat.reduceBEq, Nat.reduceBNe, Int.reduceToNat, Int.reduceLT, Int.reduceLE, Int.reduceEq, Int.reduceNe, Int.reduceAdd, Int.reduceSub, Int.reduceMul, Int.reduceNeg, bd5, ha, hf, h0', h2', htok, h3', hrd, hmo, rB_len, List.length_nil, Nat.zero_add, Nat.le_refl, if_true, beq_self_eq_true, bne_self_eq_false, Int.natCast_nonneg, Int.toNat_natCast, Option.getD_some, Option.getD_none, List.drop_zero, Nat.sub_zero, Nat.zero_le, true_and, and_true, Nat.le_refl, chk_of]
            · rw [hown, if_pos rfl] at hmo
              have hmo := call_ext ext2 hmo
              have hmore := hmore hown
              have hless := hless hown
              simp (maxSteps := 2000000) (disch := omega) only [go_sem, doCall, doCallQ, doCallP, Nat.reduceAdd, Nat.reduceMul, Nat.reduceSub, Nat.reduceDiv, Nat.reduceMod, Nat.reduceLT, Nat.reduceLeDiff, Nat.reduceEqDiff, Nat.reduceBEq, Nat.reduceBNe, Int.reduceToNat, Int.reduceLT, Int.reduceLE, Int.reduceEq, Int.reduceNe, Int.reduceAdd, Int.reduceSub, Int.reduceMul, Int.reduceNeg, bd5, ha, hf, h0', h2', htok, h3', hrd, hmo, hmore, hless, hw1, hrow, htY, htZ, rB_take', rB_len, List.length_append, List.length_cons, List.length_nil, Nat.zero_add, Nat.le_refl, if_true, beq_self_eq_true, bne_self_eq_false, Int.natCast_nonneg, Int.toNat_natCast, Option.getD_some, Option.getD_none, List.drop_zero, Nat.sub_zero, Nat.zero_le, true_and, and_true, Nat.le_refl, chk_of]
      · have h2' := eq_true (show (100 : Int) < s.length by omega)
        simp (maxSteps := 2000000) (disch := omega) only [go_sem, doCall, doCallQ, doCallP, Nat.reduceAdd, Nat.reduceMul, Nat.reduceSub, Nat.reduceDiv, Nat.reduceMod, Nat.reduceLT, Nat.reduceLeDiff, Nat.reduceEqDiff, Nat.reduceBEq, Nat.reduceBNe, Int.reduceToNat, Int.reduceLT, Int.reduceLE, Int.reduceEq, Int.reduceNe, Int.reduceAdd, Int.reduceSub, Int.reduceMul, Int.reduceNeg, bd5, ha, hf, h0', h2', rB_len, chk_of]
    · rw [decide_eq_false h1] at hf
      simp (maxSteps := 2000000) (disch := omega) only [go_sem, doCall, doCallQ, doCallP, Nat.reduceAdd, Nat.reduceMul, Nat.reduceSub, Nat.reduceDiv, Nat.reduceMod, Nat.reduceLT, Nat.reduceLeDiff, Nat.reduceEqDiff, Nat.reduceBEq, Nat.reduceBNe, Int.reduceToNat, Int.reduceLT, Int.reduceLE, Int.reduceEq, Int.reduceNe, Int.reduceAdd, Int.reduceSub, Int.reduceMul, Int.reduceNeg, bd5, ha, hf, h0', rB_len, chk_of]
  · have h0' := eq_true (show (2000 : Int) < b.length by omega)
    simp (maxSteps := 2000000) (disch := omega) only [go_sem, doCall, doCallQ, doCallP, Nat.reduceAdd, Nat.reduceMul, Nat.reduceSub, Nat.reduceDiv, Nat.reduceMod, Nat.reduceLT, Nat.reduceLeDiff, Nat.reduceEqDiff, Nat.reduceBEq, Nat.reduceBNe, Int.reduceToNat, Int.reduceLT, Int.reduceLE, Int.reduceEq, Int.reduceNe, Int.reduceAdd, Int.reduceSub, Int.reduceMul, Int.reduceNeg, bd5, ha, hf, h0', rB_len, chk_of]
end Go.Proofs.YtpibecljdooilaaDoor
namespace Go.Proofs.YtpibecljdooilaaDoor
open Go Go.Ev Go.Proofs.YtpibecljdooilaaDoor.Ir
set_option maxRecDepth 100000
set_option linter.unusedSimpArgs false
set_option linter.unusedVariables false
theorem bytes_of8 {xs : List (List D)} (h : ∀ q, q ∈ xs → Sh.ok (.i .u8 .nil) q) : ∃ d : List UInt8, xs = rB d := by
  obtain ⟨d, hd, _⟩ := rows_map (f := fun b : UInt8 => [D.int .u8 b.toNat]) (R := fun _ => True) (fun q h => by
    obtain ⟨n, _, rfl, h1, h2, h⟩ := ok_i h
    obtain rfl := ok_n h
    have e1 : IntKind.u8.min = 0 := rfl
    have e2 : IntKind.u8.max = 255 := rfl
    rw [e1] at h1; rw [e2] at h2
    refine ⟨UInt8.ofNat n.toNat, ?_, trivial⟩
    have : (UInt8.ofNat n.toNat).toNat = n.toNat := by simp; omega
    rw [this, Int.toNat_of_nonneg h1]) h
  exact ⟨d, hd⟩
theorem parts_of {xs : List (List D)} (h : ∀ q, q ∈ xs → Sh.ok (.i .i64 (.i .i64 (.sl (.i .u8 .nil) 1 .nil))) q) : ∃ l : List PartD, xs = l.map partRow ∧ ∀ p ∈ l, p.2.2.length ≤ 140737488355328 :=
  rows_map (f := partRow) (R := fun p => p.2.2.length ≤ 140737488355328) (fun q h => by
    obtain ⟨f, _, rfl, _, _, h⟩ := ok_i h
    obtain ⟨t, _, rfl, _, _, h⟩ := ok_i h
    obtain ⟨ds, _, rfl, hl, hd, h⟩ := ok_sl h
    obtain rfl := ok_n h
    obtain ⟨d, rfl⟩ := bytes_of8 hd
    refine ⟨(f, t, d), rfl, ?_⟩
    rw [rB_len] at hl
    simp [reachBytes] at hl
    show d.length ≤ _; omega) h
end Go.Proofs.YtpibecljdooilaaDoor
