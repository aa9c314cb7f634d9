/- multi.Read. Own work. How much the parts that are read hold. Own work. Reading parts: what is printed is read again. Own work. MultiBack, MultiReads: the law functions. Own work. The parts of a response. Own work. The parts of a response; requests that have ended, and few of them. Own work. Tallies. Own work. StatDones: who took longest; the law's loops. Own work. StatDones: the law function. Own work. StatDones: the arguments. Own work. -/
import Derived.Test.YtpibecljdooilaaDoorMulD
import Derived.Test.YtpibecljdooilaaDoorDecV
namespace Go.Proofs.YtpibecljdooilaaDoor
open Go Go.Ev Go.Proofs.YtpibecljdooilaaDoor.Ir Go.Prs
set_option maxRecDepth 100000
set_option maxHeartbeats 4000000
set_option linter.unusedSimpArgs false
set_option linter.unusedVariables false
/-- What Read tells. -/
def readR (b s : List UInt8) : List PartD × Int × Int :=
  if (isTok s && decide (s.length ≤ 40)) = false then ([], 0, 1) else
  if (ptsR s (b.length + 1) b 0 []).2.1 = false then ([], 0, 3) else
  if putR (ptsR s (b.length + 1) b 0 []).1 (ptsR s (b.length + 1) b 0 []).2.2.2 s = true ∧ putB (ptsR s (b.length + 1) b 0 []).1 (ptsR s (b.length + 1) b 0 []).2.2.2 s = b then ((ptsR s (b.length + 1) b 0 []).1, (ptsR s (b.length + 1) b 0 []).2.2.2, 0) else ([], 0, 3)
def readV (r : List PartD × Int × Int) : Option (AV × Heap) :=
  if r.2.2 = 0 then some (.tup [.own 0 3 0 r.1.length false, dI r.2.1, dI 0], [.frz 3 (r.1.map partRow)]) else some (.tup [.d (.list 3 []), dI 0, dI r.2.2], [])
theorem t_read (b s : List UInt8) (hb : b.length ≤ 100000) (hs : s.length ≤ 1000000)
    (hB : (isTok s && decide (s.length ≤ 40)) = true → (ptsR s (b.length + 1) b 0 []).1.length ≤ 100000 ∧ (putR (ptsR s (b.length + 1) b 0 []).1 (ptsR s (b.length + 1) b 0 []).2.2.2 s = true → (putB (ptsR s (b.length + 1) b 0 []).1 (ptsR s (b.length + 1) b 0 []).2.2.2 s).length ≤ 1000000)) :
    call ir2 17 [lB b, dS s] [] = readV (readR b s) := by
  rw [call_eq (ir := ir2) (fn := ir17) rfl, evF_bnd]
  have hm := call_ext ext2 (t_may s (by omega))
  unfold readR
  cases h1 : (isTok s && decide (s.length ≤ 40))
  · rw [h1] at hm
    rw [if_pos rfl]
    simp only [readV, if_true, if_false, Int.reduceEq]
    simp (maxSteps := 2000000) (disch := omega) only [go_sem, doCall, doCallQ, doCallP, Nat.reduceAdd, Nat.reduceMul, Nat.reduceSub, Nat.reduceDiv, Nat.reduceMod, Nat.reduceLT, Nat.reduceLeDiff, Nat.reduceEqDiff, Nat.reduceBEq, Nat.reduceBNe, Int.reduceToNat, Int.reduceLT, Int.reduceLE, Int.reduceEq, Int.reduceNe, Int.reduceAdd, Int.reduceSub, Int.reduceMul, Int.reduceNeg, bd17, hm, chk_of]
  · rw [h1] at hm
    rw [if_neg (by simp)]
    obtain ⟨hl, hpb⟩ := hB h1
    have hs40 : s.length ≤ 40 := by simp at h1; exact h1.2
    have hp := call_ext ext2 (t_parts b s 0 (by omega) (by omega))
    generalize ptsR s (b.length + 1) b 0 [] = r at hp hl hpb ⊢
    obtain ⟨l, ok, b2, n⟩ := r
    simp only at hp hl hpb ⊢
    have hlm : (l.map partRow).length = l.length := List.length_map ..
    have htk : List.take l.length (l.map partRow) = l.map partRow := List.take_of_length_le (by rw [hlm]; exact Nat.le_refl _)
    cases ok
    · have hw := t_why false
      rw [if_neg (by simp)] at hp hw
      rw [if_neg (by simp)] at hw
      rw [if_pos rfl]
      simp only [readV, if_true, if_false, Int.reduceEq]
      simp (maxSteps := 2000000) (disch := omega) only [go_sem, doCall, doCallQ, doCallP, Nat.reduceAdd, Nat.reduceMul, Nat.reduceSub, Nat.reduceDiv, Nat.reduceMod, Nat.reduceLT, Nat.reduceLeDiff, Nat.reduceEqDiff, Nat.reduceBEq, Nat.reduceBNe, Int.reduceToNat, Int.reduceLT, Int.reduceLE, Int.reduceEq, Int.reduceNe, Int.reduceAdd, Int.reduceSub, Int.reduceMul, Int.reduceNeg, bd17, hm, hp, hw, hlm, htk, Nat.zero_add, Nat.le_refl, if_true, chk_of]
    · have hw := t_why true
      rw [if_pos rfl] at hp hw
      rw [if_pos rfl] at hw
      rw [if_neg (by simp)]
      have hput := put_call l n s (by omega) hpb
      cases hr : putR l n s
      · rw [hr, if_neg (by simp)] at hput
        rw [if_neg (by simp)]
        simp only [readV, if_true, if_false, Int.reduceEq]
        simp (maxSteps := 2000000) (disch := omega) only [go_sem, doCall, doCallQ, doCallP, Nat.reduceAdd, Nat.reduceMul, Nat.reduceSub, Nat.reduceDiv, Nat.reduceMod, Nat.reduceLT, Nat.reduceLeDiff, Nat.reduceEqDiff, Nat.reduceBEq, Nat.reduceBNe, Int.reduceToNat, Int.reduceLT, Int.reduceLE, Int.reduceEq, Int.reduceNe, Int.reduceAdd, Int.reduceSub, Int.reduceMul, Int.reduceNeg, bd17, hm, hp, hw, hput, hlm, htk, Nat.zero_add, Nat.le_refl, if_true, chk_of]
      · rw [hr, if_pos rfl] at hput
        have he := call_ext ext2 (t_equal (putB l n s) b)
        by_cases h2 : putB l n s = b
        · rw [decide_eq_true h2] at he
          rw [if_pos ⟨rfl, h2⟩]
          simp only [readV, if_true, if_false, Int.reduceEq]
          simp (maxSteps := 2000000) (disch := omega) only [go_sem, doCall, doCallQ, doCallP, Nat.reduceAdd, Nat.reduceMul, Nat.reduceSub, Nat.reduceDiv, Nat.reduceMod, Nat.reduceLT, Nat.reduceLeDiff, Nat.reduceEqDiff, Nat.reduceBEq, Nat.reduceBNe, Int.reduceToNat, Int.reduceLT, Int.reduceLE, Int.reduceEq, Int.reduceNe, Int.reduceAdd, Int.reduceSub, Int.reduceMul, Int.reduceNeg, bd17, hm, hp, hw, hput, he, hlm, htk, Nat.zero_add, Nat.le_refl, if_true, chk_of]
        · rw [decide_eq_false h2] at he
          rw [if_neg (fun h => h2 h.2)]
          simp only [readV, if_true, if_false, Int.reduceEq]
          simp (maxSteps := 2000000) (disch := omega) only [go_sem, doCall, doCallQ, doCallP, Nat.reduceAdd, Nat.reduceMul, Nat.reduceSub, Nat.reduceDiv, Nat.reduceMod, Nat.reduceLT, Nat.reduceLeDiff, Nat.reduceEqDiff, Nat.reduceBEq, Nat.reduceBNe, Int.reduceToNat, Int.reduceLT, Int.reduceLE, Int.reduceEq, Int.reduceNe, Int.reduceAdd, Int.reduceSub, Int.reduceMul, Int.reduceNeg, bd17, hm, hp, hw, hput, he, hlm, htk, Nat.zero_add, Nat.le_refl, if_true, chk_of]
end Go.Proofs.YtpibecljdooilaaDoor
namespace Go.Proofs.YtpibecljdooilaaDoor
open Go Go.Ev Go.Proofs.YtpibecljdooilaaDoor.Ir Go.Prs
set_option maxRecDepth 100000
set_option linter.unusedSimpArgs false
set_option linter.unusedVariables false
theorem ptR_bound (b : List UInt8) (n : Int) (h : (ptR b n).2.1 = true) : (ptR b n).1.2.2.length + (ptR b n).2.2.1.length + 1 ≤ b.length := by
  unfold ptR at h ⊢
  cases e1 : pre fieldB b
  · rw [e1] at h; simp at h
  · have hp := pre_len e1
    have hf : fieldB.length = 17 := rfl
    rw [hf] at hp
    rw [e1, if_neg (by simp)] at h
    rw [if_neg (by simp)]
    have hl := ctR_len (b.drop 17)
    rw [List.length_drop] at hl
    obtain ⟨o, b2, hct⟩ : ∃ o b2, ctR (b.drop 17) = (o, b2) := ⟨_, _, rfl⟩
    rw [hct] at hl h ⊢
    simp only at hl h ⊢
    cases o with
    | none => simp at h
    | some c =>
      simp only at h ⊢
      split at h
      · simp at h
      · rename_i c1
        rw [if_neg c1]
        split at h
        · simp at h
        · rename_i c2
          rw [if_neg c2]
          split at h
          · rename_i c3
            rw [if_pos c3]
            simp only [List.length_take, List.length_drop]; omega
          · simp at h
theorem ptsR_bound (s : List UInt8) : ∀ (k : Nat) (b : List UInt8) (n : Int) (out : List PartD), (ptsR s k b n out).1.length ≤ out.length + b.length ∧ sumB (ptsR s k b n out).1 ≤ sumB out + b.length := by
  intro k
  induction k with
  | zero => intro b n out; simp [ptsR, sumB]
  | succ k ih =>
    intro b n out
    unfold ptsR
    have h0 : sumB ([] : List PartD) = 0 := rfl
    have hd : (b.drop (2 + s.length)).length ≤ b.length := by rw [List.length_drop]; omega
    split
    · simp [h0]
    · split
      · split
        · simp only; omega
        · simp only; omega
      · split
        · rename_i hp
          have hb := ptR_bound _ _ hp
          have := ih (ptR (b.drop (2 + s.length)) n).2.2.1 (ptR (b.drop (2 + s.length)) n).2.2.2 (out ++ [(ptR (b.drop (2 + s.length)) n).1])
          have e : sumB (out ++ [(ptR (b.drop (2 + s.length)) n).1]) = sumB out + (ptR (b.drop (2 + s.length)) n).1.2.2.length := by simp [sumB]
          rw [e, List.length_append] at this
          simp only [List.length_cons, List.length_nil] at this
          omega
        · simp [h0]
end Go.Proofs.YtpibecljdooilaaDoor
namespace Go.Proofs.YtpibecljdooilaaDoor
open Go Go.Ev Go.Proofs.YtpibecljdooilaaDoor.Ir Go.Prs
set_option maxRecDepth 100000
set_option linter.unusedSimpArgs false
set_option linter.unusedVariables false
theorem cntS_true {f t n : Int} (h : CntR true f t n) (hn : n ≠ -1) : cntS true f t n = bytesW ++ 32 :: ((prn f ++ 45 :: prn (t - 1)) ++ 47 :: prn n) := by
  unfold cntS
  rw [if_pos h, if_pos rfl, if_neg hn]
  simp [bytesW]
theorem mem3 {a b c : List UInt8} {y z : UInt8} {q : UInt8} (h1 : ∀ x ∈ a, x ≠ q) (h2 : y ≠ q) (h3 : ∀ x ∈ b, x ≠ q) (h4 : z ≠ q) (h5 : ∀ x ∈ c, x ≠ q) : ∀ x ∈ (a ++ y :: b) ++ z :: c, x ≠ q := by
  intro x hx
  rcases List.mem_append.1 hx with hx | hx
  · rcases List.mem_append.1 hx with hx | hx
    · exact h1 x hx
    · rcases List.mem_cons.1 hx with rfl | hx
      · exact h2
      · exact h3 x hx
  · rcases List.mem_cons.1 hx with rfl | hx
    · exact h4
    · exact h5 x hx
theorem cntS_no13 {f t n : Int} (h : CntR true f t n) (hn : n ≠ -1) : ∀ x ∈ cntS true f t n, x ≠ 13 := by
  have hr := h.2
  rw [if_pos rfl] at hr
  have hr1 := hr.1
  unfold RP at hr1
  have hn0 : 0 ≤ n := by have := h.1; omega
  rw [cntS_true h hn]
  intro x hx
  rcases List.mem_append.1 hx with hx | hx
  · unfold bytesW at hx
    intro e; subst e; revert hx; decide
  · rcases List.mem_cons.1 hx with rfl | hx
    · decide
    · exact mem3 (prn_ne (by omega) (by decide)) (by decide) (prn_ne (by omega) (by decide)) (by decide) (prn_ne hn0 (by decide)) x hx
theorem numE_ok {n : Int} (h : 0 ≤ n) (h2 : n ≤ 4611686018427387903) : numE 0 (prn n) = 0 := by
  unfold numE
  rw [prs_prn h h2, if_pos (.inr rfl)]
theorem cp_cntS {f t n : Int} (h : CntR true f t n) (hn : n ≠ -1) : cp (cntS true f t n) = ((true, f, t, n), 0) := by
  have hr := h.2
  rw [if_pos rfl] at hr
  have hr1 := hr.1
  unfold RP at hr1
  have hn0 : 0 ≤ n ∧ n ≤ 4611686018427387903 := by have := h.1; omega
  have c1 := cut_app (c := 32) (s := bytesW) (t := (prn f ++ 45 :: prn (t - 1)) ++ 47 :: prn n) (by decide)
  have c2 : cut 47 ((prn f ++ 45 :: prn (t - 1)) ++ 47 :: prn n) = (prn f ++ 45 :: prn (t - 1), prn n, true) := cut_app (by
    intro x hx
    rcases List.mem_append.1 hx with hx | hx
    · exact prn_ne (by omega) (by decide) x hx
    · rcases List.mem_cons.1 hx with rfl | hx
      · decide
      · exact prn_ne (by omega) (by decide) x hx)
  have c3 : cut 45 (prn f ++ 45 :: prn (t - 1)) = (prn f, prn (t - 1), true) := cut_app (prn_ne (by omega) (by decide))
  have n1 : prn f ++ 45 :: prn (t - 1) ≠ [42] := fun e => by
    have := congrArg List.length e
    have h1 := List.length_pos_iff.2 (prn_nil (n := f) (by omega))
    simp at this; omega
  have n2 : prn n ≠ [42] := fun e => by
    have := prn_ne (n := n) (by omega) (c := 42) (by decide)
    rw [e] at this
    exact this 42 (by simp) rfl
  have p1 := prs_prn (n := f) (by omega) (by omega)
  have p2 := prs_prn (n := t - 1) (by omega) (by omega)
  have p3 := prs_prn (n := n) (by omega) (by omega)
  have hlow : bytesW.map low = bytesW := by decide
  have hm : ¬ (true = false ∨ true = false ∨ bytesW.map low ≠ bytesW) := by rw [hlow]; simp
  unfold cp
  rw [cntS_true h hn, c1]
  simp only
  rw [c2]
  simp only
  rw [if_neg hm]
  unfold cpV
  simp only
  rw [if_neg n1, c3]
  simp only
  rw [if_neg (by simp)]
  rw [p1, p2]
  simp only
  rw [if_neg n2, if_neg n2, p3]
  simp only
  have e1 : numE (numE (numE 0 (prn f)) (prn (t - 1))) (prn n) = 0 := by
    rw [numE_ok (by omega) (by omega), numE_ok (by omega) (by omega), numE_ok (by omega) (by omega)]
  rw [e1, if_neg (by simp), Int.sub_add_cancel, if_pos h]
theorem occ_no {s sub : List UInt8} {j : Nat} (hj : j < s.length) (h : s[j] ≠ 13) : Lib.occAt s (13 :: sub) j = false := by
  unfold Lib.occAt
  rw [List.drop_eq_getElem_cons hj]
  have h' : (13 == s[j]) = false := by
    rw [beq_eq_false_iff_ne]; exact fun e => h e.symm
  simp [List.isPrefixOf, h']
theorem index_line {c r : List UInt8} (h : ∀ x ∈ c, x ≠ 13) : Lib.index (c ++ 13 :: 10 :: r) [13, 10] = c.length := by
  refine Lib.index_first (by simp) ?_ (fun j hj => ?_)
  · unfold Lib.occAt
    rw [List.drop_left]
    rfl
  · refine occ_no (by simp; omega) ?_
    rw [List.getElem_append_left hj]
    exact h _ (List.getElem_mem hj)
theorem pre_app (p r : List UInt8) : pre p (p ++ r) = true := by
  unfold pre
  rw [List.take_left]
  exact decide_eq_true rfl
theorem pre_ne {a b : UInt8} {p r : List UInt8} (h : a ≠ b) : pre (a :: p) (b :: r) = false := by
  unfold pre
  refine decide_eq_false (fun e => ?_)
  rw [List.length_cons, List.take_succ_cons] at e
  injection e with e1 e2
  exact h e1.symm
theorem ctR_line {f t n : Int} (h : CntR true f t n) (hn : n ≠ -1) (r : List UInt8) : ctR (cntS true f t n ++ 13 :: 10 :: r) = (some (true, f, t, n), r) := by
  have hi := index_line (r := r) (cntS_no13 h hn)
  have hn0 : 0 ≤ n := by have := h.1; omega
  unfold ctR
  rw [hi, Int.toNat_natCast, if_pos (by omega), List.take_left]
  have hok : ctOk (cntS true f t n) := by
    unfold ctOk
    rw [cp_cntS h hn]
    exact ⟨rfl, rfl, rfl, hn0⟩
  rw [if_pos hok, cp_cntS h hn]
  have e : (cntS true f t n ++ 13 :: 10 :: r).drop ((cntS true f t n).length + 2) = r := by
    rw [← List.drop_drop, List.drop_left]; rfl
  rw [e]
theorem cnt_of {n : Int} {p : PartD} (hn : n ≤ 4611686018427387903) (h : pOk n p) : CntR true p.1 p.2.1 n ∧ n ≠ -1 := by
  have h1 := h.1
  have h2 := h.2.1
  unfold RP at h1
  refine ⟨⟨.inr (by omega), ?_⟩, by omega⟩
  rw [if_pos rfl]
  exact ⟨h.1, .inr h2⟩
theorem ptR_part {n m : Int} {p : PartD} (hn : n ≤ 4611686018427387903) (h : pOk n p) (r : List UInt8) :
    ptR (fieldB ++ (cntS true p.1 p.2.1 n ++ 13 :: 10 :: ([13, 10] ++ (p.2.2 ++ ([13, 10] ++ r))))) m = (p, true, r, n) := by
  obtain ⟨hc, hn1⟩ := cnt_of hn h
  have hlen := h.2.2
  unfold ptR
  rw [pre_app, if_neg (by simp)]
  have e1 : ∀ x : List UInt8, (fieldB ++ x).drop 17 = x := fun x => List.drop_left (l₁ := fieldB)
  rw [e1, ctR_line hc hn1]
  simp only
  rw [pre_app, if_neg (by simp)]
  have e2 : ∀ x : List UInt8, ([13, 10] ++ x).drop 2 = x := fun x => rfl
  rw [e2]
  have hL : (p.2.1 - p.1).toNat = p.2.2.length := by omega
  rw [if_neg (by simp; omega), hL, List.drop_left, pre_app, if_pos rfl, List.take_left, e2]
theorem oneB_eq (s : List UInt8) (n : Int) (p : PartD) (r : List UInt8) : oneB s n p ++ r = ([45, 45] ++ s) ++ (fieldB ++ (cntS true p.1 p.2.1 n ++ 13 :: 10 :: ([13, 10] ++ (p.2.2 ++ ([13, 10] ++ r))))) := by
  simp [oneB, headS, fieldB]
theorem drop_head (s x : List UInt8) : (([45, 45] ++ s) ++ x).drop (2 + s.length) = x := by
  have : ([45, 45] ++ s).length = 2 + s.length := by simp; omega
  rw [← this, List.drop_left]
theorem ptsR_succ (s : List UInt8) (k : Nat) (b : List UInt8) (n : Int) (out : List PartD) : ptsR s (k + 1) b n out =
    if pre ([45, 45] ++ s) b = false then ([], false, b, n) else
    if pre [45, 45] (b.drop (2 + s.length)) then
      (if pre [45, 45, 13, 10] (b.drop (2 + s.length)) then (out, true, (b.drop (2 + s.length)).drop 4, n) else (out, false, b.drop (2 + s.length), n))
    else if (ptR (b.drop (2 + s.length)) n).2.1 then ptsR s k (ptR (b.drop (2 + s.length)) n).2.2.1 (ptR (b.drop (2 + s.length)) n).2.2.2 (out ++ [(ptR (b.drop (2 + s.length)) n).1])
    else ([], false, (ptR (b.drop (2 + s.length)) n).2.2.1, (ptR (b.drop (2 + s.length)) n).2.2.2) := rfl
/-- All parts, and what is behind them. -/
theorem ptsR_app (s : List UInt8) (n : Int) (hn : n ≤ 4611686018427387903) : ∀ (l : List PartD) (k : Nat) (r : List UInt8) (m : Int) (out : List PartD), allP n l = true →
    ptsR s (k + l.length) (allBy s n l ++ r) m out = ptsR s k r (if l = [] then m else n) (out ++ l) := by
  intro l
  induction l with
  | nil => intro k r m out _; simp [allBy]
  | cons p l ih =>
    intro k r m out h
    unfold allP at h
    by_cases hp : pOk n p
    · rw [if_pos hp] at h
      have e : allBy s n (p :: l) ++ r = ([45, 45] ++ s) ++ (fieldB ++ (cntS true p.1 p.2.1 n ++ 13 :: 10 :: ([13, 10] ++ (p.2.2 ++ ([13, 10] ++ (allBy s n l ++ r)))))) := by
        rw [← oneB_eq]; simp [allBy]
      have h1 := ih k r n (out ++ [p]) h
      rw [e, List.length_cons, ← Nat.add_assoc]
      rw [ptsR_succ]
      rw [pre_app, if_neg (by simp), drop_head]
      have hd : ∀ x : List UInt8, pre [45, 45] (fieldB ++ x) = false := fun x => pre_ne (by decide)
      rw [hd, if_neg (by simp), ptR_part hn hp]
      simp only [if_true]
      rw [h1, List.append_assoc, List.singleton_append]
      by_cases hl : l = []
      · rw [if_pos hl, if_neg (by simp)]
      · rw [if_neg hl, if_neg (by simp)]
    · rw [if_neg hp] at h; simp at h
theorem lastS_eq (s r : List UInt8) : lastS s ++ r = ([45, 45] ++ s) ++ ([45, 45, 13, 10] ++ r) := by simp [lastS]
/-- The end. -/
theorem ptsR_last (s r : List UInt8) (m : Int) (out : List PartD) (k : Nat) : ptsR s (k + 1) (lastS s ++ r) m out = (out, true, r, m) := by
  unfold ptsR
  rw [lastS_eq, pre_app, if_neg (by simp), drop_head]
  have e1 : pre [45, 45] ([45, 45, 13, 10] ++ r) = true := pre_app [45, 45] ([13, 10] ++ r)
  rw [e1, if_pos rfl, pre_app, if_pos rfl]
  rfl
/-- The end without its last byte. -/
theorem ptsR_short (s : List UInt8) (m : Int) (out : List PartD) (k : Nat) : (ptsR s (k + 1) (([45, 45] ++ s) ++ [45, 45, 13]) m out).2.1 = false := by
  unfold ptsR
  rw [pre_app, if_neg (by simp), drop_head]
  have e1 : pre [45, 45] [45, 45, 13] = true := by decide
  have e2 : pre [45, 45, 13, 10] [45, 45, 13] = false := by decide
  rw [e1, if_pos rfl, e2, if_neg (by simp)]
theorem putR_iff {l : List PartD} {n : Int} {s : List UInt8} (h : putR l n s = true) : (isTok s && decide (s.length ≤ 40)) = true ∧ n ≤ 4611686018427387903 ∧ allP n l = true ∧ 1 ≤ l.length := by
  unfold putR at h
  rw [Bool.and_eq_true] at h
  have h2 := of_decide_eq_true h.2
  exact ⟨h.1, h2.2.1, h2.2.2, h2.1.1⟩
theorem fuel {l : List PartD} {n : Int} {s r : List UInt8} : ∃ k, (allBy s n l ++ r).length + 1 = (k + 1) + l.length := by
  have h : ∀ l : List PartD, l.length ≤ (allBy s n l).length := by
    intro l
    induction l with
    | nil => simp [allBy]
    | cons p l ih =>
      have e : (allBy s n (p :: l)).length = (oneB s n p).length + (allBy s n l).length := by simp [allBy]
      have : 1 ≤ (oneB s n p).length := by simp [oneB]; omega
      rw [e, List.length_cons]; omega
  have := h l
  refine ⟨(allBy s n l ++ r).length - l.length, ?_⟩
  rw [List.length_append]; omega
/-- What is printed is read again. -/
theorem read_back {l : List PartD} {n : Int} {s : List UInt8} (h : putR l n s = true) : readR (putB l n s) s = (l, n, 0) := by
  obtain ⟨h1, h2, h3, h4⟩ := putR_iff h
  obtain ⟨k, hk⟩ := fuel (l := l) (n := n) (s := s) (r := lastS s)
  have hp : ptsR s ((putB l n s).length + 1) (putB l n s) 0 [] = (l, true, [], n) := by
    unfold putB
    rw [hk, ptsR_app s n h2 l _ _ _ _ h3]
    have := ptsR_last s [] (if l = [] then 0 else n) ([] ++ l) k
    rw [List.append_nil] at this
    rw [this, List.nil_append, if_neg (by intro e; subst e; simp at h4)]
  unfold readR
  rw [h1, if_neg (by simp), hp]
  simp only
  rw [if_neg (by simp), if_pos ⟨h, trivial⟩]
/-- With a byte more it is none. -/
theorem read_more {l : List PartD} {n : Int} {s : List UInt8} (h : putR l n s = true) (x : UInt8) : (readR (putB l n s ++ [x]) s).2.2 = 3 := by
  obtain ⟨h1, h2, h3, h4⟩ := putR_iff h
  obtain ⟨k, hk⟩ := fuel (l := l) (n := n) (s := s) (r := lastS s ++ [x])
  have hp : ptsR s ((putB l n s ++ [x]).length + 1) (putB l n s ++ [x]) 0 [] = (l, true, [x], n) := by
    unfold putB
    rw [List.append_assoc, hk, ptsR_app s n h2 l _ _ _ _ h3]
    rw [ptsR_last s [x] (if l = [] then 0 else n) ([] ++ l) k, List.nil_append, if_neg (by intro e; subst e; simp at h4)]
  unfold readR
  rw [h1, if_neg (by simp), hp]
  simp only
  rw [if_neg (by simp), if_neg (fun e => by have := congrArg List.length e.2; simp at this)]
/-- With a byte less it is none. -/
theorem read_less {l : List PartD} {n : Int} {s : List UInt8} (h : putR l n s = true) : (readR ((putB l n s).take ((putB l n s).length - 1)) s).2.2 = 3 := by
  obtain ⟨h1, h2, h3, h4⟩ := putR_iff h
  have e : (putB l n s).take ((putB l n s).length - 1) = allBy s n l ++ (([45, 45] ++ s) ++ [45, 45, 13]) := by
    have : putB l n s = (allBy s n l ++ (([45, 45] ++ s) ++ [45, 45, 13])) ++ [10] := by simp [putB, lastS]
    rw [this, List.length_append, List.length_singleton, Nat.add_sub_cancel, List.take_left]
  rw [e]
  obtain ⟨k, hk⟩ := fuel (l := l) (n := n) (s := s) (r := ([45, 45] ++ s) ++ [45, 45, 13])
  have hp : (ptsR s ((allBy s n l ++ (([45, 45] ++ s) ++ [45, 45, 13])).length + 1) (allBy s n l ++ (([45, 45] ++ s) ++ [45, 45, 13])) 0 []).2.1 = false := by
    rw [hk, ptsR_app s n h2 l _ _ _ _ h3]
    exact ptsR_short s _ _ k
  unfold readR
  rw [h1, if_neg (by simp), if_pos hp]
end Go.Proofs.YtpibecljdooilaaDoor
namespace Go.Proofs.YtpibecljdooilaaDoor
open Go Go.Ev Go.Proofs.YtpibecljdooilaaDoor.Ir Go.Prs
set_option maxRecDepth 100000
set_option maxHeartbeats 4000000
set_option linter.unusedSimpArgs false
set_option linter.unusedVariables false
theorem lp_rpts (l : List PartD) (hl : l.length ≤ 1000000) (hb : ∀ p ∈ l, p.2.2.length ≤ 1000000) (k : Ex → St → Option (AV × Heap)) (i : Nat) (hi : i ≤ l.length) :
    (bnd (evC (call ir) (loop ir) lp18_0 (st18_0 0 (vL l) (vL l) (dI l.length) (dI i) [])) (lpC (call ir) (loop ir) [0, 1, 12, 13] lp18_0 k)) = k (.exit 0) (clean [] (st18_0 0 .unk .unk .unk .unk [])) := by
  by_cases h : i = l.length
  · have hx : ¬ (i : Int) < l.length := by omega
    rw [h] at hx
    rw [h]
    simp (maxSteps := 2000000) (disch := omega) only [go_sem, doCall, doCallQ, doCallP, Nat.reduceAdd, Nat.reduceMul, Nat.reduceSub, Nat.reduceDiv, Nat.reduceMod, Nat.reduceLT, Nat.reduceLeDiff, Nat.reduceEqDiff, Nat.reduceBEq, Nat.reduceBNe, Int.reduceToNat, Int.reduceLT, Int.reduceLE, Int.reduceEq, Int.reduceNe, Int.reduceAdd, Int.reduceSub, Int.reduceMul, Int.reduceNeg, u18_0, lb18_0, hx]
  · have hlt : (i : Int) < l.length := by omega
    have hi' : i < l.length := by omega
    have hw := wr_succ (i := i) (by omega)
    have hg := getP l hi'
    have hlm : (l.map partRow).length = l.length := List.length_map ..
    have h1 := c_rbytes l[i].2.2 (by have := hb _ (List.getElem_mem hi'); omega)
    have ih := lp_rpts l hl hb k (i + 1) (by omega)
    simp (maxSteps := 2000000) (disch := omega) only [go_sem, doCall, doCallQ, doCallP, Nat.reduceAdd, Nat.reduceMul, Nat.reduceSub, Nat.reduceDiv, Nat.reduceMod, Nat.reduceLT, Nat.reduceLeDiff, Nat.reduceEqDiff, Nat.reduceBEq, Nat.reduceBNe, Int.reduceToNat, Int.reduceLT, Int.reduceLE, Int.reduceEq, Int.reduceNe, Int.reduceAdd, Int.reduceSub, Int.reduceMul, Int.reduceNeg, u18_0, lb18_0, hlt, hi', hw, hg, hlm, h1, rB_len, beq_self_eq_true, bne_self_eq_false, Int.natCast_nonneg, Int.toNat_natCast, Option.getD_some, Option.getD_none, List.drop_zero, Nat.sub_zero, Nat.zero_le, true_and, and_true, Nat.le_refl, chk_of]
    rw [loop_step1]; simp (maxSteps := 2000000) only [go_sem, doCall, doCallQ, doCallP, Nat.reduceAdd, Nat.reduceMul, Nat.reduceSub, Nat.reduceDiv, Nat.reduceMod, Nat.reduceLT, Nat.reduceLeDiff, Nat.reduceEqDiff, Nat.reduceBEq, Nat.reduceBNe, Int.reduceToNat, Int.reduceLT, Int.reduceLE, Int.reduceEq, Int.reduceNe, Int.reduceAdd, Int.reduceSub, Int.reduceMul, Int.reduceNeg]; exact ih
termination_by l.length - i
theorem t_rpts (l : List PartD) (hl : l.length ≤ 1000000) (hb : ∀ p ∈ l, p.2.2.length ≤ 1000000) : call ir 18 [vL l, vL l] [] = some (dT true, []) := by
  rw [call_eq (fn := ir18) rfl, evF_bnd]
  have hlm : (l.map partRow).length = l.length := List.length_map ..
  simp (maxSteps := 2000000) (disch := omega) only [go_sem, doCall, doCallQ, doCallP, Nat.reduceAdd, Nat.reduceMul, Nat.reduceSub, Nat.reduceDiv, Nat.reduceMod, Nat.reduceLT, Nat.reduceLeDiff, Nat.reduceEqDiff, Nat.reduceBEq, Nat.reduceBNe, Int.reduceToNat, Int.reduceLT, Int.reduceLE, Int.reduceEq, Int.reduceNe, Int.reduceAdd, Int.reduceSub, Int.reduceMul, Int.reduceNeg, bd18, hlm, bne_self_eq_false, chk_of]
  rw [loop_step1]; simp (maxSteps := 2000000) only [go_sem, doCall, doCallQ, doCallP, Nat.reduceAdd, Nat.reduceMul, Nat.reduceSub, Nat.reduceDiv, Nat.reduceMod, Nat.reduceLT, Nat.reduceLeDiff, Nat.reduceEqDiff, Nat.reduceBEq, Nat.reduceBNe, Int.reduceToNat, Int.reduceLT, Int.reduceLE, Int.reduceEq, Int.reduceNe, Int.reduceAdd, Int.reduceSub, Int.reduceMul, Int.reduceNeg]
  refine (lp_rpts l hl hb _ 0 (Nat.zero_le _)).trans ?_
  simp (maxSteps := 2000000) (disch := omega) only [go_sem, doCall, doCallQ, doCallP, Nat.reduceAdd, Nat.reduceMul, Nat.reduceSub, Nat.reduceDiv, Nat.reduceMod, Nat.reduceLT, Nat.reduceLeDiff, Nat.reduceEqDiff, Nat.reduceBEq, Nat.reduceBNe, Int.reduceToNat, Int.reduceLT, Int.reduceLE, Int.reduceEq, Int.reduceNe, Int.reduceAdd, Int.reduceSub, Int.reduceMul, Int.reduceNeg]
theorem t_type2 (s : List UInt8) (hs : s.length ≤ 1000000000) : call ir2 32 [dS s] [] = some (dS ([109, 117, 108, 116, 105, 112, 97, 114, 116, 47, 98, 121, 116, 101, 114, 97, 110, 103, 101, 115, 59, 32, 98, 111, 117, 110, 100, 97, 114, 121, 61] ++ s), []) := by
  rw [call_eq (ir := ir2) (fn := ir32) rfl, evF_bnd]
  simp (maxSteps := 2000000) (disch := omega) only [go_sem, doCall, doCallQ, doCallP, Nat.reduceAdd, Nat.reduceMul, Nat.reduceSub, Nat.reduceDiv, Nat.reduceMod, Nat.reduceLT, Nat.reduceLeDiff, Nat.reduceEqDiff, Nat.reduceBEq, Nat.reduceBNe, Int.reduceToNat, Int.reduceLT, Int.reduceLE, Int.reduceEq, Int.reduceNe, Int.reduceAdd, Int.reduceSub, Int.reduceMul, Int.reduceNeg, bd32, List.length_cons, List.length_nil, chk_of]
/-- A body's length. -/
theorem putB_bd {l : List PartD} {n : Int} {s : List UInt8} (h : putR l n s = true) : (putB l n s).length ≤ sumB l + 10000 := by
  unfold putR at h
  rw [Bool.and_eq_true, Bool.and_eq_true] at h
  have h3 : s.length ≤ 40 := of_decide_eq_true h.1.2
  have h2 := (of_decide_eq_true h.2).1.2
  have h : ∀ l : List PartD, (allBy s n l).length ≤ sumB l + l.length * 300 := by
    intro l
    induction l with
    | nil => simp [allBy]
    | cons p l ih =>
      have hc := cntS_len true p.1 p.2.1 n
      have e : (allBy s n (p :: l)).length = (headS s n p).length + p.2.2.length + 2 + (allBy s n l).length := by simp [allBy, oneB]; omega
      have e2 : (headS s n p).length = 4 + s.length + 15 + (cntS true p.1 p.2.1 n).length + 4 := by simp [headS]; omega
      have e3 : sumB (p :: l) = p.2.2.length + sumB l := by simp [sumB]
      rw [e, e2, e3, List.length_cons]; omega
  have := h l
  rw [putB_len]; omega
theorem t_read' (b s : List UInt8) (hb : b.length ≤ 100000) (hs : s.length ≤ 1000000) : call ir2 17 [lB b, dS s] [] = readV (readR b s) := by
  refine t_read b s hb hs (fun _ => ?_)
  have h := ptsR_bound s (b.length + 1) b 0 []
  have h0 : sumB ([] : List PartD) = 0 := rfl
  rw [h0, List.length_nil] at h
  refine ⟨by omega, fun hp => ?_⟩
  have := putB_bd hp
  omega
theorem t_awake8 : call ir2 9 [] [] = some (dT true, []) := by
  rw [call_eq (ir := ir2) (fn := ir9) rfl, evF_bnd]
  have hr : putR [(0, 1, [7])] 3 [120] = true := by decide
  have hx := putB_len [(0, 1, [7])] 3 [120]
  have hy := putB_short [(0, 1, [7])] 3 [120] (by decide) (by decide) (by decide)
  have hz : 10 < (putB [(0, 1, [7])] 3 [120]).length := by
    rw [hx]
    have e : (allBy [120] 3 [(0, 1, [7])]).length = (headS [120] 3 (0, 1, [7])).length + 3 := by simp [allBy, oneB]
    have e2 : (headS [120] 3 (0, 1, [7])).length = 4 + 1 + 15 + (cntS true 0 1 3).length + 4 := by simp [headS]; omega
    omega
  have hp := put_call [(0, 1, [7])] 3 [120] (by decide) (fun _ => hy)
  rw [if_pos hr] at hp
  generalize putB [(0, 1, [7])] 3 [120] = Y at hp hz
  have hz' := eq_true (show (10 : Int) < (Y.length : Int) by omega)
  have hp' : call ir2 11 [.d (.list 3 [[.int .i64 0, .int .i64 1, .list 1 [[.int .u8 7]]]]), dI 3, dS [120]] [] = some (.tup [vB Y, dI 0], []) := hp
  have ht := t_type2 [120] (by decide)
  simp (maxSteps := 2000000) (disch := omega) only [go_sem, doCall, doCallQ, doCallP, Nat.reduceAdd, Nat.reduceMul, Nat.reduceSub, Nat.reduceDiv, Nat.reduceMod, Nat.reduceLT, Nat.reduceLeDiff, Nat.reduceEqDiff, Nat.reduceBEq, Nat.reduceBNe, Int.reduceToNat, Int.reduceLT, Int.reduceLE, Int.reduceEq, Int.reduceNe, Int.reduceAdd, Int.reduceSub, Int.reduceMul, Int.reduceNeg, bd9, hp', ht, rB_len, hz', List.cons_append, List.nil_append, List.append_nil, decide_true, beq_self_eq_true, chk_of]
theorem body_le {l : List PartD} {c : Nat} (h : sumB l ≤ c) : ∀ p ∈ l, p.2.2.length ≤ c := by
  induction l with
  | nil => intro p hp; simp at hp
  | cons q l ih =>
    have e3 : sumB (q :: l) = q.2.2.length + sumB l := by simp [sumB]
    intro p hp
    rcases List.mem_cons.1 hp with rfl | hp
    · omega
    · exact ih (by omega) p hp
theorem t_MultiBack (l : List PartD) (n : Int) (s : List UInt8) (hl : l.length ≤ 140737488355328) (hs : s.length ≤ 140737488355328) (hb : ∀ p ∈ l, p.2.2.length ≤ 140737488355328) :
    call ir2 4 [vL l, dI n, dS s] [] = some (dT true, []) := by
  rw [call_eq (ir := ir2) (fn := ir4) rfl, evF_bnd]
  have hf := call_ext ext2 (t_few8 l (by omega) (fun p hp => by have := hb p hp; omega))
  have ha := t_awake8
  by_cases h1 : sumB l ≤ 2000 ∧ l.length ≤ 20
  · rw [decide_eq_true h1] at hf
    by_cases h2 : s.length ≤ 100
    · have h2' := eq_false (show ¬ (100 : Int) < s.length by omega)
      have hput := put_call l n s (by omega) (fun h => by have := putB_bd h; omega)
      cases hr : putR l n s
      · rw [hr, if_neg (by simp)] at hput
        simp (maxSteps := 2000000) (disch := omega) only [go_sem, doCall, doCallQ, doCallP, Nat.reduceAdd, Nat.reduceMul, Nat.reduceSub, Nat.reduceDiv, Nat.reduceMod, Nat.reduceLT, Nat.reduceLeDiff, Nat.reduceEqDiff, Nat.reduceBEq, Nat.reduceBNe, Int.reduceToNat, Int.reduceLT, Int.reduceLE, Int.reduceEq, Int.reduceNe, Int.reduceAdd, Int.reduceSub, Int.reduceMul, Int.reduceNeg, bd4, ha, hf, h2', hput, chk_of]
      · rw [hr, if_pos rfl] at hput
        have hbd := putB_bd hr
        have hrd := t_read' (putB l n s) s (by omega) (by omega)
        rw [read_back hr] at hrd
        simp only [readV, if_true] at hrd
        have hp := call_ext ext2 (t_rpts l (by omega) (fun p hp => by have := body_le h1.1 p hp; omega))
        have hlm : (l.map partRow).length = l.length := List.length_map ..
        have htk : List.take l.length (l.map partRow) = l.map partRow := List.take_of_length_le (by rw [hlm]; exact Nat.le_refl _)
        simp (maxSteps := 2000000) (disch := omega) only [go_sem, doCall, doCallQ, doCallP, Nat.reduceAdd, Nat.reduceMul, Nat.reduceSub, Nat.reduceDiv, Nat.reduceMod, Nat.reduceLT, Nat.reduceLeDiff, Nat.reduceEqDiff, Nat.reduceBEq, Nat.reduceBNe, Int.reduceToNat, Int.reduceLT, Int.reduceLE, Int.reduceEq, Int.reduceNe, Int.reduceAdd, Int.reduceSub, Int.reduceMul, Int.reduceNeg, bd4, ha, hf, h2', hput, hrd, hp, hlm, htk, Nat.zero_add, Nat.le_refl, if_true, beq_self_eq_true, bne_self_eq_false, Int.natCast_nonneg, Int.toNat_natCast, Option.getD_some, Option.getD_none, List.drop_zero, Nat.sub_zero, Nat.zero_le, true_and, and_true, Nat.le_refl, chk_of]
    · have h2' := eq_true (show (100 : Int) < s.length by omega)
      simp (maxSteps := 2000000) (disch := omega) only [go_sem, doCall, doCallQ, doCallP, Nat.reduceAdd, Nat.reduceMul, Nat.reduceSub, Nat.reduceDiv, Nat.reduceMod, Nat.reduceLT, Nat.reduceLeDiff, Nat.reduceEqDiff, Nat.reduceBEq, Nat.reduceBNe, Int.reduceToNat, Int.reduceLT, Int.reduceLE, Int.reduceEq, Int.reduceNe, Int.reduceAdd, Int.reduceSub, Int.reduceMul, Int.reduceNeg, bd4, ha, hf, h2', chk_of]
  · rw [decide_eq_false h1] at hf
    simp (maxSteps := 2000000) (disch := omega) only [go_sem, doCall, doCallQ, doCallP, Nat.reduceAdd, Nat.reduceMul, Nat.reduceSub, Nat.reduceDiv, Nat.reduceMod, Nat.reduceLT, Nat.reduceLeDiff, Nat.reduceEqDiff, Nat.reduceBEq, Nat.reduceBNe, Int.reduceToNat, Int.reduceLT, Int.reduceLE, Int.reduceEq, Int.reduceNe, Int.reduceAdd, Int.reduceSub, Int.reduceMul, Int.reduceNeg, bd4, ha, hf, chk_of]
/-- What is told of bytes that are no parts. -/
theorem readR_cases (b s : List UInt8) (h : (isTok s && decide (s.length ≤ 40)) = true) : (∃ l n, readR b s = (l, n, 0) ∧ putR l n s = true ∧ putB l n s = b) ∨ readR b s = ([], 0, 3) := by
  unfold readR
  rw [h, if_neg (by simp)]
  split
  · exact .inr rfl
  · split
    · rename_i h2; exact .inl ⟨_, _, rfl, h2.1, h2.2⟩
    · exact .inr rfl
theorem readR_bad {b s : List UInt8} (h : (isTok s && decide (s.length ≤ 40)) = true) (h3 : (readR b s).2.2 = 3) : readR b s = ([], 0, 3) := by
  rcases readR_cases b s h with ⟨l, n, h1, _⟩ | h1
  · rw [h1] at h3; simp at h3
  · exact h1
end Go.Proofs.YtpibecljdooilaaDoor
namespace Go.Proofs.YtpibecljdooilaaDoor
open Go Go.Ev Go.Proofs.YtpibecljdooilaaDoor.Ir Go.Prs
set_option maxRecDepth 100000
set_option maxHeartbeats 4000000
set_option linter.unusedSimpArgs false
set_option linter.unusedVariables false
abbrev vRs (st : Int) (tg rn bd : List UInt8) : AV := .agg [dI st, dS tg, dS rn, lB bd]
/-- The one part of a response. -/
def sgOk (rn bd : List UInt8) : Prop := (cp rn).2 = 0 ∧ (cp rn).1.1 = true ∧ 0 ≤ (cp rn).1.2.2.2 ∧ (bd.length : Int) = (cp rn).1.2.2.1 - (cp rn).1.2.1
instance (rn bd : List UInt8) : Decidable (sgOk rn bd) := by unfold sgOk; infer_instance
def sgR (rn bd : List UInt8) : List PartD × Int × Int := if sgOk rn bd then ([((cp rn).1.2.1, (cp rn).1.2.2.1, bd)], (cp rn).1.2.2.2, 0) else ([], 0, 3)
/-- A result that reads as these parts. -/
structure Reads (v : AV) (H : Heap) (r : List PartD × Int × Int) : Prop where
  sc : v.scalar = false
  vw : v.view H = .tup [.d (.list 3 (r.1.map partRow)), dI r.2.1, dI r.2.2]
theorem t_sgl (st : Int) (tg rn bd : List UInt8) (hrn : rn.length ≤ 1000000) (hb : bd.length ≤ 1000000) :
    ∃ v H, call ir 46 [vRs st tg rn bd] [] = some (v, H) ∧ Reads v H (sgR rn bd) := by
  rw [call_eq (fn := ir46) rfl, evF_bnd]
  have hp := t_cparse rn hrn
  have hcr := cp_right rn
  have hcl := t_bclone bd hb
  obtain ⟨⟨kn, f, tt, nn⟩, e, hc⟩ : ∃ c e, cp rn = (c, e) := ⟨_, _, rfl⟩
  have hok : sgOk rn bd ↔ (e = 0 ∧ kn = true ∧ 0 ≤ nn ∧ (bd.length : Int) = tt - f) := by unfold sgOk; rw [hc]
  have hT : sgOk rn bd → sgR rn bd = ([(f, tt, bd)], nn, 0) := fun h => by unfold sgR; rw [if_pos h, hc]
  have hF : ¬ sgOk rn bd → sgR rn bd = ([], 0, 3) := fun h => by unfold sgR; rw [if_neg h]
  rw [hc] at hp hcr
  rw [hok] at hT hF
  generalize sgR rn bd = X at hT hF ⊢
  simp only at hp hcr
  by_cases h1 : e = 0
  · have hcr := hcr h1
    cases kn
    · rw [hF (fun h => by have := h.2.1; simp at this)]
      refine ⟨_, _, by simp (maxSteps := 2000000) (disch := omega) only [go_sem, doCall, doCallQ, doCallP, Nat.reduceAdd, Nat.reduceMul, Nat.reduceSub, Nat.reduceDiv, Nat.reduceMod, Nat.reduceLT, Nat.reduceLeDiff, Nat.reduceEqDiff, Nat.reduceBEq, Nat.reduceBNe, Int.reduceToNat, Int.reduceLT, Int.reduceLE, Int.reduceEq, Int.reduceNe, Int.reduceAdd, Int.reduceSub, Int.reduceMul, Int.reduceNeg, bd46, hp, show (e != 0) = false by simp [h1], eq_true h1, chk_of]; rfl, ?_⟩
      constructor
      · rfl
      · rfl
    · by_cases h3 : nn < 0
      · rw [hF (fun h => by have := h.2.2.1; omega)]
        refine ⟨_, _, by simp (maxSteps := 2000000) (disch := omega) only [go_sem, doCall, doCallQ, doCallP, Nat.reduceAdd, Nat.reduceMul, Nat.reduceSub, Nat.reduceDiv, Nat.reduceMod, Nat.reduceLT, Nat.reduceLeDiff, Nat.reduceEqDiff, Nat.reduceBEq, Nat.reduceBNe, Int.reduceToNat, Int.reduceLT, Int.reduceLE, Int.reduceEq, Int.reduceNe, Int.reduceAdd, Int.reduceSub, Int.reduceMul, Int.reduceNeg, bd46, hp, show (e != 0) = false by simp [h1], eq_true h1, eq_true h3, chk_of]; rfl, ?_⟩
        constructor
        · rfl
        · rfl
      · have hR : RP f tt := by have := hcr.2; rw [if_pos rfl] at this; exact this.1
        have hs := t_slen (f, tt) hR
        simp only at hs
        by_cases h4 : (bd.length : Int) = tt - f
        · rw [hT ⟨h1, rfl, by omega, h4⟩]
          refine ⟨_, _, by simp (maxSteps := 2000000) (disch := omega) only [go_sem, doCall, doCallQ, doCallP, Nat.reduceAdd, Nat.reduceMul, Nat.reduceSub, Nat.reduceDiv, Nat.reduceMod, Nat.reduceLT, Nat.reduceLeDiff, Nat.reduceEqDiff, Nat.reduceBEq, Nat.reduceBNe, Int.reduceToNat, Int.reduceLT, Int.reduceLE, Int.reduceEq, Int.reduceNe, Int.reduceAdd, Int.reduceSub, Int.reduceMul, Int.reduceNeg, bd46, hp, hs, hcl, show (e != 0) = false by simp [h1], eq_true h1, h3, show ((bd.length : Int) != tt - f) = false by simp [h4], eq_true h4, rB_len, List.length_nil, List.length_cons, Nat.zero_add, chk_of]; rfl, ?_⟩
          constructor
          · rfl
          · rfl
        · rw [hF (fun h => h4 h.2.2.2)]
          refine ⟨_, _, by simp (maxSteps := 2000000) (disch := omega) only [go_sem, doCall, doCallQ, doCallP, Nat.reduceAdd, Nat.reduceMul, Nat.reduceSub, Nat.reduceDiv, Nat.reduceMod, Nat.reduceLT, Nat.reduceLeDiff, Nat.reduceEqDiff, Nat.reduceBEq, Nat.reduceBNe, Int.reduceToNat, Int.reduceLT, Int.reduceLE, Int.reduceEq, Int.reduceNe, Int.reduceAdd, Int.reduceSub, Int.reduceMul, Int.reduceNeg, bd46, hp, hs, show (e != 0) = false by simp [h1], eq_true h1, h3, show ((bd.length : Int) != tt - f) = true by simp [h4], h4, rB_len, chk_of]; rfl, ?_⟩
          constructor
          · rfl
          · rfl
  · rw [hF (fun h => h1 h.1)]
    refine ⟨_, _, by simp (maxSteps := 2000000) (disch := omega) only [go_sem, doCall, doCallQ, doCallP, Nat.reduceAdd, Nat.reduceMul, Nat.reduceSub, Nat.reduceDiv, Nat.reduceMod, Nat.reduceLT, Nat.reduceLeDiff, Nat.reduceEqDiff, Nat.reduceBEq, Nat.reduceBNe, Int.reduceToNat, Int.reduceLT, Int.reduceLE, Int.reduceEq, Int.reduceNe, Int.reduceAdd, Int.reduceSub, Int.reduceMul, Int.reduceNeg, bd46, hp, show (e != 0) = true by simp [h1], h1, chk_of]; rfl, ?_⟩
    constructor
    · rfl
    · rfl
end Go.Proofs.YtpibecljdooilaaDoor
namespace Go.Proofs.YtpibecljdooilaaDoor
open Go Go.Ev Go.Proofs.YtpibecljdooilaaDoor.Ir Go.Prs
set_option maxRecDepth 100000
set_option maxHeartbeats 4000000
set_option linter.unusedSimpArgs false
set_option linter.unusedVariables false
def bndS : List UInt8 := [115, 112, 101, 110, 99, 101]
def typS : List UInt8 := [109, 117, 108, 116, 105, 112, 97, 114, 116, 47, 98, 121, 116, 101, 114, 97, 110, 103, 101, 115, 59, 32, 98, 111, 117, 110, 100, 97, 114, 121, 61, 115, 112, 101, 110, 99, 101]
/-- The parts of a response, how many bytes there are, and the error's number. -/
def apR (st : Int) (rn bd : List UInt8) : List PartD × Int × Int :=
  if st = 206 then (if rn = typS then readR bd bndS else sgR rn bd) else if st = 200 ∧ 0 < bd.length then ([(0, bd.length, bd)], bd.length, 0) else ([], 0, 0)
theorem reads_readV (r : List PartD × Int × Int) (h : r.2.2 ≠ 0 → r.1 = [] ∧ r.2.1 = 0) : ∃ v H, readV r = some (v, H) ∧ Reads v H r := by
  obtain ⟨l, n, e⟩ := r
  unfold readV
  by_cases he : e = 0
  · subst he
    rw [if_pos rfl]
    refine ⟨_, _, rfl, rfl, ?_⟩
    have hlm : (l.map partRow).length = l.length := List.length_map ..
    have htk : List.take l.length (l.map partRow) = l.map partRow := List.take_of_length_le (by rw [hlm]; exact Nat.le_refl _)
    simp [AV.view, AV.viewL, htk]
  · obtain ⟨h1, h2⟩ := h he
    simp only at h1 h2
    subst h1; subst h2
    rw [if_neg he]
    exact ⟨_, _, rfl, rfl, rfl⟩
theorem readR_sane (b s : List UInt8) : (readR b s).2.2 ≠ 0 → (readR b s).1 = [] ∧ (readR b s).2.1 = 0 := by
  unfold readR
  split
  · intro _; exact ⟨rfl, rfl⟩
  · split
    · intro _; exact ⟨rfl, rfl⟩
    · split
      · intro h; exact absurd rfl h
      · intro _; exact ⟨rfl, rfl⟩
theorem t_aparts (st : Int) (tg rn bd : List UInt8) (hrn : rn.length ≤ 1000) (hb : bd.length ≤ 1000) :
    ∃ v H, call ir2 22 [vRs st tg rn bd] [] = some (v, H) ∧ Reads v H (apR st rn bd) := by
  rw [call_eq (ir := ir2) (fn := ir22) rfl, evF_bnd]
  have ht := t_type2 bndS (by decide)
  have e1 : ([109, 117, 108, 116, 105, 112, 97, 114, 116, 47, 98, 121, 116, 101, 114, 97, 110, 103, 101, 115, 59, 32, 98, 111, 117, 110, 100, 97, 114, 121, 61] : List UInt8) ++ bndS = typS := rfl
  rw [e1] at ht
  unfold bndS at ht
  unfold apR
  by_cases h1 : st = 206
  · have h1' := eq_true h1
    rw [if_pos h1]
    by_cases h2 : rn = typS
    · have h2' := eq_true h2
      rw [if_pos h2]
      obtain ⟨v, H, hv, hr⟩ := reads_readV _ (readR_sane bd bndS)
      have hrd := (t_read' bd bndS (by omega) (by decide)).trans hv
      unfold bndS at hrd
      have hsc := hr.sc
      have hvw := hr.vw
      refine ⟨.tup [.d (.list 3 ((readR bd bndS).1.map partRow)), dI (readR bd bndS).2.1, dI (readR bd bndS).2.2], [], by simp (maxSteps := 2000000) (disch := omega) only [go_sem, doCall, doCallQ, doCallP, Nat.reduceAdd, Nat.reduceMul, Nat.reduceSub, Nat.reduceDiv, Nat.reduceMod, Nat.reduceLT, Nat.reduceLeDiff, Nat.reduceEqDiff, Nat.reduceBEq, Nat.reduceBNe, Int.reduceToNat, Int.reduceLT, Int.reduceLE, Int.reduceEq, Int.reduceNe, Int.reduceAdd, Int.reduceSub, Int.reduceMul, Int.reduceNeg, bd22, ht, hrd, hsc, hvw, h1', h2', show (st == 206) = true by simp [h1], show (rn == typS) = true by simp [h2], List.length_nil, List.length_cons, chk_of], ?_⟩
      constructor
      · rfl
      · rfl
    · have h2' := eq_false h2
      rw [if_neg h2]
      obtain ⟨v, H, hv, hr⟩ := t_sgl st tg rn bd (by omega) (by omega)
      have hv := call_ext ext2 hv
      have hsc := hr.sc
      have hvw := hr.vw
      refine ⟨.tup [.d (.list 3 ((sgR rn bd).1.map partRow)), dI (sgR rn bd).2.1, dI (sgR rn bd).2.2], [], by simp (maxSteps := 2000000) (disch := omega) only [go_sem, doCall, doCallQ, doCallP, Nat.reduceAdd, Nat.reduceMul, Nat.reduceSub, Nat.reduceDiv, Nat.reduceMod, Nat.reduceLT, Nat.reduceLeDiff, Nat.reduceEqDiff, Nat.reduceBEq, Nat.reduceBNe, Int.reduceToNat, Int.reduceLT, Int.reduceLE, Int.reduceEq, Int.reduceNe, Int.reduceAdd, Int.reduceSub, Int.reduceMul, Int.reduceNeg, bd22, ht, hv, hsc, hvw, h1', h2', show (st == 206) = true by simp [h1], show (rn == typS) = false by simp [h2], List.length_nil, List.length_cons, chk_of], ?_⟩
      constructor
      · rfl
      · rfl
  · have h1' := eq_false h1
    rw [if_neg h1]
    by_cases h3 : st = 200
    · have h3' := eq_true h3
      by_cases h4 : 0 < bd.length
      · have h4' := eq_true (show (0 : Int) < bd.length by omega)
        rw [if_pos ⟨h3, h4⟩]
        have hcl := call_ext ext2 (t_bclone bd (by omega))
        refine ⟨_, _, by simp (maxSteps := 2000000) (disch := omega) only [go_sem, doCall, doCallQ, doCallP, Nat.reduceAdd, Nat.reduceMul, Nat.reduceSub, Nat.reduceDiv, Nat.reduceMod, Nat.reduceLT, Nat.reduceLeDiff, Nat.reduceEqDiff, Nat.reduceBEq, Nat.reduceBNe, Int.reduceToNat, Int.reduceLT, Int.reduceLE, Int.reduceEq, Int.reduceNe, Int.reduceAdd, Int.reduceSub, Int.reduceMul, Int.reduceNeg, bd22, hcl, h1', h3', h4', show (st == 206) = false by simp [h1], show (st == 200) = true by simp [h3], rB_len, List.length_nil, List.length_cons, Nat.zero_add, chk_of]; rfl, ?_⟩
        constructor
        · rfl
        · rfl
      · have h4' := eq_false (show ¬ (0 : Int) < bd.length by omega)
        rw [if_neg (fun h => h4 h.2)]
        refine ⟨_, _, by simp (maxSteps := 2000000) (disch := omega) only [go_sem, doCall, doCallQ, doCallP, Nat.reduceAdd, Nat.reduceMul, Nat.reduceSub, Nat.reduceDiv, Nat.reduceMod, Nat.reduceLT, Nat.reduceLeDiff, Nat.reduceEqDiff, Nat.reduceBEq, Nat.reduceBNe, Int.reduceToNat, Int.reduceLT, Int.reduceLE, Int.reduceEq, Int.reduceNe, Int.reduceAdd, Int.reduceSub, Int.reduceMul, Int.reduceNeg, bd22, h1', h3', h4', show (st == 206) = false by simp [h1], show (st == 200) = true by simp [h3], rB_len, List.length_nil, List.length_cons, Nat.zero_add, chk_of]; rfl, ?_⟩
        constructor
        · rfl
        · rfl
    · have h3' := eq_false h3
      rw [if_neg (fun h => h3 h.1)]
      refine ⟨_, _, by simp (maxSteps := 2000000) (disch := omega) only [go_sem, doCall, doCallQ, doCallP, Nat.reduceAdd, Nat.reduceMul, Nat.reduceSub, Nat.reduceDiv, Nat.reduceMod, Nat.reduceLT, Nat.reduceLeDiff, Nat.reduceEqDiff, Nat.reduceBEq, Nat.reduceBNe, Int.reduceToNat, Int.reduceLT, Int.reduceLE, Int.reduceEq, Int.reduceNe, Int.reduceAdd, Int.reduceSub, Int.reduceMul, Int.reduceNeg, bd22, h1', h3', show (st == 206) = false by simp [h1], show (st == 200) = false by simp [h3], rB_len, List.length_nil, List.length_cons, Nat.zero_add, chk_of]; rfl, ?_⟩
      constructor
      · rfl
      · rfl
theorem apR_sum (st : Int) (rn bd : List UInt8) : sumB (apR st rn bd).1 ≤ bd.length := by
  have h0 : sumB ([] : List PartD) = 0 := rfl
  unfold apR
  split
  · split
    · unfold readR
      split
      · simp [h0]
      · split
        · simp [h0]
        · split
          · have := (ptsR_bound bndS (bd.length + 1) bd 0 []).2
            rw [h0] at this
            simpa using this
          · simp [h0]
    · unfold sgR
      split
      · simp [sumB]
      · simp [h0]
  · split
    · simp [sumB]
    · simp [h0]
theorem apR_len (st : Int) (rn bd : List UInt8) : (apR st rn bd).1.length ≤ bd.length + 1 := by
  unfold apR
  split
  · split
    · unfold readR
      split
      · simp
      · split
        · simp
        · split
          · have := (ptsR_bound bndS (bd.length + 1) bd 0 []).1
            simp at this ⊢; omega
          · simp
    · unfold sgR
      split <;> simp
  · split <;> simp
structure Dn where
  ob : Int
  rg : List UInt8
  ir : List UInt8
  fr : Int
  to : Int
  be : Int
  en : Int
  st : Int
  tg : List UInt8
  rn : List UInt8
  bd : List UInt8
def dnRow (d : Dn) : List D := [.int .i64 d.ob, .str d.rg, .str d.ir, .int .i64 d.fr, .int .i64 d.to, .int .i64 d.be, .int .i64 d.en, .int .i64 d.st, .str d.tg, .str d.rn, .list 1 (rB d.bd)]
abbrev vDs (l : List Dn) : AV := .d (.list 11 (l.map dnRow))
abbrev vDn (d : Dn) : AV := .agg [dI d.ob, dS d.rg, dS d.ir, dI d.fr, dI d.to, dI d.be, dI d.en, dI d.st, dS d.tg, dS d.rn, lB d.bd]
theorem getDn (l : List Dn) {i : Nat} (h : i < l.length) : (l.map dnRow).getD i [] = [.int .i64 l[i].ob, .str l[i].rg, .str l[i].ir, .int .i64 l[i].fr, .int .i64 l[i].to, .int .i64 l[i].be, .int .i64 l[i].en, .int .i64 l[i].st, .str l[i].tg, .str l[i].rn, .list 1 (rB l[i].bd)] := by simp [List.getD_eq_getElem?_getD, h, dnRow]
def okDn (d : Dn) : Bool := decide (d.bd.length ≤ 1000) && decide (d.rn.length ≤ 200) && decide (d.to ≤ 1099511627776) && decide (-1099511627776 ≤ d.to) && decide (d.fr ≤ 1099511627776) && decide (-1099511627776 ≤ d.fr)
def allDn : List Dn → Bool
  | [] => true
  | d :: l => if okDn d then allDn l else false
theorem allDn_drop {l : List Dn} {i : Nat} (h : i < l.length) : allDn (l.drop i) = if okDn l[i] then allDn (l.drop (i + 1)) else false := by
  rw [List.drop_eq_getElem_cons h]; rfl
theorem lp_few45 (l : List Dn) (hl : l.length ≤ 1000000000000000) (k : Ex → St → Option (AV × Heap)) (i : Nat) (hi : i ≤ l.length) :
    (bnd (evC (call ir) (loop ir) lp21_0 (st21_0 0 (vDs l) (vDs l) (dI l.length) (dI i) [])) (lpC (call ir) (loop ir) [0, 5, 6, 7] lp21_0 k)) = (if allDn (l.drop i) then k (.exit 0) (clean [0] (st21_0 0 (vDs l) .unk .unk .unk []))
      else k .ret (clean [2] ⟨0, [.unk, .unk, dT false, .unk, .unk, .unk, .unk, .unk, .unk, .unk, .unk, .unk, .unk, .unk, .unk, .unk, .unk, .unk, .unk, .unk, .unk, .unk, .unk, .unk, .unk, .unk, .unk, .unk, .unk, .unk, .unk, .unk, .unk, .unk, .unk, .unk, .unk, .unk, .unk, .unk, .unk, .unk, .unk, .unk, .unk, .unk, .unk], []⟩)) := by
  by_cases h : i = l.length
  · have hx : ¬ (i : Int) < l.length := by omega
    rw [h] at hx
    rw [h, List.drop_length]
    simp only [allDn, if_true]
    simp (maxSteps := 2000000) (disch := omega) only [go_sem, doCall, doCallQ, doCallP, Nat.reduceAdd, Nat.reduceMul, Nat.reduceSub, Nat.reduceDiv, Nat.reduceMod, Nat.reduceLT, Nat.reduceLeDiff, Nat.reduceEqDiff, Nat.reduceBEq, Nat.reduceBNe, Int.reduceToNat, Int.reduceLT, Int.reduceLE, Int.reduceEq, Int.reduceNe, Int.reduceAdd, Int.reduceSub, Int.reduceMul, Int.reduceNeg, u21_0, lb21_0, hx]
  · have hlt : (i : Int) < l.length := by omega
    have hi' : i < l.length := by omega
    have hw := wr_succ (i := i) (by omega)
    have hg := getDn l hi'
    have hlm : (l.map dnRow).length = l.length := List.length_map ..
    rw [allDn_drop hi']
    unfold okDn
    generalize l[i] = d at hg ⊢
    have ih := lp_few45 l hl k (i + 1) (by omega)
    by_cases c1 : d.bd.length ≤ 1000
    · have c1' := eq_false (show ¬ (1000 : Int) < d.bd.length by omega)
      rw [decide_eq_true c1, Bool.true_and]
      by_cases c2 : d.rn.length ≤ 200
      · have c2' := eq_false (show ¬ (200 : Int) < d.rn.length by omega)
        rw [decide_eq_true c2, Bool.true_and]
        by_cases c3 : d.to ≤ 1099511627776
        · have c3' := eq_false (show ¬ 1099511627776 < d.to by omega)
          rw [decide_eq_true c3, Bool.true_and]
          by_cases c4 : -1099511627776 ≤ d.to
          · have c4' := eq_false (show ¬ d.to < -1099511627776 by omega)
            rw [decide_eq_true c4, Bool.true_and]
            by_cases c5 : d.fr ≤ 1099511627776
            · have c5' := eq_false (show ¬ 1099511627776 < d.fr by omega)
              rw [decide_eq_true c5, Bool.true_and]
              by_cases c6 : -1099511627776 ≤ d.fr
              · have c6' := eq_false (show ¬ d.fr < -1099511627776 by omega)
                rw [decide_eq_true c6, if_pos rfl]
                simp (maxSteps := 2000000) (disch := omega) only [go_sem, doCall, doCallQ, doCallP, Nat.reduceAdd, Nat.reduceMul, Nat.reduceSub, Nat.reduceDiv, Nat.reduceMod, Nat.reduceLT, Nat.reduceLeDiff, Nat.reduceEqDiff, Nat.reduceBEq, Nat.reduceBNe, Int.reduceToNat, Int.reduceLT, Int.reduceLE, Int.reduceEq, Int.reduceNe, Int.reduceAdd, Int.reduceSub, Int.reduceMul, Int.reduceNeg, u21_0, lb21_0, hlt, hi', hw, hg, hlm, c1', c2', c3', c4', c5', c6', rB_len, Int.natCast_nonneg, Int.toNat_natCast, Option.getD_some, Option.getD_none, List.drop_zero, Nat.sub_zero, Nat.zero_le, true_and, and_true, Nat.le_refl, chk_of]
                rw [loop_step1]; simp (maxSteps := 2000000) only [go_sem, doCall, doCallQ, doCallP, Nat.reduceAdd, Nat.reduceMul, Nat.reduceSub, Nat.reduceDiv, Nat.reduceMod, Nat.reduceLT, Nat.reduceLeDiff, Nat.reduceEqDiff, Nat.reduceBEq, Nat.reduceBNe, Int.reduceToNat, Int.reduceLT, Int.reduceLE, Int.reduceEq, Int.reduceNe, Int.reduceAdd, Int.reduceSub, Int.reduceMul, Int.reduceNeg]; exact ih
              · have c6' := eq_true (show d.fr < -1099511627776 by omega)
                rw [decide_eq_false c6, if_neg (by simp)]
                simp (maxSteps := 2000000) (disch := omega) only [go_sem, doCall, doCallQ, doCallP, Nat.reduceAdd, Nat.reduceMul, Nat.reduceSub, Nat.reduceDiv, Nat.reduceMod, Nat.reduceLT, Nat.reduceLeDiff, Nat.reduceEqDiff, Nat.reduceBEq, Nat.reduceBNe, Int.reduceToNat, Int.reduceLT, Int.reduceLE, Int.reduceEq, Int.reduceNe, Int.reduceAdd, Int.reduceSub, Int.reduceMul, Int.reduceNeg, u21_0, lb21_0, hlt, hi', hw, hg, hlm, c1', c2', c3', c4', c5', c6', rB_len, Int.natCast_nonneg, Int.toNat_natCast, Option.getD_some, Option.getD_none, List.drop_zero, Nat.sub_zero, Nat.zero_le, true_and, and_true, Nat.le_refl, chk_of]
            · have c5' := eq_true (show 1099511627776 < d.fr by omega)
              rw [decide_eq_false c5, Bool.false_and, if_neg (by simp)]
              simp (maxSteps := 2000000) (disch := omega) only [go_sem, doCall, doCallQ, doCallP, Nat.reduceAdd, Nat.reduceMul, Nat.reduceSub, Nat.reduceDiv, Nat.reduceMod, Nat.reduceLT, Nat.reduceLeDiff, Nat.reduceEqDiff, Nat.reduceBEq, Nat.reduceBNe, Int.reduceToNat, Int.reduceLT, Int.reduceLE, Int.reduceEq, Int.reduceNe, Int.reduceAdd, Int.reduceSub, Int.reduceMul, Int.reduceNeg, u21_0, lb21_0, hlt, hi', hw, hg, hlm, c1', c2', c3', c4', c5', rB_len, Int.natCast_nonneg, Int.toNat_natCast, Option.getD_some, Option.getD_none, List.drop_zero, Nat.sub_zero, Nat.zero_le, true_and, and_true, Nat.le_refl, chk_of]
          · have c4' := eq_true (show d.to < -1099511627776 by omega)
            rw [decide_eq_false c4, Bool.false_and, Bool.false_and, if_neg (by simp)]
            simp (maxSteps := 2000000) (disch := omega) only [go_sem, doCall, doCallQ, doCallP, Nat.reduceAdd, Nat.reduceMul, Nat.reduceSub, Nat.reduceDiv, Nat.reduceMod, Nat.reduceLT, Nat.reduceLeDiff, Nat.reduceEqDiff, Nat.reduceBEq, Nat.reduceBNe, Int.reduceToNat, Int.reduceLT, Int.reduceLE, Int.reduceEq, Int.reduceNe, Int.reduceAdd, Int.reduceSub, Int.reduceMul, Int.reduceNeg, u21_0, lb21_0, hlt, hi', hw, hg, hlm, c1', c2', c3', c4', rB_len, Int.natCast_nonneg, Int.toNat_natCast, Option.getD_some, Option.getD_none, List.drop_zero, Nat.sub_zero, Nat.zero_le, true_and, and_true, Nat.le_refl, chk_of]
        · have c3' := eq_true (show 1099511627776 < d.to by omega)
          rw [decide_eq_false c3, Bool.false_and, Bool.false_and, Bool.false_and, if_neg (by simp)]
          simp (maxSteps := 2000000) (disch := omega) only [go_sem, doCall, doCallQ, doCallP, Nat.reduceAdd, Nat.reduceMul, Nat.reduceSub, Nat.reduceDiv, Nat.reduceMod, Nat.reduceLT, Nat.reduceLeDiff, Nat.reduceEqDiff, Nat.reduceBEq, Nat.reduceBNe, Int.reduceToNat, Int.reduceLT, Int.reduceLE, Int.reduceEq, Int.reduceNe, Int.reduceAdd, Int.reduceSub, Int.reduceMul, Int.reduceNeg, u21_0, lb21_0, hlt, hi', hw, hg, hlm, c1', c2', c3', rB_len, Int.natCast_nonneg, Int.toNat_natCast, Option.getD_some, Option.getD_none, List.drop_zero, Nat.sub_zero, Nat.zero_le, true_and, and_true, Nat.le_refl, chk_of]
      · have c2' := eq_true (show (200 : Int) < d.rn.length by omega)
        rw [decide_eq_false c2, Bool.false_and, Bool.false_and, Bool.false_and, Bool.false_and, if_neg (by simp)]
        simp (maxSteps := 2000000) (disch := omega) only [go_sem, doCall, doCallQ, doCallP, Nat.reduceAdd, Nat.reduceMul, Nat.reduceSub, Nat.reduceDiv, Nat.reduceMod, Nat.reduceLT, Nat.reduceLeDiff, Nat.reduceEqDiff, Nat.reduceBEq, Nat.reduceBNe, Int.reduceToNat, Int.reduceLT, Int.reduceLE, Int.reduceEq, Int.reduceNe, Int.reduceAdd, Int.reduceSub, Int.reduceMul, Int.reduceNeg, u21_0, lb21_0, hlt, hi', hw, hg, hlm, c1', c2', rB_len, Int.natCast_nonneg, Int.toNat_natCast, Option.getD_some, Option.getD_none, List.drop_zero, Nat.sub_zero, Nat.zero_le, true_and, and_true, Nat.le_refl, chk_of]
    · have c1' := eq_true (show (1000 : Int) < d.bd.length by omega)
      rw [decide_eq_false c1, Bool.false_and, Bool.false_and, Bool.false_and, Bool.false_and, Bool.false_and, if_neg (by simp)]
      simp (maxSteps := 2000000) (disch := omega) only [go_sem, doCall, doCallQ, doCallP, Nat.reduceAdd, Nat.reduceMul, Nat.reduceSub, Nat.reduceDiv, Nat.reduceMod, Nat.reduceLT, Nat.reduceLeDiff, Nat.reduceEqDiff, Nat.reduceBEq, Nat.reduceBNe, Int.reduceToNat, Int.reduceLT, Int.reduceLE, Int.reduceEq, Int.reduceNe, Int.reduceAdd, Int.reduceSub, Int.reduceMul, Int.reduceNeg, u21_0, lb21_0, hlt, hi', hw, hg, hlm, c1', rB_len, Int.natCast_nonneg, Int.toNat_natCast, Option.getD_some, Option.getD_none, List.drop_zero, Nat.sub_zero, Nat.zero_le, true_and, and_true, Nat.le_refl, chk_of]
termination_by l.length - i
theorem t_few45 (l : List Dn) (hl : l.length ≤ 1000000000000000) : call ir 21 [vDs l] [] = some (dT (allDn l && decide (l.length ≤ 20)), []) := by
  rw [call_eq (fn := ir21) rfl, evF_bnd]
  have hlm : (l.map dnRow).length = l.length := List.length_map ..
  simp (maxSteps := 2000000) (disch := omega) only [go_sem, doCall, doCallQ, doCallP, Nat.reduceAdd, Nat.reduceMul, Nat.reduceSub, Nat.reduceDiv, Nat.reduceMod, Nat.reduceLT, Nat.reduceLeDiff, Nat.reduceEqDiff, Nat.reduceBEq, Nat.reduceBNe, Int.reduceToNat, Int.reduceLT, Int.reduceLE, Int.reduceEq, Int.reduceNe, Int.reduceAdd, Int.reduceSub, Int.reduceMul, Int.reduceNeg, bd21, hlm, chk_of]
  rw [loop_step1]; simp (maxSteps := 2000000) only [go_sem, doCall, doCallQ, doCallP, Nat.reduceAdd, Nat.reduceMul, Nat.reduceSub, Nat.reduceDiv, Nat.reduceMod, Nat.reduceLT, Nat.reduceLeDiff, Nat.reduceEqDiff, Nat.reduceBEq, Nat.reduceBNe, Int.reduceToNat, Int.reduceLT, Int.reduceLE, Int.reduceEq, Int.reduceNe, Int.reduceAdd, Int.reduceSub, Int.reduceMul, Int.reduceNeg]
  refine (lp_few45 l hl _ 0 (Nat.zero_le _)).trans ?_
  rw [List.drop_zero]
  cases h1 : allDn l
  · rw [if_neg (by simp)]
    simp (maxSteps := 2000000) (disch := omega) only [go_sem, doCall, doCallQ, doCallP, Nat.reduceAdd, Nat.reduceMul, Nat.reduceSub, Nat.reduceDiv, Nat.reduceMod, Nat.reduceLT, Nat.reduceLeDiff, Nat.reduceEqDiff, Nat.reduceBEq, Nat.reduceBNe, Int.reduceToNat, Int.reduceLT, Int.reduceLE, Int.reduceEq, Int.reduceNe, Int.reduceAdd, Int.reduceSub, Int.reduceMul, Int.reduceNeg, Bool.false_and]
  · rw [if_pos rfl]
    by_cases h2 : l.length ≤ 20
    · have h2' := eq_true (show (l.length : Int) ≤ 20 by omega)
      rw [decide_eq_true h2]
      simp (maxSteps := 2000000) (disch := omega) only [go_sem, doCall, doCallQ, doCallP, Nat.reduceAdd, Nat.reduceMul, Nat.reduceSub, Nat.reduceDiv, Nat.reduceMod, Nat.reduceLT, Nat.reduceLeDiff, Nat.reduceEqDiff, Nat.reduceBEq, Nat.reduceBNe, Int.reduceToNat, Int.reduceLT, Int.reduceLE, Int.reduceEq, Int.reduceNe, Int.reduceAdd, Int.reduceSub, Int.reduceMul, Int.reduceNeg, hlm, h2', Bool.true_and, chk_of]
    · have h2' := eq_false (show ¬ (l.length : Int) ≤ 20 by omega)
      rw [decide_eq_false h2]
      simp (maxSteps := 2000000) (disch := omega) only [go_sem, doCall, doCallQ, doCallP, Nat.reduceAdd, Nat.reduceMul, Nat.reduceSub, Nat.reduceDiv, Nat.reduceMod, Nat.reduceLT, Nat.reduceLeDiff, Nat.reduceEqDiff, Nat.reduceBEq, Nat.reduceBNe, Int.reduceToNat, Int.reduceLT, Int.reduceLE, Int.reduceEq, Int.reduceNe, Int.reduceAdd, Int.reduceSub, Int.reduceMul, Int.reduceNeg, hlm, h2', Bool.true_and, chk_of]
end Go.Proofs.YtpibecljdooilaaDoor
namespace Go.Proofs.YtpibecljdooilaaDoor
open Go Go.Ev Go.Proofs.YtpibecljdooilaaDoor.Ir Go.Prs
set_option maxRecDepth 100000
set_option maxHeartbeats 4000000
set_option linter.unusedSimpArgs false
set_option linter.unusedVariables false
structure Ta where
  w : Int
  p : Int
  b : Int
  f : Int
  y : Int
  g : Int
abbrev vTa (t : Ta) : AV := .agg [dI t.w, dI t.p, dI t.b, dI t.f, dI t.y, dI t.g]
abbrev taR (t : Ta) : List D := [.int .i64 t.w, .int .i64 t.p, .int .i64 t.b, .int .i64 t.f, .int .i64 t.y, .int .i64 t.g]
def T0 : Ta := ⟨0, 0, 0, 0, 0, 0⟩
def kW (st : Int) : Int := if st = 200 then 1 else 0
def kP (st : Int) : Int := if st = 206 then 1 else 0
def kB (st : Int) : Int := if st = 416 then 1 else 0
def kF (st : Int) : Int := if st = 200 ∨ st = 206 ∨ st = 416 then 0 else 1
def yD (d : Dn) : Nat := sumB (apR d.st d.rn d.bd).1
def oneT (d : Dn) : Ta := ⟨kW d.st, kP d.st, kB d.st, kF d.st, yD d, max (d.to - d.fr) 0⟩
def addT (s t : Ta) : Ta := ⟨s.w + t.w, s.p + t.p, s.b + t.b, s.f + t.f, s.y + t.y, max s.g t.g⟩
/-- Bounds of a tally of so many. -/
structure Bd (n : Nat) (t : Ta) : Prop where
  w : 0 ≤ t.w ∧ t.w ≤ n
  p : 0 ≤ t.p ∧ t.p ≤ n
  b : 0 ≤ t.b ∧ t.b ≤ n
  f : 0 ≤ t.f ∧ t.f ≤ n
  y : 0 ≤ t.y ∧ t.y ≤ 1000 * n
  g : 0 ≤ t.g ∧ t.g ≤ 4398046511104
theorem okDn_iff {d : Dn} (h : okDn d = true) : d.bd.length ≤ 1000 ∧ d.rn.length ≤ 200 ∧ d.to ≤ 1099511627776 ∧ -1099511627776 ≤ d.to ∧ d.fr ≤ 1099511627776 ∧ -1099511627776 ≤ d.fr := by
  unfold okDn at h
  simp only [Bool.and_eq_true, decide_eq_true_eq] at h
  omega
theorem bd_one {d : Dn} (h : okDn d = true) : Bd 1 (oneT d) := by
  have ho := okDn_iff h
  have hy := apR_sum d.st d.rn d.bd
  constructor
  · show 0 ≤ kW d.st ∧ kW d.st ≤ (1 : Nat); unfold kW; split <;> omega
  · show 0 ≤ kP d.st ∧ kP d.st ≤ (1 : Nat); unfold kP; split <;> omega
  · show 0 ≤ kB d.st ∧ kB d.st ≤ (1 : Nat); unfold kB; split <;> omega
  · show 0 ≤ kF d.st ∧ kF d.st ≤ (1 : Nat); unfold kF; split <;> omega
  · show 0 ≤ (yD d : Int) ∧ (yD d : Int) ≤ 1000 * (1 : Nat); unfold yD; omega
  · show 0 ≤ max (d.to - d.fr) 0 ∧ max (d.to - d.fr) 0 ≤ 4398046511104; omega
theorem bd_add {n m : Nat} {s t : Ta} (h : Bd n s) (k : Bd m t) : Bd (n + m) (addT s t) := by
  obtain ⟨a1, a2, a3, a4, a5, a6⟩ := h
  obtain ⟨b1, b2, b3, b4, b5, b6⟩ := k
  constructor
  · show 0 ≤ s.w + t.w ∧ s.w + t.w ≤ ((n + m : Nat) : Int); omega
  · show 0 ≤ s.p + t.p ∧ s.p + t.p ≤ ((n + m : Nat) : Int); omega
  · show 0 ≤ s.b + t.b ∧ s.b + t.b ≤ ((n + m : Nat) : Int); omega
  · show 0 ≤ s.f + t.f ∧ s.f + t.f ≤ ((n + m : Nat) : Int); omega
  · show 0 ≤ s.y + t.y ∧ s.y + t.y ≤ 1000 * ((n + m : Nat) : Int); omega
  · show 0 ≤ max s.g t.g ∧ max s.g t.g ≤ 4398046511104; omega
theorem t_add45 {n m : Nat} {s t : Ta} (h : Bd n s) (k : Bd m t) (hn : n ≤ 1000) (hm : m ≤ 1000) : call ir2 25 [vTa s, vTa t] [] = some (vTa (addT s t), []) := by
  rw [call_eq (ir := ir2) (fn := ir25) rfl, evF_bnd]
  obtain ⟨a1, a2, a3, a4, a5, a6⟩ := h
  obtain ⟨b1, b2, b3, b4, b5, b6⟩ := k
  obtain ⟨w, p, b, f, y, g⟩ := s
  obtain ⟨w', p', b', f', y', g'⟩ := t
  simp only at a1 a2 a3 a4 a5 a6 b1 b2 b3 b4 b5 b6
  have e1 : wr .i64 (w + w') = w + w' := wr_id (by omega)
  have e2 : wr .i64 (p + p') = p + p' := wr_id (by omega)
  have e3 : wr .i64 (b + b') = b + b' := wr_id (by omega)
  have e4 : wr .i64 (f + f') = f + f' := wr_id (by omega)
  have e5 : wr .i64 (y + y') = y + y' := wr_id (by omega)
  simp only [vTa, addT]
  simp (maxSteps := 2000000) (disch := omega) only [go_sem, doCall, doCallQ, doCallP, Nat.reduceAdd, Nat.reduceMul, Nat.reduceSub, Nat.reduceDiv, Nat.reduceMod, Nat.reduceLT, Nat.reduceLeDiff, Nat.reduceEqDiff, Nat.reduceBEq, Nat.reduceBNe, Int.reduceToNat, Int.reduceLT, Int.reduceLE, Int.reduceEq, Int.reduceNe, Int.reduceAdd, Int.reduceSub, Int.reduceMul, Int.reduceNeg, bd25, e1, e2, e3, e4, e5, chk_of]
theorem lp_one (A B : List D) (a b c e g : Int) (ps : List PartD) (hl : ps.length ≤ 1000000) (K : Ex → St → Option (AV × Heap)) (i : Nat) (hi : i ≤ ps.length) (y : Nat) (hy : y + sumB (ps.drop i) ≤ 1000000) :
    (bnd (evC (call ir2) (loop ir2) lp50_0 (st50_0 0 (.ptr 0 0) (.ptr 1 0) (.ptr 2 0) (vL ps) (dI ps.length) (dI i) [.dbox A, .dbox B, .dbox [.int .i64 a, .int .i64 b, .int .i64 c, .int .i64 e, .int .i64 y, .int .i64 g]])) (lpC (call ir2) (loop ir2) [1, 2, 3, 23, 24, 25] lp50_0 K)) =
      K (.exit 0) (clean [1, 2, 3] (st50_0 0 (.ptr 0 0) (.ptr 1 0) (.ptr 2 0) .unk .unk .unk [.dbox A, .dbox B, .dbox [.int .i64 a, .int .i64 b, .int .i64 c, .int .i64 e, .int .i64 ((y + sumB (ps.drop i) : Nat) : Int), .int .i64 g]])) := by
  by_cases h : i = ps.length
  · have hx : ¬ (i : Int) < ps.length := by omega
    rw [h] at hx
    rw [h, List.drop_length]
    have h0 : sumB ([] : List PartD) = 0 := rfl
    rw [h0, Nat.add_zero]
    simp (maxSteps := 2000000) (disch := omega) only [go_sem, doCall, doCallQ, doCallP, Nat.reduceAdd, Nat.reduceMul, Nat.reduceSub, Nat.reduceDiv, Nat.reduceMod, Nat.reduceLT, Nat.reduceLeDiff, Nat.reduceEqDiff, Nat.reduceBEq, Nat.reduceBNe, Int.reduceToNat, Int.reduceLT, Int.reduceLE, Int.reduceEq, Int.reduceNe, Int.reduceAdd, Int.reduceSub, Int.reduceMul, Int.reduceNeg, u50_0, lb50_0, hx]
  · have hlt : (i : Int) < ps.length := by omega
    have hi' : i < ps.length := by omega
    have hw := wr_succ (i := i) (by omega)
    have hg := getP ps hi'
    have hlm : (ps.map partRow).length = ps.length := List.length_map ..
    rw [sumB_drop hi'] at hy ⊢
    have hw2 : wr .i64 ((y : Int) + (ps[i].2.2.length : Int)) = ((y + ps[i].2.2.length : Nat) : Int) := by rw [wr_id (by omega)]; omega
    have ih := lp_one A B a b c e g ps hl K (i + 1) (by omega) (y + ps[i].2.2.length) (by omega)
    rw [Nat.add_assoc] at ih
    simp (maxSteps := 2000000) (disch := omega) only [go_sem, doCall, doCallQ, doCallP, Nat.reduceAdd, Nat.reduceMul, Nat.reduceSub, Nat.reduceDiv, Nat.reduceMod, Nat.reduceLT, Nat.reduceLeDiff, Nat.reduceEqDiff, Nat.reduceBEq, Nat.reduceBNe, Int.reduceToNat, Int.reduceLT, Int.reduceLE, Int.reduceEq, Int.reduceNe, Int.reduceAdd, Int.reduceSub, Int.reduceMul, Int.reduceNeg, u50_0, lb50_0, hlt, hi', hw, hg, hlm, hw2, rB_len, Int.natCast_nonneg, Int.toNat_natCast, Option.getD_some, Option.getD_none, List.drop_zero, Nat.sub_zero, Nat.zero_le, true_and, and_true, Nat.le_refl, chk_of]
    rw [loop_step1]; simp (maxSteps := 2000000) only [go_sem, doCall, doCallQ, doCallP, Nat.reduceAdd, Nat.reduceMul, Nat.reduceSub, Nat.reduceDiv, Nat.reduceMod, Nat.reduceLT, Nat.reduceLeDiff, Nat.reduceEqDiff, Nat.reduceBEq, Nat.reduceBNe, Int.reduceToNat, Int.reduceLT, Int.reduceLE, Int.reduceEq, Int.reduceNe, Int.reduceAdd, Int.reduceSub, Int.reduceMul, Int.reduceNeg]; exact ih
termination_by ps.length - i
theorem t_one45 {d : Dn} (h : okDn d = true) : call ir2 50 [vDn d] [] = some (vTa (oneT d), []) := by
  rw [call_eq (ir := ir2) (fn := ir50) rfl, evF_bnd]
  have ho := okDn_iff h
  have hsum := apR_sum d.st d.rn d.bd
  have hlen := apR_len d.st d.rn d.bd
  obtain ⟨v, H, hc, hr⟩ := t_aparts d.st d.tg d.rn d.bd (by omega) (by omega)
  have hsc := hr.sc
  have hvw := hr.vw
  have hw : wr .i64 (d.to - d.fr) = d.to - d.fr := wr_id (by omega)
  have hlm : ((apR d.st d.rn d.bd).1.map partRow).length = (apR d.st d.rn d.bd).1.length := List.length_map ..
  simp (maxSteps := 2000000) (disch := omega) only [go_sem, doCall, doCallQ, doCallP, Nat.reduceAdd, Nat.reduceMul, Nat.reduceSub, Nat.reduceDiv, Nat.reduceMod, Nat.reduceLT, Nat.reduceLeDiff, Nat.reduceEqDiff, Nat.reduceBEq, Nat.reduceBNe, Int.reduceToNat, Int.reduceLT, Int.reduceLE, Int.reduceEq, Int.reduceNe, Int.reduceAdd, Int.reduceSub, Int.reduceMul, Int.reduceNeg, bd50, hc, hsc, hvw, hw, hlm, chk_of]
  rw [loop_step1]; simp (maxSteps := 2000000) only [go_sem, doCall, doCallQ, doCallP, Nat.reduceAdd, Nat.reduceMul, Nat.reduceSub, Nat.reduceDiv, Nat.reduceMod, Nat.reduceLT, Nat.reduceLeDiff, Nat.reduceEqDiff, Nat.reduceBEq, Nat.reduceBNe, Int.reduceToNat, Int.reduceLT, Int.reduceLE, Int.reduceEq, Int.reduceNe, Int.reduceAdd, Int.reduceSub, Int.reduceMul, Int.reduceNeg]
  refine (lp_one _ _ 0 0 0 0 _ (apR d.st d.rn d.bd).1 (by omega) _ 0 (Nat.zero_le _) 0 (by rw [List.drop_zero]; omega)).trans ?_
  rw [List.drop_zero, Nat.zero_add]
  have e1 : (oneT d).y = ((sumB (apR d.st d.rn d.bd).1 : Nat) : Int) := rfl
  have e2 : (oneT d).g = max (d.to - d.fr) 0 := rfl
  have e3 : (oneT d).w = kW d.st := rfl
  have e4 : (oneT d).p = kP d.st := rfl
  have e5 : (oneT d).b = kB d.st := rfl
  have e6 : (oneT d).f = kF d.st := rfl
  rw [← e1]
  simp only [vTa, e2, e3, e4, e5, e6]
  generalize (oneT d).y = Y
  unfold kW kP kB kF
  by_cases h1 : d.st = 200
  · rw [if_pos h1, if_neg (by omega), if_neg (by omega), if_pos (by omega)]
    simp (maxSteps := 2000000) (disch := omega) only [go_sem, doCall, doCallQ, doCallP, Nat.reduceAdd, Nat.reduceMul, Nat.reduceSub, Nat.reduceDiv, Nat.reduceMod, Nat.reduceLT, Nat.reduceLeDiff, Nat.reduceEqDiff, Nat.reduceBEq, Nat.reduceBNe, Int.reduceToNat, Int.reduceLT, Int.reduceLE, Int.reduceEq, Int.reduceNe, Int.reduceAdd, Int.reduceSub, Int.reduceMul, Int.reduceNeg, eq_true h1, show (d.st == 200) = true by simp [h1], chk_of]
  · by_cases h2 : d.st = 206
    · rw [if_neg h1, if_pos h2, if_neg (by omega), if_pos (by omega)]
      simp (maxSteps := 2000000) (disch := omega) only [go_sem, doCall, doCallQ, doCallP, Nat.reduceAdd, Nat.reduceMul, Nat.reduceSub, Nat.reduceDiv, Nat.reduceMod, Nat.reduceLT, Nat.reduceLeDiff, Nat.reduceEqDiff, Nat.reduceBEq, Nat.reduceBNe, Int.reduceToNat, Int.reduceLT, Int.reduceLE, Int.reduceEq, Int.reduceNe, Int.reduceAdd, Int.reduceSub, Int.reduceMul, Int.reduceNeg, eq_false h1, eq_true h2, show (d.st == 200) = false by simp [h1], show (d.st == 206) = true by simp [h2], chk_of]
    · by_cases h3 : d.st = 416
      · rw [if_neg h1, if_neg h2, if_pos h3, if_pos (by omega)]
        simp (maxSteps := 2000000) (disch := omega) only [go_sem, doCall, doCallQ, doCallP, Nat.reduceAdd, Nat.reduceMul, Nat.reduceSub, Nat.reduceDiv, Nat.reduceMod, Nat.reduceLT, Nat.reduceLeDiff, Nat.reduceEqDiff, Nat.reduceBEq, Nat.reduceBNe, Int.reduceToNat, Int.reduceLT, Int.reduceLE, Int.reduceEq, Int.reduceNe, Int.reduceAdd, Int.reduceSub, Int.reduceMul, Int.reduceNeg, eq_false h1, eq_false h2, eq_true h3, show (d.st == 200) = false by simp [h1], show (d.st == 206) = false by simp [h2], show (d.st == 416) = true by simp [h3], chk_of]
      · rw [if_neg h1, if_neg h2, if_neg h3, if_neg (by omega)]
        simp (maxSteps := 2000000) (disch := omega) only [go_sem, doCall, doCallQ, doCallP, Nat.reduceAdd, Nat.reduceMul, Nat.reduceSub, Nat.reduceDiv, Nat.reduceMod, Nat.reduceLT, Nat.reduceLeDiff, Nat.reduceEqDiff, Nat.reduceBEq, Nat.reduceBNe, Int.reduceToNat, Int.reduceLT, Int.reduceLE, Int.reduceEq, Int.reduceNe, Int.reduceAdd, Int.reduceSub, Int.reduceMul, Int.reduceNeg, eq_false h1, eq_false h2, eq_false h3, show (d.st == 200) = false by simp [h1], show (d.st == 206) = false by simp [h2], show (d.st == 416) = false by simp [h3], chk_of]
def donesT (l : List Dn) : Ta → Ta := fun t => l.foldl (fun t d => addT t (oneT d)) t
theorem allDn_mem {l : List Dn} (h : allDn l = true) : ∀ d ∈ l, okDn d = true := by
  induction l with
  | nil => intro d hd; simp at hd
  | cons e l ih =>
    unfold allDn at h
    cases he : okDn e
    · rw [he] at h; simp at h
    · rw [he, if_pos rfl] at h
      intro d hd
      rcases List.mem_cons.1 hd with rfl | hd
      · exact he
      · exact ih h d hd
theorem lp_dones (Z : List D) (l : List Dn) (hl : l.length ≤ 100) (hok : ∀ d ∈ l, okDn d = true) (K : Ex → St → Option (AV × Heap)) (i : Nat) (hi : i ≤ l.length) (t : Ta) (ht : Bd i t) :
    (bnd (evC (call ir2) (loop ir2) lp24_0 (st24_0 0 (.ptr 0 0) (.ptr 1 0) (vDs l) (dI l.length) (dI i) [.dbox Z, .dbox (taR t)])) (lpC (call ir2) (loop ir2) [2, 3, 6, 7, 8] lp24_0 K)) =
      K (.exit 0) (clean [2, 3] (st24_0 0 (.ptr 0 0) (.ptr 1 0) .unk .unk .unk [.dbox Z, .dbox (taR (donesT (l.drop i) t))])) := by
  by_cases h : i = l.length
  · have hx : ¬ (i : Int) < l.length := by omega
    rw [h] at hx
    rw [h, List.drop_length]
    have e : donesT [] t = t := rfl
    rw [e]
    simp (maxSteps := 2000000) (disch := omega) only [go_sem, doCall, doCallQ, doCallP, Nat.reduceAdd, Nat.reduceMul, Nat.reduceSub, Nat.reduceDiv, Nat.reduceMod, Nat.reduceLT, Nat.reduceLeDiff, Nat.reduceEqDiff, Nat.reduceBEq, Nat.reduceBNe, Int.reduceToNat, Int.reduceLT, Int.reduceLE, Int.reduceEq, Int.reduceNe, Int.reduceAdd, Int.reduceSub, Int.reduceMul, Int.reduceNeg, u24_0, lb24_0, hx]
  · have hlt : (i : Int) < l.length := by omega
    have hi' : i < l.length := by omega
    have hw := wr_succ (i := i) (by omega)
    have hg := getDn l hi'
    have hlm : (l.map dnRow).length = l.length := List.length_map ..
    have hk := hok _ (List.getElem_mem hi')
    have h1 := t_one45 hk
    have b1 := bd_one hk
    have h2 := t_add45 ht b1 (by omega) (by omega)
    have ih := lp_dones Z l hl hok K (i + 1) (by omega) (addT t (oneT l[i])) (bd_add ht b1)
    have e : donesT (l.drop i) t = donesT (l.drop (i + 1)) (addT t (oneT l[i])) := by
      rw [List.drop_eq_getElem_cons hi']; rfl
    rw [e]
    generalize oneT l[i] = o at h1 h2 ih b1 ⊢
    generalize addT t o = t' at h2 ih ⊢
    simp (maxSteps := 2000000) (disch := omega) only [go_sem, doCall, doCallQ, doCallP, Nat.reduceAdd, Nat.reduceMul, Nat.reduceSub, Nat.reduceDiv, Nat.reduceMod, Nat.reduceLT, Nat.reduceLeDiff, Nat.reduceEqDiff, Nat.reduceBEq, Nat.reduceBNe, Int.reduceToNat, Int.reduceLT, Int.reduceLE, Int.reduceEq, Int.reduceNe, Int.reduceAdd, Int.reduceSub, Int.reduceMul, Int.reduceNeg, u24_0, lb24_0, hlt, hi', hw, hg, hlm, h1, h2, rB_len, Int.natCast_nonneg, Int.toNat_natCast, Option.getD_some, Option.getD_none, List.drop_zero, Nat.sub_zero, Nat.zero_le, true_and, and_true, Nat.le_refl, chk_of]
    rw [loop_step1]; simp (maxSteps := 2000000) only [go_sem, doCall, doCallQ, doCallP, Nat.reduceAdd, Nat.reduceMul, Nat.reduceSub, Nat.reduceDiv, Nat.reduceMod, Nat.reduceLT, Nat.reduceLeDiff, Nat.reduceEqDiff, Nat.reduceBEq, Nat.reduceBNe, Int.reduceToNat, Int.reduceLT, Int.reduceLE, Int.reduceEq, Int.reduceNe, Int.reduceAdd, Int.reduceSub, Int.reduceMul, Int.reduceNeg]; exact ih
termination_by l.length - i
theorem bd0 : Bd 0 T0 := ⟨by decide, by decide, by decide, by decide, by decide, by decide⟩
theorem t_dones (l : List Dn) (hl : l.length ≤ 100) (hok : ∀ d ∈ l, okDn d = true) : call ir2 24 [vDs l] [] = some (vTa (donesT l T0), []) := by
  rw [call_eq (ir := ir2) (fn := ir24) rfl, evF_bnd]
  have hlm : (l.map dnRow).length = l.length := List.length_map ..
  simp (maxSteps := 2000000) (disch := omega) only [go_sem, doCall, doCallQ, doCallP, Nat.reduceAdd, Nat.reduceMul, Nat.reduceSub, Nat.reduceDiv, Nat.reduceMod, Nat.reduceLT, Nat.reduceLeDiff, Nat.reduceEqDiff, Nat.reduceBEq, Nat.reduceBNe, Int.reduceToNat, Int.reduceLT, Int.reduceLE, Int.reduceEq, Int.reduceNe, Int.reduceAdd, Int.reduceSub, Int.reduceMul, Int.reduceNeg, bd24, hlm, chk_of]
  rw [loop_step1]; simp (maxSteps := 2000000) only [go_sem, doCall, doCallQ, doCallP, Nat.reduceAdd, Nat.reduceMul, Nat.reduceSub, Nat.reduceDiv, Nat.reduceMod, Nat.reduceLT, Nat.reduceLeDiff, Nat.reduceEqDiff, Nat.reduceBEq, Nat.reduceBNe, Int.reduceToNat, Int.reduceLT, Int.reduceLE, Int.reduceEq, Int.reduceNe, Int.reduceAdd, Int.reduceSub, Int.reduceMul, Int.reduceNeg]
  refine (lp_dones _ l hl hok _ 0 (Nat.zero_le _) T0 bd0).trans ?_
  rw [List.drop_zero]
  simp (maxSteps := 2000000) (disch := omega) only [go_sem, doCall, doCallQ, doCallP, Nat.reduceAdd, Nat.reduceMul, Nat.reduceSub, Nat.reduceDiv, Nat.reduceMod, Nat.reduceLT, Nat.reduceLeDiff, Nat.reduceEqDiff, Nat.reduceBEq, Nat.reduceBNe, Int.reduceToNat, Int.reduceLT, Int.reduceLE, Int.reduceEq, Int.reduceNe, Int.reduceAdd, Int.reduceSub, Int.reduceMul, Int.reduceNeg, chk_of]
theorem t_awake45 : call ir2 20 [] [] = some (dT true, []) := by
  rw [call_eq (ir := ir2) (fn := ir20) rfl, evF_bnd]
  have hd := t_dones [⟨0, [], [], 1, 3, 0, 0, 200, [], [], [7]⟩] (by decide) (by
    intro d hd
    rw [List.mem_singleton] at hd
    subst hd; decide)
  have e : donesT [⟨0, [], [], 1, 3, 0, 0, 200, [], [], [7]⟩] T0 = ⟨1, 0, 0, 0, 1, 2⟩ := rfl
  rw [e] at hd
  have hd' : call ir2 24 [.d (.list 11 [[.int .i64 0, .str [], .str [], .int .i64 1, .int .i64 3, .int .i64 0, .int .i64 0, .int .i64 200, .str [], .str [], .list 1 [[.int .u8 7]]]])] [] = some (.agg [dI 1, dI 0, dI 0, dI 0, dI 1, dI 2], []) := hd
  simp (maxSteps := 2000000) (disch := omega) only [go_sem, doCall, doCallQ, doCallP, Nat.reduceAdd, Nat.reduceMul, Nat.reduceSub, Nat.reduceDiv, Nat.reduceMod, Nat.reduceLT, Nat.reduceLeDiff, Nat.reduceEqDiff, Nat.reduceBEq, Nat.reduceBNe, Int.reduceToNat, Int.reduceLT, Int.reduceLE, Int.reduceEq, Int.reduceNe, Int.reduceAdd, Int.reduceSub, Int.reduceMul, Int.reduceNeg, bd20, hd', List.length_cons, List.length_nil, Nat.zero_add, beq_self_eq_true, decide_true, chk_of]
end Go.Proofs.YtpibecljdooilaaDoor
namespace Go.Proofs.YtpibecljdooilaaDoor
open Go Go.Ev Go.Proofs.YtpibecljdooilaaDoor.Ir Go.Prs
set_option maxRecDepth 100000
set_option maxHeartbeats 4000000
set_option linter.unusedSimpArgs false
set_option linter.unusedVariables false
def dtl (l : List Dn) (i : Nat) : Int := match l[i]? with | some d => d.to - d.fr | none => 0
def slw (D : Nat → Int) : Nat → Nat → Nat → Nat
  | 0, _, sl => sl
  | k + 1, i, sl => slw D k (i + 1) (if D sl < D i then i else sl)
theorem slw_lt (D : Nat → Int) (n : Nat) : ∀ k i sl, i + k ≤ n → sl < n → slw D k i sl < n
  | 0, _, sl, _, h => h
  | k + 1, i, sl, h, h2 => by
    unfold slw
    exact slw_lt D n k (i + 1) _ (by omega) (by split <;> omega)
theorem dtl_of {l : List Dn} {i : Nat} {d : Dn} (h : l[i]? = some d) : dtl l i = d.to - d.fr := by unfold dtl; rw [h]
theorem t_cmp45 {a b : Dn} (ha : okDn a = true) (hb : okDn b = true) : call ir2 49 [vDn a, vDn b] [] = some (dI ((a.to - a.fr) - (b.to - b.fr)), []) := by
  rw [call_eq (ir := ir2) (fn := ir49) rfl, evF_bnd]
  have h1 := okDn_iff ha
  have h2 := okDn_iff hb
  have w1 : wr .i64 (a.to - a.fr) = a.to - a.fr := wr_id (by omega)
  have w2 : wr .i64 (b.to - b.fr) = b.to - b.fr := wr_id (by omega)
  have w3 : wr .i64 ((a.to - a.fr) - (b.to - b.fr)) = (a.to - a.fr) - (b.to - b.fr) := wr_id (by omega)
  simp (maxSteps := 2000000) (disch := omega) only [go_sem, doCall, doCallQ, doCallP, Nat.reduceAdd, Nat.reduceMul, Nat.reduceSub, Nat.reduceDiv, Nat.reduceMod, Nat.reduceLT, Nat.reduceLeDiff, Nat.reduceEqDiff, Nat.reduceBEq, Nat.reduceBNe, Int.reduceToNat, Int.reduceLT, Int.reduceLE, Int.reduceEq, Int.reduceNe, Int.reduceAdd, Int.reduceSub, Int.reduceMul, Int.reduceNeg, bd49, w1, w2, w3, chk_of]
theorem lp_max (Z : List D) (l : List Dn) (hl : l.length ≤ 100) (hok : ∀ d ∈ l, okDn d = true) (K : Ex → St → Option (AV × Heap)) (i : Nat) (hi : i ≤ l.length) (sl : Nat) (m m' : Dn) (hm : l[sl]? = some m) (hm' : l[slw (dtl l) (l.length - i) i sl]? = some m') :
    (bnd (evC (call ir2) (loop ir2) lp48_0 (st48_0 0 (vDs l) (.clo (.func 49) [] []) (.ptr 0 0) (.ptr 1 0) (dI i) [.dbox Z, .dbox (dnRow m)])) (lpC (call ir2) (loop ir2) [0, 1, 4, 5, 6] lp48_0 K)) =
      K (.exit 0) (clean [4, 5] (st48_0 0 .unk .unk (.ptr 0 0) (.ptr 1 0) .unk [.dbox Z, .dbox (dnRow m')])) := by
  have hlm : (l.map dnRow).length = l.length := List.length_map ..
  by_cases h : i = l.length
  · have hx : ¬ (i : Int) < l.length := by omega
    have e : m' = m := by
      rw [h, Nat.sub_self] at hm'
      unfold slw at hm'
      exact Option.some.inj (hm'.symm.trans hm)
    subst e
    simp (maxSteps := 2000000) (disch := omega) only [go_sem, doCall, doCallQ, doCallP, Nat.reduceAdd, Nat.reduceMul, Nat.reduceSub, Nat.reduceDiv, Nat.reduceMod, Nat.reduceLT, Nat.reduceLeDiff, Nat.reduceEqDiff, Nat.reduceBEq, Nat.reduceBNe, Int.reduceToNat, Int.reduceLT, Int.reduceLE, Int.reduceEq, Int.reduceNe, Int.reduceAdd, Int.reduceSub, Int.reduceMul, Int.reduceNeg, u48_0, lb48_0, hx, hlm]
  · have hlt : (i : Int) < l.length := by omega
    have hi' : i < l.length := by omega
    have hw := wr_succ (i := i) (by omega)
    have hg := getDn l hi'
    have hgi : l[i]? = some l[i] := List.getElem?_eq_getElem hi'
    have di := dtl_of hgi
    have dm := dtl_of hm
    have hki := hok _ (List.getElem_mem hi')
    have hkm := hok m (List.mem_of_getElem? hm)
    have h1 := t_cmp45 hki hkm
    have e : l.length - i = (l.length - (i + 1)) + 1 := by omega
    rw [e] at hm'
    unfold slw at hm'
    generalize hd : l[i] = d at hg hgi di hki h1
    by_cases h2 : dtl l sl < dtl l i
    · rw [if_pos h2] at hm'
      have h2' := eq_true (show (0 : Int) < (d.to - d.fr) - (m.to - m.fr) by omega)
      have ih := lp_max Z l hl hok K (i + 1) (by omega) i d m' hgi hm'
      unfold dnRow at ih ⊢
      simp (maxSteps := 2000000) (disch := omega) only [go_sem, doCall, doCallQ, doCallP, Nat.reduceAdd, Nat.reduceMul, Nat.reduceSub, Nat.reduceDiv, Nat.reduceMod, Nat.reduceLT, Nat.reduceLeDiff, Nat.reduceEqDiff, Nat.reduceBEq, Nat.reduceBNe, Int.reduceToNat, Int.reduceLT, Int.reduceLE, Int.reduceEq, Int.reduceNe, Int.reduceAdd, Int.reduceSub, Int.reduceMul, Int.reduceNeg, u48_0, lb48_0, hlt, hi', hw, hg, hlm, h1, h2', Int.natCast_nonneg, Int.toNat_natCast, Option.getD_some, Option.getD_none, List.drop_zero, Nat.sub_zero, Nat.zero_le, true_and, and_true, Nat.le_refl, chk_of]
      rw [loop_step1]; simp (maxSteps := 2000000) only [go_sem, doCall, doCallQ, doCallP, Nat.reduceAdd, Nat.reduceMul, Nat.reduceSub, Nat.reduceDiv, Nat.reduceMod, Nat.reduceLT, Nat.reduceLeDiff, Nat.reduceEqDiff, Nat.reduceBEq, Nat.reduceBNe, Int.reduceToNat, Int.reduceLT, Int.reduceLE, Int.reduceEq, Int.reduceNe, Int.reduceAdd, Int.reduceSub, Int.reduceMul, Int.reduceNeg]; exact ih
    · rw [if_neg h2] at hm'
      have h2' := eq_false (show ¬ (0 : Int) < (d.to - d.fr) - (m.to - m.fr) by omega)
      have ih := lp_max Z l hl hok K (i + 1) (by omega) sl m m' hm hm'
      unfold dnRow at ih ⊢
      simp (maxSteps := 2000000) (disch := omega) only [go_sem, doCall, doCallQ, doCallP, Nat.reduceAdd, Nat.reduceMul, Nat.reduceSub, Nat.reduceDiv, Nat.reduceMod, Nat.reduceLT, Nat.reduceLeDiff, Nat.reduceEqDiff, Nat.reduceBEq, Nat.reduceBNe, Int.reduceToNat, Int.reduceLT, Int.reduceLE, Int.reduceEq, Int.reduceNe, Int.reduceAdd, Int.reduceSub, Int.reduceMul, Int.reduceNeg, u48_0, lb48_0, hlt, hi', hw, hg, hlm, h1, h2', Int.natCast_nonneg, Int.toNat_natCast, Option.getD_some, Option.getD_none, List.drop_zero, Nat.sub_zero, Nat.zero_le, true_and, and_true, Nat.le_refl, chk_of]
      rw [loop_step1]; simp (maxSteps := 2000000) only [go_sem, doCall, doCallQ, doCallP, Nat.reduceAdd, Nat.reduceMul, Nat.reduceSub, Nat.reduceDiv, Nat.reduceMod, Nat.reduceLT, Nat.reduceLeDiff, Nat.reduceEqDiff, Nat.reduceBEq, Nat.reduceBNe, Int.reduceToNat, Int.reduceLT, Int.reduceLE, Int.reduceEq, Int.reduceNe, Int.reduceAdd, Int.reduceSub, Int.reduceMul, Int.reduceNeg]; exact ih
termination_by l.length - i
theorem slw_first (D : Nat → Int) (n : Nat) (hn : 0 < n) : slw D n 0 0 = slw D (n - 1) 1 0 := by
  obtain ⟨k, rfl⟩ : ∃ k, n = k + 1 := ⟨n - 1, by omega⟩
  conv => lhs; unfold slw
  rw [if_neg (by omega)]; rfl
theorem t_maxf (l : List Dn) (hl : l.length ≤ 100) (hpos : 0 < l.length) (hok : ∀ d ∈ l, okDn d = true) (m' : Dn) (hm' : l[slw (dtl l) l.length 0 0]? = some m') :
    call ir2 48 [vDs l, .clo (.func 49) [] []] [] = some (vDn m', []) := by
  rw [call_eq (ir := ir2) (fn := ir48) rfl, evF_bnd]
  have hlm : (l.map dnRow).length = l.length := List.length_map ..
  have h0 := eq_false (show ¬ (l.length : Int) < 1 by omega)
  have hg := getDn l hpos
  have hgi : l[0]? = some l[0] := List.getElem?_eq_getElem hpos
  rw [slw_first _ _ hpos] at hm'
  generalize hd : l[0] = d at hg hgi
  simp (maxSteps := 2000000) (disch := omega) only [go_sem, doCall, doCallQ, doCallP, Nat.reduceAdd, Nat.reduceMul, Nat.reduceSub, Nat.reduceDiv, Nat.reduceMod, Nat.reduceLT, Nat.reduceLeDiff, Nat.reduceEqDiff, Nat.reduceBEq, Nat.reduceBNe, Int.reduceToNat, Int.reduceLT, Int.reduceLE, Int.reduceEq, Int.reduceNe, Int.reduceAdd, Int.reduceSub, Int.reduceMul, Int.reduceNeg, bd48, hlm, h0, hg, hpos, chk_of]
  rw [loop_step1]; simp (maxSteps := 2000000) only [go_sem, doCall, doCallQ, doCallP, Nat.reduceAdd, Nat.reduceMul, Nat.reduceSub, Nat.reduceDiv, Nat.reduceMod, Nat.reduceLT, Nat.reduceLeDiff, Nat.reduceEqDiff, Nat.reduceBEq, Nat.reduceBNe, Int.reduceToNat, Int.reduceLT, Int.reduceLE, Int.reduceEq, Int.reduceNe, Int.reduceAdd, Int.reduceSub, Int.reduceMul, Int.reduceNeg]
  refine (lp_max _ l hl hok _ 1 hpos 0 d m' hgi hm').trans ?_
  unfold dnRow
  simp (maxSteps := 2000000) (disch := omega) only [go_sem, doCall, doCallQ, doCallP, Nat.reduceAdd, Nat.reduceMul, Nat.reduceSub, Nat.reduceDiv, Nat.reduceMod, Nat.reduceLT, Nat.reduceLeDiff, Nat.reduceEqDiff, Nat.reduceBEq, Nat.reduceBNe, Int.reduceToNat, Int.reduceLT, Int.reduceLE, Int.reduceEq, Int.reduceNe, Int.reduceAdd, Int.reduceSub, Int.reduceMul, Int.reduceNeg, chk_of]
theorem t_slowest (l : List Dn) (hl : l.length ≤ 100) (hpos : 0 < l.length) (hok : ∀ d ∈ l, okDn d = true) (m' : Dn) (hm' : l[slw (dtl l) l.length 0 0]? = some m') :
    call ir2 23 [vDs l] [] = some (.tup [vDn m', dT true], []) := by
  rw [call_eq (ir := ir2) (fn := ir23) rfl, evF_bnd]
  have hlm : (l.map dnRow).length = l.length := List.length_map ..
  have h0 := eq_false (show ¬ (l.length : Int) = 0 by omega)
  have h1 := t_maxf l hl hpos hok m' hm'
  have hk := okDn_iff (hok m' (List.mem_of_getElem? hm'))
  have h2 := call_ext ext2 (t_bclone m'.bd (by omega))
  simp (maxSteps := 2000000) (disch := omega) only [go_sem, doCall, doCallQ, doCallP, Nat.reduceAdd, Nat.reduceMul, Nat.reduceSub, Nat.reduceDiv, Nat.reduceMod, Nat.reduceLT, Nat.reduceLeDiff, Nat.reduceEqDiff, Nat.reduceBEq, Nat.reduceBNe, Int.reduceToNat, Int.reduceLT, Int.reduceLE, Int.reduceEq, Int.reduceNe, Int.reduceAdd, Int.reduceSub, Int.reduceMul, Int.reduceNeg, bd23, hlm, h0, show ((l.length : Int) == 0) = false from by rw [beq_eq_false_iff_ne]; omega, h1, h2, chk_of]
theorem t_slowest0 : ∃ X : List AV, X.length = 11 ∧ call ir2 23 [vDs []] [] = some (.tup [.agg [dI 0, dS [], dS [], dI 0, dI 0, dI 0, dI 0, dI 0, dS [], dS [], lB []], dT false], []) := by
  refine ⟨List.replicate 11 .unk, rfl, ?_⟩
  rw [call_eq (ir := ir2) (fn := ir23) rfl, evF_bnd]
  simp (maxSteps := 2000000) (disch := omega) only [go_sem, doCall, doCallQ, doCallP, Nat.reduceAdd, Nat.reduceMul, Nat.reduceSub, Nat.reduceDiv, Nat.reduceMod, Nat.reduceLT, Nat.reduceLeDiff, Nat.reduceEqDiff, Nat.reduceBEq, Nat.reduceBNe, Int.reduceToNat, Int.reduceLT, Int.reduceLE, Int.reduceEq, Int.reduceNe, Int.reduceAdd, Int.reduceSub, Int.reduceMul, Int.reduceNeg, bd23, List.map_nil, List.length_nil, beq_self_eq_true, chk_of]
  rfl
theorem lp_in45 (l k : List Dn) (B : List D) (a b c e g : Int) (ps : List PartD) (hl : ps.length ≤ 1000000) (sl i : Nat) (K : Ex → St → Option (AV × Heap)) (j : Nat) (hj : j ≤ ps.length) (y : Nat) (hy : y + sumB (ps.drop j) ≤ 1000000) :
    (bnd (evC (call ir2) (loop ir2) lp6_1 (st6_1 0 (vDs l) (vDs k) (.ptr 0 0) (dI sl) (dI i) (.ptr 1 0) (vDs l) (dI l.length) (dI i) (vL ps) (dI ps.length) (dI j) [.dbox [.int .i64 a, .int .i64 b, .int .i64 c, .int .i64 e, .int .i64 y, .int .i64 g], .dbox B])) (lpC (call ir2) (loop ir2) [0, 1, 5, 6, 7, 8, 27, 28, 29, 66, 67, 68] lp6_1 K)) =
      K (.exit 3) (clean [0, 1, 5, 6, 7, 8, 27, 28, 29] (st6_1 0 (vDs l) (vDs k) (.ptr 0 0) (dI sl) (dI i) (.ptr 1 0) (vDs l) (dI l.length) (dI i) .unk .unk .unk [.dbox [.int .i64 a, .int .i64 b, .int .i64 c, .int .i64 e, .int .i64 ((y + sumB (ps.drop j) : Nat) : Int), .int .i64 g], .dbox B])) := by
  by_cases h : j = ps.length
  · have hx : ¬ (j : Int) < ps.length := by omega
    rw [h] at hx
    rw [h, List.drop_length]
    have h0 : sumB ([] : List PartD) = 0 := rfl
    rw [h0, Nat.add_zero]
    simp (maxSteps := 2000000) (disch := omega) only [go_sem, doCall, doCallQ, doCallP, Nat.reduceAdd, Nat.reduceMul, Nat.reduceSub, Nat.reduceDiv, Nat.reduceMod, Nat.reduceLT, Nat.reduceLeDiff, Nat.reduceEqDiff, Nat.reduceBEq, Nat.reduceBNe, Int.reduceToNat, Int.reduceLT, Int.reduceLE, Int.reduceEq, Int.reduceNe, Int.reduceAdd, Int.reduceSub, Int.reduceMul, Int.reduceNeg, u6_1, lb6_1, hx]
  · have hlt : (j : Int) < ps.length := by omega
    have hj' : j < ps.length := by omega
    have hw := wr_succ (i := j) (by omega)
    have hg := getP ps hj'
    have hlm : (ps.map partRow).length = ps.length := List.length_map ..
    rw [sumB_drop hj'] at hy ⊢
    have hw2 : wr .i64 ((y : Int) + (ps[j].2.2.length : Int)) = ((y + ps[j].2.2.length : Nat) : Int) := by rw [wr_id (by omega)]; omega
    have ih := lp_in45 l k B a b c e g ps hl sl i K (j + 1) (by omega) (y + ps[j].2.2.length) (by omega)
    rw [Nat.add_assoc] at ih
    simp (maxSteps := 2000000) (disch := omega) only [go_sem, doCall, doCallQ, doCallP, Nat.reduceAdd, Nat.reduceMul, Nat.reduceSub, Nat.reduceDiv, Nat.reduceMod, Nat.reduceLT, Nat.reduceLeDiff, Nat.reduceEqDiff, Nat.reduceBEq, Nat.reduceBNe, Int.reduceToNat, Int.reduceLT, Int.reduceLE, Int.reduceEq, Int.reduceNe, Int.reduceAdd, Int.reduceSub, Int.reduceMul, Int.reduceNeg, u6_1, lb6_1, hlt, hj', hw, hg, hlm, hw2, rB_len, Int.natCast_nonneg, Int.toNat_natCast, Option.getD_some, Option.getD_none, List.drop_zero, Nat.sub_zero, Nat.zero_le, true_and, and_true, Nat.le_refl, chk_of]
    rw [loop_step1]; simp (maxSteps := 2000000) only [go_sem, doCall, doCallQ, doCallP, Nat.reduceAdd, Nat.reduceMul, Nat.reduceSub, Nat.reduceDiv, Nat.reduceMod, Nat.reduceLT, Nat.reduceLeDiff, Nat.reduceEqDiff, Nat.reduceBEq, Nat.reduceBNe, Int.reduceToNat, Int.reduceLT, Int.reduceLE, Int.reduceEq, Int.reduceNe, Int.reduceAdd, Int.reduceSub, Int.reduceMul, Int.reduceNeg]; exact ih
termination_by ps.length - j
theorem lp_law45 (l k : List Dn) (hl : l.length ≤ 20) (hok : ∀ d ∈ l, okDn d = true) (K : Ex → St → Option (AV × Heap)) (i : Nat) (hi : i ≤ l.length) (sl : Nat) (hsl : sl < l.length ∨ (sl = 0 ∧ l = [])) (t : Ta) (ht : Bd i t) :
    (bnd (evC (call ir2) (loop ir2) lp6_0 (st6_0 0 (vDs l) (vDs k) (.ptr 0 0) (dI sl) (vDs l) (dI l.length) (dI i) [.dbox (taR t)])) (lpC (call ir2) (loop ir2) [0, 1, 5, 6, 27, 28, 29] lp6_0 K)) =
      K (.exit 0) (clean [0, 1, 5, 6] (st6_0 0 (vDs l) (vDs k) (.ptr 0 0) (dI (slw (dtl l) (l.length - i) i sl : Nat)) .unk .unk .unk [.dbox (taR (donesT (l.drop i) t))])) := by
  by_cases h : i = l.length
  · have hx : ¬ (i : Int) < l.length := by omega
    rw [h] at hx
    rw [h, List.drop_length, Nat.sub_self]
    have e : donesT [] t = t := rfl
    rw [e]
    unfold slw
    simp (maxSteps := 2000000) (disch := omega) only [go_sem, doCall, doCallQ, doCallP, Nat.reduceAdd, Nat.reduceMul, Nat.reduceSub, Nat.reduceDiv, Nat.reduceMod, Nat.reduceLT, Nat.reduceLeDiff, Nat.reduceEqDiff, Nat.reduceBEq, Nat.reduceBNe, Int.reduceToNat, Int.reduceLT, Int.reduceLE, Int.reduceEq, Int.reduceNe, Int.reduceAdd, Int.reduceSub, Int.reduceMul, Int.reduceNeg, u6_0, lb6_0, hx]
  · have hlt : (i : Int) < l.length := by omega
    have hi' : i < l.length := by omega
    have hsl : sl < l.length := by rcases hsl with h | ⟨_, h⟩; exact h; subst h; simp at hi'
    have hw := wr_succ (i := i) (by omega)
    have hg := getDn l hi'
    have hgs := getDn l hsl
    have hlm : (l.map dnRow).length = l.length := List.length_map ..
    have hk := hok _ (List.getElem_mem hi')
    have hks := hok _ (List.getElem_mem hsl)
    have b1 := bd_one hk
    have di := dtl_of (List.getElem?_eq_getElem hi')
    have ds := dtl_of (List.getElem?_eq_getElem hsl)
    have e : donesT (l.drop i) t = donesT (l.drop (i + 1)) (addT t (oneT l[i])) := by
      rw [List.drop_eq_getElem_cons hi']; rfl
    have e2 : l.length - i = (l.length - (i + 1)) + 1 := by omega
    rw [e, e2]
    have es : slw (dtl l) (l.length - (i + 1) + 1) i sl = slw (dtl l) (l.length - (i + 1)) (i + 1) (if dtl l sl < dtl l i then i else sl) := rfl
    rw [es]
    have ih := lp_law45 l k hl hok K (i + 1) (by omega) (if dtl l sl < dtl l i then i else sl) (.inl (by split <;> omega)) (addT t (oneT l[i])) (bd_add ht b1)
    rw [di, ds] at ih ⊢
    generalize l[i] = d at hg hk b1 di ih ⊢
    generalize l[sl] = m at hgs hks ds ih ⊢
    generalize hR : K (.exit 0) (clean [0, 1, 5, 6] (st6_0 0 (vDs l) (vDs k) (.ptr 0 0) (dI (slw (dtl l) (l.length - (i + 1)) (i + 1) (if m.to - m.fr < d.to - d.fr then i else sl) : Nat)) .unk .unk .unk [.dbox (taR (donesT (l.drop (i + 1)) (addT t (oneT d))))])) = R at ih ⊢
    have ho := okDn_iff hk
    have hos := okDn_iff hks
    have hsum := apR_sum d.st d.rn d.bd
    have hlen := apR_len d.st d.rn d.bd
    obtain ⟨v, H, hc, hr⟩ := t_aparts d.st d.tg d.rn d.bd (by omega) (by omega)
    have hsc := hr.sc
    have hvw := hr.vw
    have w1 : wr .i64 (d.to - d.fr) = d.to - d.fr := wr_id (by omega)
    have w2 : wr .i64 (m.to - m.fr) = m.to - m.fr := wr_id (by omega)
    have hlp : ((apR d.st d.rn d.bd).1.map partRow).length = (apR d.st d.rn d.bd).1.length := List.length_map ..
    obtain ⟨a1, a2, a3, a4, a5, a6⟩ := ht
    have v1 : wr .i64 (t.w + 1) = t.w + 1 := wr_id (by omega)
    have v2 : wr .i64 (t.p + 1) = t.p + 1 := wr_id (by omega)
    have v3 : wr .i64 (t.b + 1) = t.b + 1 := wr_id (by omega)
    have v4 : wr .i64 (t.f + 1) = t.f + 1 := wr_id (by omega)
    have eY : (addT t (oneT d)).y = t.y + ((sumB (apR d.st d.rn d.bd).1 : Nat) : Int) := rfl
    have eG : (addT t (oneT d)).g = max t.g (max (d.to - d.fr) 0) := rfl
    have eW : (addT t (oneT d)).w = t.w + kW d.st := rfl
    have eP : (addT t (oneT d)).p = t.p + kP d.st := rfl
    have eB : (addT t (oneT d)).b = t.b + kB d.st := rfl
    have eF : (addT t (oneT d)).f = t.f + kF d.st := rfl
    obtain ⟨ty, hty⟩ : ∃ y : Nat, t.y = y := ⟨t.y.toNat, by omega⟩
    rw [hty] at eY a5
    have eY2 : (addT t (oneT d)).y = ((ty + sumB (apR d.st d.rn d.bd).1 : Nat) : Int) := by rw [eY]; omega
    simp only [taR, eY2, eG, eW, eP, eB, eF] at ih
    simp only [taR]
    rw [hty]
    unfold kW kP kB kF at ih
    by_cases h1 : d.st = 200
    · have n2 : ¬ d.st = 206 := by omega
      have n3 : ¬ d.st = 416 := by omega
      rw [if_pos h1, if_neg n2, if_neg n3, show (if d.st = 200 ∨ d.st = 206 ∨ d.st = 416 then (0 : Int) else 1) = 0 from if_pos (.inl h1), Int.add_zero, Int.add_zero, Int.add_zero] at ih
      simp (maxSteps := 2000000) (disch := omega) only [go_sem, doCall, doCallQ, doCallP, Nat.reduceAdd, Nat.reduceMul, Nat.reduceSub, Nat.reduceDiv, Nat.reduceMod, Nat.reduceLT, Nat.reduceLeDiff, Nat.reduceEqDiff, Nat.reduceBEq, Nat.reduceBNe, Int.reduceToNat, Int.reduceLT, Int.reduceLE, Int.reduceEq, Int.reduceNe, Int.reduceAdd, Int.reduceSub, Int.reduceMul, Int.reduceNeg, u6_0, lb6_0, hlt, hi', hw, hg, hlm, hc, hsc, hvw, hlp, w1, v1, v2, v3, v4, eq_true h1, show (d.st == 200) = true by simp [h1], rB_len, Int.natCast_nonneg, Int.toNat_natCast, Option.getD_some, Option.getD_none, List.drop_zero, Nat.sub_zero, Nat.zero_le, true_and, and_true, Nat.le_refl, chk_of]
      rw [loop_step1]; simp (maxSteps := 2000000) only [go_sem, doCall, doCallQ, doCallP, Nat.reduceAdd, Nat.reduceMul, Nat.reduceSub, Nat.reduceDiv, Nat.reduceMod, Nat.reduceLT, Nat.reduceLeDiff, Nat.reduceEqDiff, Nat.reduceBEq, Nat.reduceBNe, Int.reduceToNat, Int.reduceLT, Int.reduceLE, Int.reduceEq, Int.reduceNe, Int.reduceAdd, Int.reduceSub, Int.reduceMul, Int.reduceNeg]
      refine (lp_in45 l k _ (t.w + 1) t.p t.b t.f _ (apR d.st d.rn d.bd).1 (by omega) sl i _ 0 (Nat.zero_le _) ty (by rw [List.drop_zero]; omega)).trans ?_
      rw [List.drop_zero]
      by_cases g1 : t.g < d.to - d.fr
      · rw [show max t.g (max (d.to - d.fr) 0) = d.to - d.fr by omega] at ih
        by_cases g2 : m.to - m.fr < d.to - d.fr
        · rw [if_pos g2] at ih
          simp (maxSteps := 2000000) (disch := omega) only [go_sem, doCall, doCallQ, doCallP, Nat.reduceAdd, Nat.reduceMul, Nat.reduceSub, Nat.reduceDiv, Nat.reduceMod, Nat.reduceLT, Nat.reduceLeDiff, Nat.reduceEqDiff, Nat.reduceBEq, Nat.reduceBNe, Int.reduceToNat, Int.reduceLT, Int.reduceLE, Int.reduceEq, Int.reduceNe, Int.reduceAdd, Int.reduceSub, Int.reduceMul, Int.reduceNeg, hw, hg, hgs, hlm, w1, w2, eq_true g1, eq_true g2, hsl, hi', Int.natCast_nonneg, Int.toNat_natCast, Option.getD_some, Option.getD_none, List.drop_zero, Nat.sub_zero, Nat.zero_le, true_and, and_true, Nat.le_refl, chk_of]
          rw [loop_step1]; simp (maxSteps := 2000000) only [go_sem, doCall, doCallQ, doCallP, Nat.reduceAdd, Nat.reduceMul, Nat.reduceSub, Nat.reduceDiv, Nat.reduceMod, Nat.reduceLT, Nat.reduceLeDiff, Nat.reduceEqDiff, Nat.reduceBEq, Nat.reduceBNe, Int.reduceToNat, Int.reduceLT, Int.reduceLE, Int.reduceEq, Int.reduceNe, Int.reduceAdd, Int.reduceSub, Int.reduceMul, Int.reduceNeg]; exact ih
        · rw [if_neg g2] at ih
          simp (maxSteps := 2000000) (disch := omega) only [go_sem, doCall, doCallQ, doCallP, Nat.reduceAdd, Nat.reduceMul, Nat.reduceSub, Nat.reduceDiv, Nat.reduceMod, Nat.reduceLT, Nat.reduceLeDiff, Nat.reduceEqDiff, Nat.reduceBEq, Nat.reduceBNe, Int.reduceToNat, Int.reduceLT, Int.reduceLE, Int.reduceEq, Int.reduceNe, Int.reduceAdd, Int.reduceSub, Int.reduceMul, Int.reduceNeg, hw, hg, hgs, hlm, w1, w2, eq_true g1, eq_false g2, hsl, hi', Int.natCast_nonneg, Int.toNat_natCast, Option.getD_some, Option.getD_none, List.drop_zero, Nat.sub_zero, Nat.zero_le, true_and, and_true, Nat.le_refl, chk_of]
          rw [loop_step1]; simp (maxSteps := 2000000) only [go_sem, doCall, doCallQ, doCallP, Nat.reduceAdd, Nat.reduceMul, Nat.reduceSub, Nat.reduceDiv, Nat.reduceMod, Nat.reduceLT, Nat.reduceLeDiff, Nat.reduceEqDiff, Nat.reduceBEq, Nat.reduceBNe, Int.reduceToNat, Int.reduceLT, Int.reduceLE, Int.reduceEq, Int.reduceNe, Int.reduceAdd, Int.reduceSub, Int.reduceMul, Int.reduceNeg]; exact ih
      · rw [show max t.g (max (d.to - d.fr) 0) = t.g by omega] at ih
        by_cases g2 : m.to - m.fr < d.to - d.fr
        · rw [if_pos g2] at ih
          simp (maxSteps := 2000000) (disch := omega) only [go_sem, doCall, doCallQ, doCallP, Nat.reduceAdd, Nat.reduceMul, Nat.reduceSub, Nat.reduceDiv, Nat.reduceMod, Nat.reduceLT, Nat.reduceLeDiff, Nat.reduceEqDiff, Nat.reduceBEq, Nat.reduceBNe, Int.reduceToNat, Int.reduceLT, Int.reduceLE, Int.reduceEq, Int.reduceNe, Int.reduceAdd, Int.reduceSub, Int.reduceMul, Int.reduceNeg, hw, hg, hgs, hlm, w1, w2, eq_false g1, eq_true g2, hsl, hi', Int.natCast_nonneg, Int.toNat_natCast, Option.getD_some, Option.getD_none, List.drop_zero, Nat.sub_zero, Nat.zero_le, true_and, and_true, Nat.le_refl, chk_of]
          rw [loop_step1]; simp (maxSteps := 2000000) only [go_sem, doCall, doCallQ, doCallP, Nat.reduceAdd, Nat.reduceMul, Nat.reduceSub, Nat.reduceDiv, Nat.reduceMod, Nat.reduceLT, Nat.reduceLeDiff, Nat.reduceEqDiff, Nat.reduceBEq, Nat.reduceBNe, Int.reduceToNat, Int.reduceLT, Int.reduceLE, Int.reduceEq, Int.reduceNe, Int.reduceAdd, Int.reduceSub, Int.reduceMul, Int.reduceNeg]; exact ih
        · rw [if_neg g2] at ih
          simp (maxSteps := 2000000) (disch := omega) only [go_sem, doCall, doCallQ, doCallP, Nat.reduceAdd, Nat.reduceMul, Nat.reduceSub, Nat.reduceDiv, Nat.reduceMod, Nat.reduceLT, Nat.reduceLeDiff, Nat.reduceEqDiff, Nat.reduceBEq, Nat.reduceBNe, Int.reduceToNat, Int.reduceLT, Int.reduceLE, Int.reduceEq, Int.reduceNe, Int.reduceAdd, Int.reduceSub, Int.reduceMul, Int.reduceNeg, hw, hg, hgs, hlm, w1, w2, eq_false g1, eq_false g2, hsl, hi', Int.natCast_nonneg, Int.toNat_natCast, Option.getD_some, Option.getD_none, List.drop_zero, Nat.sub_zero, Nat.zero_le, true_and, and_true, Nat.le_refl, chk_of]
          rw [loop_step1]; simp (maxSteps := 2000000) only [go_sem, doCall, doCallQ, doCallP, Nat.reduceAdd, Nat.reduceMul, Nat.reduceSub, Nat.reduceDiv, Nat.reduceMod, Nat.reduceLT, Nat.reduceLeDiff, Nat.reduceEqDiff, Nat.reduceBEq, Nat.reduceBNe, Int.reduceToNat, Int.reduceLT, Int.reduceLE, Int.reduceEq, Int.reduceNe, Int.reduceAdd, Int.reduceSub, Int.reduceMul, Int.reduceNeg]; exact ih
    · by_cases h2 : d.st = 206
      · have n3 : ¬ d.st = 416 := by omega
        rw [if_neg h1, if_pos h2, if_neg n3, show (if d.st = 200 ∨ d.st = 206 ∨ d.st = 416 then (0 : Int) else 1) = 0 from if_pos (.inr (.inl h2)), Int.add_zero, Int.add_zero, Int.add_zero] at ih
        simp (maxSteps := 2000000) (disch := omega) only [go_sem, doCall, doCallQ, doCallP, Nat.reduceAdd, Nat.reduceMul, Nat.reduceSub, Nat.reduceDiv, Nat.reduceMod, Nat.reduceLT, Nat.reduceLeDiff, Nat.reduceEqDiff, Nat.reduceBEq, Nat.reduceBNe, Int.reduceToNat, Int.reduceLT, Int.reduceLE, Int.reduceEq, Int.reduceNe, Int.reduceAdd, Int.reduceSub, Int.reduceMul, Int.reduceNeg, u6_0, lb6_0, hlt, hi', hw, hg, hlm, hc, hsc, hvw, hlp, w1, v1, v2, v3, v4, eq_false h1, eq_true h2, show (d.st == 200) = false by simp [h1], show (d.st == 206) = true by simp [h2], rB_len, Int.natCast_nonneg, Int.toNat_natCast, Option.getD_some, Option.getD_none, List.drop_zero, Nat.sub_zero, Nat.zero_le, true_and, and_true, Nat.le_refl, chk_of]
        rw [loop_step1]; simp (maxSteps := 2000000) only [go_sem, doCall, doCallQ, doCallP, Nat.reduceAdd, Nat.reduceMul, Nat.reduceSub, Nat.reduceDiv, Nat.reduceMod, Nat.reduceLT, Nat.reduceLeDiff, Nat.reduceEqDiff, Nat.reduceBEq, Nat.reduceBNe, Int.reduceToNat, Int.reduceLT, Int.reduceLE, Int.reduceEq, Int.reduceNe, Int.reduceAdd, Int.reduceSub, Int.reduceMul, Int.reduceNeg]
        refine (lp_in45 l k _ t.w (t.p + 1) t.b t.f _ (apR d.st d.rn d.bd).1 (by omega) sl i _ 0 (Nat.zero_le _) ty (by rw [List.drop_zero]; omega)).trans ?_
        rw [List.drop_zero]
        by_cases g1 : t.g < d.to - d.fr
        · rw [show max t.g (max (d.to - d.fr) 0) = d.to - d.fr by omega] at ih
          by_cases g2 : m.to - m.fr < d.to - d.fr
          · rw [if_pos g2] at ih
            simp (maxSteps := 2000000) (disch := omega) only [go_sem, doCall, doCallQ, doCallP, Nat.reduceAdd, Nat.reduceMul, Nat.reduceSub, Nat.reduceDiv, Nat.reduceMod, Nat.reduceLT, Nat.reduceLeDiff, Nat.reduceEqDiff, Nat.reduceBEq, Nat.reduceBNe, Int.reduceToNat, Int.reduceLT, Int.reduceLE, Int.reduceEq, Int.reduceNe, Int.reduceAdd, Int.reduceSub, Int.reduceMul, Int.reduceNeg, hw, hg, hgs, hlm, w1, w2, eq_true g1, eq_true g2, hsl, hi', Int.natCast_nonneg, Int.toNat_natCast, Option.getD_some, Option.getD_none, List.drop_zero, Nat.sub_zero, Nat.zero_le, true_and, and_true, Nat.le_refl, chk_of]
            rw [loop_step1]; simp (maxSteps := 2000000) only [go_sem, doCall, doCallQ, doCallP, Nat.reduceAdd, Nat.reduceMul, Nat.reduceSub, Nat.reduceDiv, Nat.reduceMod, Nat.reduceLT, Nat.reduceLeDiff, Nat.reduceEqDiff, Nat.reduceBEq, Nat.reduceBNe, Int.reduceToNat, Int.reduceLT, Int.reduceLE, Int.reduceEq, Int.reduceNe, Int.reduceAdd, Int.reduceSub, Int.reduceMul, Int.reduceNeg]; exact ih
          · rw [if_neg g2] at ih
            simp (maxSteps := 2000000) (disch := omega) only [go_sem, doCall, doCallQ, doCallP, Nat.reduceAdd, Nat.reduceMul, Nat.reduceSub, Nat.reduceDiv, Nat.reduceMod, Nat.reduceLT, Nat.reduceLeDiff, Nat.reduceEqDiff, Nat.reduceBEq, Nat.reduceBNe, Int.reduceToNat, Int.reduceLT, Int.reduceLE, Int.reduceEq, Int.reduceNe, Int.reduceAdd, Int.reduceSub, Int.reduceMul, Int.reduceNeg, hw, hg, hgs, hlm, w1, w2, eq_true g1, eq_false g2, hsl, hi', Int.natCast_nonneg, Int.toNat_natCast, Option.getD_some, Option.getD_none, List.drop_zero, Nat.sub_zero, Nat.zero_le, true_and, and_true, Nat.le_refl, chk_of]
            rw [loop_step1]; simp (maxSteps := 2000000) only [go_sem, doCall, doCallQ, doCallP, Nat.reduceAdd, Nat.reduceMul, Nat.reduceSub, Nat.reduceDiv, Nat.reduceMod, Nat.reduceLT, Nat.reduceLeDiff, Nat.reduceEqDiff, Nat.reduceBEq, Nat.reduceBNe, Int.reduceToNat, Int.reduceLT, Int.reduceLE, Int.reduceEq, Int.reduceNe, Int.reduceAdd, Int.reduceSub, Int.reduceMul, Int.reduceNeg]; exact ih
        · rw [show max t.g (max (d.to - d.fr) 0) = t.g by omega] at ih
          by_cases g2 : m.to - m.fr < d.to - d.fr
          · rw [if_pos g2] at ih
            simp (maxSteps := 2000000) (disch := omega) only [go_sem, doCall, doCallQ, doCallP, Nat.reduceAdd, Nat.reduceMul, Nat.reduceSub, Nat.reduceDiv, Nat.reduceMod, Nat.reduceLT, Nat.reduceLeDiff, Nat.reduceEqDiff, Nat.reduceBEq, Nat.reduceBNe, Int.reduceToNat, Int.reduceLT, Int.reduceLE, Int.reduceEq, Int.reduceNe, Int.reduceAdd, Int.reduceSub, Int.reduceMul, Int.reduceNeg, hw, hg, hgs, hlm, w1, w2, eq_false g1, eq_true g2, hsl, hi', Int.natCast_nonneg, Int.toNat_natCast, Option.getD_some, Option.getD_none, List.drop_zero, Nat.sub_zero, Nat.zero_le, true_and, and_true, Nat.le_refl, chk_of]
            rw [loop_step1]; simp (maxSteps := 2000000) only [go_sem, doCall, doCallQ, doCallP, Nat.reduceAdd, Nat.reduceMul, Nat.reduceSub, Nat.reduceDiv, Nat.reduceMod, Nat.reduceLT, Nat.reduceLeDiff, Nat.reduceEqDiff, Nat.reduceBEq, Nat.reduceBNe, Int.reduceToNat, Int.reduceLT, Int.reduceLE, Int.reduceEq, Int.reduceNe, Int.reduceAdd, Int.reduceSub, Int.reduceMul, Int.reduceNeg]; exact ih
          · rw [if_neg g2] at ih
            simp (maxSteps := 2000000) (disch := omega) only [go_sem, doCall, doCallQ, doCallP, Nat.reduceAdd, Nat.reduceMul, Nat.reduceSub, Nat.reduceDiv, Nat.reduceMod, Nat.reduceLT, Nat.reduceLeDiff, Nat.reduceEqDiff, Nat.reduceBEq, Nat.reduceBNe, Int.reduceToNat, Int.reduceLT, Int.reduceLE, Int.reduceEq, Int.reduceNe, Int.reduceAdd, Int.reduceSub, Int.reduceMul, Int.reduceNeg, hw, hg, hgs, hlm, w1, w2, eq_false g1, eq_false g2, hsl, hi', Int.natCast_nonneg, Int.toNat_natCast, Option.getD_some, Option.getD_none, List.drop_zero, Nat.sub_zero, Nat.zero_le, true_and, and_true, Nat.le_refl, chk_of]
            rw [loop_step1]; simp (maxSteps := 2000000) only [go_sem, doCall, doCallQ, doCallP, Nat.reduceAdd, Nat.reduceMul, Nat.reduceSub, Nat.reduceDiv, Nat.reduceMod, Nat.reduceLT, Nat.reduceLeDiff, Nat.reduceEqDiff, Nat.reduceBEq, Nat.reduceBNe, Int.reduceToNat, Int.reduceLT, Int.reduceLE, Int.reduceEq, Int.reduceNe, Int.reduceAdd, Int.reduceSub, Int.reduceMul, Int.reduceNeg]; exact ih
      · by_cases h3 : d.st = 416
        · skip
          rw [if_neg h1, if_neg h2, if_pos h3, show (if d.st = 200 ∨ d.st = 206 ∨ d.st = 416 then (0 : Int) else 1) = 0 from if_pos (.inr (.inr h3)), Int.add_zero, Int.add_zero, Int.add_zero] at ih
          simp (maxSteps := 2000000) (disch := omega) only [go_sem, doCall, doCallQ, doCallP, Nat.reduceAdd, Nat.reduceMul, Nat.reduceSub, Nat.reduceDiv, Nat.reduceMod, Nat.reduceLT, Nat.reduceLeDiff, Nat.reduceEqDiff, Nat.reduceBEq, Nat.reduceBNe, Int.reduceToNat, Int.reduceLT, Int.reduceLE, Int.reduceEq, Int.reduceNe, Int.reduceAdd, Int.reduceSub, Int.reduceMul, Int.reduceNeg, u6_0, lb6_0, hlt, hi', hw, hg, hlm, hc, hsc, hvw, hlp, w1, v1, v2, v3, v4, eq_false h1, eq_false h2, eq_true h3, show (d.st == 200) = false by simp [h1], show (d.st == 206) = false by simp [h2], show (d.st == 416) = true by simp [h3], rB_len, Int.natCast_nonneg, Int.toNat_natCast, Option.getD_some, Option.getD_none, List.drop_zero, Nat.sub_zero, Nat.zero_le, true_and, and_true, Nat.le_refl, chk_of]
          rw [loop_step1]; simp (maxSteps := 2000000) only [go_sem, doCall, doCallQ, doCallP, Nat.reduceAdd, Nat.reduceMul, Nat.reduceSub, Nat.reduceDiv, Nat.reduceMod, Nat.reduceLT, Nat.reduceLeDiff, Nat.reduceEqDiff, Nat.reduceBEq, Nat.reduceBNe, Int.reduceToNat, Int.reduceLT, Int.reduceLE, Int.reduceEq, Int.reduceNe, Int.reduceAdd, Int.reduceSub, Int.reduceMul, Int.reduceNeg]
          refine (lp_in45 l k _ t.w t.p (t.b + 1) t.f _ (apR d.st d.rn d.bd).1 (by omega) sl i _ 0 (Nat.zero_le _) ty (by rw [List.drop_zero]; omega)).trans ?_
          rw [List.drop_zero]
          by_cases g1 : t.g < d.to - d.fr
          · rw [show max t.g (max (d.to - d.fr) 0) = d.to - d.fr by omega] at ih
            by_cases g2 : m.to - m.fr < d.to - d.fr
            · rw [if_pos g2] at ih
              simp (maxSteps := 2000000) (disch := omega) only [go_sem, doCall, doCallQ, doCallP, Nat.reduceAdd, Nat.reduceMul, Nat.reduceSub, Nat.reduceDiv, Nat.reduceMod, Nat.reduceLT, Nat.reduceLeDiff, Nat.reduceEqDiff, Nat.reduceBEq, Nat.reduceBNe, Int.reduceToNat, Int.reduceLT, Int.reduceLE, Int.reduceEq, Int.reduceNe, Int.reduceAdd, Int.reduceSub, Int.reduceMul, Int.reduceNeg, hw, hg, hgs, hlm, w1, w2, eq_true g1, eq_true g2, hsl, hi', Int.natCast_nonneg, Int.toNat_natCast, Option.getD_some, Option.getD_none, List.drop_zero, Nat.sub_zero, Nat.zero_le, true_and, and_true, Nat.le_refl, chk_of]
              rw [loop_step1]; simp (maxSteps := 2000000) only [go_sem, doCall, doCallQ, doCallP, Nat.reduceAdd, Nat.reduceMul, Nat.reduceSub, Nat.reduceDiv, Nat.reduceMod, Nat.reduceLT, Nat.reduceLeDiff, Nat.reduceEqDiff, Nat.reduceBEq, Nat.reduceBNe, Int.reduceToNat, Int.reduceLT, Int.reduceLE, Int.reduceEq, Int.reduceNe, Int.reduceAdd, Int.reduceSub, Int.reduceMul, Int.reduceNeg]; exact ih
            · rw [if_neg g2] at ih
              simp (maxSteps := 2000000) (disch := omega) only [go_sem, doCall, doCallQ, doCallP, Nat.reduceAdd, Nat.reduceMul, Nat.reduceSub, Nat.reduceDiv, Nat.reduceMod, Nat.reduceLT, Nat.reduceLeDiff, Nat.reduceEqDiff, Nat.reduceBEq, Nat.reduceBNe, Int.reduceToNat, Int.reduceLT, Int.reduceLE, Int.reduceEq, Int.reduceNe, Int.reduceAdd, Int.reduceSub, Int.reduceMul, Int.reduceNeg, hw, hg, hgs, hlm, w1, w2, eq_true g1, eq_false g2, hsl, hi', Int.natCast_nonneg, Int.toNat_natCast, Option.getD_some, Option.getD_none, List.drop_zero, Nat.sub_zero, Nat.zero_le, true_and, and_true, Nat.le_refl, chk_of]
              rw [loop_step1]; simp (maxSteps := 2000000) only [go_sem, doCall, doCallQ, doCallP, Nat.reduceAdd, Nat.reduceMul, Nat.reduceSub, Nat.reduceDiv, Nat.reduceMod, Nat.reduceLT, Nat.reduceLeDiff, Nat.reduceEqDiff, Nat.reduceBEq, Nat.reduceBNe, Int.reduceToNat, Int.reduceLT, Int.reduceLE, Int.reduceEq, Int.reduceNe, Int.reduceAdd, Int.reduceSub, Int.reduceMul, Int.reduceNeg]; exact ih
          · rw [show max t.g (max (d.to - d.fr) 0) = t.g by omega] at ih
            by_cases g2 : m.to - m.fr < d.to - d.fr
            · rw [if_pos g2] at ih
              simp (maxSteps := 2000000) (disch := omega) only [go_sem, doCall, doCallQ, doCallP, Nat.reduceAdd, Nat.reduceMul, Nat.reduceSub, Nat.reduceDiv, Nat.reduceMod, Nat.reduceLT, Nat.reduceLeDiff, Nat.reduceEqDiff, Nat.reduceBEq, Nat.reduceBNe, Int.reduceToNat, Int.reduceLT, Int.reduceLE, Int.reduceEq, Int.reduceNe, Int.reduceAdd, Int.reduceSub, Int.reduceMul, Int.reduceNeg, hw, hg, hgs, hlm, w1, w2, eq_false g1, eq_true g2, hsl, hi', Int.natCast_nonneg, Int.toNat_natCast, Option.getD_some, Option.getD_none, List.drop_zero, Nat.sub_zero, Nat.zero_le, true_and, and_true, Nat.le_refl, chk_of]
              rw [loop_step1]; simp (maxSteps := 2000000) only [go_sem, doCall, doCallQ, doCallP, Nat.reduceAdd, Nat.reduceMul, Nat.reduceSub, Nat.reduceDiv, Nat.reduceMod, Nat.reduceLT, Nat.reduceLeDiff, Nat.reduceEqDiff, Nat.reduceBEq, Nat.reduceBNe, Int.reduceToNat, Int.reduceLT, Int.reduceLE, Int.reduceEq, Int.reduceNe, Int.reduceAdd, Int.reduceSub, Int.reduceMul, Int.reduceNeg]; exact ih
            · rw [if_neg g2] at ih
              simp (maxSteps := 2000000) (disch := omega) only [go_sem, doCall, doCallQ, doCallP, Nat.reduceAdd, Nat.reduceMul, Nat.reduceSub, Nat.reduceDiv, Nat.reduceMod, Nat.reduceLT, Nat.reduceLeDiff, Nat.reduceEqDiff, Nat.reduceBEq, Nat.reduceBNe, Int.reduceToNat, Int.reduceLT, Int.reduceLE, Int.reduceEq, Int.reduceNe, Int.reduceAdd, Int.reduceSub, Int.reduceMul, Int.reduceNeg, hw, hg, hgs, hlm, w1, w2, eq_false g1, eq_false g2, hsl, hi', Int.natCast_nonneg, Int.toNat_natCast, Option.getD_some, Option.getD_none, List.drop_zero, Nat.sub_zero, Nat.zero_le, true_and, and_true, Nat.le_refl, chk_of]
              rw [loop_step1]; simp (maxSteps := 2000000) only [go_sem, doCall, doCallQ, doCallP, Nat.reduceAdd, Nat.reduceMul, Nat.reduceSub, Nat.reduceDiv, Nat.reduceMod, Nat.reduceLT, Nat.reduceLeDiff, Nat.reduceEqDiff, Nat.reduceBEq, Nat.reduceBNe, Int.reduceToNat, Int.reduceLT, Int.reduceLE, Int.reduceEq, Int.reduceNe, Int.reduceAdd, Int.reduceSub, Int.reduceMul, Int.reduceNeg]; exact ih
        · skip
          rw [if_neg h1, if_neg h2, if_neg h3, show (if d.st = 200 ∨ d.st = 206 ∨ d.st = 416 then (0 : Int) else 1) = 1 from if_neg (fun h => h.elim h1 (fun h => h.elim h2 h3)), Int.add_zero, Int.add_zero, Int.add_zero] at ih
          simp (maxSteps := 2000000) (disch := omega) only [go_sem, doCall, doCallQ, doCallP, Nat.reduceAdd, Nat.reduceMul, Nat.reduceSub, Nat.reduceDiv, Nat.reduceMod, Nat.reduceLT, Nat.reduceLeDiff, Nat.reduceEqDiff, Nat.reduceBEq, Nat.reduceBNe, Int.reduceToNat, Int.reduceLT, Int.reduceLE, Int.reduceEq, Int.reduceNe, Int.reduceAdd, Int.reduceSub, Int.reduceMul, Int.reduceNeg, u6_0, lb6_0, hlt, hi', hw, hg, hlm, hc, hsc, hvw, hlp, w1, v1, v2, v3, v4, eq_false h1, eq_false h2, eq_false h3, show (d.st == 200) = false by simp [h1], show (d.st == 206) = false by simp [h2], show (d.st == 416) = false by simp [h3], rB_len, Int.natCast_nonneg, Int.toNat_natCast, Option.getD_some, Option.getD_none, List.drop_zero, Nat.sub_zero, Nat.zero_le, true_and, and_true, Nat.le_refl, chk_of]
          rw [loop_step1]; simp (maxSteps := 2000000) only [go_sem, doCall, doCallQ, doCallP, Nat.reduceAdd, Nat.reduceMul, Nat.reduceSub, Nat.reduceDiv, Nat.reduceMod, Nat.reduceLT, Nat.reduceLeDiff, Nat.reduceEqDiff, Nat.reduceBEq, Nat.reduceBNe, Int.reduceToNat, Int.reduceLT, Int.reduceLE, Int.reduceEq, Int.reduceNe, Int.reduceAdd, Int.reduceSub, Int.reduceMul, Int.reduceNeg]
          refine (lp_in45 l k _ t.w t.p t.b (t.f + 1) _ (apR d.st d.rn d.bd).1 (by omega) sl i _ 0 (Nat.zero_le _) ty (by rw [List.drop_zero]; omega)).trans ?_
          rw [List.drop_zero]
          by_cases g1 : t.g < d.to - d.fr
          · rw [show max t.g (max (d.to - d.fr) 0) = d.to - d.fr by omega] at ih
            by_cases g2 : m.to - m.fr < d.to - d.fr
            · rw [if_pos g2] at ih
              simp (maxSteps := 2000000) (disch := omega) only [go_sem, doCall, doCallQ, doCallP, Nat.reduceAdd, Nat.reduceMul, Nat.reduceSub, Nat.reduceDiv, Nat.reduceMod, Nat.reduceLT, Nat.reduceLeDiff, Nat.reduceEqDiff, Nat.reduceBEq, Nat.reduceBNe, Int.reduceToNat, Int.reduceLT, Int.reduceLE, Int.reduceEq, Int.reduceNe, Int.reduceAdd, Int.reduceSub, Int.reduceMul, Int.reduceNeg, hw, hg, hgs, hlm, w1, w2, eq_true g1, eq_true g2, hsl, hi', Int.natCast_nonneg, Int.toNat_natCast, Option.getD_some, Option.getD_none, List.drop_zero, Nat.sub_zero, Nat.zero_le, true_and, and_true, Nat.le_refl, chk_of]
              rw [loop_step1]; simp (maxSteps := 2000000) only [go_sem, doCall, doCallQ, doCallP, Nat.reduceAdd, Nat.reduceMul, Nat.reduceSub, Nat.reduceDiv, Nat.reduceMod, Nat.reduceLT, Nat.reduceLeDiff, Nat.reduceEqDiff, Nat.reduceBEq, Nat.reduceBNe, Int.reduceToNat, Int.reduceLT, Int.reduceLE, Int.reduceEq, Int.reduceNe, Int.reduceAdd, Int.reduceSub, Int.reduceMul, Int.reduceNeg]; exact ih
            · rw [if_neg g2] at ih
              simp (maxSteps := 2000000) (disch := omega) only [go_sem, doCall, doCallQ, doCallP, Nat.reduceAdd, Nat.reduceMul, Nat.reduceSub, Nat.reduceDiv, Nat.reduceMod, Nat.reduceLT, Nat.reduceLeDiff, Nat.reduceEqDiff, Nat.reduceBEq, Nat.reduceBNe, Int.reduceToNat, Int.reduceLT, Int.reduceLE, Int.reduceEq, Int.reduceNe, Int.reduceAdd, Int.reduceSub, Int.reduceMul, Int.reduceNeg, hw, hg, hgs, hlm, w1, w2, eq_true g1, eq_false g2, hsl, hi', Int.natCast_nonneg, Int.toNat_natCast, Option.getD_some, Option.getD_none, List.drop_zero, Nat.sub_zero, Nat.zero_le, true_and, and_true, Nat.le_refl, chk_of]
              rw [loop_step1]; simp (maxSteps := 2000000) only [go_sem, doCall, doCallQ, doCallP, Nat.reduceAdd, Nat.reduceMul, Nat.reduceSub, Nat.reduceDiv, Nat.reduceMod, Nat.reduceLT, Nat.reduceLeDiff, Nat.reduceEqDiff, Nat.reduceBEq, Nat.reduceBNe, Int.reduceToNat, Int.reduceLT, Int.reduceLE, Int.reduceEq, Int.reduceNe, Int.reduceAdd, Int.reduceSub, Int.reduceMul, Int.reduceNeg]; exact ih
          · rw [show max t.g (max (d.to - d.fr) 0) = t.g by omega] at ih
            by_cases g2 : m.to - m.fr < d.to - d.fr
            · rw [if_pos g2] at ih
              simp (maxSteps := 2000000) (disch := omega) only [go_sem, doCall, doCallQ, doCallP, Nat.reduceAdd, Nat.reduceMul, Nat.reduceSub, Nat.reduceDiv, Nat.reduceMod, Nat.reduceLT, Nat.reduceLeDiff, Nat.reduceEqDiff, Nat.reduceBEq, Nat.reduceBNe, Int.reduceToNat, Int.reduceLT, Int.reduceLE, Int.reduceEq, Int.reduceNe, Int.reduceAdd, Int.reduceSub, Int.reduceMul, Int.reduceNeg, hw, hg, hgs, hlm, w1, w2, eq_false g1, eq_true g2, hsl, hi', Int.natCast_nonneg, Int.toNat_natCast, Option.getD_some, Option.getD_none, List.drop_zero, Nat.sub_zero, Nat.zero_le, true_and, and_true, Nat.le_refl, chk_of]
              rw [loop_step1]; simp (maxSteps := 2000000) only [go_sem, doCall, doCallQ, doCallP, Nat.reduceAdd, Nat.reduceMul, Nat.reduceSub, Nat.reduceDiv, Nat.reduceMod, Nat.reduceLT, Nat.reduceLeDiff, Nat.reduceEqDiff, Nat.reduceBEq, Nat.reduceBNe, Int.reduceToNat, Int.reduceLT, Int.reduceLE, Int.reduceEq, Int.reduceNe, Int.reduceAdd, Int.reduceSub, Int.reduceMul, Int.reduceNeg]; exact ih
            · rw [if_neg g2] at ih
              simp (maxSteps := 2000000) (disch := omega) only [go_sem, doCall, doCallQ, doCallP, Nat.reduceAdd, Nat.reduceMul, Nat.reduceSub, Nat.reduceDiv, Nat.reduceMod, Nat.reduceLT, Nat.reduceLeDiff, Nat.reduceEqDiff, Nat.reduceBEq, Nat.reduceBNe, Int.reduceToNat, Int.reduceLT, Int.reduceLE, Int.reduceEq, Int.reduceNe, Int.reduceAdd, Int.reduceSub, Int.reduceMul, Int.reduceNeg, hw, hg, hgs, hlm, w1, w2, eq_false g1, eq_false g2, hsl, hi', Int.natCast_nonneg, Int.toNat_natCast, Option.getD_some, Option.getD_none, List.drop_zero, Nat.sub_zero, Nat.zero_le, true_and, and_true, Nat.le_refl, chk_of]
              rw [loop_step1]; simp (maxSteps := 2000000) only [go_sem, doCall, doCallQ, doCallP, Nat.reduceAdd, Nat.reduceMul, Nat.reduceSub, Nat.reduceDiv, Nat.reduceMod, Nat.reduceLT, Nat.reduceLeDiff, Nat.reduceEqDiff, Nat.reduceBEq, Nat.reduceBNe, Int.reduceToNat, Int.reduceLT, Int.reduceLE, Int.reduceEq, Int.reduceNe, Int.reduceAdd, Int.reduceSub, Int.reduceMul, Int.reduceNeg]; exact ih
termination_by l.length - i
end Go.Proofs.YtpibecljdooilaaDoor
namespace Go.Proofs.YtpibecljdooilaaDoor
open Go Go.Ev Go.Proofs.YtpibecljdooilaaDoor.Ir Go.Prs
set_option maxRecDepth 100000
set_option maxHeartbeats 4000000
set_option linter.unusedSimpArgs false
set_option linter.unusedVariables false
theorem ta_ext {s t : Ta} (h1 : s.w = t.w) (h2 : s.p = t.p) (h3 : s.b = t.b) (h4 : s.f = t.f) (h5 : s.y = t.y) (h6 : s.g = t.g) : s = t := by
  cases s; cases t; simp only at h1 h2 h3 h4 h5 h6; subst h1; subst h2; subst h3; subst h4; subst h5; subst h6; rfl
theorem addT_assoc (a b c : Ta) : addT (addT a b) c = addT a (addT b c) := by
  apply ta_ext <;> simp only [addT] <;> omega
theorem addT_zero {a : Ta} (h : 0 ≤ a.g) : addT a T0 = a := by
  apply ta_ext <;> simp only [addT, T0] <;> omega
theorem zero_addT {a : Ta} (h : 0 ≤ a.g) : addT T0 a = a := by
  apply ta_ext <;> simp only [addT, T0] <;> omega
theorem oneT_g (d : Dn) : 0 ≤ (oneT d).g := by show 0 ≤ max (d.to - d.fr) 0; omega
theorem addT_g {a b : Ta} (h : 0 ≤ a.g) : 0 ≤ (addT a b).g := by show 0 ≤ max a.g b.g; omega
theorem donesT_add : ∀ (l : List Dn) (s : Ta), 0 ≤ s.g → donesT l s = addT s (donesT l T0)
  | [], s, h => (addT_zero h).symm
  | d :: l, s, h => by
    have e1 : donesT (d :: l) s = donesT l (addT s (oneT d)) := rfl
    have e2 : donesT (d :: l) T0 = donesT l (addT T0 (oneT d)) := rfl
    rw [e1, e2, zero_addT (oneT_g d), donesT_add l (addT s (oneT d)) (addT_g h), donesT_add l (oneT d) (oneT_g d), addT_assoc]
theorem bd_mono {n m : Nat} {t : Ta} (h : Bd n t) (k : n ≤ m) : Bd m t := by
  obtain ⟨a1, a2, a3, a4, a5, a6⟩ := h
  exact ⟨by omega, by omega, by omega, by omega, by omega, a6⟩
theorem bd_dones : ∀ (l : List Dn) (n : Nat) (s : Ta), Bd n s → (∀ d ∈ l, okDn d = true) → Bd (n + l.length) (donesT l s)
  | [], n, s, h, _ => h
  | d :: l, n, s, h, hk => by
    have := bd_dones l (n + 1) (addT s (oneT d)) (bd_add h (bd_one (hk d (by simp)))) (fun e he => hk e (by simp [he]))
    rw [List.length_cons, show n + (l.length + 1) = n + 1 + l.length by omega]
    exact this
theorem donesT_app (l k : List Dn) (h : ∀ d ∈ l, okDn d = true) : donesT (l ++ k) T0 = addT (donesT l T0) (donesT k T0) := by
  have e : donesT (l ++ k) T0 = donesT k (donesT l T0) := List.foldl_append ..
  rw [e]
  exact donesT_add k _ (bd_dones l 0 T0 bd0 h).g.1
theorem t_StatDones (l k : List Dn) (hl : l.length ≤ 1000000000000000) (hk : k.length ≤ 1000000000000000) : call ir2 6 [vDs l, vDs k] [] = some (dT true, []) := by
  rw [call_eq (ir := ir2) (fn := ir6) rfl, evF_bnd]
  have ha := t_awake45
  have hf := call_ext ext2 (t_few45 l hl)
  have hfk := call_ext ext2 (t_few45 k hk)
  cases h1 : (allDn l && decide (l.length ≤ 20))
  · rw [h1] at hf
    simp (maxSteps := 2000000) (disch := omega) only [go_sem, doCall, doCallQ, doCallP, Nat.reduceAdd, Nat.reduceMul, Nat.reduceSub, Nat.reduceDiv, Nat.reduceMod, Nat.reduceLT, Nat.reduceLeDiff, Nat.reduceEqDiff, Nat.reduceBEq, Nat.reduceBNe, Int.reduceToNat, Int.reduceLT, Int.reduceLE, Int.reduceEq, Int.reduceNe, Int.reduceAdd, Int.reduceSub, Int.reduceMul, Int.reduceNeg, bd6, ha, hf, chk_of]
  · rw [h1] at hf
    cases h2 : (allDn k && decide (k.length ≤ 20))
    · rw [h2] at hfk
      simp (maxSteps := 2000000) (disch := omega) only [go_sem, doCall, doCallQ, doCallP, Nat.reduceAdd, Nat.reduceMul, Nat.reduceSub, Nat.reduceDiv, Nat.reduceMod, Nat.reduceLT, Nat.reduceLeDiff, Nat.reduceEqDiff, Nat.reduceBEq, Nat.reduceBNe, Int.reduceToNat, Int.reduceLT, Int.reduceLE, Int.reduceEq, Int.reduceNe, Int.reduceAdd, Int.reduceSub, Int.reduceMul, Int.reduceNeg, bd6, ha, hf, hfk, chk_of]
    · rw [h2] at hfk
      rw [Bool.and_eq_true] at h1 h2
      have okl := allDn_mem h1.1
      have okk := allDn_mem h2.1
      have ll := of_decide_eq_true h1.2
      have lk := of_decide_eq_true h2.2
      have hlm : (l.map dnRow).length = l.length := List.length_map ..
      have hkm : (k.map dnRow).length = k.length := List.length_map ..
      have d1 := t_dones l (by omega) okl
      have d2 := t_dones k (by omega) okk
      have d3 := t_dones (l ++ k) (by rw [List.length_append]; omega) (fun d hd => (List.mem_append.1 hd).elim (okl d) (okk d))
      have bl := bd_dones l 0 T0 bd0 okl
      have bk := bd_dones k 0 T0 bd0 okk
      have d4 := t_add45 bl bk (by omega) (by omega)
      rw [donesT_app l k okl] at d3
      rw [show vDs (l ++ k) = .d (.list 11 (l.map dnRow ++ k.map dnRow)) by rw [← List.map_append]] at d3
      have htk : List.take (l.length + k.length) (l.map dnRow ++ k.map dnRow) = l.map dnRow ++ k.map dnRow := List.take_of_length_le (by simp)
      simp (maxSteps := 2000000) (disch := omega) only [go_sem, doCall, doCallQ, doCallP, Nat.reduceAdd, Nat.reduceMul, Nat.reduceSub, Nat.reduceDiv, Nat.reduceMod, Nat.reduceLT, Nat.reduceLeDiff, Nat.reduceEqDiff, Nat.reduceBEq, Nat.reduceBNe, Int.reduceToNat, Int.reduceLT, Int.reduceLE, Int.reduceEq, Int.reduceNe, Int.reduceAdd, Int.reduceSub, Int.reduceMul, Int.reduceNeg, bd6, ha, hf, hfk, hlm, chk_of]
      rw [loop_step1]; simp (maxSteps := 2000000) only [go_sem, doCall, doCallQ, doCallP, Nat.reduceAdd, Nat.reduceMul, Nat.reduceSub, Nat.reduceDiv, Nat.reduceMod, Nat.reduceLT, Nat.reduceLeDiff, Nat.reduceEqDiff, Nat.reduceBEq, Nat.reduceBNe, Int.reduceToNat, Int.reduceLT, Int.reduceLE, Int.reduceEq, Int.reduceNe, Int.reduceAdd, Int.reduceSub, Int.reduceMul, Int.reduceNeg]
      refine (lp_law45 l k ll okl _ 0 (Nat.zero_le _) 0 (by cases l; exact .inr ⟨rfl, rfl⟩; exact .inl (by simp)) T0 bd0).trans ?_
      rw [List.drop_zero, Nat.sub_zero]
      generalize donesT l T0 = A at d1 d3 d4 bl ⊢
      generalize donesT k T0 = B at d2 d3 d4 bk ⊢
      generalize addT A B = C at d3 d4
      by_cases hne : l = []
      · subst hne
        obtain ⟨X, _, hs⟩ := t_slowest0
        have hs' : call ir2 23 [.d (.list 11 [])] [] = some (.tup [.agg [dI 0, dS [], dS [], dI 0, dI 0, dI 0, dI 0, dI 0, dS [], dS [], lB []], dT false], []) := hs
        have d1' : call ir2 24 [.d (.list 11 [])] [] = some (vTa A, []) := d1
        have htk2 : List.take k.length (k.map dnRow) = k.map dnRow := List.take_of_length_le (by simp)
        have d3' : call ir2 24 [vDs k] [] = some (vTa C, []) := d3
        have heq : B = C := by
          have := d2.symm.trans d3'
          injection this with this
          injection this with this
          injection this with this
          simp only [List.cons.injEq, AV.d.injEq, D.int.injEq, true_and, and_true] at this
          exact ta_ext this.1 this.2.1 this.2.2.1 this.2.2.2.1 this.2.2.2.2.1 this.2.2.2.2.2
        subst heq
        simp (maxSteps := 2000000) (disch := omega) only [go_sem, doCall, doCallQ, doCallP, Nat.reduceAdd, Nat.reduceMul, Nat.reduceSub, Nat.reduceDiv, Nat.reduceMod, Nat.reduceLT, Nat.reduceLeDiff, Nat.reduceEqDiff, Nat.reduceBEq, Nat.reduceBNe, Int.reduceToNat, Int.reduceLT, Int.reduceLE, Int.reduceEq, Int.reduceNe, Int.reduceAdd, Int.reduceSub, Int.reduceMul, Int.reduceNeg, hs', d1', d2, d4, hkm, htk2, List.map_nil, List.length_nil, List.nil_append, Nat.zero_add, slw, false_and, if_false, beq_self_eq_true, bne_self_eq_false, decide_true, decide_false, Int.natCast_nonneg, Int.toNat_natCast, Option.getD_some, Option.getD_none, List.drop_zero, Nat.sub_zero, Nat.zero_le, true_and, and_true, Nat.le_refl, chk_of]
      · have hpos := List.length_pos_iff.2 hne
        have hs0 := slw_lt (dtl l) l.length l.length 0 0 (by omega) hpos
        obtain ⟨m, hm⟩ : ∃ m, l[slw (dtl l) l.length 0 0]? = some m := ⟨_, List.getElem?_eq_getElem hs0⟩
        have hs := t_slowest l (by omega) hpos okl m hm
        have hg := getDn l hs0
        have hm2 : l[slw (dtl l) l.length 0 0] = m := by rw [List.getElem?_eq_getElem hs0] at hm; exact Option.some.inj hm
        rw [hm2] at hg
        have hp := eq_true (show (0 : Int) < l.length by omega)
        generalize slw (dtl l) l.length 0 0 = sl at hg hs0 ⊢
        simp (maxSteps := 2000000) (disch := omega) only [go_sem, doCall, doCallQ, doCallP, Nat.reduceAdd, Nat.reduceMul, Nat.reduceSub, Nat.reduceDiv, Nat.reduceMod, Nat.reduceLT, Nat.reduceLeDiff, Nat.reduceEqDiff, Nat.reduceBEq, Nat.reduceBNe, Int.reduceToNat, Int.reduceLT, Int.reduceLE, Int.reduceEq, Int.reduceNe, Int.reduceAdd, Int.reduceSub, Int.reduceMul, Int.reduceNeg, hs, hg, hs0, hp, d1, d2, d3, d4, false_and, if_false, hlm, hkm, htk, List.length_append, Nat.zero_add, beq_self_eq_true, bne_self_eq_false, decide_true, decide_false, Int.natCast_nonneg, Int.toNat_natCast, Option.getD_some, Option.getD_none, List.drop_zero, Nat.sub_zero, Nat.zero_le, true_and, and_true, Nat.le_refl, chk_of]
end Go.Proofs.YtpibecljdooilaaDoor
namespace Go.Proofs.YtpibecljdooilaaDoor
open Go Go.Ev Go.Proofs.YtpibecljdooilaaDoor.Ir
set_option maxRecDepth 100000
set_option linter.unusedSimpArgs false
set_option linter.unusedVariables false
theorem bytes_of8 {xs : List (List D)} (h : ∀ q, q ∈ xs → Sh.ok (.i .u8 .nil) q) : ∃ d : List UInt8, xs = rB d := by
  obtain ⟨d, hd, _⟩ := rows_map (f := fun b : UInt8 => [D.int .u8 b.toNat]) (R := fun _ => True) (fun q h => by
    obtain ⟨n, _, rfl, h1, h2, h⟩ := ok_i h
    obtain rfl := ok_n h
    have e1 : IntKind.u8.min = 0 := rfl
    have e2 : IntKind.u8.max = 255 := rfl
    rw [e1] at h1; rw [e2] at h2
    refine ⟨UInt8.ofNat n.toNat, ?_, trivial⟩
    have : (UInt8.ofNat n.toNat).toNat = n.toNat := by simp; omega
    rw [this, Int.toNat_of_nonneg h1]) h
  exact ⟨d, hd⟩
theorem dones_of {xs : List (List D)} (h : ∀ q, q ∈ xs → Sh.ok (.i .i64 (.s (.s (.i .i64 (.i .i64 (.i .i64 (.i .i64 (.i .i64 (.s (.s (.sl (.i .u8 .nil) 1 .nil))))))))))) q) : ∃ l : List Dn, xs = l.map dnRow ∧ ∀ p ∈ l, True :=
  rows_map (f := dnRow) (R := fun _ => True) (fun q h => by
    obtain ⟨ob, _, rfl, _, _, h⟩ := ok_i h
    obtain ⟨rg, _, rfl, _, h⟩ := ok_s h
    obtain ⟨ir, _, rfl, _, h⟩ := ok_s h
    obtain ⟨fr, _, rfl, _, _, h⟩ := ok_i h
    obtain ⟨to, _, rfl, _, _, h⟩ := ok_i h
    obtain ⟨be, _, rfl, _, _, h⟩ := ok_i h
    obtain ⟨en, _, rfl, _, _, h⟩ := ok_i h
    obtain ⟨st, _, rfl, _, _, h⟩ := ok_i h
    obtain ⟨tg, _, rfl, _, h⟩ := ok_s h
    obtain ⟨rn, _, rfl, _, h⟩ := ok_s h
    obtain ⟨ds, _, rfl, hl, hd, h⟩ := ok_sl h
    obtain rfl := ok_n h
    obtain ⟨d, rfl⟩ := bytes_of8 hd
    exact ⟨⟨ob, rg, ir, fr, to, be, en, st, tg, rn, d⟩, rfl, trivial⟩) h
end Go.Proofs.YtpibecljdooilaaDoor
