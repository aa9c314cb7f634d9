/- The rules of symbolic evaluation as one simp set. Own work. -/
import Derived.Test.YtbcpffhialoliaaEvKs
namespace Go.Ev
open Go
set_option linter.unusedVariables false
set_option linter.unusedSimpArgs false
theorem getD0 {α : Type} (x : α) (l : List α) (d : α) : (x :: l).getD 0 d = x := rfl
theorem getDs {α : Type} (x : α) (l : List α) (n : Nat) (d : α) : (x :: l).getD (n + 1) d = l.getD n d := rfl
theorem getDn {α : Type} (n : Nat) (d : α) : ([] : List α).getD n d = d := by simp
theorem set0 {α : Type} (x y : α) (l : List α) : (x :: l).set 0 y = y :: l := rfl
theorem sets {α : Type} (x y : α) (l : List α) (n : Nat) : (x :: l).set (n + 1) y = x :: l.set n y := rfl
theorem repS {α : Type} (n : Nat) (v : α) : List.replicate (n + 1) v = v :: List.replicate n v := rfl
theorem rep0 {α : Type} (v : α) : List.replicate 0 v = [] := rfl
theorem flatC {α : Type} (x : List α) (l : List (List α)) : (x :: l).flatten = x ++ l.flatten := rfl
theorem flatN {α : Type} : ([] : List (List α)).flatten = [] := rfl
theorem appC {α : Type} (x : α) (l r : List α) : (x :: l) ++ r = x :: (l ++ r) := rfl
theorem appN {α : Type} (r : List α) : [] ++ r = r := rfl
theorem lenC {α : Type} (x : α) (l : List α) : (x :: l).length = l.length + 1 := rfl
theorem lenN {α : Type} : ([] : List α).length = 0 := rfl
theorem mapC {α β : Type} (f : α → β) (x : α) (l : List α) : (x :: l).map f = f x :: l.map f := rfl
theorem mapN {α β : Type} (f : α → β) : ([] : List α).map f = [] := rfl
theorem drop0 {α : Type} (l : List α) : l.drop 0 = l := rfl
theorem dropS {α : Type} (x : α) (l : List α) (n : Nat) : (x :: l).drop (n + 1) = l.drop n := rfl
theorem take0 {α : Type} (l : List α) : l.take 0 = [] := rfl
theorem takeS {α : Type} (x : α) (l : List α) (n : Nat) : (x :: l).take (n + 1) = x :: l.take n := rfl
theorem omapS {α β : Type} (f : α → β) (x : α) : (some x).map f = some (f x) := rfl
theorem beqT (b : Bool) : (b == true) = b := by cases b <;> rfl
theorem beqF (b : Bool) : (b == false) = !b := by cases b <;> rfl
theorem notD (p : Prop) [Decidable p] : (!decide p) = decide (¬p) := by simp
theorem len_list (z : Nat) (xs : List (List D)) : lenA (.d (.list z xs)) = some xs.length := rfl
theorem len_nils : lenA (.d .nils) = some 0 := rfl
theorem len_emp : lenA (.d .emp) = some 0 := rfl
theorem len_own (i z o n : Nat) (k : Bool) : lenA (.own i z o n k) = some n := rfl
theorem tl_list (H : Heap) (z z' : Nat) (xs : List (List D)) : tailA H z (.d (.list z' xs)) = if z' = z then some xs else none := rfl
theorem tl_nils (H : Heap) (z : Nat) : tailA H z (.d .nils) = some [] := rfl
theorem tl_emp (H : Heap) (z : Nat) : tailA H z (.d .emp) = some [] := rfl
theorem tl_str (H : Heap) (z : Nat) (s : List UInt8) : tailA H z (.d (.str s)) = if z = 1 then some (s.map fun b => [.int .u8 b.toNat]) else none := rfl
theorem tl_own (H : Heap) (z j z' o n : Nat) (k : Bool) : tailA H z (.own j z' o n k) = match H.getD j .dead with
    | .arr z'' xs | .frz z'' xs => if z' = z ∧ z'' = z ∧ o + n ≤ xs.length then some ((xs.drop o).take n) else none
    | _ => none := rfl
theorem sl_list (z z' : Nat) (xs : List (List D)) (lo hi mx : Option Nat) : slA (.d (.list z' xs)) lo hi mx z = (if z' = z ∧ lo.getD 0 ≤ hi.getD xs.length ∧ hi.getD xs.length ≤ xs.length then
      (match mx with
        | none => some (.d (.list z ((xs.drop (lo.getD 0)).take (hi.getD xs.length - lo.getD 0))))
        | some m => if hi.getD xs.length ≤ m ∧ m ≤ xs.length then (if lo.getD 0 = m then some (.d .emp) else some (.d (.list z ((xs.drop (lo.getD 0)).take (hi.getD xs.length - lo.getD 0))))) else none) else none) := rfl
theorem sl_own (z j z' o n : Nat) (k : Bool) (lo hi mx : Option Nat) : slA (.own j z' o n k) lo hi mx z = (if z' = z ∧ lo.getD 0 ≤ hi.getD n ∧ hi.getD n ≤ n then
      (match mx with
        | none => some (.own j z (o + lo.getD 0) (hi.getD n - lo.getD 0) (k && hi.getD n == n))
        | some m => if hi.getD n ≤ m ∧ m ≤ n then some (.own j z (o + lo.getD 0) (hi.getD n - lo.getD 0) (m == hi.getD n)) else none) else none) := rfl
theorem sl_nils (z : Nat) (lo hi mx : Option Nat) : slA (.d .nils) lo hi mx z = match lo.getD 0, hi.getD 0, mx.getD 0 with
    | 0, 0, 0 => some (.d .nils)
    | _, _, _ => none := rfl
theorem sl_emp (z : Nat) (lo hi mx : Option Nat) : slA (.d .emp) lo hi mx z = match lo.getD 0, hi.getD 0, mx.getD 0 with
    | 0, 0, 0 => some (.d .emp)
    | _, _, _ => none := rfl
theorem isA_list (z z' : Nat) (xs : List (List D)) (k : IntKind) (i : Int) : isA' z (.d (.list z' xs)) (.d (.int k i)) = if 0 ≤ i ∧ z' = z ∧ i.toNat < xs.length then some (.cpt (xs.getD i.toNat []) 0) else none := by
  simp only [isA', isA]
  by_cases h : 0 ≤ i <;> simp [h]
theorem isA_own (z j z' o n : Nat) (b : Bool) (k : IntKind) (i : Int) : isA' z (.own j z' o n b) (.d (.int k i)) = if 0 ≤ i ∧ z' = z ∧ i.toNat < n then some (.ept j z (o + i.toNat) 0) else none := by
  simp only [isA', isA]
  by_cases h : 0 ≤ i <;> simp [h]
theorem elemN (x : Nat) : List.elem x [] = false := rfl
theorem elemC (x a : Nat) (l : List Nat) : List.elem x (a :: l) = (x == a || List.elem x l) := by simp [List.elem]; cases h : x == a <;> simp
theorem rng0 : List.range 0 = [] := rfl
theorem rngS (n : Nat) : List.range (n + 1) = List.range n ++ [n] := List.range_succ
attribute [go_sem] rq_none rq_one rq_cells rq_frz rq_hol rfL_nil rfL_cons daK_eq daC_nil rq_dat oldL_nil oldL_cons oldB_ptr oldB_cpt norL_nil norL_cons isEmpty_nil dn2_eq b_drr ab_nil ab_res ab_none ab_one ab_cells ab_frz ab_dat ro_nil ro_res ro_none ro_one ro_cells ro_frz ro_dat dco_nil dco_cons dco1_nils O.reads readsL readsP readsO X.reads
  rng0 rngS bnd_some bnd_none bnd_chk obnd_some obnd_none obnd_chk okK_some okK_none okK_chk okH_some okH_none okH_chk obT_eq okT_eq ohT_eq bnT_eq chk_true chk_false two_true two_false xv_s xv_c sq_normal sq_exit sq_ret
  bk_normal bk_same bk_other bk_ret bT_eq b_skip kn_eq b_reg b_drw0 b_drw1 dn_eq difL_nil difL_cons difB_ptr difB_ep difB_pe difB_ee b_seq b_cond b_block b_loop b_ann b_scp b_exit b_exitL b_ret b_retL lpC_normal lpC_exit lpC_ret l_nil nx_some nx_none nT_eq rst_eq oT_eq l_cons l_guard gd_no gd_T gd_F vBF vBT vB_ite kTu_eq cbr_nil cbr_cons o_BF o_BT setB_nil setB_cons bck_def getq0 getqs coK_none coK_one coK_agg coK_ptr cpK_box cpK_dbox coK_frz co1_nilsT co1_nilsF co1_empT co1_empF co1_own co1_list co1_tup co1_agg coL_nil coL_cons vL_some boxA_some bslA_some plO_some vN_some
  o_mv kT_eq o_pick o_alloc o_box o_ld o_st o_nc o_bin o_beq o_eqs o_isn o_un o_cvi o_cvs o_s2b o_cvl cvlA cvlB o_b2s xp_eq xw_eq xq_eq o_build o_bsl o_ext o_fn o_fa o_ia o_is o_fld o_idx o_sti o_sl o_ssl o_mi o_len o_lens o_lenc o_mx o_mn o_app o_call o_callv o_mmk o_mget o_mput o_mdel o_mlen gotA_none gotA_some mgA_T mgA_F mpA_some mdA mlA_some mapA_nilm mapA_mapv mapA asI64_i avD AV.toD mputA mdelA findM
  i_add i_sub i_mul i_quo i_rem i_eql i_neq i_lss i_leq i_gtr i_geq i_and i_or i_xor i_shl i_shr s_add s_eql s_neq s_lss s_gtr s_leq s_geq n_not n_neg q_eqF q_eqT m_max m_min
  ncA cviA cvsA s2bA extA iaA isA_list isA_own fldA idxA stiA bd slB sslA lensA appB clrB cpyB blt_clr blt_cpy o_bcall callvA eqsA pr2_eq ends_some fin_normal fin_ret fin_exit cns_some cnO_some evR_nil evR_tmp evR_cell oneOf
  AV.asBool AV.asInt AV.asStr AV.asNat AV.cells AV.plain AV.isNil AV.scalar AV.scalarL D.scalar AV.view AV.viewL AV.owns AV.ownsL AV.refs AV.refsL AV.ren AV.renL
  boxOf boxOf.plainD faA loadA storeA putCells fillA len_list len_nils len_emp len_own tl_list tl_nils tl_emp tl_str tl_own sl_list sl_own sl_nils sl_emp Option.getD_some Option.getD_none appA sameD D.same
  elemN elemC Bool.true_and Bool.and_true Bool.false_and Bool.and_false Bool.false_or Bool.true_or Bool.or_false Bool.or_true Bool.false_eq_true Bool.true_eq_false clean liveIds reach posOf posOf.go renH Blk.ren Blk.refs freezeAll Blk.freeze rows
  getD0 getDs getDn set0 sets repS rep0 flatC flatN appC appN lenC lenN mapC mapN drop0 dropS take0 takeS omapS beqT beqF notD
  decide_true decide_false ite_true ite_false if_true if_false Option.map_some Option.map_none and_self and_true true_and Bool.not_true Bool.not_false
  List.flatMap_nil List.flatMap_cons List.append_nil List.nil_append Function.comp_apply eq_self ne_eq not_true_eq_false not_false_eq_true reduceCtorEq
end Go.Ev
