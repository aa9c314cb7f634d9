/- Symbolic evaluation by rewriting: rules that carry the rest of the work along as named functions that wait for one argument more, so that nothing is looked at before its turn. Own work. -/
import Derived.Test.YtbcpffhialoliaaEvLim
namespace Go.Ev
open Go
set_option linter.unusedVariables false
set_option linter.unusedSimpArgs false

section
variable {α β : Type} {call : Callee} {lp : Looper}

def bnd (r : Option (Ex × St)) (k : Ex → St → Option α) : Option α := match r with | some (e, s) => k e s | none => none
def lbnd (r : Option St) (k : St → Option α) : Option α := match r with | some s => k s | none => none
def obnd (r : Option (AV × Heap)) (K : AV → Heap → Option α) : Option α := match r with | some (v, h) => K v h | none => none
def okK (K : AV → Heap → Option α) (h : Heap) (r : Option AV) : Option α := match r with | some v => K v h | none => none
def okH (K : AV → Heap → Option α) (r : Option Heap) : Option α := match r with | some h => K .unk h | none => none
def obT (K : AV → Heap → Option α) (r : Option (AV × Heap)) (_ : Unit) : Option α := obnd r K
def okT (K : AV → Heap → Option α) (h : Heap) (r : Option AV) (_ : Unit) : Option α := okK K h r
def ohT (K : AV → Heap → Option α) (r : Option Heap) (_ : Unit) : Option α := okH K r
def bnT (r : Option (Ex × St)) (k : Ex → St → Option α) (_ : Unit) : Option α := bnd r k
theorem obT_eq (K : AV → Heap → Option α) (r : Option (AV × Heap)) : obT K r () = obnd r K := rfl
theorem okT_eq (K : AV → Heap → Option α) (h : Heap) (r : Option AV) : okT K h r () = okK K h r := rfl
theorem ohT_eq (K : AV → Heap → Option α) (r : Option Heap) : ohT K r () = okH K r := rfl
theorem bnT_eq (r : Option (Ex × St)) (k : Ex → St → Option α) : bnT r k () = bnd r k := rfl

/-- A check: the way on is looked at only when it holds. -/
def chk (p : Prop) [Decidable p] (x : Unit → Option α) : Option α := if p then x () else none
theorem chk_true (x : Unit → Option α) : chk True x = x () := rfl
theorem chk_false (x : Unit → Option α) : chk False x = none := rfl
theorem chk_of {p : Prop} [Decidable p] (x : Unit → Option α) (h : p) : chk p x = x () := if_pos h
theorem bnd_some (e : Ex) (s : St) (k : Ex → St → Option α) : bnd (some (e, s)) k = k e s := rfl
theorem bnd_none (k : Ex → St → Option α) : bnd none k = none := rfl
theorem bnd_chk (p : Prop) [Decidable p] (x : Option (Ex × St)) (k : Ex → St → Option α) : bnd (if p then x else none) k = chk p (bnT x k) := by unfold chk; split <;> rfl
theorem obnd_some (v : AV) (h : Heap) (K : AV → Heap → Option α) : obnd (some (v, h)) K = K v h := rfl
theorem obnd_none (K : AV → Heap → Option α) : obnd none K = none := rfl
theorem obnd_chk (p : Prop) [Decidable p] (x : Option (AV × Heap)) (K : AV → Heap → Option α) : obnd (if p then x else none) K = chk p (obT K x) := by unfold chk; split <;> rfl
theorem okK_some (v : AV) (h : Heap) (K : AV → Heap → Option α) : okK K h (some v) = K v h := rfl
theorem okK_none (h : Heap) (K : AV → Heap → Option α) : okK K h none = none := rfl
theorem okK_chk (p : Prop) [Decidable p] (x : Option AV) (h : Heap) (K : AV → Heap → Option α) : okK K h (if p then x else none) = chk p (okT K h x) := by unfold chk; split <;> rfl
theorem okH_some (h : Heap) (K : AV → Heap → Option α) : okH K (some h) = K .unk h := rfl
theorem okH_none (K : AV → Heap → Option α) : okH K none = none := rfl
theorem okH_chk (p : Prop) [Decidable p] (x : Option Heap) (K : AV → Heap → Option α) : okH K (if p then x else none) = chk p (ohT K x) := by unfold chk; split <;> rfl

/-- A choice whose ways are looked at only when the test is known. -/
def two (v : AV) (x y : Unit → Option α) : Option α := match v.asBool with | some true => x () | some false => y () | none => none
theorem two_true (x y : Unit → Option α) : two (.d (.bool true)) x y = x () := rfl
theorem two_false (x y : Unit → Option α) : two (.d (.bool false)) x y = y () := rfl
theorem two_cases {p : Prop} [Decidable p] {x y : Unit → Option α} {r : Option α} (h1 : p → x () = r) (h2 : ¬p → y () = r) : two (.d (.bool (decide p))) x y = r := by
  by_cases h : p
  · simp [two, AV.asBool, h, h1 h]
  · simp [two, AV.asBool, h, h2 h]
theorem two_z {p : Prop} [Decidable p] {x y : Unit → Option α} {r : Option α} (z : Option α) (h1 : p → (p = True) → x () = z) (h2 : ¬p → (p = False) → y () = z) (h3 : z = r) : two (.d (.bool (decide p))) x y = r := by
  by_cases h : p
  · simp only [two, AV.asBool, h, decide_true, h1 h (eq_true h), h3]
  · simp only [two, AV.asBool, h, decide_false, h2 h (eq_false h), h3]
theorem two_bool {b : Bool} {x y : Unit → Option α} {r : Option α} (h1 : b = true → x () = r) (h2 : b = false → y () = r) : two (.d (.bool b)) x y = r := by
  cases b
  · exact h2 rfl
  · exact h1 rfl
theorem two_pos {p : Prop} [Decidable p] (x y : Unit → Option α) (h : p) : two (.d (.bool (decide p))) x y = x () := by simp [two, AV.asBool, h]
theorem two_neg {p : Prop} [Decidable p] (x y : Unit → Option α) (h : ¬p) : two (.d (.bool (decide p))) x y = y () := by simp [two, AV.asBool, h]

/-! ### code -/
def xv (s : List AV) : X → AV
  | .s t => s.getD t .unk
  | .c v => v
theorem xv_s (s : List AV) (t : Nat) : xv s (.s t) = s.getD t .unk := rfl
theorem xv_c (s : List AV) (v : AV) : xv s (.c v) = v := rfl
theorem x_xv (m : Nat) (s : List AV) (h : Heap) (x : X) : St.x ⟨m, s, h⟩ x = xv s x := by cases x <;> rfl

def sq (call : Callee) (lp : Looper) (b : C) (k : Ex → St → Option α) (e : Ex) (s : St) : Option α := match e with | .normal => bnd (evC call lp b s) k | e => k e s
theorem sq_normal (b : C) (k : Ex → St → Option α) (s : St) : sq call lp b k .normal s = bnd (evC call lp b s) k := rfl
theorem sq_exit (b : C) (k : Ex → St → Option α) (i : Nat) (s : St) : sq call lp b k (.exit i) s = k (.exit i) s := rfl
theorem sq_ret (b : C) (k : Ex → St → Option α) (s : St) : sq call lp b k .ret s = k .ret s := rfl
def bk (id : Nat) (k : Ex → St → Option α) (e : Ex) (s : St) : Option α := match e with | .exit i => if i = id then k .normal s else k (.exit i) s | e => k e s
theorem bk_normal (id : Nat) (k : Ex → St → Option α) (s : St) : bk id k .normal s = k .normal s := rfl
theorem bk_same (id : Nat) (k : Ex → St → Option α) (s : St) : bk id k (.exit id) s = k .normal s := if_pos rfl
theorem bk_other (id i : Nat) (k : Ex → St → Option α) (s : St) (h : i ≠ id) : bk id k (.exit i) s = k (.exit i) s := if_neg h
theorem bk_ret (id : Nat) (k : Ex → St → Option α) (s : St) : bk id k .ret s = k .ret s := rfl
def bT (call : Callee) (lp : Looper) (c : C) (k : Ex → St → Option α) (s : St) (_ : Unit) : Option α := bnd (evC call lp c s) k
theorem bT_eq (c : C) (k : Ex → St → Option α) (s : St) : bT call lp c k s () = bnd (evC call lp c s) k := rfl

theorem b_skip (s : St) (k : Ex → St → Option α) : bnd (evC call lp .skip s) k = k .normal s := rfl
def kn (k : Ex → St → Option α) (s : St) : Option α := k .normal s
theorem kn_eq (k : Ex → St → Option α) (s : St) : kn k s = k .normal s := rfl
theorem b_reg (l : List Q) (s : St) (k : Ex → St → Option α) : bnd (evC call lp (.reg l) s) k = lbnd (evL call l s) (kn k) := by
  simp only [evC]; cases evL call l s <;> rfl
def difL (s : List AV) : List (Nat × Nat) → Bool
  | [] => true
  | x :: l => difB (s.getD x.1 .unk) (s.getD x.2 .unk) && difL s l
theorem difL_all (s : List AV) : ∀ l : List (Nat × Nat), l.all (fun x => difB (s.getD x.1 .unk) (s.getD x.2 .unk)) = difL s l
  | [] => rfl
  | x :: l => by rw [List.all_cons, difL_all s l]; rfl
def dn (ne : List (Nat × Nat)) (k : Ex → St → Option α) (s : St) : Option α := if difL s.s ne = true then k .normal s else none
theorem dn_eq (ne : List (Nat × Nat)) (k : Ex → St → Option α) (m : Nat) (s : List AV) (h : Heap) : dn ne k ⟨m, s, h⟩ = if difL s ne = true then k .normal ⟨m, s, h⟩ else none := rfl
theorem difL_nil (s : List AV) : difL s [] = true := rfl
theorem difL_cons (s : List AV) (a b : Nat) (l : List (Nat × Nat)) : difL s ((a, b) :: l) = (difB (s.getD a .unk) (s.getD b .unk) && difL s l) := rfl
theorem difB_ptr (i o j o' : Nat) : difB (.ptr i o) (.ptr j o') = !(i == j) := rfl
theorem difB_ep (i z k c j o' : Nat) : difB (.ept i z k c) (.ptr j o') = !(i == j) := rfl
theorem difB_pe (i z k c j o' : Nat) : difB (.ptr j o') (.ept i z k c) = !(j == i) := rfl
theorem difB_ee (i z k c j z' k' c' : Nat) : difB (.ept i z k c) (.ept j z' k' c') = !(i == j) := rfl
theorem b_drw0 (l : List Q) (b : List (List Nat)) (s : St) (k : Ex → St → Option α) : bnd (evC call lp (.drw l b []) s) k = lbnd (evL call l s) (kn k) := by
  simp only [evC]; cases evL call l s <;> rfl
theorem b_drw1 (l : List Q) (b : List (List Nat)) (x : Nat × Nat) (ne : List (Nat × Nat)) (s : St) (k : Ex → St → Option α) : bnd (evC call lp (.drw l b (x :: ne)) s) k = lbnd (evL call l s) (dn (x :: ne) k) := by
  simp only [evC]
  cases evL call l s with
  | none => rfl
  | some s' =>
    show bnd (if _ then _ else _) k = dn (x :: ne) k s'
    unfold dn
    rw [difL_all]
    cases difL s'.s (x :: ne) <;> rfl
def oldL (n : Nat) (s : List AV) : List Nat → Bool
  | [] => true
  | a :: l => oldB n (s.getD a .unk) && oldL n s l
theorem oldL_all (n : Nat) (s : List AV) : ∀ l : List Nat, l.all (fun a => oldB n (s.getD a .unk)) = oldL n s l
  | [] => rfl
  | x :: l => by rw [List.all_cons, oldL_all n s l]; rfl
def norL (s : List AV) : List Nat → Bool
  | [] => true
  | a :: l => norB (s.getD a .unk) && norL s l
theorem norL_all (s : List AV) : ∀ l : List Nat, l.all (fun a => norB (s.getD a .unk)) = norL s l
  | [] => rfl
  | x :: l => by rw [List.all_cons, norL_all s l]; rfl
theorem oldL_nil (n : Nat) (s : List AV) : oldL n s [] = true := rfl
theorem oldL_cons (n : Nat) (s : List AV) (a : Nat) (l : List Nat) : oldL n s (a :: l) = (oldB n (s.getD a .unk) && oldL n s l) := rfl
theorem oldB_ptr (n i o : Nat) : oldB n (.ptr i o) = decide (i < n) := rfl
theorem oldB_cpt (n : Nat) (cs : List D) (c : Nat) : oldB n (.cpt cs c) = true := rfl
theorem norL_nil (s : List AV) : norL s [] = true := rfl
theorem norL_cons (s : List AV) (a : Nat) (l : List Nat) : norL s (a :: l) = ((s.getD a .unk).refs.isEmpty && norL s l) := rfl
theorem isEmpty_nil : ([] : List Nat).isEmpty = true := rfl
def dn2 (n : Nat) (ne : List (Nat × Nat)) (old nor : List Nat) (k : Ex → St → Option α) (s : St) : Option α := if (difL s.s ne && (oldL n s.s old && norL s.s nor)) = true then k .normal s else none
theorem dn2_eq (n : Nat) (ne : List (Nat × Nat)) (old nor : List Nat) (k : Ex → St → Option α) (m : Nat) (s : List AV) (h : Heap) : dn2 n ne old nor k ⟨m, s, h⟩ = if (difL s ne && (oldL n s old && norL s nor)) = true then k .normal ⟨m, s, h⟩ else none := rfl
theorem b_drr (l : List Q) (b : List (List Nat)) (ne : List (Nat × Nat)) (old nor : List Nat) (m : Nat) (s : List AV) (h : Heap) (k : Ex → St → Option α) : bnd (evC call lp (.drr l b ne old nor) ⟨m, s, h⟩) k =
    lbnd (evL call (absL h.length l) ⟨m, s, h ++ (layOf l).map .dbox⟩) (dn2 (h ++ (layOf l).map Blk.dbox).length ne old nor k) := by
  simp only [evC]
  cases evL call (absL h.length l) ⟨m, s, h ++ (layOf l).map .dbox⟩ with
  | none => rfl
  | some s' =>
    show bnd (if _ then _ else _) k = dn2 _ ne old nor k s'
    unfold dn2
    rw [difL_all, oldL_all, norL_all]
    cases (difL s'.s ne && (oldL (h ++ (layOf l).map Blk.dbox).length s'.s old && norL s'.s nor)) <;> rfl
theorem ab_nil (n : Nat) : absL n [] = [] := rfl
theorem ab_res (n : Nat) (d : Option Nat) (g : Option (Nat × Bool)) (e : TypeId) (zs : List D) (c : List (Nat × Nat × Bool)) (l : List Q) : absL n (⟨d, g, .alloc e zs, .res c⟩ :: l) = ⟨d, g, .alloc e zs, .hol n c⟩ :: absL (n + 1) l := rfl
theorem ab_none (n : Nat) (d : Option Nat) (g : Option (Nat × Bool)) (o : O) (l : List Q) : absL n (⟨d, g, o, .none⟩ :: l) = ⟨d, g, o, .none⟩ :: absL n l := rfl
theorem ab_one (n : Nat) (d : Option Nat) (g : Option (Nat × Bool)) (o : O) (z : Nat) (k : Bool) (l : List Q) : absL n (⟨d, g, o, .one z k⟩ :: l) = ⟨d, g, o, .one z k⟩ :: absL n l := rfl
theorem ab_cells (n : Nat) (d : Option Nat) (g : Option (Nat × Bool)) (o : O) (c : List (Nat × Nat × Bool)) (l : List Q) : absL n (⟨d, g, o, .cells c⟩ :: l) = ⟨d, g, o, .cells c⟩ :: absL n l := rfl
theorem ab_frz (n : Nat) (d : Option Nat) (g : Option (Nat × Bool)) (o : O) (l : List Q) : absL n (⟨d, g, o, .frz⟩ :: l) = ⟨d, g, o, .frz⟩ :: absL n l := rfl
theorem ab_dat (n : Nat) (d : Option Nat) (g : Option (Nat × Bool)) (o : O) (l : List Q) : absL n (⟨d, g, o, .dat⟩ :: l) = ⟨d, g, o, .dat⟩ :: absL n l := rfl
theorem ro_nil : layOf [] = [] := rfl
theorem ro_res (d : Option Nat) (g : Option (Nat × Bool)) (e : TypeId) (zs : List D) (c : List (Nat × Nat × Bool)) (l : List Q) : layOf (⟨d, g, .alloc e zs, .res c⟩ :: l) = dcoL c zs :: layOf l := rfl
theorem ro_none (d : Option Nat) (g : Option (Nat × Bool)) (o : O) (l : List Q) : layOf (⟨d, g, o, .none⟩ :: l) = layOf l := rfl
theorem ro_one (d : Option Nat) (g : Option (Nat × Bool)) (o : O) (z : Nat) (k : Bool) (l : List Q) : layOf (⟨d, g, o, .one z k⟩ :: l) = layOf l := rfl
theorem ro_cells (d : Option Nat) (g : Option (Nat × Bool)) (o : O) (c : List (Nat × Nat × Bool)) (l : List Q) : layOf (⟨d, g, o, .cells c⟩ :: l) = layOf l := rfl
theorem ro_frz (d : Option Nat) (g : Option (Nat × Bool)) (o : O) (l : List Q) : layOf (⟨d, g, o, .frz⟩ :: l) = layOf l := rfl
theorem ro_dat (d : Option Nat) (g : Option (Nat × Bool)) (o : O) (l : List Q) : layOf (⟨d, g, o, .dat⟩ :: l) = layOf l := rfl
theorem dco_nil (ds : List D) : dcoL [] ds = ds := rfl
theorem dco_cons (j z : Nat) (b : Bool) (l : List (Nat × Nat × Bool)) (ds : List D) : dcoL ((j, z, b) :: l) ds = dcoL l (ds.set j (dco1 z (ds.getD j .nilp))) := rfl
theorem dco1_nils (z : Nat) : dco1 z .nils = .list z [] := rfl
theorem b_seq (a b : C) (s : St) (k : Ex → St → Option α) : bnd (evC call lp (.seq a b) s) k = bnd (evC call lp a s) (sq call lp b k) := by
  simp only [evC]
  cases h : evC call lp a s with
  | none => rfl
  | some r => obtain ⟨e, s'⟩ := r; cases e <;> rfl
theorem b_cond (x : X) (a b : C) (m : Nat) (s : List AV) (h : Heap) (k : Ex → St → Option α) : bnd (evC call lp (.cond x a b) ⟨m, s, h⟩) k = two (xv s x) (bT call lp a k ⟨m, s, h⟩) (bT call lp b k ⟨m, s, h⟩) := by
  simp only [evC, x_xv, two]
  cases (xv s x).asBool with
  | none => rfl
  | some t => cases t <;> rfl
theorem b_block (id : Nat) (c : C) (s : St) (k : Ex → St → Option α) : bnd (evC call lp (.block id c) s) k = bnd (evC call lp c s) (bk id k) := by
  simp only [evC]
  cases h : evC call lp c s with
  | none => rfl
  | some r =>
    obtain ⟨e, s'⟩ := r
    cases e with
    | exit i =>
      simp only [bnd, bk]
      by_cases hh : i = id
      · rw [if_pos hh, if_pos hh]
      · rw [if_neg hh, if_neg hh]
    | _ => rfl
theorem b_loop (L : List Nat) (c : C) (s : St) (k : Ex → St → Option α) : bnd (evC call lp (.loop L c) s) k = bnd (lp L c s) k := rfl
theorem b_scp (c : C) (s : St) (k : Ex → St → Option α) : bnd (evC call lp (.scp c) s) k = bnd (evC call lp c s) k := rfl
theorem b_ann (L : List Nat) (c : C) (s : St) (k : Ex → St → Option α) : bnd (evC call lp (.ann L c) s) k = bnd (evC call lp c (clean L s)) k := rfl
theorem b_exit (id : Nat) (s : St) (k : Ex → St → Option α) : bnd (evC call lp (.exit id none) s) k = k (.exit id) s := rfl
theorem b_exitL (id : Nat) (L : List Nat) (s : St) (k : Ex → St → Option α) : bnd (evC call lp (.exit id (some L)) s) k = k (.exit id) (clean L s) := rfl
theorem b_ret (s : St) (k : Ex → St → Option α) : bnd (evC call lp (.ret none) s) k = k .ret s := rfl
theorem b_retL (L : List Nat) (s : St) (k : Ex → St → Option α) : bnd (evC call lp (.ret (some L)) s) k = k .ret (clean L s) := rfl

/-- A loop from a cleaned state. -/
def lpC (call : Callee) (lp : Looper) (L : List Nat) (c : C) (k : Ex → St → Option α) (e : Ex) (s : St) : Option α := match e with | .normal => bnd (lp L c s) k | e => k e s
theorem lpC_normal (L : List Nat) (c : C) (k : Ex → St → Option α) (s : St) : lpC call lp L c k .normal s = bnd (lp L c s) k := rfl
theorem lpC_exit (L : List Nat) (c : C) (k : Ex → St → Option α) (i : Nat) (s : St) : lpC call lp L c k (.exit i) s = k (.exit i) s := rfl
theorem lpC_ret (L : List Nat) (c : C) (k : Ex → St → Option α) (s : St) : lpC call lp L c k .ret s = k .ret s := rfl
theorem loop_step1 (ir : IR) (L : List Nat) (c : C) (s : St) (k : Ex → St → Option α) : bnd (loop ir L c s) k = bnd (evC (Ev.call ir) (loop ir) c (clean L s)) (lpC (Ev.call ir) (loop ir) L c k) := by
  rw [loop_eq]
  cases h : evC (Ev.call ir) (loop ir) c (clean L s) with
  | none => rfl
  | some r => obtain ⟨e, s'⟩ := r; cases e <;> rfl

/-! ### lists of operations -/
theorem l_nil (s : St) (k : St → Option α) : lbnd (evL call [] s) k = k s := rfl
def nx (m : Nat) (s : List AV) (d : Option Nat) (k : St → Option α) (v : AV) (h : Heap) : Option α := match d with
  | some i => k ⟨m, s.set i v, h⟩
  | none => k ⟨m, s, h⟩
theorem nx_some (m : Nat) (s : List AV) (i : Nat) (k : St → Option α) (v : AV) (h : Heap) : nx m s (some i) k v h = k ⟨m, s.set i v, h⟩ := rfl
theorem nx_none (m : Nat) (s : List AV) (k : St → Option α) (v : AV) (h : Heap) : nx m s none k v h = k ⟨m, s, h⟩ := rfl
def nT (m : Nat) (s : List AV) (d : Option Nat) (k : St → Option α) (h : Heap) (_ : Unit) : Option α := nx m s d k (.tup []) h
theorem nT_eq (m : Nat) (s : List AV) (d : Option Nat) (k : St → Option α) (h : Heap) : nT m s d k h () = nx m s d k (.tup []) h := rfl
def rst (call : Callee) (l : List Q) (k : St → Option α) (s : St) : Option α := lbnd (evL call l s) k
theorem rst_eq (l : List Q) (k : St → Option α) (s : St) : rst call l k s = lbnd (evL call l s) k := rfl
/-- A wanted operation, by how its result is looked at. -/
def rq (call : Callee) (st : St) (o : O) (c : Co) : Option (AV × Heap) := runQ call st ⟨none, none, o, c⟩
def oT (call : Callee) (s : St) (o : O) (c : Co) (K : AV → Heap → Option α) (_ : Unit) : Option α := obnd (rq call s o c) K
theorem oT_eq (s : St) (o : O) (c : Co) (K : AV → Heap → Option α) : oT call s o c K () = obnd (rq call s o c) K := rfl
/-- A result looked at further. -/
def coK (c : Co) (K : AV → Heap → Option α) (v : AV) (h : Heap) : Option α := K (doCo c v h).1 (doCo c v h).2
theorem coK_none (K : AV → Heap → Option α) (v : AV) (h : Heap) : coK .none K v h = K v h := rfl
theorem coK_one (z : Nat) (k : Bool) (K : AV → Heap → Option α) (v : AV) (h : Heap) : coK (.one z k) K v h = K (co1 z k v h).1 (co1 z k v h).2 := rfl
theorem coK_agg (l : List (Nat × Nat × Bool)) (K : AV → Heap → Option α) (cs : List AV) (h : Heap) : coK (.cells l) K (.agg cs) h = K (.agg (coL l cs h).1) (coL l cs h).2 := rfl
def cpK (l : List (Nat × Nat × Bool)) (K : AV → Heap → Option α) (i o : Nat) (h : Heap) : Blk → Option α
  | .box cs => K (.ptr i o) ((coL l cs h).2.set i (.box (coL l cs h).1))
  | .dbox ds => K (.ptr i o) ((coL l (ds.map .d) h).2.set i (boxOf (coL l (ds.map .d) h).1))
  | _ => K (.ptr i o) h
theorem coK_ptr (l : List (Nat × Nat × Bool)) (K : AV → Heap → Option α) (i o : Nat) (h : Heap) : coK (.cells l) K (.ptr i o) h = cpK l K i o h (h.getD i .dead) := by
  simp only [coK, doCo]
  cases h.getD i .dead <;> rfl
theorem cpK_box (l : List (Nat × Nat × Bool)) (K : AV → Heap → Option α) (i o : Nat) (h : Heap) (cs : List AV) : cpK l K i o h (.box cs) = K (.ptr i o) ((coL l cs h).2.set i (.box (coL l cs h).1)) := rfl
theorem cpK_dbox (l : List (Nat × Nat × Bool)) (K : AV → Heap → Option α) (i o : Nat) (h : Heap) (ds : List D) : cpK l K i o h (.dbox ds) = K (.ptr i o) ((coL l (ds.map .d) h).2.set i (boxOf (coL l (ds.map .d) h).1)) := rfl
theorem coK_frz (K : AV → Heap → Option α) (v : AV) (h : Heap) : coK .frz K v h = K (v.view h) (freezeAll v.owns h) := by
  cases v <;> rfl
theorem co1_nilsT (z : Nat) (h : Heap) : co1 z true (.d .nils) h = (.own h.length z 0 0 false, h ++ [.arr z []]) := rfl
theorem co1_nilsF (z : Nat) (h : Heap) : co1 z false (.d .nils) h = (.d (.list z []), h) := rfl
theorem co1_empT (z : Nat) (h : Heap) : co1 z true (.d .emp) h = (.own h.length z 0 0 false, h ++ [.arr z []]) := rfl
theorem co1_empF (z : Nat) (h : Heap) : co1 z false (.d .emp) h = (.d (.list z []), h) := rfl
theorem co1_own (z : Nat) (k : Bool) (i y o n : Nat) (q : Bool) (h : Heap) : co1 z k (.own i y o n q) h = (.own i y o n q, h) := rfl
theorem co1_list (z : Nat) (k : Bool) (y : Nat) (xs : List (List D)) (h : Heap) : co1 z k (.d (.list y xs)) h = (.d (.list y xs), h) := rfl
theorem co1_tup (z : Nat) (k : Bool) (vs : List AV) (h : Heap) : co1 z k (.tup vs) h = (.tup vs, h) := rfl
theorem co1_agg (z : Nat) (k : Bool) (vs : List AV) (h : Heap) : co1 z k (.agg vs) h = (.agg vs, h) := rfl
theorem coL_nil (cs : List AV) (h : Heap) : coL [] cs h = (cs, h) := rfl
theorem coL_cons (j z : Nat) (k : Bool) (l : List (Nat × Nat × Bool)) (cs : List AV) (h : Heap) : coL ((j, z, k) :: l) cs h = coL l (cs.set j (co1 z k (cs.getD j .unk) h).1) (co1 z k (cs.getD j .unk) h).2 := rfl
theorem rq_none (s : St) (o : O) (K : AV → Heap → Option α) : obnd (rq call s o .none) K = obnd (evO call s o) K := by
  simp only [rq, runQ]; cases evO call s o <;> rfl
theorem rq_one (s : St) (o : O) (z : Nat) (k : Bool) (K : AV → Heap → Option α) : obnd (rq call s o (.one z k)) K = obnd (evO call s o) (coK (.one z k) K) := by
  simp only [rq, runQ]; cases evO call s o <;> rfl
theorem rq_cells (s : St) (o : O) (l : List (Nat × Nat × Bool)) (K : AV → Heap → Option α) : obnd (rq call s o (.cells l)) K = obnd (evO call s o) (coK (.cells l) K) := by
  simp only [rq, runQ]; cases evO call s o <;> rfl
theorem rq_frz (s : St) (o : O) (K : AV → Heap → Option α) : obnd (rq call s o .frz) K = obnd (evO call s o) (coK .frz K) := by
  simp only [rq, runQ]; cases evO call s o <;> rfl
theorem rq_hol (m : Nat) (s : List AV) (h : Heap) (e : TypeId) (zs : List D) (i : Nat) (l : List (Nat × Nat × Bool)) (K : AV → Heap → Option α) : obnd (rq call ⟨m, s, h⟩ (.alloc e zs) (.hol i l)) K = K (.ptr i 0) h := rfl
def rfL (s : List AV) (l : List Nat) : List Nat := AV.refsL (l.map fun t => s.getD t .unk)
theorem rfL_nil (s : List AV) : rfL s [] = [] := rfl
theorem rfL_cons (s : List AV) (t : Nat) (l : List Nat) : rfL s (t :: l) = (s.getD t .unk).refs ++ rfL s l := rfl
def daK (r : List Nat) (h : Heap) (K : AV → Heap → Option α) (v : AV) (h' : Heap) : Option α := daC (r ++ (v.view h').refs) (v.view h') h K
where daC (r : List Nat) (v : AV) (h : Heap) (K : AV → Heap → Option α) : Option α := match r with | [] => K v h | _ => none
theorem daK_eq (r : List Nat) (h : Heap) (K : AV → Heap → Option α) (v : AV) (h' : Heap) : daK r h K v h' = daK.daC (r ++ (v.view h').refs) (v.view h') h K := rfl
theorem daC_nil (v : AV) (h : Heap) (K : AV → Heap → Option α) : daK.daC [] v h K = K v h := rfl
theorem rq_dat (m : Nat) (s : List AV) (h : Heap) (o : O) (K : AV → Heap → Option α) : obnd (rq call ⟨m, s, h⟩ o .dat) K = obnd (evO call ⟨m, s, []⟩ o) (daK (rfL s o.reads) h K) := by
  simp only [rq, runQ]
  cases evO call ⟨m, s, []⟩ o with
  | none => rfl
  | some r =>
    obtain ⟨v, h'⟩ := r
    simp only [obnd_some, daK, rfL]
    generalize AV.refsL (o.reads.map fun t => s.getD t .unk) = a
    generalize (v.view h').refs = b
    cases a <;> cases b <;> rfl
theorem l_cons (d : Option Nat) (o : O) (c : Co) (l : List Q) (m : Nat) (s : List AV) (h : Heap) (k : St → Option α) :
    lbnd (evL call (⟨d, none, o, c⟩ :: l) ⟨m, s, h⟩) k = obnd (rq call ⟨m, s, h⟩ o c) (nx m s d (rst call l k)) := by
  have : runQ call ⟨m, s, h⟩ ⟨d, none, o, c⟩ = rq call ⟨m, s, h⟩ o c := by cases c <;> rfl
  simp only [evL, evQ, wantQ, this]
  cases rq call ⟨m, s, h⟩ o c with
  | none => rfl
  | some r => obtain ⟨v, h'⟩ := r; cases d <;> rfl
/-- A guard. -/
def gd (b : Bool) (v : AV) (x y : Unit → Option α) : Option α := match v with
  | .tup [] => y ()
  | .d (.bool c) => if c == b then x () else y ()
  | _ => none
theorem gd_no (b : Bool) (x y : Unit → Option α) : gd b (.tup []) x y = y () := rfl
theorem gd_T (c : Bool) (x y : Unit → Option α) : gd true (.d (.bool c)) x y = two (.d (.bool c)) x y := by cases c <;> rfl
theorem gd_F (c : Bool) (x y : Unit → Option α) : gd false (.d (.bool c)) x y = two (.d (.bool c)) y x := by cases c <;> rfl
theorem l_guard (d : Option Nat) (t : Nat) (b : Bool) (o : O) (c : Co) (l : List Q) (m : Nat) (s : List AV) (h : Heap) (k : St → Option α) :
    lbnd (evL call (⟨d, some (t, b), o, c⟩ :: l) ⟨m, s, h⟩) k = gd b (s.getD t .unk) (oT call ⟨m, s, h⟩ o c (nx m s d (rst call l k))) (nT m s d (rst call l k) h) := by
  have hno : ∀ w, wantQ ⟨m, s, h⟩ (some (t, b)) = w → w = some false → lbnd (evL call (⟨d, some (t, b), o, c⟩ :: l) ⟨m, s, h⟩) k = nT m s d (rst call l k) h () := by
    intro w hw e
    simp only [evL, evQ, hw, e]
    cases d <;> rfl
  have hyes : ∀ w, wantQ ⟨m, s, h⟩ (some (t, b)) = w → w = some true → lbnd (evL call (⟨d, some (t, b), o, c⟩ :: l) ⟨m, s, h⟩) k = oT call ⟨m, s, h⟩ o c (nx m s d (rst call l k)) () := by
    intro w hw e
    have : runQ call ⟨m, s, h⟩ ⟨d, some (t, b), o, c⟩ = rq call ⟨m, s, h⟩ o c := by cases c <;> rfl
    simp only [evL, evQ, hw, e, oT, this]
    cases rq call ⟨m, s, h⟩ o c with
    | none => rfl
    | some r => obtain ⟨v, h'⟩ := r; cases d <;> rfl
  have hbad : wantQ ⟨m, s, h⟩ (some (t, b)) = none → lbnd (evL call (⟨d, some (t, b), o, c⟩ :: l) ⟨m, s, h⟩) k = none := by
    intro hw
    simp only [evL, evQ, hw, lbnd]
  unfold gd
  simp only [wantQ] at hno hyes hbad
  split
  · rename_i e
    rw [e] at hno
    exact hno _ rfl rfl
  · rename_i q e
    rw [e] at hno hyes
    cases hq : q == b
    · exact hno _ rfl (by simp [hq])
    · exact hyes _ rfl (by simp [hq])
  · rename_i e1 e2
    refine hbad ?_
    split
    · rename_i e; exact absurd e e1
    · rename_i q e; exact absurd e (e2 q)
    · rfl

/-! ### operations -/
def vD (o : Option D) : Option AV := match o with | some d => some (.d d) | none => none
def vB (ne : Bool) (o : Option Bool) : Option AV := match o with | some b => some (.d (.bool (if ne then !b else b))) | none => none
theorem vBF (b : Bool) : vB false (some b) = some (.d (.bool b)) := rfl
theorem vB_ite (ne b : Bool) (p : Prop) [Decidable p] : vB ne (if p then some b else none) = if p then some (.d (.bool (if ne then !b else b))) else none := by split <;> rfl
theorem vBT (b : Bool) : vB true (some b) = some (.d (.bool !b)) := rfl
def ncA : AV → Option AV
  | .ptr i o => some (.ptr i o)
  | .ept i z q c => some (.ept i z q c)
  | .cpt cs c => some (.cpt cs c)
  | _ => none
def binA (op : BinOp) : AV → AV → Option AV
  | .d a, .d b => vD (binD op a b)
  | _, _ => none
def beqA (ne : Bool) : AV → AV → Option AV
  | .d (.bool a), .d (.bool b) => some (.d (.bool (if ne then !(a == b) else a == b)))
  | _, _ => none
def eqsA (ks : List Nat) : Option (List D) → Option (List D) → Option Bool
  | some u, some v => sameD ks u v
  | _, _ => none
def unA (op : UnOp) : AV → Option AV
  | .d a => vD (unD op a)
  | _ => none
def cviA (q : IntKind) : AV → Option AV
  | .d (.int _ n) => some (.d (.int q (wr q n)))
  | _ => none
def cvsA : AV → Option AV
  | .d (.str t) => some (.d (.str t))
  | _ => none
def s2bA (h : Heap) : AV → Option (AV × Heap)
  | .d (.str t) => some (.own h.length 1 0 t.length false, h ++ [.arr 1 (t.map fun b => [.int .u8 b.toNat])])
  | _ => none
def b2sA (h : Heap) (v : AV) : Option AV := match v.asStr, tailA h 1 v with
  | none, some xs => match evO.bytesOf xs with | some t => some (.d (.str t)) | none => none
  | _, _ => none
def vL (o : Option (List AV)) : Option AV := match o with | some cs => some (.agg cs) | none => none
theorem vL_some (cs : List AV) : vL (some cs) = some (.agg cs) := rfl
def boxA (h : Heap) (o : Option (List AV)) : Option (AV × Heap) := match o with | some vs => some (.ptr h.length 0, h ++ [boxOf vs]) | none => none
theorem boxA_some (h : Heap) (vs : List AV) : boxA h (some vs) = some (.ptr h.length 0, h ++ [boxOf vs]) := rfl
def bslA (z n : Nat) (h : Heap) (own : List Nat) (o : Option (List D)) : Option (AV × Heap) := match o with
  | some ds => if ds.length = n * z then some (.own h.length z 0 n true, freezeAll own h ++ [.arr z (rows z n ds)]) else none
  | none => none
def plO (o : Option (List AV)) : Option (List D) := match o with | some cs => boxOf.plainD cs | none => none
theorem plO_some (cs : List AV) : plO (some cs) = boxOf.plainD cs := rfl
theorem bslA_some (z n : Nat) (h : Heap) (own : List Nat) (ds : List D) : bslA z n h own (some ds) = if ds.length = n * z then some (.own h.length z 0 n true, freezeAll own h ++ [.arr z (rows z n ds)]) else none := rfl
def extA (i : Nat) : AV → Option AV
  | .tup vs => if i < vs.length then some (vs.getD i .unk) else none
  | _ => none
def iaA (n z : Nat) : AV → AV → Option AV
  | .ptr j p, .d (.int _ q) => if 0 ≤ q ∧ q < n then some (.ptr j (p + q.toNat * z)) else none
  | _, _ => none
def isA' (z : Nat) (u : AV) : AV → Option AV
  | .d (.int _ q) => isA u q z
  | _ => none
def fldA (o n : Nat) (g : Bool) : AV → Option AV
  | .agg cs => if o + n ≤ cs.length then (if g then some (.agg ((cs.drop o).take n)) else if n = 1 then some (cs.getD o .unk) else none) else none
  | _ => none
def idxA (n z : Nat) (g : Bool) : AV → AV → Option AV
  | .agg cs, .d (.int _ q) => if 0 ≤ q ∧ q < n ∧ cs.length = n * z then (if g then some (.agg ((cs.drop (q.toNat * z)).take z)) else if z = 1 then some (cs.getD q.toNat .unk) else none) else none
  | _, _ => none
def stiA : AV → AV → Option AV
  | .d (.str t), .d (.int _ q) => if 0 ≤ q ∧ q.toNat < t.length then some (.d (.int .u8 (t.getD q.toNat 0).toNat)) else none
  | _, _ => none
def bd (s : List AV) : Option X → Option (Option Nat)
  | none => some none
  | some x => match (xv s x).asNat with | some n => some (some n) | none => none
def slB (z : Nat) (u : AV) : Option (Option Nat) → Option (Option Nat) → Option (Option Nat) → Option AV
  | some l, some r, some q => slA u l r q z
  | _, _, _ => none
def sslA : AV → Option (Option Nat) → Option (Option Nat) → Option AV
  | .d (.str t), some l, some r => if l.getD 0 ≤ r.getD t.length ∧ r.getD t.length ≤ t.length then some (.d (.str ((t.drop (l.getD 0)).take (r.getD t.length - l.getD 0)))) else none
  | _, _, _ => none
def vN (o : Option Nat) : Option AV := match o with | some n => some (.d (.int .i64 n)) | none => none
theorem vN_some (n : Nat) : vN (some n) = some (.d (.int .i64 n)) := rfl
def lensA : AV → Option AV
  | .d (.str t) => some (.d (.int .i64 t.length))
  | _ => none
def mxA : AV → AV → Option AV
  | .d a, .d b => vD (maxD a b)
  | _, _ => none
def mnA : AV → AV → Option AV
  | .d a, .d b => vD (minD a b)
  | _, _ => none
def appB (z b : Nat) (h : Heap) (u : AV) : Option (List (List D)) → Option (AV × Heap)
  | some ys => appA h z b u ys
  | none => none
def callvA (call : Callee) (r : Nat) (h : Heap) (xs : List AV) : AV → Option (AV × Heap)
  | .clo (.func f) a b => doCall call f (a ++ xs ++ b) r h
  | .d (.fn f) => doCall call f xs r h
  | _ => none

section
variable (m : Nat) (s : List AV) (h : Heap) (K : AV → Heap → Option α)
theorem o_mv (x : X) : obnd (evO call ⟨m, s, h⟩ (.mv x)) K = K (xv s x) h := by simp only [evO, x_xv]; rfl
def kT (K : AV → Heap → Option α) (v : AV) (h : Heap) (_ : Unit) : Option α := K v h
theorem kT_eq (v : AV) : kT K v h () = K v h := rfl
theorem o_pick (c a b : X) : obnd (evO call ⟨m, s, h⟩ (.pick c a b)) K = two (xv s c) (kT K (xv s a) h) (kT K (xv s b) h) := by
  simp only [evO, x_xv, two]
  cases (xv s c).asBool with
  | none => rfl
  | some t => cases t <;> rfl
theorem o_alloc (e : TypeId) (zs : List D) : obnd (evO call ⟨m, s, h⟩ (.alloc e zs)) K = K (.ptr h.length 0) (h ++ [.dbox zs]) := rfl
theorem o_box (e : TypeId) (x : X) : obnd (evO call ⟨m, s, h⟩ (.box e x)) K = obnd (boxA h (xv s x).cells) K := by
  simp only [evO, x_xv]; cases (xv s x).cells <;> rfl
theorem o_ld (a : X) (n : Nat) (g : Bool) : obnd (evO call ⟨m, s, h⟩ (.ld a n g)) K = okK K h (loadA h (xv s a) n g) := by
  simp only [evO, x_xv]; cases loadA h (xv s a) n g <;> rfl
theorem o_st (a x : X) (n : Nat) : obnd (evO call ⟨m, s, h⟩ (.st a x n)) K = okH K (storeA h (xv s a) (xv s x) n) := by
  simp only [evO, x_xv]; cases storeA h (xv s a) (xv s x) n <;> rfl
theorem o_nc (x : X) : obnd (evO call ⟨m, s, h⟩ (.nc x)) K = okK K h (ncA (xv s x)) := by
  simp only [evO, x_xv]; cases xv s x <;> rfl
theorem o_bin (op : BinOp) (x y : X) : obnd (evO call ⟨m, s, h⟩ (.bin op x y)) K = okK K h (binA op (xv s x) (xv s y)) := by
  simp only [evO, x_xv]
  cases xv s x <;> try rfl
  cases xv s y <;> try rfl
  rename_i a b
  simp only [binA]
  cases binD op a b <;> rfl
theorem o_beq (ne : Bool) (x y : X) : obnd (evO call ⟨m, s, h⟩ (.beq ne x y)) K = okK K h (beqA ne (xv s x) (xv s y)) := by
  simp only [evO, x_xv]
  generalize xv s x = u
  generalize xv s y = v
  cases u <;> try rfl
  rename_i a
  cases a <;> try rfl
  cases v <;> try rfl
  rename_i b
  cases b <;> rfl
theorem o_eqs (ne : Bool) (ks : List Nat) (x y : X) : obnd (evO call ⟨m, s, h⟩ (.eqs ne ks x y)) K = okK K h (vB ne (eqsA ks (xv s x).plain (xv s y).plain)) := by
  simp only [evO, x_xv]
  cases (xv s x).plain <;> try rfl
  cases (xv s y).plain <;> try rfl
  rename_i u v
  simp only [eqsA]
  cases sameD ks u v <;> rfl
theorem o_isn (ne : Bool) (q : Nat) (x : X) : obnd (evO call ⟨m, s, h⟩ (.isn ne q x)) K = okK K h (vB ne ((xv s x).isNil q)) := by
  simp only [evO, x_xv]
  cases (xv s x).isNil q <;> rfl
theorem o_un (op : UnOp) (x : X) : obnd (evO call ⟨m, s, h⟩ (.un op x)) K = okK K h (unA op (xv s x)) := by
  simp only [evO, x_xv]
  cases xv s x <;> try rfl
  rename_i a
  simp only [unA]
  cases unD op a <;> rfl
theorem o_cvi (q : IntKind) (x : X) : obnd (evO call ⟨m, s, h⟩ (.cvi q x)) K = okK K h (cviA q (xv s x)) := by
  simp only [evO, x_xv]
  generalize xv s x = u
  cases u <;> try rfl
  rename_i a
  cases a <;> rfl
theorem o_cvs (x : X) : obnd (evO call ⟨m, s, h⟩ (.cvs x)) K = okK K h (cvsA (xv s x)) := by
  simp only [evO, x_xv]
  generalize xv s x = u
  cases u <;> try rfl
  rename_i a
  cases a <;> rfl
theorem o_s2b (e : TypeId) (x : X) : obnd (evO call ⟨m, s, h⟩ (.s2b e x)) K = obnd (s2bA h (xv s x)) K := by
  simp only [evO, x_xv]
  generalize xv s x = u
  cases u <;> try rfl
  rename_i a
  cases a <;> rfl
theorem o_cvl (x : X) : obnd (evO call ⟨m, s, h⟩ (.cvl x)) K = obnd (cvlA h (xv s x)) K := by
  simp only [evO, x_xv]
theorem o_b2s (x : X) : obnd (evO call ⟨m, s, h⟩ (.b2s x)) K = okK K h (b2sA h (xv s x)) := by
  simp only [evO, x_xv, b2sA]
  cases (xv s x).asStr with
  | some _ => rfl
  | none =>
    cases tailA h 1 (xv s x) with
    | none => rfl
    | some xs =>
      simp only
      cases evO.bytesOf xs <;> rfl
def xp (s : List AV) (p : Nat × Nat × X) : Nat × Nat × AV := (p.1, p.2.1, xv s p.2.2)
theorem xp_eq (a b : Nat) (x : X) : xp s (a, b, x) = (a, b, xv s x) := rfl
def xw (s : List AV) (h : Heap) (p : Nat × Nat × X) : Nat × Nat × AV := (p.1, p.2.1, (xv s p.2.2).view h)
theorem xw_eq (a b : Nat) (x : X) : xw s h (a, b, x) = (a, b, (xv s x).view h) := rfl
def xq (s : List AV) (p : Nat × Nat × X) : AV := xv s p.2.2
theorem xq_eq (a b : Nat) (x : X) : xq s (a, b, x) = xv s x := rfl
theorem o_build (zs : List D) (ps : List (Nat × Nat × X)) : obnd (evO call ⟨m, s, h⟩ (.build zs ps)) K = okK K h (vL (fillA (zs.map .d) (ps.map (xp s)))) := by
  simp only [evO, x_xv]
  rw [show (fun p : Nat × Nat × X => (p.1, p.2.1, xv s p.2.2)) = xp s from rfl]
  cases fillA (zs.map .d) (ps.map (xp s)) <;> rfl
theorem o_bsl (e : TypeId) (z n : Nat) (zs : List D) (ps : List (Nat × Nat × X)) : obnd (evO call ⟨m, s, h⟩ (.bsl e z n zs ps)) K =
    obnd (bslA z n h (AV.ownsL (ps.map (xq s))) (plO (fillA (((List.replicate n zs).flatten).map .d) (ps.map (xw s h))))) K := by
  simp only [evO, x_xv]
  rw [show (fun p : Nat × Nat × X => (p.1, p.2.1, AV.view h (xv s p.2.2))) = xw s h from rfl, show (fun p : Nat × Nat × X => xv s p.2.2) = xq s from rfl]
  cases fillA (((List.replicate n zs).flatten).map .d) (ps.map (xw s h)) with
  | none => rfl
  | some cs =>
    simp only [plO]
    cases boxOf.plainD cs with
    | none => rfl
    | some ds => simp only [bslA]
theorem o_ext (x : X) (i : Nat) : obnd (evO call ⟨m, s, h⟩ (.ext x i)) K = okK K h (extA i (xv s x)) := by
  simp only [evO, x_xv]
  cases xv s x <;> try rfl
  simp only [extA]
  split <;> rfl
theorem o_fn (f : Fn) (a b : List X) : obnd (evO call ⟨m, s, h⟩ (.fn f a b)) K = K (.clo f (a.map (xv s)) (b.map (xv s))) h := by
  simp only [evO, St.xs]
  rw [show St.x ⟨m, s, h⟩ = xv s from funext fun x => x_xv m s h x]; rfl
theorem o_fa (a : X) (o : Nat) : obnd (evO call ⟨m, s, h⟩ (.fa a o)) K = okK K h (faA (xv s a) o) := by
  simp only [evO, x_xv]
  cases faA (xv s a) o <;> rfl
theorem o_ia (a i : X) (n z : Nat) : obnd (evO call ⟨m, s, h⟩ (.ia a i n z)) K = okK K h (iaA n z (xv s a) (xv s i)) := by
  simp only [evO, x_xv]
  generalize xv s a = u
  generalize xv s i = v
  cases u <;> try rfl
  cases v <;> try rfl
  rename_i b
  cases b <;> try rfl
  simp only [AV.asInt, iaA]
  split <;> rfl
theorem o_is (a i : X) (z : Nat) : obnd (evO call ⟨m, s, h⟩ (.is a i z)) K = okK K h (isA' z (xv s a) (xv s i)) := by
  simp only [evO, x_xv]
  generalize xv s i = v
  cases v <;> try rfl
  rename_i b
  cases b <;> try rfl
  rename_i q n
  simp only [AV.asInt, isA']
  cases isA (xv s a) n z <;> rfl
theorem o_fld (x : X) (o n : Nat) (g : Bool) : obnd (evO call ⟨m, s, h⟩ (.fld x o n g)) K = okK K h (fldA o n g (xv s x)) := by
  simp only [evO, x_xv]
  cases xv s x <;> try rfl
  simp only [fldA]
  split
  · split
    · rfl
    · split <;> rfl
  · rfl
theorem o_idx (x i : X) (n z : Nat) (g : Bool) : obnd (evO call ⟨m, s, h⟩ (.idx x i n z g)) K = okK K h (idxA n z g (xv s x) (xv s i)) := by
  simp only [evO, x_xv]
  generalize xv s x = u
  generalize xv s i = v
  cases u <;> try rfl
  cases v <;> try rfl
  rename_i b
  cases b <;> try rfl
  simp only [AV.asInt, idxA]
  split
  · split
    · rfl
    · split <;> rfl
  · rfl
theorem o_sti (x i : X) : obnd (evO call ⟨m, s, h⟩ (.sti x i)) K = okK K h (stiA (xv s x) (xv s i)) := by
  simp only [evO, x_xv]
  generalize xv s x = u
  generalize xv s i = v
  cases u <;> try rfl
  rename_i a
  cases a <;> try rfl
  cases v <;> try rfl
  rename_i b
  cases b <;> try rfl
  simp only [AV.asInt, AV.asStr, stiA]
  split <;> rfl
theorem bound_bd (x : Option X) : evO.bound ⟨m, s, h⟩ x = bd s x := by
  cases x with
  | none => rfl
  | some x => simp only [evO.bound, x_xv, bd]; cases (xv s x).asNat <;> rfl
theorem o_sl (x : X) (lo hi mx : Option X) (z : Nat) : obnd (evO call ⟨m, s, h⟩ (.sl x lo hi mx z)) K = okK K h (slB z (xv s x) (bd s lo) (bd s hi) (bd s mx)) := by
  simp only [evO, x_xv, bound_bd]
  cases bd s lo <;> try rfl
  cases bd s hi <;> try rfl
  cases bd s mx <;> try rfl
  rename_i l r q
  simp only [slB]
  cases slA (xv s x) l r q z <;> rfl
theorem o_ssl (x : X) (lo hi : Option X) : obnd (evO call ⟨m, s, h⟩ (.ssl x lo hi)) K = okK K h (sslA (xv s x) (bd s lo) (bd s hi)) := by
  simp only [evO, x_xv, bound_bd]
  generalize xv s x = u
  cases u <;> try rfl
  rename_i a
  cases a <;> try rfl
  cases bd s lo <;> try rfl
  cases bd s hi <;> try rfl
  simp only [AV.asStr, sslA]
  split <;> rfl
theorem o_mi (t : TypeId) (x : X) : obnd (evO call ⟨m, s, h⟩ (.mi t x)) K = K (.ifc t (xv s x)) h := by simp only [evO, x_xv]; rfl
theorem o_len (x : X) : obnd (evO call ⟨m, s, h⟩ (.len x)) K = okK K h (vN (lenA (xv s x))) := by
  simp only [evO, x_xv]; cases lenA (xv s x) <;> rfl
theorem o_lens (x : X) : obnd (evO call ⟨m, s, h⟩ (.lens x)) K = okK K h (lensA (xv s x)) := by
  simp only [evO, x_xv]
  generalize xv s x = u
  cases u <;> try rfl
  rename_i a
  cases a <;> rfl
theorem o_lenc (n : Nat) : obnd (evO call ⟨m, s, h⟩ (.lenc n)) K = K (.d (.int .i64 n)) h := rfl
def gotA (z : AV) : Option D → AV
  | none => z
  | some d => avD d
theorem gotA_none (z : AV) : gotA z none = z := rfl
theorem gotA_some (z : AV) (d : D) : gotA z (some d) = avD d := rfl
def mgA (z : AV) (ok : Bool) (es : Option (List (Int × D))) (n : Option Int) : Option AV := match es, n with
  | some es, some n => some (if ok then .tup [gotA z (findM n es), .d (.bool (findM n es).isSome)] else gotA z (findM n es))
  | _, _ => none
theorem mgA_T (z : AV) (es : List (Int × D)) (n : Int) : mgA z true (some es) (some n) = some (.tup [gotA z (findM n es), .d (.bool (findM n es).isSome)]) := rfl
theorem mgA_F (z : AV) (es : List (Int × D)) (n : Int) : mgA z false (some es) (some n) = some (gotA z (findM n es)) := rfl
def mpA (h : Heap) (x : AV) (n : Option Int) (v : AV) : Option Heap := match n with | some n => mputA h x n v | none => none
theorem mpA_some (h : Heap) (x : AV) (n : Int) (v : AV) : mpA h x (some n) v = mputA h x n v := rfl
def mdA (h : Heap) (x : AV) (n : Option Int) : Option (AV × Heap) := match n with
  | some n => match mdelA h x n with | some h => some (.tup [], h) | none => none
  | none => none
def mlA (es : Option (List (Int × D))) : Option AV := match es with | some es => some (.d (.int .i64 es.length)) | none => none
theorem mlA_some (es : List (Int × D)) : mlA (some es) = some (.d (.int .i64 es.length)) := rfl
theorem o_mmk : obnd (evO call ⟨m, s, h⟩ .mmk) K = K (.mref h.length) (h ++ [.mp []]) := rfl
theorem o_mget (x k : X) (z : AV) (ok : Bool) : obnd (evO call ⟨m, s, h⟩ (.mget x k z ok)) K = okK K h (mgA z ok (mapA h (xv s x)) (xv s k).asI64) := by
  simp only [evO, x_xv]
  cases mapA h (xv s x) <;> try rfl
  cases (xv s k).asI64 <;> try rfl
  rename_i es n
  simp only [mgA, getA, okK, obnd]
  cases findM n es <;> rfl
theorem o_mput (x k v : X) : obnd (evO call ⟨m, s, h⟩ (.mput x k v)) K = okH K (mpA h (xv s x) (xv s k).asI64 (xv s v)) := by
  simp only [evO, x_xv]
  cases (xv s k).asI64 <;> try rfl
  rename_i n
  simp only [mpA]
  cases mputA h (xv s x) n (xv s v) <;> rfl
theorem o_mdel (x k : X) : obnd (evO call ⟨m, s, h⟩ (.mdel x k)) K = obnd (mdA h (xv s x) (xv s k).asI64) K := by
  simp only [evO, x_xv]
  cases (xv s k).asI64 <;> rfl
theorem o_mlen (x : X) : obnd (evO call ⟨m, s, h⟩ (.mlen x)) K = okK K h (mlA (mapA h (xv s x))) := by
  simp only [evO, x_xv]; cases mapA h (xv s x) <;> rfl
theorem mapA_nilm (h : Heap) : mapA h (.d .nilm) = some [] := rfl
theorem mapA_mapv (h : Heap) (es : List (Int × D)) : mapA h (.d (.mapv es)) = some es := rfl
theorem asI64_i (n : Int) : (AV.d (.int .i64 n)).asI64 = some n := rfl
theorem o_mx (x y : X) : obnd (evO call ⟨m, s, h⟩ (.mx x y)) K = okK K h (mxA (xv s x) (xv s y)) := by
  simp only [evO, x_xv]
  cases xv s x <;> try rfl
  cases xv s y <;> try rfl
  rename_i a b
  simp only [mxA]
  cases maxD a b <;> rfl
theorem o_mn (x y : X) : obnd (evO call ⟨m, s, h⟩ (.mn x y)) K = okK K h (mnA (xv s x) (xv s y)) := by
  simp only [evO, x_xv]
  cases xv s x <;> try rfl
  cases xv s y <;> try rfl
  rename_i a b
  simp only [mnA]
  cases minD a b <;> rfl
theorem o_app (e : TypeId) (z b : Nat) (x y : X) : obnd (evO call ⟨m, s, h⟩ (.app e z b x y)) K = obnd (appB z b h (xv s x) (tailA h z (xv s y))) K := by
  simp only [evO, x_xv]; cases tailA h z (xv s y) <;> rfl
theorem o_call (f : FuncId) (xs : List X) (r : Nat) : obnd (evO call ⟨m, s, h⟩ (.call f xs r)) K = obnd (doCall call f (xs.map (xv s)) r h) K := by
  simp only [evO, St.xs]
  rw [show St.x ⟨m, s, h⟩ = xv s from funext fun x => x_xv m s h x]
def clrB (zs : List D) (h : Heap) (i z o n : Nat) : Blk → Option (AV × Heap)
  | .arr z' xs => if z' = z ∧ zs.length = z ∧ o + n = xs.length then some (.tup [], h.set i (.arr z' (xs.take o))) else none
  | _ => none
def cpyB (z : Nat) (h : Heap) (i z1 o n : Nat) : Option (List (List D)) → Blk → Option (AV × Heap)
  | some ys, .arr z' xs => if z1 = z ∧ z' = z ∧ o + n ≤ xs.length ∧ ys.length ≤ n then some (.d (.int .i64 ys.length), h.set i (.arr z' (xs.take o ++ ys ++ xs.drop (o + ys.length)))) else none
  | _, _ => none
theorem blt_clr (zs : List D) (h : Heap) (i z o n : Nat) (k : Bool) : bltA (.clr zs) [.own i z o n k] h = clrB zs h i z o n (h.getD i .dead) := by
  show (match h.getD i .dead with | .arr z' xs => _ | _ => _) = _
  cases h.getD i .dead <;> rfl
theorem blt_cpy (z : Nat) (h : Heap) (i z1 o n : Nat) (k : Bool) (y : AV) : bltA (.cpy z) [.own i z1 o n k, y] h = cpyB z h i z1 o n (tailA h z y) (h.getD i .dead) := by
  show (match tailA h z y, h.getD i .dead with | some ys, .arr z' xs => _ | _, _ => _) = _
  cases tailA h z y <;> cases h.getD i .dead <;> rfl
theorem o_bcall (k : BK) (xs : List X) : obnd (evO call ⟨m, s, h⟩ (.bcall k xs)) K = obnd (bltA k (xs.map (xv s)) h) K := by
  simp only [evO, St.xs]
  rw [show St.x ⟨m, s, h⟩ = xv s from funext fun x => x_xv m s h x]
theorem o_callv (x : X) (xs : List X) (r : Nat) : obnd (evO call ⟨m, s, h⟩ (.callv x xs r)) K = obnd (callvA call r h (xs.map (xv s)) (xv s x)) K := by
  simp only [evO, x_xv, St.xs]
  rw [show St.x ⟨m, s, h⟩ = xv s from funext fun x => x_xv m s h x]
  unfold callvA
  split <;> simp_all
end

/-! ### calls -/
section
variable {α : Type} {call : Callee}
def bck (ids : List Nat) (n j : Nat) : Option Nat := if j < ids.length then ids[j]? else some (n + (j - ids.length))
def kTu (K : AV → Heap → Option α) (v : AV) (h : Heap) (_ : Unit) : Option α := K v h
theorem kTu_eq (K : AV → Heap → Option α) (v : AV) (h : Heap) : kTu K v h () = K v h := rfl
def cbr (K : AV → Heap → Option α) (ids : List Nat) (H H1 : Heap) (r : Option (AV × Heap)) : Option α := match r with
  | none => none
  | some (v, H') => if ids = [] ∧ v.scalar = true then K v H
    else K (v.ren (bck ids H.length)) (doCallB.setBack ids ((H'.take ids.length).map (Blk.ren (bck ids H.length))) H1 ++ (H'.drop ids.length).map (Blk.ren (bck ids H.length)))
theorem cbr_nil (K : AV → Heap → Option α) (H H1 : Heap) (v : AV) (H' : Heap) : cbr K [] H H1 (some (v, H')) = two (.d (.bool v.scalar)) (kTu K v H) (kTu K (v.ren (bck [] H.length)) (H1 ++ H'.map (Blk.ren (bck [] H.length)))) := by
  simp only [cbr]
  cases hv : v.scalar
  · simp only [Bool.false_eq_true, and_false, if_false]; rfl
  · simp only [and_self, if_true]; rfl
theorem cbr_cons (K : AV → Heap → Option α) (i : Nat) (ids : List Nat) (H H1 : Heap) (v : AV) (H' : Heap) : cbr K (i :: ids) H H1 (some (v, H')) =
    K (v.ren (bck (i :: ids) H.length)) (doCallB.setBack (i :: ids) ((H'.take (i :: ids).length).map (Blk.ren (bck (i :: ids) H.length))) H1 ++ (H'.drop (i :: ids).length).map (Blk.ren (bck (i :: ids) H.length))) := rfl
theorem o_BF (f : FuncId) (args : List AV) (H : Heap) (K : AV → Heap → Option α) : obnd (doCallB call f args false H) K =
    cbr K (reach 1000 H (AV.refsL (AV.viewL H args)) []) H (freezeAll (AV.ownsL args) H) (call f (AV.renL (posOf (reach 1000 H (AV.refsL (AV.viewL H args)) [])) (AV.viewL H args)) (renH (reach 1000 H (AV.refsL (AV.viewL H args)) []) (freezeAll (AV.ownsL args) H))) := by
  simp only [doCallB, Bool.false_eq_true, if_false]
  generalize call f _ _ = r
  cases r with
  | none => rfl
  | some r =>
    obtain ⟨v, H'⟩ := r
    simp only [cbr]
    split <;> rfl
theorem o_BT (f : FuncId) (args : List AV) (H : Heap) (K : AV → Heap → Option α) : obnd (doCallB call f args true H) K =
    cbr K (reach 1000 H (AV.refsL args) []) H H (call f (AV.renL (posOf (reach 1000 H (AV.refsL args) [])) args) (renH (reach 1000 H (AV.refsL args) []) H)) := by
  simp only [doCallB, if_true]
  have : freezeAll [] H = H := rfl
  rw [this]
  generalize call f _ _ = r
  cases r with
  | none => rfl
  | some r =>
    obtain ⟨v, H'⟩ := r
    simp only [cbr]
    split <;> rfl
theorem setB_nil (bs : List Blk) (H : Heap) : doCallB.setBack [] bs H = H := by cases bs <;> rfl
theorem setB_cons (i : Nat) (ids : List Nat) (b : Blk) (bs : List Blk) (H : Heap) : doCallB.setBack (i :: ids) (b :: bs) H = doCallB.setBack ids bs (H.set i b) := rfl
theorem bck_def (ids : List Nat) (n j : Nat) : bck ids n j = if j < ids.length then ids[j]? else some (n + (j - ids.length)) := rfl
theorem getq0 (x : Nat) (l : List Nat) : (x :: l)[0]? = some x := rfl
theorem getqs (x : Nat) (l : List Nat) (n : Nat) : (x :: l)[n + 1]? = l[n]? := rfl
end

/-! ### values -/
section
variable (k : IntKind) (a b : Int) (x y : List UInt8)
theorem i_add : binA .add (.d (.int k a)) (.d (.int k b)) = some (.d (.int k (wr k (a + b)))) := by simp [binA, binD, binInt, vD]
theorem i_sub : binA .sub (.d (.int k a)) (.d (.int k b)) = some (.d (.int k (wr k (a - b)))) := by simp [binA, binD, binInt, vD]
theorem i_mul : binA .mul (.d (.int k a)) (.d (.int k b)) = some (.d (.int k (wr k (a * b)))) := by simp [binA, binD, binInt, vD]
theorem i_quo : binA .quo (.d (.int k a)) (.d (.int k b)) = if b ≠ 0 then some (.d (.int k (wr k (a.tdiv b)))) else none := by by_cases h : b = 0 <;> simp [binA, binD, binInt, vD, h]
theorem i_rem : binA .rem (.d (.int k a)) (.d (.int k b)) = if b ≠ 0 then some (.d (.int k (a.tmod b))) else none := by by_cases h : b = 0 <;> simp [binA, binD, binInt, vD, h]
theorem i_eql : binA .eql (.d (.int k a)) (.d (.int k b)) = some (.d (.bool (decide (a = b)))) := by simp only [binA, binD, binInt, if_true]; rfl
theorem i_neq : binA .neq (.d (.int k a)) (.d (.int k b)) = some (.d (.bool (decide (a ≠ b)))) := by simp [binA, binD, binInt, vD, bne]; rfl
theorem i_lss : binA .lss (.d (.int k a)) (.d (.int k b)) = some (.d (.bool (decide (a < b)))) := by simp [binA, binD, binInt, vD]
theorem i_leq : binA .leq (.d (.int k a)) (.d (.int k b)) = some (.d (.bool (decide (a ≤ b)))) := by simp [binA, binD, binInt, vD]
theorem i_gtr : binA .gtr (.d (.int k a)) (.d (.int k b)) = some (.d (.bool (decide (b < a)))) := by simp [binA, binD, binInt, vD]
theorem i_geq : binA .geq (.d (.int k a)) (.d (.int k b)) = some (.d (.bool (decide (b ≤ a)))) := by simp [binA, binD, binInt, vD]
theorem i_and : binA .and (.d (.int k a)) (.d (.int k b)) = some (.d (.int k (bits (fun _ x y => x &&& y) k a b))) := by simp [binA, binD, binInt, vD]
theorem i_or : binA .or (.d (.int k a)) (.d (.int k b)) = some (.d (.int k (bits (fun _ x y => x ||| y) k a b))) := by simp [binA, binD, binInt, vD]
theorem i_xor : binA .xor (.d (.int k a)) (.d (.int k b)) = some (.d (.int k (bits (fun _ x y => x ^^^ y) k a b))) := by simp [binA, binD, binInt, vD]
theorem i_shl (k' : IntKind) : binA .shl (.d (.int k a)) (.d (.int k' b)) = if 0 ≤ b then some (.d (.int k (wr k (a * 2 ^ (min b.toNat k.bits))))) else none := by
  by_cases h : b < 0
  · simp [binA, binD, binSh, vD, h, Int.not_le.2 h]
  · simp [binA, binD, binSh, vD, h, Int.not_lt.1 h]
theorem i_shr (k' : IntKind) : binA .shr (.d (.int k a)) (.d (.int k' b)) = if 0 ≤ b then some (.d (.int k (a.fdiv (2 ^ (min b.toNat k.bits))))) else none := by
  by_cases h : b < 0
  · simp [binA, binD, binSh, vD, h, Int.not_le.2 h]
  · simp [binA, binD, binSh, vD, h, Int.not_lt.1 h]
theorem s_add : binA .add (.d (.str x)) (.d (.str y)) = if x.length + y.length ≤ 9223372036854775807 then some (.d (.str (x ++ y))) else none := by
  by_cases h : x.length + y.length ≤ 9223372036854775807
  · have h' : ¬ (((x.length + y.length : Nat) : Int) > 9223372036854775807) := by omega
    simp only [binA, binD, binStr, if_neg h', vD, if_pos h]
  · have h' : (((x.length + y.length : Nat) : Int) > 9223372036854775807) := by omega
    simp only [binA, binD, binStr, if_pos h', vD, if_neg h]
theorem beqd (x y : List UInt8) : (x == y) = decide (x = y) := by by_cases h : x = y <;> simp [h]
theorem s_eql : binA .eql (.d (.str x)) (.d (.str y)) = some (.d (.bool (decide (x = y)))) := by
  simp only [binA, binD, binStr, vD]; congr 3; exact (beqd x y)
theorem s_neq : binA .neq (.d (.str x)) (.d (.str y)) = some (.d (.bool (decide (x ≠ y)))) := by
  simp only [binA, binD, binStr, vD]; congr 3
  rw [beqd]; simp
theorem s_lss : binA .lss (.d (.str x)) (.d (.str y)) = some (.d (.bool (bytesLt x y))) := by simp [binA, binD, binStr, vD]
theorem s_gtr : binA .gtr (.d (.str x)) (.d (.str y)) = some (.d (.bool (!(bytesLt x y || x == y)))) := by simp [binA, binD, binStr, vD]
theorem s_leq : binA .leq (.d (.str x)) (.d (.str y)) = some (.d (.bool (bytesLt x y || x == y))) := by simp [binA, binD, binStr, vD]
theorem s_geq : binA .geq (.d (.str x)) (.d (.str y)) = some (.d (.bool (!(bytesLt x y)))) := by simp [binA, binD, binStr, vD]
theorem n_not (b : Bool) : unA .not (.d (.bool b)) = some (.d (.bool !b)) := by simp [unA, unD, vD]
theorem n_neg : unA .neg (.d (.int k a)) = some (.d (.int k (wr k (0 - a)))) := by simp [unA, unD, vD]
theorem q_eqF (a b : Bool) : beqA false (.d (.bool a)) (.d (.bool b)) = some (.d (.bool (a == b))) := rfl
theorem q_eqT (a b : Bool) : beqA true (.d (.bool a)) (.d (.bool b)) = some (.d (.bool (!(a == b)))) := rfl
theorem m_max : mxA (.d (.int k a)) (.d (.int k b)) = some (.d (.int k (max a b))) := by
  simp only [mxA, maxD, if_true, vD]
  congr 3
  split <;> omega
theorem m_min : mnA (.d (.int k a)) (.d (.int k b)) = some (.d (.int k (min a b))) := by
  simp only [mnA, minD, if_true, vD]
  congr 3
  split <;> omega
end

/-! ### the function as a whole -/
def ends (K : AV → Heap → Option α) (m : Nat) (h : Heap) (o : Option (List AV)) : Option α := match o with
  | some vs => K (AV.ren (posOf (liveIds m h [oneOf vs])) (oneOf vs)) (renH (liveIds m h [oneOf vs]) h)
  | none => none
def pr2 (v : AV) (h : Heap) : Option (AV × Heap) := some (v, h)
theorem pr2_eq (v : AV) (h : Heap) : pr2 v h = some (v, h) := rfl
theorem ends_some (K : AV → Heap → Option α) (m : Nat) (h : Heap) (vs : List AV) : ends K m h (some vs) = K (AV.ren (posOf (liveIds m h [oneOf vs])) (oneOf vs)) (renH (liveIds m h [oneOf vs]) h) := rfl
def fin (fn : F) (e : Ex) (st : St) : Option (AV × Heap) := match e with
  | .normal | .ret => ends pr2 st.m st.h (evR st fn.res)
  | .exit _ => none
theorem fin_normal (fn : F) (m : Nat) (s : List AV) (h : Heap) : fin fn .normal ⟨m, s, h⟩ = ends pr2 m h (evR ⟨m, s, h⟩ fn.res) := rfl
theorem fin_ret (fn : F) (m : Nat) (s : List AV) (h : Heap) : fin fn .ret ⟨m, s, h⟩ = ends pr2 m h (evR ⟨m, s, h⟩ fn.res) := rfl
theorem fin_exit (fn : F) (i : Nat) (st : St) : fin fn (.exit i) st = none := rfl
theorem evF_bnd (fn : F) (args : List AV) (H : Heap) : evF call lp fn args H = bnd (evC call lp fn.body ⟨H.length, args ++ List.replicate (fn.n - args.length) .unk, H⟩) (fin fn) := by
  unfold evF
  cases h : evC call lp fn.body ⟨H.length, args ++ List.replicate (fn.n - args.length) .unk, H⟩ with
  | none => rfl
  | some r =>
    obtain ⟨e, st⟩ := r
    cases e <;> simp only [bnd, fin] <;> cases evR st fn.res <;> rfl
def cns (v : AV) (o : Option (List AV)) : Option (List AV) := match o with | some vs => some (v :: vs) | none => none
theorem cns_some (v : AV) (vs : List AV) : cns v (some vs) = some (v :: vs) := rfl
def cnO (v : Option AV) (o : Option (List AV)) : Option (List AV) := match v, o with | some v, some vs => some (v :: vs) | _, _ => none
theorem cnO_some (v : AV) (vs : List AV) : cnO (some v) (some vs) = some (v :: vs) := rfl
theorem evR_nil (m : Nat) (s : List AV) (h : Heap) : evR ⟨m, s, h⟩ [] = some [] := rfl
theorem evR_tmp (m : Nat) (s : List AV) (h : Heap) (t : Nat) (l : List RV) : evR ⟨m, s, h⟩ (.tmp t :: l) = cns (s.getD t .unk) (evR ⟨m, s, h⟩ l) := by
  simp only [evR]; cases evR ⟨m, s, h⟩ l <;> rfl
theorem evR_cell (m : Nat) (s : List AV) (h : Heap) (t n : Nat) (g : Bool) (l : List RV) : evR ⟨m, s, h⟩ (.cell t n g :: l) = cnO (loadA h (s.getD t .unk) n g) (evR ⟨m, s, h⟩ l) := by
  simp only [evR]; cases loadA h (s.getD t .unk) n g <;> try rfl
end
end Go.Ev
