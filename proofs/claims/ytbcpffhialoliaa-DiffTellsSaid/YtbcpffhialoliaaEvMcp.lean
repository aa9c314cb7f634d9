/- maps.Copy as a native, at elements of three whole numbers and bytes. Own work. -/
import Derived.Shelf.SlMaps.Copy
import Derived.Test.YtbcpffhialoliaaEvNatS
import Derived.Test.YtbcpffhialoliaaEvMop
namespace Go.Ev
open Go Go.RowKit Go.Maps Go.Proofs
set_option linter.unusedVariables false
set_option linter.unnecessarySimpa false
set_option linter.unusedSimpArgs false
def mergeM {α : Type} (es fs : List (Int × α)) : List (Int × α) := fs.foldl (fun m p => putM p.1 p.2 m) es
theorem merge_rel {w : World} {S : Sta} : ∀ {css : List (Int × Value)} {fs : List (Int × D)} {csd : List (Int × Value)} {es : List (Int × D)}, MapR w S csd es → MapR w S css fs → MapR w S (mergeM csd css) (mergeM es fs)
  | [], [], csd, es, h, _ => h
  | [], _ :: _, _, _, _, h => by simpa using h.key
  | _ :: _, [], _, _, _, h => by simpa using h.key
  | (a, v) :: css, (b, d) :: fs, csd, es, h, h2 => by
    obtain ⟨q1, q2, q3⟩ := h2.cons
    simp only at q1 q2
    subst q1
    exact merge_rel (csd := putM b v csd) (es := putM b d es) (put_rel b q2 h) q3
theorem merge_srt {α : Type} : ∀ {fs es : List (Int × α)}, SrtM es → SrtM (mergeM es fs)
  | [], _, h => h
  | p :: fs, _, h => merge_srt (fs := fs) (putM_srt h)
theorem same_int (a k : Int) : (Lit.int .i64 a).sameKey (.int .i64 k) = decide (a = k) := by simp [Lit.sameKey]
theorem before_int (a k : Int) : (Lit.int .i64 a).before (.int .i64 k) = decide (a < k) := by simp [Lit.before]
theorem filt_id {k : Int} : ∀ {cs : List (Int × Value)}, (∀ p ∈ cs, p.1 ≠ k) → (cs.map dmA).filter (fun p => !p.1.sameKey (.int .i64 k)) = cs.map dmA
  | [], _ => rfl
  | (a, d) :: cs, h => by
    have h1 := h (a, d) (List.mem_cons_self ..)
    simp only at h1
    rw [List.map_cons, List.filter_cons, filt_id fun p hp => h p (List.mem_cons_of_mem _ hp)]
    simp [dmA, same_int, h1]
theorem ins_dmA (k : Int) (v : Value) : ∀ {cs : List (Int × Value)}, SrtM cs → DataW.insert (dmA (k, v)) ((cs.map dmA).filter (fun p => !p.1.sameKey (.int .i64 k))) = (putM k v cs).map dmA
  | [], _ => rfl
  | (a, d) :: cs, hs => by
    obtain ⟨h1, h2⟩ := List.pairwise_cons.1 hs
    by_cases c1 : k < a
    · rw [filt_id (cs := (a, d) :: cs) (fun p hp => by
        rcases List.mem_cons.1 hp with rfl | hp
        · show a ≠ k; omega
        · have := h1 p hp; simp only at this; omega)]
      rw [putM, if_pos c1]
      simp [DataW.insert, dmA, before_int, c1]
    · by_cases c2 : k = a
      · subst c2
        have e : ((k, d) :: cs).map dmA = dmA (k, d) :: cs.map dmA := rfl
        rw [e, List.filter_cons]
        have hsame : (!(dmA (k, d)).1.sameKey (.int .i64 k)) = false := by simp [dmA, same_int]
        rw [hsame, if_neg (by simp), filt_id (fun p hp => by have := h1 p hp; simp only at this; omega), putM, if_neg c1, if_pos rfl]
        cases cs with
        | nil => rfl
        | cons q cs =>
          have hq := h1 q (List.mem_cons_self ..)
          simp only at hq
          simp [DataW.insert, dmA, before_int, hq]
      · have e : ((a, d) :: cs).map dmA = dmA (a, d) :: cs.map dmA := rfl
        rw [e, List.filter_cons]
        have hsame : (!(dmA (a, d)).1.sameKey (.int .i64 k)) = true := by simp [dmA, same_int]; omega
        rw [hsame, if_pos rfl, putM, if_neg c1, if_neg c2, List.map_cons, ← ins_dmA k v h2]
        have hb : (dmA (k, v)).1.before (dmA (a, d)).1 = false := by
          show (Lit.int .i64 k).before (.int .i64 a) = false
          rw [before_int]; exact decide_eq_false c1
        rw [DataW.insert, hb, if_neg (by simp)]
theorem put_dmA (k : Int) (v : Value) {cs : List (Int × Value)} (h : SrtM cs) : (DataW.map (cs.map dmA)).put (.int .i64 k) (.held v) = .map ((putM k v cs).map dmA) := by
  show DataW.map (DataW.insert (dmA (k, v)) _) = _
  rw [ins_dmA k v h]
theorem merge_dmA : ∀ {css csd : List (Int × Value)}, SrtM csd → Lib.mergeD (.map (csd.map dmA)) (.map (css.map dmA)) = .map ((mergeM csd css).map dmA)
  | [], csd, _ => rfl
  | (k, v) :: css, csd, h => by
    have ih := merge_dmA (css := css) (csd := putM k v csd) (putM_srt h)
    show ((css.map dmA).foldl (fun D p => D.put p.1 p.2) ((DataW.map (csd.map dmA)).put (.int .i64 k) (.held v))) = _
    rw [put_dmA k v h]
    exact ih
def backA (p : Lit × DataW Value) : Value × Value := (match p.1 with | .int k n => .int k n | _ => undef, match p.2 with | .held v => v | _ => undef)
theorem keyI {P : Program} {kt : TypeId} (hk3 : P.underlying kt = some (.int .i64)) {x : Value} {l : Lit} (h : keyOf P kt x = some l) : ∃ n, x = .int .i64 n ∧ l = .int .i64 n := by
  obtain ⟨n, h1, h2⟩ := Maps.keyOf_int_inv hk3 h
  exact ⟨n, h1, h2.1⟩
/-- A map that reads so holds just these entries. -/
theorem ents_of_own {P : Program} {kt : TypeId} (K : Keyed P kt) (hk3 : P.underlying kt = some (.int .i64)) {R : Value → Option (DataW Value × List MemPlace)} (hR : ∀ v y, R v = some y → y.1 = .held v) {w : World} {b n : Nat} {cs : List (Int × Value)} (hs : SrtM cs) (h : w.ownsMap P kt R b n (.map (cs.map dmA))) :
    ∃ ents clk, w.heap[b]? = some (.map ents clk) ∧ Ents ents clk cs := by
  obtain ⟨ents, clk, hb, F, _, hD⟩ := h
  refine ⟨ents, clk, hb, hs, ?_, F.stamped⟩
  have hL : (ents.toList.map (WideElems.rg P kt R)).Perm (cs.map dmA) := by
    injection hD with hD
    rw [hD]
    exact (WideShapes.sorted_perm _).symm
  have e1 : kvs ents = (ents.toList.map (WideElems.rg P kt R)).map backA := by
    unfold kvs
    rw [List.map_map]
    refine List.map_congr_left fun x hx => ?_
    obtain ⟨y, hy⟩ := F.reads x hx
    have hk := WideElems.rd_key hy
    obtain ⟨n, hxk, hyk⟩ := keyI hk3 hk
    have hv : y.2 = .held x.val := by
      unfold WideElems.rd at hy
      simp only [Option.bind_eq_some_iff, Option.map_eq_some_iff] at hy
      obtain ⟨key, _, d, hd, rfl⟩ := hy
      exact hR _ _ hd
    show (x.key, x.val) = backA (WideElems.rg P kt R x)
    unfold WideElems.rg
    rw [hy, Option.getD_some]
    unfold backA
    rw [hyk, hv, hxk]
  have e2 : cs.map kv = (cs.map dmA).map backA := by
    rw [List.map_map]
    exact List.map_congr_left fun p _ => rfl
  rw [e1, e2]
  exact hL.map backA
theorem owns_R {P : Program} {kt : TypeId} (K : Keyed P kt) (hk3 : P.underlying kt = some (.int .i64)) {R : Value → Option (DataW Value × List MemPlace)} {w : World} {b : Nat} {ents : Array MapEntry} {clk : Nat} {cs : List (Int × Value)} (hb : w.heap[b]? = some (.map ents clk)) (h : Ents ents clk cs) (hn : cs.length ≤ maxLen)
    (hk : ∀ p ∈ cs, (Lit.int .i64 p.1).wf = true) (hR : ∀ p ∈ cs, R p.2 = some (.held p.2, [])) : w.ownsMap P kt R b cs.length (.map (cs.map dmA)) := by
  have hrd : ∀ x ∈ ents.toList, ∃ p ∈ cs, x.key = .int .i64 p.1 ∧ x.val = p.2 := fun x hx => by
    have : (x.key, x.val) ∈ kvs ents := List.mem_map.2 ⟨x, hx, rfl⟩
    obtain ⟨p, hp, hq⟩ := List.mem_map.1 (h.prm.mem_iff.1 this)
    exact ⟨p, hp, (congrArg Prod.fst hq).symm, (congrArg Prod.snd hq).symm⟩
  have key : ∀ p ∈ cs, keyOf P kt (.int .i64 p.1) = some (.int .i64 p.1) := fun p hp => Maps.keyOf_int_mk hk3 (hk p hp)
  have hsz : ents.size = cs.length := h.len
  have F : WideElems.Fit P kt R ents clk := by
    refine ⟨by rw [hsz]; exact hn, h.stm, fun x hx => ?_⟩
    obtain ⟨p, hp, e1, e2⟩ := hrd x hx
    refine ⟨dmA p, ?_⟩
    simp only [WideElems.rd, e1, e2, key p hp, hR p hp]
    rfl
  refine ⟨ents, clk, hb, F, Nat.le_of_eq hsz, ?_⟩
  congr 1
  have hp1 : (ents.toList.map (WideElems.rg P kt R)).Perm (cs.map dmA) := by
    have e0 : ents.toList.map (WideElems.rg P kt R) = (kvs ents).map fun q => WideElems.rg P kt R ⟨q.1, q.2, 0⟩ := by unfold kvs; rw [List.map_map]; rfl
    rw [e0]
    refine (h.prm.map _).trans ?_
    rw [List.map_map]
    refine List.Perm.of_eq (List.map_congr_left fun p hp => ?_)
    simp only [Function.comp_apply, kv, WideElems.rg, WideElems.rd, key p hp, hR p hp]
    rfl
  refine (ChangeMaps.eq_of_perm_sorted ((WideShapes.sorted_perm _).trans hp1) (Maps.sorted_sorted K.one _ (Maps.fit_keys F) (Maps.fit_apart K F)) ?_).symm
  rw [List.pairwise_map]
  exact h.srt.imp fun h => by simpa [dmA, Lit.before] using h
/-! ### the native -/
def pieceD : D → Bool
  | .agg [.int .i64 _, .int .i64 _, .int .i64 _, .list 1 _] => true
  | .agg [.int .i64 _, .int .i64 _, .int .i64 _, .nils] => true
  | _ => false
def okMp (es : List (Int × D)) : Bool := decide (es.length ≤ 1000000) && es.all fun p => decide (-9223372036854775808 ≤ p.1 ∧ p.1 ≤ 9223372036854775807) && pieceD p.2
def natMCp (k : FuncId) : Callee := fun f args H =>
  if f = k then
    match args with
    | [.mref i, .d (.mapv fs)] => (match H.getD i .dead with
      | .mp es => if okMp es && okMp fs then some (.tup [], H.set i (.mp (mergeM es fs))) else none
      | _ => none)
    | _ => none
  else none
theorem natMCp_eq (k : FuncId) {i : Nat} {H : Heap} {es fs : List (Int × D)} (hb : H.getD i .dead = .mp es) (h1 : okMp es = true) (h2 : okMp fs = true) : natMCp k k [.mref i, .d (.mapv fs)] H = some (.tup [], H.set i (.mp (mergeM es fs))) := by
  simp only [natMCp, if_true, hb, h1, h2, Bool.and_self]
def pieceV (v : Value) : Prop := ∃ a b c p l q, v = .agg #[.int .i64 a, .int .i64 b, .int .i64 c, .slice p l q]
theorem pieceD_val {w : World} {S : Sta} {d : D} {v : Value} (h : pieceD d = true) (hd : DR w S d v) : pieceV v := by
  have key : ∀ (a b c : Int) (x : D), (∀ u, DR w S x u → ∃ p l q, u = .slice p l q) → DR w S (.agg [.int .i64 a, .int .i64 b, .int .i64 c, x]) v → pieceV v := by
    intro a b c x hx hh
    cases hh with
    | agg _ vs hl ho hh =>
      have e0 := hh 0 (by simp)
      have e1 := hh 1 (by simp)
      have e2 := hh 2 (by simp)
      have e3 := hh 3 (by simp)
      simp only [List.getD_cons_zero, List.getD_cons_succ] at e0 e1 e2 e3
      have hsz : vs.size = 4 := by simpa using hl.symm
      have hv : vs = #[vs.getD 0 undef, vs.getD 1 undef, vs.getD 2 undef, vs.getD 3 undef] := by
        apply Array.ext
        · simp [hsz]
        · intro i h1 h2
          have : i = 0 ∨ i = 1 ∨ i = 2 ∨ i = 3 := by omega
          rcases this with rfl | rfl | rfl | rfl <;> simp [Array.getD, hsz]
      generalize vs.getD 0 undef = u0 at e0 hv
      generalize vs.getD 1 undef = u1 at e1 hv
      generalize vs.getD 2 undef = u2 at e2 hv
      generalize vs.getD 3 undef = u3 at e3 hv
      cases e0; cases e1; cases e2
      obtain ⟨p, l, q, rfl⟩ := hx _ e3
      exact ⟨a, b, c, p, l, q, by rw [hv]⟩
  unfold pieceD at h
  split at h
  · rename_i a b c xs
    exact key a b c _ (fun u hu => by cases hu; exact ⟨_, _, _, rfl⟩) hd
  · rename_i a b c
    exact key a b c _ (fun u hu => by cases hu; exact ⟨_, _, _, rfl⟩) hd
  · simp at h
theorem okMp_vals {w : World} {S : Sta} : ∀ {es : List (Int × D)} {cs : List (Int × Value)}, (es.all fun p => decide (-9223372036854775808 ≤ p.1 ∧ p.1 ≤ 9223372036854775807) && pieceD p.2) = true → MapR w S cs es → ∀ p ∈ cs, pieceV p.2 ∧ -9223372036854775808 ≤ p.1 ∧ p.1 ≤ 9223372036854775807
  | [], [], _, _ => fun p hp => by simp at hp
  | [], _ :: _, _, h => by simpa using h.key
  | _ :: _, [], _, h => by simpa using h.key
  | (b, d) :: es, (a, v) :: cs, ho, h => by
    obtain ⟨q1, q2, q3⟩ := h.cons
    simp only at q1 q2
    subst q1
    simp only [List.all_cons, Bool.and_eq_true, decide_eq_true_eq] at ho
    intro p hp
    rcases List.mem_cons.1 hp with rfl | hp
    · exact ⟨pieceD_val ho.1.2 q2, ho.1.1⟩
    · refine okMp_vals (es := es) ?_ q3 p hp
      simpa using ho.2
/-- What the copy's contract must say. -/
def CopyC (P : Program) (k : FuncId) : Prop := ∀ (w : World) (bd bs : Nat) (entd ents : Array MapEntry) (clkd clks : Nat) (csd css : List (Int × Value)), w.heap[bd]? = some (.map entd clkd) → Ents entd clkd csd → w.heap[bs]? = some (.map ents clks) → Ents ents clks css → bd ≠ bs →
  csd.length ≤ 1000000 → css.length ≤ 1000000 → (∀ p ∈ csd, pieceV p.2 ∧ -9223372036854775808 ≤ p.1 ∧ p.1 ≤ 9223372036854775807) → (∀ p ∈ css, pieceV p.2 ∧ -9223372036854775808 ≤ p.1 ∧ p.1 ≤ 9223372036854775807) →
  Calls P k #[.map (some bd), .map (some bs)] w fun e w' => e = .returned (.tuple #[]) ∧ ∃ ents' clk', Ents ents' clk' (mergeM csd css) ∧ Below w.heap.size (setBlk w bd (.map ents' clk')) w'
theorem natMCp_snd {P : Program} {k : FuncId} (hb : HasBody P k) (hc : CopyC P k) : CallSnd P (natMCp k) := by
  intro f args H r H' h
  unfold natMCp at h
  split at h
  case isFalse => simp at h
  rename_i hf; subst hf
  split at h
  case h_2 => simp at h
  rename_i i fs
  split at h
  case h_2 => simp at h
  rename_i es hbl
  split at h
  case isFalse => simp at h
  rename_i hok
  simp only [Option.some.injEq, Prod.mk.injEq] at h
  obtain ⟨rfl, rfl⟩ := h
  rw [Bool.and_eq_true] at hok
  obtain ⟨ok1, ok2⟩ := hok
  unfold okMp at ok1 ok2
  rw [Bool.and_eq_true] at ok1 ok2
  refine ⟨hb, fun w S ρ cargs hr hlen hv => ?_⟩
  have e0 := hv 0 (by simp)
  have e1 := hv 1 (by simp)
  simp only [List.getD_cons_zero, List.getD_cons_succ] at e0 e1
  rw [arr2 hlen]
  generalize cargs.getD 0 undef = v0 at e0
  generalize cargs.getD 1 undef = v1 at e1
  have hbi := hr.blk i
  rw [hbl] at hbi
  obtain ⟨g, entd, clkd, csd, q1, q2, q3, q4, q5⟩ := hbi
  have hg : v0 = .map (some g) := by cases e0 with | mref _ g' hh => rw [hh] at q1; injection q1 with q1; injection q1 with q1 _; rw [q1]
  subst hg
  cases e1.dr with
  | mapv _ b ents clk cs g1 g2 g3 g4 g5 =>
    have hm2 : MapR w S cs fs := ⟨g4, g5⟩
    have hne : g ≠ b := fun e => q3 (e ▸ g1)
    have l1 : csd.length ≤ 1000000 := by rw [← q5.len]; exact of_decide_eq_true ok1.1
    have l2 : cs.length ≤ 1000000 := by rw [← hm2.len]; exact of_decide_eq_true ok2.1
    refine (hc w g b entd ents clkd clk csd cs q2 q4 g2 g3 hne l1 l2 (okMp_vals ok1.2 q5) (okMp_vals ok2.2 hm2)).mono fun e w' ⟨he, ents', clk', hE, hB⟩ => ?_
    have ev := evo_setmap hr hbl q1 q2 q3 hE (merge_rel q5 hm2)
    have hsz : (setBlk w g (.map ents' clk')).heap.size = w.heap.size := setBlk_size ..
    exact ⟨_, _, ρ, he, ev.trans (evo_below_any ev.rel (by rw [hsz]; exact hB)), .tup [] #[] rfl fun i hi => by simp at hi⟩
end Go.Ev
