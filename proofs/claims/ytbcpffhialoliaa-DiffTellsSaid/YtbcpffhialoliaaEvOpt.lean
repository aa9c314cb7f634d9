/- Plain operations, second part: numbers, texts, addresses, slices. Own work. -/
import Derived.Test.YtbcpffhialoliaaEvOps
namespace Go.Ev
open Go
set_option linter.unusedVariables false
set_option linter.unusedSimpArgs false
section
variable {w : World} {S : Sta} {ρ : Pos} {H : Heap} {P : Program}

theorem binInt_sound {op : BinOp} {k : IntKind} {a b : Int} {r : D} (h : binInt op k a b = some r) (t : TypeId) : ∃ v, (binOp op t (.int k a) (.int k b)).run P w = .ok v w ∧ DR w S r v := by
  cases op <;> simp only [binInt] at h
  case quo =>
    split at h
    · simp at h
    · rename_i hb; injection h with h; subst h
      exact ⟨.int k (wr k (a.tdiv b)), by simp [binOp, Op.intDiv, hb, wr], .int ..⟩
  case rem =>
    split at h
    · simp at h
    · rename_i hb; injection h with h; subst h
      exact ⟨.int k (a.tmod b), by simp [binOp, Op.intDiv, hb], .int ..⟩
  case add => injection h with h; subst h; exact ⟨.int k (wr k (a + b)), by simp [binOp, Op.intArith, wr], .int ..⟩
  case sub => injection h with h; subst h; exact ⟨.int k (wr k (a - b)), by simp [binOp, Op.intArith, wr], .int ..⟩
  case mul => injection h with h; subst h; exact ⟨.int k (wr k (a * b)), by simp [binOp, Op.intArith, wr], .int ..⟩
  case and => injection h with h; subst h; exact ⟨.int k (bits (fun _ x y => x &&& y) k a b), by simp [binOp, Op.intBits, bits, wr], .int ..⟩
  case or => injection h with h; subst h; exact ⟨.int k (bits (fun _ x y => x ||| y) k a b), by simp [binOp, Op.intBits, bits, wr], .int ..⟩
  case xor => injection h with h; subst h; exact ⟨.int k (bits (fun _ x y => x ^^^ y) k a b), by simp [binOp, Op.intBits, bits, wr], .int ..⟩
  case andNot => injection h with h; subst h; exact ⟨.int k (bits (fun _ x y => x &&& ~~~y) k a b), by simp [binOp, Op.intBits, bits, wr], .int ..⟩
  case eql => injection h with h; subst h; exact ⟨.bool (a == b), by simp [binOp, Op.intCmp], .bool _⟩
  case neq => injection h with h; subst h; exact ⟨.bool (a != b), by simp [binOp, Op.intCmp], .bool _⟩
  case lss => injection h with h; subst h; exact ⟨.bool (decide (a < b)), by simp [binOp, Op.intCmp], .bool _⟩
  case leq => injection h with h; subst h; exact ⟨.bool (decide (a ≤ b)), by simp [binOp, Op.intCmp], .bool _⟩
  case gtr => injection h with h; subst h; exact ⟨.bool (decide (a > b)), by simp [binOp, Op.intCmp], .bool _⟩
  case geq => injection h with h; subst h; exact ⟨.bool (decide (a ≥ b)), by simp [binOp, Op.intCmp], .bool _⟩
  all_goals simp at h

theorem binSh_sound {op : BinOp} {k k' : IntKind} {a b : Int} {r : D} (h : binSh op k a b = some r) (t : TypeId) : ∃ v, (binOp op t (.int k a) (.int k' b)).run P w = .ok v w ∧ DR w S r v := by
  unfold binSh at h
  split at h
  · split at h
    · simp at h
    · rename_i hb; injection h with h; subst h
      exact ⟨.int k (wr k (a * 2 ^ (min b.toNat k.bits))), by simp [binOp, Op.shift, hb, wr], .int ..⟩
  · split at h
    · simp at h
    · rename_i hb; injection h with h; subst h
      exact ⟨.int k (a.fdiv (2 ^ (min b.toNat k.bits))), by simp [binOp, Op.shift, hb], .int ..⟩
  · simp at h

theorem bytesLt_eq : ∀ (a b : List UInt8), bytesLt a b = Op.bytesLess a b
  | [], [] => rfl
  | _ :: _, [] => rfl
  | [], _ :: _ => rfl
  | a :: x, b :: y => by simp only [bytesLt, Op.bytesLess, bytesLt_eq x y]

theorem binStr_sound {op : BinOp} {a b : List UInt8} {r : D} (h : binStr op a b = some r) (t : TypeId) : ∃ v, (binOp op t (.string ⟨a.toArray⟩) (.string ⟨b.toArray⟩)).run P w = .ok v w ∧ DR w S r v := by
  cases op <;> simp only [binStr] at h
  case add =>
    split at h
    · simp at h
    · rename_i hb; injection h with h; subst h
      refine ⟨.string ⟨(a ++ b).toArray⟩, ?_, .str _⟩
      have hs : ¬ (((ByteArray.mk a.toArray).size + (ByteArray.mk b.toArray).size : Nat) : Int) > IntKind.i64.max := by
        have h1 : (ByteArray.mk a.toArray).size = a.length := by simp [ByteArray.size]
        have h2 : (ByteArray.mk b.toArray).size = b.length := by simp [ByteArray.size]
        have h3 : IntKind.i64.max = 9223372036854775807 := by decide
        rw [h1, h2, h3]; exact hb
      simp only [binOp, Op.stringOp, if_neg hs, Sem.run_pure]
      congr 2
  case eql => injection h with h; subst h; exact ⟨.bool (a == b), by simp [binOp, Op.stringOp], .bool _⟩
  case neq => injection h with h; subst h; exact ⟨.bool (!(a == b)), by simp [binOp, Op.stringOp], .bool _⟩
  case lss => injection h with h; subst h; exact ⟨.bool (bytesLt a b), by simp [binOp, Op.stringOp, bytesLt_eq], .bool _⟩
  case leq => injection h with h; subst h; exact ⟨.bool (bytesLt a b || a == b), by simp [binOp, Op.stringOp, bytesLt_eq], .bool _⟩
  case gtr => injection h with h; subst h; exact ⟨.bool (!(bytesLt a b || a == b)), by simp [binOp, Op.stringOp, bytesLt_eq], .bool _⟩
  case geq => injection h with h; subst h; exact ⟨.bool (!(bytesLt a b)), by simp [binOp, Op.stringOp, bytesLt_eq], .bool _⟩
  all_goals simp at h

theorem eqGuard_flat {op : BinOp} {t : TypeId} {x y : Operand} {a b : Value} (h : (∀ cs, a ≠ .agg cs) ∧ a ≠ .nilIface) : (eqGuard op t x y a b).run P w = .ok () w := by
  unfold eqGuard
  cases op <;> cases a <;> first | rfl | simp at h

/-- Arithmetic, comparisons: on plain values. -/
theorem gives_bin (hr : Rel w S ρ H) {op : BinOp} {a b r : D} {va vb : Value} (ha : DR w S a va) (hb : DR w S b vb) (h : binD op a b = some r) (t : TypeId) (x y : Operand) :
    Gives P w S ρ H (.d r) H (do eqGuard op t x y va vb; binOp op t va vb) := by
  have key : (∃ v, (binOp op t va vb).run P w = .ok v w ∧ DR w S r v) ∧ (∀ cs, va ≠ .agg cs) ∧ va ≠ .nilIface := by
    unfold binD at h
    split at h
    · cases ha; cases hb
      refine ⟨?_, by simp, by simp⟩
      split at h
      · exact binSh_sound h t
      · exact binSh_sound h t
      · split at h
        · rename_i e; subst e; exact binInt_sound h t
        · simp at h
    · cases ha; cases hb
      exact ⟨binStr_sound h t, by simp, by simp⟩
    · simp at h
  obtain ⟨⟨v, h1, h2⟩, h3⟩ := key
  refine gives_dat hr ?_ h2
  simp only [Sem.run_bind, eqGuard_flat h3, Result.andThen_ok, h1]
theorem gives_beq (hr : Rel w S ρ H) {a b : Bool} {t : TypeId} (hu : P.underlying t = some .bool) (x y : Operand) :
    Gives P w S ρ H (.d (.bool (a == b))) H (do eqGuard .eql t x y (.bool a) (.bool b); binOp .eql t (.bool a) (.bool b)) ∧
    Gives P w S ρ H (.d (.bool (!(a == b)))) H (do eqGuard .neq t x y (.bool a) (.bool b); binOp .neq t (.bool a) (.bool b)) := by
  refine ⟨gives_dat hr ?_ (.bool _), gives_dat hr ?_ (.bool _)⟩
  · simp only [Sem.run_bind, eqGuard_flat (a := Value.bool a) (by simp), Result.andThen_ok, run_eql_bool w t a b hu]
  · simp only [Sem.run_bind, eqGuard_flat (a := Value.bool a) (by simp), Result.andThen_ok, run_neq_bool w t a b hu]

theorem gives_un (hr : Rel w S ρ H) {op : UnOp} {a r : D} {va : Value} (ha : DR w S a va) (h : unD op a = some r) : Gives P w S ρ H (.d r) H (Op.unary op va) := by
  cases a <;> simp only [unD] at h <;> try (simp at h; done)
  case int k n =>
    cases ha
    cases op <;> simp only at h <;> try (simp at h; done)
    case neg => injection h with h; subst h; exact gives_dat hr (cv := .int k (wr k (0 - n))) (by simp [Op.unary, Op.intArith, wr]) (.int ..)
    case xor => injection h with h; subst h; exact gives_dat hr (cv := .int k (bits (fun _ x y => x ^^^ y) k (if k.signed then -1 else k.max) n)) (by simp only [Op.unary, Op.intBits, bits, wr, Sem.run_pure]) (.int ..)
  case bool b =>
    cases ha
    cases op <;> simp only at h <;> try (simp at h; done)
    case not => injection h with h; subst h; exact gives_dat hr (cv := .bool !b) (by simp [Op.unary]) (.bool _)

theorem gives_cvi (hr : Rel w S ρ H) {x : AV} {v : Value} {k k' ks : IntKind} {n : Int} {s t : TypeId} (hs : P.underlying s = some (.int ks)) (ht : P.underlying t = some (.int k)) (hv : VR w S ρ x v) (h : x.asInt = some (k', n)) :
    Gives P w S ρ H (.d (.int k (wr k n))) H (convert s t v) := by
  rw [asInt_inv hv h]
  refine gives_dat hr ?_ (.int ..)
  simp [convert, run_underlying hs, run_underlying ht, Conv.intToInt, wr]
theorem gives_cvs (hr : Rel w S ρ H) {x : AV} {v : Value} {b : List UInt8} {s t : TypeId} (hs : P.underlying s = some .string) (ht : P.underlying t = some .string) (hv : VR w S ρ x v) (h : x.asStr = some b) :
    Gives P w S ρ H x H (convert s t v) := by
  have e := asStr_inv hv h
  subst e
  exact gives_same hr (by simp [convert, run_underlying hs, run_underlying ht]) hv

theorem max_run (ts : Array TypeId) (t : TypeId) {a b r : D} {va vb : Value} (ha : DR w S a va) (hb : DR w S b vb) (h : maxD a b = some r) : ∃ v, (Builtin.max_ ts t #[va, vb]).run P w = .ok v w ∧ DR w S r v := by
  unfold maxD at h
  split at h
  · split at h
    · rename_i e; subst e; injection h with h; subst h
      cases ha; cases hb
      exact ⟨_, run_max_int2 w ts t _ _ _ _, .int ..⟩
    · simp at h
  · simp at h
theorem min_run (ts : Array TypeId) (t : TypeId) {a b r : D} {va vb : Value} (ha : DR w S a va) (hb : DR w S b vb) (h : minD a b = some r) : ∃ v, (Builtin.min_ ts t #[va, vb]).run P w = .ok v w ∧ DR w S r v := by
  unfold minD at h
  split at h
  · split at h
    · rename_i e; subst e; injection h with h; subst h
      cases ha; cases hb
      exact ⟨_, run_min_int2 w ts t _ _ _ _, .int ..⟩
    · simp at h
  · simp at h

/-! ### addresses -/
theorem gives_fa (hr : Rel w S ρ H) {s : TypeId} {fs : Array Field} {f : Nat} {fd : Field} {i : TypeInfo} (hu : P.underlying s = some (.struct fs)) (hf : fs[f]? = some fd) (hi : P.info? fd.type = some i) (hz : i.size ≠ 0)
    {x r : AV} {v : Value} (hv : VR w S ρ x v) (h : faA x fd.offset = some r) :
    Gives P w S ρ H r H (Instr.fieldAt s v f) := by
  have run : ∀ g o, (Instr.fieldAt s (.pointer (some ⟨g, o, none⟩)) f).run P w = .ok (.pointer (some ⟨g, o + fd.offset, none⟩)) w := by
    intro g o
    simp [Instr.fieldAt, run_underlying hu, hf, Instr.sureAddr, fieldPlace, run_sizeOf hi, hz, addr_add]
  unfold faA at h
  cases hv <;> simp only [Option.some.injEq] at h <;> try (simp at h; done)
  case ptr i o g β hp => subst h; exact gives_same hr (run _ _) (by rw [Nat.add_assoc]; exact .ptr _ _ _ _ hp)
  case ept i z k c g β hp => subst h; exact gives_same hr (run _ _) (by rw [Nat.add_assoc, Nat.add_assoc]; exact .ept _ _ _ _ _ _ hp)
  case cpt cs c b o f hb hc hd => subst h; exact gives_same hr (run _ _) (by rw [Nat.add_assoc]; exact .cpt _ _ _ _ _ hb hc hd)

theorem gives_ia (hr : Rel w S ρ H) {t e : TypeId} {n : Nat} {ti : TypeInfo} (hu : P.underlying t = some (.array n e)) (hi : P.info? e = some ti) {x ix : AV} {v vi : Value} {j p : Nat} {kk : IntKind} {k : Int}
    (hv : VR w S ρ x v) (hx : VR w S ρ ix vi) (e1 : x = .ptr j p) (e2 : ix.asInt = some (kk, k)) (h0 : 0 ≤ k) (h1 : k < n) : Gives P w S ρ H (.ptr j (p + k.toNat * ti.size)) H (Instr.indexAt t v vi) := by
  subst e1
  rw [asInt_inv hx e2]
  cases hv with
  | ptr _ _ g β hp =>
    refine gives_same hr ?_ (.ptr _ _ _ _ hp)
    simp [Instr.indexAt, asIntOf, run_underlying hu, Instr.sureAddr, h0, h1, run_sizeOf hi, addr_add, Nat.add_assoc]

theorem gives_is (hr : Rel w S ρ H) {t e : TypeId} {ti : TypeInfo} (hu : P.underlying t = some (.slice e)) (hi : P.info? e = some ti) {x ix r : AV} {v vi : Value} {kk : IntKind} {k : Int}
    (hv : VR w S ρ x v) (hx : VR w S ρ ix vi) (e2 : ix.asInt = some (kk, k)) (h : isA x k ti.size = some r) : Gives P w S ρ H r H (Instr.indexAt t v vi) := by
  rw [asInt_inv hx e2]
  unfold isA at h
  split at h
  case isFalse => simp at h
  rename_i h0
  have run : ∀ (a : Addr) (n cap : Nat), k < n → (Instr.indexAt t (.slice (some a) n cap) (.int kk k)).run P w = .ok (.pointer (some (a.add (k.toNat * ti.size)))) w := by
    intro a n cap h1
    simp [Instr.indexAt, asIntOf, run_underlying hu, h0, h1, run_sizeOf hi]
  split at h
  · rename_i z' xs
    split at h
    case isFalse => simp at h
    rename_i hk
    obtain ⟨rfl, hk⟩ := hk
    injection h with h; subst h
    cases hv.dr with
    | list _ _ a n cap b o c hn h1 h2 h3 h4 h5 =>
      subst hn
      obtain ⟨rfl, hb⟩ := h2 (by omega)
      refine gives_same hr (run _ _ _ (by omega)) ?_
      rw [addr_add]
      have hw := h4 _ hk
      have hm : ∀ j, j < ti.size → k.toNat * ti.size + j < xs.length * ti.size := fun j hj => by
        have := mul_lt (c := j) (m := 1) (z := ti.size) hk (by omega); omega
      exact .cpt _ 0 b (o + k.toNat * ti.size) (fun j => c (k.toNat * ti.size + j)) hb (fun j hj => by
        rw [Nat.add_assoc]; exact h3 _ (hm j (by omega))) (fun j hj => h5 _ hk j (by omega))
  · rename_i j z' o n kc
    split at h
    case isFalse => simp at h
    rename_i hk
    obtain ⟨rfl, hk⟩ := hk
    injection h with h; subst h
    cases hv with
    | own _ _ _ _ _ a cap h1 h2 h3 =>
      obtain ⟨g, β, e1, rfl, e3⟩ := h3 (by omega)
      refine gives_same hr (run _ _ _ (by omega)) ?_
      rw [addr_add, show β + o * ti.size + k.toNat * ti.size = β + ((o + k.toNat) * ti.size + 0) from by rw [Nat.add_mul]; omega]
      exact .ept _ _ _ _ _ _ e1
  · simp at h

/-! ### parts of values -/
theorem run_part_agg {t : TypeId} {d : TypeDesc} {i : TypeInfo} (hu : P.underlying t = some d) (hd : isAggD d = true) (hi : P.info? t = some i) (cs : Array Value) (o : Nat) :
    (part t cs o).run P w = .ok (.agg (cs.extract o (o + i.size))) w := by
  simp [part, run_isAgg hu, hd, run_sizeOf hi]
theorem run_part_one {t : TypeId} {d : TypeDesc} (hu : P.underlying t = some d) (hd : isAggD d = false) (cs : Array Value) (o : Nat) (ho : o < cs.size) :
    (part t cs o).run P w = .ok (cs.getD o undef) w := by
  simp [part, run_isAgg hu, hd, ho, Array.getD]
theorem vr_extract {cs : List AV} {vs : Array Value} (hl : cs.length = vs.size) (h1 : ∀ i, i < cs.length → one (vs.getD i undef) = true) (h2 : ∀ i, i < cs.length → VR w S ρ (cs.getD i .unk) (vs.getD i undef))
    {o n : Nat} (hn : o + n ≤ cs.length) : VR w S ρ (.agg ((cs.drop o).take n)) (.agg (vs.extract o (o + n))) := by
  have hg : ∀ j, j < n → (vs.extract o (o + n)).getD j undef = vs.getD (o + j) undef := by
    intro j hj
    have h3 : o + j < vs.size := by omega
    have h4 : j < min (o + n) vs.size - o := by omega
    rw [← toList_getD, ← toList_getD]
    simp only [List.getD_eq_getElem?_getD, Array.getElem?_toList]
    rw [Array.getElem?_extract]
    simp [h4, h3]
  refine .agg _ _ (by simp; omega) (fun j hj => ?_) (fun j hj => ?_)
  · have hj' : j < n := by simp at hj; omega
    rw [hg j hj']; exact h1 _ (by omega)
  · have hj' : j < n := by simp at hj; omega
    rw [hg j hj', getD_take _ _ _ _ hj', getD_drop]; exact h2 _ (by omega)

theorem agg_inv {cs : List AV} {v : Value} (hv : VR w S ρ (.agg cs) v) : ∃ vs : Array Value, v = .agg vs ∧ cs.length = vs.size ∧ (∀ i, i < cs.length → one (vs.getD i undef) = true) ∧ ∀ i, i < cs.length → VR w S ρ (cs.getD i .unk) (vs.getD i undef) := by
  cases hv; exact ⟨_, rfl, by assumption, by assumption, by assumption⟩

theorem gives_fld (hr : Rel w S ρ H) {s : TypeId} {fs : Array Field} {f : Nat} {fd : Field} {d : TypeDesc} (hu : P.underlying s = some (.struct fs)) (hf : fs[f]? = some fd) (hd : P.underlying fd.type = some d)
    {cs : List AV} {v : Value} (hv : VR w S ρ (.agg cs) v) :
    (∀ i, isAggD d = true → P.info? fd.type = some i → fd.offset + i.size ≤ cs.length → Gives P w S ρ H (.agg ((cs.drop fd.offset).take i.size)) H (Instr.field s v f)) ∧
    (isAggD d = false → fd.offset + 1 ≤ cs.length → Gives P w S ρ H (cs.getD fd.offset .unk) H (Instr.field s v f)) := by
  obtain ⟨vs, rfl, h1, h2, h3⟩ := agg_inv hv
  refine ⟨fun i hg hi hn => ?_, fun hg hn => ?_⟩
  · refine gives_same hr ?_ (vr_extract h1 h2 h3 hn)
    simp only [Instr.field, Sem.run_bind, run_underlying hu, Result.andThen_ok, hf, asAgg, Sem.run_pure]
    exact run_part_agg hd hg hi _ _
  · refine gives_same hr ?_ (h3 _ (by omega))
    simp only [Instr.field, Sem.run_bind, run_underlying hu, Result.andThen_ok, hf, asAgg, Sem.run_pure]
    exact run_part_one hd hg _ _ (by omega)

theorem gives_idx (hr : Rel w S ρ H) {t e : TypeId} {n : Nat} {ti : TypeInfo} {d : TypeDesc} (hu : P.underlying t = some (.array n e)) (hd : P.underlying e = some d) (hi : P.info? e = some ti) {cs : List AV} {ix : AV} {v vi : Value} {kk : IntKind} {k : Int}
    (hv : VR w S ρ (.agg cs) v) (hx : VR w S ρ ix vi) (e2 : ix.asInt = some (kk, k)) (h0 : 0 ≤ k) (h1 : k < n) (hl : cs.length = n * ti.size) :
    (isAggD d = true → Gives P w S ρ H (.agg ((cs.drop (k.toNat * ti.size)).take ti.size)) H (Instr.index t v vi)) ∧
    (isAggD d = false → ti.size = 1 → Gives P w S ρ H (cs.getD k.toNat .unk) H (Instr.index t v vi)) := by
  obtain ⟨vs, rfl, a1, a2, a3⟩ := agg_inv hv
  rw [asInt_inv hx e2]
  have hk : k.toNat < n := by omega
  refine ⟨fun hg => ?_, fun hg h1' => ?_⟩
  · have := mul_lt (c := 0) (m := ti.size) (z := ti.size) hk (by omega)
    refine gives_same hr ?_ (vr_extract a1 a2 a3 (by omega))
    simp only [Instr.index, Sem.run_bind, run_underlying hu, Result.andThen_ok, asIntOf, Sem.run_pure, h0, h1, and_self, if_true, run_sizeOf hi]
    exact run_part_agg hd hg hi _ _
  · refine gives_same hr ?_ (a3 _ (by rw [hl, h1']; omega))
    simp only [Instr.index, Sem.run_bind, run_underlying hu, Result.andThen_ok, asIntOf, Sem.run_pure, h0, h1, and_self, if_true, run_sizeOf hi, h1', Nat.mul_one]
    exact run_part_one hd hg _ _ (by rw [← a1, hl, h1']; omega)

theorem gives_sti (hr : Rel w S ρ H) {t : TypeId} (hu : P.underlying t = some .string) {x ix : AV} {v vi : Value} {s : List UInt8} {kk : IntKind} {k : Int}
    (hv : VR w S ρ x v) (hx : VR w S ρ ix vi) (e1 : x.asStr = some s) (e2 : ix.asInt = some (kk, k)) (h0 : 0 ≤ k) (h1 : k.toNat < s.length) :
    Gives P w S ρ H (.d (.int .u8 (s.getD k.toNat 0).toNat)) H (Instr.index t v vi) := by
  rw [asInt_inv hx e2, asStr_inv hv e1]
  refine gives_dat hr ?_ (.int ..)
  have : (ByteArray.mk s.toArray)[k.toNat]? = some (s.getD k.toNat 0) := by
    rw [getElem?_pos (ByteArray.mk s.toArray) k.toNat (by simpa [ByteArray.size] using h1)]
    simp [List.getD_eq_getElem?_getD, List.getElem?_eq_getElem h1, ByteArray.getElem_eq_getElem_data]
  simp only [Instr.index, asIntOf, Sem.run_bind, Sem.run_pure, Result.andThen_ok, run_underlying hu, h0, if_true, this]

theorem gives_ext (hr : Rel w S ρ H) {vs : List AV} {v : Value} {i : Nat} (hv : VR w S ρ (.tup vs) v) (hi : i < vs.length) : Gives P w S ρ H (vs.getD i .unk) H (Instr.extract v i) := by
  cases hv with
  | tup _ us hl hh =>
    refine gives_same hr ?_ (hh i hi)
    have : i < us.size := by omega
    simp [Instr.extract, this, Array.getD]

theorem lenA_inv {x : AV} {v : Value} {n : Nat} (hv : VR w S ρ x v) (h : lenA x = some n) : ∃ a cap, v = .slice a n cap := by
  unfold lenA at h
  split at h
  · injection h with h; subst h; cases hv.dr; rename_i hn _ _ _ _ _ ; subst hn; exact ⟨_, _, rfl⟩
  · injection h with h; subst h; cases hv.dr; exact ⟨_, _, rfl⟩
  · injection h with h; subst h; cases hv.dr; exact ⟨_, _, rfl⟩
  · injection h with h; subst h; cases hv; exact ⟨_, _, rfl⟩
  · simp at h

end
end Go.Ev
