/- What a row's reading of an argument says, as data. Own work. -/
import Derived.Test.YtbcpffhialoliaaEvLim
import Derived.ProofKit
import Derived.OpenShut
namespace Go.Ev
open Go
set_option linter.unusedVariables false
set_option linter.unusedSimpArgs false

/-- What stands in a row of cells. -/
inductive Sh where
  | nil
  | b (r : Sh)
  | i (k : IntKind) (r : Sh)
  | s (r : Sh)
  | sl (e : Sh) (by' : Nat) (r : Sh)
  deriving Inhabited

def Sh.len : Sh → Nat
  | .nil => 0
  | .b r | .i _ r | .s r | .sl _ _ r => r.len + 1
def Sh.app : Sh → Sh → Sh
  | .nil, t => t
  | .b r, t => .b (r.app t)
  | .i k r, t => .i k (r.app t)
  | .s r, t => .s (r.app t)
  | .sl e n r, t => .sl e n (r.app t)
def Sh.rep (t : Sh) : Nat → Sh
  | 0 => .nil
  | n + 1 => t.app (t.rep n)
def Sh.ok : Sh → List D → Prop
  | .nil, l => l = []
  | .b r, .bool _ :: l => r.ok l
  | .i k r, .int k' n :: l => k' = k ∧ k.min ≤ n ∧ n ≤ k.max ∧ r.ok l
  | .s r, .str x :: l => x.length ≤ reachBytes ∧ r.ok l
  | .sl e n r, x :: l => (∃ xs, x = .list e.len xs ∧ xs.length * n ≤ reachBytes ∧ ∀ q, q ∈ xs → e.ok q) ∧ r.ok l
  | _, _ => False

theorem Sh.len_app : ∀ (a c : Sh), (a.app c).len = a.len + c.len
  | .nil, c => by simp [Sh.app, Sh.len]
  | .b r, c => by simp only [Sh.app, Sh.len, Sh.len_app r c]; omega
  | .i k r, c => by simp only [Sh.app, Sh.len, Sh.len_app r c]; omega
  | .s r, c => by simp only [Sh.app, Sh.len, Sh.len_app r c]; omega
  | .sl e n r, c => by simp only [Sh.app, Sh.len, Sh.len_app r c]; omega
theorem Sh.ok_len : ∀ (a : Sh) (l : List D), a.ok l → l.length = a.len
  | .nil, l, h => by simp only [Sh.ok] at h; subst h; rfl
  | .b r, l, h => by
    cases l with
    | nil => simp [Sh.ok] at h
    | cons x l => cases x <;> simp only [Sh.ok] at h; simp [Sh.len, Sh.ok_len r l h]
  | .i k r, l, h => by
    cases l with
    | nil => simp [Sh.ok] at h
    | cons x l => cases x <;> simp only [Sh.ok] at h; simp [Sh.len, Sh.ok_len r l h.2.2.2]
  | .s r, l, h => by
    cases l with
    | nil => simp [Sh.ok] at h
    | cons x l => cases x <;> simp only [Sh.ok] at h; simp [Sh.len, Sh.ok_len r l h.2]
  | .sl e n r, l, h => by
    cases l with
    | nil => simp [Sh.ok] at h
    | cons x l => simp only [Sh.ok] at h; simp [Sh.len, Sh.ok_len r l h.2]
theorem Sh.ok_app : ∀ (a c : Sh) (l r : List D), a.ok l → c.ok r → (a.app c).ok (l ++ r)
  | .nil, c, l, r, h, h' => by simp only [Sh.ok] at h; subst h; exact h'
  | .b t, c, l, r, h, h' => by
    cases l with
    | nil => simp [Sh.ok] at h
    | cons x l => cases x <;> simp only [Sh.ok] at h; exact Sh.ok_app t c l r h h'
  | .i k t, c, l, r, h, h' => by
    cases l with
    | nil => simp [Sh.ok] at h
    | cons x l => cases x <;> simp only [Sh.ok] at h; exact ⟨h.1, h.2.1, h.2.2.1, Sh.ok_app t c l r h.2.2.2 h'⟩
  | .s t, c, l, r, h, h' => by
    cases l with
    | nil => simp [Sh.ok] at h
    | cons x l => cases x <;> simp only [Sh.ok] at h; exact ⟨h.1, Sh.ok_app t c l r h.2 h'⟩
  | .sl e n t, c, l, r, h, h' => by
    cases l with
    | nil => simp [Sh.ok] at h
    | cons x l => simp only [Sh.ok] at h; exact ⟨h.1, Sh.ok_app t c l r h.2 h'⟩

/-- The row of a type, where it is one of these. -/
def shOf (P : Program) : Nat → TypeId → Option Sh
  | 0, _ => none
  | n + 1, t => match P.underlying t with
    | some .bool => some (.b .nil)
    | some (.int k) => some (.i k .nil)
    | some .string => some (.s .nil)
    | some (.slice e) => match shOf P n e with
      | some sh => if sh.len = P.cellsOf e ∧ 0 < sh.len then some (.sl sh (P.bytesOf e) .nil) else none
      | none => none
    | some (.struct fs) => match fields (shOf P n) P 0 fs.toList with
      | some sh => if sh.len = P.cellsOf t then some sh else none
      | none => none
    | some (.array m e) => match shOf P n e with
      | some sh => if sh.len = P.cellsOf e ∧ m * sh.len = P.cellsOf t then some (sh.rep m) else none
      | none => none
    | _ => none
where fields (f : TypeId → Option Sh) (P : Program) (o : Nat) : List Field → Option Sh
  | [] => some .nil
  | fd :: fs => match f fd.type, fields f P (o + P.cellsOf fd.type) fs with
    | some a, some r => if fd.offset = o ∧ a.len = P.cellsOf fd.type then some (a.app r) else none
    | _, _ => none

/-- Old memory. -/
def Old (w : World) : Sta := fun g => g < w.heap.size
structure RowD (w : World) (ds : List D) (cs : List Value) : Prop where
  len : ds.length = cs.length
  ones : ∀ j, j < cs.length → one (cs.getD j undef) = true
  dr : ∀ j, j < cs.length → DR w (Old w) (ds.getD j .nilp) (cs.getD j undef)

theorem RowD.single {w : World} {d : D} {c : Value} (h1 : one c = true) (h : DR w (Old w) d c) : RowD w [d] [c] :=
  ⟨rfl, fun j hj => by simp at hj; subst hj; exact h1, fun j hj => by simp at hj; subst hj; exact h⟩
theorem RowD.append {w : World} {ds es : List D} {cs us : List Value} (h : RowD w ds cs) (h' : RowD w es us) : RowD w (ds ++ es) (cs ++ us) := by
  have hl := h.len
  refine ⟨by simp [hl, h'.len], fun j hj => ?_, fun j hj => ?_⟩
  · rw [getD_app]
    by_cases hj' : j < cs.length
    · rw [if_pos hj']; exact h.ones j hj'
    · rw [if_neg hj']; exact h'.ones _ (by simp at hj; omega)
  · rw [getD_app, getD_app, hl]
    by_cases hj' : j < cs.length
    · rw [if_pos hj', if_pos hj']; exact h.dr j hj'
    · rw [if_neg hj', if_neg hj']; exact h'.dr _ (by simp at hj; omega)

section
variable {H : Type} {enc : TypeId × Value → H} {P : Program} {w : World}

theorem weights_all_mem {e : TypeId} : ∀ {l : List (DataW H)}, (DataW.weightsAll P e l).all (· ≤ reachBytes) = true → ∀ (i : Nat) (d : DataW H), l[i]? = some d → (d.weights P e).all (· ≤ reachBytes) = true
  | [], _, i, d, hd => by simp at hd
  | x :: l, h, i, d, hd => by
    simp only [DataW.weightsAll, List.all_append, Bool.and_eq_true] at h
    cases i with
    | zero => simp only [List.getElem?_cons_zero, Option.some.injEq] at hd; subst hd; exact h.1
    | succ i => exact weights_all_mem h.2 i d (by simpa using hd)
theorem weights_each_mem : ∀ {ts : List TypeId} {l : List (DataW H)}, (DataW.weightsEach P ts l).all (· ≤ reachBytes) = true → ∀ (i : Nat) (t : TypeId) (d : DataW H), ts[i]? = some t → l[i]? = some d → (d.weights P t).all (· ≤ reachBytes) = true
  | [], _, _, i, t, d, ht, _ => by simp at ht
  | _ :: _, [], _, i, t, d, _, hd => by simp at hd
  | a :: ts, x :: l, h, i, t, d, ht, hd => by
    simp only [DataW.weightsEach, List.all_append, Bool.and_eq_true] at h
    cases i with
    | zero =>
      simp only [List.getElem?_cons_zero, Option.some.injEq] at hd ht; subst hd; subst ht; exact h.1
    | succ i => exact weights_each_mem h.2 i t d (by simpa using ht) (by simpa using hd)

theorem cells?_spec {base n : Nat} {a : Addr} {cs : List Value} (h : w.cells? base a n = some cs) : cs.length = n ∧ ∀ i, i < n → w.cell? (a.add i) = some (cs.getD i undef) := by
  unfold World.cells? at h
  split at h
  · have h1 := mapM_some_length h
    have h1' : cs.length = n := by simpa using h1
    refine ⟨h1', fun i hi => ?_⟩
    have h2 := mapM_some_get h i i (by simp [hi])
    rw [h2, List.getD_eq_getElem?_getD, List.getElem?_eq_getElem (by omega)]; rfl
  · simp at h
theorem cell?_spot {a : Addr} {v : Value} (h : w.cell? a = some v) : a = ⟨a.block, a.off, none⟩ ∧ a.block < w.heap.size := by
  unfold World.cell? at h
  split at h
  · rename_i c _ _ hb
    split at h
    · simp at h
    · rename_i hs
      refine ⟨?_, ?_⟩
      · cases a with
        | mk b o s => cases s <;> simp_all
      · exact (Array.getElem?_eq_some_iff.1 hb).1
  · simp at h
theorem add_none (b o i : Nat) : (⟨b, o, none⟩ : Addr).add i = ⟨b, o + i, none⟩ := by
  unfold Addr.add; split <;> simp_all

theorem take_drop_getD (cs : List Value) (o n j : Nat) (h : j < n) : ((cs.drop o).take n).getD j undef = cs.getD (o + j) undef := by
  rw [getD_take _ _ _ _ h, getD_drop]

/-- What the reading of a type's cells says. -/
def Reading (P : Program) (enc : TypeId × Value → H) (w : World) (sp : Nat → Bool) (t : TypeId) (sh : Sh) : Prop := ∀ (fuel : Nat) (cs : List Value) (d : DataW H) (ps : List MemPlace), DataW.trod enc P w 0 sp true fuel t cs = some (d, ps) →
  (d.weights P t).all (· ≤ reachBytes) = true → ∃ ds, sh.ok ds ∧ RowD w ds cs

theorem rep_read {t : TypeId} {sh : Sh} {z : Nat} (hz : sh.len = z) {cs : List Value} : ∀ (m o : Nat), o + m * z ≤ cs.length → (∀ i, i < m → ∃ ds, sh.ok ds ∧ RowD w ds ((cs.drop (o + i * z)).take z)) →
    ∃ ds, (sh.rep m).ok ds ∧ RowD w ds ((cs.drop o).take (m * z))
  | 0, o, _, _ => ⟨[], rfl, by simp; exact ⟨rfl, fun j hj => by simp at hj, fun j hj => by simp at hj⟩⟩
  | m + 1, o, hl, h => by
    have hl' : o + z + m * z ≤ cs.length := by rw [Nat.add_mul, Nat.one_mul] at hl; omega
    obtain ⟨d1, a1, a2⟩ := h 0 (by omega)
    rw [Nat.zero_mul, Nat.add_zero] at a2
    obtain ⟨d2, b1, b2⟩ := rep_read hz m (o + z) hl' (fun i hi => by
      have := h (i + 1) (by omega)
      rwa [show o + (i + 1) * z = o + z + i * z from by rw [Nat.add_mul, Nat.one_mul]; omega] at this) (t := t)
    refine ⟨d1 ++ d2, Sh.ok_app _ _ _ _ a1 b1, ?_⟩
    have e : (cs.drop o).take ((m + 1) * z) = (cs.drop o).take z ++ (cs.drop (o + z)).take (m * z) := by
      rw [Nat.add_mul, Nat.one_mul, Nat.add_comm (m * z) z, List.take_add, List.drop_drop]
    rw [e]; exact a2.append b2

theorem fields_read {f : TypeId → Option Sh} {sp : Nat → Bool} {n : Nat} (hf : ∀ t sh, f t = some sh → Reading P enc w sp t sh) {cs : List Value} : ∀ (l : List Field) (xs : List (DataW H × List MemPlace)) (o : Nat) (sh : Sh), shOf.fields f P o l = some sh → xs.length = l.length →
    o + sh.len ≤ cs.length → (∀ (i : Nat) (fd : Field), l[i]? = some fd → DataW.trod enc P w 0 sp true n fd.type ((cs.drop fd.offset).take (P.cellsOf fd.type)) = xs[i]?) →
    (DataW.weightsEach P (l.map (·.type)) (xs.map (·.1))).all (· ≤ reachBytes) = true → ∃ ds, sh.ok ds ∧ RowD w ds ((cs.drop o).take sh.len)
  | [], xs, o, sh, h, hx, hl, ht, hw => by
    simp only [shOf.fields, Option.some.injEq] at h; subst h
    exact ⟨[], rfl, by simp [Sh.len]; exact ⟨rfl, fun j hj => by simp at hj, fun j hj => by simp at hj⟩⟩
  | fd :: l, xs, o, sh, h, hx, hl, ht, hw => by
    simp only [shOf.fields] at h
    split at h
    case h_2 => simp at h
    rename_i a r ha hr
    split at h
    case isFalse => simp at h
    rename_i hc
    injection h with h; subst h
    obtain ⟨h1, h2⟩ := hc
    cases xs with
    | nil => simp at hx
    | cons x xs =>
      simp only [List.map_cons, DataW.weightsEach, List.all_append, Bool.and_eq_true] at hw
      rw [Sh.len_app] at hl ⊢
      have h0 := ht 0 fd rfl
      simp only [List.getElem?_cons_zero] at h0
      obtain ⟨d, p⟩ := x
      obtain ⟨d1, a1, a2⟩ := hf fd.type a ha n _ d p h0 hw.1
      obtain ⟨d2, b1, b2⟩ := fields_read hf (cs := cs) l xs (o + P.cellsOf fd.type) r hr (by simpa using hx) (by omega) (fun i g hg => by have := ht (i + 1) g (by simpa using hg); simpa using this) hw.2
      refine ⟨d1 ++ d2, Sh.ok_app _ _ _ _ a1 b1, ?_⟩
      have e : (cs.drop o).take (a.len + r.len) = (cs.drop fd.offset).take (P.cellsOf fd.type) ++ (cs.drop (o + P.cellsOf fd.type)).take r.len := by
        rw [h1, ← h2, List.take_add, List.drop_drop]
      rw [e]; exact a2.append b2

theorem choose_list {α : Type} {p : Nat → α → Prop} (x0 : α) : ∀ (n : Nat), (∀ i, i < n → ∃ x, p i x) → ∃ l : List α, l.length = n ∧ ∀ i, i < n → p i (l.getD i x0)
  | 0, _ => ⟨[], rfl, fun i hi => by omega⟩
  | n + 1, h => by
    obtain ⟨l, h1, h2⟩ := choose_list x0 n (fun i hi => h i (by omega))
    obtain ⟨x, hx⟩ := h n (by omega)
    refine ⟨l ++ [x], by simp [h1], fun i hi => ?_⟩
    rw [getD_app, h1]
    by_cases e : i < n
    · rw [if_pos e]; exact h2 i e
    · rw [if_neg e]
      have : i = n := by omega
      subst this
      simpa using hx

theorem slice_read {sp : Nat → Bool} {t e : TypeId} {sh : Sh} (hu : P.underlying t = some (.slice e)) (hs : Reading P enc w sp e sh) (hz : sh.len = P.cellsOf e) (hp : 0 < sh.len) : Reading P enc w sp t (.sl sh (P.bytesOf e) .nil) := by
  intro fuel cs d ps h hw
  rcases DataW.trod_slice hu h with ⟨rfl, hx⟩ | ⟨a, len, cap, elems, rest, n, rfl, rfl, hx, hb, hlc, hcm, hel, hget, _, _⟩
  · exact ⟨[.list sh.len []], ⟨⟨[], rfl, by simp, fun q hq => absurd hq (by simp)⟩, rfl⟩, .single rfl (.list sh.len [] none 0 0 0 0 (fun _ => undef) rfl (Nat.le_refl _) (by simp) (by simp) (by simp) (by simp))⟩
  · simp only [Prod.mk.injEq] at hx
    obtain ⟨rfl, rfl⟩ := hx
    simp only [DataW.weights, hu, List.all_cons, List.all_append, Bool.and_eq_true, decide_eq_true_eq] at hw
    obtain ⟨w1, w2, w3⟩ := hw
    have key : ∀ i, i < len → ∃ q : List D, sh.ok q ∧ ∃ us : List Value, us.length = sh.len ∧ (∀ j, j < sh.len → w.cell? ((a.add (i * sh.len)).add j) = some (us.getD j undef)) ∧ RowD w q us := by
      intro i hi
      have h1 := hget i hi
      have hie : i < elems.length := by omega
      rw [List.getElem?_eq_getElem hie, Option.bind_eq_some_iff] at h1
      obtain ⟨us, h2, h3⟩ := h1
      obtain ⟨c1, c2⟩ := cells?_spec h2
      obtain ⟨q, q1, q2⟩ := hs n us (elems[i]).1 (elems[i]).2 h3 (weights_all_mem w2 i _ (by simp [hie]))
      rw [← hz] at c1 c2
      exact ⟨q, q1, us, c1, c2, q2⟩
    obtain ⟨xs, x1, x2⟩ := choose_list (p := fun i (q : List D) => sh.ok q ∧ ∃ us : List Value, us.length = sh.len ∧ (∀ j, j < sh.len → w.cell? ((a.add (i * sh.len)).add j) = some (us.getD j undef)) ∧ RowD w q us) [] len key
    have hplain : 0 < len → a = ⟨a.block, a.off, none⟩ ∧ a.block < w.heap.size := by
      intro hl
      obtain ⟨_, us, _, c2, _⟩ := x2 0 hl
      have := c2 0 hp
      rw [Nat.zero_mul, show (a.add 0).add 0 = a from by simp [Addr.add]] at this
      exact cell?_spot this
    have hok : ∀ q, q ∈ xs → sh.ok q := by
      intro q hq
      obtain ⟨i, hi, rfl⟩ := List.getElem_of_mem hq
      have := (x2 i (by omega)).1
      rwa [List.getD_eq_getElem?_getD, List.getElem?_eq_getElem hi] at this
    refine ⟨[.list sh.len xs], ⟨⟨xs, rfl, ?_, hok⟩, rfl⟩, .single rfl ?_⟩
    · rw [x1]
      refine Nat.le_trans (Nat.mul_le_mul_right _ ?_) w1
      simp; omega
    · have hcell : ∀ i, i < len → ∀ j, j < sh.len → ∃ u, w.cell? ⟨a.block, a.off + (i * sh.len + j), none⟩ = some u ∧ one u = true ∧ DR w (Old w) ((xs.getD i []).getD j .nilp) u := by
        intro i hi j hj
        obtain ⟨_, us, c1, c2, r⟩ := x2 i hi
        have h2 := c2 j hj
        rw [(hplain (by omega)).1, add_none, add_none] at h2
        refine ⟨us.getD j undef, ?_, r.ones j (by omega), r.dr j (by omega)⟩
        rw [show a.off + (i * sh.len + j) = a.off + i * sh.len + j from by omega]; exact h2
      let c : Nat → Value := fun k => (w.cell? ⟨a.block, a.off + k, none⟩).getD undef
      refine .list sh.len xs (some a) len cap a.block a.off c x1.symm (by omega) (fun hl => ?_) (fun k hk => ?_) (fun i hi => ?_) (fun i hi j hj => ?_)
      · obtain ⟨p1, p2⟩ := hplain (by omega)
        exact ⟨by rw [← p1], p2⟩
      · have hdm := Nat.div_add_mod k sh.len
        have hm := Nat.mod_lt k hp
        have hd : k / sh.len < len := by rw [Nat.div_lt_iff_lt_mul hp]; rw [x1] at hk; exact hk
        obtain ⟨u, u1, u2, _⟩ := hcell (k / sh.len) hd (k % sh.len) hm
        rw [show k / sh.len * sh.len + k % sh.len = k from by rw [Nat.mul_comm]; exact hdm] at u1
        have : c k = u := by show (w.cell? ⟨a.block, a.off + k, none⟩).getD undef = u; rw [u1]; rfl
        rw [this]; exact ⟨u1, u2⟩
      · have := Sh.ok_len _ _ (x2 i (by omega)).1
        exact this
      · obtain ⟨u, u1, u2, u3⟩ := hcell i (by omega) j hj
        have : c (i * sh.len + j) = u := by show (w.cell? ⟨a.block, a.off + (i * sh.len + j), none⟩).getD undef = u; rw [u1]; rfl
        rw [this]; exact u3

theorem read : ∀ (n : Nat) (sp : Nat → Bool) (t : TypeId) (sh : Sh), shOf P n t = some sh → Reading P enc w sp t sh
  | 0, sp, t, sh, h => by simp [shOf] at h
  | n + 1, sp, t, sh, h => by
    have ih := read n sp
    unfold shOf at h
    split at h
    · rename_i hu
      injection h with h; subst h
      intro fuel cs d ps hd hw
      obtain ⟨b, rfl, hx⟩ := DataW.trod_bool hu hd
      exact ⟨[.bool b], rfl, .single rfl (.bool b)⟩
    · rename_i k hu
      injection h with h; subst h
      intro fuel cs d ps hd hw
      obtain ⟨m, rfl, hx, hwf⟩ := DataW.trod_int hu hd
      simp only [Lit.wf, Bool.and_eq_true, decide_eq_true_eq] at hwf
      exact ⟨[.int k m], ⟨rfl, hwf.1, hwf.2, rfl⟩, .single rfl (.int k m)⟩
    · rename_i hu
      injection h with h; subst h
      intro fuel cs d ps hd hw
      obtain ⟨x, rfl, hx, hl⟩ := DataW.trod_string hu hd
      simp only [Prod.mk.injEq] at hx
      obtain ⟨rfl, rfl⟩ := hx
      simp only [DataW.weights, List.all_cons, List.all_nil, Bool.and_true, decide_eq_true_eq] at hw
      refine ⟨[.str x.data.toList], ⟨by simpa using hw, rfl⟩, .single rfl ?_⟩
      have : Value.string x = .string ⟨x.data.toList.toArray⟩ := by simp
      rw [this]; exact .str _
    · rename_i e hu
      split at h
      case h_2 => simp at h
      rename_i se hse
      split at h
      case isFalse => simp at h
      rename_i hc
      injection h with h; subst h
      exact slice_read hu (ih e se hse) hc.1 hc.2
    · rename_i fs hu
      split at h
      case h_2 => simp at h
      rename_i sf hsf
      split at h
      case isFalse => simp at h
      rename_i hc
      injection h with h; subst h
      intro fuel cs d ps hd hw
      obtain ⟨xs, m, rfl, hx, hl, hxl, hget⟩ := DataW.trod_struct hu hd
      simp only [Prod.mk.injEq] at hx
      obtain ⟨rfl, rfl⟩ := hx
      simp only [DataW.weights, hu] at hw
      obtain ⟨ds, d1, d2⟩ := fields_read (n := m) ih fs.toList xs 0 sf hsf (by simpa using hxl) (by omega) (fun i fd hfd => hget i fd (by simpa using hfd)) hw
      refine ⟨ds, d1, ?_⟩
      rwa [List.drop_zero, hc, ← hl, List.take_length] at d2
    · rename_i m e hu
      split at h
      case h_2 => simp at h
      rename_i se hse
      split at h
      case isFalse => simp at h
      rename_i hc
      injection h with h; subst h
      intro fuel cs d ps hd hw
      obtain ⟨xs, q, rfl, hx, hl, hxl, hget⟩ := DataW.trod_array hu hd
      simp only [Prod.mk.injEq] at hx
      obtain ⟨rfl, rfl⟩ := hx
      simp only [DataW.weights, hu] at hw
      obtain ⟨ds, d1, d2⟩ := rep_read (w := w) (t := e) hc.1 (cs := cs) m 0 (by rw [← hc.1, hc.2]; omega) (fun i hi => by
        have h1 := hget i hi
        have hi' : i < xs.length := by omega
        rw [List.getElem?_eq_getElem hi'] at h1
        rw [Nat.zero_add]
        exact ih e se hse q _ (xs[i]).1 (xs[i]).2 h1 (weights_all_mem hw i _ (by simp [hi'])))
      refine ⟨ds, d1, ?_⟩
      rwa [List.drop_zero, ← hc.1, hc.2, ← hl, List.take_length] at d2
    · simp at h
end
end Go.Ev
